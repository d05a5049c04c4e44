/- 'laws.FnShortestList' returns true for every list of bytes, without any condition: the shortest witnesses are listed in ascending order without repetition, and their ranks are their positions. -/
import Derived.Test.YteaplabkemoenaaGreatOnlzGFGPLLBC
import Derived.Test.YteaplabkemoenaaGreatOnlzOOJCFDDE
import Derived.Test.YteaplabkemoenaaGreatOnlzCLALGGOF
import Derived.Test.YteaplabkemoenaaGreatOnlzKECEGDDB
import Derived.Test.YteaplabkemoenaaGreatOnlzPICOOABE
import Derived.Deep.DeepCutAuto
set_option linter.unusedVariables false
set_option linter.unusedSimpArgs false
namespace Go.Proofs.YteaplabkemoenaaGreat.fnShortestList
open Go.ChangeShapes Go.WideShapes Go.ChangeAt Go.RowKit
attribute [local go_sem] ext_cell ext_frozen ext_lt ext_lt1 ext_lt2 ext_lt3 ltn2 ltn3 ltn13 lts1 lts2 lts3
theorem wsv_keep {w w':World} {v:Value} {ks:List Wk} (h:WSV 0 w.heap.size w v ks) (hb:Below w.heap.size w w'):WSV 0 w'.heap.size w' v ks:=by
 obtain ⟨zs,h1,h2,h3⟩:=h
 exact ⟨zs,SlE.keep h1 hb,h2,fun i z k hz hk=>⟨(h3 i z k hz hk).1,SlE.keep (h3 i z k hz hk).2 hb⟩⟩
theorem wsv_len {w:World} {v:Value} {ks:List Wk} (h:WSV 0 w.heap.size w v ks):∃ A c,v=.slice A ks.length c/\ks.length<=maxLen:=by
 obtain ⟨zs,⟨A,c,hv,hl,hm,-⟩,h2,-⟩:=h
 exact ⟨A,c,by rw [hv,h2],by omega⟩
theorem wsv_at {w:World} {A:Option Addr} {n c:Nat} {ks:List Wk} (h:WSV 0 w.heap.size w (.slice A n c) ks) {i:Nat} {k:Wk} (hk:ks[i]?=some k) :
 ∃ b o A5 c5,A=some ⟨b,o,none⟩/\b < w.heap.size/\w.cell? ⟨b,o+i * 2,none⟩=some (.int .i64 k.1)/\w.cell? ⟨b,o+i * 2+1,none⟩=some (.slice A5 k.2.length c5)/\WkV 0 w.heap.size w (.agg #[.int .i64 k.1,.slice A5 k.2.length c5]) k:=by
 obtain ⟨zs,⟨A',c',hv,hl,hm,hx⟩,h2,h3⟩:=h
 injection hv with e1 e2 e3
 subst e1
 obtain ⟨z,hz⟩:∃ z,zs[i]?=some z:=⟨_,List.getElem?_eq_getElem (by rw [h2];exact (List.getElem?_eq_some_iff.1 hk).1)⟩
 obtain ⟨b,o,hA,-,hb,hc⟩:=hx i z hz
 obtain ⟨f1,f2⟩:=h3 i z k hz hk
 have f3:=f2
 obtain ⟨A5,c5,hz2,-,-,-⟩:=f2
 refine ⟨b,o,A5,c5,hA,hb,?_,?_,⟨_,rfl,by rw [<- hz2];exact f3⟩⟩
 · have:=hc 0 _ rfl
   rw [f1] at this
   simpa using this
 · have:=hc 1 _ rfl
   rw [hz2] at this
   exact this
theorem list_at {g:Gr} {a:Au} {x y m:Int} {i:Nat} (h:i < listN g a x y m):(listSh g a x y m)[i]?=some (nthShort g a x y (i:Int)).1/\nthSh g a x y (i:Int)=true:=by
 refine ⟨by rw [listSh,listTo,List.getElem?_map,List.getElem?_range h];rfl,?_⟩
 rw [nthSh_nat,decide_eq_true_eq]
 unfold listN at h
 split at h <;> omega
theorem list_len (g:Gr) (a:Au) (x y m:Int):(listSh g a x y m).length=listN g a x y m:=listTo_len ..
theorem cntShort_pos (g:Gr) (a:Au) (x y:Int):0 < cntShort g a x y ↔ 0<=shortLen g a x y:=by
 rw [cntShort]
 split
 · omega
 · have:=cwI_short (g:=g) (a:=a) (x:=x) (y:=y) (by omega)
   omega
theorem listN_none {g:Gr} {a:Au} {x y m:Int} (h:shortLen g a x y < 0):listN g a x y m=0:=by
 rw [listN,cntN,if_pos h];simp
theorem shortP {g:Gr} {a:Au} {x y n:Int} (h:nthSh g a x y n=true):nthShort g a x y n=((nthShort g a x y n).1,true):=by rw [nthShort,if_pos h]
set_option maxRecDepth 100000 in
set_option maxHeartbeats 16000000 in
theorem walk (w:World) (v0:Value) (bs:List Int) (hv0:SlI 0 w.heap.size w cU 1 v0 bs) :
 Calls Tryz.prog 3 #[v0] w fun e w'=>e=.returned (.bool true)/\Below w.heap.size w w':=by
 have HV:=Hd_ hv0
 obtain ⟨A0,c0,rfl,hl0,hm0,-⟩:=hv0
 by_cases hbig:1048576 < bs.length
 · go_enter Tryz.func3,Tryz.ntmps3
   go_wp2_with fail
   refine (big_yes _ _ _ _ hbig (by omega)).mono ?_
   rintro e w' ⟨rfl,rfl⟩
   go_wp2_with fail
   go_ret
   exact ⟨rfl,Below.refl _ _⟩
 go_enter Tryz.func3,Tryz.ntmps3
 go_wp2_with fail
 refine (big_no _ _ _ _ hbig).mono ?_
 rintro e w' ⟨rfl,rfl⟩
 clear hbig hl0 hm0
 go_wp2_with fail
 refine (drawListShortest_any _ bs _ HV.out).mono ?_
 rintro e w1 ⟨vg,va,g,a,x,y,m,rfl,hgv,-,hav,hb1⟩
 obtain ⟨A1,n1,c1,A2,n2,c2,rfl⟩:=hgv.shape
 obtain ⟨A3,n3,c3,A4,n4,c4,rfl⟩:=hav.shape
 have hal:=((Below.refl w1.heap.size w1).alloc (Nat.le_refl _) (.cells #[.slice A1 n1 c1,.slice A2 n2 c2] 27)).alloc (by simp) (.cells #[.int .i64 a.start,.slice A3 n3 c3,.slice A4 n4 c4] 31)
 have bg:=(Blk.new w1 27 #[.slice A1 n1 c1,.slice A2 n2 c2] _ rfl).alloc (.cells #[.int .i64 a.start,.slice A3 n3 c3,.slice A4 n4 c4] 31)
 have ba:=Blk.new (w1.alloc (.cells #[.slice A1 n1 c1,.slice A2 n2 c2] 27)) 31 #[.int .i64 a.start,.slice A3 n3 c3,.slice A4 n4 c4] (w1.heap.size+1) (by simp)
 have HGV:=Hd_ (hgv.keep hal)
 have HAV:=Hd_ (hav.keep hal)
 have HB:=Hd_ (below_trans hb1 hal)
 clear hal hgv hav hb1 HV
 go_upto_region 4 with fail
 generalize ((w1.alloc (.cells #[.slice A1 n1 c1,.slice A2 n2 c2] 27)).alloc (.cells #[.int .i64 a.start,.slice A3 n3 c3,.slice A4 n4 c4] 31))=W at *
 have x0:W.cell? ⟨w1.heap.size,0,none⟩=some (.slice A1 n1 c1):=by exact bg.cell 0
 have x1:W.cell? ⟨w1.heap.size,1,none⟩=some (.slice A2 n2 c2):=by exact bg.cell 1
 have y0:W.cell? ⟨w1.heap.size+1,0,none⟩=some (.int .i64 a.start):=by exact ba.cell 0
 have y1:W.cell? ⟨w1.heap.size+1,1,none⟩=some (.slice A3 n3 c3):=by exact ba.cell 1
 have y2:W.cell? ⟨w1.heap.size+1,2,none⟩=some (.slice A4 n4 c4):=by exact ba.cell 2
 clear bg ba
 obtain ⟨M,hM⟩:∃ M,M=listN g a x y m:=⟨_,rfl⟩
 have HM:=Hd_ hM
 have hM50:M<=50:=by rw [hM];exact listN_le g a x y m
 clear hM
 go_wp2_with fail
 refine (implListShortest _ _ g a x y m _ HGV.out HAV.out).mono ?_
 rintro e w2 ⟨vl,rfl,hol,hb2⟩
 have HL:=Hd_ (hol.view.all (Nat.le_refl _))
 obtain ⟨A6,c6,rfl,hml⟩:=wsv_len HL.out
 rw [list_len,<- HM.out] at hml HL ⊢
 have x0:=kcell hb2 x0
 have x1:=kcell hb2 x1
 have y0:=kcell hb2 y0
 have y1:=kcell hb2 y1
 have y2:=kcell hb2 y2
 have HGV:=Hd_ (HGV.out.keep hb2)
 have HAV:=Hd_ (HAV.out.keep hb2)
 have HB:=Hd_ (below_trans HB.out hb2)
 clear hol hb2
 go_wp2_with fail
 refine (implCountShortest _ _ g a x y _ HGV.out HAV.out).mono ?_
 rintro e w3 ⟨rfl,hb3⟩
 have x0:=kcell hb3 x0
 have x1:=kcell hb3 x1
 have y0:=kcell hb3 y0
 have y1:=kcell hb3 y1
 have y2:=kcell hb3 y2
 have HGV:=Hd_ (HGV.out.keep hb3)
 have HAV:=Hd_ (HAV.out.keep hb3)
 have HL:=Hd_ (wsv_keep HL.out hb3)
 have HB:=Hd_ (below_trans HB.out hb3)
 clear hb3
 go_wp2_with fail
 refine (specCountShortest _ _ g a x y _ HGV.out HAV.out).mono ?_
 rintro e w4 ⟨rfl,hb4⟩
 have x0:=kcell hb4 x0
 have x1:=kcell hb4 x1
 have y0:=kcell hb4 y0
 have y1:=kcell hb4 y1
 have y2:=kcell hb4 y2
 have HGV:=Hd_ (HGV.out.keep hb4)
 have HAV:=Hd_ (HAV.out.keep hb4)
 have HL:=Hd_ (wsv_keep HL.out hb4)
 have HB:=Hd_ (below_trans HB.out hb4)
 clear hb4
 obtain ⟨CN,hCN⟩:∃ CN,CN=cntShort g a x y:=⟨_,rfl⟩
 rw [<- hCN]
 have HCN:=Hd_ hCN
 clear hCN
 have hcc:(CN != CN)=false:=by simp
 go_wp2_with fail
 refine (specListShortest _ _ g a x y m _ HGV.out HAV.out).mono ?_
 rintro e w5 ⟨vl2,rfl,hol,hb5⟩
 obtain ⟨A7,c7,rfl,-⟩:=wsv_len (hol.view.all (Nat.le_refl _))
 rw [list_len,<- HM.out]
 have x0:=kcell hb5 x0
 have x1:=kcell hb5 x1
 have y0:=kcell hb5 y0
 have y1:=kcell hb5 y1
 have y2:=kcell hb5 y2
 have HGV:=Hd_ (HGV.out.keep hb5)
 have HAV:=Hd_ (HAV.out.keep hb5)
 have HL:=Hd_ (wsv_keep HL.out hb5)
 have HB:=Hd_ (below_trans HB.out hb5)
 clear hb5 hol hcc
 have hmm:((M:Int) != (M:Int))=false:=by simp
 go_wp2_with fail
 clear hmm
 go_loopw [10] (fun ii wr=>∃ i:Nat,i<=M/\ii=.int .i64 (i:Int)/\Below w5.heap.size w5 wr) (fun ii _=>M - (intOf ii).toNat)
 case atStart=>exact ⟨0,Nat.zero_le _,rfl,Below.refl _ _⟩
 case round =>
  obtain ⟨i,hi,rfl,hbr⟩:=hrel
  obtain ⟨wo,rfl⟩:∃ wo:World,wo=wr:=⟨_,rfl⟩
  by_cases hlt:i < M
  · obtain ⟨hki,hsi⟩:=list_at (g:=g) (a:=a) (x:=x) (y:=y) (m:=m) (i:=i) (by rw [<- HM.out];exact hlt)
    have hsp:=shortP hsi
    have hrk:=rank_nthShort hsi
    have hwi:=(nthShort_wit hsi).1
    have HCP:=Hd_ (fun (j:Nat) (h:j < i)=>cmp_short (g:=g) (a:=a) (x:=x) (y:=y) (i:=(j:Int)) (j:=(i:Int)) (by omega) (by omega) hsi)
    obtain ⟨k,hk⟩:∃ k,k=(nthShort g a x y (i:Int)).1:=⟨_,rfl⟩
    rw [<- hk] at hki hsp hrk hwi HCP
    clear hk hsi
    have x0:=kcell hbr x0
    have x1:=kcell hbr x1
    have y0:=kcell hbr y0
    have y1:=kcell hbr y1
    have y2:=kcell hbr y2
    have HGV:=Hd_ (HGV.out.keep hbr)
    have HAV:=Hd_ (HAV.out.keep hbr)
    have HL:=Hd_ (wsv_keep HL.out hbr)
    have HB:=Hd_ (below_trans HB.out hbr)
    have HI:=Hd_ (hsp ▸ implNthShortest _ _ g a x y (i:Int) wo HGV.out HAV.out)
    have hii:(i:Int) < (M:Int):=by omega
    clear hsp
    go_wp2_with fail
    refine HI.out.mono ?_
    rintro e w6 ⟨vw,rfl,hkw,hb6⟩
    clear HI
    simp only at hkw ⊢
    have hkv:=hkw.view.mono (Nat.zero_le _) (Nat.le_refl _)
    obtain ⟨A8,n8,c8,rfl⟩:=hkv.shape
    have hal:=(Below.refl w6.heap.size w6).alloc (Nat.le_refl _) (.cells #[.int .i64 k.1,.slice A8 n8 c8] 39)
    have bw:=Blk.new w6 39 #[.int .i64 k.1,.slice A8 n8 c8] _ rfl
    have hbx:=below_trans hb6 hal
    have HKV:=Hd_ (hkv.keep hal)
    have x0:=kcell hbx x0
    have x1:=kcell hbx x1
    have y0:=kcell hbx y0
    have y1:=kcell hbx y1
    have y2:=kcell hbx y2
    have HGV:=Hd_ (HGV.out.keep hbx)
    have HAV:=Hd_ (HAV.out.keep hbx)
    have HL:=Hd_ (wsv_keep HL.out hbx)
    have HB:=Hd_ (below_trans HB.out hbx)
    have HBR:=Hd_ (below_trans hbr hbx)
    clear hkw hkv hal hbx hb6
    go_upto_region 12 with fail
    obtain ⟨wq,hwq⟩:∃ wq,wq=w6.heap.size:=⟨_,rfl⟩
    rw [<- hwq] at bw ⊢
    generalize (w6.alloc (.cells #[.int .i64 k.1,.slice A8 n8 c8] 39))=W6 at *
    clear hwq
    have j0:W6.cell? ⟨wq,0,none⟩=some (.int .i64 k.1):=by exact bw.cell 0
    have j1:W6.cell? ⟨wq,1,none⟩=some (.slice A8 n8 c8):=by exact bw.cell 1
    clear bw
    obtain ⟨b5,o5,A5,c5,rfl,hb5,l0,l1,hkl⟩:=wsv_at HL.out hki
    obtain ⟨n5,hn5⟩:∃ n5,n5=k.2.length:=⟨_,rfl⟩
    rw [<- hn5] at l1 hkl
    clear hn5
    have HKL:=Hd_ hkl
    have HRK:=Hd_ hrk
    have HWI:=Hd_ hwi
    clear hkl hrk hwi hki
    go_wp2_with fail
    refine F_start 35 (fun w'=>w'.cell? ⟨w1.heap.size,0,none⟩=some (.slice A1 n1 c1)/\w'.cell? ⟨w1.heap.size,1,none⟩=some (.slice A2 n2 c2)/\w'.cell? ⟨w1.heap.size+1,0,none⟩=some (.int .i64 a.start)/\w'.cell? ⟨w1.heap.size+1,1,none⟩=some (.slice A3 n3 c3)/\w'.cell? ⟨w1.heap.size+1,2,none⟩=some (.slice A4 n4 c4)/\w'.cell? ⟨wq,0,none⟩=some (.int .i64 k.1)/\w'.cell? ⟨wq,1,none⟩=some (.slice A8 n8 c8)/\w'.cell? ⟨b5,o5+i * 2,none⟩=some (.int .i64 k.1)/\w'.cell? ⟨b5,o5+i * 2+1,none⟩=some (.slice A5 n5 c5)) (by kernel_rfl) (by exact ⟨x0,x1,y0,y1,y2,j0,j1,l0,l1⟩) (fun hS inv=>?_)
    refine F_tk 0 inv ?_
    try simp only [tA,tB,tC,Act.put,tE,tF,tG]
    clear inv;intro inv
    refine F_tk 1 inv ?_
    try simp only [tA,tB,tC,Act.put,tE,tF,tG]
    clear inv;intro inv
    refine F_tk 2 inv ?_
    try simp only [tA,tB,tC,Act.put,tE,tF,tG]
    clear inv;intro inv
    refine F_tk 3 inv ?_
    try simp only [tA,tB,tC,Act.put,tE,tF,tG]
    clear inv;intro inv
    refine F_tk 4 inv ?_
    try simp only [tA,tB,tC,Act.put,tE,tF,tG]
    clear inv;intro inv
    refine F_tk 5 inv ?_
    try simp only [tA,tB,tC,Act.put,tE,tF,tG]
    clear inv;intro inv
    refine F_tk 6 inv ?_
    try simp only [tA,tB,tC,Act.put,tE,tF,tG]
    clear inv;intro inv
    refine F_tk 7 inv ?_
    try simp only [tA,tB,tC,Act.put,tE,tF,tG]
    clear inv;intro inv
    have hd:=(Below.refl W6.heap.size W6).drew
    have HGVd:=Hd_ (HGV.out.keep hd)
    have HAVd:=Hd_ (HAV.out.keep hd)
    have HKLd:=Hd_ (HKL.out.keep hd)
    have HLd:=Hd_ (wsv_keep HL.out hd)
    have HBRd:=Hd_ (below_trans HBR.out hd)
    have HC:=Hd_ (show Calls Tryz.prog 11 #[.agg #[.int .i64 k.1,.slice A8 n8 c8],.agg #[.int .i64 k.1,.slice A5 n5 c5]] W6.drew fun e w'=>e=.returned (.int .i64 0)/\Below W6.drew.heap.size W6.drew w' by
     have h:=specCompareWalks _ _ k k W6.drew (HKV.out.keep hd) HKLd.out
     rwa [cmpWk_self] at h)
    clear x0 x1 y0 y1 y2 j0 j1 l0 l1 hd
    refine F_oneH (i:=8) (by kernel_rfl) rfl (by rfl) (by omega) inv (fun K hK=>?_)
    try simp only [tA,tB,tC]
    go_simp
    refine HC.out.mono ?_
    rintro e w7 ⟨rfl,hb7⟩
    refine hK.out _ _ (kB9 hb7 hS) (fun _ _=>?_)
    try simp only [tA,tB,tC,Act.put,tE,tF,tG]
    clear hK K inv hS;rename_i hS inv
    have HGVd:=Hd_ (HGVd.out.keep hb7)
    have HAVd:=Hd_ (HAVd.out.keep hb7)
    have HKLd:=Hd_ (HKLd.out.keep hb7)
    have HLd:=Hd_ (wsv_keep HLd.out hb7)
    have HBRd:=Hd_ (below_trans HBRd.out hb7)
    clear hb7 HC
    refine F_tk 9 inv ?_
    try simp only [tA,tB,tC,Act.put,tE,tF,tG]
    clear inv;intro inv
    refine F_tk 10 inv ?_
    try simp only [tA,tB,tC,Act.put,tE,tF,tG]
    clear inv;intro inv
    refine F_tk 11 inv ?_
    try simp only [tA,tB,tC,Act.put,tE,tF,tG]
    clear inv;intro inv
    refine F_tk 12 inv ?_
    try simp only [tA,tB,tC,Act.put,tE,tF,tG]
    clear inv;intro inv
    refine F_tk 13 inv ?_
    try simp only [tA,tB,tC,Act.put,tE,tF,tG]
    clear inv;intro inv
    refine F_tk 14 inv ?_
    try simp only [tA,tB,tC,Act.put,tE,tF,tG]
    clear inv;intro inv
    refine F_tk 15 inv ?_
    try simp only [tA,tB,tC,Act.put,tE,tF,tG]
    clear inv;intro inv
    refine F_tk 16 inv ?_
    try simp only [tA,tB,tC,Act.put,tE,tF,tG]
    clear inv;intro inv
    refine F_tk 17 inv ?_
    try simp only [tA,tB,tC,Act.put,tE,tF,tG]
    clear inv;intro inv
    refine F_tk 18 inv ?_
    try simp only [tA,tB,tC,Act.put,tE,tF,tG]
    clear inv;intro inv
    refine F_tk 19 inv ?_
    try simp only [tA,tB,tC,Act.put,tE,tF,tG]
    clear inv;intro inv
    refine F_tk 21 inv ?_
    try simp only [tA,tB,tC,Act.put,tE,tF,tG]
    clear inv;intro inv
    refine F_oneH (i:=20) (by kernel_rfl) rfl (by rfl) (by omega) inv (fun K hK=>?_)
    try simp only [tA,tB,tC]
    go_simp
    refine (implRankShortest _ _ _ g a x y k w7 HGVd.out HAVd.out HKLd.out).mono ?_
    rintro e w8 ⟨rfl,hb8⟩
    rw [HRK.out]
    refine hK.out _ _ (kB9 hb8 hS) (fun _ _=>?_)
    try simp only [tA,tB,tC,Act.put,tE,tF,tG]
    clear hK K inv hS;rename_i hS inv
    have HGVd:=Hd_ (HGVd.out.keep hb8)
    have HAVd:=Hd_ (HAVd.out.keep hb8)
    have HKLd:=Hd_ (HKLd.out.keep hb8)
    have HLd:=Hd_ (wsv_keep HLd.out hb8)
    have HBRd:=Hd_ (below_trans HBRd.out hb8)
    clear hb8
    refine F_tk 22 inv ?_
    try simp only [tA,tB,tC,Act.put,tE,tF,tG]
    clear inv;intro inv
    refine F_tk 23 inv ?_
    try simp only [tA,tB,tC,Act.put,tE,tF,tG]
    clear inv;intro inv
    refine F_tk 24 inv ?_
    try simp only [tA,tB,tC,Act.put,tE,tF,tG]
    clear inv;intro inv
    refine F_tk 25 inv ?_
    try simp only [tA,tB,tC,Act.put,tE,tF,tG]
    clear inv;intro inv
    refine F_tk 26 inv ?_
    try simp only [tA,tB,tC,Act.put,tE,tF,tG]
    clear inv;intro inv
    refine F_tk 27 inv ?_
    try simp only [tA,tB,tC,Act.put,tE,tF,tG]
    clear inv;intro inv
    refine F_tk 28 inv ?_
    try simp only [tA,tB,tC,Act.put,tE,tF,tG]
    clear inv;intro inv
    refine F_tk 29 inv ?_
    try simp only [tA,tB,tC,Act.put,tE,tF,tG]
    clear inv;intro inv
    refine F_tk 30 inv ?_
    try simp only [tA,tB,tC,Act.put,tE,tF,tG]
    clear inv;intro inv
    refine F_tk 31 inv ?_
    try simp only [tA,tB,tC,Act.put,tE,tF,tG]
    clear inv;intro inv
    refine F_tk 32 inv ?_
    try simp only [tA,tB,tC,Act.put,tE,tF,tG]
    clear inv;intro inv
    refine F_oneH (i:=33) (by kernel_rfl) rfl (by rfl) (by omega) inv (fun K hK=>?_)
    try simp only [tA,tB,tC]
    go_simp
    refine (specIsWitness _ _ _ g a x y k w8 HGVd.out HAVd.out HKLd.out).mono ?_
    rintro e w9 ⟨rfl,hb9⟩
    rw [HWI.out]
    refine hK.out _ _ (kB9 hb9 hS) (fun _ _=>?_)
    try simp only [tA,tB,tC,Act.put,tE,tF,tG]
    clear hK K inv hS;rename_i hS inv
    have HKLd:=Hd_ (HKLd.out.keep hb9)
    have HLd:=Hd_ (wsv_keep HLd.out hb9)
    have HBRd:=Hd_ (below_trans HBRd.out hb9)
    clear hb9
    refine F_tk 34 inv ?_
    try simp only [tA,tB,tC,Act.put,tE,tF,tG]
    clear inv;intro inv
    obtain ⟨-,-,-,-,-,-,-,l0,l1⟩:=id hS
    refine F_l1 35 ?_;intro K hK
    go_simp
    refine hK _ _ ?_
    clear hK K
    by_cases hi0:i=0
    · subst hi0
      go_wp2_with fail
      refine F_start 14 (fun w'=>w'.cell? ⟨b5,o5+0 * 2,none⟩=some (.int .i64 k.1)/\w'.cell? ⟨b5,o5+0 * 2+1,none⟩=some (.slice A5 n5 c5)) (by kernel_rfl) (by exact ⟨l0,l1⟩) (fun hS inv=>?_)
      refine F_tk 0 inv ?_
      try simp only [tA,tB,tC,Act.put,tE,tF,tG]
      clear inv;intro inv
      refine F_tk 1 inv ?_
      try simp only [tA,tB,tC,Act.put,tE,tF,tG]
      clear inv;intro inv
      refine F_tk 2 inv ?_
      try simp only [tA,tB,tC,Act.put,tE,tF,tG]
      clear inv;intro inv
      refine F_sk 3 inv ?_
      try simp only [tA,tB,tC,Act.put,tE,tF,tG]
      clear inv;intro inv
      refine F_sk 4 inv ?_
      try simp only [tA,tB,tC,Act.put,tE,tF,tG]
      clear inv;intro inv
      refine F_sk 5 inv ?_
      try simp only [tA,tB,tC,Act.put,tE,tF,tG]
      clear inv;intro inv
      refine F_sk 6 inv ?_
      try simp only [tA,tB,tC,Act.put,tE,tF,tG]
      clear inv;intro inv
      refine F_sk 7 inv ?_
      try simp only [tA,tB,tC,Act.put,tE,tF,tG]
      clear inv;intro inv
      refine F_sk 8 inv ?_
      try simp only [tA,tB,tC,Act.put,tE,tF,tG]
      clear inv;intro inv
      refine F_sk 9 inv ?_
      try simp only [tA,tB,tC,Act.put,tE,tF,tG]
      clear inv;intro inv
      refine F_sk 10 inv ?_
      try simp only [tA,tB,tC,Act.put,tE,tF,tG]
      clear inv;intro inv
      refine F_sk 11 inv ?_
      try simp only [tA,tB,tC,Act.put,tE,tF,tG]
      clear inv;intro inv
      refine F_oneN (i:=12) (by kernel_rfl) rfl (by rfl) (by omega) inv (by assumption) (fun invn=>?_)
      try simp only [tA,tB,tC,Act.put,tE,tF,tG]
      clear inv
      have inv:=invn
      clear invn
      refine F_sk 13 inv ?_
      try simp only [tA,tB,tC,Act.put,tE,tF,tG]
      clear inv;intro inv
      refine F_l1 14 ?_;intro K hK
      go_simp
      refine hK _ _ ?_
      clear hK K
      go_wp2_with fail
      go_roundw
      case rel=>exact ⟨0+1,by omega,by go_num,HBRd.out.drew⟩
      case measure=>simp [intOf];omega
    · obtain ⟨j,rfl⟩:∃ j,i=j+1:=⟨i - 1,by omega⟩
      obtain ⟨hkj,-⟩:=list_at (g:=g) (a:=a) (x:=x) (y:=y) (m:=m) (i:=j) (by rw [<- HM.out];omega)
      have hcj:=HCP.out j (by omega)
      obtain ⟨u,hu⟩:∃ u,u=(nthShort g a x y (j:Int)).1:=⟨_,rfl⟩
      rw [<- hu] at hkj hcj
      clear hu
      obtain ⟨b6,o6,A9,c9,hbe,hb6,p0,p1,hkj2⟩:=wsv_at HLd.out hkj
      simp only [Option.some.injEq,Addr.mk.injEq,and_true] at hbe
      obtain ⟨rfl,rfl⟩:=hbe
      obtain ⟨n9,hn9⟩:∃ n9,n9=u.2.length:=⟨_,rfl⟩
      rw [<- hn9] at p1 hkj2
      have hdc:decide (cmpWk u k >= 0)=false:=by simp;omega
      have HKJ:=Hd_ hkj2
      have hjj:(j:Int) < (M:Int):=by omega
      have q3:IntKind.i64.wrap (j:Int)=(j:Int):=IntWalk.i64_in _ (by omega)
      have q4:(0:Int)<=(j:Int)+1:=by omega
      have q5:(j:Int)+1 < (M:Int):=by omega
      clear hn9 hkj hcj hkj2
      go_wp2_with fail
      refine F_start 14 (fun w'=>w'.cell? ⟨b5,o5+(j+1) * 2,none⟩=some (.int .i64 k.1)/\w'.cell? ⟨b5,o5+(j+1) * 2+1,none⟩=some (.slice A5 n5 c5)/\w'.cell? ⟨b5,o5+j * 2,none⟩=some (.int .i64 u.1)/\w'.cell? ⟨b5,o5+j * 2+1,none⟩=some (.slice A9 n9 c9)) (by kernel_rfl) (by exact ⟨l0,l1,p0,p1⟩) (fun hS inv=>?_)
      refine F_tk 0 inv ?_
      try simp only [tA,tB,tC,Act.put,tE,tF,tG]
      clear inv;intro inv
      refine F_tk 1 inv ?_
      try simp only [tA,tB,tC,Act.put,tE,tF,tG]
      clear inv;intro inv
      refine F_tk 2 inv ?_
      try simp only [tA,tB,tC,Act.put,tE,tF,tG]
      clear inv;intro inv
      refine F_tk 3 inv ?_
      try simp only [tA,tB,tC,Act.put,tE,tF,tG]
      clear inv;intro inv
      refine F_tk 4 inv ?_
      try simp only [tA,tB,tC,Act.put,tE,tF,tG]
      clear inv;intro inv
      refine F_tk 5 inv ?_
      try simp only [tA,tB,tC,Act.put,tE,tF,tG]
      clear inv;intro inv
      refine F_tk 6 inv ?_
      try simp only [tA,tB,tC,Act.put,tE,tF,tG]
      clear inv;intro inv
      refine F_tk 7 inv ?_
      try simp only [tA,tB,tC,Act.put,tE,tF,tG]
      clear inv;intro inv
      refine F_tk 8 inv ?_
      try simp only [tA,tB,tC,Act.put,tE,tF,tG]
      clear inv;intro inv
      refine F_tk 9 inv ?_
      try simp only [tA,tB,tC,Act.put,tE,tF,tG]
      clear inv;intro inv
      refine F_tk 10 inv ?_
      try simp only [tA,tB,tC,Act.put,tE,tF,tG]
      clear inv;intro inv
      refine F_tk 11 inv ?_
      try simp only [tA,tB,tC,Act.put,tE,tF,tG]
      clear inv;intro inv
      have hd:=(Below.refl w9.heap.size w9).drew
      clear l0 l1 p0 p1
      refine F_oneH (i:=12) (by kernel_rfl) rfl (by rfl) (by omega) inv (fun K hK=>?_)
      try simp only [tA,tB,tC]
      go_simp
      refine (specCompareWalks _ _ u k w9.drew (HKJ.out.keep hd) (HKLd.out.keep hd)).mono ?_
      rintro e w10 ⟨rfl,hb10⟩
      refine hK.out _ _ (kB4 hb10 hS) (fun _ _=>?_)
      try simp only [tA,tB,tC,Act.put,tE,tF,tG]
      clear hK K inv hS;rename_i hS inv
      have HBZ:=Hd_ (below_trans (below_trans HBRd.out hd) hb10)
      clear hb10 hd
      refine F_tk 13 inv ?_
      try simp only [tA,tB,tC,Act.put,tE,tF,tG]
      clear inv;intro inv
      refine F_l1 14 ?_;intro K hK
      go_simp
      refine hK _ _ ?_
      clear hK K
      go_wp2_with fail
      go_roundw
      case rel=>exact ⟨j+1+1,by omega,by go_num,HBZ.out⟩
      case measure=>simp [intOf];omega
  · obtain rfl:i=M:=by omega
    have x0:=kcell hbr x0
    have x1:=kcell hbr x1
    have y0:=kcell hbr y0
    have y1:=kcell hbr y1
    have y2:=kcell hbr y2
    have HGV:=Hd_ (HGV.out.keep hbr)
    have HAV:=Hd_ (HAV.out.keep hbr)
    have HL:=Hd_ (wsv_keep HL.out hbr)
    have HB:=Hd_ (below_trans HB.out hbr)
    clear hbr
    by_cases hs:0<=shortLen g a x y
    · have hsz:nthSh g a x y 0=true:=by rw [nthSh_zero,decide_eq_true hs]
      have hls:lstShort g a x y=((nthShort g a x y 0).1,true):=by rw [lst_nth];exact shortP hsz
      obtain ⟨k,hk⟩:∃ k,k=(nthShort g a x y 0).1:=⟨_,rfl⟩
      rw [<- hk] at hls
      have HK:=Hd_ hk
      have hcp:decide (CN > 0)=true:=by
       have:=(cntShort_pos g a x y).2 hs
       rw [HCN.out];simpa using this
      have HCP:=Hd_ hcp
      clear hk hsz hcp
      have HI:=Hd_ (hls ▸ specLeastWitness _ _ g a x y _ HGV.out HAV.out)
      go_wp2_with fail
      refine HI.out.mono ?_
      rintro e w6 ⟨vw,rfl,hkw,hb6⟩
      clear HI
      simp only at hkw ⊢
      have hkv:=hkw.view.mono (Nat.zero_le _) (Nat.le_refl _)
      obtain ⟨A8,n8,c8,rfl⟩:=hkv.shape
      have hal:=(Below.refl w6.heap.size w6).alloc (Nat.le_refl _) (.cells #[.int .i64 k.1,.slice A8 n8 c8] 39)
      have bw:=Blk.new w6 39 #[.int .i64 k.1,.slice A8 n8 c8] _ rfl
      have hbx:=below_trans hb6 hal
      have HKV:=Hd_ (hkv.keep hal)
      have HL:=Hd_ (wsv_keep HL.out hbx)
      have HB:=Hd_ (below_trans HB.out hbx)
      clear hkw hkv hal hbx hb6
      go_upto_region 17 with fail
      obtain ⟨wq,hwq⟩:∃ wq,wq=w6.heap.size:=⟨_,rfl⟩
      rw [<- hwq] at bw ⊢
      generalize (w6.alloc (.cells #[.int .i64 k.1,.slice A8 n8 c8] 39))=W7 at *
      clear hwq
      have f0:W7.cell? ⟨wq,0,none⟩=some (.int .i64 k.1):=bw.cell 0
      have f1:W7.cell? ⟨wq,1,none⟩=some (.slice A8 n8 c8):=bw.cell 1
      clear bw
      have hcp:=HCP.out
      by_cases hM0:i=0
      · have hzz:((i:Int)==0)=true:=by simpa using hM0
        have HM0:=Hd_ hM0
        clear hM0
        go_wp2_with fail
        refine F_start 17 (fun w'=>w'.cell? ⟨wq,0,none⟩=some (.int .i64 k.1)/\w'.cell? ⟨wq,1,none⟩=some (.slice A8 n8 c8)) (by kernel_rfl) (by exact ⟨f0,f1⟩) (fun hS inv=>?_)
        refine F_tk 0 inv ?_
        try simp only [tA,tB,tC,Act.put,tE,tF,tG]
        clear inv;intro inv
        refine F_tk 1 inv ?_
        try simp only [tA,tB,tC,Act.put,tE,tF,tG]
        clear inv;intro inv
        refine F_tk 2 inv ?_
        try simp only [tA,tB,tC,Act.put,tE,tF,tG]
        clear inv;intro inv
        refine F_tk 3 inv ?_
        try simp only [tA,tB,tC,Act.put,tE,tF,tG]
        clear inv;intro inv
        refine F_tk 4 inv ?_
        try simp only [tA,tB,tC,Act.put,tE,tF,tG]
        clear inv;intro inv
        refine F_tk 5 inv ?_
        try simp only [tA,tB,tC,Act.put,tE,tF,tG]
        clear inv;intro inv
        refine F_tk 6 inv ?_
        try simp only [tA,tB,tC,Act.put,tE,tF,tG]
        clear inv;intro inv
        refine F_tk 7 inv ?_
        try simp only [tA,tB,tC,Act.put,tE,tF,tG]
        clear inv;intro inv
        refine F_tk 8 inv ?_
        try simp only [tA,tB,tC,Act.put,tE,tF,tG]
        clear inv;intro inv
        refine F_sk 9 inv ?_
        try simp only [tA,tB,tC,Act.put,tE,tF,tG]
        clear inv;intro inv
        refine F_sk 10 inv ?_
        try simp only [tA,tB,tC,Act.put,tE,tF,tG]
        clear inv;intro inv
        refine F_sk 11 inv ?_
        try simp only [tA,tB,tC,Act.put,tE,tF,tG]
        clear inv;intro inv
        refine F_sk 12 inv ?_
        try simp only [tA,tB,tC,Act.put,tE,tF,tG]
        clear inv;intro inv
        refine F_oneN (i:=13) (by kernel_rfl) rfl (by rfl) (by omega) inv (by assumption) (fun invn=>?_)
        try simp only [tA,tB,tC,Act.put,tE,tF,tG]
        clear inv
        have inv:=invn
        clear invn
        refine F_sk 14 inv ?_
        try simp only [tA,tB,tC,Act.put,tE,tF,tG]
        clear inv;intro inv
        refine F_tk 15 inv ?_
        try simp only [tA,tB,tC,Act.put,tE,tF,tG]
        clear inv;intro inv
        refine F_tk 16 inv ?_
        try simp only [tA,tB,tC,Act.put,tE,tF,tG]
        clear inv;intro inv
        refine F_l1 17 ?_;intro K hK
        go_simp
        refine hK _ _ ?_
        clear hK K
        go_wp2_with fail
        go_ret
        exact ⟨rfl,HB.out.drew⟩
      · have hzz:((i:Int)==0)=false:=by simpa using hM0
        have hkz:=(list_at (g:=g) (a:=a) (x:=x) (y:=y) (m:=m) (i:=0) (by rw [<- HM.out];omega)).1
        rw [show ((0:Nat):Int)=0 from rfl,<- HK.out] at hkz
        obtain ⟨b5,o5,A5,c5,rfl,hb5,l0,l1,hkl⟩:=wsv_at HL.out hkz
        obtain ⟨n5,hn5⟩:∃ n5,n5=k.2.length:=⟨_,rfl⟩
        rw [<- hn5] at l1 hkl
        rw [Nat.zero_mul,Nat.add_zero] at l0 l1
        have HKL:=Hd_ hkl
        have hii:(0:Int) < (i:Int):=by omega
        have hii2:0 < i:=by omega
        clear hn5 hkz hkl
        go_wp2_with fail
        refine F_start 17 (fun w'=>w'.cell? ⟨wq,0,none⟩=some (.int .i64 k.1)/\w'.cell? ⟨wq,1,none⟩=some (.slice A8 n8 c8)/\w'.cell? ⟨b5,o5,none⟩=some (.int .i64 k.1)/\w'.cell? ⟨b5,o5+1,none⟩=some (.slice A5 n5 c5)) (by kernel_rfl) (by exact ⟨f0,f1,l0,l1⟩) (fun hS inv=>?_)
        refine F_tk 0 inv ?_
        try simp only [tA,tB,tC,Act.put,tE,tF,tG]
        clear inv;intro inv
        refine F_tk 1 inv ?_
        try simp only [tA,tB,tC,Act.put,tE,tF,tG]
        clear inv;intro inv
        refine F_tk 2 inv ?_
        try simp only [tA,tB,tC,Act.put,tE,tF,tG]
        clear inv;intro inv
        refine F_tk 3 inv ?_
        try simp only [tA,tB,tC,Act.put,tE,tF,tG]
        clear inv;intro inv
        refine F_tk 4 inv ?_
        try simp only [tA,tB,tC,Act.put,tE,tF,tG]
        clear inv;intro inv
        refine F_tk 5 inv ?_
        try simp only [tA,tB,tC,Act.put,tE,tF,tG]
        clear inv;intro inv
        refine F_tk 6 inv ?_
        try simp only [tA,tB,tC,Act.put,tE,tF,tG]
        clear inv;intro inv
        refine F_tk 7 inv ?_
        try simp only [tA,tB,tC,Act.put,tE,tF,tG]
        clear inv;intro inv
        refine F_tk 8 inv ?_
        try simp only [tA,tB,tC,Act.put,tE,tF,tG]
        clear inv;intro inv
        refine F_tk 9 inv ?_
        try simp only [tA,tB,tC,Act.put,tE,tF,tG]
        clear inv;intro inv
        refine F_tk 10 inv ?_
        try simp only [tA,tB,tC,Act.put,tE,tF,tG]
        clear inv;intro inv
        refine F_tk 11 inv ?_
        try simp only [tA,tB,tC,Act.put,tE,tF,tG]
        clear inv;intro inv
        refine F_tk 12 inv ?_
        try simp only [tA,tB,tC,Act.put,tE,tF,tG]
        clear inv;intro inv
        have hd:=(Below.refl W7.heap.size W7).drew
        have HC:=Hd_ (show Calls Tryz.prog 11 #[.agg #[.int .i64 k.1,.slice A8 n8 c8],.agg #[.int .i64 k.1,.slice A5 n5 c5]] W7.drew fun e w'=>e=.returned (.int .i64 0)/\Below W7.drew.heap.size W7.drew w' by
         have h:=specCompareWalks _ _ k k W7.drew (HKV.out.keep hd) (HKL.out.keep hd)
         rwa [cmpWk_self] at h)
        clear f0 f1 l0 l1
        refine F_oneH (i:=13) (by kernel_rfl) rfl (by rfl) (by omega) inv (fun K hK=>?_)
        try simp only [tA,tB,tC]
        go_simp
        refine HC.out.mono ?_
        rintro e w8 ⟨rfl,hb8⟩
        refine hK.out _ _ (kB4 hb8 hS) (fun _ _=>?_)
        try simp only [tA,tB,tC,Act.put,tE,tF,tG]
        clear hK K inv hS;rename_i hS inv
        have HBZ:=Hd_ (below_trans (below_trans HB.out hd) hb8)
        clear hb8 hd
        refine F_tk 14 inv ?_
        try simp only [tA,tB,tC,Act.put,tE,tF,tG]
        clear inv;intro inv
        refine F_tk 15 inv ?_
        try simp only [tA,tB,tC,Act.put,tE,tF,tG]
        clear inv;intro inv
        refine F_tk 16 inv ?_
        try simp only [tA,tB,tC,Act.put,tE,tF,tG]
        clear inv;intro inv
        refine F_l1 17 ?_;intro K hK
        go_simp
        refine hK _ _ ?_
        clear hK K
        go_wp2_with fail
        go_ret
        exact ⟨rfl,HBZ.out⟩
    · have hls:lstShort g a x y=((0,[]),false):=by rw [lstShort,if_pos (by omega)]
      have hM0:i=0:=by rw [HM.out];exact listN_none (by omega)
      obtain ⟨k,hk⟩:∃ k:Wk,k=(0,[]):=⟨_,rfl⟩
      rw [<- hk] at hls
      have hcp:decide (CN > 0)=false:=by
       have:=cntShort_pos g a x y
       rw [HCN.out];simp;omega
      have HCP:=Hd_ hcp
      subst hM0
      clear hk hcp
      have HI:=Hd_ (hls ▸ specLeastWitness _ _ g a x y _ HGV.out HAV.out)
      go_wp2_with fail
      refine HI.out.mono ?_
      rintro e w6 ⟨vw,rfl,hkw,hb6⟩
      clear HI
      simp only at hkw ⊢
      have hkv:=hkw.view.mono (Nat.zero_le _) (Nat.le_refl _)
      obtain ⟨A8,n8,c8,rfl⟩:=hkv.shape
      have hal:=(Below.refl w6.heap.size w6).alloc (Nat.le_refl _) (.cells #[.int .i64 k.1,.slice A8 n8 c8] 39)
      have bw:=Blk.new w6 39 #[.int .i64 k.1,.slice A8 n8 c8] _ rfl
      have hbx:=below_trans hb6 hal
      have HKV:=Hd_ (hkv.keep hal)
      have HL:=Hd_ (wsv_keep HL.out hbx)
      have HB:=Hd_ (below_trans HB.out hbx)
      clear hkw hkv hal hbx hb6
      go_upto_region 17 with fail
      obtain ⟨wq,hwq⟩:∃ wq,wq=w6.heap.size:=⟨_,rfl⟩
      rw [<- hwq] at bw ⊢
      generalize (w6.alloc (.cells #[.int .i64 k.1,.slice A8 n8 c8] 39))=W7 at *
      clear hwq
      have f0:W7.cell? ⟨wq,0,none⟩=some (.int .i64 k.1):=bw.cell 0
      have f1:W7.cell? ⟨wq,1,none⟩=some (.slice A8 n8 c8):=bw.cell 1
      clear bw
      have hcp:=HCP.out
      go_wp2_with fail
      refine F_start 17 (fun w'=>w'.cell? ⟨wq,0,none⟩=some (.int .i64 k.1)/\w'.cell? ⟨wq,1,none⟩=some (.slice A8 n8 c8)) (by kernel_rfl) (by exact ⟨f0,f1⟩) (fun hS inv=>?_)
      refine F_tk 0 inv ?_
      try simp only [tA,tB,tC,Act.put,tE,tF,tG]
      clear inv;intro inv
      refine F_tk 1 inv ?_
      try simp only [tA,tB,tC,Act.put,tE,tF,tG]
      clear inv;intro inv
      refine F_tk 2 inv ?_
      try simp only [tA,tB,tC,Act.put,tE,tF,tG]
      clear inv;intro inv
      refine F_tk 3 inv ?_
      try simp only [tA,tB,tC,Act.put,tE,tF,tG]
      clear inv;intro inv
      refine F_tk 4 inv ?_
      try simp only [tA,tB,tC,Act.put,tE,tF,tG]
      clear inv;intro inv
      refine F_tk 5 inv ?_
      try simp only [tA,tB,tC,Act.put,tE,tF,tG]
      clear inv;intro inv
      refine F_tk 6 inv ?_
      try simp only [tA,tB,tC,Act.put,tE,tF,tG]
      clear inv;intro inv
      refine F_tk 7 inv ?_
      try simp only [tA,tB,tC,Act.put,tE,tF,tG]
      clear inv;intro inv
      refine F_tk 8 inv ?_
      try simp only [tA,tB,tC,Act.put,tE,tF,tG]
      clear inv;intro inv
      refine F_sk 9 inv ?_
      try simp only [tA,tB,tC,Act.put,tE,tF,tG]
      clear inv;intro inv
      refine F_sk 10 inv ?_
      try simp only [tA,tB,tC,Act.put,tE,tF,tG]
      clear inv;intro inv
      refine F_sk 11 inv ?_
      try simp only [tA,tB,tC,Act.put,tE,tF,tG]
      clear inv;intro inv
      refine F_sk 12 inv ?_
      try simp only [tA,tB,tC,Act.put,tE,tF,tG]
      clear inv;intro inv
      refine F_oneN (i:=13) (by kernel_rfl) rfl (by rfl) (by omega) inv (by assumption) (fun invn=>?_)
      try simp only [tA,tB,tC,Act.put,tE,tF,tG]
      clear inv
      have inv:=invn
      clear invn
      refine F_sk 14 inv ?_
      try simp only [tA,tB,tC,Act.put,tE,tF,tG]
      clear inv;intro inv
      refine F_tk 15 inv ?_
      try simp only [tA,tB,tC,Act.put,tE,tF,tG]
      clear inv;intro inv
      refine F_tk 16 inv ?_
      try simp only [tA,tB,tC,Act.put,tE,tF,tG]
      clear inv;intro inv
      refine F_l1 17 ?_;intro K hK
      go_simp
      refine hK _ _ ?_
      clear hK K
      go_wp2_with fail
      go_ret
      exact ⟨rfl,HB.out.drew⟩
end Go.Proofs.YteaplabkemoenaaGreat.fnShortestList
namespace Go.Proofs.YteaplabkemoenaaGreat.fnShortestList
open Go.ChangeShapes Go.WideShapes Go.ChangeAt Go.RowKit
theorem own:ownKnob Tryz.prog.godebug=none:=by kernel_rfl
theorem laidOut:laidOutB Tryz.prog=true:=by kernel_rfl
set_option maxRecDepth 100000 in
theorem lifted (os:Os) (started:os.Started) (H:Type) (enc:TypeId × Value->H) :
 ReturnsInHanded {} Tryz.checked os 3 .any (Rows.fnShortestListSpec.pre6 enc Tryz.prog Tryz.f3 Rows.fnShortestListRow.domain false) (Rows.fnShortestListSpec.post enc Tryz.prog Tryz.f3 false true false false):=by
 refine returnsInHanded_of_change (C:=Tryz.checked) own started (by kernel_rfl) Tryz.func3
  (ChangeSpec.witness6 (enc:=enc) (C:=Tryz.checked) false ⟨#[],#[.slice none 0 0],[]⟩ 8 (by kernel_rfl) (by kernel_rfl) (by kernel_rfl) (by kernel_rfl)) ?_
 intro W base args ds gs before hval0 hW hcnd _
 have hval:∀ (j:Nat) t v,Tryz.f3.params[j]?=some t->args[j]?=some v->Value.okWide Tryz.prog W .any base t v:=hval0
 have hW':=hW
 obtain ⟨p,q,hA0,hV,rfl,hfz,hnd⟩:=hW
 have hA:DataW.TrodAll enc Tryz.prog W 0 (fun _=>true) true Tryz.f3.params.toList args.toList ds p:=hA0
 rw [Tryz.params3] at hA hval
 obtain ⟨v0,vs0,d0,ds0,p0,q0,hargs,rfl,rfl,h0,r0⟩:=trodAll_cons hA
 obtain ⟨rfl,rfl,rfl⟩:=trodAll_nil r0
 obtain rfl:args=#[v0]:=by cases args;simp_all
 obtain ⟨rfl,rfl⟩:=trodVars_none hV
 obtain ⟨a0,w0⟩:=openBytes (hval 0 22 v0 rfl rfl) h0
 refine (walk W v0 a0 w0).mono fun e W' ⟨he,hb⟩=>?_
 subst he
 exact ⟨_,rfl,law_post laidOut (by kernel_rfl) rfl Tryz.underlying4 rfl rfl hW' hb⟩
theorem unf:Tryz.pinned.checked.prog.unfollowed 3=true:=by kernel_rfl
theorem inpl:Tryz.pinned.checked.prog.inPlace 3=[]:=by kernel_rfl
theorem vnam:Tryz.pinned.checked.prog.varsNamed 3=[]:=by kernel_rfl
theorem rec_:Tryz.pinned.checked.prog.recurses 3=true:=by rw [Program.recurses,unf,Bool.true_or]
theorem over:Rows.fnShortestListRow.holds Tryz.pinned (OpenSpec.ofChange Rows.fnShortestListSpec) :=
 OpenClaim.holds_of_wide 3 Tryz.f3 rfl rfl rfl rfl rfl rfl rfl ⟨rfl,rfl,rfl,rfl,rfl⟩ rfl rfl rfl rfl rfl (by kernel_rfl) Tryz.func3 (by unfold joinedFacts;rw [seat_mayEnter,seat_lifts,seat_laidOut,seat_mapsRowed,unf,rec_,inpl,vnam];kernel_rfl)
  (of_decide_eq_true (by kernel_rfl)) (by unfold Func.isWrapper;first | (rw [if_pos (by decide +kernel)];kernel_rfl) | (rw [if_neg (by decide +kernel)];exact ⟨rfl,rfl⟩))
  (fun os started H enc _=>lifted os started H enc)
theorem proved:Rows.FnShortestListSaid:=over
end Go.Proofs.YteaplabkemoenaaGreat.fnShortestList
