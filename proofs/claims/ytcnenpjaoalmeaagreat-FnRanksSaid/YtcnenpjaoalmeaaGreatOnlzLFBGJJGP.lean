/- Parts of the proof, joined into one text: HelpWalk, WalksS, WitD, WkrD, DrwC, KeyP, MemD, Ctr, Count, CtrN, NthI. -/
import Derived.Test.YtcnenpjaoalmeaaGreatOnlzAAOIIFGL
import Derived.Test.YtcnenpjaoalmeaaGreatOnlzRNBKAKGD
import Derived.Test.YtcnenpjaoalmeaaGreatOnlzAMFEKBDB
import Derived.Test.YtcnenpjaoalmeaaGreatOnlzPHPFCMJJ
import Derived.Test.YtcnenpjaoalmeaaGreatOnlzOFLKAIBE
import Derived.RegionTactic
import Derived.BigRegion
import Derived.Test.YtcnenpjaoalmeaaGreatOnlzIELAFJOL
import Derived.Test.YtcnenpjaoalmeaaGreatOnlzNBNNNJPC
import Derived.Maps.OwnSet
import Derived.DeepKeys4
import Derived.Maps.Views
import Derived.Test.YtcnenpjaoalmeaaGreatOnlzPFBPAMGP
import Derived.Test.YtcnenpjaoalmeaaGreatOnlzIBMKDNOH
import Derived.Test.YtcnenpjaoalmeaaGreatOnlzFMIHCKLL
import Derived.Deep.LoopGhost
set_option linter.unusedVariables false
set_option linter.unusedSimpArgs false
namespace Go.Proofs.YtcnenpjaoalmeaaGreat
open Go.ChangeShapes Go.WideShapes Go.ChangeAt Go.RowKit
attribute [local go_sem] ext_cell ext_frozen ext_lt ext_lt1 ext_lt2 ext_lt3 ltn2 ltn3 ltn13 lts1 lts2 lts3
def WkO (lo hi:Nat) (w:World) (v:Value) (k:Wk):Prop :=
 ∃ ss,v=.agg #[.int .i64 k.1,ss]/\Own lo hi w 74 cSt 2 ss k.2
theorem WkO.view {lo hi:Nat} {w:World} {v:Value} {k:Wk} (h:WkO lo hi w v k):WkV lo hi w v k:=by
 obtain ⟨ss,rfl,h1⟩:=h
 exact ⟨ss,rfl,h1.sl cSt_len⟩
theorem WkO.below {lo hi:Nat} {w w':World} {v:Value} {k:Wk} (h:WkO lo hi w v k) {B:Nat} (hb:Below B w w') (hB:hi<=B):WkO lo hi w' v k:=by
 obtain ⟨ss,rfl,h1⟩:=h
 exact ⟨ss,rfl,h1.below hb hB⟩
theorem WkO.only {lo hi:Nat} {w w':World} {v:Value} {k:Wk} (h:WkO lo hi w v k) {l r:Nat} (hb:Only l r w w') (ho:hi<=l ∨ r<=lo):WkO lo hi w' v k:=by
 obtain ⟨ss,rfl,h1⟩:=h
 exact ⟨ss,rfl,h1.only hb ho⟩
theorem WkO.mono {lo hi:Nat} {w:World} {v:Value} {k:Wk} (h:WkO lo hi w v k) {lo' hi':Nat} (h1:lo'<=lo) (h2:hi<=hi'):WkO lo' hi' w v k:=by
 obtain ⟨ss,rfl,g1⟩:=h
 exact ⟨ss,rfl,g1.mono h1 h2⟩
/-- the first row's count, as a walk wants it -/
theorem LaysV.first {g:Gr} {a:Au} {y:Int} {k0:Key} {n lo:Nat} {w:World} {v:Value} (h:LaysV g a y k0 n lo w v):∃ (b o c gd cd:Nat),v=.slice (some ⟨b,o,none⟩) (n+1) c/\b < w.heap.size/\gd < w.heap.size/\w.cell? ⟨b,o,none⟩=some (.slice (some ⟨gd,0,none⟩) 1 cd)/\w.cell? ⟨gd,2,none⟩=some (.int .i64 (cw g a y n k0.1 k0.2:Nat)):=by
 obtain ⟨A,c,rfl,-,-,h⟩:=h
 obtain ⟨b,o,gd,cd,zs,rfl,hb,hc,hl⟩:=h 0 (Nat.zero_le _)
 obtain ⟨z,-,-,-,-,-,-,-,r2,-,-⟩:=hl.get (i:=0) (k:=k0) rfl
 refine ⟨b,o,c,gd,cd,rfl,hb,hl.lt,by simpa [layN] using hc,?_⟩
 rw [layC_at (i:=0) (k:=k0) rfl,Nat.sub_zero] at r2
 simpa using r2
set_option maxHeartbeats 8000000 in
set_option maxRecDepth 100000 in
theorem specCountShortest (vg va:Value) (g:Gr) (a:Au) (x y:Int) (w:World) (hgv:GrV 0 w.heap.size w vg g) (hav:AuV 0 w.heap.size w va a) :
 Calls Tryz.prog 18 #[vg,va,.int .i64 x,.int .i64 y] w fun e w'=>e=.returned (.int .i64 (cntShort g a x y))/\Below w.heap.size w w':=by
 have hgv0:=hgv
 have hav0:=hav
 obtain ⟨A1,n1,c1,A2,n2,c2,rfl⟩:=hgv.shape
 obtain ⟨A3,n3,c3,A4,n4,c4,rfl⟩:=hav.shape
 have hb0:Below w.heap.size w ((w.alloc (.cells #[.slice A1 n1 c1,.slice A2 n2 c2] 27)).alloc (.cells #[.int .i64 a.start,.slice A3 n3 c3,.slice A4 n4 c4] 31)):=((Below.refl _ _).alloc (Nat.le_refl _) _).alloc (by simp) _
 have hbG:=((Blk.new w 27 #[.slice A1 n1 c1,.slice A2 n2 c2] w.heap.size rfl).alloc (.cells #[.int .i64 a.start,.slice A3 n3 c3,.slice A4 n4 c4] 31))
 have hbA:=(Blk.new (w.alloc (.cells #[.slice A1 n1 c1,.slice A2 n2 c2] 27)) 31 #[.int .i64 a.start,.slice A3 n3 c3,.slice A4 n4 c4] (w.heap.size+1) (by simp))
 have HBG:=Hd_ hbG
 have HBA:=Hd_ hbA
 have HGV:=Hd_ hgv0
 have HAV:=Hd_ hav0
 have HB0:=Hd_ hb0
 have HSL:=Hd_ (fun (W:World) (hW:Below w.heap.size w W)=>specShortestLength _ _ g a x y W (HGV.out.keep hW) (HAV.out.keep hW))
 clear hgv hav hgv0 hav0 hb0 hbG hbA
 by_cases hneg:shortLen g a x y < 0
 · have HF:=Hd_ (show cntShort g a x y=0 from if_pos hneg)
   generalize shortLen g a x y=SL at *
   go_enter Tryz.func18,Tryz.ntmps18
   go_wp2_with fail
   refine (HSL.out _ HB0.out).mono ?_
   rintro e w1 ⟨rfl,hb1⟩
   go_wp2_with fail
   go_ret
   exact ⟨by rw [HF.out];rfl,below_trans HB0.out hb1⟩
 · have hco:=shortLen_ok (show 0<=shortLen g a x y by omega)
   obtain ⟨⟨hx0,hx1⟩,⟨hy0,hy1⟩,hgo,ha⟩:=cntOk_iff.1 hco
   have hlt:=shortLen_lt g a x y
   obtain ⟨L,hL⟩:=Int.eq_ofNat_of_zero_le (show 0<=shortLen g a x y by omega)
   have HF:=Hd_ (show cntShort g a x y=(cw g a y L x.toNat (bit a.start.toNat):Nat) by rw [cntShort,if_neg hneg,hL,Int.toNat_natCast];rfl)
   rw [hL] at HSL hlt hneg
   obtain ⟨x,rfl⟩:=Int.eq_ofNat_of_zero_le hx0
   rw [Int.toNat_natCast] at HF
   have HGO:=Hd_ hgo
   have HA:=Hd_ ha
   have hxl:x < g.vals.length:=by omega
   have hln:¬ (L:Int) < 0:=by omega
   clear hco hgo ha hL hneg hx0 hx1 hy0 hy1
   go_enter Tryz.func18,Tryz.ntmps18
   go_wp2_with fail
   refine (HSL.out _ HB0.out).mono ?_
   rintro e w1 ⟨rfl,hb1⟩
   have hb2:=below_trans HB0.out hb1
   have bG:=HBG.out.keep hb1
   have bA:=HBA.out.keep hb1
   have x0:w1.cell? ⟨w.heap.size,0,none⟩=some (.slice A1 n1 c1):=bG.cell 0
   have x1:w1.cell? ⟨w.heap.size,1,none⟩=some (.slice A2 n2 c2):=bG.cell 1
   have y0:w1.cell? ⟨w.heap.size+1,0,none⟩=some (.int .i64 a.start):=bA.cell 0
   have y1:w1.cell? ⟨w.heap.size+1,1,none⟩=some (.slice A3 n3 c3):=bA.cell 1
   have y2:w1.cell? ⟨w.heap.size+1,2,none⟩=some (.slice A4 n4 c4):=bA.cell 2
   clear bG bA
   clear hb1
   go_wp2_with fail
   refine (l19Layers_any _ _ g a x y L _ (HGV.out.keep hb2) (HAV.out.keep hb2) HGO.out HA.out hxl (by omega)).mono ?_
   rintro e w2 ⟨v2,rfl,hlv,hb3⟩
   obtain ⟨bL,oL,cL,gd,cd,rfl,lb,lg,r0,r2⟩:=hlv.first
   simp only at r2
   have hn1:(0:Int) < (L:Int)+1:=by omega
   have HB:=Hd_ (below_trans hb2 hb3)
   clear hlv hb3
   go_wp2_with fail
   go_ret
   exact ⟨by rw [HF.out];rfl,HB.out⟩
def FiveOut (w:World) (e:Ending) (w':World):Prop:=∃ vg va g a x y d,e=.returned (.tuple #[vg,va,.int .i64 x,.int .i64 y,.int .i64 d])/\(GrV 0 w'.heap.size w' vg g/\g.edges.length<=11/\AuV 0 w'.heap.size w' va a/\Below w.heap.size w w')
set_option maxHeartbeats 8000000 in
theorem drawNthShortest_any (v:Value) (bs:List Int) (w:World) (hv:SlI 0 w.heap.size w cU 1 v bs) :
 Calls Tryz.prog 31 #[v] w (FiveOut w):=by
 have HV:=Hd_ hv
 have hb0:=((Below.refl w.heap.size w).alloc (Nat.le_refl _) (.cells #[.slice none 0 0,.slice none 0 0] 27)).alloc (by simp) (.cells #[.int .i64 0,.slice none 0 0,.slice none 0 0] 31)
 have hb1:=(Blk.new w 27 #[.slice none 0 0,.slice none 0 0] _ rfl).alloc (.cells #[.int .i64 0,.slice none 0 0,.slice none 0 0] 31)
 have hb2:=Blk.new (w.alloc (.cells #[.slice none 0 0,.slice none 0 0] 27)) 31 #[.int .i64 0,.slice none 0 0,.slice none 0 0] (w.heap.size+1) (by simp)
 have hs0:((w.alloc (.cells #[.slice none 0 0,.slice none 0 0] 27)).alloc (.cells #[.int .i64 0,.slice none 0 0,.slice none 0 0] 31)).heap.size=w.heap.size+2:=by simp
 obtain ⟨A,n,c,rfl⟩:=hv.shape
 clear hv
 go_enter Tryz.func31,Tryz.ntmps31
 go_wp2_with fail
 refine (l17Two_any _ bs _ ((HV.out.below hb0 (Nat.le_refl _)).mono (Nat.le_refl _) hb0.size)).mono ?_
 rintro e w2 ⟨b,vg,va,g,a,x,y,rfl,hbl,hgv,he11,hav,hc2,hbw⟩
 have hr1:=hb1.keep hbw
 have hr2:=hb2.keep hbw
 have hb3:=below_trans hb0 hbw
 rw [hs0] at hbl
 clear hbw hb1 hb2 hb0 hs0 HV
 have hlb:=hc2.lt
 obtain ⟨A1,n1,c1,A2,n2,c2,rfl⟩:=hgv.shape
 obtain ⟨A3,n3,c3,A4,n4,c4,rfl⟩:=hav.shape
 have hn1:=grT_len hgv
 have hal:=((Below.refl w2.heap.size w2).alloc (Nat.le_refl _) (.cells #[.slice A1 n1 c1,.slice A2 n2 c2] 27)).alloc (by simp) (.cells #[.int .i64 a.start,.slice A3 n3 c3,.slice A4 n4 c4] 31)
 have bg:=(Blk.new w2 27 #[.slice A1 n1 c1,.slice A2 n2 c2] _ rfl).alloc (.cells #[.int .i64 a.start,.slice A3 n3 c3,.slice A4 n4 c4] 31)
 have ba:=Blk.new (w2.alloc (.cells #[.slice A1 n1 c1,.slice A2 n2 c2] 27)) 31 #[.int .i64 a.start,.slice A3 n3 c3,.slice A4 n4 c4] (w2.heap.size+1) (by simp)
 obtain ⟨gq,hgq⟩:∃ gq,gq=w2.heap.size:=⟨_,rfl⟩
 have HP:=Hd_ (show GaR b w.heap.size gq (gq+1) w ((w2.alloc (.cells #[.slice A1 n1 c1,.slice A2 n2 c2] 27)).alloc (.cells #[.int .i64 a.start,.slice A3 n3 c3,.slice A4 n4 c4] 31)) _ _ g _ _ a from
  ⟨hr1.keep hal,hr2.keep hal,hgq ▸ bg,hgq ▸ ba,(hgv.below hal (Nat.le_refl _)).mono (by omega) (by omega),(hav.below hal (Nat.le_refl _)).mono (by omega) (by omega),hc2.keep hal,below_trans hb3 hal,rfl,he11,by omega⟩)
 clear hal bg ba hgv hav hc2 hr1 hr2 hb3 he11
 go_upto_region 2 with fail
 rw [<- hgq]
 generalize ((w2.alloc (.cells #[.slice A1 n1 c1,.slice A2 n2 c2] 27)).alloc (.cells #[.int .i64 a.start,.slice A3 n3 c3,.slice A4 n4 c4] 31))=W at *
 clear hgq hlb
 have x0:W.cell? ⟨gq,0,none⟩=some (.slice A1 n1 c1):=HP.out.gbk.cell 0
 have x1:W.cell? ⟨gq,1,none⟩=some (.slice A2 n2 c2):=HP.out.gbk.cell 1
 have y0:W.cell? ⟨gq+1,0,none⟩=some (.int .i64 a.start):=HP.out.abk.cell 0
 have y1:W.cell? ⟨gq+1,1,none⟩=some (.slice A3 n3 c3):=HP.out.abk.cell 1
 have y2:W.cell? ⟨gq+1,2,none⟩=some (.slice A4 n4 c4):=HP.out.abk.cell 2
 go_wp2_with fail
 refine (specCountShortest _ _ g a x y _ HP.out.grv HP.out.auv).mono ?_
 rintro e w6 ⟨rfl,hb6⟩
 have HP6:=Hd_ (HP.out.keep hb6)
 clear hb6 HP x0 x1 y0 y1 y2
 generalize cntShort g a x y=N at *
 go_wp2_with fail
 refine (l1Once_any b 8 _ HP6.out.cur).mono ?_
 rintro e w7 ⟨t,rfl,hc7,ho7⟩
 have HP7:=Hd_ (HP6.out.step ho7 hc7)
 clear ho7 hc7 HP6
 have x0:w7.cell? ⟨gq,0,none⟩=some (.slice A1 n1 c1):=HP7.out.gbk.cell 0
 have x1:w7.cell? ⟨gq,1,none⟩=some (.slice A2 n2 c2):=HP7.out.gbk.cell 1
 have y0:w7.cell? ⟨gq+1,0,none⟩=some (.int .i64 a.start):=HP7.out.abk.cell 0
 have y1:w7.cell? ⟨gq+1,1,none⟩=some (.slice A3 n3 c3):=HP7.out.abk.cell 1
 have y2:w7.cell? ⟨gq+1,2,none⟩=some (.slice A4 n4 c4):=HP7.out.abk.cell 2
 cases t
 · go_wp2_with fail
   refine F_start 12 (fun w'=>w'.cell? ⟨gq,0,none⟩=some (.slice A1 n1 c1)/\w'.cell? ⟨gq,1,none⟩=some (.slice A2 n2 c2)/\w'.cell? ⟨gq+1,0,none⟩=some (.int .i64 a.start)/\w'.cell? ⟨gq+1,1,none⟩=some (.slice A3 n3 c3)/\w'.cell? ⟨gq+1,2,none⟩=some (.slice A4 n4 c4)) (by kernel_rfl) (by exact ⟨x0,x1,y0,y1,y2⟩) (fun hS inv=>?_)
   refine F_tk 0 inv ?_
   try simp only [tA,tB,tC,Act.put,tE,tF,tG]
   clear inv;intro inv
   refine F_tk 1 inv ?_
   try simp only [tA,tB,tC,Act.put,tE,tF,tG]
   clear inv;intro inv
   refine F_tk 2 inv ?_
   try simp only [tA,tB,tC,Act.put,tE,tF,tG]
   clear inv;intro inv
   refine F_tk 3 inv ?_
   try simp only [tA,tB,tC,Act.put,tE,tF,tG]
   clear inv;intro inv
   refine F_tk 4 inv ?_
   try simp only [tA,tB,tC,Act.put,tE,tF,tG]
   clear inv;intro inv
   refine F_tk 5 inv ?_
   try simp only [tA,tB,tC,Act.put,tE,tF,tG]
   clear inv;intro inv
   have HPd:=Hd_ HP7.out.drew
   clear HP7 x0 x1 y0 y1 y2
   refine F_tk 6 inv ?_
   try simp only [tA,tB,tC,Act.put,tE,tF,tG]
   clear inv;intro inv
   refine F_o1 7 inv ?_;intro K hK
   try simp only [tA,tB,tC]
   go_simp
   refine (l1Below_any b _ _ HPd.out.cur).mono ?_
   rintro e w8 ⟨q,rfl,-,hc8,ho8⟩
   have HP8:=Hd_ (HPd.out.step ho8 hc8)
   clear ho8 hc8 HPd
   refine hK.out _ _ (⟨HP8.out.gbk.cell 0,HP8.out.gbk.cell 1,HP8.out.abk.cell 0,HP8.out.abk.cell 1,HP8.out.abk.cell 2⟩) (fun _ _=>?_)
   try simp only [tA,tB,tC,Act.put,tE,tF,tG]
   clear hK K inv hS;rename_i hS inv
   have z0:w8.cell? ⟨w.heap.size,0,none⟩=some (.slice none 0 0):=HP8.out.res1.cell 0
   have z1:w8.cell? ⟨w.heap.size,1,none⟩=some (.slice none 0 0):=HP8.out.res1.cell 1
   have z2:w8.cell? ⟨w.heap.size+1,0,none⟩=some (.int .i64 0):=HP8.out.res2.cell 0
   have z3:w8.cell? ⟨w.heap.size+1,1,none⟩=some (.slice none 0 0):=HP8.out.res2.cell 1
   have z4:w8.cell? ⟨w.heap.size+1,2,none⟩=some (.slice none 0 0):=HP8.out.res2.cell 2
   have v0:=HP8.out.res1.frozen 0
   have v1:=HP8.out.res1.frozen 1
   have v2:=HP8.out.res2.frozen 0
   have v3:=HP8.out.res2.frozen 1
   have v4:=HP8.out.res2.frozen 2
   have hlr:=HP8.out.res1.lt
   have hls:=HP8.out.res2.lt
   have HQ:=Hd_ (HP8.out.put (.slice A1 n1 c1) (.slice A2 n2 c2))
   have HQB:=Hd_ (HP8.out.blks HQ.out.1)
   refine F_o1 8 inv ?_;intro K hK
   try simp only [tA,tB,tC]
   go_simp
   refine hK.out _ _ (⟨HQB.out.1.cell 0,HQB.out.1.cell 1,HQB.out.2.cell 0,HQB.out.2.cell 1,HQB.out.2.cell 2⟩) (fun _ _=>?_)
   try simp only [tA,tB,tC,Act.put,tE,tF,tG]
   clear hK K inv hS;rename_i hS inv
   have HQC:=Hd_ (HP8.out.blks (putGC_only w8 w.heap.size (.slice A1 n1 c1) (.slice A2 n2 c2) (.int .i64 a.start) (.slice A3 n3 c3) (.slice A4 n4 c4)))
   refine F_o1 9 inv ?_;intro K hK
   try simp only [tA,tB,tC]
   go_simp
   refine hK.out _ _ (⟨HQC.out.1.cell 0,HQC.out.1.cell 1,HQC.out.2.cell 0,HQC.out.2.cell 1,HQC.out.2.cell 2⟩) (fun _ _=>?_)
   try simp only [tA,tB,tC,Act.put,tE,tF,tG]
   clear hK K inv hS;rename_i hS inv
   refine F_o1 10 inv ?_;intro K hK
   try simp only [tA,tB,tC]
   go_simp
   refine hK.out _ _ (⟨HQC.out.1.cell 0,HQC.out.1.cell 1,HQC.out.2.cell 0,HQC.out.2.cell 1,HQC.out.2.cell 2⟩) (fun _ _=>?_)
   try simp only [tA,tB,tC,Act.put,tE,tF,tG]
   clear hK K inv hS;rename_i hS inv
   refine F_o1 11 inv ?_;intro K hK
   try simp only [tA,tB,tC]
   go_simp
   refine hK.out _ _ (⟨HQC.out.1.cell 0,HQC.out.1.cell 1,HQC.out.2.cell 0,HQC.out.2.cell 1,HQC.out.2.cell 2⟩) (fun _ _=>?_)
   try simp only [tA,tB,tC,Act.put,tE,tF,tG]
   clear hK K inv hS;rename_i hS inv
   refine F_l1 12 ?_;intro K hK
   go_simp
   refine hK _ _ ?_
   clear hK K
   have HD:=Hd_ (HP8.out.fin0 (putGC_only w8 w.heap.size (.slice A1 n1 c1) (.slice A2 n2 c2) (.int .i64 a.start) (.slice A3 n3 c3) (.slice A4 n4 c4)))
   go_wp2_with fail
   all_goals exact bodyPost_ret (v:=.tuple #[.agg #[.slice A1 n1 c1,.slice A2 n2 c2],.agg #[.int .i64 a.start,.slice A3 n3 c3,.slice A4 n4 c4],.int .i64 x,.int .i64 y,.int .i64 q]) (by simp [results,Tryz.results31,go_sem,z0,z1,z2,z3,z4,v0,v1,v2,v3,v4,hlr,hls]) rfl ⟨_,_,g,a,_,_,_,rfl,HD.out⟩
 · go_wp2_with fail
   refine F_start 12 (fun w'=>w'.cell? ⟨gq,0,none⟩=some (.slice A1 n1 c1)/\w'.cell? ⟨gq,1,none⟩=some (.slice A2 n2 c2)/\w'.cell? ⟨gq+1,0,none⟩=some (.int .i64 a.start)/\w'.cell? ⟨gq+1,1,none⟩=some (.slice A3 n3 c3)/\w'.cell? ⟨gq+1,2,none⟩=some (.slice A4 n4 c4)) (by kernel_rfl) (by exact ⟨x0,x1,y0,y1,y2⟩) (fun hS inv=>?_)
   refine F_tk 0 inv ?_
   try simp only [tA,tB,tC,Act.put,tE,tF,tG]
   clear inv;intro inv
   refine F_tk 1 inv ?_
   try simp only [tA,tB,tC,Act.put,tE,tF,tG]
   clear inv;intro inv
   refine F_tk 2 inv ?_
   try simp only [tA,tB,tC,Act.put,tE,tF,tG]
   clear inv;intro inv
   refine F_tk 3 inv ?_
   try simp only [tA,tB,tC,Act.put,tE,tF,tG]
   clear inv;intro inv
   refine F_tk 4 inv ?_
   try simp only [tA,tB,tC,Act.put,tE,tF,tG]
   clear inv;intro inv
   refine F_tk 5 inv ?_
   try simp only [tA,tB,tC,Act.put,tE,tF,tG]
   clear inv;intro inv
   have HPd:=Hd_ HP7.out.drew
   clear HP7 x0 x1 y0 y1 y2
   refine F_o1 6 inv ?_;intro K hK
   try simp only [tA,tB,tC]
   go_simp
   have HPL:=Hd_ (litD_sl w7.drew 3 #[.int .i64 (-1),.int .i64 N,.int .i64 1000000] [-1,N,1000000] 3 (b+1) (by have:=HPd.out.ord;have:=HPd.out.abk.lt;omega) (by decide) rfl rfl rfl)
   have HPA:=Hd_ (HPd.out.keep ((Below.refl _ _).alloc (Nat.le_refl _) (.cells #[.int .i64 (-1),.int .i64 N,.int .i64 1000000] 3)))
   clear HPd
   refine hK.out _ _ (kA5 _ hS) (fun _ _=>?_)
   try simp only [tA,tB,tC,Act.put,tE,tF,tG]
   clear hK K inv hS;rename_i hS inv
   refine F_o1 7 inv ?_;intro K hK
   try simp only [tA,tB,tC]
   go_simp
   refine (l1PickInt_any b _ [-1,N,1000000] _ HPA.out.cur (by simp) (by simpa using HPL.out)).mono ?_
   rintro e w8 ⟨q,rfl,-,hc8,ho8⟩
   have HP8:=Hd_ (HPA.out.step ho8 hc8)
   clear ho8 hc8 HPA HPL
   refine hK.out _ _ (⟨HP8.out.gbk.cell 0,HP8.out.gbk.cell 1,HP8.out.abk.cell 0,HP8.out.abk.cell 1,HP8.out.abk.cell 2⟩) (fun _ _=>?_)
   try simp only [tA,tB,tC,Act.put,tE,tF,tG]
   clear hK K inv hS;rename_i hS inv
   have z0:w8.cell? ⟨w.heap.size,0,none⟩=some (.slice none 0 0):=HP8.out.res1.cell 0
   have z1:w8.cell? ⟨w.heap.size,1,none⟩=some (.slice none 0 0):=HP8.out.res1.cell 1
   have z2:w8.cell? ⟨w.heap.size+1,0,none⟩=some (.int .i64 0):=HP8.out.res2.cell 0
   have z3:w8.cell? ⟨w.heap.size+1,1,none⟩=some (.slice none 0 0):=HP8.out.res2.cell 1
   have z4:w8.cell? ⟨w.heap.size+1,2,none⟩=some (.slice none 0 0):=HP8.out.res2.cell 2
   have v0:=HP8.out.res1.frozen 0
   have v1:=HP8.out.res1.frozen 1
   have v2:=HP8.out.res2.frozen 0
   have v3:=HP8.out.res2.frozen 1
   have v4:=HP8.out.res2.frozen 2
   have hlr:=HP8.out.res1.lt
   have hls:=HP8.out.res2.lt
   have HQ:=Hd_ (HP8.out.put (.slice A1 n1 c1) (.slice A2 n2 c2))
   have HQB:=Hd_ (HP8.out.blks HQ.out.1)
   refine F_o1 8 inv ?_;intro K hK
   try simp only [tA,tB,tC]
   go_simp
   refine hK.out _ _ (⟨HQB.out.1.cell 0,HQB.out.1.cell 1,HQB.out.2.cell 0,HQB.out.2.cell 1,HQB.out.2.cell 2⟩) (fun _ _=>?_)
   try simp only [tA,tB,tC,Act.put,tE,tF,tG]
   clear hK K inv hS;rename_i hS inv
   have HQC:=Hd_ (HP8.out.blks (putGC_only w8 w.heap.size (.slice A1 n1 c1) (.slice A2 n2 c2) (.int .i64 a.start) (.slice A3 n3 c3) (.slice A4 n4 c4)))
   refine F_o1 9 inv ?_;intro K hK
   try simp only [tA,tB,tC]
   go_simp
   refine hK.out _ _ (⟨HQC.out.1.cell 0,HQC.out.1.cell 1,HQC.out.2.cell 0,HQC.out.2.cell 1,HQC.out.2.cell 2⟩) (fun _ _=>?_)
   try simp only [tA,tB,tC,Act.put,tE,tF,tG]
   clear hK K inv hS;rename_i hS inv
   refine F_o1 10 inv ?_;intro K hK
   try simp only [tA,tB,tC]
   go_simp
   refine hK.out _ _ (⟨HQC.out.1.cell 0,HQC.out.1.cell 1,HQC.out.2.cell 0,HQC.out.2.cell 1,HQC.out.2.cell 2⟩) (fun _ _=>?_)
   try simp only [tA,tB,tC,Act.put,tE,tF,tG]
   clear hK K inv hS;rename_i hS inv
   refine F_o1 11 inv ?_;intro K hK
   try simp only [tA,tB,tC]
   go_simp
   refine hK.out _ _ (⟨HQC.out.1.cell 0,HQC.out.1.cell 1,HQC.out.2.cell 0,HQC.out.2.cell 1,HQC.out.2.cell 2⟩) (fun _ _=>?_)
   try simp only [tA,tB,tC,Act.put,tE,tF,tG]
   clear hK K inv hS;rename_i hS inv
   refine F_l1 12 ?_;intro K hK
   go_simp
   refine hK _ _ ?_
   clear hK K
   have HD:=Hd_ (HP8.out.fin0 (putGC_only w8 w.heap.size (.slice A1 n1 c1) (.slice A2 n2 c2) (.int .i64 a.start) (.slice A3 n3 c3) (.slice A4 n4 c4)))
   go_wp2_with fail
   all_goals exact bodyPost_ret (v:=.tuple #[.agg #[.slice A1 n1 c1,.slice A2 n2 c2],.agg #[.int .i64 a.start,.slice A3 n3 c3,.slice A4 n4 c4],.int .i64 x,.int .i64 y,.int .i64 q]) (by simp [results,Tryz.results31,go_sem,z0,z1,z2,z3,z4,v0,v1,v2,v3,v4,hlr,hls]) rfl ⟨_,_,g,a,_,_,_,rfl,HD.out⟩
theorem GaR.fin3 {b r gq aq:Nat} {w0 w w':World} {gs es:Value} {g:Gr} {ac nx:Value} {a:Au} {vk:Value} {k:Wk} {lo:Nat} (h:GaR b r gq aq w0 w gs es g ac nx a) (hb:r+2 < b) (hk:WkV lo w.heap.size w vk k) (hlo:r+3<=lo) (ho:Only r (r+3) w w') :
 GrV w0.heap.size w'.heap.size w' (.agg #[gs,es]) g/\AuV w0.heap.size w'.heap.size w' (.agg #[.int .i64 a.start,ac,nx]) a/\WkV w0.heap.size w'.heap.size w' vk k/\Below w0.heap.size w0 w':=by
 have hd:=h.ord
 have h0:=h.at0
 have hq:=h.abk.lt
 have hs:=ho.size
 exact ⟨(h.gv.only ho (by omega) (.inr (by omega))).mono (by omega) (by omega),(h.av.only ho (by omega) (.inr (by omega))).mono (by omega) (by omega),(hk.only ho (Nat.le_refl _) (.inr hlo)).mono (by omega) hs,h.bel.trans (ho.below (B:=w0.heap.size) (by omega) h.bel.size)⟩
def putW (w:World) (r:Nat) (gs es st ac nx ks kss:Value):World:=((((((w.setCell ⟨r,0,none⟩ gs).setCell ⟨r,1,none⟩ es).setCell ⟨r+1,0,none⟩ st).setCell ⟨r+1,1,none⟩ ac).setCell ⟨r+1,2,none⟩ nx).setCell ⟨r+1+1,0,none⟩ ks).setCell ⟨r+1+1,1,none⟩ kss
theorem putW_only (w:World) (r:Nat) (gs es st ac nx ks kss:Value):Only r (r+3) w (putW w r gs es st ac nx ks kss):=(((((((Only.refl r (r+3) w).setCell (p:=⟨r,0,none⟩) (.inl (by simp only;omega)) _).setCell (p:=⟨r,1,none⟩) (.inl (by simp only;omega)) _).setCell (p:=⟨r+1,0,none⟩) (.inl (by simp only;omega)) _).setCell (p:=⟨r+1,1,none⟩) (.inl (by simp only;omega)) _).setCell (p:=⟨r+1,2,none⟩) (.inl (by simp only;omega)) _).setCell (p:=⟨r+1+1,0,none⟩) (.inl (by simp only;omega)) _).setCell (p:=⟨r+1+1,1,none⟩) (.inl (by simp only;omega)) _
theorem GaR.far {b r gq aq q:Nat} {w0 w w':World} {gs es:Value} {g:Gr} {ac nx:Value} {a:Au} (h:GaR b r gq aq w0 w gs es g ac nx a) (ho:Only q (q+1) w w') (hq:aq < q):GaR b r gq aq w0 w' gs es g ac nx a:=by
 have hd:=h.ord
 have hl:=h.abk.lt
 have h0:=h.at0
 exact ⟨h.res1.only ho (.inl (by omega)),h.res2.only ho (.inl (by omega)),h.gbk.only ho (.inl (by omega)),h.abk.only ho (.inl (by omega)),h.gv.only ho (by omega) (.inl (by omega)),h.av.only ho (by omega) (.inl (by omega)),h.cur.only ho (by omega),h.bel.trans (ho.below (B:=w0.heap.size) (by omega) h.bel.size),h.at0,h.e11,hd⟩
/-- a walk under way: in the block q; the graph's box B, the result's block r -/
structure WkR (b B r q:Nat) (w0 w:World) (gs:Array Value) (st:Int) (ss:Value) (L:List St):Prop where
 box:Blk w B 27 gs
 res:Blk w r 36 #[.int .i64 0,.slice none 0 0]
 blk:Blk w q 36 #[.int .i64 st,ss]
 row:w.ownsRow (q+1) 74 2 ss L.length (L.flatMap cSt)
 cur:Cur w b
 only:Only b (b+1) w0 w
 at0:w0.heap.size<=r
 ord:b < w0.heap.size/\b < B/\b < r/\b < q/\B < q/\r < q/\B ≠ r
section
variable {b B r q:Nat} {w0 w w':World} {gs:Array Value} {st:Int} {ss:Value} {L:List St}
theorem WkR.move (h:WkR b B r q w0 w gs st ss L) (ho:Only b (b+1) w w') (hc:Cur w' b):WkR b B r q w0 w' gs st ss L:=by
 have hd:=h.ord
 exact ⟨h.box.only ho (.inr (by omega)),h.res.only ho (.inr (by omega)),h.blk.only ho (.inr (by omega)),own_only h.row ho (by omega),hc,h.only.trans ho,h.at0,hd⟩
theorem WkR.below (h:WkR b B r q w0 w gs st ss L) (hb:Below w.heap.size w w'):WkR b B r q w0 w' gs st ss L :=
 ⟨h.box.keep hb,h.res.keep hb,h.blk.keep hb,ownsRow_below h.row hb (Nat.le_refl _),h.cur.keep hb,h.only.trans (Only.of_below hb _ _),h.at0,h.ord⟩
theorem WkR.alloc (h:WkR b B r q w0 w gs st ss L) (o:Obj):WkR b B r q w0 (w.alloc o) gs st ss L:=h.below ((Below.refl _ _).alloc (Nat.le_refl _) _)
theorem WkR.push {L':List St} {g n c:Nat} (h:WkR b B r q w0 w gs st ss L) (hr:w'.ownsRow (q+1) 74 2 (.slice (some ⟨g,0,none⟩) n c) L'.length (L'.flatMap cSt)) (hg:w.grownBy w' ss.ownBlock) (hat:ss.ownBlock=some g ∨ w.heap.size<=g) :
 Blk w' q 36 #[.int .i64 st,ss]/\WkR b B r q w0 (w'.setCell ⟨q,1,none⟩ (.slice (some ⟨g,0,none⟩) n c)) gs st (.slice (some ⟨g,0,none⟩) n c) L':=by
 have hd:=h.ord
 have hq:=h.blk.lt
 have hb:=own_below h.row (by omega) hg
 have hgq:g ≠ q:=by have:=(hr.lt g rfl).1;omega
 have hbq:Blk w' q 36 #[.int .i64 st,ss]:=h.blk.below hb (by omega)
 exact ⟨hbq,(h.box.below hb (by omega)).far (by simp only;omega) _,(h.res.below hb (by omega)).far (by simp only;omega) _,hbq.set_ 1 _,ownsRow_block hr (fun g' hg'=>by cases hg';exact Below.heap_setCell w' ⟨q,1,none⟩ _ g hgq),(h.cur.below hb (by omega)).set (by simp only;omega) _,
  (h.only.andBelow hb (by have:=h.at0;omega)).setCell (.inr (by have:=h.at0;simp only;omega)) _,h.at0,hd⟩
theorem WkR.done (h:WkR b B r q w0 w gs st ss L):WkO w0.heap.size ((w.setCell ⟨r,0,none⟩ (.int .i64 st)).setCell ⟨r,1,none⟩ ss).heap.size ((w.setCell ⟨r,0,none⟩ (.int .i64 st)).setCell ⟨r,1,none⟩ ss) (.agg #[.int .i64 st,ss]) (st,L) /\
 Cur ((w.setCell ⟨r,0,none⟩ (.int .i64 st)).setCell ⟨r,1,none⟩ ss) b/\Only b (b+1) w0 ((w.setCell ⟨r,0,none⟩ (.int .i64 st)).setCell ⟨r,1,none⟩ ss):=by
 have hd:=h.ord
 have ha:=h.at0
 have hq:=h.blk.lt
 have hp:=Only.put2 w r (.int .i64 st) ss
 refine ⟨⟨ss,rfl,(Own.of_row (xs:=L) (own_only h.row hp (by omega)) rfl rfl).mono (by omega) (Nat.le_refl _)⟩,h.cur.only hp (by omega),(h.only.setCell (p:=⟨r,0,none⟩) (.inr (by simp only;omega)) _).setCell (p:=⟨r,1,none⟩) (.inr (by simp only;omega)) _⟩
end
set_option maxHeartbeats 4000000 in
theorem l5Walk_any (b:Nat) (vg:Value) (g:Gr) (w:World) (hc:Cur w b) (hgv:GrV (b+1) w.heap.size w vg g) (he:g.edges.length<=12) :
 Calls Tryz.prog 63 #[.pointer (some ⟨b,0,none⟩),vg] w fun e w'=>∃ v k,e=.returned v/\WkO w.heap.size w'.heap.size w' v k/\k.2.length<=6/\Cur w' b/\Only b (b+1) w w':=by
 have HGV:=Hd_ hgv
 obtain ⟨vs,es,rfl,⟨A1,c1,rfl,hl1,hm1,-⟩,h2⟩:=hgv
 obtain ⟨A2,n2,c2,rfl⟩:=h2.shape
 obtain ⟨n1,hn1⟩:∃ n1,n1=g.vals.length:=⟨_,rfl⟩
 rw [<- hn1] at hl1 HGV ⊢
 unfold maxLen at hm1
 clear h2 hn1
 have hlt:=hc.lt
 have hb0:=((Below.refl w.heap.size w).alloc (Nat.le_refl _) (.cells #[.slice A1 n1 c1,.slice A2 n2 c2] 27)).alloc (by simp) (.cells #[.int .i64 0,.slice none 0 0] 36)
 have hbx:=(Blk.new w 27 #[.slice A1 n1 c1,.slice A2 n2 c2] _ rfl).alloc (.cells #[.int .i64 0,.slice none 0 0] 36)
 have hbr:=Blk.new (w.alloc (.cells #[.slice A1 n1 c1,.slice A2 n2 c2] 27)) 36 #[.int .i64 0,.slice none 0 0] (w.heap.size+1) (by simp)
 go_enter Tryz.func63,Tryz.ntmps63
 go_wp2_with fail
 all_goals
  refine (l1Below_any b _ _ (hc.keep hb0)).mono ?_
  rintro e w1 ⟨st,rfl,-,hc1,ho1⟩
  have hbx1:=hbx.only ho1 (.inr (by omega))
  have hbr1:=hbr.only ho1 (.inr (by omega))
  have hl1:=hbr1.lt
  have HR1:=Hd_ (show WkR b w.heap.size (w.heap.size+1) w1.heap.size w (w1.alloc (.cells #[.int .i64 st,.slice none 0 0] 36)) #[.slice A1 n1 c1,.slice A2 n2 c2] st (.slice none 0 0) [] from
   ⟨hbx1.alloc _,hbr1.alloc _,Blk.new w1 _ _ _ rfl,World.ownsRow_nil _ _ _ 2,hc1.keep ((Below.refl _ _).alloc (Nat.le_refl _) _),((Only.of_below hb0 b (b+1)).trans ho1).alloc _,by omega,by omega⟩)
  clear ho1 hc1 hbx1 hbr1
  go_wp2_with fail
  refine (l1Below_any b 7 _ HR1.out.cur).mono ?_
  rintro e w2 ⟨z,rfl,⟨hz0,-,hz1⟩,hc2,ho2⟩
  have hz1:=hz1 (by omega)
  obtain ⟨z,rfl⟩:=Int.eq_ofNat_of_zero_le hz0
  have HR2:=Hd_ (HR1.out.move ho2 hc2)
  clear ho2 hc2 HR1
  go_wp2_with fail
  go_loopw [6,7] (fun aa nn wr=>∃ (n:Nat) (x:Int) (ss:Value) (L:List St),aa=.int .i64 x/\nn=.int .i64 (n:Int)/\L.length+n=z/\WkR b w.heap.size (w.heap.size+1) w1.heap.size w wr #[.slice A1 n1 c1,.slice A2 n2 c2] st ss L) (fun _ nn _=>(intOf nn).toNat)
  case atStart=>exact ⟨z,st,_,[],rfl,rfl,by simp,HR2.out⟩
  case round =>
   obtain ⟨n,x,ss,L,rfl,rfl,hn,hR⟩:=hrel
   have HR:=Hd_ hR
   clear hR HR2
   obtain ⟨A3,n3,c3,rfl⟩:=rowShape HR.out.row
   have x0:wr.cell? ⟨w.heap.size,0,none⟩=some (.slice A1 n1 c1):=HR.out.box.cell 0
   have x1:wr.cell? ⟨w.heap.size,1,none⟩=some (.slice A2 n2 c2):=HR.out.box.cell 1
   have y0:wr.cell? ⟨w1.heap.size,0,none⟩=some (.int .i64 st):=HR.out.blk.cell 0
   have y1:wr.cell? ⟨w1.heap.size,1,none⟩=some (.slice A3 n3 c3):=HR.out.blk.cell 1
   rcases Nat.eq_zero_or_pos n with rfl | h0
   · have z0:wr.cell? ⟨w.heap.size+1,0,none⟩=some (.int .i64 0):=HR.out.res.cell 0
     have z1:wr.cell? ⟨w.heap.size+1,1,none⟩=some (.slice none 0 0):=HR.out.res.cell 1
     have v0:=HR.out.res.frozen 0
     have v1:=HR.out.res.frozen 1
     have hlr:=HR.out.res.lt
     go_wp2_with fail
     have HD:=HR.out.done
     refine bodyPost_ret (v:=.agg #[.int .i64 st,.slice A3 n3 c3]) (by simp [results,Tryz.results63,go_sem,z0,z1,v0,v1]) rfl ⟨_,_,rfl,HD.1,by simp only;omega,HD.2.1,HD.2.2⟩
   · have hni:0 < (n:Int):=by omega
     go_wp2_with fail
     refine (l4From_any _ g x _ (((HGV.out.only HR.out.only (Nat.le_refl _) (.inr (Nat.le_refl _))).mono (Nat.zero_le _) HR.out.only.size)) he).mono ?_
     rintro e w3 ⟨v3,rfl,hov,hb3⟩
     have HR3:=Hd_ (HR.out.below hb3)
     generalize (arcsOf g x).map (·.1)=M at hov
     obtain ⟨A4,c4,rfl,hl4,hm4,hx4⟩:=hov.sl cSt_len
     unfold maxLen at hm4
     obtain ⟨m,hm⟩:∃ m,m=M.length:=⟨_,rfl⟩
     rw [<- hm] at hl4
     have HM:=Hd_ hm
     have HX:=Hd_ hx4
     have hs3:=hb3.size
     have y0:w3.cell? ⟨w1.heap.size,0,none⟩=some (.int .i64 st):=HR3.out.blk.cell 0
     have y1:w3.cell? ⟨w1.heap.size,1,none⟩=some (.slice A3 n3 c3):=HR3.out.blk.cell 1
     rw [<- hm]
     clear hov hx4 hb3 hm x0 x1
     rcases Nat.eq_zero_or_pos m with rfl | hm0
     · have z0:w3.cell? ⟨w.heap.size+1,0,none⟩=some (.int .i64 0):=HR3.out.res.cell 0
       have z1:w3.cell? ⟨w.heap.size+1,1,none⟩=some (.slice none 0 0):=HR3.out.res.cell 1
       have v0:=HR3.out.res.frozen 0
       have v1:=HR3.out.res.frozen 1
       have hlr:=HR3.out.res.lt
       go_wp2_with fail
       have HD:=HR3.out.done
       refine bodyPost_ret (v:=.agg #[.int .i64 st,.slice A3 n3 c3]) (by simp [results,Tryz.results63,go_sem,z0,z1,v0,v1]) rfl ⟨_,_,rfl,HD.1,by simp only;omega,HD.2.1,HD.2.2⟩
     · clear y0 y1
       go_wp2_with fail
       refine (l1Below_any b _ _ HR3.out.cur).mono ?_
       rintro e w4 ⟨i,rfl,⟨hi0,-,hi1⟩,hc4,ho4⟩
       have hi1:=hi1 (by omega)
       obtain ⟨i,rfl⟩:=Int.eq_ofNat_of_zero_le hi0
       have hi:i < M.length:=by have:=HM.out;omega
       have hxi:M[i]?=some M[i]:=List.getElem?_eq_getElem hi
       obtain ⟨q,o,rfl,hq0,hq1,hcc⟩:=HX.out i _ hxi
       generalize M[i]=s at hcc
       obtain ⟨s1,s2⟩:=s
       have e0:=(ho4.cell (p:=⟨q,o+i * 2+0,none⟩) hq1 (.inr (by simp only;have:=HR.out.only.size;omega))).trans (hcc 0 _ rfl)
       have e1:=(ho4.cell (p:=⟨q,o+i * 2+1,none⟩) hq1 (.inr (by simp only;have:=HR.out.only.size;omega))).trans (hcc 1 _ rfl)
       simp only [Nat.add_zero] at e0
       have HR4:=Hd_ (HR3.out.move ho4 hc4)
       have hs4:=ho4.size
       clear hcc hxi ho4 hc4
       have hal:=(Below.refl w4.heap.size w4).alloc (Nat.le_refl _) (.cells #[.int .i64 s1,.bool s2] 74)
       have HR5:=Hd_ (HR4.out.below hal)
       have hbs:=Blk.new w4 74 #[.int .i64 s1,.bool s2] _ rfl
       go_upto_region 10 with fail
       clear e0 e1
       have hgv5:=(HGV.out.only HR5.out.only (Nat.le_refl _) (.inr (Nat.le_refl _))).mono (Nat.zero_le _) HR5.out.only.size
       have HGV5:=Hd_ hgv5
       generalize w4.alloc (.cells #[.int .i64 s1,.bool s2] 74)=w5 at *
       have d0:w5.cell? ⟨w4.heap.size,0,none⟩=some (.int .i64 s1):=hbs.cell 0
       have d1:w5.cell? ⟨w4.heap.size,1,none⟩=some (.bool s2):=hbs.cell 1
       have y1:w5.cell? ⟨w1.heap.size,1,none⟩=some (.slice A3 n3 c3):=HR5.out.blk.cell 1
       have hls:=hbs.lt
       have HBS:=Hd_ hbs
       clear hgv5 hbs hal
       have HNE:=Hd_ (show (Value.slice A3 n3 c3).ownBlock ≠ some w4.heap.size from fun e=>by have:=(HR4.out.row.lt _ e).2;omega)
       go_upto_region 11 with (at_builtin;(refine wpList_append2 cSt elStep rfl _ _ (by rfl) (w1.heap.size+1) _ L (s1,s2) 1 _ (by rfl) (HR5.out.row.alloc _) (by rfl) (heap_alloc_new _ _) rfl (cSt_one _) (by omega) (by omega) (by have:=HR5.out.blk.lt;simp;omega) ?_);intro g2 cp2 w9 hown3 hgr3 hat3 hlt3
                               have hal6:=(Below.refl w5.heap.size w5).alloc (Nat.le_refl _) (.cells #[.int .i64 s1,.bool s2] 74)
                               have HP:=Hd_ ((HR5.out.below hal6).push hown3 hgr3 hat3)
                               have HS9:=Hd_ (show Blk w9 w4.heap.size _ _ from (hgr3.block _ (by simp;omega) (fun e=>HNE.out e.symm)).trans (HBS.out.keep hal6))
                               have f1:=HP.out.1.frozen 1
                               have y9:w9.cell? ⟨w1.heap.size,1,none⟩=some (.slice A3 n3 c3):=HP.out.1.cell 1
                               have lp:=HP.out.1.lt
                               clear hal6 hown3 hgr3 hat3)
       have HW:=Hd_ HP.out.2
       have hbs:=HS9.out.far (p:=⟨w1.heap.size,1,none⟩) (by have:=HR4.out.blk.lt;simp only;omega) (.slice (some ⟨g2,0,none⟩) (L.length+1) cp2)
       generalize w9.setCell ⟨w1.heap.size,1,none⟩ (.slice (some ⟨g2,0,none⟩) (L.length+1) cp2)=w10 at *
       have d0:w10.cell? ⟨w4.heap.size,0,none⟩=some (.int .i64 s1):=hbs.cell 0
       have d1:w10.cell? ⟨w4.heap.size,1,none⟩=some (.bool s2):=hbs.cell 1
       have x0:w10.cell? ⟨w.heap.size,0,none⟩=some (.slice A1 n1 c1):=HW.out.box.cell 0
       have x1:w10.cell? ⟨w.heap.size,1,none⟩=some (.slice A2 n2 c2):=HW.out.box.cell 1
       clear f1 y9 lp hbs y1 HP HS9 HBS HNE
       go_wp2_with fail
       refine (specStepTo _ g (s1,s2) _ ((HGV.out.only HW.out.only (Nat.le_refl _) (.inr (Nat.le_refl _))).mono (Nat.zero_le _) HW.out.only.size)).mono ?_
       rintro e w11 ⟨rfl,hb11⟩
       have HW11:=Hd_ (HW.out.below hb11)
       clear hb11 d0 d1 x0 x1
       go_wp2_with fail
       go_roundw
       case rel =>
        refine ⟨n - 1,_,_,_,rfl,?_,?_,HW11.out⟩
        · congr 1;omega
        · simp;omega
       case measure=>simp [intOf];omega
end Go.Proofs.YtcnenpjaoalmeaaGreat
namespace Go.Proofs.YtcnenpjaoalmeaaGreat
open Go.ChangeShapes Go.WideShapes Go.ChangeAt Go.RowKit Go.Maps
theorem key3 {P:Program} {k:TypeId} {f0 f1 f2:Field} (hu:P.underlying k=some (.struct #[f0,f1,f2])) (h1:P.keyType k=true) (hc:P.cellsOf k=3) (h0:P.underlying f0.type=some (.int .i64)) (h0':P.underlying f1.type=some (.int .i64)) (h0'':P.underlying f2.type=some (.int .i64))
 (c0 : P.cellsOf f0.type = 1) (c1 : P.cellsOf f1.type = 1) (c2 : P.cellsOf f2.type = 1) (o0 : f0.offset = 0) (o1 : f1.offset = 1) (o2 : f2.offset = 2) (n0 : (f0.name != "_") = true) (n1 : (f1.name != "_") = true) (n2 : (f2.name != "_") = true) {n : Nat} (hn : P.types.size = n + 1)
 (x s f:Int) (hx:(Lit.int .i64 x).wf=true) (hs:(Lit.int .i64 s).wf=true) (hf:(Lit.int .i64 f).wf=true):keyOf P k (.agg #[.int .i64 x,.int .i64 s,.int .i64 f])=some (.string (keyBytes [.int .i64 x,.int .i64 s,.int .i64 f])):=by
 have h4:(Value.agg #[.int .i64 x,.int .i64 s,.int .i64 f]).formed P k=true:=by simp [Value.formed,hu,hc]
 simp only [bne_iff_ne,ne_eq] at n0 n1 n2
 simp [keyOf,hu,h1,h4,hn,Program.keyLits,hc,h0,h0',h0'',c0,c1,c2,o0,o1,o2,n0,n1,n2,hx,hs,hf,Value.cells]
theorem laidOutK:laidOutB Tryz.prog=true:=by kernel_rfl
theorem widePlace:(match Tryz.prog.underlying 62 with | some (.array _ _) | some (.struct _)=>true | _=>false)=true:=by rw [Tryz.underlying62]
theorem rowPlace:decide (62 < Tryz.prog.types.size)=true:=by kernel_rfl
theorem typePlace:Tryz.prog.keyTypeAt 5 62=true:=by kernel_rfl
set_option maxRecDepth 100000 in
theorem keyedPlace:Keyed Tryz.prog 62:=Keyed.of_law (deep_law_laid laidOutK (m:=5) (by decide) (of_decide_eq_true rowPlace) typePlace widePlace)
theorem sizeK:∃ n,Tryz.prog.types.size=n+1:=⟨Tryz.prog.types.size - 1,by have h:0 < Tryz.prog.types.size:=of_decide_eq_true (by kernel_rfl);omega⟩
def plKey (x s f:Int):Lit:=.string (keyBytes [.int .i64 x,.int .i64 s,.int .i64 f])
theorem keyTPlace:Tryz.prog.keyType 62=true:=by kernel_rfl
theorem cellsPlace:Tryz.prog.cellsOf 62=3:=by kernel_rfl
theorem cellsIntK:Tryz.prog.cellsOf 3=1:=by kernel_rfl
theorem keyPlace (x s f:Int) (hx:(Lit.int .i64 x).wf=true) (hs:(Lit.int .i64 s).wf=true) (hf:(Lit.int .i64 f).wf=true):keyOf Tryz.prog 62 (.agg #[.int .i64 x,.int .i64 s,.int .i64 f])=some (plKey x s f):=by
 obtain ⟨n,hn⟩:=sizeK
 exact key3 Tryz.underlying62 keyTPlace cellsPlace Tryz.underlying3 Tryz.underlying3 Tryz.underlying3 cellsIntK cellsIntK cellsIntK rfl rfl rfl (by decide) (by decide) (by decide) hn x s f hx hs hf
theorem plKey_inj {x s f x' s' f':Int} (hx:(Lit.int .i64 x).wf=true) (hs:(Lit.int .i64 s).wf=true) (hf:(Lit.int .i64 f).wf=true) (hx':(Lit.int .i64 x').wf=true) (hs':(Lit.int .i64 s').wf=true) (hf':(Lit.int .i64 f').wf=true) (h:plKey x s f=plKey x' s' f'):x=x'/\s=s'/\f=f':=by
 have h1:=keyPlace x s f hx hs hf
 have h2:=keyPlace x' s' f' hx' hs' hf'
 rw [<- h] at h2
 have h3:=keyedPlace.inj h1 h2
 injection h3 with h3
 simpa using h3
theorem wf_nat {x:Nat} (h:x<=9223372036854775807):(Lit.int .i64 (x:Int)).wf=true:=by
 have e1:IntKind.i64.min=-9223372036854775808:=by decide
 have e2:IntKind.i64.max=9223372036854775807:=by decide
 simp [Lit.wf,IntKind.wrap] <;> omega
abbrev Plc:=Nat × Nat × Nat
def plcOk (z:Plc):Prop:=z.1 < 5/\z.2.1 < 4096/\z.2.2<=60
structure MemD {H:Type} (g:Gr) (a:Au) (y:Int) (D:DataW H) (M:List Plc):Prop where
 map:IsMap D
 nod:M.Nodup
 rng:∀ z ∈ M,plcOk z
 has:∀ z:Plc,plcOk z->Maps.has D (plKey z.1 z.2.1 z.2.2)=decide (z ∈ M)
 val:∀ z ∈ M,D.atKey (plKey z.1 z.2.1 z.2.2) (.lit (.int .i64 0))=.lit (.int .i64 (cw g a y z.2.2 z.1 z.2.1:Nat))
theorem plKey_nat {z z':Plc} (h:plcOk z) (h':plcOk z') (e:plKey z.1 z.2.1 z.2.2=plKey z'.1 z'.2.1 z'.2.2):z=z':=by
 obtain ⟨x,s,f⟩:=z
 obtain ⟨x',s',f'⟩:=z'
 unfold plcOk at h h'
 simp only at h h' e
 obtain ⟨h1,h2,h3⟩:=plKey_inj (wf_nat (by omega)) (wf_nat (by omega)) (wf_nat (by omega)) (wf_nat (by omega)) (wf_nat (by omega)) (wf_nat (by omega)) e
 simp only [Prod.mk.injEq]
 omega
theorem MemD.empty {H:Type} (g:Gr) (a:Au) (y:Int):MemD g a y (.map []:DataW H) [] :=
 ⟨isMap_empty,List.nodup_nil,(fun z hz=>by cases hz),(fun z _=>by simp [Maps.has_eq]),(fun z hz=>by cases hz)⟩
theorem MemD.put {H:Type} {g:Gr} {a:Au} {y:Int} {D:DataW H} {M:List Plc} (h:MemD g a y D M) {z:Plc} (hz:plcOk z) (hn:z ∉ M) :
 MemD g a y (D.put (plKey z.1 z.2.1 z.2.2) (.lit (.int .i64 (cw g a y z.2.2 z.1 z.2.1:Nat)))) (M ++ [z]):=by
 refine ⟨h.map.put _ _,List.nodup_append.2 ⟨h.nod,by simp,fun b hb c hc e=>?_⟩,fun u hu=>?_,fun u hu=>?_,fun u hu=>?_⟩
 · rw [List.mem_singleton] at hc
   subst hc e
   exact hn hb
 · rcases List.mem_append.1 hu with hu | hu
   · exact h.rng u hu
   · rw [List.mem_singleton] at hu
     subst hu
     exact hz
 · by_cases e:u=z
   · subst e
     rw [Maps.has_put_same h.map (show WideAt.IsKeyLit (plKey u.1 u.2.1 u.2.2) from trivial)]
     simp
   · rw [Maps.has_put_other (fun e2=>e (plKey_nat hu hz e2)),h.has u hu,decide_eq_decide,List.mem_append,List.mem_singleton]
     exact ⟨.inl,fun h=>h.resolve_right e⟩
 · by_cases e:u=z
   · subst e
     rw [atKey_put_same h.map (show WideAt.IsKeyLit (plKey u.1 u.2.1 u.2.2) from trivial)]
   · have hu2:u ∈ M:=by
      rcases List.mem_append.1 hu with hu | hu
      · exact hu
      · rw [List.mem_singleton] at hu;exact absurd hu e
     rw [atKey_put_other (fun e2=>e (plKey_nat (h.rng u hu2) hz e2))]
     exact h.val u hu2
theorem MemD.len {H:Type} {g:Gr} {a:Au} {y:Int} {D:DataW H} {M:List Plc} (h:MemD g a y D M):M.length<=1249280:=by
 have h1:=nodup_subN (M.map fun z=>(z.1 * 4096+z.2.1) * 61+z.2.2) (List.range 1249280) ?_ ?_
 · simpa using h1
 · rw [List.Nodup,List.pairwise_map]
   refine List.Pairwise.imp_of_mem ?_ h.nod
   intro b c hb hc hne he
   refine hne ?_
   have hb:=h.rng b hb
   have hc:=h.rng c hc
   unfold plcOk at hb hc
   exact Prod.ext (by omega) (Prod.ext (by omega) (by omega))
 · intro u hu
   obtain ⟨z,hz,rfl⟩:=List.mem_map.1 hu
   have hz:=h.rng z hz
   unfold plcOk at hz
   rw [List.mem_range]
   omega
end Go.Proofs.YtcnenpjaoalmeaaGreat
namespace Go.Proofs.YtcnenpjaoalmeaaGreat
open Go.ChangeShapes Go.WideShapes Go.ChangeAt Go.RowKit Go.Maps
attribute [local go_sem] ext_cell ext_frozen ext_lt ext_lt1 ext_lt2 ext_lt3 ltn2 ltn3 ltn13 lts1 lts2 lts3
theorem ownsMap_at {H:Type} {P:Program} {k:TypeId} {R:Value->Option (DataW H × List MemPlace)} {w w':World} {b n:Nat} {D:DataW H} (h:w.ownsMap P k R b n D) (hb:w'.heap[b]?=w.heap[b]?):w'.ownsMap P k R b n D:=by
 obtain ⟨es,clock,h1,h2⟩:=h
 exact ⟨es,clock,hb.trans h1,h2⟩
/-- 'm[k] = v', at the operation -/
theorem op_mapUpdate_own {H:Type} {P:Program} (w:World) {o:Oper} {a:Act} {K:Act->World->Prop} {Q:Exit->Act->World->Prop}
 (m x v:Operand) (t:TypeId) (hop:o.op=Op.mapUpdate t m x v)
 (k e:TypeId) (KK:Keyed P k) (ht:P.underlying t=some (.map k e)) (R:Value->Option (DataW H × List MemPlace)) (b n:Nat) (D:DataW H)
 (hm:a.eval m=.map (some b)) (hown:w.ownsMap P k R b n D) (hn:n < maxLen) (key val:Value) (kl:Lit) (hx:a.eval x=key) (hv:a.eval v=val) (hkey:keyOf P k key=some kl)
 (d:DataW H) (ps:List MemPlace) (hval:R val=some (d,ps))
 (hK:∀ w',w'.ownsMap P k R b (n+1) (D.put kl d)->w.grownBy w' (some b)->K (a.put o.dst undef) w'):Oper.wp P o a w K Q:=by
 obtain ⟨w',hrun,r1,r2⟩:=hown.update KK ht hn hkey hval
 unfold Oper.wp
 simp [execOp,hop,hm,hx,hv,hrun,Result.andThen]
 exact hK w' r1 r2
/-- the counter in block bC; its memory is the map in block bM -/
def Ctr (g:Gr) (a:Au) (y:Int) (w:World) (bC bM:Nat):Prop :=
 ∃ (B lo hi:Nat) (A1 A2 A3 A4 A5:Option Addr) (c1 c2 c3 c4 c5:Nat),
   Blk w bC 87 #[.slice A1 g.vals.length c1,.slice A2 g.edges.length c2,.int .i64 a.start,.slice A3 a.accept.length c3,.slice A4 a.accept.length c4,.int .i64 y,.slice A5 g.vals.length c5,.map (some bM)] /\
   GrV 0 B w (.agg #[.slice A1 g.vals.length c1,.slice A2 g.edges.length c2]) g/\AuV 0 B w (.agg #[.int .i64 a.start,.slice A3 a.accept.length c3,.slice A4 a.accept.length c4]) a /\
   SSE lo hi w cA 4 (.slice A5 g.vals.length c5) ((List.range g.vals.length).map fun (x:Nat)=>arcsOf g (x:Int))/\B<=bM/\(hi<=bM ∨ bM < lo)/\hi<=w.heap.size/\B<=w.heap.size/\bC ≠ bM
theorem Ctr.only {g:Gr} {a:Au} {y:Int} {w w':World} {bC bM:Nat} (h:Ctr g a y w bC bM) (ho:Only bM (bM+1) w w'):Ctr g a y w' bC bM:=by
 obtain ⟨B,lo,hi,A1,A2,A3,A4,A5,c1,c2,c3,c4,c5,h1,h2,h3,h4,h5,h6,h7,h8,h9⟩:=h
 have hs:=ho.size
 exact ⟨B,lo,hi,A1,A2,A3,A4,A5,c1,c2,c3,c4,c5,h1.only ho (by omega),h2.only ho h8 (.inl h5),h3.only ho h8 (.inl h5),h4.only ho h7 (by omega),h5,h6,by omega,by omega,h9⟩
theorem Ctr.keep {g:Gr} {a:Au} {y:Int} {w w':World} {bC bM:Nat} (h:Ctr g a y w bC bM) (hb:Below w.heap.size w w'):Ctr g a y w' bC bM:=h.only (Only.of_below hb _ _)
theorem Ctr.lt {g:Gr} {a:Au} {y:Int} {w:World} {bC bM:Nat} (h:Ctr g a y w bC bM):bC < w.heap.size:=by
 obtain ⟨B,lo,hi,A1,A2,A3,A4,A5,c1,c2,c3,c4,c5,h1,-⟩:=h
 exact h1.lt
theorem valOf {g:Gr} (hgo:grOk g=true) {x:Nat} (hx:x < g.vals.length):∃ vx:Nat,g.vals[x]?=some (vx:Int)/\valAt g x=vx/\vx<=2:=by
 have hxi:g.vals[x]?=some g.vals[x]:=List.getElem?_eq_getElem hx
 have hvr:=(grOk_iff.1 hgo).vals _ (List.getElem_mem hx)
 obtain ⟨vx,hvx⟩:=Int.eq_ofNat_of_zero_le hvr.1
 refine ⟨vx,by rw [hxi,hvx],?_,by omega⟩
 have:=valAt_of hxi
 rw [this,hvx,Int.toNat_natCast]
/-- the memory, and what the counter's calls do to it: places of at most f steps come in -/
def Mem (g:Gr) (a:Au) (y:Int) (w:World) (bM:Nat) (M:List Plc):Prop:=∃ D:DataW Unit,w.ownsMap Tryz.prog 62 (plainElem Tryz.prog 3) bM M.length D/\MemD g a y D M
theorem Mem.keep {g:Gr} {a:Au} {y:Int} {w w':World} {bM:Nat} {M:List Plc} (h:Mem g a y w bM M) (hb:Below w.heap.size w w'):Mem g a y w' bM M:=by
 obtain ⟨D,h1,h2⟩:=h
 exact ⟨D,ownsMap_at h1 (hb.block _ h1.lt),h2⟩
def More (f:Nat) (M M':List Plc):Prop:=∃ T,M'=M ++ T/\∀ z ∈ T,z.2.2<=f
theorem More.refl (f:Nat) (M:List Plc):More f M M:=⟨[],by simp,fun z hz=>by cases hz⟩
theorem More.trans {f:Nat} {M M' M'':List Plc} (h:More f M M') (h':More f M' M''):More f M M'':=by
 obtain ⟨T,rfl,h1⟩:=h
 obtain ⟨T',rfl,h2⟩:=h'
 exact ⟨T ++ T',by rw [List.append_assoc],fun z hz=>by rcases List.mem_append.1 hz with h | h;exact h1 z h;exact h2 z h⟩
theorem More.mono {f f':Nat} {M M':List Plc} (h:More f M M') (hf:f<=f'):More f' M M':=by
 obtain ⟨T,h1,h2⟩:=h
 exact ⟨T,h1,fun z hz=>Nat.le_trans (h2 z hz) hf⟩
set_option maxHeartbeats 2000000 in
set_option maxRecDepth 100000 in
theorem next_any (g:Gr) (a:Au) (y:Int) (hgo:grOk g=true) (ha:auOk a=true) (bC bM x s lf l:Nat) (t:Int) (sid:Int) (sinv:Bool) (w:World) (hc:Ctr g a y w bC bM) (hx:x < g.vals.length) (hs:s < 2 ^ a.accept.length) (hlf:lf<=60) (hl:l < 9) :
 Calls Tryz.prog 53 #[.pointer (some ⟨bC,0,none⟩),.agg #[.int .i64 (x:Int),.int .i64 (s:Int),.int .i64 ((lf+1:Nat):Int)],.agg #[.int .i64 sid,.bool sinv,.int .i64 (l:Int),.int .i64 t]] w fun e w' =>
  e=.returned (.agg #[.int .i64 t,.int .i64 (aft a s (valAt g x) l:Nat),.int .i64 (lf:Int)])/\Below w.heap.size w w':=by
 obtain ⟨B,lo,hi,A1,A2,A3,A4,A5,c1,c2,c3,c4,c5,hbk,hgv,hav,hlv,h5,h6,h7,h8,h9⟩:=hc
 obtain ⟨vx,hxi,hva,hvx⟩:=valOf hgo hx
 obtain ⟨vs,es,hag,h1,-⟩:=hgv
 injection hag with hag
 simp at hag
 obtain ⟨rfl,rfl⟩:=hag
 obtain ⟨b1,o1,rfl,-,hb1,dv⟩:=h1.intI hxi
 have hs4:=lt12 ha hs
 rw [hva]
 have z0:w.cell? ⟨bC,0,none⟩=some (.slice (some ⟨b1,o1,none⟩) g.vals.length c1):=hbk.cell 0
 have z2:w.cell? ⟨bC,2,none⟩=some (.int .i64 a.start):=hbk.cell 2
 have z3:w.cell? ⟨bC,3,none⟩=some (.slice A3 a.accept.length c3):=hbk.cell 3
 have z4:w.cell? ⟨bC,4,none⟩=some (.slice A4 a.accept.length c4):=hbk.cell 4
 have lC:=hbk.lt
 have hb1w:b1 < w.heap.size:=by omega
 have hxx:(x:Int) < (g.vals.length:Int):=by omega
 have HAF:=Hd_ (fun (W:World) (hW:Below w.heap.size w W)=>after_any _ a s vx l W ((hav.mono (Nat.le_refl _) h8).keep hW) ha hs hvx hl)
 obtain ⟨M,hM⟩:∃ M,M=aft a s vx l:=⟨_,rfl⟩
 rw [<- hM] at HAF ⊢
 obtain ⟨L1,hL1⟩:∃ L1,L1=lf+1:=⟨_,rfl⟩
 rw [<- hL1]
 have hL1a:lf+1<=L1:=by omega
 have hL1b:L1<=lf+1:=by omega
 have ql:IntKind.i64.wrap ((L1:Int) - 1)=(lf:Int):=by rw [IntWalk.i64_in _ (by omega)];omega
 clear hbk hav hlv h1 hxi hva hM hL1 hgo ha
 have lts:∀ b,b < w.heap.size->b < w.heap.size+1+1+1:=fun b h=>by omega
 have lC1:bC < w.heap.size+1:=by omega
 have lC2:bC < w.heap.size+1+1:=by omega
 have lC3:bC < w.heap.size+1+1+1:=by omega
 have lb1:b1 < w.heap.size+1:=by omega
 have lb2:b1 < w.heap.size+1+1:=by omega
 have lb3:b1 < w.heap.size+1+1+1:=by omega
 clear lts
 go_enter Tryz.func53,Tryz.ntmps53
 go_wp2_with fail
 refine wp_region_ext_tail 24 (by kernel_rfl) (by kernel_rfl) ?_
 simp only [List.take_succ_cons,List.take_zero]
 repeat (go_big_quiet_step ((go_at_call 83;exact Calls.ext_of (HAF.out _ (by repeat (first | exact Below.refl _ _ | assumption | refine Below.alloc ?_ (by simp <;> omega) _ | refine Below.drew ?_ | refine below_ext ?_ (by simp <;> omega) _ | exact ext_below _ _))))))
 refine wpQuiet_nil ?_
 rintro _ ⟨u2,rfl⟩
 simp only [List.drop_succ_cons,List.drop_zero]
 go_wp2_with fail
 refine bodyPost_ret (v:=.agg #[.int .i64 t,.int .i64 (M:Int),.int .i64 (lf:Int)]) (by simp [results,Tryz.results53,go_sem]) rfl ⟨rfl,?_⟩
 repeat (first | exact Below.refl _ _ | refine Below.setCell ?_ (by simp <;> omega) _ | refine Below.alloc ?_ (by simp <;> omega) _ | refine below_ext ?_ (by simp <;> omega) _)
theorem cw_zeroS (g:Gr) (a:Au) (y:Int) (x s vx:Nat) (h:valAt g x=vx):cw g a y 0 x s=if (decide ((x:Int)=y) && acc a s vx)=true then 1 else 0:=by rw [cw,h]
/-- what a call leaves -/
def Left (g:Gr) (a:Au) (y:Int) (f:Nat) (M:List Plc) (bM:Nat) (w w':World):Prop:=Only bM (bM+1) w w'/\∃ M',Mem g a y w' bM M'/\More f M M'
theorem Left.of_below {g:Gr} {a:Au} {y:Int} {f:Nat} {M:List Plc} {bM:Nat} {w w':World} (hm:Mem g a y w bM M) (hb:Below w.heap.size w w'):Left g a y f M bM w w' :=
 ⟨Only.of_below hb _ _,M,hm.keep hb,More.refl _ _⟩
theorem Mem.bound {g:Gr} {a:Au} {y:Int} {w:World} {bM:Nat} {M:List Plc} (h:Mem g a y w bM M):M.length < maxLen:=by
 obtain ⟨D,_,h2⟩:=h
 have:=h2.len
 unfold maxLen;omega
theorem Mem.lt {g:Gr} {a:Au} {y:Int} {w:World} {bM:Nat} {M:List Plc} (h:Mem g a y w bM M):bM < w.heap.size:=by
 obtain ⟨D,h1,_⟩:=h
 exact h1.lt
theorem keyOfPlc {z:Plc} (hz:plcOk z):keyOf Tryz.prog 62 (.agg #[.int .i64 (z.1:Int),.int .i64 (z.2.1:Int),.int .i64 (z.2.2:Int)])=some (plKey z.1 z.2.1 z.2.2):=by
 unfold plcOk at hz
 exact keyPlace _ _ _ (wf_nat (by omega)) (wf_nat (by omega)) (wf_nat (by omega))
theorem litI_inj {H:Type} {a b:Int} (h:(DataW.lit (.int .i64 a):DataW H)=.lit (.int .i64 b)):a=b:=by
 injection h with h
 injection h
/-- the look-up, at each world that keeps the memory -/
theorem Mem.look {g:Gr} {a:Au} {y:Int} {w:World} {bM:Nat} {M:List Plc} (h:Mem g a y w bM M) {z:Plc} (hz:plcOk z) :
 (Instr.lookup 85 (.map (some bM)) (.agg #[.int .i64 (z.1:Int),.int .i64 (z.2.1:Int),.int .i64 (z.2.2:Int)]) true).run Tryz.prog w =
  .ok (.tuple #[.int .i64 (if z ∈ M then (cw g a y z.2.2 z.1 z.2.1:Int) else 0),.bool (decide (z ∈ M))]) w:=by
 obtain ⟨D,h1,h2⟩:=h
 obtain ⟨v,ps,hrun,hv⟩:=h1.look_ok keyedPlace Tryz.underlying85 (Tryz.zeroValue3 _) (plainElem_int Tryz.underlying3 (by decide)) (keyOfPlc hz)
 obtain ⟨c,rfl,hc,-⟩:=plainElem_int_inv Tryz.underlying3 hv
 have hc:=congrArg Prod.fst hc
 simp only at hc
 have hh:=h2.has z hz
 rw [hh] at hrun
 rw [hrun]
 by_cases hm:z ∈ M
 · rw [if_pos hm,<- litI_inj ((h2.val z hm).symm.trans hc)]
 · have h3:=Maps.atKey_of_not_has (show Maps.has D (plKey z.1 z.2.1 z.2.2)=false by rw [hh];exact decide_eq_false hm) (.lit (.int .i64 0))
   rw [if_neg hm,<- litI_inj (h3.symm.trans hc)]
set_option maxHeartbeats 8000000 in
set_option maxRecDepth 100000 in
theorem count_any (g:Gr) (a:Au) (y:Int) (hgo:grOk g=true) (ha:auOk a=true) (bC bM:Nat):∀ (lf x s:Nat) (M:List Plc) (w:World),Ctr g a y w bC bM->Mem g a y w bM M->x < g.vals.length->s < 2 ^ a.accept.length->lf<=60 ->
 Calls Tryz.prog 40 #[.pointer (some ⟨bC,0,none⟩),.agg #[.int .i64 (x:Int),.int .i64 (s:Int),.int .i64 (lf:Int)]] w fun e w'=>e=.returned (.int .i64 (cw g a y lf x s:Nat))/\Left g a y lf M bM w w':=by
 intro lf
 induction lf with
 | zero =>
   intro x s M w hc hm hx hs hlf
   have HM:=Hd_ hm
   have hb0:Below w.heap.size w (w.alloc (.cells #[.int .i64 (x:Int),.int .i64 (s:Int),.int .i64 0] 62)):=(Below.refl _ _).alloc (Nat.le_refl _) _
   by_cases hs0:s=0
   · have HR:=Hd_ (show cw g a y 0 x s=0 by rw [hs0,cw_none])
     subst hs0
     clear hc hm hgo ha
     go_enter Tryz.func40,Tryz.ntmps40
     go_wp2_with fail
     go_ret
     exact ⟨by rw [HR.out];rfl,Left.of_below HM.out hb0⟩
   · obtain ⟨B,lo,hi,A1,A2,A3,A4,A5,c1,c2,c3,c4,c5,hbk,hgv,hav,hlv,h5,h6,h7,h8,h9⟩:=hc
     obtain ⟨vx,hxi,hva,hvx⟩:=valOf hgo hx
     obtain ⟨vs,es,hag,h1,-⟩:=hgv
     injection hag with hag
     simp at hag
     obtain ⟨rfl,rfl⟩:=hag
     obtain ⟨b1,o1,rfl,-,hb1,dv⟩:=h1.intI hxi
     have hs4:=lt12 ha hs
     have z0:w.cell? ⟨bC,0,none⟩=some (.slice (some ⟨b1,o1,none⟩) g.vals.length c1):=hbk.cell 0
     have z2:w.cell? ⟨bC,2,none⟩=some (.int .i64 a.start):=hbk.cell 2
     have z3:w.cell? ⟨bC,3,none⟩=some (.slice A3 a.accept.length c3):=hbk.cell 3
     have z4:w.cell? ⟨bC,4,none⟩=some (.slice A4 a.accept.length c4):=hbk.cell 4
     have z5:w.cell? ⟨bC,5,none⟩=some (.int .i64 y):=hbk.cell 5
     have lC:=hbk.lt
     have lC1:bC < w.heap.size+1:=by omega
     have hb1w:b1 < w.heap.size:=by omega
     have hb1w1:b1 < w.heap.size+1:=by omega
     have hxx:(x:Int) < (g.vals.length:Int):=by omega
     have HEND:=Hd_ (fun (W:World) (hW:Below w.heap.size w W)=>acceptsAt_any _ a s vx W ((hav.mono (Nat.le_refl _) h8).keep hW) ha hs hvx)
     have hne:((s:Int)==0)=false:=by simp;omega
     have hne2:decide ((s:Int)=0)=false:=by simp;omega
     have HC0:=Hd_ (cw_zeroS g a y x s vx hva)
     clear hbk hav hlv h1 hxi hva hgo ha hm
     by_cases hxy:(x:Int)=y
     · have hd:decide ((x:Int)=y)=true:=decide_eq_true hxy
       have hd2:((x:Int)==y)=true:=by simp [hxy]
       have hbb:=HC0.out
       rw [hd,Bool.true_and] at hbb
       generalize acc a s vx=bb at *
       cases bb with
       | true =>
         have HBB:=Hd_ (hbb.trans (if_pos rfl))
         clear hxy HC0 hbb
         go_enter Tryz.func40,Tryz.ntmps40
         go_wp2_with fail
         refine wp_region_ext_lit (by kernel_rfl) (by kernel_rfl) ?_
         repeat (go_big_quiet_step ((go_at_call 70;exact Calls.ext_of (HEND.out _ (below_trans hb0 (ext_below _ _))))))
         refine wpQuiet_nil ?_
         rintro _ ⟨u2,rfl⟩
         go_wp2_with fail
         go_ret
         exact ⟨by rw [HBB.out];rfl,Left.of_below HM.out (below_trans hb0 (ext_below _ _))⟩
       | false =>
         have HBB:=Hd_ (hbb.trans (if_neg (by simp)))
         clear hxy HC0 hbb
         go_enter Tryz.func40,Tryz.ntmps40
         go_wp2_with fail
         refine wp_region_ext_lit (by kernel_rfl) (by kernel_rfl) ?_
         repeat (go_big_quiet_step ((go_at_call 70;exact Calls.ext_of (HEND.out _ (below_trans hb0 (ext_below _ _))))))
         refine wpQuiet_nil ?_
         rintro _ ⟨u2,rfl⟩
         go_wp2_with fail
         go_ret
         exact ⟨by rw [HBB.out];rfl,Left.of_below HM.out (below_trans hb0 (ext_below _ _))⟩
     · have hd:decide ((x:Int)=y)=false:=decide_eq_false hxy
       have hd2:((x:Int)==y)=false:=by simp [hxy]
       have HBB:=Hd_ (show cw g a y 0 x s=0 from HC0.out.trans (by rw [hd,Bool.false_and];simp))
       clear hxy HC0
       go_enter Tryz.func40,Tryz.ntmps40
       go_wp2_with fail
       refine wp_region_ext_lit (by kernel_rfl) (by kernel_rfl) ?_
       repeat (go_big_quiet_step (fail))
       refine wpQuiet_nil ?_
       rintro _ ⟨u2,rfl⟩
       go_wp2_with fail
       go_ret
       exact ⟨by rw [HBB.out];rfl,Left.of_below HM.out (below_trans hb0 (ext_below _ _))⟩
 | succ lf ih =>
   intro x s M w hc hm hx hs hlf
   obtain ⟨L1,hL1⟩:∃ L1,L1=lf+1:=⟨_,rfl⟩
   have HNX:=Hd_ (fun (l:Nat) (t sid:Int) (sinv:Bool) (W:World) (hW:Ctr g a y W bC bM) (hl:l < 9)=>next_any g a y hgo ha bC bM x s lf l t sid sinv W hW hx hs (by omega) hl)
   rw [<- hL1] at hlf HNX ⊢
   have hL1a:lf+1<=L1:=by omega
   have hL1b:L1<=lf+1:=by omega
   have HM:=Hd_ hm
   have HCT:=Hd_ hc
   have hbMw:=hm.lt
   have hbCM:bC ≠ bM:=by obtain ⟨_,_,_,_,_,_,_,_,_,_,_,_,_,h⟩:=hc;exact h.2.2.2.2.2.2.2.2
   have hb0:Below w.heap.size w (w.alloc (.cells #[.int .i64 (x:Int),.int .i64 (s:Int),.int .i64 (L1:Int)] 62)):=(Below.refl _ _).alloc (Nat.le_refl _) _
   have hs4:=lt12 ha hs
   have hn5:=(grOk_iff.1 hgo).n5
   by_cases hs0:s=0
   · have HR:=Hd_ (show cw g a y L1 x s=0 by rw [hs0,cw_none])
     subst hs0
     clear hc hm hgo ha ih hL1 HNX
     go_enter Tryz.func40,Tryz.ntmps40
     go_wp2_with fail
     go_ret
     exact ⟨by rw [HR.out];rfl,Left.of_below HM.out hb0⟩
   · have hz:plcOk (x,s,L1):=⟨by simp only;omega,by simp only;omega,by simp only;omega⟩
     have hlk:∀ u,(Instr.lookup 85 (.map (some bM)) (.agg #[.int .i64 (x:Int),.int .i64 (s:Int),.int .i64 (L1:Int)]) true).run Tryz.prog (ext (w.alloc (.cells #[.int .i64 (x:Int),.int .i64 (s:Int),.int .i64 (L1:Int)] 62)) u) =
      .ok (.tuple #[.int .i64 (if (x,s,L1) ∈ M then (cw g a y L1 x s:Int) else 0),.bool (decide ((x,s,L1) ∈ M))]) (ext (w.alloc (.cells #[.int .i64 (x:Int),.int .i64 (s:Int),.int .i64 (L1:Int)] 62)) u) :=
      fun u=>((hm.keep hb0).keep (ext_below _ u)).look hz
     obtain ⟨B,lo,hi,A1,A2,A3,A4,A5,c1,c2,c3,c4,c5,hbk,hgv,hav,hlv,h5,h6,h7,h8,h9⟩:=hc
     have z7:w.cell? ⟨bC,7,none⟩=some (.map (some bM)):=hbk.cell 7
     have z6:w.cell? ⟨bC,6,none⟩=some (.slice A5 g.vals.length c5):=hbk.cell 6
     have lC:=hbk.lt
     have lC1:bC < w.heap.size+1:=by omega
     have hne:((s:Int)==0)=false:=by simp;omega
     have hne2:decide ((s:Int)=0)=false:=by simp;omega
     have hl0:((L1:Int)==0)=false:=by simp;omega
     have hl1:decide ((L1:Int)=0)=false:=by simp;omega
     by_cases hmem:(x,s,L1) ∈ M
     · rw [if_pos hmem,decide_eq_true hmem] at hlk
       generalize cw g a y L1 x s=C at *
       clear hbk hgv hav hlv hgo ha ih hL1 HNX hm hmem hz
       go_enter Tryz.func40,Tryz.ntmps40
       go_wp2_with fail
       refine wp_region_ext_lit (by kernel_rfl) (by kernel_rfl) ?_
       repeat (go_big_quiet_step (fail))
       refine wpQuiet_nil ?_
       rintro _ ⟨u2,rfl⟩
       go_wp2_with fail
       go_ret
       exact ⟨rfl,Left.of_below HM.out (below_trans hb0 (ext_below _ _))⟩
     · rw [if_neg hmem,decide_eq_false hmem] at hlk
       have HNM:=Hd_ hmem
       have HZ:=Hd_ hz
       have hA5:∃ b5 o5,A5=some ⟨b5,o5,none⟩/\b5 < w.heap.size/\∃ A7 c7,w.cell? ⟨b5,o5+x,none⟩=some (.slice A7 (arcsOf g (x:Int)).length c7)/\(arcsOf g (x:Int)).length<=c7/\c7<=9223372036854775807/\SlI lo hi w cA 4 (.slice A7 (arcsOf g (x:Int)).length c7) (arcsOf g (x:Int)):=by
        obtain ⟨b5,o5,A7,c7,e1,e2,e3,e4,e5,e6,e7,-⟩:=hlv.row h7 (i:=x) (xs:=arcsOf g (x:Int)) (by simp [hx])
        exact ⟨b5,o5,e1,by omega,A7,c7,e4,e5,e6,e7⟩
       obtain ⟨b5,o5,rfl,hb5,A7,c7,d5,hl7,hm7,hI7⟩:=hA5
       have hal:=arcs_len (grOk_iff.1 hgo) (x:Int)
       have hxx:(x:Int) < (g.vals.length:Int):=by omega
       have hb51:b5 < w.heap.size+1:=by omega
       have HI7:=Hd_ hI7
       have HREC:=Hd_ ih
       have HGO:=Hd_ hgo
       have HA:=Hd_ ha
       have HALL:=Hd_ (cwTo_all g a y lf x s)
       rw [<- hL1] at HALL
       have HL:=Hd_ hL1
       clear hbk hgv hav hlv hgo ha ih hL1 hm hmem hz hI7
       go_enter Tryz.func40,Tryz.ntmps40
       go_upto_region 7 with fail
       refine wp_region_ext_lit (by kernel_rfl) (by kernel_rfl) ?_
       repeat (go_big_quiet_step (fail))
       refine wpQuiet_nil ?_
       rintro _ ⟨u2,rfl⟩
       clear hlk
       go_upto_region 11 with fail
       refine wp_region_ext_lit (by kernel_rfl) (by kernel_rfl) ?_
       repeat (go_big_quiet_step (fail))
       refine wpQuiet_nil ?_
       rintro _ ⟨u3,rfl⟩
       go_wp2_with fail
       obtain ⟨W1,hW1⟩:∃ W1,W1=ext (ext (w.alloc (.cells #[.int .i64 (x:Int),.int .i64 (s:Int),.int .i64 (L1:Int)] 62)) u2) u3:=⟨_,rfl⟩
       have hbU:=below_trans (ext_below (w.alloc (.cells #[.int .i64 (x:Int),.int .i64 (s:Int),.int .i64 (L1:Int)] 62)) u2) (ext_below _ u3)
       have hbW:=below_trans hb0 hbU
       rw [<- hW1] at hbU hbW ⊢
       have e0:W1.cell? ⟨w.heap.size,0,none⟩=some (.int .i64 (x:Int)):=kcell hbU (by simp)
       have e1:W1.cell? ⟨w.heap.size,1,none⟩=some (.int .i64 (s:Int)):=kcell hbU (by simp)
       have e2:W1.cell? ⟨w.heap.size,2,none⟩=some (.int .i64 (L1:Int)):=kcell hbU (by simp)
       have lE:w.heap.size < W1.heap.size:=by have:=hbU.size;simp at this;omega
       have HM1:=Hd_ (HM.out.keep hbW)
       have HC1:=Hd_ (HCT.out.keep hbW)
       have z7:=kcell hbW z7
       have HBW:=Hd_ hbW
       clear hW1 hbU hbW d5 z6 hb0 HCT lC1 hb51
       go_loopw [7,61] (fun nn ii wr=>∃ (i:Nat) (M':List Plc),i<=(arcsOf g (x:Int)).length/\ii=.int .i64 (i:Int)/\nn=.int .i64 (cwTo g a y lf x s i:Nat)/\Only bM (bM+1) W1 wr/\Mem g a y wr bM M'/\More lf M M') (fun _ ii _=>(arcsOf g (x:Int)).length - (intOf ii).toNat)
       case atStart=>exact ⟨0,M,Nat.zero_le _,rfl,rfl,Only.refl _ _ _,HM1.out,More.refl _ _⟩
       case round =>
        clear HM1
        obtain ⟨i,M',hi,rfl,rfl,hon,hmm,hmo⟩:=hrel
        have hsz:=hon.size
        have e0:=ocell hon e0 lE (.inr (by omega))
        have e1:=ocell hon e1 lE (.inr (by omega))
        have e2:=ocell hon e2 lE (.inr (by omega))
        have lEr:w.heap.size < wr.heap.size:=by omega
        have HON:=Hd_ hon
        have HMM:=Hd_ hmm
        have HMO:=Hd_ hmo
        have hcle:=cwTo_le g a y lf x s i
        by_cases hlt:i < (arcsOf g (x:Int)).length
        · have hyi:(arcsOf g (x:Int))[i]?=some (arcsOf g (x:Int))[i]:=List.getElem?_eq_getElem hlt
          have hyr:=arc_range (grOk_iff.1 HGO.out) (List.getElem_mem hlt)
          generalize (arcsOf g (x:Int))[i]=p at hyi hyr
          obtain ⟨⟨sid,sinv⟩,l,t⟩:=p
          simp only at hyr
          obtain ⟨l,rfl⟩:=Int.eq_ofNat_of_zero_le hyr.1.1
          obtain ⟨t,rfl⟩:=Int.eq_ofNat_of_zero_le hyr.2.1
          obtain ⟨b7,o7,rfl,hb7l,hb7,k0,k1,k2,k3⟩:=HI7.out.arc hyi
          simp only at k0 k1 k2 k3
          have hb7M:b7 < bM ∨ bM+1<=b7:=by omega
          have hb71:=Nat.lt_of_lt_of_le (show b7 < w.heap.size by omega) HBW.out.size
          have k0:=ocell hon (kcell HBW.out k0) hb71 hb7M
          have k1:=ocell hon (kcell HBW.out k1) hb71 hb7M
          have k2:=ocell hon (kcell HBW.out k2) hb71 hb7M
          have k3:=ocell hon (kcell HBW.out k3) hb71 hb7M
          have hb7w:b7 < wr.heap.size:=by omega
          have hts:cwTo g a y lf x s (i+1)=min 1000000 (cwTo g a y lf x s i+cw g a y lf t (aft a s (valAt g x) l)):=by
           rw [cwTo_succ hyi,cwStep];simp
          have hAF:=aft_lt HA.out s (valAt g x) l
          have hcl2:=cw_le g a y lf t (aft a s (valAt g x) l)
          have HNC:=Hd_ (fun (W:World) (hW:Ctr g a y W bC bM)=>HNX.out l (t:Int) sid sinv W hW (by omega))
          have HRC:=Hd_ (fun (W:World) (h1:Ctr g a y W bC bM) (h2:Mem g a y W bM M')=>HREC.out t (aft a s (valAt g x) l) M' W h1 h2 (by omega) hAF (by omega))
          generalize aft a s (valAt g x) l=AF at *
          have hbE:Below wr.heap.size wr (wr.alloc (.cells #[.int .i64 sid,.bool sinv,.int .i64 (l:Int),.int .i64 (t:Int)] 89)):=(Below.refl _ _).alloc (Nat.le_refl _) _
          have hii:(i:Int) < ((arcsOf g (x:Int)).length:Int):=by omega
          have HTS:=Hd_ hts
          clear hts hyi hon hmm hmo
          generalize cwTo g a y lf x s i=m1 at *
          generalize cw g a y lf t AF=CC at *
          go_wp2_with fail
          refine (HNC.out _ ((HC1.out.only HON.out).keep hbE)).mono ?_
          rintro en w3 ⟨rfl,hb3⟩
          have hb3':=below_trans hbE hb3
          have HC3:=Hd_ ((HC1.out.only HON.out).keep hb3')
          have HM3:=Hd_ (HMM.out.keep hb3')
          have HO3:=Hd_ (HON.out.trans (Only.of_below hb3' bM (bM+1)))
          clear hb3 hb3' k0 k1 k2 k3
          go_wp2_with fail
          refine (HRC.out _ HC3.out HM3.out).mono ?_
          rintro en w4 ⟨rfl,hon4,M4,hm4,hmo4⟩
          have HO4:=Hd_ (HO3.out.trans hon4)
          have HM4:=Hd_ hm4
          have HMO4:=Hd_ (HMO.out.trans hmo4)
          clear hon4 hm4 hmo4
          go_wp2_with fail
          go_roundw
          case rel=>exact ⟨i+1,M4,by omega,by go_num,by rw [HTS.out];exact congrArg (Value.int IntKind.i64) (by first | omega | (split <;> omega)),HO4.out,HM4.out,HMO4.out⟩
          case measure=>simp [intOf];omega
        · obtain rfl:i=(arcsOf g (x:Int)).length:=by omega
          rw [HALL.out] at hcle ⊢
          generalize hCW:cw g a y L1 x s=CW at *
          have z7:=ocell hon z7 (by omega) (by omega)
          have lCr:bC < wr.heap.size:=by omega
          have HCW:=Hd_ hCW
          clear hon hmm hmo hCW HALL
          go_upto_region 16 with fail
          refine F_start 6 (fun w'=>w'.cell? ⟨bC,7,none⟩=some (.map (some bM))/\w'.cell? ⟨w.heap.size,0,none⟩=some (.int .i64 (x:Int))/\w'.cell? ⟨w.heap.size,1,none⟩=some (.int .i64 (s:Int))/\w'.cell? ⟨w.heap.size,2,none⟩=some (.int .i64 (L1:Int))) (by kernel_rfl) (by exact ⟨z7,e0,e1,e2⟩) (fun hS inv=>?_)
          refine F_tk 0 inv ?_
          try simp only [tA,tB,tC,Act.put,tE,tF,tG]
          clear inv;intro inv
          refine F_tk 1 inv ?_
          try simp only [tA,tB,tC,Act.put,tE,tF,tG]
          clear inv;intro inv
          refine F_tk 2 inv ?_
          try simp only [tA,tB,tC,Act.put,tE,tF,tG]
          clear inv;intro inv
          refine F_tk 3 inv ?_
          try simp only [tA,tB,tC,Act.put,tE,tF,tG]
          clear inv;intro inv
          refine F_tk 4 inv ?_
          try simp only [tA,tB,tC,Act.put,tE,tF,tG]
          clear inv;intro inv
          refine F_tk 5 inv ?_
          try simp only [tA,tB,tC,Act.put,tE,tF,tG]
          clear inv;intro inv
          obtain ⟨D',hD1,hD2⟩:=HMM.out
          have hln:=hD2.len
          have hnz:(x,s,L1) ∉ M':=by
           obtain ⟨T,hT,hTl⟩:=HMO.out
           rw [hT,List.mem_append]
           rintro (h | h)
           · exact HNM.out h
           · have:=hTl _ h;simp only at this;omega
          refine F_l1 6 ?_;intro K hK
          refine op_mapUpdate_own _ _ _ _ _ rfl _ _ keyedPlace Tryz.underlying85 (plainElem Tryz.prog 3) _ _ _ (by rfl) hD1.drew (by unfold maxLen;omega) _ _ _ (by rfl) (by rfl) (keyOfPlc HZ.out) _ _ (plainElem_int Tryz.underlying3 (wf_nat (by omega))) ?_
          intro w9 hown9 hgr9
          refine hK _ _ ?_
          clear hK K inv hS
          try simp only [tA,tB,tC,Act.put,tE,tF,tG]
          have hput:=hD2.put HZ.out hnz
          simp only at hput
          rw [HCW.out] at hput
          have hm9:Mem g a y w9 bM (M' ++ [(x,s,L1)]):=⟨_,by rw [List.length_append];exact hown9,hput⟩
          have ho9:Only bM (bM+1) wr w9:=⟨hgr9.os,hgr9.tape,hgr9.output,hgr9.size,fun n hn ho=>hgr9.block n hn (fun e=>by injection e with e;omega)⟩
          have HO9:=Hd_ ((Only.of_below HBW.out bM (bM+1)).trans (HON.out.trans ho9))
          have HM9:=Hd_ hm9
          have HMO9:=Hd_ (show More L1 M (M' ++ [(x,s,L1)]) from (HMO.out.mono (by omega)).trans ⟨[(x,s,L1)],rfl,fun z hz=>by rw [List.mem_singleton] at hz;subst hz;exact Nat.le_refl _⟩)
          clear hown9 hgr9 hm9 ho9 hput hnz hD1 hD2
          go_wp2_with fail
          go_ret
          exact ⟨by rw [HCW.out];rfl,HO9.out,_,HM9.out,HMO9.out⟩
theorem Mem.new (g:Gr) (a:Au) (y:Int) (w:World):Mem g a y (w.alloc (.map #[] 0)) w.heap.size []:=⟨.map [],World.ownsMap_made w _ _ _,MemD.empty g a y⟩
set_option maxHeartbeats 4000000 in
set_option maxRecDepth 100000 in
theorem newCounter_any (v1 v2:Value) (g:Gr) (a:Au) (y:Int) (w:World) (hgv:GrV 0 w.heap.size w v1 g) (hav:AuV 0 w.heap.size w v2 a) (hgo:grOk g=true) (ha:auOk a=true) :
 Calls Tryz.prog 38 #[v1,v2,.int .i64 y] w fun e w'=>∃ bC bM,e=.returned (.pointer (some ⟨bC,0,none⟩))/\w.heap.size<=bM/\Ctr g a y w' bC bM/\Mem g a y w' bM []/\Below w.heap.size w w':=by
 have hgv0:=hgv
 have hav0:=hav
 obtain ⟨A1,c1,A2,c2,rfl,hl1,hm1,hl2,hm2,-,-⟩:=hgv.form
 obtain ⟨A3,c3,A4,c4,rfl,hl3,hm3,hl4,hm4,-⟩:=hav.form ha
 have hb0:Below w.heap.size w ((w.alloc (.cells #[.slice A1 g.vals.length c1,.slice A2 g.edges.length c2] 27)).alloc (.cells #[.int .i64 a.start,.slice A3 a.accept.length c3,.slice A4 a.accept.length c4] 31)):=((Below.refl _ _).alloc (Nat.le_refl _) _).alloc (by simp) _
 have HGV:=Hd_ hgv0
 have HAV:=Hd_ hav0
 have HAR:=Hd_ (fun (W:World) (hW:Below w.heap.size w W)=>arcs_any _ g W (HGV.out.keep hW) (grOk_iff.1 hgo))
 clear hgv hav hgv0 hav0 hgo ha
 have hmm:=@run_makeMap Tryz.prog
 go_enter Tryz.func38,Tryz.ntmps38
 go_upto_region 1 with fail
 obtain ⟨W0,hW0⟩:∃ W0,W0=((w.alloc (.cells #[.slice A1 g.vals.length c1,.slice A2 g.edges.length c2] 27)).alloc (.cells #[.int .i64 a.start,.slice A3 a.accept.length c3,.slice A4 a.accept.length c4] 31)):=⟨_,rfl⟩
 rw [<- hW0] at hb0 ⊢
 have x0:W0.cell? ⟨w.heap.size,0,none⟩=some (.slice A1 g.vals.length c1):=by rw [hW0];simp
 have x1:W0.cell? ⟨w.heap.size,1,none⟩=some (.slice A2 g.edges.length c2):=by rw [hW0];simp
 have y0:W0.cell? ⟨w.heap.size+1,0,none⟩=some (.int .i64 a.start):=by rw [hW0];simp
 have y1:W0.cell? ⟨w.heap.size+1,1,none⟩=some (.slice A3 a.accept.length c3):=by rw [hW0];simp
 have y2:W0.cell? ⟨w.heap.size+1,2,none⟩=some (.slice A4 a.accept.length c4):=by rw [hW0];simp
 have hs0:w.heap.size+1+1=W0.heap.size:=by rw [hW0];simp
 try rw [hs0]
 have l0:w.heap.size+1 < W0.heap.size:=by omega
 have l00:w.heap.size < W0.heap.size:=by omega
 clear hW0 hs0
 have hbD:=below_trans hb0 ((Below.refl W0.heap.size W0).drew)
 refine F_start 7 (fun w'=>w'.cell? ⟨w.heap.size,0,none⟩=some (.slice A1 g.vals.length c1)/\w'.cell? ⟨w.heap.size,1,none⟩=some (.slice A2 g.edges.length c2)/\w'.cell? ⟨w.heap.size+1,0,none⟩=some (.int .i64 a.start)/\w'.cell? ⟨w.heap.size+1,1,none⟩=some (.slice A3 a.accept.length c3)/\w'.cell? ⟨w.heap.size+1,2,none⟩=some (.slice A4 a.accept.length c4)) (by kernel_rfl) (by exact ⟨x0,x1,y0,y1,y2⟩) (fun hS inv=>?_)
 refine F_tk 0 inv ?_
 try simp only [tA,tB,tC,Act.put,tE,tF,tG]
 clear inv;intro inv
 refine F_tk 1 inv ?_
 try simp only [tA,tB,tC,Act.put,tE,tF,tG]
 clear inv;intro inv
 refine F_tk 2 inv ?_
 try simp only [tA,tB,tC,Act.put,tE,tF,tG]
 clear inv;intro inv
 refine F_tk 3 inv ?_
 try simp only [tA,tB,tC,Act.put,tE,tF,tG]
 clear inv;intro inv
 have hS0:=hS
 refine F_two (i:=4) (j:=5) (by kernel_rfl) rfl rfl rfl rfl (by omega) inv (fun K hK=>?_) (fun K hK=>?_)
 all_goals (try simp only [tA,tB,tC])
 · go_simp
   refine (HAR.out _ hbD).mono ?_
   rintro en wA ⟨vA,rfl,hsse,hbA⟩
   obtain ⟨A5,c5,hv5,hl5,hm5⟩:=hsse.shape
   have hlen5:((List.range g.vals.length).map fun (x:Nat)=>arcsOf g (x:Int)).length=g.vals.length:=by simp
   rw [hlen5] at hv5 hl5
   subst hv5
   have hbDA:=below_trans hbD hbA
   have HSSE:=Hd_ hsse
   have hsA:=hbA.size
   clear hsse hlen5
   refine hK.out _ _ (kB5 hbA hS) (fun _ _=>?_)
   try simp only [tA,tB,tC,Act.put,tE,tF,tG]
   clear hK K inv hS;rename_i hS inv
   refine F_o1 5 inv ?_;intro K hK
   try simp only [tA,tB,tC]
   go_simp
   have hbM:Below wA.heap.size wA (wA.alloc (.map #[] 0)):=(Below.refl _ _).alloc (Nat.le_refl _) _
   have HMM:=Hd_ (Mem.new g a y wA)
   refine hK.out _ _ (kA5 _ hS) (fun _ _=>?_)
   try simp only [tA,tB,tC,Act.put,tE,tF,tG]
   clear hK K inv hS;rename_i hS inv
   refine F_tk 6 inv ?_
   try simp only [tA,tB,tC,Act.put,tE,tF,tG]
   clear inv;intro inv
   refine F_tail (i:=7) (by kernel_rfl) rfl rfl (by omega) (fun K hK=>?_)
   try simp only [tA,tB,tC]
   go_simp
   refine hK.out _ _ ?_
   try simp only [tA,tB,tC,Act.put,tE,tF,tG]
   clear hK K
   try clear inv hS
   refine F_l1 8 ?_;intro K hK
   go_simp
   refine hK _ _ ?_
   clear hK K
   go_wp2_with fail
   have hbX:Below (wA.alloc (.map #[] 0)).heap.size (wA.alloc (.map #[] 0)) ((wA.alloc (.map #[] 0)).alloc (.cells #[.slice A1 g.vals.length c1,.slice A2 g.edges.length c2,.int .i64 a.start,.slice A3 a.accept.length c3,.slice A4 a.accept.length c4,.int .i64 y,.slice A5 g.vals.length c5,.map (some wA.heap.size)] 87)):=(Below.refl _ _).alloc (Nat.le_refl _) _
   have hbY:=below_trans hbDA (below_trans hbM hbX)
   have hbZ:=below_trans hbM hbX
   have hsw:=hbD.size
   have hszz:=hbZ.size
   go_ret
   exact ⟨_,wA.heap.size,rfl,Nat.le_trans hsw hsA,⟨w.heap.size,_,wA.heap.size,A1,A2,A3,A4,A5,c1,c2,c3,c4,c5,Blk.new _ _ _ _ (by simp),HGV.out.below hbY (Nat.le_refl _),HAV.out.below hbY (Nat.le_refl _),HSSE.out.below hbZ (Nat.le_refl _),Nat.le_trans hsw hsA,.inl (Nat.le_refl _),hszz,hbY.size,by simp⟩,HMM.out.keep hbX,hbY⟩
 · go_simp
   have hbM:Below W0.drew.heap.size W0.drew (W0.drew.alloc (.map #[] 0)):=(Below.refl _ _).alloc (Nat.le_refl _) _
   have HMM:=Hd_ (Mem.new g a y W0.drew)
   have hbDM:=below_trans hbD hbM
   refine hK.out _ _ (kA5 _ hS) (fun _ _=>?_)
   try simp only [tA,tB,tC,Act.put,tE,tF,tG]
   clear hK K inv hS;rename_i hS inv
   refine F_o1 4 inv ?_;intro K hK
   try simp only [tA,tB,tC]
   go_simp
   refine (HAR.out _ hbDM).mono ?_
   rintro en wA ⟨vA,rfl,hsse,hbA⟩
   obtain ⟨A5,c5,hv5,hl5,hm5⟩:=hsse.shape
   have hlen5:((List.range g.vals.length).map fun (x:Nat)=>arcsOf g (x:Int)).length=g.vals.length:=by simp
   rw [hlen5] at hv5 hl5
   subst hv5
   have HSSE:=Hd_ hsse
   have hsA:=hbA.size
   have hsw:=hbD.size
   have hbDA:=below_trans hbDM hbA
   clear hsse hlen5
   refine hK.out _ _ (kB5 hbA hS) (fun _ _=>?_)
   try simp only [tA,tB,tC,Act.put,tE,tF,tG]
   clear hK K inv hS;rename_i hS inv
   refine F_tk 6 inv ?_
   try simp only [tA,tB,tC,Act.put,tE,tF,tG]
   clear inv;intro inv
   refine F_tail (i:=7) (by kernel_rfl) rfl rfl (by omega) (fun K hK=>?_)
   try simp only [tA,tB,tC]
   go_simp
   refine hK.out _ _ ?_
   try simp only [tA,tB,tC,Act.put,tE,tF,tG]
   clear hK K
   try clear inv hS
   refine F_l1 8 ?_;intro K hK
   go_simp
   refine hK _ _ ?_
   clear hK K
   go_wp2_with fail
   have hbX:Below wA.heap.size wA (wA.alloc (.cells #[.slice A1 g.vals.length c1,.slice A2 g.edges.length c2,.int .i64 a.start,.slice A3 a.accept.length c3,.slice A4 a.accept.length c4,.int .i64 y,.slice A5 g.vals.length c5,.map (some W0.heap.size)] 87)):=(Below.refl _ _).alloc (Nat.le_refl _) _
   have hbY:=below_trans hbDA hbX
   have hszz:=hbX.size
   have hwM:W0.heap.size < wA.heap.size:=by simp at hsA;omega
   go_ret
   exact ⟨_,W0.heap.size,rfl,hsw,⟨w.heap.size,W0.heap.size+1,wA.heap.size,A1,A2,A3,A4,A5,c1,c2,c3,c4,c5,Blk.new _ _ _ _ rfl,HGV.out.below hbY (Nat.le_refl _),HAV.out.below hbY (Nat.le_refl _),(HSSE.out.mono (by simp) (Nat.le_refl _)).below hbX (Nat.le_refl _),hsw,.inr (Nat.lt_succ_self _),hszz,hbY.size,by omega⟩,(HMM.out.keep hbA).keep hbX,hbY⟩
theorem start_any (g:Gr) (a:Au) (y:Int) (ha:auOk a=true) (bC bM x lf:Nat) (w:World) (hc:Ctr g a y w bC bM) (hx:x<=1000000) (hlf:lf<=60) :
 Calls Tryz.prog 39 #[.pointer (some ⟨bC,0,none⟩),.int .i64 (x:Int),.int .i64 (lf:Int)] w fun e w'=>e=.returned (.agg #[.int .i64 (x:Int),.int .i64 (bit a.start.toNat:Nat),.int .i64 (lf:Int)])/\Below w.heap.size w w':=by
 obtain ⟨B,lo,hi,A1,A2,A3,A4,A5,c1,c2,c3,c4,c5,hbk,-⟩:=hc
 obtain ⟨⟨_,hn⟩,⟨h0,h1⟩,-,-⟩:=auOk_iff.1 ha
 obtain ⟨s,hs⟩:=Int.eq_ofNat_of_zero_le h0
 have z2:w.cell? ⟨bC,2,none⟩=some (.int .i64 (s:Int)):=by rw [<- hs];exact hbk.cell 2
 have lC:=hbk.lt
 have lC1:bC < w.heap.size+1:=by omega
 rw [hs,Int.toNat_natCast]
 have e1:=shl_bit (s:=s) (by omega)
 have e2:wrap64 (2 ^ min s 64)=(bit s:Int):=by rw [Nat.min_eq_left (by omega)];exact e1
 clear hbk h0 h1 hs ha
 go_enter Tryz.func39,Tryz.ntmps39
 go_wp2_with fail
 refine bodyPost_ret (v:=.agg #[.int .i64 (x:Int),.int .i64 (bit s:Int),.int .i64 (lf:Int)]) (by simp [results,Tryz.results39,go_sem,e2]) rfl ⟨rfl,?_⟩
 repeat (first | exact Below.refl _ _ | refine Below.setCell ?_ (by simp <;> omega) _ | refine Below.alloc ?_ (by simp <;> omega) _)
theorem leftN_succ {α:Type} {k:α->Nat} {l:List α} {i n:Nat} {p:α} (h:l[i]?=some p):leftN k (l.take (i+1)) n=leftN k (l.take i) n - k p:=foldl_take h n
theorem leftN_le {α:Type} (k:α->Nat):∀ (l:List α) (n:Nat),leftN k l n<=n
 | [],n=>Nat.le_refl _
 | p :: l,n=>Nat.le_trans (leftN_le k l (n - k p)) (Nat.sub_le _ _)
/-- the first that is not passed over is the one picked -/
theorem pick_here {α:Type} {k:α->Nat} {l:List α} {i n:Nat} {p:α} (h:l[i]?=some p) (hno:∀ j q,j < i->l[j]?=some q->¬ leftN k (l.take j) n < k q) (hy:leftN k (l.take i) n < k p):pick k l n=some (p,leftN k (l.take i) n):=by
 have hi:=(List.getElem?_eq_some_iff.1 h).1
 rw [pick_skip hno (by omega),List.drop_eq_getElem_cons hi,(List.getElem?_eq_some_iff.1 h).2,pick,if_pos hy]
theorem pick_end {α:Type} {k:α->Nat} {l:List α} {n:Nat} (hno:∀ j q,j < l.length->l[j]?=some q->¬ leftN k (l.take j) n < k q):pick k l n=none:=by
 rw [pick_skip hno (Nat.le_refl _),List.drop_length];rfl
theorem Blk.set3 {w:World} {g:Nat} {t:TypeId} {c0 c1 c2:Value} (h:Blk w g t #[c0,c1,c2]) (d0 d1 d2:Value):Blk (((w.setCell ⟨g,0,none⟩ d0).setCell ⟨g,1,none⟩ d1).setCell ⟨g,2,none⟩ d2) g t #[d0,d1,d2]:=by
 have h2:=((h.set_ 0 d0).set_ 1 d1).set_ 2 d2
 simpa using h2
theorem only_set3 {lo hi:Nat} {a w:World} (h:Only lo hi a w) {g:Nat} (hg:a.heap.size<=g) (d0 d1 d2:Value):Only lo hi a (((w.setCell ⟨g,0,none⟩ d0).setCell ⟨g,1,none⟩ d1).setCell ⟨g,2,none⟩ d2) :=
 ((h.setCell (p:=⟨g,0,none⟩) (.inr hg) d0).setCell (p:=⟨g,1,none⟩) (.inr hg) d1).setCell (p:=⟨g,2,none⟩) (.inr hg) d2
theorem set3_block (w:World) (g:Nat) (d0 d1 d2:Value) (b:Nat) (hb:b ≠ g):(((w.setCell ⟨g,0,none⟩ d0).setCell ⟨g,1,none⟩ d1).setCell ⟨g,2,none⟩ d2).heap[b]?=w.heap[b]?:=by
 rw [Below.heap_setCell _ _ _ _ hb,Below.heap_setCell _ _ _ _ hb,Below.heap_setCell _ _ _ _ hb]
theorem gBlockN {w w':World} {row:Option Nat} (hg:w.grownBy w' row) {b:Nat} (hb:b < w.heap.size) (hne:row ≠ some b):w'.heap[b]?=w.heap[b]?:=hg.block b hb (fun e=>hne e.symm)
theorem only_below {lo hi B:Nat} {a b c:World} (h:Only lo hi a b) (hb:Below B b c) (hB:a.heap.size<=B):Only lo hi a c :=
 ⟨hb.os.trans h.os,hb.tape.trans h.tape,hb.output.trans h.output,Nat.le_trans h.size hb.size,fun n hn ho=>(hb.block n (by omega)).trans (h.block n hn ho)⟩
theorem Mem.at_ {g:Gr} {a:Au} {y:Int} {w w':World} {bM:Nat} {M:List Plc} (h:Mem g a y w bM M) (hb:w'.heap[bM]?=w.heap[bM]?):Mem g a y w' bM M:=by
 obtain ⟨D,h1,h2⟩:=h
 exact ⟨D,ownsMap_at h1 hb,h2⟩
theorem elStepN:ElemOk Tryz.prog 34 74 (.agg #[.int .i64 0,.bool false]) 2 16:=⟨Tryz.underlying34,by kernel_rfl,rfl,by omega⟩
set_option maxHeartbeats 8000000 in
set_option maxRecDepth 100000 in
theorem nth_any (g:Gr) (a:Au) (y:Int) (hgo:grOk g=true) (ha:auOk a=true) (bC bM lf x s n:Nat) (M:List Plc) (w:World) (hc:Ctr g a y w bC bM) (hm:Mem g a y w bM M) (hx:x < g.vals.length) (hs:s < 2 ^ a.accept.length) (hlf:lf<=60) (hn:n < cw g a y lf x s) :
 Calls Tryz.prog 41 #[.pointer (some ⟨bC,0,none⟩),.agg #[.int .i64 (x:Int),.int .i64 (s:Int),.int .i64 (lf:Int)],.int .i64 (n:Int)] w fun e w'=>∃ v',e=.returned v'/\Own w.heap.size w'.heap.size w' 74 cSt 2 v' (nthL g a y lf x s n)/\Only bM (bM+1) w w'/\∃ M',Mem g a y w' bM M':=by
 have HM:=Hd_ hm
 have HCT:=Hd_ hc
 have hbMw:=hm.lt
 obtain ⟨RR,hRR⟩:∃ RR,RR=nthL g a y lf x s n:=⟨_,rfl⟩
 rw [<- hRR]
 have HRR:=Hd_ hRR
 have HN:=Hd_ hn
 have HGO:=Hd_ hgo
 have HA:=Hd_ ha
 have HS:=Hd_ hs
 have hnle:n<=1000000:=by have:=cw_le g a y lf x s;omega
 have hn5:=(grOk_iff.1 hgo).n5
 clear hm hc hRR hn hgo ha hs
 go_enter Tryz.func41,Tryz.ntmps41
 go_wp2_with fail
 have HB0:=Hd_ ((Blk.new w 62 #[.int .i64 (x:Int),.int .i64 (s:Int),.int .i64 (lf:Int)] w.heap.size rfl).alloc (.cells #[] 74))
 have hbl0:Below w.heap.size w ((w.alloc (.cells #[.int .i64 (x:Int),.int .i64 (s:Int),.int .i64 (lf:Int)] 62)).alloc (.cells #[] 74)):=((Below.refl _ _).alloc (Nat.le_refl _) _).alloc (by simp) _
 have HO0:=Hd_ (Only.of_below hbl0 bM (bM+1))
 have HM0:=Hd_ (HM.out.keep hbl0)
 have HR0:=Hd_ (show ((w.alloc (.cells #[.int .i64 (x:Int),.int .i64 (s:Int),.int .i64 (lf:Int)] 62)).alloc (.cells #[] 74)).ownsRow (w.heap.size+1) 74 2 (.slice (some ⟨w.heap.size+1,0,none⟩) 0 0) ([]:List St).length (([]:List St).flatMap cSt) from by
  have h:=World.ownsRow_lit (base:=w.heap.size+1) (e:=74) (size:=2) (w.alloc (.cells #[.int .i64 (x:Int),.int .i64 (s:Int),.int .i64 (lf:Int)] 62)) #[] 0 (by simp) (by decide) rfl
  simpa using h)
 clear hbl0
 go_loopg [2,7] lf (fun gk nn oo wr=>∃ (x' s' n':Nat) (O:List St) (M':List Plc),nn=.int .i64 (n':Int)/\gk<=lf/\x' < g.vals.length/\s' < 2 ^ a.accept.length/\n' < cw g a y gk x' s'/\O ++ nthL g a y gk x' s' n'=RR/\O.length+gk=lf /\
  Blk wr w.heap.size 62 #[.int .i64 (x':Int),.int .i64 (s':Int),.int .i64 (gk:Int)]/\wr.ownsRow (w.heap.size+1) 74 2 oo O.length (O.flatMap cSt)/\Only bM (bM+1) w wr/\Mem g a y wr bM M')
 case atStart=>exact ⟨x,s,n,[],M,rfl,Nat.le_refl _,hx,HS.out,HN.out,HRR.out.symm,by simp,HB0.out,HR0.out,HO0.out,HM0.out⟩
 case round =>
  clear HB0 HO0 HM0 HR0
  obtain ⟨x',s',n',O,M',rfl,hgk,hx',hs',hn',hO,hOl,hblk,hrow,hon,hmm⟩:=hrel
  have hs4:=lt12 HA.out hs'
  have e0:wr.cell? ⟨w.heap.size,0,none⟩=some (.int .i64 (x':Int)):=hblk.cell 0
  have e1:wr.cell? ⟨w.heap.size,1,none⟩=some (.int .i64 (s':Int)):=hblk.cell 1
  have e2:wr.cell? ⟨w.heap.size,2,none⟩=some (.int .i64 (gk:Int)):=hblk.cell 2
  have lE:=hblk.lt
  have HBK:=Hd_ hblk
  have HROW:=Hd_ hrow
  have HON:=Hd_ hon
  have HMM:=Hd_ hmm
  have HO:=Hd_ hO
  have hnle':n'<=1000000:=by have:=cw_le g a y gk x' s';omega
  by_cases h0:gk=0
  · subst h0
    have hOe:O=RR:=by rw [<- hO];simp [nthL]
    have hown:=Own.of_row (xs:=O) hrow rfl rfl
    obtain ⟨A9,n9,c9,rfl⟩:=hown.shape
    rw [hOe] at hown
    have HOW:=Hd_ (hown.mono (lo':=w.heap.size) (by omega) (Nat.le_refl _))
    clear hblk hrow hon hmm hO hn' hOl hOe hown
    go_wp2_with fail
    go_ret
    exact ⟨_,rfl,HOW.out,HON.out,_,HMM.out⟩
  · obtain ⟨f,hf⟩:∃ f,gk=f+1:=⟨gk - 1,by omega⟩
    have hpick:=pick_cw (show n' < cw g a y (f+1) x' s' by rw [<- hf];exact hn')
    have HNX:=Hd_ (fun (l:Nat) (t sid:Int) (sinv:Bool) (W:World) (hW:Ctr g a y W bC bM) (hl:l < 9)=>next_any g a y HGO.out HA.out bC bM x' s' f l t sid sinv W hW hx' hs' (by omega) hl)
    rw [<- hf] at HNX
    have HNS:=Hd_ (fun n'' p (h:pick (cwAt g a y f x' s') (arcsOf g (x':Int)) n'=some (p,n''))=>nthL_succ (y:=y) h)
    rw [<- hf] at HNS
    have hfl:f < gk:=by omega
    have hgp:(0:Int) < (gk:Int):=by omega
    have hgn:0 < gk:=by omega
    have hctr:=HCT.out.only hon
    have HC1:=Hd_ hctr
    obtain ⟨B,lo,hi,A1,A2,A3,A4,A5,c1,c2,c3,c4,c5,hbk,hgv,hav,hlv,h5,h6,h7,h8,h9⟩:=hctr
    have z6:wr.cell? ⟨bC,6,none⟩=some (.slice A5 g.vals.length c5):=hbk.cell 6
    have lC:=hbk.lt
    have hA5:∃ b5 o5,A5=some ⟨b5,o5,none⟩/\b5 < wr.heap.size/\∃ A7 c7,wr.cell? ⟨b5,o5+x',none⟩=some (.slice A7 (arcsOf g (x':Int)).length c7)/\(arcsOf g (x':Int)).length<=c7/\c7<=9223372036854775807/\SlI lo hi wr cA 4 (.slice A7 (arcsOf g (x':Int)).length c7) (arcsOf g (x':Int)):=by
     obtain ⟨b5,o5,A7,c7,q1,q2,q3,q4,q5,q6,q7,-⟩:=hlv.row h7 (i:=x') (xs:=arcsOf g (x':Int)) (by simp [hx'])
     exact ⟨b5,o5,q1,by omega,A7,c7,q4,q5,q6,q7⟩
    obtain ⟨b5,o5,rfl,hb5,A7,c7,d5,hl7,hm7,hI7⟩:=hA5
    have hal:=arcs_len (grOk_iff.1 HGO.out) (x':Int)
    have hxx:(x':Int) < (g.vals.length:Int):=by omega
    have HI7:=Hd_ hI7
    have HP:=Hd_ hpick
    have hgk60:gk<=60:=by omega
    have hol:O.length<=60:=by omega
    have HF:=Hd_ hf
    have hrlt:=hrow.lt
    have HRL:=Hd_ hrlt
    obtain ⟨wo,hwo⟩:∃ wo:World,wo=wr:=⟨_,rfl⟩
    rw [<- hwo] at HBK HROW HON HMM HC1 HI7 HRL e0 e1 e2 lE z6 lC hb5 d5 h7 ⊢
    obtain ⟨vO,rfl⟩:∃ vO,vO=u7:=⟨_,rfl⟩
    clear hwo hbk hgv hav hlv h8 hpick hblk hrow hon hmm hO hn' hI7 hf hrlt h0
    go_upto_region 3 with fail
    refine wp_region_ext_lit (by kernel_rfl) (by kernel_rfl) ?_
    repeat (go_big_quiet_step (fail))
    refine wpQuiet_nil ?_
    rintro _ ⟨u2,rfl⟩
    clear d5 z6
    have hbU:=ext_below wo u2
    go_wp2_with fail
    go_loopw [25,2,7] (fun ii nn oo wi=>∃ (i:Nat) (M2:List Plc),i<=(arcsOf g (x':Int)).length/\ii=.int .i64 (i:Int)/\oo=vO/\nn=.int .i64 (leftN (cwAt g a y f x' s') ((arcsOf g (x':Int)).take i) n':Nat)/\(∀ j q,j < i->(arcsOf g (x':Int))[j]?=some q->¬ leftN (cwAt g a y f x' s') ((arcsOf g (x':Int)).take j) n' < cwAt g a y f x' s' q)/\Only bM (bM+1) wo wi/\Mem g a y wi bM M2) (fun ii _ _ _=>(arcsOf g (x':Int)).length - (intOf ii).toNat)
    case atStart=>exact ⟨0,M',Nat.zero_le _,rfl,rfl,rfl,fun j q hj=>by omega,Only.of_below hbU _ _,HMM.out.keep hbU⟩
    case round =>
     obtain ⟨i,M2,hi,rfl,hvo,rfl,hno,hon,hmm⟩:=hrel
     subst hvo
     by_cases hlt:i < (arcsOf g (x':Int)).length
     · have hyi:(arcsOf g (x':Int))[i]?=some (arcsOf g (x':Int))[i]:=List.getElem?_eq_getElem hlt
       have hyr:=arc_range (grOk_iff.1 HGO.out) (List.getElem_mem hlt)
       generalize (arcsOf g (x':Int))[i]=p at hyi hyr
       obtain ⟨⟨sid,sinv⟩,l,t⟩:=p
       simp only at hyr
       obtain ⟨l,rfl⟩:=Int.eq_ofNat_of_zero_le hyr.1.1
       obtain ⟨t,rfl⟩:=Int.eq_ofNat_of_zero_le hyr.2.1
       obtain ⟨b7,o7,rfl,hb7l,hb7,k0,k1,k2,k3⟩:=HI7.out.arc hyi
       simp only at k0 k1 k2 k3
       have hb7M:b7 < bM ∨ bM+1<=b7:=by omega
       have hb7o:b7 < wo.heap.size:=by omega
       have k0:=ocell hon k0 hb7o hb7M
       have k1:=ocell hon k1 hb7o hb7M
       have k2:=ocell hon k2 hb7o hb7M
       have k3:=ocell hon k3 hb7o hb7M
       have hsz:=hon.size
       have e0:=ocell hon e0 lE (.inr (by omega))
       have e1:=ocell hon e1 lE (.inr (by omega))
       have e2:=ocell hon e2 lE (.inr (by omega))
       have hb7w:b7 < wr.heap.size:=by omega
       have lEr:w.heap.size < wr.heap.size:=by omega
       have hAF:=aft_lt HA.out s' (valAt g x') l
       have hKA:cwAt g a y f x' s' ((sid,sinv),(l:Int),(t:Int))=cw g a y f t (aft a s' (valAt g x') l):=by rw [cwAt];simp
       have hPH:=fun h=>pick_here hyi hno h
       have hLS:=leftN_succ (k:=cwAt g a y f x' s') (n:=n') hyi
       have hLL:=leftN_le (cwAt g a y f x' s') ((arcsOf g (x':Int)).take i) n'
       rw [hKA] at hPH hLS
       have hno2:¬ leftN (cwAt g a y f x' s') ((arcsOf g (x':Int)).take i) n' < cw g a y f t (aft a s' (valAt g x') l)->∀ j q,j < i+1->(arcsOf g (x':Int))[j]?=some q->¬ leftN (cwAt g a y f x' s') ((arcsOf g (x':Int)).take j) n' < cwAt g a y f x' s' q:=fun h j q hj hq=>by
        rcases Nat.lt_or_ge j i with h1 | h1
        · exact hno j q h1 hq
        · obtain rfl:j=i:=by omega
          rw [hyi] at hq
          injection hq with hq
          rw [<- hq,hKA];exact h
       have hNSS:=fun n'' h=>HNS.out n'' ((sid,sinv),(l:Int),(t:Int)) h
       simp only [Int.toNat_natCast] at hNSS
       have hcl2:=cw_le g a y f t (aft a s' (valAt g x') l)
       have HNC:=Hd_ (fun (W:World) (hW:Ctr g a y W bC bM)=>HNX.out l (t:Int) sid sinv W hW (by omega))
       have HRC:=Hd_ (fun (W:World) (h1:Ctr g a y W bC bM) (h2:Mem g a y W bM M2)=>count_any g a y HGO.out HA.out bC bM f t (aft a s' (valAt g x') l) M2 W h1 h2 (by omega) hAF (by omega))
       obtain ⟨CC,hCC⟩:∃ CC,CC=cw g a y f t (aft a s' (valAt g x') l):=⟨_,rfl⟩
       rw [<- hCC] at hPH hLS hno2 hcl2 HRC
       have HCC:=Hd_ hCC
       generalize aft a s' (valAt g x') l=AF at *
       have hii:(i:Int) < ((arcsOf g (x':Int)).length:Int):=by omega
       have HLS:=Hd_ hLS
       have HPH:=Hd_ hPH
       have HN2:=Hd_ hno2
       have HNSS:=Hd_ hNSS
       have HON2:=Hd_ hon
       have HMM2:=Hd_ hmm
       have hAF4:AF < 4096:=lt12 HA.out hAF
       have htl:t < g.vals.length:=by omega
       have HAF:=Hd_ hAF
       clear hyi hno hLS hPH hno2 hNSS hCC hon hmm hKA hAF
       generalize leftN (cwAt g a y f x' s') ((arcsOf g (x':Int)).take i) n'=m1 at *
       have hbE:Below wr.heap.size wr (wr.alloc (.cells #[.int .i64 sid,.bool sinv,.int .i64 (l:Int),.int .i64 (t:Int)] 89)):=(Below.refl _ _).alloc (Nat.le_refl _) _
       have a0:(wr.alloc (.cells #[.int .i64 sid,.bool sinv,.int .i64 (l:Int),.int .i64 (t:Int)] 89)).cell? ⟨wr.heap.size,0,none⟩=some (.int .i64 sid):=by simp
       have a1:(wr.alloc (.cells #[.int .i64 sid,.bool sinv,.int .i64 (l:Int),.int .i64 (t:Int)] 89)).cell? ⟨wr.heap.size,1,none⟩=some (.bool sinv):=by simp
       go_wp2_with fail
       refine (HNC.out _ ((HC1.out.only HON2.out).keep hbE)).mono ?_
       rintro en w3 ⟨rfl,hb3⟩
       have hbQ:Below w3.heap.size w3 (w3.alloc (.cells #[.int .i64 (t:Int),.int .i64 (AF:Int),.int .i64 (f:Int)] 62)):=(Below.refl _ _).alloc (Nat.le_refl _) _
       have hbEQ:=below_trans hbE (below_trans hb3 hbQ)
       have hb3Q:=below_trans hb3 hbQ
       have q0:(w3.alloc (.cells #[.int .i64 (t:Int),.int .i64 (AF:Int),.int .i64 (f:Int)] 62)).cell? ⟨w3.heap.size,0,none⟩=some (.int .i64 (t:Int)):=by simp
       have q1:(w3.alloc (.cells #[.int .i64 (t:Int),.int .i64 (AF:Int),.int .i64 (f:Int)] 62)).cell? ⟨w3.heap.size,1,none⟩=some (.int .i64 (AF:Int)):=by simp
       have q2:(w3.alloc (.cells #[.int .i64 (t:Int),.int .i64 (AF:Int),.int .i64 (f:Int)] 62)).cell? ⟨w3.heap.size,2,none⟩=some (.int .i64 (f:Int)):=by simp
       have a0:=kcell hb3Q a0
       have a1:=kcell hb3Q a1
       have hsE:wr.heap.size < w3.heap.size:=by have:=hb3.size;simp at this;omega
       have HC3:=Hd_ ((HC1.out.only HON2.out).keep hbEQ)
       have HM3:=Hd_ (HMM2.out.keep hbEQ)
       have HO3:=Hd_ (HON2.out.trans (Only.of_below hbEQ bM (bM+1)))
       have lQ:w3.heap.size < (w3.alloc (.cells #[.int .i64 (t:Int),.int .i64 (AF:Int),.int .i64 (f:Int)] 62)).heap.size:=by simp
       clear hb3 hbQ hbEQ hb3Q hbE k0 k1 k2 k3 e0 e1 e2
       go_wp2_with fail
       refine (HRC.out _ HC3.out HM3.out).mono ?_
       rintro en w4 ⟨rfl,hon4,M4,hm4,hmo4⟩
       have q0:=ocell hon4 q0 lQ (.inr (by omega))
       have q1:=ocell hon4 q1 lQ (.inr (by omega))
       have q2:=ocell hon4 q2 lQ (.inr (by omega))
       have a0:=ocell hon4 a0 (by omega) (.inr (by omega))
       have a1:=ocell hon4 a1 (by omega) (.inr (by omega))
       have hs4w:=hon4.size
       have HO4:=Hd_ (HO3.out.trans hon4)
       have HM4:=Hd_ hm4
       clear hon4 hm4 hmo4
       by_cases hpk:m1 < CC
       · have hpk1:(m1:Int) < (CC:Int):=by omega
         have HPK:=Hd_ (HPH.out hpk)
         have HNR:=Hd_ (HNSS.out m1 (HPH.out hpk))
         have honA:=HO4.out
         have hrow4:=ownsRow_block HROW.out (fun g hg=>honA.block g (HRL.out g hg).2 (.inr (by have:=(HRL.out g hg).1;omega)))
         have hbk4:=HBK.out.only honA (.inr (by omega))
         have HR4:=Hd_ hrow4
         have HBK4:=Hd_ hbk4
         have hs44:wo.heap.size<=w4.heap.size:=by omega
         have lQ4:w3.heap.size < w4.heap.size:=by omega
         clear HN2 HLS HPH HNSS hrow4 hbk4 honA
         go_upto_region 10 with (at_builtin;(refine wpList_append1 cSt elStepN rfl _ _ rfl (w.heap.size+1) _ O (sid,sinv) _ 1 _ (by rfl) HR4.out (by rfl) rfl rfl rfl (cSt_one _) (by omega) (by omega) (by omega) ?_);intro v8 w8 hrow8 hb8 hat8 hgr8)
         have hs8:=hb8.size
         have hne:∀ b,wo.heap.size<=b->u7.ownBlock ≠ some b:=fun b hb e=>by have:=(HRL.out b e).2;omega
         have hneM:u7.ownBlock ≠ some bM:=fun e=>by have:=(HRL.out bM e).1;omega
         have g8:∀ b,b < w4.heap.size->u7.ownBlock ≠ some b->w8.heap[b]?=w4.heap[b]?:=fun b hb hn=>(gBlockN hgr8 (by simp;omega) hn).trans (Below.heap_alloc _ _ _ hb)
         have q0:w8.cell? ⟨w3.heap.size,0,none⟩=some (.int .i64 (t:Int)):=(World.cell?_of_block (a:=⟨w3.heap.size,0,none⟩) (g8 _ lQ4 (hne w3.heap.size (by omega)))).trans q0
         have q1:w8.cell? ⟨w3.heap.size,1,none⟩=some (.int .i64 (AF:Int)):=(World.cell?_of_block (a:=⟨w3.heap.size,1,none⟩) (g8 _ lQ4 (hne w3.heap.size (by omega)))).trans q1
         have q2:w8.cell? ⟨w3.heap.size,2,none⟩=some (.int .i64 (f:Int)):=(World.cell?_of_block (a:=⟨w3.heap.size,2,none⟩) (g8 _ lQ4 (hne w3.heap.size (by omega)))).trans q2
         have hbk8:=HBK4.out.below hb8 (Nat.lt_succ_self _)
         have z0:w8.cell? ⟨w.heap.size,0,none⟩=some (.int .i64 (x':Int)):=hbk8.cell 0
         have z1:w8.cell? ⟨w.heap.size,1,none⟩=some (.int .i64 (s':Int)):=hbk8.cell 1
         have z2:w8.cell? ⟨w.heap.size,2,none⟩=some (.int .i64 (gk:Int)):=hbk8.cell 2
         have f0:=hbk8.frozen 0
         have f1:=hbk8.frozen 1
         have f2:=hbk8.frozen 2
         have l8:=hbk8.lt
         have lbM4:=HM4.out.lt
         have hmm8:=HM4.out.at_ (g8 bM lbM4 hneM)
         have hon8:=only_below (HON.out.trans HO4.out) hb8 (show w.heap.size<=w.heap.size+1 by omega)
         have HB8:=Hd_ (hbk8.set3 (.int .i64 (t:Int)) (.int .i64 (AF:Int)) (.int .i64 (f:Int)))
         have HR8:=Hd_ (ownsRow_block hrow8 (fun g hg=>set3_block w8 w.heap.size (.int .i64 (t:Int)) (.int .i64 (AF:Int)) (.int .i64 (f:Int)) g (by have:=(hrow8.lt g hg).1;omega)))
         have HM8:=Hd_ (hmm8.at_ (set3_block w8 w.heap.size (.int .i64 (t:Int)) (.int .i64 (AF:Int)) (.int .i64 (f:Int)) bM (by omega)))
         have HO8:=Hd_ (only_set3 hon8 (Nat.le_refl _) (.int .i64 (t:Int)) (.int .i64 (AF:Int)) (.int .i64 (f:Int)))
         clear hbk8 hrow8 hmm8 hon8 hb8 hat8 hgr8 g8 hne hneM a0 a1
         go_wp2_with fail
         go_roundg f
         case measure=>omega
         case rel=>exact ⟨t,AF,m1,O ++ [(sid,sinv)],M4,rfl,by omega,htl,HAF.out,by rw [<- HCC.out];exact hpk,by rw [<- HO.out,HNR.out,List.append_assoc];rfl,by have:=HF.out;simp;omega,HB8.out,HR8.out,HO8.out,HM8.out⟩
       · have hpk1:¬ (m1:Int) < (CC:Int):=by omega
         have hsub:IntKind.i64.wrap ((m1:Int) - (CC:Int))=((m1 - CC:Nat):Int):=by rw [IntWalk.i64_in _ (by omega)];omega
         have hsub2:(m1:Int) - (CC:Int)=((m1 - CC:Nat):Int):=by omega
         have HNO:=Hd_ (HN2.out hpk)
         clear HPH HNSS HN2
         go_wp2_with fail
         go_roundw
         case rel=>exact ⟨i+1,M4,by omega,by go_num,rfl,by rw [HLS.out],HNO.out,HO4.out,HM4.out⟩
         case measure=>simp [intOf];omega
     · obtain rfl:i=(arcsOf g (x':Int)).length:=by omega
       obtain ⟨p,n'',h1,-⟩:=HP.out
       rw [pick_end hno] at h1
       cases h1
end Go.Proofs.YtcnenpjaoalmeaaGreat
