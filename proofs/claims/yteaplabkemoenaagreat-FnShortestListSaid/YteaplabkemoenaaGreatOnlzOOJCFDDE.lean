/- Parts of the proof, joined into one text: HelpWalk, WalksS, WitD, LstM, RnkM, CmpM, WitQ, WitR, Nw, ListM, KeyP, MemD, Ctr, Count. -/
import Derived.Test.YteaplabkemoenaaGreatOnlzNELIBLED
import Derived.Test.YteaplabkemoenaaGreatOnlzFMOOOICK
import Derived.Test.YteaplabkemoenaaGreatOnlzFJCGBBIC
import Derived.Test.YteaplabkemoenaaGreatOnlzCIBJHJFA
import Derived.Test.YteaplabkemoenaaGreatOnlzPICOOABE
import Derived.Test.YteaplabkemoenaaGreatOnlzGFGPLLBC
import Derived.Test.YteaplabkemoenaaGreatOnlzAIFFPHMF
import Derived.Maps.OwnSet
import Derived.DeepKeys4
import Derived.Maps.Views
import Derived.Test.YteaplabkemoenaaGreatOnlzAJGNGJCC
import Derived.Test.YteaplabkemoenaaGreatOnlzLPLCAEAG
set_option linter.unusedVariables false
set_option linter.unusedSimpArgs false
namespace Go.Proofs.YteaplabkemoenaaGreat
open Go.ChangeShapes Go.WideShapes Go.ChangeAt Go.RowKit
attribute [local go_sem] ext_cell ext_frozen ext_lt ext_lt1 ext_lt2 ext_lt3 ltn2 ltn3 ltn13 lts1 lts2 lts3
def WkO (lo hi:Nat) (w:World) (v:Value) (k:Wk):Prop :=
 ∃ ss,v=.agg #[.int .i64 k.1,ss]/\Own lo hi w 66 cSt 2 ss k.2
theorem WkO.view {lo hi:Nat} {w:World} {v:Value} {k:Wk} (h:WkO lo hi w v k):WkV lo hi w v k:=by
 obtain ⟨ss,rfl,h1⟩:=h
 exact ⟨ss,rfl,h1.sl cSt_len⟩
theorem WkO.below {lo hi:Nat} {w w':World} {v:Value} {k:Wk} (h:WkO lo hi w v k) {B:Nat} (hb:Below B w w') (hB:hi<=B):WkO lo hi w' v k:=by
 obtain ⟨ss,rfl,h1⟩:=h
 exact ⟨ss,rfl,h1.below hb hB⟩
theorem WkO.only {lo hi:Nat} {w w':World} {v:Value} {k:Wk} (h:WkO lo hi w v k) {l r:Nat} (hb:Only l r w w') (ho:hi<=l ∨ r<=lo):WkO lo hi w' v k:=by
 obtain ⟨ss,rfl,h1⟩:=h
 exact ⟨ss,rfl,h1.only hb ho⟩
theorem WkO.mono {lo hi:Nat} {w:World} {v:Value} {k:Wk} (h:WkO lo hi w v k) {lo' hi':Nat} (h1:lo'<=lo) (h2:hi<=hi'):WkO lo' hi' w v k:=by
 obtain ⟨ss,rfl,g1⟩:=h
 exact ⟨ss,rfl,g1.mono h1 h2⟩
/-- the first row's count, as a walk wants it -/
theorem LaysV.first {g:Gr} {a:Au} {y:Int} {k0:Key} {n lo:Nat} {w:World} {v:Value} (h:LaysV g a y k0 n lo w v):∃ (b o c gd cd:Nat),v=.slice (some ⟨b,o,none⟩) (n+1) c/\b < w.heap.size/\gd < w.heap.size/\w.cell? ⟨b,o,none⟩=some (.slice (some ⟨gd,0,none⟩) 1 cd)/\w.cell? ⟨gd,2,none⟩=some (.int .i64 (cw g a y n k0.1 k0.2:Nat)):=by
 obtain ⟨A,c,rfl,-,-,h⟩:=h
 obtain ⟨b,o,gd,cd,zs,rfl,hb,hc,hl⟩:=h 0 (Nat.zero_le _)
 obtain ⟨z,-,-,-,-,-,-,-,r2,-,-⟩:=hl.get (i:=0) (k:=k0) rfl
 refine ⟨b,o,c,gd,cd,rfl,hb,hl.lt,by simpa [layN] using hc,?_⟩
 rw [layC_at (i:=0) (k:=k0) rfl,Nat.sub_zero] at r2
 simpa using r2
set_option maxHeartbeats 8000000 in
set_option maxRecDepth 100000 in
theorem specCountShortest (vg va:Value) (g:Gr) (a:Au) (x y:Int) (w:World) (hgv:GrV 0 w.heap.size w vg g) (hav:AuV 0 w.heap.size w va a) :
 Calls Tryz.prog 8 #[vg,va,.int .i64 x,.int .i64 y] w fun e w'=>e=.returned (.int .i64 (cntShort g a x y))/\Below w.heap.size w w':=by
 have hgv0:=hgv
 have hav0:=hav
 obtain ⟨A1,n1,c1,A2,n2,c2,rfl⟩:=hgv.shape
 obtain ⟨A3,n3,c3,A4,n4,c4,rfl⟩:=hav.shape
 have hb0:Below w.heap.size w ((w.alloc (.cells #[.slice A1 n1 c1,.slice A2 n2 c2] 27)).alloc (.cells #[.int .i64 a.start,.slice A3 n3 c3,.slice A4 n4 c4] 31)):=((Below.refl _ _).alloc (Nat.le_refl _) _).alloc (by simp) _
 have hbG:=((Blk.new w 27 #[.slice A1 n1 c1,.slice A2 n2 c2] w.heap.size rfl).alloc (.cells #[.int .i64 a.start,.slice A3 n3 c3,.slice A4 n4 c4] 31))
 have hbA:=(Blk.new (w.alloc (.cells #[.slice A1 n1 c1,.slice A2 n2 c2] 27)) 31 #[.int .i64 a.start,.slice A3 n3 c3,.slice A4 n4 c4] (w.heap.size+1) (by simp))
 have HBG:=Hd_ hbG
 have HBA:=Hd_ hbA
 have HGV:=Hd_ hgv0
 have HAV:=Hd_ hav0
 have HB0:=Hd_ hb0
 have HSL:=Hd_ (fun (W:World) (hW:Below w.heap.size w W)=>specShortestLength _ _ g a x y W (HGV.out.keep hW) (HAV.out.keep hW))
 clear hgv hav hgv0 hav0 hb0 hbG hbA
 by_cases hneg:shortLen g a x y < 0
 · have HF:=Hd_ (show cntShort g a x y=0 from if_pos hneg)
   generalize shortLen g a x y=SL at *
   go_enter Tryz.func8,Tryz.ntmps8
   go_wp2_with fail
   refine (HSL.out _ HB0.out).mono ?_
   rintro e w1 ⟨rfl,hb1⟩
   go_wp2_with fail
   go_ret
   exact ⟨by rw [HF.out];rfl,below_trans HB0.out hb1⟩
 · have hco:=shortLen_ok (show 0<=shortLen g a x y by omega)
   obtain ⟨⟨hx0,hx1⟩,⟨hy0,hy1⟩,hgo,ha⟩:=cntOk_iff.1 hco
   have hlt:=shortLen_lt g a x y
   obtain ⟨L,hL⟩:=Int.eq_ofNat_of_zero_le (show 0<=shortLen g a x y by omega)
   have HF:=Hd_ (show cntShort g a x y=(cw g a y L x.toNat (bit a.start.toNat):Nat) by rw [cntShort,if_neg hneg,hL,Int.toNat_natCast];rfl)
   rw [hL] at HSL hlt hneg
   obtain ⟨x,rfl⟩:=Int.eq_ofNat_of_zero_le hx0
   rw [Int.toNat_natCast] at HF
   have HGO:=Hd_ hgo
   have HA:=Hd_ ha
   have hxl:x < g.vals.length:=by omega
   have hln:¬ (L:Int) < 0:=by omega
   clear hco hgo ha hL hneg hx0 hx1 hy0 hy1
   go_enter Tryz.func8,Tryz.ntmps8
   go_wp2_with fail
   refine (HSL.out _ HB0.out).mono ?_
   rintro e w1 ⟨rfl,hb1⟩
   have hb2:=below_trans HB0.out hb1
   have bG:=HBG.out.keep hb1
   have bA:=HBA.out.keep hb1
   have x0:w1.cell? ⟨w.heap.size,0,none⟩=some (.slice A1 n1 c1):=bG.cell 0
   have x1:w1.cell? ⟨w.heap.size,1,none⟩=some (.slice A2 n2 c2):=bG.cell 1
   have y0:w1.cell? ⟨w.heap.size+1,0,none⟩=some (.int .i64 a.start):=bA.cell 0
   have y1:w1.cell? ⟨w.heap.size+1,1,none⟩=some (.slice A3 n3 c3):=bA.cell 1
   have y2:w1.cell? ⟨w.heap.size+1,2,none⟩=some (.slice A4 n4 c4):=bA.cell 2
   clear bG bA
   clear hb1
   go_wp2_with fail
   refine (l19Layers_any _ _ g a x y L _ (HGV.out.keep hb2) (HAV.out.keep hb2) HGO.out HA.out hxl (by omega)).mono ?_
   rintro e w2 ⟨v2,rfl,hlv,hb3⟩
   obtain ⟨bL,oL,cL,gd,cd,rfl,lb,lg,r0,r2⟩:=hlv.first
   simp only at r2
   have hn1:(0:Int) < (L:Int)+1:=by omega
   have HB:=Hd_ (below_trans hb2 hb3)
   clear hlv hb3
   go_wp2_with fail
   go_ret
   exact ⟨by rw [HF.out];rfl,HB.out⟩
set_option maxHeartbeats 8000000 in
theorem drawListShortest_any (v:Value) (bs:List Int) (w:World) (hv:SlI 0 w.heap.size w cU 1 v bs) :
 Calls Tryz.prog 5 #[v] w (FiveOut w):=by
 have HV:=Hd_ hv
 have hb0:=((Below.refl w.heap.size w).alloc (Nat.le_refl _) (.cells #[.slice none 0 0,.slice none 0 0] 27)).alloc (by simp) (.cells #[.int .i64 0,.slice none 0 0,.slice none 0 0] 31)
 have hb1:=(Blk.new w 27 #[.slice none 0 0,.slice none 0 0] _ rfl).alloc (.cells #[.int .i64 0,.slice none 0 0,.slice none 0 0] 31)
 have hb2:=Blk.new (w.alloc (.cells #[.slice none 0 0,.slice none 0 0] 27)) 31 #[.int .i64 0,.slice none 0 0,.slice none 0 0] (w.heap.size+1) (by simp)
 have hs0:((w.alloc (.cells #[.slice none 0 0,.slice none 0 0] 27)).alloc (.cells #[.int .i64 0,.slice none 0 0,.slice none 0 0] 31)).heap.size=w.heap.size+2:=by simp
 obtain ⟨A,n,c,rfl⟩:=hv.shape
 clear hv
 go_enter Tryz.func5,Tryz.ntmps5
 go_wp2_with fail
 refine (l17Two_any _ bs _ ((HV.out.below hb0 (Nat.le_refl _)).mono (Nat.le_refl _) hb0.size)).mono ?_
 rintro e w2 ⟨b,vg,va,g,a,x,y,rfl,hbl,hgv,he11,hav,hc2,hbw⟩
 have hr1:=hb1.keep hbw
 have hr2:=hb2.keep hbw
 have hb3:=below_trans hb0 hbw
 rw [hs0] at hbl
 clear hbw hb1 hb2 hb0 hs0 HV
 have hlb:=hc2.lt
 obtain ⟨A1,n1,c1,A2,n2,c2,rfl⟩:=hgv.shape
 obtain ⟨A3,n3,c3,A4,n4,c4,rfl⟩:=hav.shape
 have hn1:=grT_len hgv
 have hal:=((Below.refl w2.heap.size w2).alloc (Nat.le_refl _) (.cells #[.slice A1 n1 c1,.slice A2 n2 c2] 27)).alloc (by simp) (.cells #[.int .i64 a.start,.slice A3 n3 c3,.slice A4 n4 c4] 31)
 have bg:=(Blk.new w2 27 #[.slice A1 n1 c1,.slice A2 n2 c2] _ rfl).alloc (.cells #[.int .i64 a.start,.slice A3 n3 c3,.slice A4 n4 c4] 31)
 have ba:=Blk.new (w2.alloc (.cells #[.slice A1 n1 c1,.slice A2 n2 c2] 27)) 31 #[.int .i64 a.start,.slice A3 n3 c3,.slice A4 n4 c4] (w2.heap.size+1) (by simp)
 obtain ⟨gq,hgq⟩:∃ gq,gq=w2.heap.size:=⟨_,rfl⟩
 have HP:=Hd_ (show GaR b w.heap.size gq (gq+1) w ((w2.alloc (.cells #[.slice A1 n1 c1,.slice A2 n2 c2] 27)).alloc (.cells #[.int .i64 a.start,.slice A3 n3 c3,.slice A4 n4 c4] 31)) _ _ g _ _ a from
  ⟨hr1.keep hal,hr2.keep hal,hgq ▸ bg,hgq ▸ ba,(hgv.below hal (Nat.le_refl _)).mono (by omega) (by omega),(hav.below hal (Nat.le_refl _)).mono (by omega) (by omega),hc2.keep hal,below_trans hb3 hal,rfl,he11,by omega⟩)
 clear hal bg ba hgv hav hc2 hr1 hr2 hb3 he11
 go_upto_region 2 with fail
 rw [<- hgq]
 generalize ((w2.alloc (.cells #[.slice A1 n1 c1,.slice A2 n2 c2] 27)).alloc (.cells #[.int .i64 a.start,.slice A3 n3 c3,.slice A4 n4 c4] 31))=W at *
 clear hgq hlb
 have x0:W.cell? ⟨gq,0,none⟩=some (.slice A1 n1 c1):=HP.out.gbk.cell 0
 have x1:W.cell? ⟨gq,1,none⟩=some (.slice A2 n2 c2):=HP.out.gbk.cell 1
 have y0:W.cell? ⟨gq+1,0,none⟩=some (.int .i64 a.start):=HP.out.abk.cell 0
 have y1:W.cell? ⟨gq+1,1,none⟩=some (.slice A3 n3 c3):=HP.out.abk.cell 1
 have y2:W.cell? ⟨gq+1,2,none⟩=some (.slice A4 n4 c4):=HP.out.abk.cell 2
 go_wp2_with fail
 refine F_start 11 (fun w'=>w'.cell? ⟨gq,0,none⟩=some (.slice A1 n1 c1)/\w'.cell? ⟨gq,1,none⟩=some (.slice A2 n2 c2)/\w'.cell? ⟨gq+1,0,none⟩=some (.int .i64 a.start)/\w'.cell? ⟨gq+1,1,none⟩=some (.slice A3 n3 c3)/\w'.cell? ⟨gq+1,2,none⟩=some (.slice A4 n4 c4)) (by kernel_rfl) (by exact ⟨x0,x1,y0,y1,y2⟩) (fun hS inv=>?_)
 refine F_tk 0 inv ?_
 try simp only [tA,tB,tC,Act.put,tE,tF,tG]
 clear inv;intro inv
 refine F_tk 1 inv ?_
 try simp only [tA,tB,tC,Act.put,tE,tF,tG]
 clear inv;intro inv
 refine F_tk 2 inv ?_
 try simp only [tA,tB,tC,Act.put,tE,tF,tG]
 clear inv;intro inv
 refine F_tk 3 inv ?_
 try simp only [tA,tB,tC,Act.put,tE,tF,tG]
 clear inv;intro inv
 refine F_tk 4 inv ?_
 try simp only [tA,tB,tC,Act.put,tE,tF,tG]
 clear inv;intro inv
 have HPd:=Hd_ HP.out.drew
 clear HP x0 x1 y0 y1 y2
 refine F_o1 5 inv ?_;intro K hK
 try simp only [tA,tB,tC]
 go_simp
 have HPL:=Hd_ (litD_sl W.drew 3 #[.int .i64 0,.int .i64 1,.int .i64 3,.int .i64 10,.int .i64 50,.int .i64 51] [0,1,3,10,50,51] 6 (b+1) (by have:=HPd.out.ord;have:=HPd.out.abk.lt;omega) (by decide) rfl rfl rfl)
 have HPA:=Hd_ (HPd.out.keep ((Below.refl _ _).alloc (Nat.le_refl _) (.cells #[.int .i64 0,.int .i64 1,.int .i64 3,.int .i64 10,.int .i64 50,.int .i64 51] 3)))
 clear HPd
 refine hK.out _ _ (kA5 _ hS) (fun _ _=>?_)
 try simp only [tA,tB,tC,Act.put,tE,tF,tG]
 clear hK K inv hS;rename_i hS inv
 refine F_o1 6 inv ?_;intro K hK
 try simp only [tA,tB,tC]
 go_simp
 refine (l1PickInt_any b _ [0,1,3,10,50,51] _ HPA.out.cur (by simp) (by simpa using HPL.out)).mono ?_
 rintro e w8 ⟨q,rfl,-,hc8,ho8⟩
 have HP8:=Hd_ (HPA.out.step ho8 hc8)
 clear ho8 hc8 HPA HPL
 refine hK.out _ _ (⟨HP8.out.gbk.cell 0,HP8.out.gbk.cell 1,HP8.out.abk.cell 0,HP8.out.abk.cell 1,HP8.out.abk.cell 2⟩) (fun _ _=>?_)
 try simp only [tA,tB,tC,Act.put,tE,tF,tG]
 clear hK K inv hS;rename_i hS inv
 have z0:w8.cell? ⟨w.heap.size,0,none⟩=some (.slice none 0 0):=HP8.out.res1.cell 0
 have z1:w8.cell? ⟨w.heap.size,1,none⟩=some (.slice none 0 0):=HP8.out.res1.cell 1
 have z2:w8.cell? ⟨w.heap.size+1,0,none⟩=some (.int .i64 0):=HP8.out.res2.cell 0
 have z3:w8.cell? ⟨w.heap.size+1,1,none⟩=some (.slice none 0 0):=HP8.out.res2.cell 1
 have z4:w8.cell? ⟨w.heap.size+1,2,none⟩=some (.slice none 0 0):=HP8.out.res2.cell 2
 have v0:=HP8.out.res1.frozen 0
 have v1:=HP8.out.res1.frozen 1
 have v2:=HP8.out.res2.frozen 0
 have v3:=HP8.out.res2.frozen 1
 have v4:=HP8.out.res2.frozen 2
 have hlr:=HP8.out.res1.lt
 have hls:=HP8.out.res2.lt
 have HQ:=Hd_ (HP8.out.put (.slice A1 n1 c1) (.slice A2 n2 c2))
 have HQB:=Hd_ (HP8.out.blks HQ.out.1)
 refine F_o1 7 inv ?_;intro K hK
 try simp only [tA,tB,tC]
 go_simp
 refine hK.out _ _ (⟨HQB.out.1.cell 0,HQB.out.1.cell 1,HQB.out.2.cell 0,HQB.out.2.cell 1,HQB.out.2.cell 2⟩) (fun _ _=>?_)
 try simp only [tA,tB,tC,Act.put,tE,tF,tG]
 clear hK K inv hS;rename_i hS inv
 have HQC:=Hd_ (HP8.out.blks (putGC_only w8 w.heap.size (.slice A1 n1 c1) (.slice A2 n2 c2) (.int .i64 a.start) (.slice A3 n3 c3) (.slice A4 n4 c4)))
 refine F_o1 8 inv ?_;intro K hK
 try simp only [tA,tB,tC]
 go_simp
 refine hK.out _ _ (⟨HQC.out.1.cell 0,HQC.out.1.cell 1,HQC.out.2.cell 0,HQC.out.2.cell 1,HQC.out.2.cell 2⟩) (fun _ _=>?_)
 try simp only [tA,tB,tC,Act.put,tE,tF,tG]
 clear hK K inv hS;rename_i hS inv
 refine F_o1 9 inv ?_;intro K hK
 try simp only [tA,tB,tC]
 go_simp
 refine hK.out _ _ (⟨HQC.out.1.cell 0,HQC.out.1.cell 1,HQC.out.2.cell 0,HQC.out.2.cell 1,HQC.out.2.cell 2⟩) (fun _ _=>?_)
 try simp only [tA,tB,tC,Act.put,tE,tF,tG]
 clear hK K inv hS;rename_i hS inv
 refine F_o1 10 inv ?_;intro K hK
 try simp only [tA,tB,tC]
 go_simp
 refine hK.out _ _ (⟨HQC.out.1.cell 0,HQC.out.1.cell 1,HQC.out.2.cell 0,HQC.out.2.cell 1,HQC.out.2.cell 2⟩) (fun _ _=>?_)
 try simp only [tA,tB,tC,Act.put,tE,tF,tG]
 clear hK K inv hS;rename_i hS inv
 refine F_l1 11 ?_;intro K hK
 go_simp
 refine hK _ _ ?_
 clear hK K
 have HD:=Hd_ (HP8.out.fin0 (putGC_only w8 w.heap.size (.slice A1 n1 c1) (.slice A2 n2 c2) (.int .i64 a.start) (.slice A3 n3 c3) (.slice A4 n4 c4)))
 go_wp2_with fail
 all_goals exact bodyPost_ret (v:=.tuple #[.agg #[.slice A1 n1 c1,.slice A2 n2 c2],.agg #[.int .i64 a.start,.slice A3 n3 c3,.slice A4 n4 c4],.int .i64 x,.int .i64 y,.int .i64 q]) (by simp [results,Tryz.results5,go_sem,z0,z1,z2,z3,z4,v0,v1,v2,v3,v4,hlr,hls]) rfl ⟨_,_,g,a,_,_,_,rfl,HD.out⟩
end Go.Proofs.YteaplabkemoenaaGreat
namespace Go.Proofs.YteaplabkemoenaaGreat
open Go.ChangeShapes Go.WideShapes Go.ChangeAt Go.RowKit
theorem aft1_test (a:Au) (l m t u:Nat):(aft1 a l m t).testBit u=(m.testBit u || decide (mv a t l=(u:Int))):=by
 unfold aft1
 split
 · rename_i h
   rw [ins_test]
   congr 1
   apply decide_eq_decide.2
   omega
 · rename_i h
   have:¬ mv a t l=(u:Int):=by omega
   simp [this]
theorem aftF1_test (a:Au) (l u:Nat):∀ (L:List Nat) (m:Nat),(L.foldl (aft1 a l) m).testBit u=(m.testBit u || L.any fun t=>decide (mv a t l=(u:Int)))
 | [],m=>by simp
 | t :: L,m=>by rw [List.foldl_cons,aftF1_test a l u L,aft1_test,List.any_cons,Bool.or_assoc]
theorem aftFS_test (a:Au) (v l u:Nat):∀ (L:List Nat) (m:Nat),(L.foldl (aftS a v l) m).testBit u=(m.testBit u || L.any fun s=>(mem 12 (cls a v s)).any fun t=>decide (mv a t l=(u:Int)))
 | [],m=>by simp
 | s :: L,m=>by rw [List.foldl_cons,aftFS_test a v l u L,aftS,aftF1_test,List.any_cons,Bool.or_assoc]
theorem aft_test (a:Au) (S v l u:Nat):(aft a S v l).testBit u=(mem 12 S).any fun s=>(mem 12 (cls a v s)).any fun t=>decide (mv a t l=(u:Int)):=by rw [aft,aftFS_test,Nat.zero_testBit,Bool.false_or]
theorem test_lt {n S s:Nat} (hS:S < 2 ^ n) (h:S.testBit s=true):s < n:=by
 rcases Nat.lt_or_ge s n with h1 | h1
 · exact h1
 · rw [Nat.testBit_lt_two_pow (Nat.lt_of_lt_of_le hS (Nat.pow_le_pow_right (by omega) h1))] at h;cases h
theorem aft_any {a:Au} (ha:auOk a=true) {S:Nat} (hS:S < 2 ^ a.accept.length) (v l u:Nat):(aft a S v l).testBit u=true ↔ ∃ s,S.testBit s=true/\(aft a (bit s) v l).testBit u=true:=by
 have hn:=(auOk_iff.1 ha).1.2
 rw [aft_test,List.any_eq_true]
 constructor
 · rintro ⟨s,hs,h⟩
   rw [mem_mem] at hs
   exact ⟨s,hs.2,by rw [aft_test,mem_pow hs.1,List.any_cons,h];rfl⟩
 · rintro ⟨s,hs,h⟩
   have hs12:s < 12:=by have:=test_lt hS hs;omega
   rw [aft_test,mem_pow hs12] at h
   exact ⟨s,mem_mem.2 ⟨hs12,hs⟩,by simpa using h⟩
/-- vertex (x, q) reaches an accepting end at y in exactly f steps -/
def hitK (g:Gr) (a:Au) (y f x q:Nat):Prop:=toG (nextI g a) (fun i=>i ∈ goalsL g a y) f (x * a.accept.length+q)
theorem div_vx {n x q:Nat} (hq:q < n):(x * n+q) / n=x:=by
 rw [Nat.mul_comm,Nat.mul_add_div (by omega),Nat.div_eq_of_lt hq];rfl
theorem mod_vx {n x q:Nat} (hq:q < n):(x * n+q) % n=q:=by rw [Nat.mul_comm,Nat.mul_add_mod,Nat.mod_eq_of_lt hq]
theorem mem_nextI {g:Gr} {a:Au} (ha:auOk a=true) {x q v:Nat} (hq:q < a.accept.length):v ∈ nextI g a (x * a.accept.length+q) ↔ ∃ p ∈ arcsOf g (x:Int),∃ t,(aft a (bit q) (valAt g x) p.2.1.toNat).testBit t=true/\v=p.2.2.toNat * a.accept.length+t:=by
 have hn:=(auOk_iff.1 ha).1.2
 rw [nextI,div_vx hq,mod_vx hq,nextV,List.mem_flatMap]
 constructor
 · rintro ⟨p,hp,h⟩
   obtain ⟨t,ht,rfl⟩:=List.mem_map.1 h
   exact ⟨p,hp,t,(mem_mem.1 ht).2,rfl⟩
 · rintro ⟨p,hp,t,ht,rfl⟩
   have:=test_lt (aft_lt ha (bit q) (valAt g x) p.2.1.toNat) ht
   exact ⟨p,hp,List.mem_map.2 ⟨t,mem_mem.2 ⟨by omega,ht⟩,rfl⟩⟩
theorem hit_zero {g:Gr} {a:Au} {y x q:Nat} (hq:q < a.accept.length):hitK g a y 0 x q ↔ x=y/\accC a (valAt g y) q=true:=by
 show x * a.accept.length+q ∈ goalsL g a y ↔ _
 rw [mem_goalsL]
 constructor
 · rintro ⟨s,hs,hc,he⟩
   have h1:=congrArg (· / a.accept.length) he
   have h2:=congrArg (· % a.accept.length) he
   simp only [div_vx hq,div_vx hs,mod_vx hq,mod_vx hs] at h1 h2
   subst h1 h2
   exact ⟨rfl,hc⟩
 · rintro ⟨rfl,h⟩
   exact ⟨q,hq,h,rfl⟩
theorem hit_succ {g:Gr} {a:Au} (ha:auOk a=true) {y f x q:Nat} (hq:q < a.accept.length):hitK g a y (f+1) x q ↔ ∃ p ∈ arcsOf g (x:Int),∃ t,(aft a (bit q) (valAt g x) p.2.1.toNat).testBit t=true/\hitK g a y f p.2.2.toNat t:=by
 show (∃ k ∈ nextI g a (x * a.accept.length+q),toG (nextI g a) (fun i=>i ∈ goalsL g a y) f k) ↔ _
 constructor
 · rintro ⟨k,hk,h⟩
   obtain ⟨p,hp,t,ht,rfl⟩:=(mem_nextI ha hq).1 hk
   exact ⟨p,hp,t,ht,h⟩
 · rintro ⟨p,hp,t,ht,h⟩
   exact ⟨_,(mem_nextI ha hq).2 ⟨p,hp,t,ht,rfl⟩,h⟩
theorem fold_pos {g:Gr} {a:Au} {y:Int} {f x s:Nat}:∀ (l:List Arc) (m:Nat),0 < l.foldl (cwStep g a (cw g a y f) x s) m ↔ 0 < m ∨ ∃ p ∈ l,0 < cwAt g a y f x s p
 | [],m=>by simp
 | p :: l,m=>by
   rw [List.foldl_cons,fold_pos l]
   have hs:cwStep g a (cw g a y f) x s m p=min 1000000 (m+cwAt g a y f x s p):=rfl
   rw [hs]
   constructor
   · rintro (h | ⟨q,hq,h⟩)
     · rcases Nat.eq_zero_or_pos m with h0 | h0
       · exact .inr ⟨p,List.mem_cons_self ..,by omega⟩
       · exact .inl h0
     · exact .inr ⟨q,List.mem_cons_of_mem _ hq,h⟩
   · rintro (h | ⟨q,hq,h⟩)
     · exact .inl (by omega)
     · rcases List.mem_cons.1 hq with rfl | hq
       · exact .inl (by omega)
       · exact .inr ⟨q,hq,h⟩
theorem cw_pos {g:Gr} {a:Au} (ha:auOk a=true) {y:Nat}:∀ {f x s:Nat},s < 2 ^ a.accept.length->(0 < cw g a (y:Int) f x s ↔ ∃ q,s.testBit q=true/\hitK g a y f x q)
 | 0,x,s,hs=>by
   have hn:=(auOk_iff.1 ha).1.2
   rw [cw]
   have e:(decide ((x:Int)=(y:Int)) && acc a s (valAt g x))=true ↔ ∃ q,s.testBit q=true/\hitK g a y 0 x q:=by
    rw [Bool.and_eq_true,decide_eq_true_eq,acc,List.any_eq_true]
    constructor
    · rintro ⟨hxy,q,hq,h⟩
      obtain rfl:x=y:=by omega
      have h2:=(mem_mem.1 hq).2
      exact ⟨q,h2,(hit_zero (test_lt hs h2)).2 ⟨rfl,h⟩⟩
    · rintro ⟨q,hq,h⟩
      have hql:=test_lt hs hq
      obtain ⟨rfl,h2⟩:=(hit_zero hql).1 h
      exact ⟨rfl,q,mem_mem.2 ⟨by omega,hq⟩,h2⟩
   rw [<- e]
   split <;> simp_all
 | f+1,x,s,hs=>by
   rw [cw,fold_pos]
   constructor
   · rintro (h | ⟨p,hp,h⟩)
     · omega
     · rw [cwAt,cw_pos ha (aft_lt ha _ _ _)] at h
       obtain ⟨t,ht,h⟩:=h
       obtain ⟨q,hq,ht⟩:=(aft_any ha hs _ _ _).1 ht
       exact ⟨q,hq,(hit_succ ha (test_lt hs hq)).2 ⟨p,hp,t,ht,h⟩⟩
   · rintro ⟨q,hq,h⟩
     obtain ⟨p,hp,t,ht,h⟩:=(hit_succ ha (test_lt hs hq)).1 h
     refine .inr ⟨p,hp,?_⟩
     rw [cwAt,cw_pos ha (aft_lt ha _ _ _)]
     exact ⟨t,(aft_any ha hs _ _ _).2 ⟨q,hq,ht⟩,h⟩
def keepTo (D:List Int) (n x set f:Nat):Nat->Nat
 | 0=>0
 | q+1=>if (set.testBit q && (D.getD (x * n+q) 0==(f:Int)))=true then ins (keepTo D n x set f q) q else keepTo D n x set f q
theorem keepTo_test (D:List Int) (n x set f u:Nat):∀ k,(keepTo D n x set f k).testBit u=true ↔ u < k/\set.testBit u=true/\D.getD (x * n+u) 0=(f:Int)
 | 0=>by simp [keepTo]
 | k+1=>by
   rw [keepTo]
   split
   · rename_i h
     rw [Bool.and_eq_true,beq_iff_eq] at h
     rw [ins_test,Bool.or_eq_true,keepTo_test D n x set f u k,decide_eq_true_eq]
     constructor
     · rintro (⟨h1,h2⟩ | rfl)
       · exact ⟨by omega,h2⟩
       · exact ⟨by omega,h⟩
     · rintro ⟨h1,h2⟩
       by_cases hk:k=u
       · exact .inr hk
       · exact .inl ⟨by omega,h2⟩
   · rename_i h
     rw [Bool.and_eq_true,beq_iff_eq] at h
     rw [keepTo_test D n x set f u k]
     constructor
     · rintro ⟨h1,h2⟩;exact ⟨by omega,h2⟩
     · rintro ⟨h1,h2⟩
       refine ⟨?_,h2⟩
       by_cases hk:u=k
       · subst hk;exact absurd h2 h
       · omega
theorem keepTo_lt (D:List Int) (n x set f:Nat):∀ k,keepTo D n x set f k < 2 ^ k
 | 0=>by simp [keepTo]
 | k+1=>by
   have h:=keepTo_lt D n x set f k
   have h2:keepTo D n x set f k < 2 ^ (k+1):=Nat.lt_of_lt_of_le h (Nat.pow_le_pow_right (by omega) (by omega))
   rw [keepTo]
   split
   · exact ins_lt h2 (by omega)
   · exact h2
def keepK (a:Au) (D:List Int) (x set f:Nat):Nat:=keepTo D a.accept.length x set f a.accept.length
def keepA (g:Gr) (a:Au) (D:List Int) (f x s:Nat) (p:Arc):Nat:=keepK a D p.2.2.toNat (aft a s (valAt g x) p.2.1.toNat) f
/-- the walk's steps, with f steps left -/
def lwL (g:Gr) (a:Au) (D:List Int):Nat->Nat->Nat->List St
 | 0,_,_=>[]
 | f+1,x,s=>match (arcsOf g (x:Int)).find? (fun p=>decide (keepA g a D f x s p ≠ 0)) with
   | none=>lwL g a D f x s
   | some p=>p.1 :: lwL g a D f p.2.2.toNat (keepA g a D f x s p)
theorem find_congr {α:Type} {p q:α->Bool}:∀ {l:List α},(∀ x ∈ l,p x=q x)->l.find? p=l.find? q
 | [],_=>rfl
 | x :: l,h=>by
   rw [List.find?_cons,List.find?_cons,h x (List.mem_cons_self ..),find_congr (fun y hy=>h y (List.mem_cons_of_mem _ hy))]
theorem pick_zero {α:Type} (k:α->Nat):∀ l:List α,pick k l 0=(l.find? fun p=>decide (0 < k p)).map fun p=>(p,0)
 | []=>rfl
 | p :: l=>by
   rw [pick,List.find?_cons]
   by_cases h:0 < k p
   · simp [h]
   · have h2:k p=0:=by omega
     simp [h2,pick_zero k l]
/-- S: the states of the walk so far; K: those of them at distance f; none is nearer -/
structure KeepI (g:Gr) (a:Au) (y f x S K:Nat):Prop where
 far:∀ q,S.testBit q=true->∀ m,m < f->¬ hitK g a y m x q
 kept:∀ q,K.testBit q=true ↔ S.testBit q=true/\hitK g a y f x q
theorem ne_zero_iff {m:Nat}:m ≠ 0 ↔ ∃ q,m.testBit q=true:=by
 constructor
 · exact Nat.exists_testBit_of_ne_zero
 · rintro ⟨q,hq⟩ rfl
   simp at hq
theorem dist_eq {g:Gr} {a:Au} {y:Nat} (hg:grOk g=true) (ha:auOk a=true) (hy:y < g.vals.length) {x q:Nat} (hx:x < g.vals.length) (hq:q < a.accept.length) (f:Nat) :
 (distTo g a (y:Int)).getD (x * a.accept.length+q) 0=(f:Int) ↔ hitK g a y f x q/\∀ m,m < f->¬ hitK g a y m x q:=by
 have hd:(wi (y:Int) 0 ((g.vals.length:Int) - 1) && (grOk g && auOk a))=true:=by
  simp only [Bool.and_eq_true]
  exact ⟨by rw [wi_iff];omega,hg,ha⟩
 have hN:∀ i k,i < g.vals.length * a.accept.length->k ∈ nextI g a i->k < g.vals.length * a.accept.length:=fun i k _ hk=>nextV_lt (grOk_iff.1 hg) ha hk
 have hfs:∀ i ∈ goalsL g a y,i < g.vals.length * a.accept.length:=fun i hi=>by
  obtain ⟨s,hs,_,rfl⟩:=mem_goalsL.1 hi
  calc y * a.accept.length+s < y * a.accept.length+a.accept.length:=by omega
   _=(y+1) * a.accept.length:=by rw [Nat.add_mul,Nat.one_mul]
   _<=_:=Nat.mul_le_mul_right _ hy
 have hi:x * a.accept.length+q < g.vals.length * a.accept.length:=by
  calc x * a.accept.length+q < x * a.accept.length+a.accept.length:=by omega
   _=(x+1) * a.accept.length:=by rw [Nat.add_mul,Nat.one_mul]
   _<=_:=Nat.mul_le_mul_right _ hx
 have h:=spread_dist hfs hN _ hi
 have he:(distTo g a (y:Int)).getD (x * a.accept.length+q) 0=(spreadR (g.vals.length * a.accept.length) (turnL (g.vals.length * a.accept.length) (nextI g a)) (goalsL g a y)).getD (x * a.accept.length+q) 0:=by rw [distTo,if_pos hd,Int.toNat_natCast]
 rw [<- he] at h
 constructor
 · intro hf
   rcases h with ⟨h1,-⟩ | ⟨h1,h2,h3⟩
   · omega
   · rw [hf,Int.toNat_natCast] at h2 h3
     exact ⟨h2,h3⟩
 · rintro ⟨h1,h2⟩
   exact h.uniq (.inr ⟨by omega,by rw [Int.toNat_natCast];exact h1,by rw [Int.toNat_natCast];exact h2⟩)
theorem KeepI.step {g:Gr} {a:Au} {y:Nat} (hg:grOk g=true) (ha:auOk a=true) (hy:y < g.vals.length) {f x S K:Nat} (hS:S < 2 ^ a.accept.length) (hK:K < 2 ^ a.accept.length) (h:KeepI g a y (f+1) x S K) {p:Arc} (hp:p ∈ arcsOf g (x:Int)) :
 KeepI g a y f p.2.2.toNat (aft a S (valAt g x) p.2.1.toNat) (keepA g a (distTo g a (y:Int)) f x K p):=by
 have hr:=arc_range (grOk_iff.1 hg) hp
 have hx:p.2.2.toNat < g.vals.length:=by omega
 have far:∀ q,(aft a S (valAt g x) p.2.1.toNat).testBit q=true->∀ m,m < f->¬ hitK g a y m p.2.2.toNat q:=fun q hq m hm hh=>by
  obtain ⟨s,hs,hq⟩:=(aft_any ha hS _ _ _).1 hq
  exact h.far s hs (m+1) (by omega) ((hit_succ ha (test_lt hS hs)).2 ⟨p,hp,q,hq,hh⟩)
 refine ⟨far,fun q=>?_⟩
 rw [keepA,keepK,keepTo_test]
 constructor
 · rintro ⟨h1,h2,h3⟩
   obtain ⟨s,hs,hq⟩:=(aft_any ha hK _ _ _).1 h2
   exact ⟨(aft_any ha hS _ _ _).2 ⟨s,((h.kept s).1 hs).1,hq⟩,((dist_eq hg ha hy hx h1 f).1 h3).1⟩
 · rintro ⟨h1,h2⟩
   have hql:=test_lt (aft_lt ha S (valAt g x) p.2.1.toNat) h1
   obtain ⟨s,hs,hq⟩:=(aft_any ha hS _ _ _).1 h1
   refine ⟨hql,(aft_any ha hK _ _ _).2 ⟨s,(h.kept s).2 ⟨hs,(hit_succ ha (test_lt hS hs)).2 ⟨p,hp,q,hq,h2⟩⟩,hq⟩,(dist_eq hg ha hy hx hql f).2 ⟨h2,far q h1⟩⟩
theorem lw_nth {g:Gr} {a:Au} {y:Nat} (hg:grOk g=true) (ha:auOk a=true) (hy:y < g.vals.length):∀ {f x S K:Nat},S < 2 ^ a.accept.length->K < 2 ^ a.accept.length->KeepI g a y f x S K->0 < cw g a (y:Int) f x S ->
 lwL g a (distTo g a (y:Int)) f x K=nthL g a (y:Int) f x S 0
 | 0,x,S,K,_,_,_,_=>rfl
 | f+1,x,S,K,hS,hK,h,hc=>by
   have hst:=fun p hp=>h.step hg ha hy hS hK (p:=p) hp
   have hfe:(arcsOf g (x:Int)).find? (fun p=>decide (keepA g a (distTo g a (y:Int)) f x K p ≠ 0))=(arcsOf g (x:Int)).find? (fun p=>decide (0 < cwAt g a (y:Int) f x S p)):=by
    refine find_congr fun p hp=>decide_eq_decide.2 ?_
    rw [ne_zero_iff,cwAt,cw_pos ha (aft_lt ha _ _ _)]
    constructor
    · rintro ⟨q,hq⟩;exact ⟨q,((hst p hp).kept q).1 hq⟩
    · rintro ⟨q,hq⟩;exact ⟨q,((hst p hp).kept q).2 hq⟩
   obtain ⟨p,n',e1,e2,e3⟩:=pick_cw hc
   have e0:=e1
   rw [pick_zero] at e0
   cases hf:(arcsOf g (x:Int)).find? (fun p=>decide (0 < cwAt g a (y:Int) f x S p)) with
   | none=>rw [hf] at e0;cases e0
   | some p' =>
     rw [hf] at e0
     injection e0 with e0
     injection e0 with e4 e5
     subst e4 e5
     rw [nthL_succ e1,lwL,hfe,hf]
     have hlt:keepA g a (distTo g a (y:Int)) f x K p' < 2 ^ a.accept.length:=keepTo_lt ..
     exact congrArg _ (lw_nth hg ha hy (aft_lt ha _ _ _) hlt (hst p' e3) e2)
/-- the reference's least witness -/
def lstShort (g:Gr) (a:Au) (x y:Int):Wk × Bool:=if shortLen g a x y < 0 then ((0,[]),false) else ((x,lwL g a (distTo g a y) (shortLen g a x y).toNat x.toNat (bit a.start.toNat)),true)
theorem lst_nth (g:Gr) (a:Au) (x y:Int):lstShort g a x y=nthShort g a x y 0:=by
 unfold lstShort
 by_cases h:shortLen g a x y < 0
 · rw [if_pos h,nthShort,if_neg]
   rw [nthSh,decide_eq_false (by omega)];simp
 · rw [if_neg h]
   obtain ⟨⟨hx0,hx1⟩,⟨hy0,hy1⟩,hg,ha⟩:=cntOk_iff.1 (shortLen_ok (show 0<=shortLen g a x y by omega))
   obtain ⟨x,rfl⟩:=Int.eq_ofNat_of_zero_le hx0
   obtain ⟨y,rfl⟩:=Int.eq_ofNat_of_zero_le hy0
   have hs:a.start.toNat < a.accept.length:=by have:=(auOk_iff.1 ha).2.1;omega
   have hd:=shortLen_dist hg ha (show x < g.vals.length by omega) (show y < g.vals.length by omega)
   obtain ⟨L,hL⟩:=Int.eq_ofNat_of_zero_le (show 0<=shortLen g a (x:Int) (y:Int) by omega)
   rw [hL] at hd
   rcases hd with ⟨h1,-⟩ | ⟨-,h1,h2⟩
   · omega
   rw [Int.toNat_natCast] at h1 h2
   have hb:∀ q,(bit a.start.toNat).testBit q=true->q=a.start.toNat:=fun q hq=>by rw [bit_test,decide_eq_true_eq] at hq;exact hq.symm
   have hI:KeepI g a y L x (bit a.start.toNat) (bit a.start.toNat):=by
    refine ⟨fun q hq m hm=>?_,fun q=>⟨fun hq=>⟨hq,?_⟩,fun hq=>hq.1⟩⟩
    · rw [hb q hq];exact h2 m hm
    · rw [hb q hq];exact h1
   have hc:0 < cw g a (y:Int) L x (bit a.start.toNat):=(cw_pos ha (bit_lt hs)).2 ⟨a.start.toNat,by rw [bit_test];simp,h1⟩
   have hsh:nthSh g a (x:Int) (y:Int) 0=true:=by
    rw [nthSh,decide_eq_true (by omega),Bool.true_and,hL,Int.toNat_natCast,wi_iff]
    have:cwI g a (x:Int) (y:Int) L=cw g a (y:Int) L x (bit a.start.toNat):=rfl
    omega
   rw [nthShort,if_pos hsh,hL,Int.toNat_natCast,Int.toNat_natCast,lw_nth hg ha (by omega) (bit_lt hs) (bit_lt hs) hI hc]
   rfl
/-- add up what is passed over, at most a million -/
def addK {α:Type} (k:α->Nat) (r:Nat) (p:α):Nat:=min 1000000 (r+k p)
def passK {α:Type} (k:α->Nat) (l:List α) (r:Nat):Nat:=l.foldl (addK k) r
theorem passK_le {α:Type} (k:α->Nat):∀ (l:List α) (r:Nat),r<=1000000->passK k l r<=1000000
 | [],_,h=>h
 | p :: l,_,_=>passK_le k l _ (Nat.min_le_left _ _)
theorem passK_succ {α:Type} {k:α->Nat} {l:List α} {i r:Nat} {p:α} (h:l[i]?=some p):passK k (l.take (i+1)) r=min 1000000 (passK k (l.take i) r+k p):=foldl_take h r
/-- what is passed over ahead of step st -/
def overK (k:Arc->Nat) (l:List Arc) (st:St) (r:Nat):Nat:=passK k (l.take (l.findIdx (fun p=>p.1==st))) r
theorem overK_le (k:Arc->Nat) (l:List Arc) (st:St) {r:Nat} (h:r<=1000000):overK k l st r<=1000000:=passK_le _ _ _ h
theorem overK_here {k:Arc->Nat} {l:List Arc} {st:St} {r i:Nat} {p:Arc} (h:l[i]?=some p) (hp:p.1=st) (hno:∀ j q,j < i->l[j]?=some q->q.1 ≠ st):overK k l st r=passK k (l.take i) r:=by
 have hi:=(List.getElem?_eq_some_iff.1 h).1
 have:l.findIdx (fun p=>p.1==st)=i:=by
  rw [List.findIdx_eq hi]
  refine ⟨?_,fun j hj=>?_⟩
  · rw [(List.getElem?_eq_some_iff.1 h).2,hp];simp
  · have:=hno j l[j] hj (List.getElem?_eq_getElem (by omega))
    simpa using this
 rw [overK,this]
theorem overK_cons_no {k:Arc->Nat} {l:List Arc} {st:St} {r:Nat} {p:Arc} (hp:p.1 ≠ st):overK k (p :: l) st r=overK k l st (addK k r p):=by
 have:(p :: l).findIdx (fun p=>p.1==st)=l.findIdx (fun p=>p.1==st)+1:=by
  rw [List.findIdx_cons,show (p.1==st)=false by simpa using hp];rfl
 rw [overK,this,List.take_succ_cons];rfl
theorem overK_cons_yes {k:Arc->Nat} {l:List Arc} {st:St} {r:Nat} {p:Arc} (hp:p.1=st):overK k (p :: l) st r=r:=by
 have:(p :: l).findIdx (fun p=>p.1==st)=0:=by
  rw [List.findIdx_cons,show (p.1==st)=true by simpa using hp];rfl
 rw [overK,this];rfl
theorem RowR.over {g:Gr} {a:Au} {y:Int} {f x s:Nat} {N:List Key} {C:Nat->Nat} (hC:∀ i k,N[i]?=some k->C i=cw g a y f k.1 k.2) {st:St} {l:List Arc} {T:List (St × Nat)} (h:RowR g a x s N l T)
 (hne:∀ p ∈ l,p.1=st->aft a s (valAt g x) p.2.1.toNat ≠ 0) (hex:∃ p ∈ l,p.1=st):∀ r,r<=1000000 ->
 ∃ j i p,T[j]?=some (st,i)/\(∀ j' q,j' < j->T[j']?=some q->q.1 ≠ st)/\passK (fun e:St × Nat=>C e.2) (T.take j) r=overK (cwAt g a y f x s) l st r/\p ∈ l/\p.1=st/\N[i]?=some (p.2.2.toNat,aft a s (valAt g x) p.2.1.toNat):=by
 induction h with
 | nil=>obtain ⟨p,hp,_⟩:=hex;cases hp
 | @skip p0 l0 T0 h1 _ ih =>
   intro r hr
   have hp0:p0.1 ≠ st:=fun e=>hne p0 (List.mem_cons_self ..) e h1
   obtain ⟨j,i,p,e1,e2,e3,e4,e5,e6⟩:=ih (fun p hp=>hne p (List.mem_cons_of_mem _ hp)) (by
    obtain ⟨p,hp,hps⟩:=hex
    rcases List.mem_cons.1 hp with rfl | hp
    · exact absurd hps hp0
    · exact ⟨p,hp,hps⟩) r hr
   refine ⟨j,i,p,e1,e2,?_,List.mem_cons_of_mem _ e4,e5,e6⟩
   rw [e3,overK_cons_no hp0,addK,cwAt,h1,cw_none,Nat.add_zero,Nat.min_eq_right hr]
 | @take p0 l0 T0 i0 h1 h2 _ ih =>
   intro r hr
   by_cases hp0:p0.1=st
   · refine ⟨0,i0,p0,by rw [<- hp0];rfl,fun j' q hj=>by omega,?_,List.mem_cons_self ..,hp0,h2⟩
     rw [overK_cons_yes hp0];rfl
   · obtain ⟨j,i,p,e1,e2,e3,e4,e5,e6⟩:=ih (fun p hp=>hne p (List.mem_cons_of_mem _ hp)) (by
      obtain ⟨p,hp,hps⟩:=hex
      rcases List.mem_cons.1 hp with rfl | hp
      · exact absurd hps hp0
      · exact ⟨p,hp,hps⟩) (addK (cwAt g a y f x s) r p0) (Nat.min_le_left _ _)
     refine ⟨j+1,i,p,by simpa using e1,fun j' q hj hq=>?_,?_,List.mem_cons_of_mem _ e4,e5,e6⟩
     · cases j' with
       | zero=>simp only [List.getElem?_cons_zero,Option.some.injEq] at hq;rw [<- hq];exact hp0
       | succ j'=>exact e2 j' q (by omega) (by simpa using hq)
     · rw [overK_cons_no hp0,<- e3,List.take_succ_cons]
       show passK _ _ (addK (fun e:St × Nat=>C e.2) r (p0.1,i0))=_
       rw [addK,addK,hC _ _ h2];rfl
theorem arc_of_edge {g:Gr} {e:Ed} (he:e ∈ g.edges) (b:Bool):∃ p ∈ arcsOf g (arcTo (!b) e),p.1=(e.1,b):=by
 cases b with
 | false=>exact ⟨((e.1,false),2 * e.2.2.2,e.2.2.1),List.mem_flatMap.2 ⟨e,he,mem_arcE.2 (.inl ⟨rfl,rfl⟩)⟩,rfl⟩
 | true=>exact ⟨((e.1,true),2 * e.2.2.2+1,e.2.1),List.mem_flatMap.2 ⟨e,he,mem_arcE.2 (.inr ⟨rfl,rfl⟩)⟩,rfl⟩
theorem step_arc {g:Gr} {k:Wk} (h:walkOk g k=true) {i:Nat} (hi:i < k.2.length):∃ s,k.2[i]?=some s/\(∃ p ∈ arcsOf g (nodeAt g k i:Int),p.1=s)/\∀ p ∈ arcsOf g (nodeAt g k i:Int),p.1=s->p.2.1.toNat=letAt g k i/\p.2.2=(nodeAt g k (i+1):Int):=by
 obtain ⟨s,e,hs,he,h1,h2,h3,h4⟩:=walk_step h hi
 obtain ⟨s',e',hs',he',hf,-⟩:=(walk_parts h (Nat.le_of_lt hi)).2 hi
 rw [hs] at hs'
 injection hs' with hs'
 subst hs'
 rw [he] at he'
 injection he' with he'
 subst he'
 obtain ⟨hg,hm,hid⟩:=stepEd_ok he
 have hn:=(nodeAt_lt h (Nat.le_of_lt hi)).1
 rw [nodeAt_at (Nat.le_of_lt hi)] at hn
 injection hn with hn
 refine ⟨s,hs,?_,fun p hp hps=>?_⟩
 · obtain ⟨p,hp,hps⟩:=arc_of_edge hm s.2
   refine ⟨p,?_,by rw [hps,hid]⟩
   rw [<- hn,<- hf,stepFrom_of he];exact hp
 · obtain ⟨e2,g1,g2,g3⟩:=arc_stepEd (grOk_iff.2 hg) hp
   rw [hps,he] at g1
   injection g1 with g1
   subst g1
   rw [hps] at g2 g3
   exact ⟨by rw [<- g2,h2,Int.toNat_natCast],by rw [<- g3,h1]⟩
theorem setAt_none {g:Gr} {a:Au} {k:Wk} {i:Nat} (h:setAt g a k i=0):∀ j,i<=j->setAt g a k j=0:=by
 intro j hj
 obtain ⟨d,rfl⟩:=Nat.exists_eq_add_of_le hj
 induction d with
 | zero=>exact h
 | succ d ih=>rw [<- Nat.add_assoc,setAt,ih (by omega),aft_none]
theorem isWit_parts {g:Gr} {a:Au} {x y:Int} {k:Wk} (h:isWit g a x y k=true):k.1=x/\walkOk g k=true/\auOk a=true/\∀ i,i<=k.2.length->setAt g a k i ≠ 0:=by
 simp only [isWit,matchB,Bool.and_eq_true,beq_iff_eq] at h
 obtain ⟨⟨h1,-⟩,⟨h2,h3⟩,h4⟩:=h
 refine ⟨h1,h2,h3,fun i hi hz=>?_⟩
 rw [setAt_none hz _ hi,acc_none] at h4
 cases h4
theorem wit_arc {g:Gr} {a:Au} {x y:Int} {k:Wk} (h:isWit g a x y k=true) {i:Nat} (hi:i < k.2.length):∃ s,k.2[i]?=some s/\(∃ p ∈ arcsOf g (nodeAt g k i:Int),p.1=s)/\∀ p ∈ arcsOf g (nodeAt g k i:Int),p.1=s->p.2.2=(nodeAt g k (i+1):Int)/\aft a (setAt g a k i) (valAt g (nodeAt g k i)) p.2.1.toNat=setAt g a k (i+1)/\setAt g a k (i+1) ≠ 0:=by
 obtain ⟨h1,h2,h3,h4⟩:=isWit_parts h
 obtain ⟨s,hs,he,hp⟩:=step_arc h2 hi
 exact ⟨s,hs,he,fun p hpm hps=>⟨(hp p hpm hps).2,by rw [(hp p hpm hps).1,setAt],h4 _ hi⟩⟩
def rankTo (g:Gr) (a:Au) (y:Int) (k:Wk) (n:Nat):Nat->Nat
 | 0=>0
 | d+1=>overK (cwAt g a y (n - (d+1)) (nodeAt g k d) (setAt g a k d)) (arcsOf g (nodeAt g k d:Int)) (k.2.getD d (0,false)) (rankTo g a y k n d)
theorem rankTo_le (g:Gr) (a:Au) (y:Int) (k:Wk) (n:Nat):∀ d,rankTo g a y k n d<=1000000
 | 0=>by rw [rankTo];omega
 | d+1=>overK_le _ _ _ (rankTo_le g a y k n d)
def rankSh (g:Gr) (a:Au) (x y:Int) (k:Wk):Int :=
 if ((decide (0<=shortLen g a x y) && decide ((k.2.length:Int)=shortLen g a x y)) && isWit g a x y k)=true then (rankTo g a y k k.2.length k.2.length:Nat) else -1
end Go.Proofs.YteaplabkemoenaaGreat
namespace Go.Proofs.YteaplabkemoenaaGreat
def cmpSt (a b:St):Int:=if a.1 < b.1 then -1 else if b.1 < a.1 then 1 else if a.2=b.2 then 0 else if b.2=true then -1 else 1
def cmpSts:List St->List St->Int
 | a :: A,b :: B=>if cmpSt a b=0 then cmpSts A B else cmpSt a b
 | _,_=>0
def cmpWk (k j:Wk):Int :=
 if k.2.length < j.2.length then -1 else if j.2.length < k.2.length then 1 else if k.1 < j.1 then -1 else if j.1 < k.1 then 1 else cmpSts k.2 j.2
theorem cmpSt_eq {a b:St}:cmpSt a b=0 ↔ a=b:=by
 obtain ⟨a1,a2⟩:=a
 obtain ⟨b1,b2⟩:=b
 unfold cmpSt
 simp only [Prod.mk.injEq]
 by_cases h1:a1 < b1
 · rw [if_pos h1];constructor
   · intro h;omega
   · rintro ⟨h,-⟩;omega
 · rw [if_neg h1]
   by_cases h2:b1 < a1
   · rw [if_pos h2];constructor
     · intro h;omega
     · rintro ⟨h,-⟩;omega
   · rw [if_neg h2]
     have h3:a1=b1:=by omega
     cases a2 <;> cases b2 <;> simp [h3]
theorem cmpSts_eq:∀ {A B:List St},A.length=B.length->(cmpSts A B=0 ↔ A=B)
 | [],[],_=>by simp [cmpSts]
 | a :: A,b :: B,h=>by
   rw [cmpSts]
   by_cases e:cmpSt a b=0
   · rw [if_pos e,cmpSts_eq (by simpa using h),cmpSt_eq.1 e];simp
   · rw [if_neg e]
     constructor
     · intro h;exact absurd h e
     · intro h
       injection h with h1 h2
       exact absurd (cmpSt_eq.2 h1) e
theorem cmpWk_eq {k j:Wk}:cmpWk k j=0 ↔ k=j:=by
 obtain ⟨x,A⟩:=k
 obtain ⟨y,B⟩:=j
 unfold cmpWk
 simp only [Prod.mk.injEq]
 by_cases h1:A.length < B.length
 · rw [if_pos h1];constructor
   · intro h;omega
   · rintro ⟨-,h⟩;subst h;omega
 · rw [if_neg h1]
   by_cases h2:B.length < A.length
   · rw [if_pos h2];constructor
     · intro h;omega
     · rintro ⟨-,h⟩;subst h;omega
   · rw [if_neg h2]
     by_cases h3:x < y
     · rw [if_pos h3];constructor
       · intro h;omega
       · rintro ⟨h,-⟩;omega
     · rw [if_neg h3]
       by_cases h4:y < x
       · rw [if_pos h4];constructor
         · intro h;omega
         · rintro ⟨h,-⟩;omega
       · rw [if_neg h4,cmpSts_eq (by omega)]
         constructor
         · intro h;exact ⟨by omega,h⟩
         · rintro ⟨-,h⟩;exact h
theorem cmpWk_self (k:Wk):cmpWk k k=0:=cmpWk_eq.2 rfl
theorem cmpSts_drop {A B:List St} {i:Nat} {a b:St} (ha:A[i]?=some a) (hb:B[i]?=some b):cmpSts (A.drop i) (B.drop i)=if cmpSt a b=0 then cmpSts (A.drop (i+1)) (B.drop (i+1)) else cmpSt a b:=by
 obtain ⟨h1,rfl⟩:=List.getElem?_eq_some_iff.1 ha
 obtain ⟨h2,rfl⟩:=List.getElem?_eq_some_iff.1 hb
 rw [List.drop_eq_getElem_cons h1,List.drop_eq_getElem_cons h2,cmpSts]
end Go.Proofs.YteaplabkemoenaaGreat
namespace Go.Proofs.YteaplabkemoenaaGreat
open Go.ChangeShapes Go.WideShapes Go.ChangeAt Go.RowKit
/-- the steps lead from node x with the states s to y, where one of the states accepts -/
def goesL (g:Gr) (a:Au) (y:Int):Nat->Nat->List St->Prop
 | x,s,[]=>(x:Int)=y/\acc a s (valAt g x)=true
 | x,s,st :: L=>∃ p ∈ arcsOf g (x:Int),p.1=st/\goesL g a y p.2.2.toNat (aft a s (valAt g x) p.2.1.toNat) L
theorem nth_goes {g:Gr} {a:Au} {y:Int}:∀ {f x s n:Nat},n < cw g a y f x s->goesL g a y x s (nthL g a y f x s n)
 | 0,x,s,n,h=>by
   rw [cw] at h
   split at h
   · rename_i hc
     rw [Bool.and_eq_true,decide_eq_true_eq] at hc
     exact hc
   · exact absurd h (Nat.not_lt_zero n)
 | f+1,x,s,n,h=>by
   obtain ⟨p,n',e1,e2,e3⟩:=pick_cw h
   rw [nthL_succ e1]
   exact ⟨p,e3,rfl,nth_goes e2⟩
theorem arc_steps {g:Gr} (hgo:grOk g=true) {x:Int} {p:Arc} (hp:p ∈ arcsOf g x):stepFrom g p.1=x/\stepTo g p.1=p.2.2/\stepLetter g p.1=p.2.1:=by
 have hg:=grOk_iff.1 hgo
 obtain ⟨d,hd,hl,hto⟩:=arc_stepEd hgo hp
 refine ⟨?_,by rw [stepTo_of hd,hto],by rw [stepLetter_of hd,hl]⟩
 obtain ⟨e2,he2,hye⟩:=List.mem_flatMap.1 hp
 obtain ⟨i,hi,hie⟩:=List.getElem_of_mem he2
 have hid:=edgeIdx_at hg (show g.edges[i]?=some e2 by rw [<- hie];exact List.getElem?_eq_getElem hi)
 have hdd:d=e2:=by
  obtain ⟨-,hdm,hdi⟩:=stepEd_ok hd
  obtain ⟨k,hk,hke⟩:=List.getElem_of_mem hdm
  have hkd:g.edges[k]?=some d:=by rw [<- hke];exact List.getElem?_eq_getElem hk
  have hk2:=edgeIdx_at hg hkd
  have he1:e2.1=p.1.1:=by rcases mem_arcE.1 hye with ⟨-,rfl⟩ | ⟨-,rfl⟩ <;> rfl
  rw [hdi,<- he1,hid] at hk2
  obtain rfl:i=k:=by omega
  exact hke.symm.trans hie
 subst hdd
 rw [stepFrom_of hd]
 rcases mem_arcE.1 hye with ⟨h1,rfl⟩ | ⟨h1,rfl⟩
 · exact h1
 · exact h1
/-- along a walk that goes: the nodes, the sets and the links -/
theorem goes_at {g:Gr} {a:Au} {y:Int} {k:Wk} (hgo:grOk g=true) (hk:0<=k.1) (h:goesL g a y k.1.toNat (bit a.start.toNat) k.2):∀ i,i<=k.2.length->(∀ j,j < i->linkAt g k j=true)/\(nodesL g k).getD i 0=(nodeAt g k i:Int)/\goesL g a y (nodeAt g k i) (setAt g a k i) (k.2.drop i)
 | 0,_=>by
   have e:nodeAt g k 0=k.1.toNat:=rfl
   refine ⟨fun j hj=>absurd hj (Nat.not_lt_zero j),?_,?_⟩
   · show k.1=((nodeAt g k 0:Nat):Int)
     rw [e];omega
   · rw [e];exact h
 | i+1,hi=>by
   obtain ⟨h1,h2,h3⟩:=goes_at hgo hk h i (by omega)
   have hlt:i < k.2.length:=by omega
   obtain ⟨st,hst⟩:∃ st,k.2[i]?=some st:=⟨_,List.getElem?_eq_getElem hlt⟩
   have hdr:k.2.drop i=st :: k.2.drop (i+1):=by
    rw [List.drop_eq_getElem_cons hlt]
    rw [List.getElem?_eq_getElem hlt] at hst
    injection hst with hst
    rw [hst]
   rw [hdr] at h3
   obtain ⟨p,hp,rfl,h4⟩:=h3
   obtain ⟨e1,e2,e3⟩:=arc_steps hgo hp
   have hr:=arc_range (grOk_iff.1 hgo) hp
   have hn:(nodesL g k)[i+1]?=some p.2.2:=by rw [nodesL_next hst,e2]
   have hnd:(nodesL g k).getD (i+1) 0=p.2.2:=by rw [List.getD_eq_getElem?_getD,hn];rfl
   have hna:nodeAt g k (i+1)=p.2.2.toNat:=by rw [nodeAt,hnd]
   refine ⟨fun j hj=>?_,?_,?_⟩
   · rcases Nat.lt_succ_iff_lt_or_eq.1 hj with hj | rfl
     · exact h1 j hj
     · rw [linkAt,List.getD_eq_getElem?_getD,hst,Option.getD_some,e1,h2];simp
   · rw [hnd,hna];omega
   · have hset:setAt g a k (i+1)=aft a (setAt g a k i) (valAt g (nodeAt g k i)) p.2.1.toNat:=by
      rw [setAt,letAt,List.getD_eq_getElem?_getD,hst,Option.getD_some,e3]
     rw [hna,hset]
     exact h4
theorem goes_wit {g:Gr} {a:Au} {y:Int} {k:Wk} (hgo:grOk g=true) (ha:auOk a=true) (hk:0<=k.1/\k.1 < (g.vals.length:Int)) (hl:k.2.length<=60) (h:goesL g a y k.1.toNat (bit a.start.toNat) k.2):isWit g a k.1 y k=true:=by
 obtain ⟨h1,h2,h3⟩:=goes_at hgo hk.1 h k.2.length (Nat.le_refl _)
 rw [List.drop_length] at h3
 have hw:walkOk g k=true:=by
  simp only [walkOk,Bool.and_eq_true,wi_iff,decide_eq_true_eq,List.all_eq_true,List.mem_range]
  exact ⟨⟨⟨hgo,by omega⟩,hl⟩,h1⟩
 rw [isWit,matchB,walkEnd,if_pos hw,hw,ha]
 simp only [beq_self_eq_true,Bool.true_and,Bool.and_self]
 rw [Bool.and_eq_true]
 exact ⟨by rw [h3.1];simp,h3.2⟩
theorem cmpSt_lt {a b:St}:cmpSt a b < 0 ↔ a.1 < b.1 ∨ (a.1=b.1/\a.2=false/\b.2=true):=by
 obtain ⟨a1,a2⟩:=a
 obtain ⟨b1,b2⟩:=b
 unfold cmpSt
 simp only
 by_cases h1:a1 < b1
 · rw [if_pos h1];simp [h1]
 · rw [if_neg h1]
   by_cases h2:b1 < a1
   · rw [if_pos h2];constructor
     · intro h;omega
     · rintro (h | ⟨h,-⟩) <;> omega
   · rw [if_neg h2]
     have h3:a1=b1:=by omega
     subst h3
     cases a2 <;> cases b2 <;> simp
theorem edges_pair {g:Gr} (hg:GrOk g):g.edges.Pairwise (fun p e=>p.1 < e.1):=by
 rw [List.pairwise_iff_getElem]
 intro i j hi hj hij
 exact ids_lt hg (j - (i+1)) i _ _ (List.getElem?_eq_getElem hi) (by rw [show i+1+(j - (i+1))=j by omega];exact List.getElem?_eq_getElem hj)
theorem arcs_pair {g:Gr} (hg:GrOk g) (x:Int):(arcsOf g x).Pairwise (fun p q=>cmpSt p.1 q.1 < 0):=by
 unfold arcsOf
 have hp:=edges_pair hg
 generalize g.edges=es at hp
 induction es with
 | nil=>exact List.Pairwise.nil
 | cons e es ih =>
   obtain ⟨h1,h2⟩:=List.pairwise_cons.1 hp
   rw [List.flatMap_cons,List.pairwise_append]
   refine ⟨?_,ih h2,fun p hp q hq=>?_⟩
   · unfold arcE
     split <;> split <;> simp [cmpSt_lt]
   · obtain ⟨e2,he2,hq2⟩:=List.mem_flatMap.1 hq
     have:=h1 e2 he2
     rw [cmpSt_lt]
     refine .inl ?_
     rcases mem_arcE.1 hp with ⟨-,rfl⟩ | ⟨-,rfl⟩ <;> rcases mem_arcE.1 hq2 with ⟨-,rfl⟩ | ⟨-,rfl⟩ <;> exact this
theorem cmpSt_irr (a:St):¬ cmpSt a a < 0:=by rw [cmpSt_eq.2 rfl];omega
theorem pick_lt {k:Arc->Nat}:∀ {l:List Arc} {n m n' m':Nat} {p q:Arc},l.Pairwise (fun p q=>cmpSt p.1 q.1 < 0)->n < m->pick k l n=some (p,n')->pick k l m=some (q,m')->(p=q/\n' < m') ∨ cmpSt p.1 q.1 < 0
 | [],n,m,n',m',p,q,_,_,h,_=>by cases h
 | u :: l,n,m,n',m',p,q,hl,hnm,h1,h2=>by
   obtain ⟨hl1,hl2⟩:=List.pairwise_cons.1 hl
   rw [pick] at h1 h2
   by_cases hn:n < k u
   · rw [if_pos hn] at h1
     injection h1 with h1
     injection h1 with e1 e2
     subst e1 e2
     by_cases hm:m < k u
     · rw [if_pos hm] at h2
       injection h2 with h2
       injection h2 with e1 e2
       exact .inl ⟨e1,by omega⟩
     · rw [if_neg hm] at h2
       exact .inr (hl1 q (pick_some h2).1)
   · rw [if_neg hn] at h1
     rw [if_neg (by omega)] at h2
     exact pick_lt hl2 (by omega) h1 h2
theorem nth_lt {g:Gr} (hg:GrOk g) {a:Au} {y:Int}:∀ {f x s n m:Nat},n < m->m < cw g a y f x s->cmpSts (nthL g a y f x s n) (nthL g a y f x s m) < 0
 | 0,x,s,n,m,h,hm=>by
   rw [cw] at hm
   split at hm <;> omega
 | f+1,x,s,n,m,h,hm=>by
   obtain ⟨p,n',e1,e2,e3⟩:=pick_cw (show n < cw g a y (f+1) x s by omega)
   obtain ⟨q,m',d1,d2,d3⟩:=pick_cw hm
   rw [nthL_succ e1,nthL_succ d1,cmpSts]
   rcases pick_lt (arcs_pair hg _) h e1 d1 with ⟨rfl,hlt⟩ | hlt
   · rw [if_pos (cmpSt_eq.2 rfl)]
     exact nth_lt hg hlt d2
   · rw [if_neg (by omega)]
     exact hlt
theorem pick_over {k:Arc->Nat}:∀ {l:List Arc} {n n':Nat} {p:Arc},l.Pairwise (fun p q=>cmpSt p.1 q.1 < 0)->pick k l n=some (p,n')->∀ r,r+n<=1000000->overK k l p.1 r+n'=r+n
 | [],n,n',p,_,h,_,_=>by cases h
 | u :: l,n,n',p,hl,h,r,hr=>by
   obtain ⟨hl1,hl2⟩:=List.pairwise_cons.1 hl
   rw [pick] at h
   by_cases hn:n < k u
   · rw [if_pos hn] at h
     injection h with h
     injection h with e1 e2
     subst e1 e2
     rw [overK_cons_yes rfl]
   · rw [if_neg hn] at h
     have hne:u.1 ≠ p.1:=fun e=>by
      have:=hl1 p (pick_some h).1
      rw [e] at this
      exact cmpSt_irr _ this
     have hak:addK k r u=r+k u:=by rw [addK];omega
     rw [overK_cons_no hne,hak,pick_over hl2 h (r+k u) (by omega)]
     omega
theorem rank_chain {g:Gr} {a:Au} {y:Int} (hgo:grOk g=true) {k:Wk} (hk:0<=k.1) {f n:Nat} (hn:n < cw g a y f k.1.toNat (bit a.start.toNat)) (hL:k.2=nthL g a y f k.1.toNat (bit a.start.toNat) n) :
 ∀ d,d<=f->∃ m,m < cw g a y (f - d) (nodeAt g k d) (setAt g a k d)/\k.2.drop d=nthL g a y (f - d) (nodeAt g k d) (setAt g a k d) m/\rankTo g a y k f d+m=n
 | 0,_=>⟨n,hn,by rw [List.drop_zero,hL];rfl,by rw [rankTo];omega⟩
 | d+1,hd=>by
   obtain ⟨m,h1,h2,h3⟩:=rank_chain hgo hk hn hL d (by omega)
   have hfl:k.2.length=f:=by rw [hL,nthL_len hn]
   have hgl:=goes_at (k:=k) hgo hk (by rw [hL];exact nth_goes hn) d (by omega)
   have hsz:=cw_le g a y f k.1.toNat (bit a.start.toNat)
   rw [show f - d=(f - (d+1))+1 by omega] at h1 h2
   obtain ⟨p,n',e1,e2,e3⟩:=pick_cw h1
   rw [nthL_succ e1] at h2
   have hlt:d < k.2.length:=by omega
   have hst:k.2[d]?=some p.1:=by
    have:=congrArg (fun l=>l[0]?) h2
    simpa using this
   obtain ⟨q1,q2,q3⟩:=arc_steps hgo e3
   have hr:=arc_range (grOk_iff.1 hgo) e3
   have hnd:(nodesL g k).getD (d+1) 0=p.2.2:=by rw [List.getD_eq_getElem?_getD,nodesL_next hst,q2];rfl
   have hna:nodeAt g k (d+1)=p.2.2.toNat:=by rw [nodeAt,hnd]
   have hset:setAt g a k (d+1)=aft a (setAt g a k d) (valAt g (nodeAt g k d)) p.2.1.toNat:=by
    rw [setAt,letAt,List.getD_eq_getElem?_getD,hst,Option.getD_some,q3]
   refine ⟨n',by rw [hna,hset];exact e2,?_,?_⟩
   · rw [hna,hset]
     have:=congrArg List.tail h2
     rw [List.tail_drop] at this
     simpa using this
   · rw [rankTo,List.getD_eq_getElem?_getD,hst,Option.getD_some,pick_over (arcs_pair (grOk_iff.1 hgo) _) e1 _ (by omega)]
     exact h3
theorem rank_nth {g:Gr} {a:Au} {y:Int} (hgo:grOk g=true) {k:Wk} (hk:0<=k.1) {f n:Nat} (hn:n < cw g a y f k.1.toNat (bit a.start.toNat)) (hL:k.2=nthL g a y f k.1.toNat (bit a.start.toNat) n):rankTo g a y k f f=n:=by
 obtain ⟨m,h1,-,h3⟩:=rank_chain hgo hk hn hL f (Nat.le_refl _)
 rw [Nat.sub_self,cw] at h1
 have:m=0:=by
  split at h1 <;> omega
 omega
theorem nthSh_parts {g:Gr} {a:Au} {x y n:Int} (h:nthSh g a x y n=true):0<=shortLen g a x y/\0<=n/\n.toNat < cwI g a x y (shortLen g a x y).toNat/\(0<=x/\x < (g.vals.length:Int))/\grOk g=true/\auOk a=true:=by
 rw [nthSh,Bool.and_eq_true,decide_eq_true_eq,wi_iff] at h
 obtain ⟨hx,-,hg,ha⟩:=cntOk_iff.1 (shortLen_ok h.1)
 exact ⟨h.1,h.2.1,by omega,hx,hg,ha⟩
theorem nthI_wit {g:Gr} {a:Au} {x y:Int} {f n:Nat} (hx:0<=x/\x < (g.vals.length:Int)) (hg:grOk g=true) (ha:auOk a=true) (hf:f<=60) (hn:n < cwI g a x y f):isWit g a x y (x,nthI g a x y f n)=true:=by
 have hl:(nthI g a x y f n).length=f:=nthL_len hn
 exact goes_wit (k:=(x,nthI g a x y f n)) hg ha hx (by show (nthI g a x y f n).length<=60;omega) (nth_goes hn)
theorem nthShort_wit {g:Gr} {a:Au} {x y n:Int} (h:nthSh g a x y n=true):isWit g a x y (nthShort g a x y n).1=true/\((nthShort g a x y n).1.2.length:Int)=shortLen g a x y:=by
 obtain ⟨h0,h1,h2,hx,hg,ha⟩:=nthSh_parts h
 rw [nthShort,if_pos h]
 have hlt:=shortLen_lt g a x y
 refine ⟨nthI_wit hx hg ha (by omega) h2,?_⟩
 show ((nthI g a x y (shortLen g a x y).toNat n.toNat).length:Int)=_
 rw [nthI,nthL_len h2]
 omega
theorem rank_nthShort {g:Gr} {a:Au} {x y n:Int} (h:nthSh g a x y n=true):rankSh g a x y (nthShort g a x y n).1=n:=by
 obtain ⟨h0,h1,h2,hx,hg,ha⟩:=nthSh_parts h
 obtain ⟨hw,hl⟩:=nthShort_wit h
 rw [rankSh,if_pos (by simp only [Bool.and_eq_true,decide_eq_true_eq];exact ⟨⟨h0,hl⟩,hw⟩)]
 have hr:=rank_nth (k:=(nthShort g a x y n).1) (y:=y) (a:=a) hg (by rw [nthShort,if_pos h];exact hx.1) (f:=(shortLen g a x y).toNat) (n:=n.toNat) (by rw [nthShort,if_pos h];exact h2) (by rw [nthShort,if_pos h];rfl)
 rw [show (nthShort g a x y n).1.2.length=(shortLen g a x y).toNat by omega,hr]
 omega
theorem cmp_short {g:Gr} {a:Au} {x y:Int} {i j:Int} (hi:0<=i) (hij:i < j) (h:nthSh g a x y j=true):cmpWk (nthShort g a x y i).1 (nthShort g a x y j).1 < 0:=by
 obtain ⟨h0,h1,h2,hx,hg,ha⟩:=nthSh_parts h
 have hsi:nthSh g a x y i=true:=by
  rw [nthSh,Bool.and_eq_true,decide_eq_true_eq,wi_iff]
  exact ⟨h0,by omega,by omega⟩
 obtain ⟨-,hli⟩:=nthShort_wit hsi
 obtain ⟨-,hlj⟩:=nthShort_wit h
 rw [cmpWk,if_neg (by omega),if_neg (by omega)]
 have e1:(nthShort g a x y i).1.1=x:=by rw [nthShort,if_pos hsi]
 have e2:(nthShort g a x y j).1.1=x:=by rw [nthShort,if_pos h]
 rw [e1,e2,if_neg (by omega),if_neg (by omega)]
 have f1:(nthShort g a x y i).1.2=nthI g a x y (shortLen g a x y).toNat i.toNat:=by rw [nthShort,if_pos hsi]
 have f2:(nthShort g a x y j).1.2=nthI g a x y (shortLen g a x y).toNat j.toNat:=by rw [nthShort,if_pos h]
 rw [f1,f2]
 exact nth_lt (grOk_iff.1 hg) (by omega) h2
theorem cwI_hit {g:Gr} {a:Au} {x y:Int} (h:cntOk g a x y=true) (f:Nat):0 < cwI g a x y f ↔ toG (nextI g a) (fun i=>i ∈ goalsL g a y.toNat) f (x.toNat * a.accept.length+a.start.toNat):=by
 obtain ⟨⟨hx0,hx1⟩,⟨hy0,hy1⟩,hg,ha⟩:=cntOk_iff.1 h
 have hst:=(auOk_iff.1 ha).2.1
 obtain ⟨y,rfl⟩:=Int.eq_ofNat_of_zero_le hy0
 rw [cwI,cw_pos ha (bit_lt (by omega)),Int.toNat_natCast]
 constructor
 · rintro ⟨q,hq,hh⟩
   rw [bit_test,decide_eq_true_eq] at hq
   subst hq
   exact hh
 · intro hh
   exact ⟨a.start.toNat,by rw [bit_test];simp,hh⟩
theorem short_dist {g:Gr} {a:Au} {x y:Int} (h:cntOk g a x y=true):IsDist (nextI g a) (fun i=>i ∈ goalsL g a y.toNat) (x.toNat * a.accept.length+a.start.toNat) (shortLen g a x y):=by
 obtain ⟨⟨hx0,hx1⟩,⟨hy0,hy1⟩,hg,ha⟩:=cntOk_iff.1 h
 have hd:=shortLen_dist hg ha (show x.toNat < g.vals.length by omega) (show y.toNat < g.vals.length by omega)
 rwa [Int.toNat_of_nonneg hx0,Int.toNat_of_nonneg hy0] at hd
theorem cwI_short {g:Gr} {a:Au} {x y:Int} (h:0<=shortLen g a x y):0 < cwI g a x y (shortLen g a x y).toNat:=by
 have hc:=shortLen_ok h
 rw [cwI_hit hc]
 rcases short_dist hc with ⟨hd,-⟩ | ⟨-,d1,-⟩
 · omega
 · exact d1
theorem nthSh_zero {g:Gr} {a:Au} {x y:Int}:nthSh g a x y 0=decide (0<=shortLen g a x y):=by
 rw [nthSh]
 by_cases h:0<=shortLen g a x y
 · have:=cwI_short h
   rw [decide_eq_true h,Bool.true_and,wi_iff]
   omega
 · rw [decide_eq_false h];rfl
end Go.Proofs.YteaplabkemoenaaGreat
namespace Go.Proofs.YteaplabkemoenaaGreat
open Go.ChangeShapes Go.WideShapes Go.ChangeAt Go.RowKit
attribute [local go_sem] ext_cell ext_frozen ext_lt ext_lt1 ext_lt2 ext_lt3 ltn2 ltn3 ltn13 lts1 lts2 lts3
def cWv (z:Int × Value):List Value:=[.int .i64 z.1,z.2]
theorem cWv_len (z:Int × Value):(cWv z).length=2:=rfl
abbrev snds (zs:List (Int × Value)):List Value:=zs.map (·.2)
theorem snds_at {zs:List (Int × Value)} {i:Nat} {u:Value}:(snds zs)[i]?=some u ↔ ∃ z,zs[i]?=some z/\z.2=u:=by
 rw [snds,List.getElem?_map]
 cases zs[i]? with
 | none=>simp
 | some z=>simp
structure NW (lo:Nat) (w:World) (v:Value) (zs:List (Int × Value)) (ks:List Wk):Prop where
 own:w.ownsRow lo 39 2 v zs.length (zs.flatMap cWv)
 len:zs.length=ks.length
 rows:∀ (i:Nat) (z:Int × Value) (k:Wk),zs[i]?=some z->ks[i]?=some k->z.1=k.1/\w.ownsRow lo 66 2 z.2 k.2.length (k.2.flatMap cSt)
 dis:(blks (v :: snds zs)).Nodup
section
variable {lo:Nat} {w w':World} {v:Value} {zs:List (Int × Value)} {ks:List Wk}
theorem NW.lt (h:NW lo w v zs ks):∀ b ∈ blks (v :: snds zs),lo<=b/\b < w.heap.size:=by
 intro b hb
 obtain ⟨i,u,hu,hbu⟩:=mem_blks.1 hb
 cases i with
 | zero =>
   simp only [List.getElem?_cons_zero,Option.some.injEq] at hu
   subst hu
   exact h.own.lt b hbu
 | succ i =>
   rw [List.getElem?_cons_succ] at hu
   obtain ⟨z,hz,rfl⟩:=snds_at.1 hu
   have hi:i < ks.length:=by rw [<- h.len];exact (List.getElem?_eq_some_iff.1 hz).1
   exact (h.rows i z _ hz (List.getElem?_eq_getElem hi)).2.lt b hbu
theorem NW.blocks (h:NW lo w v zs ks) (hb:∀ b ∈ blks (v :: snds zs),w'.heap[b]?=w.heap[b]?):NW lo w' v zs ks :=
 ⟨ownsRow_block h.own fun g hg=>hb g (mem_blks.2 ⟨0,v,rfl,hg⟩),h.len,
  fun i z k hz hk=>⟨(h.rows i z k hz hk).1,ownsRow_block (h.rows i z k hz hk).2 fun g hg=>hb g (mem_blks.2 ⟨i+1,z.2,by simpa using snds_at.2 ⟨z,hz,rfl⟩,hg⟩)⟩,h.dis⟩
theorem NW.below (h:NW lo w v zs ks) (hb:Below w.heap.size w w'):NW lo w' v zs ks:=h.blocks fun b hm=>hb.block b (h.lt b hm).2
theorem NW.mono (h:NW lo w v zs ks) {lo':Nat} (hl:lo'<=lo):NW lo' w v zs ks :=
 ⟨ownsRow_mono h.own hl,h.len,fun i z k hz hk=>⟨(h.rows i z k hz hk).1,ownsRow_mono (h.rows i z k hz hk).2 hl⟩,h.dis⟩
theorem NW.start (h:w.ownsRow lo 39 2 v 0 []):NW lo w v [] [] :=
 ⟨h,rfl,fun i z k hz _=>by simp at hz,by cases hv:v.ownBlock <;> simp [hv]⟩
theorem NW.shape (h:NW lo w v zs ks):∃ A c,v=.slice A ks.length c/\ks.length<=c/\c<=maxLen:=by
 obtain ⟨h1,h2⟩:=h.own
 rcases h2 with ⟨rfl,h3⟩ | ⟨g,cap,cur,rfl,h4,h5,h6,h7,r⟩
 · exact ⟨none,0,by rw [<- h.len,h3],by rw [<- h.len,h3];exact Nat.le_refl _,by unfold maxLen;omega⟩
 · exact ⟨_,cap,by rw [h.len],by rw [<- h.len];exact h6,h7⟩
theorem dis_push {u v':Value} {us:List Value} {H:Nat} (hdis:(blks (v :: us)).Nodup) (hn:∀ b,u.ownBlock=some b->b ∉ blks (v :: us)) (hlt:∀ b ∈ blks (v :: us),b < H) (hul:∀ b,u.ownBlock=some b->b < H)
 (hat:∀ g,v'.ownBlock=some g->v.ownBlock=some g ∨ H<=g):(blks (v' :: (us ++ [u]))).Nodup:=by
 have hv0:∀ b,v.ownBlock=some b->b ∉ blks us:=fun b hb=>by
  rw [blks,List.filterMap_cons,hb] at hdis
  exact (List.nodup_cons.1 hdis).1
 have hus:(blks us).Nodup:=by
  cases hv:v.ownBlock with
  | none=>simpa [blks,List.filterMap_cons,hv] using hdis
  | some b=>rw [blks,List.filterMap_cons,hv] at hdis;exact (List.nodup_cons.1 hdis).2
 have hnu:∀ b,u.ownBlock=some b->b ∉ blks us:=fun b hb hm=>hn b hb (by
  obtain ⟨i,u',h1,h2⟩:=mem_blks.1 hm
  exact mem_blks.2 ⟨i+1,u',by simpa using h1,h2⟩)
 have hall:(blks (us ++ [u])).Nodup:=by
  rw [blks,List.filterMap_append]
  cases hub:u.ownBlock with
  | none=>simpa [List.filterMap_cons,hub] using hus
  | some b =>
    rw [List.filterMap_cons,hub]
    refine List.nodup_append.2 ⟨hus,by simp,?_⟩
    intro x hx y hy e
    simp only [List.filterMap_nil,List.mem_cons,List.not_mem_nil,or_false] at hy
    subst hy
    subst e
    exact hnu _ hub hx
 rw [blks,List.filterMap_cons]
 cases hv':v'.ownBlock with
 | none=>exact hall
 | some g =>
   refine List.nodup_cons.2 ⟨fun hm=>?_,hall⟩
   obtain ⟨i,u',hi,hb⟩:=mem_blks.1 hm
   rcases Nat.lt_or_ge i us.length with hl | hge
   · rw [List.getElem?_append_left hl] at hi
     rcases hat g hv' with h1 | h1
     · exact hv0 g h1 (mem_blks.2 ⟨i,u',hi,hb⟩)
     · have:=hlt g (mem_blks.2 ⟨i+1,u',by simpa using hi,hb⟩)
       omega
   · have hi2:=(List.getElem?_eq_some_iff.1 hi).1
     simp only [List.length_append,List.length_singleton] at hi2
     obtain rfl:i=us.length:=by omega
     have e1:u=u':=by simpa using hi
     subst e1
     rcases hat g hv' with h1 | h1
     · exact hn g hb (mem_blks.2 ⟨0,v,rfl,h1⟩)
     · have:=hul g hb
       omega
theorem NW.push (h:NW lo w v zs ks) {n:Int} {u:Value} {xs:List St} (hu:w.ownsRow lo 66 2 u xs.length (xs.flatMap cSt)) (hn:∀ b,u.ownBlock=some b->b ∉ blks (v :: snds zs))
 {v':Value} (hg:w.grownBy w' v.ownBlock) (hr:w'.ownsRow lo 39 2 v' (zs ++ [(n,u)]).length ((zs ++ [(n,u)]).flatMap cWv)) (hat:∀ g,v'.ownBlock=some g->v.ownBlock=some g ∨ w.heap.size<=g) :
 NW lo w' v' (zs ++ [(n,u)]) (ks ++ [(n,xs)]):=by
 have hdis:=h.dis
 have hkeep:∀ (u':Value) (m:Nat) (cs:List Value),w.ownsRow lo 66 2 u' m cs->(∀ b,u'.ownBlock=some b->v.ownBlock ≠ some b)->w'.ownsRow lo 66 2 u' m cs:=fun u' m cs ho hne=>by
  refine ho.kept hg ?_
  cases hb:u'.ownBlock with
  | none=>exact .inl rfl
  | some b=>exact .inr fun e=>hne b hb e.symm
 have hv0:∀ b,v.ownBlock=some b->b ∉ blks (snds zs):=fun b hb=>by
  rw [blks,List.filterMap_cons,hb] at hdis
  exact (List.nodup_cons.1 hdis).1
 refine ⟨hr,by simp [h.len],fun i z k hz hk=>?_,?_⟩
 · rcases Nat.lt_or_ge i zs.length with hlt | hge
   · rw [List.getElem?_append_left hlt] at hz
     rw [List.getElem?_append_left (by rw [<- h.len];exact hlt)] at hk
     have hrow:=h.rows i z k hz hk
     exact ⟨hrow.1,hkeep _ _ _ hrow.2 fun b hb hvb=>hv0 b hvb (mem_blks.2 ⟨i,z.2,snds_at.2 ⟨z,hz,rfl⟩,hb⟩)⟩
   · have hi2:=(List.getElem?_eq_some_iff.1 hz).1
     simp only [List.length_append,List.length_singleton] at hi2
     obtain rfl:i=zs.length:=by omega
     have e1:(n,u)=z:=by simpa using hz
     have e2:(n,xs)=k:=by rw [h.len] at hk;simpa using hk
     subst e1 e2
     exact ⟨rfl,hkeep _ _ _ hu fun b hb hvb=>hn b hb (mem_blks.2 ⟨0,v,rfl,hvb⟩)⟩
 · have e:snds (zs ++ [(n,u)])=snds zs ++ [u]:=by simp [snds]
   rw [e]
   exact dis_push hdis hn (fun b hb=>(h.lt b hb).2) (fun b hb=>(hu.lt b hb).2) hat
/-- what is read of it: walk i -/
theorem NW.at (h:NW lo w v zs ks) {i:Nat} {k:Wk} (hk:ks[i]?=some k):∃ g cap A c,v=.slice (some ⟨g,0,none⟩) ks.length cap/\zs[i]?=some (k.1,.slice A k.2.length c)/\lo<=g/\g < w.heap.size/\w.cell? ⟨g,i * 2,none⟩=some (.int .i64 k.1)/\w.cell? ⟨g,i * 2+1,none⟩=some (.slice A k.2.length c)/\k.2.length<=c/\c<=maxLen:=by
 have hi:i < zs.length:=by rw [h.len];exact (List.getElem?_eq_some_iff.1 hk).1
 have hz:zs[i]?=some zs[i]:=List.getElem?_eq_getElem hi
 obtain ⟨h1,hr⟩:=h.rows i _ k hz hk
 generalize zs[i]=z at hz h1 hr
 obtain ⟨z1,u⟩:=z
 simp only at h1 hr
 subst h1
 obtain ⟨A,c,rfl,hl,hm,-⟩:=(Own.of_row (xs:=k.2) hr rfl rfl).sl cSt_len
 have hown:=h.own
 have hlt:=h.own.lt
 have hown2:=hown
 obtain ⟨h1,h2⟩:=hown2
 rcases h2 with ⟨rfl,h3⟩ | ⟨g,cap,cur,rfl,r⟩
 · omega
 · refine ⟨g,cap,A,c,by rw [h.len],hz,(hlt g rfl).1,(hlt g rfl).2,?_,?_,hl,hm⟩
   · rw [World.ownsRow.cellAt hown (i * 2) (by omega)]
     exact flat_at cWv_len hz 0 _ rfl
   · rw [World.ownsRow.cellAt hown (i * 2+1) (by omega)]
     exact flat_at cWv_len hz 1 _ rfl
/-- walk i's steps are written -/
theorem NW.turn (h:NW lo w v zs ks) {i:Nat} {z:Int × Value} {k:Wk} {xs':List St} (hz:zs[i]?=some z) (hk:ks[i]?=some k)
 (hr:w'.ownsRow lo 66 2 z.2 xs'.length (xs'.flatMap cSt)) (hb:∀ b ∈ blks (v :: snds zs),z.2.ownBlock ≠ some b->w'.heap[b]?=w.heap[b]?):NW lo w' v zs (ks.set i (k.1,xs')):=by
 have hdis:=h.dis
 have hzi:(v :: snds zs)[i+1]?=some z.2:=by simpa using snds_at.2 ⟨z,hz,rfl⟩
 refine ⟨ownsRow_block h.own fun g hg=>hb g (mem_blks.2 ⟨0,v,rfl,hg⟩) fun e=>?_,by simp [h.len],fun j z2 k2 hj hx=>?_,hdis⟩
 · have:=filterMap_inj (i:=0) (j:=i+1) hdis rfl hzi hg e
   omega
 · by_cases hij:i=j
   · subst hij
     rw [hz] at hj
     injection hj with hj
     subst hj
     rw [List.getElem?_set_self (List.getElem?_eq_some_iff.1 hk).1] at hx
     injection hx with hx
     subst hx
     exact ⟨(h.rows i z k hz hk).1,hr⟩
   · rw [List.getElem?_set_ne hij] at hx
     have hzj:(v :: snds zs)[j+1]?=some z2.2:=by simpa using snds_at.2 ⟨z2,hj,rfl⟩
     refine ⟨(h.rows j z2 k2 hj hx).1,ownsRow_block (h.rows j z2 k2 hj hx).2 fun g hg=>hb g (mem_blks.2 ⟨j+1,z2.2,hzj,hg⟩) fun e=>?_⟩
     have:=filterMap_inj (i:=i+1) (j:=j+1) hdis hzi hzj e hg
     omega
end
/-- a list of walks as it is read -/
def WSV (lo hi:Nat) (w:World) (v:Value) (ks:List Wk):Prop :=
 ∃ zs:List (Int × Value),SlI lo hi w cWv 2 v zs/\zs.length=ks.length/\∀ (i:Nat) (z:Int × Value) (k:Wk),zs[i]?=some z->ks[i]?=some k->z.1=k.1/\SlI lo hi w cSt 2 z.2 k.2
theorem WSV.all {lo hi:Nat} {w:World} {v:Value} {ks:List Wk} (h:WSV lo hi w v ks) (hh:hi<=w.heap.size):WSV 0 w.heap.size w v ks:=by
 obtain ⟨zs,h1,h2,h3⟩:=h
 exact ⟨zs,h1.all hh,h2,fun i z k hz hk=>⟨(h3 i z k hz hk).1,(h3 i z k hz hk).2.all hh⟩⟩
def NWO (lo hi:Nat) (w:World) (v:Value) (ks:List Wk):Prop:=∃ zs,NW lo w v zs ks/\∀ b ∈ blks (v :: snds zs),b < hi
section
variable {lo hi:Nat} {w w':World} {v:Value} {ks:List Wk}
theorem NWO.of {zs:List (Int × Value)} (h:NW lo w v zs ks):NWO lo w.heap.size w v ks:=⟨zs,h,fun b hb=>(h.lt b hb).2⟩
theorem NWO.view (h:NWO lo hi w v ks):WSV lo hi w v ks:=by
 obtain ⟨zs,h,hl⟩:=h
 refine ⟨zs,Own.sl ⟨h.own,fun g hg=>hl g (mem_blks.2 ⟨0,v,rfl,hg⟩)⟩ cWv_len,h.len,fun i z k hz hk=>⟨(h.rows i z k hz hk).1,?_⟩⟩
 exact Own.sl ⟨(h.rows i z k hz hk).2,fun g hg=>hl g (mem_blks.2 ⟨i+1,z.2,by simpa using snds_at.2 ⟨z,hz,rfl⟩,hg⟩)⟩ cSt_len
theorem NWO.below (h:NWO lo hi w v ks) {B:Nat} (hb:Below B w w') (hB:hi<=B):NWO lo hi w' v ks:=by
 obtain ⟨zs,h,hl⟩:=h
 exact ⟨zs,h.blocks fun b hm=>hb.block b (by have:=hl b hm;omega),hl⟩
theorem NWO.only (h:NWO lo hi w v ks) {l r:Nat} (hb:Only l r w w') (ho:hi<=l ∨ r<=lo):NWO lo hi w' v ks:=by
 obtain ⟨zs,h,hl⟩:=h
 exact ⟨zs,h.blocks fun b hm=>hb.block b (h.lt b hm).2 (by have:=hl b hm;have:=(h.lt b hm).1;omega),hl⟩
theorem NWO.mono (h:NWO lo hi w v ks) {lo' hi':Nat} (h1:lo'<=lo) (h2:hi<=hi'):NWO lo' hi' w v ks:=by
 obtain ⟨zs,h,hl⟩:=h
 exact ⟨zs,h.mono h1,fun b hb=>by have:=hl b hb;omega⟩
end
end Go.Proofs.YteaplabkemoenaaGreat
namespace Go.Proofs.YteaplabkemoenaaGreat
open Go.ChangeShapes Go.WideShapes Go.ChangeAt Go.RowKit
def cntN (g:Gr) (a:Au) (x y:Int):Nat:=if shortLen g a x y < 0 then 0 else cwI g a x y (shortLen g a x y).toNat
theorem nthSh_nat (g:Gr) (a:Au) (x y:Int) (n:Nat):nthSh g a x y (n:Int)=decide (n < cntN g a x y):=by
 rw [nthSh,cntN]
 by_cases h:shortLen g a x y < 0
 · rw [if_pos h,decide_eq_false (by omega),decide_eq_false (by omega)];rfl
 · rw [if_neg h,decide_eq_true (by omega),Bool.true_and]
   by_cases h2:n < cwI g a x y (shortLen g a x y).toNat
   · rw [decide_eq_true h2,wi_iff];omega
   · rw [decide_eq_false h2]
     cases hw:wi (n:Int) 0 ((cwI g a x y (shortLen g a x y).toNat:Nat) - 1) with
     | false=>rfl
     | true=>rw [wi_iff] at hw;omega
theorem nthShort_snd (g:Gr) (a:Au) (x y n:Int):(nthShort g a x y n).2=nthSh g a x y n:=by
 unfold nthShort
 cases nthSh g a x y n <;> rfl
def listTo (g:Gr) (a:Au) (x y:Int) (n:Nat):List Wk:=(List.range n).map fun (i:Nat)=>(nthShort g a x y (i:Int)).1
theorem listTo_succ (g:Gr) (a:Au) (x y:Int) (n:Nat):listTo g a x y (n+1)=listTo g a x y n ++ [(nthShort g a x y (n:Int)).1]:=by simp [listTo,List.range_succ]
theorem listTo_len (g:Gr) (a:Au) (x y:Int) (n:Nat):(listTo g a x y n).length=n:=by simp [listTo]
def listN (g:Gr) (a:Au) (x y m:Int):Nat:=if wi m 1 50=true then min m.toNat (cntN g a x y) else 0
def listSh (g:Gr) (a:Au) (x y m:Int):List Wk:=listTo g a x y (listN g a x y m)
theorem listN_le (g:Gr) (a:Au) (x y m:Int):listN g a x y m<=50:=by
 unfold listN
 split
 · rename_i h
   rw [wi_iff] at h
   omega
 · omega
theorem cWv_one (n:Int) (A:Option Addr) (k c:Nat):∀ u ∈ cWv (n,.slice A k c),u.oneCell'=true:=by
 intro u hu
 simp only [cWv,List.mem_cons,List.not_mem_nil,or_false] at hu
 rcases hu with rfl | rfl <;> rfl
theorem elWk:ElemOk Tryz.prog 34 39 (.agg #[.int .i64 0,.slice none 0 0]) 2 32:=⟨Tryz.underlying34,by kernel_rfl,rfl,by omega⟩
end Go.Proofs.YteaplabkemoenaaGreat
namespace Go.Proofs.YteaplabkemoenaaGreat
open Go.ChangeShapes Go.WideShapes Go.ChangeAt Go.RowKit Go.Maps
theorem key3 {P:Program} {k:TypeId} {f0 f1 f2:Field} (hu:P.underlying k=some (.struct #[f0,f1,f2])) (h1:P.keyType k=true) (hc:P.cellsOf k=3) (h0:P.underlying f0.type=some (.int .i64)) (h0':P.underlying f1.type=some (.int .i64)) (h0'':P.underlying f2.type=some (.int .i64))
 (c0 : P.cellsOf f0.type = 1) (c1 : P.cellsOf f1.type = 1) (c2 : P.cellsOf f2.type = 1) (o0 : f0.offset = 0) (o1 : f1.offset = 1) (o2 : f2.offset = 2) (n0 : (f0.name != "_") = true) (n1 : (f1.name != "_") = true) (n2 : (f2.name != "_") = true) {n : Nat} (hn : P.types.size = n + 1)
 (x s f:Int) (hx:(Lit.int .i64 x).wf=true) (hs:(Lit.int .i64 s).wf=true) (hf:(Lit.int .i64 f).wf=true):keyOf P k (.agg #[.int .i64 x,.int .i64 s,.int .i64 f])=some (.string (keyBytes [.int .i64 x,.int .i64 s,.int .i64 f])):=by
 have h4:(Value.agg #[.int .i64 x,.int .i64 s,.int .i64 f]).formed P k=true:=by simp [Value.formed,hu,hc]
 simp only [bne_iff_ne,ne_eq] at n0 n1 n2
 simp [keyOf,hu,h1,h4,hn,Program.keyLits,hc,h0,h0',h0'',c0,c1,c2,o0,o1,o2,n0,n1,n2,hx,hs,hf,Value.cells]
theorem laidOutK:laidOutB Tryz.prog=true:=by kernel_rfl
theorem widePlace:(match Tryz.prog.underlying 55 with | some (.array _ _) | some (.struct _)=>true | _=>false)=true:=by rw [Tryz.underlying55]
theorem rowPlace:decide (55 < Tryz.prog.types.size)=true:=by kernel_rfl
theorem typePlace:Tryz.prog.keyTypeAt 5 55=true:=by kernel_rfl
set_option maxRecDepth 100000 in
theorem keyedPlace:Keyed Tryz.prog 55:=Keyed.of_law (deep_law_laid laidOutK (m:=5) (by decide) (of_decide_eq_true rowPlace) typePlace widePlace)
theorem sizeK:∃ n,Tryz.prog.types.size=n+1:=⟨Tryz.prog.types.size - 1,by have h:0 < Tryz.prog.types.size:=of_decide_eq_true (by kernel_rfl);omega⟩
def plKey (x s f:Int):Lit:=.string (keyBytes [.int .i64 x,.int .i64 s,.int .i64 f])
theorem keyTPlace:Tryz.prog.keyType 55=true:=by kernel_rfl
theorem cellsPlace:Tryz.prog.cellsOf 55=3:=by kernel_rfl
theorem cellsIntK:Tryz.prog.cellsOf 3=1:=by kernel_rfl
theorem keyPlace (x s f:Int) (hx:(Lit.int .i64 x).wf=true) (hs:(Lit.int .i64 s).wf=true) (hf:(Lit.int .i64 f).wf=true):keyOf Tryz.prog 55 (.agg #[.int .i64 x,.int .i64 s,.int .i64 f])=some (plKey x s f):=by
 obtain ⟨n,hn⟩:=sizeK
 exact key3 Tryz.underlying55 keyTPlace cellsPlace Tryz.underlying3 Tryz.underlying3 Tryz.underlying3 cellsIntK cellsIntK cellsIntK rfl rfl rfl (by decide) (by decide) (by decide) hn x s f hx hs hf
theorem plKey_inj {x s f x' s' f':Int} (hx:(Lit.int .i64 x).wf=true) (hs:(Lit.int .i64 s).wf=true) (hf:(Lit.int .i64 f).wf=true) (hx':(Lit.int .i64 x').wf=true) (hs':(Lit.int .i64 s').wf=true) (hf':(Lit.int .i64 f').wf=true) (h:plKey x s f=plKey x' s' f'):x=x'/\s=s'/\f=f':=by
 have h1:=keyPlace x s f hx hs hf
 have h2:=keyPlace x' s' f' hx' hs' hf'
 rw [<- h] at h2
 have h3:=keyedPlace.inj h1 h2
 injection h3 with h3
 simpa using h3
theorem wf_nat {x:Nat} (h:x<=9223372036854775807):(Lit.int .i64 (x:Int)).wf=true:=by
 have e1:IntKind.i64.min=-9223372036854775808:=by decide
 have e2:IntKind.i64.max=9223372036854775807:=by decide
 simp [Lit.wf,IntKind.wrap] <;> omega
abbrev Plc:=Nat × Nat × Nat
def plcOk (z:Plc):Prop:=z.1 < 5/\z.2.1 < 4096/\z.2.2<=60
structure MemD {H:Type} (g:Gr) (a:Au) (y:Int) (D:DataW H) (M:List Plc):Prop where
 map:IsMap D
 nod:M.Nodup
 rng:∀ z ∈ M,plcOk z
 has:∀ z:Plc,plcOk z->Maps.has D (plKey z.1 z.2.1 z.2.2)=decide (z ∈ M)
 val:∀ z ∈ M,D.atKey (plKey z.1 z.2.1 z.2.2) (.lit (.int .i64 0))=.lit (.int .i64 (cw g a y z.2.2 z.1 z.2.1:Nat))
theorem plKey_nat {z z':Plc} (h:plcOk z) (h':plcOk z') (e:plKey z.1 z.2.1 z.2.2=plKey z'.1 z'.2.1 z'.2.2):z=z':=by
 obtain ⟨x,s,f⟩:=z
 obtain ⟨x',s',f'⟩:=z'
 unfold plcOk at h h'
 simp only at h h' e
 obtain ⟨h1,h2,h3⟩:=plKey_inj (wf_nat (by omega)) (wf_nat (by omega)) (wf_nat (by omega)) (wf_nat (by omega)) (wf_nat (by omega)) (wf_nat (by omega)) e
 simp only [Prod.mk.injEq]
 omega
theorem MemD.empty {H:Type} (g:Gr) (a:Au) (y:Int):MemD g a y (.map []:DataW H) [] :=
 ⟨isMap_empty,List.nodup_nil,(fun z hz=>by cases hz),(fun z _=>by simp [Maps.has_eq]),(fun z hz=>by cases hz)⟩
theorem MemD.put {H:Type} {g:Gr} {a:Au} {y:Int} {D:DataW H} {M:List Plc} (h:MemD g a y D M) {z:Plc} (hz:plcOk z) (hn:z ∉ M) :
 MemD g a y (D.put (plKey z.1 z.2.1 z.2.2) (.lit (.int .i64 (cw g a y z.2.2 z.1 z.2.1:Nat)))) (M ++ [z]):=by
 refine ⟨h.map.put _ _,List.nodup_append.2 ⟨h.nod,by simp,fun b hb c hc e=>?_⟩,fun u hu=>?_,fun u hu=>?_,fun u hu=>?_⟩
 · rw [List.mem_singleton] at hc
   subst hc e
   exact hn hb
 · rcases List.mem_append.1 hu with hu | hu
   · exact h.rng u hu
   · rw [List.mem_singleton] at hu
     subst hu
     exact hz
 · by_cases e:u=z
   · subst e
     rw [Maps.has_put_same h.map (show WideAt.IsKeyLit (plKey u.1 u.2.1 u.2.2) from trivial)]
     simp
   · rw [Maps.has_put_other (fun e2=>e (plKey_nat hu hz e2)),h.has u hu,decide_eq_decide,List.mem_append,List.mem_singleton]
     exact ⟨.inl,fun h=>h.resolve_right e⟩
 · by_cases e:u=z
   · subst e
     rw [atKey_put_same h.map (show WideAt.IsKeyLit (plKey u.1 u.2.1 u.2.2) from trivial)]
   · have hu2:u ∈ M:=by
      rcases List.mem_append.1 hu with hu | hu
      · exact hu
      · rw [List.mem_singleton] at hu;exact absurd hu e
     rw [atKey_put_other (fun e2=>e (plKey_nat (h.rng u hu2) hz e2))]
     exact h.val u hu2
theorem MemD.len {H:Type} {g:Gr} {a:Au} {y:Int} {D:DataW H} {M:List Plc} (h:MemD g a y D M):M.length<=1249280:=by
 have h1:=nodup_subN (M.map fun z=>(z.1 * 4096+z.2.1) * 61+z.2.2) (List.range 1249280) ?_ ?_
 · simpa using h1
 · rw [List.Nodup,List.pairwise_map]
   refine List.Pairwise.imp_of_mem ?_ h.nod
   intro b c hb hc hne he
   refine hne ?_
   have hb:=h.rng b hb
   have hc:=h.rng c hc
   unfold plcOk at hb hc
   exact Prod.ext (by omega) (Prod.ext (by omega) (by omega))
 · intro u hu
   obtain ⟨z,hz,rfl⟩:=List.mem_map.1 hu
   have hz:=h.rng z hz
   unfold plcOk at hz
   rw [List.mem_range]
   omega
end Go.Proofs.YteaplabkemoenaaGreat
namespace Go.Proofs.YteaplabkemoenaaGreat
open Go.ChangeShapes Go.WideShapes Go.ChangeAt Go.RowKit Go.Maps
attribute [local go_sem] ext_cell ext_frozen ext_lt ext_lt1 ext_lt2 ext_lt3 ltn2 ltn3 ltn13 lts1 lts2 lts3
theorem ownsMap_at {H:Type} {P:Program} {k:TypeId} {R:Value->Option (DataW H × List MemPlace)} {w w':World} {b n:Nat} {D:DataW H} (h:w.ownsMap P k R b n D) (hb:w'.heap[b]?=w.heap[b]?):w'.ownsMap P k R b n D:=by
 obtain ⟨es,clock,h1,h2⟩:=h
 exact ⟨es,clock,hb.trans h1,h2⟩
/-- 'm[k] = v', at the operation -/
theorem op_mapUpdate_own {H:Type} {P:Program} (w:World) {o:Oper} {a:Act} {K:Act->World->Prop} {Q:Exit->Act->World->Prop}
 (m x v:Operand) (t:TypeId) (hop:o.op=Op.mapUpdate t m x v)
 (k e:TypeId) (KK:Keyed P k) (ht:P.underlying t=some (.map k e)) (R:Value->Option (DataW H × List MemPlace)) (b n:Nat) (D:DataW H)
 (hm:a.eval m=.map (some b)) (hown:w.ownsMap P k R b n D) (hn:n < maxLen) (key val:Value) (kl:Lit) (hx:a.eval x=key) (hv:a.eval v=val) (hkey:keyOf P k key=some kl)
 (d:DataW H) (ps:List MemPlace) (hval:R val=some (d,ps))
 (hK:∀ w',w'.ownsMap P k R b (n+1) (D.put kl d)->w.grownBy w' (some b)->K (a.put o.dst undef) w'):Oper.wp P o a w K Q:=by
 obtain ⟨w',hrun,r1,r2⟩:=hown.update KK ht hn hkey hval
 unfold Oper.wp
 simp [execOp,hop,hm,hx,hv,hrun,Result.andThen]
 exact hK w' r1 r2
/-- the counter in block bC; its memory is the map in block bM -/
def Ctr (g:Gr) (a:Au) (y:Int) (w:World) (bC bM:Nat):Prop :=
 ∃ (B lo hi:Nat) (A1 A2 A3 A4 A5:Option Addr) (c1 c2 c3 c4 c5:Nat),
   Blk w bC 71 #[.slice A1 g.vals.length c1,.slice A2 g.edges.length c2,.int .i64 a.start,.slice A3 a.accept.length c3,.slice A4 a.accept.length c4,.int .i64 y,.slice A5 g.vals.length c5,.map (some bM)] /\
   GrV 0 B w (.agg #[.slice A1 g.vals.length c1,.slice A2 g.edges.length c2]) g/\AuV 0 B w (.agg #[.int .i64 a.start,.slice A3 a.accept.length c3,.slice A4 a.accept.length c4]) a /\
   SSE lo hi w cA 4 (.slice A5 g.vals.length c5) ((List.range g.vals.length).map fun (x:Nat)=>arcsOf g (x:Int))/\B<=bM/\(hi<=bM ∨ bM < lo)/\hi<=w.heap.size/\B<=w.heap.size/\bC ≠ bM
theorem Ctr.only {g:Gr} {a:Au} {y:Int} {w w':World} {bC bM:Nat} (h:Ctr g a y w bC bM) (ho:Only bM (bM+1) w w'):Ctr g a y w' bC bM:=by
 obtain ⟨B,lo,hi,A1,A2,A3,A4,A5,c1,c2,c3,c4,c5,h1,h2,h3,h4,h5,h6,h7,h8,h9⟩:=h
 have hs:=ho.size
 exact ⟨B,lo,hi,A1,A2,A3,A4,A5,c1,c2,c3,c4,c5,h1.only ho (by omega),h2.only ho h8 (.inl h5),h3.only ho h8 (.inl h5),h4.only ho h7 (by omega),h5,h6,by omega,by omega,h9⟩
theorem Ctr.keep {g:Gr} {a:Au} {y:Int} {w w':World} {bC bM:Nat} (h:Ctr g a y w bC bM) (hb:Below w.heap.size w w'):Ctr g a y w' bC bM:=h.only (Only.of_below hb _ _)
theorem Ctr.lt {g:Gr} {a:Au} {y:Int} {w:World} {bC bM:Nat} (h:Ctr g a y w bC bM):bC < w.heap.size:=by
 obtain ⟨B,lo,hi,A1,A2,A3,A4,A5,c1,c2,c3,c4,c5,h1,-⟩:=h
 exact h1.lt
theorem valOf {g:Gr} (hgo:grOk g=true) {x:Nat} (hx:x < g.vals.length):∃ vx:Nat,g.vals[x]?=some (vx:Int)/\valAt g x=vx/\vx<=2:=by
 have hxi:g.vals[x]?=some g.vals[x]:=List.getElem?_eq_getElem hx
 have hvr:=(grOk_iff.1 hgo).vals _ (List.getElem_mem hx)
 obtain ⟨vx,hvx⟩:=Int.eq_ofNat_of_zero_le hvr.1
 refine ⟨vx,by rw [hxi,hvx],?_,by omega⟩
 have:=valAt_of hxi
 rw [this,hvx,Int.toNat_natCast]
/-- the memory, and what the counter's calls do to it: places of at most f steps come in -/
def Mem (g:Gr) (a:Au) (y:Int) (w:World) (bM:Nat) (M:List Plc):Prop:=∃ D:DataW Unit,w.ownsMap Tryz.prog 55 (plainElem Tryz.prog 3) bM M.length D/\MemD g a y D M
theorem Mem.keep {g:Gr} {a:Au} {y:Int} {w w':World} {bM:Nat} {M:List Plc} (h:Mem g a y w bM M) (hb:Below w.heap.size w w'):Mem g a y w' bM M:=by
 obtain ⟨D,h1,h2⟩:=h
 exact ⟨D,ownsMap_at h1 (hb.block _ h1.lt),h2⟩
def More (f:Nat) (M M':List Plc):Prop:=∃ T,M'=M ++ T/\∀ z ∈ T,z.2.2<=f
theorem More.refl (f:Nat) (M:List Plc):More f M M:=⟨[],by simp,fun z hz=>by cases hz⟩
theorem More.trans {f:Nat} {M M' M'':List Plc} (h:More f M M') (h':More f M' M''):More f M M'':=by
 obtain ⟨T,rfl,h1⟩:=h
 obtain ⟨T',rfl,h2⟩:=h'
 exact ⟨T ++ T',by rw [List.append_assoc],fun z hz=>by rcases List.mem_append.1 hz with h | h;exact h1 z h;exact h2 z h⟩
theorem More.mono {f f':Nat} {M M':List Plc} (h:More f M M') (hf:f<=f'):More f' M M':=by
 obtain ⟨T,h1,h2⟩:=h
 exact ⟨T,h1,fun z hz=>Nat.le_trans (h2 z hz) hf⟩
set_option maxHeartbeats 2000000 in
set_option maxRecDepth 100000 in
theorem next_any (g:Gr) (a:Au) (y:Int) (hgo:grOk g=true) (ha:auOk a=true) (bC bM x s lf l:Nat) (t:Int) (sid:Int) (sinv:Bool) (w:World) (hc:Ctr g a y w bC bM) (hx:x < g.vals.length) (hs:s < 2 ^ a.accept.length) (hlf:lf<=60) (hl:l < 9) :
 Calls Tryz.prog 29 #[.pointer (some ⟨bC,0,none⟩),.agg #[.int .i64 (x:Int),.int .i64 (s:Int),.int .i64 ((lf+1:Nat):Int)],.agg #[.int .i64 sid,.bool sinv,.int .i64 (l:Int),.int .i64 t]] w fun e w' =>
  e=.returned (.agg #[.int .i64 t,.int .i64 (aft a s (valAt g x) l:Nat),.int .i64 (lf:Int)])/\Below w.heap.size w w':=by
 obtain ⟨B,lo,hi,A1,A2,A3,A4,A5,c1,c2,c3,c4,c5,hbk,hgv,hav,hlv,h5,h6,h7,h8,h9⟩:=hc
 obtain ⟨vx,hxi,hva,hvx⟩:=valOf hgo hx
 obtain ⟨vs,es,hag,h1,-⟩:=hgv
 injection hag with hag
 simp at hag
 obtain ⟨rfl,rfl⟩:=hag
 obtain ⟨b1,o1,rfl,-,hb1,dv⟩:=h1.intI hxi
 have hs4:=lt12 ha hs
 rw [hva]
 have z0:w.cell? ⟨bC,0,none⟩=some (.slice (some ⟨b1,o1,none⟩) g.vals.length c1):=hbk.cell 0
 have z2:w.cell? ⟨bC,2,none⟩=some (.int .i64 a.start):=hbk.cell 2
 have z3:w.cell? ⟨bC,3,none⟩=some (.slice A3 a.accept.length c3):=hbk.cell 3
 have z4:w.cell? ⟨bC,4,none⟩=some (.slice A4 a.accept.length c4):=hbk.cell 4
 have lC:=hbk.lt
 have hb1w:b1 < w.heap.size:=by omega
 have hxx:(x:Int) < (g.vals.length:Int):=by omega
 have HAF:=Hd_ (fun (W:World) (hW:Below w.heap.size w W)=>after_any _ a s vx l W ((hav.mono (Nat.le_refl _) h8).keep hW) ha hs hvx hl)
 obtain ⟨M,hM⟩:∃ M,M=aft a s vx l:=⟨_,rfl⟩
 rw [<- hM] at HAF ⊢
 obtain ⟨L1,hL1⟩:∃ L1,L1=lf+1:=⟨_,rfl⟩
 rw [<- hL1]
 have hL1a:lf+1<=L1:=by omega
 have hL1b:L1<=lf+1:=by omega
 have ql:IntKind.i64.wrap ((L1:Int) - 1)=(lf:Int):=by rw [IntWalk.i64_in _ (by omega)];omega
 clear hbk hav hlv h1 hxi hva hM hL1 hgo ha
 have lts:∀ b,b < w.heap.size->b < w.heap.size+1+1+1:=fun b h=>by omega
 have lC1:bC < w.heap.size+1:=by omega
 have lC2:bC < w.heap.size+1+1:=by omega
 have lC3:bC < w.heap.size+1+1+1:=by omega
 have lb1:b1 < w.heap.size+1:=by omega
 have lb2:b1 < w.heap.size+1+1:=by omega
 have lb3:b1 < w.heap.size+1+1+1:=by omega
 clear lts
 go_enter Tryz.func29,Tryz.ntmps29
 go_wp2_with fail
 refine wp_region_ext_tail 24 (by kernel_rfl) (by kernel_rfl) ?_
 simp only [List.take_succ_cons,List.take_zero]
 repeat (go_big_quiet_step ((go_at_call 51;exact Calls.ext_of (HAF.out _ (by repeat (first | exact Below.refl _ _ | assumption | refine Below.alloc ?_ (by simp <;> omega) _ | refine Below.drew ?_ | refine below_ext ?_ (by simp <;> omega) _ | exact ext_below _ _))))))
 refine wpQuiet_nil ?_
 rintro _ ⟨u2,rfl⟩
 simp only [List.drop_succ_cons,List.drop_zero]
 go_wp2_with fail
 refine bodyPost_ret (v:=.agg #[.int .i64 t,.int .i64 (M:Int),.int .i64 (lf:Int)]) (by simp [results,Tryz.results29,go_sem]) rfl ⟨rfl,?_⟩
 repeat (first | exact Below.refl _ _ | refine Below.setCell ?_ (by simp <;> omega) _ | refine Below.alloc ?_ (by simp <;> omega) _ | refine below_ext ?_ (by simp <;> omega) _)
theorem cw_zeroS (g:Gr) (a:Au) (y:Int) (x s vx:Nat) (h:valAt g x=vx):cw g a y 0 x s=if (decide ((x:Int)=y) && acc a s vx)=true then 1 else 0:=by rw [cw,h]
/-- what a call leaves -/
def Left (g:Gr) (a:Au) (y:Int) (f:Nat) (M:List Plc) (bM:Nat) (w w':World):Prop:=Only bM (bM+1) w w'/\∃ M',Mem g a y w' bM M'/\More f M M'
theorem Left.of_below {g:Gr} {a:Au} {y:Int} {f:Nat} {M:List Plc} {bM:Nat} {w w':World} (hm:Mem g a y w bM M) (hb:Below w.heap.size w w'):Left g a y f M bM w w' :=
 ⟨Only.of_below hb _ _,M,hm.keep hb,More.refl _ _⟩
theorem Mem.bound {g:Gr} {a:Au} {y:Int} {w:World} {bM:Nat} {M:List Plc} (h:Mem g a y w bM M):M.length < maxLen:=by
 obtain ⟨D,_,h2⟩:=h
 have:=h2.len
 unfold maxLen;omega
theorem Mem.lt {g:Gr} {a:Au} {y:Int} {w:World} {bM:Nat} {M:List Plc} (h:Mem g a y w bM M):bM < w.heap.size:=by
 obtain ⟨D,h1,_⟩:=h
 exact h1.lt
theorem keyOfPlc {z:Plc} (hz:plcOk z):keyOf Tryz.prog 55 (.agg #[.int .i64 (z.1:Int),.int .i64 (z.2.1:Int),.int .i64 (z.2.2:Int)])=some (plKey z.1 z.2.1 z.2.2):=by
 unfold plcOk at hz
 exact keyPlace _ _ _ (wf_nat (by omega)) (wf_nat (by omega)) (wf_nat (by omega))
theorem litI_inj {H:Type} {a b:Int} (h:(DataW.lit (.int .i64 a):DataW H)=.lit (.int .i64 b)):a=b:=by
 injection h with h
 injection h
/-- the look-up, at each world that keeps the memory -/
theorem Mem.look {g:Gr} {a:Au} {y:Int} {w:World} {bM:Nat} {M:List Plc} (h:Mem g a y w bM M) {z:Plc} (hz:plcOk z) :
 (Instr.lookup 69 (.map (some bM)) (.agg #[.int .i64 (z.1:Int),.int .i64 (z.2.1:Int),.int .i64 (z.2.2:Int)]) true).run Tryz.prog w =
  .ok (.tuple #[.int .i64 (if z ∈ M then (cw g a y z.2.2 z.1 z.2.1:Int) else 0),.bool (decide (z ∈ M))]) w:=by
 obtain ⟨D,h1,h2⟩:=h
 obtain ⟨v,ps,hrun,hv⟩:=h1.look_ok keyedPlace Tryz.underlying69 (Tryz.zeroValue3 _) (plainElem_int Tryz.underlying3 (by decide)) (keyOfPlc hz)
 obtain ⟨c,rfl,hc,-⟩:=plainElem_int_inv Tryz.underlying3 hv
 have hc:=congrArg Prod.fst hc
 simp only at hc
 have hh:=h2.has z hz
 rw [hh] at hrun
 rw [hrun]
 by_cases hm:z ∈ M
 · rw [if_pos hm,<- litI_inj ((h2.val z hm).symm.trans hc)]
 · have h3:=Maps.atKey_of_not_has (show Maps.has D (plKey z.1 z.2.1 z.2.2)=false by rw [hh];exact decide_eq_false hm) (.lit (.int .i64 0))
   rw [if_neg hm,<- litI_inj (h3.symm.trans hc)]
set_option maxHeartbeats 8000000 in
set_option maxRecDepth 100000 in
theorem count_any (g:Gr) (a:Au) (y:Int) (hgo:grOk g=true) (ha:auOk a=true) (bC bM:Nat):∀ (lf x s:Nat) (M:List Plc) (w:World),Ctr g a y w bC bM->Mem g a y w bM M->x < g.vals.length->s < 2 ^ a.accept.length->lf<=60 ->
 Calls Tryz.prog 20 #[.pointer (some ⟨bC,0,none⟩),.agg #[.int .i64 (x:Int),.int .i64 (s:Int),.int .i64 (lf:Int)]] w fun e w'=>e=.returned (.int .i64 (cw g a y lf x s:Nat))/\Left g a y lf M bM w w':=by
 intro lf
 induction lf with
 | zero =>
   intro x s M w hc hm hx hs hlf
   have HM:=Hd_ hm
   have hb0:Below w.heap.size w (w.alloc (.cells #[.int .i64 (x:Int),.int .i64 (s:Int),.int .i64 0] 55)):=(Below.refl _ _).alloc (Nat.le_refl _) _
   by_cases hs0:s=0
   · have HR:=Hd_ (show cw g a y 0 x s=0 by rw [hs0,cw_none])
     subst hs0
     clear hc hm hgo ha
     go_enter Tryz.func20,Tryz.ntmps20
     go_wp2_with fail
     go_ret
     exact ⟨by rw [HR.out];rfl,Left.of_below HM.out hb0⟩
   · obtain ⟨B,lo,hi,A1,A2,A3,A4,A5,c1,c2,c3,c4,c5,hbk,hgv,hav,hlv,h5,h6,h7,h8,h9⟩:=hc
     obtain ⟨vx,hxi,hva,hvx⟩:=valOf hgo hx
     obtain ⟨vs,es,hag,h1,-⟩:=hgv
     injection hag with hag
     simp at hag
     obtain ⟨rfl,rfl⟩:=hag
     obtain ⟨b1,o1,rfl,-,hb1,dv⟩:=h1.intI hxi
     have hs4:=lt12 ha hs
     have z0:w.cell? ⟨bC,0,none⟩=some (.slice (some ⟨b1,o1,none⟩) g.vals.length c1):=hbk.cell 0
     have z2:w.cell? ⟨bC,2,none⟩=some (.int .i64 a.start):=hbk.cell 2
     have z3:w.cell? ⟨bC,3,none⟩=some (.slice A3 a.accept.length c3):=hbk.cell 3
     have z4:w.cell? ⟨bC,4,none⟩=some (.slice A4 a.accept.length c4):=hbk.cell 4
     have z5:w.cell? ⟨bC,5,none⟩=some (.int .i64 y):=hbk.cell 5
     have lC:=hbk.lt
     have lC1:bC < w.heap.size+1:=by omega
     have hb1w:b1 < w.heap.size:=by omega
     have hb1w1:b1 < w.heap.size+1:=by omega
     have hxx:(x:Int) < (g.vals.length:Int):=by omega
     have HEND:=Hd_ (fun (W:World) (hW:Below w.heap.size w W)=>acceptsAt_any _ a s vx W ((hav.mono (Nat.le_refl _) h8).keep hW) ha hs hvx)
     have hne:((s:Int)==0)=false:=by simp;omega
     have hne2:decide ((s:Int)=0)=false:=by simp;omega
     have HC0:=Hd_ (cw_zeroS g a y x s vx hva)
     clear hbk hav hlv h1 hxi hva hgo ha hm
     by_cases hxy:(x:Int)=y
     · have hd:decide ((x:Int)=y)=true:=decide_eq_true hxy
       have hd2:((x:Int)==y)=true:=by simp [hxy]
       have hbb:=HC0.out
       rw [hd,Bool.true_and] at hbb
       generalize acc a s vx=bb at *
       cases bb with
       | true =>
         have HBB:=Hd_ (hbb.trans (if_pos rfl))
         clear hxy HC0 hbb
         go_enter Tryz.func20,Tryz.ntmps20
         go_wp2_with fail
         refine wp_region_ext_lit (by kernel_rfl) (by kernel_rfl) ?_
         repeat (go_big_quiet_step ((go_at_call 45;exact Calls.ext_of (HEND.out _ (below_trans hb0 (ext_below _ _))))))
         refine wpQuiet_nil ?_
         rintro _ ⟨u2,rfl⟩
         go_wp2_with fail
         go_ret
         exact ⟨by rw [HBB.out];rfl,Left.of_below HM.out (below_trans hb0 (ext_below _ _))⟩
       | false =>
         have HBB:=Hd_ (hbb.trans (if_neg (by simp)))
         clear hxy HC0 hbb
         go_enter Tryz.func20,Tryz.ntmps20
         go_wp2_with fail
         refine wp_region_ext_lit (by kernel_rfl) (by kernel_rfl) ?_
         repeat (go_big_quiet_step ((go_at_call 45;exact Calls.ext_of (HEND.out _ (below_trans hb0 (ext_below _ _))))))
         refine wpQuiet_nil ?_
         rintro _ ⟨u2,rfl⟩
         go_wp2_with fail
         go_ret
         exact ⟨by rw [HBB.out];rfl,Left.of_below HM.out (below_trans hb0 (ext_below _ _))⟩
     · have hd:decide ((x:Int)=y)=false:=decide_eq_false hxy
       have hd2:((x:Int)==y)=false:=by simp [hxy]
       have HBB:=Hd_ (show cw g a y 0 x s=0 from HC0.out.trans (by rw [hd,Bool.false_and];simp))
       clear hxy HC0
       go_enter Tryz.func20,Tryz.ntmps20
       go_wp2_with fail
       refine wp_region_ext_lit (by kernel_rfl) (by kernel_rfl) ?_
       repeat (go_big_quiet_step (fail))
       refine wpQuiet_nil ?_
       rintro _ ⟨u2,rfl⟩
       go_wp2_with fail
       go_ret
       exact ⟨by rw [HBB.out];rfl,Left.of_below HM.out (below_trans hb0 (ext_below _ _))⟩
 | succ lf ih =>
   intro x s M w hc hm hx hs hlf
   obtain ⟨L1,hL1⟩:∃ L1,L1=lf+1:=⟨_,rfl⟩
   have HNX:=Hd_ (fun (l:Nat) (t sid:Int) (sinv:Bool) (W:World) (hW:Ctr g a y W bC bM) (hl:l < 9)=>next_any g a y hgo ha bC bM x s lf l t sid sinv W hW hx hs (by omega) hl)
   rw [<- hL1] at hlf HNX ⊢
   have hL1a:lf+1<=L1:=by omega
   have hL1b:L1<=lf+1:=by omega
   have HM:=Hd_ hm
   have HCT:=Hd_ hc
   have hbMw:=hm.lt
   have hbCM:bC ≠ bM:=by obtain ⟨_,_,_,_,_,_,_,_,_,_,_,_,_,h⟩:=hc;exact h.2.2.2.2.2.2.2.2
   have hb0:Below w.heap.size w (w.alloc (.cells #[.int .i64 (x:Int),.int .i64 (s:Int),.int .i64 (L1:Int)] 55)):=(Below.refl _ _).alloc (Nat.le_refl _) _
   have hs4:=lt12 ha hs
   have hn5:=(grOk_iff.1 hgo).n5
   by_cases hs0:s=0
   · have HR:=Hd_ (show cw g a y L1 x s=0 by rw [hs0,cw_none])
     subst hs0
     clear hc hm hgo ha ih hL1 HNX
     go_enter Tryz.func20,Tryz.ntmps20
     go_wp2_with fail
     go_ret
     exact ⟨by rw [HR.out];rfl,Left.of_below HM.out hb0⟩
   · have hz:plcOk (x,s,L1):=⟨by simp only;omega,by simp only;omega,by simp only;omega⟩
     have hlk:∀ u,(Instr.lookup 69 (.map (some bM)) (.agg #[.int .i64 (x:Int),.int .i64 (s:Int),.int .i64 (L1:Int)]) true).run Tryz.prog (ext (w.alloc (.cells #[.int .i64 (x:Int),.int .i64 (s:Int),.int .i64 (L1:Int)] 55)) u) =
      .ok (.tuple #[.int .i64 (if (x,s,L1) ∈ M then (cw g a y L1 x s:Int) else 0),.bool (decide ((x,s,L1) ∈ M))]) (ext (w.alloc (.cells #[.int .i64 (x:Int),.int .i64 (s:Int),.int .i64 (L1:Int)] 55)) u) :=
      fun u=>((hm.keep hb0).keep (ext_below _ u)).look hz
     obtain ⟨B,lo,hi,A1,A2,A3,A4,A5,c1,c2,c3,c4,c5,hbk,hgv,hav,hlv,h5,h6,h7,h8,h9⟩:=hc
     have z7:w.cell? ⟨bC,7,none⟩=some (.map (some bM)):=hbk.cell 7
     have z6:w.cell? ⟨bC,6,none⟩=some (.slice A5 g.vals.length c5):=hbk.cell 6
     have lC:=hbk.lt
     have lC1:bC < w.heap.size+1:=by omega
     have hne:((s:Int)==0)=false:=by simp;omega
     have hne2:decide ((s:Int)=0)=false:=by simp;omega
     have hl0:((L1:Int)==0)=false:=by simp;omega
     have hl1:decide ((L1:Int)=0)=false:=by simp;omega
     by_cases hmem:(x,s,L1) ∈ M
     · rw [if_pos hmem,decide_eq_true hmem] at hlk
       generalize cw g a y L1 x s=C at *
       clear hbk hgv hav hlv hgo ha ih hL1 HNX hm hmem hz
       go_enter Tryz.func20,Tryz.ntmps20
       go_wp2_with fail
       refine wp_region_ext_lit (by kernel_rfl) (by kernel_rfl) ?_
       repeat (go_big_quiet_step (fail))
       refine wpQuiet_nil ?_
       rintro _ ⟨u2,rfl⟩
       go_wp2_with fail
       go_ret
       exact ⟨rfl,Left.of_below HM.out (below_trans hb0 (ext_below _ _))⟩
     · rw [if_neg hmem,decide_eq_false hmem] at hlk
       have HNM:=Hd_ hmem
       have HZ:=Hd_ hz
       have hA5:∃ b5 o5,A5=some ⟨b5,o5,none⟩/\b5 < w.heap.size/\∃ A7 c7,w.cell? ⟨b5,o5+x,none⟩=some (.slice A7 (arcsOf g (x:Int)).length c7)/\(arcsOf g (x:Int)).length<=c7/\c7<=9223372036854775807/\SlI lo hi w cA 4 (.slice A7 (arcsOf g (x:Int)).length c7) (arcsOf g (x:Int)):=by
        obtain ⟨b5,o5,A7,c7,e1,e2,e3,e4,e5,e6,e7,-⟩:=hlv.row h7 (i:=x) (xs:=arcsOf g (x:Int)) (by simp [hx])
        exact ⟨b5,o5,e1,by omega,A7,c7,e4,e5,e6,e7⟩
       obtain ⟨b5,o5,rfl,hb5,A7,c7,d5,hl7,hm7,hI7⟩:=hA5
       have hal:=arcs_len (grOk_iff.1 hgo) (x:Int)
       have hxx:(x:Int) < (g.vals.length:Int):=by omega
       have hb51:b5 < w.heap.size+1:=by omega
       have HI7:=Hd_ hI7
       have HREC:=Hd_ ih
       have HGO:=Hd_ hgo
       have HA:=Hd_ ha
       have HALL:=Hd_ (cwTo_all g a y lf x s)
       rw [<- hL1] at HALL
       have HL:=Hd_ hL1
       clear hbk hgv hav hlv hgo ha ih hL1 hm hmem hz hI7
       go_enter Tryz.func20,Tryz.ntmps20
       go_upto_region 7 with fail
       refine wp_region_ext_lit (by kernel_rfl) (by kernel_rfl) ?_
       repeat (go_big_quiet_step (fail))
       refine wpQuiet_nil ?_
       rintro _ ⟨u2,rfl⟩
       clear hlk
       go_upto_region 11 with fail
       refine wp_region_ext_lit (by kernel_rfl) (by kernel_rfl) ?_
       repeat (go_big_quiet_step (fail))
       refine wpQuiet_nil ?_
       rintro _ ⟨u3,rfl⟩
       go_wp2_with fail
       obtain ⟨W1,hW1⟩:∃ W1,W1=ext (ext (w.alloc (.cells #[.int .i64 (x:Int),.int .i64 (s:Int),.int .i64 (L1:Int)] 55)) u2) u3:=⟨_,rfl⟩
       have hbU:=below_trans (ext_below (w.alloc (.cells #[.int .i64 (x:Int),.int .i64 (s:Int),.int .i64 (L1:Int)] 55)) u2) (ext_below _ u3)
       have hbW:=below_trans hb0 hbU
       rw [<- hW1] at hbU hbW ⊢
       have e0:W1.cell? ⟨w.heap.size,0,none⟩=some (.int .i64 (x:Int)):=kcell hbU (by simp)
       have e1:W1.cell? ⟨w.heap.size,1,none⟩=some (.int .i64 (s:Int)):=kcell hbU (by simp)
       have e2:W1.cell? ⟨w.heap.size,2,none⟩=some (.int .i64 (L1:Int)):=kcell hbU (by simp)
       have lE:w.heap.size < W1.heap.size:=by have:=hbU.size;simp at this;omega
       have HM1:=Hd_ (HM.out.keep hbW)
       have HC1:=Hd_ (HCT.out.keep hbW)
       have z7:=kcell hbW z7
       have HBW:=Hd_ hbW
       clear hW1 hbU hbW d5 z6 hb0 HCT lC1 hb51
       go_loopw [7,61] (fun nn ii wr=>∃ (i:Nat) (M':List Plc),i<=(arcsOf g (x:Int)).length/\ii=.int .i64 (i:Int)/\nn=.int .i64 (cwTo g a y lf x s i:Nat)/\Only bM (bM+1) W1 wr/\Mem g a y wr bM M'/\More lf M M') (fun _ ii _=>(arcsOf g (x:Int)).length - (intOf ii).toNat)
       case atStart=>exact ⟨0,M,Nat.zero_le _,rfl,rfl,Only.refl _ _ _,HM1.out,More.refl _ _⟩
       case round =>
        clear HM1
        obtain ⟨i,M',hi,rfl,rfl,hon,hmm,hmo⟩:=hrel
        have hsz:=hon.size
        have e0:=ocell hon e0 lE (.inr (by omega))
        have e1:=ocell hon e1 lE (.inr (by omega))
        have e2:=ocell hon e2 lE (.inr (by omega))
        have lEr:w.heap.size < wr.heap.size:=by omega
        have HON:=Hd_ hon
        have HMM:=Hd_ hmm
        have HMO:=Hd_ hmo
        have hcle:=cwTo_le g a y lf x s i
        by_cases hlt:i < (arcsOf g (x:Int)).length
        · have hyi:(arcsOf g (x:Int))[i]?=some (arcsOf g (x:Int))[i]:=List.getElem?_eq_getElem hlt
          have hyr:=arc_range (grOk_iff.1 HGO.out) (List.getElem_mem hlt)
          generalize (arcsOf g (x:Int))[i]=p at hyi hyr
          obtain ⟨⟨sid,sinv⟩,l,t⟩:=p
          simp only at hyr
          obtain ⟨l,rfl⟩:=Int.eq_ofNat_of_zero_le hyr.1.1
          obtain ⟨t,rfl⟩:=Int.eq_ofNat_of_zero_le hyr.2.1
          obtain ⟨b7,o7,rfl,hb7l,hb7,k0,k1,k2,k3⟩:=HI7.out.arc hyi
          simp only at k0 k1 k2 k3
          have hb7M:b7 < bM ∨ bM+1<=b7:=by omega
          have hb71:=Nat.lt_of_lt_of_le (show b7 < w.heap.size by omega) HBW.out.size
          have k0:=ocell hon (kcell HBW.out k0) hb71 hb7M
          have k1:=ocell hon (kcell HBW.out k1) hb71 hb7M
          have k2:=ocell hon (kcell HBW.out k2) hb71 hb7M
          have k3:=ocell hon (kcell HBW.out k3) hb71 hb7M
          have hb7w:b7 < wr.heap.size:=by omega
          have hts:cwTo g a y lf x s (i+1)=min 1000000 (cwTo g a y lf x s i+cw g a y lf t (aft a s (valAt g x) l)):=by
           rw [cwTo_succ hyi,cwStep];simp
          have hAF:=aft_lt HA.out s (valAt g x) l
          have hcl2:=cw_le g a y lf t (aft a s (valAt g x) l)
          have HNC:=Hd_ (fun (W:World) (hW:Ctr g a y W bC bM)=>HNX.out l (t:Int) sid sinv W hW (by omega))
          have HRC:=Hd_ (fun (W:World) (h1:Ctr g a y W bC bM) (h2:Mem g a y W bM M')=>HREC.out t (aft a s (valAt g x) l) M' W h1 h2 (by omega) hAF (by omega))
          generalize aft a s (valAt g x) l=AF at *
          have hbE:Below wr.heap.size wr (wr.alloc (.cells #[.int .i64 sid,.bool sinv,.int .i64 (l:Int),.int .i64 (t:Int)] 73)):=(Below.refl _ _).alloc (Nat.le_refl _) _
          have hii:(i:Int) < ((arcsOf g (x:Int)).length:Int):=by omega
          have HTS:=Hd_ hts
          clear hts hyi hon hmm hmo
          generalize cwTo g a y lf x s i=m1 at *
          generalize cw g a y lf t AF=CC at *
          go_wp2_with fail
          refine (HNC.out _ ((HC1.out.only HON.out).keep hbE)).mono ?_
          rintro en w3 ⟨rfl,hb3⟩
          have hb3':=below_trans hbE hb3
          have HC3:=Hd_ ((HC1.out.only HON.out).keep hb3')
          have HM3:=Hd_ (HMM.out.keep hb3')
          have HO3:=Hd_ (HON.out.trans (Only.of_below hb3' bM (bM+1)))
          clear hb3 hb3' k0 k1 k2 k3
          go_wp2_with fail
          refine (HRC.out _ HC3.out HM3.out).mono ?_
          rintro en w4 ⟨rfl,hon4,M4,hm4,hmo4⟩
          have HO4:=Hd_ (HO3.out.trans hon4)
          have HM4:=Hd_ hm4
          have HMO4:=Hd_ (HMO.out.trans hmo4)
          clear hon4 hm4 hmo4
          go_wp2_with fail
          go_roundw
          case rel=>exact ⟨i+1,M4,by omega,by go_num,by rw [HTS.out];exact congrArg (Value.int IntKind.i64) (by first | omega | (split <;> omega)),HO4.out,HM4.out,HMO4.out⟩
          case measure=>simp [intOf];omega
        · obtain rfl:i=(arcsOf g (x:Int)).length:=by omega
          rw [HALL.out] at hcle ⊢
          generalize hCW:cw g a y L1 x s=CW at *
          have z7:=ocell hon z7 (by omega) (by omega)
          have lCr:bC < wr.heap.size:=by omega
          have HCW:=Hd_ hCW
          clear hon hmm hmo hCW HALL
          go_upto_region 16 with fail
          refine F_start 6 (fun w'=>w'.cell? ⟨bC,7,none⟩=some (.map (some bM))/\w'.cell? ⟨w.heap.size,0,none⟩=some (.int .i64 (x:Int))/\w'.cell? ⟨w.heap.size,1,none⟩=some (.int .i64 (s:Int))/\w'.cell? ⟨w.heap.size,2,none⟩=some (.int .i64 (L1:Int))) (by kernel_rfl) (by exact ⟨z7,e0,e1,e2⟩) (fun hS inv=>?_)
          refine F_tk 0 inv ?_
          try simp only [tA,tB,tC,Act.put,tE,tF,tG]
          clear inv;intro inv
          refine F_tk 1 inv ?_
          try simp only [tA,tB,tC,Act.put,tE,tF,tG]
          clear inv;intro inv
          refine F_tk 2 inv ?_
          try simp only [tA,tB,tC,Act.put,tE,tF,tG]
          clear inv;intro inv
          refine F_tk 3 inv ?_
          try simp only [tA,tB,tC,Act.put,tE,tF,tG]
          clear inv;intro inv
          refine F_tk 4 inv ?_
          try simp only [tA,tB,tC,Act.put,tE,tF,tG]
          clear inv;intro inv
          refine F_tk 5 inv ?_
          try simp only [tA,tB,tC,Act.put,tE,tF,tG]
          clear inv;intro inv
          obtain ⟨D',hD1,hD2⟩:=HMM.out
          have hln:=hD2.len
          have hnz:(x,s,L1) ∉ M':=by
           obtain ⟨T,hT,hTl⟩:=HMO.out
           rw [hT,List.mem_append]
           rintro (h | h)
           · exact HNM.out h
           · have:=hTl _ h;simp only at this;omega
          refine F_l1 6 ?_;intro K hK
          refine op_mapUpdate_own _ _ _ _ _ rfl _ _ keyedPlace Tryz.underlying69 (plainElem Tryz.prog 3) _ _ _ (by rfl) hD1.drew (by unfold maxLen;omega) _ _ _ (by rfl) (by rfl) (keyOfPlc HZ.out) _ _ (plainElem_int Tryz.underlying3 (wf_nat (by omega))) ?_
          intro w9 hown9 hgr9
          refine hK _ _ ?_
          clear hK K inv hS
          try simp only [tA,tB,tC,Act.put,tE,tF,tG]
          have hput:=hD2.put HZ.out hnz
          simp only at hput
          rw [HCW.out] at hput
          have hm9:Mem g a y w9 bM (M' ++ [(x,s,L1)]):=⟨_,by rw [List.length_append];exact hown9,hput⟩
          have ho9:Only bM (bM+1) wr w9:=⟨hgr9.os,hgr9.tape,hgr9.output,hgr9.size,fun n hn ho=>hgr9.block n hn (fun e=>by injection e with e;omega)⟩
          have HO9:=Hd_ ((Only.of_below HBW.out bM (bM+1)).trans (HON.out.trans ho9))
          have HM9:=Hd_ hm9
          have HMO9:=Hd_ (show More L1 M (M' ++ [(x,s,L1)]) from (HMO.out.mono (by omega)).trans ⟨[(x,s,L1)],rfl,fun z hz=>by rw [List.mem_singleton] at hz;subst hz;exact Nat.le_refl _⟩)
          clear hown9 hgr9 hm9 ho9 hput hnz hD1 hD2
          go_wp2_with fail
          go_ret
          exact ⟨by rw [HCW.out];rfl,HO9.out,_,HM9.out,HMO9.out⟩
end Go.Proofs.YteaplabkemoenaaGreat
