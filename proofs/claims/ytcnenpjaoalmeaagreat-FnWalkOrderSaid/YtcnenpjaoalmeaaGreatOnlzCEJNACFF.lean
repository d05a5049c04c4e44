/- Parts of the proof, joined into one text: HelpWalk, WalksS, WitD, LstM, RnkM, CmpM, WitQ, WitR, KeyP, MemD, Ctr, Count, CtrN. -/
import Derived.Test.YtcnenpjaoalmeaaGreatOnlzJEDBHOLH
import Derived.Test.YtcnenpjaoalmeaaGreatOnlzONBKAKGD
import Derived.Test.YtcnenpjaoalmeaaGreatOnlzGHEHHNHL
import Derived.Test.YtcnenpjaoalmeaaGreatOnlzEJHBKPMO
import Derived.Test.YtcnenpjaoalmeaaGreatOnlzNBNNNJPC
import Derived.Maps.OwnSet
import Derived.DeepKeys4
import Derived.Maps.Views
import Derived.Test.YtcnenpjaoalmeaaGreatOnlzMKCIFHFK
import Derived.Test.YtcnenpjaoalmeaaGreatOnlzDALDNLBG
import Derived.Test.YtcnenpjaoalmeaaGreatOnlzFMIHCKLL
set_option linter.unusedVariables false
set_option linter.unusedSimpArgs false
namespace Go.Proofs.YtcnenpjaoalmeaaGreat
open Go.ChangeShapes Go.WideShapes Go.ChangeAt Go.RowKit
attribute [local go_sem] ext_cell ext_frozen ext_lt ext_lt1 ext_lt2 ext_lt3 ltn2 ltn3 ltn13 lts1 lts2 lts3
def WkO (lo hi:Nat) (w:World) (v:Value) (k:Wk):Prop :=
 ∃ ss,v=.agg #[.int .i64 k.1,ss]/\Own lo hi w 74 cSt 2 ss k.2
theorem WkO.view {lo hi:Nat} {w:World} {v:Value} {k:Wk} (h:WkO lo hi w v k):WkV lo hi w v k:=by
 obtain ⟨ss,rfl,h1⟩:=h
 exact ⟨ss,rfl,h1.sl cSt_len⟩
theorem WkO.below {lo hi:Nat} {w w':World} {v:Value} {k:Wk} (h:WkO lo hi w v k) {B:Nat} (hb:Below B w w') (hB:hi<=B):WkO lo hi w' v k:=by
 obtain ⟨ss,rfl,h1⟩:=h
 exact ⟨ss,rfl,h1.below hb hB⟩
theorem WkO.only {lo hi:Nat} {w w':World} {v:Value} {k:Wk} (h:WkO lo hi w v k) {l r:Nat} (hb:Only l r w w') (ho:hi<=l ∨ r<=lo):WkO lo hi w' v k:=by
 obtain ⟨ss,rfl,h1⟩:=h
 exact ⟨ss,rfl,h1.only hb ho⟩
theorem WkO.mono {lo hi:Nat} {w:World} {v:Value} {k:Wk} (h:WkO lo hi w v k) {lo' hi':Nat} (h1:lo'<=lo) (h2:hi<=hi'):WkO lo' hi' w v k:=by
 obtain ⟨ss,rfl,g1⟩:=h
 exact ⟨ss,rfl,g1.mono h1 h2⟩
/-- the first row's count, as a walk wants it -/
theorem LaysV.first {g:Gr} {a:Au} {y:Int} {k0:Key} {n lo:Nat} {w:World} {v:Value} (h:LaysV g a y k0 n lo w v):∃ (b o c gd cd:Nat),v=.slice (some ⟨b,o,none⟩) (n+1) c/\b < w.heap.size/\gd < w.heap.size/\w.cell? ⟨b,o,none⟩=some (.slice (some ⟨gd,0,none⟩) 1 cd)/\w.cell? ⟨gd,2,none⟩=some (.int .i64 (cw g a y n k0.1 k0.2:Nat)):=by
 obtain ⟨A,c,rfl,-,-,h⟩:=h
 obtain ⟨b,o,gd,cd,zs,rfl,hb,hc,hl⟩:=h 0 (Nat.zero_le _)
 obtain ⟨z,-,-,-,-,-,-,-,r2,-,-⟩:=hl.get (i:=0) (k:=k0) rfl
 refine ⟨b,o,c,gd,cd,rfl,hb,hl.lt,by simpa [layN] using hc,?_⟩
 rw [layC_at (i:=0) (k:=k0) rfl,Nat.sub_zero] at r2
 simpa using r2
def FiveOut (w:World) (e:Ending) (w':World):Prop:=∃ vg va g a x y d,e=.returned (.tuple #[vg,va,.int .i64 x,.int .i64 y,.int .i64 d])/\(GrV 0 w'.heap.size w' vg g/\g.edges.length<=11/\AuV 0 w'.heap.size w' va a/\Below w.heap.size w w')
set_option maxHeartbeats 8000000 in
theorem drawNthWalk_any (v:Value) (bs:List Int) (w:World) (hv:SlI 0 w.heap.size w cU 1 v bs) :
 Calls Tryz.prog 8 #[v] w (FiveOut w):=by
 have HV:=Hd_ hv
 have hb0:=((Below.refl w.heap.size w).alloc (Nat.le_refl _) (.cells #[.slice none 0 0,.slice none 0 0] 27)).alloc (by simp) (.cells #[.int .i64 0,.slice none 0 0,.slice none 0 0] 31)
 have hb1:=(Blk.new w 27 #[.slice none 0 0,.slice none 0 0] _ rfl).alloc (.cells #[.int .i64 0,.slice none 0 0,.slice none 0 0] 31)
 have hb2:=Blk.new (w.alloc (.cells #[.slice none 0 0,.slice none 0 0] 27)) 31 #[.int .i64 0,.slice none 0 0,.slice none 0 0] (w.heap.size+1) (by simp)
 have hs0:((w.alloc (.cells #[.slice none 0 0,.slice none 0 0] 27)).alloc (.cells #[.int .i64 0,.slice none 0 0,.slice none 0 0] 31)).heap.size=w.heap.size+2:=by simp
 obtain ⟨A,n,c,rfl⟩:=hv.shape
 clear hv
 go_enter Tryz.func8,Tryz.ntmps8
 go_wp2_with fail
 refine (l17Two_any _ bs _ ((HV.out.below hb0 (Nat.le_refl _)).mono (Nat.le_refl _) hb0.size)).mono ?_
 rintro e w2 ⟨b,vg,va,g,a,x,y,rfl,hbl,hgv,he11,hav,hc2,hbw⟩
 have hr1:=hb1.keep hbw
 have hr2:=hb2.keep hbw
 have hb3:=below_trans hb0 hbw
 rw [hs0] at hbl
 clear hbw hb1 hb2 hb0 hs0 HV
 have hlb:=hc2.lt
 obtain ⟨A1,n1,c1,A2,n2,c2,rfl⟩:=hgv.shape
 obtain ⟨A3,n3,c3,A4,n4,c4,rfl⟩:=hav.shape
 have hn1:=grT_len hgv
 have hal:=((Below.refl w2.heap.size w2).alloc (Nat.le_refl _) (.cells #[.slice A1 n1 c1,.slice A2 n2 c2] 27)).alloc (by simp) (.cells #[.int .i64 a.start,.slice A3 n3 c3,.slice A4 n4 c4] 31)
 have bg:=(Blk.new w2 27 #[.slice A1 n1 c1,.slice A2 n2 c2] _ rfl).alloc (.cells #[.int .i64 a.start,.slice A3 n3 c3,.slice A4 n4 c4] 31)
 have ba:=Blk.new (w2.alloc (.cells #[.slice A1 n1 c1,.slice A2 n2 c2] 27)) 31 #[.int .i64 a.start,.slice A3 n3 c3,.slice A4 n4 c4] (w2.heap.size+1) (by simp)
 obtain ⟨gq,hgq⟩:∃ gq,gq=w2.heap.size:=⟨_,rfl⟩
 have HP:=Hd_ (show GaR b w.heap.size gq (gq+1) w ((w2.alloc (.cells #[.slice A1 n1 c1,.slice A2 n2 c2] 27)).alloc (.cells #[.int .i64 a.start,.slice A3 n3 c3,.slice A4 n4 c4] 31)) _ _ g _ _ a from
  ⟨hr1.keep hal,hr2.keep hal,hgq ▸ bg,hgq ▸ ba,(hgv.below hal (Nat.le_refl _)).mono (by omega) (by omega),(hav.below hal (Nat.le_refl _)).mono (by omega) (by omega),hc2.keep hal,below_trans hb3 hal,rfl,he11,by omega⟩)
 clear hal bg ba hgv hav hc2 hr1 hr2 hb3 he11
 go_upto_region 2 with fail
 rw [<- hgq]
 generalize ((w2.alloc (.cells #[.slice A1 n1 c1,.slice A2 n2 c2] 27)).alloc (.cells #[.int .i64 a.start,.slice A3 n3 c3,.slice A4 n4 c4] 31))=W at *
 clear hgq hlb
 go_wp2_with fail
 refine (l1Once_any b 10 _ HP.out.cur).mono ?_
 rintro e w7 ⟨t,rfl,hc7,ho7⟩
 have HP7:=Hd_ (HP.out.step ho7 hc7)
 clear ho7 hc7 HP
 have x0:w7.cell? ⟨gq,0,none⟩=some (.slice A1 n1 c1):=HP7.out.gbk.cell 0
 have x1:w7.cell? ⟨gq,1,none⟩=some (.slice A2 n2 c2):=HP7.out.gbk.cell 1
 have y0:w7.cell? ⟨gq+1,0,none⟩=some (.int .i64 a.start):=HP7.out.abk.cell 0
 have y1:w7.cell? ⟨gq+1,1,none⟩=some (.slice A3 n3 c3):=HP7.out.abk.cell 1
 have y2:w7.cell? ⟨gq+1,2,none⟩=some (.slice A4 n4 c4):=HP7.out.abk.cell 2
 cases t
 · go_wp2_with fail
   refine F_start 10 (fun w'=>w'.cell? ⟨gq,0,none⟩=some (.slice A1 n1 c1)/\w'.cell? ⟨gq,1,none⟩=some (.slice A2 n2 c2)/\w'.cell? ⟨gq+1,0,none⟩=some (.int .i64 a.start)/\w'.cell? ⟨gq+1,1,none⟩=some (.slice A3 n3 c3)/\w'.cell? ⟨gq+1,2,none⟩=some (.slice A4 n4 c4)) (by kernel_rfl) (by exact ⟨x0,x1,y0,y1,y2⟩) (fun hS inv=>?_)
   refine F_tk 0 inv ?_
   try simp only [tA,tB,tC,Act.put,tE,tF,tG]
   clear inv;intro inv
   refine F_tk 1 inv ?_
   try simp only [tA,tB,tC,Act.put,tE,tF,tG]
   clear inv;intro inv
   refine F_tk 2 inv ?_
   try simp only [tA,tB,tC,Act.put,tE,tF,tG]
   clear inv;intro inv
   refine F_tk 3 inv ?_
   try simp only [tA,tB,tC,Act.put,tE,tF,tG]
   clear inv;intro inv
   refine F_tk 4 inv ?_
   try simp only [tA,tB,tC,Act.put,tE,tF,tG]
   clear inv;intro inv
   have HPd:=Hd_ HP7.out.drew
   clear HP7 x0 x1 y0 y1 y2
   refine F_o1 5 inv ?_;intro K hK
   try simp only [tA,tB,tC]
   go_simp
   refine (l1Below_any b _ _ HPd.out.cur).mono ?_
   rintro e w8 ⟨q,rfl,-,hc8,ho8⟩
   have HP8:=Hd_ (HPd.out.step ho8 hc8)
   clear ho8 hc8 HPd
   refine hK.out _ _ (⟨HP8.out.gbk.cell 0,HP8.out.gbk.cell 1,HP8.out.abk.cell 0,HP8.out.abk.cell 1,HP8.out.abk.cell 2⟩) (fun _ _=>?_)
   try simp only [tA,tB,tC,Act.put,tE,tF,tG]
   clear hK K inv hS;rename_i hS inv
   have z0:w8.cell? ⟨w.heap.size,0,none⟩=some (.slice none 0 0):=HP8.out.res1.cell 0
   have z1:w8.cell? ⟨w.heap.size,1,none⟩=some (.slice none 0 0):=HP8.out.res1.cell 1
   have z2:w8.cell? ⟨w.heap.size+1,0,none⟩=some (.int .i64 0):=HP8.out.res2.cell 0
   have z3:w8.cell? ⟨w.heap.size+1,1,none⟩=some (.slice none 0 0):=HP8.out.res2.cell 1
   have z4:w8.cell? ⟨w.heap.size+1,2,none⟩=some (.slice none 0 0):=HP8.out.res2.cell 2
   have v0:=HP8.out.res1.frozen 0
   have v1:=HP8.out.res1.frozen 1
   have v2:=HP8.out.res2.frozen 0
   have v3:=HP8.out.res2.frozen 1
   have v4:=HP8.out.res2.frozen 2
   have hlr:=HP8.out.res1.lt
   have hls:=HP8.out.res2.lt
   have HQ:=Hd_ (HP8.out.put (.slice A1 n1 c1) (.slice A2 n2 c2))
   have HQB:=Hd_ (HP8.out.blks HQ.out.1)
   refine F_o1 6 inv ?_;intro K hK
   try simp only [tA,tB,tC]
   go_simp
   refine hK.out _ _ (⟨HQB.out.1.cell 0,HQB.out.1.cell 1,HQB.out.2.cell 0,HQB.out.2.cell 1,HQB.out.2.cell 2⟩) (fun _ _=>?_)
   try simp only [tA,tB,tC,Act.put,tE,tF,tG]
   clear hK K inv hS;rename_i hS inv
   have HQC:=Hd_ (HP8.out.blks (putGC_only w8 w.heap.size (.slice A1 n1 c1) (.slice A2 n2 c2) (.int .i64 a.start) (.slice A3 n3 c3) (.slice A4 n4 c4)))
   refine F_o1 7 inv ?_;intro K hK
   try simp only [tA,tB,tC]
   go_simp
   refine hK.out _ _ (⟨HQC.out.1.cell 0,HQC.out.1.cell 1,HQC.out.2.cell 0,HQC.out.2.cell 1,HQC.out.2.cell 2⟩) (fun _ _=>?_)
   try simp only [tA,tB,tC,Act.put,tE,tF,tG]
   clear hK K inv hS;rename_i hS inv
   refine F_o1 8 inv ?_;intro K hK
   try simp only [tA,tB,tC]
   go_simp
   refine hK.out _ _ (⟨HQC.out.1.cell 0,HQC.out.1.cell 1,HQC.out.2.cell 0,HQC.out.2.cell 1,HQC.out.2.cell 2⟩) (fun _ _=>?_)
   try simp only [tA,tB,tC,Act.put,tE,tF,tG]
   clear hK K inv hS;rename_i hS inv
   refine F_o1 9 inv ?_;intro K hK
   try simp only [tA,tB,tC]
   go_simp
   refine hK.out _ _ (⟨HQC.out.1.cell 0,HQC.out.1.cell 1,HQC.out.2.cell 0,HQC.out.2.cell 1,HQC.out.2.cell 2⟩) (fun _ _=>?_)
   try simp only [tA,tB,tC,Act.put,tE,tF,tG]
   clear hK K inv hS;rename_i hS inv
   refine F_l1 10 ?_;intro K hK
   go_simp
   refine hK _ _ ?_
   clear hK K
   have HD:=Hd_ (HP8.out.fin0 (putGC_only w8 w.heap.size (.slice A1 n1 c1) (.slice A2 n2 c2) (.int .i64 a.start) (.slice A3 n3 c3) (.slice A4 n4 c4)))
   go_wp2_with fail
   all_goals exact bodyPost_ret (v:=.tuple #[.agg #[.slice A1 n1 c1,.slice A2 n2 c2],.agg #[.int .i64 a.start,.slice A3 n3 c3,.slice A4 n4 c4],.int .i64 x,.int .i64 y,.int .i64 q]) (by simp [results,Tryz.results8,go_sem,z0,z1,z2,z3,z4,v0,v1,v2,v3,v4,hlr,hls]) rfl ⟨_,_,g,a,_,_,_,rfl,HD.out⟩
 · go_wp2_with fail
   refine F_start 11 (fun w'=>w'.cell? ⟨gq,0,none⟩=some (.slice A1 n1 c1)/\w'.cell? ⟨gq,1,none⟩=some (.slice A2 n2 c2)/\w'.cell? ⟨gq+1,0,none⟩=some (.int .i64 a.start)/\w'.cell? ⟨gq+1,1,none⟩=some (.slice A3 n3 c3)/\w'.cell? ⟨gq+1,2,none⟩=some (.slice A4 n4 c4)) (by kernel_rfl) (by exact ⟨x0,x1,y0,y1,y2⟩) (fun hS inv=>?_)
   refine F_tk 0 inv ?_
   try simp only [tA,tB,tC,Act.put,tE,tF,tG]
   clear inv;intro inv
   refine F_tk 1 inv ?_
   try simp only [tA,tB,tC,Act.put,tE,tF,tG]
   clear inv;intro inv
   refine F_tk 2 inv ?_
   try simp only [tA,tB,tC,Act.put,tE,tF,tG]
   clear inv;intro inv
   refine F_tk 3 inv ?_
   try simp only [tA,tB,tC,Act.put,tE,tF,tG]
   clear inv;intro inv
   refine F_tk 4 inv ?_
   try simp only [tA,tB,tC,Act.put,tE,tF,tG]
   clear inv;intro inv
   have HPd:=Hd_ HP7.out.drew
   clear HP7 x0 x1 y0 y1 y2
   refine F_o1 5 inv ?_;intro K hK
   try simp only [tA,tB,tC]
   go_simp
   have HPL:=Hd_ (litD_sl w7.drew 3 #[.int .i64 (-1),.int .i64 500,.int .i64 999999,.int .i64 1000000] [-1,500,999999,1000000] 4 (b+1) (by have:=HPd.out.ord;have:=HPd.out.abk.lt;omega) (by decide) rfl rfl rfl)
   have HPA:=Hd_ (HPd.out.keep ((Below.refl _ _).alloc (Nat.le_refl _) (.cells #[.int .i64 (-1),.int .i64 500,.int .i64 999999,.int .i64 1000000] 3)))
   clear HPd
   refine hK.out _ _ (kA5 _ hS) (fun _ _=>?_)
   try simp only [tA,tB,tC,Act.put,tE,tF,tG]
   clear hK K inv hS;rename_i hS inv
   refine F_o1 6 inv ?_;intro K hK
   try simp only [tA,tB,tC]
   go_simp
   refine (l1PickInt_any b _ [-1,500,999999,1000000] _ HPA.out.cur (by simp) (by simpa using HPL.out)).mono ?_
   rintro e w8 ⟨q,rfl,-,hc8,ho8⟩
   have HP8:=Hd_ (HPA.out.step ho8 hc8)
   clear ho8 hc8 HPA HPL
   refine hK.out _ _ (⟨HP8.out.gbk.cell 0,HP8.out.gbk.cell 1,HP8.out.abk.cell 0,HP8.out.abk.cell 1,HP8.out.abk.cell 2⟩) (fun _ _=>?_)
   try simp only [tA,tB,tC,Act.put,tE,tF,tG]
   clear hK K inv hS;rename_i hS inv
   have z0:w8.cell? ⟨w.heap.size,0,none⟩=some (.slice none 0 0):=HP8.out.res1.cell 0
   have z1:w8.cell? ⟨w.heap.size,1,none⟩=some (.slice none 0 0):=HP8.out.res1.cell 1
   have z2:w8.cell? ⟨w.heap.size+1,0,none⟩=some (.int .i64 0):=HP8.out.res2.cell 0
   have z3:w8.cell? ⟨w.heap.size+1,1,none⟩=some (.slice none 0 0):=HP8.out.res2.cell 1
   have z4:w8.cell? ⟨w.heap.size+1,2,none⟩=some (.slice none 0 0):=HP8.out.res2.cell 2
   have v0:=HP8.out.res1.frozen 0
   have v1:=HP8.out.res1.frozen 1
   have v2:=HP8.out.res2.frozen 0
   have v3:=HP8.out.res2.frozen 1
   have v4:=HP8.out.res2.frozen 2
   have hlr:=HP8.out.res1.lt
   have hls:=HP8.out.res2.lt
   have HQ:=Hd_ (HP8.out.put (.slice A1 n1 c1) (.slice A2 n2 c2))
   have HQB:=Hd_ (HP8.out.blks HQ.out.1)
   refine F_o1 7 inv ?_;intro K hK
   try simp only [tA,tB,tC]
   go_simp
   refine hK.out _ _ (⟨HQB.out.1.cell 0,HQB.out.1.cell 1,HQB.out.2.cell 0,HQB.out.2.cell 1,HQB.out.2.cell 2⟩) (fun _ _=>?_)
   try simp only [tA,tB,tC,Act.put,tE,tF,tG]
   clear hK K inv hS;rename_i hS inv
   have HQC:=Hd_ (HP8.out.blks (putGC_only w8 w.heap.size (.slice A1 n1 c1) (.slice A2 n2 c2) (.int .i64 a.start) (.slice A3 n3 c3) (.slice A4 n4 c4)))
   refine F_o1 8 inv ?_;intro K hK
   try simp only [tA,tB,tC]
   go_simp
   refine hK.out _ _ (⟨HQC.out.1.cell 0,HQC.out.1.cell 1,HQC.out.2.cell 0,HQC.out.2.cell 1,HQC.out.2.cell 2⟩) (fun _ _=>?_)
   try simp only [tA,tB,tC,Act.put,tE,tF,tG]
   clear hK K inv hS;rename_i hS inv
   refine F_o1 9 inv ?_;intro K hK
   try simp only [tA,tB,tC]
   go_simp
   refine hK.out _ _ (⟨HQC.out.1.cell 0,HQC.out.1.cell 1,HQC.out.2.cell 0,HQC.out.2.cell 1,HQC.out.2.cell 2⟩) (fun _ _=>?_)
   try simp only [tA,tB,tC,Act.put,tE,tF,tG]
   clear hK K inv hS;rename_i hS inv
   refine F_o1 10 inv ?_;intro K hK
   try simp only [tA,tB,tC]
   go_simp
   refine hK.out _ _ (⟨HQC.out.1.cell 0,HQC.out.1.cell 1,HQC.out.2.cell 0,HQC.out.2.cell 1,HQC.out.2.cell 2⟩) (fun _ _=>?_)
   try simp only [tA,tB,tC,Act.put,tE,tF,tG]
   clear hK K inv hS;rename_i hS inv
   refine F_l1 11 ?_;intro K hK
   go_simp
   refine hK _ _ ?_
   clear hK K
   have HD:=Hd_ (HP8.out.fin0 (putGC_only w8 w.heap.size (.slice A1 n1 c1) (.slice A2 n2 c2) (.int .i64 a.start) (.slice A3 n3 c3) (.slice A4 n4 c4)))
   go_wp2_with fail
   all_goals exact bodyPost_ret (v:=.tuple #[.agg #[.slice A1 n1 c1,.slice A2 n2 c2],.agg #[.int .i64 a.start,.slice A3 n3 c3,.slice A4 n4 c4],.int .i64 x,.int .i64 y,.int .i64 q]) (by simp [results,Tryz.results8,go_sem,z0,z1,z2,z3,z4,v0,v1,v2,v3,v4,hlr,hls]) rfl ⟨_,_,g,a,_,_,_,rfl,HD.out⟩
end Go.Proofs.YtcnenpjaoalmeaaGreat
namespace Go.Proofs.YtcnenpjaoalmeaaGreat
open Go.ChangeShapes Go.WideShapes Go.ChangeAt Go.RowKit
theorem aft1_test (a:Au) (l m t u:Nat):(aft1 a l m t).testBit u=(m.testBit u || decide (mv a t l=(u:Int))):=by
 unfold aft1
 split
 · rename_i h
   rw [ins_test]
   congr 1
   apply decide_eq_decide.2
   omega
 · rename_i h
   have:¬ mv a t l=(u:Int):=by omega
   simp [this]
theorem aftF1_test (a:Au) (l u:Nat):∀ (L:List Nat) (m:Nat),(L.foldl (aft1 a l) m).testBit u=(m.testBit u || L.any fun t=>decide (mv a t l=(u:Int)))
 | [],m=>by simp
 | t :: L,m=>by rw [List.foldl_cons,aftF1_test a l u L,aft1_test,List.any_cons,Bool.or_assoc]
theorem aftFS_test (a:Au) (v l u:Nat):∀ (L:List Nat) (m:Nat),(L.foldl (aftS a v l) m).testBit u=(m.testBit u || L.any fun s=>(mem 12 (cls a v s)).any fun t=>decide (mv a t l=(u:Int)))
 | [],m=>by simp
 | s :: L,m=>by rw [List.foldl_cons,aftFS_test a v l u L,aftS,aftF1_test,List.any_cons,Bool.or_assoc]
theorem aft_test (a:Au) (S v l u:Nat):(aft a S v l).testBit u=(mem 12 S).any fun s=>(mem 12 (cls a v s)).any fun t=>decide (mv a t l=(u:Int)):=by rw [aft,aftFS_test,Nat.zero_testBit,Bool.false_or]
theorem test_lt {n S s:Nat} (hS:S < 2 ^ n) (h:S.testBit s=true):s < n:=by
 rcases Nat.lt_or_ge s n with h1 | h1
 · exact h1
 · rw [Nat.testBit_lt_two_pow (Nat.lt_of_lt_of_le hS (Nat.pow_le_pow_right (by omega) h1))] at h;cases h
theorem aft_any {a:Au} (ha:auOk a=true) {S:Nat} (hS:S < 2 ^ a.accept.length) (v l u:Nat):(aft a S v l).testBit u=true ↔ ∃ s,S.testBit s=true/\(aft a (bit s) v l).testBit u=true:=by
 have hn:=(auOk_iff.1 ha).1.2
 rw [aft_test,List.any_eq_true]
 constructor
 · rintro ⟨s,hs,h⟩
   rw [mem_mem] at hs
   exact ⟨s,hs.2,by rw [aft_test,mem_pow hs.1,List.any_cons,h];rfl⟩
 · rintro ⟨s,hs,h⟩
   have hs12:s < 12:=by have:=test_lt hS hs;omega
   rw [aft_test,mem_pow hs12] at h
   exact ⟨s,mem_mem.2 ⟨hs12,hs⟩,by simpa using h⟩
/-- vertex (x, q) reaches an accepting end at y in exactly f steps -/
def hitK (g:Gr) (a:Au) (y f x q:Nat):Prop:=toG (nextI g a) (fun i=>i ∈ goalsL g a y) f (x * a.accept.length+q)
theorem div_vx {n x q:Nat} (hq:q < n):(x * n+q) / n=x:=by
 rw [Nat.mul_comm,Nat.mul_add_div (by omega),Nat.div_eq_of_lt hq];rfl
theorem mod_vx {n x q:Nat} (hq:q < n):(x * n+q) % n=q:=by rw [Nat.mul_comm,Nat.mul_add_mod,Nat.mod_eq_of_lt hq]
theorem mem_nextI {g:Gr} {a:Au} (ha:auOk a=true) {x q v:Nat} (hq:q < a.accept.length):v ∈ nextI g a (x * a.accept.length+q) ↔ ∃ p ∈ arcsOf g (x:Int),∃ t,(aft a (bit q) (valAt g x) p.2.1.toNat).testBit t=true/\v=p.2.2.toNat * a.accept.length+t:=by
 have hn:=(auOk_iff.1 ha).1.2
 rw [nextI,div_vx hq,mod_vx hq,nextV,List.mem_flatMap]
 constructor
 · rintro ⟨p,hp,h⟩
   obtain ⟨t,ht,rfl⟩:=List.mem_map.1 h
   exact ⟨p,hp,t,(mem_mem.1 ht).2,rfl⟩
 · rintro ⟨p,hp,t,ht,rfl⟩
   have:=test_lt (aft_lt ha (bit q) (valAt g x) p.2.1.toNat) ht
   exact ⟨p,hp,List.mem_map.2 ⟨t,mem_mem.2 ⟨by omega,ht⟩,rfl⟩⟩
theorem hit_zero {g:Gr} {a:Au} {y x q:Nat} (hq:q < a.accept.length):hitK g a y 0 x q ↔ x=y/\accC a (valAt g y) q=true:=by
 show x * a.accept.length+q ∈ goalsL g a y ↔ _
 rw [mem_goalsL]
 constructor
 · rintro ⟨s,hs,hc,he⟩
   have h1:=congrArg (· / a.accept.length) he
   have h2:=congrArg (· % a.accept.length) he
   simp only [div_vx hq,div_vx hs,mod_vx hq,mod_vx hs] at h1 h2
   subst h1 h2
   exact ⟨rfl,hc⟩
 · rintro ⟨rfl,h⟩
   exact ⟨q,hq,h,rfl⟩
theorem hit_succ {g:Gr} {a:Au} (ha:auOk a=true) {y f x q:Nat} (hq:q < a.accept.length):hitK g a y (f+1) x q ↔ ∃ p ∈ arcsOf g (x:Int),∃ t,(aft a (bit q) (valAt g x) p.2.1.toNat).testBit t=true/\hitK g a y f p.2.2.toNat t:=by
 show (∃ k ∈ nextI g a (x * a.accept.length+q),toG (nextI g a) (fun i=>i ∈ goalsL g a y) f k) ↔ _
 constructor
 · rintro ⟨k,hk,h⟩
   obtain ⟨p,hp,t,ht,rfl⟩:=(mem_nextI ha hq).1 hk
   exact ⟨p,hp,t,ht,h⟩
 · rintro ⟨p,hp,t,ht,h⟩
   exact ⟨_,(mem_nextI ha hq).2 ⟨p,hp,t,ht,rfl⟩,h⟩
theorem fold_pos {g:Gr} {a:Au} {y:Int} {f x s:Nat}:∀ (l:List Arc) (m:Nat),0 < l.foldl (cwStep g a (cw g a y f) x s) m ↔ 0 < m ∨ ∃ p ∈ l,0 < cwAt g a y f x s p
 | [],m=>by simp
 | p :: l,m=>by
   rw [List.foldl_cons,fold_pos l]
   have hs:cwStep g a (cw g a y f) x s m p=min 1000000 (m+cwAt g a y f x s p):=rfl
   rw [hs]
   constructor
   · rintro (h | ⟨q,hq,h⟩)
     · rcases Nat.eq_zero_or_pos m with h0 | h0
       · exact .inr ⟨p,List.mem_cons_self ..,by omega⟩
       · exact .inl h0
     · exact .inr ⟨q,List.mem_cons_of_mem _ hq,h⟩
   · rintro (h | ⟨q,hq,h⟩)
     · exact .inl (by omega)
     · rcases List.mem_cons.1 hq with rfl | hq
       · exact .inl (by omega)
       · exact .inr ⟨q,hq,h⟩
theorem cw_pos {g:Gr} {a:Au} (ha:auOk a=true) {y:Nat}:∀ {f x s:Nat},s < 2 ^ a.accept.length->(0 < cw g a (y:Int) f x s ↔ ∃ q,s.testBit q=true/\hitK g a y f x q)
 | 0,x,s,hs=>by
   have hn:=(auOk_iff.1 ha).1.2
   rw [cw]
   have e:(decide ((x:Int)=(y:Int)) && acc a s (valAt g x))=true ↔ ∃ q,s.testBit q=true/\hitK g a y 0 x q:=by
    rw [Bool.and_eq_true,decide_eq_true_eq,acc,List.any_eq_true]
    constructor
    · rintro ⟨hxy,q,hq,h⟩
      obtain rfl:x=y:=by omega
      have h2:=(mem_mem.1 hq).2
      exact ⟨q,h2,(hit_zero (test_lt hs h2)).2 ⟨rfl,h⟩⟩
    · rintro ⟨q,hq,h⟩
      have hql:=test_lt hs hq
      obtain ⟨rfl,h2⟩:=(hit_zero hql).1 h
      exact ⟨rfl,q,mem_mem.2 ⟨by omega,hq⟩,h2⟩
   rw [<- e]
   split <;> simp_all
 | f+1,x,s,hs=>by
   rw [cw,fold_pos]
   constructor
   · rintro (h | ⟨p,hp,h⟩)
     · omega
     · rw [cwAt,cw_pos ha (aft_lt ha _ _ _)] at h
       obtain ⟨t,ht,h⟩:=h
       obtain ⟨q,hq,ht⟩:=(aft_any ha hs _ _ _).1 ht
       exact ⟨q,hq,(hit_succ ha (test_lt hs hq)).2 ⟨p,hp,t,ht,h⟩⟩
   · rintro ⟨q,hq,h⟩
     obtain ⟨p,hp,t,ht,h⟩:=(hit_succ ha (test_lt hs hq)).1 h
     refine .inr ⟨p,hp,?_⟩
     rw [cwAt,cw_pos ha (aft_lt ha _ _ _)]
     exact ⟨t,(aft_any ha hs _ _ _).2 ⟨q,hq,ht⟩,h⟩
def keepTo (D:List Int) (n x set f:Nat):Nat->Nat
 | 0=>0
 | q+1=>if (set.testBit q && (D.getD (x * n+q) 0==(f:Int)))=true then ins (keepTo D n x set f q) q else keepTo D n x set f q
theorem keepTo_test (D:List Int) (n x set f u:Nat):∀ k,(keepTo D n x set f k).testBit u=true ↔ u < k/\set.testBit u=true/\D.getD (x * n+u) 0=(f:Int)
 | 0=>by simp [keepTo]
 | k+1=>by
   rw [keepTo]
   split
   · rename_i h
     rw [Bool.and_eq_true,beq_iff_eq] at h
     rw [ins_test,Bool.or_eq_true,keepTo_test D n x set f u k,decide_eq_true_eq]
     constructor
     · rintro (⟨h1,h2⟩ | rfl)
       · exact ⟨by omega,h2⟩
       · exact ⟨by omega,h⟩
     · rintro ⟨h1,h2⟩
       by_cases hk:k=u
       · exact .inr hk
       · exact .inl ⟨by omega,h2⟩
   · rename_i h
     rw [Bool.and_eq_true,beq_iff_eq] at h
     rw [keepTo_test D n x set f u k]
     constructor
     · rintro ⟨h1,h2⟩;exact ⟨by omega,h2⟩
     · rintro ⟨h1,h2⟩
       refine ⟨?_,h2⟩
       by_cases hk:u=k
       · subst hk;exact absurd h2 h
       · omega
theorem keepTo_lt (D:List Int) (n x set f:Nat):∀ k,keepTo D n x set f k < 2 ^ k
 | 0=>by simp [keepTo]
 | k+1=>by
   have h:=keepTo_lt D n x set f k
   have h2:keepTo D n x set f k < 2 ^ (k+1):=Nat.lt_of_lt_of_le h (Nat.pow_le_pow_right (by omega) (by omega))
   rw [keepTo]
   split
   · exact ins_lt h2 (by omega)
   · exact h2
def keepK (a:Au) (D:List Int) (x set f:Nat):Nat:=keepTo D a.accept.length x set f a.accept.length
def keepA (g:Gr) (a:Au) (D:List Int) (f x s:Nat) (p:Arc):Nat:=keepK a D p.2.2.toNat (aft a s (valAt g x) p.2.1.toNat) f
/-- the walk's steps, with f steps left -/
def lwL (g:Gr) (a:Au) (D:List Int):Nat->Nat->Nat->List St
 | 0,_,_=>[]
 | f+1,x,s=>match (arcsOf g (x:Int)).find? (fun p=>decide (keepA g a D f x s p ≠ 0)) with
   | none=>lwL g a D f x s
   | some p=>p.1 :: lwL g a D f p.2.2.toNat (keepA g a D f x s p)
theorem find_congr {α:Type} {p q:α->Bool}:∀ {l:List α},(∀ x ∈ l,p x=q x)->l.find? p=l.find? q
 | [],_=>rfl
 | x :: l,h=>by
   rw [List.find?_cons,List.find?_cons,h x (List.mem_cons_self ..),find_congr (fun y hy=>h y (List.mem_cons_of_mem _ hy))]
theorem pick_zero {α:Type} (k:α->Nat):∀ l:List α,pick k l 0=(l.find? fun p=>decide (0 < k p)).map fun p=>(p,0)
 | []=>rfl
 | p :: l=>by
   rw [pick,List.find?_cons]
   by_cases h:0 < k p
   · simp [h]
   · have h2:k p=0:=by omega
     simp [h2,pick_zero k l]
/-- S: the states of the walk so far; K: those of them at distance f; none is nearer -/
structure KeepI (g:Gr) (a:Au) (y f x S K:Nat):Prop where
 far:∀ q,S.testBit q=true->∀ m,m < f->¬ hitK g a y m x q
 kept:∀ q,K.testBit q=true ↔ S.testBit q=true/\hitK g a y f x q
theorem ne_zero_iff {m:Nat}:m ≠ 0 ↔ ∃ q,m.testBit q=true:=by
 constructor
 · exact Nat.exists_testBit_of_ne_zero
 · rintro ⟨q,hq⟩ rfl
   simp at hq
theorem dist_eq {g:Gr} {a:Au} {y:Nat} (hg:grOk g=true) (ha:auOk a=true) (hy:y < g.vals.length) {x q:Nat} (hx:x < g.vals.length) (hq:q < a.accept.length) (f:Nat) :
 (distTo g a (y:Int)).getD (x * a.accept.length+q) 0=(f:Int) ↔ hitK g a y f x q/\∀ m,m < f->¬ hitK g a y m x q:=by
 have hd:(wi (y:Int) 0 ((g.vals.length:Int) - 1) && (grOk g && auOk a))=true:=by
  simp only [Bool.and_eq_true]
  exact ⟨by rw [wi_iff];omega,hg,ha⟩
 have hN:∀ i k,i < g.vals.length * a.accept.length->k ∈ nextI g a i->k < g.vals.length * a.accept.length:=fun i k _ hk=>nextV_lt (grOk_iff.1 hg) ha hk
 have hfs:∀ i ∈ goalsL g a y,i < g.vals.length * a.accept.length:=fun i hi=>by
  obtain ⟨s,hs,_,rfl⟩:=mem_goalsL.1 hi
  calc y * a.accept.length+s < y * a.accept.length+a.accept.length:=by omega
   _=(y+1) * a.accept.length:=by rw [Nat.add_mul,Nat.one_mul]
   _<=_:=Nat.mul_le_mul_right _ hy
 have hi:x * a.accept.length+q < g.vals.length * a.accept.length:=by
  calc x * a.accept.length+q < x * a.accept.length+a.accept.length:=by omega
   _=(x+1) * a.accept.length:=by rw [Nat.add_mul,Nat.one_mul]
   _<=_:=Nat.mul_le_mul_right _ hx
 have h:=spread_dist hfs hN _ hi
 have he:(distTo g a (y:Int)).getD (x * a.accept.length+q) 0=(spreadR (g.vals.length * a.accept.length) (turnL (g.vals.length * a.accept.length) (nextI g a)) (goalsL g a y)).getD (x * a.accept.length+q) 0:=by rw [distTo,if_pos hd,Int.toNat_natCast]
 rw [<- he] at h
 constructor
 · intro hf
   rcases h with ⟨h1,-⟩ | ⟨h1,h2,h3⟩
   · omega
   · rw [hf,Int.toNat_natCast] at h2 h3
     exact ⟨h2,h3⟩
 · rintro ⟨h1,h2⟩
   exact h.uniq (.inr ⟨by omega,by rw [Int.toNat_natCast];exact h1,by rw [Int.toNat_natCast];exact h2⟩)
theorem KeepI.step {g:Gr} {a:Au} {y:Nat} (hg:grOk g=true) (ha:auOk a=true) (hy:y < g.vals.length) {f x S K:Nat} (hS:S < 2 ^ a.accept.length) (hK:K < 2 ^ a.accept.length) (h:KeepI g a y (f+1) x S K) {p:Arc} (hp:p ∈ arcsOf g (x:Int)) :
 KeepI g a y f p.2.2.toNat (aft a S (valAt g x) p.2.1.toNat) (keepA g a (distTo g a (y:Int)) f x K p):=by
 have hr:=arc_range (grOk_iff.1 hg) hp
 have hx:p.2.2.toNat < g.vals.length:=by omega
 have far:∀ q,(aft a S (valAt g x) p.2.1.toNat).testBit q=true->∀ m,m < f->¬ hitK g a y m p.2.2.toNat q:=fun q hq m hm hh=>by
  obtain ⟨s,hs,hq⟩:=(aft_any ha hS _ _ _).1 hq
  exact h.far s hs (m+1) (by omega) ((hit_succ ha (test_lt hS hs)).2 ⟨p,hp,q,hq,hh⟩)
 refine ⟨far,fun q=>?_⟩
 rw [keepA,keepK,keepTo_test]
 constructor
 · rintro ⟨h1,h2,h3⟩
   obtain ⟨s,hs,hq⟩:=(aft_any ha hK _ _ _).1 h2
   exact ⟨(aft_any ha hS _ _ _).2 ⟨s,((h.kept s).1 hs).1,hq⟩,((dist_eq hg ha hy hx h1 f).1 h3).1⟩
 · rintro ⟨h1,h2⟩
   have hql:=test_lt (aft_lt ha S (valAt g x) p.2.1.toNat) h1
   obtain ⟨s,hs,hq⟩:=(aft_any ha hS _ _ _).1 h1
   refine ⟨hql,(aft_any ha hK _ _ _).2 ⟨s,(h.kept s).2 ⟨hs,(hit_succ ha (test_lt hS hs)).2 ⟨p,hp,q,hq,h2⟩⟩,hq⟩,(dist_eq hg ha hy hx hql f).2 ⟨h2,far q h1⟩⟩
theorem lw_nth {g:Gr} {a:Au} {y:Nat} (hg:grOk g=true) (ha:auOk a=true) (hy:y < g.vals.length):∀ {f x S K:Nat},S < 2 ^ a.accept.length->K < 2 ^ a.accept.length->KeepI g a y f x S K->0 < cw g a (y:Int) f x S ->
 lwL g a (distTo g a (y:Int)) f x K=nthL g a (y:Int) f x S 0
 | 0,x,S,K,_,_,_,_=>rfl
 | f+1,x,S,K,hS,hK,h,hc=>by
   have hst:=fun p hp=>h.step hg ha hy hS hK (p:=p) hp
   have hfe:(arcsOf g (x:Int)).find? (fun p=>decide (keepA g a (distTo g a (y:Int)) f x K p ≠ 0))=(arcsOf g (x:Int)).find? (fun p=>decide (0 < cwAt g a (y:Int) f x S p)):=by
    refine find_congr fun p hp=>decide_eq_decide.2 ?_
    rw [ne_zero_iff,cwAt,cw_pos ha (aft_lt ha _ _ _)]
    constructor
    · rintro ⟨q,hq⟩;exact ⟨q,((hst p hp).kept q).1 hq⟩
    · rintro ⟨q,hq⟩;exact ⟨q,((hst p hp).kept q).2 hq⟩
   obtain ⟨p,n',e1,e2,e3⟩:=pick_cw hc
   have e0:=e1
   rw [pick_zero] at e0
   cases hf:(arcsOf g (x:Int)).find? (fun p=>decide (0 < cwAt g a (y:Int) f x S p)) with
   | none=>rw [hf] at e0;cases e0
   | some p' =>
     rw [hf] at e0
     injection e0 with e0
     injection e0 with e4 e5
     subst e4 e5
     rw [nthL_succ e1,lwL,hfe,hf]
     have hlt:keepA g a (distTo g a (y:Int)) f x K p' < 2 ^ a.accept.length:=keepTo_lt ..
     exact congrArg _ (lw_nth hg ha hy (aft_lt ha _ _ _) hlt (hst p' e3) e2)
/-- the reference's least witness -/
def lstShort (g:Gr) (a:Au) (x y:Int):Wk × Bool:=if shortLen g a x y < 0 then ((0,[]),false) else ((x,lwL g a (distTo g a y) (shortLen g a x y).toNat x.toNat (bit a.start.toNat)),true)
theorem lst_nth (g:Gr) (a:Au) (x y:Int):lstShort g a x y=nthShort g a x y 0:=by
 unfold lstShort
 by_cases h:shortLen g a x y < 0
 · rw [if_pos h,nthShort,if_neg]
   rw [nthSh,decide_eq_false (by omega)];simp
 · rw [if_neg h]
   obtain ⟨⟨hx0,hx1⟩,⟨hy0,hy1⟩,hg,ha⟩:=cntOk_iff.1 (shortLen_ok (show 0<=shortLen g a x y by omega))
   obtain ⟨x,rfl⟩:=Int.eq_ofNat_of_zero_le hx0
   obtain ⟨y,rfl⟩:=Int.eq_ofNat_of_zero_le hy0
   have hs:a.start.toNat < a.accept.length:=by have:=(auOk_iff.1 ha).2.1;omega
   have hd:=shortLen_dist hg ha (show x < g.vals.length by omega) (show y < g.vals.length by omega)
   obtain ⟨L,hL⟩:=Int.eq_ofNat_of_zero_le (show 0<=shortLen g a (x:Int) (y:Int) by omega)
   rw [hL] at hd
   rcases hd with ⟨h1,-⟩ | ⟨-,h1,h2⟩
   · omega
   rw [Int.toNat_natCast] at h1 h2
   have hb:∀ q,(bit a.start.toNat).testBit q=true->q=a.start.toNat:=fun q hq=>by rw [bit_test,decide_eq_true_eq] at hq;exact hq.symm
   have hI:KeepI g a y L x (bit a.start.toNat) (bit a.start.toNat):=by
    refine ⟨fun q hq m hm=>?_,fun q=>⟨fun hq=>⟨hq,?_⟩,fun hq=>hq.1⟩⟩
    · rw [hb q hq];exact h2 m hm
    · rw [hb q hq];exact h1
   have hc:0 < cw g a (y:Int) L x (bit a.start.toNat):=(cw_pos ha (bit_lt hs)).2 ⟨a.start.toNat,by rw [bit_test];simp,h1⟩
   have hsh:nthSh g a (x:Int) (y:Int) 0=true:=by
    rw [nthSh,decide_eq_true (by omega),Bool.true_and,hL,Int.toNat_natCast,wi_iff]
    have:cwI g a (x:Int) (y:Int) L=cw g a (y:Int) L x (bit a.start.toNat):=rfl
    omega
   rw [nthShort,if_pos hsh,hL,Int.toNat_natCast,Int.toNat_natCast,lw_nth hg ha (by omega) (bit_lt hs) (bit_lt hs) hI hc]
   rfl
/-- add up what is passed over, at most a million -/
def addK {α:Type} (k:α->Nat) (r:Nat) (p:α):Nat:=min 1000000 (r+k p)
def passK {α:Type} (k:α->Nat) (l:List α) (r:Nat):Nat:=l.foldl (addK k) r
/-- what is passed over ahead of step st -/
def overK (k:Arc->Nat) (l:List Arc) (st:St) (r:Nat):Nat:=passK k (l.take (l.findIdx (fun p=>p.1==st))) r
theorem overK_cons_no {k:Arc->Nat} {l:List Arc} {st:St} {r:Nat} {p:Arc} (hp:p.1 ≠ st):overK k (p :: l) st r=overK k l st (addK k r p):=by
 have:(p :: l).findIdx (fun p=>p.1==st)=l.findIdx (fun p=>p.1==st)+1:=by
  rw [List.findIdx_cons,show (p.1==st)=false by simpa using hp];rfl
 rw [overK,this,List.take_succ_cons];rfl
theorem overK_cons_yes {k:Arc->Nat} {l:List Arc} {st:St} {r:Nat} {p:Arc} (hp:p.1=st):overK k (p :: l) st r=r:=by
 have:(p :: l).findIdx (fun p=>p.1==st)=0:=by
  rw [List.findIdx_cons,show (p.1==st)=true by simpa using hp];rfl
 rw [overK,this];rfl
theorem RowR.over {g:Gr} {a:Au} {y:Int} {f x s:Nat} {N:List Key} {C:Nat->Nat} (hC:∀ i k,N[i]?=some k->C i=cw g a y f k.1 k.2) {st:St} {l:List Arc} {T:List (St × Nat)} (h:RowR g a x s N l T)
 (hne:∀ p ∈ l,p.1=st->aft a s (valAt g x) p.2.1.toNat ≠ 0) (hex:∃ p ∈ l,p.1=st):∀ r,r<=1000000 ->
 ∃ j i p,T[j]?=some (st,i)/\(∀ j' q,j' < j->T[j']?=some q->q.1 ≠ st)/\passK (fun e:St × Nat=>C e.2) (T.take j) r=overK (cwAt g a y f x s) l st r/\p ∈ l/\p.1=st/\N[i]?=some (p.2.2.toNat,aft a s (valAt g x) p.2.1.toNat):=by
 induction h with
 | nil=>obtain ⟨p,hp,_⟩:=hex;cases hp
 | @skip p0 l0 T0 h1 _ ih =>
   intro r hr
   have hp0:p0.1 ≠ st:=fun e=>hne p0 (List.mem_cons_self ..) e h1
   obtain ⟨j,i,p,e1,e2,e3,e4,e5,e6⟩:=ih (fun p hp=>hne p (List.mem_cons_of_mem _ hp)) (by
    obtain ⟨p,hp,hps⟩:=hex
    rcases List.mem_cons.1 hp with rfl | hp
    · exact absurd hps hp0
    · exact ⟨p,hp,hps⟩) r hr
   refine ⟨j,i,p,e1,e2,?_,List.mem_cons_of_mem _ e4,e5,e6⟩
   rw [e3,overK_cons_no hp0,addK,cwAt,h1,cw_none,Nat.add_zero,Nat.min_eq_right hr]
 | @take p0 l0 T0 i0 h1 h2 _ ih =>
   intro r hr
   by_cases hp0:p0.1=st
   · refine ⟨0,i0,p0,by rw [<- hp0];rfl,fun j' q hj=>by omega,?_,List.mem_cons_self ..,hp0,h2⟩
     rw [overK_cons_yes hp0];rfl
   · obtain ⟨j,i,p,e1,e2,e3,e4,e5,e6⟩:=ih (fun p hp=>hne p (List.mem_cons_of_mem _ hp)) (by
      obtain ⟨p,hp,hps⟩:=hex
      rcases List.mem_cons.1 hp with rfl | hp
      · exact absurd hps hp0
      · exact ⟨p,hp,hps⟩) (addK (cwAt g a y f x s) r p0) (Nat.min_le_left _ _)
     refine ⟨j+1,i,p,by simpa using e1,fun j' q hj hq=>?_,?_,List.mem_cons_of_mem _ e4,e5,e6⟩
     · cases j' with
       | zero=>simp only [List.getElem?_cons_zero,Option.some.injEq] at hq;rw [<- hq];exact hp0
       | succ j'=>exact e2 j' q (by omega) (by simpa using hq)
     · rw [overK_cons_no hp0,<- e3,List.take_succ_cons]
       show passK _ _ (addK (fun e:St × Nat=>C e.2) r (p0.1,i0))=_
       rw [addK,addK,hC _ _ h2];rfl
end Go.Proofs.YtcnenpjaoalmeaaGreat
namespace Go.Proofs.YtcnenpjaoalmeaaGreat
def cmpSt (a b:St):Int:=if a.1 < b.1 then -1 else if b.1 < a.1 then 1 else if a.2=b.2 then 0 else if b.2=true then -1 else 1
def cmpSts:List St->List St->Int
 | a :: A,b :: B=>if cmpSt a b=0 then cmpSts A B else cmpSt a b
 | _,_=>0
def cmpWk (k j:Wk):Int :=
 if k.2.length < j.2.length then -1 else if j.2.length < k.2.length then 1 else if k.1 < j.1 then -1 else if j.1 < k.1 then 1 else cmpSts k.2 j.2
theorem cmpSt_eq {a b:St}:cmpSt a b=0 ↔ a=b:=by
 obtain ⟨a1,a2⟩:=a
 obtain ⟨b1,b2⟩:=b
 unfold cmpSt
 simp only [Prod.mk.injEq]
 by_cases h1:a1 < b1
 · rw [if_pos h1];constructor
   · intro h;omega
   · rintro ⟨h,-⟩;omega
 · rw [if_neg h1]
   by_cases h2:b1 < a1
   · rw [if_pos h2];constructor
     · intro h;omega
     · rintro ⟨h,-⟩;omega
   · rw [if_neg h2]
     have h3:a1=b1:=by omega
     cases a2 <;> cases b2 <;> simp [h3]
theorem cmpSts_eq:∀ {A B:List St},A.length=B.length->(cmpSts A B=0 ↔ A=B)
 | [],[],_=>by simp [cmpSts]
 | a :: A,b :: B,h=>by
   rw [cmpSts]
   by_cases e:cmpSt a b=0
   · rw [if_pos e,cmpSts_eq (by simpa using h),cmpSt_eq.1 e];simp
   · rw [if_neg e]
     constructor
     · intro h;exact absurd h e
     · intro h
       injection h with h1 h2
       exact absurd (cmpSt_eq.2 h1) e
theorem cmpWk_eq {k j:Wk}:cmpWk k j=0 ↔ k=j:=by
 obtain ⟨x,A⟩:=k
 obtain ⟨y,B⟩:=j
 unfold cmpWk
 simp only [Prod.mk.injEq]
 by_cases h1:A.length < B.length
 · rw [if_pos h1];constructor
   · intro h;omega
   · rintro ⟨-,h⟩;subst h;omega
 · rw [if_neg h1]
   by_cases h2:B.length < A.length
   · rw [if_pos h2];constructor
     · intro h;omega
     · rintro ⟨-,h⟩;subst h;omega
   · rw [if_neg h2]
     by_cases h3:x < y
     · rw [if_pos h3];constructor
       · intro h;omega
       · rintro ⟨h,-⟩;omega
     · rw [if_neg h3]
       by_cases h4:y < x
       · rw [if_pos h4];constructor
         · intro h;omega
         · rintro ⟨h,-⟩;omega
       · rw [if_neg h4,cmpSts_eq (by omega)]
         constructor
         · intro h;exact ⟨by omega,h⟩
         · rintro ⟨-,h⟩;exact h
theorem cmpWk_self (k:Wk):cmpWk k k=0:=cmpWk_eq.2 rfl
theorem cmpSts_drop {A B:List St} {i:Nat} {a b:St} (ha:A[i]?=some a) (hb:B[i]?=some b):cmpSts (A.drop i) (B.drop i)=if cmpSt a b=0 then cmpSts (A.drop (i+1)) (B.drop (i+1)) else cmpSt a b:=by
 obtain ⟨h1,rfl⟩:=List.getElem?_eq_some_iff.1 ha
 obtain ⟨h2,rfl⟩:=List.getElem?_eq_some_iff.1 hb
 rw [List.drop_eq_getElem_cons h1,List.drop_eq_getElem_cons h2,cmpSts]
end Go.Proofs.YtcnenpjaoalmeaaGreat
namespace Go.Proofs.YtcnenpjaoalmeaaGreat
open Go.ChangeShapes Go.WideShapes Go.ChangeAt Go.RowKit
/-- the steps lead from node x with the states s to y, where one of the states accepts -/
def goesL (g:Gr) (a:Au) (y:Int):Nat->Nat->List St->Prop
 | x,s,[]=>(x:Int)=y/\acc a s (valAt g x)=true
 | x,s,st :: L=>∃ p ∈ arcsOf g (x:Int),p.1=st/\goesL g a y p.2.2.toNat (aft a s (valAt g x) p.2.1.toNat) L
theorem nth_goes {g:Gr} {a:Au} {y:Int}:∀ {f x s n:Nat},n < cw g a y f x s->goesL g a y x s (nthL g a y f x s n)
 | 0,x,s,n,h=>by
   rw [cw] at h
   split at h
   · rename_i hc
     rw [Bool.and_eq_true,decide_eq_true_eq] at hc
     exact hc
   · exact absurd h (Nat.not_lt_zero n)
 | f+1,x,s,n,h=>by
   obtain ⟨p,n',e1,e2,e3⟩:=pick_cw h
   rw [nthL_succ e1]
   exact ⟨p,e3,rfl,nth_goes e2⟩
theorem arc_steps {g:Gr} (hgo:grOk g=true) {x:Int} {p:Arc} (hp:p ∈ arcsOf g x):stepFrom g p.1=x/\stepTo g p.1=p.2.2/\stepLetter g p.1=p.2.1:=by
 have hg:=grOk_iff.1 hgo
 obtain ⟨d,hd,hl,hto⟩:=arc_stepEd hgo hp
 refine ⟨?_,by rw [stepTo_of hd,hto],by rw [stepLetter_of hd,hl]⟩
 obtain ⟨e2,he2,hye⟩:=List.mem_flatMap.1 hp
 obtain ⟨i,hi,hie⟩:=List.getElem_of_mem he2
 have hid:=edgeIdx_at hg (show g.edges[i]?=some e2 by rw [<- hie];exact List.getElem?_eq_getElem hi)
 have hdd:d=e2:=by
  obtain ⟨-,hdm,hdi⟩:=stepEd_ok hd
  obtain ⟨k,hk,hke⟩:=List.getElem_of_mem hdm
  have hkd:g.edges[k]?=some d:=by rw [<- hke];exact List.getElem?_eq_getElem hk
  have hk2:=edgeIdx_at hg hkd
  have he1:e2.1=p.1.1:=by rcases mem_arcE.1 hye with ⟨-,rfl⟩ | ⟨-,rfl⟩ <;> rfl
  rw [hdi,<- he1,hid] at hk2
  obtain rfl:i=k:=by omega
  exact hke.symm.trans hie
 subst hdd
 rw [stepFrom_of hd]
 rcases mem_arcE.1 hye with ⟨h1,rfl⟩ | ⟨h1,rfl⟩
 · exact h1
 · exact h1
/-- along a walk that goes: the nodes, the sets and the links -/
theorem goes_at {g:Gr} {a:Au} {y:Int} {k:Wk} (hgo:grOk g=true) (hk:0<=k.1) (h:goesL g a y k.1.toNat (bit a.start.toNat) k.2):∀ i,i<=k.2.length->(∀ j,j < i->linkAt g k j=true)/\(nodesL g k).getD i 0=(nodeAt g k i:Int)/\goesL g a y (nodeAt g k i) (setAt g a k i) (k.2.drop i)
 | 0,_=>by
   have e:nodeAt g k 0=k.1.toNat:=rfl
   refine ⟨fun j hj=>absurd hj (Nat.not_lt_zero j),?_,?_⟩
   · show k.1=((nodeAt g k 0:Nat):Int)
     rw [e];omega
   · rw [e];exact h
 | i+1,hi=>by
   obtain ⟨h1,h2,h3⟩:=goes_at hgo hk h i (by omega)
   have hlt:i < k.2.length:=by omega
   obtain ⟨st,hst⟩:∃ st,k.2[i]?=some st:=⟨_,List.getElem?_eq_getElem hlt⟩
   have hdr:k.2.drop i=st :: k.2.drop (i+1):=by
    rw [List.drop_eq_getElem_cons hlt]
    rw [List.getElem?_eq_getElem hlt] at hst
    injection hst with hst
    rw [hst]
   rw [hdr] at h3
   obtain ⟨p,hp,rfl,h4⟩:=h3
   obtain ⟨e1,e2,e3⟩:=arc_steps hgo hp
   have hr:=arc_range (grOk_iff.1 hgo) hp
   have hn:(nodesL g k)[i+1]?=some p.2.2:=by rw [nodesL_next hst,e2]
   have hnd:(nodesL g k).getD (i+1) 0=p.2.2:=by rw [List.getD_eq_getElem?_getD,hn];rfl
   have hna:nodeAt g k (i+1)=p.2.2.toNat:=by rw [nodeAt,hnd]
   refine ⟨fun j hj=>?_,?_,?_⟩
   · rcases Nat.lt_succ_iff_lt_or_eq.1 hj with hj | rfl
     · exact h1 j hj
     · rw [linkAt,List.getD_eq_getElem?_getD,hst,Option.getD_some,e1,h2];simp
   · rw [hnd,hna];omega
   · have hset:setAt g a k (i+1)=aft a (setAt g a k i) (valAt g (nodeAt g k i)) p.2.1.toNat:=by
      rw [setAt,letAt,List.getD_eq_getElem?_getD,hst,Option.getD_some,e3]
     rw [hna,hset]
     exact h4
theorem goes_wit {g:Gr} {a:Au} {y:Int} {k:Wk} (hgo:grOk g=true) (ha:auOk a=true) (hk:0<=k.1/\k.1 < (g.vals.length:Int)) (hl:k.2.length<=60) (h:goesL g a y k.1.toNat (bit a.start.toNat) k.2):isWit g a k.1 y k=true:=by
 obtain ⟨h1,h2,h3⟩:=goes_at hgo hk.1 h k.2.length (Nat.le_refl _)
 rw [List.drop_length] at h3
 have hw:walkOk g k=true:=by
  simp only [walkOk,Bool.and_eq_true,wi_iff,decide_eq_true_eq,List.all_eq_true,List.mem_range]
  exact ⟨⟨⟨hgo,by omega⟩,hl⟩,h1⟩
 rw [isWit,matchB,walkEnd,if_pos hw,hw,ha]
 simp only [beq_self_eq_true,Bool.true_and,Bool.and_self]
 rw [Bool.and_eq_true]
 exact ⟨by rw [h3.1];simp,h3.2⟩
theorem cmpSt_lt {a b:St}:cmpSt a b < 0 ↔ a.1 < b.1 ∨ (a.1=b.1/\a.2=false/\b.2=true):=by
 obtain ⟨a1,a2⟩:=a
 obtain ⟨b1,b2⟩:=b
 unfold cmpSt
 simp only
 by_cases h1:a1 < b1
 · rw [if_pos h1];simp [h1]
 · rw [if_neg h1]
   by_cases h2:b1 < a1
   · rw [if_pos h2];constructor
     · intro h;omega
     · rintro (h | ⟨h,-⟩) <;> omega
   · rw [if_neg h2]
     have h3:a1=b1:=by omega
     subst h3
     cases a2 <;> cases b2 <;> simp
theorem edges_pair {g:Gr} (hg:GrOk g):g.edges.Pairwise (fun p e=>p.1 < e.1):=by
 rw [List.pairwise_iff_getElem]
 intro i j hi hj hij
 exact ids_lt hg (j - (i+1)) i _ _ (List.getElem?_eq_getElem hi) (by rw [show i+1+(j - (i+1))=j by omega];exact List.getElem?_eq_getElem hj)
theorem arcs_pair {g:Gr} (hg:GrOk g) (x:Int):(arcsOf g x).Pairwise (fun p q=>cmpSt p.1 q.1 < 0):=by
 unfold arcsOf
 have hp:=edges_pair hg
 generalize g.edges=es at hp
 induction es with
 | nil=>exact List.Pairwise.nil
 | cons e es ih =>
   obtain ⟨h1,h2⟩:=List.pairwise_cons.1 hp
   rw [List.flatMap_cons,List.pairwise_append]
   refine ⟨?_,ih h2,fun p hp q hq=>?_⟩
   · unfold arcE
     split <;> split <;> simp [cmpSt_lt]
   · obtain ⟨e2,he2,hq2⟩:=List.mem_flatMap.1 hq
     have:=h1 e2 he2
     rw [cmpSt_lt]
     refine .inl ?_
     rcases mem_arcE.1 hp with ⟨-,rfl⟩ | ⟨-,rfl⟩ <;> rcases mem_arcE.1 hq2 with ⟨-,rfl⟩ | ⟨-,rfl⟩ <;> exact this
theorem pick_lt {k:Arc->Nat}:∀ {l:List Arc} {n m n' m':Nat} {p q:Arc},l.Pairwise (fun p q=>cmpSt p.1 q.1 < 0)->n < m->pick k l n=some (p,n')->pick k l m=some (q,m')->(p=q/\n' < m') ∨ cmpSt p.1 q.1 < 0
 | [],n,m,n',m',p,q,_,_,h,_=>by cases h
 | u :: l,n,m,n',m',p,q,hl,hnm,h1,h2=>by
   obtain ⟨hl1,hl2⟩:=List.pairwise_cons.1 hl
   rw [pick] at h1 h2
   by_cases hn:n < k u
   · rw [if_pos hn] at h1
     injection h1 with h1
     injection h1 with e1 e2
     subst e1 e2
     by_cases hm:m < k u
     · rw [if_pos hm] at h2
       injection h2 with h2
       injection h2 with e1 e2
       exact .inl ⟨e1,by omega⟩
     · rw [if_neg hm] at h2
       exact .inr (hl1 q (pick_some h2).1)
   · rw [if_neg hn] at h1
     rw [if_neg (by omega)] at h2
     exact pick_lt hl2 (by omega) h1 h2
theorem nth_lt {g:Gr} (hg:GrOk g) {a:Au} {y:Int}:∀ {f x s n m:Nat},n < m->m < cw g a y f x s->cmpSts (nthL g a y f x s n) (nthL g a y f x s m) < 0
 | 0,x,s,n,m,h,hm=>by
   rw [cw] at hm
   split at hm <;> omega
 | f+1,x,s,n,m,h,hm=>by
   obtain ⟨p,n',e1,e2,e3⟩:=pick_cw (show n < cw g a y (f+1) x s by omega)
   obtain ⟨q,m',d1,d2,d3⟩:=pick_cw hm
   rw [nthL_succ e1,nthL_succ d1,cmpSts]
   rcases pick_lt (arcs_pair hg _) h e1 d1 with ⟨rfl,hlt⟩ | hlt
   · rw [if_pos (cmpSt_eq.2 rfl)]
     exact nth_lt hg hlt d2
   · rw [if_neg (by omega)]
     exact hlt
theorem nthI_wit {g:Gr} {a:Au} {x y:Int} {f n:Nat} (hx:0<=x/\x < (g.vals.length:Int)) (hg:grOk g=true) (ha:auOk a=true) (hf:f<=60) (hn:n < cwI g a x y f):isWit g a x y (x,nthI g a x y f n)=true:=by
 have hl:(nthI g a x y f n).length=f:=nthL_len hn
 exact goes_wit (k:=(x,nthI g a x y f n)) hg ha hx (by show (nthI g a x y f n).length<=60;omega) (nth_goes hn)
theorem cwI_hit {g:Gr} {a:Au} {x y:Int} (h:cntOk g a x y=true) (f:Nat):0 < cwI g a x y f ↔ toG (nextI g a) (fun i=>i ∈ goalsL g a y.toNat) f (x.toNat * a.accept.length+a.start.toNat):=by
 obtain ⟨⟨hx0,hx1⟩,⟨hy0,hy1⟩,hg,ha⟩:=cntOk_iff.1 h
 have hst:=(auOk_iff.1 ha).2.1
 obtain ⟨y,rfl⟩:=Int.eq_ofNat_of_zero_le hy0
 rw [cwI,cw_pos ha (bit_lt (by omega)),Int.toNat_natCast]
 constructor
 · rintro ⟨q,hq,hh⟩
   rw [bit_test,decide_eq_true_eq] at hq
   subst hq
   exact hh
 · intro hh
   exact ⟨a.start.toNat,by rw [bit_test];simp,hh⟩
theorem short_dist {g:Gr} {a:Au} {x y:Int} (h:cntOk g a x y=true):IsDist (nextI g a) (fun i=>i ∈ goalsL g a y.toNat) (x.toNat * a.accept.length+a.start.toNat) (shortLen g a x y):=by
 obtain ⟨⟨hx0,hx1⟩,⟨hy0,hy1⟩,hg,ha⟩:=cntOk_iff.1 h
 have hd:=shortLen_dist hg ha (show x.toNat < g.vals.length by omega) (show y.toNat < g.vals.length by omega)
 rwa [Int.toNat_of_nonneg hx0,Int.toNat_of_nonneg hy0] at hd
theorem cwI_below {g:Gr} {a:Au} {x y:Int} {f:Nat} (h:cntOk g a x y=true) (hf:shortLen g a x y < 0 ∨ (f:Int) < shortLen g a x y):cwI g a x y f=0:=by
 rcases Nat.eq_zero_or_pos (cwI g a x y f) with h0 | h0
 · exact h0
 · have h0:=(cwI_hit h f).1 h0
   rcases short_dist h with ⟨-,hd⟩ | ⟨d0,-,d2⟩
   · exact absurd h0 (hd _)
   · exact absurd h0 (d2 f (by omega))
theorem cwI_short {g:Gr} {a:Au} {x y:Int} (h:0<=shortLen g a x y):0 < cwI g a x y (shortLen g a x y).toNat:=by
 have hc:=shortLen_ok h
 rw [cwI_hit hc]
 rcases short_dist hc with ⟨hd,-⟩ | ⟨-,d1,-⟩
 · omega
 · exact d1
theorem nthSh_zero {g:Gr} {a:Au} {x y:Int}:nthSh g a x y 0=decide (0<=shortLen g a x y):=by
 rw [nthSh]
 by_cases h:0<=shortLen g a x y
 · have:=cwI_short h
   rw [decide_eq_true h,Bool.true_and,wi_iff]
   omega
 · rw [decide_eq_false h];rfl
theorem pick_prev {k:Nat->Nat}:∀ {l:List Nat} {n f n':Nat},l.Pairwise (· < ·)->pick k l (n+1)=some (f,n')->∃ f0 n0,pick k l n=some (f0,n0)/\((f0=f/\n0+1=n') ∨ f0 < f)
 | [],n,f,n',_,h=>by cases h
 | u :: l,n,f,n',hl,h=>by
   obtain ⟨hl1,hl2⟩:=List.pairwise_cons.1 hl
   rw [pick] at h
   by_cases h1:n+1 < k u
   · rw [if_pos h1] at h
     injection h with h
     injection h with e1 e2
     exact ⟨u,n,by rw [pick,if_pos (by omega)],.inl ⟨e1,e2⟩⟩
   · rw [if_neg h1] at h
     by_cases h2:n < k u
     · exact ⟨u,n,by rw [pick,if_pos h2],.inr (hl1 f (pick_some h).1)⟩
     · rw [show n+1 - k u=(n - k u)+1 by omega] at h
       obtain ⟨f0,n0,e1,e2⟩:=pick_prev hl2 h
       exact ⟨f0,n0,by rw [pick,if_neg h2,e1],e2⟩
theorem pick_first {k:Nat->Nat}:∀ {l:List Nat} {i:Nat},l.Pairwise (· < ·)->(∀ j ∈ l,j < i->k j=0)->0 < k i->i ∈ l->pick k l 0=some (i,0)
 | [],i,_,_,_,hi=>by cases hi
 | u :: l,i,hl,h0,h1,hi=>by
   obtain ⟨hl1,hl2⟩:=List.pairwise_cons.1 hl
   rcases List.mem_cons.1 hi with rfl | hi
   · rw [pick,if_pos h1]
   · have hz:=h0 u (List.mem_cons_self ..) (hl1 i hi)
     rw [pick,if_neg (by omega),Nat.zero_sub]
     exact pick_first hl2 (fun j hj=>h0 j (List.mem_cons_of_mem _ hj)) h1 hi
theorem walk_parts2 {g:Gr} {a:Au} {x y n:Int} {w:Wk} (h:nthWalk g a x y n=(w,true)):0<=shortLen g a x y/\(0<=n/\n<=999999)/\∃ f n',pick (cwI g a x y) (List.range 61) n.toNat=some (f,n')/\w=(x,nthI g a x y f n')/\f<=60/\n' < cwI g a x y f/\w.2.length=f:=by
 unfold nthWalk at h
 split at h
 · rename_i hc
   rw [Bool.and_eq_true,decide_eq_true_eq,wi_iff] at hc
   unfold nthWalkP at h
   split at h
   · injection h with h1 h2;cases h2
   · rename_i f n' hp
     injection h with h1 h2
     obtain ⟨e1,e2⟩:=pick_some hp
     rw [List.mem_range] at e1
     exact ⟨hc.1,hc.2,f,n',hp,h1.symm,by omega,e2,by rw [<- h1];exact nthL_len e2⟩
 · injection h with h1 h2;cases h2
theorem nthWalk_none {g:Gr} {a:Au} {x y n:Int} (h:(nthWalk g a x y n).2=false):(nthWalk g a x y n).1.2=[]:=by
 unfold nthWalk at h ⊢
 split
 · rename_i hc
   rw [if_pos hc] at h
   unfold nthWalkP at h ⊢
   split
   · rfl
   · rename_i f n' hp
     rw [hp] at h
     cases h
 · rfl
theorem nthWalk_wit {g:Gr} {a:Au} {x y n:Int} {w:Wk} (h:nthWalk g a x y n=(w,true)):isWit g a x y w=true/\0 < cntWalks g a x y (w.2.length:Int):=by
 obtain ⟨h0,-,f,n',-,rfl,hf,hn,hl⟩:=walk_parts2 h
 have hc:=shortLen_ok h0
 obtain ⟨hx,-,hg,ha⟩:=cntOk_iff.1 hc
 refine ⟨nthI_wit hx hg ha hf hn,?_⟩
 rw [hl,cntWalks,if_pos (by rw [Bool.and_eq_true,wi_iff];exact ⟨hc,by omega⟩),Int.toNat_natCast]
 omega
theorem nthWalk_prev {g:Gr} {a:Au} {x y n:Int} {w:Wk} (h:nthWalk g a x y n=(w,true)) (hn:0 < n):∃ u,nthWalk g a x y (n - 1)=(u,true)/\cmpWk u w < 0:=by
 obtain ⟨h0,hr,f,n',hp,rfl,hf,hlt,hl⟩:=walk_parts2 h
 have hc:=shortLen_ok h0
 obtain ⟨hx,-,hg,ha⟩:=cntOk_iff.1 hc
 rw [show n.toNat=(n - 1).toNat+1 by omega] at hp
 obtain ⟨f0,n0,e1,e2⟩:=pick_prev (List.pairwise_lt_range) hp
 have e3:=pick_some e1
 have hl0:(nthI g a x y f0 n0).length=f0:=nthL_len e3.2
 have hlf:(nthI g a x y f n').length=f:=hl
 refine ⟨(x,nthI g a x y f0 n0),?_,?_⟩
 · rw [nthWalk,if_pos (by rw [Bool.and_eq_true,decide_eq_true_eq,wi_iff];exact ⟨h0,by omega⟩),nthWalkP]
   simp only [e1]
 · rw [cmpWk]
   simp only
   rcases e2 with ⟨rfl,rfl⟩ | hlt2
   · rw [if_neg (by omega),if_neg (by omega),if_neg (by omega),if_neg (by omega)]
     exact nth_lt (grOk_iff.1 hg) (by omega) hlt
   · rw [if_pos (by omega)];omega
theorem nthWalk_zero {g:Gr} {a:Au} {x y:Int} (h0:0<=shortLen g a x y):nthWalk g a x y 0=lstShort g a x y:=by
 have hc:=shortLen_ok h0
 have hlt:=shortLen_lt g a x y
 have hp:pick (cwI g a x y) (List.range 61) 0=some ((shortLen g a x y).toNat,0):=pick_first List.pairwise_lt_range (fun j _ hj=>cwI_below hc (.inr (by omega))) (cwI_short h0) (List.mem_range.2 (by omega))
 rw [lst_nth,nthShort,if_pos (by rw [nthSh_zero,decide_eq_true h0]),nthWalk,if_pos (by rw [Bool.and_eq_true,decide_eq_true_eq,wi_iff];exact ⟨h0,by omega⟩),nthWalkP]
 simp only [Int.toNat_zero,hp]
end Go.Proofs.YtcnenpjaoalmeaaGreat
namespace Go.Proofs.YtcnenpjaoalmeaaGreat
open Go.ChangeShapes Go.WideShapes Go.ChangeAt Go.RowKit Go.Maps
theorem key3 {P:Program} {k:TypeId} {f0 f1 f2:Field} (hu:P.underlying k=some (.struct #[f0,f1,f2])) (h1:P.keyType k=true) (hc:P.cellsOf k=3) (h0:P.underlying f0.type=some (.int .i64)) (h0':P.underlying f1.type=some (.int .i64)) (h0'':P.underlying f2.type=some (.int .i64))
 (c0 : P.cellsOf f0.type = 1) (c1 : P.cellsOf f1.type = 1) (c2 : P.cellsOf f2.type = 1) (o0 : f0.offset = 0) (o1 : f1.offset = 1) (o2 : f2.offset = 2) (n0 : (f0.name != "_") = true) (n1 : (f1.name != "_") = true) (n2 : (f2.name != "_") = true) {n : Nat} (hn : P.types.size = n + 1)
 (x s f:Int) (hx:(Lit.int .i64 x).wf=true) (hs:(Lit.int .i64 s).wf=true) (hf:(Lit.int .i64 f).wf=true):keyOf P k (.agg #[.int .i64 x,.int .i64 s,.int .i64 f])=some (.string (keyBytes [.int .i64 x,.int .i64 s,.int .i64 f])):=by
 have h4:(Value.agg #[.int .i64 x,.int .i64 s,.int .i64 f]).formed P k=true:=by simp [Value.formed,hu,hc]
 simp only [bne_iff_ne,ne_eq] at n0 n1 n2
 simp [keyOf,hu,h1,h4,hn,Program.keyLits,hc,h0,h0',h0'',c0,c1,c2,o0,o1,o2,n0,n1,n2,hx,hs,hf,Value.cells]
theorem laidOutK:laidOutB Tryz.prog=true:=by kernel_rfl
theorem widePlace:(match Tryz.prog.underlying 62 with | some (.array _ _) | some (.struct _)=>true | _=>false)=true:=by rw [Tryz.underlying62]
theorem rowPlace:decide (62 < Tryz.prog.types.size)=true:=by kernel_rfl
theorem typePlace:Tryz.prog.keyTypeAt 5 62=true:=by kernel_rfl
set_option maxRecDepth 100000 in
theorem keyedPlace:Keyed Tryz.prog 62:=Keyed.of_law (deep_law_laid laidOutK (m:=5) (by decide) (of_decide_eq_true rowPlace) typePlace widePlace)
theorem sizeK:∃ n,Tryz.prog.types.size=n+1:=⟨Tryz.prog.types.size - 1,by have h:0 < Tryz.prog.types.size:=of_decide_eq_true (by kernel_rfl);omega⟩
def plKey (x s f:Int):Lit:=.string (keyBytes [.int .i64 x,.int .i64 s,.int .i64 f])
theorem keyTPlace:Tryz.prog.keyType 62=true:=by kernel_rfl
theorem cellsPlace:Tryz.prog.cellsOf 62=3:=by kernel_rfl
theorem cellsIntK:Tryz.prog.cellsOf 3=1:=by kernel_rfl
theorem keyPlace (x s f:Int) (hx:(Lit.int .i64 x).wf=true) (hs:(Lit.int .i64 s).wf=true) (hf:(Lit.int .i64 f).wf=true):keyOf Tryz.prog 62 (.agg #[.int .i64 x,.int .i64 s,.int .i64 f])=some (plKey x s f):=by
 obtain ⟨n,hn⟩:=sizeK
 exact key3 Tryz.underlying62 keyTPlace cellsPlace Tryz.underlying3 Tryz.underlying3 Tryz.underlying3 cellsIntK cellsIntK cellsIntK rfl rfl rfl (by decide) (by decide) (by decide) hn x s f hx hs hf
theorem plKey_inj {x s f x' s' f':Int} (hx:(Lit.int .i64 x).wf=true) (hs:(Lit.int .i64 s).wf=true) (hf:(Lit.int .i64 f).wf=true) (hx':(Lit.int .i64 x').wf=true) (hs':(Lit.int .i64 s').wf=true) (hf':(Lit.int .i64 f').wf=true) (h:plKey x s f=plKey x' s' f'):x=x'/\s=s'/\f=f':=by
 have h1:=keyPlace x s f hx hs hf
 have h2:=keyPlace x' s' f' hx' hs' hf'
 rw [<- h] at h2
 have h3:=keyedPlace.inj h1 h2
 injection h3 with h3
 simpa using h3
theorem wf_nat {x:Nat} (h:x<=9223372036854775807):(Lit.int .i64 (x:Int)).wf=true:=by
 have e1:IntKind.i64.min=-9223372036854775808:=by decide
 have e2:IntKind.i64.max=9223372036854775807:=by decide
 simp [Lit.wf,IntKind.wrap] <;> omega
abbrev Plc:=Nat × Nat × Nat
def plcOk (z:Plc):Prop:=z.1 < 5/\z.2.1 < 4096/\z.2.2<=60
structure MemD {H:Type} (g:Gr) (a:Au) (y:Int) (D:DataW H) (M:List Plc):Prop where
 map:IsMap D
 nod:M.Nodup
 rng:∀ z ∈ M,plcOk z
 has:∀ z:Plc,plcOk z->Maps.has D (plKey z.1 z.2.1 z.2.2)=decide (z ∈ M)
 val:∀ z ∈ M,D.atKey (plKey z.1 z.2.1 z.2.2) (.lit (.int .i64 0))=.lit (.int .i64 (cw g a y z.2.2 z.1 z.2.1:Nat))
theorem plKey_nat {z z':Plc} (h:plcOk z) (h':plcOk z') (e:plKey z.1 z.2.1 z.2.2=plKey z'.1 z'.2.1 z'.2.2):z=z':=by
 obtain ⟨x,s,f⟩:=z
 obtain ⟨x',s',f'⟩:=z'
 unfold plcOk at h h'
 simp only at h h' e
 obtain ⟨h1,h2,h3⟩:=plKey_inj (wf_nat (by omega)) (wf_nat (by omega)) (wf_nat (by omega)) (wf_nat (by omega)) (wf_nat (by omega)) (wf_nat (by omega)) e
 simp only [Prod.mk.injEq]
 omega
theorem MemD.empty {H:Type} (g:Gr) (a:Au) (y:Int):MemD g a y (.map []:DataW H) [] :=
 ⟨isMap_empty,List.nodup_nil,(fun z hz=>by cases hz),(fun z _=>by simp [Maps.has_eq]),(fun z hz=>by cases hz)⟩
theorem MemD.put {H:Type} {g:Gr} {a:Au} {y:Int} {D:DataW H} {M:List Plc} (h:MemD g a y D M) {z:Plc} (hz:plcOk z) (hn:z ∉ M) :
 MemD g a y (D.put (plKey z.1 z.2.1 z.2.2) (.lit (.int .i64 (cw g a y z.2.2 z.1 z.2.1:Nat)))) (M ++ [z]):=by
 refine ⟨h.map.put _ _,List.nodup_append.2 ⟨h.nod,by simp,fun b hb c hc e=>?_⟩,fun u hu=>?_,fun u hu=>?_,fun u hu=>?_⟩
 · rw [List.mem_singleton] at hc
   subst hc e
   exact hn hb
 · rcases List.mem_append.1 hu with hu | hu
   · exact h.rng u hu
   · rw [List.mem_singleton] at hu
     subst hu
     exact hz
 · by_cases e:u=z
   · subst e
     rw [Maps.has_put_same h.map (show WideAt.IsKeyLit (plKey u.1 u.2.1 u.2.2) from trivial)]
     simp
   · rw [Maps.has_put_other (fun e2=>e (plKey_nat hu hz e2)),h.has u hu,decide_eq_decide,List.mem_append,List.mem_singleton]
     exact ⟨.inl,fun h=>h.resolve_right e⟩
 · by_cases e:u=z
   · subst e
     rw [atKey_put_same h.map (show WideAt.IsKeyLit (plKey u.1 u.2.1 u.2.2) from trivial)]
   · have hu2:u ∈ M:=by
      rcases List.mem_append.1 hu with hu | hu
      · exact hu
      · rw [List.mem_singleton] at hu;exact absurd hu e
     rw [atKey_put_other (fun e2=>e (plKey_nat (h.rng u hu2) hz e2))]
     exact h.val u hu2
theorem MemD.len {H:Type} {g:Gr} {a:Au} {y:Int} {D:DataW H} {M:List Plc} (h:MemD g a y D M):M.length<=1249280:=by
 have h1:=nodup_subN (M.map fun z=>(z.1 * 4096+z.2.1) * 61+z.2.2) (List.range 1249280) ?_ ?_
 · simpa using h1
 · rw [List.Nodup,List.pairwise_map]
   refine List.Pairwise.imp_of_mem ?_ h.nod
   intro b c hb hc hne he
   refine hne ?_
   have hb:=h.rng b hb
   have hc:=h.rng c hc
   unfold plcOk at hb hc
   exact Prod.ext (by omega) (Prod.ext (by omega) (by omega))
 · intro u hu
   obtain ⟨z,hz,rfl⟩:=List.mem_map.1 hu
   have hz:=h.rng z hz
   unfold plcOk at hz
   rw [List.mem_range]
   omega
end Go.Proofs.YtcnenpjaoalmeaaGreat
namespace Go.Proofs.YtcnenpjaoalmeaaGreat
open Go.ChangeShapes Go.WideShapes Go.ChangeAt Go.RowKit Go.Maps
attribute [local go_sem] ext_cell ext_frozen ext_lt ext_lt1 ext_lt2 ext_lt3 ltn2 ltn3 ltn13 lts1 lts2 lts3
theorem ownsMap_at {H:Type} {P:Program} {k:TypeId} {R:Value->Option (DataW H × List MemPlace)} {w w':World} {b n:Nat} {D:DataW H} (h:w.ownsMap P k R b n D) (hb:w'.heap[b]?=w.heap[b]?):w'.ownsMap P k R b n D:=by
 obtain ⟨es,clock,h1,h2⟩:=h
 exact ⟨es,clock,hb.trans h1,h2⟩
/-- 'm[k] = v', at the operation -/
theorem op_mapUpdate_own {H:Type} {P:Program} (w:World) {o:Oper} {a:Act} {K:Act->World->Prop} {Q:Exit->Act->World->Prop}
 (m x v:Operand) (t:TypeId) (hop:o.op=Op.mapUpdate t m x v)
 (k e:TypeId) (KK:Keyed P k) (ht:P.underlying t=some (.map k e)) (R:Value->Option (DataW H × List MemPlace)) (b n:Nat) (D:DataW H)
 (hm:a.eval m=.map (some b)) (hown:w.ownsMap P k R b n D) (hn:n < maxLen) (key val:Value) (kl:Lit) (hx:a.eval x=key) (hv:a.eval v=val) (hkey:keyOf P k key=some kl)
 (d:DataW H) (ps:List MemPlace) (hval:R val=some (d,ps))
 (hK:∀ w',w'.ownsMap P k R b (n+1) (D.put kl d)->w.grownBy w' (some b)->K (a.put o.dst undef) w'):Oper.wp P o a w K Q:=by
 obtain ⟨w',hrun,r1,r2⟩:=hown.update KK ht hn hkey hval
 unfold Oper.wp
 simp [execOp,hop,hm,hx,hv,hrun,Result.andThen]
 exact hK w' r1 r2
/-- the counter in block bC; its memory is the map in block bM -/
def Ctr (g:Gr) (a:Au) (y:Int) (w:World) (bC bM:Nat):Prop :=
 ∃ (B lo hi:Nat) (A1 A2 A3 A4 A5:Option Addr) (c1 c2 c3 c4 c5:Nat),
   Blk w bC 87 #[.slice A1 g.vals.length c1,.slice A2 g.edges.length c2,.int .i64 a.start,.slice A3 a.accept.length c3,.slice A4 a.accept.length c4,.int .i64 y,.slice A5 g.vals.length c5,.map (some bM)] /\
   GrV 0 B w (.agg #[.slice A1 g.vals.length c1,.slice A2 g.edges.length c2]) g/\AuV 0 B w (.agg #[.int .i64 a.start,.slice A3 a.accept.length c3,.slice A4 a.accept.length c4]) a /\
   SSE lo hi w cA 4 (.slice A5 g.vals.length c5) ((List.range g.vals.length).map fun (x:Nat)=>arcsOf g (x:Int))/\B<=bM/\(hi<=bM ∨ bM < lo)/\hi<=w.heap.size/\B<=w.heap.size/\bC ≠ bM
theorem Ctr.only {g:Gr} {a:Au} {y:Int} {w w':World} {bC bM:Nat} (h:Ctr g a y w bC bM) (ho:Only bM (bM+1) w w'):Ctr g a y w' bC bM:=by
 obtain ⟨B,lo,hi,A1,A2,A3,A4,A5,c1,c2,c3,c4,c5,h1,h2,h3,h4,h5,h6,h7,h8,h9⟩:=h
 have hs:=ho.size
 exact ⟨B,lo,hi,A1,A2,A3,A4,A5,c1,c2,c3,c4,c5,h1.only ho (by omega),h2.only ho h8 (.inl h5),h3.only ho h8 (.inl h5),h4.only ho h7 (by omega),h5,h6,by omega,by omega,h9⟩
theorem Ctr.keep {g:Gr} {a:Au} {y:Int} {w w':World} {bC bM:Nat} (h:Ctr g a y w bC bM) (hb:Below w.heap.size w w'):Ctr g a y w' bC bM:=h.only (Only.of_below hb _ _)
theorem Ctr.lt {g:Gr} {a:Au} {y:Int} {w:World} {bC bM:Nat} (h:Ctr g a y w bC bM):bC < w.heap.size:=by
 obtain ⟨B,lo,hi,A1,A2,A3,A4,A5,c1,c2,c3,c4,c5,h1,-⟩:=h
 exact h1.lt
theorem valOf {g:Gr} (hgo:grOk g=true) {x:Nat} (hx:x < g.vals.length):∃ vx:Nat,g.vals[x]?=some (vx:Int)/\valAt g x=vx/\vx<=2:=by
 have hxi:g.vals[x]?=some g.vals[x]:=List.getElem?_eq_getElem hx
 have hvr:=(grOk_iff.1 hgo).vals _ (List.getElem_mem hx)
 obtain ⟨vx,hvx⟩:=Int.eq_ofNat_of_zero_le hvr.1
 refine ⟨vx,by rw [hxi,hvx],?_,by omega⟩
 have:=valAt_of hxi
 rw [this,hvx,Int.toNat_natCast]
/-- the memory, and what the counter's calls do to it: places of at most f steps come in -/
def Mem (g:Gr) (a:Au) (y:Int) (w:World) (bM:Nat) (M:List Plc):Prop:=∃ D:DataW Unit,w.ownsMap Tryz.prog 62 (plainElem Tryz.prog 3) bM M.length D/\MemD g a y D M
theorem Mem.keep {g:Gr} {a:Au} {y:Int} {w w':World} {bM:Nat} {M:List Plc} (h:Mem g a y w bM M) (hb:Below w.heap.size w w'):Mem g a y w' bM M:=by
 obtain ⟨D,h1,h2⟩:=h
 exact ⟨D,ownsMap_at h1 (hb.block _ h1.lt),h2⟩
def More (f:Nat) (M M':List Plc):Prop:=∃ T,M'=M ++ T/\∀ z ∈ T,z.2.2<=f
theorem More.refl (f:Nat) (M:List Plc):More f M M:=⟨[],by simp,fun z hz=>by cases hz⟩
theorem More.trans {f:Nat} {M M' M'':List Plc} (h:More f M M') (h':More f M' M''):More f M M'':=by
 obtain ⟨T,rfl,h1⟩:=h
 obtain ⟨T',rfl,h2⟩:=h'
 exact ⟨T ++ T',by rw [List.append_assoc],fun z hz=>by rcases List.mem_append.1 hz with h | h;exact h1 z h;exact h2 z h⟩
theorem More.mono {f f':Nat} {M M':List Plc} (h:More f M M') (hf:f<=f'):More f' M M':=by
 obtain ⟨T,h1,h2⟩:=h
 exact ⟨T,h1,fun z hz=>Nat.le_trans (h2 z hz) hf⟩
set_option maxHeartbeats 2000000 in
set_option maxRecDepth 100000 in
theorem next_any (g:Gr) (a:Au) (y:Int) (hgo:grOk g=true) (ha:auOk a=true) (bC bM x s lf l:Nat) (t:Int) (sid:Int) (sinv:Bool) (w:World) (hc:Ctr g a y w bC bM) (hx:x < g.vals.length) (hs:s < 2 ^ a.accept.length) (hlf:lf<=60) (hl:l < 9) :
 Calls Tryz.prog 53 #[.pointer (some ⟨bC,0,none⟩),.agg #[.int .i64 (x:Int),.int .i64 (s:Int),.int .i64 ((lf+1:Nat):Int)],.agg #[.int .i64 sid,.bool sinv,.int .i64 (l:Int),.int .i64 t]] w fun e w' =>
  e=.returned (.agg #[.int .i64 t,.int .i64 (aft a s (valAt g x) l:Nat),.int .i64 (lf:Int)])/\Below w.heap.size w w':=by
 obtain ⟨B,lo,hi,A1,A2,A3,A4,A5,c1,c2,c3,c4,c5,hbk,hgv,hav,hlv,h5,h6,h7,h8,h9⟩:=hc
 obtain ⟨vx,hxi,hva,hvx⟩:=valOf hgo hx
 obtain ⟨vs,es,hag,h1,-⟩:=hgv
 injection hag with hag
 simp at hag
 obtain ⟨rfl,rfl⟩:=hag
 obtain ⟨b1,o1,rfl,-,hb1,dv⟩:=h1.intI hxi
 have hs4:=lt12 ha hs
 rw [hva]
 have z0:w.cell? ⟨bC,0,none⟩=some (.slice (some ⟨b1,o1,none⟩) g.vals.length c1):=hbk.cell 0
 have z2:w.cell? ⟨bC,2,none⟩=some (.int .i64 a.start):=hbk.cell 2
 have z3:w.cell? ⟨bC,3,none⟩=some (.slice A3 a.accept.length c3):=hbk.cell 3
 have z4:w.cell? ⟨bC,4,none⟩=some (.slice A4 a.accept.length c4):=hbk.cell 4
 have lC:=hbk.lt
 have hb1w:b1 < w.heap.size:=by omega
 have hxx:(x:Int) < (g.vals.length:Int):=by omega
 have HAF:=Hd_ (fun (W:World) (hW:Below w.heap.size w W)=>after_any _ a s vx l W ((hav.mono (Nat.le_refl _) h8).keep hW) ha hs hvx hl)
 obtain ⟨M,hM⟩:∃ M,M=aft a s vx l:=⟨_,rfl⟩
 rw [<- hM] at HAF ⊢
 obtain ⟨L1,hL1⟩:∃ L1,L1=lf+1:=⟨_,rfl⟩
 rw [<- hL1]
 have hL1a:lf+1<=L1:=by omega
 have hL1b:L1<=lf+1:=by omega
 have ql:IntKind.i64.wrap ((L1:Int) - 1)=(lf:Int):=by rw [IntWalk.i64_in _ (by omega)];omega
 clear hbk hav hlv h1 hxi hva hM hL1 hgo ha
 have lts:∀ b,b < w.heap.size->b < w.heap.size+1+1+1:=fun b h=>by omega
 have lC1:bC < w.heap.size+1:=by omega
 have lC2:bC < w.heap.size+1+1:=by omega
 have lC3:bC < w.heap.size+1+1+1:=by omega
 have lb1:b1 < w.heap.size+1:=by omega
 have lb2:b1 < w.heap.size+1+1:=by omega
 have lb3:b1 < w.heap.size+1+1+1:=by omega
 clear lts
 go_enter Tryz.func53,Tryz.ntmps53
 go_wp2_with fail
 refine wp_region_ext_tail 24 (by kernel_rfl) (by kernel_rfl) ?_
 simp only [List.take_succ_cons,List.take_zero]
 repeat (go_big_quiet_step ((go_at_call 83;exact Calls.ext_of (HAF.out _ (by repeat (first | exact Below.refl _ _ | assumption | refine Below.alloc ?_ (by simp <;> omega) _ | refine Below.drew ?_ | refine below_ext ?_ (by simp <;> omega) _ | exact ext_below _ _))))))
 refine wpQuiet_nil ?_
 rintro _ ⟨u2,rfl⟩
 simp only [List.drop_succ_cons,List.drop_zero]
 go_wp2_with fail
 refine bodyPost_ret (v:=.agg #[.int .i64 t,.int .i64 (M:Int),.int .i64 (lf:Int)]) (by simp [results,Tryz.results53,go_sem]) rfl ⟨rfl,?_⟩
 repeat (first | exact Below.refl _ _ | refine Below.setCell ?_ (by simp <;> omega) _ | refine Below.alloc ?_ (by simp <;> omega) _ | refine below_ext ?_ (by simp <;> omega) _)
theorem cw_zeroS (g:Gr) (a:Au) (y:Int) (x s vx:Nat) (h:valAt g x=vx):cw g a y 0 x s=if (decide ((x:Int)=y) && acc a s vx)=true then 1 else 0:=by rw [cw,h]
/-- what a call leaves -/
def Left (g:Gr) (a:Au) (y:Int) (f:Nat) (M:List Plc) (bM:Nat) (w w':World):Prop:=Only bM (bM+1) w w'/\∃ M',Mem g a y w' bM M'/\More f M M'
theorem Left.of_below {g:Gr} {a:Au} {y:Int} {f:Nat} {M:List Plc} {bM:Nat} {w w':World} (hm:Mem g a y w bM M) (hb:Below w.heap.size w w'):Left g a y f M bM w w' :=
 ⟨Only.of_below hb _ _,M,hm.keep hb,More.refl _ _⟩
theorem Mem.bound {g:Gr} {a:Au} {y:Int} {w:World} {bM:Nat} {M:List Plc} (h:Mem g a y w bM M):M.length < maxLen:=by
 obtain ⟨D,_,h2⟩:=h
 have:=h2.len
 unfold maxLen;omega
theorem Mem.lt {g:Gr} {a:Au} {y:Int} {w:World} {bM:Nat} {M:List Plc} (h:Mem g a y w bM M):bM < w.heap.size:=by
 obtain ⟨D,h1,_⟩:=h
 exact h1.lt
theorem keyOfPlc {z:Plc} (hz:plcOk z):keyOf Tryz.prog 62 (.agg #[.int .i64 (z.1:Int),.int .i64 (z.2.1:Int),.int .i64 (z.2.2:Int)])=some (plKey z.1 z.2.1 z.2.2):=by
 unfold plcOk at hz
 exact keyPlace _ _ _ (wf_nat (by omega)) (wf_nat (by omega)) (wf_nat (by omega))
theorem litI_inj {H:Type} {a b:Int} (h:(DataW.lit (.int .i64 a):DataW H)=.lit (.int .i64 b)):a=b:=by
 injection h with h
 injection h
/-- the look-up, at each world that keeps the memory -/
theorem Mem.look {g:Gr} {a:Au} {y:Int} {w:World} {bM:Nat} {M:List Plc} (h:Mem g a y w bM M) {z:Plc} (hz:plcOk z) :
 (Instr.lookup 85 (.map (some bM)) (.agg #[.int .i64 (z.1:Int),.int .i64 (z.2.1:Int),.int .i64 (z.2.2:Int)]) true).run Tryz.prog w =
  .ok (.tuple #[.int .i64 (if z ∈ M then (cw g a y z.2.2 z.1 z.2.1:Int) else 0),.bool (decide (z ∈ M))]) w:=by
 obtain ⟨D,h1,h2⟩:=h
 obtain ⟨v,ps,hrun,hv⟩:=h1.look_ok keyedPlace Tryz.underlying85 (Tryz.zeroValue3 _) (plainElem_int Tryz.underlying3 (by decide)) (keyOfPlc hz)
 obtain ⟨c,rfl,hc,-⟩:=plainElem_int_inv Tryz.underlying3 hv
 have hc:=congrArg Prod.fst hc
 simp only at hc
 have hh:=h2.has z hz
 rw [hh] at hrun
 rw [hrun]
 by_cases hm:z ∈ M
 · rw [if_pos hm,<- litI_inj ((h2.val z hm).symm.trans hc)]
 · have h3:=Maps.atKey_of_not_has (show Maps.has D (plKey z.1 z.2.1 z.2.2)=false by rw [hh];exact decide_eq_false hm) (.lit (.int .i64 0))
   rw [if_neg hm,<- litI_inj (h3.symm.trans hc)]
set_option maxHeartbeats 8000000 in
set_option maxRecDepth 100000 in
theorem count_any (g:Gr) (a:Au) (y:Int) (hgo:grOk g=true) (ha:auOk a=true) (bC bM:Nat):∀ (lf x s:Nat) (M:List Plc) (w:World),Ctr g a y w bC bM->Mem g a y w bM M->x < g.vals.length->s < 2 ^ a.accept.length->lf<=60 ->
 Calls Tryz.prog 40 #[.pointer (some ⟨bC,0,none⟩),.agg #[.int .i64 (x:Int),.int .i64 (s:Int),.int .i64 (lf:Int)]] w fun e w'=>e=.returned (.int .i64 (cw g a y lf x s:Nat))/\Left g a y lf M bM w w':=by
 intro lf
 induction lf with
 | zero =>
   intro x s M w hc hm hx hs hlf
   have HM:=Hd_ hm
   have hb0:Below w.heap.size w (w.alloc (.cells #[.int .i64 (x:Int),.int .i64 (s:Int),.int .i64 0] 62)):=(Below.refl _ _).alloc (Nat.le_refl _) _
   by_cases hs0:s=0
   · have HR:=Hd_ (show cw g a y 0 x s=0 by rw [hs0,cw_none])
     subst hs0
     clear hc hm hgo ha
     go_enter Tryz.func40,Tryz.ntmps40
     go_wp2_with fail
     go_ret
     exact ⟨by rw [HR.out];rfl,Left.of_below HM.out hb0⟩
   · obtain ⟨B,lo,hi,A1,A2,A3,A4,A5,c1,c2,c3,c4,c5,hbk,hgv,hav,hlv,h5,h6,h7,h8,h9⟩:=hc
     obtain ⟨vx,hxi,hva,hvx⟩:=valOf hgo hx
     obtain ⟨vs,es,hag,h1,-⟩:=hgv
     injection hag with hag
     simp at hag
     obtain ⟨rfl,rfl⟩:=hag
     obtain ⟨b1,o1,rfl,-,hb1,dv⟩:=h1.intI hxi
     have hs4:=lt12 ha hs
     have z0:w.cell? ⟨bC,0,none⟩=some (.slice (some ⟨b1,o1,none⟩) g.vals.length c1):=hbk.cell 0
     have z2:w.cell? ⟨bC,2,none⟩=some (.int .i64 a.start):=hbk.cell 2
     have z3:w.cell? ⟨bC,3,none⟩=some (.slice A3 a.accept.length c3):=hbk.cell 3
     have z4:w.cell? ⟨bC,4,none⟩=some (.slice A4 a.accept.length c4):=hbk.cell 4
     have z5:w.cell? ⟨bC,5,none⟩=some (.int .i64 y):=hbk.cell 5
     have lC:=hbk.lt
     have lC1:bC < w.heap.size+1:=by omega
     have hb1w:b1 < w.heap.size:=by omega
     have hb1w1:b1 < w.heap.size+1:=by omega
     have hxx:(x:Int) < (g.vals.length:Int):=by omega
     have HEND:=Hd_ (fun (W:World) (hW:Below w.heap.size w W)=>acceptsAt_any _ a s vx W ((hav.mono (Nat.le_refl _) h8).keep hW) ha hs hvx)
     have hne:((s:Int)==0)=false:=by simp;omega
     have hne2:decide ((s:Int)=0)=false:=by simp;omega
     have HC0:=Hd_ (cw_zeroS g a y x s vx hva)
     clear hbk hav hlv h1 hxi hva hgo ha hm
     by_cases hxy:(x:Int)=y
     · have hd:decide ((x:Int)=y)=true:=decide_eq_true hxy
       have hd2:((x:Int)==y)=true:=by simp [hxy]
       have hbb:=HC0.out
       rw [hd,Bool.true_and] at hbb
       generalize acc a s vx=bb at *
       cases bb with
       | true =>
         have HBB:=Hd_ (hbb.trans (if_pos rfl))
         clear hxy HC0 hbb
         go_enter Tryz.func40,Tryz.ntmps40
         go_wp2_with fail
         refine wp_region_ext_lit (by kernel_rfl) (by kernel_rfl) ?_
         repeat (go_big_quiet_step ((go_at_call 70;exact Calls.ext_of (HEND.out _ (below_trans hb0 (ext_below _ _))))))
         refine wpQuiet_nil ?_
         rintro _ ⟨u2,rfl⟩
         go_wp2_with fail
         go_ret
         exact ⟨by rw [HBB.out];rfl,Left.of_below HM.out (below_trans hb0 (ext_below _ _))⟩
       | false =>
         have HBB:=Hd_ (hbb.trans (if_neg (by simp)))
         clear hxy HC0 hbb
         go_enter Tryz.func40,Tryz.ntmps40
         go_wp2_with fail
         refine wp_region_ext_lit (by kernel_rfl) (by kernel_rfl) ?_
         repeat (go_big_quiet_step ((go_at_call 70;exact Calls.ext_of (HEND.out _ (below_trans hb0 (ext_below _ _))))))
         refine wpQuiet_nil ?_
         rintro _ ⟨u2,rfl⟩
         go_wp2_with fail
         go_ret
         exact ⟨by rw [HBB.out];rfl,Left.of_below HM.out (below_trans hb0 (ext_below _ _))⟩
     · have hd:decide ((x:Int)=y)=false:=decide_eq_false hxy
       have hd2:((x:Int)==y)=false:=by simp [hxy]
       have HBB:=Hd_ (show cw g a y 0 x s=0 from HC0.out.trans (by rw [hd,Bool.false_and];simp))
       clear hxy HC0
       go_enter Tryz.func40,Tryz.ntmps40
       go_wp2_with fail
       refine wp_region_ext_lit (by kernel_rfl) (by kernel_rfl) ?_
       repeat (go_big_quiet_step (fail))
       refine wpQuiet_nil ?_
       rintro _ ⟨u2,rfl⟩
       go_wp2_with fail
       go_ret
       exact ⟨by rw [HBB.out];rfl,Left.of_below HM.out (below_trans hb0 (ext_below _ _))⟩
 | succ lf ih =>
   intro x s M w hc hm hx hs hlf
   obtain ⟨L1,hL1⟩:∃ L1,L1=lf+1:=⟨_,rfl⟩
   have HNX:=Hd_ (fun (l:Nat) (t sid:Int) (sinv:Bool) (W:World) (hW:Ctr g a y W bC bM) (hl:l < 9)=>next_any g a y hgo ha bC bM x s lf l t sid sinv W hW hx hs (by omega) hl)
   rw [<- hL1] at hlf HNX ⊢
   have hL1a:lf+1<=L1:=by omega
   have hL1b:L1<=lf+1:=by omega
   have HM:=Hd_ hm
   have HCT:=Hd_ hc
   have hbMw:=hm.lt
   have hbCM:bC ≠ bM:=by obtain ⟨_,_,_,_,_,_,_,_,_,_,_,_,_,h⟩:=hc;exact h.2.2.2.2.2.2.2.2
   have hb0:Below w.heap.size w (w.alloc (.cells #[.int .i64 (x:Int),.int .i64 (s:Int),.int .i64 (L1:Int)] 62)):=(Below.refl _ _).alloc (Nat.le_refl _) _
   have hs4:=lt12 ha hs
   have hn5:=(grOk_iff.1 hgo).n5
   by_cases hs0:s=0
   · have HR:=Hd_ (show cw g a y L1 x s=0 by rw [hs0,cw_none])
     subst hs0
     clear hc hm hgo ha ih hL1 HNX
     go_enter Tryz.func40,Tryz.ntmps40
     go_wp2_with fail
     go_ret
     exact ⟨by rw [HR.out];rfl,Left.of_below HM.out hb0⟩
   · have hz:plcOk (x,s,L1):=⟨by simp only;omega,by simp only;omega,by simp only;omega⟩
     have hlk:∀ u,(Instr.lookup 85 (.map (some bM)) (.agg #[.int .i64 (x:Int),.int .i64 (s:Int),.int .i64 (L1:Int)]) true).run Tryz.prog (ext (w.alloc (.cells #[.int .i64 (x:Int),.int .i64 (s:Int),.int .i64 (L1:Int)] 62)) u) =
      .ok (.tuple #[.int .i64 (if (x,s,L1) ∈ M then (cw g a y L1 x s:Int) else 0),.bool (decide ((x,s,L1) ∈ M))]) (ext (w.alloc (.cells #[.int .i64 (x:Int),.int .i64 (s:Int),.int .i64 (L1:Int)] 62)) u) :=
      fun u=>((hm.keep hb0).keep (ext_below _ u)).look hz
     obtain ⟨B,lo,hi,A1,A2,A3,A4,A5,c1,c2,c3,c4,c5,hbk,hgv,hav,hlv,h5,h6,h7,h8,h9⟩:=hc
     have z7:w.cell? ⟨bC,7,none⟩=some (.map (some bM)):=hbk.cell 7
     have z6:w.cell? ⟨bC,6,none⟩=some (.slice A5 g.vals.length c5):=hbk.cell 6
     have lC:=hbk.lt
     have lC1:bC < w.heap.size+1:=by omega
     have hne:((s:Int)==0)=false:=by simp;omega
     have hne2:decide ((s:Int)=0)=false:=by simp;omega
     have hl0:((L1:Int)==0)=false:=by simp;omega
     have hl1:decide ((L1:Int)=0)=false:=by simp;omega
     by_cases hmem:(x,s,L1) ∈ M
     · rw [if_pos hmem,decide_eq_true hmem] at hlk
       generalize cw g a y L1 x s=C at *
       clear hbk hgv hav hlv hgo ha ih hL1 HNX hm hmem hz
       go_enter Tryz.func40,Tryz.ntmps40
       go_wp2_with fail
       refine wp_region_ext_lit (by kernel_rfl) (by kernel_rfl) ?_
       repeat (go_big_quiet_step (fail))
       refine wpQuiet_nil ?_
       rintro _ ⟨u2,rfl⟩
       go_wp2_with fail
       go_ret
       exact ⟨rfl,Left.of_below HM.out (below_trans hb0 (ext_below _ _))⟩
     · rw [if_neg hmem,decide_eq_false hmem] at hlk
       have HNM:=Hd_ hmem
       have HZ:=Hd_ hz
       have hA5:∃ b5 o5,A5=some ⟨b5,o5,none⟩/\b5 < w.heap.size/\∃ A7 c7,w.cell? ⟨b5,o5+x,none⟩=some (.slice A7 (arcsOf g (x:Int)).length c7)/\(arcsOf g (x:Int)).length<=c7/\c7<=9223372036854775807/\SlI lo hi w cA 4 (.slice A7 (arcsOf g (x:Int)).length c7) (arcsOf g (x:Int)):=by
        obtain ⟨b5,o5,A7,c7,e1,e2,e3,e4,e5,e6,e7,-⟩:=hlv.row h7 (i:=x) (xs:=arcsOf g (x:Int)) (by simp [hx])
        exact ⟨b5,o5,e1,by omega,A7,c7,e4,e5,e6,e7⟩
       obtain ⟨b5,o5,rfl,hb5,A7,c7,d5,hl7,hm7,hI7⟩:=hA5
       have hal:=arcs_len (grOk_iff.1 hgo) (x:Int)
       have hxx:(x:Int) < (g.vals.length:Int):=by omega
       have hb51:b5 < w.heap.size+1:=by omega
       have HI7:=Hd_ hI7
       have HREC:=Hd_ ih
       have HGO:=Hd_ hgo
       have HA:=Hd_ ha
       have HALL:=Hd_ (cwTo_all g a y lf x s)
       rw [<- hL1] at HALL
       have HL:=Hd_ hL1
       clear hbk hgv hav hlv hgo ha ih hL1 hm hmem hz hI7
       go_enter Tryz.func40,Tryz.ntmps40
       go_upto_region 7 with fail
       refine wp_region_ext_lit (by kernel_rfl) (by kernel_rfl) ?_
       repeat (go_big_quiet_step (fail))
       refine wpQuiet_nil ?_
       rintro _ ⟨u2,rfl⟩
       clear hlk
       go_upto_region 11 with fail
       refine wp_region_ext_lit (by kernel_rfl) (by kernel_rfl) ?_
       repeat (go_big_quiet_step (fail))
       refine wpQuiet_nil ?_
       rintro _ ⟨u3,rfl⟩
       go_wp2_with fail
       obtain ⟨W1,hW1⟩:∃ W1,W1=ext (ext (w.alloc (.cells #[.int .i64 (x:Int),.int .i64 (s:Int),.int .i64 (L1:Int)] 62)) u2) u3:=⟨_,rfl⟩
       have hbU:=below_trans (ext_below (w.alloc (.cells #[.int .i64 (x:Int),.int .i64 (s:Int),.int .i64 (L1:Int)] 62)) u2) (ext_below _ u3)
       have hbW:=below_trans hb0 hbU
       rw [<- hW1] at hbU hbW ⊢
       have e0:W1.cell? ⟨w.heap.size,0,none⟩=some (.int .i64 (x:Int)):=kcell hbU (by simp)
       have e1:W1.cell? ⟨w.heap.size,1,none⟩=some (.int .i64 (s:Int)):=kcell hbU (by simp)
       have e2:W1.cell? ⟨w.heap.size,2,none⟩=some (.int .i64 (L1:Int)):=kcell hbU (by simp)
       have lE:w.heap.size < W1.heap.size:=by have:=hbU.size;simp at this;omega
       have HM1:=Hd_ (HM.out.keep hbW)
       have HC1:=Hd_ (HCT.out.keep hbW)
       have z7:=kcell hbW z7
       have HBW:=Hd_ hbW
       clear hW1 hbU hbW d5 z6 hb0 HCT lC1 hb51
       go_loopw [7,61] (fun nn ii wr=>∃ (i:Nat) (M':List Plc),i<=(arcsOf g (x:Int)).length/\ii=.int .i64 (i:Int)/\nn=.int .i64 (cwTo g a y lf x s i:Nat)/\Only bM (bM+1) W1 wr/\Mem g a y wr bM M'/\More lf M M') (fun _ ii _=>(arcsOf g (x:Int)).length - (intOf ii).toNat)
       case atStart=>exact ⟨0,M,Nat.zero_le _,rfl,rfl,Only.refl _ _ _,HM1.out,More.refl _ _⟩
       case round =>
        clear HM1
        obtain ⟨i,M',hi,rfl,rfl,hon,hmm,hmo⟩:=hrel
        have hsz:=hon.size
        have e0:=ocell hon e0 lE (.inr (by omega))
        have e1:=ocell hon e1 lE (.inr (by omega))
        have e2:=ocell hon e2 lE (.inr (by omega))
        have lEr:w.heap.size < wr.heap.size:=by omega
        have HON:=Hd_ hon
        have HMM:=Hd_ hmm
        have HMO:=Hd_ hmo
        have hcle:=cwTo_le g a y lf x s i
        by_cases hlt:i < (arcsOf g (x:Int)).length
        · have hyi:(arcsOf g (x:Int))[i]?=some (arcsOf g (x:Int))[i]:=List.getElem?_eq_getElem hlt
          have hyr:=arc_range (grOk_iff.1 HGO.out) (List.getElem_mem hlt)
          generalize (arcsOf g (x:Int))[i]=p at hyi hyr
          obtain ⟨⟨sid,sinv⟩,l,t⟩:=p
          simp only at hyr
          obtain ⟨l,rfl⟩:=Int.eq_ofNat_of_zero_le hyr.1.1
          obtain ⟨t,rfl⟩:=Int.eq_ofNat_of_zero_le hyr.2.1
          obtain ⟨b7,o7,rfl,hb7l,hb7,k0,k1,k2,k3⟩:=HI7.out.arc hyi
          simp only at k0 k1 k2 k3
          have hb7M:b7 < bM ∨ bM+1<=b7:=by omega
          have hb71:=Nat.lt_of_lt_of_le (show b7 < w.heap.size by omega) HBW.out.size
          have k0:=ocell hon (kcell HBW.out k0) hb71 hb7M
          have k1:=ocell hon (kcell HBW.out k1) hb71 hb7M
          have k2:=ocell hon (kcell HBW.out k2) hb71 hb7M
          have k3:=ocell hon (kcell HBW.out k3) hb71 hb7M
          have hb7w:b7 < wr.heap.size:=by omega
          have hts:cwTo g a y lf x s (i+1)=min 1000000 (cwTo g a y lf x s i+cw g a y lf t (aft a s (valAt g x) l)):=by
           rw [cwTo_succ hyi,cwStep];simp
          have hAF:=aft_lt HA.out s (valAt g x) l
          have hcl2:=cw_le g a y lf t (aft a s (valAt g x) l)
          have HNC:=Hd_ (fun (W:World) (hW:Ctr g a y W bC bM)=>HNX.out l (t:Int) sid sinv W hW (by omega))
          have HRC:=Hd_ (fun (W:World) (h1:Ctr g a y W bC bM) (h2:Mem g a y W bM M')=>HREC.out t (aft a s (valAt g x) l) M' W h1 h2 (by omega) hAF (by omega))
          generalize aft a s (valAt g x) l=AF at *
          have hbE:Below wr.heap.size wr (wr.alloc (.cells #[.int .i64 sid,.bool sinv,.int .i64 (l:Int),.int .i64 (t:Int)] 89)):=(Below.refl _ _).alloc (Nat.le_refl _) _
          have hii:(i:Int) < ((arcsOf g (x:Int)).length:Int):=by omega
          have HTS:=Hd_ hts
          clear hts hyi hon hmm hmo
          generalize cwTo g a y lf x s i=m1 at *
          generalize cw g a y lf t AF=CC at *
          go_wp2_with fail
          refine (HNC.out _ ((HC1.out.only HON.out).keep hbE)).mono ?_
          rintro en w3 ⟨rfl,hb3⟩
          have hb3':=below_trans hbE hb3
          have HC3:=Hd_ ((HC1.out.only HON.out).keep hb3')
          have HM3:=Hd_ (HMM.out.keep hb3')
          have HO3:=Hd_ (HON.out.trans (Only.of_below hb3' bM (bM+1)))
          clear hb3 hb3' k0 k1 k2 k3
          go_wp2_with fail
          refine (HRC.out _ HC3.out HM3.out).mono ?_
          rintro en w4 ⟨rfl,hon4,M4,hm4,hmo4⟩
          have HO4:=Hd_ (HO3.out.trans hon4)
          have HM4:=Hd_ hm4
          have HMO4:=Hd_ (HMO.out.trans hmo4)
          clear hon4 hm4 hmo4
          go_wp2_with fail
          go_roundw
          case rel=>exact ⟨i+1,M4,by omega,by go_num,by rw [HTS.out];exact congrArg (Value.int IntKind.i64) (by first | omega | (split <;> omega)),HO4.out,HM4.out,HMO4.out⟩
          case measure=>simp [intOf];omega
        · obtain rfl:i=(arcsOf g (x:Int)).length:=by omega
          rw [HALL.out] at hcle ⊢
          generalize hCW:cw g a y L1 x s=CW at *
          have z7:=ocell hon z7 (by omega) (by omega)
          have lCr:bC < wr.heap.size:=by omega
          have HCW:=Hd_ hCW
          clear hon hmm hmo hCW HALL
          go_upto_region 16 with fail
          refine F_start 6 (fun w'=>w'.cell? ⟨bC,7,none⟩=some (.map (some bM))/\w'.cell? ⟨w.heap.size,0,none⟩=some (.int .i64 (x:Int))/\w'.cell? ⟨w.heap.size,1,none⟩=some (.int .i64 (s:Int))/\w'.cell? ⟨w.heap.size,2,none⟩=some (.int .i64 (L1:Int))) (by kernel_rfl) (by exact ⟨z7,e0,e1,e2⟩) (fun hS inv=>?_)
          refine F_tk 0 inv ?_
          try simp only [tA,tB,tC,Act.put,tE,tF,tG]
          clear inv;intro inv
          refine F_tk 1 inv ?_
          try simp only [tA,tB,tC,Act.put,tE,tF,tG]
          clear inv;intro inv
          refine F_tk 2 inv ?_
          try simp only [tA,tB,tC,Act.put,tE,tF,tG]
          clear inv;intro inv
          refine F_tk 3 inv ?_
          try simp only [tA,tB,tC,Act.put,tE,tF,tG]
          clear inv;intro inv
          refine F_tk 4 inv ?_
          try simp only [tA,tB,tC,Act.put,tE,tF,tG]
          clear inv;intro inv
          refine F_tk 5 inv ?_
          try simp only [tA,tB,tC,Act.put,tE,tF,tG]
          clear inv;intro inv
          obtain ⟨D',hD1,hD2⟩:=HMM.out
          have hln:=hD2.len
          have hnz:(x,s,L1) ∉ M':=by
           obtain ⟨T,hT,hTl⟩:=HMO.out
           rw [hT,List.mem_append]
           rintro (h | h)
           · exact HNM.out h
           · have:=hTl _ h;simp only at this;omega
          refine F_l1 6 ?_;intro K hK
          refine op_mapUpdate_own _ _ _ _ _ rfl _ _ keyedPlace Tryz.underlying85 (plainElem Tryz.prog 3) _ _ _ (by rfl) hD1.drew (by unfold maxLen;omega) _ _ _ (by rfl) (by rfl) (keyOfPlc HZ.out) _ _ (plainElem_int Tryz.underlying3 (wf_nat (by omega))) ?_
          intro w9 hown9 hgr9
          refine hK _ _ ?_
          clear hK K inv hS
          try simp only [tA,tB,tC,Act.put,tE,tF,tG]
          have hput:=hD2.put HZ.out hnz
          simp only at hput
          rw [HCW.out] at hput
          have hm9:Mem g a y w9 bM (M' ++ [(x,s,L1)]):=⟨_,by rw [List.length_append];exact hown9,hput⟩
          have ho9:Only bM (bM+1) wr w9:=⟨hgr9.os,hgr9.tape,hgr9.output,hgr9.size,fun n hn ho=>hgr9.block n hn (fun e=>by injection e with e;omega)⟩
          have HO9:=Hd_ ((Only.of_below HBW.out bM (bM+1)).trans (HON.out.trans ho9))
          have HM9:=Hd_ hm9
          have HMO9:=Hd_ (show More L1 M (M' ++ [(x,s,L1)]) from (HMO.out.mono (by omega)).trans ⟨[(x,s,L1)],rfl,fun z hz=>by rw [List.mem_singleton] at hz;subst hz;exact Nat.le_refl _⟩)
          clear hown9 hgr9 hm9 ho9 hput hnz hD1 hD2
          go_wp2_with fail
          go_ret
          exact ⟨by rw [HCW.out];rfl,HO9.out,_,HM9.out,HMO9.out⟩
theorem Mem.new (g:Gr) (a:Au) (y:Int) (w:World):Mem g a y (w.alloc (.map #[] 0)) w.heap.size []:=⟨.map [],World.ownsMap_made w _ _ _,MemD.empty g a y⟩
set_option maxHeartbeats 4000000 in
set_option maxRecDepth 100000 in
theorem newCounter_any (v1 v2:Value) (g:Gr) (a:Au) (y:Int) (w:World) (hgv:GrV 0 w.heap.size w v1 g) (hav:AuV 0 w.heap.size w v2 a) (hgo:grOk g=true) (ha:auOk a=true) :
 Calls Tryz.prog 38 #[v1,v2,.int .i64 y] w fun e w'=>∃ bC bM,e=.returned (.pointer (some ⟨bC,0,none⟩))/\w.heap.size<=bM/\Ctr g a y w' bC bM/\Mem g a y w' bM []/\Below w.heap.size w w':=by
 have hgv0:=hgv
 have hav0:=hav
 obtain ⟨A1,c1,A2,c2,rfl,hl1,hm1,hl2,hm2,-,-⟩:=hgv.form
 obtain ⟨A3,c3,A4,c4,rfl,hl3,hm3,hl4,hm4,-⟩:=hav.form ha
 have hb0:Below w.heap.size w ((w.alloc (.cells #[.slice A1 g.vals.length c1,.slice A2 g.edges.length c2] 27)).alloc (.cells #[.int .i64 a.start,.slice A3 a.accept.length c3,.slice A4 a.accept.length c4] 31)):=((Below.refl _ _).alloc (Nat.le_refl _) _).alloc (by simp) _
 have HGV:=Hd_ hgv0
 have HAV:=Hd_ hav0
 have HAR:=Hd_ (fun (W:World) (hW:Below w.heap.size w W)=>arcs_any _ g W (HGV.out.keep hW) (grOk_iff.1 hgo))
 clear hgv hav hgv0 hav0 hgo ha
 have hmm:=@run_makeMap Tryz.prog
 go_enter Tryz.func38,Tryz.ntmps38
 go_upto_region 1 with fail
 obtain ⟨W0,hW0⟩:∃ W0,W0=((w.alloc (.cells #[.slice A1 g.vals.length c1,.slice A2 g.edges.length c2] 27)).alloc (.cells #[.int .i64 a.start,.slice A3 a.accept.length c3,.slice A4 a.accept.length c4] 31)):=⟨_,rfl⟩
 rw [<- hW0] at hb0 ⊢
 have x0:W0.cell? ⟨w.heap.size,0,none⟩=some (.slice A1 g.vals.length c1):=by rw [hW0];simp
 have x1:W0.cell? ⟨w.heap.size,1,none⟩=some (.slice A2 g.edges.length c2):=by rw [hW0];simp
 have y0:W0.cell? ⟨w.heap.size+1,0,none⟩=some (.int .i64 a.start):=by rw [hW0];simp
 have y1:W0.cell? ⟨w.heap.size+1,1,none⟩=some (.slice A3 a.accept.length c3):=by rw [hW0];simp
 have y2:W0.cell? ⟨w.heap.size+1,2,none⟩=some (.slice A4 a.accept.length c4):=by rw [hW0];simp
 have hs0:w.heap.size+1+1=W0.heap.size:=by rw [hW0];simp
 try rw [hs0]
 have l0:w.heap.size+1 < W0.heap.size:=by omega
 have l00:w.heap.size < W0.heap.size:=by omega
 clear hW0 hs0
 have hbD:=below_trans hb0 ((Below.refl W0.heap.size W0).drew)
 refine F_start 7 (fun w'=>w'.cell? ⟨w.heap.size,0,none⟩=some (.slice A1 g.vals.length c1)/\w'.cell? ⟨w.heap.size,1,none⟩=some (.slice A2 g.edges.length c2)/\w'.cell? ⟨w.heap.size+1,0,none⟩=some (.int .i64 a.start)/\w'.cell? ⟨w.heap.size+1,1,none⟩=some (.slice A3 a.accept.length c3)/\w'.cell? ⟨w.heap.size+1,2,none⟩=some (.slice A4 a.accept.length c4)) (by kernel_rfl) (by exact ⟨x0,x1,y0,y1,y2⟩) (fun hS inv=>?_)
 refine F_tk 0 inv ?_
 try simp only [tA,tB,tC,Act.put,tE,tF,tG]
 clear inv;intro inv
 refine F_tk 1 inv ?_
 try simp only [tA,tB,tC,Act.put,tE,tF,tG]
 clear inv;intro inv
 refine F_tk 2 inv ?_
 try simp only [tA,tB,tC,Act.put,tE,tF,tG]
 clear inv;intro inv
 refine F_tk 3 inv ?_
 try simp only [tA,tB,tC,Act.put,tE,tF,tG]
 clear inv;intro inv
 have hS0:=hS
 refine F_two (i:=4) (j:=5) (by kernel_rfl) rfl rfl rfl rfl (by omega) inv (fun K hK=>?_) (fun K hK=>?_)
 all_goals (try simp only [tA,tB,tC])
 · go_simp
   refine (HAR.out _ hbD).mono ?_
   rintro en wA ⟨vA,rfl,hsse,hbA⟩
   obtain ⟨A5,c5,hv5,hl5,hm5⟩:=hsse.shape
   have hlen5:((List.range g.vals.length).map fun (x:Nat)=>arcsOf g (x:Int)).length=g.vals.length:=by simp
   rw [hlen5] at hv5 hl5
   subst hv5
   have hbDA:=below_trans hbD hbA
   have HSSE:=Hd_ hsse
   have hsA:=hbA.size
   clear hsse hlen5
   refine hK.out _ _ (kB5 hbA hS) (fun _ _=>?_)
   try simp only [tA,tB,tC,Act.put,tE,tF,tG]
   clear hK K inv hS;rename_i hS inv
   refine F_o1 5 inv ?_;intro K hK
   try simp only [tA,tB,tC]
   go_simp
   have hbM:Below wA.heap.size wA (wA.alloc (.map #[] 0)):=(Below.refl _ _).alloc (Nat.le_refl _) _
   have HMM:=Hd_ (Mem.new g a y wA)
   refine hK.out _ _ (kA5 _ hS) (fun _ _=>?_)
   try simp only [tA,tB,tC,Act.put,tE,tF,tG]
   clear hK K inv hS;rename_i hS inv
   refine F_tk 6 inv ?_
   try simp only [tA,tB,tC,Act.put,tE,tF,tG]
   clear inv;intro inv
   refine F_tail (i:=7) (by kernel_rfl) rfl rfl (by omega) (fun K hK=>?_)
   try simp only [tA,tB,tC]
   go_simp
   refine hK.out _ _ ?_
   try simp only [tA,tB,tC,Act.put,tE,tF,tG]
   clear hK K
   try clear inv hS
   refine F_l1 8 ?_;intro K hK
   go_simp
   refine hK _ _ ?_
   clear hK K
   go_wp2_with fail
   have hbX:Below (wA.alloc (.map #[] 0)).heap.size (wA.alloc (.map #[] 0)) ((wA.alloc (.map #[] 0)).alloc (.cells #[.slice A1 g.vals.length c1,.slice A2 g.edges.length c2,.int .i64 a.start,.slice A3 a.accept.length c3,.slice A4 a.accept.length c4,.int .i64 y,.slice A5 g.vals.length c5,.map (some wA.heap.size)] 87)):=(Below.refl _ _).alloc (Nat.le_refl _) _
   have hbY:=below_trans hbDA (below_trans hbM hbX)
   have hbZ:=below_trans hbM hbX
   have hsw:=hbD.size
   have hszz:=hbZ.size
   go_ret
   exact ⟨_,wA.heap.size,rfl,Nat.le_trans hsw hsA,⟨w.heap.size,_,wA.heap.size,A1,A2,A3,A4,A5,c1,c2,c3,c4,c5,Blk.new _ _ _ _ (by simp),HGV.out.below hbY (Nat.le_refl _),HAV.out.below hbY (Nat.le_refl _),HSSE.out.below hbZ (Nat.le_refl _),Nat.le_trans hsw hsA,.inl (Nat.le_refl _),hszz,hbY.size,by simp⟩,HMM.out.keep hbX,hbY⟩
 · go_simp
   have hbM:Below W0.drew.heap.size W0.drew (W0.drew.alloc (.map #[] 0)):=(Below.refl _ _).alloc (Nat.le_refl _) _
   have HMM:=Hd_ (Mem.new g a y W0.drew)
   have hbDM:=below_trans hbD hbM
   refine hK.out _ _ (kA5 _ hS) (fun _ _=>?_)
   try simp only [tA,tB,tC,Act.put,tE,tF,tG]
   clear hK K inv hS;rename_i hS inv
   refine F_o1 4 inv ?_;intro K hK
   try simp only [tA,tB,tC]
   go_simp
   refine (HAR.out _ hbDM).mono ?_
   rintro en wA ⟨vA,rfl,hsse,hbA⟩
   obtain ⟨A5,c5,hv5,hl5,hm5⟩:=hsse.shape
   have hlen5:((List.range g.vals.length).map fun (x:Nat)=>arcsOf g (x:Int)).length=g.vals.length:=by simp
   rw [hlen5] at hv5 hl5
   subst hv5
   have HSSE:=Hd_ hsse
   have hsA:=hbA.size
   have hsw:=hbD.size
   have hbDA:=below_trans hbDM hbA
   clear hsse hlen5
   refine hK.out _ _ (kB5 hbA hS) (fun _ _=>?_)
   try simp only [tA,tB,tC,Act.put,tE,tF,tG]
   clear hK K inv hS;rename_i hS inv
   refine F_tk 6 inv ?_
   try simp only [tA,tB,tC,Act.put,tE,tF,tG]
   clear inv;intro inv
   refine F_tail (i:=7) (by kernel_rfl) rfl rfl (by omega) (fun K hK=>?_)
   try simp only [tA,tB,tC]
   go_simp
   refine hK.out _ _ ?_
   try simp only [tA,tB,tC,Act.put,tE,tF,tG]
   clear hK K
   try clear inv hS
   refine F_l1 8 ?_;intro K hK
   go_simp
   refine hK _ _ ?_
   clear hK K
   go_wp2_with fail
   have hbX:Below wA.heap.size wA (wA.alloc (.cells #[.slice A1 g.vals.length c1,.slice A2 g.edges.length c2,.int .i64 a.start,.slice A3 a.accept.length c3,.slice A4 a.accept.length c4,.int .i64 y,.slice A5 g.vals.length c5,.map (some W0.heap.size)] 87)):=(Below.refl _ _).alloc (Nat.le_refl _) _
   have hbY:=below_trans hbDA hbX
   have hszz:=hbX.size
   have hwM:W0.heap.size < wA.heap.size:=by simp at hsA;omega
   go_ret
   exact ⟨_,W0.heap.size,rfl,hsw,⟨w.heap.size,W0.heap.size+1,wA.heap.size,A1,A2,A3,A4,A5,c1,c2,c3,c4,c5,Blk.new _ _ _ _ rfl,HGV.out.below hbY (Nat.le_refl _),HAV.out.below hbY (Nat.le_refl _),(HSSE.out.mono (by simp) (Nat.le_refl _)).below hbX (Nat.le_refl _),hsw,.inr (Nat.lt_succ_self _),hszz,hbY.size,by omega⟩,(HMM.out.keep hbA).keep hbX,hbY⟩
theorem start_any (g:Gr) (a:Au) (y:Int) (ha:auOk a=true) (bC bM x lf:Nat) (w:World) (hc:Ctr g a y w bC bM) (hx:x<=1000000) (hlf:lf<=60) :
 Calls Tryz.prog 39 #[.pointer (some ⟨bC,0,none⟩),.int .i64 (x:Int),.int .i64 (lf:Int)] w fun e w'=>e=.returned (.agg #[.int .i64 (x:Int),.int .i64 (bit a.start.toNat:Nat),.int .i64 (lf:Int)])/\Below w.heap.size w w':=by
 obtain ⟨B,lo,hi,A1,A2,A3,A4,A5,c1,c2,c3,c4,c5,hbk,-⟩:=hc
 obtain ⟨⟨_,hn⟩,⟨h0,h1⟩,-,-⟩:=auOk_iff.1 ha
 obtain ⟨s,hs⟩:=Int.eq_ofNat_of_zero_le h0
 have z2:w.cell? ⟨bC,2,none⟩=some (.int .i64 (s:Int)):=by rw [<- hs];exact hbk.cell 2
 have lC:=hbk.lt
 have lC1:bC < w.heap.size+1:=by omega
 rw [hs,Int.toNat_natCast]
 have e1:=shl_bit (s:=s) (by omega)
 have e2:wrap64 (2 ^ min s 64)=(bit s:Int):=by rw [Nat.min_eq_left (by omega)];exact e1
 clear hbk h0 h1 hs ha
 go_enter Tryz.func39,Tryz.ntmps39
 go_wp2_with fail
 refine bodyPost_ret (v:=.agg #[.int .i64 (x:Int),.int .i64 (bit s:Int),.int .i64 (lf:Int)]) (by simp [results,Tryz.results39,go_sem,e2]) rfl ⟨rfl,?_⟩
 repeat (first | exact Below.refl _ _ | refine Below.setCell ?_ (by simp <;> omega) _ | refine Below.alloc ?_ (by simp <;> omega) _)
end Go.Proofs.YtcnenpjaoalmeaaGreat
