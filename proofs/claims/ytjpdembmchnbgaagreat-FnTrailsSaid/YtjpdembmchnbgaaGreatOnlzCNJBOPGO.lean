/- Parts of the proof, joined into one text: ShortS, Tab, AllA, TwoD, SrtD, WalkM, MatchM, StepI. -/
import Derived.Test.YtjpdembmchnbgaaGreatOnlzAJGJOIJE
import Derived.Test.YtjpdembmchnbgaaGreatOnlzKAKNENCE
import Derived.Test.YtjpdembmchnbgaaGreatOnlzAHBNCDDG
import Derived.Test.YtjpdembmchnbgaaGreatOnlzLMCDAGBF
import Derived.Lib.Slices
import Derived.Test.YtjpdembmchnbgaaGreatOnlzEJHCNFPD
import Derived.RegionTactic
import Derived.BigRegion
import Derived.Test.YtjpdembmchnbgaaGreatOnlzALPFPLEE
import Derived.Test.YtjpdembmchnbgaaGreatOnlzFIIFBPKC
set_option linter.unusedVariables false
set_option linter.unusedSimpArgs false
namespace Go.Proofs.YtjpdembmchnbgaaGreat
open Go.ChangeShapes Go.WideShapes Go.ChangeAt Go.RowKit
attribute [local go_sem] ext_cell ext_frozen ext_lt ext_lt1 ext_lt2 ext_lt3 ltn2 ltn3 ltn13 lts1 lts2 lts3
theorem goodB0 (g:Gr) (a:Au) (x:Int):goodB g a x 0=(grOk g && (auOk a && wi x 0 ((g.vals.length:Int) - 1))):=by
 unfold goodB
 cases h:auOk a with
 | false=>simp
 | true =>
   have h1:=(auOk_iff.1 h).1.1
   have h2:wi 0 0 ((a.accept.length:Int) - 1)=true:=wi_iff.2 (by omega)
   rw [h2]
   simp
set_option maxHeartbeats 4000000 in
set_option maxRecDepth 100000 in
theorem specShortestLength (vg va:Value) (g:Gr) (a:Au) (x y:Int) (w:World) (hgv:GrV 0 w.heap.size w vg g) (hav:AuV 0 w.heap.size w va a) :
 Calls Tryz.prog 50 #[vg,va,.int .i64 x,.int .i64 y] w fun e w'=>e=.returned (.int .i64 (shortLen g a x y))/\Below w.heap.size w w':=by
 have hgv0:=hgv
 have hav0:=hav
 obtain ⟨A1,n1,c1,A2,n2,c2,rfl⟩:=hgv.shape
 obtain ⟨ac,nx,rfl,hac,hnx⟩:=hav
 obtain ⟨A3,c3,rfl,-,-,-⟩:=SlE.form hac
 obtain ⟨A4,n4,c4,rfl⟩:=hnx.shape
 have hb0:Below w.heap.size w ((w.alloc (.cells #[.slice A1 n1 c1,.slice A2 n2 c2] 27)).alloc (.cells #[.int .i64 a.start,.slice A3 a.accept.length c3,.slice A4 n4 c4] 31)):=((Below.refl _ _).alloc (Nat.le_refl _) _).alloc (by simp) _
 have HGV:=Hd_ hgv0
 have HAV:=Hd_ hav0
 clear hgv hac hnx hgv0 hav0
 go_enter Tryz.func50,Tryz.ntmps50
 go_wp2_with fail
 obtain ⟨W0,hW0⟩:∃ W0,W0=((w.alloc (.cells #[.slice A1 n1 c1,.slice A2 n2 c2] 27)).alloc (.cells #[.int .i64 a.start,.slice A3 a.accept.length c3,.slice A4 n4 c4] 31)):=⟨_,rfl⟩
 rw [<- hW0] at hb0 ⊢
 have x0:W0.cell? ⟨w.heap.size,0,none⟩=some (.slice A1 n1 c1):=by rw [hW0];simp
 have x1:W0.cell? ⟨w.heap.size,1,none⟩=some (.slice A2 n2 c2):=by rw [hW0];simp
 have y0:W0.cell? ⟨w.heap.size+1,0,none⟩=some (.int .i64 a.start):=by rw [hW0];simp
 have y1:W0.cell? ⟨w.heap.size+1,1,none⟩=some (.slice A3 a.accept.length c3):=by rw [hW0];simp
 have y2:W0.cell? ⟨w.heap.size+1,2,none⟩=some (.slice A4 n4 c4):=by rw [hW0];simp
 have hs0:w.heap.size+1+1=W0.heap.size:=by rw [hW0];simp
 try rw [hs0]
 have l0:w.heap.size+1 < W0.heap.size:=by omega
 have l00:w.heap.size < W0.heap.size:=by omega
 clear hW0 hs0
 have hgx:=l14Good_any _ _ g a x 0 W0 (HGV.out.keep hb0) (HAV.out.keep hb0)
 have HGX:=Hd_ hgx
 clear hgx
 cases hk:goodB g a x 0 with
 | false =>
   rw [hk] at HGX
   have hfin:shortLen g a x y=-1:=by
    unfold shortLen
    rw [if_neg]
    intro h
    rw [goodB0] at hk
    simp only [Bool.and_eq_true] at h
    simp [h] at hk
   have HF:=Hd_ hfin
   clear hk hfin
   refine HGX.out.mono ?_
   rintro e w1 ⟨rfl,hb1⟩
   go_wp2_with fail
   go_ret
   exact ⟨by rw [HF.out];rfl,below_trans hb0 hb1⟩
 | true =>
   rw [hk] at HGX
   have HK:=Hd_ hk
   clear hk
   refine HGX.out.mono ?_
   rintro e w1 ⟨rfl,hb1⟩
   have hb2:=below_trans hb0 hb1
   have x0:=kcell hb1 x0
   have x1:=kcell hb1 x1
   have y0:=kcell hb1 y0
   have y1:=kcell hb1 y1
   have y2:=kcell hb1 y2
   have l0:=Nat.lt_of_lt_of_le l0 hb1.size
   have l00:=Nat.lt_of_lt_of_le l00 hb1.size
   have hgy:=l14Good_any _ _ g a y 0 w1 (HGV.out.keep hb2) (HAV.out.keep hb2)
   have HGY:=Hd_ hgy
   clear hgy
   cases hk:goodB g a y 0 with
   | false =>
     rw [hk] at HGY
     have hfin:shortLen g a x y=-1:=by
      unfold shortLen
      rw [if_neg]
      intro h
      rw [goodB0] at hk
      simp only [Bool.and_eq_true] at h
      simp [h] at hk
     have HF:=Hd_ hfin
     clear hk hfin
     go_wp2_with fail
     refine HGY.out.mono ?_
     rintro e w3 ⟨rfl,hb3⟩
     go_wp2_with fail
     go_ret
     exact ⟨by rw [HF.out];rfl,below_trans hb2 hb3⟩
   | true =>
     rw [hk] at HGY
     rw [goodB0] at hk
     have hk2:=HK.out
     rw [goodB0] at hk2
     simp only [Bool.and_eq_true,wi_iff] at hk hk2
     obtain ⟨hgo,hao,hy0,hy1⟩:=hk
     obtain ⟨-,-,hx0,hx1⟩:=hk2
     have hdl:=distTo_len (g:=g) (a:=a) (y:=y) (by simp [wi_iff,hy0,hy1,hgo,hao])
     obtain ⟨x,rfl⟩:=Int.eq_ofNat_of_zero_le hx0
     obtain ⟨y,rfl⟩:=Int.eq_ofNat_of_zero_le hy0
     have hst0:=(auOk_iff.1 hao).2.1
     have hm12:=(auOk_iff.1 hao).1.2
     have hn5:=(grOk_iff.1 hgo).n5
     obtain ⟨xn,hxn⟩:∃ xn,xn=x * a.accept.length:=⟨_,rfl⟩
     have hxn2:xn+a.accept.length<=g.vals.length * a.accept.length:=by rw [hxn];have:=Nat.mul_le_mul_right a.accept.length (show x+1<=g.vals.length by omega);rw [Nat.succ_mul] at this;exact this
     have hN60:g.vals.length * a.accept.length<=60:=by have:=Nat.mul_le_mul hn5 hm12;omega
     rw [<- hdl] at hxn2 hN60
     obtain ⟨ix,hix⟩:∃ ix:Nat,(ix:Int)=(xn:Int)+a.start:=⟨(xn+a.start.toNat),by omega⟩
     have hixl:ix < (distTo g a (y:Int)).length:=by omega
     have hfin:shortLen g a (x:Int) (y:Int)=(distTo g a (y:Int)).getD ix 0:=by
      unfold shortLen
      rw [if_pos (by simp [wi_iff,hx0,hx1,hy0,hy1,hgo,hao]),Int.toNat_natCast,<- hxn]
      congr 1
      omega
     have hget:=getD_of hixl
     have q1':(x:Int) * (a.accept.length:Int)=(xn:Int):=by rw [hxn,Int.natCast_mul]
     have q1:IntKind.i64.wrap ((x:Int) * (a.accept.length:Int))=(xn:Int):=by rw [q1'];exact IntWalk.i64_in _ (by omega)
     have q2:IntKind.i64.wrap ((xn:Int)+a.start)=(ix:Int):=by rw [<- hix];exact IntWalk.i64_in _ (by omega)
     have q2':(xn:Int)+a.start=(ix:Int):=hix.symm
     have q5:IntKind.i64.wrap (xn:Int)=(xn:Int):=IntWalk.i64_in _ (by omega)
     have q6:IntKind.i64.wrap (ix:Int)=(ix:Int):=IntWalk.i64_in _ (by omega)
     have hixi:(ix:Int) < ((distTo g a (y:Int)).length:Int):=by omega
     have hix0:(0:Int)<=(ix:Int):=by omega
     have hyl:y < g.vals.length:=by omega
     have HF:=Hd_ hfin
     have HGET:=Hd_ hget
     have Q1:=Hd_ q1
     have Q1':=Hd_ q1'
     have Q2:=Hd_ q2
     have Q2':=Hd_ q2'
     have Q5:=Hd_ q5
     have Q6:=Hd_ q6
     have HGO:=Hd_ hgo
     have HAO:=Hd_ hao
     clear hget hfin hxn hix hgo hao hdl hx0 hx1 hy0 hy1 hst0 q1 q1' q2 q2' q5 q6
     go_wp2_with fail
     refine HGY.out.mono ?_
     rintro e w3 ⟨rfl,hb3⟩
     have hb4:=below_trans hb2 hb3
     have x0:=kcell hb3 x0
     have x1:=kcell hb3 x1
     have y0:=kcell hb3 y0
     have y1:=kcell hb3 y1
     have y2:=kcell hb3 y2
     clear hb0 hb1 hb2 hb3 HGY HGX HK
     go_wp2_with fail
     have q1:=Q1.out
     have q1':=Q1'.out
     have q2:=Q2.out
     have q2':=Q2'.out
     have q5:=Q5.out
     have q6:=Q6.out
     refine F_start 14 (fun w'=>w'.cell? ⟨w.heap.size,0,none⟩=some (.slice A1 n1 c1)/\w'.cell? ⟨w.heap.size,1,none⟩=some (.slice A2 n2 c2)/\w'.cell? ⟨w.heap.size+1,0,none⟩=some (.int .i64 a.start)/\w'.cell? ⟨w.heap.size+1,1,none⟩=some (.slice A3 a.accept.length c3)/\w'.cell? ⟨w.heap.size+1,2,none⟩=some (.slice A4 n4 c4)) (by kernel_rfl) (by exact ⟨x0,x1,y0,y1,y2⟩) (fun hS inv=>?_)
     refine F_tk 0 inv ?_
     try simp only [tA,tB,tC,Act.put,tE,tF,tG]
     clear inv;intro inv
     refine F_tk 1 inv ?_
     try simp only [tA,tB,tC,Act.put,tE,tF,tG]
     clear inv;intro inv
     refine F_tk 2 inv ?_
     try simp only [tA,tB,tC,Act.put,tE,tF,tG]
     clear inv;intro inv
     refine F_tk 4 inv ?_
     try simp only [tA,tB,tC,Act.put,tE,tF,tG]
     clear inv;intro inv
     refine F_tk 5 inv ?_
     try simp only [tA,tB,tC,Act.put,tE,tF,tG]
     clear inv;intro inv
     refine F_tk 6 inv ?_
     try simp only [tA,tB,tC,Act.put,tE,tF,tG]
     clear inv;intro inv
     refine F_tk 7 inv ?_
     try simp only [tA,tB,tC,Act.put,tE,tF,tG]
     clear inv;intro inv
     refine F_tk 8 inv ?_
     try simp only [tA,tB,tC,Act.put,tE,tF,tG]
     clear inv;intro inv
     refine F_tk 9 inv ?_
     try simp only [tA,tB,tC,Act.put,tE,tF,tG]
     clear inv;intro inv
     refine F_tk 10 inv ?_
     try simp only [tA,tB,tC,Act.put,tE,tF,tG]
     clear inv;intro inv
     refine F_tk 11 inv ?_
     try simp only [tA,tB,tC,Act.put,tE,tF,tG]
     clear inv;intro inv
     refine F_o1 3 inv ?_;intro K hK
     try simp only [tA,tB,tC]
     go_simp
     refine (l14Back_any _ _ g a y _ (GrV.keep (w':=w3.drew) HGV.out hb4.drew) (AuV.keep (w':=w3.drew) HAV.out hb4.drew) HGO.out HAO.out hyl).mono ?_
     rintro e wD ⟨vD,rfl,hoD,hbD⟩
     obtain ⟨A5,c5,rfl,hl5,hm5,hC5⟩:=hoD.form cI_len
     obtain ⟨b5,o5,rfl,hb5,d5⟩:=hC5.int HGET.out
     refine hK.out _ _ (kB5 hbD hS) (fun _ _=>?_)
     try simp only [tA,tB,tC,Act.put,tE,tF,tG]
     clear hK K inv hS;rename_i hS inv
     refine F_tk 12 inv ?_
     try simp only [tA,tB,tC,Act.put,tE,tF,tG]
     clear inv;intro inv
     refine F_o1 13 inv ?_;intro K hK
     try simp only [tA,tB,tC]
     go_simp
     refine hK.out _ _ (hS) (fun _ _=>?_)
     try simp only [tA,tB,tC,Act.put,tE,tF,tG]
     clear hK K inv hS;rename_i hS inv
     refine F_l1 14 ?_;intro K hK
     go_simp
     refine hK _ _ ?_
     clear hK K inv hS
     clear q1 q1' q2 q2' q5 q6
     go_wp2_with fail
     go_ret
     exact ⟨by rw [HF.out];simp [List.getElem?_eq_getElem hixl],below_trans hb4.drew hbD⟩
theorem goodB00 (g:Gr) (a:Au):goodB g a 0 0=(grOk g && auOk a):=by
 rw [goodB0]
 cases hg:grOk g with
 | false=>simp
 | true =>
   have h1:=(grOk_iff.1 hg).n1
   have h2:wi 0 0 ((g.vals.length:Int) - 1)=true:=wi_iff.2 (by omega)
   rw [h2]
   cases auOk a <;> simp
def allRow (g:Gr) (a:Au) (x k:Nat):List Pr:=((ansL g a (x:Int)).take k).map fun y=>((x:Int),y)
def allTo (g:Gr) (a:Au) (i:Nat):List Pr:=(List.range i).flatMap fun (x:Nat)=>allRow g a x (ansL g a (x:Int)).length
def allL (g:Gr) (a:Au):List Pr:=if (grOk g && auOk a)=true then allTo g a g.vals.length else []
theorem allRow_zero (g:Gr) (a:Au) (x:Nat):allRow g a x 0=[]:=by simp [allRow]
theorem allRow_snoc {g:Gr} {a:Au} {x k:Nat} {y:Int} (h:(ansL g a (x:Int))[k]?=some y):allRow g a x (k+1)=allRow g a x k ++ [((x:Int),y)]:=by
 rw [allRow,take_snoc h,List.map_append];rfl
theorem allRow_len (g:Gr) (a:Au) (x k:Nat):(allRow g a x k).length<=30:=by
 have:=ansL_len g a (x:Int)
 simp only [allRow,List.length_map,List.length_take];omega
theorem allTo_snoc (g:Gr) (a:Au) (i:Nat):allTo g a (i+1)=allTo g a i ++ allRow g a i (ansL g a (i:Int)).length:=by
 simp [allTo,List.range_succ]
theorem allTo_len (g:Gr) (a:Au) (i:Nat):(allTo g a i).length<=30 * i:=by
 induction i with
 | zero=>simp [allTo]
 | succ i ih =>
   have:=allRow_len g a i (ansL g a (i:Int)).length
   rw [allTo_snoc,List.length_append];omega
set_option maxHeartbeats 4000000 in
set_option maxRecDepth 100000 in
theorem specAllAnswers (vg va:Value) (g:Gr) (a:Au) (w:World) (hgv:GrV 0 w.heap.size w vg g) (hav:AuV 0 w.heap.size w va a) :
 Calls Tryz.prog 39 #[vg,va] w fun e w'=>∃ v',e=.returned v'/\Own w.heap.size w'.heap.size w' 120 cPr 2 v' (allL g a)/\Below w.heap.size w w':=by
 obtain ⟨R,hR⟩:∃ R,R=allL g a:=⟨_,rfl⟩
 rw [<- hR]
 have HRR:=Hd_ hR
 clear hR
 have hgv0:=hgv
 have hav0:=hav
 obtain ⟨A1,c1,A2,c2,rfl,hl1,hm1,hl2,hm2,hC1,-⟩:=hgv.form
 obtain ⟨ac,nx,rfl,hac,hnx⟩:=hav
 obtain ⟨A3,c3,rfl,hl3,hm3,-⟩:=SlE.form hac
 obtain ⟨A4,n4,c4,rfl⟩:=hnx.shape
 have hb0:Below w.heap.size w ((w.alloc (.cells #[.slice A1 g.vals.length c1,.slice A2 g.edges.length c2] 27)).alloc (.cells #[.int .i64 a.start,.slice A3 a.accept.length c3,.slice A4 n4 c4] 31)):=((Below.refl _ _).alloc (Nat.le_refl _) _).alloc (by simp) _
 have HGV:=Hd_ hgv0
 have HAV:=Hd_ hav0
 have HC1:=Hd_ hC1
 clear hgv hac hnx hgv0 hav0 hC1
 go_enter Tryz.func39,Tryz.ntmps39
 go_wp2_with fail
 obtain ⟨W0,hW0⟩:∃ W0,W0=((w.alloc (.cells #[.slice A1 g.vals.length c1,.slice A2 g.edges.length c2] 27)).alloc (.cells #[.int .i64 a.start,.slice A3 a.accept.length c3,.slice A4 n4 c4] 31)).alloc (.cells #[] 120):=⟨_,rfl⟩
 have hb0:Below w.heap.size w W0:=by rw [hW0];exact hb0.alloc hb0.size _
 rw [<- hW0]
 have bx:Blk W0 w.heap.size 27 #[.slice A1 g.vals.length c1,.slice A2 g.edges.length c2]:=by rw [hW0];exact ((Blk.new w _ _ w.heap.size rfl).alloc _).alloc _
 have by_:Blk W0 (w.heap.size+1) 31 #[.int .i64 a.start,.slice A3 a.accept.length c3,.slice A4 n4 c4]:=by rw [hW0];exact (Blk.new (w.alloc _) _ _ (w.heap.size+1) (by simp)).alloc _
 have hrow0:W0.ownsRow (w.heap.size+1+1) 120 2 (.slice (some ⟨w.heap.size+1+1,0,none⟩) 0 0) ([]:List Pr).length (([]:List Pr).flatMap cPr):=by
  rw [hW0]
  have h:=World.ownsRow_lit (base:=w.heap.size+1+1) (e:=120) (size:=2) ((w.alloc (.cells #[.slice A1 g.vals.length c1,.slice A2 g.edges.length c2] 27)).alloc (.cells #[.int .i64 a.start,.slice A3 a.accept.length c3,.slice A4 n4 c4] 31)) #[] 0 (by simp) (by decide) rfl
  simpa using h
 have x0:W0.cell? ⟨w.heap.size,0,none⟩=some (.slice A1 g.vals.length c1):=bx.cell 0
 have x1:W0.cell? ⟨w.heap.size,1,none⟩=some (.slice A2 g.edges.length c2):=bx.cell 1
 have y0:W0.cell? ⟨w.heap.size+1,0,none⟩=some (.int .i64 a.start):=by_.cell 0
 have y1:W0.cell? ⟨w.heap.size+1,1,none⟩=some (.slice A3 a.accept.length c3):=by_.cell 1
 have y2:W0.cell? ⟨w.heap.size+1,2,none⟩=some (.slice A4 n4 c4):=by_.cell 2
 have l0:=by_.lt
 have l00:=bx.lt
 have HROW0:=Hd_ hrow0
 have hsW:W0.heap.size=w.heap.size+1+1+1:=by rw [hW0];simp
 have hsW':w.heap.size+1+1 < W0.heap.size:=by omega
 have HSW:=Hd_ hsW
 clear hW0 bx by_ hrow0 hsW
 have HG:=Hd_ (fun (W:World) (hW:Below w.heap.size w W)=>show Calls Tryz.prog 80 #[_,_,.int .i64 0,.int .i64 0] W fun e w'=>e=.returned (.bool (grOk g && auOk a))/\Below W.heap.size W w' by rw [<- goodB00];exact l14Good_any _ _ g a 0 0 W (HGV.out.keep hW) (HAV.out.keep hW))
 have hR:=HRR.out
 rw [allL] at hR
 clear HRR
 cases hk:(grOk g && auOk a) with
 | false =>
   rw [hk] at HG hR
   have hr0:R=[]:=hR
   subst hr0
   have HB0:=Hd_ hb0
   clear hk hR hb0
   go_loopw [5,6] (fun oo ii wr=>oo=.slice (some ⟨w.heap.size+1+1,0,none⟩) 0 0/\ii=.int .i64 0/\wr=W0) (fun _ _ _=>0)
   case atStart=>exact ⟨rfl,rfl,rfl⟩
   case round =>
    obtain ⟨rfl,rfl,rfl⟩:=hrel
    have hO:=Hd_ ((Own.of_row (xs:=([]:List Pr)) HROW0.out rfl rfl).mono (show w.heap.size<=w.heap.size+1+1 by omega) (Nat.le_refl _))
    by_cases h0:(0:Int) < (g.vals.length:Int)
    · go_wp2_with fail
      refine (HG.out _ HB0.out).mono ?_
      rintro e w2 ⟨rfl,hb2⟩
      have HO2:=Hd_ ((hO.out.below hb2 (Nat.le_refl _)).mono (Nat.le_refl _) hb2.size)
      go_wp2_with fail
      go_ret
      exact ⟨_,rfl,HO2.out,below_trans HB0.out hb2⟩
    · go_wp2_with fail
      go_ret
      exact ⟨_,rfl,hO.out,HB0.out⟩
 | true =>
   rw [hk] at HG hR
   simp only [Bool.and_eq_true] at hk
   obtain ⟨hgo,hao⟩:=hk
   have hn5:=(grOk_iff.1 hgo).n5
   have hr1:R=allTo g a g.vals.length:=hR
   have HR:=Hd_ hr1
   have HLF:=Hd_ (fun (x:Nat) (W:World) (hW:Below w.heap.size w W) (hx:x < g.vals.length)=>l15From_any _ _ g a x W (HGV.out.keep hW) (HAV.out.keep hW) hgo hao hx)
   clear hgo hao hR hr1
   obtain ⟨gO,hgO⟩:∃ gO,gO=w.heap.size+1+1:=⟨_,rfl⟩
   rw [<- hgO] at HROW0 hsW' ⊢
   have hgw:w.heap.size+1 < gO:=by omega
   have hgs:=hsW'
   have hb5:=hb0
   obtain ⟨W5,rfl⟩:∃ W5:World,W5=W0:=⟨_,rfl⟩
   clear hgO HSW hsW' hb0
   go_loopw [5,6] (fun oo ii wr=>∃ i:Nat,i<=g.vals.length/\ii=.int .i64 (i:Int)/\wr.ownsRow gO 120 2 oo (allTo g a i).length ((allTo g a i).flatMap cPr)/\Below gO W5 wr) (fun _ ii _=>g.vals.length - (intOf ii).toNat)
   case atStart=>exact ⟨0,Nat.zero_le _,rfl,HROW0.out,Below.refl _ _⟩
   case round =>
    clear HROW0
    obtain ⟨i,hi,rfl,hrow,hbel⟩:=hrel
    have x0:=(hbel.cell (p:=⟨w.heap.size,0,none⟩) (by simp only;omega)).trans x0
    have x1:=(hbel.cell (p:=⟨w.heap.size,1,none⟩) (by simp only;omega)).trans x1
    have y0:=(hbel.cell (p:=⟨w.heap.size+1,0,none⟩) (by simp only;omega)).trans y0
    have y1:=(hbel.cell (p:=⟨w.heap.size+1,1,none⟩) (by simp only;omega)).trans y1
    have y2:=(hbel.cell (p:=⟨w.heap.size+1,2,none⟩) (by simp only;omega)).trans y2
    have hsz:=hbel.size
    have l0:=Nat.lt_of_lt_of_le l0 hsz
    have l00:=Nat.lt_of_lt_of_le l00 hsz
    have hbw:=hb5.trans (hbel.mono (show w.heap.size<=gO by omega))
    have HBW:=Hd_ hbw
    have HROW:=Hd_ hrow
    have HBEL:=Hd_ hbel
    have hfl:=allTo_len g a i
    clear hrow hbw hbel
    obtain ⟨wo,rfl⟩:∃ wo:World,wo=wr:=⟨_,rfl⟩
    by_cases hlt:i < g.vals.length
    · have hii:(i:Int) < (g.vals.length:Int):=by omega
      go_wp2_with fail
      refine (HG.out _ HBW.out).mono ?_
      rintro e w2 ⟨rfl,hb2⟩
      have hbw2:=below_trans HBW.out hb2
      have x0:=kcell hb2 x0
      have x1:=kcell hb2 x1
      have y0:=kcell hb2 y0
      have y1:=kcell hb2 y1
      have y2:=kcell hb2 y2
      have HROW:=Hd_ (ownsRow_below HROW.out hb2 (Nat.le_refl _))
      have hs2:=hb2.size
      have l0:=Nat.lt_of_lt_of_le l0 hs2
      have l00:=Nat.lt_of_lt_of_le l00 hs2
      have HBEL:=Hd_ (HBEL.out.trans (hb2.mono (show gO<=wo.heap.size by omega)))
      have hsz:=HBEL.out.size
      clear hb2
      obtain ⟨wp,rfl⟩:∃ wp:World,wp=wo:=⟨_,rfl⟩
      obtain ⟨wo,rfl⟩:∃ wo:World,wo=w2:=⟨_,rfl⟩
      go_wp2_with fail
      refine (HLF.out i _ hbw2 hlt).mono ?_
      rintro e w6 ⟨v6,rfl,ho6,hb6⟩
      have hs6:=hb6.size
      have x0:=kcell hb6 x0
      have x1:=kcell hb6 x1
      have y0:=kcell hb6 y0
      have y1:=kcell hb6 y1
      have y2:=kcell hb6 y2
      have l0:=Nat.lt_of_lt_of_le l0 hs6
      have l00:=Nat.lt_of_lt_of_le l00 hs6
      have HB6:=Hd_ hb6
      have HR6:=Hd_ (ownsRow_below HROW.out hb6 (Nat.le_refl _))
      have hob6:=HROW.out.lt
      have HC6:=Hd_ (ho6.sl cI_len)
      obtain ⟨A6,c6,rfl,hl6,hm6,-⟩:=ho6.form cI_len
      have HT1:=Hd_ (allTo_snoc g a i)
      have hln:=ansL_len g a (i:Int)
      have HRW:=Hd_ (fun (k:Nat) (y:Int) (h:(ansL g a (i:Int))[k]?=some y)=>allRow_snoc (g:=g) (a:=a) (x:=i) h)
      have HR0:=Hd_ (allRow_zero g a i)
      have hrl:=allRow_len g a i
      have HRL:=Hd_ hrl
      clear ho6 hrl
      generalize ansL g a (i:Int)=l at *
      generalize allTo g a i=L at *
      obtain ⟨N,hN⟩:∃ N,N=l.length:=⟨_,rfl⟩
      rw [<- hN] at hl6 hln HT1 ⊢
      have HN:=Hd_ hN
      clear hN
      go_wp2_with fail
      go_loopw [5,8] (fun oo jj wr=>∃ j:Nat,j<=N/\jj=.int .i64 (j:Int)/\wr.ownsRow gO 120 2 oo (L ++ allRow g a i j).length ((L ++ allRow g a i j).flatMap cPr)/\Only gO wo.heap.size w6 wr/\(∀ b,oo.ownBlock=some b->(gO<=b/\b < wo.heap.size) ∨ w6.heap.size<=b)) (fun _ jj _=>N - (intOf jj).toNat)
      case atStart=>exact ⟨0,Nat.zero_le _,rfl,by rw [HR0.out,List.append_nil];exact HR6.out,Only.refl _ _ _,fun b hb=>.inl (hob6 b hb)⟩
      case round =>
       clear HR6 hob6
       obtain ⟨j,hj,rfl,hrow,hon,hob⟩:=hrel
       have x0:=ocell hon x0 l00 (.inl (by omega))
       have x1:=ocell hon x1 l00 (.inl (by omega))
       have y0:=ocell hon y0 l0 (.inl (by omega))
       have y1:=ocell hon y1 l0 (.inl (by omega))
       have y2:=ocell hon y2 l0 (.inl (by omega))
       have hsz2:=hon.size
       have HROW2:=Hd_ hrow
       have HON:=Hd_ hon
       have HOB:=Hd_ hob
       have hrl:=HRL.out j
       clear hrow hon hob
       by_cases hlj:j < N
       · have hjj:(j:Int) < (N:Int):=by omega
         have hyi:=getD_of (D:=l) (k:=j) (by have:=HN.out;omega)
         obtain ⟨b6,o6,rfl,hb60,hb6x,d6⟩:=HC6.out.intI hyi
         have d6:=ocell HON.out d6 hb6x (.inr (by omega))
         have hb6w:b6 < wr.heap.size:=by omega
         have HSN:=Hd_ (show (L ++ allRow g a i j) ++ [((i:Int),l.getD j 0)]=L ++ allRow g a i (j+1) by rw [HRW.out j _ hyi,List.append_assoc])
         have hll:(L ++ allRow g a i j).length<=1000:=by rw [List.length_append];omega
         clear hyi
         generalize l.getD j 0=yy at *
         generalize L ++ allRow g a i j=LL at *
         go_wp2_with (at_builtin;(refine wpList_append1 cPr elPair rfl _ _ rfl gO _ LL ((i:Int),yy) _ 1 _ (by rfl) HROW2.out (by rfl) rfl rfl rfl (cPr_one _) (by omega) (by omega) (by omega) ?_);intro v' w4 hrow' hb4 hat4 hgr4)
         go_roundw
         case rel =>
          refine ⟨j+1,by omega,by go_num,by rw [<- HSN.out];exact hrow',(HON.out.alloc _).grown hgr4 (fun b hb=>HOB.out b hb),fun b hb=>?_⟩
          rcases hat4 with h1 | ⟨g1,h1,h2⟩
          · exact HOB.out b (by rw [<- h1];exact hb)
          · rw [h1] at hb
            injection hb with hb
            exact .inr (by omega)
         case measure=>simp [intOf];omega
       · obtain rfl:j=N:=by omega
         rw [<- HT1.out] at HROW2
         have HBX:=Hd_ (HBEL.out.trans ((HB6.out.mono (show gO<=wo.heap.size by omega)).trans (HON.out.below (Nat.le_refl _) (by omega))))
         go_wp2_with fail
         go_roundw
         case rel=>exact ⟨i+1,by omega,by go_num,HROW2.out,HBX.out⟩
         case measure=>simp [intOf];omega
    ·
     obtain rfl:i=g.vals.length:=by omega
     have hown:=Own.of_row (xs:=allTo g a g.vals.length) HROW.out rfl rfl
     rw [<- HR.out] at hown
     obtain ⟨A9,n9,c9,rfl⟩:=hown.shape
     have HO:=Hd_ (hown.mono (show w.heap.size<=gO by omega) (Nat.le_refl _))
     clear hown
     go_wp2_with fail
     go_ret
     exact ⟨_,rfl,HO.out,HBW.out⟩
/-- the cursor's bytes do not lie in blocks whose cells are no bytes -/
theorem Cur.off {w w':World} {b l r:Nat} (hc:Cur w b) (ho:Only l r w w') (hr:r<=b) (hn:∀ q,l<=q->q < r->∀ o (x:Int),w.cell? ⟨q,o,none⟩ ≠ some (.int .u8 x)):Cur w' b:=by
 obtain ⟨A,bs,c,i,h,h1,⟨A',c',hv,hl,hm,hx⟩,h3⟩:=hc
 have hbl:=h1.lt
 refine ⟨A,bs,c,i,h,h1.only ho (.inr hr),⟨A',c',hv,hl,hm,fun k u hk=>?_⟩,h3⟩
 obtain ⟨q,o,hA,h0,hqb,hcc⟩:=hx k u hk
 have hqr:q < l ∨ r<=q:=by
  rcases Nat.lt_or_ge q l with h5 | h5
  · exact .inl h5
  · rcases Nat.lt_or_ge q r with h6 | h6
    · exact absurd (hcc 0 _ rfl) (hn q h5 h6 _ _)
    · exact .inr h6
 exact ⟨q,o,hA,h0,hqb,fun j t ht=>(ho.cell (p:=⟨q,o+k * 1+j,none⟩) (by simp only;omega) (by simp only;omega)).trans (hcc j t ht)⟩
/-- a graph in the block gq, an automaton in aq, the cursor in b; the results' blocks r and r + 1 -/
structure GaR (b r gq aq:Nat) (w0 w:World) (gs es:Value) (g:Gr) (ac nx:Value) (a:Au):Prop where
 res1:Blk w r 27 #[.slice none 0 0,.slice none 0 0]
 res2:Blk w (r+1) 31 #[.int .i64 0,.slice none 0 0,.slice none 0 0]
 gbk:Blk w gq 27 #[gs,es]
 abk:Blk w aq 31 #[.int .i64 a.start,ac,nx]
 gv:GrV (b+1) gq w (.agg #[gs,es]) g
 av:AuV (b+1) gq w (.agg #[.int .i64 a.start,ac,nx]) a
 cur:Cur w b
 bel:Below w0.heap.size w0 w
 at0:w0.heap.size=r
 e11:g.edges.length<=11
 ord:r+1 < b/\b < gq/\gq < aq
section
variable {b r gq aq:Nat} {w0 w w':World} {gs es:Value} {g:Gr} {ac nx:Value} {a:Au}
theorem GaR.step (h:GaR b r gq aq w0 w gs es g ac nx a) (ho:Only b (b+1) w w') (hc:Cur w' b):GaR b r gq aq w0 w' gs es g ac nx a:=by
 have hd:=h.ord
 have hq:=h.abk.lt
 have h0:=h.at0
 exact ⟨h.res1.only ho (.inl (by omega)),h.res2.only ho (.inl (by omega)),h.gbk.only ho (.inr (by omega)),h.abk.only ho (.inr (by omega)),h.gv.only ho (by omega) (.inr (by omega)),h.av.only ho (by omega) (.inr (by omega)),hc,h.bel.trans (ho.below (B:=w0.heap.size) (by omega) h.bel.size),h.at0,h.e11,hd⟩
theorem GaR.keep (h:GaR b r gq aq w0 w gs es g ac nx a) (hb:Below w.heap.size w w'):GaR b r gq aq w0 w' gs es g ac nx a:=by
 have hd:=h.ord
 have hq:=h.abk.lt
 exact ⟨h.res1.keep hb,h.res2.keep hb,h.gbk.keep hb,h.abk.keep hb,h.gv.below hb (by omega),h.av.below hb (by omega),h.cur.keep hb,below_trans h.bel hb,h.at0,h.e11,hd⟩
theorem GaR.drew (h:GaR b r gq aq w0 w gs es g ac nx a):GaR b r gq aq w0 w.drew gs es g ac nx a:=h.keep (Below.refl w.heap.size w).drew
theorem GaR.grv (h:GaR b r gq aq w0 w gs es g ac nx a):GrV 0 w.heap.size w (.agg #[gs,es]) g:=h.gv.mono (Nat.zero_le _) (by have:=h.ord;have:=h.abk.lt;omega)
theorem GaR.auv (h:GaR b r gq aq w0 w gs es g ac nx a):AuV 0 w.heap.size w (.agg #[.int .i64 a.start,ac,nx]) a:=h.av.mono (Nat.zero_le _) (by have:=h.ord;have:=h.abk.lt;omega)
theorem GaR.fin (h:GaR b r gq aq w0 w gs es g ac nx a) (ho:Only r (r+2) w w') :
 w0.heap.size<=b/\GrV (b+1) w'.heap.size w' (.agg #[gs,es]) g/\g.edges.length<=11/\AuV (b+1) w'.heap.size w' (.agg #[.int .i64 a.start,ac,nx]) a/\Cur w' b/\Below w0.heap.size w0 w':=by
 have hd:=h.ord
 have h0:=h.at0
 have hq:=h.abk.lt
 have hs:=ho.size
 refine ⟨by omega,(h.gv.only ho (by omega) (.inr (by omega))).mono (Nat.le_refl _) (by omega),h.e11,(h.av.only ho (by omega) (.inr (by omega))).mono (Nat.le_refl _) (by omega),h.cur.off ho (by omega) (fun q h1 h2 o x=>?_),h.bel.trans (ho.below (B:=w0.heap.size) (by omega) h.bel.size)⟩
 obtain rfl | rfl:q=r ∨ q=r+1:=by omega
 · rw [h.res1.cell]
   rcases o with _ | _ | o <;> simp
 · rw [h.res2.cell]
   rcases o with _ | _ | _ | o <;> simp
/-- the same, the cursor forgotten -/
theorem GaR.fin0 (h:GaR b r gq aq w0 w gs es g ac nx a) (ho:Only r (r+2) w w') :
 GrV 0 w'.heap.size w' (.agg #[gs,es]) g/\g.edges.length<=11/\AuV 0 w'.heap.size w' (.agg #[.int .i64 a.start,ac,nx]) a/\Below w0.heap.size w0 w':=by
 obtain ⟨-,h1,h2,h3,-,h4⟩:=h.fin ho
 exact ⟨h1.mono (Nat.zero_le _) (Nat.le_refl _),h2,h3.mono (Nat.zero_le _) (Nat.le_refl _),h4⟩
theorem GaR.blks (h:GaR b r gq aq w0 w gs es g ac nx a) (ho:Only r (r+2) w w'):Blk w' gq 27 #[gs,es]/\Blk w' aq 31 #[.int .i64 a.start,ac,nx]:=by
 have hd:=h.ord
 exact ⟨h.gbk.only ho (.inr (by omega)),h.abk.only ho (.inr (by omega))⟩
/-- behind the first store -/
theorem GaR.put (h:GaR b r gq aq w0 w gs es g ac nx a) (v1 v2:Value) :
 Only r (r+2) w ((w.setCell ⟨r,0,none⟩ v1).setCell ⟨r,1,none⟩ v2)/\Blk ((w.setCell ⟨r,0,none⟩ v1).setCell ⟨r,1,none⟩ v2) (r+1) 31 #[.int .i64 0,.slice none 0 0,.slice none 0 0]:=by
 have ho:=Only.put2 w r v1 v2
 exact ⟨((Only.refl r (r+2) w).setCell (p:=⟨r,0,none⟩) (.inl (by simp only;omega)) _).setCell (p:=⟨r,1,none⟩) (.inl (by simp only;omega)) _,h.res2.only ho (.inr (by omega))⟩
end
def putGC (w:World) (r:Nat) (gs es st ac nx:Value):World:=((((w.setCell ⟨r,0,none⟩ gs).setCell ⟨r,1,none⟩ es).setCell ⟨r+1,0,none⟩ st).setCell ⟨r+1,1,none⟩ ac).setCell ⟨r+1,2,none⟩ nx
theorem putGC_only (w:World) (r:Nat) (gs es st ac nx:Value):Only r (r+2) w (putGC w r gs es st ac nx):=(((((Only.refl r (r+2) w).setCell (p:=⟨r,0,none⟩) (.inl (by simp only;omega)) _).setCell (p:=⟨r,1,none⟩) (.inl (by simp only;omega)) _).setCell (p:=⟨r+1,0,none⟩) (.inl (by simp only;omega)) _).setCell (p:=⟨r+1,1,none⟩) (.inl (by simp only;omega)) _).setCell (p:=⟨r+1,2,none⟩) (.inl (by simp only;omega)) _
theorem grT_len {lo hi:Nat} {w:World} {A1 A2:Option Addr} {n1 c1 n2 c2:Nat} {g:Gr} (h:GrV lo hi w (.agg #[.slice A1 n1 c1,.slice A2 n2 c2]) g):n1<=maxLen:=by
 obtain ⟨vs,es,hv,⟨A,c,rfl,hl,hm,-⟩,-⟩:=h
 simp at hv
 obtain ⟨⟨-,h2,-⟩,-⟩:=hv
 omega
theorem prAtT {lo hi:Nat} {w:World} {A:Option Addr} {n c:Nat} {xs:List Pr} (h:SlI lo hi w cPr 2 (.slice A n c) xs) {i:Nat} {x:Pr} (hx:xs[i]?=some x) :
 ∃ b o,A=some ⟨b,o,none⟩/\lo<=b/\b < hi/\w.cell? ⟨b,o+i * 2,none⟩=some (.int .i64 x.1)/\w.cell? ⟨b,o+i * 2+1,none⟩=some (.int .i64 x.2):=by
 obtain ⟨A',c',hv,_,_,h3⟩:=h
 injection hv with h1 _ _
 subst h1
 obtain ⟨b,o,e,g1,g2,hc⟩:=h3 i x hx
 exact ⟨b,o,e,g1,g2,by simpa using hc 0 _ rfl,hc 1 _ rfl⟩
def FiveOut (w:World) (e:Ending) (w':World):Prop:=∃ vg va g a x y d,e=.returned (.tuple #[vg,va,.int .i64 x,.int .i64 y,.int .i64 d])/\(GrV 0 w'.heap.size w' vg g/\g.edges.length<=11/\AuV 0 w'.heap.size w' va a/\Below w.heap.size w w')
def DuoOut (w:World) (e:Ending) (w':World):Prop:=∃ b vg va g a x y,e=.returned (.tuple #[.pointer (some ⟨b,0,none⟩),vg,va,.int .i64 x,.int .i64 y])/\(w.heap.size<=b/\GrV (b+1) w'.heap.size w' vg g/\g.edges.length<=11/\AuV (b+1) w'.heap.size w' va a/\Cur w' b/\Below w.heap.size w w')
theorem slTake {α:Type} {lo hi:Nat} {w:World} {E:α->List Value} {k n c m:Nat} {A:Option Addr} {xs:List α} (h:SlI lo hi w E k (.slice A n c) xs) (hm:m<=n):SlI lo hi w E k (.slice A m c) (xs.take m):=by
 obtain ⟨A',c',hv,hl,hc,hx⟩:=h
 injection hv with h1 h2 h3
 subst h1 h3 h2
 refine ⟨_,c,by rw [List.length_take,Nat.min_eq_left hm],by rw [List.length_take];omega,hc,fun i x hi=>hx i x ?_⟩
 rw [List.getElem?_take] at hi
 split at hi
 · exact hi
 · cases hi
/-- the graph with its first edges alone -/
def Gr.cutE (g:Gr) (m:Nat):Gr:=⟨g.vals,g.edges.take m⟩
theorem GrV.cutE {lo hi:Nat} {w:World} {vs:Value} {A:Option Addr} {n c m:Nat} {g:Gr} (h:GrV lo hi w (.agg #[vs,.slice A n c]) g) (hm:m<=n):GrV lo hi w (.agg #[vs,.slice A m c]) (g.cutE m):=by
 obtain ⟨vs',es,hv,h1,h2⟩:=h
 simp only [Value.agg.injEq,Array.mk.injEq,List.cons.injEq,and_true] at hv
 obtain ⟨rfl,rfl⟩:=hv
 exact ⟨_,_,rfl,h1,slTake h2 hm⟩
/-- a graph in the block gq, an automaton in aq, the cursor in b; the results' blocks r and r + 1; the automaton's rows lie above gq -/
structure GbR (b r gq aq:Nat) (w0 w:World) (gs es:Value) (g:Gr) (ac nx:Value) (a:Au):Prop where
 res1:Blk w r 27 #[.slice none 0 0,.slice none 0 0]
 res2:Blk w (r+1) 31 #[.int .i64 0,.slice none 0 0,.slice none 0 0]
 gbk:Blk w gq 27 #[gs,es]
 abk:Blk w aq 31 #[.int .i64 a.start,ac,nx]
 gv:GrV (b+1) gq w (.agg #[gs,es]) g
 av:∃ lo hi,AuV lo hi w (.agg #[.int .i64 a.start,ac,nx]) a/\gq < lo/\hi<=w.heap.size/\(aq < lo ∨ hi<=aq)
 cur:Cur w b
 bel:Below w0.heap.size w0 w
 at0:w0.heap.size=r
 e11:g.edges.length<=11
 ord:r+1 < b/\b < gq/\gq < aq
section
variable {b r gq aq:Nat} {w0 w w':World} {gs es:Value} {g:Gr} {ac nx:Value} {a:Au}
theorem GbR.step (h:GbR b r gq aq w0 w gs es g ac nx a) (ho:Only b (b+1) w w') (hc:Cur w' b):GbR b r gq aq w0 w' gs es g ac nx a:=by
 have hd:=h.ord
 have hq:=h.abk.lt
 have h0:=h.at0
 obtain ⟨lo,hi,k1,k2,k3,k4⟩:=h.av
 exact ⟨h.res1.only ho (.inl (by omega)),h.res2.only ho (.inl (by omega)),h.gbk.only ho (.inr (by omega)),h.abk.only ho (.inr (by omega)),h.gv.only ho (by omega) (.inr (by omega)),⟨lo,hi,k1.only ho k3 (.inr (by omega)),k2,Nat.le_trans k3 ho.size,k4⟩,hc,h.bel.trans (ho.below (B:=w0.heap.size) (by omega) h.bel.size),h.at0,h.e11,hd⟩
theorem GbR.keep (h:GbR b r gq aq w0 w gs es g ac nx a) (hb:Below w.heap.size w w'):GbR b r gq aq w0 w' gs es g ac nx a:=by
 have hd:=h.ord
 have hq:=h.abk.lt
 obtain ⟨lo,hi,k1,k2,k3,k4⟩:=h.av
 exact ⟨h.res1.keep hb,h.res2.keep hb,h.gbk.keep hb,h.abk.keep hb,h.gv.below hb (by omega),⟨lo,hi,k1.below hb k3,k2,Nat.le_trans k3 hb.size,k4⟩,h.cur.keep hb,below_trans h.bel hb,h.at0,h.e11,hd⟩
theorem GbR.drew (h:GbR b r gq aq w0 w gs es g ac nx a):GbR b r gq aq w0 w.drew gs es g ac nx a:=h.keep (Below.refl w.heap.size w).drew
theorem GbR.setA {ac' nx':Value} {a':Au} {lo:Nat} (h:GbR b r gq aq w0 w gs es g ac nx a) (ha:AuV lo w.heap.size w (.agg #[.int .i64 a'.start,ac',nx']) a') (hlo:aq < lo):GbR b r gq aq w0 (put3 w aq (.int .i64 a'.start) ac' nx') gs es g ac' nx' a':=by
 have hd:=h.ord
 have h0:=h.at0
 have hq:=h.abk.lt
 have ho:=put3_only w aq (.int .i64 a'.start) ac' nx'
 exact ⟨h.res1.only ho (.inl (by omega)),h.res2.only ho (.inl (by omega)),h.gbk.only ho (.inl (by omega)),((h.abk.set_ 0 (.int .i64 a'.start)).set_ 1 ac').set_ 2 nx',h.gv.only ho (by omega) (.inl (by omega)),⟨lo,w.heap.size,ha.only ho (Nat.le_refl _) (.inr (by omega)),by omega,ho.size,.inl (by omega)⟩,h.cur.only ho (by omega),
  h.bel.trans (ho.below (B:=w0.heap.size) (by omega) h.bel.size),h.at0,h.e11,hd⟩
theorem GbR.grv (h:GbR b r gq aq w0 w gs es g ac nx a):GrV 0 w.heap.size w (.agg #[gs,es]) g:=h.gv.mono (Nat.zero_le _) (by have:=h.ord;have:=h.abk.lt;omega)
theorem GbR.auv (h:GbR b r gq aq w0 w gs es g ac nx a):AuV 0 w.heap.size w (.agg #[.int .i64 a.start,ac,nx]) a:=by
 obtain ⟨lo,hi,k1,k2,k3,k4⟩:=h.av
 exact k1.mono (Nat.zero_le _) k3
theorem GbR.fin (h:GbR b r gq aq w0 w gs es g ac nx a) (ho:Only r (r+2) w w') :
 w0.heap.size<=b/\GrV (b+1) w'.heap.size w' (.agg #[gs,es]) g/\g.edges.length<=11/\AuV (b+1) w'.heap.size w' (.agg #[.int .i64 a.start,ac,nx]) a/\Cur w' b/\Below w0.heap.size w0 w':=by
 have hd:=h.ord
 have h0:=h.at0
 have hq:=h.abk.lt
 have hs:=ho.size
 obtain ⟨lo,hi,k1,k2,k3,k4⟩:=h.av
 refine ⟨by omega,(h.gv.only ho (by omega) (.inr (by omega))).mono (Nat.le_refl _) (by omega),h.e11,(k1.only ho k3 (.inr (by omega))).mono (by omega) (by omega),h.cur.off ho (by omega) (fun q h1 h2 o x=>?_),h.bel.trans (ho.below (B:=w0.heap.size) (by omega) h.bel.size)⟩
 obtain rfl | rfl:q=r ∨ q=r+1:=by omega
 · rw [h.res1.cell]
   rcases o with _ | _ | o <;> simp
 · rw [h.res2.cell]
   rcases o with _ | _ | _ | o <;> simp
theorem GbR.blks (h:GbR b r gq aq w0 w gs es g ac nx a) (ho:Only r (r+2) w w'):Blk w' gq 27 #[gs,es]/\Blk w' aq 31 #[.int .i64 a.start,ac,nx]:=by
 have hd:=h.ord
 exact ⟨h.gbk.only ho (.inr (by omega)),h.abk.only ho (.inr (by omega))⟩
theorem GbR.put (h:GbR b r gq aq w0 w gs es g ac nx a) (v1 v2:Value) :
 Only r (r+2) w ((w.setCell ⟨r,0,none⟩ v1).setCell ⟨r,1,none⟩ v2)/\Blk ((w.setCell ⟨r,0,none⟩ v1).setCell ⟨r,1,none⟩ v2) (r+1) 31 #[.int .i64 0,.slice none 0 0,.slice none 0 0]:=by
 have ho:=Only.put2 w r v1 v2
 exact ⟨((Only.refl r (r+2) w).setCell (p:=⟨r,0,none⟩) (.inl (by simp only;omega)) _).setCell (p:=⟨r,1,none⟩) (.inl (by simp only;omega)) _,h.res2.only ho (.inr (by omega))⟩
theorem GbR.fin0 (h:GbR b r gq aq w0 w gs es g ac nx a) (ho:Only r (r+2) w w') :
 GrV 0 w'.heap.size w' (.agg #[gs,es]) g/\g.edges.length<=11/\AuV 0 w'.heap.size w' (.agg #[.int .i64 a.start,ac,nx]) a/\Below w0.heap.size w0 w':=by
 obtain ⟨-,h1,h2,h3,-,h4⟩:=h.fin ho
 exact ⟨h1.mono (Nat.zero_le _) (Nat.le_refl _),h2,h3.mono (Nat.zero_le _) (Nat.le_refl _),h4⟩
end
def CutGOut (b:Nat) (w:World) (e:Ending) (w':World):Prop:=∃ v g,e=.returned v/\(GrV w.heap.size w'.heap.size w' v g/\g.edges.length<=11/\Cur w' b/\Only b (b+1) w w')
theorem cutG_done {b r:Nat} {w0 w:World} {d0 d1:Value} {g:Gr} {lo hi:Nat} (hg:GrV lo hi w (.agg #[d0,d1]) g) (h1:r < lo) (h2:hi<=w.heap.size) (hc:Cur w b) (hb:b < r) (ho:Only b (b+1) w0 w) (h0:w0.heap.size=r) (he:g.edges.length<=11) :
 GrV w0.heap.size ((w.setCell ⟨r,0,none⟩ d0).setCell ⟨r,1,none⟩ d1).heap.size ((w.setCell ⟨r,0,none⟩ d0).setCell ⟨r,1,none⟩ d1) (.agg #[d0,d1]) g/\g.edges.length<=11/\Cur ((w.setCell ⟨r,0,none⟩ d0).setCell ⟨r,1,none⟩ d1) b/\Only b (b+1) w0 ((w.setCell ⟨r,0,none⟩ d0).setCell ⟨r,1,none⟩ d1):=by
 have hp:=Only.put2 w r d0 d1
 have hs:=hp.size
 exact ⟨(hg.only hp h2 (.inr (by omega))).mono (by omega) (by omega),he,hc.only hp (by omega),(ho.setCell (p:=⟨r,0,none⟩) (.inr (by simp only;omega)) _).setCell (p:=⟨r,1,none⟩) (.inr (by simp only;omega)) _⟩
set_option maxHeartbeats 4000000 in
theorem l20Graph_any (b m:Nat) (mi:Int) (w:World) (hc:Cur w b) (hmi:mi=(m:Int)) (hm:m<=100) :
 Calls Tryz.prog 85 #[.pointer (some ⟨b,0,none⟩),.int .i64 mi] w (CutGOut b w):=by
 subst hmi
 have hbw:=hc.lt
 have hb0:=(Below.refl w.heap.size w).alloc (Nat.le_refl _) (.cells #[.slice none 0 0,.slice none 0 0] 27)
 have hbr:=Blk.new w 27 #[.slice none 0 0,.slice none 0 0] _ rfl
 have hs0:(w.alloc (.cells #[.slice none 0 0,.slice none 0 0] 27)).heap.size=w.heap.size+1:=by simp
 go_enter Tryz.func85,Tryz.ntmps85
 go_wp2_with fail
 refine (l3Graph_any b _ (hc.keep hb0)).mono ?_
 rintro e w1 ⟨v,g,rfl,hgo,⟨-,-,hg10⟩,hc1,ho1⟩
 have hgv:=hgo.view
 obtain ⟨A1,n1,c1,A2,n2,c2,rfl⟩:=hgv.shape
 rw [hs0] at hgv
 have hs1:=ho1.size
 rw [hs0] at hs1
 have hal:=(Below.refl w1.heap.size w1).alloc (Nat.le_refl _) (.cells #[.slice A1 n1 c1,.slice A2 n2 c2] 27)
 have hgb:=Blk.new w1 27 #[.slice A1 n1 c1,.slice A2 n2 c2] _ rfl
 have HR:=Hd_ ((hbr.only ho1 (.inr (by omega))).keep hal)
 have HGV:=Hd_ (hgv.below hal (Nat.le_refl _))
 have HC:=Hd_ (hc1.keep hal)
 have HO:=Hd_ (((Only.of_below hb0 b (b+1)).trans ho1).trans (Only.of_below hal b (b+1)))
 have hn:n2<=c2/\c2<=maxLen/\(0 < n2->∃ q o,A2=some ⟨q,o,none⟩):=by
  obtain ⟨vs,es,hv,-,⟨A',c',rfl,hl,hm',hx⟩⟩:=hgv
  simp only [Value.agg.injEq,Array.mk.injEq,List.cons.injEq,and_true,Value.slice.injEq] at hv
  obtain ⟨-,rfl,rfl,rfl⟩:=hv
  refine ⟨hl,hm',fun h=>?_⟩
  obtain ⟨q,o,hA,-⟩:=hx 0 _ (List.getElem?_eq_getElem h)
  exact ⟨q,o,hA⟩
 obtain ⟨hn2c,hc2m,hA2⟩:=hn
 unfold maxLen at hc2m
 obtain ⟨gq,hgq⟩:∃ gq,gq=w1.heap.size:=⟨_,rfl⟩
 rw [<- hgq] at hgb hs1 HGV
 have hlt:b < gq:=by omega
 clear hgo hgv hc1 ho1 hbr hb0 hs0 hc hal
 go_upto_region 2 with fail
 rw [<- hgq]
 generalize w1.alloc (.cells #[.slice A1 n1 c1,.slice A2 n2 c2] 27)=W1 at *
 clear hgq
 have hgl:=hgb.lt
 by_cases hmn:m < n2
 · obtain ⟨q,o,rfl⟩:=hA2 (by omega)
   have hde:((m:Int) < (n2:Int)):=by omega
   have x0:W1.cell? ⟨gq,0,none⟩=some (.slice A1 n1 c1):=hgb.cell 0
   have x1:W1.cell? ⟨gq,1,none⟩=some (.slice (some ⟨q,o,none⟩) n2 c2):=hgb.cell 1
   have f1:=hgb.frozen 1
   have hmc:m<=c2:=by omega
   go_upto_region 4 with fail
   have hbl:=hgb.set_ 1 (.slice (some ⟨q,o,none⟩) m c2)
   have ho2:Only gq (gq+1) W1 (W1.setCell ⟨gq,1,none⟩ (.slice (some ⟨q,o,none⟩) m c2)):=(Only.refl _ _ _).setCell (p:=⟨gq,1,none⟩) (.inl ⟨Nat.le_refl _,Nat.lt_succ_self _⟩) _
   have hgv2:=(HGV.out.cutE (m:=m) (by omega)).only ho2 (by omega) (.inl (Nat.le_refl _))
   have hc2:=HC.out.only ho2 hlt
   have hO2:=HO.out.setCell (p:=⟨gq,1,none⟩) (.inr (by simp only;omega)) (.slice (some ⟨q,o,none⟩) m c2)
   have hr2:=HR.out.only ho2 (.inl (by omega))
   clear ho2 x0 x1 f1 HGV HC HO HR hgb
   generalize W1.setCell ⟨gq,1,none⟩ (.slice (some ⟨q,o,none⟩) m c2)=W2 at *
   have x0:W2.cell? ⟨gq,0,none⟩=some (.slice A1 n1 c1):=hbl.cell 0
   have x1:W2.cell? ⟨gq,1,none⟩=some (.slice (some ⟨q,o,none⟩) m c2):=hbl.cell 1
   have z0:W2.cell? ⟨w.heap.size,0,none⟩=some (.slice none 0 0):=hr2.cell 0
   have z1:W2.cell? ⟨w.heap.size,1,none⟩=some (.slice none 0 0):=hr2.cell 1
   have v0:=hr2.frozen 0
   have v1:=hr2.frozen 1
   have hlr:=hr2.lt
   have hgl2:=hbl.lt
   have HD:=Hd_ (cutG_done (r:=w.heap.size) hgv2 (Nat.lt_succ_self _) (by omega) hc2 hbw hO2 rfl (by simp only [Gr.cutE,List.length_take];omega))
   clear hgv2 hc2 hO2 hr2 hbl
   go_wp2_with fail
   exact bodyPost_ret (v:=.agg #[.slice A1 n1 c1,.slice (some ⟨q,o,none⟩) m c2]) (by simp [results,Tryz.results85,go_sem,z0,z1,v0,v1]) rfl ⟨_,_,rfl,HD.out⟩
 · have hde:¬ ((m:Int) < (n2:Int)):=by omega
   have x0:W1.cell? ⟨gq,0,none⟩=some (.slice A1 n1 c1):=hgb.cell 0
   have x1:W1.cell? ⟨gq,1,none⟩=some (.slice A2 n2 c2):=hgb.cell 1
   have z0:W1.cell? ⟨w.heap.size,0,none⟩=some (.slice none 0 0):=HR.out.cell 0
   have z1:W1.cell? ⟨w.heap.size,1,none⟩=some (.slice none 0 0):=HR.out.cell 1
   have v0:=HR.out.frozen 0
   have v1:=HR.out.frozen 1
   have hlr:=HR.out.lt
   go_wp2_with fail
   have HD:=cutG_done (r:=w.heap.size) HGV.out (Nat.lt_succ_self _) (by omega) HC.out hbw HO.out rfl (by omega)
   exact bodyPost_ret (v:=.agg #[.slice A1 n1 c1,.slice A2 n2 c2]) (by simp [results,Tryz.results85,go_sem,z0,z1,v0,v1]) rfl ⟨_,g,rfl,HD⟩
set_option maxHeartbeats 8000000 in
theorem l20Two_any (v:Value) (bs:List Int) (w:World) (hv:SlI 0 w.heap.size w cU 1 v bs) :
 Calls Tryz.prog 64 #[v] w (DuoOut w):=by
 have HV:=Hd_ hv
 have hb0:=((Below.refl w.heap.size w).alloc (Nat.le_refl _) (.cells #[.slice none 0 0,.slice none 0 0] 27)).alloc (by simp) (.cells #[.int .i64 0,.slice none 0 0,.slice none 0 0] 31)
 have hb1:=(Blk.new w 27 #[.slice none 0 0,.slice none 0 0] _ rfl).alloc (.cells #[.int .i64 0,.slice none 0 0,.slice none 0 0] 31)
 have hb2:=Blk.new (w.alloc (.cells #[.slice none 0 0,.slice none 0 0] 27)) 31 #[.int .i64 0,.slice none 0 0,.slice none 0 0] (w.heap.size+1) (by simp)
 have hs0:((w.alloc (.cells #[.slice none 0 0,.slice none 0 0] 27)).alloc (.cells #[.int .i64 0,.slice none 0 0,.slice none 0 0] 31)).heap.size=w.heap.size+2:=by simp
 obtain ⟨A,n,c,rfl⟩:=hv.shape
 clear hv
 go_enter Tryz.func64,Tryz.ntmps64
 go_wp2_with fail
 refine (l1New_any _ bs _ ((HV.out.below hb0 (Nat.le_refl _)).mono (Nat.le_refl _) hb0.size)).mono ?_
 rintro e w1 ⟨b,rfl,hbl,hc1,hbw⟩
 have hr1:=hb1.keep hbw
 have hr2:=hb2.keep hbw
 have hb3:=below_trans hb0 hbw
 rw [hs0] at hbl
 clear hbw hb1 hb2 hb0 hs0 HV
 go_wp2_with fail
 refine (l20Graph_any b 8 _ _ hc1 rfl (by omega)).mono ?_
 rintro e w2 ⟨vg,g,rfl,hgv,he11,hc2,ho2⟩
 have hlb:=hc1.lt
 obtain ⟨A1,n1,c1,A2,n2,c2,rfl⟩:=hgv.shape
 have hn1:=grT_len hgv
 have hs2:=ho2.size
 have hal:=(Below.refl w2.heap.size w2).alloc (Nat.le_refl _) (.cells #[.slice A1 n1 c1,.slice A2 n2 c2] 27)
 have bg:=Blk.new w2 27 #[.slice A1 n1 c1,.slice A2 n2 c2] _ rfl
 have hsA:(w2.alloc (.cells #[.slice A1 n1 c1,.slice A2 n2 c2] 27)).heap.size=w2.heap.size+1:=by simp
 have hg1:=(hgv.below hal (Nat.le_refl _)).mono (lo':=b+1) (by omega) (Nat.le_refl _)
 have hq1:=(hr1.only ho2 (.inl (by omega))).keep hal
 have hq2:=(hr2.only ho2 (.inl (by omega))).keep hal
 have hq3:=hc2.keep hal
 have hq4:=below_trans (hb3.trans (ho2.below (B:=w.heap.size) (by omega) hb3.size)) hal
 obtain ⟨gq,hgq⟩:∃ gq,gq=w2.heap.size:=⟨_,rfl⟩
 rw [<- hgq] at bg hg1 hsA hs2
 have hlq:b < gq:=by omega
 clear hgv hc2 ho2 hr1 hr2 hb3 hc1 hal
 go_wp2_with fail
 rw [<- hgq]
 generalize w2.alloc (.cells #[.slice A1 n1 c1,.slice A2 n2 c2] 27)=W2 at *
 clear hgq
 refine (l11Aut_any b _ hq3).mono ?_
 rintro e w3 ⟨⟨st,ac,nx,us,acc,nxt,rfl,hau,hnn,ho3⟩,hc3⟩
 clear hnn
 have hav:=hau.view st
 obtain ⟨a,ha⟩:∃ a:Au,a=⟨st,acc,nxt⟩:=⟨_,rfl⟩
 obtain rfl:st=a.start:=by rw [ha]
 rw [<- ha] at hav
 obtain ⟨A3,c3,rfl,-,-,-⟩:=ownSh hau.acc
 obtain ⟨A4,c4,rfl,-,-,-⟩:=ownSh hau.nxt.own
 generalize acc.length=n3 at hav ⊢
 generalize us.length=n4 at hav ⊢
 rw [hsA] at hav
 have hs3:=ho3.size
 rw [hsA] at hs3
 have hal2:=(Below.refl w3.heap.size w3).alloc (Nat.le_refl _) (.cells #[.int .i64 a.start,.slice A3 n3 c3,.slice A4 n4 c4] 31)
 have hsB:w3.heap.size<=(w3.alloc (.cells #[.int .i64 a.start,.slice A3 n3 c3,.slice A4 n4 c4] 31)).heap.size:=hal2.size
 obtain ⟨aq,haq⟩:∃ aq,aq=w3.heap.size:=⟨_,rfl⟩
 have HP:=Hd_ (show GbR b w.heap.size gq aq w (w3.alloc (.cells #[.int .i64 a.start,.slice A3 n3 c3,.slice A4 n4 c4] 31)) _ _ g _ _ a from
  ⟨(hq1.only ho3 (.inl (by omega))).keep hal2,(hq2.only ho3 (.inl (by omega))).keep hal2,(bg.only ho3 (.inr (by omega))).keep hal2,Blk.new w3 _ _ _ haq,(hg1.only ho3 (by omega) (.inr (by omega))).below hal2 (by omega),
    ⟨gq+1,aq,(haq ▸ hav.below hal2 (Nat.le_refl _)),by omega,by omega,.inr (by omega)⟩,hc3.keep hal2,below_trans (hq4.trans (ho3.below (B:=w.heap.size) (by omega) hq4.size)) hal2,rfl,he11,by omega⟩)
 clear hau hav ho3 hc3 hq1 hq2 hq3 hq4 hsA hal2 hsB hs3 ha hs2 bg hg1 he11
 go_upto_region 4 with fail
 rw [<- haq]
 generalize w3.alloc (.cells #[.int .i64 a.start,.slice A3 n3 c3,.slice A4 n4 c4] 31)=W3 at *
 clear haq hlb hbl hlq
 go_wp2_with fail
 refine (l1Once_any b 16 _ HP.out.cur).mono ?_
 rintro e w4 ⟨t,rfl,hc4,ho4⟩
 have HP4:=Hd_ (HP.out.step ho4 hc4)
 clear HP hc4 ho4
 go_upto_if 19 with fail
 go_cut [9] (fun s9 wx=>∃ (a:Au) (A3 A4:Option Addr) (n3 c3 n4 c4:Nat),s9=.pointer (some ⟨aq,0,none⟩)/\GbR b w.heap.size gq aq w wx (.slice A1 n1 c1) (.slice A2 n2 c2) g (.slice A3 n3 c3) (.slice A4 n4 c4) a)
 case first =>
  cases t
  · go_wp2_with fail
    go_meet
    exact ⟨a,A3,A4,n3,c3,n4,c4,rfl,HP4.out⟩
  · go_wp2_with fail
    refine (l11Any_any b _ HP4.out.cur).mono ?_
    rintro e w6 ⟨va,a',rfl,hau',hc6,ho6⟩
    obtain ⟨A7,n7,c7,A8,n8,c8,rfl⟩:=hau'.shape
    have HP6:=Hd_ (HP4.out.step ho6 hc6)
    have hlt5:=HP4.out.abk.lt
    have f0:=HP6.out.abk.frozen 0
    have f1:=HP6.out.abk.frozen 1
    have f2:=HP6.out.abk.frozen 2
    have u0:w6.cell? ⟨aq,0,none⟩=some (.int .i64 a.start):=HP6.out.abk.cell 0
    have u1:w6.cell? ⟨aq,1,none⟩=some (.slice A3 n3 c3):=HP6.out.abk.cell 1
    have u2:w6.cell? ⟨aq,2,none⟩=some (.slice A4 n4 c4):=HP6.out.abk.cell 2
    have hla:=HP6.out.abk.lt
    have HP7:=Hd_ (HP6.out.setA hau' hlt5)
    clear hc6 ho6 hau' HP4 HP6
    go_wp2_with fail
    go_meet
    exact ⟨a',A7,A8,n7,c7,n8,c8,rfl,HP7.out⟩
 case rest =>
  obtain ⟨a,A3,A4,n3,c3,n4,c4,rfl,hp⟩:=hcut
  have HP:=Hd_ hp
  clear hp HP4
  generalize wc=W at *
  have x0:W.cell? ⟨gq,0,none⟩=some (.slice A1 n1 c1):=HP.out.gbk.cell 0
  have x1:W.cell? ⟨gq,1,none⟩=some (.slice A2 n2 c2):=HP.out.gbk.cell 1
  have y0:W.cell? ⟨aq,0,none⟩=some (.int .i64 a.start):=HP.out.abk.cell 0
  have y1:W.cell? ⟨aq,1,none⟩=some (.slice A3 n3 c3):=HP.out.abk.cell 1
  have y2:W.cell? ⟨aq,2,none⟩=some (.slice A4 n4 c4):=HP.out.abk.cell 2
  go_wp2_with fail
  refine (specAllAnswers _ _ g a _ HP.out.grv HP.out.auv).mono ?_
  rintro e w6 ⟨vl,rfl,hol,hb6⟩
  have HP6:=Hd_ (HP.out.keep hb6)
  have hblt:b < W.heap.size:=by have:=HP.out.ord;have:=HP.out.abk.lt;omega
  have haq:aq < W.heap.size:=HP.out.abk.lt
  obtain ⟨A6,c6,rfl,hl6,hm6,-⟩:=hol.form cPr_len
  have hsl:=hol.sl cPr_len
  obtain ⟨N,hN⟩:∃ N,N=(allL g a).length:=⟨_,rfl⟩
  rw [<- hN] at hl6 hsl ⊢
  have HL:=Hd_ hsl
  have HN:=Hd_ hN
  clear hol hsl hb6 HP hN x0 x1 y0 y1 y2
  by_cases h0:N=0
  · subst h0
    go_upto_region 10 with fail
    have x0:w6.cell? ⟨gq,0,none⟩=some (.slice A1 n1 c1):=HP6.out.gbk.cell 0
    have x1:w6.cell? ⟨gq,1,none⟩=some (.slice A2 n2 c2):=HP6.out.gbk.cell 1
    have y0:w6.cell? ⟨aq,0,none⟩=some (.int .i64 a.start):=HP6.out.abk.cell 0
    have y1:w6.cell? ⟨aq,1,none⟩=some (.slice A3 n3 c3):=HP6.out.abk.cell 1
    have y2:w6.cell? ⟨aq,2,none⟩=some (.slice A4 n4 c4):=HP6.out.abk.cell 2
    go_wp2_with fail
    refine F_start 13 (fun w'=>w'.cell? ⟨gq,0,none⟩=some (.slice A1 n1 c1)/\w'.cell? ⟨gq,1,none⟩=some (.slice A2 n2 c2)/\w'.cell? ⟨aq,0,none⟩=some (.int .i64 a.start)/\w'.cell? ⟨aq,1,none⟩=some (.slice A3 n3 c3)/\w'.cell? ⟨aq,2,none⟩=some (.slice A4 n4 c4)) (by kernel_rfl) (by exact ⟨x0,x1,y0,y1,y2⟩) (fun hS inv=>?_)
    refine F_tk 0 inv ?_
    try simp only [tA,tB,tC,Act.put,tE,tF,tG]
    clear inv;intro inv
    refine F_tk 1 inv ?_
    try simp only [tA,tB,tC,Act.put,tE,tF,tG]
    clear inv;intro inv
    refine F_tk 2 inv ?_
    try simp only [tA,tB,tC,Act.put,tE,tF,tG]
    clear inv;intro inv
    refine F_tk 3 inv ?_
    try simp only [tA,tB,tC,Act.put,tE,tF,tG]
    clear inv;intro inv
    refine F_tk 4 inv ?_
    try simp only [tA,tB,tC,Act.put,tE,tF,tG]
    clear inv;intro inv
    refine F_tk 6 inv ?_
    try simp only [tA,tB,tC,Act.put,tE,tF,tG]
    clear inv;intro inv
    refine F_tk 7 inv ?_
    try simp only [tA,tB,tC,Act.put,tE,tF,tG]
    clear inv;intro inv
    have HPd:=Hd_ HP6.out.drew
    clear HP6 x0 x1 y0 y1 y2
    refine F_o1 5 inv ?_;intro K hK
    try simp only [tA,tB,tC]
    go_simp
    refine (l4Node_any b _ _ _ _ _ _ _ HPd.out.cur hn1).mono ?_
    rintro e wa ⟨x,rfl,hcz,hoz⟩
    have HPa:=Hd_ (HPd.out.step hoz hcz)
    clear hoz hcz HPd
    refine hK.out _ _ (⟨HPa.out.gbk.cell 0,HPa.out.gbk.cell 1,HPa.out.abk.cell 0,HPa.out.abk.cell 1,HPa.out.abk.cell 2⟩) (fun _ _=>?_)
    try simp only [tA,tB,tC,Act.put,tE,tF,tG]
    clear hK K inv hS;rename_i hS inv
    refine F_o1 8 inv ?_;intro K hK
    try simp only [tA,tB,tC]
    go_simp
    refine (l4Node_any b _ _ _ _ _ _ _ HPa.out.cur hn1).mono ?_
    rintro e wb ⟨y,rfl,hcz,hoz⟩
    have HPb:=Hd_ (HPa.out.step hoz hcz)
    clear hoz hcz HPa
    refine hK.out _ _ (⟨HPb.out.gbk.cell 0,HPb.out.gbk.cell 1,HPb.out.abk.cell 0,HPb.out.abk.cell 1,HPb.out.abk.cell 2⟩) (fun _ _=>?_)
    try simp only [tA,tB,tC,Act.put,tE,tF,tG]
    clear hK K inv hS;rename_i hS inv
    refine F_o1 9 inv ?_;intro K hK
    try simp only [tA,tB,tC]
    go_simp
    refine hK.out _ _ (⟨HPb.out.gbk.cell 0,HPb.out.gbk.cell 1,HPb.out.abk.cell 0,HPb.out.abk.cell 1,HPb.out.abk.cell 2⟩) (fun _ _=>?_)
    try simp only [tA,tB,tC,Act.put,tE,tF,tG]
    clear hK K inv hS;rename_i hS inv
    have z0:wb.cell? ⟨w.heap.size,0,none⟩=some (.slice none 0 0):=HPb.out.res1.cell 0
    have z1:wb.cell? ⟨w.heap.size,1,none⟩=some (.slice none 0 0):=HPb.out.res1.cell 1
    have z2:wb.cell? ⟨w.heap.size+1,0,none⟩=some (.int .i64 0):=HPb.out.res2.cell 0
    have z3:wb.cell? ⟨w.heap.size+1,1,none⟩=some (.slice none 0 0):=HPb.out.res2.cell 1
    have z4:wb.cell? ⟨w.heap.size+1,2,none⟩=some (.slice none 0 0):=HPb.out.res2.cell 2
    have v0:=HPb.out.res1.frozen 0
    have v1:=HPb.out.res1.frozen 1
    have v2:=HPb.out.res2.frozen 0
    have v3:=HPb.out.res2.frozen 1
    have v4:=HPb.out.res2.frozen 2
    have hlr:=HPb.out.res1.lt
    have hls:=HPb.out.res2.lt
    have HQ:=Hd_ (HPb.out.put (.slice A1 n1 c1) (.slice A2 n2 c2))
    have HQB:=Hd_ (HPb.out.blks HQ.out.1)
    refine F_o1 10 inv ?_;intro K hK
    try simp only [tA,tB,tC]
    go_simp
    refine hK.out _ _ (⟨HQB.out.1.cell 0,HQB.out.1.cell 1,HQB.out.2.cell 0,HQB.out.2.cell 1,HQB.out.2.cell 2⟩) (fun _ _=>?_)
    try simp only [tA,tB,tC,Act.put,tE,tF,tG]
    clear hK K inv hS;rename_i hS inv
    have HQC:=Hd_ (HPb.out.blks (putGC_only wb w.heap.size (.slice A1 n1 c1) (.slice A2 n2 c2) (.int .i64 a.start) (.slice A3 n3 c3) (.slice A4 n4 c4)))
    refine F_o1 11 inv ?_;intro K hK
    try simp only [tA,tB,tC]
    go_simp
    refine hK.out _ _ (⟨HQC.out.1.cell 0,HQC.out.1.cell 1,HQC.out.2.cell 0,HQC.out.2.cell 1,HQC.out.2.cell 2⟩) (fun _ _=>?_)
    try simp only [tA,tB,tC,Act.put,tE,tF,tG]
    clear hK K inv hS;rename_i hS inv
    refine F_o1 12 inv ?_;intro K hK
    try simp only [tA,tB,tC]
    go_simp
    refine hK.out _ _ (⟨HQC.out.1.cell 0,HQC.out.1.cell 1,HQC.out.2.cell 0,HQC.out.2.cell 1,HQC.out.2.cell 2⟩) (fun _ _=>?_)
    try simp only [tA,tB,tC,Act.put,tE,tF,tG]
    clear hK K inv hS;rename_i hS inv
    refine F_l1 13 ?_;intro K hK
    go_simp
    refine hK _ _ ?_
    clear hK K
    have HD:=Hd_ (HPb.out.fin (putGC_only wb w.heap.size (.slice A1 n1 c1) (.slice A2 n2 c2) (.int .i64 a.start) (.slice A3 n3 c3) (.slice A4 n4 c4)))
    go_wp2_with fail
    all_goals exact bodyPost_ret (v:=.tuple #[.pointer (some ⟨b,0,none⟩),.agg #[.slice A1 n1 c1,.slice A2 n2 c2],.agg #[.int .i64 a.start,.slice A3 n3 c3,.slice A4 n4 c4],.int .i64 x,.int .i64 y]) (by simp [results,Tryz.results64,go_sem,z0,z1,z2,z3,z4,v0,v1,v2,v3,v4,hlr,hls]) rfl ⟨_,_,_,_,_,_,_,rfl,HD.out⟩
  · have hN1:(0:Int) < (N:Int):=by omega
    go_wp2_with fail
    refine (l1Once_any b 3 _ HP6.out.cur).mono ?_
    rintro e w7 ⟨t,rfl,hc7,ho7⟩
    have HP7:=Hd_ (HP6.out.step ho7 hc7)
    have HL7:=Hd_ (HL.out.only ho7 (Nat.le_refl _) (.inr hblt))
    have hs7:=ho7.size
    clear HP6 hc7 ho7 HL
    cases t
    · go_wp2_with fail
      refine (l1Below_any b _ _ HP7.out.cur).mono ?_
      rintro e w8 ⟨i,rfl,⟨hi0,-,hi1⟩,hc8,ho8⟩
      have HP8:=Hd_ (HP7.out.step ho8 hc8)
      have HL8:=Hd_ (HL7.out.only ho8 hs7 (.inr hblt))
      have hs8:=ho8.size
      have hi1:=hi1 hN1
      obtain ⟨i,rfl⟩:=Int.eq_ofNat_of_zero_le hi0
      clear HP7 HL7 hc8 ho8 hi0
      have hlt:i < (allL g a).length:=by rw [<- HN.out];omega
      obtain ⟨E,hE⟩:∃ E,E=(allL g a)[i]:=⟨_,rfl⟩
      have hei:(allL g a)[i]?=some E:=by rw [hE];exact List.getElem?_eq_getElem hlt
      clear hE hlt
      obtain ⟨b6,o6,rfl,hlo6,hb6,e0,e1⟩:=prAtT HL8.out hei
      obtain ⟨e1v,e2v⟩:=E
      simp only at e0 e1
      clear hei
      have hal:=(Below.refl w8.heap.size w8).alloc (Nat.le_refl _) (.cells #[.int .i64 e1v,.int .i64 e2v] 120)
      have HP9:=Hd_ (HP8.out.keep hal)
      have bp:=Blk.new w8 120 #[.int .i64 e1v,.int .i64 e2v] _ rfl
      obtain ⟨pq,hpq⟩:∃ pq,pq=w8.heap.size:=⟨_,rfl⟩
      have hpl:aq < pq:=by omega
      have hpl2:w.heap.size+1 < pq:=by have:=HP8.out.ord;omega
      have hpl3:gq < pq:=by have:=HP8.out.ord;omega
      rw [<- hpq] at bp
      clear hal HP8
      go_upto_region 9 with fail
      rw [<- hpq]
      generalize (w8.alloc (.cells #[.int .i64 e1v,.int .i64 e2v] 120))=W9 at *
      clear hpq e0 e1
      have e0:W9.cell? ⟨pq,0,none⟩=some (.int .i64 e1v):=bp.cell 0
      have e1:W9.cell? ⟨pq,1,none⟩=some (.int .i64 e2v):=bp.cell 1
      have r1:¬ pq=w.heap.size:=by omega
      have r2:¬ w.heap.size=pq:=by omega
      have r3:¬ pq=w.heap.size+1:=by omega
      have r4:¬ w.heap.size+1=pq:=by omega
      have r5:¬ pq=gq:=by omega
      have r6:¬ gq=pq:=by omega
      have r7:¬ pq=aq:=by omega
      have r8:¬ aq=pq:=by omega
      clear bp hpl hpl2 hpl3
      have x0:W9.cell? ⟨gq,0,none⟩=some (.slice A1 n1 c1):=HP9.out.gbk.cell 0
      have x1:W9.cell? ⟨gq,1,none⟩=some (.slice A2 n2 c2):=HP9.out.gbk.cell 1
      have y0:W9.cell? ⟨aq,0,none⟩=some (.int .i64 a.start):=HP9.out.abk.cell 0
      have y1:W9.cell? ⟨aq,1,none⟩=some (.slice A3 n3 c3):=HP9.out.abk.cell 1
      have y2:W9.cell? ⟨aq,2,none⟩=some (.slice A4 n4 c4):=HP9.out.abk.cell 2
      have z0:W9.cell? ⟨w.heap.size,0,none⟩=some (.slice none 0 0):=HP9.out.res1.cell 0
      have z1:W9.cell? ⟨w.heap.size,1,none⟩=some (.slice none 0 0):=HP9.out.res1.cell 1
      have z2:W9.cell? ⟨w.heap.size+1,0,none⟩=some (.int .i64 0):=HP9.out.res2.cell 0
      have z3:W9.cell? ⟨w.heap.size+1,1,none⟩=some (.slice none 0 0):=HP9.out.res2.cell 1
      have z4:W9.cell? ⟨w.heap.size+1,2,none⟩=some (.slice none 0 0):=HP9.out.res2.cell 2
      have v0:=HP9.out.res1.frozen 0
      have v1:=HP9.out.res1.frozen 1
      have v2:=HP9.out.res2.frozen 0
      have v3:=HP9.out.res2.frozen 1
      have v4:=HP9.out.res2.frozen 2
      have hlr:=HP9.out.res1.lt
      have hls:=HP9.out.res2.lt
      have hord:=HP9.out.ord
      have q1:¬ aq=w.heap.size:=by omega
      have q2:¬ w.heap.size=aq:=by omega
      have q3:¬ aq=w.heap.size+1:=by omega
      have q4:¬ w.heap.size+1=aq:=by omega
      have q5:¬ gq=w.heap.size:=by omega
      have q6:¬ w.heap.size=gq:=by omega
      have q7:¬ gq=w.heap.size+1:=by omega
      have q8:¬ w.heap.size+1=gq:=by omega
      clear hord
      go_wp2_with fail
      go_region
      have HD:=HP9.out.fin (putGA_only W9 w.heap.size (.slice A1 n1 c1) (.slice A2 n2 c2) (.int .i64 a.start) (.slice A3 n3 c3) (.slice A4 n4 c4))
      go_wp2_with fail
      exact bodyPost_ret (v:=.tuple #[.pointer (some ⟨b,0,none⟩),.agg #[.slice A1 n1 c1,.slice A2 n2 c2],.agg #[.int .i64 a.start,.slice A3 n3 c3,.slice A4 n4 c4],.int .i64 e1v,.int .i64 e2v]) (by simp [results,Tryz.results64,go_sem,z0,z1,z2,z3,z4,v0,v1,v2,v3,v4]) rfl ⟨_,_,_,_,_,_,_,rfl,HD⟩
    · go_upto_region 10 with fail
      have x0:w7.cell? ⟨gq,0,none⟩=some (.slice A1 n1 c1):=HP7.out.gbk.cell 0
      have x1:w7.cell? ⟨gq,1,none⟩=some (.slice A2 n2 c2):=HP7.out.gbk.cell 1
      have y0:w7.cell? ⟨aq,0,none⟩=some (.int .i64 a.start):=HP7.out.abk.cell 0
      have y1:w7.cell? ⟨aq,1,none⟩=some (.slice A3 n3 c3):=HP7.out.abk.cell 1
      have y2:w7.cell? ⟨aq,2,none⟩=some (.slice A4 n4 c4):=HP7.out.abk.cell 2
      go_wp2_with fail
      refine F_start 13 (fun w'=>w'.cell? ⟨gq,0,none⟩=some (.slice A1 n1 c1)/\w'.cell? ⟨gq,1,none⟩=some (.slice A2 n2 c2)/\w'.cell? ⟨aq,0,none⟩=some (.int .i64 a.start)/\w'.cell? ⟨aq,1,none⟩=some (.slice A3 n3 c3)/\w'.cell? ⟨aq,2,none⟩=some (.slice A4 n4 c4)) (by kernel_rfl) (by exact ⟨x0,x1,y0,y1,y2⟩) (fun hS inv=>?_)
      refine F_tk 0 inv ?_
      try simp only [tA,tB,tC,Act.put,tE,tF,tG]
      clear inv;intro inv
      refine F_tk 1 inv ?_
      try simp only [tA,tB,tC,Act.put,tE,tF,tG]
      clear inv;intro inv
      refine F_tk 2 inv ?_
      try simp only [tA,tB,tC,Act.put,tE,tF,tG]
      clear inv;intro inv
      refine F_tk 3 inv ?_
      try simp only [tA,tB,tC,Act.put,tE,tF,tG]
      clear inv;intro inv
      refine F_tk 4 inv ?_
      try simp only [tA,tB,tC,Act.put,tE,tF,tG]
      clear inv;intro inv
      refine F_tk 6 inv ?_
      try simp only [tA,tB,tC,Act.put,tE,tF,tG]
      clear inv;intro inv
      refine F_tk 7 inv ?_
      try simp only [tA,tB,tC,Act.put,tE,tF,tG]
      clear inv;intro inv
      have HPd:=Hd_ HP7.out.drew
      clear HP7 x0 x1 y0 y1 y2
      refine F_o1 5 inv ?_;intro K hK
      try simp only [tA,tB,tC]
      go_simp
      refine (l4Node_any b _ _ _ _ _ _ _ HPd.out.cur hn1).mono ?_
      rintro e wa ⟨x,rfl,hcz,hoz⟩
      have HPa:=Hd_ (HPd.out.step hoz hcz)
      clear hoz hcz HPd
      refine hK.out _ _ (⟨HPa.out.gbk.cell 0,HPa.out.gbk.cell 1,HPa.out.abk.cell 0,HPa.out.abk.cell 1,HPa.out.abk.cell 2⟩) (fun _ _=>?_)
      try simp only [tA,tB,tC,Act.put,tE,tF,tG]
      clear hK K inv hS;rename_i hS inv
      refine F_o1 8 inv ?_;intro K hK
      try simp only [tA,tB,tC]
      go_simp
      refine (l4Node_any b _ _ _ _ _ _ _ HPa.out.cur hn1).mono ?_
      rintro e wb ⟨y,rfl,hcz,hoz⟩
      have HPb:=Hd_ (HPa.out.step hoz hcz)
      clear hoz hcz HPa
      refine hK.out _ _ (⟨HPb.out.gbk.cell 0,HPb.out.gbk.cell 1,HPb.out.abk.cell 0,HPb.out.abk.cell 1,HPb.out.abk.cell 2⟩) (fun _ _=>?_)
      try simp only [tA,tB,tC,Act.put,tE,tF,tG]
      clear hK K inv hS;rename_i hS inv
      refine F_o1 9 inv ?_;intro K hK
      try simp only [tA,tB,tC]
      go_simp
      refine hK.out _ _ (⟨HPb.out.gbk.cell 0,HPb.out.gbk.cell 1,HPb.out.abk.cell 0,HPb.out.abk.cell 1,HPb.out.abk.cell 2⟩) (fun _ _=>?_)
      try simp only [tA,tB,tC,Act.put,tE,tF,tG]
      clear hK K inv hS;rename_i hS inv
      have z0:wb.cell? ⟨w.heap.size,0,none⟩=some (.slice none 0 0):=HPb.out.res1.cell 0
      have z1:wb.cell? ⟨w.heap.size,1,none⟩=some (.slice none 0 0):=HPb.out.res1.cell 1
      have z2:wb.cell? ⟨w.heap.size+1,0,none⟩=some (.int .i64 0):=HPb.out.res2.cell 0
      have z3:wb.cell? ⟨w.heap.size+1,1,none⟩=some (.slice none 0 0):=HPb.out.res2.cell 1
      have z4:wb.cell? ⟨w.heap.size+1,2,none⟩=some (.slice none 0 0):=HPb.out.res2.cell 2
      have v0:=HPb.out.res1.frozen 0
      have v1:=HPb.out.res1.frozen 1
      have v2:=HPb.out.res2.frozen 0
      have v3:=HPb.out.res2.frozen 1
      have v4:=HPb.out.res2.frozen 2
      have hlr:=HPb.out.res1.lt
      have hls:=HPb.out.res2.lt
      have HQ:=Hd_ (HPb.out.put (.slice A1 n1 c1) (.slice A2 n2 c2))
      have HQB:=Hd_ (HPb.out.blks HQ.out.1)
      refine F_o1 10 inv ?_;intro K hK
      try simp only [tA,tB,tC]
      go_simp
      refine hK.out _ _ (⟨HQB.out.1.cell 0,HQB.out.1.cell 1,HQB.out.2.cell 0,HQB.out.2.cell 1,HQB.out.2.cell 2⟩) (fun _ _=>?_)
      try simp only [tA,tB,tC,Act.put,tE,tF,tG]
      clear hK K inv hS;rename_i hS inv
      have HQC:=Hd_ (HPb.out.blks (putGC_only wb w.heap.size (.slice A1 n1 c1) (.slice A2 n2 c2) (.int .i64 a.start) (.slice A3 n3 c3) (.slice A4 n4 c4)))
      refine F_o1 11 inv ?_;intro K hK
      try simp only [tA,tB,tC]
      go_simp
      refine hK.out _ _ (⟨HQC.out.1.cell 0,HQC.out.1.cell 1,HQC.out.2.cell 0,HQC.out.2.cell 1,HQC.out.2.cell 2⟩) (fun _ _=>?_)
      try simp only [tA,tB,tC,Act.put,tE,tF,tG]
      clear hK K inv hS;rename_i hS inv
      refine F_o1 12 inv ?_;intro K hK
      try simp only [tA,tB,tC]
      go_simp
      refine hK.out _ _ (⟨HQC.out.1.cell 0,HQC.out.1.cell 1,HQC.out.2.cell 0,HQC.out.2.cell 1,HQC.out.2.cell 2⟩) (fun _ _=>?_)
      try simp only [tA,tB,tC,Act.put,tE,tF,tG]
      clear hK K inv hS;rename_i hS inv
      refine F_l1 13 ?_;intro K hK
      go_simp
      refine hK _ _ ?_
      clear hK K
      have HD:=Hd_ (HPb.out.fin (putGC_only wb w.heap.size (.slice A1 n1 c1) (.slice A2 n2 c2) (.int .i64 a.start) (.slice A3 n3 c3) (.slice A4 n4 c4)))
      go_wp2_with fail
      all_goals exact bodyPost_ret (v:=.tuple #[.pointer (some ⟨b,0,none⟩),.agg #[.slice A1 n1 c1,.slice A2 n2 c2],.agg #[.int .i64 a.start,.slice A3 n3 c3,.slice A4 n4 c4],.int .i64 x,.int .i64 y]) (by simp [results,Tryz.results64,go_sem,z0,z1,z2,z3,z4,v0,v1,v2,v3,v4,hlr,hls]) rfl ⟨_,_,_,_,_,_,_,rfl,HD.out⟩
set_option maxHeartbeats 1000000 in
theorem l20Budget_any (b:Nat) (w:World) (hc:Cur w b) :
 Calls Tryz.prog 65 #[.pointer (some ⟨b,0,none⟩)] w fun e w'=>∃ r:Int,e=.returned (.int .i64 r)/\Cur w' b/\Only b (b+1) w w':=by
 have hlt:=hc.lt
 have HSL:=Hd_ (litD_sl w 3 #[.int .i64 20000,.int .i64 20000,.int .i64 20000,.int .i64 10,.int .i64 3,.int .i64 0,.int .i64 1,.int .i64 20001] [20000,20000,20000,10,3,0,1,20001] 8 (b+1) (by omega) (by decide) rfl rfl rfl)
 have HAL:=Hd_ ((Below.refl w.heap.size w).alloc (Nat.le_refl _) (.cells #[.int .i64 20000,.int .i64 20000,.int .i64 20000,.int .i64 10,.int .i64 3,.int .i64 0,.int .i64 1,.int .i64 20001] 3))
 have HC:=Hd_ hc
 clear hc
 go_enter Tryz.func65,Tryz.ntmps65
 go_wp2_with fail
 refine (l1PickInt_any b _ _ _ (HC.out.keep HAL.out) (by decide) HSL.out).mono ?_
 rintro e w1 ⟨r,rfl,-,hc1,ho1⟩
 have HO:=Hd_ ((Only.of_below HAL.out b (b+1)).trans ho1)
 clear ho1
 go_wp2_with fail
 go_ret
 exact ⟨r,rfl,hc1,HO.out⟩
set_option maxHeartbeats 8000000 in
theorem drawSearchTrail_any (v:Value) (bs:List Int) (w:World) (hv:SlI 0 w.heap.size w cU 1 v bs) :
 Calls Tryz.prog 18 #[v] w (FiveOut w):=by
 have HV:=Hd_ hv
 have hb0:=((Below.refl w.heap.size w).alloc (Nat.le_refl _) (.cells #[.slice none 0 0,.slice none 0 0] 27)).alloc (by simp) (.cells #[.int .i64 0,.slice none 0 0,.slice none 0 0] 31)
 have hb1:=(Blk.new w 27 #[.slice none 0 0,.slice none 0 0] _ rfl).alloc (.cells #[.int .i64 0,.slice none 0 0,.slice none 0 0] 31)
 have hb2:=Blk.new (w.alloc (.cells #[.slice none 0 0,.slice none 0 0] 27)) 31 #[.int .i64 0,.slice none 0 0,.slice none 0 0] (w.heap.size+1) (by simp)
 have hs0:((w.alloc (.cells #[.slice none 0 0,.slice none 0 0] 27)).alloc (.cells #[.int .i64 0,.slice none 0 0,.slice none 0 0] 31)).heap.size=w.heap.size+2:=by simp
 obtain ⟨A,n,c,rfl⟩:=hv.shape
 clear hv
 go_enter Tryz.func18,Tryz.ntmps18
 go_wp2_with fail
 refine (l20Two_any _ bs _ ((HV.out.below hb0 (Nat.le_refl _)).mono (Nat.le_refl _) hb0.size)).mono ?_
 rintro e w2 ⟨b,vg,va,g,a,x,y,rfl,hbl,hgv,he11,hav,hc2,hbw⟩
 have hr1:=hb1.keep hbw
 have hr2:=hb2.keep hbw
 have hb3:=below_trans hb0 hbw
 rw [hs0] at hbl
 clear hbw hb1 hb2 hb0 hs0 HV
 have hlb:=hc2.lt
 obtain ⟨A1,n1,c1,A2,n2,c2,rfl⟩:=hgv.shape
 obtain ⟨A3,n3,c3,A4,n4,c4,rfl⟩:=hav.shape
 have hn1:=grT_len hgv
 have hal:=((Below.refl w2.heap.size w2).alloc (Nat.le_refl _) (.cells #[.slice A1 n1 c1,.slice A2 n2 c2] 27)).alloc (by simp) (.cells #[.int .i64 a.start,.slice A3 n3 c3,.slice A4 n4 c4] 31)
 have bg:=(Blk.new w2 27 #[.slice A1 n1 c1,.slice A2 n2 c2] _ rfl).alloc (.cells #[.int .i64 a.start,.slice A3 n3 c3,.slice A4 n4 c4] 31)
 have ba:=Blk.new (w2.alloc (.cells #[.slice A1 n1 c1,.slice A2 n2 c2] 27)) 31 #[.int .i64 a.start,.slice A3 n3 c3,.slice A4 n4 c4] (w2.heap.size+1) (by simp)
 obtain ⟨gq,hgq⟩:∃ gq,gq=w2.heap.size:=⟨_,rfl⟩
 have HP:=Hd_ (show GaR b w.heap.size gq (gq+1) w ((w2.alloc (.cells #[.slice A1 n1 c1,.slice A2 n2 c2] 27)).alloc (.cells #[.int .i64 a.start,.slice A3 n3 c3,.slice A4 n4 c4] 31)) _ _ g _ _ a from
  ⟨hr1.keep hal,hr2.keep hal,hgq ▸ bg,hgq ▸ ba,(hgv.below hal (Nat.le_refl _)).mono (by omega) (by omega),(hav.below hal (Nat.le_refl _)).mono (by omega) (by omega),hc2.keep hal,below_trans hb3 hal,rfl,he11,by omega⟩)
 clear hal bg ba hgv hav hc2 hr1 hr2 hb3 he11
 go_upto_region 2 with fail
 rw [<- hgq]
 generalize ((w2.alloc (.cells #[.slice A1 n1 c1,.slice A2 n2 c2] 27)).alloc (.cells #[.int .i64 a.start,.slice A3 n3 c3,.slice A4 n4 c4] 31))=W at *
 clear hgq hlb
 have x0:W.cell? ⟨gq,0,none⟩=some (.slice A1 n1 c1):=HP.out.gbk.cell 0
 have x1:W.cell? ⟨gq,1,none⟩=some (.slice A2 n2 c2):=HP.out.gbk.cell 1
 have y0:W.cell? ⟨gq+1,0,none⟩=some (.int .i64 a.start):=HP.out.abk.cell 0
 have y1:W.cell? ⟨gq+1,1,none⟩=some (.slice A3 n3 c3):=HP.out.abk.cell 1
 have y2:W.cell? ⟨gq+1,2,none⟩=some (.slice A4 n4 c4):=HP.out.abk.cell 2
 go_wp2_with fail
 refine F_start 10 (fun w'=>w'.cell? ⟨gq,0,none⟩=some (.slice A1 n1 c1)/\w'.cell? ⟨gq,1,none⟩=some (.slice A2 n2 c2)/\w'.cell? ⟨gq+1,0,none⟩=some (.int .i64 a.start)/\w'.cell? ⟨gq+1,1,none⟩=some (.slice A3 n3 c3)/\w'.cell? ⟨gq+1,2,none⟩=some (.slice A4 n4 c4)) (by kernel_rfl) (by exact ⟨x0,x1,y0,y1,y2⟩) (fun hS inv=>?_)
 refine F_tk 0 inv ?_
 try simp only [tA,tB,tC,Act.put,tE,tF,tG]
 clear inv;intro inv
 refine F_tk 1 inv ?_
 try simp only [tA,tB,tC,Act.put,tE,tF,tG]
 clear inv;intro inv
 refine F_tk 2 inv ?_
 try simp only [tA,tB,tC,Act.put,tE,tF,tG]
 clear inv;intro inv
 refine F_tk 3 inv ?_
 try simp only [tA,tB,tC,Act.put,tE,tF,tG]
 clear inv;intro inv
 refine F_tk 4 inv ?_
 try simp only [tA,tB,tC,Act.put,tE,tF,tG]
 clear inv;intro inv
 have HPd:=Hd_ HP.out.drew
 clear HP x0 x1 y0 y1 y2
 refine F_o1 5 inv ?_;intro K hK
 try simp only [tA,tB,tC]
 go_simp
 refine (l20Budget_any b _ HPd.out.cur).mono ?_
 rintro e w8 ⟨q,rfl,hc8,ho8⟩
 have HP8:=Hd_ (HPd.out.step ho8 hc8)
 clear ho8 hc8 HPd
 refine hK.out _ _ (⟨HP8.out.gbk.cell 0,HP8.out.gbk.cell 1,HP8.out.abk.cell 0,HP8.out.abk.cell 1,HP8.out.abk.cell 2⟩) (fun _ _=>?_)
 try simp only [tA,tB,tC,Act.put,tE,tF,tG]
 clear hK K inv hS;rename_i hS inv
 have z0:w8.cell? ⟨w.heap.size,0,none⟩=some (.slice none 0 0):=HP8.out.res1.cell 0
 have z1:w8.cell? ⟨w.heap.size,1,none⟩=some (.slice none 0 0):=HP8.out.res1.cell 1
 have z2:w8.cell? ⟨w.heap.size+1,0,none⟩=some (.int .i64 0):=HP8.out.res2.cell 0
 have z3:w8.cell? ⟨w.heap.size+1,1,none⟩=some (.slice none 0 0):=HP8.out.res2.cell 1
 have z4:w8.cell? ⟨w.heap.size+1,2,none⟩=some (.slice none 0 0):=HP8.out.res2.cell 2
 have v0:=HP8.out.res1.frozen 0
 have v1:=HP8.out.res1.frozen 1
 have v2:=HP8.out.res2.frozen 0
 have v3:=HP8.out.res2.frozen 1
 have v4:=HP8.out.res2.frozen 2
 have hlr:=HP8.out.res1.lt
 have hls:=HP8.out.res2.lt
 have HQ:=Hd_ (HP8.out.put (.slice A1 n1 c1) (.slice A2 n2 c2))
 have HQB:=Hd_ (HP8.out.blks HQ.out.1)
 refine F_o1 6 inv ?_;intro K hK
 try simp only [tA,tB,tC]
 go_simp
 refine hK.out _ _ (⟨HQB.out.1.cell 0,HQB.out.1.cell 1,HQB.out.2.cell 0,HQB.out.2.cell 1,HQB.out.2.cell 2⟩) (fun _ _=>?_)
 try simp only [tA,tB,tC,Act.put,tE,tF,tG]
 clear hK K inv hS;rename_i hS inv
 have HQC:=Hd_ (HP8.out.blks (putGC_only w8 w.heap.size (.slice A1 n1 c1) (.slice A2 n2 c2) (.int .i64 a.start) (.slice A3 n3 c3) (.slice A4 n4 c4)))
 refine F_o1 7 inv ?_;intro K hK
 try simp only [tA,tB,tC]
 go_simp
 refine hK.out _ _ (⟨HQC.out.1.cell 0,HQC.out.1.cell 1,HQC.out.2.cell 0,HQC.out.2.cell 1,HQC.out.2.cell 2⟩) (fun _ _=>?_)
 try simp only [tA,tB,tC,Act.put,tE,tF,tG]
 clear hK K inv hS;rename_i hS inv
 refine F_o1 8 inv ?_;intro K hK
 try simp only [tA,tB,tC]
 go_simp
 refine hK.out _ _ (⟨HQC.out.1.cell 0,HQC.out.1.cell 1,HQC.out.2.cell 0,HQC.out.2.cell 1,HQC.out.2.cell 2⟩) (fun _ _=>?_)
 try simp only [tA,tB,tC,Act.put,tE,tF,tG]
 clear hK K inv hS;rename_i hS inv
 refine F_o1 9 inv ?_;intro K hK
 try simp only [tA,tB,tC]
 go_simp
 refine hK.out _ _ (⟨HQC.out.1.cell 0,HQC.out.1.cell 1,HQC.out.2.cell 0,HQC.out.2.cell 1,HQC.out.2.cell 2⟩) (fun _ _=>?_)
 try simp only [tA,tB,tC,Act.put,tE,tF,tG]
 clear hK K inv hS;rename_i hS inv
 refine F_l1 10 ?_;intro K hK
 go_simp
 refine hK _ _ ?_
 clear hK K
 have HD:=Hd_ (HP8.out.fin0 (putGC_only w8 w.heap.size (.slice A1 n1 c1) (.slice A2 n2 c2) (.int .i64 a.start) (.slice A3 n3 c3) (.slice A4 n4 c4)))
 go_wp2_with fail
 all_goals exact bodyPost_ret (v:=.tuple #[.agg #[.slice A1 n1 c1,.slice A2 n2 c2],.agg #[.int .i64 a.start,.slice A3 n3 c3,.slice A4 n4 c4],.int .i64 x,.int .i64 y,.int .i64 q]) (by simp [results,Tryz.results18,go_sem,z0,z1,z2,z3,z4,v0,v1,v2,v3,v4,hlr,hls]) rfl ⟨_,_,g,a,_,_,_,rfl,HD.out⟩
end Go.Proofs.YtjpdembmchnbgaaGreat
namespace Go.Proofs.YtjpdembmchnbgaaGreat
def nodesL (g:Gr) (k:Wk):List Int:=k.1 :: k.2.map (stepTo g)
theorem nodesL_len (g:Gr) (k:Wk):(nodesL g k).length=k.2.length+1:=by simp [nodesL]
theorem nodesL_succ {g:Gr} {k:Wk} {i:Nat} {s:St} (h:k.2[i]?=some s):(nodesL g k).take (i+1+1)=(nodesL g k).take (i+1) ++ [stepTo g s]:=by
 refine take_snoc ?_
 rw [nodesL,List.getElem?_cons_succ,List.getElem?_map,h];rfl
theorem nodesL_next {g:Gr} {k:Wk} {i:Nat} {s:St} (h:k.2[i]?=some s):(nodesL g k)[i+1]?=some (stepTo g s):=by rw [nodesL,List.getElem?_cons_succ,List.getElem?_map,h];rfl
/-- the step leads from the node that the walk is at -/
def linkAt (g:Gr) (k:Wk) (i:Nat):Bool:=stepFrom g (k.2.getD i (0,false))==(nodesL g k).getD i 0
def walkOk (g:Gr) (k:Wk):Bool:=grOk g && wi k.1 0 ((g.vals.length:Int) - 1) && decide (k.2.length<=60) && (List.range k.2.length).all (linkAt g k)
/-- the nodes of a walk of the graph; none of another -/
def nodesOut (g:Gr) (k:Wk):List Int:=if walkOk g k=true then nodesL g k else []
theorem nodesOut_no {g:Gr} {k:Wk} (h:walkOk g k=false):nodesOut g k=[]:=by rw [nodesOut,h];rfl
theorem nodesOut_yes {g:Gr} {k:Wk} (h:walkOk g k=true):nodesOut g k=nodesL g k:=by rw [nodesOut,h];rfl
theorem linkAt_eq {g:Gr} {k:Wk} {i:Nat} {s:St} {x:Int} (h:k.2[i]?=some s) (hx:(nodesL g k)[i]?=some x):linkAt g k i=(stepFrom g s==x):=by
 rw [linkAt,List.getD_eq_getElem?_getD,h,List.getD_eq_getElem?_getD,hx];rfl
/-- node i of a walk -/
def nodeAt (g:Gr) (k:Wk) (i:Nat):Nat:=((nodesL g k).getD i 0).toNat
def letAt (g:Gr) (k:Wk) (i:Nat):Nat:=(stepLetter g (k.2.getD i (0,false))).toNat
/-- the states behind i steps -/
def setAt (g:Gr) (a:Au) (k:Wk):Nat->Nat
 | 0=>bit a.start.toNat
 | i+1=>aft a (setAt g a k i) (valAt g (nodeAt g k i)) (letAt g k i)
def setsL (g:Gr) (a:Au) (k:Wk) (n:Nat):List Nat:=(List.range n).map (setAt g a k)
theorem setsL_len (g:Gr) (a:Au) (k:Wk) (n:Nat):(setsL g a k n).length=n:=by simp [setsL]
theorem setsL_snoc (g:Gr) (a:Au) (k:Wk) (n:Nat):setsL g a k (n+1)=setsL g a k n ++ [setAt g a k n]:=by simp [setsL,List.range_succ]
theorem setsL_at {g:Gr} {a:Au} {k:Wk} {n i:Nat} (h:i < n):(setsL g a k n)[i]?=some (setAt g a k i):=by simp [setsL,h]
theorem setAt_lt {g:Gr} {a:Au} (ha:auOk a=true) (k:Wk) (i:Nat):setAt g a k i < 2 ^ a.accept.length:=by
 cases i with
 | zero=>exact bit_lt (by have:=(auOk_iff.1 ha).2.1;omega)
 | succ i=>exact aft_lt ha _ _ _
theorem walkOk_parts {g:Gr} {k:Wk} (h:walkOk g k=true):GrOk g/\(0<=k.1/\k.1<=(g.vals.length:Int) - 1)/\k.2.length<=60/\∀ i,i < k.2.length->linkAt g k i=true:=by
 simp only [walkOk,Bool.and_eq_true,wi_iff,decide_eq_true_eq,List.all_eq_true,List.mem_range] at h
 exact ⟨grOk_iff.1 h.1.1.1,h.1.1.2,h.1.2,h.2⟩
theorem stepTo_of {g:Gr} {s:St} {e:Ed} (h:stepEd g s.1=some e):stepTo g s=arcTo s.2 e:=by
 unfold stepTo stepFrom arcTo
 simp only [h]
 cases s.2 <;> rfl
theorem stepFrom_of {g:Gr} {s:St} {e:Ed} (h:stepEd g s.1=some e):stepFrom g s=arcTo (!s.2) e:=by
 unfold stepFrom arcTo
 simp only [h]
 cases s.2 <;> rfl
theorem stepLetter_of {g:Gr} {s:St} {e:Ed} (h:stepEd g s.1=some e):stepLetter g s=arcLetter s.2 e:=by
 unfold stepLetter arcLetter
 simp only [h]
theorem nodeAt_at {g:Gr} {k:Wk} {i:Nat} (h:i<=k.2.length):(nodesL g k)[i]?=some ((nodesL g k).getD i 0):=by
 rw [List.getD_eq_getElem?_getD,List.getElem?_eq_getElem (by rw [nodesL_len];omega)];rfl
/-- the nodes of a walk of the graph are nodes of the graph, and its steps are edges of it -/
theorem walk_parts {g:Gr} {k:Wk} (h:walkOk g k=true):∀ {i:Nat},i<=k.2.length->(0<=(nodesL g k).getD i 0/\(nodesL g k).getD i 0<=(g.vals.length:Int) - 1) /\
 (i < k.2.length->∃ s e,k.2[i]?=some s/\stepEd g s.1=some e/\stepFrom g s=(nodesL g k).getD i 0/\stepTo g s=(nodesL g k).getD (i+1) 0):=by
 obtain ⟨hg,hk,-,hl⟩:=walkOk_parts h
 have step:∀ i,i < k.2.length->0<=(nodesL g k).getD i 0->∃ s e,k.2[i]?=some s/\stepEd g s.1=some e/\stepFrom g s=(nodesL g k).getD i 0/\stepTo g s=(nodesL g k).getD (i+1) 0:=by
  intro i hi h0
  have hs:k.2[i]?=some k.2[i]:=List.getElem?_eq_getElem hi
  generalize k.2[i]=s at hs
  have hlk:=hl i hi
  rw [linkAt_eq hs (nodeAt_at (by omega)),beq_iff_eq] at hlk
  have hnx:=nodesL_next (g:=g) hs
  have hnx2:=nodeAt_at (g:=g) (k:=k) (i:=i+1) (by omega)
  rw [hnx] at hnx2
  cases he:stepEd g s.1 with
  | none =>
    have:=stepFrom_neg.2 he
    omega
  | some e=>exact ⟨s,e,hs,he,hlk,by injection hnx2⟩
 intro i
 induction i with
 | zero=>exact fun _=>⟨hk,fun hi=>step 0 hi hk.1⟩
 | succ i ih =>
   intro hi
   obtain ⟨hr,hst⟩:=ih (by omega)
   obtain ⟨s,e,hs,he,hf,ht⟩:=hst (by omega)
   have hrange:0<=stepTo g s/\stepTo g s<=(g.vals.length:Int) - 1:=by
    rw [stepTo_of he]
    obtain ⟨_,hm,_⟩:=stepEd_ok he
    have:=hg.edges e hm
    unfold arcTo
    split <;> omega
   rw [ht] at hrange
   exact ⟨hrange,fun hi2=>step (i+1) hi2 hrange.1⟩
theorem nodeAt_lt {g:Gr} {k:Wk} (h:walkOk g k=true) {i:Nat} (hi:i<=k.2.length):(nodesL g k)[i]?=some (nodeAt g k i:Int)/\nodeAt g k i < g.vals.length:=by
 have h1:=(walk_parts h hi).1
 refine ⟨?_,?_⟩
 · rw [nodeAt_at hi,nodeAt,Int.toNat_of_nonneg h1.1]
 · unfold nodeAt;omega
/-- step i: its edge, its letter, the node behind it -/
theorem walk_step {g:Gr} {k:Wk} (h:walkOk g k=true) {i:Nat} (hi:i < k.2.length):∃ s e,k.2[i]?=some s/\stepEd g s.1=some e/\arcTo s.2 e=(nodeAt g k (i+1):Int)/\arcLetter s.2 e=(letAt g k i:Int)/\stepLetter g s=(letAt g k i:Int)/\letAt g k i < 6:=by
 obtain ⟨s,e,hs,he,-,ht⟩:=(walk_parts h (Nat.le_of_lt hi)).2 hi
 obtain ⟨hg,hm,_⟩:=stepEd_ok he
 have hl:=hg.edges e hm
 have h1:=(walk_parts h (show i+1<=k.2.length from hi)).1
 have hsd:k.2.getD i (0,false)=s:=by rw [List.getD_eq_getElem?_getD,hs];rfl
 have hr:0<=arcLetter s.2 e/\arcLetter s.2 e<=5:=by
  unfold arcLetter
  split <;> omega
 have hla:(letAt g k i:Int)=arcLetter s.2 e:=by rw [letAt,hsd,stepLetter_of he,Int.toNat_of_nonneg hr.1]
 refine ⟨s,e,hs,he,?_,hla.symm,by rw [stepLetter_of he,hla],by omega⟩
 rw [<- stepTo_of he,ht,nodeAt,Int.toNat_of_nonneg h1.1]
def walkEnd (g:Gr) (k:Wk):Int:=if walkOk g k=true then (nodeAt g k k.2.length:Int) else -1
def matchB (g:Gr) (a:Au) (k:Wk):Bool:=(walkOk g k && auOk a) && acc a (setAt g a k k.2.length) (valAt g (nodeAt g k k.2.length))
def isWit (g:Gr) (a:Au) (x y:Int) (k:Wk):Bool:=(k.1==x && walkEnd g k==y) && matchB g a k
def alongS (g:Gr) (a:Au) (k:Wk):List Nat:=if (walkOk g k && auOk a)=true then setsL g a k (k.2.length+1) else []
def alongN (g:Gr) (a:Au) (k:Wk):List Int:=if (walkOk g k && auOk a)=true then nodesL g k else []
end Go.Proofs.YtjpdembmchnbgaaGreat
namespace Go.Proofs.YtjpdembmchnbgaaGreat
open Go.ChangeShapes Go.WideShapes Go.ChangeAt Go.RowKit
attribute [local go_sem] ext_cell ext_frozen ext_lt ext_lt1 ext_lt2 ext_lt3 ltn2 ltn3 ltn13 lts1 lts2 lts3
set_option maxHeartbeats 1000000 in
theorem implStepEdge (v:Value) (g:Gr) (s:St) (w:World) (hv:GrV 0 w.heap.size w v g) :
 Calls Tryz.prog 175 #[v,.agg #[.int .i64 s.1,.bool s.2]] w fun en w'=>∃ e:Ed,en=.returned (.tuple #[.agg #[.int .i64 e.1,.int .i64 e.2.1,.int .i64 e.2.2.1,.int .i64 e.2.2.2],.bool (stepEd g s.1).isSome])/\(∀ e',stepEd g s.1=some e'->e'=e)/\Below w.heap.size w w':=by
 have hv0:=hv
 obtain ⟨vs,es,rfl,hvs,⟨A2,c2,rfl,hl2,hm2,hx2⟩⟩:=hv
 obtain ⟨A1,n1,c1,rfl⟩:=hvs.shape
 obtain ⟨id,inv⟩:=s
 unfold maxLen at hm2
 have hb0:Below w.heap.size w (((w.alloc (.cells #[.slice A1 n1 c1,.slice A2 g.edges.length c2] 27)).alloc (.cells #[.int .i64 id,.bool inv] 81)).alloc (.cells #[.int .i64 0,.int .i64 0,.int .i64 0,.int .i64 0] 138)):=(((Below.refl _ _).alloc (Nat.le_refl _) _).alloc (by simp) _).alloc (by simp <;> omega) _
 have hspec:=edgeIdx_spec g id
 simp only
 go_enter Tryz.func175,Tryz.ntmps175
 have HS:=Hd_ hspec
 clear hspec
 go_wp2_with fail
 refine (implEdgeIndex _ g id _ (hv0.keep hb0)).mono ?_
 rintro e w1 ⟨rfl,hb1⟩
 have b0:=(((Blk.new w _ _ w.heap.size rfl).alloc _).alloc _).keep hb1
 have b2:=(Blk.new ((w.alloc _).alloc _) _ _ (w.heap.size+1+1) (by simp)).keep hb1
 have hb2:=below_trans hb0 hb1
 clear hb0 hb1
 rcases HS.out with ⟨hi,hno⟩ | ⟨i,e,hi,hx,he,hno⟩
 · have hnone:=stepEd_none hno
   have HN:=Hd_ hnone
   rw [hi]
   have z0:w1.cell? ⟨w.heap.size+1+1,0,none⟩=some _:=b2.cell 0
   have z1:w1.cell? ⟨w.heap.size+1+1,1,none⟩=some _:=b2.cell 1
   have z2:w1.cell? ⟨w.heap.size+1+1,2,none⟩=some _:=b2.cell 2
   have z3:w1.cell? ⟨w.heap.size+1+1,3,none⟩=some _:=b2.cell 3
   have f0:=b2.frozen 0
   have f1:=b2.frozen 1
   have f2:=b2.frozen 2
   have f3:=b2.frozen 3
   clear hnone hno hi HS b0
   go_wp2_with fail
   refine bodyPost_ret (v:=.tuple #[.agg #[.int .i64 0,.int .i64 0,.int .i64 0,.int .i64 0],.bool false]) (by simp [results,Tryz.results175,go_sem,z0,z1,z2,z3]) rfl ⟨(0,0,0,0),by rw [HN.out];rfl,(by rw [HN.out];intro e' he';cases he'),(((hb2.setCell (p:=⟨w.heap.size+1+1,0,none⟩) (by simp <;> omega) _).setCell (p:=⟨w.heap.size+1+1,1,none⟩) (by simp <;> omega) _).setCell (p:=⟨w.heap.size+1+1,2,none⟩) (by simp <;> omega) _).setCell (p:=⟨w.heap.size+1+1,3,none⟩) (by simp <;> omega) _⟩
 · rw [hi]
   have x0:w1.cell? ⟨w.heap.size,0,none⟩=some _:=b0.cell 0
   have x1:w1.cell? ⟨w.heap.size,1,none⟩=some _:=b0.cell 1
   have hil:i < g.edges.length:=(List.getElem?_eq_some_iff.1 hx).1
   cases hg:grOk g with
   | false =>
     have hnone:=stepEd_bad id hg
     have HN:=Hd_ hnone
     clear hnone hno HS hx
     go_wp2_with fail
     refine (implValidGraph _ g _ (hv0.keep hb2)).mono ?_
     rintro en w2 ⟨rfl,hb3⟩
     rw [hg]
     have b2:=b2.keep hb3
     have hb2:=below_trans hb2 hb3
     clear hb3 b0 x0 x1
     have z0:w2.cell? ⟨w.heap.size+1+1,0,none⟩=some _:=b2.cell 0
     have z1:w2.cell? ⟨w.heap.size+1+1,1,none⟩=some _:=b2.cell 1
     have z2:w2.cell? ⟨w.heap.size+1+1,2,none⟩=some _:=b2.cell 2
     have z3:w2.cell? ⟨w.heap.size+1+1,3,none⟩=some _:=b2.cell 3
     have f0:=b2.frozen 0
     have f1:=b2.frozen 1
     have f2:=b2.frozen 2
     have f3:=b2.frozen 3
     go_wp2_with fail
     refine bodyPost_ret (v:=.tuple #[.agg #[.int .i64 0,.int .i64 0,.int .i64 0,.int .i64 0],.bool false]) (by simp [results,Tryz.results175,go_sem,z0,z1,z2,z3]) rfl ⟨(0,0,0,0),by rw [HN.out];rfl,(by rw [HN.out];intro e' he';cases he'),(((hb2.setCell (p:=⟨w.heap.size+1+1,0,none⟩) (by simp <;> omega) _).setCell (p:=⟨w.heap.size+1+1,1,none⟩) (by simp <;> omega) _).setCell (p:=⟨w.heap.size+1+1,2,none⟩) (by simp <;> omega) _).setCell (p:=⟨w.heap.size+1+1,3,none⟩) (by simp <;> omega) _⟩
   | true =>
     have hsome:=stepEd_some hg hx he hno
     have HN:=Hd_ hsome
     obtain ⟨b9,o9,rfl,-,hb9,hc9⟩:=hx2 i e hx
     have d0:=hc9 0 _ rfl
     have d1:=hc9 1 _ rfl
     have d2:=hc9 2 _ rfl
     have d3:=hc9 3 _ rfl
     simp only [Nat.add_zero] at d0
     have HI:=Hd_ hi
     clear hsome hno HS hx hc9 hx2 he hi
     go_wp2_with fail
     refine (implValidGraph _ g _ (hv0.keep hb2)).mono ?_
     rintro en w2 ⟨rfl,hb3⟩
     rw [hg]
     have b2:=b2.keep hb3
     have b0:=b0.keep hb3
     have hb2:=below_trans hb2 hb3
     have d0:=(hb2.cell (p:=⟨b9,o9+i * 4,none⟩) hb9).trans d0
     have d1:=(hb2.cell (p:=⟨b9,o9+i * 4+1,none⟩) hb9).trans d1
     have d2:=(hb2.cell (p:=⟨b9,o9+i * 4+2,none⟩) hb9).trans d2
     have d3:=(hb2.cell (p:=⟨b9,o9+i * 4+3,none⟩) hb9).trans d3
     clear hb3 x0 x1
     have x1:w2.cell? ⟨w.heap.size,1,none⟩=some _:=b0.cell 1
     have z0:w2.cell? ⟨w.heap.size+1+1,0,none⟩=some _:=b2.cell 0
     have z1:w2.cell? ⟨w.heap.size+1+1,1,none⟩=some _:=b2.cell 1
     have z2:w2.cell? ⟨w.heap.size+1+1,2,none⟩=some _:=b2.cell 2
     have z3:w2.cell? ⟨w.heap.size+1+1,3,none⟩=some _:=b2.cell 3
     have f0:=b2.frozen 0
     have f1:=b2.frozen 1
     have f2:=b2.frozen 2
     have f3:=b2.frozen 3
     go_wp2_with fail
     refine bodyPost_ret (v:=.tuple #[.agg #[.int .i64 e.1,.int .i64 e.2.1,.int .i64 e.2.2.1,.int .i64 e.2.2.2],.bool true]) (by simp [results,Tryz.results175,go_sem,z0,z1,z2,z3]) rfl ⟨e,by rw [HN.out];rfl,(by rw [HN.out];intro e' he';injection he' with he';exact he'.symm),(((hb2.setCell (p:=⟨w.heap.size+1+1,0,none⟩) (by simp <;> omega) _).setCell (p:=⟨w.heap.size+1+1,1,none⟩) (by simp <;> omega) _).setCell (p:=⟨w.heap.size+1+1,2,none⟩) (by simp <;> omega) _).setCell (p:=⟨w.heap.size+1+1,3,none⟩) (by simp <;> omega) _⟩
set_option maxHeartbeats 1000000 in
theorem implStepFrom (v:Value) (g:Gr) (s:St) (w:World) (hv:GrV 0 w.heap.size w v g) :
 Calls Tryz.prog 154 #[v,.agg #[.int .i64 s.1,.bool s.2]] w fun en w'=>en=.returned (.int .i64 (stepFrom g s))/\Below w.heap.size w w':=by
 have hv0:=hv
 obtain ⟨A1,n1,c1,A2,n2,c2,rfl⟩:=hv.shape
 clear hv
 obtain ⟨id,inv⟩:=s
 have hb0:Below w.heap.size w ((w.alloc (.cells #[.slice A1 n1 c1,.slice A2 n2 c2] 27)).alloc (.cells #[.int .i64 id,.bool inv] 81)):=((Below.refl _ _).alloc (Nat.le_refl _) _).alloc (by simp) _
 have hc:=fun W (hW:Below w.heap.size w W)=>implStepEdge _ g (id,inv) W (hv0.keep hW)
 simp only at hc ⊢
 have HC:=Hd_ hc
 clear hc
 cases hs:stepEd g id with
 | none =>
   have hres:stepFrom g (id,inv)=-1:=by rw [stepFrom];simp [hs]
   have HR:=Hd_ hres
   rw [hs] at HC
   clear hres hs
   go_enter Tryz.func154,Tryz.ntmps154
   go_wp2_with fail
   refine (HC.out _ hb0).mono ?_
   rintro en w1 ⟨e,rfl,-,hb1⟩
   have hb2:=below_trans hb0 hb1
   clear hb0 hb1
   go_wp2_with fail
   go_ret
   exact ⟨ret_int HR.out.symm,hb2.alloc hb2.size _⟩
 | some e =>
   rw [hs] at HC
   have hres:stepFrom g (id,inv)=if inv then e.2.2.1 else e.2.1:=by rw [stepFrom];simp [hs]
   have HR:=Hd_ hres
   clear hres hs
   go_enter Tryz.func154,Tryz.ntmps154
   go_wp2_with fail
   refine (HC.out _ hb0).mono ?_
   rintro en w1 ⟨e1,rfl,he1,hb1⟩
   obtain rfl:=he1 e rfl
   have b1:=(Blk.new (w.alloc _) _ _ (w.heap.size+1) (by simp)).keep hb1
   have y1:w1.cell? ⟨w.heap.size+1,1,none⟩=some _:=b1.cell 1
   have hlt:=b1.lt
   have hb2:=below_trans hb0 hb1
   clear hb0 hb1 he1 b1
   cases inv with
   | true =>
     go_wp2_with fail
     go_ret
     exact ⟨ret_int HR.out.symm,hb2.alloc hb2.size _⟩
   | false =>
     go_wp2_with fail
     go_ret
     exact ⟨ret_int HR.out.symm,hb2.alloc hb2.size _⟩
set_option maxHeartbeats 1000000 in
theorem implStepTo (v:Value) (g:Gr) (s:St) (w:World) (hv:GrV 0 w.heap.size w v g) :
 Calls Tryz.prog 155 #[v,.agg #[.int .i64 s.1,.bool s.2]] w fun en w'=>en=.returned (.int .i64 (stepTo g s))/\Below w.heap.size w w':=by
 have hv0:=hv
 obtain ⟨A1,n1,c1,A2,n2,c2,rfl⟩:=hv.shape
 clear hv
 obtain ⟨id,inv⟩:=s
 have hb0:Below w.heap.size w ((w.alloc (.cells #[.slice A1 n1 c1,.slice A2 n2 c2] 27)).alloc (.cells #[.int .i64 id,.bool inv] 81)):=((Below.refl _ _).alloc (Nat.le_refl _) _).alloc (by simp) _
 simp only
 go_enter Tryz.func155,Tryz.ntmps155
 go_wp2_with fail
 refine (implStepFrom _ g (id,!inv) _ (hv0.keep hb0)).mono ?_
 rintro en w1 ⟨rfl,hb1⟩
 go_wp2_with fail
 go_ret
 exact ⟨rfl,below_trans hb0 hb1⟩
end Go.Proofs.YtjpdembmchnbgaaGreat
