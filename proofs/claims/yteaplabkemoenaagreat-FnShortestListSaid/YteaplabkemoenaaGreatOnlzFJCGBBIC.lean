/- Parts of the proof, joined into one text: ShortI, ShortS, Tab, AllA, TwoD, WalkM, MatchM, StepI, NodesI, NodesS, Ends, WalkS. -/
import Derived.Test.YteaplabkemoenaaGreatOnlzAJGNGJCC
import Derived.Test.YteaplabkemoenaaGreatOnlzNELIBLED
import Derived.Test.YteaplabkemoenaaGreatOnlzKIKFHLPI
import Derived.Test.YteaplabkemoenaaGreatOnlzAIFFPHMF
import Derived.Lib.Slices
import Derived.Test.YteaplabkemoenaaGreatOnlzACIDKLKH
import Derived.RegionTactic
import Derived.BigRegion
import Derived.Test.YteaplabkemoenaaGreatOnlzGFGPLLBC
import Derived.Test.YteaplabkemoenaaGreatOnlzJGIJMECD
set_option linter.unusedVariables false
set_option linter.unusedSimpArgs false
namespace Go.Proofs.YteaplabkemoenaaGreat
open Go.ChangeShapes Go.WideShapes Go.ChangeAt Go.RowKit
attribute [local go_sem] ext_cell ext_frozen ext_lt ext_lt1 ext_lt2 ext_lt3 ltn2 ltn3 ltn13 lts1 lts2 lts3
set_option maxHeartbeats 4000000 in
set_option maxRecDepth 100000 in
theorem implShortestLength (vg va:Value) (g:Gr) (a:Au) (x y:Int) (w:World) (hgv:GrV 0 w.heap.size w vg g) (hav:AuV 0 w.heap.size w va a) :
 Calls Tryz.prog 18 #[vg,va,.int .i64 x,.int .i64 y] w fun e w'=>e=.returned (.int .i64 (shortLen g a x y))/\Below w.heap.size w w':=by
 have hgv0:=hgv
 have hav0:=hav
 obtain ⟨A1,n1,c1,A2,n2,c2,rfl⟩:=hgv.shape
 obtain ⟨ac,nx,rfl,hac,hnx⟩:=hav
 obtain ⟨A3,c3,rfl,-,-,-⟩:=SlE.form hac
 obtain ⟨A4,n4,c4,rfl⟩:=hnx.shape
 have hb0:Below w.heap.size w ((w.alloc (.cells #[.slice A1 n1 c1,.slice A2 n2 c2] 27)).alloc (.cells #[.int .i64 a.start,.slice A3 a.accept.length c3,.slice A4 n4 c4] 31)):=((Below.refl _ _).alloc (Nat.le_refl _) _).alloc (by simp) _
 have hb1:=hb0.alloc hb0.size (.cells #[.int .i64 x,.int .i64 y] 3)
 have hst:SlE (((w.alloc (.cells #[.slice A1 n1 c1,.slice A2 n2 c2] 27)).alloc (.cells #[.int .i64 a.start,.slice A3 a.accept.length c3,.slice A4 n4 c4] 31)).alloc (.cells #[.int .i64 x,.int .i64 y] 3)) cI 1 (.slice (some ⟨w.heap.size+1+1,0,none⟩) 2 2) [x,y]:=by
  have h:=lit_sl ((w.alloc (.cells #[.slice A1 n1 c1,.slice A2 n2 c2] 27)).alloc (.cells #[.int .i64 a.start,.slice A3 a.accept.length c3,.slice A4 n4 c4] 31)) 3 [x,y] (by unfold maxLen;simp)
  simpa using h
 have hbo:=bothOk_any _ _ _ g a [x,y] _ (hgv0.keep hb1) (hav0.keep hb1) hst
 have HBO:=Hd_ hbo
 have HGV:=Hd_ hgv0
 have HAV:=Hd_ hav0
 clear hgv hac hnx hgv0 hav0 hbo hst
 cases hk:([x,y].all (fun s=>wi s 0 ((g.vals.length:Int) - 1)) && (grOk g && auOk a)) with
 | false =>
   rw [hk] at HBO
   have hfin:shortLen g a x y=-1:=by unfold shortLen;rw [if_neg];simpa [Bool.and_assoc] using hk
   have HF:=Hd_ hfin
   clear hk hfin
   go_enter Tryz.func18,Tryz.ntmps18
   go_wp2_with fail
   refine HBO.out.mono ?_
   rintro e w1 ⟨rfl,hb2⟩
   go_wp2_with fail
   go_ret
   exact ⟨by rw [HF.out];rfl,below_trans hb1 hb2⟩
 | true =>
   rw [hk] at HBO
   simp only [List.all_cons,List.all_nil,Bool.and_true,Bool.and_eq_true,wi_iff] at hk
   obtain ⟨⟨⟨hx0,hx1⟩,hy0,hy1⟩,hgo,hao⟩:=hk
   have hdl:=distTo_len (g:=g) (a:=a) (y:=y) (by simp [wi_iff,hy0,hy1,hgo,hao])
   obtain ⟨x,rfl⟩:=Int.eq_ofNat_of_zero_le hx0
   have hst0:=(auOk_iff.1 hao).2.1
   have hm12:=(auOk_iff.1 hao).1.2
   have hn5:=(grOk_iff.1 hgo).n5
   obtain ⟨xn,hxn⟩:∃ xn,xn=x * a.accept.length:=⟨_,rfl⟩
   have hxn2:xn+a.accept.length<=g.vals.length * a.accept.length:=by rw [hxn];have:=Nat.mul_le_mul_right a.accept.length (show x+1<=g.vals.length by omega);rw [Nat.succ_mul] at this;exact this
   have hN60:g.vals.length * a.accept.length<=60:=by have:=Nat.mul_le_mul hn5 hm12;omega
   rw [<- hdl] at hxn2 hN60
   obtain ⟨ix,hix⟩:∃ ix:Nat,(ix:Int)=(xn:Int)+a.start:=⟨(xn+a.start.toNat),by omega⟩
   have hixl:ix < (distTo g a y).length:=by omega
   have hfin:shortLen g a x y=(distTo g a y).getD ix 0:=by
    unfold shortLen
    rw [if_pos (by simp [wi_iff,hx0,hx1,hy0,hy1,hgo,hao]),Int.toNat_natCast,<- hxn]
    congr 1
    omega
   have hget:=getD_of hixl
   have q1:IntKind.i64.wrap ((x:Int) * (a.accept.length:Int))=(xn:Int):=by rw [IntWalk.i64_in _ (by rw [<- Int.natCast_mul,<- hxn];omega),hxn,Int.natCast_mul]
   have q1':(x:Int) * (a.accept.length:Int)=(xn:Int):=by rw [hxn,Int.natCast_mul]
   have q2:IntKind.i64.wrap ((xn:Int)+a.start)=(ix:Int):=by rw [<- hix];exact IntWalk.i64_in _ (by omega)
   have q2':(xn:Int)+a.start=(ix:Int):=hix.symm
   have q5:IntKind.i64.wrap (xn:Int)=(xn:Int):=IntWalk.i64_in _ (by omega)
   have q6:IntKind.i64.wrap (ix:Int)=(ix:Int):=IntWalk.i64_in _ (by omega)
   have hixi:(ix:Int) < ((distTo g a y).length:Int):=by omega
   have hix0:(0:Int)<=(ix:Int):=by omega
   have HF:=Hd_ hfin
   have HGET:=Hd_ hget
   have Q1:=Hd_ q1
   have Q1':=Hd_ q1'
   have Q2:=Hd_ q2
   have Q2':=Hd_ q2'
   have Q5:=Hd_ q5
   have Q6:=Hd_ q6
   clear hget hfin hxn hix hgo hao hdl hx0 hx1 hy0 hy1 hst0 q1 q1' q2 q2' q5 q6
   go_enter Tryz.func18,Tryz.ntmps18
   go_wp2_with fail
   refine HBO.out.mono ?_
   rintro e w1 ⟨rfl,hb2⟩
   have hb3:=below_trans hb1 hb2
   have b0:=(((Blk.new w 27 #[.slice A1 n1 c1,.slice A2 n2 c2] w.heap.size rfl).alloc (.cells #[.int .i64 a.start,.slice A3 a.accept.length c3,.slice A4 n4 c4] 31)).alloc (.cells #[.int .i64 (x:Int),.int .i64 y] 3)).keep hb2
   have b1:=((Blk.new (w.alloc (.cells #[.slice A1 n1 c1,.slice A2 n2 c2] 27)) 31 #[.int .i64 a.start,.slice A3 a.accept.length c3,.slice A4 n4 c4] (w.heap.size+1) (by simp)).alloc (.cells #[.int .i64 (x:Int),.int .i64 y] 3)).keep hb2
   have x0:w1.cell? ⟨w.heap.size,0,none⟩=some (.slice A1 n1 c1):=b0.cell 0
   have x1:w1.cell? ⟨w.heap.size,1,none⟩=some (.slice A2 n2 c2):=b0.cell 1
   have y0:w1.cell? ⟨w.heap.size+1,0,none⟩=some (.int .i64 a.start):=b1.cell 0
   have y1:w1.cell? ⟨w.heap.size+1,1,none⟩=some (.slice A3 a.accept.length c3):=b1.cell 1
   have y2:w1.cell? ⟨w.heap.size+1,2,none⟩=some (.slice A4 n4 c4):=b1.cell 2
   clear hb0 hb1 hb2 b0 b1 HBO
   go_wp2_with fail
   have q1:=Q1.out
   have q1':=Q1'.out
   have q2:=Q2.out
   have q2':=Q2'.out
   have q5:=Q5.out
   have q6:=Q6.out
   refine F_start 14 (fun w'=>w'.cell? ⟨w.heap.size,0,none⟩=some (.slice A1 n1 c1)/\w'.cell? ⟨w.heap.size,1,none⟩=some (.slice A2 n2 c2)/\w'.cell? ⟨w.heap.size+1,0,none⟩=some (.int .i64 a.start)/\w'.cell? ⟨w.heap.size+1,1,none⟩=some (.slice A3 a.accept.length c3)/\w'.cell? ⟨w.heap.size+1,2,none⟩=some (.slice A4 n4 c4)) (by kernel_rfl) (by exact ⟨x0,x1,y0,y1,y2⟩) (fun hS inv=>?_)
   refine F_tk 0 inv ?_
   try simp only [tA,tB,tC,Act.put,tE,tF,tG]
   clear inv;intro inv
   refine F_tk 1 inv ?_
   try simp only [tA,tB,tC,Act.put,tE,tF,tG]
   clear inv;intro inv
   refine F_tk 2 inv ?_
   try simp only [tA,tB,tC,Act.put,tE,tF,tG]
   clear inv;intro inv
   refine F_tk 4 inv ?_
   try simp only [tA,tB,tC,Act.put,tE,tF,tG]
   clear inv;intro inv
   refine F_tk 5 inv ?_
   try simp only [tA,tB,tC,Act.put,tE,tF,tG]
   clear inv;intro inv
   refine F_tk 6 inv ?_
   try simp only [tA,tB,tC,Act.put,tE,tF,tG]
   clear inv;intro inv
   refine F_tk 7 inv ?_
   try simp only [tA,tB,tC,Act.put,tE,tF,tG]
   clear inv;intro inv
   refine F_tk 8 inv ?_
   try simp only [tA,tB,tC,Act.put,tE,tF,tG]
   clear inv;intro inv
   refine F_tk 9 inv ?_
   try simp only [tA,tB,tC,Act.put,tE,tF,tG]
   clear inv;intro inv
   refine F_tk 10 inv ?_
   try simp only [tA,tB,tC,Act.put,tE,tF,tG]
   clear inv;intro inv
   refine F_tk 11 inv ?_
   try simp only [tA,tB,tC,Act.put,tE,tF,tG]
   clear inv;intro inv
   refine F_o1 3 inv ?_;intro K hK
   try simp only [tA,tB,tC]
   go_simp
   refine (implDistancesTo _ _ g a y _ (GrV.keep (w':=w1.drew) HGV.out hb3.drew) (AuV.keep (w':=w1.drew) HAV.out hb3.drew)).mono ?_
   rintro e wD ⟨vD,rfl,hoD,hbD⟩
   obtain ⟨A5,c5,rfl,hl5,hm5,hC5⟩:=hoD.form cI_len
   obtain ⟨b5,o5,rfl,hb5,d5⟩:=hC5.int HGET.out
   refine hK.out _ _ (kB5 hbD hS) (fun _ _=>?_)
   try simp only [tA,tB,tC,Act.put,tE,tF,tG]
   clear hK K inv hS;rename_i hS inv
   refine F_tk 12 inv ?_
   try simp only [tA,tB,tC,Act.put,tE,tF,tG]
   clear inv;intro inv
   refine F_o1 13 inv ?_;intro K hK
   try simp only [tA,tB,tC]
   go_simp
   refine hK.out _ _ (hS) (fun _ _=>?_)
   try simp only [tA,tB,tC,Act.put,tE,tF,tG]
   clear hK K inv hS;rename_i hS inv
   refine F_l1 14 ?_;intro K hK
   go_simp
   refine hK _ _ ?_
   clear hK K inv hS
   clear q1 q1' q2 q2' q5 q6
   go_wp2_with fail
   go_ret
   exact ⟨by rw [HF.out];simp [List.getElem?_eq_getElem hixl],below_trans hb3.drew hbD⟩
theorem goodB0 (g:Gr) (a:Au) (x:Int):goodB g a x 0=(grOk g && (auOk a && wi x 0 ((g.vals.length:Int) - 1))):=by
 unfold goodB
 cases h:auOk a with
 | false=>simp
 | true =>
   have h1:=(auOk_iff.1 h).1.1
   have h2:wi 0 0 ((a.accept.length:Int) - 1)=true:=wi_iff.2 (by omega)
   rw [h2]
   simp
set_option maxHeartbeats 4000000 in
set_option maxRecDepth 100000 in
theorem specShortestLength (vg va:Value) (g:Gr) (a:Au) (x y:Int) (w:World) (hgv:GrV 0 w.heap.size w vg g) (hav:AuV 0 w.heap.size w va a) :
 Calls Tryz.prog 22 #[vg,va,.int .i64 x,.int .i64 y] w fun e w'=>e=.returned (.int .i64 (shortLen g a x y))/\Below w.heap.size w w':=by
 have hgv0:=hgv
 have hav0:=hav
 obtain ⟨A1,n1,c1,A2,n2,c2,rfl⟩:=hgv.shape
 obtain ⟨ac,nx,rfl,hac,hnx⟩:=hav
 obtain ⟨A3,c3,rfl,-,-,-⟩:=SlE.form hac
 obtain ⟨A4,n4,c4,rfl⟩:=hnx.shape
 have hb0:Below w.heap.size w ((w.alloc (.cells #[.slice A1 n1 c1,.slice A2 n2 c2] 27)).alloc (.cells #[.int .i64 a.start,.slice A3 a.accept.length c3,.slice A4 n4 c4] 31)):=((Below.refl _ _).alloc (Nat.le_refl _) _).alloc (by simp) _
 have HGV:=Hd_ hgv0
 have HAV:=Hd_ hav0
 clear hgv hac hnx hgv0 hav0
 go_enter Tryz.func22,Tryz.ntmps22
 go_wp2_with fail
 obtain ⟨W0,hW0⟩:∃ W0,W0=((w.alloc (.cells #[.slice A1 n1 c1,.slice A2 n2 c2] 27)).alloc (.cells #[.int .i64 a.start,.slice A3 a.accept.length c3,.slice A4 n4 c4] 31)):=⟨_,rfl⟩
 rw [<- hW0] at hb0 ⊢
 have x0:W0.cell? ⟨w.heap.size,0,none⟩=some (.slice A1 n1 c1):=by rw [hW0];simp
 have x1:W0.cell? ⟨w.heap.size,1,none⟩=some (.slice A2 n2 c2):=by rw [hW0];simp
 have y0:W0.cell? ⟨w.heap.size+1,0,none⟩=some (.int .i64 a.start):=by rw [hW0];simp
 have y1:W0.cell? ⟨w.heap.size+1,1,none⟩=some (.slice A3 a.accept.length c3):=by rw [hW0];simp
 have y2:W0.cell? ⟨w.heap.size+1,2,none⟩=some (.slice A4 n4 c4):=by rw [hW0];simp
 have hs0:w.heap.size+1+1=W0.heap.size:=by rw [hW0];simp
 try rw [hs0]
 have l0:w.heap.size+1 < W0.heap.size:=by omega
 have l00:w.heap.size < W0.heap.size:=by omega
 clear hW0 hs0
 have hgx:=l14Good_any _ _ g a x 0 W0 (HGV.out.keep hb0) (HAV.out.keep hb0)
 have HGX:=Hd_ hgx
 clear hgx
 cases hk:goodB g a x 0 with
 | false =>
   rw [hk] at HGX
   have hfin:shortLen g a x y=-1:=by
    unfold shortLen
    rw [if_neg]
    intro h
    rw [goodB0] at hk
    simp only [Bool.and_eq_true] at h
    simp [h] at hk
   have HF:=Hd_ hfin
   clear hk hfin
   refine HGX.out.mono ?_
   rintro e w1 ⟨rfl,hb1⟩
   go_wp2_with fail
   go_ret
   exact ⟨by rw [HF.out];rfl,below_trans hb0 hb1⟩
 | true =>
   rw [hk] at HGX
   have HK:=Hd_ hk
   clear hk
   refine HGX.out.mono ?_
   rintro e w1 ⟨rfl,hb1⟩
   have hb2:=below_trans hb0 hb1
   have x0:=kcell hb1 x0
   have x1:=kcell hb1 x1
   have y0:=kcell hb1 y0
   have y1:=kcell hb1 y1
   have y2:=kcell hb1 y2
   have l0:=Nat.lt_of_lt_of_le l0 hb1.size
   have l00:=Nat.lt_of_lt_of_le l00 hb1.size
   have hgy:=l14Good_any _ _ g a y 0 w1 (HGV.out.keep hb2) (HAV.out.keep hb2)
   have HGY:=Hd_ hgy
   clear hgy
   cases hk:goodB g a y 0 with
   | false =>
     rw [hk] at HGY
     have hfin:shortLen g a x y=-1:=by
      unfold shortLen
      rw [if_neg]
      intro h
      rw [goodB0] at hk
      simp only [Bool.and_eq_true] at h
      simp [h] at hk
     have HF:=Hd_ hfin
     clear hk hfin
     go_wp2_with fail
     refine HGY.out.mono ?_
     rintro e w3 ⟨rfl,hb3⟩
     go_wp2_with fail
     go_ret
     exact ⟨by rw [HF.out];rfl,below_trans hb2 hb3⟩
   | true =>
     rw [hk] at HGY
     rw [goodB0] at hk
     have hk2:=HK.out
     rw [goodB0] at hk2
     simp only [Bool.and_eq_true,wi_iff] at hk hk2
     obtain ⟨hgo,hao,hy0,hy1⟩:=hk
     obtain ⟨-,-,hx0,hx1⟩:=hk2
     have hdl:=distTo_len (g:=g) (a:=a) (y:=y) (by simp [wi_iff,hy0,hy1,hgo,hao])
     obtain ⟨x,rfl⟩:=Int.eq_ofNat_of_zero_le hx0
     obtain ⟨y,rfl⟩:=Int.eq_ofNat_of_zero_le hy0
     have hst0:=(auOk_iff.1 hao).2.1
     have hm12:=(auOk_iff.1 hao).1.2
     have hn5:=(grOk_iff.1 hgo).n5
     obtain ⟨xn,hxn⟩:∃ xn,xn=x * a.accept.length:=⟨_,rfl⟩
     have hxn2:xn+a.accept.length<=g.vals.length * a.accept.length:=by rw [hxn];have:=Nat.mul_le_mul_right a.accept.length (show x+1<=g.vals.length by omega);rw [Nat.succ_mul] at this;exact this
     have hN60:g.vals.length * a.accept.length<=60:=by have:=Nat.mul_le_mul hn5 hm12;omega
     rw [<- hdl] at hxn2 hN60
     obtain ⟨ix,hix⟩:∃ ix:Nat,(ix:Int)=(xn:Int)+a.start:=⟨(xn+a.start.toNat),by omega⟩
     have hixl:ix < (distTo g a (y:Int)).length:=by omega
     have hfin:shortLen g a (x:Int) (y:Int)=(distTo g a (y:Int)).getD ix 0:=by
      unfold shortLen
      rw [if_pos (by simp [wi_iff,hx0,hx1,hy0,hy1,hgo,hao]),Int.toNat_natCast,<- hxn]
      congr 1
      omega
     have hget:=getD_of hixl
     have q1':(x:Int) * (a.accept.length:Int)=(xn:Int):=by rw [hxn,Int.natCast_mul]
     have q1:IntKind.i64.wrap ((x:Int) * (a.accept.length:Int))=(xn:Int):=by rw [q1'];exact IntWalk.i64_in _ (by omega)
     have q2:IntKind.i64.wrap ((xn:Int)+a.start)=(ix:Int):=by rw [<- hix];exact IntWalk.i64_in _ (by omega)
     have q2':(xn:Int)+a.start=(ix:Int):=hix.symm
     have q5:IntKind.i64.wrap (xn:Int)=(xn:Int):=IntWalk.i64_in _ (by omega)
     have q6:IntKind.i64.wrap (ix:Int)=(ix:Int):=IntWalk.i64_in _ (by omega)
     have hixi:(ix:Int) < ((distTo g a (y:Int)).length:Int):=by omega
     have hix0:(0:Int)<=(ix:Int):=by omega
     have hyl:y < g.vals.length:=by omega
     have HF:=Hd_ hfin
     have HGET:=Hd_ hget
     have Q1:=Hd_ q1
     have Q1':=Hd_ q1'
     have Q2:=Hd_ q2
     have Q2':=Hd_ q2'
     have Q5:=Hd_ q5
     have Q6:=Hd_ q6
     have HGO:=Hd_ hgo
     have HAO:=Hd_ hao
     clear hget hfin hxn hix hgo hao hdl hx0 hx1 hy0 hy1 hst0 q1 q1' q2 q2' q5 q6
     go_wp2_with fail
     refine HGY.out.mono ?_
     rintro e w3 ⟨rfl,hb3⟩
     have hb4:=below_trans hb2 hb3
     have x0:=kcell hb3 x0
     have x1:=kcell hb3 x1
     have y0:=kcell hb3 y0
     have y1:=kcell hb3 y1
     have y2:=kcell hb3 y2
     clear hb0 hb1 hb2 hb3 HGY HGX HK
     go_wp2_with fail
     have q1:=Q1.out
     have q1':=Q1'.out
     have q2:=Q2.out
     have q2':=Q2'.out
     have q5:=Q5.out
     have q6:=Q6.out
     refine F_start 14 (fun w'=>w'.cell? ⟨w.heap.size,0,none⟩=some (.slice A1 n1 c1)/\w'.cell? ⟨w.heap.size,1,none⟩=some (.slice A2 n2 c2)/\w'.cell? ⟨w.heap.size+1,0,none⟩=some (.int .i64 a.start)/\w'.cell? ⟨w.heap.size+1,1,none⟩=some (.slice A3 a.accept.length c3)/\w'.cell? ⟨w.heap.size+1,2,none⟩=some (.slice A4 n4 c4)) (by kernel_rfl) (by exact ⟨x0,x1,y0,y1,y2⟩) (fun hS inv=>?_)
     refine F_tk 0 inv ?_
     try simp only [tA,tB,tC,Act.put,tE,tF,tG]
     clear inv;intro inv
     refine F_tk 1 inv ?_
     try simp only [tA,tB,tC,Act.put,tE,tF,tG]
     clear inv;intro inv
     refine F_tk 2 inv ?_
     try simp only [tA,tB,tC,Act.put,tE,tF,tG]
     clear inv;intro inv
     refine F_tk 4 inv ?_
     try simp only [tA,tB,tC,Act.put,tE,tF,tG]
     clear inv;intro inv
     refine F_tk 5 inv ?_
     try simp only [tA,tB,tC,Act.put,tE,tF,tG]
     clear inv;intro inv
     refine F_tk 6 inv ?_
     try simp only [tA,tB,tC,Act.put,tE,tF,tG]
     clear inv;intro inv
     refine F_tk 7 inv ?_
     try simp only [tA,tB,tC,Act.put,tE,tF,tG]
     clear inv;intro inv
     refine F_tk 8 inv ?_
     try simp only [tA,tB,tC,Act.put,tE,tF,tG]
     clear inv;intro inv
     refine F_tk 9 inv ?_
     try simp only [tA,tB,tC,Act.put,tE,tF,tG]
     clear inv;intro inv
     refine F_tk 10 inv ?_
     try simp only [tA,tB,tC,Act.put,tE,tF,tG]
     clear inv;intro inv
     refine F_tk 11 inv ?_
     try simp only [tA,tB,tC,Act.put,tE,tF,tG]
     clear inv;intro inv
     refine F_o1 3 inv ?_;intro K hK
     try simp only [tA,tB,tC]
     go_simp
     refine (l14Back_any _ _ g a y _ (GrV.keep (w':=w3.drew) HGV.out hb4.drew) (AuV.keep (w':=w3.drew) HAV.out hb4.drew) HGO.out HAO.out hyl).mono ?_
     rintro e wD ⟨vD,rfl,hoD,hbD⟩
     obtain ⟨A5,c5,rfl,hl5,hm5,hC5⟩:=hoD.form cI_len
     obtain ⟨b5,o5,rfl,hb5,d5⟩:=hC5.int HGET.out
     refine hK.out _ _ (kB5 hbD hS) (fun _ _=>?_)
     try simp only [tA,tB,tC,Act.put,tE,tF,tG]
     clear hK K inv hS;rename_i hS inv
     refine F_tk 12 inv ?_
     try simp only [tA,tB,tC,Act.put,tE,tF,tG]
     clear inv;intro inv
     refine F_o1 13 inv ?_;intro K hK
     try simp only [tA,tB,tC]
     go_simp
     refine hK.out _ _ (hS) (fun _ _=>?_)
     try simp only [tA,tB,tC,Act.put,tE,tF,tG]
     clear hK K inv hS;rename_i hS inv
     refine F_l1 14 ?_;intro K hK
     go_simp
     refine hK _ _ ?_
     clear hK K inv hS
     clear q1 q1' q2 q2' q5 q6
     go_wp2_with fail
     go_ret
     exact ⟨by rw [HF.out];simp [List.getElem?_eq_getElem hixl],below_trans hb4.drew hbD⟩
theorem goodB00 (g:Gr) (a:Au):goodB g a 0 0=(grOk g && auOk a):=by
 rw [goodB0]
 cases hg:grOk g with
 | false=>simp
 | true =>
   have h1:=(grOk_iff.1 hg).n1
   have h2:wi 0 0 ((g.vals.length:Int) - 1)=true:=wi_iff.2 (by omega)
   rw [h2]
   cases auOk a <;> simp
def allRow (g:Gr) (a:Au) (x k:Nat):List Pr:=((ansL g a (x:Int)).take k).map fun y=>((x:Int),y)
def allTo (g:Gr) (a:Au) (i:Nat):List Pr:=(List.range i).flatMap fun (x:Nat)=>allRow g a x (ansL g a (x:Int)).length
def allL (g:Gr) (a:Au):List Pr:=if (grOk g && auOk a)=true then allTo g a g.vals.length else []
theorem allRow_zero (g:Gr) (a:Au) (x:Nat):allRow g a x 0=[]:=by simp [allRow]
theorem allRow_snoc {g:Gr} {a:Au} {x k:Nat} {y:Int} (h:(ansL g a (x:Int))[k]?=some y):allRow g a x (k+1)=allRow g a x k ++ [((x:Int),y)]:=by
 rw [allRow,take_snoc h,List.map_append];rfl
theorem allRow_len (g:Gr) (a:Au) (x k:Nat):(allRow g a x k).length<=30:=by
 have:=ansL_len g a (x:Int)
 simp only [allRow,List.length_map,List.length_take];omega
theorem allTo_snoc (g:Gr) (a:Au) (i:Nat):allTo g a (i+1)=allTo g a i ++ allRow g a i (ansL g a (i:Int)).length:=by
 simp [allTo,List.range_succ]
theorem allTo_len (g:Gr) (a:Au) (i:Nat):(allTo g a i).length<=30 * i:=by
 induction i with
 | zero=>simp [allTo]
 | succ i ih =>
   have:=allRow_len g a i (ansL g a (i:Int)).length
   rw [allTo_snoc,List.length_append];omega
set_option maxHeartbeats 4000000 in
set_option maxRecDepth 100000 in
theorem specAllAnswers (vg va:Value) (g:Gr) (a:Au) (w:World) (hgv:GrV 0 w.heap.size w vg g) (hav:AuV 0 w.heap.size w va a) :
 Calls Tryz.prog 39 #[vg,va] w fun e w'=>∃ v',e=.returned v'/\Own w.heap.size w'.heap.size w' 90 cPr 2 v' (allL g a)/\Below w.heap.size w w':=by
 obtain ⟨R,hR⟩:∃ R,R=allL g a:=⟨_,rfl⟩
 rw [<- hR]
 have HRR:=Hd_ hR
 clear hR
 have hgv0:=hgv
 have hav0:=hav
 obtain ⟨A1,c1,A2,c2,rfl,hl1,hm1,hl2,hm2,hC1,-⟩:=hgv.form
 obtain ⟨ac,nx,rfl,hac,hnx⟩:=hav
 obtain ⟨A3,c3,rfl,hl3,hm3,-⟩:=SlE.form hac
 obtain ⟨A4,n4,c4,rfl⟩:=hnx.shape
 have hb0:Below w.heap.size w ((w.alloc (.cells #[.slice A1 g.vals.length c1,.slice A2 g.edges.length c2] 27)).alloc (.cells #[.int .i64 a.start,.slice A3 a.accept.length c3,.slice A4 n4 c4] 31)):=((Below.refl _ _).alloc (Nat.le_refl _) _).alloc (by simp) _
 have HGV:=Hd_ hgv0
 have HAV:=Hd_ hav0
 have HC1:=Hd_ hC1
 clear hgv hac hnx hgv0 hav0 hC1
 go_enter Tryz.func39,Tryz.ntmps39
 go_wp2_with fail
 obtain ⟨W0,hW0⟩:∃ W0,W0=((w.alloc (.cells #[.slice A1 g.vals.length c1,.slice A2 g.edges.length c2] 27)).alloc (.cells #[.int .i64 a.start,.slice A3 a.accept.length c3,.slice A4 n4 c4] 31)).alloc (.cells #[] 90):=⟨_,rfl⟩
 have hb0:Below w.heap.size w W0:=by rw [hW0];exact hb0.alloc hb0.size _
 rw [<- hW0]
 have bx:Blk W0 w.heap.size 27 #[.slice A1 g.vals.length c1,.slice A2 g.edges.length c2]:=by rw [hW0];exact ((Blk.new w _ _ w.heap.size rfl).alloc _).alloc _
 have by_:Blk W0 (w.heap.size+1) 31 #[.int .i64 a.start,.slice A3 a.accept.length c3,.slice A4 n4 c4]:=by rw [hW0];exact (Blk.new (w.alloc _) _ _ (w.heap.size+1) (by simp)).alloc _
 have hrow0:W0.ownsRow (w.heap.size+1+1) 90 2 (.slice (some ⟨w.heap.size+1+1,0,none⟩) 0 0) ([]:List Pr).length (([]:List Pr).flatMap cPr):=by
  rw [hW0]
  have h:=World.ownsRow_lit (base:=w.heap.size+1+1) (e:=90) (size:=2) ((w.alloc (.cells #[.slice A1 g.vals.length c1,.slice A2 g.edges.length c2] 27)).alloc (.cells #[.int .i64 a.start,.slice A3 a.accept.length c3,.slice A4 n4 c4] 31)) #[] 0 (by simp) (by decide) rfl
  simpa using h
 have x0:W0.cell? ⟨w.heap.size,0,none⟩=some (.slice A1 g.vals.length c1):=bx.cell 0
 have x1:W0.cell? ⟨w.heap.size,1,none⟩=some (.slice A2 g.edges.length c2):=bx.cell 1
 have y0:W0.cell? ⟨w.heap.size+1,0,none⟩=some (.int .i64 a.start):=by_.cell 0
 have y1:W0.cell? ⟨w.heap.size+1,1,none⟩=some (.slice A3 a.accept.length c3):=by_.cell 1
 have y2:W0.cell? ⟨w.heap.size+1,2,none⟩=some (.slice A4 n4 c4):=by_.cell 2
 have l0:=by_.lt
 have l00:=bx.lt
 have HROW0:=Hd_ hrow0
 have hsW:W0.heap.size=w.heap.size+1+1+1:=by rw [hW0];simp
 have hsW':w.heap.size+1+1 < W0.heap.size:=by omega
 have HSW:=Hd_ hsW
 clear hW0 bx by_ hrow0 hsW
 have HG:=Hd_ (fun (W:World) (hW:Below w.heap.size w W)=>show Calls Tryz.prog 46 #[_,_,.int .i64 0,.int .i64 0] W fun e w'=>e=.returned (.bool (grOk g && auOk a))/\Below W.heap.size W w' by rw [<- goodB00];exact l14Good_any _ _ g a 0 0 W (HGV.out.keep hW) (HAV.out.keep hW))
 have hR:=HRR.out
 rw [allL] at hR
 clear HRR
 cases hk:(grOk g && auOk a) with
 | false =>
   rw [hk] at HG hR
   have hr0:R=[]:=hR
   subst hr0
   have HB0:=Hd_ hb0
   clear hk hR hb0
   go_loopw [5,6] (fun oo ii wr=>oo=.slice (some ⟨w.heap.size+1+1,0,none⟩) 0 0/\ii=.int .i64 0/\wr=W0) (fun _ _ _=>0)
   case atStart=>exact ⟨rfl,rfl,rfl⟩
   case round =>
    obtain ⟨rfl,rfl,rfl⟩:=hrel
    have hO:=Hd_ ((Own.of_row (xs:=([]:List Pr)) HROW0.out rfl rfl).mono (show w.heap.size<=w.heap.size+1+1 by omega) (Nat.le_refl _))
    by_cases h0:(0:Int) < (g.vals.length:Int)
    · go_wp2_with fail
      refine (HG.out _ HB0.out).mono ?_
      rintro e w2 ⟨rfl,hb2⟩
      have HO2:=Hd_ ((hO.out.below hb2 (Nat.le_refl _)).mono (Nat.le_refl _) hb2.size)
      go_wp2_with fail
      go_ret
      exact ⟨_,rfl,HO2.out,below_trans HB0.out hb2⟩
    · go_wp2_with fail
      go_ret
      exact ⟨_,rfl,hO.out,HB0.out⟩
 | true =>
   rw [hk] at HG hR
   simp only [Bool.and_eq_true] at hk
   obtain ⟨hgo,hao⟩:=hk
   have hn5:=(grOk_iff.1 hgo).n5
   have hr1:R=allTo g a g.vals.length:=hR
   have HR:=Hd_ hr1
   have HLF:=Hd_ (fun (x:Nat) (W:World) (hW:Below w.heap.size w W) (hx:x < g.vals.length)=>l15From_any _ _ g a x W (HGV.out.keep hW) (HAV.out.keep hW) hgo hao hx)
   clear hgo hao hR hr1
   obtain ⟨gO,hgO⟩:∃ gO,gO=w.heap.size+1+1:=⟨_,rfl⟩
   rw [<- hgO] at HROW0 hsW' ⊢
   have hgw:w.heap.size+1 < gO:=by omega
   have hgs:=hsW'
   have hb5:=hb0
   obtain ⟨W5,rfl⟩:∃ W5:World,W5=W0:=⟨_,rfl⟩
   clear hgO HSW hsW' hb0
   go_loopw [5,6] (fun oo ii wr=>∃ i:Nat,i<=g.vals.length/\ii=.int .i64 (i:Int)/\wr.ownsRow gO 90 2 oo (allTo g a i).length ((allTo g a i).flatMap cPr)/\Below gO W5 wr) (fun _ ii _=>g.vals.length - (intOf ii).toNat)
   case atStart=>exact ⟨0,Nat.zero_le _,rfl,HROW0.out,Below.refl _ _⟩
   case round =>
    clear HROW0
    obtain ⟨i,hi,rfl,hrow,hbel⟩:=hrel
    have x0:=(hbel.cell (p:=⟨w.heap.size,0,none⟩) (by simp only;omega)).trans x0
    have x1:=(hbel.cell (p:=⟨w.heap.size,1,none⟩) (by simp only;omega)).trans x1
    have y0:=(hbel.cell (p:=⟨w.heap.size+1,0,none⟩) (by simp only;omega)).trans y0
    have y1:=(hbel.cell (p:=⟨w.heap.size+1,1,none⟩) (by simp only;omega)).trans y1
    have y2:=(hbel.cell (p:=⟨w.heap.size+1,2,none⟩) (by simp only;omega)).trans y2
    have hsz:=hbel.size
    have l0:=Nat.lt_of_lt_of_le l0 hsz
    have l00:=Nat.lt_of_lt_of_le l00 hsz
    have hbw:=hb5.trans (hbel.mono (show w.heap.size<=gO by omega))
    have HBW:=Hd_ hbw
    have HROW:=Hd_ hrow
    have HBEL:=Hd_ hbel
    have hfl:=allTo_len g a i
    clear hrow hbw hbel
    obtain ⟨wo,rfl⟩:∃ wo:World,wo=wr:=⟨_,rfl⟩
    by_cases hlt:i < g.vals.length
    · have hii:(i:Int) < (g.vals.length:Int):=by omega
      go_wp2_with fail
      refine (HG.out _ HBW.out).mono ?_
      rintro e w2 ⟨rfl,hb2⟩
      have hbw2:=below_trans HBW.out hb2
      have x0:=kcell hb2 x0
      have x1:=kcell hb2 x1
      have y0:=kcell hb2 y0
      have y1:=kcell hb2 y1
      have y2:=kcell hb2 y2
      have HROW:=Hd_ (ownsRow_below HROW.out hb2 (Nat.le_refl _))
      have hs2:=hb2.size
      have l0:=Nat.lt_of_lt_of_le l0 hs2
      have l00:=Nat.lt_of_lt_of_le l00 hs2
      have HBEL:=Hd_ (HBEL.out.trans (hb2.mono (show gO<=wo.heap.size by omega)))
      have hsz:=HBEL.out.size
      clear hb2
      obtain ⟨wp,rfl⟩:∃ wp:World,wp=wo:=⟨_,rfl⟩
      obtain ⟨wo,rfl⟩:∃ wo:World,wo=w2:=⟨_,rfl⟩
      go_wp2_with fail
      refine (HLF.out i _ hbw2 hlt).mono ?_
      rintro e w6 ⟨v6,rfl,ho6,hb6⟩
      have hs6:=hb6.size
      have x0:=kcell hb6 x0
      have x1:=kcell hb6 x1
      have y0:=kcell hb6 y0
      have y1:=kcell hb6 y1
      have y2:=kcell hb6 y2
      have l0:=Nat.lt_of_lt_of_le l0 hs6
      have l00:=Nat.lt_of_lt_of_le l00 hs6
      have HB6:=Hd_ hb6
      have HR6:=Hd_ (ownsRow_below HROW.out hb6 (Nat.le_refl _))
      have hob6:=HROW.out.lt
      have HC6:=Hd_ (ho6.sl cI_len)
      obtain ⟨A6,c6,rfl,hl6,hm6,-⟩:=ho6.form cI_len
      have HT1:=Hd_ (allTo_snoc g a i)
      have hln:=ansL_len g a (i:Int)
      have HRW:=Hd_ (fun (k:Nat) (y:Int) (h:(ansL g a (i:Int))[k]?=some y)=>allRow_snoc (g:=g) (a:=a) (x:=i) h)
      have HR0:=Hd_ (allRow_zero g a i)
      have hrl:=allRow_len g a i
      have HRL:=Hd_ hrl
      clear ho6 hrl
      generalize ansL g a (i:Int)=l at *
      generalize allTo g a i=L at *
      obtain ⟨N,hN⟩:∃ N,N=l.length:=⟨_,rfl⟩
      rw [<- hN] at hl6 hln HT1 ⊢
      have HN:=Hd_ hN
      clear hN
      go_wp2_with fail
      go_loopw [5,8] (fun oo jj wr=>∃ j:Nat,j<=N/\jj=.int .i64 (j:Int)/\wr.ownsRow gO 90 2 oo (L ++ allRow g a i j).length ((L ++ allRow g a i j).flatMap cPr)/\Only gO wo.heap.size w6 wr/\(∀ b,oo.ownBlock=some b->(gO<=b/\b < wo.heap.size) ∨ w6.heap.size<=b)) (fun _ jj _=>N - (intOf jj).toNat)
      case atStart=>exact ⟨0,Nat.zero_le _,rfl,by rw [HR0.out,List.append_nil];exact HR6.out,Only.refl _ _ _,fun b hb=>.inl (hob6 b hb)⟩
      case round =>
       clear HR6 hob6
       obtain ⟨j,hj,rfl,hrow,hon,hob⟩:=hrel
       have x0:=ocell hon x0 l00 (.inl (by omega))
       have x1:=ocell hon x1 l00 (.inl (by omega))
       have y0:=ocell hon y0 l0 (.inl (by omega))
       have y1:=ocell hon y1 l0 (.inl (by omega))
       have y2:=ocell hon y2 l0 (.inl (by omega))
       have hsz2:=hon.size
       have HROW2:=Hd_ hrow
       have HON:=Hd_ hon
       have HOB:=Hd_ hob
       have hrl:=HRL.out j
       clear hrow hon hob
       by_cases hlj:j < N
       · have hjj:(j:Int) < (N:Int):=by omega
         have hyi:=getD_of (D:=l) (k:=j) (by have:=HN.out;omega)
         obtain ⟨b6,o6,rfl,hb60,hb6x,d6⟩:=HC6.out.intI hyi
         have d6:=ocell HON.out d6 hb6x (.inr (by omega))
         have hb6w:b6 < wr.heap.size:=by omega
         have HSN:=Hd_ (show (L ++ allRow g a i j) ++ [((i:Int),l.getD j 0)]=L ++ allRow g a i (j+1) by rw [HRW.out j _ hyi,List.append_assoc])
         have hll:(L ++ allRow g a i j).length<=1000:=by rw [List.length_append];omega
         clear hyi
         generalize l.getD j 0=yy at *
         generalize L ++ allRow g a i j=LL at *
         go_wp2_with (at_builtin;(refine wpList_append1 cPr elPair rfl _ _ rfl gO _ LL ((i:Int),yy) _ 1 _ (by rfl) HROW2.out (by rfl) rfl rfl rfl (cPr_one _) (by omega) (by omega) (by omega) ?_);intro v' w4 hrow' hb4 hat4 hgr4)
         go_roundw
         case rel =>
          refine ⟨j+1,by omega,by go_num,by rw [<- HSN.out];exact hrow',(HON.out.alloc _).grown hgr4 (fun b hb=>HOB.out b hb),fun b hb=>?_⟩
          rcases hat4 with h1 | ⟨g1,h1,h2⟩
          · exact HOB.out b (by rw [<- h1];exact hb)
          · rw [h1] at hb
            injection hb with hb
            exact .inr (by omega)
         case measure=>simp [intOf];omega
       · obtain rfl:j=N:=by omega
         rw [<- HT1.out] at HROW2
         have HBX:=Hd_ (HBEL.out.trans ((HB6.out.mono (show gO<=wo.heap.size by omega)).trans (HON.out.below (Nat.le_refl _) (by omega))))
         go_wp2_with fail
         go_roundw
         case rel=>exact ⟨i+1,by omega,by go_num,HROW2.out,HBX.out⟩
         case measure=>simp [intOf];omega
    ·
     obtain rfl:i=g.vals.length:=by omega
     have hown:=Own.of_row (xs:=allTo g a g.vals.length) HROW.out rfl rfl
     rw [<- HR.out] at hown
     obtain ⟨A9,n9,c9,rfl⟩:=hown.shape
     have HO:=Hd_ (hown.mono (show w.heap.size<=gO by omega) (Nat.le_refl _))
     clear hown
     go_wp2_with fail
     go_ret
     exact ⟨_,rfl,HO.out,HBW.out⟩
/-- the cursor's bytes do not lie in blocks whose cells are no bytes -/
theorem Cur.off {w w':World} {b l r:Nat} (hc:Cur w b) (ho:Only l r w w') (hr:r<=b) (hn:∀ q,l<=q->q < r->∀ o (x:Int),w.cell? ⟨q,o,none⟩ ≠ some (.int .u8 x)):Cur w' b:=by
 obtain ⟨A,bs,c,i,h,h1,⟨A',c',hv,hl,hm,hx⟩,h3⟩:=hc
 have hbl:=h1.lt
 refine ⟨A,bs,c,i,h,h1.only ho (.inr hr),⟨A',c',hv,hl,hm,fun k u hk=>?_⟩,h3⟩
 obtain ⟨q,o,hA,h0,hqb,hcc⟩:=hx k u hk
 have hqr:q < l ∨ r<=q:=by
  rcases Nat.lt_or_ge q l with h5 | h5
  · exact .inl h5
  · rcases Nat.lt_or_ge q r with h6 | h6
    · exact absurd (hcc 0 _ rfl) (hn q h5 h6 _ _)
    · exact .inr h6
 exact ⟨q,o,hA,h0,hqb,fun j t ht=>(ho.cell (p:=⟨q,o+k * 1+j,none⟩) (by simp only;omega) (by simp only;omega)).trans (hcc j t ht)⟩
/-- a graph in the block gq, an automaton in aq, the cursor in b; the results' blocks r and r + 1 -/
structure GaR (b r gq aq:Nat) (w0 w:World) (gs es:Value) (g:Gr) (ac nx:Value) (a:Au):Prop where
 res1:Blk w r 27 #[.slice none 0 0,.slice none 0 0]
 res2:Blk w (r+1) 31 #[.int .i64 0,.slice none 0 0,.slice none 0 0]
 gbk:Blk w gq 27 #[gs,es]
 abk:Blk w aq 31 #[.int .i64 a.start,ac,nx]
 gv:GrV (b+1) gq w (.agg #[gs,es]) g
 av:AuV (b+1) gq w (.agg #[.int .i64 a.start,ac,nx]) a
 cur:Cur w b
 bel:Below w0.heap.size w0 w
 at0:w0.heap.size=r
 e11:g.edges.length<=11
 ord:r+1 < b/\b < gq/\gq < aq
section
variable {b r gq aq:Nat} {w0 w w':World} {gs es:Value} {g:Gr} {ac nx:Value} {a:Au}
theorem GaR.step (h:GaR b r gq aq w0 w gs es g ac nx a) (ho:Only b (b+1) w w') (hc:Cur w' b):GaR b r gq aq w0 w' gs es g ac nx a:=by
 have hd:=h.ord
 have hq:=h.abk.lt
 have h0:=h.at0
 exact ⟨h.res1.only ho (.inl (by omega)),h.res2.only ho (.inl (by omega)),h.gbk.only ho (.inr (by omega)),h.abk.only ho (.inr (by omega)),h.gv.only ho (by omega) (.inr (by omega)),h.av.only ho (by omega) (.inr (by omega)),hc,h.bel.trans (ho.below (B:=w0.heap.size) (by omega) h.bel.size),h.at0,h.e11,hd⟩
theorem GaR.keep (h:GaR b r gq aq w0 w gs es g ac nx a) (hb:Below w.heap.size w w'):GaR b r gq aq w0 w' gs es g ac nx a:=by
 have hd:=h.ord
 have hq:=h.abk.lt
 exact ⟨h.res1.keep hb,h.res2.keep hb,h.gbk.keep hb,h.abk.keep hb,h.gv.below hb (by omega),h.av.below hb (by omega),h.cur.keep hb,below_trans h.bel hb,h.at0,h.e11,hd⟩
theorem GaR.drew (h:GaR b r gq aq w0 w gs es g ac nx a):GaR b r gq aq w0 w.drew gs es g ac nx a:=h.keep (Below.refl w.heap.size w).drew
theorem GaR.grv (h:GaR b r gq aq w0 w gs es g ac nx a):GrV 0 w.heap.size w (.agg #[gs,es]) g:=h.gv.mono (Nat.zero_le _) (by have:=h.ord;have:=h.abk.lt;omega)
theorem GaR.auv (h:GaR b r gq aq w0 w gs es g ac nx a):AuV 0 w.heap.size w (.agg #[.int .i64 a.start,ac,nx]) a:=h.av.mono (Nat.zero_le _) (by have:=h.ord;have:=h.abk.lt;omega)
theorem GaR.fin (h:GaR b r gq aq w0 w gs es g ac nx a) (ho:Only r (r+2) w w') :
 w0.heap.size<=b/\GrV (b+1) w'.heap.size w' (.agg #[gs,es]) g/\g.edges.length<=11/\AuV (b+1) w'.heap.size w' (.agg #[.int .i64 a.start,ac,nx]) a/\Cur w' b/\Below w0.heap.size w0 w':=by
 have hd:=h.ord
 have h0:=h.at0
 have hq:=h.abk.lt
 have hs:=ho.size
 refine ⟨by omega,(h.gv.only ho (by omega) (.inr (by omega))).mono (Nat.le_refl _) (by omega),h.e11,(h.av.only ho (by omega) (.inr (by omega))).mono (Nat.le_refl _) (by omega),h.cur.off ho (by omega) (fun q h1 h2 o x=>?_),h.bel.trans (ho.below (B:=w0.heap.size) (by omega) h.bel.size)⟩
 obtain rfl | rfl:q=r ∨ q=r+1:=by omega
 · rw [h.res1.cell]
   rcases o with _ | _ | o <;> simp
 · rw [h.res2.cell]
   rcases o with _ | _ | _ | o <;> simp
/-- the same, the cursor forgotten -/
theorem GaR.fin0 (h:GaR b r gq aq w0 w gs es g ac nx a) (ho:Only r (r+2) w w') :
 GrV 0 w'.heap.size w' (.agg #[gs,es]) g/\g.edges.length<=11/\AuV 0 w'.heap.size w' (.agg #[.int .i64 a.start,ac,nx]) a/\Below w0.heap.size w0 w':=by
 obtain ⟨-,h1,h2,h3,-,h4⟩:=h.fin ho
 exact ⟨h1.mono (Nat.zero_le _) (Nat.le_refl _),h2,h3.mono (Nat.zero_le _) (Nat.le_refl _),h4⟩
theorem GaR.blks (h:GaR b r gq aq w0 w gs es g ac nx a) (ho:Only r (r+2) w w'):Blk w' gq 27 #[gs,es]/\Blk w' aq 31 #[.int .i64 a.start,ac,nx]:=by
 have hd:=h.ord
 exact ⟨h.gbk.only ho (.inr (by omega)),h.abk.only ho (.inr (by omega))⟩
/-- behind the first store -/
theorem GaR.put (h:GaR b r gq aq w0 w gs es g ac nx a) (v1 v2:Value) :
 Only r (r+2) w ((w.setCell ⟨r,0,none⟩ v1).setCell ⟨r,1,none⟩ v2)/\Blk ((w.setCell ⟨r,0,none⟩ v1).setCell ⟨r,1,none⟩ v2) (r+1) 31 #[.int .i64 0,.slice none 0 0,.slice none 0 0]:=by
 have ho:=Only.put2 w r v1 v2
 exact ⟨((Only.refl r (r+2) w).setCell (p:=⟨r,0,none⟩) (.inl (by simp only;omega)) _).setCell (p:=⟨r,1,none⟩) (.inl (by simp only;omega)) _,h.res2.only ho (.inr (by omega))⟩
end
def putGC (w:World) (r:Nat) (gs es st ac nx:Value):World:=((((w.setCell ⟨r,0,none⟩ gs).setCell ⟨r,1,none⟩ es).setCell ⟨r+1,0,none⟩ st).setCell ⟨r+1,1,none⟩ ac).setCell ⟨r+1,2,none⟩ nx
theorem putGC_only (w:World) (r:Nat) (gs es st ac nx:Value):Only r (r+2) w (putGC w r gs es st ac nx):=(((((Only.refl r (r+2) w).setCell (p:=⟨r,0,none⟩) (.inl (by simp only;omega)) _).setCell (p:=⟨r,1,none⟩) (.inl (by simp only;omega)) _).setCell (p:=⟨r+1,0,none⟩) (.inl (by simp only;omega)) _).setCell (p:=⟨r+1,1,none⟩) (.inl (by simp only;omega)) _).setCell (p:=⟨r+1,2,none⟩) (.inl (by simp only;omega)) _
theorem grT_len {lo hi:Nat} {w:World} {A1 A2:Option Addr} {n1 c1 n2 c2:Nat} {g:Gr} (h:GrV lo hi w (.agg #[.slice A1 n1 c1,.slice A2 n2 c2]) g):n1<=maxLen:=by
 obtain ⟨vs,es,hv,⟨A,c,rfl,hl,hm,-⟩,-⟩:=h
 simp at hv
 obtain ⟨⟨-,h2,-⟩,-⟩:=hv
 omega
theorem prAtT {lo hi:Nat} {w:World} {A:Option Addr} {n c:Nat} {xs:List Pr} (h:SlI lo hi w cPr 2 (.slice A n c) xs) {i:Nat} {x:Pr} (hx:xs[i]?=some x) :
 ∃ b o,A=some ⟨b,o,none⟩/\lo<=b/\b < hi/\w.cell? ⟨b,o+i * 2,none⟩=some (.int .i64 x.1)/\w.cell? ⟨b,o+i * 2+1,none⟩=some (.int .i64 x.2):=by
 obtain ⟨A',c',hv,_,_,h3⟩:=h
 injection hv with h1 _ _
 subst h1
 obtain ⟨b,o,e,g1,g2,hc⟩:=h3 i x hx
 exact ⟨b,o,e,g1,g2,by simpa using hc 0 _ rfl,hc 1 _ rfl⟩
def FiveOut (w:World) (e:Ending) (w':World):Prop:=∃ vg va g a x y d,e=.returned (.tuple #[vg,va,.int .i64 x,.int .i64 y,.int .i64 d])/\(GrV 0 w'.heap.size w' vg g/\g.edges.length<=11/\AuV 0 w'.heap.size w' va a/\Below w.heap.size w w')
def DuoOut (w:World) (e:Ending) (w':World):Prop:=∃ b vg va g a x y,e=.returned (.tuple #[.pointer (some ⟨b,0,none⟩),vg,va,.int .i64 x,.int .i64 y])/\(w.heap.size<=b/\GrV (b+1) w'.heap.size w' vg g/\g.edges.length<=11/\AuV (b+1) w'.heap.size w' va a/\Cur w' b/\Below w.heap.size w w')
set_option maxHeartbeats 8000000 in
theorem l17Two_any (v:Value) (bs:List Int) (w:World) (hv:SlI 0 w.heap.size w cU 1 v bs) :
 Calls Tryz.prog 15 #[v] w (DuoOut w):=by
 have HV:=Hd_ hv
 have hb0:=((Below.refl w.heap.size w).alloc (Nat.le_refl _) (.cells #[.slice none 0 0,.slice none 0 0] 27)).alloc (by simp) (.cells #[.int .i64 0,.slice none 0 0,.slice none 0 0] 31)
 have hb1:=(Blk.new w 27 #[.slice none 0 0,.slice none 0 0] _ rfl).alloc (.cells #[.int .i64 0,.slice none 0 0,.slice none 0 0] 31)
 have hb2:=Blk.new (w.alloc (.cells #[.slice none 0 0,.slice none 0 0] 27)) 31 #[.int .i64 0,.slice none 0 0,.slice none 0 0] (w.heap.size+1) (by simp)
 have hs0:((w.alloc (.cells #[.slice none 0 0,.slice none 0 0] 27)).alloc (.cells #[.int .i64 0,.slice none 0 0,.slice none 0 0] 31)).heap.size=w.heap.size+2:=by simp
 obtain ⟨A,n,c,rfl⟩:=hv.shape
 clear hv
 go_enter Tryz.func15,Tryz.ntmps15
 go_wp2_with fail
 refine (l1New_any _ bs _ ((HV.out.below hb0 (Nat.le_refl _)).mono (Nat.le_refl _) hb0.size)).mono ?_
 rintro e w1 ⟨b,rfl,hbl,hc1,hbw⟩
 have hr1:=hb1.keep hbw
 have hr2:=hb2.keep hbw
 have hb3:=below_trans hb0 hbw
 rw [hs0] at hbl
 clear hbw hb1 hb2 hb0 hs0 HV
 go_wp2_with fail
 refine (l14Pair_any b _ hc1).mono ?_
 rintro e w2 ⟨vg,va,g,a,rfl,hgv,he11,hav,hc2,ho2⟩
 have hlb:=hc1.lt
 obtain ⟨A1,n1,c1,A2,n2,c2,rfl⟩:=hgv.shape
 obtain ⟨A3,n3,c3,A4,n4,c4,rfl⟩:=hav.shape
 have hn1:=grT_len hgv
 have hs2:=ho2.size
 have hal:=((Below.refl w2.heap.size w2).alloc (Nat.le_refl _) (.cells #[.slice A1 n1 c1,.slice A2 n2 c2] 27)).alloc (by simp) (.cells #[.int .i64 a.start,.slice A3 n3 c3,.slice A4 n4 c4] 31)
 have bg:=(Blk.new w2 27 #[.slice A1 n1 c1,.slice A2 n2 c2] _ rfl).alloc (.cells #[.int .i64 a.start,.slice A3 n3 c3,.slice A4 n4 c4] 31)
 have ba:=Blk.new (w2.alloc (.cells #[.slice A1 n1 c1,.slice A2 n2 c2] 27)) 31 #[.int .i64 a.start,.slice A3 n3 c3,.slice A4 n4 c4] (w2.heap.size+1) (by simp)
 obtain ⟨gq,hgq⟩:∃ gq,gq=w2.heap.size:=⟨_,rfl⟩
 have HP:=Hd_ (show GaR b w.heap.size gq (gq+1) w ((w2.alloc (.cells #[.slice A1 n1 c1,.slice A2 n2 c2] 27)).alloc (.cells #[.int .i64 a.start,.slice A3 n3 c3,.slice A4 n4 c4] 31)) _ _ g _ _ a from
  ⟨(hr1.only ho2 (.inl (by omega))).keep hal,(hr2.only ho2 (.inl (by omega))).keep hal,hgq ▸ bg,hgq ▸ ba,(hgv.below hal (Nat.le_refl _)).mono (by omega) (by omega),(hav.below hal (Nat.le_refl _)).mono (by omega) (by omega),hc2.keep hal,below_trans (hb3.trans (ho2.below (B:=w.heap.size) (by omega) hb3.size)) hal,rfl,he11,by omega⟩)
 clear hal bg ba hgv hav hc2 ho2 hr1 hr2 hb3 hc1 hs2 he11
 go_upto_region 3 with fail
 rw [<- hgq]
 generalize ((w2.alloc (.cells #[.slice A1 n1 c1,.slice A2 n2 c2] 27)).alloc (.cells #[.int .i64 a.start,.slice A3 n3 c3,.slice A4 n4 c4] 31))=W at *
 clear hgq hlb
 have x0:W.cell? ⟨gq,0,none⟩=some (.slice A1 n1 c1):=HP.out.gbk.cell 0
 have x1:W.cell? ⟨gq,1,none⟩=some (.slice A2 n2 c2):=HP.out.gbk.cell 1
 have y0:W.cell? ⟨gq+1,0,none⟩=some (.int .i64 a.start):=HP.out.abk.cell 0
 have y1:W.cell? ⟨gq+1,1,none⟩=some (.slice A3 n3 c3):=HP.out.abk.cell 1
 have y2:W.cell? ⟨gq+1,2,none⟩=some (.slice A4 n4 c4):=HP.out.abk.cell 2
 go_wp2_with fail
 refine (l4Node_any b _ _ _ _ _ _ _ HP.out.cur hn1).mono ?_
 rintro e w4 ⟨x,rfl,hc4,ho4⟩
 have HP4:=Hd_ (HP.out.step ho4 hc4)
 clear ho4 hc4 HP x0 x1 y0 y1 y2
 have x0:w4.cell? ⟨gq,0,none⟩=some (.slice A1 n1 c1):=HP4.out.gbk.cell 0
 have x1:w4.cell? ⟨gq,1,none⟩=some (.slice A2 n2 c2):=HP4.out.gbk.cell 1
 have y0:w4.cell? ⟨gq+1,0,none⟩=some (.int .i64 a.start):=HP4.out.abk.cell 0
 have y1:w4.cell? ⟨gq+1,1,none⟩=some (.slice A3 n3 c3):=HP4.out.abk.cell 1
 have y2:w4.cell? ⟨gq+1,2,none⟩=some (.slice A4 n4 c4):=HP4.out.abk.cell 2
 go_wp2_with fail
 refine (l4Node_any b _ _ _ _ _ _ _ HP4.out.cur hn1).mono ?_
 rintro e w5 ⟨y,rfl,hc5,ho5⟩
 have HP5:=Hd_ (HP4.out.step ho5 hc5)
 clear ho5 hc5 HP4 x0 x1 y0 y1 y2
 have x0:w5.cell? ⟨gq,0,none⟩=some (.slice A1 n1 c1):=HP5.out.gbk.cell 0
 have x1:w5.cell? ⟨gq,1,none⟩=some (.slice A2 n2 c2):=HP5.out.gbk.cell 1
 have y0:w5.cell? ⟨gq+1,0,none⟩=some (.int .i64 a.start):=HP5.out.abk.cell 0
 have y1:w5.cell? ⟨gq+1,1,none⟩=some (.slice A3 n3 c3):=HP5.out.abk.cell 1
 have y2:w5.cell? ⟨gq+1,2,none⟩=some (.slice A4 n4 c4):=HP5.out.abk.cell 2
 go_wp2_with fail
 refine (specAllAnswers _ _ g a _ HP5.out.grv HP5.out.auv).mono ?_
 rintro e w6 ⟨vl,rfl,hol,hb6⟩
 have HP6:=Hd_ (HP5.out.keep hb6)
 have hblt:b < w5.heap.size:=by have:=HP5.out.ord;have:=HP5.out.abk.lt;omega
 have haq:gq+1 < w5.heap.size:=HP5.out.abk.lt
 obtain ⟨A6,c6,rfl,hl6,hm6,-⟩:=hol.form cPr_len
 have hsl:=hol.sl cPr_len
 obtain ⟨N,hN⟩:∃ N,N=(allL g a).length:=⟨_,rfl⟩
 rw [<- hN] at hl6 hsl ⊢
 have HL:=Hd_ hsl
 have HN:=Hd_ hN
 clear hol hsl hb6 HP5 hN x0 x1 y0 y1 y2
 by_cases h0:N=0
 · subst h0
   have x0:w6.cell? ⟨gq,0,none⟩=some (.slice A1 n1 c1):=HP6.out.gbk.cell 0
   have x1:w6.cell? ⟨gq,1,none⟩=some (.slice A2 n2 c2):=HP6.out.gbk.cell 1
   have y0:w6.cell? ⟨gq+1,0,none⟩=some (.int .i64 a.start):=HP6.out.abk.cell 0
   have y1:w6.cell? ⟨gq+1,1,none⟩=some (.slice A3 n3 c3):=HP6.out.abk.cell 1
   have y2:w6.cell? ⟨gq+1,2,none⟩=some (.slice A4 n4 c4):=HP6.out.abk.cell 2
   have z0:w6.cell? ⟨w.heap.size,0,none⟩=some (.slice none 0 0):=HP6.out.res1.cell 0
   have z1:w6.cell? ⟨w.heap.size,1,none⟩=some (.slice none 0 0):=HP6.out.res1.cell 1
   have z2:w6.cell? ⟨w.heap.size+1,0,none⟩=some (.int .i64 0):=HP6.out.res2.cell 0
   have z3:w6.cell? ⟨w.heap.size+1,1,none⟩=some (.slice none 0 0):=HP6.out.res2.cell 1
   have z4:w6.cell? ⟨w.heap.size+1,2,none⟩=some (.slice none 0 0):=HP6.out.res2.cell 2
   have v0:=HP6.out.res1.frozen 0
   have v1:=HP6.out.res1.frozen 1
   have v2:=HP6.out.res2.frozen 0
   have v3:=HP6.out.res2.frozen 1
   have v4:=HP6.out.res2.frozen 2
   have hlr:=HP6.out.res1.lt
   have hls:=HP6.out.res2.lt
   have hord:=HP6.out.ord
   have q1:¬ gq+1=w.heap.size:=by omega
   have q2:¬ w.heap.size=gq+1:=by omega
   have q3:¬ gq+1=w.heap.size+1:=by omega
   have q4:¬ w.heap.size+1=gq+1:=by omega
   have q5:¬ gq=w.heap.size:=by omega
   have q6:¬ w.heap.size=gq:=by omega
   have q7:¬ gq=w.heap.size+1:=by omega
   have q8:¬ w.heap.size+1=gq:=by omega
   clear hord
   go_wp2_with fail
   go_region
   have HD:=HP6.out.fin (putGA_only w6 w.heap.size (.slice A1 n1 c1) (.slice A2 n2 c2) (.int .i64 a.start) (.slice A3 n3 c3) (.slice A4 n4 c4))
   go_wp2_with fail
   refine bodyPost_ret (v:=.tuple #[.pointer (some ⟨b,0,none⟩),.agg #[.slice A1 n1 c1,.slice A2 n2 c2],.agg #[.int .i64 a.start,.slice A3 n3 c3,.slice A4 n4 c4],.int .i64 x,.int .i64 y]) (by simp [results,Tryz.results15,go_sem,z0,z1,z2,z3,z4,v0,v1,v2,v3,v4]) rfl ⟨_,_,_,_,_,_,_,rfl,HD⟩
 · have hN1:(0:Int) < (N:Int):=by omega
   go_wp2_with fail
   refine (l1Once_any b 3 _ HP6.out.cur).mono ?_
   rintro e w7 ⟨t,rfl,hc7,ho7⟩
   have HP7:=Hd_ (HP6.out.step ho7 hc7)
   have HL7:=Hd_ (HL.out.only ho7 (Nat.le_refl _) (.inr hblt))
   have hs7:=ho7.size
   clear HP6 hc7 ho7 HL
   cases t
   · go_wp2_with fail
     refine (l1Below_any b _ _ HP7.out.cur).mono ?_
     rintro e w8 ⟨i,rfl,⟨hi0,-,hi1⟩,hc8,ho8⟩
     have HP8:=Hd_ (HP7.out.step ho8 hc8)
     have HL8:=Hd_ (HL7.out.only ho8 hs7 (.inr hblt))
     have hs8:=ho8.size
     have hi1:=hi1 hN1
     obtain ⟨i,rfl⟩:=Int.eq_ofNat_of_zero_le hi0
     clear HP7 HL7 hc8 ho8 hi0
     have hlt:i < (allL g a).length:=by rw [<- HN.out];omega
     obtain ⟨E,hE⟩:∃ E,E=(allL g a)[i]:=⟨_,rfl⟩
     have hei:(allL g a)[i]?=some E:=by rw [hE];exact List.getElem?_eq_getElem hlt
     clear hE hlt
     obtain ⟨b6,o6,rfl,hlo6,hb6,e0,e1⟩:=prAtT HL8.out hei
     obtain ⟨e1v,e2v⟩:=E
     simp only at e0 e1
     clear hei
     have hal:=(Below.refl w8.heap.size w8).alloc (Nat.le_refl _) (.cells #[.int .i64 e1v,.int .i64 e2v] 90)
     have HP9:=Hd_ (HP8.out.keep hal)
     have bp:=Blk.new w8 90 #[.int .i64 e1v,.int .i64 e2v] _ rfl
     obtain ⟨pq,hpq⟩:∃ pq,pq=w8.heap.size:=⟨_,rfl⟩
     have hpl:gq+1 < pq:=by omega
     have hpl2:w.heap.size+1 < pq:=by have:=HP8.out.ord;omega
     rw [<- hpq] at bp
     clear hal HP8
     go_upto_region 8 with fail
     rw [<- hpq]
     generalize (w8.alloc (.cells #[.int .i64 e1v,.int .i64 e2v] 90))=W9 at *
     clear hpq e0 e1
     have e0:W9.cell? ⟨pq,0,none⟩=some (.int .i64 e1v):=bp.cell 0
     have e1:W9.cell? ⟨pq,1,none⟩=some (.int .i64 e2v):=bp.cell 1
     have r1:¬ pq=w.heap.size:=by omega
     have r2:¬ w.heap.size=pq:=by omega
     have r3:¬ pq=w.heap.size+1:=by omega
     have r4:¬ w.heap.size+1=pq:=by omega
     have r5:¬ pq=gq:=by omega
     have r6:¬ gq=pq:=by omega
     clear bp hpl hpl2
     have x0:W9.cell? ⟨gq,0,none⟩=some (.slice A1 n1 c1):=HP9.out.gbk.cell 0
     have x1:W9.cell? ⟨gq,1,none⟩=some (.slice A2 n2 c2):=HP9.out.gbk.cell 1
     have y0:W9.cell? ⟨gq+1,0,none⟩=some (.int .i64 a.start):=HP9.out.abk.cell 0
     have y1:W9.cell? ⟨gq+1,1,none⟩=some (.slice A3 n3 c3):=HP9.out.abk.cell 1
     have y2:W9.cell? ⟨gq+1,2,none⟩=some (.slice A4 n4 c4):=HP9.out.abk.cell 2
     have z0:W9.cell? ⟨w.heap.size,0,none⟩=some (.slice none 0 0):=HP9.out.res1.cell 0
     have z1:W9.cell? ⟨w.heap.size,1,none⟩=some (.slice none 0 0):=HP9.out.res1.cell 1
     have z2:W9.cell? ⟨w.heap.size+1,0,none⟩=some (.int .i64 0):=HP9.out.res2.cell 0
     have z3:W9.cell? ⟨w.heap.size+1,1,none⟩=some (.slice none 0 0):=HP9.out.res2.cell 1
     have z4:W9.cell? ⟨w.heap.size+1,2,none⟩=some (.slice none 0 0):=HP9.out.res2.cell 2
     have v0:=HP9.out.res1.frozen 0
     have v1:=HP9.out.res1.frozen 1
     have v2:=HP9.out.res2.frozen 0
     have v3:=HP9.out.res2.frozen 1
     have v4:=HP9.out.res2.frozen 2
     have hlr:=HP9.out.res1.lt
     have hls:=HP9.out.res2.lt
     have hord:=HP9.out.ord
     have q1:¬ gq+1=w.heap.size:=by omega
     have q2:¬ w.heap.size=gq+1:=by omega
     have q3:¬ gq+1=w.heap.size+1:=by omega
     have q4:¬ w.heap.size+1=gq+1:=by omega
     have q5:¬ gq=w.heap.size:=by omega
     have q6:¬ w.heap.size=gq:=by omega
     have q7:¬ gq=w.heap.size+1:=by omega
     have q8:¬ w.heap.size+1=gq:=by omega
     clear hord
     go_wp2_with fail
     go_region
     have HD:=HP9.out.fin (putGA_only W9 w.heap.size (.slice A1 n1 c1) (.slice A2 n2 c2) (.int .i64 a.start) (.slice A3 n3 c3) (.slice A4 n4 c4))
     go_wp2_with fail
     refine bodyPost_ret (v:=.tuple #[.pointer (some ⟨b,0,none⟩),.agg #[.slice A1 n1 c1,.slice A2 n2 c2],.agg #[.int .i64 a.start,.slice A3 n3 c3,.slice A4 n4 c4],.int .i64 e1v,.int .i64 e2v]) (by simp [results,Tryz.results15,go_sem,z0,z1,z2,z3,z4,v0,v1,v2,v3,v4]) rfl ⟨_,_,_,_,_,_,_,rfl,HD⟩
   · skip
     have x0:w7.cell? ⟨gq,0,none⟩=some (.slice A1 n1 c1):=HP7.out.gbk.cell 0
     have x1:w7.cell? ⟨gq,1,none⟩=some (.slice A2 n2 c2):=HP7.out.gbk.cell 1
     have y0:w7.cell? ⟨gq+1,0,none⟩=some (.int .i64 a.start):=HP7.out.abk.cell 0
     have y1:w7.cell? ⟨gq+1,1,none⟩=some (.slice A3 n3 c3):=HP7.out.abk.cell 1
     have y2:w7.cell? ⟨gq+1,2,none⟩=some (.slice A4 n4 c4):=HP7.out.abk.cell 2
     have z0:w7.cell? ⟨w.heap.size,0,none⟩=some (.slice none 0 0):=HP7.out.res1.cell 0
     have z1:w7.cell? ⟨w.heap.size,1,none⟩=some (.slice none 0 0):=HP7.out.res1.cell 1
     have z2:w7.cell? ⟨w.heap.size+1,0,none⟩=some (.int .i64 0):=HP7.out.res2.cell 0
     have z3:w7.cell? ⟨w.heap.size+1,1,none⟩=some (.slice none 0 0):=HP7.out.res2.cell 1
     have z4:w7.cell? ⟨w.heap.size+1,2,none⟩=some (.slice none 0 0):=HP7.out.res2.cell 2
     have v0:=HP7.out.res1.frozen 0
     have v1:=HP7.out.res1.frozen 1
     have v2:=HP7.out.res2.frozen 0
     have v3:=HP7.out.res2.frozen 1
     have v4:=HP7.out.res2.frozen 2
     have hlr:=HP7.out.res1.lt
     have hls:=HP7.out.res2.lt
     have hord:=HP7.out.ord
     have q1:¬ gq+1=w.heap.size:=by omega
     have q2:¬ w.heap.size=gq+1:=by omega
     have q3:¬ gq+1=w.heap.size+1:=by omega
     have q4:¬ w.heap.size+1=gq+1:=by omega
     have q5:¬ gq=w.heap.size:=by omega
     have q6:¬ w.heap.size=gq:=by omega
     have q7:¬ gq=w.heap.size+1:=by omega
     have q8:¬ w.heap.size+1=gq:=by omega
     clear hord
     go_wp2_with fail
     go_region
     have HD:=HP7.out.fin (putGA_only w7 w.heap.size (.slice A1 n1 c1) (.slice A2 n2 c2) (.int .i64 a.start) (.slice A3 n3 c3) (.slice A4 n4 c4))
     go_wp2_with fail
     refine bodyPost_ret (v:=.tuple #[.pointer (some ⟨b,0,none⟩),.agg #[.slice A1 n1 c1,.slice A2 n2 c2],.agg #[.int .i64 a.start,.slice A3 n3 c3,.slice A4 n4 c4],.int .i64 x,.int .i64 y]) (by simp [results,Tryz.results15,go_sem,z0,z1,z2,z3,z4,v0,v1,v2,v3,v4]) rfl ⟨_,_,_,_,_,_,_,rfl,HD⟩
end Go.Proofs.YteaplabkemoenaaGreat
namespace Go.Proofs.YteaplabkemoenaaGreat
def nodesL (g:Gr) (k:Wk):List Int:=k.1 :: k.2.map (stepTo g)
theorem nodesL_len (g:Gr) (k:Wk):(nodesL g k).length=k.2.length+1:=by simp [nodesL]
theorem nodesL_succ {g:Gr} {k:Wk} {i:Nat} {s:St} (h:k.2[i]?=some s):(nodesL g k).take (i+1+1)=(nodesL g k).take (i+1) ++ [stepTo g s]:=by
 refine take_snoc ?_
 rw [nodesL,List.getElem?_cons_succ,List.getElem?_map,h];rfl
theorem nodesL_next {g:Gr} {k:Wk} {i:Nat} {s:St} (h:k.2[i]?=some s):(nodesL g k)[i+1]?=some (stepTo g s):=by rw [nodesL,List.getElem?_cons_succ,List.getElem?_map,h];rfl
/-- the step leads from the node that the walk is at -/
def linkAt (g:Gr) (k:Wk) (i:Nat):Bool:=stepFrom g (k.2.getD i (0,false))==(nodesL g k).getD i 0
def walkOk (g:Gr) (k:Wk):Bool:=grOk g && wi k.1 0 ((g.vals.length:Int) - 1) && decide (k.2.length<=60) && (List.range k.2.length).all (linkAt g k)
/-- the nodes of a walk of the graph; none of another -/
def nodesOut (g:Gr) (k:Wk):List Int:=if walkOk g k=true then nodesL g k else []
theorem nodesOut_no {g:Gr} {k:Wk} (h:walkOk g k=false):nodesOut g k=[]:=by rw [nodesOut,h];rfl
theorem nodesOut_yes {g:Gr} {k:Wk} (h:walkOk g k=true):nodesOut g k=nodesL g k:=by rw [nodesOut,h];rfl
theorem linkAt_eq {g:Gr} {k:Wk} {i:Nat} {s:St} {x:Int} (h:k.2[i]?=some s) (hx:(nodesL g k)[i]?=some x):linkAt g k i=(stepFrom g s==x):=by
 rw [linkAt,List.getD_eq_getElem?_getD,h,List.getD_eq_getElem?_getD,hx];rfl
/-- node i of a walk -/
def nodeAt (g:Gr) (k:Wk) (i:Nat):Nat:=((nodesL g k).getD i 0).toNat
def letAt (g:Gr) (k:Wk) (i:Nat):Nat:=(stepLetter g (k.2.getD i (0,false))).toNat
/-- the states behind i steps -/
def setAt (g:Gr) (a:Au) (k:Wk):Nat->Nat
 | 0=>bit a.start.toNat
 | i+1=>aft a (setAt g a k i) (valAt g (nodeAt g k i)) (letAt g k i)
def setsL (g:Gr) (a:Au) (k:Wk) (n:Nat):List Nat:=(List.range n).map (setAt g a k)
theorem setsL_len (g:Gr) (a:Au) (k:Wk) (n:Nat):(setsL g a k n).length=n:=by simp [setsL]
theorem setsL_snoc (g:Gr) (a:Au) (k:Wk) (n:Nat):setsL g a k (n+1)=setsL g a k n ++ [setAt g a k n]:=by simp [setsL,List.range_succ]
theorem setsL_at {g:Gr} {a:Au} {k:Wk} {n i:Nat} (h:i < n):(setsL g a k n)[i]?=some (setAt g a k i):=by simp [setsL,h]
theorem setAt_lt {g:Gr} {a:Au} (ha:auOk a=true) (k:Wk) (i:Nat):setAt g a k i < 2 ^ a.accept.length:=by
 cases i with
 | zero=>exact bit_lt (by have:=(auOk_iff.1 ha).2.1;omega)
 | succ i=>exact aft_lt ha _ _ _
theorem walkOk_parts {g:Gr} {k:Wk} (h:walkOk g k=true):GrOk g/\(0<=k.1/\k.1<=(g.vals.length:Int) - 1)/\k.2.length<=60/\∀ i,i < k.2.length->linkAt g k i=true:=by
 simp only [walkOk,Bool.and_eq_true,wi_iff,decide_eq_true_eq,List.all_eq_true,List.mem_range] at h
 exact ⟨grOk_iff.1 h.1.1.1,h.1.1.2,h.1.2,h.2⟩
theorem stepTo_of {g:Gr} {s:St} {e:Ed} (h:stepEd g s.1=some e):stepTo g s=arcTo s.2 e:=by
 unfold stepTo stepFrom arcTo
 simp only [h]
 cases s.2 <;> rfl
theorem stepFrom_of {g:Gr} {s:St} {e:Ed} (h:stepEd g s.1=some e):stepFrom g s=arcTo (!s.2) e:=by
 unfold stepFrom arcTo
 simp only [h]
 cases s.2 <;> rfl
theorem stepLetter_of {g:Gr} {s:St} {e:Ed} (h:stepEd g s.1=some e):stepLetter g s=arcLetter s.2 e:=by
 unfold stepLetter arcLetter
 simp only [h]
theorem nodeAt_at {g:Gr} {k:Wk} {i:Nat} (h:i<=k.2.length):(nodesL g k)[i]?=some ((nodesL g k).getD i 0):=by
 rw [List.getD_eq_getElem?_getD,List.getElem?_eq_getElem (by rw [nodesL_len];omega)];rfl
/-- the nodes of a walk of the graph are nodes of the graph, and its steps are edges of it -/
theorem walk_parts {g:Gr} {k:Wk} (h:walkOk g k=true):∀ {i:Nat},i<=k.2.length->(0<=(nodesL g k).getD i 0/\(nodesL g k).getD i 0<=(g.vals.length:Int) - 1) /\
 (i < k.2.length->∃ s e,k.2[i]?=some s/\stepEd g s.1=some e/\stepFrom g s=(nodesL g k).getD i 0/\stepTo g s=(nodesL g k).getD (i+1) 0):=by
 obtain ⟨hg,hk,-,hl⟩:=walkOk_parts h
 have step:∀ i,i < k.2.length->0<=(nodesL g k).getD i 0->∃ s e,k.2[i]?=some s/\stepEd g s.1=some e/\stepFrom g s=(nodesL g k).getD i 0/\stepTo g s=(nodesL g k).getD (i+1) 0:=by
  intro i hi h0
  have hs:k.2[i]?=some k.2[i]:=List.getElem?_eq_getElem hi
  generalize k.2[i]=s at hs
  have hlk:=hl i hi
  rw [linkAt_eq hs (nodeAt_at (by omega)),beq_iff_eq] at hlk
  have hnx:=nodesL_next (g:=g) hs
  have hnx2:=nodeAt_at (g:=g) (k:=k) (i:=i+1) (by omega)
  rw [hnx] at hnx2
  cases he:stepEd g s.1 with
  | none =>
    have:=stepFrom_neg.2 he
    omega
  | some e=>exact ⟨s,e,hs,he,hlk,by injection hnx2⟩
 intro i
 induction i with
 | zero=>exact fun _=>⟨hk,fun hi=>step 0 hi hk.1⟩
 | succ i ih =>
   intro hi
   obtain ⟨hr,hst⟩:=ih (by omega)
   obtain ⟨s,e,hs,he,hf,ht⟩:=hst (by omega)
   have hrange:0<=stepTo g s/\stepTo g s<=(g.vals.length:Int) - 1:=by
    rw [stepTo_of he]
    obtain ⟨_,hm,_⟩:=stepEd_ok he
    have:=hg.edges e hm
    unfold arcTo
    split <;> omega
   rw [ht] at hrange
   exact ⟨hrange,fun hi2=>step (i+1) hi2 hrange.1⟩
theorem nodeAt_lt {g:Gr} {k:Wk} (h:walkOk g k=true) {i:Nat} (hi:i<=k.2.length):(nodesL g k)[i]?=some (nodeAt g k i:Int)/\nodeAt g k i < g.vals.length:=by
 have h1:=(walk_parts h hi).1
 refine ⟨?_,?_⟩
 · rw [nodeAt_at hi,nodeAt,Int.toNat_of_nonneg h1.1]
 · unfold nodeAt;omega
/-- step i: its edge, its letter, the node behind it -/
theorem walk_step {g:Gr} {k:Wk} (h:walkOk g k=true) {i:Nat} (hi:i < k.2.length):∃ s e,k.2[i]?=some s/\stepEd g s.1=some e/\arcTo s.2 e=(nodeAt g k (i+1):Int)/\arcLetter s.2 e=(letAt g k i:Int)/\stepLetter g s=(letAt g k i:Int)/\letAt g k i < 6:=by
 obtain ⟨s,e,hs,he,-,ht⟩:=(walk_parts h (Nat.le_of_lt hi)).2 hi
 obtain ⟨hg,hm,_⟩:=stepEd_ok he
 have hl:=hg.edges e hm
 have h1:=(walk_parts h (show i+1<=k.2.length from hi)).1
 have hsd:k.2.getD i (0,false)=s:=by rw [List.getD_eq_getElem?_getD,hs];rfl
 have hr:0<=arcLetter s.2 e/\arcLetter s.2 e<=5:=by
  unfold arcLetter
  split <;> omega
 have hla:(letAt g k i:Int)=arcLetter s.2 e:=by rw [letAt,hsd,stepLetter_of he,Int.toNat_of_nonneg hr.1]
 refine ⟨s,e,hs,he,?_,hla.symm,by rw [stepLetter_of he,hla],by omega⟩
 rw [<- stepTo_of he,ht,nodeAt,Int.toNat_of_nonneg h1.1]
def walkEnd (g:Gr) (k:Wk):Int:=if walkOk g k=true then (nodeAt g k k.2.length:Int) else -1
def matchB (g:Gr) (a:Au) (k:Wk):Bool:=(walkOk g k && auOk a) && acc a (setAt g a k k.2.length) (valAt g (nodeAt g k k.2.length))
def isWit (g:Gr) (a:Au) (x y:Int) (k:Wk):Bool:=(k.1==x && walkEnd g k==y) && matchB g a k
def alongS (g:Gr) (a:Au) (k:Wk):List Nat:=if (walkOk g k && auOk a)=true then setsL g a k (k.2.length+1) else []
def alongN (g:Gr) (a:Au) (k:Wk):List Int:=if (walkOk g k && auOk a)=true then nodesL g k else []
end Go.Proofs.YteaplabkemoenaaGreat
namespace Go.Proofs.YteaplabkemoenaaGreat
open Go.ChangeShapes Go.WideShapes Go.ChangeAt Go.RowKit
attribute [local go_sem] ext_cell ext_frozen ext_lt ext_lt1 ext_lt2 ext_lt3 ltn2 ltn3 ltn13 lts1 lts2 lts3
set_option maxHeartbeats 1000000 in
theorem implStepEdge (v:Value) (g:Gr) (s:St) (w:World) (hv:GrV 0 w.heap.size w v g) :
 Calls Tryz.prog 104 #[v,.agg #[.int .i64 s.1,.bool s.2]] w fun en w'=>∃ e:Ed,en=.returned (.tuple #[.agg #[.int .i64 e.1,.int .i64 e.2.1,.int .i64 e.2.2.1,.int .i64 e.2.2.2],.bool (stepEd g s.1).isSome])/\(∀ e',stepEd g s.1=some e'->e'=e)/\Below w.heap.size w w':=by
 have hv0:=hv
 obtain ⟨vs,es,rfl,hvs,⟨A2,c2,rfl,hl2,hm2,hx2⟩⟩:=hv
 obtain ⟨A1,n1,c1,rfl⟩:=hvs.shape
 obtain ⟨id,inv⟩:=s
 unfold maxLen at hm2
 have hb0:Below w.heap.size w (((w.alloc (.cells #[.slice A1 n1 c1,.slice A2 g.edges.length c2] 27)).alloc (.cells #[.int .i64 id,.bool inv] 66)).alloc (.cells #[.int .i64 0,.int .i64 0,.int .i64 0,.int .i64 0] 110)):=(((Below.refl _ _).alloc (Nat.le_refl _) _).alloc (by simp) _).alloc (by simp <;> omega) _
 have hspec:=edgeIdx_spec g id
 simp only
 go_enter Tryz.func104,Tryz.ntmps104
 have HS:=Hd_ hspec
 clear hspec
 go_wp2_with fail
 refine (implEdgeIndex _ g id _ (hv0.keep hb0)).mono ?_
 rintro e w1 ⟨rfl,hb1⟩
 have b0:=(((Blk.new w _ _ w.heap.size rfl).alloc _).alloc _).keep hb1
 have b2:=(Blk.new ((w.alloc _).alloc _) _ _ (w.heap.size+1+1) (by simp)).keep hb1
 have hb2:=below_trans hb0 hb1
 clear hb0 hb1
 rcases HS.out with ⟨hi,hno⟩ | ⟨i,e,hi,hx,he,hno⟩
 · have hnone:=stepEd_none hno
   have HN:=Hd_ hnone
   rw [hi]
   have z0:w1.cell? ⟨w.heap.size+1+1,0,none⟩=some _:=b2.cell 0
   have z1:w1.cell? ⟨w.heap.size+1+1,1,none⟩=some _:=b2.cell 1
   have z2:w1.cell? ⟨w.heap.size+1+1,2,none⟩=some _:=b2.cell 2
   have z3:w1.cell? ⟨w.heap.size+1+1,3,none⟩=some _:=b2.cell 3
   have f0:=b2.frozen 0
   have f1:=b2.frozen 1
   have f2:=b2.frozen 2
   have f3:=b2.frozen 3
   clear hnone hno hi HS b0
   go_wp2_with fail
   refine bodyPost_ret (v:=.tuple #[.agg #[.int .i64 0,.int .i64 0,.int .i64 0,.int .i64 0],.bool false]) (by simp [results,Tryz.results104,go_sem,z0,z1,z2,z3]) rfl ⟨(0,0,0,0),by rw [HN.out];rfl,(by rw [HN.out];intro e' he';cases he'),(((hb2.setCell (p:=⟨w.heap.size+1+1,0,none⟩) (by simp <;> omega) _).setCell (p:=⟨w.heap.size+1+1,1,none⟩) (by simp <;> omega) _).setCell (p:=⟨w.heap.size+1+1,2,none⟩) (by simp <;> omega) _).setCell (p:=⟨w.heap.size+1+1,3,none⟩) (by simp <;> omega) _⟩
 · rw [hi]
   have x0:w1.cell? ⟨w.heap.size,0,none⟩=some _:=b0.cell 0
   have x1:w1.cell? ⟨w.heap.size,1,none⟩=some _:=b0.cell 1
   have hil:i < g.edges.length:=(List.getElem?_eq_some_iff.1 hx).1
   cases hg:grOk g with
   | false =>
     have hnone:=stepEd_bad id hg
     have HN:=Hd_ hnone
     clear hnone hno HS hx
     go_wp2_with fail
     refine (implValidGraph _ g _ (hv0.keep hb2)).mono ?_
     rintro en w2 ⟨rfl,hb3⟩
     rw [hg]
     have b2:=b2.keep hb3
     have hb2:=below_trans hb2 hb3
     clear hb3 b0 x0 x1
     have z0:w2.cell? ⟨w.heap.size+1+1,0,none⟩=some _:=b2.cell 0
     have z1:w2.cell? ⟨w.heap.size+1+1,1,none⟩=some _:=b2.cell 1
     have z2:w2.cell? ⟨w.heap.size+1+1,2,none⟩=some _:=b2.cell 2
     have z3:w2.cell? ⟨w.heap.size+1+1,3,none⟩=some _:=b2.cell 3
     have f0:=b2.frozen 0
     have f1:=b2.frozen 1
     have f2:=b2.frozen 2
     have f3:=b2.frozen 3
     go_wp2_with fail
     refine bodyPost_ret (v:=.tuple #[.agg #[.int .i64 0,.int .i64 0,.int .i64 0,.int .i64 0],.bool false]) (by simp [results,Tryz.results104,go_sem,z0,z1,z2,z3]) rfl ⟨(0,0,0,0),by rw [HN.out];rfl,(by rw [HN.out];intro e' he';cases he'),(((hb2.setCell (p:=⟨w.heap.size+1+1,0,none⟩) (by simp <;> omega) _).setCell (p:=⟨w.heap.size+1+1,1,none⟩) (by simp <;> omega) _).setCell (p:=⟨w.heap.size+1+1,2,none⟩) (by simp <;> omega) _).setCell (p:=⟨w.heap.size+1+1,3,none⟩) (by simp <;> omega) _⟩
   | true =>
     have hsome:=stepEd_some hg hx he hno
     have HN:=Hd_ hsome
     obtain ⟨b9,o9,rfl,-,hb9,hc9⟩:=hx2 i e hx
     have d0:=hc9 0 _ rfl
     have d1:=hc9 1 _ rfl
     have d2:=hc9 2 _ rfl
     have d3:=hc9 3 _ rfl
     simp only [Nat.add_zero] at d0
     have HI:=Hd_ hi
     clear hsome hno HS hx hc9 hx2 he hi
     go_wp2_with fail
     refine (implValidGraph _ g _ (hv0.keep hb2)).mono ?_
     rintro en w2 ⟨rfl,hb3⟩
     rw [hg]
     have b2:=b2.keep hb3
     have b0:=b0.keep hb3
     have hb2:=below_trans hb2 hb3
     have d0:=(hb2.cell (p:=⟨b9,o9+i * 4,none⟩) hb9).trans d0
     have d1:=(hb2.cell (p:=⟨b9,o9+i * 4+1,none⟩) hb9).trans d1
     have d2:=(hb2.cell (p:=⟨b9,o9+i * 4+2,none⟩) hb9).trans d2
     have d3:=(hb2.cell (p:=⟨b9,o9+i * 4+3,none⟩) hb9).trans d3
     clear hb3 x0 x1
     have x1:w2.cell? ⟨w.heap.size,1,none⟩=some _:=b0.cell 1
     have z0:w2.cell? ⟨w.heap.size+1+1,0,none⟩=some _:=b2.cell 0
     have z1:w2.cell? ⟨w.heap.size+1+1,1,none⟩=some _:=b2.cell 1
     have z2:w2.cell? ⟨w.heap.size+1+1,2,none⟩=some _:=b2.cell 2
     have z3:w2.cell? ⟨w.heap.size+1+1,3,none⟩=some _:=b2.cell 3
     have f0:=b2.frozen 0
     have f1:=b2.frozen 1
     have f2:=b2.frozen 2
     have f3:=b2.frozen 3
     go_wp2_with fail
     refine bodyPost_ret (v:=.tuple #[.agg #[.int .i64 e.1,.int .i64 e.2.1,.int .i64 e.2.2.1,.int .i64 e.2.2.2],.bool true]) (by simp [results,Tryz.results104,go_sem,z0,z1,z2,z3]) rfl ⟨e,by rw [HN.out];rfl,(by rw [HN.out];intro e' he';injection he' with he';exact he'.symm),(((hb2.setCell (p:=⟨w.heap.size+1+1,0,none⟩) (by simp <;> omega) _).setCell (p:=⟨w.heap.size+1+1,1,none⟩) (by simp <;> omega) _).setCell (p:=⟨w.heap.size+1+1,2,none⟩) (by simp <;> omega) _).setCell (p:=⟨w.heap.size+1+1,3,none⟩) (by simp <;> omega) _⟩
set_option maxHeartbeats 1000000 in
theorem implStepFrom (v:Value) (g:Gr) (s:St) (w:World) (hv:GrV 0 w.heap.size w v g) :
 Calls Tryz.prog 92 #[v,.agg #[.int .i64 s.1,.bool s.2]] w fun en w'=>en=.returned (.int .i64 (stepFrom g s))/\Below w.heap.size w w':=by
 have hv0:=hv
 obtain ⟨A1,n1,c1,A2,n2,c2,rfl⟩:=hv.shape
 clear hv
 obtain ⟨id,inv⟩:=s
 have hb0:Below w.heap.size w ((w.alloc (.cells #[.slice A1 n1 c1,.slice A2 n2 c2] 27)).alloc (.cells #[.int .i64 id,.bool inv] 66)):=((Below.refl _ _).alloc (Nat.le_refl _) _).alloc (by simp) _
 have hc:=fun W (hW:Below w.heap.size w W)=>implStepEdge _ g (id,inv) W (hv0.keep hW)
 simp only at hc ⊢
 have HC:=Hd_ hc
 clear hc
 cases hs:stepEd g id with
 | none =>
   have hres:stepFrom g (id,inv)=-1:=by rw [stepFrom];simp [hs]
   have HR:=Hd_ hres
   rw [hs] at HC
   clear hres hs
   go_enter Tryz.func92,Tryz.ntmps92
   go_wp2_with fail
   refine (HC.out _ hb0).mono ?_
   rintro en w1 ⟨e,rfl,-,hb1⟩
   have hb2:=below_trans hb0 hb1
   clear hb0 hb1
   go_wp2_with fail
   go_ret
   exact ⟨ret_int HR.out.symm,hb2.alloc hb2.size _⟩
 | some e =>
   rw [hs] at HC
   have hres:stepFrom g (id,inv)=if inv then e.2.2.1 else e.2.1:=by rw [stepFrom];simp [hs]
   have HR:=Hd_ hres
   clear hres hs
   go_enter Tryz.func92,Tryz.ntmps92
   go_wp2_with fail
   refine (HC.out _ hb0).mono ?_
   rintro en w1 ⟨e1,rfl,he1,hb1⟩
   obtain rfl:=he1 e rfl
   have b1:=(Blk.new (w.alloc _) _ _ (w.heap.size+1) (by simp)).keep hb1
   have y1:w1.cell? ⟨w.heap.size+1,1,none⟩=some _:=b1.cell 1
   have hlt:=b1.lt
   have hb2:=below_trans hb0 hb1
   clear hb0 hb1 he1 b1
   cases inv with
   | true =>
     go_wp2_with fail
     go_ret
     exact ⟨ret_int HR.out.symm,hb2.alloc hb2.size _⟩
   | false =>
     go_wp2_with fail
     go_ret
     exact ⟨ret_int HR.out.symm,hb2.alloc hb2.size _⟩
set_option maxHeartbeats 1000000 in
theorem implStepTo (v:Value) (g:Gr) (s:St) (w:World) (hv:GrV 0 w.heap.size w v g) :
 Calls Tryz.prog 93 #[v,.agg #[.int .i64 s.1,.bool s.2]] w fun en w'=>en=.returned (.int .i64 (stepTo g s))/\Below w.heap.size w w':=by
 have hv0:=hv
 obtain ⟨A1,n1,c1,A2,n2,c2,rfl⟩:=hv.shape
 clear hv
 obtain ⟨id,inv⟩:=s
 have hb0:Below w.heap.size w ((w.alloc (.cells #[.slice A1 n1 c1,.slice A2 n2 c2] 27)).alloc (.cells #[.int .i64 id,.bool inv] 66)):=((Below.refl _ _).alloc (Nat.le_refl _) _).alloc (by simp) _
 simp only
 go_enter Tryz.func93,Tryz.ntmps93
 go_wp2_with fail
 refine (implStepFrom _ g (id,!inv) _ (hv0.keep hb0)).mono ?_
 rintro en w1 ⟨rfl,hb1⟩
 go_wp2_with fail
 go_ret
 exact ⟨rfl,below_trans hb0 hb1⟩
theorem row_shape {W:World} {base k n:Nat} {e:TypeId} {v:Value} {cs:List Value} (h:W.ownsRow base e k v n cs) (hn:n ≠ 0):∃ g c,v=.slice (some ⟨g,0,none⟩) n c/\base<=g/\g < W.heap.size/\n<=c/\c<=maxLen:=by
 have hlt:=h.lt
 obtain ⟨hl,hs⟩:=h
 rcases hs with ⟨_,h0⟩ | ⟨g,cap,cur,rfl,hg,hh,hnc,hcm,r⟩
 · exact absurd h0 hn
 · exact ⟨g,cap,rfl,hg,(hlt g rfl).2,hnc,hcm⟩
set_option maxHeartbeats 4000000 in
theorem implNodes (v1 v2:Value) (g:Gr) (k:Wk) (w:World) (hv1:GrV 0 w.heap.size w v1 g) (hv2:WkV 0 w.heap.size w v2 k) :
 Calls Tryz.prog 79 #[v1,v2] w fun en w'=>∃ v,en=.returned (.tuple #[v,.bool (walkOk g k)])/\Own w.heap.size w'.heap.size w' 3 cI 1 v (nodesOut g k)/\Below w.heap.size w w':=by
 have hv0:=hv1
 obtain ⟨vs,es,rfl,⟨A1,c1,rfl,hl1,hm1,-⟩,hes⟩:=hv1
 obtain ⟨A2,n2,c2,rfl⟩:=hes.shape
 obtain ⟨ss,rfl,⟨A3,c3,rfl,hl3,hm3,hx3⟩⟩:=hv2
 unfold maxLen at hm1 hm3
 obtain ⟨st,steps⟩:=k
 simp only at *
 have hb0:Below w.heap.size w ((w.alloc (.cells #[.slice A1 g.vals.length c1,.slice A2 n2 c2] 27)).alloc (.cells #[.int .i64 st,.slice A3 steps.length c3] 39)):=((Below.refl _ _).alloc (Nat.le_refl _) _).alloc (by simp) _
 have HX3:=Hd_ hx3
 have hwo:walkOk g (st,steps)=(grOk g && wi st 0 ((g.vals.length:Int) - 1) && decide (steps.length<=60) && (List.range steps.length).all (linkAt g (st,steps))):=rfl
 have HW:=Hd_ hwo
 clear hx3 hes hwo
 have hvg:=implValidGraph _ g _ (hv0.keep hb0)
 have HV:=Hd_ hvg
 clear hvg
 go_enter Tryz.func79,Tryz.ntmps79
 go_wp2_with fail
 refine HV.out.mono ?_
 rintro e w1 ⟨rfl,hb1⟩
 have b0:=((Blk.new w _ _ w.heap.size rfl).alloc _).keep hb1
 have b1:=(Blk.new (w.alloc _) _ _ (w.heap.size+1) (by simp)).keep hb1
 have hb2:=below_trans hb0 hb1
 clear hb0 hb1 HV
 have x0:w1.cell? ⟨w.heap.size,0,none⟩=some _:=b0.cell 0
 have x1:w1.cell? ⟨w.heap.size,1,none⟩=some _:=b0.cell 1
 have y0:w1.cell? ⟨w.heap.size+1,0,none⟩=some _:=b1.cell 0
 have y1:w1.cell? ⟨w.heap.size+1,1,none⟩=some _:=b1.cell 1
 have hlt1:=b1.lt
 have HWI:=Hd_ within_any
 cases hg:grOk g with
 | false =>
   have hfin:walkOk g (st,steps)=false:=by rw [HW.out,hg];rfl
   have HF:=Hd_ hfin
   clear HW hfin hg
   go_wp2_with fail
   go_ret2
   exact ⟨_,by rw [HF.out];rfl,by rw [nodesOut_no HF.out];exact Own.nil _ _ _ _ _ _,hb2⟩
 | true =>
   have q1:IntKind.i64.wrap ((g.vals.length:Int) - 1)=(g.vals.length:Int) - 1:=IntWalk.i64_in _ (by omega)
   cases hs:wi st 0 ((g.vals.length:Int) - 1) with
   | false =>
     have hfin:walkOk g (st,steps)=false:=by rw [HW.out,hg,hs];rfl
     have HF:=Hd_ hfin
     clear HW hfin hg
     go_wp2_with (go_at_call 17;refine (HWI.out _ _ _ _).mono ?_;rintro e w' ⟨rfl,rfl⟩)
     go_ret2
     exact ⟨_,by rw [HF.out];rfl,by rw [nodesOut_no HF.out];exact Own.nil _ _ _ _ _ _,hb2⟩
   | true =>
     by_cases hlen:steps.length<=60
     · have hlen':decide ((steps.length:Int) > 60)=false:=by simp;omega
       have hfin:walkOk g (st,steps)=(List.range steps.length).all (linkAt g (st,steps)):=by rw [HW.out,hg,hs];simp [hlen]
       have HF:=Hd_ hfin
       clear HW hfin hg
       go_wp2_with (go_at_call 17;refine (HWI.out _ _ _ _).mono ?_;rintro e w1 ⟨rfl,rfl⟩)
       have HS:=Hd_ hs
       clear hs
       go_loopw [6,34] (fun out ii wr=>∃ i:Nat,i<=steps.length/\ii=.int .i64 i/\(List.range i).all (linkAt g (st,steps))=true/\wr.ownsRow w1.heap.size 3 1 out ((nodesL g (st,steps)).take (i+1)).length (((nodesL g (st,steps)).take (i+1)).flatMap cI)/\Below w1.heap.size w1 wr) (fun _ ii _=>steps.length - (intOf ii).toNat)
       case atStart=>exact ⟨0,Nat.zero_le _,rfl,rfl,World.ownsRow_lit w1 #[.int .i64 st] 1 (Nat.le_refl _) (by decide) rfl,(Below.refl _ _).alloc (Nat.le_refl _) _⟩
       case round =>
        obtain ⟨i,hi,rfl,hal,hrow,hbel⟩:=hrel
        have HA:=Hd_ hal
        have hbw:=below_trans hb2 hbel
        have hml:((nodesL g (st,steps)).take (i+1)).length=i+1:=by rw [List.length_take,nodesL_len];simp only;omega
        clear hal
        by_cases hlt:i < steps.length
        · have hxs:steps[i]?=some steps[i]:=List.getElem?_eq_getElem hlt
          generalize steps[i]=s at hxs
          obtain ⟨sid,sinv⟩:=s
          obtain ⟨b,o,rfl,-,hb,hc⟩:=HX3.out i _ hxs
          have d0:=hc 0 _ rfl
          have d1:=hc 1 _ rfl
          simp only [Nat.add_zero] at d0
          have d0:=(hbw.cell (p:=⟨_,_,none⟩) hb).trans d0
          have d1:=(hbw.cell (p:=⟨_,_,none⟩) hb).trans d1
          obtain ⟨x,hxl⟩:∃ x,(nodesL g (st,steps))[i]?=some x:=⟨_,List.getElem?_eq_getElem (by rw [nodesL_len];simp only;omega)⟩
          obtain ⟨gb,cp,hv,hg1,hg2,hnc,hcm⟩:=row_shape hrow (by omega)
          obtain ⟨m,hm⟩:∃ m,m=i+1:=⟨_,rfl⟩
          rw [hml,<- hm] at hv
          subst hv
          have hrm:=hrow
          rw [show ((nodesL g (st,steps)).take (i+1)).length=m by rw [hml,hm]] at hrm
          have c0:=(World.ownsRow.cellAt hrm i (by omega)).trans (by have:=flat_at cI_len (xs:=(nodesL g (st,steps)).take (i+1)) (i:=i) (x:=x) (by rw [List.getElem?_take];simp [hxl]) 0 _ rfl;simpa using this)
          clear hrm
          have hf:=fun W (hW:Below w.heap.size w W)=>implStepFrom _ g (sid,sinv) W (hv0.keep hW)
          have ht:=fun W (hW:Below w.heap.size w W)=>implStepTo _ g (sid,sinv) W (hv0.keep hW)
          have hlk:=linkAt_eq (k:=(st,steps)) hxs hxl
          have HLK:=Hd_ hlk
          have HFF:=Hd_ hf
          have HTT:=Hd_ ht
          have HXS:=Hd_ hxs
          have HROW:=Hd_ hrow
          have hbx:=fun (X:Obj) u=>below_trans (hbw.alloc hbw.size X) (ext_below (wr.alloc X) u)
          have x0:=(hbel.cell (p:=⟨_,_,none⟩) (by simp only;omega)).trans x0
          have x1:=(hbel.cell (p:=⟨_,_,none⟩) (by simp only;omega)).trans x1
          have hs1:=hbel.size
          have q2:IntKind.i64.wrap ((m:Int) - 1)=(i:Int):=by rw [IntWalk.i64_in _ (by omega)];omega
          have q3:(i:Int) < (m:Int):=by omega
          have HM:=Hd_ hm
          clear hlk hf ht hxs hrow hml hm hxl hc q1 hnc hcm
          generalize stepFrom g (sid,sinv)=y at HLK HFF
          have k0:w.heap.size < wr.heap.size:=by omega
          by_cases hyx:y=x
          · have hq:(y != x)=false:=by simp [hyx]
            have HYX:=Hd_ hyx
            clear hyx
            go_wp2_with fail
            refine wp_region_ext_lit (by kernel_rfl) (by kernel_rfl) ?_
            repeat (go_big_quiet_step ((go_at_call 92;exact Calls.ext_of (HFF.out _ (hbx _ _)))))
            refine wpQuiet_nil ?_
            rintro _ ⟨u2,rfl⟩
            go_wp2_with fail
            refine (HTT.out _ (hbx _ _)).mono ?_
            rintro e w3 ⟨rfl,hb3⟩
            have hw3:=below_trans (Below.refl wr.heap.size wr |>.alloc (Nat.le_refl _) _) (below_trans (ext_below _ u2) hb3)
            have hrow3:=ownsRow_below HROW.out hw3 (Nat.le_refl _)
            have hs3:=Nat.le_trans hs1 hw3.size
            have hbel3:=below_trans hbel hw3
            have htl:((nodesL g (st,steps)).take (i+1)).length<=61:=by rw [List.length_take];omega
            clear hb3 hbx
            go_wp2_with (at_builtin;(refine wpList_append1 cI elInt rfl _ _ rfl w1.heap.size (.slice (some ⟨gb,0,none⟩) m cp) ((nodesL g (st,steps)).take (i+1)) (stepTo g (sid,sinv)) _ 1 _ (by rfl) hrow3 (by rfl) rfl rfl rfl (cI_one _) (by omega) (by omega) hs3 ?_);rw [<- nodesL_succ HXS.out];intro v' w4 hrow' hb4 _ _)
            go_roundw
            case rel=>exact ⟨i+1,by omega,by go_num,range_all_succ HA.out (by rw [HLK.out,HYX.out];simp),hrow',hbel3.trans hb4⟩
            case measure=>simp [intOf];omega
          · have hq:(y != x)=true:=by simp [hyx]
            have HYX:=Hd_ hyx
            clear hyx
            go_wp2_with fail
            refine wp_region_ext_lit (by kernel_rfl) (by kernel_rfl) ?_
            repeat (go_big_quiet_step ((go_at_call 92;exact Calls.ext_of (HFF.out _ (hbx _ _)))))
            refine wpQuiet_nil ?_
            rintro _ ⟨u2,rfl⟩
            have hfin:walkOk g (st,steps)=false:=by rw [HF.out];exact range_all_false hlt (by rw [HLK.out];simpa using HYX.out)
            have HFI:=Hd_ hfin
            clear hfin
            go_wp2_with fail
            go_ret2
            exact ⟨_,by rw [HFI.out];rfl,by rw [nodesOut_no HFI.out];exact Own.nil _ _ _ _ _ _,hbx _ _⟩
        · obtain rfl:i=steps.length:=by omega
          have hfin:walkOk g (st,steps)=true:=by rw [HF.out,HA.out]
          have HFF:=Hd_ hfin
          have htk:(nodesL g (st,steps)).take (steps.length+1)=nodesL g (st,steps):=List.take_of_length_le (by rw [nodesL_len];simp)
          rw [htk] at hrow
          have HROW:=Hd_ hrow
          clear hfin HF HA htk hml hrow
          go_wp2_with fail
          go_ret2
          exact ⟨_,by rw [HFF.out];rfl,by rw [nodesOut_yes HFF.out];exact (Own.of_row HROW.out rfl rfl).mono hb2.size (Nat.le_refl _),hbw⟩
     · have hlen':decide ((steps.length:Int) > 60)=true:=by simp;omega
       have hfin:walkOk g (st,steps)=false:=by rw [HW.out];simp [hlen]
       have HF:=Hd_ hfin
       clear HW hfin hg
       go_wp2_with (go_at_call 17;refine (HWI.out _ _ _ _).mono ?_;rintro e w' ⟨rfl,rfl⟩)
       go_ret2
       exact ⟨_,by rw [HF.out];rfl,by rw [nodesOut_no HF.out];exact Own.nil _ _ _ _ _ _,hb2⟩
theorem row_shapeS {W:World} {base k n:Nat} {e:TypeId} {v:Value} {cs:List Value} (h:W.ownsRow base e k v n cs) (hn:n ≠ 0):∃ g c,v=.slice (some ⟨g,0,none⟩) n c/\base<=g/\g < W.heap.size/\n<=c/\c<=maxLen:=by
 have hlt:=h.lt
 obtain ⟨hl,hs⟩:=h
 rcases hs with ⟨_,h0⟩ | ⟨g,cap,cur,rfl,hg,hh,hnc,hcm,r⟩
 · exact absurd h0 hn
 · exact ⟨g,cap,rfl,hg,(hlt g rfl).2,hnc,hcm⟩
set_option maxRecDepth 100000 in
set_option maxHeartbeats 8000000 in
theorem specNodes (v1 v2:Value) (g:Gr) (k:Wk) (w:World) (hv1:GrV 0 w.heap.size w v1 g) (hv2:WkV 0 w.heap.size w v2 k) :
 Calls Tryz.prog 55 #[v1,v2] w fun en w'=>∃ v,en=.returned (.tuple #[v,.bool (walkOk g k)])/\Own w.heap.size w'.heap.size w' 3 cI 1 v (nodesOut g k)/\Below w.heap.size w w':=by
 have hv0:=hv1
 obtain ⟨vs,es,rfl,⟨A1,c1,rfl,hl1,hm1,-⟩,hes⟩:=hv1
 obtain ⟨A2,c2,rfl,hl2,hm2,hx2⟩:=hes
 have HX2:=Hd_ hx2
 obtain ⟨ss,rfl,⟨A3,c3,rfl,hl3,hm3,hx3⟩⟩:=hv2
 unfold maxLen at hm1 hm2 hm3
 obtain ⟨st,steps⟩:=k
 simp only at *
 have hb0:Below w.heap.size w ((w.alloc (.cells #[.slice A1 g.vals.length c1,.slice A2 g.edges.length c2] 27)).alloc (.cells #[.int .i64 st,.slice A3 steps.length c3] 39)):=((Below.refl _ _).alloc (Nat.le_refl _) _).alloc (by simp) _
 have HX3:=Hd_ hx3
 have hwo:walkOk g (st,steps)=(grOk g && wi st 0 ((g.vals.length:Int) - 1) && decide (steps.length<=60) && (List.range steps.length).all (linkAt g (st,steps))):=rfl
 have HW:=Hd_ hwo
 clear hx3 hx2 hwo
 have hvg:=specValidGraph _ g _ (hv0.keep hb0)
 have HV:=Hd_ hvg
 clear hvg
 go_enter Tryz.func55,Tryz.ntmps55
 go_wp2_with fail
 refine HV.out.mono ?_
 rintro e w1 ⟨rfl,hb1⟩
 have b0:=((Blk.new w _ _ w.heap.size rfl).alloc _).keep hb1
 have b1:=(Blk.new (w.alloc _) _ _ (w.heap.size+1) (by simp)).keep hb1
 have hb2:=below_trans hb0 hb1
 clear hb0 hb1 HV
 have x0:w1.cell? ⟨w.heap.size,0,none⟩=some _:=b0.cell 0
 have x1:w1.cell? ⟨w.heap.size,1,none⟩=some _:=b0.cell 1
 have y0:w1.cell? ⟨w.heap.size+1,0,none⟩=some _:=b1.cell 0
 have y1:w1.cell? ⟨w.heap.size+1,1,none⟩=some _:=b1.cell 1
 have hlt1:=b1.lt
 have HWI:=Hd_ l1In_any
 cases hg:grOk g with
 | false =>
   have hfin:walkOk g (st,steps)=false:=by rw [HW.out,hg];rfl
   have HF:=Hd_ hfin
   clear HW hfin hg
   go_wp2_with fail
   go_ret2
   exact ⟨_,by rw [HF.out];rfl,by rw [nodesOut_no HF.out];exact (Own.of_row (World.ownsRow_lit _ #[] 0 (Nat.le_refl _) (by decide) rfl) rfl rfl).mono hb2.size (Nat.le_refl _),hb2.alloc hb2.size _⟩
 | true =>
   have q1:IntKind.i64.wrap ((g.vals.length:Int) - 1)=(g.vals.length:Int) - 1:=IntWalk.i64_in _ (by omega)
   cases hs:wi st 0 ((g.vals.length:Int) - 1) with
   | false =>
     have hfin:walkOk g (st,steps)=false:=by rw [HW.out,hg,hs];rfl
     have HF:=Hd_ hfin
     clear HW hfin hg
     go_wp2_with (go_at_call 24;refine (HWI.out _ _ _ _).mono ?_;rintro e w1 ⟨rfl,rfl⟩)
     go_ret2
     exact ⟨_,by rw [HF.out];rfl,by rw [nodesOut_no HF.out];exact (Own.of_row (World.ownsRow_lit _ #[] 0 (Nat.le_refl _) (by decide) rfl) rfl rfl).mono hb2.size (Nat.le_refl _),hb2.alloc hb2.size _⟩
   | true =>
     by_cases hlen:steps.length<=60
     · have hlen':decide ((steps.length:Int) > 60)=false:=by simp;omega
       have hfin:walkOk g (st,steps)=(List.range steps.length).all (linkAt g (st,steps)):=by rw [HW.out,hg,hs];simp [hlen]
       have HF:=Hd_ hfin
       have HG:=Hd_ hg
       clear HW hfin hg
       go_wp2_with (go_at_call 24;refine (HWI.out _ _ _ _).mono ?_;rintro e w1 ⟨rfl,rfl⟩)
       have hst0:0<=st:=by unfold wi at hs;simp at hs;omega
       have HS:=Hd_ hs
       clear hs
       go_loopw [6,7] (fun out ii wr=>∃ i:Nat,i<=steps.length/\ii=.int .i64 i/\(List.range i).all (linkAt g (st,steps))=true/\wr.ownsRow w1.heap.size 3 1 out ((nodesL g (st,steps)).take (i+1)).length (((nodesL g (st,steps)).take (i+1)).flatMap cI)/\(∃ x,(nodesL g (st,steps))[i]?=some x/\0<=x)/\Below w1.heap.size w1 wr) (fun _ ii _=>steps.length - (intOf ii).toNat)
       case atStart=>exact ⟨0,Nat.zero_le _,rfl,rfl,World.ownsRow_lit w1 #[.int .i64 st] 1 (Nat.le_refl _) (by decide) rfl,⟨st,rfl,hst0⟩,(Below.refl _ _).alloc (Nat.le_refl _) _⟩
       case round =>
        obtain ⟨i,hi,rfl,hal,hrow,⟨x,hxl,hx0⟩,hbel⟩:=hrel
        have HA:=Hd_ hal
        have hbw:=below_trans hb2 hbel
        have hml:((nodesL g (st,steps)).take (i+1)).length=i+1:=by rw [List.length_take,nodesL_len];simp only;omega
        clear hal
        by_cases hlt:i < steps.length
        · have hxs:steps[i]?=some steps[i]:=List.getElem?_eq_getElem hlt
          generalize steps[i]=s at hxs
          obtain ⟨sid,sinv⟩:=s
          obtain ⟨b,o,rfl,-,hb,hc⟩:=HX3.out i _ hxs
          have d0:=hc 0 _ rfl
          have d1:=hc 1 _ rfl
          simp only [Nat.add_zero] at d0
          have d0:=(hbw.cell (p:=⟨_,_,none⟩) hb).trans d0
          have d1:=(hbw.cell (p:=⟨_,_,none⟩) hb).trans d1
          obtain ⟨gb,cp,hv,hg1,hg2,hnc,hcm⟩:=row_shapeS hrow (by omega)
          obtain ⟨m,hm⟩:∃ m,m=i+1:=⟨_,rfl⟩
          rw [hml,<- hm] at hv
          subst hv
          have hrm:=hrow
          rw [show ((nodesL g (st,steps)).take (i+1)).length=m by rw [hml,hm]] at hrm
          have c0:=(World.ownsRow.cellAt hrm i (by omega)).trans (by have:=flat_at cI_len (xs:=(nodesL g (st,steps)).take (i+1)) (i:=i) (x:=x) (by rw [List.getElem?_take];simp [hxl]) 0 _ rfl;simpa using this)
          clear hrm
          have hei:=fun W (hW:Below w.heap.size w W)=>specEdgeIndex _ g sid W (hv0.keep hW)
          have hlk:=linkAt_eq (k:=(st,steps)) hxs hxl
          have HLK:=Hd_ hlk
          have HEI:=Hd_ hei
          have HXS:=Hd_ hxs
          have HROW:=Hd_ hrow
          have hbx:=fun u=>below_trans hbw (ext_below wr u)
          have x0:=(hbel.cell (p:=⟨_,_,none⟩) (by simp only;omega)).trans x0
          have x1:=(hbel.cell (p:=⟨_,_,none⟩) (by simp only;omega)).trans x1
          have y0:=(hbel.cell (p:=⟨_,_,none⟩) (by simp only;omega)).trans y0
          have y1:=(hbel.cell (p:=⟨_,_,none⟩) (by simp only;omega)).trans y1
          have hs1:=hbel.size
          have q2:IntKind.i64.wrap ((m:Int) - 1)=(i:Int):=by rw [IntWalk.i64_in _ (by omega)];omega
          have q3:(i:Int) < (m:Int):=by omega
          have HM:=Hd_ hm
          have hbw':b < wr.heap.size:=by omega
          have k0:w.heap.size < wr.heap.size:=by omega
          have k1:w.heap.size+1 < wr.heap.size:=by omega
          have hspec:=edgeIdx_spec g sid
          have HSPEC:=Hd_ hspec
          clear hlk hei hxs hrow hml hm hxl hc q1 hnc hcm hspec
          rcases HSPEC.out with ⟨hk,hno⟩ | ⟨ix,e,hk,hex,he,hno⟩
          · have hsn:=stepEd_none hno
            have hsf:stepFrom g (sid,sinv)=-1:=by rw [stepFrom];simp [hsn]
            rw [hk] at HEI
            have hfin:walkOk g (st,steps)=false:=by rw [HF.out];exact range_all_false hlt (by rw [HLK.out,hsf];simp;omega)
            have HFI:=Hd_ hfin
            clear hk hno hsn hsf hfin HSPEC
            go_wp2_with fail
            refine wp_region_ext_lit (by kernel_rfl) (by kernel_rfl) ?_
            repeat (go_big_quiet_step ((go_at_call 58;exact Calls.ext_of (HEI.out _ (hbx _)))))
            refine wpQuiet_nil ?_
            rintro _ ⟨u2,rfl⟩
            go_wp2_with fail
            go_ret2
            exact ⟨_,by rw [HFI.out];rfl,by rw [nodesOut_no HFI.out];exact (Own.of_row (World.ownsRow_lit _ #[] 0 (Nat.le_refl _) (by decide) rfl) rfl rfl).mono (hbx _).size (Nat.le_refl _),(hbx _).alloc (hbx _).size _⟩
          · have hse:=stepEd_some HG.out hex he hno
            have HSE:=Hd_ hse
            rw [hk] at HEI
            obtain ⟨b9,o9,rfl,-,hb9,hc9⟩:=HX2.out ix e hex
            have e1:=hc9 1 _ rfl
            have e2:=hc9 2 _ rfl
            have e1:=(hbw.cell (p:=⟨_,_,none⟩) hb9).trans e1
            have e2:=(hbw.cell (p:=⟨_,_,none⟩) hb9).trans e2
            have hb9':b9 < wr.heap.size:=by omega
            have hixl:ix < g.edges.length:=(List.getElem?_eq_some_iff.1 hex).1
            clear hk hno he hex hse hc9 HSPEC
            cases sinv with
            | true =>
              have hsf:stepFrom g (sid,true)=e.2.2.1:=by rw [stepFrom];simp [HSE.out]
              have hsto:stepTo g (sid,true)=e.2.1:=by rw [stepTo,stepFrom];simp [HSE.out]
              have HSF:=Hd_ hsf
              have HSTO:=Hd_ hsto
              clear hsf hsto
              by_cases hyx:e.2.2.1=x
              · have hq:(e.2.2.1 != x)=false:=by simp [hyx]
                have hto0:0<=stepTo g (sid,true):=by
                 have h1:=@stepFrom_neg g (sid,true)
                 have h2:=@stepFrom_neg g (sid,!true)
                 have h3:stepTo g (sid,true)=stepFrom g (sid,!true):=rfl
                 have h4:=HSF.out
                 rw [h3]
                 by_cases h5:0<=stepFrom g (sid,!true)
                 · exact h5
                 · have h6:=h2.1 (by omega)
                   have h7:=h1.2 h6
                   omega
                have HYX:=Hd_ hyx
                have HTO0:=Hd_ hto0
                clear hyx hto0
                go_wp2_with fail
                refine wp_region_ext_lit (by kernel_rfl) (by kernel_rfl) ?_
                repeat (go_big_quiet_step ((go_at_call 58;exact Calls.ext_of (HEI.out _ (hbx _)))))
                refine wpQuiet_nil ?_
                rintro _ ⟨u2,rfl⟩
                have hw3:=ext_below wr u2
                have hrow3:=ownsRow_below HROW.out hw3 (Nat.le_refl _)
                have hs3:=Nat.le_trans hs1 hw3.size
                have hbel3:=below_trans hbel hw3
                have htl:((nodesL g (st,steps)).take (i+1)).length<=61:=by rw [List.length_take];omega
                clear hw3
                go_wp2_with (at_builtin;(refine wpList_append1 cI elInt rfl _ _ rfl w1.heap.size (.slice (some ⟨gb,0,none⟩) m cp) ((nodesL g (st,steps)).take (i+1)) (e.2.1) _ 1 _ (by rfl) hrow3 (by rfl) rfl rfl rfl (cI_one _) (by omega) (by omega) hs3 ?_);rw [<- HSTO.out,<- nodesL_succ HXS.out];intro v' w4 hrow' hb4 _ _)
                go_roundw
                case rel=>exact ⟨i+1,by omega,by go_num,range_all_succ HA.out (by rw [HLK.out,HSF.out,HYX.out];simp),hrow',⟨_,nodesL_next HXS.out,HTO0.out⟩,hbel3.trans hb4⟩
                case measure=>simp [intOf];omega
              · have hq:(e.2.2.1 != x)=true:=by simp [hyx]
                have hfin:walkOk g (st,steps)=false:=by rw [HF.out];exact range_all_false hlt (by rw [HLK.out,HSF.out];simpa using hyx)
                have HFI:=Hd_ hfin
                clear hyx hfin
                go_wp2_with fail
                refine wp_region_ext_lit (by kernel_rfl) (by kernel_rfl) ?_
                repeat (go_big_quiet_step ((go_at_call 58;exact Calls.ext_of (HEI.out _ (hbx _)))))
                refine wpQuiet_nil ?_
                rintro _ ⟨u2,rfl⟩
                go_wp2_with fail
                go_ret2
                exact ⟨_,by rw [HFI.out];rfl,by rw [nodesOut_no HFI.out];exact (Own.of_row (World.ownsRow_lit _ #[] 0 (Nat.le_refl _) (by decide) rfl) rfl rfl).mono (hbx _).size (Nat.le_refl _),(hbx _).alloc (hbx _).size _⟩
            | false =>
              have hsf:stepFrom g (sid,false)=e.2.1:=by rw [stepFrom];simp [HSE.out]
              have hsto:stepTo g (sid,false)=e.2.2.1:=by rw [stepTo,stepFrom];simp [HSE.out]
              have HSF:=Hd_ hsf
              have HSTO:=Hd_ hsto
              clear hsf hsto
              by_cases hyx:e.2.1=x
              · have hq:(e.2.1 != x)=false:=by simp [hyx]
                have hto0:0<=stepTo g (sid,false):=by
                 have h1:=@stepFrom_neg g (sid,false)
                 have h2:=@stepFrom_neg g (sid,!false)
                 have h3:stepTo g (sid,false)=stepFrom g (sid,!false):=rfl
                 have h4:=HSF.out
                 rw [h3]
                 by_cases h5:0<=stepFrom g (sid,!false)
                 · exact h5
                 · have h6:=h2.1 (by omega)
                   have h7:=h1.2 h6
                   omega
                have HYX:=Hd_ hyx
                have HTO0:=Hd_ hto0
                clear hyx hto0
                go_wp2_with fail
                refine wp_region_ext_lit (by kernel_rfl) (by kernel_rfl) ?_
                repeat (go_big_quiet_step ((go_at_call 58;exact Calls.ext_of (HEI.out _ (hbx _)))))
                refine wpQuiet_nil ?_
                rintro _ ⟨u2,rfl⟩
                have hw3:=ext_below wr u2
                have hrow3:=ownsRow_below HROW.out hw3 (Nat.le_refl _)
                have hs3:=Nat.le_trans hs1 hw3.size
                have hbel3:=below_trans hbel hw3
                have htl:((nodesL g (st,steps)).take (i+1)).length<=61:=by rw [List.length_take];omega
                clear hw3
                go_wp2_with (at_builtin;(refine wpList_append1 cI elInt rfl _ _ rfl w1.heap.size (.slice (some ⟨gb,0,none⟩) m cp) ((nodesL g (st,steps)).take (i+1)) (e.2.2.1) _ 1 _ (by rfl) hrow3 (by rfl) rfl rfl rfl (cI_one _) (by omega) (by omega) hs3 ?_);rw [<- HSTO.out,<- nodesL_succ HXS.out];intro v' w4 hrow' hb4 _ _)
                go_roundw
                case rel=>exact ⟨i+1,by omega,by go_num,range_all_succ HA.out (by rw [HLK.out,HSF.out,HYX.out];simp),hrow',⟨_,nodesL_next HXS.out,HTO0.out⟩,hbel3.trans hb4⟩
                case measure=>simp [intOf];omega
              · have hq:(e.2.1 != x)=true:=by simp [hyx]
                have hfin:walkOk g (st,steps)=false:=by rw [HF.out];exact range_all_false hlt (by rw [HLK.out,HSF.out];simpa using hyx)
                have HFI:=Hd_ hfin
                clear hyx hfin
                go_wp2_with fail
                refine wp_region_ext_lit (by kernel_rfl) (by kernel_rfl) ?_
                repeat (go_big_quiet_step ((go_at_call 58;exact Calls.ext_of (HEI.out _ (hbx _)))))
                refine wpQuiet_nil ?_
                rintro _ ⟨u2,rfl⟩
                go_wp2_with fail
                go_ret2
                exact ⟨_,by rw [HFI.out];rfl,by rw [nodesOut_no HFI.out];exact (Own.of_row (World.ownsRow_lit _ #[] 0 (Nat.le_refl _) (by decide) rfl) rfl rfl).mono (hbx _).size (Nat.le_refl _),(hbx _).alloc (hbx _).size _⟩
        · obtain rfl:i=steps.length:=by omega
          have y1:=(hbel.cell (p:=⟨_,_,none⟩) (by simp only;omega)).trans y1
          have hlw:=hbel.size
          have k1:w.heap.size+1 < wr.heap.size:=by omega
          have hfin:walkOk g (st,steps)=true:=by rw [HF.out,HA.out]
          have HFF:=Hd_ hfin
          have htk:(nodesL g (st,steps)).take (steps.length+1)=nodesL g (st,steps):=List.take_of_length_le (by rw [nodesL_len];simp)
          rw [htk] at hrow
          have HROW:=Hd_ hrow
          clear hfin HF HA htk hml hrow
          go_wp2_with fail
          go_ret2
          exact ⟨_,by rw [HFF.out];rfl,by rw [nodesOut_yes HFF.out];exact (Own.of_row HROW.out rfl rfl).mono hb2.size (Nat.le_refl _),hbw⟩
     · have hlen':decide ((steps.length:Int) > 60)=true:=by simp;omega
       have hfin:walkOk g (st,steps)=false:=by rw [HW.out];simp [hlen]
       have HF:=Hd_ hfin
       clear HW hfin hg
       go_wp2_with (go_at_call 24;refine (HWI.out _ _ _ _).mono ?_;rintro e w1 ⟨rfl,rfl⟩)
       go_ret2
       exact ⟨_,by rw [HF.out];rfl,by rw [nodesOut_no HF.out];exact (Own.of_row (World.ownsRow_lit _ #[] 0 (Nat.le_refl _) (by decide) rfl) rfl rfl).mono hb2.size (Nat.le_refl _),hb2.alloc hb2.size _⟩
set_option maxHeartbeats 2000000 in
theorem implWalkEnd (v1 v2:Value) (g:Gr) (k:Wk) (w:World) (hv1:GrV 0 w.heap.size w v1 g) (hv2:WkV 0 w.heap.size w v2 k) :
 Calls Tryz.prog 49 #[v1,v2] w fun en w'=>en=.returned (.int .i64 (walkEnd g k))/\Below w.heap.size w w':=by
 have hv0:=hv1
 have hv3:=hv2
 obtain ⟨A1,n1,c1,A2,n2,c2,rfl⟩:=hv1.shape
 obtain ⟨A3,n3,c3,rfl⟩:=hv2.shape
 clear hv1 hv2
 have hb0:Below w.heap.size w ((w.alloc (.cells #[.slice A1 n1 c1,.slice A2 n2 c2] 27)).alloc (.cells #[.int .i64 k.1,.slice A3 n3 c3] 39)):=((Below.refl _ _).alloc (Nat.le_refl _) _).alloc (by simp) _
 have hc:=implNodes _ _ g k _ (hv0.keep hb0) (hv3.keep hb0)
 have HC:=Hd_ hc
 clear hc
 obtain ⟨R,hR⟩:∃ R,R=walkEnd g k:=⟨_,rfl⟩
 rw [<- hR]
 cases hw:walkOk g k with
 | false =>
   rw [hw] at HC
   have hfin:R=-1:=by rw [hR,walkEnd,hw];rfl
   subst hfin
   clear hR hw
   go_enter Tryz.func49,Tryz.ntmps49
   go_wp2_with fail
   refine HC.out.mono ?_
   rintro e w1 ⟨v,rfl,ho,hb1⟩
   obtain ⟨A6,c6,rfl,-,-,-⟩:=ho.form cI_len
   go_wp2_with fail
   go_ret
   exact ⟨rfl,below_trans hb0 hb1⟩
 | true =>
   rw [hw] at HC
   have hfin:R=(nodeAt g k k.2.length:Int):=by rw [hR,walkEnd,hw];rfl
   have HF:=Hd_ hfin
   have HW:=Hd_ hw
   have hl60:=(walkOk_parts hw).2.2.1
   clear hR hw hfin
   go_enter Tryz.func49,Tryz.ntmps49
   go_wp2_with fail
   refine HC.out.mono ?_
   rintro e w1 ⟨v,rfl,ho,hb1⟩
   rw [nodesOut_yes HW.out] at ho
   have hr:=ho.1
   rw [nodesL_len] at hr
   obtain ⟨gN,cN,rfl,-,hgN,-,-⟩:=own_some hr (by omega)
   have q0:=(World.ownsRow.cellAt hr k.2.length (by omega)).trans (flatI_at (nodeAt_lt HW.out (Nat.le_refl _)).1)
   have m1:((k.2.length:Int)+1) - 1=(k.2.length:Int):=by omega
   clear hr ho
   go_wp2_with fail
   go_ret
   exact ⟨by rw [HF.out];rfl,below_trans hb0 hb1⟩
set_option maxHeartbeats 2000000 in
theorem specWalkEnd (v1 v2:Value) (g:Gr) (k:Wk) (w:World) (hv1:GrV 0 w.heap.size w v1 g) (hv2:WkV 0 w.heap.size w v2 k) :
 Calls Tryz.prog 31 #[v1,v2] w fun en w'=>en=.returned (.int .i64 (walkEnd g k))/\Below w.heap.size w w':=by
 have hv0:=hv1
 have hv3:=hv2
 obtain ⟨A1,n1,c1,A2,n2,c2,rfl⟩:=hv1.shape
 obtain ⟨A3,n3,c3,rfl⟩:=hv2.shape
 clear hv1 hv2
 have hb0:Below w.heap.size w ((w.alloc (.cells #[.slice A1 n1 c1,.slice A2 n2 c2] 27)).alloc (.cells #[.int .i64 k.1,.slice A3 n3 c3] 39)):=((Below.refl _ _).alloc (Nat.le_refl _) _).alloc (by simp) _
 have hc:=specNodes _ _ g k _ (hv0.keep hb0) (hv3.keep hb0)
 have HC:=Hd_ hc
 clear hc
 obtain ⟨R,hR⟩:∃ R,R=walkEnd g k:=⟨_,rfl⟩
 rw [<- hR]
 cases hw:walkOk g k with
 | false =>
   rw [hw] at HC
   have hfin:R=-1:=by rw [hR,walkEnd,hw];rfl
   subst hfin
   clear hR hw
   go_enter Tryz.func31,Tryz.ntmps31
   go_wp2_with fail
   refine HC.out.mono ?_
   rintro e w1 ⟨v,rfl,ho,hb1⟩
   obtain ⟨A6,c6,rfl,-,-,-⟩:=ho.form cI_len
   go_wp2_with fail
   go_ret
   exact ⟨rfl,below_trans hb0 hb1⟩
 | true =>
   rw [hw] at HC
   have hfin:R=(nodeAt g k k.2.length:Int):=by rw [hR,walkEnd,hw];rfl
   have HF:=Hd_ hfin
   have HW:=Hd_ hw
   have hl60:=(walkOk_parts hw).2.2.1
   clear hR hw hfin
   go_enter Tryz.func31,Tryz.ntmps31
   go_wp2_with fail
   refine HC.out.mono ?_
   rintro e w1 ⟨v,rfl,ho,hb1⟩
   rw [nodesOut_yes HW.out] at ho
   have hr:=ho.1
   rw [nodesL_len] at hr
   obtain ⟨gN,cN,rfl,-,hgN,-,-⟩:=own_some hr (by omega)
   have q0:=(World.ownsRow.cellAt hr k.2.length (by omega)).trans (flatI_at (nodeAt_lt HW.out (Nat.le_refl _)).1)
   have m1:((k.2.length:Int)+1) - 1=(k.2.length:Int):=by omega
   clear hr ho
   go_wp2_with fail
   go_ret
   exact ⟨by rw [HF.out];rfl,below_trans hb0 hb1⟩
theorem specIsWalk (v1 v2:Value) (g:Gr) (k:Wk) (w:World) (hv1:GrV 0 w.heap.size w v1 g) (hv2:WkV 0 w.heap.size w v2 k) :
 Calls Tryz.prog 52 #[v1,v2] w fun en w'=>en=.returned (.bool (walkOk g k))/\Below w.heap.size w w':=by
 have hv0:=hv1
 have hv3:=hv2
 obtain ⟨A1,n1,c1,A2,n2,c2,rfl⟩:=hv1.shape
 obtain ⟨A3,n3,c3,rfl⟩:=hv2.shape
 clear hv1 hv2
 have hb0:Below w.heap.size w ((w.alloc (.cells #[.slice A1 n1 c1,.slice A2 n2 c2] 27)).alloc (.cells #[.int .i64 k.1,.slice A3 n3 c3] 39)):=((Below.refl _ _).alloc (Nat.le_refl _) _).alloc (by simp) _
 have hc:=specNodes _ _ g k _ (hv0.keep hb0) (hv3.keep hb0)
 have HC:=Hd_ hc
 clear hc
 generalize walkOk g k=bb at HC
 go_enter Tryz.func52,Tryz.ntmps52
 go_wp2_with fail
 refine HC.out.mono ?_
 rintro e w1 ⟨v,rfl,-,hb1⟩
 go_wp2_with fail
 go_ret
 exact ⟨rfl,below_trans hb0 hb1⟩
end Go.Proofs.YteaplabkemoenaaGreat
