/- Parts of the proof, joined into one text: SrchA, RelM. -/
import Derived.Test.YtjpdembmchnbgaaGreatOnlzKIILKLCH
import Derived.Test.YtjpdembmchnbgaaGreatOnlzBFEGODDE
import Derived.Test.YtjpdembmchnbgaaGreatOnlzIGDPPJOL
import Derived.Test.YtjpdembmchnbgaaGreatOnlzBGBMJIIM
import Derived.Test.YtjpdembmchnbgaaGreatOnlzADEMAGKM
import Derived.Test.YtjpdembmchnbgaaGreatOnlzOBDJDCGC
set_option linter.unusedVariables false
set_option linter.unusedSimpArgs false
namespace Go.Proofs.YtjpdembmchnbgaaGreat
open Go.ChangeShapes Go.WideShapes Go.ChangeAt Go.RowKit
attribute [local go_sem] ext_cell ext_frozen ext_lt ext_lt1 ext_lt2 ext_lt3 ltn2 ltn3 ltn13 lts1 lts2 lts3
theorem srchA_get (g:Gr) (a:Au) (B:Int) (sm:Bool):((srchA g a B sm).getD []).length<=25:=by
 cases h:srchA g a B sm with
 | none=>simp
 | some L=>exact srchA_len h
theorem lit_nilA {w:World} {lo:Nat} {e:TypeId} {α:Type} {E:α->List Value} {k:Nat} (hl:lo<=w.heap.size):Own lo (w.alloc (.cells #[] e)).heap.size (w.alloc (.cells #[] e)) e E k (.slice (some ⟨w.heap.size,0,none⟩) 0 0) ([]:List α) :=
 Own.of_row (n:=0) (cs:=[]) ⟨by simp,.inr ⟨w.heap.size,0,#[],rfl,hl,heap_alloc_new w _,Nat.le_refl _,by unfold maxLen;omega,by simp,by simp⟩⟩ rfl rfl
set_option maxHeartbeats 4000000 in
set_option maxRecDepth 100000 in
theorem cl_TrailAnswers (g:Gr) (a:Au) (x y BI:Int) (b0 b1 b2:Nat) (A1 A2 A3 A4:Option Addr) (n1 c1 n2 c2 n3 c3 n4 c4:Nat) (W:World) (x0:W.cell? ⟨b0,0,none⟩=some (.slice A1 n1 c1)) (x1:W.cell? ⟨b0,1,none⟩=some (.slice A2 n2 c2)) (y0:W.cell? ⟨b1,0,none⟩=some (.int .i64 a.start)) (y1:W.cell? ⟨b1,1,none⟩=some (.slice A3 n3 c3)) (y2:W.cell? ⟨b1,2,none⟩=some (.slice A4 n4 c4)) (q0:W.cell? ⟨b2,0,none⟩=some (.int .i64 BI))
 (l0:b0 < W.heap.size) (l1:b1 < W.heap.size) (l2:b2 < W.heap.size) (hgv:GrV 0 W.heap.size W (.agg #[.slice A1 n1 c1,.slice A2 n2 c2]) g) (hav:AuV 0 W.heap.size W (.agg #[.int .i64 a.start,.slice A3 n3 c3,.slice A4 n4 c4]) a) :
 Calls Tryz.prog 88 #[.int .i64 x,.int .i64 y,.pointer (some ⟨b0,0,none⟩),.pointer (some ⟨b1,0,none⟩),.pointer (some ⟨b2,0,none⟩)] W fun e W'=>e=.returned (.int .i64 (srchL g a x y BI false).2)/\Below W.heap.size W W':=by
 have HC:=Hd_ (implSearchTrail _ _ g a x y BI W hgv hav)
 generalize srchL g a x y BI false=R at *
 clear hgv hav
 go_enter Tryz.func88,Tryz.ntmps88
 go_wp2_with fail
 refine HC.out.mono ?_
 rintro e w1 ⟨v1,rfl,⟨ss,rfl,hown⟩,hb1⟩
 obtain ⟨A9,n9,c9,rfl⟩:=hown.shape
 clear hown HC
 go_wp2_with fail
 go_ret
 exact ⟨rfl,hb1.alloc hb1.size _⟩
set_option maxHeartbeats 4000000 in
set_option maxRecDepth 100000 in
theorem found_TrailAnswers (g:Gr) (f:Nat->Nat->Int) (b0 b1 b2:Nat) (vg:Value) (w:World) (hgv:GrV 0 w.heap.size w vg g) (hn5:g.vals.length<=5)
 (hcl:∀ (x y:Nat) (W:World),Below w.heap.size w W->Calls Tryz.prog 88 #[.int .i64 (x:Int),.int .i64 (y:Int),.pointer (some ⟨b0,0,none⟩),.pointer (some ⟨b1,0,none⟩),.pointer (some ⟨b2,0,none⟩)] W fun e W'=>e=.returned (.int .i64 (f x y))/\Below W.heap.size W W') :
 Calls Tryz.prog 87 #[vg,.func (Fn.func 88) #[] #[.pointer (some ⟨b0,0,none⟩),.pointer (some ⟨b1,0,none⟩),.pointer (some ⟨b2,0,none⟩)]] w fun e w'=>∃ v',e=.returned (.tuple #[v',.bool (srAllF f g.vals.length g.vals.length).isSome]) /\
  Own w.heap.size w'.heap.size w' 120 cPr 2 v' ((srAllF f g.vals.length g.vals.length).getD [])/\Below w.heap.size w w':=by
 obtain ⟨A1,c1,A2,c2,rfl,hl1,hm1,hl2,hm2,-,-⟩:=hgv.form
 clear hgv
 generalize g.vals.length=N at *
 obtain ⟨R,hR⟩:∃ R,R=srAllF f N N:=⟨_,rfl⟩
 rw [<- hR]
 have HR:=Hd_ hR
 have HCL:=Hd_ hcl
 clear hR hcl
 go_enter Tryz.func87,Tryz.ntmps87
 go_wp2_with fail
 obtain ⟨gO,hgO⟩:∃ gO,gO=w.heap.size+1:=⟨_,rfl⟩
 obtain ⟨W0,hW0⟩:∃ W0,W0=(w.alloc (.cells #[.slice A1 N c1,.slice A2 g.edges.length c2] 27)).alloc (.cells #[] 120):=⟨_,rfl⟩
 have hb0:Below w.heap.size w W0:=by rw [hW0];exact ((Below.refl _ _).alloc (Nat.le_refl _) _).alloc (by simp) _
 have bx:Blk W0 w.heap.size 27 #[.slice A1 N c1,.slice A2 g.edges.length c2]:=by rw [hW0];exact (Blk.new w _ _ w.heap.size rfl).alloc _
 have hrow0:W0.ownsRow gO 120 2 (.slice (some ⟨gO,0,none⟩) 0 0) ([]:List Pr).length (([]:List Pr).flatMap cPr):=by
  rw [hW0,hgO]
  have h:=World.ownsRow_lit (base:=w.heap.size+1) (e:=120) (size:=2) (w.alloc (.cells #[.slice A1 N c1,.slice A2 g.edges.length c2] 27)) #[] 0 (by simp) (by decide) rfl
  simpa using h
 have hsW:gO < W0.heap.size:=by rw [hW0,hgO];simp
 have x0:W0.cell? ⟨w.heap.size,0,none⟩=some (.slice A1 N c1):=bx.cell 0
 have x1:W0.cell? ⟨w.heap.size,1,none⟩=some (.slice A2 g.edges.length c2):=bx.cell 1
 have hg1:w.heap.size+1<=gO:=by omega
 have hwg:w.heap.size < gO:=by omega
 rw [<- hW0,<- hgO]
 have l0:w.heap.size < W0.heap.size:=by omega
 have HROW0:=Hd_ hrow0
 have HB0:=Hd_ hb0
 clear hW0 hgO bx hrow0 hb0
 try go_wp2_with fail
 go_loopw [6,13] (fun oo ii wr=>∃ (i:Nat) (L:List Pr),i<=N/\ii=.int .i64 (i:Int)/\srAllF f N i=some L/\wr.ownsRow gO 120 2 oo L.length (L.flatMap cPr)/\Below gO W0 wr) (fun _ ii _=>N - (intOf ii).toNat)
 case atStart=>exact ⟨0,[],Nat.zero_le _,rfl,rfl,HROW0.out,Below.refl _ _⟩
 case round =>
  clear HROW0
  obtain ⟨i,L,hi,rfl,hL,hrow,hbel⟩:=hrel
  have HL:=Hd_ hL
  have HROW:=Hd_ hrow
  have HBEL:=Hd_ hbel
  have hsz:=hbel.size
  clear hL hrow hbel
  by_cases hlt:i < N
  · have hii:(i:Int) < (N:Int):=by omega
    have x0:=(HBEL.out.cell (p:=⟨w.heap.size,0,none⟩) (by simp only;omega)).trans x0
    have x1:=(HBEL.out.cell (p:=⟨w.heap.size,1,none⟩) (by simp only;omega)).trans x1
    have l0:w.heap.size < wr.heap.size:=by omega
    obtain ⟨wo,rfl⟩:∃ wo:World,wo=wr:=⟨_,rfl⟩
    go_wp2_with fail
    go_loopw [6,19] (fun oo jj wr=>∃ (j:Nat) (M:List Pr),j<=N/\jj=.int .i64 (j:Int)/\srRowF f i (srAllF f N i) j=some M/\wr.ownsRow gO 120 2 oo M.length (M.flatMap cPr)/\Below gO W0 wr) (fun _ jj _=>N - (intOf jj).toNat)
    case atStart=>exact ⟨0,L,Nat.zero_le _,rfl,HL.out,HROW.out,HBEL.out⟩
    case round =>
     clear HROW HBEL hsz l0 x0 x1
     obtain ⟨j,M,hj,rfl,hM,hrow2,hbel2⟩:=hrel
     have HM:=Hd_ hM
     have HROW2:=Hd_ hrow2
     have HBEL2:=Hd_ hbel2
     have hsz2:=hbel2.size
     have HBW2:=Hd_ (HB0.out.trans (hbel2.mono (show w.heap.size<=gO by omega)))
     have hml:=srRowF_len (f:=f) (x:=i) (st:=srAllF f N i) (n:=25) (fun L2 h2=>by have h3:=srAllF_len i L2 h2;have h4:i * N<=5 * 5:=Nat.mul_le_mul (by omega) hn5;omega) j M hM
     clear hM hrow2 hbel2
     by_cases hlj:j < N
     · have hjj:(j:Int) < (N:Int):=by omega
       have HC1:=Hd_ (fun h=>srRowF_one (f:=f) (x:=i) HM.out h)
       have HC0:=Hd_ (fun h h2=>srRowF_on (f:=f) (x:=i) HM.out h h2)
       have HC3:=Hd_ (fun h=>srAllF_out (f:=f) hlt hlj HM.out h)
       have HCX:=Hd_ (HCL.out i j wr HBW2.out)
       generalize f i j=c at *
       go_wp2_with fail
       refine HCX.out.mono ?_
       rintro e w5 ⟨rfl,hb5⟩
       have hb6:=HBEL2.out.trans (hb5.mono (show gO<=wr.heap.size by omega))
       have HR5:=Hd_ (ownsRow_below HROW2.out hb5 (Nat.le_refl _))
       have HB6:=Hd_ hb6
       have hs6:=hb6.size
       clear hb5 hb6
       by_cases h1:c=1
       · have k1:(c==1)=true:=by simp [h1]
         have k2:decide (c=1)=true:=by simp [h1]
         have HN1:=Hd_ (HC1.out h1)
         subst h1
         clear HC1 HC0 HC3
         go_wp2_with (at_builtin;(refine wpList_append1 cPr elPair rfl _ _ rfl gO _ M ((i:Int),(j:Int)) _ 1 w5.heap.size (by rfl) HR5.out (by rfl) rfl rfl rfl (cPr_one _) (by omega) (by omega) (by omega) ?_);intro v' w7 hrow7 hb7 _ _)
         go_roundw
         case rel=>exact ⟨j+1,_,by omega,by go_num,HN1.out,hrow7,HB6.out.trans hb7⟩
         case measure=>simp [intOf];omega
       · have k1:(c==1)=false:=by simp [h1]
         have k2:decide (c=1)=false:=by simp [h1]
         by_cases h3:c=3
         · have k3:(c==3)=true:=by simp [h3]
           have k4:decide (c=3)=true:=by simp [h3]
           have HN3:=Hd_ (HR.out.trans (HC3.out h3))
           clear HC1 HC0 HC3 h1
           subst h3
           have HBF:=Hd_ (HB0.out.trans (HB6.out.mono (show w.heap.size<=gO by omega)))
           go_wp2_with fail
           go_ret2
           rw [HN3.out]
           exact ⟨_,rfl,Own.nil _ _ _ _ _ _,HBF.out⟩
         · have k3:(c==3)=false:=by simp [h3]
           have k4:decide (c=3)=false:=by simp [h3]
           have HN0:=Hd_ (HC0.out h1 h3)
           clear HC1 HC0 HC3 h1 h3
           go_wp2_with fail
           go_roundw
           case rel=>exact ⟨j+1,_,by omega,by go_num,HN0.out,HR5.out,HB6.out⟩
           case measure=>simp [intOf];omega
     · obtain rfl:j=N:=by omega
       rw [<- srAllF_succ] at HM
       go_wp2_with fail
       go_roundw
       case rel=>exact ⟨i+1,_,by omega,by go_num,HM.out,HROW2.out,HBEL2.out⟩
       case measure=>simp [intOf];omega
  · obtain rfl:i=N:=by omega
    have hRe:=HR.out.trans HL.out
    have HRE:=Hd_ hRe
    have HBF:=Hd_ (HB0.out.trans (HBEL.out.mono (show w.heap.size<=gO by omega)))
    have HOF:=Hd_ ((Own.of_row (xs:=L) HROW.out rfl rfl).mono (show w.heap.size<=gO by omega) (Nat.le_refl _))
    clear hRe
    go_wp2_with fail
    go_ret2
    rw [HRE.out]
    exact ⟨_,rfl,HOF.out,HBF.out⟩
set_option maxHeartbeats 4000000 in
set_option maxRecDepth 100000 in
theorem implTrailAnswers (vg va:Value) (g:Gr) (a:Au) (BI:Int) (w:World) (hgv:GrV 0 w.heap.size w vg g) (hav:AuV 0 w.heap.size w va a) :
 Calls Tryz.prog 33 #[vg,va,.int .i64 BI] w fun e w'=>∃ v',e=.returned (.tuple #[v',.bool (srchA g a BI false).isSome])/\Own w.heap.size w'.heap.size w' 120 cPr 2 v' ((srchA g a BI false).getD [])/\Below w.heap.size w w':=by
 have hgv0:=hgv
 have hav0:=hav
 obtain ⟨A1,n1,c1,A2,n2,c2,rfl⟩:=hgv.shape
 obtain ⟨A3,n3,c3,A4,n4,c4,rfl⟩:=hav.shape
 have hb0:Below w.heap.size w (((w.alloc (.cells #[.slice A1 n1 c1,.slice A2 n2 c2] 27)).alloc (.cells #[.int .i64 a.start,.slice A3 n3 c3,.slice A4 n4 c4] 31)).alloc (.cells #[.int .i64 BI] 3)):=(((Below.refl _ _).alloc (Nat.le_refl _) _).alloc (by simp) _).alloc (by simp;omega) _
 have bG:=((Blk.new w 27 #[.slice A1 n1 c1,.slice A2 n2 c2] w.heap.size rfl).alloc (.cells #[.int .i64 a.start,.slice A3 n3 c3,.slice A4 n4 c4] 31)).alloc (.cells #[.int .i64 BI] 3)
 have bA:=(Blk.new (w.alloc (.cells #[.slice A1 n1 c1,.slice A2 n2 c2] 27)) 31 #[.int .i64 a.start,.slice A3 n3 c3,.slice A4 n4 c4] (w.heap.size+1) (by simp)).alloc (.cells #[.int .i64 BI] 3)
 have bB:=Blk.new ((w.alloc (.cells #[.slice A1 n1 c1,.slice A2 n2 c2] 27)).alloc (.cells #[.int .i64 a.start,.slice A3 n3 c3,.slice A4 n4 c4] 31)) 3 #[.int .i64 BI] (w.heap.size+1+1) (by simp)
 have HBO:=Hd_ (bothOk_any _ _ (.slice none 0 0) g a [] _ (hgv0.keep hb0) (hav0.keep hb0) (SlI.nil _ _ _ _ _))
 have HGV:=Hd_ hgv0
 have HAV:=Hd_ hav0
 have HB0:=Hd_ hb0
 have HBG:=Hd_ bG
 have HBA:=Hd_ bA
 have HBB:=Hd_ bB
 obtain ⟨R,hR⟩:∃ R,R=srchA g a BI false:=⟨_,rfl⟩
 rw [<- hR]
 have HR:=Hd_ hR
 simp only [List.all_nil,Bool.true_and] at HBO
 clear hgv hav hgv0 hav0 hb0 bG bA bB hR
 cases hgo:(grOk g && auOk a) with
 | false =>
   rw [hgo] at HBO
   have HF:=Hd_ (HR.out.trans (show srchA g a BI false=none by rw [srchA,if_neg];rw [srchAk,hgo];simp))
   clear hgo HR
   go_enter Tryz.func33,Tryz.ntmps33
   go_wp2_with fail
   refine HBO.out.mono ?_
   rintro e w1 ⟨rfl,hb1⟩
   go_wp2_with fail
   go_ret2
   rw [HF.out]
   exact ⟨_,rfl,Own.nil _ _ _ _ _ _,below_trans HB0.out hb1⟩
 | true =>
   rw [hgo] at HBO
   cases hwB:wi BI 1 20000 with
   | false =>
     have HF:=Hd_ (HR.out.trans (show srchA g a BI false=none by rw [srchA,if_neg];rw [srchAk,hwB];simp))
     have HW:=Hd_ (fun W=>within_any BI 1 20000 W)
     rw [hwB] at HW
     clear hgo HR hwB
     go_enter Tryz.func33,Tryz.ntmps33
     go_wp2_with fail
     refine HBO.out.mono ?_
     rintro e w1 ⟨rfl,hb1⟩
     have q0:w1.cell? ⟨w.heap.size+1+1,0,none⟩=some (.int .i64 BI):=(HBB.out.keep hb1).cell 0
     have l2:=(HBB.out.keep hb1).lt
     go_wp2_with fail
     refine (HW.out _).mono ?_
     rintro e w9 ⟨rfl,hw9⟩
     rw [hw9]
     clear hw9
     go_wp2_with fail
     go_ret2
     rw [HF.out]
     exact ⟨_,rfl,Own.nil _ _ _ _ _ _,below_trans HB0.out hb1⟩
   | true =>
     have HF:=Hd_ (HR.out.trans (show srchA g a BI false=srAllF (srchC g a BI false) g.vals.length g.vals.length by rw [srchA,if_pos];rw [srchAk,hgo,hwB];rfl))
     have HW:=Hd_ (fun W=>within_any BI 1 20000 W)
     rw [hwB] at HW
     simp only [Bool.and_eq_true] at hgo
     have hn5:=(grOk_iff.1 hgo.1).n5
     clear hgo HR hwB
     go_enter Tryz.func33,Tryz.ntmps33
     go_wp2_with fail
     refine HBO.out.mono ?_
     rintro e w1 ⟨rfl,hb1⟩
     have bG:=HBG.out.keep hb1
     have bA:=HBA.out.keep hb1
     have bB:=HBB.out.keep hb1
     have hb2:=below_trans HB0.out hb1
     have x0:w1.cell? ⟨w.heap.size,0,none⟩=some (.slice A1 n1 c1):=bG.cell 0
     have x1:w1.cell? ⟨w.heap.size,1,none⟩=some (.slice A2 n2 c2):=bG.cell 1
     have y0:w1.cell? ⟨w.heap.size+1,0,none⟩=some (.int .i64 a.start):=bA.cell 0
     have y1:w1.cell? ⟨w.heap.size+1,1,none⟩=some (.slice A3 n3 c3):=bA.cell 1
     have y2:w1.cell? ⟨w.heap.size+1,2,none⟩=some (.slice A4 n4 c4):=bA.cell 2
     have q0:w1.cell? ⟨w.heap.size+1+1,0,none⟩=some (.int .i64 BI):=bB.cell 0
     have l0:=bG.lt
     have l1:=bA.lt
     have l2:=bB.lt
     have HFP:=Hd_ (found_TrailAnswers g (srchC g a BI false) w.heap.size (w.heap.size+1) (w.heap.size+1+1) _ w1 (HGV.out.keep hb2) hn5 (fun x y W hW=>cl_TrailAnswers g a (x:Int) (y:Int) BI w.heap.size (w.heap.size+1) (w.heap.size+1+1) A1 A2 A3 A4 n1 c1 n2 c2 n3 c3 n4 c4 W (kcell hW x0) (kcell hW x1) (kcell hW y0) (kcell hW y1) (kcell hW y2) (kcell hW q0) (Nat.lt_of_lt_of_le l0 hW.size) (Nat.lt_of_lt_of_le l1 hW.size) (Nat.lt_of_lt_of_le l2 hW.size) (HGV.out.keep (below_trans hb2 hW)) (HAV.out.keep (below_trans hb2 hW))))
     rw [<- HF.out] at HFP
     have HB2:=Hd_ hb2
     clear bG bA bB hb1 hb2
     go_wp2_with fail
     refine (HW.out _).mono ?_
     rintro e w9 ⟨rfl,hw9⟩
     rw [hw9]
     clear hw9
     go_wp2_with fail
     refine HFP.out.mono ?_
     rintro e w5 ⟨v5,rfl,ho5,hb5⟩
     have hsz5:=HB2.out.size
     have HO:=Hd_ (ho5.mono hsz5 (Nat.le_refl _))
     have HB:=Hd_ (below_trans HB2.out hb5)
     clear ho5 hb5
     go_wp2_with fail
     go_ret2
     exact ⟨_,rfl,HO.out,HB.out⟩
set_option maxHeartbeats 4000000 in
set_option maxRecDepth 100000 in
theorem l20All_false (vg va:Value) (g:Gr) (a:Au) (BI:Int) (w:World) (hgv:GrV 0 w.heap.size w vg g) (hav:AuV 0 w.heap.size w va a) :
 Calls Tryz.prog 89 #[vg,va,.int .i64 BI,.bool false] w fun e w'=>∃ v',e=.returned (.tuple #[v',.bool (srchA g a BI false).isSome])/\Own w.heap.size w'.heap.size w' 120 cPr 2 v' ((srchA g a BI false).getD [])/\Below w.heap.size w w':=by
 have hgv0:=hgv
 have hav0:=hav
 obtain ⟨A1,c1,A2,c2,rfl,hl1,hm1,hl2,hm2,-,-⟩:=hgv.form
 obtain ⟨A3,n3,c3,A4,n4,c4,rfl⟩:=hav.shape
 obtain ⟨R,hR⟩:∃ R,R=srchA g a BI false:=⟨_,rfl⟩
 rw [<- hR]
 obtain ⟨N,hN⟩:∃ N,N=g.vals.length:=⟨_,rfl⟩
 have hgd:goodB g a 0 0=(grOk g && auOk a):=by
  rw [goodB0]
  cases hg:grOk g with
  | false=>simp
  | true =>
    have:=(grOk_iff.1 hg).n1
    rw [wi_iff.2 ⟨by omega,by omega⟩,Bool.and_true]
 obtain ⟨gO,hgO⟩:∃ gO,gO=w.heap.size+1+1:=⟨_,rfl⟩
 obtain ⟨W0,hW0⟩:∃ W0,W0=((w.alloc (.cells #[.slice A1 g.vals.length c1,.slice A2 g.edges.length c2] 27)).alloc (.cells #[.int .i64 a.start,.slice A3 n3 c3,.slice A4 n4 c4] 31)).alloc (.cells #[] 120):=⟨_,rfl⟩
 have hb0:Below w.heap.size w W0:=by rw [hW0];exact (((Below.refl _ _).alloc (Nat.le_refl _) _).alloc (by simp) _).alloc (by simp;omega) _
 have bG:Blk W0 w.heap.size 27 #[.slice A1 g.vals.length c1,.slice A2 g.edges.length c2]:=by rw [hW0];exact ((Blk.new w _ _ w.heap.size rfl).alloc _).alloc _
 have bA:Blk W0 (w.heap.size+1) 31 #[.int .i64 a.start,.slice A3 n3 c3,.slice A4 n4 c4]:=by rw [hW0];exact (Blk.new (w.alloc _) _ _ (w.heap.size+1) (by simp)).alloc _
 have hrow0:W0.ownsRow gO 120 2 (.slice (some ⟨gO,0,none⟩) 0 0) ([]:List Pr).length (([]:List Pr).flatMap cPr):=by
  rw [hW0,hgO]
  have h:=World.ownsRow_lit (base:=w.heap.size+1+1) (e:=120) (size:=2) ((w.alloc (.cells #[.slice A1 g.vals.length c1,.slice A2 g.edges.length c2] 27)).alloc (.cells #[.int .i64 a.start,.slice A3 n3 c3,.slice A4 n4 c4] 31)) #[] 0 (by simp) (by decide) rfl
  simpa using h
 have HGX:=Hd_ (l14Good_any _ _ g a 0 0 W0 (hgv0.keep hb0) (hav0.keep hb0))
 rw [hgd] at HGX
 have HROW0:=Hd_ hrow0
 have HB0:=Hd_ hb0
 have HGV:=Hd_ hgv0
 have HAV:=Hd_ hav0
 have HHW:=Hd_ (And.intro hW0 hgO)
 have hsW:gO < W0.heap.size:=by rw [hW0,hgO];simp
 have hwg:w.heap.size+1 < gO:=by omega
 have hwg0:w.heap.size < gO:=by omega
 clear hgv hav hgv0 hav0 hb0 hrow0 hW0 hgO hgd
 go_enter Tryz.func89,Tryz.ntmps89
 go_wp2_with fail
 rw [<- HHW.out.1,<- HHW.out.2]
 clear HHW
 cases hgo:(grOk g && auOk a) with
 | false =>
   rw [hgo] at HGX
   have HF:=Hd_ (hR.trans (show srchA g a BI false=none by rw [srchA,if_neg];rw [srchAk,hgo];simp))
   refine HGX.out.mono ?_
   rintro e w1 ⟨rfl,hb1⟩
   have bG:=bG.keep hb1
   have x0:w1.cell? ⟨w.heap.size,0,none⟩=some (.slice A1 g.vals.length c1):=bG.cell 0
   have x1:w1.cell? ⟨w.heap.size,1,none⟩=some (.slice A2 g.edges.length c2):=bG.cell 1
   have l0:=bG.lt
   have HOF:=Hd_ ((Own.of_row (xs:=([]:List Pr)) (ownsRow_below HROW0.out hb1 (Nat.le_refl _)) rfl rfl).mono (show w.heap.size<=gO by omega) (Nat.le_refl _))
   have HBF:=Hd_ (below_trans HB0.out hb1)
   clear bG hb1
   go_wp2_with fail
   go_loopw [10,12] (fun oo ii wr=>oo=.slice (some ⟨gO,0,none⟩) 0 0/\ii=.int .i64 0/\wr=w1) (fun _ _ _=>0)
   case atStart=>exact ⟨rfl,rfl,rfl⟩
   case round =>
    obtain ⟨rfl,rfl,hw⟩:=hrel
    rw [hw]
    clear hw
    go_wp2_with fail
    all_goals go_ret2
    all_goals rw [HF.out]
    all_goals exact ⟨_,rfl,HOF.out,HBF.out⟩
 | true =>
   rw [hgo] at HGX
   refine HGX.out.mono ?_
   rintro e w1 ⟨rfl,hb1⟩
   have HW:=Hd_ (fun W=>l1In_any BI 1 20000 W)
   go_wp2_with fail
   cases hwB:wi BI 1 20000 with
   | false =>
     rw [hwB] at HW
     have HF:=Hd_ (hR.trans (show srchA g a BI false=none by rw [srchA,if_neg];rw [srchAk,hwB];simp))
     refine (HW.out _).mono ?_
     rintro e w9 ⟨rfl,hw9⟩
     rw [hw9]
     clear hw9
     have bG:=bG.keep hb1
     have x0:w1.cell? ⟨w.heap.size,0,none⟩=some (.slice A1 g.vals.length c1):=bG.cell 0
     have x1:w1.cell? ⟨w.heap.size,1,none⟩=some (.slice A2 g.edges.length c2):=bG.cell 1
     have l0:=bG.lt
     have HOF:=Hd_ ((Own.of_row (xs:=([]:List Pr)) (ownsRow_below HROW0.out hb1 (Nat.le_refl _)) rfl rfl).mono (show w.heap.size<=gO by omega) (Nat.le_refl _))
     have HBF:=Hd_ (below_trans HB0.out hb1)
     clear bG hb1
     go_wp2_with fail
     go_loopw [10,12] (fun oo ii wr=>oo=.slice (some ⟨gO,0,none⟩) 0 0/\ii=.int .i64 0/\wr=w1) (fun _ _ _=>0)
     case atStart=>exact ⟨rfl,rfl,rfl⟩
     case round =>
      obtain ⟨rfl,rfl,hw⟩:=hrel
      rw [hw]
      clear hw
      go_wp2_with fail
      all_goals go_ret2
      all_goals rw [HF.out]
      all_goals exact ⟨_,rfl,HOF.out,HBF.out⟩
   | true =>
     rw [hwB] at HW
     refine (HW.out _).mono ?_
     rintro e w9 ⟨rfl,hw9⟩
     rw [hw9]
     clear hw9 HW HGX
     have HR:=Hd_ (hR.trans (show srchA g a BI false=srAllF (srchC g a BI false) N N by rw [srchA,if_pos,hN];rw [srchAk,hgo,hwB];rfl))
     simp only [Bool.and_eq_true] at hgo
     have hn5:=(grOk_iff.1 hgo.1).n5
     rw [<- hN] at hn5 hl1
     have bG:=bG.keep hb1
     have bA:=bA.keep hb1
     have x0:w1.cell? ⟨w.heap.size,0,none⟩=some (.slice A1 N c1):=by rw [hN];exact bG.cell 0
     have x1:w1.cell? ⟨w.heap.size,1,none⟩=some (.slice A2 g.edges.length c2):=bG.cell 1
     have y0:w1.cell? ⟨w.heap.size+1,0,none⟩=some (.int .i64 a.start):=bA.cell 0
     have y1:w1.cell? ⟨w.heap.size+1,1,none⟩=some (.slice A3 n3 c3):=bA.cell 1
     have y2:w1.cell? ⟨w.heap.size+1,2,none⟩=some (.slice A4 n4 c4):=bA.cell 2
     have l0:=bG.lt
     have l1:=bA.lt
     have HB1:=Hd_ (below_trans HB0.out hb1)
     have HROW1:=Hd_ (ownsRow_below HROW0.out hb1 (Nat.le_refl _))
     have hs1:=hb1.size
     rw [<- hN] at HGV
     obtain ⟨f,hf⟩:∃ f,f=srchC g a BI false:=⟨_,rfl⟩
     have HFD:=Hd_ (fun (x y:Nat) (W:World) (hW:Below w.heap.size w W)=>by
      have h:=l20Find_false _ _ g a (x:Int) (y:Int) BI W (HGV.out.keep hW) (HAV.out.keep hW)
      rw [show (srchL g a (x:Int) (y:Int) BI false).2=f x y by rw [hf];rfl] at h
      exact h)
     rw [<- hf] at HR
     clear hN hgo hwB bG bA hb1 HROW0 HB0 hR hf HGV HAV
     go_wp2_with fail
     go_loopw [10,12] (fun oo ii wr=>∃ (i:Nat) (L:List Pr),i<=N/\ii=.int .i64 (i:Int)/\srAllF f N i=some L/\wr.ownsRow gO 120 2 oo L.length (L.flatMap cPr)/\Below gO w1 wr) (fun _ ii _=>N - (intOf ii).toNat)
     case atStart=>exact ⟨0,[],Nat.zero_le _,rfl,rfl,HROW1.out,Below.refl _ _⟩
     case round =>
      clear HROW1
      obtain ⟨i,L,hi,rfl,hL,hrow,hbel⟩:=hrel
      have HL:=Hd_ hL
      have HROW:=Hd_ hrow
      have HBEL:=Hd_ hbel
      have hsz:=hbel.size
      have X0:=Hd_ x0
      have X1:=Hd_ x1
      have Y0:=Hd_ y0
      have Y1:=Hd_ y1
      have Y2:=Hd_ y2
      have x0:=(HBEL.out.cell (p:=⟨w.heap.size,0,none⟩) (by simp only;omega)).trans x0
      have x1:=(HBEL.out.cell (p:=⟨w.heap.size,1,none⟩) (by simp only;omega)).trans x1
      have l0:w.heap.size < wr.heap.size:=by omega
      clear hL hrow hbel
      by_cases hlt:i < N
      · have hii:(i:Int) < (N:Int):=by omega
        obtain ⟨wo,rfl⟩:∃ wo:World,wo=wr:=⟨_,rfl⟩
        go_wp2_with fail
        go_loopw [10,13] (fun oo jj wr=>∃ (j:Nat) (M:List Pr),j<=N/\jj=.int .i64 (j:Int)/\srRowF f i (srAllF f N i) j=some M/\wr.ownsRow gO 120 2 oo M.length (M.flatMap cPr)/\Below gO w1 wr) (fun _ jj _=>N - (intOf jj).toNat)
        case atStart=>exact ⟨0,L,Nat.zero_le _,rfl,HL.out,HROW.out,HBEL.out⟩
        case round =>
         clear HROW HBEL hsz l0 x0 x1
         obtain ⟨j,M,hj,rfl,hM,hrow2,hbel2⟩:=hrel
         have HM:=Hd_ hM
         have HROW2:=Hd_ hrow2
         have HBEL2:=Hd_ hbel2
         have hsz2:=hbel2.size
         have HBW2:=Hd_ (HB1.out.trans (hbel2.mono (show w.heap.size<=gO by omega)))
         have hml:=srRowF_len (f:=f) (x:=i) (st:=srAllF f N i) (n:=25) (fun L2 h2=>by have h3:=srAllF_len i L2 h2;have h4:i * N<=5 * 5:=Nat.mul_le_mul (by omega) hn5;omega) j M hM
         have x0:=(hbel2.cell (p:=⟨w.heap.size,0,none⟩) (by simp only;omega)).trans X0.out
         have x1:=(hbel2.cell (p:=⟨w.heap.size,1,none⟩) (by simp only;omega)).trans X1.out
         have y0:=(hbel2.cell (p:=⟨w.heap.size+1,0,none⟩) (by simp only;omega)).trans Y0.out
         have y1:=(hbel2.cell (p:=⟨w.heap.size+1,1,none⟩) (by simp only;omega)).trans Y1.out
         have y2:=(hbel2.cell (p:=⟨w.heap.size+1,2,none⟩) (by simp only;omega)).trans Y2.out
         have l0:w.heap.size < wr.heap.size:=by omega
         have l1:w.heap.size+1 < wr.heap.size:=by omega
         clear hM hrow2 hbel2
         by_cases hlj:j < N
         · have hjj:(j:Int) < (N:Int):=by omega
           have HC1:=Hd_ (fun h=>srRowF_one (f:=f) (x:=i) HM.out h)
           have HC0:=Hd_ (fun h h2=>srRowF_on (f:=f) (x:=i) HM.out h h2)
           have HC3:=Hd_ (fun h=>srAllF_out (f:=f) hlt hlj HM.out h)
           have HCX:=Hd_ (HFD.out i j wr HBW2.out)
           generalize f i j=c at *
           go_wp2_with fail
           refine HCX.out.mono ?_
           rintro e w4 ⟨v4,rfl,⟨ss,rfl,hown⟩,hb4⟩
           obtain ⟨A9,n9,c9,rfl⟩:=hown.shape
           obtain ⟨V1,hV1⟩:∃ V1,V1=(srchL g a (i:Int) (j:Int) BI false).1.1:=⟨_,rfl⟩
           rw [<- hV1]
           clear hV1 hown
           obtain ⟨w5,hw5⟩:∃ w5,w5=w4.alloc (.cells #[.int .i64 V1,.slice A9 n9 c9] 39):=⟨_,rfl⟩
           have hb5:Below wr.heap.size wr w5:=by rw [hw5];exact hb4.alloc hb4.size _
           have hb6:=HBEL2.out.trans (hb5.mono (show gO<=wr.heap.size by omega))
           have HR5:=Hd_ (ownsRow_below HROW2.out hb5 (Nat.le_refl _))
           have HB6:=Hd_ hb6
           have hs6:=hb6.size
           have HW5:=Hd_ hw5
           clear hb5 hb6 hb4 hw5
           go_upto_region 10 with fail
           rw [<- HW5.out]
           clear HW5
           by_cases h3:c=3
           · have k3:(c==3)=true:=by simp [h3]
             have k4:decide (c=3)=true:=by simp [h3]
             have HN3:=Hd_ (HR.out.trans (HC3.out h3))
             clear HC1 HC0 HC3
             subst h3
             have HBF:=Hd_ (HB1.out.trans (HB6.out.mono (show w.heap.size<=gO by omega)))
             have hswf:=HBF.out.size
             go_wp2_with fail
             go_ret2
             rw [HN3.out]
             exact ⟨_,rfl,lit_nilA hswf,HBF.out.alloc hswf _⟩
           · have k3:(c==3)=false:=by simp [h3]
             have k4:decide (c=3)=false:=by simp [h3]
             by_cases h1:c=1
             · have k1:(c==1)=true:=by simp [h1]
               have k2:decide (c=1)=true:=by simp [h1]
               have HN1:=Hd_ (HC1.out h1)
               clear HC1 HC0 HC3 h3
               subst h1
               go_wp2_with (at_builtin;(refine wpList_append1 cPr elPair rfl _ _ rfl gO _ M ((i:Int),(j:Int)) _ 1 w5.heap.size (by rfl) HR5.out (by rfl) rfl rfl rfl (cPr_one _) (by omega) (by omega) (by omega) ?_);intro v' w7 hrow7 hb7 _ _)
               go_roundw
               case rel=>exact ⟨j+1,_,by omega,by go_num,HN1.out,hrow7,HB6.out.trans hb7⟩
               case measure=>simp [intOf];omega
             · have k1:(c==1)=false:=by simp [h1]
               have k2:decide (c=1)=false:=by simp [h1]
               have HN0:=Hd_ (HC0.out h1 h3)
               clear HC1 HC0 HC3 h1 h3
               go_wp2_with fail
               go_roundw
               case rel=>exact ⟨j+1,_,by omega,by go_num,HN0.out,HR5.out,HB6.out⟩
               case measure=>simp [intOf];omega
         · obtain rfl:j=N:=by omega
           rw [<- srAllF_succ] at HM
           go_wp2_with fail
           go_roundw
           case rel=>exact ⟨i+1,_,by omega,by go_num,HM.out,HROW2.out,HBEL2.out⟩
           case measure=>simp [intOf];omega
      · obtain rfl:i=N:=by omega
        have hRe:=HR.out.trans HL.out
        have HRE:=Hd_ hRe
        have HBF:=Hd_ (HB1.out.trans (HBEL.out.mono (show w.heap.size<=gO by omega)))
        have HOF:=Hd_ ((Own.of_row (xs:=L) HROW.out rfl rfl).mono (show w.heap.size<=gO by omega) (Nat.le_refl _))
        clear hRe
        go_wp2_with fail
        go_ret2
        rw [HRE.out]
        exact ⟨_,rfl,HOF.out,HBF.out⟩
set_option maxHeartbeats 4000000 in
theorem specTrailAnswers (vg va:Value) (g:Gr) (a:Au) (BI:Int) (w:World) (hgv:GrV 0 w.heap.size w vg g) (hav:AuV 0 w.heap.size w va a) :
 Calls Tryz.prog 34 #[vg,va,.int .i64 BI] w fun e w'=>∃ v',e=.returned (.tuple #[v',.bool (srchA g a BI false).isSome])/\Own w.heap.size w'.heap.size w' 120 cPr 2 v' ((srchA g a BI false).getD [])/\Below w.heap.size w w':=by
 have hgv0:=hgv
 have hav0:=hav
 obtain ⟨A1,n1,c1,A2,n2,c2,rfl⟩:=hgv.shape
 obtain ⟨A3,n3,c3,A4,n4,c4,rfl⟩:=hav.shape
 have hb0:Below w.heap.size w ((w.alloc (.cells #[.slice A1 n1 c1,.slice A2 n2 c2] 27)).alloc (.cells #[.int .i64 a.start,.slice A3 n3 c3,.slice A4 n4 c4] 31)):=((Below.refl _ _).alloc (Nat.le_refl _) _).alloc (by simp) _
 have HC:=Hd_ (l20All_false _ _ g a BI _ (hgv0.keep hb0) (hav0.keep hb0))
 generalize srchA g a BI false=R at *
 have HB0:=Hd_ hb0
 have hsz0:=hb0.size
 clear hgv hav hgv0 hav0 hb0
 go_enter Tryz.func34,Tryz.ntmps34
 go_wp2_with fail
 refine HC.out.mono ?_
 rintro e w1 ⟨v1,rfl,hown,hb1⟩
 have HO:=Hd_ (hown.mono hsz0 (Nat.le_refl _))
 have HB:=Hd_ (below_trans HB0.out hb1)
 clear hown hb1 HC
 go_wp2_with fail
 go_ret2
 exact ⟨_,rfl,HO.out,HB.out⟩
set_option maxHeartbeats 4000000 in
set_option maxRecDepth 100000 in
theorem cl_SimplePathAnswers (g:Gr) (a:Au) (x y BI:Int) (b0 b1 b2:Nat) (A1 A2 A3 A4:Option Addr) (n1 c1 n2 c2 n3 c3 n4 c4:Nat) (W:World) (x0:W.cell? ⟨b0,0,none⟩=some (.slice A1 n1 c1)) (x1:W.cell? ⟨b0,1,none⟩=some (.slice A2 n2 c2)) (y0:W.cell? ⟨b1,0,none⟩=some (.int .i64 a.start)) (y1:W.cell? ⟨b1,1,none⟩=some (.slice A3 n3 c3)) (y2:W.cell? ⟨b1,2,none⟩=some (.slice A4 n4 c4)) (q0:W.cell? ⟨b2,0,none⟩=some (.int .i64 BI))
 (l0:b0 < W.heap.size) (l1:b1 < W.heap.size) (l2:b2 < W.heap.size) (hgv:GrV 0 W.heap.size W (.agg #[.slice A1 n1 c1,.slice A2 n2 c2]) g) (hav:AuV 0 W.heap.size W (.agg #[.int .i64 a.start,.slice A3 n3 c3,.slice A4 n4 c4]) a) :
 Calls Tryz.prog 90 #[.int .i64 x,.int .i64 y,.pointer (some ⟨b0,0,none⟩),.pointer (some ⟨b1,0,none⟩),.pointer (some ⟨b2,0,none⟩)] W fun e W'=>e=.returned (.int .i64 (srchL g a x y BI true).2)/\Below W.heap.size W W':=by
 have HC:=Hd_ (implSearchSimplePath _ _ g a x y BI W hgv hav)
 generalize srchL g a x y BI true=R at *
 clear hgv hav
 go_enter Tryz.func90,Tryz.ntmps90
 go_wp2_with fail
 refine HC.out.mono ?_
 rintro e w1 ⟨v1,rfl,⟨ss,rfl,hown⟩,hb1⟩
 obtain ⟨A9,n9,c9,rfl⟩:=hown.shape
 clear hown HC
 go_wp2_with fail
 go_ret
 exact ⟨rfl,hb1.alloc hb1.size _⟩
set_option maxHeartbeats 4000000 in
set_option maxRecDepth 100000 in
theorem found_SimplePathAnswers (g:Gr) (f:Nat->Nat->Int) (b0 b1 b2:Nat) (vg:Value) (w:World) (hgv:GrV 0 w.heap.size w vg g) (hn5:g.vals.length<=5)
 (hcl:∀ (x y:Nat) (W:World),Below w.heap.size w W->Calls Tryz.prog 90 #[.int .i64 (x:Int),.int .i64 (y:Int),.pointer (some ⟨b0,0,none⟩),.pointer (some ⟨b1,0,none⟩),.pointer (some ⟨b2,0,none⟩)] W fun e W'=>e=.returned (.int .i64 (f x y))/\Below W.heap.size W W') :
 Calls Tryz.prog 87 #[vg,.func (Fn.func 90) #[] #[.pointer (some ⟨b0,0,none⟩),.pointer (some ⟨b1,0,none⟩),.pointer (some ⟨b2,0,none⟩)]] w fun e w'=>∃ v',e=.returned (.tuple #[v',.bool (srAllF f g.vals.length g.vals.length).isSome]) /\
  Own w.heap.size w'.heap.size w' 120 cPr 2 v' ((srAllF f g.vals.length g.vals.length).getD [])/\Below w.heap.size w w':=by
 obtain ⟨A1,c1,A2,c2,rfl,hl1,hm1,hl2,hm2,-,-⟩:=hgv.form
 clear hgv
 generalize g.vals.length=N at *
 obtain ⟨R,hR⟩:∃ R,R=srAllF f N N:=⟨_,rfl⟩
 rw [<- hR]
 have HR:=Hd_ hR
 have HCL:=Hd_ hcl
 clear hR hcl
 go_enter Tryz.func87,Tryz.ntmps87
 go_wp2_with fail
 obtain ⟨gO,hgO⟩:∃ gO,gO=w.heap.size+1:=⟨_,rfl⟩
 obtain ⟨W0,hW0⟩:∃ W0,W0=(w.alloc (.cells #[.slice A1 N c1,.slice A2 g.edges.length c2] 27)).alloc (.cells #[] 120):=⟨_,rfl⟩
 have hb0:Below w.heap.size w W0:=by rw [hW0];exact ((Below.refl _ _).alloc (Nat.le_refl _) _).alloc (by simp) _
 have bx:Blk W0 w.heap.size 27 #[.slice A1 N c1,.slice A2 g.edges.length c2]:=by rw [hW0];exact (Blk.new w _ _ w.heap.size rfl).alloc _
 have hrow0:W0.ownsRow gO 120 2 (.slice (some ⟨gO,0,none⟩) 0 0) ([]:List Pr).length (([]:List Pr).flatMap cPr):=by
  rw [hW0,hgO]
  have h:=World.ownsRow_lit (base:=w.heap.size+1) (e:=120) (size:=2) (w.alloc (.cells #[.slice A1 N c1,.slice A2 g.edges.length c2] 27)) #[] 0 (by simp) (by decide) rfl
  simpa using h
 have hsW:gO < W0.heap.size:=by rw [hW0,hgO];simp
 have x0:W0.cell? ⟨w.heap.size,0,none⟩=some (.slice A1 N c1):=bx.cell 0
 have x1:W0.cell? ⟨w.heap.size,1,none⟩=some (.slice A2 g.edges.length c2):=bx.cell 1
 have hg1:w.heap.size+1<=gO:=by omega
 have hwg:w.heap.size < gO:=by omega
 rw [<- hW0,<- hgO]
 have l0:w.heap.size < W0.heap.size:=by omega
 have HROW0:=Hd_ hrow0
 have HB0:=Hd_ hb0
 clear hW0 hgO bx hrow0 hb0
 try go_wp2_with fail
 go_loopw [6,13] (fun oo ii wr=>∃ (i:Nat) (L:List Pr),i<=N/\ii=.int .i64 (i:Int)/\srAllF f N i=some L/\wr.ownsRow gO 120 2 oo L.length (L.flatMap cPr)/\Below gO W0 wr) (fun _ ii _=>N - (intOf ii).toNat)
 case atStart=>exact ⟨0,[],Nat.zero_le _,rfl,rfl,HROW0.out,Below.refl _ _⟩
 case round =>
  clear HROW0
  obtain ⟨i,L,hi,rfl,hL,hrow,hbel⟩:=hrel
  have HL:=Hd_ hL
  have HROW:=Hd_ hrow
  have HBEL:=Hd_ hbel
  have hsz:=hbel.size
  clear hL hrow hbel
  by_cases hlt:i < N
  · have hii:(i:Int) < (N:Int):=by omega
    have x0:=(HBEL.out.cell (p:=⟨w.heap.size,0,none⟩) (by simp only;omega)).trans x0
    have x1:=(HBEL.out.cell (p:=⟨w.heap.size,1,none⟩) (by simp only;omega)).trans x1
    have l0:w.heap.size < wr.heap.size:=by omega
    obtain ⟨wo,rfl⟩:∃ wo:World,wo=wr:=⟨_,rfl⟩
    go_wp2_with fail
    go_loopw [6,19] (fun oo jj wr=>∃ (j:Nat) (M:List Pr),j<=N/\jj=.int .i64 (j:Int)/\srRowF f i (srAllF f N i) j=some M/\wr.ownsRow gO 120 2 oo M.length (M.flatMap cPr)/\Below gO W0 wr) (fun _ jj _=>N - (intOf jj).toNat)
    case atStart=>exact ⟨0,L,Nat.zero_le _,rfl,HL.out,HROW.out,HBEL.out⟩
    case round =>
     clear HROW HBEL hsz l0 x0 x1
     obtain ⟨j,M,hj,rfl,hM,hrow2,hbel2⟩:=hrel
     have HM:=Hd_ hM
     have HROW2:=Hd_ hrow2
     have HBEL2:=Hd_ hbel2
     have hsz2:=hbel2.size
     have HBW2:=Hd_ (HB0.out.trans (hbel2.mono (show w.heap.size<=gO by omega)))
     have hml:=srRowF_len (f:=f) (x:=i) (st:=srAllF f N i) (n:=25) (fun L2 h2=>by have h3:=srAllF_len i L2 h2;have h4:i * N<=5 * 5:=Nat.mul_le_mul (by omega) hn5;omega) j M hM
     clear hM hrow2 hbel2
     by_cases hlj:j < N
     · have hjj:(j:Int) < (N:Int):=by omega
       have HC1:=Hd_ (fun h=>srRowF_one (f:=f) (x:=i) HM.out h)
       have HC0:=Hd_ (fun h h2=>srRowF_on (f:=f) (x:=i) HM.out h h2)
       have HC3:=Hd_ (fun h=>srAllF_out (f:=f) hlt hlj HM.out h)
       have HCX:=Hd_ (HCL.out i j wr HBW2.out)
       generalize f i j=c at *
       go_wp2_with fail
       refine HCX.out.mono ?_
       rintro e w5 ⟨rfl,hb5⟩
       have hb6:=HBEL2.out.trans (hb5.mono (show gO<=wr.heap.size by omega))
       have HR5:=Hd_ (ownsRow_below HROW2.out hb5 (Nat.le_refl _))
       have HB6:=Hd_ hb6
       have hs6:=hb6.size
       clear hb5 hb6
       by_cases h1:c=1
       · have k1:(c==1)=true:=by simp [h1]
         have k2:decide (c=1)=true:=by simp [h1]
         have HN1:=Hd_ (HC1.out h1)
         subst h1
         clear HC1 HC0 HC3
         go_wp2_with (at_builtin;(refine wpList_append1 cPr elPair rfl _ _ rfl gO _ M ((i:Int),(j:Int)) _ 1 w5.heap.size (by rfl) HR5.out (by rfl) rfl rfl rfl (cPr_one _) (by omega) (by omega) (by omega) ?_);intro v' w7 hrow7 hb7 _ _)
         go_roundw
         case rel=>exact ⟨j+1,_,by omega,by go_num,HN1.out,hrow7,HB6.out.trans hb7⟩
         case measure=>simp [intOf];omega
       · have k1:(c==1)=false:=by simp [h1]
         have k2:decide (c=1)=false:=by simp [h1]
         by_cases h3:c=3
         · have k3:(c==3)=true:=by simp [h3]
           have k4:decide (c=3)=true:=by simp [h3]
           have HN3:=Hd_ (HR.out.trans (HC3.out h3))
           clear HC1 HC0 HC3 h1
           subst h3
           have HBF:=Hd_ (HB0.out.trans (HB6.out.mono (show w.heap.size<=gO by omega)))
           go_wp2_with fail
           go_ret2
           rw [HN3.out]
           exact ⟨_,rfl,Own.nil _ _ _ _ _ _,HBF.out⟩
         · have k3:(c==3)=false:=by simp [h3]
           have k4:decide (c=3)=false:=by simp [h3]
           have HN0:=Hd_ (HC0.out h1 h3)
           clear HC1 HC0 HC3 h1 h3
           go_wp2_with fail
           go_roundw
           case rel=>exact ⟨j+1,_,by omega,by go_num,HN0.out,HR5.out,HB6.out⟩
           case measure=>simp [intOf];omega
     · obtain rfl:j=N:=by omega
       rw [<- srAllF_succ] at HM
       go_wp2_with fail
       go_roundw
       case rel=>exact ⟨i+1,_,by omega,by go_num,HM.out,HROW2.out,HBEL2.out⟩
       case measure=>simp [intOf];omega
  · obtain rfl:i=N:=by omega
    have hRe:=HR.out.trans HL.out
    have HRE:=Hd_ hRe
    have HBF:=Hd_ (HB0.out.trans (HBEL.out.mono (show w.heap.size<=gO by omega)))
    have HOF:=Hd_ ((Own.of_row (xs:=L) HROW.out rfl rfl).mono (show w.heap.size<=gO by omega) (Nat.le_refl _))
    clear hRe
    go_wp2_with fail
    go_ret2
    rw [HRE.out]
    exact ⟨_,rfl,HOF.out,HBF.out⟩
set_option maxHeartbeats 4000000 in
set_option maxRecDepth 100000 in
theorem implSimplePathAnswers (vg va:Value) (g:Gr) (a:Au) (BI:Int) (w:World) (hgv:GrV 0 w.heap.size w vg g) (hav:AuV 0 w.heap.size w va a) :
 Calls Tryz.prog 35 #[vg,va,.int .i64 BI] w fun e w'=>∃ v',e=.returned (.tuple #[v',.bool (srchA g a BI true).isSome])/\Own w.heap.size w'.heap.size w' 120 cPr 2 v' ((srchA g a BI true).getD [])/\Below w.heap.size w w':=by
 have hgv0:=hgv
 have hav0:=hav
 obtain ⟨A1,n1,c1,A2,n2,c2,rfl⟩:=hgv.shape
 obtain ⟨A3,n3,c3,A4,n4,c4,rfl⟩:=hav.shape
 have hb0:Below w.heap.size w (((w.alloc (.cells #[.slice A1 n1 c1,.slice A2 n2 c2] 27)).alloc (.cells #[.int .i64 a.start,.slice A3 n3 c3,.slice A4 n4 c4] 31)).alloc (.cells #[.int .i64 BI] 3)):=(((Below.refl _ _).alloc (Nat.le_refl _) _).alloc (by simp) _).alloc (by simp;omega) _
 have bG:=((Blk.new w 27 #[.slice A1 n1 c1,.slice A2 n2 c2] w.heap.size rfl).alloc (.cells #[.int .i64 a.start,.slice A3 n3 c3,.slice A4 n4 c4] 31)).alloc (.cells #[.int .i64 BI] 3)
 have bA:=(Blk.new (w.alloc (.cells #[.slice A1 n1 c1,.slice A2 n2 c2] 27)) 31 #[.int .i64 a.start,.slice A3 n3 c3,.slice A4 n4 c4] (w.heap.size+1) (by simp)).alloc (.cells #[.int .i64 BI] 3)
 have bB:=Blk.new ((w.alloc (.cells #[.slice A1 n1 c1,.slice A2 n2 c2] 27)).alloc (.cells #[.int .i64 a.start,.slice A3 n3 c3,.slice A4 n4 c4] 31)) 3 #[.int .i64 BI] (w.heap.size+1+1) (by simp)
 have HBO:=Hd_ (bothOk_any _ _ (.slice none 0 0) g a [] _ (hgv0.keep hb0) (hav0.keep hb0) (SlI.nil _ _ _ _ _))
 have HGV:=Hd_ hgv0
 have HAV:=Hd_ hav0
 have HB0:=Hd_ hb0
 have HBG:=Hd_ bG
 have HBA:=Hd_ bA
 have HBB:=Hd_ bB
 obtain ⟨R,hR⟩:∃ R,R=srchA g a BI true:=⟨_,rfl⟩
 rw [<- hR]
 have HR:=Hd_ hR
 simp only [List.all_nil,Bool.true_and] at HBO
 clear hgv hav hgv0 hav0 hb0 bG bA bB hR
 cases hgo:(grOk g && auOk a) with
 | false =>
   rw [hgo] at HBO
   have HF:=Hd_ (HR.out.trans (show srchA g a BI true=none by rw [srchA,if_neg];rw [srchAk,hgo];simp))
   clear hgo HR
   go_enter Tryz.func35,Tryz.ntmps35
   go_wp2_with fail
   refine HBO.out.mono ?_
   rintro e w1 ⟨rfl,hb1⟩
   go_wp2_with fail
   go_ret2
   rw [HF.out]
   exact ⟨_,rfl,Own.nil _ _ _ _ _ _,below_trans HB0.out hb1⟩
 | true =>
   rw [hgo] at HBO
   cases hwB:wi BI 1 20000 with
   | false =>
     have HF:=Hd_ (HR.out.trans (show srchA g a BI true=none by rw [srchA,if_neg];rw [srchAk,hwB];simp))
     have HW:=Hd_ (fun W=>within_any BI 1 20000 W)
     rw [hwB] at HW
     clear hgo HR hwB
     go_enter Tryz.func35,Tryz.ntmps35
     go_wp2_with fail
     refine HBO.out.mono ?_
     rintro e w1 ⟨rfl,hb1⟩
     have q0:w1.cell? ⟨w.heap.size+1+1,0,none⟩=some (.int .i64 BI):=(HBB.out.keep hb1).cell 0
     have l2:=(HBB.out.keep hb1).lt
     go_wp2_with fail
     refine (HW.out _).mono ?_
     rintro e w9 ⟨rfl,hw9⟩
     rw [hw9]
     clear hw9
     go_wp2_with fail
     go_ret2
     rw [HF.out]
     exact ⟨_,rfl,Own.nil _ _ _ _ _ _,below_trans HB0.out hb1⟩
   | true =>
     have HF:=Hd_ (HR.out.trans (show srchA g a BI true=srAllF (srchC g a BI true) g.vals.length g.vals.length by rw [srchA,if_pos];rw [srchAk,hgo,hwB];rfl))
     have HW:=Hd_ (fun W=>within_any BI 1 20000 W)
     rw [hwB] at HW
     simp only [Bool.and_eq_true] at hgo
     have hn5:=(grOk_iff.1 hgo.1).n5
     clear hgo HR hwB
     go_enter Tryz.func35,Tryz.ntmps35
     go_wp2_with fail
     refine HBO.out.mono ?_
     rintro e w1 ⟨rfl,hb1⟩
     have bG:=HBG.out.keep hb1
     have bA:=HBA.out.keep hb1
     have bB:=HBB.out.keep hb1
     have hb2:=below_trans HB0.out hb1
     have x0:w1.cell? ⟨w.heap.size,0,none⟩=some (.slice A1 n1 c1):=bG.cell 0
     have x1:w1.cell? ⟨w.heap.size,1,none⟩=some (.slice A2 n2 c2):=bG.cell 1
     have y0:w1.cell? ⟨w.heap.size+1,0,none⟩=some (.int .i64 a.start):=bA.cell 0
     have y1:w1.cell? ⟨w.heap.size+1,1,none⟩=some (.slice A3 n3 c3):=bA.cell 1
     have y2:w1.cell? ⟨w.heap.size+1,2,none⟩=some (.slice A4 n4 c4):=bA.cell 2
     have q0:w1.cell? ⟨w.heap.size+1+1,0,none⟩=some (.int .i64 BI):=bB.cell 0
     have l0:=bG.lt
     have l1:=bA.lt
     have l2:=bB.lt
     have HFP:=Hd_ (found_SimplePathAnswers g (srchC g a BI true) w.heap.size (w.heap.size+1) (w.heap.size+1+1) _ w1 (HGV.out.keep hb2) hn5 (fun x y W hW=>cl_SimplePathAnswers g a (x:Int) (y:Int) BI w.heap.size (w.heap.size+1) (w.heap.size+1+1) A1 A2 A3 A4 n1 c1 n2 c2 n3 c3 n4 c4 W (kcell hW x0) (kcell hW x1) (kcell hW y0) (kcell hW y1) (kcell hW y2) (kcell hW q0) (Nat.lt_of_lt_of_le l0 hW.size) (Nat.lt_of_lt_of_le l1 hW.size) (Nat.lt_of_lt_of_le l2 hW.size) (HGV.out.keep (below_trans hb2 hW)) (HAV.out.keep (below_trans hb2 hW))))
     rw [<- HF.out] at HFP
     have HB2:=Hd_ hb2
     clear bG bA bB hb1 hb2
     go_wp2_with fail
     refine (HW.out _).mono ?_
     rintro e w9 ⟨rfl,hw9⟩
     rw [hw9]
     clear hw9
     go_wp2_with fail
     refine HFP.out.mono ?_
     rintro e w5 ⟨v5,rfl,ho5,hb5⟩
     have hsz5:=HB2.out.size
     have HO:=Hd_ (ho5.mono hsz5 (Nat.le_refl _))
     have HB:=Hd_ (below_trans HB2.out hb5)
     clear ho5 hb5
     go_wp2_with fail
     go_ret2
     exact ⟨_,rfl,HO.out,HB.out⟩
set_option maxHeartbeats 4000000 in
set_option maxRecDepth 100000 in
theorem l20All_true (vg va:Value) (g:Gr) (a:Au) (BI:Int) (w:World) (hgv:GrV 0 w.heap.size w vg g) (hav:AuV 0 w.heap.size w va a) :
 Calls Tryz.prog 89 #[vg,va,.int .i64 BI,.bool true] w fun e w'=>∃ v',e=.returned (.tuple #[v',.bool (srchA g a BI true).isSome])/\Own w.heap.size w'.heap.size w' 120 cPr 2 v' ((srchA g a BI true).getD [])/\Below w.heap.size w w':=by
 have hgv0:=hgv
 have hav0:=hav
 obtain ⟨A1,c1,A2,c2,rfl,hl1,hm1,hl2,hm2,-,-⟩:=hgv.form
 obtain ⟨A3,n3,c3,A4,n4,c4,rfl⟩:=hav.shape
 obtain ⟨R,hR⟩:∃ R,R=srchA g a BI true:=⟨_,rfl⟩
 rw [<- hR]
 obtain ⟨N,hN⟩:∃ N,N=g.vals.length:=⟨_,rfl⟩
 have hgd:goodB g a 0 0=(grOk g && auOk a):=by
  rw [goodB0]
  cases hg:grOk g with
  | false=>simp
  | true =>
    have:=(grOk_iff.1 hg).n1
    rw [wi_iff.2 ⟨by omega,by omega⟩,Bool.and_true]
 obtain ⟨gO,hgO⟩:∃ gO,gO=w.heap.size+1+1:=⟨_,rfl⟩
 obtain ⟨W0,hW0⟩:∃ W0,W0=((w.alloc (.cells #[.slice A1 g.vals.length c1,.slice A2 g.edges.length c2] 27)).alloc (.cells #[.int .i64 a.start,.slice A3 n3 c3,.slice A4 n4 c4] 31)).alloc (.cells #[] 120):=⟨_,rfl⟩
 have hb0:Below w.heap.size w W0:=by rw [hW0];exact (((Below.refl _ _).alloc (Nat.le_refl _) _).alloc (by simp) _).alloc (by simp;omega) _
 have bG:Blk W0 w.heap.size 27 #[.slice A1 g.vals.length c1,.slice A2 g.edges.length c2]:=by rw [hW0];exact ((Blk.new w _ _ w.heap.size rfl).alloc _).alloc _
 have bA:Blk W0 (w.heap.size+1) 31 #[.int .i64 a.start,.slice A3 n3 c3,.slice A4 n4 c4]:=by rw [hW0];exact (Blk.new (w.alloc _) _ _ (w.heap.size+1) (by simp)).alloc _
 have hrow0:W0.ownsRow gO 120 2 (.slice (some ⟨gO,0,none⟩) 0 0) ([]:List Pr).length (([]:List Pr).flatMap cPr):=by
  rw [hW0,hgO]
  have h:=World.ownsRow_lit (base:=w.heap.size+1+1) (e:=120) (size:=2) ((w.alloc (.cells #[.slice A1 g.vals.length c1,.slice A2 g.edges.length c2] 27)).alloc (.cells #[.int .i64 a.start,.slice A3 n3 c3,.slice A4 n4 c4] 31)) #[] 0 (by simp) (by decide) rfl
  simpa using h
 have HGX:=Hd_ (l14Good_any _ _ g a 0 0 W0 (hgv0.keep hb0) (hav0.keep hb0))
 rw [hgd] at HGX
 have HROW0:=Hd_ hrow0
 have HB0:=Hd_ hb0
 have HGV:=Hd_ hgv0
 have HAV:=Hd_ hav0
 have HHW:=Hd_ (And.intro hW0 hgO)
 have hsW:gO < W0.heap.size:=by rw [hW0,hgO];simp
 have hwg:w.heap.size+1 < gO:=by omega
 have hwg0:w.heap.size < gO:=by omega
 clear hgv hav hgv0 hav0 hb0 hrow0 hW0 hgO hgd
 go_enter Tryz.func89,Tryz.ntmps89
 go_wp2_with fail
 rw [<- HHW.out.1,<- HHW.out.2]
 clear HHW
 cases hgo:(grOk g && auOk a) with
 | false =>
   rw [hgo] at HGX
   have HF:=Hd_ (hR.trans (show srchA g a BI true=none by rw [srchA,if_neg];rw [srchAk,hgo];simp))
   refine HGX.out.mono ?_
   rintro e w1 ⟨rfl,hb1⟩
   have bG:=bG.keep hb1
   have x0:w1.cell? ⟨w.heap.size,0,none⟩=some (.slice A1 g.vals.length c1):=bG.cell 0
   have x1:w1.cell? ⟨w.heap.size,1,none⟩=some (.slice A2 g.edges.length c2):=bG.cell 1
   have l0:=bG.lt
   have HOF:=Hd_ ((Own.of_row (xs:=([]:List Pr)) (ownsRow_below HROW0.out hb1 (Nat.le_refl _)) rfl rfl).mono (show w.heap.size<=gO by omega) (Nat.le_refl _))
   have HBF:=Hd_ (below_trans HB0.out hb1)
   clear bG hb1
   go_wp2_with fail
   go_loopw [10,12] (fun oo ii wr=>oo=.slice (some ⟨gO,0,none⟩) 0 0/\ii=.int .i64 0/\wr=w1) (fun _ _ _=>0)
   case atStart=>exact ⟨rfl,rfl,rfl⟩
   case round =>
    obtain ⟨rfl,rfl,hw⟩:=hrel
    rw [hw]
    clear hw
    go_wp2_with fail
    all_goals go_ret2
    all_goals rw [HF.out]
    all_goals exact ⟨_,rfl,HOF.out,HBF.out⟩
 | true =>
   rw [hgo] at HGX
   refine HGX.out.mono ?_
   rintro e w1 ⟨rfl,hb1⟩
   have HW:=Hd_ (fun W=>l1In_any BI 1 20000 W)
   go_wp2_with fail
   cases hwB:wi BI 1 20000 with
   | false =>
     rw [hwB] at HW
     have HF:=Hd_ (hR.trans (show srchA g a BI true=none by rw [srchA,if_neg];rw [srchAk,hwB];simp))
     refine (HW.out _).mono ?_
     rintro e w9 ⟨rfl,hw9⟩
     rw [hw9]
     clear hw9
     have bG:=bG.keep hb1
     have x0:w1.cell? ⟨w.heap.size,0,none⟩=some (.slice A1 g.vals.length c1):=bG.cell 0
     have x1:w1.cell? ⟨w.heap.size,1,none⟩=some (.slice A2 g.edges.length c2):=bG.cell 1
     have l0:=bG.lt
     have HOF:=Hd_ ((Own.of_row (xs:=([]:List Pr)) (ownsRow_below HROW0.out hb1 (Nat.le_refl _)) rfl rfl).mono (show w.heap.size<=gO by omega) (Nat.le_refl _))
     have HBF:=Hd_ (below_trans HB0.out hb1)
     clear bG hb1
     go_wp2_with fail
     go_loopw [10,12] (fun oo ii wr=>oo=.slice (some ⟨gO,0,none⟩) 0 0/\ii=.int .i64 0/\wr=w1) (fun _ _ _=>0)
     case atStart=>exact ⟨rfl,rfl,rfl⟩
     case round =>
      obtain ⟨rfl,rfl,hw⟩:=hrel
      rw [hw]
      clear hw
      go_wp2_with fail
      all_goals go_ret2
      all_goals rw [HF.out]
      all_goals exact ⟨_,rfl,HOF.out,HBF.out⟩
   | true =>
     rw [hwB] at HW
     refine (HW.out _).mono ?_
     rintro e w9 ⟨rfl,hw9⟩
     rw [hw9]
     clear hw9 HW HGX
     have HR:=Hd_ (hR.trans (show srchA g a BI true=srAllF (srchC g a BI true) N N by rw [srchA,if_pos,hN];rw [srchAk,hgo,hwB];rfl))
     simp only [Bool.and_eq_true] at hgo
     have hn5:=(grOk_iff.1 hgo.1).n5
     rw [<- hN] at hn5 hl1
     have bG:=bG.keep hb1
     have bA:=bA.keep hb1
     have x0:w1.cell? ⟨w.heap.size,0,none⟩=some (.slice A1 N c1):=by rw [hN];exact bG.cell 0
     have x1:w1.cell? ⟨w.heap.size,1,none⟩=some (.slice A2 g.edges.length c2):=bG.cell 1
     have y0:w1.cell? ⟨w.heap.size+1,0,none⟩=some (.int .i64 a.start):=bA.cell 0
     have y1:w1.cell? ⟨w.heap.size+1,1,none⟩=some (.slice A3 n3 c3):=bA.cell 1
     have y2:w1.cell? ⟨w.heap.size+1,2,none⟩=some (.slice A4 n4 c4):=bA.cell 2
     have l0:=bG.lt
     have l1:=bA.lt
     have HB1:=Hd_ (below_trans HB0.out hb1)
     have HROW1:=Hd_ (ownsRow_below HROW0.out hb1 (Nat.le_refl _))
     have hs1:=hb1.size
     rw [<- hN] at HGV
     obtain ⟨f,hf⟩:∃ f,f=srchC g a BI true:=⟨_,rfl⟩
     have HFD:=Hd_ (fun (x y:Nat) (W:World) (hW:Below w.heap.size w W)=>by
      have h:=l20Find_true _ _ g a (x:Int) (y:Int) BI W (HGV.out.keep hW) (HAV.out.keep hW)
      rw [show (srchL g a (x:Int) (y:Int) BI true).2=f x y by rw [hf];rfl] at h
      exact h)
     rw [<- hf] at HR
     clear hN hgo hwB bG bA hb1 HROW0 HB0 hR hf HGV HAV
     go_wp2_with fail
     go_loopw [10,12] (fun oo ii wr=>∃ (i:Nat) (L:List Pr),i<=N/\ii=.int .i64 (i:Int)/\srAllF f N i=some L/\wr.ownsRow gO 120 2 oo L.length (L.flatMap cPr)/\Below gO w1 wr) (fun _ ii _=>N - (intOf ii).toNat)
     case atStart=>exact ⟨0,[],Nat.zero_le _,rfl,rfl,HROW1.out,Below.refl _ _⟩
     case round =>
      clear HROW1
      obtain ⟨i,L,hi,rfl,hL,hrow,hbel⟩:=hrel
      have HL:=Hd_ hL
      have HROW:=Hd_ hrow
      have HBEL:=Hd_ hbel
      have hsz:=hbel.size
      have X0:=Hd_ x0
      have X1:=Hd_ x1
      have Y0:=Hd_ y0
      have Y1:=Hd_ y1
      have Y2:=Hd_ y2
      have x0:=(HBEL.out.cell (p:=⟨w.heap.size,0,none⟩) (by simp only;omega)).trans x0
      have x1:=(HBEL.out.cell (p:=⟨w.heap.size,1,none⟩) (by simp only;omega)).trans x1
      have l0:w.heap.size < wr.heap.size:=by omega
      clear hL hrow hbel
      by_cases hlt:i < N
      · have hii:(i:Int) < (N:Int):=by omega
        obtain ⟨wo,rfl⟩:∃ wo:World,wo=wr:=⟨_,rfl⟩
        go_wp2_with fail
        go_loopw [10,13] (fun oo jj wr=>∃ (j:Nat) (M:List Pr),j<=N/\jj=.int .i64 (j:Int)/\srRowF f i (srAllF f N i) j=some M/\wr.ownsRow gO 120 2 oo M.length (M.flatMap cPr)/\Below gO w1 wr) (fun _ jj _=>N - (intOf jj).toNat)
        case atStart=>exact ⟨0,L,Nat.zero_le _,rfl,HL.out,HROW.out,HBEL.out⟩
        case round =>
         clear HROW HBEL hsz l0 x0 x1
         obtain ⟨j,M,hj,rfl,hM,hrow2,hbel2⟩:=hrel
         have HM:=Hd_ hM
         have HROW2:=Hd_ hrow2
         have HBEL2:=Hd_ hbel2
         have hsz2:=hbel2.size
         have HBW2:=Hd_ (HB1.out.trans (hbel2.mono (show w.heap.size<=gO by omega)))
         have hml:=srRowF_len (f:=f) (x:=i) (st:=srAllF f N i) (n:=25) (fun L2 h2=>by have h3:=srAllF_len i L2 h2;have h4:i * N<=5 * 5:=Nat.mul_le_mul (by omega) hn5;omega) j M hM
         have x0:=(hbel2.cell (p:=⟨w.heap.size,0,none⟩) (by simp only;omega)).trans X0.out
         have x1:=(hbel2.cell (p:=⟨w.heap.size,1,none⟩) (by simp only;omega)).trans X1.out
         have y0:=(hbel2.cell (p:=⟨w.heap.size+1,0,none⟩) (by simp only;omega)).trans Y0.out
         have y1:=(hbel2.cell (p:=⟨w.heap.size+1,1,none⟩) (by simp only;omega)).trans Y1.out
         have y2:=(hbel2.cell (p:=⟨w.heap.size+1,2,none⟩) (by simp only;omega)).trans Y2.out
         have l0:w.heap.size < wr.heap.size:=by omega
         have l1:w.heap.size+1 < wr.heap.size:=by omega
         clear hM hrow2 hbel2
         by_cases hlj:j < N
         · have hjj:(j:Int) < (N:Int):=by omega
           have HC1:=Hd_ (fun h=>srRowF_one (f:=f) (x:=i) HM.out h)
           have HC0:=Hd_ (fun h h2=>srRowF_on (f:=f) (x:=i) HM.out h h2)
           have HC3:=Hd_ (fun h=>srAllF_out (f:=f) hlt hlj HM.out h)
           have HCX:=Hd_ (HFD.out i j wr HBW2.out)
           generalize f i j=c at *
           go_wp2_with fail
           refine HCX.out.mono ?_
           rintro e w4 ⟨v4,rfl,⟨ss,rfl,hown⟩,hb4⟩
           obtain ⟨A9,n9,c9,rfl⟩:=hown.shape
           obtain ⟨V1,hV1⟩:∃ V1,V1=(srchL g a (i:Int) (j:Int) BI true).1.1:=⟨_,rfl⟩
           rw [<- hV1]
           clear hV1 hown
           obtain ⟨w5,hw5⟩:∃ w5,w5=w4.alloc (.cells #[.int .i64 V1,.slice A9 n9 c9] 39):=⟨_,rfl⟩
           have hb5:Below wr.heap.size wr w5:=by rw [hw5];exact hb4.alloc hb4.size _
           have hb6:=HBEL2.out.trans (hb5.mono (show gO<=wr.heap.size by omega))
           have HR5:=Hd_ (ownsRow_below HROW2.out hb5 (Nat.le_refl _))
           have HB6:=Hd_ hb6
           have hs6:=hb6.size
           have HW5:=Hd_ hw5
           clear hb5 hb6 hb4 hw5
           go_upto_region 10 with fail
           rw [<- HW5.out]
           clear HW5
           by_cases h3:c=3
           · have k3:(c==3)=true:=by simp [h3]
             have k4:decide (c=3)=true:=by simp [h3]
             have HN3:=Hd_ (HR.out.trans (HC3.out h3))
             clear HC1 HC0 HC3
             subst h3
             have HBF:=Hd_ (HB1.out.trans (HB6.out.mono (show w.heap.size<=gO by omega)))
             have hswf:=HBF.out.size
             go_wp2_with fail
             go_ret2
             rw [HN3.out]
             exact ⟨_,rfl,lit_nilA hswf,HBF.out.alloc hswf _⟩
           · have k3:(c==3)=false:=by simp [h3]
             have k4:decide (c=3)=false:=by simp [h3]
             by_cases h1:c=1
             · have k1:(c==1)=true:=by simp [h1]
               have k2:decide (c=1)=true:=by simp [h1]
               have HN1:=Hd_ (HC1.out h1)
               clear HC1 HC0 HC3 h3
               subst h1
               go_wp2_with (at_builtin;(refine wpList_append1 cPr elPair rfl _ _ rfl gO _ M ((i:Int),(j:Int)) _ 1 w5.heap.size (by rfl) HR5.out (by rfl) rfl rfl rfl (cPr_one _) (by omega) (by omega) (by omega) ?_);intro v' w7 hrow7 hb7 _ _)
               go_roundw
               case rel=>exact ⟨j+1,_,by omega,by go_num,HN1.out,hrow7,HB6.out.trans hb7⟩
               case measure=>simp [intOf];omega
             · have k1:(c==1)=false:=by simp [h1]
               have k2:decide (c=1)=false:=by simp [h1]
               have HN0:=Hd_ (HC0.out h1 h3)
               clear HC1 HC0 HC3 h1 h3
               go_wp2_with fail
               go_roundw
               case rel=>exact ⟨j+1,_,by omega,by go_num,HN0.out,HR5.out,HB6.out⟩
               case measure=>simp [intOf];omega
         · obtain rfl:j=N:=by omega
           rw [<- srAllF_succ] at HM
           go_wp2_with fail
           go_roundw
           case rel=>exact ⟨i+1,_,by omega,by go_num,HM.out,HROW2.out,HBEL2.out⟩
           case measure=>simp [intOf];omega
      · obtain rfl:i=N:=by omega
        have hRe:=HR.out.trans HL.out
        have HRE:=Hd_ hRe
        have HBF:=Hd_ (HB1.out.trans (HBEL.out.mono (show w.heap.size<=gO by omega)))
        have HOF:=Hd_ ((Own.of_row (xs:=L) HROW.out rfl rfl).mono (show w.heap.size<=gO by omega) (Nat.le_refl _))
        clear hRe
        go_wp2_with fail
        go_ret2
        rw [HRE.out]
        exact ⟨_,rfl,HOF.out,HBF.out⟩
set_option maxHeartbeats 4000000 in
theorem specSimplePathAnswers (vg va:Value) (g:Gr) (a:Au) (BI:Int) (w:World) (hgv:GrV 0 w.heap.size w vg g) (hav:AuV 0 w.heap.size w va a) :
 Calls Tryz.prog 36 #[vg,va,.int .i64 BI] w fun e w'=>∃ v',e=.returned (.tuple #[v',.bool (srchA g a BI true).isSome])/\Own w.heap.size w'.heap.size w' 120 cPr 2 v' ((srchA g a BI true).getD [])/\Below w.heap.size w w':=by
 have hgv0:=hgv
 have hav0:=hav
 obtain ⟨A1,n1,c1,A2,n2,c2,rfl⟩:=hgv.shape
 obtain ⟨A3,n3,c3,A4,n4,c4,rfl⟩:=hav.shape
 have hb0:Below w.heap.size w ((w.alloc (.cells #[.slice A1 n1 c1,.slice A2 n2 c2] 27)).alloc (.cells #[.int .i64 a.start,.slice A3 n3 c3,.slice A4 n4 c4] 31)):=((Below.refl _ _).alloc (Nat.le_refl _) _).alloc (by simp) _
 have HC:=Hd_ (l20All_true _ _ g a BI _ (hgv0.keep hb0) (hav0.keep hb0))
 generalize srchA g a BI true=R at *
 have HB0:=Hd_ hb0
 have hsz0:=hb0.size
 clear hgv hav hgv0 hav0 hb0
 go_enter Tryz.func36,Tryz.ntmps36
 go_wp2_with fail
 refine HC.out.mono ?_
 rintro e w1 ⟨v1,rfl,hown,hb1⟩
 have HO:=Hd_ (hown.mono hsz0 (Nat.le_refl _))
 have HB:=Hd_ (below_trans HB0.out hb1)
 clear hown hb1 HC
 go_wp2_with fail
 go_ret2
 exact ⟨_,rfl,HO.out,HB.out⟩
end Go.Proofs.YtjpdembmchnbgaaGreat
namespace Go.Proofs.YtjpdembmchnbgaaGreat
def ltP (p q:Pr):Bool:=decide (p.1 < q.1) || (decide (p.1=q.1) && decide (p.2 < q.2))
theorem ltP_iff {p q:Pr}:ltP p q=true ↔ p.1 < q.1 ∨ (p.1=q.1/\p.2 < q.2):=by simp [ltP]
theorem ltP_no {p q:Pr}:ltP p q=false ↔ ¬ (p.1 < q.1 ∨ (p.1=q.1/\p.2 < q.2)):=by
 rw [<- ltP_iff];simp
theorem pr_eq {p q:Pr}:p=q ↔ p.1=q.1/\p.2=q.2:=by
 constructor
 · rintro rfl;exact ⟨rfl,rfl⟩
 · intro h;exact Prod.ext h.1 h.2
theorem ltP_trans {p q r:Pr} (h:ltP p q=true) (k:ltP q r=true):ltP p r=true:=by rw [ltP_iff] at *;omega
theorem ltP_irr {p:Pr}:¬ ltP p p=true:=by rw [ltP_iff];omega
theorem ltP_tri (p q:Pr):ltP p q=true ∨ p=q ∨ ltP q p=true:=by rw [ltP_iff,ltP_iff,pr_eq];omega
abbrev ascP (l:List Pr):Prop:=l.Pairwise fun p q=>ltP p q=true
theorem uniqP:∀ {l r:List Pr},ascP l->ascP r->(∀ x,x ∈ l ↔ x ∈ r)->l=r
 | [],[],_,_,_=>rfl
 | [],y :: r,_,_,h=>absurd ((h y).2 (by simp)) (by simp)
 | x :: l,[],_,_,h=>absurd ((h x).1 (by simp)) (by simp)
 | x :: l,y :: r,h1,h2,h=>by
   obtain ⟨a1,a2⟩:=List.pairwise_cons.1 h1
   obtain ⟨b1,b2⟩:=List.pairwise_cons.1 h2
   have hxy:x=y:=by
    have e1:=(h x).1 (by simp)
    have e2:=(h y).2 (by simp)
    rcases List.mem_cons.1 e1 with e1 | e1
    · exact e1
    · rcases List.mem_cons.1 e2 with e2 | e2
      · exact e2.symm
      · exact absurd (ltP_trans (b1 x e1) (a1 y e2)) ltP_irr
   subst hxy
   rw [uniqP a2 b2 fun z=>?_]
   have hz:=h z
   simp only [List.mem_cons] at hz
   constructor
   · intro hm
     rcases hz.1 (.inr hm) with e | e
     · subst e;exact absurd (a1 z hm) ltP_irr
     · exact e
   · intro hm
     rcases hz.2 (.inr hm) with e | e
     · subst e;exact absurd (b1 z hm) ltP_irr
     · exact e
def putP:List Pr->Pr->List Pr
 | [],p=>[p]
 | x :: l,p=>if ltP x p=true then x :: putP l p else if x=p then x :: l else p :: x :: l
theorem mem_putP {l:List Pr} {p x:Pr}:x ∈ putP l p ↔ x=p ∨ x ∈ l:=by
 induction l with
 | nil=>simp [putP]
 | cons y l ih =>
   rw [putP]
   split
   · simp only [List.mem_cons,ih]
     constructor
     · rintro (h | h | h) <;> simp [h]
     · rintro (h | h | h) <;> simp [h]
   · split
     · rename_i h
       subst h
       simp only [List.mem_cons]
       constructor
       · intro h;exact .inr h
       · rintro (h | h)
         · exact .inl h
         · exact h
     · simp [List.mem_cons]
theorem putP_asc {l:List Pr} {p:Pr} (h:ascP l):ascP (putP l p):=by
 induction l with
 | nil=>simp [putP,ascP]
 | cons y l ih =>
   obtain ⟨a1,a2⟩:=List.pairwise_cons.1 h
   rw [putP]
   split
   · rename_i hy
     refine List.pairwise_cons.2 ⟨fun z hz=>?_,ih a2⟩
     rcases mem_putP.1 hz with e | e
     · subst e;exact hy
     · exact a1 z e
   · split
     · exact h
     · rename_i h1 h2
       have hp:ltP p y=true:=by
        rcases ltP_tri y p with e | e | e
        · exact absurd e h1
        · exact absurd e h2
        · exact e
       refine List.pairwise_cons.2 ⟨fun z hz=>?_,h⟩
       rcases List.mem_cons.1 hz with e | e
       · subst e;exact hp
       · exact ltP_trans hp (a1 z e)
/-- how the reference lays it: behind the k first ones, which are smaller -/
theorem putP_at:∀ {l:List Pr} {p:Pr} {k:Nat},k<=l.length->(∀ i x,i < k->l[i]?=some x->ltP x p=true)->(∀ x,l[k]?=some x->ltP x p=false) ->
 putP l p=if l[k]?=some p then l else l.take k ++ [p] ++ l.drop k
 | [],p,k,hk,_,_=>by
   obtain rfl:k=0:=by simpa using hk
   simp [putP]
 | y :: l,p,0,_,_,h2=>by
   have hy:=h2 y rfl
   rw [putP,if_neg (by simp [hy])]
   by_cases e:y=p
   · subst e;simp
   · rw [if_neg e];simp [e]
 | y :: l,p,k+1,hk,h1,h2=>by
   have hy:=h1 0 y (by omega) rfl
   rw [putP,if_pos hy,putP_at (l:=l) (k:=k) (by simpa using hk) (fun i x hi hx=>h1 (i+1) x (by omega) (by simpa using hx)) (fun x hx=>h2 x (by simpa using hx))]
   simp only [List.getElem?_cons_succ]
   split
   · rfl
   · simp
def psetL (xs:List Pr):List Pr:=xs.foldl putP []
theorem foldl_put (xs:List Pr):∀ (l:List Pr),ascP l->ascP (xs.foldl putP l)/\∀ x,x ∈ xs.foldl putP l ↔ x ∈ l ∨ x ∈ xs:=by
 induction xs with
 | nil=>intro l h;exact ⟨h,by simp⟩
 | cons y xs ih =>
   intro l h
   obtain ⟨h1,h2⟩:=ih _ (putP_asc (p:=y) h)
   refine ⟨h1,fun x=>?_⟩
   rw [List.foldl_cons,h2,mem_putP,List.mem_cons]
   constructor
   · rintro ((h | h) | h) <;> simp [h]
   · rintro (h | h | h) <;> simp [h]
theorem psetL_asc (xs:List Pr):ascP (psetL xs):=(foldl_put xs [] List.Pairwise.nil).1
theorem mem_psetL {xs:List Pr} {x:Pr}:x ∈ psetL xs ↔ x ∈ xs:=by rw [psetL,(foldl_put xs [] List.Pairwise.nil).2];simp
theorem putP_len (l:List Pr) (p:Pr):(putP l p).length<=l.length+1:=by
 induction l with
 | nil=>simp [putP]
 | cons y l ih=>rw [putP];split <;> (try split) <;> simp <;> omega
theorem foldl_put_len (xs l:List Pr):(xs.foldl putP l).length<=l.length+xs.length:=by
 induction xs generalizing l with
 | nil=>simp
 | cons y xs ih=>have:=ih (putP l y);have:=putP_len l y;simp only [List.foldl_cons,List.length_cons];omega
theorem psetL_len (xs:List Pr):(psetL xs).length<=xs.length:=by have:=foldl_put_len xs [];simpa [psetL] using this
theorem psetL_snoc (xs:List Pr) (p:Pr):psetL (xs ++ [p])=putP (psetL xs) p:=by simp [psetL,List.foldl_append]
def keepP (xs:List Pr) (i:Nat):Bool:=i==0 || xs.getD i (0,0) != xs.getD (i - 1) (0,0)
def compTo (xs:List Pr) (k:Nat):List Pr:=((List.range k).filter (keepP xs)).map fun i=>xs.getD i (0,0)
theorem compTo_yes {xs:List Pr} {k:Nat} (h:keepP xs k=true):compTo xs (k+1)=compTo xs k ++ [xs.getD k (0,0)]:=by simp [compTo,List.range_succ,List.filter_append,h]
theorem compTo_no {xs:List Pr} {k:Nat} (h:keepP xs k=false):compTo xs (k+1)=compTo xs k:=by simp [compTo,List.range_succ,List.filter_append,h]
theorem compTo_spec {xs:List Pr} (hs:∀ i j,i < j->j < xs.length->ltP (xs.getD j (0,0)) (xs.getD i (0,0))=false):∀ k,k<=xs.length->ascP (compTo xs k)/\(∀ x,x ∈ compTo xs k ↔ x ∈ xs.take k)/\(∀ x ∈ compTo xs k,0 < k->ltP (xs.getD (k - 1) (0,0)) x=false):=by
 intro k
 induction k with
 | zero=>intro _;exact ⟨List.Pairwise.nil,by simp [compTo],by simp [compTo]⟩
 | succ k ih =>
   intro hk
   obtain ⟨h1,h2,h3⟩:=ih (by omega)
   have hxk:xs[k]?=some (xs.getD k (0,0)):=by rw [List.getD_eq_getElem?_getD,List.getElem?_eq_getElem (by omega)];rfl
   have htk:xs.take (k+1)=xs.take k ++ [xs.getD k (0,0)]:=take_snoc hxk
   have hle:∀ x ∈ compTo xs k,ltP (xs.getD k (0,0)) x=false:=fun x hx=>by
    obtain ⟨j,hj⟩:=List.getElem?_of_mem ((h2 x).1 hx)
    have hjk:j < k:=by have:=(List.getElem?_eq_some_iff.1 hj).1;rw [List.length_take] at this;omega
    rw [List.getElem?_take_of_lt hjk] at hj
    have:=hs j k hjk (by omega)
    rwa [List.getD_eq_getElem?_getD (l:=xs) (i:=j),hj] at this
   cases hkp:keepP xs k with
   | true =>
     rw [compTo_yes hkp]
     refine ⟨List.pairwise_append.2 ⟨h1,by simp,fun x hx y hy=>?_⟩,fun x=>by rw [List.mem_append,h2,htk,List.mem_append],fun x hx _=>?_⟩
     · rw [List.mem_singleton] at hy
       subst hy
       have hl:=hle x hx
       rcases Nat.eq_zero_or_pos k with h0 | h0
       · subst h0;simp [compTo] at hx
       · have h4:=h3 x hx h0
         have h5:xs.getD k (0,0) ≠ xs.getD (k - 1) (0,0):=by
          have h6:(k==0)=false:=by simp;omega
          simpa [keepP,h6] using hkp
         have h6:=hs (k - 1) k (by omega) (by omega)
         rcases ltP_tri x (xs.getD k (0,0)) with e | e | e
         · exact e
         · exfalso
           subst e
           rcases ltP_tri (xs.getD (k - 1) (0,0)) (xs.getD k (0,0)) with e | e | e
           · rw [h4] at e;cases e
           · exact h5 e.symm
           · rw [h6] at e;cases e
         · rw [hl] at e;cases e
     · simp only [Nat.add_sub_cancel]
       rcases List.mem_append.1 hx with hx | hx
       · exact hle x hx
       · rw [List.mem_singleton] at hx
         subst hx
         rw [ltP_no];omega
   | false =>
     rw [compTo_no hkp]
     have h0:0 < k:=by
      rcases Nat.eq_zero_or_pos k with h0 | h0
      · subst h0;simp [keepP] at hkp
      · exact h0
     have he:xs.getD k (0,0)=xs.getD (k - 1) (0,0):=by
      have h6:(k==0)=false:=by simp;omega
      simpa [keepP,h6] using hkp
     refine ⟨h1,fun x=>?_,fun x hx _=>?_⟩
     · rw [h2,htk,List.mem_append,List.mem_singleton]
       constructor
       · intro h;exact .inl h
       · rintro (h | h)
         · exact h
         · subst h
           rw [he]
           refine List.mem_of_getElem? (i:=k - 1) ?_
           rw [List.getElem?_take_of_lt (by omega),List.getD_eq_getElem?_getD,List.getElem?_eq_getElem (by omega)];rfl
     · simp only [Nat.add_sub_cancel]
       exact hle x hx
/-- a sorted rearrangement, its like neighbours struck out, is the set -/
theorem compTo_set {xs ys:List Pr} (hs:∀ i j,i < j->j < xs.length->ltP (xs.getD j (0,0)) (xs.getD i (0,0))=false) (hp:∀ x,x ∈ xs ↔ x ∈ ys):compTo xs xs.length=psetL ys:=by
 obtain ⟨h1,h2,_⟩:=compTo_spec hs xs.length (Nat.le_refl _)
 exact uniqP h1 (psetL_asc _) fun x=>by rw [h2,List.take_length,mem_psetL,hp]
end Go.Proofs.YtjpdembmchnbgaaGreat
