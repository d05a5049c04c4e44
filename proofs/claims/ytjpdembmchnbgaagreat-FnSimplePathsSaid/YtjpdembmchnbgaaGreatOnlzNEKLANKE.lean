/- Parts of the proof, joined into one text: SrchT, CmpW, CntP, CntS, Rec, Seat. -/
import Derived.Test.YtjpdembmchnbgaaGreatOnlzLCLHJDDM
import Derived.Test.YtjpdembmchnbgaaGreatOnlzHMCPMHPL
import Derived.Test.YtjpdembmchnbgaaGreatOnlzNELCFPNN
import Derived.Test.YtjpdembmchnbgaaGreatOnlzKNJDBEIA
import Derived.Test.YtjpdembmchnbgaaGreatOnlzLCDAIEIJ
import Derived.Test.YtjpdembmchnbgaaGreatOnlzALPFPLEE
import Derived.Test.YtjpdembmchnbgaaGreatOnlzCEBPBMGK
import Derived.Test.YtjpdembmchnbgaaGreatOnlzLIMBOPHA
import Derived.JoinedOf
import Derived.Test.YtjpdembmchnbgaaGreatRows
set_option linter.unusedVariables false
set_option linter.unusedSimpArgs false
namespace Go.Proofs.YtjpdembmchnbgaaGreat
open Go.ChangeShapes Go.WideShapes Go.ChangeAt Go.RowKit
attribute [local go_sem] ext_cell ext_frozen ext_lt ext_lt1 ext_lt2 ext_lt3 ltn2 ltn3 ltn13 lts1 lts2 lts3
theorem Blk.set11 {w:World} {g:Nat} {t:TypeId} {c0 c1 c2 c3 c4 c5 c6 c7 c8 c9 c10:Value} (h:Blk w g t #[c0,c1,c2,c3,c4,c5,c6,c7,c8,c9,c10]) (d0 d1 d2 d3 d4 d5 d6 d7 d8 d9 d10:Value):Blk (((((((((((w.setCell ⟨g,0,none⟩ d0).setCell ⟨g,1,none⟩ d1).setCell ⟨g,2,none⟩ d2).setCell ⟨g,3,none⟩ d3).setCell ⟨g,4,none⟩ d4).setCell ⟨g,5,none⟩ d5).setCell ⟨g,6,none⟩ d6).setCell ⟨g,7,none⟩ d7).setCell ⟨g,8,none⟩ d8).setCell ⟨g,9,none⟩ d9).setCell ⟨g,10,none⟩ d10) g t #[d0,d1,d2,d3,d4,d5,d6,d7,d8,d9,d10]:=by
 have h2:=(((((((((((h.set_ 0 d0).set_ 1 d1).set_ 2 d2).set_ 3 d3).set_ 4 d4).set_ 5 d5).set_ 6 d6).set_ 7 d7).set_ 8 d8).set_ 9 d9).set_ 10 d10)
 simpa using h2
theorem Only.set11 (w:World) (g:Nat) (d0 d1 d2 d3 d4 d5 d6 d7 d8 d9 d10:Value):Only g (g+1) w (((((((((((w.setCell ⟨g,0,none⟩ d0).setCell ⟨g,1,none⟩ d1).setCell ⟨g,2,none⟩ d2).setCell ⟨g,3,none⟩ d3).setCell ⟨g,4,none⟩ d4).setCell ⟨g,5,none⟩ d5).setCell ⟨g,6,none⟩ d6).setCell ⟨g,7,none⟩ d7).setCell ⟨g,8,none⟩ d8).setCell ⟨g,9,none⟩ d9).setCell ⟨g,10,none⟩ d10):=(((((((((((Only.refl _ _ _).setCell (p:=⟨g,0,none⟩) (.inl ⟨Nat.le_refl _,Nat.lt_succ_self _⟩) d0).setCell (p:=⟨g,1,none⟩) (.inl ⟨Nat.le_refl _,Nat.lt_succ_self _⟩) d1).setCell (p:=⟨g,2,none⟩) (.inl ⟨Nat.le_refl _,Nat.lt_succ_self _⟩) d2).setCell (p:=⟨g,3,none⟩) (.inl ⟨Nat.le_refl _,Nat.lt_succ_self _⟩) d3).setCell (p:=⟨g,4,none⟩) (.inl ⟨Nat.le_refl _,Nat.lt_succ_self _⟩) d4).setCell (p:=⟨g,5,none⟩) (.inl ⟨Nat.le_refl _,Nat.lt_succ_self _⟩) d5).setCell (p:=⟨g,6,none⟩) (.inl ⟨Nat.le_refl _,Nat.lt_succ_self _⟩) d6).setCell (p:=⟨g,7,none⟩) (.inl ⟨Nat.le_refl _,Nat.lt_succ_self _⟩) d7).setCell (p:=⟨g,8,none⟩) (.inl ⟨Nat.le_refl _,Nat.lt_succ_self _⟩) d8).setCell (p:=⟨g,9,none⟩) (.inl ⟨Nat.le_refl _,Nat.lt_succ_self _⟩) d9).setCell (p:=⟨g,10,none⟩) (.inl ⟨Nat.le_refl _,Nat.lt_succ_self _⟩) d10
set_option maxHeartbeats 16000000 in
set_option maxRecDepth 100000 in
theorem l20Find_true (vg va:Value) (g:Gr) (a:Au) (x y BI:Int) (w:World) (hgv:GrV 0 w.heap.size w vg g) (hav:AuV 0 w.heap.size w va a) :
 Calls Tryz.prog 71 #[vg,va,.int .i64 x,.int .i64 y,.int .i64 BI,.bool true] w fun e w'=>∃ v',e=.returned (.tuple #[v',.int .i64 (srchL g a x y BI true).2])/\WkO w.heap.size w'.heap.size w' v' (srchL g a x y BI true).1/\Below w.heap.size w w':=by
 have hgv0:=hgv
 have hav0:=hav
 obtain ⟨A1,c1,A2,c2,rfl,hl1,hm1,hl2,hm2,-,-⟩:=hgv.form
 obtain ⟨R,hR⟩:∃ R,R=srchL g a x y BI true:=⟨_,rfl⟩
 rw [<- hR]
 cases hao:auOk a with
 | false =>
   obtain ⟨A3,n3,c3,A4,n4,c4,rfl⟩:=hav.shape
   have hb0:Below w.heap.size w (((w.alloc (.cells #[.slice A1 g.vals.length c1,.slice A2 g.edges.length c2] 27)).alloc (.cells #[.int .i64 a.start,.slice A3 n3 c3,.slice A4 n4 c4] 31)).alloc (.cells #[.int .i64 0,.slice none 0 0] 39)):=(((Below.refl _ _).alloc (Nat.le_refl _) _).alloc (by simp) _).alloc (by simp;omega) _
   have HGV:=Hd_ hgv0
   have HAV:=Hd_ hav0
   have HRR:=Hd_ hR
   clear hgv hav hgv0 hav0 hR
   go_enter Tryz.func71,Tryz.ntmps71
   go_wp2_with fail
   obtain ⟨W0,hW0⟩:∃ W0,W0=(((w.alloc (.cells #[.slice A1 g.vals.length c1,.slice A2 g.edges.length c2] 27)).alloc (.cells #[.int .i64 a.start,.slice A3 n3 c3,.slice A4 n4 c4] 31)).alloc (.cells #[.int .i64 0,.slice none 0 0] 39)):=⟨_,rfl⟩
   rw [<- hW0] at hb0 ⊢
   have bG:Blk W0 w.heap.size 27 #[.slice A1 g.vals.length c1,.slice A2 g.edges.length c2]:=by rw [hW0];exact ((Blk.new w _ _ w.heap.size rfl).alloc _).alloc _
   have bA:Blk W0 (w.heap.size+1) 31 #[.int .i64 a.start,.slice A3 n3 c3,.slice A4 n4 c4]:=by rw [hW0];exact (Blk.new (w.alloc _) _ _ (w.heap.size+1) (by simp)).alloc _
   have bR:Blk W0 (w.heap.size+1+1) 39 #[.int .i64 0,.slice none 0 0]:=by rw [hW0];exact Blk.new ((w.alloc _).alloc _) _ _ (w.heap.size+1+1) (by simp)
   clear hW0
   have HGX:=Hd_ (l14Good_any _ _ g a x 0 W0 (HGV.out.keep hb0) (HAV.out.keep hb0))
   have hgb:goodB g a x 0=false:=by rw [goodB,hao];simp
   rw [hgb] at HGX
   refine HGX.out.mono ?_
   rintro e W9 ⟨rfl,hb1⟩
   have bR:=bR.keep hb1
   have bG:=bG.keep hb1
   have bA:=bA.keep hb1
   have hb9:=below_trans hb0 hb1
   have hfin:srchL g a x y BI true=((0,[]),0):=by rw [srchL,if_neg];rw [srchOk,cntOk];intro hh;simp only [Bool.and_eq_true] at hh;simp [hao] at hh
   have z0:W9.cell? ⟨w.heap.size+1+1,0,none⟩=some (.int .i64 0):=bR.cell 0
   have z1:W9.cell? ⟨w.heap.size+1+1,1,none⟩=some (.slice none 0 0):=bR.cell 1
   have fz0:=bR.frozen 0
   have fz1:=bR.frozen 1
   have lz:=bR.lt
   have HF:=Hd_ (HRR.out.trans hfin)
   have HBV:=Hd_ hb9
   clear bR bG bA hb9 hfin
   go_wp2_with fail
   refine bodyPost_ret (v:=.tuple #[.agg #[.int .i64 0,.slice none 0 0],.int .i64 0]) (by simp [results,Tryz.results71,go_sem,z0,z1]) rfl ⟨_,by rw [HF.out],?_,(HBV.out.setCell (p:=⟨w.heap.size+1+1,0,none⟩) (by simp only;omega) _).setCell (p:=⟨w.heap.size+1+1,1,none⟩) (by simp only;omega) _⟩
   rw [HF.out]
   exact ⟨_,rfl,Own.nil _ _ _ _ _ _⟩
 | true =>
   obtain ⟨A3,c3,A4,c4,rfl,-,-,-,-,-⟩:=hav.form hao
   have hb0:Below w.heap.size w (((w.alloc (.cells #[.slice A1 g.vals.length c1,.slice A2 g.edges.length c2] 27)).alloc (.cells #[.int .i64 a.start,.slice A3 a.accept.length c3,.slice A4 a.accept.length c4] 31)).alloc (.cells #[.int .i64 0,.slice none 0 0] 39)):=(((Below.refl _ _).alloc (Nat.le_refl _) _).alloc (by simp) _).alloc (by simp;omega) _
   have HGV:=Hd_ hgv0
   have HAV:=Hd_ hav0
   have HRR:=Hd_ hR
   clear hgv hav hgv0 hav0 hR
   go_enter Tryz.func71,Tryz.ntmps71
   go_wp2_with fail
   obtain ⟨W0,hW0⟩:∃ W0,W0=(((w.alloc (.cells #[.slice A1 g.vals.length c1,.slice A2 g.edges.length c2] 27)).alloc (.cells #[.int .i64 a.start,.slice A3 a.accept.length c3,.slice A4 a.accept.length c4] 31)).alloc (.cells #[.int .i64 0,.slice none 0 0] 39)):=⟨_,rfl⟩
   rw [<- hW0] at hb0 ⊢
   have bG:Blk W0 w.heap.size 27 #[.slice A1 g.vals.length c1,.slice A2 g.edges.length c2]:=by rw [hW0];exact ((Blk.new w _ _ w.heap.size rfl).alloc _).alloc _
   have bA:Blk W0 (w.heap.size+1) 31 #[.int .i64 a.start,.slice A3 a.accept.length c3,.slice A4 a.accept.length c4]:=by rw [hW0];exact (Blk.new (w.alloc _) _ _ (w.heap.size+1) (by simp)).alloc _
   have bR:Blk W0 (w.heap.size+1+1) 39 #[.int .i64 0,.slice none 0 0]:=by rw [hW0];exact Blk.new ((w.alloc _).alloc _) _ _ (w.heap.size+1+1) (by simp)
   clear hW0
   have HGX:=Hd_ (l14Good_any _ _ g a x 0 W0 (HGV.out.keep hb0) (HAV.out.keep hb0))
   cases hk:goodB g a x 0 with
   | false =>
     rw [hk] at HGX
     refine HGX.out.mono ?_
     rintro e W9 ⟨rfl,hb1⟩
     have bR:=bR.keep hb1
     have bG:=bG.keep hb1
     have bA:=bA.keep hb1
     have hb9:=below_trans hb0 hb1
     have hfin:srchL g a x y BI true=((0,[]),0):=by rw [srchL,if_neg];rw [srchOk,cntOk];intro hh;simp only [Bool.and_eq_true] at hh;rw [goodB0] at hk;simp [hh] at hk
     have z0:W9.cell? ⟨w.heap.size+1+1,0,none⟩=some (.int .i64 0):=bR.cell 0
     have z1:W9.cell? ⟨w.heap.size+1+1,1,none⟩=some (.slice none 0 0):=bR.cell 1
     have fz0:=bR.frozen 0
     have fz1:=bR.frozen 1
     have lz:=bR.lt
     have HF:=Hd_ (HRR.out.trans hfin)
     have HBV:=Hd_ hb9
     clear bR bG bA hb9 hfin
     go_wp2_with fail
     refine bodyPost_ret (v:=.tuple #[.agg #[.int .i64 0,.slice none 0 0],.int .i64 0]) (by simp [results,Tryz.results71,go_sem,z0,z1]) rfl ⟨_,by rw [HF.out],?_,(HBV.out.setCell (p:=⟨w.heap.size+1+1,0,none⟩) (by simp only;omega) _).setCell (p:=⟨w.heap.size+1+1,1,none⟩) (by simp only;omega) _⟩
     rw [HF.out]
     exact ⟨_,rfl,Own.nil _ _ _ _ _ _⟩
   | true =>
     rw [hk] at HGX
     refine HGX.out.mono ?_
     rintro e W9 ⟨rfl,hb1⟩
     have bR:=bR.keep hb1
     have bG:=bG.keep hb1
     have bA:=bA.keep hb1
     have hb9:=below_trans hb0 hb1
     have x0:W9.cell? ⟨w.heap.size,0,none⟩=some (.slice A1 g.vals.length c1):=bG.cell 0
     have x1:W9.cell? ⟨w.heap.size,1,none⟩=some (.slice A2 g.edges.length c2):=bG.cell 1
     have y0:W9.cell? ⟨w.heap.size+1,0,none⟩=some (.int .i64 a.start):=bA.cell 0
     have y1:W9.cell? ⟨w.heap.size+1,1,none⟩=some (.slice A3 a.accept.length c3):=bA.cell 1
     have y2:W9.cell? ⟨w.heap.size+1,2,none⟩=some (.slice A4 a.accept.length c4):=bA.cell 2
     have l0:=bG.lt
     have l00:=bA.lt
     have HGY:=Hd_ (l14Good_any _ _ g a y 0 W9 (HGV.out.keep hb9) (HAV.out.keep hb9))
     clear hb1 hb0 HGX
     go_wp2_with fail
     cases hk2:goodB g a y 0 with
     | false =>
       rw [hk2] at HGY
       refine HGY.out.mono ?_
       rintro e w9 ⟨rfl,hb1⟩
       obtain ⟨W9,rfl⟩:∃ W9,W9=w9:=⟨_,rfl⟩
       have bR:=bR.keep hb1
       have bG:=bG.keep hb1
       have bA:=bA.keep hb1
       have hb9:=below_trans hb9 hb1
       have hfin:srchL g a x y BI true=((0,[]),0):=by rw [srchL,if_neg];rw [srchOk,cntOk];intro hh;simp only [Bool.and_eq_true] at hh;rw [goodB0] at hk2;simp [hh] at hk2
       have z0:W9.cell? ⟨w.heap.size+1+1,0,none⟩=some (.int .i64 0):=bR.cell 0
       have z1:W9.cell? ⟨w.heap.size+1+1,1,none⟩=some (.slice none 0 0):=bR.cell 1
       have fz0:=bR.frozen 0
       have fz1:=bR.frozen 1
       have lz:=bR.lt
       have HF:=Hd_ (HRR.out.trans hfin)
       have HBV:=Hd_ hb9
       clear bR bG bA hb9 hfin
       go_wp2_with fail
       refine bodyPost_ret (v:=.tuple #[.agg #[.int .i64 0,.slice none 0 0],.int .i64 0]) (by simp [results,Tryz.results71,go_sem,z0,z1]) rfl ⟨_,by rw [HF.out],?_,(HBV.out.setCell (p:=⟨w.heap.size+1+1,0,none⟩) (by simp only;omega) _).setCell (p:=⟨w.heap.size+1+1,1,none⟩) (by simp only;omega) _⟩
       rw [HF.out]
       exact ⟨_,rfl,Own.nil _ _ _ _ _ _⟩
     | true =>
       rw [hk2] at HGY
       refine HGY.out.mono ?_
       rintro e w9 ⟨rfl,hb1⟩
       obtain ⟨W9,rfl⟩:∃ W9,W9=w9:=⟨_,rfl⟩
       have bR:=bR.keep hb1
       have bG:=bG.keep hb1
       have bA:=bA.keep hb1
       have hb9:=below_trans hb9 hb1
       have x0:W9.cell? ⟨w.heap.size,0,none⟩=some (.slice A1 g.vals.length c1):=bG.cell 0
       have x1:W9.cell? ⟨w.heap.size,1,none⟩=some (.slice A2 g.edges.length c2):=bG.cell 1
       have y0:W9.cell? ⟨w.heap.size+1,0,none⟩=some (.int .i64 a.start):=bA.cell 0
       have y1:W9.cell? ⟨w.heap.size+1,1,none⟩=some (.slice A3 a.accept.length c3):=bA.cell 1
       have y2:W9.cell? ⟨w.heap.size+1,2,none⟩=some (.slice A4 a.accept.length c4):=bA.cell 2
       have l0:=bG.lt
       have l00:=bA.lt
       have HW:=Hd_ (fun W=>l1In_any BI 1 20000 W)
       clear hb1 HGY
       go_wp2_with fail
       cases hwB:wi BI 1 20000 with
       | false =>
         rw [hwB] at HW
         refine (HW.out _).mono ?_
         rintro e w9 ⟨rfl,hw9⟩
         rw [hw9]
         clear hw9
         have hfin:srchL g a x y BI true=((0,[]),0):=by rw [srchL,if_neg];rw [srchOk,cntOk];intro hh;simp only [Bool.and_eq_true] at hh;simp [hwB] at hh
         have z0:W9.cell? ⟨w.heap.size+1+1,0,none⟩=some (.int .i64 0):=bR.cell 0
         have z1:W9.cell? ⟨w.heap.size+1+1,1,none⟩=some (.slice none 0 0):=bR.cell 1
         have fz0:=bR.frozen 0
         have fz1:=bR.frozen 1
         have lz:=bR.lt
         have HF:=Hd_ (HRR.out.trans hfin)
         have HBV:=Hd_ hb9
         clear bR bG bA hb9 hfin
         go_wp2_with fail
         refine bodyPost_ret (v:=.tuple #[.agg #[.int .i64 0,.slice none 0 0],.int .i64 0]) (by simp [results,Tryz.results71,go_sem,z0,z1]) rfl ⟨_,by rw [HF.out],?_,(HBV.out.setCell (p:=⟨w.heap.size+1+1,0,none⟩) (by simp only;omega) _).setCell (p:=⟨w.heap.size+1+1,1,none⟩) (by simp only;omega) _⟩
         rw [HF.out]
         exact ⟨_,rfl,Own.nil _ _ _ _ _ _⟩
       | true =>
         rw [hwB] at HW
         rw [goodB0] at hk hk2
         simp only [Bool.and_eq_true,wi_iff] at hk hk2
         obtain ⟨hgo,-,hx0,hx1⟩:=hk
         obtain ⟨-,-,hy0,hy1⟩:=hk2
         have hwB2:=wi_iff.1 hwB
         obtain ⟨x,rfl⟩:=Int.eq_ofNat_of_zero_le hx0
         obtain ⟨yn,hyn⟩:=Int.eq_ofNat_of_zero_le hy0
         obtain ⟨B,rfl⟩:=Int.eq_ofNat_of_zero_le (show 0<=BI by omega)
         have hxl:x < g.vals.length:=by omega
         have hgo2:=grOk_iff.1 hgo
         have hn5:=hgo2.n5
         have he12:=hgo2.e12
         obtain ⟨⟨hm1',hm12⟩,⟨hst0,hst1⟩,-,-⟩:=auOk_iff.1 hao
         obtain ⟨s,hs⟩:∃ s:Nat,a.start=(s:Int):=⟨a.start.toNat,by omega⟩
         have hsl:s < a.accept.length:=by omega
         have hck:cntOk g a (x:Int) y=true:=by rw [cntOk,wi_iff.2 ⟨hx0,hx1⟩,wi_iff.2 ⟨hy0,hy1⟩,hgo,hao];rfl
         have hfin:R=srchF g a y B (distTo g a y) true x (bit s) (srchU true x) (srchN g true) 0 0:=by
          rw [HRR.out,srchL,if_pos (by rw [srchOk,hck,hwB];rfl),hs];rfl
         have HF:=Hd_ hfin
         have HDL:=Hd_ (distTo_len (g:=g) (a:=a) (y:=y) (by rw [wi_iff.2 ⟨hy0,hy1⟩,hgo,hao];rfl))
         have HLB:=Hd_ (fun (W:World) (hW:Below w.heap.size w W)=>by
          have h:=l14Back_any _ _ g a yn W (HGV.out.keep hW) (HAV.out.keep hW) hgo hao (by omega)
          rw [<- hyn] at h
          exact h)
         have hbs:=bit_lt hsl
         have HBS:=Hd_ hbs
         have e1:=Hd_ (shl_bit (s:=s) (by omega))
         have e2:=Hd_ (shl_bit2 (s:=s) (by omega))
         have e3:=Hd_ (shl_bit3 (s:=s) (by omega))
         have f1:=Hd_ (shl_bit (s:=x) (by omega))
         have f2:=Hd_ (shl_bit2 (s:=x) (by omega))
         have f3:=Hd_ (shl_bit3 (s:=x) (by omega))
         have hB1:1<=B:=by omega
         have hB2:B<=20000:=by omega
         have HST:=Hd_ hs
         have HGO:=Hd_ hgo
         have HAO:=Hd_ hao
         have HX5:=Hd_ hgo2
         have HBR1:=Hd_ bR
         have HBW:=Hd_ hb9
         clear hfin hgo hao hx0 hx1 hy0 hy1 hst0 hst1 hs hwB2 hck hwB hgo2 hbs HRR bR bG bA hyn
         refine (HW.out _).mono ?_
         rintro e w9 ⟨rfl,hw9⟩
         rw [hw9]
         clear hw9 HW
         go_wp2_with fail
         have hb3:=HBW.out
         have X0:=Hd_ x0
         have X1:=Hd_ x1
         have Y0:=Hd_ y0
         refine F_start 11 (fun w'=>w'.cell? ⟨w.heap.size,0,none⟩=some (.slice A1 g.vals.length c1)/\w'.cell? ⟨w.heap.size,1,none⟩=some (.slice A2 g.edges.length c2)/\w'.cell? ⟨w.heap.size+1,0,none⟩=some (.int .i64 a.start)/\w'.cell? ⟨w.heap.size+1,1,none⟩=some (.slice A3 a.accept.length c3)/\w'.cell? ⟨w.heap.size+1,2,none⟩=some (.slice A4 a.accept.length c4)) (by kernel_rfl) (by exact ⟨x0,x1,y0,y1,y2⟩) (fun hS inv=>?_)
         refine F_tk 0 inv ?_
         try simp only [tA,tB,tC,Act.put,tE,tF,tG]
         clear inv;intro inv
         refine F_tk 1 inv ?_
         try simp only [tA,tB,tC,Act.put,tE,tF,tG]
         clear inv;intro inv
         refine F_tk 2 inv ?_
         try simp only [tA,tB,tC,Act.put,tE,tF,tG]
         clear inv;intro inv
         refine F_tk 3 inv ?_
         try simp only [tA,tB,tC,Act.put,tE,tF,tG]
         clear inv;intro inv
         refine F_tk 4 inv ?_
         try simp only [tA,tB,tC,Act.put,tE,tF,tG]
         clear inv;intro inv
         refine F_tk 5 inv ?_
         try simp only [tA,tB,tC,Act.put,tE,tF,tG]
         clear inv;intro inv
         refine F_tk 7 inv ?_
         try simp only [tA,tB,tC,Act.put,tE,tF,tG]
         clear inv;intro inv
         refine F_tk 8 inv ?_
         try simp only [tA,tB,tC,Act.put,tE,tF,tG]
         clear inv;intro inv
         refine F_two (i:=6) (j:=10) (by kernel_rfl) rfl rfl rfl rfl (by omega) inv (fun K hK=>?_) (fun K hK=>?_)
         all_goals (try simp only [tA,tB,tC])
         · go_simp
           refine (HLB.out W9.drew hb3.drew).mono ?_
           rintro e wD ⟨vD,rfl,hoD,hbD⟩
           obtain ⟨A6,c6,rfl,hl6,hm6,-⟩:=hoD.form cI_len
           refine hK.out _ _ (kB5 hbD hS) (fun _ _=>?_)
           try simp only [tA,tB,tC,Act.put,tE,tF,tG]
           clear hK K inv hS;rename_i hS inv
           refine F_tk 9 inv ?_
           try simp only [tA,tB,tC,Act.put,tE,tF,tG]
           clear inv;intro inv
           refine F_o1 10 inv ?_;intro K hK
           try simp only [tA,tB,tC]
           go_simp
           refine hK.out _ _ (kA5 _ hS) (fun _ _=>?_)
           try simp only [tA,tB,tC,Act.put,tE,tF,tG]
           clear hK K inv hS;rename_i hS inv
           have HS5:=Hd_ hS
           refine F_l1 11 ?_;intro K hK
           go_simp
           refine hK _ _ ?_
           clear hK K inv hS
           have hbkn:Blk (wD.alloc (.cells #[.slice A1 g.vals.length c1,.slice A2 g.edges.length c2,.int .i64 a.start,.slice A3 a.accept.length c3,.slice A4 a.accept.length c4,.int .i64 y,.slice A6 (distTo g a y).length c6,.bool true,.int .i64 (B:Int),.int .i64 ((0:Nat):Int),.slice none 0 0] 150)) wD.heap.size 150 #[.slice A1 g.vals.length c1,.slice A2 g.edges.length c2,.int .i64 a.start,.slice A3 a.accept.length c3,.slice A4 a.accept.length c4,.int .i64 y,.slice A6 (distTo g a y).length c6,.bool true,.int .i64 (B:Int),.int .i64 ((0:Nat):Int),.slice none 0 0]:=Blk.new _ _ _ _ rfl
           have hbn:=(Below.refl wD.heap.size wD).alloc (Nat.le_refl _) (.cells #[.slice A1 g.vals.length c1,.slice A2 g.edges.length c2,.int .i64 a.start,.slice A3 a.accept.length c3,.slice A4 a.accept.length c4,.int .i64 y,.slice A6 (distTo g a y).length c6,.bool true,.int .i64 (B:Int),.int .i64 ((0:Nat):Int),.slice none 0 0] 150)
           have hsn:wD.heap.size < (wD.alloc (.cells #[.slice A1 g.vals.length c1,.slice A2 g.edges.length c2,.int .i64 a.start,.slice A3 a.accept.length c3,.slice A4 a.accept.length c4,.int .i64 y,.slice A6 (distTo g a y).length c6,.bool true,.int .i64 (B:Int),.int .i64 ((0:Nat):Int),.slice none 0 0] 150)).heap.size:=by simp
           have hzero:((0:Nat):Int)=0:=rfl
           rw [hzero] at hbkn hbn hsn
           obtain ⟨bS,hbS⟩:∃ bS,bS=wD.heap.size:=⟨_,rfl⟩
           obtain ⟨W1,hW1⟩:∃ W1,W1=wD.alloc (.cells #[.slice A1 g.vals.length c1,.slice A2 g.edges.length c2,.int .i64 a.start,.slice A3 a.accept.length c3,.slice A4 a.accept.length c4,.int .i64 y,.slice A6 (distTo g a y).length c6,.bool true,.int .i64 (B:Int),.int .i64 (0:Int),.slice none 0 0] 150):=⟨_,rfl⟩
           rw [<- hW1] at hbkn hbn hsn ⊢
           rw [<- hbS] at hbkn hsn ⊢
           have hbw:=below_trans (below_trans hb3.drew hbD) hbn
           have HDV:=Hd_ (SlI.below (hoD.sl cI_len) hbn (Nat.le_refl _))
           have hdl:bS < W9.drew.heap.size ∨ wD.heap.size<=bS:=.inr (by omega)
           have hdh:wD.heap.size<=W1.heap.size:=hbn.size
           have HBR3:=Hd_ (((show Blk W9.drew _ _ _ from HBR1.out).keep hbD).keep hbn)
           have hsD:=hbD.size
           have hwS:w.heap.size+1+1 < bS:=by have:=HBR1.out.lt;have h2:W9.heap.size<=wD.heap.size:=hsD;omega
           have y0:=kcell hbn (kcell hbD (show W9.drew.cell? ⟨w.heap.size+1,0,none⟩=some (.int .i64 a.start) from Y0.out))
           have x0:=kcell hbn (kcell hbD (show W9.drew.cell? ⟨w.heap.size,0,none⟩=some (.slice A1 g.vals.length c1) from X0.out))
           have x1:=kcell hbn (kcell hbD (show W9.drew.cell? ⟨w.heap.size,1,none⟩=some (.slice A2 g.edges.length c2) from X1.out))
           have HBK:=Hd_ (show Blk W1 bS 150 #[.slice A1 g.vals.length c1,.slice A2 g.edges.length c2,.int .i64 a.start,.slice A3 a.accept.length c3,.slice A4 a.accept.length c4,.int .i64 y,.slice A6 (distTo g a y).length c6,.bool true,.int .i64 (B:Int),.int .i64 ((0:Nat):Int),.slice none 0 0] from hbkn)
           generalize W9.drew.heap.size=dl at *
           generalize wD.heap.size=dh at *
           clear hW1 hbn hbkn hbD hoD hsD hb3 HS5 HBR1 HBW HLB hbS hzero
           have HGV1:=Hd_ ((HGV.out.below hbw (Nat.le_refl _)).mono (Nat.zero_le _) (show w.heap.size<=bS by omega))
           have HAV1:=Hd_ ((HAV.out.below hbw (Nat.le_refl _)).mono (Nat.zero_le _) (show w.heap.size<=bS by omega))
           have HGX2:=Hd_ (l20Go_any g a y B (distTo g a y) true HGO.out HAO.out bS dl dh W1 A1 A2 A3 A4 A6 c1 c2 c3 c4 c6 HGV1.out HAV1.out HDV.out hdl hdh HDL.out hB2 hsn)
           have HHX:=Hd_ (fun (W:World) (c:Nat) (sv:Value) (hW:Only bS (bS+1) W1 W) (hk:Blk W bS 150 #[.slice A1 g.vals.length c1,.slice A2 g.edges.length c2,.int .i64 a.start,.slice A3 a.accept.length c3,.slice A4 a.accept.length c4,.int .i64 y,.slice A6 (distTo g a y).length c6,.bool true,.int .i64 (B:Int),.int .i64 (c:Int),sv]) (lf:Nat) (hlf:lf<=60)=>l20Hope_any (distTo g a y) g.vals.length a.accept.length W bS A3 A6 c3 c6 (hk.cell 3) (hk.cell 6) ((SlI.only HDV.out hW hdh (by omega)).all (Nat.le_trans hdh hW.size)) HDL.out hn5 hm12 x (bit s) lf hxl HBS.out hlf hk.lt)
           have HSRF:=Hd_ HF.out.symm
           have HB1:=Hd_ hbw
           have lW0:w.heap.size < W1.heap.size:=by omega
           have lW1:w.heap.size+1 < W1.heap.size:=by omega
           obtain ⟨n1,hn1⟩:∃ n1,n1=g.vals.length - 1:=⟨_,rfl⟩
           have hn1a:n1+1<=g.vals.length:=by omega
           have hn1b:g.vals.length<=n1+1:=by omega
           clear hn1
           have qv:IntKind.i64.wrap ((g.vals.length:Int) - 1)=(n1:Int):=by rw [IntWalk.i64_in _ (by omega)];omega
           have u1:=f1.out
           have u2:=f2.out
           have u3:=f3.out
           clear hbw HF
           go_wp2_with fail
           clear qv u1 u2 u3
           go_loopw [17] (fun ii wr=>∃ (lf c k:Nat) (sv:Value),lf+k=g.vals.length/\c<=B/\ii=.int .i64 (lf:Int)/\srchF g a y B (distTo g a y) true x (bit s) [(x:Int)] k lf c=R/\Only bS (bS+1) W1 wr/\Blk wr bS 150 #[.slice A1 g.vals.length c1,.slice A2 g.edges.length c2,.int .i64 a.start,.slice A3 a.accept.length c3,.slice A4 a.accept.length c4,.int .i64 y,.slice A6 (distTo g a y).length c6,.bool true,.int .i64 (B:Int),.int .i64 (c:Int),sv]/\wr.ownsRow W1.heap.size 81 2 sv ([]:List St).length (([]:List St).flatMap cSt)) (fun ii _=>g.vals.length - (intOf ii).toNat)
           case atStart=>exact ⟨0,0,g.vals.length,.slice none 0 0,by omega,by omega,rfl,HSRF.out,Only.refl _ _ _,HBK.out,World.ownsRow_nil _ _ _ _⟩
           case round =>
            clear HSRF HBK
            obtain ⟨lf,c,k,sv,hlk,hcB,rfl,hR,hon,hbk,hrow⟩:=hrel
            have HR:=Hd_ hR
            have HON:=Hd_ hon
            have HBK:=Hd_ hbk
            have HROW:=Hd_ hrow
            have hsz:=hon.size
            have y0:=ocell hon y0 lW1 (.inl (by omega))
            have lr1:w.heap.size+1 < wr.heap.size:=by omega
            clear hR hon hbk hrow
            by_cases hlt:lf < g.vals.length
            · have hle:(lf:Int)<=(n1:Int):=by omega
              obtain ⟨k,rfl⟩:∃ k',k=k'+1:=⟨k - 1,by omega⟩
              have HPX:=Hd_ (HHX.out wr c sv HON.out HBK.out lf (by omega))
              have s1:=e1.out
              have s2:=e2.out
              have s3:=e3.out
              rw [HST.out] at y0
              cases hhp:hope (distTo g a y) a.accept.length x (bit s) lf with
              | false =>
                rw [hhp] at HPX
                have HE:=Hd_ ((srchF_no hhp).symm.trans HR.out)
                clear HR hhp
                go_wp2_with fail
                refine HPX.out.mono ?_
                rintro e w5 ⟨rfl,hw5⟩
                rw [hw5]
                clear hw5
                go_wp2_with fail
                go_roundw
                case rel=>exact ⟨lf+1,c,k,sv,by omega,hcB,by go_num,HE.out,HON.out,HBK.out,HROW.out⟩
                case measure=>simp [intOf];omega
              | true =>
                rw [hhp] at HPX
                have hvl:=visit_le (g:=g) (a:=a) (y:=y) (B:=B) (D:=distTo g a y) (sm:=true) lf x (bit s) [(x:Int)] c hcB
                have hvn:=visit_len (g:=g) (a:=a) (y:=y) (B:=B) (D:=distTo g a y) (sm:=true) lf x (bit s) [(x:Int)] c
                have HVC:=Hd_ (HGX2.out lf x (bit s) (bit x) [(x:Int)] c sv [] wr HON.out HBK.out HROW.out (URel.one HX5.out x) hxl HBS.out (by have:=bit_lt (n:=5) (show x < 5 by omega);omega) hcB (by simp;omega))
                have HY:=Hd_ (fun r c' h=>(srchF_yes (k:=k) (r:=r) (c':=c') hhp h).symm.trans HR.out)
                have HO:=Hd_ (fun c' h h2=>(srchF_out (k:=k) (c':=c') hhp h h2).symm.trans HR.out)
                have HN:=Hd_ (fun c' h h2=>(srchF_on (k:=k) (c':=c') hhp h h2).symm.trans HR.out)
                generalize visit g a y B (distTo g a y) true lf x (bit s) [(x:Int)] c=V at *
                obtain ⟨o,r2⟩:=V
                simp only at hvl hvn
                clear HR hhp
                go_wp2_with fail
                refine HPX.out.mono ?_
                rintro e w5 ⟨rfl,hw5⟩
                rw [hw5]
                clear hw5 HPX
                go_wp2_with fail
                refine HVC.out.mono ?_
                rintro e wV ⟨rfl,sv6,hbk6,hrow6,-,hsr6⟩
                have hon6:=hsr6.only (fun n hn=>(HROW.out.lt n hn).1) HON.out
                have hszV:=hon6.size
                have HONT:=Hd_ hon6
                have HBKV:=Hd_ hbk6
                have lTV:=hbk6.lt
                have q9:wV.cell? ⟨bS,9,none⟩=some (.int .i64 (r2:Int)):=hbk6.cell 9
                have hbR:Blk wV (w.heap.size+1+1) 39 #[.int .i64 0,.slice none 0 0]:=HBR3.out.only hon6 (.inl hwS)
                have z0:wV.cell? ⟨w.heap.size+1+1,0,none⟩=some (.int .i64 0):=hbR.cell 0
                have z1:wV.cell? ⟨w.heap.size+1+1,1,none⟩=some (.slice none 0 0):=hbR.cell 1
                have fz0:=hbR.frozen 0
                have fz1:=hbR.frozen 1
                have lz:=hbR.lt
                have HBRV:=Hd_ hbR
                have HBV:=Hd_ (HB1.out.trans (hon6.below (B:=w.heap.size) (by omega) HB1.out.size))
                cases o with
                | some r =>
                  have HE:=Hd_ (HY.out r r2 rfl)
                  have hrl:r.length<=60:=by
                   have:=hvn r rfl
                   omega
                  clear hvn
                  rw [Option.getD_some,List.nil_append] at hrow6
                  have hown6:=Own.of_row (xs:=r) hrow6 rfl rfl
                  obtain ⟨A9,n9,c9,rfl⟩:=hown6.shape
                  have hal2:Below wV.heap.size wV (wV.alloc (.cells #[] 81)):=(Below.refl _ _).alloc (Nat.le_refl _) _
                  have HV2:=Hd_ (SlE.keep ((hown6.sl cSt_len).all (Nat.le_refl _)) hal2)
                  have HLT2:=Hd_ (World.ownsRow_lit (base:=wV.heap.size) (e:=81) (size:=2) wV #[] 0 (Nat.le_refl _) (by decide) rfl)
                  have HAL2:=Hd_ hal2
                  have z10:wV.cell? ⟨bS,10,none⟩=some (.slice A9 n9 c9):=HBKV.out.cell 10
                  clear HY HO HN hbk6 hrow6 hsr6 hon6 hbR hown6 hal2
                  go_wp2_with (at_builtin;(refine wpList_appendL cSt elStep cSt_len cSt_one rfl _ _ rfl wV.heap.size _ [] r (by rfl) HLT2.out 0 _ _ (by rfl) HV2.out (by simp;omega) (by omega) (by simp) ?_);intro v5 w5 hrow5 hgr5 hat5;have hb5:=HAL2.out.trans (own_below HLT2.out (by simp) hgr5);have bR5:=HBRV.out.keep hb5;have z0:w5.cell? ⟨w.heap.size+1+1,0,none⟩=some (.int .i64 0):=bR5.cell 0;have z1:w5.cell? ⟨w.heap.size+1+1,1,none⟩=some (.slice none 0 0):=bR5.cell 1;have fz0:=bR5.frozen 0;have fz1:=bR5.frozen 1;have lz5:=bR5.lt;have hown5:=Own.of_row (xs:=[] ++ r) hrow5 rfl rfl;obtain ⟨A7,n7,c7,hv7⟩:=hown5.shape;subst hv7;have HB5:=Hd_ hb5;have HO5:=Hd_ hown5;clear hown5 bR5 hb5 hrow5 hgr5 hat5)
                  have hon3:=((Only.refl (w.heap.size+1+1) (w.heap.size+1+1+1) w5).setCell (p:=⟨w.heap.size+1+1,0,none⟩) (.inl ⟨Nat.le_refl _,Nat.lt_succ_self _⟩) (.int .i64 (x:Int))).setCell (p:=⟨w.heap.size+1+1,1,none⟩) (.inl ⟨Nat.le_refl _,Nat.lt_succ_self _⟩) (.slice A7 n7 c7)
                  have hs5:=HB5.out.size
                  refine bodyPost_ret (v:=.tuple #[.agg #[.int .i64 (x:Int),.slice A7 n7 c7],.int .i64 1]) (by simp [results,Tryz.results71,go_sem,z0,z1]) rfl ⟨_,by rw [<- HE.out],?_,(below_trans HBV.out HB5.out).trans (hon3.below (by omega) (by omega))⟩
                  rw [<- HE.out]
                  exact ⟨_,rfl,(HO5.out.only hon3 (.inr (by omega))).mono (by omega) (by simp [World.setCell])⟩
                | none =>
                  rw [Option.getD_none,List.append_nil] at hrow6
                  have HROW6:=Hd_ hrow6
                  by_cases hcc:B<=r2
                  · have HE:=Hd_ (HO.out r2 rfl hcc)
                    have hcb:decide ((r2:Int) >= (B:Int))=true:=by simp;omega
                    clear HY HO HN hbk6 hrow6 hsr6 hon6 hbR
                    go_wp2_with fail
                    refine bodyPost_ret (v:=.tuple #[.agg #[.int .i64 0,.slice none 0 0],.int .i64 3]) (by simp [results,Tryz.results71,go_sem,z0,z1]) rfl ⟨_,by rw [<- HE.out],?_,(HBV.out.setCell (p:=⟨w.heap.size+1+1,0,none⟩) (by simp only;omega) _).setCell (p:=⟨w.heap.size+1+1,1,none⟩) (by simp only;omega) _⟩
                    rw [<- HE.out]
                    exact ⟨_,rfl,Own.nil _ _ _ _ _ _⟩
                  · have HE:=Hd_ (HN.out r2 rfl hcc)
                    have hcb:decide ((r2:Int) >= (B:Int))=false:=by simp;omega
                    clear HY HO HN hbk6 hrow6 hsr6 hon6 hbR
                    go_wp2_with fail
                    go_roundw
                    case rel=>exact ⟨lf+1,r2,k,sv6,by omega,hvl.1,by go_num,HE.out,HONT.out,HBKV.out,HROW6.out⟩
                    case measure=>simp [intOf];omega
            · obtain rfl:k=0:=by omega
              have hle:¬ (lf:Int)<=(n1:Int):=by omega
              have HE:=Hd_ ((show srchF g a y B (distTo g a y) true x (bit s) [(x:Int)] 0 lf c=((0,[]),2) from rfl).symm.trans HR.out)
              have hbR:Blk wr (w.heap.size+1+1) 39 #[.int .i64 0,.slice none 0 0]:=HBR3.out.only HON.out (.inl hwS)
              have z0:wr.cell? ⟨w.heap.size+1+1,0,none⟩=some (.int .i64 0):=hbR.cell 0
              have z1:wr.cell? ⟨w.heap.size+1+1,1,none⟩=some (.slice none 0 0):=hbR.cell 1
              have fz0:=hbR.frozen 0
              have fz1:=hbR.frozen 1
              have lz:=hbR.lt
              have HBV:=Hd_ (HB1.out.trans (HON.out.below (B:=w.heap.size) (by omega) HB1.out.size))
              clear HR hbR
              go_wp2_with fail
              refine bodyPost_ret (v:=.tuple #[.agg #[.int .i64 0,.slice none 0 0],.int .i64 2]) (by simp [results,Tryz.results71,go_sem,z0,z1]) rfl ⟨_,by rw [<- HE.out],?_,(HBV.out.setCell (p:=⟨w.heap.size+1+1,0,none⟩) (by simp only;omega) _).setCell (p:=⟨w.heap.size+1+1,1,none⟩) (by simp only;omega) _⟩
              rw [<- HE.out]
              exact ⟨_,rfl,Own.nil _ _ _ _ _ _⟩
         · go_simp
           have hbkz:Blk (W9.drew.alloc (.cells #[.slice none 0 0,.slice none 0 0,.int .i64 0,.slice none 0 0,.slice none 0 0,.int .i64 0,.slice none 0 0,.bool false,.int .i64 0,.int .i64 0,.slice none 0 0] 150)) W9.drew.heap.size 150 #[.slice none 0 0,.slice none 0 0,.int .i64 0,.slice none 0 0,.slice none 0 0,.int .i64 0,.slice none 0 0,.bool false,.int .i64 0,.int .i64 0,.slice none 0 0]:=Blk.new _ _ _ _ rfl
           have hba:=(Below.refl W9.drew.heap.size W9.drew).alloc (Nat.le_refl _) (.cells #[.slice none 0 0,.slice none 0 0,.int .i64 0,.slice none 0 0,.slice none 0 0,.int .i64 0,.slice none 0 0,.bool false,.int .i64 0,.int .i64 0,.slice none 0 0] 150)
           refine hK.out _ _ (kA5 _ hS) (fun _ _=>?_)
           try simp only [tA,tB,tC,Act.put,tE,tF,tG]
           clear hK K inv hS;rename_i hS inv
           refine F_o1 6 inv ?_;intro K hK
           try simp only [tA,tB,tC]
           go_simp
           refine (HLB.out _ (below_trans hb3.drew hba)).mono ?_
           rintro e wD ⟨vD,rfl,hoD,hbD⟩
           obtain ⟨A6,c6,rfl,hl6,hm6,-⟩:=hoD.form cI_len
           have hbkD:=hbkz.keep hbD
           refine hK.out _ _ (kB5 hbD hS) (fun _ _=>?_)
           try simp only [tA,tB,tC,Act.put,tE,tF,tG]
           clear hK K inv hS;rename_i hS inv
           refine F_tk 9 inv ?_
           try simp only [tA,tB,tC,Act.put,tE,tF,tG]
           clear inv;intro inv
           have t0:wD.cell? ⟨W9.heap.size,0,none⟩=some (.slice none 0 0):=hbkD.cell 0
           have g0:wD.frozen? ⟨W9.heap.size,0,none⟩=false:=hbkD.frozen 0
           have t1:wD.cell? ⟨W9.heap.size,1,none⟩=some (.slice none 0 0):=hbkD.cell 1
           have g1:wD.frozen? ⟨W9.heap.size,1,none⟩=false:=hbkD.frozen 1
           have t2:wD.cell? ⟨W9.heap.size,2,none⟩=some (.int .i64 0):=hbkD.cell 2
           have g2:wD.frozen? ⟨W9.heap.size,2,none⟩=false:=hbkD.frozen 2
           have t3:wD.cell? ⟨W9.heap.size,3,none⟩=some (.slice none 0 0):=hbkD.cell 3
           have g3:wD.frozen? ⟨W9.heap.size,3,none⟩=false:=hbkD.frozen 3
           have t4:wD.cell? ⟨W9.heap.size,4,none⟩=some (.slice none 0 0):=hbkD.cell 4
           have g4:wD.frozen? ⟨W9.heap.size,4,none⟩=false:=hbkD.frozen 4
           have t5:wD.cell? ⟨W9.heap.size,5,none⟩=some (.int .i64 0):=hbkD.cell 5
           have g5:wD.frozen? ⟨W9.heap.size,5,none⟩=false:=hbkD.frozen 5
           have t6:wD.cell? ⟨W9.heap.size,6,none⟩=some (.slice none 0 0):=hbkD.cell 6
           have g6:wD.frozen? ⟨W9.heap.size,6,none⟩=false:=hbkD.frozen 6
           have t7:wD.cell? ⟨W9.heap.size,7,none⟩=some (.bool false):=hbkD.cell 7
           have g7:wD.frozen? ⟨W9.heap.size,7,none⟩=false:=hbkD.frozen 7
           have t8:wD.cell? ⟨W9.heap.size,8,none⟩=some (.int .i64 0):=hbkD.cell 8
           have g8:wD.frozen? ⟨W9.heap.size,8,none⟩=false:=hbkD.frozen 8
           have t9:wD.cell? ⟨W9.heap.size,9,none⟩=some (.int .i64 0):=hbkD.cell 9
           have g9:wD.frozen? ⟨W9.heap.size,9,none⟩=false:=hbkD.frozen 9
           have t10:wD.cell? ⟨W9.heap.size,10,none⟩=some (.slice none 0 0):=hbkD.cell 10
           have g10:wD.frozen? ⟨W9.heap.size,10,none⟩=false:=hbkD.frozen 10
           have lS0:W9.heap.size < wD.heap.size:=hbkD.lt
           refine F_l1 11 ?_;intro K hK
           go_simp
           refine hK _ _ ?_
           clear hK K inv hS
           have hbkn:Blk (((((((((((wD.setCell ⟨W9.heap.size,0,none⟩ (.slice A1 g.vals.length c1)).setCell ⟨W9.heap.size,1,none⟩ (.slice A2 g.edges.length c2)).setCell ⟨W9.heap.size,2,none⟩ (.int .i64 a.start)).setCell ⟨W9.heap.size,3,none⟩ (.slice A3 a.accept.length c3)).setCell ⟨W9.heap.size,4,none⟩ (.slice A4 a.accept.length c4)).setCell ⟨W9.heap.size,5,none⟩ (.int .i64 y)).setCell ⟨W9.heap.size,6,none⟩ (.slice A6 (distTo g a y).length c6)).setCell ⟨W9.heap.size,7,none⟩ (.bool true)).setCell ⟨W9.heap.size,8,none⟩ (.int .i64 (B:Int))).setCell ⟨W9.heap.size,9,none⟩ (.int .i64 0)).setCell ⟨W9.heap.size,10,none⟩ (.slice none 0 0)) W9.heap.size 150 #[.slice A1 g.vals.length c1,.slice A2 g.edges.length c2,.int .i64 a.start,.slice A3 a.accept.length c3,.slice A4 a.accept.length c4,.int .i64 y,.slice A6 (distTo g a y).length c6,.bool true,.int .i64 (B:Int),.int .i64 ((0:Nat):Int),.slice none 0 0]:=hbkD.set11 _ _ _ _ _ _ _ _ _ _ _
           have honB:Only W9.heap.size (W9.heap.size+1) wD (((((((((((wD.setCell ⟨W9.heap.size,0,none⟩ (.slice A1 g.vals.length c1)).setCell ⟨W9.heap.size,1,none⟩ (.slice A2 g.edges.length c2)).setCell ⟨W9.heap.size,2,none⟩ (.int .i64 a.start)).setCell ⟨W9.heap.size,3,none⟩ (.slice A3 a.accept.length c3)).setCell ⟨W9.heap.size,4,none⟩ (.slice A4 a.accept.length c4)).setCell ⟨W9.heap.size,5,none⟩ (.int .i64 y)).setCell ⟨W9.heap.size,6,none⟩ (.slice A6 (distTo g a y).length c6)).setCell ⟨W9.heap.size,7,none⟩ (.bool true)).setCell ⟨W9.heap.size,8,none⟩ (.int .i64 (B:Int))).setCell ⟨W9.heap.size,9,none⟩ (.int .i64 0)).setCell ⟨W9.heap.size,10,none⟩ (.slice none 0 0)):=Only.set11 _ _ _ _ _ _ _ _ _ _ _ _ _
           obtain ⟨bS,hbS⟩:∃ bS,bS=W9.heap.size:=⟨_,rfl⟩
           obtain ⟨W1,hW1⟩:∃ W1,W1=(((((((((((wD.setCell ⟨W9.heap.size,0,none⟩ (.slice A1 g.vals.length c1)).setCell ⟨W9.heap.size,1,none⟩ (.slice A2 g.edges.length c2)).setCell ⟨W9.heap.size,2,none⟩ (.int .i64 a.start)).setCell ⟨W9.heap.size,3,none⟩ (.slice A3 a.accept.length c3)).setCell ⟨W9.heap.size,4,none⟩ (.slice A4 a.accept.length c4)).setCell ⟨W9.heap.size,5,none⟩ (.int .i64 y)).setCell ⟨W9.heap.size,6,none⟩ (.slice A6 (distTo g a y).length c6)).setCell ⟨W9.heap.size,7,none⟩ (.bool true)).setCell ⟨W9.heap.size,8,none⟩ (.int .i64 (B:Int))).setCell ⟨W9.heap.size,9,none⟩ (.int .i64 0)).setCell ⟨W9.heap.size,10,none⟩ (.slice none 0 0)):=⟨_,rfl⟩
           rw [<- hW1] at hbkn honB ⊢
           have hbwD:=below_trans (below_trans hb3.drew hba) hbD
           have hwS:w.heap.size+1+1 < bS:=by have:=HBR1.out.lt;omega
           have hdl0:bS+1<=(W9.drew.alloc (.cells #[.slice none 0 0,.slice none 0 0,.int .i64 0,.slice none 0 0,.slice none 0 0,.int .i64 0,.slice none 0 0,.bool false,.int .i64 0,.int .i64 0,.slice none 0 0] 150)).heap.size:=by rw [hbS];simp
           rw [<- hbS] at hbkn honB ⊢
           have hsD:=hbD.size
           have hbw:=hbwD.trans (honB.below (B:=w.heap.size) (by omega) hbwD.size)
           have HDV:=Hd_ (SlI.only (hoD.sl cI_len) honB (Nat.le_refl _) (.inr hdl0))
           have hdl:bS < (W9.drew.alloc (.cells #[.slice none 0 0,.slice none 0 0,.int .i64 0,.slice none 0 0,.slice none 0 0,.int .i64 0,.slice none 0 0,.bool false,.int .i64 0,.int .i64 0,.slice none 0 0] 150)).heap.size ∨ wD.heap.size<=bS:=.inl hdl0
           have hdh:wD.heap.size<=W1.heap.size:=honB.size
           have hsn:bS < W1.heap.size:=by omega
           have HBR3:=Hd_ ((((show Blk W9.drew _ _ _ from HBR1.out).keep hba).keep hbD).only honB (.inl hwS))
           have y0:=ocell honB (kcell hbD (kcell hba (show W9.drew.cell? ⟨w.heap.size+1,0,none⟩=some (.int .i64 a.start) from Y0.out))) (by omega) (.inl (by omega))
           have x0:=ocell honB (kcell hbD (kcell hba (show W9.drew.cell? ⟨w.heap.size,0,none⟩=some (.slice A1 g.vals.length c1) from X0.out))) (by omega) (.inl (by omega))
           have x1:=ocell honB (kcell hbD (kcell hba (show W9.drew.cell? ⟨w.heap.size,1,none⟩=some (.slice A2 g.edges.length c2) from X1.out))) (by omega) (.inl (by omega))
           have HBK:=Hd_ (show Blk W1 bS 150 #[.slice A1 g.vals.length c1,.slice A2 g.edges.length c2,.int .i64 a.start,.slice A3 a.accept.length c3,.slice A4 a.accept.length c4,.int .i64 y,.slice A6 (distTo g a y).length c6,.bool true,.int .i64 (B:Int),.int .i64 ((0:Nat):Int),.slice none 0 0] from hbkn)
           generalize (W9.drew.alloc (.cells #[.slice none 0 0,.slice none 0 0,.int .i64 0,.slice none 0 0,.slice none 0 0,.int .i64 0,.slice none 0 0,.bool false,.int .i64 0,.int .i64 0,.slice none 0 0] 150)).heap.size=dl at *
           generalize wD.heap.size=dh at *
           clear hW1 honB hbkn hbD hoD hsD hb3 HBR1 HBW HLB hbS hbwD hdl0 hba hbkz hbkD t0 g0 t1 g1 t2 g2 t3 g3 t4 g4 t5 g5 t6 g6 t7 g7 t8 g8 t9 g9 t10 g10 lS0
           have HGV1:=Hd_ ((HGV.out.below hbw (Nat.le_refl _)).mono (Nat.zero_le _) (show w.heap.size<=bS by omega))
           have HAV1:=Hd_ ((HAV.out.below hbw (Nat.le_refl _)).mono (Nat.zero_le _) (show w.heap.size<=bS by omega))
           have HGX2:=Hd_ (l20Go_any g a y B (distTo g a y) true HGO.out HAO.out bS dl dh W1 A1 A2 A3 A4 A6 c1 c2 c3 c4 c6 HGV1.out HAV1.out HDV.out hdl hdh HDL.out hB2 hsn)
           have HHX:=Hd_ (fun (W:World) (c:Nat) (sv:Value) (hW:Only bS (bS+1) W1 W) (hk:Blk W bS 150 #[.slice A1 g.vals.length c1,.slice A2 g.edges.length c2,.int .i64 a.start,.slice A3 a.accept.length c3,.slice A4 a.accept.length c4,.int .i64 y,.slice A6 (distTo g a y).length c6,.bool true,.int .i64 (B:Int),.int .i64 (c:Int),sv]) (lf:Nat) (hlf:lf<=60)=>l20Hope_any (distTo g a y) g.vals.length a.accept.length W bS A3 A6 c3 c6 (hk.cell 3) (hk.cell 6) ((SlI.only HDV.out hW hdh (by omega)).all (Nat.le_trans hdh hW.size)) HDL.out hn5 hm12 x (bit s) lf hxl HBS.out hlf hk.lt)
           have HSRF:=Hd_ HF.out.symm
           have HB1:=Hd_ hbw
           have lW0:w.heap.size < W1.heap.size:=by omega
           have lW1:w.heap.size+1 < W1.heap.size:=by omega
           obtain ⟨n1,hn1⟩:∃ n1,n1=g.vals.length - 1:=⟨_,rfl⟩
           have hn1a:n1+1<=g.vals.length:=by omega
           have hn1b:g.vals.length<=n1+1:=by omega
           clear hn1
           have qv:IntKind.i64.wrap ((g.vals.length:Int) - 1)=(n1:Int):=by rw [IntWalk.i64_in _ (by omega)];omega
           have u1:=f1.out
           have u2:=f2.out
           have u3:=f3.out
           clear hbw HF
           go_wp2_with fail
           clear qv u1 u2 u3
           go_loopw [17] (fun ii wr=>∃ (lf c k:Nat) (sv:Value),lf+k=g.vals.length/\c<=B/\ii=.int .i64 (lf:Int)/\srchF g a y B (distTo g a y) true x (bit s) [(x:Int)] k lf c=R/\Only bS (bS+1) W1 wr/\Blk wr bS 150 #[.slice A1 g.vals.length c1,.slice A2 g.edges.length c2,.int .i64 a.start,.slice A3 a.accept.length c3,.slice A4 a.accept.length c4,.int .i64 y,.slice A6 (distTo g a y).length c6,.bool true,.int .i64 (B:Int),.int .i64 (c:Int),sv]/\wr.ownsRow W1.heap.size 81 2 sv ([]:List St).length (([]:List St).flatMap cSt)) (fun ii _=>g.vals.length - (intOf ii).toNat)
           case atStart=>exact ⟨0,0,g.vals.length,.slice none 0 0,by omega,by omega,rfl,HSRF.out,Only.refl _ _ _,HBK.out,World.ownsRow_nil _ _ _ _⟩
           case round =>
            clear HSRF HBK
            obtain ⟨lf,c,k,sv,hlk,hcB,rfl,hR,hon,hbk,hrow⟩:=hrel
            have HR:=Hd_ hR
            have HON:=Hd_ hon
            have HBK:=Hd_ hbk
            have HROW:=Hd_ hrow
            have hsz:=hon.size
            have y0:=ocell hon y0 lW1 (.inl (by omega))
            have lr1:w.heap.size+1 < wr.heap.size:=by omega
            clear hR hon hbk hrow
            by_cases hlt:lf < g.vals.length
            · have hle:(lf:Int)<=(n1:Int):=by omega
              obtain ⟨k,rfl⟩:∃ k',k=k'+1:=⟨k - 1,by omega⟩
              have HPX:=Hd_ (HHX.out wr c sv HON.out HBK.out lf (by omega))
              have s1:=e1.out
              have s2:=e2.out
              have s3:=e3.out
              rw [HST.out] at y0
              cases hhp:hope (distTo g a y) a.accept.length x (bit s) lf with
              | false =>
                rw [hhp] at HPX
                have HE:=Hd_ ((srchF_no hhp).symm.trans HR.out)
                clear HR hhp
                go_wp2_with fail
                refine HPX.out.mono ?_
                rintro e w5 ⟨rfl,hw5⟩
                rw [hw5]
                clear hw5
                go_wp2_with fail
                go_roundw
                case rel=>exact ⟨lf+1,c,k,sv,by omega,hcB,by go_num,HE.out,HON.out,HBK.out,HROW.out⟩
                case measure=>simp [intOf];omega
              | true =>
                rw [hhp] at HPX
                have hvl:=visit_le (g:=g) (a:=a) (y:=y) (B:=B) (D:=distTo g a y) (sm:=true) lf x (bit s) [(x:Int)] c hcB
                have hvn:=visit_len (g:=g) (a:=a) (y:=y) (B:=B) (D:=distTo g a y) (sm:=true) lf x (bit s) [(x:Int)] c
                have HVC:=Hd_ (HGX2.out lf x (bit s) (bit x) [(x:Int)] c sv [] wr HON.out HBK.out HROW.out (URel.one HX5.out x) hxl HBS.out (by have:=bit_lt (n:=5) (show x < 5 by omega);omega) hcB (by simp;omega))
                have HY:=Hd_ (fun r c' h=>(srchF_yes (k:=k) (r:=r) (c':=c') hhp h).symm.trans HR.out)
                have HO:=Hd_ (fun c' h h2=>(srchF_out (k:=k) (c':=c') hhp h h2).symm.trans HR.out)
                have HN:=Hd_ (fun c' h h2=>(srchF_on (k:=k) (c':=c') hhp h h2).symm.trans HR.out)
                generalize visit g a y B (distTo g a y) true lf x (bit s) [(x:Int)] c=V at *
                obtain ⟨o,r2⟩:=V
                simp only at hvl hvn
                clear HR hhp
                go_wp2_with fail
                refine HPX.out.mono ?_
                rintro e w5 ⟨rfl,hw5⟩
                rw [hw5]
                clear hw5 HPX
                go_wp2_with fail
                refine HVC.out.mono ?_
                rintro e wV ⟨rfl,sv6,hbk6,hrow6,-,hsr6⟩
                have hon6:=hsr6.only (fun n hn=>(HROW.out.lt n hn).1) HON.out
                have hszV:=hon6.size
                have HONT:=Hd_ hon6
                have HBKV:=Hd_ hbk6
                have lTV:=hbk6.lt
                have q9:wV.cell? ⟨bS,9,none⟩=some (.int .i64 (r2:Int)):=hbk6.cell 9
                have hbR:Blk wV (w.heap.size+1+1) 39 #[.int .i64 0,.slice none 0 0]:=HBR3.out.only hon6 (.inl hwS)
                have z0:wV.cell? ⟨w.heap.size+1+1,0,none⟩=some (.int .i64 0):=hbR.cell 0
                have z1:wV.cell? ⟨w.heap.size+1+1,1,none⟩=some (.slice none 0 0):=hbR.cell 1
                have fz0:=hbR.frozen 0
                have fz1:=hbR.frozen 1
                have lz:=hbR.lt
                have HBRV:=Hd_ hbR
                have HBV:=Hd_ (HB1.out.trans (hon6.below (B:=w.heap.size) (by omega) HB1.out.size))
                cases o with
                | some r =>
                  have HE:=Hd_ (HY.out r r2 rfl)
                  have hrl:r.length<=60:=by
                   have:=hvn r rfl
                   omega
                  clear hvn
                  rw [Option.getD_some,List.nil_append] at hrow6
                  have hown6:=Own.of_row (xs:=r) hrow6 rfl rfl
                  obtain ⟨A9,n9,c9,rfl⟩:=hown6.shape
                  have hal2:Below wV.heap.size wV (wV.alloc (.cells #[] 81)):=(Below.refl _ _).alloc (Nat.le_refl _) _
                  have HV2:=Hd_ (SlE.keep ((hown6.sl cSt_len).all (Nat.le_refl _)) hal2)
                  have HLT2:=Hd_ (World.ownsRow_lit (base:=wV.heap.size) (e:=81) (size:=2) wV #[] 0 (Nat.le_refl _) (by decide) rfl)
                  have HAL2:=Hd_ hal2
                  have z10:wV.cell? ⟨bS,10,none⟩=some (.slice A9 n9 c9):=HBKV.out.cell 10
                  clear HY HO HN hbk6 hrow6 hsr6 hon6 hbR hown6 hal2
                  go_wp2_with (at_builtin;(refine wpList_appendL cSt elStep cSt_len cSt_one rfl _ _ rfl wV.heap.size _ [] r (by rfl) HLT2.out 0 _ _ (by rfl) HV2.out (by simp;omega) (by omega) (by simp) ?_);intro v5 w5 hrow5 hgr5 hat5;have hb5:=HAL2.out.trans (own_below HLT2.out (by simp) hgr5);have bR5:=HBRV.out.keep hb5;have z0:w5.cell? ⟨w.heap.size+1+1,0,none⟩=some (.int .i64 0):=bR5.cell 0;have z1:w5.cell? ⟨w.heap.size+1+1,1,none⟩=some (.slice none 0 0):=bR5.cell 1;have fz0:=bR5.frozen 0;have fz1:=bR5.frozen 1;have lz5:=bR5.lt;have hown5:=Own.of_row (xs:=[] ++ r) hrow5 rfl rfl;obtain ⟨A7,n7,c7,hv7⟩:=hown5.shape;subst hv7;have HB5:=Hd_ hb5;have HO5:=Hd_ hown5;clear hown5 bR5 hb5 hrow5 hgr5 hat5)
                  have hon3:=((Only.refl (w.heap.size+1+1) (w.heap.size+1+1+1) w5).setCell (p:=⟨w.heap.size+1+1,0,none⟩) (.inl ⟨Nat.le_refl _,Nat.lt_succ_self _⟩) (.int .i64 (x:Int))).setCell (p:=⟨w.heap.size+1+1,1,none⟩) (.inl ⟨Nat.le_refl _,Nat.lt_succ_self _⟩) (.slice A7 n7 c7)
                  have hs5:=HB5.out.size
                  refine bodyPost_ret (v:=.tuple #[.agg #[.int .i64 (x:Int),.slice A7 n7 c7],.int .i64 1]) (by simp [results,Tryz.results71,go_sem,z0,z1]) rfl ⟨_,by rw [<- HE.out],?_,(below_trans HBV.out HB5.out).trans (hon3.below (by omega) (by omega))⟩
                  rw [<- HE.out]
                  exact ⟨_,rfl,(HO5.out.only hon3 (.inr (by omega))).mono (by omega) (by simp [World.setCell])⟩
                | none =>
                  rw [Option.getD_none,List.append_nil] at hrow6
                  have HROW6:=Hd_ hrow6
                  by_cases hcc:B<=r2
                  · have HE:=Hd_ (HO.out r2 rfl hcc)
                    have hcb:decide ((r2:Int) >= (B:Int))=true:=by simp;omega
                    clear HY HO HN hbk6 hrow6 hsr6 hon6 hbR
                    go_wp2_with fail
                    refine bodyPost_ret (v:=.tuple #[.agg #[.int .i64 0,.slice none 0 0],.int .i64 3]) (by simp [results,Tryz.results71,go_sem,z0,z1]) rfl ⟨_,by rw [<- HE.out],?_,(HBV.out.setCell (p:=⟨w.heap.size+1+1,0,none⟩) (by simp only;omega) _).setCell (p:=⟨w.heap.size+1+1,1,none⟩) (by simp only;omega) _⟩
                    rw [<- HE.out]
                    exact ⟨_,rfl,Own.nil _ _ _ _ _ _⟩
                  · have HE:=Hd_ (HN.out r2 rfl hcc)
                    have hcb:decide ((r2:Int) >= (B:Int))=false:=by simp;omega
                    clear HY HO HN hbk6 hrow6 hsr6 hon6 hbR
                    go_wp2_with fail
                    go_roundw
                    case rel=>exact ⟨lf+1,r2,k,sv6,by omega,hvl.1,by go_num,HE.out,HONT.out,HBKV.out,HROW6.out⟩
                    case measure=>simp [intOf];omega
            · obtain rfl:k=0:=by omega
              have hle:¬ (lf:Int)<=(n1:Int):=by omega
              have HE:=Hd_ ((show srchF g a y B (distTo g a y) true x (bit s) [(x:Int)] 0 lf c=((0,[]),2) from rfl).symm.trans HR.out)
              have hbR:Blk wr (w.heap.size+1+1) 39 #[.int .i64 0,.slice none 0 0]:=HBR3.out.only HON.out (.inl hwS)
              have z0:wr.cell? ⟨w.heap.size+1+1,0,none⟩=some (.int .i64 0):=hbR.cell 0
              have z1:wr.cell? ⟨w.heap.size+1+1,1,none⟩=some (.slice none 0 0):=hbR.cell 1
              have fz0:=hbR.frozen 0
              have fz1:=hbR.frozen 1
              have lz:=hbR.lt
              have HBV:=Hd_ (HB1.out.trans (HON.out.below (B:=w.heap.size) (by omega) HB1.out.size))
              clear HR hbR
              go_wp2_with fail
              refine bodyPost_ret (v:=.tuple #[.agg #[.int .i64 0,.slice none 0 0],.int .i64 2]) (by simp [results,Tryz.results71,go_sem,z0,z1]) rfl ⟨_,by rw [<- HE.out],?_,(HBV.out.setCell (p:=⟨w.heap.size+1+1,0,none⟩) (by simp only;omega) _).setCell (p:=⟨w.heap.size+1+1,1,none⟩) (by simp only;omega) _⟩
              rw [<- HE.out]
              exact ⟨_,rfl,Own.nil _ _ _ _ _ _⟩
set_option maxHeartbeats 4000000 in
set_option maxRecDepth 100000 in
theorem specSearchSimplePath (vg va:Value) (g:Gr) (a:Au) (x y BI:Int) (w:World) (hgv:GrV 0 w.heap.size w vg g) (hav:AuV 0 w.heap.size w va a) :
 Calls Tryz.prog 27 #[vg,va,.int .i64 x,.int .i64 y,.int .i64 BI] w fun e w'=>∃ v',e=.returned (.tuple #[v',.int .i64 (srchL g a x y BI true).2])/\WkO w.heap.size w'.heap.size w' v' (srchL g a x y BI true).1/\Below w.heap.size w w':=by
 have hgv0:=hgv
 have hav0:=hav
 obtain ⟨A1,n1,c1,A2,n2,c2,rfl⟩:=hgv.shape
 obtain ⟨A3,n3,c3,A4,n4,c4,rfl⟩:=hav.shape
 have hb0:Below w.heap.size w (((w.alloc (.cells #[.slice A1 n1 c1,.slice A2 n2 c2] 27)).alloc (.cells #[.int .i64 a.start,.slice A3 n3 c3,.slice A4 n4 c4] 31)).alloc (.cells #[.int .i64 0,.slice none 0 0] 39)):=(((Below.refl _ _).alloc (Nat.le_refl _) _).alloc (by simp) _).alloc (by simp;omega) _
 have bR:=Blk.new ((w.alloc (.cells #[.slice A1 n1 c1,.slice A2 n2 c2] 27)).alloc (.cells #[.int .i64 a.start,.slice A3 n3 c3,.slice A4 n4 c4] 31)) 39 #[.int .i64 0,.slice none 0 0] (w.heap.size+1+1) (by simp)
 have HC:=Hd_ (l20Find_true _ _ g a x y BI _ (hgv0.keep hb0) (hav0.keep hb0))
 generalize srchL g a x y BI true=R at *
 have HB0:=Hd_ hb0
 have HBR:=Hd_ bR
 clear hgv hav hgv0 hav0 hb0 bR
 go_enter Tryz.func27,Tryz.ntmps27
 go_wp2_with fail
 refine HC.out.mono ?_
 rintro e w1 ⟨v1,rfl,⟨ss,rfl,hown⟩,hb1⟩
 have hb2:=below_trans HB0.out hb1
 have bR:=HBR.out.keep hb1
 have hs1:w.heap.size+1+1 < w1.heap.size:=bR.lt
 have hs0:w.heap.size+1+1+1<=w1.heap.size:=hs1
 obtain ⟨A9,n9,c9,rfl⟩:=hown.shape
 have z0:w1.cell? ⟨w.heap.size+1+1,0,none⟩=some (.int .i64 0):=bR.cell 0
 have z1:w1.cell? ⟨w.heap.size+1+1,1,none⟩=some (.slice none 0 0):=bR.cell 1
 have fz0:=bR.frozen 0
 have fz1:=bR.frozen 1
 have HO:=Hd_ (hown.mono (lo':=w.heap.size+1+1+1) (by simp) (Nat.le_refl _))
 have HB:=Hd_ hb2
 have HBR1:=Hd_ bR
 clear bR hb1 hb2 hown HC HB0 HBR
 go_wp2_with fail
 have hon3:=((Only.refl (w.heap.size+1+1) (w.heap.size+1+1+1) w1).setCell (p:=⟨w.heap.size+1+1,0,none⟩) (.inl ⟨Nat.le_refl _,Nat.lt_succ_self _⟩) (.int .i64 R.1.1)).setCell (p:=⟨w.heap.size+1+1,1,none⟩) (.inl ⟨Nat.le_refl _,Nat.lt_succ_self _⟩) (.slice A9 n9 c9)
 have hon4:=hon3.alloc (.cells #[.int .i64 R.1.1,.slice A9 n9 c9] 39)
 have bR3:Blk (((w1.setCell ⟨w.heap.size+1+1,0,none⟩ (.int .i64 R.1.1)).setCell ⟨w.heap.size+1+1,1,none⟩ (.slice A9 n9 c9)).alloc (.cells #[.int .i64 R.1.1,.slice A9 n9 c9] 39)) (w.heap.size+1+1) 39 #[.int .i64 R.1.1,.slice A9 n9 c9]:=((HBR1.out.set_ 0 (.int .i64 R.1.1)).set_ 1 (.slice A9 n9 c9)).alloc _
 generalize ((w1.setCell ⟨w.heap.size+1+1,0,none⟩ (.int .i64 R.1.1)).setCell ⟨w.heap.size+1+1,1,none⟩ (.slice A9 n9 c9)).alloc (.cells #[.int .i64 R.1.1,.slice A9 n9 c9] 39)=W3 at *
 have hz0:W3.cell? ⟨w.heap.size+1+1,0,none⟩=some (.int .i64 R.1.1):=bR3.cell 0
 have hz1:W3.cell? ⟨w.heap.size+1+1,1,none⟩=some (.slice A9 n9 c9):=bR3.cell 1
 refine bodyPost_ret (v:=.tuple #[.agg #[.int .i64 R.1.1,.slice A9 n9 c9],.int .i64 R.2]) (by simp [results,Tryz.results27,go_sem,hz0,hz1]) rfl ⟨_,rfl,?_,HB.out.trans (hon4.below (by omega) (by omega))⟩
 exact ⟨_,rfl,(HO.out.only hon4 (.inr (Nat.le_refl _))).mono (by omega) hon4.size⟩
set_option maxHeartbeats 1000000 in
theorem l5Step_any (a b:St) (w:World) :
 Calls Tryz.prog 55 #[.agg #[.int .i64 a.1,.bool a.2],.agg #[.int .i64 b.1,.bool b.2]] w fun e w'=>e=.returned (.int .i64 (cmpSt a b))/\Below w.heap.size w w':=by
 obtain ⟨a1,a2⟩:=a
 obtain ⟨b1,b2⟩:=b
 have hb0:Below w.heap.size w ((w.alloc (.cells #[.int .i64 a1,.bool a2] 81)).alloc (.cells #[.int .i64 b1,.bool b2] 81)):=((Below.refl _ _).alloc (Nat.le_refl _) _).alloc (by simp) _
 simp only
 by_cases h1:a1 < b1
 · have hres:cmpSt (a1,a2) (b1,b2)=-1:=if_pos h1
   rw [hres]
   clear hres
   go_enter Tryz.func55,Tryz.ntmps55
   go_wp2
   go_ret
   exact ⟨rfl,hb0⟩
 by_cases h2:b1 < a1
 · have hres:cmpSt (a1,a2) (b1,b2)=1:=by rw [cmpSt,if_neg h1,if_pos h2]
   rw [hres]
   clear hres
   go_enter Tryz.func55,Tryz.ntmps55
   go_wp2
   go_ret
   exact ⟨rfl,hb0⟩
 have hres:cmpSt (a1,a2) (b1,b2)=if a2=b2 then 0 else if b2=true then -1 else 1:=by rw [cmpSt,if_neg h1,if_neg h2]
 rw [hres]
 clear hres
 cases a2 <;> cases b2 <;> simp only [if_true,if_false,reduceCtorEq] <;> (go_enter Tryz.func55,Tryz.ntmps55;go_wp2;go_ret;exact ⟨rfl,hb0⟩)
set_option maxHeartbeats 2000000 in
theorem specCompareWalks (v1 v2:Value) (k j:Wk) (w:World) (hv1:WkV 0 w.heap.size w v1 k) (hv2:WkV 0 w.heap.size w v2 j) :
 Calls Tryz.prog 14 #[v1,v2] w fun e w'=>e=.returned (.int .i64 (cmpWk k j))/\Below w.heap.size w w':=by
 obtain ⟨ss1,rfl,hs1⟩:=hv1
 obtain ⟨ss2,rfl,hs2⟩:=hv2
 obtain ⟨x,A⟩:=k
 obtain ⟨y,B⟩:=j
 simp only at hs1 hs2 ⊢
 obtain ⟨A1,c1,rfl,hl1,hm1,hx1⟩:=hs1
 obtain ⟨A2,c2,rfl,hl2,hm2,hx2⟩:=hs2
 unfold maxLen at hm1 hm2
 have hb0:Below w.heap.size w ((w.alloc (.cells #[.int .i64 x,.slice A1 A.length c1] 39)).alloc (.cells #[.int .i64 y,.slice A2 B.length c2] 39)):=((Below.refl _ _).alloc (Nat.le_refl _) _).alloc (by simp) _
 by_cases h1:A.length < B.length
 · have hres:cmpWk (x,A) (y,B)=-1:=if_pos h1
   rw [hres]
   clear hres hx1 hx2
   go_enter Tryz.func14,Tryz.ntmps14
   go_wp2
   go_ret
   exact ⟨rfl,hb0⟩
 by_cases h2:B.length < A.length
 · have hres:cmpWk (x,A) (y,B)=1:=by rw [cmpWk,if_neg h1,if_pos h2]
   rw [hres]
   clear hres hx1 hx2
   go_enter Tryz.func14,Tryz.ntmps14
   go_wp2
   go_ret
   exact ⟨rfl,hb0⟩
 by_cases h3:x < y
 · have hres:cmpWk (x,A) (y,B)=-1:=by rw [cmpWk,if_neg h1,if_neg h2,if_pos h3]
   rw [hres]
   clear hres hx1 hx2
   go_enter Tryz.func14,Tryz.ntmps14
   go_wp2
   go_ret
   exact ⟨rfl,hb0⟩
 by_cases h4:y < x
 · have hres:cmpWk (x,A) (y,B)=1:=by rw [cmpWk,if_neg h1,if_neg h2,if_neg h3,if_pos h4]
   rw [hres]
   clear hres hx1 hx2
   go_enter Tryz.func14,Tryz.ntmps14
   go_wp2
   go_ret
   exact ⟨rfl,hb0⟩
 have hres:cmpWk (x,A) (y,B)=cmpSts (A.drop 0) (B.drop 0):=by rw [cmpWk,if_neg h1,if_neg h2,if_neg h3,if_neg h4];rfl
 obtain ⟨R,hR⟩:∃ R,R=cmpWk (x,A) (y,B):=⟨_,rfl⟩
 rw [<- hR] at hres ⊢
 have hlen:A.length=B.length:=by omega
 have HLEN:=Hd_ hlen
 clear hR hlen
 have HX1:=Hd_ hx1
 have HX2:=Hd_ hx2
 clear hx1 hx2
 go_enter Tryz.func14,Tryz.ntmps14
 go_wp2
 obtain ⟨W0,hW0⟩:∃ W0:World,W0=((w.alloc (.cells #[.int .i64 x,.slice A1 A.length c1] 39)).alloc (.cells #[.int .i64 y,.slice A2 B.length c2] 39)):=⟨_,rfl⟩
 have b1:Blk W0 w.heap.size 39 #[.int .i64 x,.slice A1 A.length c1]:=by rw [hW0];exact (Blk.new w _ _ w.heap.size rfl).alloc _
 have b2:Blk W0 (w.heap.size+1) 39 #[.int .i64 y,.slice A2 B.length c2]:=by rw [hW0];exact Blk.new (w.alloc _) _ _ (w.heap.size+1) (by simp)
 have x1:W0.cell? ⟨w.heap.size,1,none⟩=some (.slice A1 A.length c1):=b1.cell 1
 have x2:W0.cell? ⟨w.heap.size+1,1,none⟩=some (.slice A2 B.length c2):=b2.cell 1
 have l1:=b1.lt
 have l2:=b2.lt
 rw [<- hW0] at hb0 ⊢
 have hs:=hb0.size
 have HCK:=Hd_ (fun (b o:Nat) (hb:b < w.heap.size)=>hb0.cell (p:=⟨b,o,none⟩) hb)
 clear b1 b2 hW0
 have HB0:=Hd_ hb0
 have HH1:=Hd_ h1
 have HH2:=Hd_ h2
 clear hb0 h1 h2 h3 h4
 have HRES:=Hd_ hres
 clear hres
 go_loopw [5] (fun i wr=>∃ (t:Nat) (u:World),t<=A.length/\i=.int .i64 t/\wr=ext W0 u/\R=cmpSts (A.drop t) (B.drop t)) (fun i _=>A.length - (intOf i).toNat)
 case atStart=>exact ⟨0,W0,Nat.zero_le _,rfl,ext_self W0,HRES.out⟩
 case round =>
  obtain ⟨t,u,ht,rfl,rfl,hr⟩:=hrel
  by_cases hlt:t < A.length
  · have hta:A[t]?=some A[t]:=List.getElem?_eq_getElem hlt
    have htB:t < B.length:=by have:=HLEN.out;omega
    have htb:B[t]?=some B[t]:=List.getElem?_eq_getElem htB
    obtain ⟨q1,o1,rfl,-,hq1,hc1⟩:=HX1.out t _ hta
    obtain ⟨q2,o2,rfl,-,hq2,hc2⟩:=HX2.out t _ htb
    rw [cmpSts_drop hta htb] at hr
    generalize A[t]=sa at hr hc1
    generalize B[t]=sb at hr hc2
    have c10:=(HCK.out _ _ hq1).trans (hc1 0 _ rfl)
    have c11:=(HCK.out _ _ hq1).trans (hc1 1 _ rfl)
    have c20:=(HCK.out _ _ hq2).trans (hc2 0 _ rfl)
    have c21:=(HCK.out _ _ hq2).trans (hc2 1 _ rfl)
    simp only [Nat.add_zero] at c10 c20
    clear hc1 hc2 hta htb
    have hq1:=Nat.lt_of_lt_of_le hq1 hs
    have hq2:=Nat.lt_of_lt_of_le hq2 hs
    have HL:=Hd_ (fun (W:World)=>l5Step_any sa sb W)
    generalize cmpSt sa sb=z at hr HL
    have HR:=Hd_ hr
    clear hr
    by_cases hz:z=0
    · subst hz
      go_wp2
      refine wp_region_ext_lit (by kernel_rfl) (by kernel_rfl) ?_
      repeat (go_big_quiet_step ((go_at_call 55;exact Calls.ext_of (HL.out _))))
      refine wpQuiet_nil ?_
      rintro _ ⟨u2,rfl⟩
      go_wp2
      go_roundw
      case rel =>
       obtain ⟨y',hy⟩:=ext_ext W0 u u2
       exact ⟨t+1,y',by omega,by go_num,hy,by have:=HR.out;simpa using this⟩
      case measure=>simp [intOf];omega
    · have hq:(z != 0)=true:=by simp [hz]
      have hres:R=z:=by have:=HR.out;rw [if_neg hz] at this;exact this
      have HZ:=Hd_ hres
      clear hres hz
      go_wp2
      refine wp_region_ext_lit (by kernel_rfl) (by kernel_rfl) ?_
      repeat (go_big_quiet_step ((go_at_call 55;exact Calls.ext_of (HL.out _))))
      refine wpQuiet_nil ?_
      rintro _ ⟨u2,rfl⟩
      go_wp2
      go_ret
      obtain ⟨y',hy⟩:=ext_ext W0 u u2
      exact ⟨by rw [HZ.out];rfl,by rw [hy];exact below_trans HB0.out (ext_below _ _)⟩
  · obtain rfl:t=A.length:=by omega
    have hres:R=0:=by rw [hr,List.drop_eq_nil_of_le (Nat.le_refl _)];rfl
    have HZ:=Hd_ hres
    clear hres hr
    go_wp2
    go_ret
    exact ⟨by rw [HZ.out];rfl,below_trans HB0.out (ext_below _ _)⟩
set_option maxHeartbeats 4000000 in
set_option maxRecDepth 100000 in
theorem implCountSimplePaths (vg va:Value) (g:Gr) (a:Au) (x y:Int) (w:World) (hgv:GrV 0 w.heap.size w vg g) (hav:AuV 0 w.heap.size w va a) :
 Calls Tryz.prog 28 #[vg,va,.int .i64 x,.int .i64 y] w fun e w'=>e=.returned (.int .i64 (cntSimple g a x y))/\Below w.heap.size w w':=by
 have hgv0:=hgv
 have hav0:=hav
 obtain ⟨A1,n1,c1,A2,n2,c2,rfl⟩:=hgv.shape
 obtain ⟨ac,nx,rfl,hac,hnx⟩:=hav
 obtain ⟨A3,c3,rfl,-,-,-⟩:=SlE.form hac
 obtain ⟨A4,n4,c4,rfl⟩:=hnx.shape
 have hb0:Below w.heap.size w ((w.alloc (.cells #[.slice A1 n1 c1,.slice A2 n2 c2] 27)).alloc (.cells #[.int .i64 a.start,.slice A3 a.accept.length c3,.slice A4 n4 c4] 31)):=((Below.refl _ _).alloc (Nat.le_refl _) _).alloc (by simp) _
 have hb1:=hb0.alloc hb0.size (.cells #[.int .i64 x,.int .i64 y] 3)
 have hst:SlE (((w.alloc (.cells #[.slice A1 n1 c1,.slice A2 n2 c2] 27)).alloc (.cells #[.int .i64 a.start,.slice A3 a.accept.length c3,.slice A4 n4 c4] 31)).alloc (.cells #[.int .i64 x,.int .i64 y] 3)) cI 1 (.slice (some ⟨w.heap.size+1+1,0,none⟩) 2 2) [x,y]:=by
  have h:=lit_sl ((w.alloc (.cells #[.slice A1 n1 c1,.slice A2 n2 c2] 27)).alloc (.cells #[.int .i64 a.start,.slice A3 a.accept.length c3,.slice A4 n4 c4] 31)) 3 [x,y] (by unfold maxLen;simp)
  simpa using h
 have hbo:=bothOk_any _ _ _ g a [x,y] _ (hgv0.keep hb1) (hav0.keep hb1) hst
 have HBO:=Hd_ hbo
 have HGV:=Hd_ hgv0
 have HAV:=Hd_ hav0
 clear hgv hac hnx hgv0 hav0 hbo hst
 cases hk:([x,y].all (fun s=>wi s 0 ((g.vals.length:Int) - 1)) && (grOk g && auOk a)) with
 | false =>
   rw [hk] at HBO
   have hfin:cntSimple g a x y=0:=by unfold cntSimple;rw [if_neg];simpa [cntOk,Bool.and_assoc] using hk
   have HF:=Hd_ hfin
   clear hk hfin
   go_enter Tryz.func28,Tryz.ntmps28
   go_wp2_with fail
   refine HBO.out.mono ?_
   rintro e w1 ⟨rfl,hb2⟩
   go_wp2_with fail
   go_ret
   exact ⟨by rw [HF.out];rfl,below_trans hb1 hb2⟩
 | true =>
   rw [hk] at HBO
   simp only [List.all_cons,List.all_nil,Bool.and_true,Bool.and_eq_true] at hk
   obtain ⟨⟨hx,hy⟩,hgo,hao⟩:=hk
   have hok:cntOk g a x y=true:=by rw [cntOk,hx,hy,hgo,hao];rfl
   rw [wi_iff] at hx hy
   have hgo2:=grOk_iff.1 hgo
   obtain ⟨x,rfl⟩:=Int.eq_ofNat_of_zero_le hx.1
   have hxl:x < g.vals.length:=by omega
   have hn5:=hgo2.n5
   obtain ⟨⟨hm1,hm12⟩,⟨hst0,hst1⟩,-,-⟩:=auOk_iff.1 hao
   obtain ⟨s,hs⟩:∃ s:Nat,a.start=(s:Int):=⟨a.start.toNat,by omega⟩
   have hsl:s < a.accept.length:=by omega
   obtain ⟨R,hR⟩:∃ R,R=cntSimple g a (x:Int) y:=⟨_,rfl⟩
   rw [<- hR]
   have hfin:R=cnt g a y 32 x (bit s) (bit x):=by rw [hR,cntSimple,if_pos hok,hs];rfl
   have hbx:bit x < 32:=bit_lt (n:=5) (by omega)
   have hbs:=bit_lt hsl
   have HREC:=Hd_ (fun (lv uv:Value) (W:World) (hW:Below w.heap.size w W) h1 h2=>countSimple_any g a y hgo hao 32 x (bit s) (bit x) [(x:Int)] _ _ lv uv W (HGV.out.keep hW) (HAV.out.keep hW) h1 h2 (fun t=>by
    rw [bit_test]
    by_cases e:x=t
    · subst e;simp
    · have e':¬ (t:Int)=(x:Int):=by omega
      simp [e,e']) (by simp) hxl hbs hbx (by omega))
   have HGO:=Hd_ hgo2
   have HF:=Hd_ hfin
   clear hgo hgo2 hao hfin hx hy hok hR hst0 hst1 hbx hbs
   generalize a.start=st at *
   subst hs
   have e1:=Hd_ (shl_bit (s:=s) (by omega))
   have e2:=Hd_ (shl_bit2 (s:=s) (by omega))
   have e3:=Hd_ (shl_bit3 (s:=s) (by omega))
   go_enter Tryz.func28,Tryz.ntmps28
   go_wp2_with fail
   refine HBO.out.mono ?_
   rintro e w1 ⟨rfl,hb2⟩
   have hb3:=below_trans hb1 hb2
   have b0:=(((Blk.new w 27 #[.slice A1 n1 c1,.slice A2 n2 c2] w.heap.size rfl).alloc (.cells #[.int .i64 (s:Int),.slice A3 a.accept.length c3,.slice A4 n4 c4] 31)).alloc (.cells #[.int .i64 (x:Int),.int .i64 y] 3)).keep hb2
   have b1:=((Blk.new (w.alloc (.cells #[.slice A1 n1 c1,.slice A2 n2 c2] 27)) 31 #[.int .i64 (s:Int),.slice A3 a.accept.length c3,.slice A4 n4 c4] (w.heap.size+1) (by simp)).alloc (.cells #[.int .i64 (x:Int),.int .i64 y] 3)).keep hb2
   have x0:w1.cell? ⟨w.heap.size,0,none⟩=some (.slice A1 n1 c1):=by exact b0.cell 0
   have x1:w1.cell? ⟨w.heap.size,1,none⟩=some (.slice A2 n2 c2):=by exact b0.cell 1
   have y0:w1.cell? ⟨w.heap.size+1,0,none⟩=some (.int .i64 (s:Int)):=by exact b1.cell 0
   have y1:w1.cell? ⟨w.heap.size+1,1,none⟩=some (.slice A3 a.accept.length c3):=by exact b1.cell 1
   have y2:w1.cell? ⟨w.heap.size+1,2,none⟩=some (.slice A4 n4 c4):=by exact b1.cell 2
   clear hb0 hb1 hb2 b0 b1 HBO
   go_wp2_with fail
   have s1:=e1.out
   have s2:=e2.out
   have s3:=e3.out
   refine F_start 12 (fun w'=>w'.cell? ⟨w.heap.size,0,none⟩=some (.slice A1 n1 c1)/\w'.cell? ⟨w.heap.size,1,none⟩=some (.slice A2 n2 c2)/\w'.cell? ⟨w.heap.size+1,0,none⟩=some (.int .i64 (s:Int))/\w'.cell? ⟨w.heap.size+1,1,none⟩=some (.slice A3 a.accept.length c3)/\w'.cell? ⟨w.heap.size+1,2,none⟩=some (.slice A4 n4 c4)) (by kernel_rfl) (by exact ⟨x0,x1,y0,y1,y2⟩) (fun hS inv=>?_)
   refine F_tk 0 inv ?_
   try simp only [tA,tB,tC,Act.put,tE,tF,tG]
   clear inv;intro inv
   refine F_tk 1 inv ?_
   try simp only [tA,tB,tC,Act.put,tE,tF,tG]
   clear inv;intro inv
   refine F_tk 2 inv ?_
   try simp only [tA,tB,tC,Act.put,tE,tF,tG]
   clear inv;intro inv
   refine F_tk 4 inv ?_
   try simp only [tA,tB,tC,Act.put,tE,tF,tG]
   clear inv;intro inv
   refine F_tk 5 inv ?_
   try simp only [tA,tB,tC,Act.put,tE,tF,tG]
   clear inv;intro inv
   refine F_tk 6 inv ?_
   try simp only [tA,tB,tC,Act.put,tE,tF,tG]
   clear inv;intro inv
   refine F_tk 7 inv ?_
   try simp only [tA,tB,tC,Act.put,tE,tF,tG]
   clear inv;intro inv
   refine F_tk 8 inv ?_
   try simp only [tA,tB,tC,Act.put,tE,tF,tG]
   clear inv;intro inv
   refine F_tk 9 inv ?_
   try simp only [tA,tB,tC,Act.put,tE,tF,tG]
   clear inv;intro inv
   refine F_two (i:=3) (j:=10) (by kernel_rfl) rfl rfl rfl rfl (by omega) inv (fun K hK=>?_) (fun K hK=>?_)
   all_goals (try simp only [tA,tB,tC])
   · go_simp
     refine (arcs_any _ g _ (GrV.keep (w':=w1.drew) HGV.out hb3.drew) HGO.out).mono ?_
     rintro e wA ⟨vA,rfl,hsA,hbA⟩
     refine hK.out _ _ (kB5 hbA hS) (fun _ _=>?_)
     try simp only [tA,tB,tC,Act.put,tE,tF,tG]
     clear hK K inv hS;rename_i hS inv
     refine F_o1 10 inv ?_;intro K hK
     try simp only [tA,tB,tC]
     go_simp
     refine hK.out _ _ (kA5 _ hS) (fun _ _=>?_)
     try simp only [tA,tB,tC,Act.put,tE,tF,tG]
     clear hK K inv hS;rename_i hS inv
     refine F_o1 11 inv ?_;intro K hK
     try simp only [tA,tB,tC]
     go_simp
     have hbl:Below wA.heap.size wA (wA.alloc (.cells #[.int .i64 (x:Int)] 3)):=(Below.refl _ _).alloc (Nat.le_refl _) _
     have hbW:=below_trans hb3.drew (below_trans hbA hbl)
     refine (HREC.out vA _ _ hbW ((hsA.mono (Nat.zero_le _) (Nat.le_refl _)).keep hbl) (lit_sl wA _ [(x:Int)] (by unfold maxLen;simp))).mono ?_
     rintro e wD ⟨rfl,hbD⟩
     have hbF:=below_trans hbW hbD
     refine hK.out _ _ (kB5 hbD hS) (fun _ _=>?_)
     try simp only [tA,tB,tC,Act.put,tE,tF,tG]
     clear hK K inv hS;rename_i hS inv
     refine F_l1 12 ?_;intro K hK
     go_simp
     refine hK _ _ ?_
     clear hK K inv hS
     clear s1 s2 s3
     go_wp2_with fail
     go_ret
     exact ⟨by rw [HF.out];rfl,hbF⟩
   · go_simp
     have hla:=lit_sl w1.drew 3 [(x:Int)] (by unfold maxLen;simp)
     have hba:=(Below.refl w1.drew.heap.size w1.drew).alloc (Nat.le_refl _) (.cells #[.int .i64 (x:Int)] 3)
     have hbz:=below_trans hb3.drew hba
     refine hK.out _ _ (kA5 _ hS) (fun _ _=>?_)
     try simp only [tA,tB,tC,Act.put,tE,tF,tG]
     clear hK K inv hS;rename_i hS inv
     refine F_o1 3 inv ?_;intro K hK
     try simp only [tA,tB,tC]
     go_simp
     refine (arcs_any _ g _ (HGV.out.keep hbz) HGO.out).mono ?_
     rintro e wA ⟨vA,rfl,hsA,hbA⟩
     refine hK.out _ _ (kB5 hbA hS) (fun _ _=>?_)
     try simp only [tA,tB,tC,Act.put,tE,tF,tG]
     clear hK K inv hS;rename_i hS inv
     refine F_o1 11 inv ?_;intro K hK
     try simp only [tA,tB,tC]
     go_simp
     have hbW:=below_trans hbz hbA
     refine (HREC.out vA _ _ hbW (hsA.mono (Nat.zero_le _) (Nat.le_refl _)) (SlE.keep hla hbA)).mono ?_
     rintro e wD ⟨rfl,hbD⟩
     have hbF:=below_trans hbW hbD
     refine hK.out _ _ (kB5 hbD hS) (fun _ _=>?_)
     try simp only [tA,tB,tC,Act.put,tE,tF,tG]
     clear hK K inv hS;rename_i hS inv
     refine F_l1 12 ?_;intro K hK
     go_simp
     refine hK _ _ ?_
     clear hK K inv hS
     clear s1 s2 s3
     go_wp2_with fail
     go_ret
     exact ⟨by rw [HF.out];rfl,hbF⟩
set_option maxHeartbeats 8000000 in
set_option maxRecDepth 100000 in
theorem l21Count_any (g:Gr) (a:Au) (y:Int) (hgo:grOk g=true) (ha:auOk a=true) (f:Nat):∀ (x s used:Nat) (vg va:Value) (w:World),GrV 0 w.heap.size w vg g->AuV 0 w.heap.size w va a->x < g.vals.length->s < 2 ^ a.accept.length->used < 32->32<=used+f ->
 Calls Tryz.prog 81 #[vg,va,.int .i64 (x:Int),.int .i64 (s:Int),.int .i64 (used:Int),.int .i64 y] w fun e w'=>e=.returned (.int .i64 (cnt g a y f x s used))/\Below w.heap.size w w':=by
 induction f with
 | zero=>intro x s used vg va w _ _ _ _ h1 h2;omega
 | succ f ih =>
   intro x s used vg va w hgv hav hx hs hu huf
   have HIH:=Hd_ ih
   have hgv0:=hgv
   have hav0:=hav
   obtain ⟨A1,n1,c1,A2,n2,c2,rfl⟩:=hgv.shape
   obtain ⟨A3,n3,c3,A4,n4,c4,rfl⟩:=hav.shape
   have hb0:Below w.heap.size w ((w.alloc (.cells #[.slice A1 n1 c1,.slice A2 n2 c2] 27)).alloc (.cells #[.int .i64 a.start,.slice A3 n3 c3,.slice A4 n4 c4] 31)):=((Below.refl _ _).alloc (Nat.le_refl _) _).alloc (by simp) _
   have HGV:=Hd_ hgv0
   have HAV:=Hd_ hav0
   have HGO:=Hd_ hgo
   have HA:=Hd_ ha
   have HS:=Hd_ hs
   have hs4:=lt12 ha hs
   have hn5:=(grOk_iff.1 hgo).n5
   have he12:=(grOk_iff.1 hgo).e12
   have HEND:=Hd_ (fun (W:World) (hW:Below w.heap.size w W)=>l18Ends_any _ _ g a x s W (hgv0.keep hW) (hav0.keep hW) hgo ha hx hs)
   have HFROM:=Hd_ (fun (W:World) (hW:Below w.heap.size w W)=>l4From_any _ g (x:Int) W (hgv0.keep hW) he12)
   obtain ⟨R,hR⟩:∃ R,R=cnt g a y (f+1) x s used:=⟨_,rfl⟩
   rw [<- hR]
   have HR:=Hd_ (hR.trans (cntTo_all g a y f x s used).symm)
   clear hgv hav hgv0 hav0 hgo ha hR hs ih
   go_enter Tryz.func81,Tryz.ntmps81
   go_upto_region 2 with fail
   obtain ⟨W0,hW0⟩:∃ W0,W0=((w.alloc (.cells #[.slice A1 n1 c1,.slice A2 n2 c2] 27)).alloc (.cells #[.int .i64 a.start,.slice A3 n3 c3,.slice A4 n4 c4] 31)):=⟨_,rfl⟩
   rw [<- hW0] at hb0 ⊢
   have x0:W0.cell? ⟨w.heap.size,0,none⟩=some (.slice A1 n1 c1):=by rw [hW0];simp
   have x1:W0.cell? ⟨w.heap.size,1,none⟩=some (.slice A2 n2 c2):=by rw [hW0];simp
   have y0:W0.cell? ⟨w.heap.size+1,0,none⟩=some (.int .i64 a.start):=by rw [hW0];simp
   have y1:W0.cell? ⟨w.heap.size+1,1,none⟩=some (.slice A3 n3 c3):=by rw [hW0];simp
   have y2:W0.cell? ⟨w.heap.size+1,2,none⟩=some (.slice A4 n4 c4):=by rw [hW0];simp
   have hs0:w.heap.size+1+1=W0.heap.size:=by rw [hW0];simp
   try rw [hs0]
   have l0:w.heap.size+1 < W0.heap.size:=by omega
   have l00:w.heap.size < W0.heap.size:=by omega
   clear hW0 hs0
   obtain ⟨BB,hBB⟩:∃ BB,BB=(decide ((x:Int)=y) && acc a s (valAt g x)):=⟨_,rfl⟩
   have HBB:=Hd_ hBB
   clear hBB
   go_cut [27] (fun b wx=>∃ u,b=.bool BB/\wx=ext W0 u)
   case first =>
    by_cases hxy:(x:Int)=y
    · have hd:decide ((x:Int)=y)=true:=decide_eq_true hxy
      have hd2:((x:Int)==y)=true:=by simp [hxy]
      have HBT:=Hd_ (HBB.out.trans (by rw [hd,Bool.true_and]))
      generalize acc a s (valAt g x)=bb at *
      clear hxy HBB
      go_wp2_with fail
      refine (HEND.out _ hb0).mono ?_
      rintro en w1 ⟨rfl,hb1⟩
      obtain ⟨u,hu⟩:=ext_of hb1
      subst hu
      go_wp2_with fail
      go_meet
      exact ⟨u,by rw [HBT.out],rfl⟩
    · have hd:decide ((x:Int)=y)=false:=decide_eq_false hxy
      have hd2:((x:Int)==y)=false:=by simp [hxy]
      have HBT:=Hd_ (HBB.out.trans (by rw [hd,Bool.false_and]))
      clear hxy HBB
      go_wp2_with fail
      go_meet
      exact ⟨W0,by rw [HBT.out],ext_self _⟩
   case rest =>
    obtain ⟨u,rfl,rfl⟩:=hcut
    have HC0:=Hd_ (show cnt0 g a y x s=if BB=true then 1 else 0 by rw [HBB.out];rfl)
    clear HBB
    go_upto_if 27 with fail
    go_cut [13] (fun n wx=>n=.int .i64 (cnt0 g a y x s)/\wx=ext W0 u)
    case first =>
     generalize cnt0 g a y x s=n0 at *
     cases BB with
     | true =>
       go_wp2_with fail
       go_meet
       exact ⟨by rw [HC0.out];rfl,rfl⟩
     | false =>
       go_wp2_with fail
       go_meet
       exact ⟨by rw [HC0.out];rfl,rfl⟩
    case rest =>
     obtain ⟨rfl,rfl⟩:=hcut
     have hN0:cnt0 g a y x s=cntTo g a y f x s used 0:=rfl
     have HN0:=Hd_ hN0
     clear hN0
     generalize cnt0 g a y x s=n0 at *
     have hbu:=below_trans hb0 (ext_below W0 u)
     go_wp2_with fail
     refine (HFROM.out _ hbu).mono ?_
     rintro en w1 ⟨v1,rfl,ho1,hb1⟩
     have hbw:=below_trans hbu hb1
     have hb1':=below_trans (ext_below W0 u) hb1
     obtain ⟨A5,c5,rfl,hl5,hm5,hC5⟩:=ho1.form cSt_len
     have hlen5:((arcsOf g (x:Int)).map (·.1)).length=(arcsOf g (x:Int)).length:=by simp
     rw [hlen5] at hl5 ⊢
     have hAL:=arcs_len (grOk_iff.1 HGO.out) (x:Int)
     have HC5:=Hd_ hC5
     have x0:=kcell hb1' x0
     have x1:=kcell hb1' x1
     have y0:=kcell hb1' y0
     have y1:=kcell hb1' y1
     have y2:=kcell hb1' y2
     have l0:=Nat.lt_of_lt_of_le l0 hb1'.size
     have l00:=Nat.lt_of_lt_of_le l00 hb1'.size
     have HBW:=Hd_ hbw
     clear hlen5 hC5 ho1 hbu hb1 hbw hb1' HC0 HFROM HEND
     go_wp2_with fail
     go_loopw [13,15] (fun nn ii wr=>∃ (i:Nat) (u:World),i<=(arcsOf g (x:Int)).length/\ii=.int .i64 (i:Int)/\nn=.int .i64 (cntTo g a y f x s used i)/\wr=ext w1 u) (fun _ ii _=>(arcsOf g (x:Int)).length - (intOf ii).toNat)
     case atStart=>exact ⟨0,w1,Nat.zero_le _,rfl,by rw [HN0.out],ext_self _⟩
     case round =>
      clear HN0
      obtain ⟨i,u,hi,rfl,rfl,rfl⟩:=hrel
      by_cases hlt:i < (arcsOf g (x:Int)).length
      · have hyi:(arcsOf g (x:Int))[i]?=some (arcsOf g (x:Int))[i]:=List.getElem?_eq_getElem hlt
        have hyr:=arc_range (grOk_iff.1 HGO.out) (List.getElem_mem hlt)
        obtain ⟨e,he,hl,ht⟩:=arc_stepEd HGO.out (List.getElem_mem hlt)
        generalize (arcsOf g (x:Int))[i]=p at hyi hyr he hl ht
        have hli:((arcsOf g (x:Int)).map (·.1))[i]?=some p.1:=by rw [List.getElem?_map,hyi];rfl
        have HTS:=Hd_ (cntTo_succ (a:=a) (y:=y) (f:=f) (s:=s) (used:=used) hyi)
        generalize cntTo g a y f x s used i=m1 at *
        obtain ⟨b5,o5,rfl,hb5,p0,p1⟩:=HC5.out.st hli
        obtain ⟨⟨sid,sinv⟩,l,t⟩:=p
        simp only at hyr he hl ht p0 p1
        obtain ⟨l,rfl⟩:=Int.eq_ofNat_of_zero_le hyr.1.1
        obtain ⟨t,rfl⟩:=Int.eq_ofNat_of_zero_le hyr.2.1
        have HNX:=Hd_ (fun (W:World) (hW:Below w.heap.size w W)=>by
         have h:=l18Next_any _ _ g a x s (sid,sinv) e l W (HGV.out.keep hW) (HAV.out.keep hW) HGO.out HA.out hx HS.out he hl
         rw [ht] at h
         exact h)
        have hM:=aft_lt HA.out s (valAt g x) l
        have hm4:=lt12 HA.out hM
        have HCN:=Hd_ (fun h=>cntC_no (g:=g) (a:=a) (rec:=cnt g a y f) (x:=x) (s:=s) (used:=used) (t:=t) (n:=m1) (p:=((sid,sinv),(l:Int),(t:Int))) rfl rfl h)
        have HCY:=Hd_ (fun h h2=>cntC_yes (g:=g) (a:=a) (rec:=cnt g a y f) (x:=x) (s:=s) (used:=used) (t:=t) (n:=m1) (p:=((sid,sinv),(l:Int),(t:Int))) rfl rfl h h2)
        simp only [Int.toNat_natCast] at HCN HCY
        generalize aft a s (valAt g x) l=M at *
        have HM:=Hd_ hM
        have hii:(i:Int) < ((arcsOf g (x:Int)).length:Int):=by omega
        clear hyi hli he hl ht hM
        go_wp2_with fail
        refine wp_region_ext_lit (by kernel_rfl) (by kernel_rfl) ?_
        repeat (go_big_quiet_step ((go_at_call 62;exact Calls.ext_of (HNX.out _ (below_trans HBW.out (below_trans (ext_below _ _) (ext_below _ _)))))))
        refine wpQuiet_nil ?_
        rintro _ ⟨u2,rfl⟩
        obtain ⟨u4,hu4⟩:=ext_of (below_trans (ext_below w1 u) (ext_below (ext w1 u) u2))
        rw [hu4]
        clear hu4 p0 p1 u u2
        by_cases hm0:M=0
        · have HE:=Hd_ (show m1=cntTo g a y f x s used (i+1) by rw [HTS.out,HCN.out (.inl hm0)])
          clear HM HNX HCN HCY HTS
          subst hm0
          go_wp2_with fail
          go_roundw
          case rel=>exact ⟨i+1,u4,by omega,by go_num,by rw [<- HE.out],rfl⟩
          case measure=>simp [intOf];omega
        · have hmi:((M:Int) != 0)=true:=by simp;omega
          cases hb:used.testBit t with
          | true =>
            have b1t:=bit_on (by omega) (by omega) hb
            have HE:=Hd_ (show m1=cntTo g a y f x s used (i+1) by rw [HTS.out,HCN.out (.inr hb)])
            clear HM HNX HCN HCY HTS hb
            go_wp2_with fail
            go_roundw
            case rel=>exact ⟨i+1,u4,by omega,by go_num,by rw [<- HE.out],rfl⟩
            case measure=>simp [intOf];omega
          | false =>
            have b1f:=bit_off (by omega) (by omega) hb
            have HE:=Hd_ (show wrap64 (m1+cnt g a y f t M (ins used t))=cntTo g a y f x s used (i+1) by rw [HTS.out,HCY.out hm0 hb])
            have hgt:=ins_gt hb
            have hlt5:ins used t < 32:=ins_lt (n:=5) hu (by omega)
            have e1':=shl_bit (s:=t) (by omega)
            have e2':=or_ins (m:=used) (s:=t) (by omega) (by omega)
            have HCA:=Hd_ (fun (W:World) (hW:Below w.heap.size w W)=>HIH.out t M (ins used t) _ _ W (HGV.out.keep hW) (HAV.out.keep hW) (by omega) HM.out hlt5 (by omega))
            generalize ins used t=U at *
            generalize cnt g a y f t M U=C at *
            clear HM HNX HCN HCY HTS hb HIH
            go_wp2_with fail
            refine wp_region_ext_lit (by kernel_rfl) (by kernel_rfl) ?_
            repeat (go_big_quiet_step ((go_at_call 81;exact Calls.ext_of (HCA.out _ (below_trans HBW.out (below_trans (ext_below _ _) (ext_below _ _)))))))
            refine wpQuiet_nil ?_
            rintro _ ⟨u5,rfl⟩
            obtain ⟨u6,hu6⟩:=ext_of (below_trans (ext_below w1 u4) (ext_below (ext w1 u4) u5))
            rw [hu6]
            go_wp2_with fail
            go_roundw
            case rel=>exact ⟨i+1,u6,by omega,by go_num,by rw [<- HE.out],rfl⟩
            case measure=>simp [intOf];omega
      · obtain rfl:i=(arcsOf g (x:Int)).length:=by omega
        rw [<- HR.out]
        go_wp2_with fail
        go_ret
        exact ⟨rfl,below_trans HBW.out (ext_below _ _)⟩
set_option maxHeartbeats 4000000 in
set_option maxRecDepth 100000 in
theorem specCountSimple (vg va:Value) (g:Gr) (a:Au) (x y:Int) (w:World) (hgv:GrV 0 w.heap.size w vg g) (hav:AuV 0 w.heap.size w va a) :
 Calls Tryz.prog 29 #[vg,va,.int .i64 x,.int .i64 y] w fun e w'=>e=.returned (.int .i64 (cntSimple g a x y))/\Below w.heap.size w w':=by
 have hgv0:=hgv
 have hav0:=hav
 obtain ⟨A1,n1,c1,A2,n2,c2,rfl⟩:=hgv.shape
 obtain ⟨A3,n3,c3,A4,n4,c4,rfl⟩:=hav.shape
 have hb0:Below w.heap.size w ((w.alloc (.cells #[.slice A1 n1 c1,.slice A2 n2 c2] 27)).alloc (.cells #[.int .i64 a.start,.slice A3 n3 c3,.slice A4 n4 c4] 31)):=((Below.refl _ _).alloc (Nat.le_refl _) _).alloc (by simp) _
 have HGV:=Hd_ hgv0
 have HAV:=Hd_ hav0
 clear hgv hav hgv0 hav0
 go_enter Tryz.func29,Tryz.ntmps29
 go_wp2_with fail
 obtain ⟨W0,hW0⟩:∃ W0,W0=((w.alloc (.cells #[.slice A1 n1 c1,.slice A2 n2 c2] 27)).alloc (.cells #[.int .i64 a.start,.slice A3 n3 c3,.slice A4 n4 c4] 31)):=⟨_,rfl⟩
 rw [<- hW0] at hb0 ⊢
 have x0:W0.cell? ⟨w.heap.size,0,none⟩=some (.slice A1 n1 c1):=by rw [hW0];simp
 have x1:W0.cell? ⟨w.heap.size,1,none⟩=some (.slice A2 n2 c2):=by rw [hW0];simp
 have y0:W0.cell? ⟨w.heap.size+1,0,none⟩=some (.int .i64 a.start):=by rw [hW0];simp
 have y1:W0.cell? ⟨w.heap.size+1,1,none⟩=some (.slice A3 n3 c3):=by rw [hW0];simp
 have y2:W0.cell? ⟨w.heap.size+1,2,none⟩=some (.slice A4 n4 c4):=by rw [hW0];simp
 have hs0:w.heap.size+1+1=W0.heap.size:=by rw [hW0];simp
 try rw [hs0]
 have l0:w.heap.size+1 < W0.heap.size:=by omega
 have l00:w.heap.size < W0.heap.size:=by omega
 clear hW0 hs0
 have hgx:=l14Good_any _ _ g a x 0 W0 (HGV.out.keep hb0) (HAV.out.keep hb0)
 have HGX:=Hd_ hgx
 clear hgx
 cases hk:goodB g a x 0 with
 | false =>
   rw [hk] at HGX
   have hfin:cntSimple g a x y=0:=by
    unfold cntSimple cntOk
    rw [if_neg]
    intro h
    rw [goodB0] at hk
    simp only [Bool.and_eq_true] at h
    simp [h] at hk
   have HF:=Hd_ hfin
   clear hk hfin
   refine HGX.out.mono ?_
   rintro e w1 ⟨rfl,hb1⟩
   go_wp2_with fail
   go_ret
   exact ⟨by rw [HF.out];rfl,below_trans hb0 hb1⟩
 | true =>
   rw [hk] at HGX
   have HK:=Hd_ hk
   clear hk
   refine HGX.out.mono ?_
   rintro e w1 ⟨rfl,hb1⟩
   have hb2:=below_trans hb0 hb1
   have x0:=kcell hb1 x0
   have x1:=kcell hb1 x1
   have y0:=kcell hb1 y0
   have y1:=kcell hb1 y1
   have y2:=kcell hb1 y2
   have l0:=Nat.lt_of_lt_of_le l0 hb1.size
   have l00:=Nat.lt_of_lt_of_le l00 hb1.size
   have hgy:=l14Good_any _ _ g a y 0 w1 (HGV.out.keep hb2) (HAV.out.keep hb2)
   have HGY:=Hd_ hgy
   clear hgy
   cases hk:goodB g a y 0 with
   | false =>
     rw [hk] at HGY
     have hfin:cntSimple g a x y=0:=by
      unfold cntSimple cntOk
      rw [if_neg]
      intro h
      rw [goodB0] at hk
      simp only [Bool.and_eq_true] at h
      simp [h] at hk
     have HF:=Hd_ hfin
     clear hk hfin
     go_wp2_with fail
     refine HGY.out.mono ?_
     rintro e w3 ⟨rfl,hb3⟩
     go_wp2_with fail
     go_ret
     exact ⟨by rw [HF.out];rfl,below_trans hb2 hb3⟩
   | true =>
     rw [hk] at HGY
     rw [goodB0] at hk
     have hk2:=HK.out
     rw [goodB0] at hk2
     simp only [Bool.and_eq_true,wi_iff] at hk hk2
     obtain ⟨hgo,hao,hy0,hy1⟩:=hk
     obtain ⟨-,-,hx0,hx1⟩:=hk2
     obtain ⟨x,rfl⟩:=Int.eq_ofNat_of_zero_le hx0
     have hst0:=(auOk_iff.1 hao).2.1
     have hm12:=(auOk_iff.1 hao).1.2
     have hn5:=(grOk_iff.1 hgo).n5
     obtain ⟨s,hs⟩:∃ s:Nat,a.start=(s:Int):=⟨a.start.toNat,by omega⟩
     have hfin:cntSimple g a (x:Int) y=cnt g a y 32 x (bit s) (bit x):=by
      unfold cntSimple
      rw [if_pos (by simp [cntOk,wi_iff,hx0,hx1,hy0,hy1,hgo,hao]),hs,Int.toNat_natCast,Int.toNat_natCast]
     have e1:=shl_bit (s:=s) (by omega)
     have e2:=shl_bit (s:=x) (by omega)
     have hbs:bit s < 2 ^ a.accept.length:=bit_lt (by omega)
     have hbx:bit x < 32:=bit_lt (n:=5) (by omega)
     have HL:=Hd_ (fun (W:World) (hW:Below w.heap.size w W)=>l21Count_any g a y hgo hao 32 x (bit s) (bit x) _ _ W (HGV.out.keep hW) (HAV.out.keep hW) (by omega) hbs hbx (by omega))
     generalize bit s=bs at *
     generalize bit x=bx at *
     have HF:=Hd_ hfin
     generalize cnt g a y 32 x bs bx=R at *
     have HST:=Hd_ hs
     rw [hs] at HL
     have E1:=Hd_ e1
     have E2:=Hd_ e2
     have hs61:s < 62:=by omega
     have hx61:x < 62:=by omega
     clear hfin hgo hao hx0 hx1 hy0 hy1 hst0 hs HK e1 e2 hbs hbx hm12 hn5
     go_wp2_with fail
     refine HGY.out.mono ?_
     rintro e w3 ⟨rfl,hb3⟩
     have hb4:=below_trans hb2 hb3
     have x0:=kcell hb3 x0
     have x1:=kcell hb3 x1
     have y0:=kcell hb3 y0
     have y1:=kcell hb3 y1
     have y2:=kcell hb3 y2
     have l0:=Nat.lt_of_lt_of_le l0 hb3.size
     have l00:=Nat.lt_of_lt_of_le l00 hb3.size
     clear hb0 hb1 hb2 hb3 HGY HGX
     go_wp2_with fail
     have e1:=E1.out
     have e2:=E2.out
     rw [HST.out] at y0
     refine wp_region_ext_lit (by kernel_rfl) (by kernel_rfl) ?_
     repeat (go_big_quiet_step ((go_at_call 81;exact Calls.ext_of (HL.out _ (below_trans hb4 (ext_below _ _))))))
     refine wpQuiet_nil ?_
     rintro _ ⟨u2,rfl⟩
     go_wp2_with fail
     go_ret
     exact ⟨by rw [HF.out];rfl,below_trans hb4 (ext_below _ _)⟩
end Go.Proofs.YtjpdembmchnbgaaGreat
namespace Go.Proofs.YtjpdembmchnbgaaGreat
theorem seat_mayEnter:Tryz.pinned.checked.prog.mayEnter=true:=by kernel_rfl
theorem seat_lifts:Tryz.pinned.checked.prog.liftsFinal=false:=by kernel_rfl
theorem seat_laidOut:laidOutB Tryz.pinned.checked.prog=true:=by kernel_rfl
theorem seat_mapsRowed:mapsRowed Tryz.pinned.checked.prog=true:=by kernel_rfl
end Go.Proofs.YtjpdembmchnbgaaGreat
