/- Parts of the proof, joined into one text: SrchT, CmpW, KeepS, LstS, Rec, Seat. -/
import Derived.Test.YtjpdembmchnbgaaGreatOnlzLCLHJDDM
import Derived.Test.YtjpdembmchnbgaaGreatOnlzAHBNCDDG
import Derived.Test.YtjpdembmchnbgaaGreatOnlzCNJBOPGO
import Derived.Test.YtjpdembmchnbgaaGreatOnlzLMCDAGBF
import Derived.Test.YtjpdembmchnbgaaGreatOnlzALGAABGJ
import Derived.Test.YtjpdembmchnbgaaGreatOnlzLPGIFOEK
import Derived.Test.YtjpdembmchnbgaaGreatOnlzALPFPLEE
import Derived.Test.YtjpdembmchnbgaaGreatOnlzAJGJOIJE
import Derived.JoinedOf
import Derived.Test.YtjpdembmchnbgaaGreatRows
set_option linter.unusedVariables false
set_option linter.unusedSimpArgs false
namespace Go.Proofs.YtjpdembmchnbgaaGreat
open Go.ChangeShapes Go.WideShapes Go.ChangeAt Go.RowKit
attribute [local go_sem] ext_cell ext_frozen ext_lt ext_lt1 ext_lt2 ext_lt3 ltn2 ltn3 ltn13 lts1 lts2 lts3
theorem Blk.set11 {w:World} {g:Nat} {t:TypeId} {c0 c1 c2 c3 c4 c5 c6 c7 c8 c9 c10:Value} (h:Blk w g t #[c0,c1,c2,c3,c4,c5,c6,c7,c8,c9,c10]) (d0 d1 d2 d3 d4 d5 d6 d7 d8 d9 d10:Value):Blk (((((((((((w.setCell ⟨g,0,none⟩ d0).setCell ⟨g,1,none⟩ d1).setCell ⟨g,2,none⟩ d2).setCell ⟨g,3,none⟩ d3).setCell ⟨g,4,none⟩ d4).setCell ⟨g,5,none⟩ d5).setCell ⟨g,6,none⟩ d6).setCell ⟨g,7,none⟩ d7).setCell ⟨g,8,none⟩ d8).setCell ⟨g,9,none⟩ d9).setCell ⟨g,10,none⟩ d10) g t #[d0,d1,d2,d3,d4,d5,d6,d7,d8,d9,d10]:=by
 have h2:=(((((((((((h.set_ 0 d0).set_ 1 d1).set_ 2 d2).set_ 3 d3).set_ 4 d4).set_ 5 d5).set_ 6 d6).set_ 7 d7).set_ 8 d8).set_ 9 d9).set_ 10 d10)
 simpa using h2
theorem Only.set11 (w:World) (g:Nat) (d0 d1 d2 d3 d4 d5 d6 d7 d8 d9 d10:Value):Only g (g+1) w (((((((((((w.setCell ⟨g,0,none⟩ d0).setCell ⟨g,1,none⟩ d1).setCell ⟨g,2,none⟩ d2).setCell ⟨g,3,none⟩ d3).setCell ⟨g,4,none⟩ d4).setCell ⟨g,5,none⟩ d5).setCell ⟨g,6,none⟩ d6).setCell ⟨g,7,none⟩ d7).setCell ⟨g,8,none⟩ d8).setCell ⟨g,9,none⟩ d9).setCell ⟨g,10,none⟩ d10):=(((((((((((Only.refl _ _ _).setCell (p:=⟨g,0,none⟩) (.inl ⟨Nat.le_refl _,Nat.lt_succ_self _⟩) d0).setCell (p:=⟨g,1,none⟩) (.inl ⟨Nat.le_refl _,Nat.lt_succ_self _⟩) d1).setCell (p:=⟨g,2,none⟩) (.inl ⟨Nat.le_refl _,Nat.lt_succ_self _⟩) d2).setCell (p:=⟨g,3,none⟩) (.inl ⟨Nat.le_refl _,Nat.lt_succ_self _⟩) d3).setCell (p:=⟨g,4,none⟩) (.inl ⟨Nat.le_refl _,Nat.lt_succ_self _⟩) d4).setCell (p:=⟨g,5,none⟩) (.inl ⟨Nat.le_refl _,Nat.lt_succ_self _⟩) d5).setCell (p:=⟨g,6,none⟩) (.inl ⟨Nat.le_refl _,Nat.lt_succ_self _⟩) d6).setCell (p:=⟨g,7,none⟩) (.inl ⟨Nat.le_refl _,Nat.lt_succ_self _⟩) d7).setCell (p:=⟨g,8,none⟩) (.inl ⟨Nat.le_refl _,Nat.lt_succ_self _⟩) d8).setCell (p:=⟨g,9,none⟩) (.inl ⟨Nat.le_refl _,Nat.lt_succ_self _⟩) d9).setCell (p:=⟨g,10,none⟩) (.inl ⟨Nat.le_refl _,Nat.lt_succ_self _⟩) d10
set_option maxHeartbeats 16000000 in
set_option maxRecDepth 100000 in
theorem l20Find_false (vg va:Value) (g:Gr) (a:Au) (x y BI:Int) (w:World) (hgv:GrV 0 w.heap.size w vg g) (hav:AuV 0 w.heap.size w va a) :
 Calls Tryz.prog 71 #[vg,va,.int .i64 x,.int .i64 y,.int .i64 BI,.bool false] w fun e w'=>∃ v',e=.returned (.tuple #[v',.int .i64 (srchL g a x y BI false).2])/\WkO w.heap.size w'.heap.size w' v' (srchL g a x y BI false).1/\Below w.heap.size w w':=by
 have hgv0:=hgv
 have hav0:=hav
 obtain ⟨A1,c1,A2,c2,rfl,hl1,hm1,hl2,hm2,-,-⟩:=hgv.form
 obtain ⟨R,hR⟩:∃ R,R=srchL g a x y BI false:=⟨_,rfl⟩
 rw [<- hR]
 cases hao:auOk a with
 | false =>
   obtain ⟨A3,n3,c3,A4,n4,c4,rfl⟩:=hav.shape
   have hb0:Below w.heap.size w (((w.alloc (.cells #[.slice A1 g.vals.length c1,.slice A2 g.edges.length c2] 27)).alloc (.cells #[.int .i64 a.start,.slice A3 n3 c3,.slice A4 n4 c4] 31)).alloc (.cells #[.int .i64 0,.slice none 0 0] 39)):=(((Below.refl _ _).alloc (Nat.le_refl _) _).alloc (by simp) _).alloc (by simp;omega) _
   have HGV:=Hd_ hgv0
   have HAV:=Hd_ hav0
   have HRR:=Hd_ hR
   clear hgv hav hgv0 hav0 hR
   go_enter Tryz.func71,Tryz.ntmps71
   go_wp2_with fail
   obtain ⟨W0,hW0⟩:∃ W0,W0=(((w.alloc (.cells #[.slice A1 g.vals.length c1,.slice A2 g.edges.length c2] 27)).alloc (.cells #[.int .i64 a.start,.slice A3 n3 c3,.slice A4 n4 c4] 31)).alloc (.cells #[.int .i64 0,.slice none 0 0] 39)):=⟨_,rfl⟩
   rw [<- hW0] at hb0 ⊢
   have bG:Blk W0 w.heap.size 27 #[.slice A1 g.vals.length c1,.slice A2 g.edges.length c2]:=by rw [hW0];exact ((Blk.new w _ _ w.heap.size rfl).alloc _).alloc _
   have bA:Blk W0 (w.heap.size+1) 31 #[.int .i64 a.start,.slice A3 n3 c3,.slice A4 n4 c4]:=by rw [hW0];exact (Blk.new (w.alloc _) _ _ (w.heap.size+1) (by simp)).alloc _
   have bR:Blk W0 (w.heap.size+1+1) 39 #[.int .i64 0,.slice none 0 0]:=by rw [hW0];exact Blk.new ((w.alloc _).alloc _) _ _ (w.heap.size+1+1) (by simp)
   clear hW0
   have HGX:=Hd_ (l14Good_any _ _ g a x 0 W0 (HGV.out.keep hb0) (HAV.out.keep hb0))
   have hgb:goodB g a x 0=false:=by rw [goodB,hao];simp
   rw [hgb] at HGX
   refine HGX.out.mono ?_
   rintro e W9 ⟨rfl,hb1⟩
   have bR:=bR.keep hb1
   have bG:=bG.keep hb1
   have bA:=bA.keep hb1
   have hb9:=below_trans hb0 hb1
   have hfin:srchL g a x y BI false=((0,[]),0):=by rw [srchL,if_neg];rw [srchOk,cntOk];intro hh;simp only [Bool.and_eq_true] at hh;simp [hao] at hh
   have z0:W9.cell? ⟨w.heap.size+1+1,0,none⟩=some (.int .i64 0):=bR.cell 0
   have z1:W9.cell? ⟨w.heap.size+1+1,1,none⟩=some (.slice none 0 0):=bR.cell 1
   have fz0:=bR.frozen 0
   have fz1:=bR.frozen 1
   have lz:=bR.lt
   have HF:=Hd_ (HRR.out.trans hfin)
   have HBV:=Hd_ hb9
   clear bR bG bA hb9 hfin
   go_wp2_with fail
   refine bodyPost_ret (v:=.tuple #[.agg #[.int .i64 0,.slice none 0 0],.int .i64 0]) (by simp [results,Tryz.results71,go_sem,z0,z1]) rfl ⟨_,by rw [HF.out],?_,(HBV.out.setCell (p:=⟨w.heap.size+1+1,0,none⟩) (by simp only;omega) _).setCell (p:=⟨w.heap.size+1+1,1,none⟩) (by simp only;omega) _⟩
   rw [HF.out]
   exact ⟨_,rfl,Own.nil _ _ _ _ _ _⟩
 | true =>
   obtain ⟨A3,c3,A4,c4,rfl,-,-,-,-,-⟩:=hav.form hao
   have hb0:Below w.heap.size w (((w.alloc (.cells #[.slice A1 g.vals.length c1,.slice A2 g.edges.length c2] 27)).alloc (.cells #[.int .i64 a.start,.slice A3 a.accept.length c3,.slice A4 a.accept.length c4] 31)).alloc (.cells #[.int .i64 0,.slice none 0 0] 39)):=(((Below.refl _ _).alloc (Nat.le_refl _) _).alloc (by simp) _).alloc (by simp;omega) _
   have HGV:=Hd_ hgv0
   have HAV:=Hd_ hav0
   have HRR:=Hd_ hR
   clear hgv hav hgv0 hav0 hR
   go_enter Tryz.func71,Tryz.ntmps71
   go_wp2_with fail
   obtain ⟨W0,hW0⟩:∃ W0,W0=(((w.alloc (.cells #[.slice A1 g.vals.length c1,.slice A2 g.edges.length c2] 27)).alloc (.cells #[.int .i64 a.start,.slice A3 a.accept.length c3,.slice A4 a.accept.length c4] 31)).alloc (.cells #[.int .i64 0,.slice none 0 0] 39)):=⟨_,rfl⟩
   rw [<- hW0] at hb0 ⊢
   have bG:Blk W0 w.heap.size 27 #[.slice A1 g.vals.length c1,.slice A2 g.edges.length c2]:=by rw [hW0];exact ((Blk.new w _ _ w.heap.size rfl).alloc _).alloc _
   have bA:Blk W0 (w.heap.size+1) 31 #[.int .i64 a.start,.slice A3 a.accept.length c3,.slice A4 a.accept.length c4]:=by rw [hW0];exact (Blk.new (w.alloc _) _ _ (w.heap.size+1) (by simp)).alloc _
   have bR:Blk W0 (w.heap.size+1+1) 39 #[.int .i64 0,.slice none 0 0]:=by rw [hW0];exact Blk.new ((w.alloc _).alloc _) _ _ (w.heap.size+1+1) (by simp)
   clear hW0
   have HGX:=Hd_ (l14Good_any _ _ g a x 0 W0 (HGV.out.keep hb0) (HAV.out.keep hb0))
   cases hk:goodB g a x 0 with
   | false =>
     rw [hk] at HGX
     refine HGX.out.mono ?_
     rintro e W9 ⟨rfl,hb1⟩
     have bR:=bR.keep hb1
     have bG:=bG.keep hb1
     have bA:=bA.keep hb1
     have hb9:=below_trans hb0 hb1
     have hfin:srchL g a x y BI false=((0,[]),0):=by rw [srchL,if_neg];rw [srchOk,cntOk];intro hh;simp only [Bool.and_eq_true] at hh;rw [goodB0] at hk;simp [hh] at hk
     have z0:W9.cell? ⟨w.heap.size+1+1,0,none⟩=some (.int .i64 0):=bR.cell 0
     have z1:W9.cell? ⟨w.heap.size+1+1,1,none⟩=some (.slice none 0 0):=bR.cell 1
     have fz0:=bR.frozen 0
     have fz1:=bR.frozen 1
     have lz:=bR.lt
     have HF:=Hd_ (HRR.out.trans hfin)
     have HBV:=Hd_ hb9
     clear bR bG bA hb9 hfin
     go_wp2_with fail
     refine bodyPost_ret (v:=.tuple #[.agg #[.int .i64 0,.slice none 0 0],.int .i64 0]) (by simp [results,Tryz.results71,go_sem,z0,z1]) rfl ⟨_,by rw [HF.out],?_,(HBV.out.setCell (p:=⟨w.heap.size+1+1,0,none⟩) (by simp only;omega) _).setCell (p:=⟨w.heap.size+1+1,1,none⟩) (by simp only;omega) _⟩
     rw [HF.out]
     exact ⟨_,rfl,Own.nil _ _ _ _ _ _⟩
   | true =>
     rw [hk] at HGX
     refine HGX.out.mono ?_
     rintro e W9 ⟨rfl,hb1⟩
     have bR:=bR.keep hb1
     have bG:=bG.keep hb1
     have bA:=bA.keep hb1
     have hb9:=below_trans hb0 hb1
     have x0:W9.cell? ⟨w.heap.size,0,none⟩=some (.slice A1 g.vals.length c1):=bG.cell 0
     have x1:W9.cell? ⟨w.heap.size,1,none⟩=some (.slice A2 g.edges.length c2):=bG.cell 1
     have y0:W9.cell? ⟨w.heap.size+1,0,none⟩=some (.int .i64 a.start):=bA.cell 0
     have y1:W9.cell? ⟨w.heap.size+1,1,none⟩=some (.slice A3 a.accept.length c3):=bA.cell 1
     have y2:W9.cell? ⟨w.heap.size+1,2,none⟩=some (.slice A4 a.accept.length c4):=bA.cell 2
     have l0:=bG.lt
     have l00:=bA.lt
     have HGY:=Hd_ (l14Good_any _ _ g a y 0 W9 (HGV.out.keep hb9) (HAV.out.keep hb9))
     clear hb1 hb0 HGX
     go_wp2_with fail
     cases hk2:goodB g a y 0 with
     | false =>
       rw [hk2] at HGY
       refine HGY.out.mono ?_
       rintro e w9 ⟨rfl,hb1⟩
       obtain ⟨W9,rfl⟩:∃ W9,W9=w9:=⟨_,rfl⟩
       have bR:=bR.keep hb1
       have bG:=bG.keep hb1
       have bA:=bA.keep hb1
       have hb9:=below_trans hb9 hb1
       have hfin:srchL g a x y BI false=((0,[]),0):=by rw [srchL,if_neg];rw [srchOk,cntOk];intro hh;simp only [Bool.and_eq_true] at hh;rw [goodB0] at hk2;simp [hh] at hk2
       have z0:W9.cell? ⟨w.heap.size+1+1,0,none⟩=some (.int .i64 0):=bR.cell 0
       have z1:W9.cell? ⟨w.heap.size+1+1,1,none⟩=some (.slice none 0 0):=bR.cell 1
       have fz0:=bR.frozen 0
       have fz1:=bR.frozen 1
       have lz:=bR.lt
       have HF:=Hd_ (HRR.out.trans hfin)
       have HBV:=Hd_ hb9
       clear bR bG bA hb9 hfin
       go_wp2_with fail
       refine bodyPost_ret (v:=.tuple #[.agg #[.int .i64 0,.slice none 0 0],.int .i64 0]) (by simp [results,Tryz.results71,go_sem,z0,z1]) rfl ⟨_,by rw [HF.out],?_,(HBV.out.setCell (p:=⟨w.heap.size+1+1,0,none⟩) (by simp only;omega) _).setCell (p:=⟨w.heap.size+1+1,1,none⟩) (by simp only;omega) _⟩
       rw [HF.out]
       exact ⟨_,rfl,Own.nil _ _ _ _ _ _⟩
     | true =>
       rw [hk2] at HGY
       refine HGY.out.mono ?_
       rintro e w9 ⟨rfl,hb1⟩
       obtain ⟨W9,rfl⟩:∃ W9,W9=w9:=⟨_,rfl⟩
       have bR:=bR.keep hb1
       have bG:=bG.keep hb1
       have bA:=bA.keep hb1
       have hb9:=below_trans hb9 hb1
       have x0:W9.cell? ⟨w.heap.size,0,none⟩=some (.slice A1 g.vals.length c1):=bG.cell 0
       have x1:W9.cell? ⟨w.heap.size,1,none⟩=some (.slice A2 g.edges.length c2):=bG.cell 1
       have y0:W9.cell? ⟨w.heap.size+1,0,none⟩=some (.int .i64 a.start):=bA.cell 0
       have y1:W9.cell? ⟨w.heap.size+1,1,none⟩=some (.slice A3 a.accept.length c3):=bA.cell 1
       have y2:W9.cell? ⟨w.heap.size+1,2,none⟩=some (.slice A4 a.accept.length c4):=bA.cell 2
       have l0:=bG.lt
       have l00:=bA.lt
       have HW:=Hd_ (fun W=>l1In_any BI 1 20000 W)
       clear hb1 HGY
       go_wp2_with fail
       cases hwB:wi BI 1 20000 with
       | false =>
         rw [hwB] at HW
         refine (HW.out _).mono ?_
         rintro e w9 ⟨rfl,hw9⟩
         rw [hw9]
         clear hw9
         have hfin:srchL g a x y BI false=((0,[]),0):=by rw [srchL,if_neg];rw [srchOk,cntOk];intro hh;simp only [Bool.and_eq_true] at hh;simp [hwB] at hh
         have z0:W9.cell? ⟨w.heap.size+1+1,0,none⟩=some (.int .i64 0):=bR.cell 0
         have z1:W9.cell? ⟨w.heap.size+1+1,1,none⟩=some (.slice none 0 0):=bR.cell 1
         have fz0:=bR.frozen 0
         have fz1:=bR.frozen 1
         have lz:=bR.lt
         have HF:=Hd_ (HRR.out.trans hfin)
         have HBV:=Hd_ hb9
         clear bR bG bA hb9 hfin
         go_wp2_with fail
         refine bodyPost_ret (v:=.tuple #[.agg #[.int .i64 0,.slice none 0 0],.int .i64 0]) (by simp [results,Tryz.results71,go_sem,z0,z1]) rfl ⟨_,by rw [HF.out],?_,(HBV.out.setCell (p:=⟨w.heap.size+1+1,0,none⟩) (by simp only;omega) _).setCell (p:=⟨w.heap.size+1+1,1,none⟩) (by simp only;omega) _⟩
         rw [HF.out]
         exact ⟨_,rfl,Own.nil _ _ _ _ _ _⟩
       | true =>
         rw [hwB] at HW
         rw [goodB0] at hk hk2
         simp only [Bool.and_eq_true,wi_iff] at hk hk2
         obtain ⟨hgo,-,hx0,hx1⟩:=hk
         obtain ⟨-,-,hy0,hy1⟩:=hk2
         have hwB2:=wi_iff.1 hwB
         obtain ⟨x,rfl⟩:=Int.eq_ofNat_of_zero_le hx0
         obtain ⟨yn,hyn⟩:=Int.eq_ofNat_of_zero_le hy0
         obtain ⟨B,rfl⟩:=Int.eq_ofNat_of_zero_le (show 0<=BI by omega)
         have hxl:x < g.vals.length:=by omega
         have hgo2:=grOk_iff.1 hgo
         have hn5:=hgo2.n5
         have he12:=hgo2.e12
         obtain ⟨⟨hm1',hm12⟩,⟨hst0,hst1⟩,-,-⟩:=auOk_iff.1 hao
         obtain ⟨s,hs⟩:∃ s:Nat,a.start=(s:Int):=⟨a.start.toNat,by omega⟩
         have hsl:s < a.accept.length:=by omega
         have hck:cntOk g a (x:Int) y=true:=by rw [cntOk,wi_iff.2 ⟨hx0,hx1⟩,wi_iff.2 ⟨hy0,hy1⟩,hgo,hao];rfl
         have hfin:R=srchF g a y B (distTo g a y) false x (bit s) (srchU false x) (srchN g false) 0 0:=by
          rw [HRR.out,srchL,if_pos (by rw [srchOk,hck,hwB];rfl),hs];rfl
         have HF:=Hd_ hfin
         have HDL:=Hd_ (distTo_len (g:=g) (a:=a) (y:=y) (by rw [wi_iff.2 ⟨hy0,hy1⟩,hgo,hao];rfl))
         have HLB:=Hd_ (fun (W:World) (hW:Below w.heap.size w W)=>by
          have h:=l14Back_any _ _ g a yn W (HGV.out.keep hW) (HAV.out.keep hW) hgo hao (by omega)
          rw [<- hyn] at h
          exact h)
         have hbs:=bit_lt hsl
         have HBS:=Hd_ hbs
         have e1:=Hd_ (shl_bit (s:=s) (by omega))
         have e2:=Hd_ (shl_bit2 (s:=s) (by omega))
         have e3:=Hd_ (shl_bit3 (s:=s) (by omega))
         have f1:=Hd_ (shl_bit (s:=x) (by omega))
         have f2:=Hd_ (shl_bit2 (s:=x) (by omega))
         have f3:=Hd_ (shl_bit3 (s:=x) (by omega))
         have hB1:1<=B:=by omega
         have hB2:B<=20000:=by omega
         have HST:=Hd_ hs
         have HGO:=Hd_ hgo
         have HAO:=Hd_ hao
         have HX5:=Hd_ hgo2
         have HBR1:=Hd_ bR
         have HBW:=Hd_ hb9
         clear hfin hgo hao hx0 hx1 hy0 hy1 hst0 hst1 hs hwB2 hck hwB hgo2 hbs HRR bR bG bA hyn
         refine (HW.out _).mono ?_
         rintro e w9 ⟨rfl,hw9⟩
         rw [hw9]
         clear hw9 HW
         go_wp2_with fail
         have hb3:=HBW.out
         have X0:=Hd_ x0
         have X1:=Hd_ x1
         have Y0:=Hd_ y0
         refine F_start 11 (fun w'=>w'.cell? ⟨w.heap.size,0,none⟩=some (.slice A1 g.vals.length c1)/\w'.cell? ⟨w.heap.size,1,none⟩=some (.slice A2 g.edges.length c2)/\w'.cell? ⟨w.heap.size+1,0,none⟩=some (.int .i64 a.start)/\w'.cell? ⟨w.heap.size+1,1,none⟩=some (.slice A3 a.accept.length c3)/\w'.cell? ⟨w.heap.size+1,2,none⟩=some (.slice A4 a.accept.length c4)) (by kernel_rfl) (by exact ⟨x0,x1,y0,y1,y2⟩) (fun hS inv=>?_)
         refine F_tk 0 inv ?_
         try simp only [tA,tB,tC,Act.put,tE,tF,tG]
         clear inv;intro inv
         refine F_tk 1 inv ?_
         try simp only [tA,tB,tC,Act.put,tE,tF,tG]
         clear inv;intro inv
         refine F_tk 2 inv ?_
         try simp only [tA,tB,tC,Act.put,tE,tF,tG]
         clear inv;intro inv
         refine F_tk 3 inv ?_
         try simp only [tA,tB,tC,Act.put,tE,tF,tG]
         clear inv;intro inv
         refine F_tk 4 inv ?_
         try simp only [tA,tB,tC,Act.put,tE,tF,tG]
         clear inv;intro inv
         refine F_tk 5 inv ?_
         try simp only [tA,tB,tC,Act.put,tE,tF,tG]
         clear inv;intro inv
         refine F_tk 7 inv ?_
         try simp only [tA,tB,tC,Act.put,tE,tF,tG]
         clear inv;intro inv
         refine F_tk 8 inv ?_
         try simp only [tA,tB,tC,Act.put,tE,tF,tG]
         clear inv;intro inv
         refine F_two (i:=6) (j:=10) (by kernel_rfl) rfl rfl rfl rfl (by omega) inv (fun K hK=>?_) (fun K hK=>?_)
         all_goals (try simp only [tA,tB,tC])
         · go_simp
           refine (HLB.out W9.drew hb3.drew).mono ?_
           rintro e wD ⟨vD,rfl,hoD,hbD⟩
           obtain ⟨A6,c6,rfl,hl6,hm6,-⟩:=hoD.form cI_len
           refine hK.out _ _ (kB5 hbD hS) (fun _ _=>?_)
           try simp only [tA,tB,tC,Act.put,tE,tF,tG]
           clear hK K inv hS;rename_i hS inv
           refine F_tk 9 inv ?_
           try simp only [tA,tB,tC,Act.put,tE,tF,tG]
           clear inv;intro inv
           refine F_o1 10 inv ?_;intro K hK
           try simp only [tA,tB,tC]
           go_simp
           refine hK.out _ _ (kA5 _ hS) (fun _ _=>?_)
           try simp only [tA,tB,tC,Act.put,tE,tF,tG]
           clear hK K inv hS;rename_i hS inv
           have HS5:=Hd_ hS
           refine F_l1 11 ?_;intro K hK
           go_simp
           refine hK _ _ ?_
           clear hK K inv hS
           have hbkn:Blk (wD.alloc (.cells #[.slice A1 g.vals.length c1,.slice A2 g.edges.length c2,.int .i64 a.start,.slice A3 a.accept.length c3,.slice A4 a.accept.length c4,.int .i64 y,.slice A6 (distTo g a y).length c6,.bool false,.int .i64 (B:Int),.int .i64 ((0:Nat):Int),.slice none 0 0] 150)) wD.heap.size 150 #[.slice A1 g.vals.length c1,.slice A2 g.edges.length c2,.int .i64 a.start,.slice A3 a.accept.length c3,.slice A4 a.accept.length c4,.int .i64 y,.slice A6 (distTo g a y).length c6,.bool false,.int .i64 (B:Int),.int .i64 ((0:Nat):Int),.slice none 0 0]:=Blk.new _ _ _ _ rfl
           have hbn:=(Below.refl wD.heap.size wD).alloc (Nat.le_refl _) (.cells #[.slice A1 g.vals.length c1,.slice A2 g.edges.length c2,.int .i64 a.start,.slice A3 a.accept.length c3,.slice A4 a.accept.length c4,.int .i64 y,.slice A6 (distTo g a y).length c6,.bool false,.int .i64 (B:Int),.int .i64 ((0:Nat):Int),.slice none 0 0] 150)
           have hsn:wD.heap.size < (wD.alloc (.cells #[.slice A1 g.vals.length c1,.slice A2 g.edges.length c2,.int .i64 a.start,.slice A3 a.accept.length c3,.slice A4 a.accept.length c4,.int .i64 y,.slice A6 (distTo g a y).length c6,.bool false,.int .i64 (B:Int),.int .i64 ((0:Nat):Int),.slice none 0 0] 150)).heap.size:=by simp
           have hzero:((0:Nat):Int)=0:=rfl
           rw [hzero] at hbkn hbn hsn
           obtain ⟨bS,hbS⟩:∃ bS,bS=wD.heap.size:=⟨_,rfl⟩
           obtain ⟨W1,hW1⟩:∃ W1,W1=wD.alloc (.cells #[.slice A1 g.vals.length c1,.slice A2 g.edges.length c2,.int .i64 a.start,.slice A3 a.accept.length c3,.slice A4 a.accept.length c4,.int .i64 y,.slice A6 (distTo g a y).length c6,.bool false,.int .i64 (B:Int),.int .i64 (0:Int),.slice none 0 0] 150):=⟨_,rfl⟩
           rw [<- hW1] at hbkn hbn hsn ⊢
           rw [<- hbS] at hbkn hsn ⊢
           have hbw:=below_trans (below_trans hb3.drew hbD) hbn
           have HDV:=Hd_ (SlI.below (hoD.sl cI_len) hbn (Nat.le_refl _))
           have hdl:bS < W9.drew.heap.size ∨ wD.heap.size<=bS:=.inr (by omega)
           have hdh:wD.heap.size<=W1.heap.size:=hbn.size
           have HBR3:=Hd_ (((show Blk W9.drew _ _ _ from HBR1.out).keep hbD).keep hbn)
           have hsD:=hbD.size
           have hwS:w.heap.size+1+1 < bS:=by have:=HBR1.out.lt;have h2:W9.heap.size<=wD.heap.size:=hsD;omega
           have y0:=kcell hbn (kcell hbD (show W9.drew.cell? ⟨w.heap.size+1,0,none⟩=some (.int .i64 a.start) from Y0.out))
           have x0:=kcell hbn (kcell hbD (show W9.drew.cell? ⟨w.heap.size,0,none⟩=some (.slice A1 g.vals.length c1) from X0.out))
           have x1:=kcell hbn (kcell hbD (show W9.drew.cell? ⟨w.heap.size,1,none⟩=some (.slice A2 g.edges.length c2) from X1.out))
           have HBK:=Hd_ (show Blk W1 bS 150 #[.slice A1 g.vals.length c1,.slice A2 g.edges.length c2,.int .i64 a.start,.slice A3 a.accept.length c3,.slice A4 a.accept.length c4,.int .i64 y,.slice A6 (distTo g a y).length c6,.bool false,.int .i64 (B:Int),.int .i64 ((0:Nat):Int),.slice none 0 0] from hbkn)
           generalize W9.drew.heap.size=dl at *
           generalize wD.heap.size=dh at *
           clear hW1 hbn hbkn hbD hoD hsD hb3 HS5 HBR1 HBW HLB hbS hzero
           have HGV1:=Hd_ ((HGV.out.below hbw (Nat.le_refl _)).mono (Nat.zero_le _) (show w.heap.size<=bS by omega))
           have HAV1:=Hd_ ((HAV.out.below hbw (Nat.le_refl _)).mono (Nat.zero_le _) (show w.heap.size<=bS by omega))
           have HGX2:=Hd_ (l20Go_any g a y B (distTo g a y) false HGO.out HAO.out bS dl dh W1 A1 A2 A3 A4 A6 c1 c2 c3 c4 c6 HGV1.out HAV1.out HDV.out hdl hdh HDL.out hB2 hsn)
           have HHX:=Hd_ (fun (W:World) (c:Nat) (sv:Value) (hW:Only bS (bS+1) W1 W) (hk:Blk W bS 150 #[.slice A1 g.vals.length c1,.slice A2 g.edges.length c2,.int .i64 a.start,.slice A3 a.accept.length c3,.slice A4 a.accept.length c4,.int .i64 y,.slice A6 (distTo g a y).length c6,.bool false,.int .i64 (B:Int),.int .i64 (c:Int),sv]) (lf:Nat) (hlf:lf<=60)=>l20Hope_any (distTo g a y) g.vals.length a.accept.length W bS A3 A6 c3 c6 (hk.cell 3) (hk.cell 6) ((SlI.only HDV.out hW hdh (by omega)).all (Nat.le_trans hdh hW.size)) HDL.out hn5 hm12 x (bit s) lf hxl HBS.out hlf hk.lt)
           have HSRF:=Hd_ HF.out.symm
           have HB1:=Hd_ hbw
           have lW0:w.heap.size < W1.heap.size:=by omega
           have lW1:w.heap.size+1 < W1.heap.size:=by omega
           skip
           clear hbw HF
           go_wp2_with fail
           skip
           go_loopw [17] (fun ii wr=>∃ (lf c k:Nat) (sv:Value),lf+k=(g.edges.length+1)/\c<=B/\ii=.int .i64 (lf:Int)/\srchF g a y B (distTo g a y) false x (bit s) [] k lf c=R/\Only bS (bS+1) W1 wr/\Blk wr bS 150 #[.slice A1 g.vals.length c1,.slice A2 g.edges.length c2,.int .i64 a.start,.slice A3 a.accept.length c3,.slice A4 a.accept.length c4,.int .i64 y,.slice A6 (distTo g a y).length c6,.bool false,.int .i64 (B:Int),.int .i64 (c:Int),sv]/\wr.ownsRow W1.heap.size 81 2 sv ([]:List St).length (([]:List St).flatMap cSt)) (fun ii _=>(g.edges.length+1) - (intOf ii).toNat)
           case atStart=>exact ⟨0,0,(g.edges.length+1),.slice none 0 0,by omega,by omega,rfl,HSRF.out,Only.refl _ _ _,HBK.out,World.ownsRow_nil _ _ _ _⟩
           case round =>
            clear HSRF HBK
            obtain ⟨lf,c,k,sv,hlk,hcB,rfl,hR,hon,hbk,hrow⟩:=hrel
            have HR:=Hd_ hR
            have HON:=Hd_ hon
            have HBK:=Hd_ hbk
            have HROW:=Hd_ hrow
            have hsz:=hon.size
            have y0:=ocell hon y0 lW1 (.inl (by omega))
            have lr1:w.heap.size+1 < wr.heap.size:=by omega
            clear hR hon hbk hrow
            by_cases hlt:lf<=g.edges.length
            · have hle:(lf:Int)<=(g.edges.length:Int):=by omega
              obtain ⟨k,rfl⟩:∃ k',k=k'+1:=⟨k - 1,by omega⟩
              have HPX:=Hd_ (HHX.out wr c sv HON.out HBK.out lf (by omega))
              have s1:=e1.out
              have s2:=e2.out
              have s3:=e3.out
              rw [HST.out] at y0
              cases hhp:hope (distTo g a y) a.accept.length x (bit s) lf with
              | false =>
                rw [hhp] at HPX
                have HE:=Hd_ ((srchF_no hhp).symm.trans HR.out)
                clear HR hhp
                go_wp2_with fail
                refine HPX.out.mono ?_
                rintro e w5 ⟨rfl,hw5⟩
                rw [hw5]
                clear hw5
                go_wp2_with fail
                go_roundw
                case rel=>exact ⟨lf+1,c,k,sv,by omega,hcB,by go_num,HE.out,HON.out,HBK.out,HROW.out⟩
                case measure=>simp [intOf];omega
              | true =>
                rw [hhp] at HPX
                have hvl:=visit_le (g:=g) (a:=a) (y:=y) (B:=B) (D:=distTo g a y) (sm:=false) lf x (bit s) [] c hcB
                have hvn:=visit_len (g:=g) (a:=a) (y:=y) (B:=B) (D:=distTo g a y) (sm:=false) lf x (bit s) [] c
                have HVC:=Hd_ (HGX2.out lf x (bit s) 0 [] c sv [] wr HON.out HBK.out HROW.out (URel.none g) hxl HBS.out (by omega) hcB (by simp;omega))
                have HY:=Hd_ (fun r c' h=>(srchF_yes (k:=k) (r:=r) (c':=c') hhp h).symm.trans HR.out)
                have HO:=Hd_ (fun c' h h2=>(srchF_out (k:=k) (c':=c') hhp h h2).symm.trans HR.out)
                have HN:=Hd_ (fun c' h h2=>(srchF_on (k:=k) (c':=c') hhp h h2).symm.trans HR.out)
                generalize visit g a y B (distTo g a y) false lf x (bit s) [] c=V at *
                obtain ⟨o,r2⟩:=V
                simp only at hvl hvn
                clear HR hhp
                go_wp2_with fail
                refine HPX.out.mono ?_
                rintro e w5 ⟨rfl,hw5⟩
                rw [hw5]
                clear hw5 HPX
                go_wp2_with fail
                refine HVC.out.mono ?_
                rintro e wV ⟨rfl,sv6,hbk6,hrow6,-,hsr6⟩
                have hon6:=hsr6.only (fun n hn=>(HROW.out.lt n hn).1) HON.out
                have hszV:=hon6.size
                have HONT:=Hd_ hon6
                have HBKV:=Hd_ hbk6
                have lTV:=hbk6.lt
                have q9:wV.cell? ⟨bS,9,none⟩=some (.int .i64 (r2:Int)):=hbk6.cell 9
                have hbR:Blk wV (w.heap.size+1+1) 39 #[.int .i64 0,.slice none 0 0]:=HBR3.out.only hon6 (.inl hwS)
                have z0:wV.cell? ⟨w.heap.size+1+1,0,none⟩=some (.int .i64 0):=hbR.cell 0
                have z1:wV.cell? ⟨w.heap.size+1+1,1,none⟩=some (.slice none 0 0):=hbR.cell 1
                have fz0:=hbR.frozen 0
                have fz1:=hbR.frozen 1
                have lz:=hbR.lt
                have HBRV:=Hd_ hbR
                have HBV:=Hd_ (HB1.out.trans (hon6.below (B:=w.heap.size) (by omega) HB1.out.size))
                cases o with
                | some r =>
                  have HE:=Hd_ (HY.out r r2 rfl)
                  have hrl:r.length<=60:=by
                   have:=hvn r rfl
                   omega
                  clear hvn
                  rw [Option.getD_some,List.nil_append] at hrow6
                  have hown6:=Own.of_row (xs:=r) hrow6 rfl rfl
                  obtain ⟨A9,n9,c9,rfl⟩:=hown6.shape
                  have hal2:Below wV.heap.size wV (wV.alloc (.cells #[] 81)):=(Below.refl _ _).alloc (Nat.le_refl _) _
                  have HV2:=Hd_ (SlE.keep ((hown6.sl cSt_len).all (Nat.le_refl _)) hal2)
                  have HLT2:=Hd_ (World.ownsRow_lit (base:=wV.heap.size) (e:=81) (size:=2) wV #[] 0 (Nat.le_refl _) (by decide) rfl)
                  have HAL2:=Hd_ hal2
                  have z10:wV.cell? ⟨bS,10,none⟩=some (.slice A9 n9 c9):=HBKV.out.cell 10
                  clear HY HO HN hbk6 hrow6 hsr6 hon6 hbR hown6 hal2
                  go_wp2_with (at_builtin;(refine wpList_appendL cSt elStep cSt_len cSt_one rfl _ _ rfl wV.heap.size _ [] r (by rfl) HLT2.out 0 _ _ (by rfl) HV2.out (by simp;omega) (by omega) (by simp) ?_);intro v5 w5 hrow5 hgr5 hat5;have hb5:=HAL2.out.trans (own_below HLT2.out (by simp) hgr5);have bR5:=HBRV.out.keep hb5;have z0:w5.cell? ⟨w.heap.size+1+1,0,none⟩=some (.int .i64 0):=bR5.cell 0;have z1:w5.cell? ⟨w.heap.size+1+1,1,none⟩=some (.slice none 0 0):=bR5.cell 1;have fz0:=bR5.frozen 0;have fz1:=bR5.frozen 1;have lz5:=bR5.lt;have hown5:=Own.of_row (xs:=[] ++ r) hrow5 rfl rfl;obtain ⟨A7,n7,c7,hv7⟩:=hown5.shape;subst hv7;have HB5:=Hd_ hb5;have HO5:=Hd_ hown5;clear hown5 bR5 hb5 hrow5 hgr5 hat5)
                  have hon3:=((Only.refl (w.heap.size+1+1) (w.heap.size+1+1+1) w5).setCell (p:=⟨w.heap.size+1+1,0,none⟩) (.inl ⟨Nat.le_refl _,Nat.lt_succ_self _⟩) (.int .i64 (x:Int))).setCell (p:=⟨w.heap.size+1+1,1,none⟩) (.inl ⟨Nat.le_refl _,Nat.lt_succ_self _⟩) (.slice A7 n7 c7)
                  have hs5:=HB5.out.size
                  refine bodyPost_ret (v:=.tuple #[.agg #[.int .i64 (x:Int),.slice A7 n7 c7],.int .i64 1]) (by simp [results,Tryz.results71,go_sem,z0,z1]) rfl ⟨_,by rw [<- HE.out],?_,(below_trans HBV.out HB5.out).trans (hon3.below (by omega) (by omega))⟩
                  rw [<- HE.out]
                  exact ⟨_,rfl,(HO5.out.only hon3 (.inr (by omega))).mono (by omega) (by simp [World.setCell])⟩
                | none =>
                  rw [Option.getD_none,List.append_nil] at hrow6
                  have HROW6:=Hd_ hrow6
                  by_cases hcc:B<=r2
                  · have HE:=Hd_ (HO.out r2 rfl hcc)
                    have hcb:decide ((r2:Int) >= (B:Int))=true:=by simp;omega
                    clear HY HO HN hbk6 hrow6 hsr6 hon6 hbR
                    go_wp2_with fail
                    refine bodyPost_ret (v:=.tuple #[.agg #[.int .i64 0,.slice none 0 0],.int .i64 3]) (by simp [results,Tryz.results71,go_sem,z0,z1]) rfl ⟨_,by rw [<- HE.out],?_,(HBV.out.setCell (p:=⟨w.heap.size+1+1,0,none⟩) (by simp only;omega) _).setCell (p:=⟨w.heap.size+1+1,1,none⟩) (by simp only;omega) _⟩
                    rw [<- HE.out]
                    exact ⟨_,rfl,Own.nil _ _ _ _ _ _⟩
                  · have HE:=Hd_ (HN.out r2 rfl hcc)
                    have hcb:decide ((r2:Int) >= (B:Int))=false:=by simp;omega
                    clear HY HO HN hbk6 hrow6 hsr6 hon6 hbR
                    go_wp2_with fail
                    go_roundw
                    case rel=>exact ⟨lf+1,r2,k,sv6,by omega,hvl.1,by go_num,HE.out,HONT.out,HBKV.out,HROW6.out⟩
                    case measure=>simp [intOf];omega
            · obtain rfl:k=0:=by omega
              have hle:¬ (lf:Int)<=(g.edges.length:Int):=by omega
              have HE:=Hd_ ((show srchF g a y B (distTo g a y) false x (bit s) [] 0 lf c=((0,[]),2) from rfl).symm.trans HR.out)
              have hbR:Blk wr (w.heap.size+1+1) 39 #[.int .i64 0,.slice none 0 0]:=HBR3.out.only HON.out (.inl hwS)
              have z0:wr.cell? ⟨w.heap.size+1+1,0,none⟩=some (.int .i64 0):=hbR.cell 0
              have z1:wr.cell? ⟨w.heap.size+1+1,1,none⟩=some (.slice none 0 0):=hbR.cell 1
              have fz0:=hbR.frozen 0
              have fz1:=hbR.frozen 1
              have lz:=hbR.lt
              have HBV:=Hd_ (HB1.out.trans (HON.out.below (B:=w.heap.size) (by omega) HB1.out.size))
              clear HR hbR
              go_wp2_with fail
              refine bodyPost_ret (v:=.tuple #[.agg #[.int .i64 0,.slice none 0 0],.int .i64 2]) (by simp [results,Tryz.results71,go_sem,z0,z1]) rfl ⟨_,by rw [<- HE.out],?_,(HBV.out.setCell (p:=⟨w.heap.size+1+1,0,none⟩) (by simp only;omega) _).setCell (p:=⟨w.heap.size+1+1,1,none⟩) (by simp only;omega) _⟩
              rw [<- HE.out]
              exact ⟨_,rfl,Own.nil _ _ _ _ _ _⟩
         · go_simp
           have hbkz:Blk (W9.drew.alloc (.cells #[.slice none 0 0,.slice none 0 0,.int .i64 0,.slice none 0 0,.slice none 0 0,.int .i64 0,.slice none 0 0,.bool false,.int .i64 0,.int .i64 0,.slice none 0 0] 150)) W9.drew.heap.size 150 #[.slice none 0 0,.slice none 0 0,.int .i64 0,.slice none 0 0,.slice none 0 0,.int .i64 0,.slice none 0 0,.bool false,.int .i64 0,.int .i64 0,.slice none 0 0]:=Blk.new _ _ _ _ rfl
           have hba:=(Below.refl W9.drew.heap.size W9.drew).alloc (Nat.le_refl _) (.cells #[.slice none 0 0,.slice none 0 0,.int .i64 0,.slice none 0 0,.slice none 0 0,.int .i64 0,.slice none 0 0,.bool false,.int .i64 0,.int .i64 0,.slice none 0 0] 150)
           refine hK.out _ _ (kA5 _ hS) (fun _ _=>?_)
           try simp only [tA,tB,tC,Act.put,tE,tF,tG]
           clear hK K inv hS;rename_i hS inv
           refine F_o1 6 inv ?_;intro K hK
           try simp only [tA,tB,tC]
           go_simp
           refine (HLB.out _ (below_trans hb3.drew hba)).mono ?_
           rintro e wD ⟨vD,rfl,hoD,hbD⟩
           obtain ⟨A6,c6,rfl,hl6,hm6,-⟩:=hoD.form cI_len
           have hbkD:=hbkz.keep hbD
           refine hK.out _ _ (kB5 hbD hS) (fun _ _=>?_)
           try simp only [tA,tB,tC,Act.put,tE,tF,tG]
           clear hK K inv hS;rename_i hS inv
           refine F_tk 9 inv ?_
           try simp only [tA,tB,tC,Act.put,tE,tF,tG]
           clear inv;intro inv
           have t0:wD.cell? ⟨W9.heap.size,0,none⟩=some (.slice none 0 0):=hbkD.cell 0
           have g0:wD.frozen? ⟨W9.heap.size,0,none⟩=false:=hbkD.frozen 0
           have t1:wD.cell? ⟨W9.heap.size,1,none⟩=some (.slice none 0 0):=hbkD.cell 1
           have g1:wD.frozen? ⟨W9.heap.size,1,none⟩=false:=hbkD.frozen 1
           have t2:wD.cell? ⟨W9.heap.size,2,none⟩=some (.int .i64 0):=hbkD.cell 2
           have g2:wD.frozen? ⟨W9.heap.size,2,none⟩=false:=hbkD.frozen 2
           have t3:wD.cell? ⟨W9.heap.size,3,none⟩=some (.slice none 0 0):=hbkD.cell 3
           have g3:wD.frozen? ⟨W9.heap.size,3,none⟩=false:=hbkD.frozen 3
           have t4:wD.cell? ⟨W9.heap.size,4,none⟩=some (.slice none 0 0):=hbkD.cell 4
           have g4:wD.frozen? ⟨W9.heap.size,4,none⟩=false:=hbkD.frozen 4
           have t5:wD.cell? ⟨W9.heap.size,5,none⟩=some (.int .i64 0):=hbkD.cell 5
           have g5:wD.frozen? ⟨W9.heap.size,5,none⟩=false:=hbkD.frozen 5
           have t6:wD.cell? ⟨W9.heap.size,6,none⟩=some (.slice none 0 0):=hbkD.cell 6
           have g6:wD.frozen? ⟨W9.heap.size,6,none⟩=false:=hbkD.frozen 6
           have t7:wD.cell? ⟨W9.heap.size,7,none⟩=some (.bool false):=hbkD.cell 7
           have g7:wD.frozen? ⟨W9.heap.size,7,none⟩=false:=hbkD.frozen 7
           have t8:wD.cell? ⟨W9.heap.size,8,none⟩=some (.int .i64 0):=hbkD.cell 8
           have g8:wD.frozen? ⟨W9.heap.size,8,none⟩=false:=hbkD.frozen 8
           have t9:wD.cell? ⟨W9.heap.size,9,none⟩=some (.int .i64 0):=hbkD.cell 9
           have g9:wD.frozen? ⟨W9.heap.size,9,none⟩=false:=hbkD.frozen 9
           have t10:wD.cell? ⟨W9.heap.size,10,none⟩=some (.slice none 0 0):=hbkD.cell 10
           have g10:wD.frozen? ⟨W9.heap.size,10,none⟩=false:=hbkD.frozen 10
           have lS0:W9.heap.size < wD.heap.size:=hbkD.lt
           refine F_l1 11 ?_;intro K hK
           go_simp
           refine hK _ _ ?_
           clear hK K inv hS
           have hbkn:Blk (((((((((((wD.setCell ⟨W9.heap.size,0,none⟩ (.slice A1 g.vals.length c1)).setCell ⟨W9.heap.size,1,none⟩ (.slice A2 g.edges.length c2)).setCell ⟨W9.heap.size,2,none⟩ (.int .i64 a.start)).setCell ⟨W9.heap.size,3,none⟩ (.slice A3 a.accept.length c3)).setCell ⟨W9.heap.size,4,none⟩ (.slice A4 a.accept.length c4)).setCell ⟨W9.heap.size,5,none⟩ (.int .i64 y)).setCell ⟨W9.heap.size,6,none⟩ (.slice A6 (distTo g a y).length c6)).setCell ⟨W9.heap.size,7,none⟩ (.bool false)).setCell ⟨W9.heap.size,8,none⟩ (.int .i64 (B:Int))).setCell ⟨W9.heap.size,9,none⟩ (.int .i64 0)).setCell ⟨W9.heap.size,10,none⟩ (.slice none 0 0)) W9.heap.size 150 #[.slice A1 g.vals.length c1,.slice A2 g.edges.length c2,.int .i64 a.start,.slice A3 a.accept.length c3,.slice A4 a.accept.length c4,.int .i64 y,.slice A6 (distTo g a y).length c6,.bool false,.int .i64 (B:Int),.int .i64 ((0:Nat):Int),.slice none 0 0]:=hbkD.set11 _ _ _ _ _ _ _ _ _ _ _
           have honB:Only W9.heap.size (W9.heap.size+1) wD (((((((((((wD.setCell ⟨W9.heap.size,0,none⟩ (.slice A1 g.vals.length c1)).setCell ⟨W9.heap.size,1,none⟩ (.slice A2 g.edges.length c2)).setCell ⟨W9.heap.size,2,none⟩ (.int .i64 a.start)).setCell ⟨W9.heap.size,3,none⟩ (.slice A3 a.accept.length c3)).setCell ⟨W9.heap.size,4,none⟩ (.slice A4 a.accept.length c4)).setCell ⟨W9.heap.size,5,none⟩ (.int .i64 y)).setCell ⟨W9.heap.size,6,none⟩ (.slice A6 (distTo g a y).length c6)).setCell ⟨W9.heap.size,7,none⟩ (.bool false)).setCell ⟨W9.heap.size,8,none⟩ (.int .i64 (B:Int))).setCell ⟨W9.heap.size,9,none⟩ (.int .i64 0)).setCell ⟨W9.heap.size,10,none⟩ (.slice none 0 0)):=Only.set11 _ _ _ _ _ _ _ _ _ _ _ _ _
           obtain ⟨bS,hbS⟩:∃ bS,bS=W9.heap.size:=⟨_,rfl⟩
           obtain ⟨W1,hW1⟩:∃ W1,W1=(((((((((((wD.setCell ⟨W9.heap.size,0,none⟩ (.slice A1 g.vals.length c1)).setCell ⟨W9.heap.size,1,none⟩ (.slice A2 g.edges.length c2)).setCell ⟨W9.heap.size,2,none⟩ (.int .i64 a.start)).setCell ⟨W9.heap.size,3,none⟩ (.slice A3 a.accept.length c3)).setCell ⟨W9.heap.size,4,none⟩ (.slice A4 a.accept.length c4)).setCell ⟨W9.heap.size,5,none⟩ (.int .i64 y)).setCell ⟨W9.heap.size,6,none⟩ (.slice A6 (distTo g a y).length c6)).setCell ⟨W9.heap.size,7,none⟩ (.bool false)).setCell ⟨W9.heap.size,8,none⟩ (.int .i64 (B:Int))).setCell ⟨W9.heap.size,9,none⟩ (.int .i64 0)).setCell ⟨W9.heap.size,10,none⟩ (.slice none 0 0)):=⟨_,rfl⟩
           rw [<- hW1] at hbkn honB ⊢
           have hbwD:=below_trans (below_trans hb3.drew hba) hbD
           have hwS:w.heap.size+1+1 < bS:=by have:=HBR1.out.lt;omega
           have hdl0:bS+1<=(W9.drew.alloc (.cells #[.slice none 0 0,.slice none 0 0,.int .i64 0,.slice none 0 0,.slice none 0 0,.int .i64 0,.slice none 0 0,.bool false,.int .i64 0,.int .i64 0,.slice none 0 0] 150)).heap.size:=by rw [hbS];simp
           rw [<- hbS] at hbkn honB ⊢
           have hsD:=hbD.size
           have hbw:=hbwD.trans (honB.below (B:=w.heap.size) (by omega) hbwD.size)
           have HDV:=Hd_ (SlI.only (hoD.sl cI_len) honB (Nat.le_refl _) (.inr hdl0))
           have hdl:bS < (W9.drew.alloc (.cells #[.slice none 0 0,.slice none 0 0,.int .i64 0,.slice none 0 0,.slice none 0 0,.int .i64 0,.slice none 0 0,.bool false,.int .i64 0,.int .i64 0,.slice none 0 0] 150)).heap.size ∨ wD.heap.size<=bS:=.inl hdl0
           have hdh:wD.heap.size<=W1.heap.size:=honB.size
           have hsn:bS < W1.heap.size:=by omega
           have HBR3:=Hd_ ((((show Blk W9.drew _ _ _ from HBR1.out).keep hba).keep hbD).only honB (.inl hwS))
           have y0:=ocell honB (kcell hbD (kcell hba (show W9.drew.cell? ⟨w.heap.size+1,0,none⟩=some (.int .i64 a.start) from Y0.out))) (by omega) (.inl (by omega))
           have x0:=ocell honB (kcell hbD (kcell hba (show W9.drew.cell? ⟨w.heap.size,0,none⟩=some (.slice A1 g.vals.length c1) from X0.out))) (by omega) (.inl (by omega))
           have x1:=ocell honB (kcell hbD (kcell hba (show W9.drew.cell? ⟨w.heap.size,1,none⟩=some (.slice A2 g.edges.length c2) from X1.out))) (by omega) (.inl (by omega))
           have HBK:=Hd_ (show Blk W1 bS 150 #[.slice A1 g.vals.length c1,.slice A2 g.edges.length c2,.int .i64 a.start,.slice A3 a.accept.length c3,.slice A4 a.accept.length c4,.int .i64 y,.slice A6 (distTo g a y).length c6,.bool false,.int .i64 (B:Int),.int .i64 ((0:Nat):Int),.slice none 0 0] from hbkn)
           generalize (W9.drew.alloc (.cells #[.slice none 0 0,.slice none 0 0,.int .i64 0,.slice none 0 0,.slice none 0 0,.int .i64 0,.slice none 0 0,.bool false,.int .i64 0,.int .i64 0,.slice none 0 0] 150)).heap.size=dl at *
           generalize wD.heap.size=dh at *
           clear hW1 honB hbkn hbD hoD hsD hb3 HBR1 HBW HLB hbS hbwD hdl0 hba hbkz hbkD t0 g0 t1 g1 t2 g2 t3 g3 t4 g4 t5 g5 t6 g6 t7 g7 t8 g8 t9 g9 t10 g10 lS0
           have HGV1:=Hd_ ((HGV.out.below hbw (Nat.le_refl _)).mono (Nat.zero_le _) (show w.heap.size<=bS by omega))
           have HAV1:=Hd_ ((HAV.out.below hbw (Nat.le_refl _)).mono (Nat.zero_le _) (show w.heap.size<=bS by omega))
           have HGX2:=Hd_ (l20Go_any g a y B (distTo g a y) false HGO.out HAO.out bS dl dh W1 A1 A2 A3 A4 A6 c1 c2 c3 c4 c6 HGV1.out HAV1.out HDV.out hdl hdh HDL.out hB2 hsn)
           have HHX:=Hd_ (fun (W:World) (c:Nat) (sv:Value) (hW:Only bS (bS+1) W1 W) (hk:Blk W bS 150 #[.slice A1 g.vals.length c1,.slice A2 g.edges.length c2,.int .i64 a.start,.slice A3 a.accept.length c3,.slice A4 a.accept.length c4,.int .i64 y,.slice A6 (distTo g a y).length c6,.bool false,.int .i64 (B:Int),.int .i64 (c:Int),sv]) (lf:Nat) (hlf:lf<=60)=>l20Hope_any (distTo g a y) g.vals.length a.accept.length W bS A3 A6 c3 c6 (hk.cell 3) (hk.cell 6) ((SlI.only HDV.out hW hdh (by omega)).all (Nat.le_trans hdh hW.size)) HDL.out hn5 hm12 x (bit s) lf hxl HBS.out hlf hk.lt)
           have HSRF:=Hd_ HF.out.symm
           have HB1:=Hd_ hbw
           have lW0:w.heap.size < W1.heap.size:=by omega
           have lW1:w.heap.size+1 < W1.heap.size:=by omega
           skip
           clear hbw HF
           go_wp2_with fail
           skip
           go_loopw [17] (fun ii wr=>∃ (lf c k:Nat) (sv:Value),lf+k=(g.edges.length+1)/\c<=B/\ii=.int .i64 (lf:Int)/\srchF g a y B (distTo g a y) false x (bit s) [] k lf c=R/\Only bS (bS+1) W1 wr/\Blk wr bS 150 #[.slice A1 g.vals.length c1,.slice A2 g.edges.length c2,.int .i64 a.start,.slice A3 a.accept.length c3,.slice A4 a.accept.length c4,.int .i64 y,.slice A6 (distTo g a y).length c6,.bool false,.int .i64 (B:Int),.int .i64 (c:Int),sv]/\wr.ownsRow W1.heap.size 81 2 sv ([]:List St).length (([]:List St).flatMap cSt)) (fun ii _=>(g.edges.length+1) - (intOf ii).toNat)
           case atStart=>exact ⟨0,0,(g.edges.length+1),.slice none 0 0,by omega,by omega,rfl,HSRF.out,Only.refl _ _ _,HBK.out,World.ownsRow_nil _ _ _ _⟩
           case round =>
            clear HSRF HBK
            obtain ⟨lf,c,k,sv,hlk,hcB,rfl,hR,hon,hbk,hrow⟩:=hrel
            have HR:=Hd_ hR
            have HON:=Hd_ hon
            have HBK:=Hd_ hbk
            have HROW:=Hd_ hrow
            have hsz:=hon.size
            have y0:=ocell hon y0 lW1 (.inl (by omega))
            have lr1:w.heap.size+1 < wr.heap.size:=by omega
            clear hR hon hbk hrow
            by_cases hlt:lf<=g.edges.length
            · have hle:(lf:Int)<=(g.edges.length:Int):=by omega
              obtain ⟨k,rfl⟩:∃ k',k=k'+1:=⟨k - 1,by omega⟩
              have HPX:=Hd_ (HHX.out wr c sv HON.out HBK.out lf (by omega))
              have s1:=e1.out
              have s2:=e2.out
              have s3:=e3.out
              rw [HST.out] at y0
              cases hhp:hope (distTo g a y) a.accept.length x (bit s) lf with
              | false =>
                rw [hhp] at HPX
                have HE:=Hd_ ((srchF_no hhp).symm.trans HR.out)
                clear HR hhp
                go_wp2_with fail
                refine HPX.out.mono ?_
                rintro e w5 ⟨rfl,hw5⟩
                rw [hw5]
                clear hw5
                go_wp2_with fail
                go_roundw
                case rel=>exact ⟨lf+1,c,k,sv,by omega,hcB,by go_num,HE.out,HON.out,HBK.out,HROW.out⟩
                case measure=>simp [intOf];omega
              | true =>
                rw [hhp] at HPX
                have hvl:=visit_le (g:=g) (a:=a) (y:=y) (B:=B) (D:=distTo g a y) (sm:=false) lf x (bit s) [] c hcB
                have hvn:=visit_len (g:=g) (a:=a) (y:=y) (B:=B) (D:=distTo g a y) (sm:=false) lf x (bit s) [] c
                have HVC:=Hd_ (HGX2.out lf x (bit s) 0 [] c sv [] wr HON.out HBK.out HROW.out (URel.none g) hxl HBS.out (by omega) hcB (by simp;omega))
                have HY:=Hd_ (fun r c' h=>(srchF_yes (k:=k) (r:=r) (c':=c') hhp h).symm.trans HR.out)
                have HO:=Hd_ (fun c' h h2=>(srchF_out (k:=k) (c':=c') hhp h h2).symm.trans HR.out)
                have HN:=Hd_ (fun c' h h2=>(srchF_on (k:=k) (c':=c') hhp h h2).symm.trans HR.out)
                generalize visit g a y B (distTo g a y) false lf x (bit s) [] c=V at *
                obtain ⟨o,r2⟩:=V
                simp only at hvl hvn
                clear HR hhp
                go_wp2_with fail
                refine HPX.out.mono ?_
                rintro e w5 ⟨rfl,hw5⟩
                rw [hw5]
                clear hw5 HPX
                go_wp2_with fail
                refine HVC.out.mono ?_
                rintro e wV ⟨rfl,sv6,hbk6,hrow6,-,hsr6⟩
                have hon6:=hsr6.only (fun n hn=>(HROW.out.lt n hn).1) HON.out
                have hszV:=hon6.size
                have HONT:=Hd_ hon6
                have HBKV:=Hd_ hbk6
                have lTV:=hbk6.lt
                have q9:wV.cell? ⟨bS,9,none⟩=some (.int .i64 (r2:Int)):=hbk6.cell 9
                have hbR:Blk wV (w.heap.size+1+1) 39 #[.int .i64 0,.slice none 0 0]:=HBR3.out.only hon6 (.inl hwS)
                have z0:wV.cell? ⟨w.heap.size+1+1,0,none⟩=some (.int .i64 0):=hbR.cell 0
                have z1:wV.cell? ⟨w.heap.size+1+1,1,none⟩=some (.slice none 0 0):=hbR.cell 1
                have fz0:=hbR.frozen 0
                have fz1:=hbR.frozen 1
                have lz:=hbR.lt
                have HBRV:=Hd_ hbR
                have HBV:=Hd_ (HB1.out.trans (hon6.below (B:=w.heap.size) (by omega) HB1.out.size))
                cases o with
                | some r =>
                  have HE:=Hd_ (HY.out r r2 rfl)
                  have hrl:r.length<=60:=by
                   have:=hvn r rfl
                   omega
                  clear hvn
                  rw [Option.getD_some,List.nil_append] at hrow6
                  have hown6:=Own.of_row (xs:=r) hrow6 rfl rfl
                  obtain ⟨A9,n9,c9,rfl⟩:=hown6.shape
                  have hal2:Below wV.heap.size wV (wV.alloc (.cells #[] 81)):=(Below.refl _ _).alloc (Nat.le_refl _) _
                  have HV2:=Hd_ (SlE.keep ((hown6.sl cSt_len).all (Nat.le_refl _)) hal2)
                  have HLT2:=Hd_ (World.ownsRow_lit (base:=wV.heap.size) (e:=81) (size:=2) wV #[] 0 (Nat.le_refl _) (by decide) rfl)
                  have HAL2:=Hd_ hal2
                  have z10:wV.cell? ⟨bS,10,none⟩=some (.slice A9 n9 c9):=HBKV.out.cell 10
                  clear HY HO HN hbk6 hrow6 hsr6 hon6 hbR hown6 hal2
                  go_wp2_with (at_builtin;(refine wpList_appendL cSt elStep cSt_len cSt_one rfl _ _ rfl wV.heap.size _ [] r (by rfl) HLT2.out 0 _ _ (by rfl) HV2.out (by simp;omega) (by omega) (by simp) ?_);intro v5 w5 hrow5 hgr5 hat5;have hb5:=HAL2.out.trans (own_below HLT2.out (by simp) hgr5);have bR5:=HBRV.out.keep hb5;have z0:w5.cell? ⟨w.heap.size+1+1,0,none⟩=some (.int .i64 0):=bR5.cell 0;have z1:w5.cell? ⟨w.heap.size+1+1,1,none⟩=some (.slice none 0 0):=bR5.cell 1;have fz0:=bR5.frozen 0;have fz1:=bR5.frozen 1;have lz5:=bR5.lt;have hown5:=Own.of_row (xs:=[] ++ r) hrow5 rfl rfl;obtain ⟨A7,n7,c7,hv7⟩:=hown5.shape;subst hv7;have HB5:=Hd_ hb5;have HO5:=Hd_ hown5;clear hown5 bR5 hb5 hrow5 hgr5 hat5)
                  have hon3:=((Only.refl (w.heap.size+1+1) (w.heap.size+1+1+1) w5).setCell (p:=⟨w.heap.size+1+1,0,none⟩) (.inl ⟨Nat.le_refl _,Nat.lt_succ_self _⟩) (.int .i64 (x:Int))).setCell (p:=⟨w.heap.size+1+1,1,none⟩) (.inl ⟨Nat.le_refl _,Nat.lt_succ_self _⟩) (.slice A7 n7 c7)
                  have hs5:=HB5.out.size
                  refine bodyPost_ret (v:=.tuple #[.agg #[.int .i64 (x:Int),.slice A7 n7 c7],.int .i64 1]) (by simp [results,Tryz.results71,go_sem,z0,z1]) rfl ⟨_,by rw [<- HE.out],?_,(below_trans HBV.out HB5.out).trans (hon3.below (by omega) (by omega))⟩
                  rw [<- HE.out]
                  exact ⟨_,rfl,(HO5.out.only hon3 (.inr (by omega))).mono (by omega) (by simp [World.setCell])⟩
                | none =>
                  rw [Option.getD_none,List.append_nil] at hrow6
                  have HROW6:=Hd_ hrow6
                  by_cases hcc:B<=r2
                  · have HE:=Hd_ (HO.out r2 rfl hcc)
                    have hcb:decide ((r2:Int) >= (B:Int))=true:=by simp;omega
                    clear HY HO HN hbk6 hrow6 hsr6 hon6 hbR
                    go_wp2_with fail
                    refine bodyPost_ret (v:=.tuple #[.agg #[.int .i64 0,.slice none 0 0],.int .i64 3]) (by simp [results,Tryz.results71,go_sem,z0,z1]) rfl ⟨_,by rw [<- HE.out],?_,(HBV.out.setCell (p:=⟨w.heap.size+1+1,0,none⟩) (by simp only;omega) _).setCell (p:=⟨w.heap.size+1+1,1,none⟩) (by simp only;omega) _⟩
                    rw [<- HE.out]
                    exact ⟨_,rfl,Own.nil _ _ _ _ _ _⟩
                  · have HE:=Hd_ (HN.out r2 rfl hcc)
                    have hcb:decide ((r2:Int) >= (B:Int))=false:=by simp;omega
                    clear HY HO HN hbk6 hrow6 hsr6 hon6 hbR
                    go_wp2_with fail
                    go_roundw
                    case rel=>exact ⟨lf+1,r2,k,sv6,by omega,hvl.1,by go_num,HE.out,HONT.out,HBKV.out,HROW6.out⟩
                    case measure=>simp [intOf];omega
            · obtain rfl:k=0:=by omega
              have hle:¬ (lf:Int)<=(g.edges.length:Int):=by omega
              have HE:=Hd_ ((show srchF g a y B (distTo g a y) false x (bit s) [] 0 lf c=((0,[]),2) from rfl).symm.trans HR.out)
              have hbR:Blk wr (w.heap.size+1+1) 39 #[.int .i64 0,.slice none 0 0]:=HBR3.out.only HON.out (.inl hwS)
              have z0:wr.cell? ⟨w.heap.size+1+1,0,none⟩=some (.int .i64 0):=hbR.cell 0
              have z1:wr.cell? ⟨w.heap.size+1+1,1,none⟩=some (.slice none 0 0):=hbR.cell 1
              have fz0:=hbR.frozen 0
              have fz1:=hbR.frozen 1
              have lz:=hbR.lt
              have HBV:=Hd_ (HB1.out.trans (HON.out.below (B:=w.heap.size) (by omega) HB1.out.size))
              clear HR hbR
              go_wp2_with fail
              refine bodyPost_ret (v:=.tuple #[.agg #[.int .i64 0,.slice none 0 0],.int .i64 2]) (by simp [results,Tryz.results71,go_sem,z0,z1]) rfl ⟨_,by rw [<- HE.out],?_,(HBV.out.setCell (p:=⟨w.heap.size+1+1,0,none⟩) (by simp only;omega) _).setCell (p:=⟨w.heap.size+1+1,1,none⟩) (by simp only;omega) _⟩
              rw [<- HE.out]
              exact ⟨_,rfl,Own.nil _ _ _ _ _ _⟩
set_option maxHeartbeats 4000000 in
set_option maxRecDepth 100000 in
theorem specSearchTrail (vg va:Value) (g:Gr) (a:Au) (x y BI:Int) (w:World) (hgv:GrV 0 w.heap.size w vg g) (hav:AuV 0 w.heap.size w va a) :
 Calls Tryz.prog 20 #[vg,va,.int .i64 x,.int .i64 y,.int .i64 BI] w fun e w'=>∃ v',e=.returned (.tuple #[v',.int .i64 (srchL g a x y BI false).2])/\WkO w.heap.size w'.heap.size w' v' (srchL g a x y BI false).1/\Below w.heap.size w w':=by
 have hgv0:=hgv
 have hav0:=hav
 obtain ⟨A1,n1,c1,A2,n2,c2,rfl⟩:=hgv.shape
 obtain ⟨A3,n3,c3,A4,n4,c4,rfl⟩:=hav.shape
 have hb0:Below w.heap.size w (((w.alloc (.cells #[.slice A1 n1 c1,.slice A2 n2 c2] 27)).alloc (.cells #[.int .i64 a.start,.slice A3 n3 c3,.slice A4 n4 c4] 31)).alloc (.cells #[.int .i64 0,.slice none 0 0] 39)):=(((Below.refl _ _).alloc (Nat.le_refl _) _).alloc (by simp) _).alloc (by simp;omega) _
 have bR:=Blk.new ((w.alloc (.cells #[.slice A1 n1 c1,.slice A2 n2 c2] 27)).alloc (.cells #[.int .i64 a.start,.slice A3 n3 c3,.slice A4 n4 c4] 31)) 39 #[.int .i64 0,.slice none 0 0] (w.heap.size+1+1) (by simp)
 have HC:=Hd_ (l20Find_false _ _ g a x y BI _ (hgv0.keep hb0) (hav0.keep hb0))
 generalize srchL g a x y BI false=R at *
 have HB0:=Hd_ hb0
 have HBR:=Hd_ bR
 clear hgv hav hgv0 hav0 hb0 bR
 go_enter Tryz.func20,Tryz.ntmps20
 go_wp2_with fail
 refine HC.out.mono ?_
 rintro e w1 ⟨v1,rfl,⟨ss,rfl,hown⟩,hb1⟩
 have hb2:=below_trans HB0.out hb1
 have bR:=HBR.out.keep hb1
 have hs1:w.heap.size+1+1 < w1.heap.size:=bR.lt
 have hs0:w.heap.size+1+1+1<=w1.heap.size:=hs1
 obtain ⟨A9,n9,c9,rfl⟩:=hown.shape
 have z0:w1.cell? ⟨w.heap.size+1+1,0,none⟩=some (.int .i64 0):=bR.cell 0
 have z1:w1.cell? ⟨w.heap.size+1+1,1,none⟩=some (.slice none 0 0):=bR.cell 1
 have fz0:=bR.frozen 0
 have fz1:=bR.frozen 1
 have HO:=Hd_ (hown.mono (lo':=w.heap.size+1+1+1) (by simp) (Nat.le_refl _))
 have HB:=Hd_ hb2
 have HBR1:=Hd_ bR
 clear bR hb1 hb2 hown HC HB0 HBR
 go_wp2_with fail
 have hon3:=((Only.refl (w.heap.size+1+1) (w.heap.size+1+1+1) w1).setCell (p:=⟨w.heap.size+1+1,0,none⟩) (.inl ⟨Nat.le_refl _,Nat.lt_succ_self _⟩) (.int .i64 R.1.1)).setCell (p:=⟨w.heap.size+1+1,1,none⟩) (.inl ⟨Nat.le_refl _,Nat.lt_succ_self _⟩) (.slice A9 n9 c9)
 have hon4:=hon3.alloc (.cells #[.int .i64 R.1.1,.slice A9 n9 c9] 39)
 have bR3:Blk (((w1.setCell ⟨w.heap.size+1+1,0,none⟩ (.int .i64 R.1.1)).setCell ⟨w.heap.size+1+1,1,none⟩ (.slice A9 n9 c9)).alloc (.cells #[.int .i64 R.1.1,.slice A9 n9 c9] 39)) (w.heap.size+1+1) 39 #[.int .i64 R.1.1,.slice A9 n9 c9]:=((HBR1.out.set_ 0 (.int .i64 R.1.1)).set_ 1 (.slice A9 n9 c9)).alloc _
 generalize ((w1.setCell ⟨w.heap.size+1+1,0,none⟩ (.int .i64 R.1.1)).setCell ⟨w.heap.size+1+1,1,none⟩ (.slice A9 n9 c9)).alloc (.cells #[.int .i64 R.1.1,.slice A9 n9 c9] 39)=W3 at *
 have hz0:W3.cell? ⟨w.heap.size+1+1,0,none⟩=some (.int .i64 R.1.1):=bR3.cell 0
 have hz1:W3.cell? ⟨w.heap.size+1+1,1,none⟩=some (.slice A9 n9 c9):=bR3.cell 1
 refine bodyPost_ret (v:=.tuple #[.agg #[.int .i64 R.1.1,.slice A9 n9 c9],.int .i64 R.2]) (by simp [results,Tryz.results20,go_sem,hz0,hz1]) rfl ⟨_,rfl,?_,HB.out.trans (hon4.below (by omega) (by omega))⟩
 exact ⟨_,rfl,(HO.out.only hon4 (.inr (Nat.le_refl _))).mono (by omega) hon4.size⟩
set_option maxHeartbeats 1000000 in
theorem l5Step_any (a b:St) (w:World) :
 Calls Tryz.prog 55 #[.agg #[.int .i64 a.1,.bool a.2],.agg #[.int .i64 b.1,.bool b.2]] w fun e w'=>e=.returned (.int .i64 (cmpSt a b))/\Below w.heap.size w w':=by
 obtain ⟨a1,a2⟩:=a
 obtain ⟨b1,b2⟩:=b
 have hb0:Below w.heap.size w ((w.alloc (.cells #[.int .i64 a1,.bool a2] 81)).alloc (.cells #[.int .i64 b1,.bool b2] 81)):=((Below.refl _ _).alloc (Nat.le_refl _) _).alloc (by simp) _
 simp only
 by_cases h1:a1 < b1
 · have hres:cmpSt (a1,a2) (b1,b2)=-1:=if_pos h1
   rw [hres]
   clear hres
   go_enter Tryz.func55,Tryz.ntmps55
   go_wp2
   go_ret
   exact ⟨rfl,hb0⟩
 by_cases h2:b1 < a1
 · have hres:cmpSt (a1,a2) (b1,b2)=1:=by rw [cmpSt,if_neg h1,if_pos h2]
   rw [hres]
   clear hres
   go_enter Tryz.func55,Tryz.ntmps55
   go_wp2
   go_ret
   exact ⟨rfl,hb0⟩
 have hres:cmpSt (a1,a2) (b1,b2)=if a2=b2 then 0 else if b2=true then -1 else 1:=by rw [cmpSt,if_neg h1,if_neg h2]
 rw [hres]
 clear hres
 cases a2 <;> cases b2 <;> simp only [if_true,if_false,reduceCtorEq] <;> (go_enter Tryz.func55,Tryz.ntmps55;go_wp2;go_ret;exact ⟨rfl,hb0⟩)
set_option maxHeartbeats 2000000 in
theorem specCompareWalks (v1 v2:Value) (k j:Wk) (w:World) (hv1:WkV 0 w.heap.size w v1 k) (hv2:WkV 0 w.heap.size w v2 j) :
 Calls Tryz.prog 14 #[v1,v2] w fun e w'=>e=.returned (.int .i64 (cmpWk k j))/\Below w.heap.size w w':=by
 obtain ⟨ss1,rfl,hs1⟩:=hv1
 obtain ⟨ss2,rfl,hs2⟩:=hv2
 obtain ⟨x,A⟩:=k
 obtain ⟨y,B⟩:=j
 simp only at hs1 hs2 ⊢
 obtain ⟨A1,c1,rfl,hl1,hm1,hx1⟩:=hs1
 obtain ⟨A2,c2,rfl,hl2,hm2,hx2⟩:=hs2
 unfold maxLen at hm1 hm2
 have hb0:Below w.heap.size w ((w.alloc (.cells #[.int .i64 x,.slice A1 A.length c1] 39)).alloc (.cells #[.int .i64 y,.slice A2 B.length c2] 39)):=((Below.refl _ _).alloc (Nat.le_refl _) _).alloc (by simp) _
 by_cases h1:A.length < B.length
 · have hres:cmpWk (x,A) (y,B)=-1:=if_pos h1
   rw [hres]
   clear hres hx1 hx2
   go_enter Tryz.func14,Tryz.ntmps14
   go_wp2
   go_ret
   exact ⟨rfl,hb0⟩
 by_cases h2:B.length < A.length
 · have hres:cmpWk (x,A) (y,B)=1:=by rw [cmpWk,if_neg h1,if_pos h2]
   rw [hres]
   clear hres hx1 hx2
   go_enter Tryz.func14,Tryz.ntmps14
   go_wp2
   go_ret
   exact ⟨rfl,hb0⟩
 by_cases h3:x < y
 · have hres:cmpWk (x,A) (y,B)=-1:=by rw [cmpWk,if_neg h1,if_neg h2,if_pos h3]
   rw [hres]
   clear hres hx1 hx2
   go_enter Tryz.func14,Tryz.ntmps14
   go_wp2
   go_ret
   exact ⟨rfl,hb0⟩
 by_cases h4:y < x
 · have hres:cmpWk (x,A) (y,B)=1:=by rw [cmpWk,if_neg h1,if_neg h2,if_neg h3,if_pos h4]
   rw [hres]
   clear hres hx1 hx2
   go_enter Tryz.func14,Tryz.ntmps14
   go_wp2
   go_ret
   exact ⟨rfl,hb0⟩
 have hres:cmpWk (x,A) (y,B)=cmpSts (A.drop 0) (B.drop 0):=by rw [cmpWk,if_neg h1,if_neg h2,if_neg h3,if_neg h4];rfl
 obtain ⟨R,hR⟩:∃ R,R=cmpWk (x,A) (y,B):=⟨_,rfl⟩
 rw [<- hR] at hres ⊢
 have hlen:A.length=B.length:=by omega
 have HLEN:=Hd_ hlen
 clear hR hlen
 have HX1:=Hd_ hx1
 have HX2:=Hd_ hx2
 clear hx1 hx2
 go_enter Tryz.func14,Tryz.ntmps14
 go_wp2
 obtain ⟨W0,hW0⟩:∃ W0:World,W0=((w.alloc (.cells #[.int .i64 x,.slice A1 A.length c1] 39)).alloc (.cells #[.int .i64 y,.slice A2 B.length c2] 39)):=⟨_,rfl⟩
 have b1:Blk W0 w.heap.size 39 #[.int .i64 x,.slice A1 A.length c1]:=by rw [hW0];exact (Blk.new w _ _ w.heap.size rfl).alloc _
 have b2:Blk W0 (w.heap.size+1) 39 #[.int .i64 y,.slice A2 B.length c2]:=by rw [hW0];exact Blk.new (w.alloc _) _ _ (w.heap.size+1) (by simp)
 have x1:W0.cell? ⟨w.heap.size,1,none⟩=some (.slice A1 A.length c1):=b1.cell 1
 have x2:W0.cell? ⟨w.heap.size+1,1,none⟩=some (.slice A2 B.length c2):=b2.cell 1
 have l1:=b1.lt
 have l2:=b2.lt
 rw [<- hW0] at hb0 ⊢
 have hs:=hb0.size
 have HCK:=Hd_ (fun (b o:Nat) (hb:b < w.heap.size)=>hb0.cell (p:=⟨b,o,none⟩) hb)
 clear b1 b2 hW0
 have HB0:=Hd_ hb0
 have HH1:=Hd_ h1
 have HH2:=Hd_ h2
 clear hb0 h1 h2 h3 h4
 have HRES:=Hd_ hres
 clear hres
 go_loopw [5] (fun i wr=>∃ (t:Nat) (u:World),t<=A.length/\i=.int .i64 t/\wr=ext W0 u/\R=cmpSts (A.drop t) (B.drop t)) (fun i _=>A.length - (intOf i).toNat)
 case atStart=>exact ⟨0,W0,Nat.zero_le _,rfl,ext_self W0,HRES.out⟩
 case round =>
  obtain ⟨t,u,ht,rfl,rfl,hr⟩:=hrel
  by_cases hlt:t < A.length
  · have hta:A[t]?=some A[t]:=List.getElem?_eq_getElem hlt
    have htB:t < B.length:=by have:=HLEN.out;omega
    have htb:B[t]?=some B[t]:=List.getElem?_eq_getElem htB
    obtain ⟨q1,o1,rfl,-,hq1,hc1⟩:=HX1.out t _ hta
    obtain ⟨q2,o2,rfl,-,hq2,hc2⟩:=HX2.out t _ htb
    rw [cmpSts_drop hta htb] at hr
    generalize A[t]=sa at hr hc1
    generalize B[t]=sb at hr hc2
    have c10:=(HCK.out _ _ hq1).trans (hc1 0 _ rfl)
    have c11:=(HCK.out _ _ hq1).trans (hc1 1 _ rfl)
    have c20:=(HCK.out _ _ hq2).trans (hc2 0 _ rfl)
    have c21:=(HCK.out _ _ hq2).trans (hc2 1 _ rfl)
    simp only [Nat.add_zero] at c10 c20
    clear hc1 hc2 hta htb
    have hq1:=Nat.lt_of_lt_of_le hq1 hs
    have hq2:=Nat.lt_of_lt_of_le hq2 hs
    have HL:=Hd_ (fun (W:World)=>l5Step_any sa sb W)
    generalize cmpSt sa sb=z at hr HL
    have HR:=Hd_ hr
    clear hr
    by_cases hz:z=0
    · subst hz
      go_wp2
      refine wp_region_ext_lit (by kernel_rfl) (by kernel_rfl) ?_
      repeat (go_big_quiet_step ((go_at_call 55;exact Calls.ext_of (HL.out _))))
      refine wpQuiet_nil ?_
      rintro _ ⟨u2,rfl⟩
      go_wp2
      go_roundw
      case rel =>
       obtain ⟨y',hy⟩:=ext_ext W0 u u2
       exact ⟨t+1,y',by omega,by go_num,hy,by have:=HR.out;simpa using this⟩
      case measure=>simp [intOf];omega
    · have hq:(z != 0)=true:=by simp [hz]
      have hres:R=z:=by have:=HR.out;rw [if_neg hz] at this;exact this
      have HZ:=Hd_ hres
      clear hres hz
      go_wp2
      refine wp_region_ext_lit (by kernel_rfl) (by kernel_rfl) ?_
      repeat (go_big_quiet_step ((go_at_call 55;exact Calls.ext_of (HL.out _))))
      refine wpQuiet_nil ?_
      rintro _ ⟨u2,rfl⟩
      go_wp2
      go_ret
      obtain ⟨y',hy⟩:=ext_ext W0 u u2
      exact ⟨by rw [HZ.out];rfl,by rw [hy];exact below_trans HB0.out (ext_below _ _)⟩
  · obtain rfl:t=A.length:=by omega
    have hres:R=0:=by rw [hr,List.drop_eq_nil_of_le (Nat.le_refl _)];rfl
    have HZ:=Hd_ hres
    clear hres hr
    go_wp2
    go_ret
    exact ⟨by rw [HZ.out];rfl,below_trans HB0.out (ext_below _ _)⟩
theorem keepTo_yes {D:List Int} {n x set f q:Nat} (h:set.testBit q=true) (h2:D.getD (x * n+q) 0=(f:Int)):keepTo D n x set f (q+1)=ins (keepTo D n x set f q) q:=by rw [keepTo,if_pos (by rw [h,h2,beq_self_eq_true];rfl)]
theorem keepTo_no {D:List Int} {n x set f q:Nat} (h:set.testBit q=false ∨ D.getD (x * n+q) 0 ≠ (f:Int)):keepTo D n x set f (q+1)=keepTo D n x set f q:=by
 rw [keepTo,if_neg]
 rw [Bool.and_eq_true,beq_iff_eq]
 rintro ⟨h1,h2⟩
 rcases h with h | h
 · rw [h] at h1;cases h1
 · exact h h2
set_option maxHeartbeats 4000000 in
set_option maxRecDepth 100000 in
theorem l18Keep_any (v:Value) (D:List Int) (n x set f:Nat) (w:World) (hv:SlE w cI 1 v D) (hDl:x * n+n<=D.length) (hD:D.length<=60) (hn:n<=12) (hset:set < 4096) (hf:f<=60) :
 Calls Tryz.prog 63 #[v,.int .i64 (n:Int),.int .i64 (x:Int),.int .i64 (set:Int),.int .i64 (f:Int)] w fun e w'=>e=.returned (.int .i64 (keepTo D n x set f n:Nat))/\Below w.heap.size w w':=by
 obtain ⟨A1,c1,rfl,hl1,hm1,hC1⟩:=hv.form
 obtain ⟨P,hP⟩:∃ P,P=x * n:=⟨_,rfl⟩
 have hPl:P+n<=D.length:=by rw [hP];exact hDl
 have m1':(x:Int) * (n:Int)=(P:Int):=by rw [hP,Int.natCast_mul]
 have m1:IntKind.i64.wrap ((x:Int) * (n:Int))=(P:Int):=by rw [m1'];exact IntWalk.i64_in _ (by omega)
 have HC1:=Hd_ hC1
 have HP:=Hd_ hP
 have HM1:=Hd_ m1
 have HM1':=Hd_ m1'
 clear hv hC1 hDl hP m1 m1'
 go_enter Tryz.func63,Tryz.ntmps63
 go_wp2_with fail
 go_loopw [11,12] (fun mm qq wr=>∃ (q:Nat) (u:World),q<=n/\qq=.int .i64 (q:Int)/\mm=.int .i64 (keepTo D n x set f q:Nat)/\wr=ext w u) (fun _ qq _=>n - (intOf qq).toNat)
 case atStart=>exact ⟨0,w,Nat.zero_le _,rfl,rfl,ext_self _⟩
 case round =>
  obtain ⟨q,u,hq,rfl,rfl,rfl⟩:=hrel
  by_cases hlq:q < n
  · have hqi:(q:Int) < (n:Int):=by omega
    cases hb:set.testBit q with
    | false =>
      have e3':=bit_off (by omega) (by omega) hb
      have HR:=Hd_ (show keepTo D n x set f q=keepTo D n x set f (q+1) from (keepTo_no (.inl hb)).symm)
      clear hb
      go_wp2_with fail
      go_roundw
      case rel=>exact ⟨q+1,u,by omega,by go_num,by rw [<- HR.out],rfl⟩
      case measure=>simp [intOf];omega
    | true =>
      have e3':=bit_on (by omega) (by omega) hb
      have hdi:=getD_of (D:=D) (k:=P+q) (by omega)
      obtain ⟨b6,o6,rfl,hb6,d6⟩:=HC1.out.int hdi
      have hY:=fun h=>keepTo_yes (D:=D) (n:=n) (x:=x) (f:=f) hb h
      have hN:=fun h=>keepTo_no (D:=D) (n:=n) (x:=x) (set:=set) (f:=f) (q:=q) (.inr h)
      rw [<- HP.out] at hY hN
      have HY:=Hd_ hY
      have HN:=Hd_ hN
      have hkl:=keepTo_lt D n x set f q
      have hkl2:keepTo D n x set f q < 4096:=Nat.lt_of_lt_of_le hkl (Nat.pow_le_pow_right (by omega) (show q<=12 by omega))
      have m1:=HM1.out
      have hpq:(P:Int)+(q:Int)=((P+q:Nat):Int):=by omega
      have m2:IntKind.i64.wrap ((P:Int)+(q:Int))=((P+q:Nat):Int):=by rw [hpq];exact IntWalk.i64_in _ (by omega)
      have hpd:((P+q:Nat):Int) < (D.length:Int):=by omega
      clear hb hY hN hdi hkl
      generalize D.getD (P+q) 0=dv at *
      obtain ⟨J,hJ⟩:∃ J,J=P+q:=⟨_,rfl⟩
      rw [<- hJ] at d6 m2 hpd hpq
      clear hJ
      by_cases hd:dv=(f:Int)
      · have HR:=Hd_ (HY.out hd)
        have e1:=shl_bit (s:=q) (by omega)
        generalize keepTo D n x set f q=M at *
        have e2:=or_ins (m:=M) (s:=q) (by omega) (by omega)
        have hde:(dv==(f:Int))=true:=by simpa using hd
        clear hd
        go_wp2_with fail
        go_roundw
        case rel=>exact ⟨q+1,u,by omega,by go_num,by rw [HR.out],rfl⟩
        case measure=>simp [intOf];omega
      · have HR:=Hd_ (HN.out hd)
        have hde:(dv==(f:Int))=false:=by simpa using hd
        generalize keepTo D n x set f q=M at *
        clear hd
        go_wp2_with fail
        go_roundw
        case rel=>exact ⟨q+1,u,by omega,by go_num,by rw [HR.out],rfl⟩
        case measure=>simp [intOf];omega
  · obtain rfl:q=n:=by omega
    go_wp2_with fail
    go_ret
    exact ⟨rfl,ext_below w u⟩
theorem elStW:ElemOk Tryz.prog 37 81 (.agg #[.int .i64 0,.bool false]) 2 16:=⟨Tryz.underlying37,by kernel_rfl,rfl,by omega⟩
theorem own_blocksW {lo hi k:Nat} {w w':World} {e:TypeId} {v:Value} {α:Type} {E:α->List Value} {xs:List α} (h:Own lo hi w e E k v xs) (hb:∀ g,v.ownBlock=some g->w'.heap[g]?=w.heap[g]?):Own lo hi w' e E k v xs:=⟨ownsRow_block h.1 hb,h.2⟩
theorem lwL_hit {g:Gr} {a:Au} {D:List Int} {f x s j:Nat} {p:Arc} (h:(arcsOf g (x:Int))[j]?=some p) (hno:∀ r q,r < j->(arcsOf g (x:Int))[r]?=some q->keepA g a D f x s q=0) (hp:keepA g a D f x s p ≠ 0) :
 lwL g a D (f+1) x s=p.1 :: lwL g a D f p.2.2.toNat (keepA g a D f x s p):=by
 have hj:=(List.getElem?_eq_some_iff.1 h).1
 have:(arcsOf g (x:Int)).find? (fun p=>decide (keepA g a D f x s p ≠ 0))=some p:=by
  rw [List.find?_eq_some_iff_getElem]
  refine ⟨by simpa using hp,j,hj,(List.getElem?_eq_some_iff.1 h).2,fun r hr=>?_⟩
  have:=hno r _ hr (List.getElem?_eq_getElem (by omega))
  simp [this]
 rw [lwL,this]
theorem lwL_miss {g:Gr} {a:Au} {D:List Int} {f x s:Nat} (hno:∀ r q,r < (arcsOf g (x:Int)).length->(arcsOf g (x:Int))[r]?=some q->keepA g a D f x s q=0):lwL g a D (f+1) x s=lwL g a D f x s:=by
 have:(arcsOf g (x:Int)).find? (fun p=>decide (keepA g a D f x s p ≠ 0))=none:=by
  rw [List.find?_eq_none]
  intro p hp
  obtain ⟨r,hr,he⟩:=List.getElem_of_mem hp
  have:=hno r p hr (by rw [List.getElem?_eq_getElem hr,he])
  simp [this]
 rw [lwL,this]
set_option maxHeartbeats 8000000 in
set_option maxRecDepth 100000 in
theorem specLeastWitness (vg va:Value) (g:Gr) (a:Au) (x y:Int) (w:World) (hgv:GrV 0 w.heap.size w vg g) (hav:AuV 0 w.heap.size w va a) :
 Calls Tryz.prog 17 #[vg,va,.int .i64 x,.int .i64 y] w fun e w'=>∃ v',e=.returned (.tuple #[v',.bool (lstShort g a x y).2])/\WkO w.heap.size w'.heap.size w' v' (lstShort g a x y).1/\Below w.heap.size w w':=by
 have hgv0:=hgv
 have hav0:=hav
 obtain ⟨A1,n1,c1,A2,n2,c2,rfl⟩:=hgv.shape
 obtain ⟨A3,n3,c3,A4,n4,c4,rfl⟩:=hav.shape
 have hb0:Below w.heap.size w (((w.alloc (.cells #[.slice A1 n1 c1,.slice A2 n2 c2] 27)).alloc (.cells #[.int .i64 a.start,.slice A3 n3 c3,.slice A4 n4 c4] 31)).alloc (.cells #[.int .i64 0,.slice none 0 0] 39)):=(((Below.refl _ _).alloc (Nat.le_refl _) _).alloc (by simp) _).alloc (by simp;omega) _
 have hbG:=((Blk.new w 27 #[.slice A1 n1 c1,.slice A2 n2 c2] w.heap.size rfl).alloc (.cells #[.int .i64 a.start,.slice A3 n3 c3,.slice A4 n4 c4] 31)).alloc (.cells #[.int .i64 0,.slice none 0 0] 39)
 have hbA:=(Blk.new (w.alloc (.cells #[.slice A1 n1 c1,.slice A2 n2 c2] 27)) 31 #[.int .i64 a.start,.slice A3 n3 c3,.slice A4 n4 c4] (w.heap.size+1) (by simp)).alloc (.cells #[.int .i64 0,.slice none 0 0] 39)
 have hbR:=Blk.new ((w.alloc (.cells #[.slice A1 n1 c1,.slice A2 n2 c2] 27)).alloc (.cells #[.int .i64 a.start,.slice A3 n3 c3,.slice A4 n4 c4] 31)) 39 #[.int .i64 0,.slice none 0 0] (w.heap.size+1+1) (by simp)
 have HBG:=Hd_ hbG
 have HBA:=Hd_ hbA
 have HBR:=Hd_ hbR
 have HGV:=Hd_ hgv0
 have HAV:=Hd_ hav0
 have HB0:=Hd_ hb0
 have HSL:=Hd_ (fun (W:World) (hW:Below w.heap.size w W)=>specShortestLength _ _ g a x y W (HGV.out.keep hW) (HAV.out.keep hW))
 clear hgv hav hgv0 hav0 hb0 hbG hbA hbR
 obtain ⟨R,hR⟩:∃ R,R=lstShort g a x y:=⟨_,rfl⟩
 rw [<- hR]
 by_cases hneg:shortLen g a x y < 0
 · have HF:=Hd_ (show R=((0,[]),false) by rw [hR,lstShort,if_pos hneg])
   generalize shortLen g a x y=SL at *
   clear hR
   go_enter Tryz.func17,Tryz.ntmps17
   go_wp2_with fail
   refine (HSL.out _ HB0.out).mono ?_
   rintro e w1 ⟨rfl,hb1⟩
   have hb2:=below_trans HB0.out hb1
   have bR:=HBR.out.keep hb1
   have r0:w1.cell? ⟨w.heap.size+1+1,0,none⟩=some (.int .i64 0):=bR.cell 0
   have r1:w1.cell? ⟨w.heap.size+1+1,1,none⟩=some (.slice none 0 0):=bR.cell 1
   have fr0:=bR.frozen 0
   have fr1:=bR.frozen 1
   have lr:=bR.lt
   clear bR
   clear hb1
   go_wp2_with fail
   refine bodyPost_ret (v:=.tuple #[.agg #[.int .i64 0,.slice none 0 0],.bool false]) (by simp [results,Tryz.results17,go_sem,r0,r1]) rfl ⟨_,by rw [HF.out],?_,(hb2.setCell (p:=⟨w.heap.size+1+1,0,none⟩) (by simp only;omega) _).setCell (p:=⟨w.heap.size+1+1,1,none⟩) (by simp only;omega) _⟩
   rw [HF.out]
   exact ⟨_,rfl,Own.nil _ _ _ _ _ _⟩
 · have hco:=shortLen_ok (show 0<=shortLen g a x y by omega)
   obtain ⟨⟨hx0,hx1⟩,⟨hy0,hy1⟩,hgo,ha⟩:=cntOk_iff.1 hco
   have hlt:=shortLen_lt g a x y
   obtain ⟨L,hL⟩:=Int.eq_ofNat_of_zero_le (show 0<=shortLen g a x y by omega)
   rw [hL] at HSL hlt
   obtain ⟨x,rfl⟩:=Int.eq_ofNat_of_zero_le hx0
   obtain ⟨y,rfl⟩:=Int.eq_ofNat_of_zero_le hy0
   have hxl:x < g.vals.length:=by omega
   have hyl:y < g.vals.length:=by omega
   have hst0:=(auOk_iff.1 ha).2.1
   have hn12:=(auOk_iff.1 ha).1.2
   have hn5:=(grOk_iff.1 hgo).n5
   have hdl:=distTo_len (g:=g) (a:=a) (y:=(y:Int)) (by simp only [Bool.and_eq_true];exact ⟨by rw [wi_iff];omega,hgo,ha⟩)
   have hBK:=fun (W:World) (hW:Below w.heap.size w W)=>l14Back_any _ _ g a y W (HGV.out.keep hW) (HAV.out.keep hW) hgo ha hyl
   obtain ⟨D,hD⟩:∃ D,D=distTo g a (y:Int):=⟨_,rfl⟩
   obtain ⟨SS,hSS⟩:∃ SS,SS=lwL g a D L x (bit a.start.toNat):=⟨_,rfl⟩
   have HF:=Hd_ (show R=(((x:Int),SS),true) by rw [hR,lstShort,if_neg hneg,hL,hSS,hD,Int.toNat_natCast,Int.toNat_natCast])
   rw [<- hD] at hdl hBK
   have hd60:D.length<=60:=by rw [hdl];exact Nat.mul_le_mul hn5 hn12
   have HDL:=Hd_ hdl
   have HBK:=Hd_ hBK
   have HGO:=Hd_ hgo
   have HA:=Hd_ ha
   have HSS:=Hd_ hSS
   have hn3:n3=a.accept.length:=by
    obtain ⟨A3',c3',A4',c4',he,-⟩:=HAV.out.form ha
    injection he with he
    simp at he
    exact he.1.2.1
   have HS0:=Hd_ (show bit a.start.toNat < 2 ^ a.accept.length from bit_lt (by omega))
   obtain ⟨s0,hs0⟩:=Int.eq_ofNat_of_zero_le hst0.1
   have hs12:s0 < 12:=by omega
   have e1:=shl_bit (s:=s0) (by omega)
   have e2:wrap64 (2 ^ min s0 64)=(bit s0:Int):=by rw [Nat.min_eq_left (by omega)];exact e1
   have hst:a.start.toNat=s0:=by omega
   rw [hst] at HSS HS0
   have HE2:=Hd_ e2
   have HE1:=Hd_ e1
   have HS00:=Hd_ hs0
   subst hn3
   clear hneg hco hgo ha hx0 hx1 hy0 hy1 hL hD hSS hR hdl hBK hst hst0 e1 e2 hs0
   have HBX:=Hd_ (show Blk _ (w.heap.size+1) 31 #[.int .i64 a.start,.slice A3 a.accept.length c3,.slice A4 n4 c4] from HBA.out)
   have hln:¬ (L:Int) < 0:=by omega
   go_enter Tryz.func17,Tryz.ntmps17
   go_wp2_with fail
   refine (HSL.out _ HB0.out).mono ?_
   rintro e w1 ⟨rfl,hb1⟩
   have hb2:=below_trans HB0.out hb1
   have x0:w1.cell? ⟨w.heap.size,0,none⟩=some (.slice A1 n1 c1):=(HBG.out.keep hb1).cell 0
   have x1:w1.cell? ⟨w.heap.size,1,none⟩=some (.slice A2 n2 c2):=(HBG.out.keep hb1).cell 1
   have y0:w1.cell? ⟨w.heap.size+1,0,none⟩=some (.int .i64 a.start):=(HBA.out.keep hb1).cell 0
   have y1:w1.cell? ⟨w.heap.size+1,1,none⟩=some (.slice A3 a.accept.length c3):=(HBA.out.keep hb1).cell 1
   have y2:w1.cell? ⟨w.heap.size+1,2,none⟩=some (.slice A4 n4 c4):=(HBA.out.keep hb1).cell 2
   have HBG1:=Hd_ (HBG.out.keep hb1)
   have HBA1:=Hd_ (HBA.out.keep hb1)
   have HBR1:=Hd_ (HBR.out.keep hb1)
   clear hb1 HBX
   go_wp2_with fail
   refine (HBK.out _ hb2).mono ?_
   rintro e w2 ⟨vB,rfl,hoB,hb3⟩
   have hb4:=below_trans hb2 hb3
   have HOB:=Hd_ (hoB.sl cI_len)
   obtain ⟨A6,n6,c6,rfl⟩:=hoB.shape
   have HBG2:=Hd_ (HBG1.out.keep hb3)
   have HBA2:=Hd_ (HBA1.out.keep hb3)
   have HBR2:=Hd_ (HBR1.out.keep hb3)
   have HB4:=Hd_ hb4
   have y0:w2.cell? ⟨w.heap.size+1,0,none⟩=some (.int .i64 (s0:Int)):=by rw [<- HS00.out];exact HBA2.out.cell 0
   have hbs:=hb4.size
   clear hb2 hb3 hb4 hoB x0 x1 y1 y2
   have ly:=HBA2.out.lt
   have lr:=HBR2.out.lt
   have HBW2:=Hd_ (Blk.new w2 39 #[.int .i64 (x:Int),.slice none 0 0] w2.heap.size rfl)
   have HBN2:=Hd_ ((Below.refl w2.heap.size w2).alloc (Nat.le_refl _) (.cells #[.int .i64 (x:Int),.slice none 0 0] 39))
   have e1:=HE1.out
   go_wp2_with fail
   try rw [HE2.out]
   try rw [HE1.out]
   obtain ⟨bW,hbW⟩:∃ bW,bW=w2.heap.size:=⟨_,rfl⟩
   rw [<- hbW] at HBW2 HBN2 ly lr hbs ⊢
   have HBWe:=Hd_ hbW
   clear hbW e1 y0
   go_loopw [10,14,15] (fun ll nn ss wr=>∃ (f x' s':Nat) (O:List St) (oo:Value),ll=.int .i64 (f:Int)/\nn=.int .i64 (x':Int)/\ss=.int .i64 (s':Int)/\x' < g.vals.length/\s' < 2 ^ a.accept.length/\O ++ lwL g a D f x' s'=SS/\O.length+f<=L /\
    Blk wr bW 39 #[.int .i64 (x:Int),oo]/\wr.ownsRow (bW+1) 81 2 oo O.length (O.flatMap cSt)/\Below bW w2 wr) (fun ll _ _ _=>(intOf ll).toNat)
   case atStart=>exact ⟨L,x,bit s0,[],_,rfl,rfl,rfl,hxl,HS0.out,HSS.out.symm,by simp,HBW2.out,World.ownsRow_nil _ _ _ _,HBN2.out⟩
   case round =>
    obtain ⟨f1,x',s',O,oo,rfl,rfl,rfl,hxl',hs',hO,hOl,hbw,hrow,hbel⟩:=hrel
    have hsz:=hbel.size
    rw [<- HBWe.out] at hsz
    have lw:=hbw.lt
    have hbelW:=HB4.out.trans (hbel.mono (show w.heap.size<=bW by omega))
    cases f1 with
    | zero =>
      have hOe:O=SS:=by rw [<- hO];simp [lwL]
      have hown:=Own.of_row (xs:=O) hrow rfl rfl
      rw [hOe] at hown
      obtain ⟨A9,n9,c9,rfl⟩:=hown.shape
      have HOW:=Hd_ hown
      have hbr:=HBR2.out.keep (HBWe.out ▸ hbel)
      have w0:wr.cell? ⟨bW,0,none⟩=some (.int .i64 (x:Int)):=hbw.cell 0
      have w1:wr.cell? ⟨bW,1,none⟩=some (.slice A9 n9 c9):=hbw.cell 1
      have q0:((wr.setCell ⟨w.heap.size+1+1,0,none⟩ (.int .i64 (x:Int))).setCell ⟨w.heap.size+1+1,1,none⟩ (.slice A9 n9 c9)).cell? ⟨w.heap.size+1+1,0,none⟩=some (.int .i64 (x:Int)):=by simpa using ((hbr.set_ 0 (.int .i64 (x:Int))).set_ 1 (.slice A9 n9 c9)).cell 0
      have q1:((wr.setCell ⟨w.heap.size+1+1,0,none⟩ (.int .i64 (x:Int))).setCell ⟨w.heap.size+1+1,1,none⟩ (.slice A9 n9 c9)).cell? ⟨w.heap.size+1+1,1,none⟩=some (.slice A9 n9 c9):=by simpa using ((hbr.set_ 0 (.int .i64 (x:Int))).set_ 1 (.slice A9 n9 c9)).cell 1
      have fr0:=hbr.frozen 0
      have fr1:=hbr.frozen 1
      have q2:(wr.setCell ⟨w.heap.size+1+1,0,none⟩ (.int .i64 (x:Int))).cell? ⟨w.heap.size+1+1,0,none⟩=some (.int .i64 (x:Int)):=by simpa using (hbr.set_ 0 (.int .i64 (x:Int))).cell 0
      have HQ:=Hd_ (And.intro q0 (And.intro q1 q2))
      clear q0 q1 q2
      have q0:wr.cell? ⟨w.heap.size+1+1,0,none⟩=some (.int .i64 0):=hbr.cell 0
      have q1:wr.cell? ⟨w.heap.size+1+1,1,none⟩=some (.slice none 0 0):=hbr.cell 1
      have lrr:=hbr.lt
      have HBEL:=Hd_ hbelW
      have hbn:∀ b,b ≠ w.heap.size+1+1->((wr.setCell ⟨w.heap.size+1+1,0,none⟩ (.int .i64 (x:Int))).setCell ⟨w.heap.size+1+1,1,none⟩ (.slice A9 n9 c9)).heap[b]?=wr.heap[b]?:=fun b hb=>by rw [Below.heap_setCell _ _ _ _ hb,Below.heap_setCell _ _ _ _ hb]
      have HBN:=Hd_ hbn
      clear hO hOe hown hbr hbw hrow hbel hbelW hbn hs'
      go_wp2_with fail
      have HBS:=Hd_ ((HBEL.out.setCell (p:=⟨w.heap.size+1+1,0,none⟩) (by simp only;omega) (.int .i64 (x:Int))).setCell (p:=⟨w.heap.size+1+1,1,none⟩) (by simp only;omega) (.slice A9 n9 c9))
      obtain ⟨hq0,hq1,hq2⟩:=HQ.out
      have hwes:((wr.setCell ⟨w.heap.size+1+1,0,none⟩ (.int .i64 (x:Int))).setCell ⟨w.heap.size+1+1,1,none⟩ (.slice A9 n9 c9)).heap.size=wr.heap.size:=by simp [World.setCell]
      refine bodyPost_ret (v:=.tuple #[.agg #[.int .i64 (x:Int),.slice A9 n9 c9],.bool true]) (by simp [results,Tryz.results17,go_sem,hq0,hq1,hq2]) rfl ⟨_,by rw [HF.out],?_,HBS.out⟩
      rw [HF.out]
      exact ⟨_,rfl,(own_blocksW HOW.out (fun b hb=>HBN.out b (by have:=HOW.out.lt b hb;omega))).mono (by omega) (by omega)⟩
    | succ f =>
      have hbW2:=HBWe.out
      have hkeepW:=(HBWe.out ▸ hbel:Below w2.heap.size w2 wr)
      have x0:wr.cell? ⟨w.heap.size,0,none⟩=some (.slice A1 n1 c1):=(HBG2.out.keep hkeepW).cell 0
      have x1:wr.cell? ⟨w.heap.size,1,none⟩=some (.slice A2 n2 c2):=(HBG2.out.keep hkeepW).cell 1
      have y0:wr.cell? ⟨w.heap.size+1,0,none⟩=some (.int .i64 a.start):=(HBA2.out.keep hkeepW).cell 0
      have y1:wr.cell? ⟨w.heap.size+1,1,none⟩=some (.slice A3 a.accept.length c3):=(HBA2.out.keep hkeepW).cell 1
      have y2:wr.cell? ⟨w.heap.size+1,2,none⟩=some (.slice A4 n4 c4):=(HBA2.out.keep hkeepW).cell 2
      have qf:((f+1:Nat):Int) - 1=(f:Int):=by omega
      have qf2:IntKind.i64.wrap (((f+1:Nat):Int) - 1)=(f:Int):=by rw [qf];exact IntWalk.i64_in _ (by omega)
      have qf3:(0:Int) < ((f+1:Nat):Int):=by omega
      obtain ⟨F1,hF1⟩:∃ F1,F1=f+1:=⟨_,rfl⟩
      rw [<- hF1] at qf qf2 qf3 hO hOl ⊢
      have hF1a:f+1<=F1:=by omega
      have HF1:=Hd_ hF1
      have HBW:=Hd_ hbw
      have HROW:=Hd_ hrow
      have HBEL:=Hd_ hbel
      have HBELW:=Hd_ hbelW
      have HO:=Hd_ hO
      have HS':=Hd_ hs'
      clear hbw hrow hbel hbelW hO hkeepW hbW2 hF1 hs'
      go_wp2_with fail
      clear qf2
      refine (l4From_any _ g x' _ (HGV.out.keep HBELW.out) (grOk_iff.1 HGO.out).e12).mono ?_
      rintro e w5 ⟨v5,rfl,ho5,hb5⟩
      obtain ⟨A5,n5,c5,rfl⟩:=ho5.shape
      have hn5e:n5=(arcsOf g (x':Int)).length:=by
       obtain ⟨_,_,he,-⟩:=ho5.sl cSt_len
       injection he with _ he _
       rw [he,List.length_map]
      rw [hn5e] at ho5 ⊢
      have HO5:=Hd_ (ho5.sl cSt_len)
      have HRL:=Hd_ (fun b (hb:oo.ownBlock=some b)=>HROW.out.lt b hb)
      have HBW5:=Hd_ (HBW.out.keep hb5)
      have HROW5:=Hd_ (ownsRow_block HROW.out (fun b hb=>hb5.block b (HROW.out.lt b hb).2))
      have HBEL5:=Hd_ (HBEL.out.trans (hb5.mono hsz))
      have hs5:=hb5.size
      clear ho5 hn5e hb5 x0 x1 y0 y1 y2 HBW HROW HBEL
      have HAL:=Hd_ (arcs_len (grOk_iff.1 HGO.out) (x':Int))
      go_wp2_with fail
      go_loopw [14,15,17,18] (fun nn ss bb ii wi=>∃ (j x1 s1:Nat) (b:Bool) (O1:List St) (o1:Value),nn=.int .i64 (x1:Int)/\ss=.int .i64 (s1:Int)/\bb=.bool b/\ii=.int .i64 (j:Int)/\j<=(arcsOf g (x':Int)).length /\
       Blk wi bW 39 #[.int .i64 (x:Int),o1]/\wi.ownsRow (bW+1) 81 2 o1 O1.length (O1.flatMap cSt)/\Below bW w2 wi /\
       (b=false->x1=x'/\s1=s'/\O1=O/\o1=oo/\Below w5.heap.size w5 wi/\∀ r q,r < j->(arcsOf g (x':Int))[r]?=some q->keepA g a D f x' s' q=0) /\
       (b=true->x1 < g.vals.length/\s1 < 2 ^ a.accept.length/\O1 ++ lwL g a D f x1 s1=SS/\O1.length+f<=L)) (fun _ _ _ ii _=>(arcsOf g (x':Int)).length - (intOf ii).toNat)
      case atStart=>exact ⟨0,x',s',false,O,oo,rfl,rfl,rfl,rfl,Nat.zero_le _,HBW5.out,HROW5.out,HBEL5.out,fun _=>⟨rfl,rfl,rfl,rfl,Below.refl _ _,fun r q hr=>by omega⟩,fun h=>by cases h⟩
      case round =>
       clear HBW5 HROW5 HBEL5
       obtain ⟨j,x1,s1,b,O1,o1,rfl,rfl,rfl,rfl,hj,hbw,hrow,hbel,hno,hyes⟩:=hrel
       cases b with
       | true =>
         have hy:=hyes rfl
         have HY:=Hd_ hy
         have HBW:=Hd_ hbw
         have HROW:=Hd_ hrow
         have HBEL:=Hd_ hbel
         clear hno hyes hy hbw hrow hbel
         by_cases hlj:j < (arcsOf g (x':Int)).length
         · have hjj:(j:Int) < ((arcsOf g (x':Int)).length:Int):=by omega
           go_wp2_with fail
           go_roundw
           case rel=>exact ⟨f,x1,s1,O1,o1,rfl,rfl,rfl,HY.out.1,HY.out.2.1,HY.out.2.2.1,HY.out.2.2.2,HBW.out,HROW.out,HBEL.out⟩
           case measure=>have:=HF1.out;simp [intOf];omega
         · have hjj:¬ (j:Int) < ((arcsOf g (x':Int)).length:Int):=by omega
           go_wp2_with fail
           go_roundw
           case rel=>exact ⟨f,x1,s1,O1,o1,rfl,rfl,rfl,HY.out.1,HY.out.2.1,HY.out.2.2.1,HY.out.2.2.2,HBW.out,HROW.out,HBEL.out⟩
           case measure=>have:=HF1.out;simp [intOf];omega
       | false =>
         obtain ⟨rfl,rfl,rfl,rfl,hb5w,hmiss⟩:=hno rfl
         clear hyes hno
         by_cases hlj:j < (arcsOf g (x1:Int)).length
         · have hyi:(arcsOf g (x1:Int))[j]?=some (arcsOf g (x1:Int))[j]:=List.getElem?_eq_getElem hlj
           have hym:=List.getElem_mem hlj
           generalize (arcsOf g (x1:Int))[j]=p at hyi hym
           have hyr:=arc_range (grOk_iff.1 HGO.out) hym
           obtain ⟨e,he,hel,het⟩:=arc_stepEd HGO.out hym
           have HMISS:=Hd_ hmiss
           have HHIT:=Hd_ (fun h=>lwL_hit (a:=a) (D:=D) (f:=f) (s:=s1) hyi hmiss h)
           have HNEXT:=Hd_ (fun (h:keepA g a D f x1 s1 p=0) r q (hr:r < j+1) (hq:(arcsOf g (x1:Int))[r]?=some q)=>show keepA g a D f x1 s1 q=0 from by
            rcases Nat.lt_or_ge r j with h1 | h1
            · exact hmiss r q h1 hq
            · obtain rfl:r=j:=by omega
              rw [hyi] at hq
              injection hq with hq
              rw [<- hq];exact h)
           obtain ⟨⟨sid,sinv⟩,l,t⟩:=p
           simp only at hyr he hel het
           obtain ⟨l,rfl⟩:=Int.eq_ofNat_of_zero_le hyr.1.1
           obtain ⟨t,rfl⟩:=Int.eq_ofNat_of_zero_le hyr.2.1
           have htl:t < g.vals.length:=by omega
           have HNX:=Hd_ (fun (W:World) (hW:Below w.heap.size w W)=>by
            have h:=l18Next_any _ _ g a x1 s1 (sid,sinv) e l W (HGV.out.keep hW) (HAV.out.keep hW) HGO.out HA.out hxl' HS'.out he hel
            rw [het] at h
            exact h)
           have hMl:=aft_lt HA.out s1 (valAt g x1) l
           have hM4:=lt12 HA.out hMl
           have hKA:keepA g a D f x1 s1 ((sid,sinv),(l:Int),(t:Int))=keepTo D a.accept.length t (aft a s1 (valAt g x1) l) f a.accept.length:=by rw [keepA,keepK];simp
           have hKlt:keepA g a D f x1 s1 ((sid,sinv),(l:Int),(t:Int)) < 2 ^ a.accept.length:=by rw [hKA];exact keepTo_lt ..
           have HKE:=Hd_ hKA
           have HKLT:=Hd_ hKlt
           have hK4:=lt12 HA.out hKlt
           obtain ⟨KP,hKP⟩:∃ KP,KP=keepA g a D f x1 s1 ((sid,sinv),(l:Int),(t:Int)):=⟨_,rfl⟩
           rw [<- hKP] at HKE HKLT hK4 HHIT HNEXT
           simp only [Int.toNat_natCast] at HHIT
           have hsl:=HO5.out.below hb5w (Nat.le_refl _)
           obtain ⟨b8,o8,rfl,hb8,e0,e1⟩:=hsl.stI (i:=j) (x:=(sid,sinv)) (by rw [List.getElem?_map,hyi];rfl)
           simp only at e0 e1
           have hkeepW:=(HBWe.out ▸ hbel:Below w2.heap.size w2 wr)
           have u0:wr.cell? ⟨w.heap.size,0,none⟩=some (.slice A1 n1 c1):=(HBG2.out.keep hkeepW).cell 0
           have u1:wr.cell? ⟨w.heap.size,1,none⟩=some (.slice A2 n2 c2):=(HBG2.out.keep hkeepW).cell 1
           have v0:wr.cell? ⟨w.heap.size+1,0,none⟩=some (.int .i64 a.start):=(HBA2.out.keep hkeepW).cell 0
           have v1:wr.cell? ⟨w.heap.size+1,1,none⟩=some (.slice A3 a.accept.length c3):=(HBA2.out.keep hkeepW).cell 1
           have v2:wr.cell? ⟨w.heap.size+1,2,none⟩=some (.slice A4 n4 c4):=(HBA2.out.keep hkeepW).cell 2
           have HBW:=Hd_ hbw
           have HROW:=Hd_ hrow
           have HBEL:=Hd_ hbel
           have HB5W:=Hd_ hb5w
           have HBLW:=Hd_ (HB4.out.trans (hbel.mono (show w.heap.size<=bW by omega)))
           have HDW:=Hd_ ((HOB.out.below hkeepW (Nat.le_refl _)).all (HBWe.out ▸ hbel.size:w2.heap.size<=wr.heap.size))
           have hjj:(j:Int) < ((arcsOf g (x1:Int)).length:Int):=by omega
           have hsw:=hb5w.size
           have hb8w:b8 < wr.heap.size:=World.block_lt_of_cell? _ _ e0
           have lw0:w.heap.size < wr.heap.size:=World.block_lt_of_cell? _ _ u0
           have lw1:w.heap.size+1 < wr.heap.size:=World.block_lt_of_cell? _ _ v0
           have hlw:=hbw.lt
           obtain ⟨wq,hwq⟩:∃ wq:World,wq=wr:=⟨_,rfl⟩
           rw [<- hwq] at HBW HROW HBEL HB5W HBLW HDW u0 u1 v0 v1 v2 e0 e1 hsw hb8w lw0 lw1 hlw ⊢
           clear hwq hbw hrow hbel hb5w hsl hyi hym hmiss he hel het hKA hKlt hKP hkeepW hMl
           go_upto_region 16 with fail
           refine wp_region_ext_lit (by kernel_rfl) (by kernel_rfl) ?_
           repeat (go_big_quiet_step ((go_at_call 62;exact Calls.ext_of (HNX.out _ (below_trans HBLW.out (ext_below _ _))))))
           refine wpQuiet_nil ?_
           rintro _ ⟨u2,rfl⟩
           have hbU:=ext_below wq u2
           have HBU:=Hd_ hbU
           have hal:=arcs_len (grOk_iff.1 HGO.out) (x1:Int)
           have hj24:j<=24:=by omega
           have hmn:t * a.accept.length+a.accept.length<=D.length:=by
            rw [HDL.out,<- Nat.succ_mul]
            exact Nat.mul_le_mul_right _ htl
           have HKC:=Hd_ (fun (W:World) (hW:SlE W cI 1 (.slice A6 n6 c6) D)=>l18Keep_any _ D a.accept.length t (aft a s1 (valAt g x1) l) f W hW hmn hd60 hn12 hM4 (by omega))
           rw [<- HKE.out] at HKC
           generalize aft a s1 (valAt g x1) l=MM at *
           clear hmn hbU
           go_wp2_with fail
           refine (HKC.out _ (HDW.out.keep HBU.out)).mono ?_
           rintro e w7 ⟨rfl,hb7⟩
           have hbx:=below_trans HBU.out hb7
           by_cases hz:KP=0
           · have HNZ:=Hd_ (HNEXT.out hz)
             subst hz
             have HBX:=Hd_ hbx
             clear hbx hb7
             go_wp2_with fail
             go_roundw
             case rel=>exact ⟨j+1,x1,s1,false,O1,o1,rfl,rfl,rfl,by go_num,by omega,HBW.out.keep HBX.out,ownsRow_block HROW.out (fun b hb=>HBX.out.block b (HROW.out.lt b hb).2),HBEL.out.trans (HBX.out.mono (Nat.le_of_lt hlw)),fun _=>⟨rfl,rfl,rfl,rfl,HB5W.out.trans (HBX.out.mono hsw),HNZ.out⟩,fun h=>by cases h⟩
             case measure=>simp [intOf];omega
           · have hzb:(KP:Int) ≠ 0:=by omega
             have hzn:((KP:Int) != 0)=true:=by simpa using hz
             have HH:=Hd_ (HHIT.out hz)
             obtain ⟨A9,n9,c9,ho1⟩:=(Own.of_row (xs:=O1) HROW.out rfl rfl).shape
             subst ho1
             have v1:wq.cell? ⟨bW,1,none⟩=some (.slice A9 n9 c9):=HBW.out.cell 1
             have v1:=kcell hbx v1
             have s0:=kcell hbx e0
             have s1c:=kcell hbx e1
             have HBWX:=Hd_ (HBW.out.keep hbx)
             have HROWX:=Hd_ (ownsRow_block HROW.out (fun b hb=>hbx.block b (HROW.out.lt b hb).2))
             have HBELX:=Hd_ (HBEL.out.trans (hbx.mono (Nat.le_of_lt hlw)))
             have hsx:=hbx.size
             have hO60:O1.length<=60:=by omega
             have hrl:=HRL.out
             have lWx:bW < w7.heap.size:=by omega
             have hHRL:∀ b,(Value.slice A9 n9 c9).ownBlock=some b->bW+1<=b/\b < wq.heap.size:=fun b hb=>⟨(hrl b hb).1,by have:=(HROW.out.lt b hb).2;omega⟩
             have HR2:=Hd_ hHRL
             clear hbx hb7 e0 e1 u0 u1 v0 v2 hHRL hrl
             go_upto_region 19 with fail
             refine F_start 9 (fun w'=>w'.cell? ⟨bW,1,none⟩=some (.slice A9 n9 c9)/\w'.cell? ⟨b8,o8+j * 2,none⟩=some (.int .i64 sid)/\w'.cell? ⟨b8,o8+j * 2+1,none⟩=some (.bool sinv)) (by kernel_rfl) (by exact ⟨v1,s0,s1c⟩) (fun hS inv=>?_)
             refine F_tk 0 inv ?_
             try simp only [tA,tB,tC,Act.put,tE,tF,tG]
             clear inv;intro inv
             refine F_tk 1 inv ?_
             try simp only [tA,tB,tC,Act.put,tE,tF,tG]
             clear inv;intro inv
             refine F_tk 2 inv ?_
             try simp only [tA,tB,tC,Act.put,tE,tF,tG]
             clear inv;intro inv
             refine F_tk 3 inv ?_
             try simp only [tA,tB,tC,Act.put,tE,tF,tG]
             clear inv;intro inv
             refine F_tk 4 inv ?_
             try simp only [tA,tB,tC,Act.put,tE,tF,tG]
             clear inv;intro inv
             refine F_tk 5 inv ?_
             try simp only [tA,tB,tC,Act.put,tE,tF,tG]
             clear inv;intro inv
             refine F_o1 6 inv ?_;intro K hK
             try simp only [tA,tB,tC]
             go_simp
             refine hK.out _ _ (kA3 _ hS) (fun _ _=>?_)
             try simp only [tA,tB,tC,Act.put,tE,tF,tG]
             clear hK K inv hS;rename_i hS inv
             refine F_o1 7 inv ?_;intro K hK
             try simp only [tA,tB,tC]
             refine op_append1 cSt elStW rfl _ _ (by rfl) (bW+1) (.slice A9 n9 c9) O1 (sid,sinv) 1 _ (by rfl) (show ((w7.alloc (.cells #[.int .i64 sid,.bool sinv] 81)).drew).ownsRow (bW+1) 81 2 (.slice A9 n9 c9) O1.length (O1.flatMap cSt) from HROWX.out.alloc _) (by first | rfl | simp) (heap_alloc_new _ _) rfl (cSt_one _) (by omega) (by omega) (by simp;omega) ?_
             intro g2 cp2 w3 hown3 hgr3 hat3 hlt3
             have hrl:=HR2.out
             have g3:∀ b,b < w7.heap.size->(Value.slice A9 n9 c9).ownBlock ≠ some b->w3.heap[b]?=w7.heap[b]?:=fun b hb hn=>(hgr3.block b (by simp;omega) (fun e=>hn e.symm)).trans (Below.heap_alloc w7 _ b hb)
             have hs3:w7.heap.size < w3.heap.size:=by have:=hgr3.size;simp at this;omega
             have nw:(Value.slice A9 n9 c9).ownBlock ≠ some bW:=fun e=>by have:=hrl _ e;omega
             have n8:(Value.slice A9 n9 c9).ownBlock ≠ some b8:=fun e=>by have:=HRL.out _ e;omega
             have hbw3:Blk w3 bW 39 #[.int .i64 (x:Int),.slice A9 n9 c9]:=(g3 bW (by omega) nw).trans HBWX.out
             have v1':w3.cell? ⟨bW,1,none⟩=some (.slice A9 n9 c9):=hbw3.cell 1
             have f1':=hbw3.frozen 1
             have l1':=hbw3.lt
             refine hK.out _ _ (⟨hgr3.cell hS.1 (fun e=>by have:=hrl _ e.symm;simp only at this;omega),hgr3.cell hS.2.1 (fun e=>by have:=HRL.out _ e.symm;simp only at this;omega),hgr3.cell hS.2.2 (fun e=>by have:=HRL.out _ e.symm;simp only at this;omega)⟩) (fun _ _=>?_)
             try simp only [tA,tB,tC,Act.put,tE,tF,tG]
             clear hK K inv hS;rename_i hS inv
             refine F_tk 8 inv ?_
             try simp only [tA,tB,tC,Act.put,tE,tF,tG]
             clear inv;intro inv
             refine F_l1 9 ?_;intro K hK
             go_simp
             refine hK _ _ ?_
             clear hK K inv hS
             obtain ⟨w4,hw4⟩:∃ w4,w4=w3.setCell ⟨bW,1,none⟩ (.slice (some ⟨g2,0,none⟩) (O1.length+1) cp2):=⟨_,rfl⟩
             have hs4w:w3.heap.size=w4.heap.size:=by rw [hw4];simp [World.setCell]
             have g4:∀ b,b < w3.heap.size->b ≠ bW->w4.heap[b]?=w3.heap[b]?:=fun b hb hne=>by rw [hw4];exact Below.heap_setCell w3 ⟨bW,1,none⟩ _ b hne
             have hbw4:Blk w4 bW 39 #[.int .i64 (x:Int),.slice (some ⟨g2,0,none⟩) (O1.length+1) cp2]:=by
              have h:=hbw3.set_ 1 (.slice (some ⟨g2,0,none⟩) (O1.length+1) cp2)
              rw [<- hw4] at h
              simpa using h
             have hg2:g2 ≠ bW:=by
              rcases hat3 with h | h
              · have:=hrl g2 h;omega
              · simp at h;omega
             have hrow4:=ownsRow_block (w':=w4) hown3 (fun b hb=>by
              have he:g2=b:=by simpa [Value.ownBlock] using hb
              exact g4 b (by omega) (by rw [<- he];exact hg2))
             have hbl4:Below bW w2 w4:=by
              rw [hw4]
              have h1:Below bW w2 ((w7.alloc (.cells #[.int .i64 sid,.bool sinv] 81)).drew):=(HBELX.out.alloc (by omega) _).drew
              exact (h1.grown hgr3 (by simp;omega) (fun b hb=>by have:=hrl b hb;omega)).setCell (by simp only;omega) _
             have HBW4:=Hd_ hbw4
             have HROW4:=Hd_ hrow4
             have HBL4:=Hd_ hbl4
             rw [<- hw4]
             clear hw4 hbw4 hrow4 hbl4 g4 g3 hbw3 v1' f1' l1' hown3 hgr3 hat3 hlt3 hrl nw n8 v1 s0 s1c
             go_wp2_with fail
             go_roundw
             case rel =>
              refine ⟨j+1,t,KP,true,O1 ++ [(sid,sinv)],_,rfl,rfl,rfl,by go_num,by omega,HBW4.out,HROW4.out,HBL4.out,(fun h=>by cases h),fun _=>⟨htl,HKLT.out,?_,by simp;omega⟩⟩
              have h:=HO.out
              rw [HF1.out,HH.out] at h
              rw [List.append_assoc];exact h
             case measure=>simp [intOf];omega
         · obtain rfl:j=(arcsOf g (x1:Int)).length:=by omega
           have HM:=Hd_ (lwL_miss hmiss)
           have HBW:=Hd_ hbw
           have HROW:=Hd_ hrow
           have HBEL:=Hd_ hbel
           have hjj:¬ ((arcsOf g (x1:Int)).length:Int) < ((arcsOf g (x1:Int)).length:Int):=by omega
           clear hbw hrow hbel hb5w hmiss
           go_wp2_with fail
           go_roundw
           case rel=>exact ⟨f,x1,s1,O1,o1,rfl,rfl,rfl,hxl',HS'.out,by rw [<- HM.out,<- HF1.out];exact HO.out,by omega,HBW.out,HROW.out,HBEL.out⟩
           case measure=>have:=HF1.out;simp [intOf];omega
end Go.Proofs.YtjpdembmchnbgaaGreat
namespace Go.Proofs.YtjpdembmchnbgaaGreat
theorem seat_mayEnter:Tryz.pinned.checked.prog.mayEnter=true:=by kernel_rfl
theorem seat_lifts:Tryz.pinned.checked.prog.liftsFinal=false:=by kernel_rfl
theorem seat_laidOut:laidOutB Tryz.pinned.checked.prog=true:=by kernel_rfl
theorem seat_mapsRowed:mapsRowed Tryz.pinned.checked.prog=true:=by kernel_rfl
end Go.Proofs.YtjpdembmchnbgaaGreat
