/- Parts of the proof, joined into one text: SrchT. -/
import Derived.Test.YtjpdembmchnbgaaGreatOnlzLCLHJDDM
import Derived.Test.YtjpdembmchnbgaaGreatOnlzBGBMJIIM
import Derived.Test.YtjpdembmchnbgaaGreatOnlzBJPCHMFC
import Derived.Test.YtjpdembmchnbgaaGreatOnlzNMJNDCCH
set_option linter.unusedVariables false
set_option linter.unusedSimpArgs false
namespace Go.Proofs.YtjpdembmchnbgaaGreat
open Go.ChangeShapes Go.WideShapes Go.ChangeAt Go.RowKit
attribute [local go_sem] ext_cell ext_frozen ext_lt ext_lt1 ext_lt2 ext_lt3 ltn2 ltn3 ltn13 lts1 lts2 lts3
theorem Blk.set11 {w:World} {g:Nat} {t:TypeId} {c0 c1 c2 c3 c4 c5 c6 c7 c8 c9 c10:Value} (h:Blk w g t #[c0,c1,c2,c3,c4,c5,c6,c7,c8,c9,c10]) (d0 d1 d2 d3 d4 d5 d6 d7 d8 d9 d10:Value):Blk (((((((((((w.setCell ⟨g,0,none⟩ d0).setCell ⟨g,1,none⟩ d1).setCell ⟨g,2,none⟩ d2).setCell ⟨g,3,none⟩ d3).setCell ⟨g,4,none⟩ d4).setCell ⟨g,5,none⟩ d5).setCell ⟨g,6,none⟩ d6).setCell ⟨g,7,none⟩ d7).setCell ⟨g,8,none⟩ d8).setCell ⟨g,9,none⟩ d9).setCell ⟨g,10,none⟩ d10) g t #[d0,d1,d2,d3,d4,d5,d6,d7,d8,d9,d10]:=by
 have h2:=(((((((((((h.set_ 0 d0).set_ 1 d1).set_ 2 d2).set_ 3 d3).set_ 4 d4).set_ 5 d5).set_ 6 d6).set_ 7 d7).set_ 8 d8).set_ 9 d9).set_ 10 d10)
 simpa using h2
theorem Only.set11 (w:World) (g:Nat) (d0 d1 d2 d3 d4 d5 d6 d7 d8 d9 d10:Value):Only g (g+1) w (((((((((((w.setCell ⟨g,0,none⟩ d0).setCell ⟨g,1,none⟩ d1).setCell ⟨g,2,none⟩ d2).setCell ⟨g,3,none⟩ d3).setCell ⟨g,4,none⟩ d4).setCell ⟨g,5,none⟩ d5).setCell ⟨g,6,none⟩ d6).setCell ⟨g,7,none⟩ d7).setCell ⟨g,8,none⟩ d8).setCell ⟨g,9,none⟩ d9).setCell ⟨g,10,none⟩ d10):=(((((((((((Only.refl _ _ _).setCell (p:=⟨g,0,none⟩) (.inl ⟨Nat.le_refl _,Nat.lt_succ_self _⟩) d0).setCell (p:=⟨g,1,none⟩) (.inl ⟨Nat.le_refl _,Nat.lt_succ_self _⟩) d1).setCell (p:=⟨g,2,none⟩) (.inl ⟨Nat.le_refl _,Nat.lt_succ_self _⟩) d2).setCell (p:=⟨g,3,none⟩) (.inl ⟨Nat.le_refl _,Nat.lt_succ_self _⟩) d3).setCell (p:=⟨g,4,none⟩) (.inl ⟨Nat.le_refl _,Nat.lt_succ_self _⟩) d4).setCell (p:=⟨g,5,none⟩) (.inl ⟨Nat.le_refl _,Nat.lt_succ_self _⟩) d5).setCell (p:=⟨g,6,none⟩) (.inl ⟨Nat.le_refl _,Nat.lt_succ_self _⟩) d6).setCell (p:=⟨g,7,none⟩) (.inl ⟨Nat.le_refl _,Nat.lt_succ_self _⟩) d7).setCell (p:=⟨g,8,none⟩) (.inl ⟨Nat.le_refl _,Nat.lt_succ_self _⟩) d8).setCell (p:=⟨g,9,none⟩) (.inl ⟨Nat.le_refl _,Nat.lt_succ_self _⟩) d9).setCell (p:=⟨g,10,none⟩) (.inl ⟨Nat.le_refl _,Nat.lt_succ_self _⟩) d10
set_option maxHeartbeats 16000000 in
set_option maxRecDepth 100000 in
theorem l20Find_false (vg va:Value) (g:Gr) (a:Au) (x y BI:Int) (w:World) (hgv:GrV 0 w.heap.size w vg g) (hav:AuV 0 w.heap.size w va a) :
 Calls Tryz.prog 71 #[vg,va,.int .i64 x,.int .i64 y,.int .i64 BI,.bool false] w fun e w'=>∃ v',e=.returned (.tuple #[v',.int .i64 (srchL g a x y BI false).2])/\WkO w.heap.size w'.heap.size w' v' (srchL g a x y BI false).1/\Below w.heap.size w w':=by
 have hgv0:=hgv
 have hav0:=hav
 obtain ⟨A1,c1,A2,c2,rfl,hl1,hm1,hl2,hm2,-,-⟩:=hgv.form
 obtain ⟨R,hR⟩:∃ R,R=srchL g a x y BI false:=⟨_,rfl⟩
 rw [<- hR]
 cases hao:auOk a with
 | false =>
   obtain ⟨A3,n3,c3,A4,n4,c4,rfl⟩:=hav.shape
   have hb0:Below w.heap.size w (((w.alloc (.cells #[.slice A1 g.vals.length c1,.slice A2 g.edges.length c2] 27)).alloc (.cells #[.int .i64 a.start,.slice A3 n3 c3,.slice A4 n4 c4] 31)).alloc (.cells #[.int .i64 0,.slice none 0 0] 39)):=(((Below.refl _ _).alloc (Nat.le_refl _) _).alloc (by simp) _).alloc (by simp;omega) _
   have HGV:=Hd_ hgv0
   have HAV:=Hd_ hav0
   have HRR:=Hd_ hR
   clear hgv hav hgv0 hav0 hR
   go_enter Tryz.func71,Tryz.ntmps71
   go_wp2_with fail
   obtain ⟨W0,hW0⟩:∃ W0,W0=(((w.alloc (.cells #[.slice A1 g.vals.length c1,.slice A2 g.edges.length c2] 27)).alloc (.cells #[.int .i64 a.start,.slice A3 n3 c3,.slice A4 n4 c4] 31)).alloc (.cells #[.int .i64 0,.slice none 0 0] 39)):=⟨_,rfl⟩
   rw [<- hW0] at hb0 ⊢
   have bG:Blk W0 w.heap.size 27 #[.slice A1 g.vals.length c1,.slice A2 g.edges.length c2]:=by rw [hW0];exact ((Blk.new w _ _ w.heap.size rfl).alloc _).alloc _
   have bA:Blk W0 (w.heap.size+1) 31 #[.int .i64 a.start,.slice A3 n3 c3,.slice A4 n4 c4]:=by rw [hW0];exact (Blk.new (w.alloc _) _ _ (w.heap.size+1) (by simp)).alloc _
   have bR:Blk W0 (w.heap.size+1+1) 39 #[.int .i64 0,.slice none 0 0]:=by rw [hW0];exact Blk.new ((w.alloc _).alloc _) _ _ (w.heap.size+1+1) (by simp)
   clear hW0
   have HGX:=Hd_ (l14Good_any _ _ g a x 0 W0 (HGV.out.keep hb0) (HAV.out.keep hb0))
   have hgb:goodB g a x 0=false:=by rw [goodB,hao];simp
   rw [hgb] at HGX
   refine HGX.out.mono ?_
   rintro e W9 ⟨rfl,hb1⟩
   have bR:=bR.keep hb1
   have bG:=bG.keep hb1
   have bA:=bA.keep hb1
   have hb9:=below_trans hb0 hb1
   have hfin:srchL g a x y BI false=((0,[]),0):=by rw [srchL,if_neg];rw [srchOk,cntOk];intro hh;simp only [Bool.and_eq_true] at hh;simp [hao] at hh
   have z0:W9.cell? ⟨w.heap.size+1+1,0,none⟩=some (.int .i64 0):=bR.cell 0
   have z1:W9.cell? ⟨w.heap.size+1+1,1,none⟩=some (.slice none 0 0):=bR.cell 1
   have fz0:=bR.frozen 0
   have fz1:=bR.frozen 1
   have lz:=bR.lt
   have HF:=Hd_ (HRR.out.trans hfin)
   have HBV:=Hd_ hb9
   clear bR bG bA hb9 hfin
   go_wp2_with fail
   refine bodyPost_ret (v:=.tuple #[.agg #[.int .i64 0,.slice none 0 0],.int .i64 0]) (by simp [results,Tryz.results71,go_sem,z0,z1]) rfl ⟨_,by rw [HF.out],?_,(HBV.out.setCell (p:=⟨w.heap.size+1+1,0,none⟩) (by simp only;omega) _).setCell (p:=⟨w.heap.size+1+1,1,none⟩) (by simp only;omega) _⟩
   rw [HF.out]
   exact ⟨_,rfl,Own.nil _ _ _ _ _ _⟩
 | true =>
   obtain ⟨A3,c3,A4,c4,rfl,-,-,-,-,-⟩:=hav.form hao
   have hb0:Below w.heap.size w (((w.alloc (.cells #[.slice A1 g.vals.length c1,.slice A2 g.edges.length c2] 27)).alloc (.cells #[.int .i64 a.start,.slice A3 a.accept.length c3,.slice A4 a.accept.length c4] 31)).alloc (.cells #[.int .i64 0,.slice none 0 0] 39)):=(((Below.refl _ _).alloc (Nat.le_refl _) _).alloc (by simp) _).alloc (by simp;omega) _
   have HGV:=Hd_ hgv0
   have HAV:=Hd_ hav0
   have HRR:=Hd_ hR
   clear hgv hav hgv0 hav0 hR
   go_enter Tryz.func71,Tryz.ntmps71
   go_wp2_with fail
   obtain ⟨W0,hW0⟩:∃ W0,W0=(((w.alloc (.cells #[.slice A1 g.vals.length c1,.slice A2 g.edges.length c2] 27)).alloc (.cells #[.int .i64 a.start,.slice A3 a.accept.length c3,.slice A4 a.accept.length c4] 31)).alloc (.cells #[.int .i64 0,.slice none 0 0] 39)):=⟨_,rfl⟩
   rw [<- hW0] at hb0 ⊢
   have bG:Blk W0 w.heap.size 27 #[.slice A1 g.vals.length c1,.slice A2 g.edges.length c2]:=by rw [hW0];exact ((Blk.new w _ _ w.heap.size rfl).alloc _).alloc _
   have bA:Blk W0 (w.heap.size+1) 31 #[.int .i64 a.start,.slice A3 a.accept.length c3,.slice A4 a.accept.length c4]:=by rw [hW0];exact (Blk.new (w.alloc _) _ _ (w.heap.size+1) (by simp)).alloc _
   have bR:Blk W0 (w.heap.size+1+1) 39 #[.int .i64 0,.slice none 0 0]:=by rw [hW0];exact Blk.new ((w.alloc _).alloc _) _ _ (w.heap.size+1+1) (by simp)
   clear hW0
   have HGX:=Hd_ (l14Good_any _ _ g a x 0 W0 (HGV.out.keep hb0) (HAV.out.keep hb0))
   cases hk:goodB g a x 0 with
   | false =>
     rw [hk] at HGX
     refine HGX.out.mono ?_
     rintro e W9 ⟨rfl,hb1⟩
     have bR:=bR.keep hb1
     have bG:=bG.keep hb1
     have bA:=bA.keep hb1
     have hb9:=below_trans hb0 hb1
     have hfin:srchL g a x y BI false=((0,[]),0):=by rw [srchL,if_neg];rw [srchOk,cntOk];intro hh;simp only [Bool.and_eq_true] at hh;rw [goodB0] at hk;simp [hh] at hk
     have z0:W9.cell? ⟨w.heap.size+1+1,0,none⟩=some (.int .i64 0):=bR.cell 0
     have z1:W9.cell? ⟨w.heap.size+1+1,1,none⟩=some (.slice none 0 0):=bR.cell 1
     have fz0:=bR.frozen 0
     have fz1:=bR.frozen 1
     have lz:=bR.lt
     have HF:=Hd_ (HRR.out.trans hfin)
     have HBV:=Hd_ hb9
     clear bR bG bA hb9 hfin
     go_wp2_with fail
     refine bodyPost_ret (v:=.tuple #[.agg #[.int .i64 0,.slice none 0 0],.int .i64 0]) (by simp [results,Tryz.results71,go_sem,z0,z1]) rfl ⟨_,by rw [HF.out],?_,(HBV.out.setCell (p:=⟨w.heap.size+1+1,0,none⟩) (by simp only;omega) _).setCell (p:=⟨w.heap.size+1+1,1,none⟩) (by simp only;omega) _⟩
     rw [HF.out]
     exact ⟨_,rfl,Own.nil _ _ _ _ _ _⟩
   | true =>
     rw [hk] at HGX
     refine HGX.out.mono ?_
     rintro e W9 ⟨rfl,hb1⟩
     have bR:=bR.keep hb1
     have bG:=bG.keep hb1
     have bA:=bA.keep hb1
     have hb9:=below_trans hb0 hb1
     have x0:W9.cell? ⟨w.heap.size,0,none⟩=some (.slice A1 g.vals.length c1):=bG.cell 0
     have x1:W9.cell? ⟨w.heap.size,1,none⟩=some (.slice A2 g.edges.length c2):=bG.cell 1
     have y0:W9.cell? ⟨w.heap.size+1,0,none⟩=some (.int .i64 a.start):=bA.cell 0
     have y1:W9.cell? ⟨w.heap.size+1,1,none⟩=some (.slice A3 a.accept.length c3):=bA.cell 1
     have y2:W9.cell? ⟨w.heap.size+1,2,none⟩=some (.slice A4 a.accept.length c4):=bA.cell 2
     have l0:=bG.lt
     have l00:=bA.lt
     have HGY:=Hd_ (l14Good_any _ _ g a y 0 W9 (HGV.out.keep hb9) (HAV.out.keep hb9))
     clear hb1 hb0 HGX
     go_wp2_with fail
     cases hk2:goodB g a y 0 with
     | false =>
       rw [hk2] at HGY
       refine HGY.out.mono ?_
       rintro e w9 ⟨rfl,hb1⟩
       obtain ⟨W9,rfl⟩:∃ W9,W9=w9:=⟨_,rfl⟩
       have bR:=bR.keep hb1
       have bG:=bG.keep hb1
       have bA:=bA.keep hb1
       have hb9:=below_trans hb9 hb1
       have hfin:srchL g a x y BI false=((0,[]),0):=by rw [srchL,if_neg];rw [srchOk,cntOk];intro hh;simp only [Bool.and_eq_true] at hh;rw [goodB0] at hk2;simp [hh] at hk2
       have z0:W9.cell? ⟨w.heap.size+1+1,0,none⟩=some (.int .i64 0):=bR.cell 0
       have z1:W9.cell? ⟨w.heap.size+1+1,1,none⟩=some (.slice none 0 0):=bR.cell 1
       have fz0:=bR.frozen 0
       have fz1:=bR.frozen 1
       have lz:=bR.lt
       have HF:=Hd_ (HRR.out.trans hfin)
       have HBV:=Hd_ hb9
       clear bR bG bA hb9 hfin
       go_wp2_with fail
       refine bodyPost_ret (v:=.tuple #[.agg #[.int .i64 0,.slice none 0 0],.int .i64 0]) (by simp [results,Tryz.results71,go_sem,z0,z1]) rfl ⟨_,by rw [HF.out],?_,(HBV.out.setCell (p:=⟨w.heap.size+1+1,0,none⟩) (by simp only;omega) _).setCell (p:=⟨w.heap.size+1+1,1,none⟩) (by simp only;omega) _⟩
       rw [HF.out]
       exact ⟨_,rfl,Own.nil _ _ _ _ _ _⟩
     | true =>
       rw [hk2] at HGY
       refine HGY.out.mono ?_
       rintro e w9 ⟨rfl,hb1⟩
       obtain ⟨W9,rfl⟩:∃ W9,W9=w9:=⟨_,rfl⟩
       have bR:=bR.keep hb1
       have bG:=bG.keep hb1
       have bA:=bA.keep hb1
       have hb9:=below_trans hb9 hb1
       have x0:W9.cell? ⟨w.heap.size,0,none⟩=some (.slice A1 g.vals.length c1):=bG.cell 0
       have x1:W9.cell? ⟨w.heap.size,1,none⟩=some (.slice A2 g.edges.length c2):=bG.cell 1
       have y0:W9.cell? ⟨w.heap.size+1,0,none⟩=some (.int .i64 a.start):=bA.cell 0
       have y1:W9.cell? ⟨w.heap.size+1,1,none⟩=some (.slice A3 a.accept.length c3):=bA.cell 1
       have y2:W9.cell? ⟨w.heap.size+1,2,none⟩=some (.slice A4 a.accept.length c4):=bA.cell 2
       have l0:=bG.lt
       have l00:=bA.lt
       have HW:=Hd_ (fun W=>l1In_any BI 1 20000 W)
       clear hb1 HGY
       go_wp2_with fail
       cases hwB:wi BI 1 20000 with
       | false =>
         rw [hwB] at HW
         refine (HW.out _).mono ?_
         rintro e w9 ⟨rfl,hw9⟩
         rw [hw9]
         clear hw9
         have hfin:srchL g a x y BI false=((0,[]),0):=by rw [srchL,if_neg];rw [srchOk,cntOk];intro hh;simp only [Bool.and_eq_true] at hh;simp [hwB] at hh
         have z0:W9.cell? ⟨w.heap.size+1+1,0,none⟩=some (.int .i64 0):=bR.cell 0
         have z1:W9.cell? ⟨w.heap.size+1+1,1,none⟩=some (.slice none 0 0):=bR.cell 1
         have fz0:=bR.frozen 0
         have fz1:=bR.frozen 1
         have lz:=bR.lt
         have HF:=Hd_ (HRR.out.trans hfin)
         have HBV:=Hd_ hb9
         clear bR bG bA hb9 hfin
         go_wp2_with fail
         refine bodyPost_ret (v:=.tuple #[.agg #[.int .i64 0,.slice none 0 0],.int .i64 0]) (by simp [results,Tryz.results71,go_sem,z0,z1]) rfl ⟨_,by rw [HF.out],?_,(HBV.out.setCell (p:=⟨w.heap.size+1+1,0,none⟩) (by simp only;omega) _).setCell (p:=⟨w.heap.size+1+1,1,none⟩) (by simp only;omega) _⟩
         rw [HF.out]
         exact ⟨_,rfl,Own.nil _ _ _ _ _ _⟩
       | true =>
         rw [hwB] at HW
         rw [goodB0] at hk hk2
         simp only [Bool.and_eq_true,wi_iff] at hk hk2
         obtain ⟨hgo,-,hx0,hx1⟩:=hk
         obtain ⟨-,-,hy0,hy1⟩:=hk2
         have hwB2:=wi_iff.1 hwB
         obtain ⟨x,rfl⟩:=Int.eq_ofNat_of_zero_le hx0
         obtain ⟨yn,hyn⟩:=Int.eq_ofNat_of_zero_le hy0
         obtain ⟨B,rfl⟩:=Int.eq_ofNat_of_zero_le (show 0<=BI by omega)
         have hxl:x < g.vals.length:=by omega
         have hgo2:=grOk_iff.1 hgo
         have hn5:=hgo2.n5
         have he12:=hgo2.e12
         obtain ⟨⟨hm1',hm12⟩,⟨hst0,hst1⟩,-,-⟩:=auOk_iff.1 hao
         obtain ⟨s,hs⟩:∃ s:Nat,a.start=(s:Int):=⟨a.start.toNat,by omega⟩
         have hsl:s < a.accept.length:=by omega
         have hck:cntOk g a (x:Int) y=true:=by rw [cntOk,wi_iff.2 ⟨hx0,hx1⟩,wi_iff.2 ⟨hy0,hy1⟩,hgo,hao];rfl
         have hfin:R=srchF g a y B (distTo g a y) false x (bit s) (srchU false x) (srchN g false) 0 0:=by
          rw [HRR.out,srchL,if_pos (by rw [srchOk,hck,hwB];rfl),hs];rfl
         have HF:=Hd_ hfin
         have HDL:=Hd_ (distTo_len (g:=g) (a:=a) (y:=y) (by rw [wi_iff.2 ⟨hy0,hy1⟩,hgo,hao];rfl))
         have HLB:=Hd_ (fun (W:World) (hW:Below w.heap.size w W)=>by
          have h:=l14Back_any _ _ g a yn W (HGV.out.keep hW) (HAV.out.keep hW) hgo hao (by omega)
          rw [<- hyn] at h
          exact h)
         have hbs:=bit_lt hsl
         have HBS:=Hd_ hbs
         have e1:=Hd_ (shl_bit (s:=s) (by omega))
         have e2:=Hd_ (shl_bit2 (s:=s) (by omega))
         have e3:=Hd_ (shl_bit3 (s:=s) (by omega))
         have f1:=Hd_ (shl_bit (s:=x) (by omega))
         have f2:=Hd_ (shl_bit2 (s:=x) (by omega))
         have f3:=Hd_ (shl_bit3 (s:=x) (by omega))
         have hB1:1<=B:=by omega
         have hB2:B<=20000:=by omega
         have HST:=Hd_ hs
         have HGO:=Hd_ hgo
         have HAO:=Hd_ hao
         have HX5:=Hd_ hgo2
         have HBR1:=Hd_ bR
         have HBW:=Hd_ hb9
         clear hfin hgo hao hx0 hx1 hy0 hy1 hst0 hst1 hs hwB2 hck hwB hgo2 hbs HRR bR bG bA hyn
         refine (HW.out _).mono ?_
         rintro e w9 ⟨rfl,hw9⟩
         rw [hw9]
         clear hw9 HW
         go_wp2_with fail
         have hb3:=HBW.out
         have X0:=Hd_ x0
         have X1:=Hd_ x1
         have Y0:=Hd_ y0
         refine F_start 11 (fun w'=>w'.cell? ⟨w.heap.size,0,none⟩=some (.slice A1 g.vals.length c1)/\w'.cell? ⟨w.heap.size,1,none⟩=some (.slice A2 g.edges.length c2)/\w'.cell? ⟨w.heap.size+1,0,none⟩=some (.int .i64 a.start)/\w'.cell? ⟨w.heap.size+1,1,none⟩=some (.slice A3 a.accept.length c3)/\w'.cell? ⟨w.heap.size+1,2,none⟩=some (.slice A4 a.accept.length c4)) (by kernel_rfl) (by exact ⟨x0,x1,y0,y1,y2⟩) (fun hS inv=>?_)
         refine F_tk 0 inv ?_
         try simp only [tA,tB,tC,Act.put,tE,tF,tG]
         clear inv;intro inv
         refine F_tk 1 inv ?_
         try simp only [tA,tB,tC,Act.put,tE,tF,tG]
         clear inv;intro inv
         refine F_tk 2 inv ?_
         try simp only [tA,tB,tC,Act.put,tE,tF,tG]
         clear inv;intro inv
         refine F_tk 3 inv ?_
         try simp only [tA,tB,tC,Act.put,tE,tF,tG]
         clear inv;intro inv
         refine F_tk 4 inv ?_
         try simp only [tA,tB,tC,Act.put,tE,tF,tG]
         clear inv;intro inv
         refine F_tk 5 inv ?_
         try simp only [tA,tB,tC,Act.put,tE,tF,tG]
         clear inv;intro inv
         refine F_tk 7 inv ?_
         try simp only [tA,tB,tC,Act.put,tE,tF,tG]
         clear inv;intro inv
         refine F_tk 8 inv ?_
         try simp only [tA,tB,tC,Act.put,tE,tF,tG]
         clear inv;intro inv
         refine F_two (i:=6) (j:=10) (by kernel_rfl) rfl rfl rfl rfl (by omega) inv (fun K hK=>?_) (fun K hK=>?_)
         all_goals (try simp only [tA,tB,tC])
         · go_simp
           refine (HLB.out W9.drew hb3.drew).mono ?_
           rintro e wD ⟨vD,rfl,hoD,hbD⟩
           obtain ⟨A6,c6,rfl,hl6,hm6,-⟩:=hoD.form cI_len
           refine hK.out _ _ (kB5 hbD hS) (fun _ _=>?_)
           try simp only [tA,tB,tC,Act.put,tE,tF,tG]
           clear hK K inv hS;rename_i hS inv
           refine F_tk 9 inv ?_
           try simp only [tA,tB,tC,Act.put,tE,tF,tG]
           clear inv;intro inv
           refine F_o1 10 inv ?_;intro K hK
           try simp only [tA,tB,tC]
           go_simp
           refine hK.out _ _ (kA5 _ hS) (fun _ _=>?_)
           try simp only [tA,tB,tC,Act.put,tE,tF,tG]
           clear hK K inv hS;rename_i hS inv
           have HS5:=Hd_ hS
           refine F_l1 11 ?_;intro K hK
           go_simp
           refine hK _ _ ?_
           clear hK K inv hS
           have hbkn:Blk (wD.alloc (.cells #[.slice A1 g.vals.length c1,.slice A2 g.edges.length c2,.int .i64 a.start,.slice A3 a.accept.length c3,.slice A4 a.accept.length c4,.int .i64 y,.slice A6 (distTo g a y).length c6,.bool false,.int .i64 (B:Int),.int .i64 ((0:Nat):Int),.slice none 0 0] 150)) wD.heap.size 150 #[.slice A1 g.vals.length c1,.slice A2 g.edges.length c2,.int .i64 a.start,.slice A3 a.accept.length c3,.slice A4 a.accept.length c4,.int .i64 y,.slice A6 (distTo g a y).length c6,.bool false,.int .i64 (B:Int),.int .i64 ((0:Nat):Int),.slice none 0 0]:=Blk.new _ _ _ _ rfl
           have hbn:=(Below.refl wD.heap.size wD).alloc (Nat.le_refl _) (.cells #[.slice A1 g.vals.length c1,.slice A2 g.edges.length c2,.int .i64 a.start,.slice A3 a.accept.length c3,.slice A4 a.accept.length c4,.int .i64 y,.slice A6 (distTo g a y).length c6,.bool false,.int .i64 (B:Int),.int .i64 ((0:Nat):Int),.slice none 0 0] 150)
           have hsn:wD.heap.size < (wD.alloc (.cells #[.slice A1 g.vals.length c1,.slice A2 g.edges.length c2,.int .i64 a.start,.slice A3 a.accept.length c3,.slice A4 a.accept.length c4,.int .i64 y,.slice A6 (distTo g a y).length c6,.bool false,.int .i64 (B:Int),.int .i64 ((0:Nat):Int),.slice none 0 0] 150)).heap.size:=by simp
           have hzero:((0:Nat):Int)=0:=rfl
           rw [hzero] at hbkn hbn hsn
           obtain ⟨bS,hbS⟩:∃ bS,bS=wD.heap.size:=⟨_,rfl⟩
           obtain ⟨W1,hW1⟩:∃ W1,W1=wD.alloc (.cells #[.slice A1 g.vals.length c1,.slice A2 g.edges.length c2,.int .i64 a.start,.slice A3 a.accept.length c3,.slice A4 a.accept.length c4,.int .i64 y,.slice A6 (distTo g a y).length c6,.bool false,.int .i64 (B:Int),.int .i64 (0:Int),.slice none 0 0] 150):=⟨_,rfl⟩
           rw [<- hW1] at hbkn hbn hsn ⊢
           rw [<- hbS] at hbkn hsn ⊢
           have hbw:=below_trans (below_trans hb3.drew hbD) hbn
           have HDV:=Hd_ (SlI.below (hoD.sl cI_len) hbn (Nat.le_refl _))
           have hdl:bS < W9.drew.heap.size ∨ wD.heap.size<=bS:=.inr (by omega)
           have hdh:wD.heap.size<=W1.heap.size:=hbn.size
           have HBR3:=Hd_ (((show Blk W9.drew _ _ _ from HBR1.out).keep hbD).keep hbn)
           have hsD:=hbD.size
           have hwS:w.heap.size+1+1 < bS:=by have:=HBR1.out.lt;have h2:W9.heap.size<=wD.heap.size:=hsD;omega
           have y0:=kcell hbn (kcell hbD (show W9.drew.cell? ⟨w.heap.size+1,0,none⟩=some (.int .i64 a.start) from Y0.out))
           have x0:=kcell hbn (kcell hbD (show W9.drew.cell? ⟨w.heap.size,0,none⟩=some (.slice A1 g.vals.length c1) from X0.out))
           have x1:=kcell hbn (kcell hbD (show W9.drew.cell? ⟨w.heap.size,1,none⟩=some (.slice A2 g.edges.length c2) from X1.out))
           have HBK:=Hd_ (show Blk W1 bS 150 #[.slice A1 g.vals.length c1,.slice A2 g.edges.length c2,.int .i64 a.start,.slice A3 a.accept.length c3,.slice A4 a.accept.length c4,.int .i64 y,.slice A6 (distTo g a y).length c6,.bool false,.int .i64 (B:Int),.int .i64 ((0:Nat):Int),.slice none 0 0] from hbkn)
           generalize W9.drew.heap.size=dl at *
           generalize wD.heap.size=dh at *
           clear hW1 hbn hbkn hbD hoD hsD hb3 HS5 HBR1 HBW HLB hbS hzero
           have HGV1:=Hd_ ((HGV.out.below hbw (Nat.le_refl _)).mono (Nat.zero_le _) (show w.heap.size<=bS by omega))
           have HAV1:=Hd_ ((HAV.out.below hbw (Nat.le_refl _)).mono (Nat.zero_le _) (show w.heap.size<=bS by omega))
           have HGX2:=Hd_ (l20Go_any g a y B (distTo g a y) false HGO.out HAO.out bS dl dh W1 A1 A2 A3 A4 A6 c1 c2 c3 c4 c6 HGV1.out HAV1.out HDV.out hdl hdh HDL.out hB2 hsn)
           have HHX:=Hd_ (fun (W:World) (c:Nat) (sv:Value) (hW:Only bS (bS+1) W1 W) (hk:Blk W bS 150 #[.slice A1 g.vals.length c1,.slice A2 g.edges.length c2,.int .i64 a.start,.slice A3 a.accept.length c3,.slice A4 a.accept.length c4,.int .i64 y,.slice A6 (distTo g a y).length c6,.bool false,.int .i64 (B:Int),.int .i64 (c:Int),sv]) (lf:Nat) (hlf:lf<=60)=>l20Hope_any (distTo g a y) g.vals.length a.accept.length W bS A3 A6 c3 c6 (hk.cell 3) (hk.cell 6) ((SlI.only HDV.out hW hdh (by omega)).all (Nat.le_trans hdh hW.size)) HDL.out hn5 hm12 x (bit s) lf hxl HBS.out hlf hk.lt)
           have HSRF:=Hd_ HF.out.symm
           have HB1:=Hd_ hbw
           have lW0:w.heap.size < W1.heap.size:=by omega
           have lW1:w.heap.size+1 < W1.heap.size:=by omega
           skip
           clear hbw HF
           go_wp2_with fail
           skip
           go_loopw [17] (fun ii wr=>∃ (lf c k:Nat) (sv:Value),lf+k=(g.edges.length+1)/\c<=B/\ii=.int .i64 (lf:Int)/\srchF g a y B (distTo g a y) false x (bit s) [] k lf c=R/\Only bS (bS+1) W1 wr/\Blk wr bS 150 #[.slice A1 g.vals.length c1,.slice A2 g.edges.length c2,.int .i64 a.start,.slice A3 a.accept.length c3,.slice A4 a.accept.length c4,.int .i64 y,.slice A6 (distTo g a y).length c6,.bool false,.int .i64 (B:Int),.int .i64 (c:Int),sv]/\wr.ownsRow W1.heap.size 81 2 sv ([]:List St).length (([]:List St).flatMap cSt)) (fun ii _=>(g.edges.length+1) - (intOf ii).toNat)
           case atStart=>exact ⟨0,0,(g.edges.length+1),.slice none 0 0,by omega,by omega,rfl,HSRF.out,Only.refl _ _ _,HBK.out,World.ownsRow_nil _ _ _ _⟩
           case round =>
            clear HSRF HBK
            obtain ⟨lf,c,k,sv,hlk,hcB,rfl,hR,hon,hbk,hrow⟩:=hrel
            have HR:=Hd_ hR
            have HON:=Hd_ hon
            have HBK:=Hd_ hbk
            have HROW:=Hd_ hrow
            have hsz:=hon.size
            have y0:=ocell hon y0 lW1 (.inl (by omega))
            have lr1:w.heap.size+1 < wr.heap.size:=by omega
            clear hR hon hbk hrow
            by_cases hlt:lf<=g.edges.length
            · have hle:(lf:Int)<=(g.edges.length:Int):=by omega
              obtain ⟨k,rfl⟩:∃ k',k=k'+1:=⟨k - 1,by omega⟩
              have HPX:=Hd_ (HHX.out wr c sv HON.out HBK.out lf (by omega))
              have s1:=e1.out
              have s2:=e2.out
              have s3:=e3.out
              rw [HST.out] at y0
              cases hhp:hope (distTo g a y) a.accept.length x (bit s) lf with
              | false =>
                rw [hhp] at HPX
                have HE:=Hd_ ((srchF_no hhp).symm.trans HR.out)
                clear HR hhp
                go_wp2_with fail
                refine HPX.out.mono ?_
                rintro e w5 ⟨rfl,hw5⟩
                rw [hw5]
                clear hw5
                go_wp2_with fail
                go_roundw
                case rel=>exact ⟨lf+1,c,k,sv,by omega,hcB,by go_num,HE.out,HON.out,HBK.out,HROW.out⟩
                case measure=>simp [intOf];omega
              | true =>
                rw [hhp] at HPX
                have hvl:=visit_le (g:=g) (a:=a) (y:=y) (B:=B) (D:=distTo g a y) (sm:=false) lf x (bit s) [] c hcB
                have hvn:=visit_len (g:=g) (a:=a) (y:=y) (B:=B) (D:=distTo g a y) (sm:=false) lf x (bit s) [] c
                have HVC:=Hd_ (HGX2.out lf x (bit s) 0 [] c sv [] wr HON.out HBK.out HROW.out (URel.none g) hxl HBS.out (by omega) hcB (by simp;omega))
                have HY:=Hd_ (fun r c' h=>(srchF_yes (k:=k) (r:=r) (c':=c') hhp h).symm.trans HR.out)
                have HO:=Hd_ (fun c' h h2=>(srchF_out (k:=k) (c':=c') hhp h h2).symm.trans HR.out)
                have HN:=Hd_ (fun c' h h2=>(srchF_on (k:=k) (c':=c') hhp h h2).symm.trans HR.out)
                generalize visit g a y B (distTo g a y) false lf x (bit s) [] c=V at *
                obtain ⟨o,r2⟩:=V
                simp only at hvl hvn
                clear HR hhp
                go_wp2_with fail
                refine HPX.out.mono ?_
                rintro e w5 ⟨rfl,hw5⟩
                rw [hw5]
                clear hw5 HPX
                go_wp2_with fail
                refine HVC.out.mono ?_
                rintro e wV ⟨rfl,sv6,hbk6,hrow6,-,hsr6⟩
                have hon6:=hsr6.only (fun n hn=>(HROW.out.lt n hn).1) HON.out
                have hszV:=hon6.size
                have HONT:=Hd_ hon6
                have HBKV:=Hd_ hbk6
                have lTV:=hbk6.lt
                have q9:wV.cell? ⟨bS,9,none⟩=some (.int .i64 (r2:Int)):=hbk6.cell 9
                have hbR:Blk wV (w.heap.size+1+1) 39 #[.int .i64 0,.slice none 0 0]:=HBR3.out.only hon6 (.inl hwS)
                have z0:wV.cell? ⟨w.heap.size+1+1,0,none⟩=some (.int .i64 0):=hbR.cell 0
                have z1:wV.cell? ⟨w.heap.size+1+1,1,none⟩=some (.slice none 0 0):=hbR.cell 1
                have fz0:=hbR.frozen 0
                have fz1:=hbR.frozen 1
                have lz:=hbR.lt
                have HBRV:=Hd_ hbR
                have HBV:=Hd_ (HB1.out.trans (hon6.below (B:=w.heap.size) (by omega) HB1.out.size))
                cases o with
                | some r =>
                  have HE:=Hd_ (HY.out r r2 rfl)
                  have hrl:r.length<=60:=by
                   have:=hvn r rfl
                   omega
                  clear hvn
                  rw [Option.getD_some,List.nil_append] at hrow6
                  have hown6:=Own.of_row (xs:=r) hrow6 rfl rfl
                  obtain ⟨A9,n9,c9,rfl⟩:=hown6.shape
                  have hal2:Below wV.heap.size wV (wV.alloc (.cells #[] 81)):=(Below.refl _ _).alloc (Nat.le_refl _) _
                  have HV2:=Hd_ (SlE.keep ((hown6.sl cSt_len).all (Nat.le_refl _)) hal2)
                  have HLT2:=Hd_ (World.ownsRow_lit (base:=wV.heap.size) (e:=81) (size:=2) wV #[] 0 (Nat.le_refl _) (by decide) rfl)
                  have HAL2:=Hd_ hal2
                  have z10:wV.cell? ⟨bS,10,none⟩=some (.slice A9 n9 c9):=HBKV.out.cell 10
                  clear HY HO HN hbk6 hrow6 hsr6 hon6 hbR hown6 hal2
                  go_wp2_with (at_builtin;(refine wpList_appendL cSt elStep cSt_len cSt_one rfl _ _ rfl wV.heap.size _ [] r (by rfl) HLT2.out 0 _ _ (by rfl) HV2.out (by simp;omega) (by omega) (by simp) ?_);intro v5 w5 hrow5 hgr5 hat5;have hb5:=HAL2.out.trans (own_below HLT2.out (by simp) hgr5);have bR5:=HBRV.out.keep hb5;have z0:w5.cell? ⟨w.heap.size+1+1,0,none⟩=some (.int .i64 0):=bR5.cell 0;have z1:w5.cell? ⟨w.heap.size+1+1,1,none⟩=some (.slice none 0 0):=bR5.cell 1;have fz0:=bR5.frozen 0;have fz1:=bR5.frozen 1;have lz5:=bR5.lt;have hown5:=Own.of_row (xs:=[] ++ r) hrow5 rfl rfl;obtain ⟨A7,n7,c7,hv7⟩:=hown5.shape;subst hv7;have HB5:=Hd_ hb5;have HO5:=Hd_ hown5;clear hown5 bR5 hb5 hrow5 hgr5 hat5)
                  have hon3:=((Only.refl (w.heap.size+1+1) (w.heap.size+1+1+1) w5).setCell (p:=⟨w.heap.size+1+1,0,none⟩) (.inl ⟨Nat.le_refl _,Nat.lt_succ_self _⟩) (.int .i64 (x:Int))).setCell (p:=⟨w.heap.size+1+1,1,none⟩) (.inl ⟨Nat.le_refl _,Nat.lt_succ_self _⟩) (.slice A7 n7 c7)
                  have hs5:=HB5.out.size
                  refine bodyPost_ret (v:=.tuple #[.agg #[.int .i64 (x:Int),.slice A7 n7 c7],.int .i64 1]) (by simp [results,Tryz.results71,go_sem,z0,z1]) rfl ⟨_,by rw [<- HE.out],?_,(below_trans HBV.out HB5.out).trans (hon3.below (by omega) (by omega))⟩
                  rw [<- HE.out]
                  exact ⟨_,rfl,(HO5.out.only hon3 (.inr (by omega))).mono (by omega) (by simp [World.setCell])⟩
                | none =>
                  rw [Option.getD_none,List.append_nil] at hrow6
                  have HROW6:=Hd_ hrow6
                  by_cases hcc:B<=r2
                  · have HE:=Hd_ (HO.out r2 rfl hcc)
                    have hcb:decide ((r2:Int) >= (B:Int))=true:=by simp;omega
                    clear HY HO HN hbk6 hrow6 hsr6 hon6 hbR
                    go_wp2_with fail
                    refine bodyPost_ret (v:=.tuple #[.agg #[.int .i64 0,.slice none 0 0],.int .i64 3]) (by simp [results,Tryz.results71,go_sem,z0,z1]) rfl ⟨_,by rw [<- HE.out],?_,(HBV.out.setCell (p:=⟨w.heap.size+1+1,0,none⟩) (by simp only;omega) _).setCell (p:=⟨w.heap.size+1+1,1,none⟩) (by simp only;omega) _⟩
                    rw [<- HE.out]
                    exact ⟨_,rfl,Own.nil _ _ _ _ _ _⟩
                  · have HE:=Hd_ (HN.out r2 rfl hcc)
                    have hcb:decide ((r2:Int) >= (B:Int))=false:=by simp;omega
                    clear HY HO HN hbk6 hrow6 hsr6 hon6 hbR
                    go_wp2_with fail
                    go_roundw
                    case rel=>exact ⟨lf+1,r2,k,sv6,by omega,hvl.1,by go_num,HE.out,HONT.out,HBKV.out,HROW6.out⟩
                    case measure=>simp [intOf];omega
            · obtain rfl:k=0:=by omega
              have hle:¬ (lf:Int)<=(g.edges.length:Int):=by omega
              have HE:=Hd_ ((show srchF g a y B (distTo g a y) false x (bit s) [] 0 lf c=((0,[]),2) from rfl).symm.trans HR.out)
              have hbR:Blk wr (w.heap.size+1+1) 39 #[.int .i64 0,.slice none 0 0]:=HBR3.out.only HON.out (.inl hwS)
              have z0:wr.cell? ⟨w.heap.size+1+1,0,none⟩=some (.int .i64 0):=hbR.cell 0
              have z1:wr.cell? ⟨w.heap.size+1+1,1,none⟩=some (.slice none 0 0):=hbR.cell 1
              have fz0:=hbR.frozen 0
              have fz1:=hbR.frozen 1
              have lz:=hbR.lt
              have HBV:=Hd_ (HB1.out.trans (HON.out.below (B:=w.heap.size) (by omega) HB1.out.size))
              clear HR hbR
              go_wp2_with fail
              refine bodyPost_ret (v:=.tuple #[.agg #[.int .i64 0,.slice none 0 0],.int .i64 2]) (by simp [results,Tryz.results71,go_sem,z0,z1]) rfl ⟨_,by rw [<- HE.out],?_,(HBV.out.setCell (p:=⟨w.heap.size+1+1,0,none⟩) (by simp only;omega) _).setCell (p:=⟨w.heap.size+1+1,1,none⟩) (by simp only;omega) _⟩
              rw [<- HE.out]
              exact ⟨_,rfl,Own.nil _ _ _ _ _ _⟩
         · go_simp
           have hbkz:Blk (W9.drew.alloc (.cells #[.slice none 0 0,.slice none 0 0,.int .i64 0,.slice none 0 0,.slice none 0 0,.int .i64 0,.slice none 0 0,.bool false,.int .i64 0,.int .i64 0,.slice none 0 0] 150)) W9.drew.heap.size 150 #[.slice none 0 0,.slice none 0 0,.int .i64 0,.slice none 0 0,.slice none 0 0,.int .i64 0,.slice none 0 0,.bool false,.int .i64 0,.int .i64 0,.slice none 0 0]:=Blk.new _ _ _ _ rfl
           have hba:=(Below.refl W9.drew.heap.size W9.drew).alloc (Nat.le_refl _) (.cells #[.slice none 0 0,.slice none 0 0,.int .i64 0,.slice none 0 0,.slice none 0 0,.int .i64 0,.slice none 0 0,.bool false,.int .i64 0,.int .i64 0,.slice none 0 0] 150)
           refine hK.out _ _ (kA5 _ hS) (fun _ _=>?_)
           try simp only [tA,tB,tC,Act.put,tE,tF,tG]
           clear hK K inv hS;rename_i hS inv
           refine F_o1 6 inv ?_;intro K hK
           try simp only [tA,tB,tC]
           go_simp
           refine (HLB.out _ (below_trans hb3.drew hba)).mono ?_
           rintro e wD ⟨vD,rfl,hoD,hbD⟩
           obtain ⟨A6,c6,rfl,hl6,hm6,-⟩:=hoD.form cI_len
           have hbkD:=hbkz.keep hbD
           refine hK.out _ _ (kB5 hbD hS) (fun _ _=>?_)
           try simp only [tA,tB,tC,Act.put,tE,tF,tG]
           clear hK K inv hS;rename_i hS inv
           refine F_tk 9 inv ?_
           try simp only [tA,tB,tC,Act.put,tE,tF,tG]
           clear inv;intro inv
           have t0:wD.cell? ⟨W9.heap.size,0,none⟩=some (.slice none 0 0):=hbkD.cell 0
           have g0:wD.frozen? ⟨W9.heap.size,0,none⟩=false:=hbkD.frozen 0
           have t1:wD.cell? ⟨W9.heap.size,1,none⟩=some (.slice none 0 0):=hbkD.cell 1
           have g1:wD.frozen? ⟨W9.heap.size,1,none⟩=false:=hbkD.frozen 1
           have t2:wD.cell? ⟨W9.heap.size,2,none⟩=some (.int .i64 0):=hbkD.cell 2
           have g2:wD.frozen? ⟨W9.heap.size,2,none⟩=false:=hbkD.frozen 2
           have t3:wD.cell? ⟨W9.heap.size,3,none⟩=some (.slice none 0 0):=hbkD.cell 3
           have g3:wD.frozen? ⟨W9.heap.size,3,none⟩=false:=hbkD.frozen 3
           have t4:wD.cell? ⟨W9.heap.size,4,none⟩=some (.slice none 0 0):=hbkD.cell 4
           have g4:wD.frozen? ⟨W9.heap.size,4,none⟩=false:=hbkD.frozen 4
           have t5:wD.cell? ⟨W9.heap.size,5,none⟩=some (.int .i64 0):=hbkD.cell 5
           have g5:wD.frozen? ⟨W9.heap.size,5,none⟩=false:=hbkD.frozen 5
           have t6:wD.cell? ⟨W9.heap.size,6,none⟩=some (.slice none 0 0):=hbkD.cell 6
           have g6:wD.frozen? ⟨W9.heap.size,6,none⟩=false:=hbkD.frozen 6
           have t7:wD.cell? ⟨W9.heap.size,7,none⟩=some (.bool false):=hbkD.cell 7
           have g7:wD.frozen? ⟨W9.heap.size,7,none⟩=false:=hbkD.frozen 7
           have t8:wD.cell? ⟨W9.heap.size,8,none⟩=some (.int .i64 0):=hbkD.cell 8
           have g8:wD.frozen? ⟨W9.heap.size,8,none⟩=false:=hbkD.frozen 8
           have t9:wD.cell? ⟨W9.heap.size,9,none⟩=some (.int .i64 0):=hbkD.cell 9
           have g9:wD.frozen? ⟨W9.heap.size,9,none⟩=false:=hbkD.frozen 9
           have t10:wD.cell? ⟨W9.heap.size,10,none⟩=some (.slice none 0 0):=hbkD.cell 10
           have g10:wD.frozen? ⟨W9.heap.size,10,none⟩=false:=hbkD.frozen 10
           have lS0:W9.heap.size < wD.heap.size:=hbkD.lt
           refine F_l1 11 ?_;intro K hK
           go_simp
           refine hK _ _ ?_
           clear hK K inv hS
           have hbkn:Blk (((((((((((wD.setCell ⟨W9.heap.size,0,none⟩ (.slice A1 g.vals.length c1)).setCell ⟨W9.heap.size,1,none⟩ (.slice A2 g.edges.length c2)).setCell ⟨W9.heap.size,2,none⟩ (.int .i64 a.start)).setCell ⟨W9.heap.size,3,none⟩ (.slice A3 a.accept.length c3)).setCell ⟨W9.heap.size,4,none⟩ (.slice A4 a.accept.length c4)).setCell ⟨W9.heap.size,5,none⟩ (.int .i64 y)).setCell ⟨W9.heap.size,6,none⟩ (.slice A6 (distTo g a y).length c6)).setCell ⟨W9.heap.size,7,none⟩ (.bool false)).setCell ⟨W9.heap.size,8,none⟩ (.int .i64 (B:Int))).setCell ⟨W9.heap.size,9,none⟩ (.int .i64 0)).setCell ⟨W9.heap.size,10,none⟩ (.slice none 0 0)) W9.heap.size 150 #[.slice A1 g.vals.length c1,.slice A2 g.edges.length c2,.int .i64 a.start,.slice A3 a.accept.length c3,.slice A4 a.accept.length c4,.int .i64 y,.slice A6 (distTo g a y).length c6,.bool false,.int .i64 (B:Int),.int .i64 ((0:Nat):Int),.slice none 0 0]:=hbkD.set11 _ _ _ _ _ _ _ _ _ _ _
           have honB:Only W9.heap.size (W9.heap.size+1) wD (((((((((((wD.setCell ⟨W9.heap.size,0,none⟩ (.slice A1 g.vals.length c1)).setCell ⟨W9.heap.size,1,none⟩ (.slice A2 g.edges.length c2)).setCell ⟨W9.heap.size,2,none⟩ (.int .i64 a.start)).setCell ⟨W9.heap.size,3,none⟩ (.slice A3 a.accept.length c3)).setCell ⟨W9.heap.size,4,none⟩ (.slice A4 a.accept.length c4)).setCell ⟨W9.heap.size,5,none⟩ (.int .i64 y)).setCell ⟨W9.heap.size,6,none⟩ (.slice A6 (distTo g a y).length c6)).setCell ⟨W9.heap.size,7,none⟩ (.bool false)).setCell ⟨W9.heap.size,8,none⟩ (.int .i64 (B:Int))).setCell ⟨W9.heap.size,9,none⟩ (.int .i64 0)).setCell ⟨W9.heap.size,10,none⟩ (.slice none 0 0)):=Only.set11 _ _ _ _ _ _ _ _ _ _ _ _ _
           obtain ⟨bS,hbS⟩:∃ bS,bS=W9.heap.size:=⟨_,rfl⟩
           obtain ⟨W1,hW1⟩:∃ W1,W1=(((((((((((wD.setCell ⟨W9.heap.size,0,none⟩ (.slice A1 g.vals.length c1)).setCell ⟨W9.heap.size,1,none⟩ (.slice A2 g.edges.length c2)).setCell ⟨W9.heap.size,2,none⟩ (.int .i64 a.start)).setCell ⟨W9.heap.size,3,none⟩ (.slice A3 a.accept.length c3)).setCell ⟨W9.heap.size,4,none⟩ (.slice A4 a.accept.length c4)).setCell ⟨W9.heap.size,5,none⟩ (.int .i64 y)).setCell ⟨W9.heap.size,6,none⟩ (.slice A6 (distTo g a y).length c6)).setCell ⟨W9.heap.size,7,none⟩ (.bool false)).setCell ⟨W9.heap.size,8,none⟩ (.int .i64 (B:Int))).setCell ⟨W9.heap.size,9,none⟩ (.int .i64 0)).setCell ⟨W9.heap.size,10,none⟩ (.slice none 0 0)):=⟨_,rfl⟩
           rw [<- hW1] at hbkn honB ⊢
           have hbwD:=below_trans (below_trans hb3.drew hba) hbD
           have hwS:w.heap.size+1+1 < bS:=by have:=HBR1.out.lt;omega
           have hdl0:bS+1<=(W9.drew.alloc (.cells #[.slice none 0 0,.slice none 0 0,.int .i64 0,.slice none 0 0,.slice none 0 0,.int .i64 0,.slice none 0 0,.bool false,.int .i64 0,.int .i64 0,.slice none 0 0] 150)).heap.size:=by rw [hbS];simp
           rw [<- hbS] at hbkn honB ⊢
           have hsD:=hbD.size
           have hbw:=hbwD.trans (honB.below (B:=w.heap.size) (by omega) hbwD.size)
           have HDV:=Hd_ (SlI.only (hoD.sl cI_len) honB (Nat.le_refl _) (.inr hdl0))
           have hdl:bS < (W9.drew.alloc (.cells #[.slice none 0 0,.slice none 0 0,.int .i64 0,.slice none 0 0,.slice none 0 0,.int .i64 0,.slice none 0 0,.bool false,.int .i64 0,.int .i64 0,.slice none 0 0] 150)).heap.size ∨ wD.heap.size<=bS:=.inl hdl0
           have hdh:wD.heap.size<=W1.heap.size:=honB.size
           have hsn:bS < W1.heap.size:=by omega
           have HBR3:=Hd_ ((((show Blk W9.drew _ _ _ from HBR1.out).keep hba).keep hbD).only honB (.inl hwS))
           have y0:=ocell honB (kcell hbD (kcell hba (show W9.drew.cell? ⟨w.heap.size+1,0,none⟩=some (.int .i64 a.start) from Y0.out))) (by omega) (.inl (by omega))
           have x0:=ocell honB (kcell hbD (kcell hba (show W9.drew.cell? ⟨w.heap.size,0,none⟩=some (.slice A1 g.vals.length c1) from X0.out))) (by omega) (.inl (by omega))
           have x1:=ocell honB (kcell hbD (kcell hba (show W9.drew.cell? ⟨w.heap.size,1,none⟩=some (.slice A2 g.edges.length c2) from X1.out))) (by omega) (.inl (by omega))
           have HBK:=Hd_ (show Blk W1 bS 150 #[.slice A1 g.vals.length c1,.slice A2 g.edges.length c2,.int .i64 a.start,.slice A3 a.accept.length c3,.slice A4 a.accept.length c4,.int .i64 y,.slice A6 (distTo g a y).length c6,.bool false,.int .i64 (B:Int),.int .i64 ((0:Nat):Int),.slice none 0 0] from hbkn)
           generalize (W9.drew.alloc (.cells #[.slice none 0 0,.slice none 0 0,.int .i64 0,.slice none 0 0,.slice none 0 0,.int .i64 0,.slice none 0 0,.bool false,.int .i64 0,.int .i64 0,.slice none 0 0] 150)).heap.size=dl at *
           generalize wD.heap.size=dh at *
           clear hW1 honB hbkn hbD hoD hsD hb3 HBR1 HBW HLB hbS hbwD hdl0 hba hbkz hbkD t0 g0 t1 g1 t2 g2 t3 g3 t4 g4 t5 g5 t6 g6 t7 g7 t8 g8 t9 g9 t10 g10 lS0
           have HGV1:=Hd_ ((HGV.out.below hbw (Nat.le_refl _)).mono (Nat.zero_le _) (show w.heap.size<=bS by omega))
           have HAV1:=Hd_ ((HAV.out.below hbw (Nat.le_refl _)).mono (Nat.zero_le _) (show w.heap.size<=bS by omega))
           have HGX2:=Hd_ (l20Go_any g a y B (distTo g a y) false HGO.out HAO.out bS dl dh W1 A1 A2 A3 A4 A6 c1 c2 c3 c4 c6 HGV1.out HAV1.out HDV.out hdl hdh HDL.out hB2 hsn)
           have HHX:=Hd_ (fun (W:World) (c:Nat) (sv:Value) (hW:Only bS (bS+1) W1 W) (hk:Blk W bS 150 #[.slice A1 g.vals.length c1,.slice A2 g.edges.length c2,.int .i64 a.start,.slice A3 a.accept.length c3,.slice A4 a.accept.length c4,.int .i64 y,.slice A6 (distTo g a y).length c6,.bool false,.int .i64 (B:Int),.int .i64 (c:Int),sv]) (lf:Nat) (hlf:lf<=60)=>l20Hope_any (distTo g a y) g.vals.length a.accept.length W bS A3 A6 c3 c6 (hk.cell 3) (hk.cell 6) ((SlI.only HDV.out hW hdh (by omega)).all (Nat.le_trans hdh hW.size)) HDL.out hn5 hm12 x (bit s) lf hxl HBS.out hlf hk.lt)
           have HSRF:=Hd_ HF.out.symm
           have HB1:=Hd_ hbw
           have lW0:w.heap.size < W1.heap.size:=by omega
           have lW1:w.heap.size+1 < W1.heap.size:=by omega
           skip
           clear hbw HF
           go_wp2_with fail
           skip
           go_loopw [17] (fun ii wr=>∃ (lf c k:Nat) (sv:Value),lf+k=(g.edges.length+1)/\c<=B/\ii=.int .i64 (lf:Int)/\srchF g a y B (distTo g a y) false x (bit s) [] k lf c=R/\Only bS (bS+1) W1 wr/\Blk wr bS 150 #[.slice A1 g.vals.length c1,.slice A2 g.edges.length c2,.int .i64 a.start,.slice A3 a.accept.length c3,.slice A4 a.accept.length c4,.int .i64 y,.slice A6 (distTo g a y).length c6,.bool false,.int .i64 (B:Int),.int .i64 (c:Int),sv]/\wr.ownsRow W1.heap.size 81 2 sv ([]:List St).length (([]:List St).flatMap cSt)) (fun ii _=>(g.edges.length+1) - (intOf ii).toNat)
           case atStart=>exact ⟨0,0,(g.edges.length+1),.slice none 0 0,by omega,by omega,rfl,HSRF.out,Only.refl _ _ _,HBK.out,World.ownsRow_nil _ _ _ _⟩
           case round =>
            clear HSRF HBK
            obtain ⟨lf,c,k,sv,hlk,hcB,rfl,hR,hon,hbk,hrow⟩:=hrel
            have HR:=Hd_ hR
            have HON:=Hd_ hon
            have HBK:=Hd_ hbk
            have HROW:=Hd_ hrow
            have hsz:=hon.size
            have y0:=ocell hon y0 lW1 (.inl (by omega))
            have lr1:w.heap.size+1 < wr.heap.size:=by omega
            clear hR hon hbk hrow
            by_cases hlt:lf<=g.edges.length
            · have hle:(lf:Int)<=(g.edges.length:Int):=by omega
              obtain ⟨k,rfl⟩:∃ k',k=k'+1:=⟨k - 1,by omega⟩
              have HPX:=Hd_ (HHX.out wr c sv HON.out HBK.out lf (by omega))
              have s1:=e1.out
              have s2:=e2.out
              have s3:=e3.out
              rw [HST.out] at y0
              cases hhp:hope (distTo g a y) a.accept.length x (bit s) lf with
              | false =>
                rw [hhp] at HPX
                have HE:=Hd_ ((srchF_no hhp).symm.trans HR.out)
                clear HR hhp
                go_wp2_with fail
                refine HPX.out.mono ?_
                rintro e w5 ⟨rfl,hw5⟩
                rw [hw5]
                clear hw5
                go_wp2_with fail
                go_roundw
                case rel=>exact ⟨lf+1,c,k,sv,by omega,hcB,by go_num,HE.out,HON.out,HBK.out,HROW.out⟩
                case measure=>simp [intOf];omega
              | true =>
                rw [hhp] at HPX
                have hvl:=visit_le (g:=g) (a:=a) (y:=y) (B:=B) (D:=distTo g a y) (sm:=false) lf x (bit s) [] c hcB
                have hvn:=visit_len (g:=g) (a:=a) (y:=y) (B:=B) (D:=distTo g a y) (sm:=false) lf x (bit s) [] c
                have HVC:=Hd_ (HGX2.out lf x (bit s) 0 [] c sv [] wr HON.out HBK.out HROW.out (URel.none g) hxl HBS.out (by omega) hcB (by simp;omega))
                have HY:=Hd_ (fun r c' h=>(srchF_yes (k:=k) (r:=r) (c':=c') hhp h).symm.trans HR.out)
                have HO:=Hd_ (fun c' h h2=>(srchF_out (k:=k) (c':=c') hhp h h2).symm.trans HR.out)
                have HN:=Hd_ (fun c' h h2=>(srchF_on (k:=k) (c':=c') hhp h h2).symm.trans HR.out)
                generalize visit g a y B (distTo g a y) false lf x (bit s) [] c=V at *
                obtain ⟨o,r2⟩:=V
                simp only at hvl hvn
                clear HR hhp
                go_wp2_with fail
                refine HPX.out.mono ?_
                rintro e w5 ⟨rfl,hw5⟩
                rw [hw5]
                clear hw5 HPX
                go_wp2_with fail
                refine HVC.out.mono ?_
                rintro e wV ⟨rfl,sv6,hbk6,hrow6,-,hsr6⟩
                have hon6:=hsr6.only (fun n hn=>(HROW.out.lt n hn).1) HON.out
                have hszV:=hon6.size
                have HONT:=Hd_ hon6
                have HBKV:=Hd_ hbk6
                have lTV:=hbk6.lt
                have q9:wV.cell? ⟨bS,9,none⟩=some (.int .i64 (r2:Int)):=hbk6.cell 9
                have hbR:Blk wV (w.heap.size+1+1) 39 #[.int .i64 0,.slice none 0 0]:=HBR3.out.only hon6 (.inl hwS)
                have z0:wV.cell? ⟨w.heap.size+1+1,0,none⟩=some (.int .i64 0):=hbR.cell 0
                have z1:wV.cell? ⟨w.heap.size+1+1,1,none⟩=some (.slice none 0 0):=hbR.cell 1
                have fz0:=hbR.frozen 0
                have fz1:=hbR.frozen 1
                have lz:=hbR.lt
                have HBRV:=Hd_ hbR
                have HBV:=Hd_ (HB1.out.trans (hon6.below (B:=w.heap.size) (by omega) HB1.out.size))
                cases o with
                | some r =>
                  have HE:=Hd_ (HY.out r r2 rfl)
                  have hrl:r.length<=60:=by
                   have:=hvn r rfl
                   omega
                  clear hvn
                  rw [Option.getD_some,List.nil_append] at hrow6
                  have hown6:=Own.of_row (xs:=r) hrow6 rfl rfl
                  obtain ⟨A9,n9,c9,rfl⟩:=hown6.shape
                  have hal2:Below wV.heap.size wV (wV.alloc (.cells #[] 81)):=(Below.refl _ _).alloc (Nat.le_refl _) _
                  have HV2:=Hd_ (SlE.keep ((hown6.sl cSt_len).all (Nat.le_refl _)) hal2)
                  have HLT2:=Hd_ (World.ownsRow_lit (base:=wV.heap.size) (e:=81) (size:=2) wV #[] 0 (Nat.le_refl _) (by decide) rfl)
                  have HAL2:=Hd_ hal2
                  have z10:wV.cell? ⟨bS,10,none⟩=some (.slice A9 n9 c9):=HBKV.out.cell 10
                  clear HY HO HN hbk6 hrow6 hsr6 hon6 hbR hown6 hal2
                  go_wp2_with (at_builtin;(refine wpList_appendL cSt elStep cSt_len cSt_one rfl _ _ rfl wV.heap.size _ [] r (by rfl) HLT2.out 0 _ _ (by rfl) HV2.out (by simp;omega) (by omega) (by simp) ?_);intro v5 w5 hrow5 hgr5 hat5;have hb5:=HAL2.out.trans (own_below HLT2.out (by simp) hgr5);have bR5:=HBRV.out.keep hb5;have z0:w5.cell? ⟨w.heap.size+1+1,0,none⟩=some (.int .i64 0):=bR5.cell 0;have z1:w5.cell? ⟨w.heap.size+1+1,1,none⟩=some (.slice none 0 0):=bR5.cell 1;have fz0:=bR5.frozen 0;have fz1:=bR5.frozen 1;have lz5:=bR5.lt;have hown5:=Own.of_row (xs:=[] ++ r) hrow5 rfl rfl;obtain ⟨A7,n7,c7,hv7⟩:=hown5.shape;subst hv7;have HB5:=Hd_ hb5;have HO5:=Hd_ hown5;clear hown5 bR5 hb5 hrow5 hgr5 hat5)
                  have hon3:=((Only.refl (w.heap.size+1+1) (w.heap.size+1+1+1) w5).setCell (p:=⟨w.heap.size+1+1,0,none⟩) (.inl ⟨Nat.le_refl _,Nat.lt_succ_self _⟩) (.int .i64 (x:Int))).setCell (p:=⟨w.heap.size+1+1,1,none⟩) (.inl ⟨Nat.le_refl _,Nat.lt_succ_self _⟩) (.slice A7 n7 c7)
                  have hs5:=HB5.out.size
                  refine bodyPost_ret (v:=.tuple #[.agg #[.int .i64 (x:Int),.slice A7 n7 c7],.int .i64 1]) (by simp [results,Tryz.results71,go_sem,z0,z1]) rfl ⟨_,by rw [<- HE.out],?_,(below_trans HBV.out HB5.out).trans (hon3.below (by omega) (by omega))⟩
                  rw [<- HE.out]
                  exact ⟨_,rfl,(HO5.out.only hon3 (.inr (by omega))).mono (by omega) (by simp [World.setCell])⟩
                | none =>
                  rw [Option.getD_none,List.append_nil] at hrow6
                  have HROW6:=Hd_ hrow6
                  by_cases hcc:B<=r2
                  · have HE:=Hd_ (HO.out r2 rfl hcc)
                    have hcb:decide ((r2:Int) >= (B:Int))=true:=by simp;omega
                    clear HY HO HN hbk6 hrow6 hsr6 hon6 hbR
                    go_wp2_with fail
                    refine bodyPost_ret (v:=.tuple #[.agg #[.int .i64 0,.slice none 0 0],.int .i64 3]) (by simp [results,Tryz.results71,go_sem,z0,z1]) rfl ⟨_,by rw [<- HE.out],?_,(HBV.out.setCell (p:=⟨w.heap.size+1+1,0,none⟩) (by simp only;omega) _).setCell (p:=⟨w.heap.size+1+1,1,none⟩) (by simp only;omega) _⟩
                    rw [<- HE.out]
                    exact ⟨_,rfl,Own.nil _ _ _ _ _ _⟩
                  · have HE:=Hd_ (HN.out r2 rfl hcc)
                    have hcb:decide ((r2:Int) >= (B:Int))=false:=by simp;omega
                    clear HY HO HN hbk6 hrow6 hsr6 hon6 hbR
                    go_wp2_with fail
                    go_roundw
                    case rel=>exact ⟨lf+1,r2,k,sv6,by omega,hvl.1,by go_num,HE.out,HONT.out,HBKV.out,HROW6.out⟩
                    case measure=>simp [intOf];omega
            · obtain rfl:k=0:=by omega
              have hle:¬ (lf:Int)<=(g.edges.length:Int):=by omega
              have HE:=Hd_ ((show srchF g a y B (distTo g a y) false x (bit s) [] 0 lf c=((0,[]),2) from rfl).symm.trans HR.out)
              have hbR:Blk wr (w.heap.size+1+1) 39 #[.int .i64 0,.slice none 0 0]:=HBR3.out.only HON.out (.inl hwS)
              have z0:wr.cell? ⟨w.heap.size+1+1,0,none⟩=some (.int .i64 0):=hbR.cell 0
              have z1:wr.cell? ⟨w.heap.size+1+1,1,none⟩=some (.slice none 0 0):=hbR.cell 1
              have fz0:=hbR.frozen 0
              have fz1:=hbR.frozen 1
              have lz:=hbR.lt
              have HBV:=Hd_ (HB1.out.trans (HON.out.below (B:=w.heap.size) (by omega) HB1.out.size))
              clear HR hbR
              go_wp2_with fail
              refine bodyPost_ret (v:=.tuple #[.agg #[.int .i64 0,.slice none 0 0],.int .i64 2]) (by simp [results,Tryz.results71,go_sem,z0,z1]) rfl ⟨_,by rw [<- HE.out],?_,(HBV.out.setCell (p:=⟨w.heap.size+1+1,0,none⟩) (by simp only;omega) _).setCell (p:=⟨w.heap.size+1+1,1,none⟩) (by simp only;omega) _⟩
              rw [<- HE.out]
              exact ⟨_,rfl,Own.nil _ _ _ _ _ _⟩
set_option maxHeartbeats 16000000 in
set_option maxRecDepth 100000 in
theorem l20Find_true (vg va:Value) (g:Gr) (a:Au) (x y BI:Int) (w:World) (hgv:GrV 0 w.heap.size w vg g) (hav:AuV 0 w.heap.size w va a) :
 Calls Tryz.prog 71 #[vg,va,.int .i64 x,.int .i64 y,.int .i64 BI,.bool true] w fun e w'=>∃ v',e=.returned (.tuple #[v',.int .i64 (srchL g a x y BI true).2])/\WkO w.heap.size w'.heap.size w' v' (srchL g a x y BI true).1/\Below w.heap.size w w':=by
 have hgv0:=hgv
 have hav0:=hav
 obtain ⟨A1,c1,A2,c2,rfl,hl1,hm1,hl2,hm2,-,-⟩:=hgv.form
 obtain ⟨R,hR⟩:∃ R,R=srchL g a x y BI true:=⟨_,rfl⟩
 rw [<- hR]
 cases hao:auOk a with
 | false =>
   obtain ⟨A3,n3,c3,A4,n4,c4,rfl⟩:=hav.shape
   have hb0:Below w.heap.size w (((w.alloc (.cells #[.slice A1 g.vals.length c1,.slice A2 g.edges.length c2] 27)).alloc (.cells #[.int .i64 a.start,.slice A3 n3 c3,.slice A4 n4 c4] 31)).alloc (.cells #[.int .i64 0,.slice none 0 0] 39)):=(((Below.refl _ _).alloc (Nat.le_refl _) _).alloc (by simp) _).alloc (by simp;omega) _
   have HGV:=Hd_ hgv0
   have HAV:=Hd_ hav0
   have HRR:=Hd_ hR
   clear hgv hav hgv0 hav0 hR
   go_enter Tryz.func71,Tryz.ntmps71
   go_wp2_with fail
   obtain ⟨W0,hW0⟩:∃ W0,W0=(((w.alloc (.cells #[.slice A1 g.vals.length c1,.slice A2 g.edges.length c2] 27)).alloc (.cells #[.int .i64 a.start,.slice A3 n3 c3,.slice A4 n4 c4] 31)).alloc (.cells #[.int .i64 0,.slice none 0 0] 39)):=⟨_,rfl⟩
   rw [<- hW0] at hb0 ⊢
   have bG:Blk W0 w.heap.size 27 #[.slice A1 g.vals.length c1,.slice A2 g.edges.length c2]:=by rw [hW0];exact ((Blk.new w _ _ w.heap.size rfl).alloc _).alloc _
   have bA:Blk W0 (w.heap.size+1) 31 #[.int .i64 a.start,.slice A3 n3 c3,.slice A4 n4 c4]:=by rw [hW0];exact (Blk.new (w.alloc _) _ _ (w.heap.size+1) (by simp)).alloc _
   have bR:Blk W0 (w.heap.size+1+1) 39 #[.int .i64 0,.slice none 0 0]:=by rw [hW0];exact Blk.new ((w.alloc _).alloc _) _ _ (w.heap.size+1+1) (by simp)
   clear hW0
   have HGX:=Hd_ (l14Good_any _ _ g a x 0 W0 (HGV.out.keep hb0) (HAV.out.keep hb0))
   have hgb:goodB g a x 0=false:=by rw [goodB,hao];simp
   rw [hgb] at HGX
   refine HGX.out.mono ?_
   rintro e W9 ⟨rfl,hb1⟩
   have bR:=bR.keep hb1
   have bG:=bG.keep hb1
   have bA:=bA.keep hb1
   have hb9:=below_trans hb0 hb1
   have hfin:srchL g a x y BI true=((0,[]),0):=by rw [srchL,if_neg];rw [srchOk,cntOk];intro hh;simp only [Bool.and_eq_true] at hh;simp [hao] at hh
   have z0:W9.cell? ⟨w.heap.size+1+1,0,none⟩=some (.int .i64 0):=bR.cell 0
   have z1:W9.cell? ⟨w.heap.size+1+1,1,none⟩=some (.slice none 0 0):=bR.cell 1
   have fz0:=bR.frozen 0
   have fz1:=bR.frozen 1
   have lz:=bR.lt
   have HF:=Hd_ (HRR.out.trans hfin)
   have HBV:=Hd_ hb9
   clear bR bG bA hb9 hfin
   go_wp2_with fail
   refine bodyPost_ret (v:=.tuple #[.agg #[.int .i64 0,.slice none 0 0],.int .i64 0]) (by simp [results,Tryz.results71,go_sem,z0,z1]) rfl ⟨_,by rw [HF.out],?_,(HBV.out.setCell (p:=⟨w.heap.size+1+1,0,none⟩) (by simp only;omega) _).setCell (p:=⟨w.heap.size+1+1,1,none⟩) (by simp only;omega) _⟩
   rw [HF.out]
   exact ⟨_,rfl,Own.nil _ _ _ _ _ _⟩
 | true =>
   obtain ⟨A3,c3,A4,c4,rfl,-,-,-,-,-⟩:=hav.form hao
   have hb0:Below w.heap.size w (((w.alloc (.cells #[.slice A1 g.vals.length c1,.slice A2 g.edges.length c2] 27)).alloc (.cells #[.int .i64 a.start,.slice A3 a.accept.length c3,.slice A4 a.accept.length c4] 31)).alloc (.cells #[.int .i64 0,.slice none 0 0] 39)):=(((Below.refl _ _).alloc (Nat.le_refl _) _).alloc (by simp) _).alloc (by simp;omega) _
   have HGV:=Hd_ hgv0
   have HAV:=Hd_ hav0
   have HRR:=Hd_ hR
   clear hgv hav hgv0 hav0 hR
   go_enter Tryz.func71,Tryz.ntmps71
   go_wp2_with fail
   obtain ⟨W0,hW0⟩:∃ W0,W0=(((w.alloc (.cells #[.slice A1 g.vals.length c1,.slice A2 g.edges.length c2] 27)).alloc (.cells #[.int .i64 a.start,.slice A3 a.accept.length c3,.slice A4 a.accept.length c4] 31)).alloc (.cells #[.int .i64 0,.slice none 0 0] 39)):=⟨_,rfl⟩
   rw [<- hW0] at hb0 ⊢
   have bG:Blk W0 w.heap.size 27 #[.slice A1 g.vals.length c1,.slice A2 g.edges.length c2]:=by rw [hW0];exact ((Blk.new w _ _ w.heap.size rfl).alloc _).alloc _
   have bA:Blk W0 (w.heap.size+1) 31 #[.int .i64 a.start,.slice A3 a.accept.length c3,.slice A4 a.accept.length c4]:=by rw [hW0];exact (Blk.new (w.alloc _) _ _ (w.heap.size+1) (by simp)).alloc _
   have bR:Blk W0 (w.heap.size+1+1) 39 #[.int .i64 0,.slice none 0 0]:=by rw [hW0];exact Blk.new ((w.alloc _).alloc _) _ _ (w.heap.size+1+1) (by simp)
   clear hW0
   have HGX:=Hd_ (l14Good_any _ _ g a x 0 W0 (HGV.out.keep hb0) (HAV.out.keep hb0))
   cases hk:goodB g a x 0 with
   | false =>
     rw [hk] at HGX
     refine HGX.out.mono ?_
     rintro e W9 ⟨rfl,hb1⟩
     have bR:=bR.keep hb1
     have bG:=bG.keep hb1
     have bA:=bA.keep hb1
     have hb9:=below_trans hb0 hb1
     have hfin:srchL g a x y BI true=((0,[]),0):=by rw [srchL,if_neg];rw [srchOk,cntOk];intro hh;simp only [Bool.and_eq_true] at hh;rw [goodB0] at hk;simp [hh] at hk
     have z0:W9.cell? ⟨w.heap.size+1+1,0,none⟩=some (.int .i64 0):=bR.cell 0
     have z1:W9.cell? ⟨w.heap.size+1+1,1,none⟩=some (.slice none 0 0):=bR.cell 1
     have fz0:=bR.frozen 0
     have fz1:=bR.frozen 1
     have lz:=bR.lt
     have HF:=Hd_ (HRR.out.trans hfin)
     have HBV:=Hd_ hb9
     clear bR bG bA hb9 hfin
     go_wp2_with fail
     refine bodyPost_ret (v:=.tuple #[.agg #[.int .i64 0,.slice none 0 0],.int .i64 0]) (by simp [results,Tryz.results71,go_sem,z0,z1]) rfl ⟨_,by rw [HF.out],?_,(HBV.out.setCell (p:=⟨w.heap.size+1+1,0,none⟩) (by simp only;omega) _).setCell (p:=⟨w.heap.size+1+1,1,none⟩) (by simp only;omega) _⟩
     rw [HF.out]
     exact ⟨_,rfl,Own.nil _ _ _ _ _ _⟩
   | true =>
     rw [hk] at HGX
     refine HGX.out.mono ?_
     rintro e W9 ⟨rfl,hb1⟩
     have bR:=bR.keep hb1
     have bG:=bG.keep hb1
     have bA:=bA.keep hb1
     have hb9:=below_trans hb0 hb1
     have x0:W9.cell? ⟨w.heap.size,0,none⟩=some (.slice A1 g.vals.length c1):=bG.cell 0
     have x1:W9.cell? ⟨w.heap.size,1,none⟩=some (.slice A2 g.edges.length c2):=bG.cell 1
     have y0:W9.cell? ⟨w.heap.size+1,0,none⟩=some (.int .i64 a.start):=bA.cell 0
     have y1:W9.cell? ⟨w.heap.size+1,1,none⟩=some (.slice A3 a.accept.length c3):=bA.cell 1
     have y2:W9.cell? ⟨w.heap.size+1,2,none⟩=some (.slice A4 a.accept.length c4):=bA.cell 2
     have l0:=bG.lt
     have l00:=bA.lt
     have HGY:=Hd_ (l14Good_any _ _ g a y 0 W9 (HGV.out.keep hb9) (HAV.out.keep hb9))
     clear hb1 hb0 HGX
     go_wp2_with fail
     cases hk2:goodB g a y 0 with
     | false =>
       rw [hk2] at HGY
       refine HGY.out.mono ?_
       rintro e w9 ⟨rfl,hb1⟩
       obtain ⟨W9,rfl⟩:∃ W9,W9=w9:=⟨_,rfl⟩
       have bR:=bR.keep hb1
       have bG:=bG.keep hb1
       have bA:=bA.keep hb1
       have hb9:=below_trans hb9 hb1
       have hfin:srchL g a x y BI true=((0,[]),0):=by rw [srchL,if_neg];rw [srchOk,cntOk];intro hh;simp only [Bool.and_eq_true] at hh;rw [goodB0] at hk2;simp [hh] at hk2
       have z0:W9.cell? ⟨w.heap.size+1+1,0,none⟩=some (.int .i64 0):=bR.cell 0
       have z1:W9.cell? ⟨w.heap.size+1+1,1,none⟩=some (.slice none 0 0):=bR.cell 1
       have fz0:=bR.frozen 0
       have fz1:=bR.frozen 1
       have lz:=bR.lt
       have HF:=Hd_ (HRR.out.trans hfin)
       have HBV:=Hd_ hb9
       clear bR bG bA hb9 hfin
       go_wp2_with fail
       refine bodyPost_ret (v:=.tuple #[.agg #[.int .i64 0,.slice none 0 0],.int .i64 0]) (by simp [results,Tryz.results71,go_sem,z0,z1]) rfl ⟨_,by rw [HF.out],?_,(HBV.out.setCell (p:=⟨w.heap.size+1+1,0,none⟩) (by simp only;omega) _).setCell (p:=⟨w.heap.size+1+1,1,none⟩) (by simp only;omega) _⟩
       rw [HF.out]
       exact ⟨_,rfl,Own.nil _ _ _ _ _ _⟩
     | true =>
       rw [hk2] at HGY
       refine HGY.out.mono ?_
       rintro e w9 ⟨rfl,hb1⟩
       obtain ⟨W9,rfl⟩:∃ W9,W9=w9:=⟨_,rfl⟩
       have bR:=bR.keep hb1
       have bG:=bG.keep hb1
       have bA:=bA.keep hb1
       have hb9:=below_trans hb9 hb1
       have x0:W9.cell? ⟨w.heap.size,0,none⟩=some (.slice A1 g.vals.length c1):=bG.cell 0
       have x1:W9.cell? ⟨w.heap.size,1,none⟩=some (.slice A2 g.edges.length c2):=bG.cell 1
       have y0:W9.cell? ⟨w.heap.size+1,0,none⟩=some (.int .i64 a.start):=bA.cell 0
       have y1:W9.cell? ⟨w.heap.size+1,1,none⟩=some (.slice A3 a.accept.length c3):=bA.cell 1
       have y2:W9.cell? ⟨w.heap.size+1,2,none⟩=some (.slice A4 a.accept.length c4):=bA.cell 2
       have l0:=bG.lt
       have l00:=bA.lt
       have HW:=Hd_ (fun W=>l1In_any BI 1 20000 W)
       clear hb1 HGY
       go_wp2_with fail
       cases hwB:wi BI 1 20000 with
       | false =>
         rw [hwB] at HW
         refine (HW.out _).mono ?_
         rintro e w9 ⟨rfl,hw9⟩
         rw [hw9]
         clear hw9
         have hfin:srchL g a x y BI true=((0,[]),0):=by rw [srchL,if_neg];rw [srchOk,cntOk];intro hh;simp only [Bool.and_eq_true] at hh;simp [hwB] at hh
         have z0:W9.cell? ⟨w.heap.size+1+1,0,none⟩=some (.int .i64 0):=bR.cell 0
         have z1:W9.cell? ⟨w.heap.size+1+1,1,none⟩=some (.slice none 0 0):=bR.cell 1
         have fz0:=bR.frozen 0
         have fz1:=bR.frozen 1
         have lz:=bR.lt
         have HF:=Hd_ (HRR.out.trans hfin)
         have HBV:=Hd_ hb9
         clear bR bG bA hb9 hfin
         go_wp2_with fail
         refine bodyPost_ret (v:=.tuple #[.agg #[.int .i64 0,.slice none 0 0],.int .i64 0]) (by simp [results,Tryz.results71,go_sem,z0,z1]) rfl ⟨_,by rw [HF.out],?_,(HBV.out.setCell (p:=⟨w.heap.size+1+1,0,none⟩) (by simp only;omega) _).setCell (p:=⟨w.heap.size+1+1,1,none⟩) (by simp only;omega) _⟩
         rw [HF.out]
         exact ⟨_,rfl,Own.nil _ _ _ _ _ _⟩
       | true =>
         rw [hwB] at HW
         rw [goodB0] at hk hk2
         simp only [Bool.and_eq_true,wi_iff] at hk hk2
         obtain ⟨hgo,-,hx0,hx1⟩:=hk
         obtain ⟨-,-,hy0,hy1⟩:=hk2
         have hwB2:=wi_iff.1 hwB
         obtain ⟨x,rfl⟩:=Int.eq_ofNat_of_zero_le hx0
         obtain ⟨yn,hyn⟩:=Int.eq_ofNat_of_zero_le hy0
         obtain ⟨B,rfl⟩:=Int.eq_ofNat_of_zero_le (show 0<=BI by omega)
         have hxl:x < g.vals.length:=by omega
         have hgo2:=grOk_iff.1 hgo
         have hn5:=hgo2.n5
         have he12:=hgo2.e12
         obtain ⟨⟨hm1',hm12⟩,⟨hst0,hst1⟩,-,-⟩:=auOk_iff.1 hao
         obtain ⟨s,hs⟩:∃ s:Nat,a.start=(s:Int):=⟨a.start.toNat,by omega⟩
         have hsl:s < a.accept.length:=by omega
         have hck:cntOk g a (x:Int) y=true:=by rw [cntOk,wi_iff.2 ⟨hx0,hx1⟩,wi_iff.2 ⟨hy0,hy1⟩,hgo,hao];rfl
         have hfin:R=srchF g a y B (distTo g a y) true x (bit s) (srchU true x) (srchN g true) 0 0:=by
          rw [HRR.out,srchL,if_pos (by rw [srchOk,hck,hwB];rfl),hs];rfl
         have HF:=Hd_ hfin
         have HDL:=Hd_ (distTo_len (g:=g) (a:=a) (y:=y) (by rw [wi_iff.2 ⟨hy0,hy1⟩,hgo,hao];rfl))
         have HLB:=Hd_ (fun (W:World) (hW:Below w.heap.size w W)=>by
          have h:=l14Back_any _ _ g a yn W (HGV.out.keep hW) (HAV.out.keep hW) hgo hao (by omega)
          rw [<- hyn] at h
          exact h)
         have hbs:=bit_lt hsl
         have HBS:=Hd_ hbs
         have e1:=Hd_ (shl_bit (s:=s) (by omega))
         have e2:=Hd_ (shl_bit2 (s:=s) (by omega))
         have e3:=Hd_ (shl_bit3 (s:=s) (by omega))
         have f1:=Hd_ (shl_bit (s:=x) (by omega))
         have f2:=Hd_ (shl_bit2 (s:=x) (by omega))
         have f3:=Hd_ (shl_bit3 (s:=x) (by omega))
         have hB1:1<=B:=by omega
         have hB2:B<=20000:=by omega
         have HST:=Hd_ hs
         have HGO:=Hd_ hgo
         have HAO:=Hd_ hao
         have HX5:=Hd_ hgo2
         have HBR1:=Hd_ bR
         have HBW:=Hd_ hb9
         clear hfin hgo hao hx0 hx1 hy0 hy1 hst0 hst1 hs hwB2 hck hwB hgo2 hbs HRR bR bG bA hyn
         refine (HW.out _).mono ?_
         rintro e w9 ⟨rfl,hw9⟩
         rw [hw9]
         clear hw9 HW
         go_wp2_with fail
         have hb3:=HBW.out
         have X0:=Hd_ x0
         have X1:=Hd_ x1
         have Y0:=Hd_ y0
         refine F_start 11 (fun w'=>w'.cell? ⟨w.heap.size,0,none⟩=some (.slice A1 g.vals.length c1)/\w'.cell? ⟨w.heap.size,1,none⟩=some (.slice A2 g.edges.length c2)/\w'.cell? ⟨w.heap.size+1,0,none⟩=some (.int .i64 a.start)/\w'.cell? ⟨w.heap.size+1,1,none⟩=some (.slice A3 a.accept.length c3)/\w'.cell? ⟨w.heap.size+1,2,none⟩=some (.slice A4 a.accept.length c4)) (by kernel_rfl) (by exact ⟨x0,x1,y0,y1,y2⟩) (fun hS inv=>?_)
         refine F_tk 0 inv ?_
         try simp only [tA,tB,tC,Act.put,tE,tF,tG]
         clear inv;intro inv
         refine F_tk 1 inv ?_
         try simp only [tA,tB,tC,Act.put,tE,tF,tG]
         clear inv;intro inv
         refine F_tk 2 inv ?_
         try simp only [tA,tB,tC,Act.put,tE,tF,tG]
         clear inv;intro inv
         refine F_tk 3 inv ?_
         try simp only [tA,tB,tC,Act.put,tE,tF,tG]
         clear inv;intro inv
         refine F_tk 4 inv ?_
         try simp only [tA,tB,tC,Act.put,tE,tF,tG]
         clear inv;intro inv
         refine F_tk 5 inv ?_
         try simp only [tA,tB,tC,Act.put,tE,tF,tG]
         clear inv;intro inv
         refine F_tk 7 inv ?_
         try simp only [tA,tB,tC,Act.put,tE,tF,tG]
         clear inv;intro inv
         refine F_tk 8 inv ?_
         try simp only [tA,tB,tC,Act.put,tE,tF,tG]
         clear inv;intro inv
         refine F_two (i:=6) (j:=10) (by kernel_rfl) rfl rfl rfl rfl (by omega) inv (fun K hK=>?_) (fun K hK=>?_)
         all_goals (try simp only [tA,tB,tC])
         · go_simp
           refine (HLB.out W9.drew hb3.drew).mono ?_
           rintro e wD ⟨vD,rfl,hoD,hbD⟩
           obtain ⟨A6,c6,rfl,hl6,hm6,-⟩:=hoD.form cI_len
           refine hK.out _ _ (kB5 hbD hS) (fun _ _=>?_)
           try simp only [tA,tB,tC,Act.put,tE,tF,tG]
           clear hK K inv hS;rename_i hS inv
           refine F_tk 9 inv ?_
           try simp only [tA,tB,tC,Act.put,tE,tF,tG]
           clear inv;intro inv
           refine F_o1 10 inv ?_;intro K hK
           try simp only [tA,tB,tC]
           go_simp
           refine hK.out _ _ (kA5 _ hS) (fun _ _=>?_)
           try simp only [tA,tB,tC,Act.put,tE,tF,tG]
           clear hK K inv hS;rename_i hS inv
           have HS5:=Hd_ hS
           refine F_l1 11 ?_;intro K hK
           go_simp
           refine hK _ _ ?_
           clear hK K inv hS
           have hbkn:Blk (wD.alloc (.cells #[.slice A1 g.vals.length c1,.slice A2 g.edges.length c2,.int .i64 a.start,.slice A3 a.accept.length c3,.slice A4 a.accept.length c4,.int .i64 y,.slice A6 (distTo g a y).length c6,.bool true,.int .i64 (B:Int),.int .i64 ((0:Nat):Int),.slice none 0 0] 150)) wD.heap.size 150 #[.slice A1 g.vals.length c1,.slice A2 g.edges.length c2,.int .i64 a.start,.slice A3 a.accept.length c3,.slice A4 a.accept.length c4,.int .i64 y,.slice A6 (distTo g a y).length c6,.bool true,.int .i64 (B:Int),.int .i64 ((0:Nat):Int),.slice none 0 0]:=Blk.new _ _ _ _ rfl
           have hbn:=(Below.refl wD.heap.size wD).alloc (Nat.le_refl _) (.cells #[.slice A1 g.vals.length c1,.slice A2 g.edges.length c2,.int .i64 a.start,.slice A3 a.accept.length c3,.slice A4 a.accept.length c4,.int .i64 y,.slice A6 (distTo g a y).length c6,.bool true,.int .i64 (B:Int),.int .i64 ((0:Nat):Int),.slice none 0 0] 150)
           have hsn:wD.heap.size < (wD.alloc (.cells #[.slice A1 g.vals.length c1,.slice A2 g.edges.length c2,.int .i64 a.start,.slice A3 a.accept.length c3,.slice A4 a.accept.length c4,.int .i64 y,.slice A6 (distTo g a y).length c6,.bool true,.int .i64 (B:Int),.int .i64 ((0:Nat):Int),.slice none 0 0] 150)).heap.size:=by simp
           have hzero:((0:Nat):Int)=0:=rfl
           rw [hzero] at hbkn hbn hsn
           obtain ⟨bS,hbS⟩:∃ bS,bS=wD.heap.size:=⟨_,rfl⟩
           obtain ⟨W1,hW1⟩:∃ W1,W1=wD.alloc (.cells #[.slice A1 g.vals.length c1,.slice A2 g.edges.length c2,.int .i64 a.start,.slice A3 a.accept.length c3,.slice A4 a.accept.length c4,.int .i64 y,.slice A6 (distTo g a y).length c6,.bool true,.int .i64 (B:Int),.int .i64 (0:Int),.slice none 0 0] 150):=⟨_,rfl⟩
           rw [<- hW1] at hbkn hbn hsn ⊢
           rw [<- hbS] at hbkn hsn ⊢
           have hbw:=below_trans (below_trans hb3.drew hbD) hbn
           have HDV:=Hd_ (SlI.below (hoD.sl cI_len) hbn (Nat.le_refl _))
           have hdl:bS < W9.drew.heap.size ∨ wD.heap.size<=bS:=.inr (by omega)
           have hdh:wD.heap.size<=W1.heap.size:=hbn.size
           have HBR3:=Hd_ (((show Blk W9.drew _ _ _ from HBR1.out).keep hbD).keep hbn)
           have hsD:=hbD.size
           have hwS:w.heap.size+1+1 < bS:=by have:=HBR1.out.lt;have h2:W9.heap.size<=wD.heap.size:=hsD;omega
           have y0:=kcell hbn (kcell hbD (show W9.drew.cell? ⟨w.heap.size+1,0,none⟩=some (.int .i64 a.start) from Y0.out))
           have x0:=kcell hbn (kcell hbD (show W9.drew.cell? ⟨w.heap.size,0,none⟩=some (.slice A1 g.vals.length c1) from X0.out))
           have x1:=kcell hbn (kcell hbD (show W9.drew.cell? ⟨w.heap.size,1,none⟩=some (.slice A2 g.edges.length c2) from X1.out))
           have HBK:=Hd_ (show Blk W1 bS 150 #[.slice A1 g.vals.length c1,.slice A2 g.edges.length c2,.int .i64 a.start,.slice A3 a.accept.length c3,.slice A4 a.accept.length c4,.int .i64 y,.slice A6 (distTo g a y).length c6,.bool true,.int .i64 (B:Int),.int .i64 ((0:Nat):Int),.slice none 0 0] from hbkn)
           generalize W9.drew.heap.size=dl at *
           generalize wD.heap.size=dh at *
           clear hW1 hbn hbkn hbD hoD hsD hb3 HS5 HBR1 HBW HLB hbS hzero
           have HGV1:=Hd_ ((HGV.out.below hbw (Nat.le_refl _)).mono (Nat.zero_le _) (show w.heap.size<=bS by omega))
           have HAV1:=Hd_ ((HAV.out.below hbw (Nat.le_refl _)).mono (Nat.zero_le _) (show w.heap.size<=bS by omega))
           have HGX2:=Hd_ (l20Go_any g a y B (distTo g a y) true HGO.out HAO.out bS dl dh W1 A1 A2 A3 A4 A6 c1 c2 c3 c4 c6 HGV1.out HAV1.out HDV.out hdl hdh HDL.out hB2 hsn)
           have HHX:=Hd_ (fun (W:World) (c:Nat) (sv:Value) (hW:Only bS (bS+1) W1 W) (hk:Blk W bS 150 #[.slice A1 g.vals.length c1,.slice A2 g.edges.length c2,.int .i64 a.start,.slice A3 a.accept.length c3,.slice A4 a.accept.length c4,.int .i64 y,.slice A6 (distTo g a y).length c6,.bool true,.int .i64 (B:Int),.int .i64 (c:Int),sv]) (lf:Nat) (hlf:lf<=60)=>l20Hope_any (distTo g a y) g.vals.length a.accept.length W bS A3 A6 c3 c6 (hk.cell 3) (hk.cell 6) ((SlI.only HDV.out hW hdh (by omega)).all (Nat.le_trans hdh hW.size)) HDL.out hn5 hm12 x (bit s) lf hxl HBS.out hlf hk.lt)
           have HSRF:=Hd_ HF.out.symm
           have HB1:=Hd_ hbw
           have lW0:w.heap.size < W1.heap.size:=by omega
           have lW1:w.heap.size+1 < W1.heap.size:=by omega
           obtain ⟨n1,hn1⟩:∃ n1,n1=g.vals.length - 1:=⟨_,rfl⟩
           have hn1a:n1+1<=g.vals.length:=by omega
           have hn1b:g.vals.length<=n1+1:=by omega
           clear hn1
           have qv:IntKind.i64.wrap ((g.vals.length:Int) - 1)=(n1:Int):=by rw [IntWalk.i64_in _ (by omega)];omega
           have u1:=f1.out
           have u2:=f2.out
           have u3:=f3.out
           clear hbw HF
           go_wp2_with fail
           clear qv u1 u2 u3
           go_loopw [17] (fun ii wr=>∃ (lf c k:Nat) (sv:Value),lf+k=g.vals.length/\c<=B/\ii=.int .i64 (lf:Int)/\srchF g a y B (distTo g a y) true x (bit s) [(x:Int)] k lf c=R/\Only bS (bS+1) W1 wr/\Blk wr bS 150 #[.slice A1 g.vals.length c1,.slice A2 g.edges.length c2,.int .i64 a.start,.slice A3 a.accept.length c3,.slice A4 a.accept.length c4,.int .i64 y,.slice A6 (distTo g a y).length c6,.bool true,.int .i64 (B:Int),.int .i64 (c:Int),sv]/\wr.ownsRow W1.heap.size 81 2 sv ([]:List St).length (([]:List St).flatMap cSt)) (fun ii _=>g.vals.length - (intOf ii).toNat)
           case atStart=>exact ⟨0,0,g.vals.length,.slice none 0 0,by omega,by omega,rfl,HSRF.out,Only.refl _ _ _,HBK.out,World.ownsRow_nil _ _ _ _⟩
           case round =>
            clear HSRF HBK
            obtain ⟨lf,c,k,sv,hlk,hcB,rfl,hR,hon,hbk,hrow⟩:=hrel
            have HR:=Hd_ hR
            have HON:=Hd_ hon
            have HBK:=Hd_ hbk
            have HROW:=Hd_ hrow
            have hsz:=hon.size
            have y0:=ocell hon y0 lW1 (.inl (by omega))
            have lr1:w.heap.size+1 < wr.heap.size:=by omega
            clear hR hon hbk hrow
            by_cases hlt:lf < g.vals.length
            · have hle:(lf:Int)<=(n1:Int):=by omega
              obtain ⟨k,rfl⟩:∃ k',k=k'+1:=⟨k - 1,by omega⟩
              have HPX:=Hd_ (HHX.out wr c sv HON.out HBK.out lf (by omega))
              have s1:=e1.out
              have s2:=e2.out
              have s3:=e3.out
              rw [HST.out] at y0
              cases hhp:hope (distTo g a y) a.accept.length x (bit s) lf with
              | false =>
                rw [hhp] at HPX
                have HE:=Hd_ ((srchF_no hhp).symm.trans HR.out)
                clear HR hhp
                go_wp2_with fail
                refine HPX.out.mono ?_
                rintro e w5 ⟨rfl,hw5⟩
                rw [hw5]
                clear hw5
                go_wp2_with fail
                go_roundw
                case rel=>exact ⟨lf+1,c,k,sv,by omega,hcB,by go_num,HE.out,HON.out,HBK.out,HROW.out⟩
                case measure=>simp [intOf];omega
              | true =>
                rw [hhp] at HPX
                have hvl:=visit_le (g:=g) (a:=a) (y:=y) (B:=B) (D:=distTo g a y) (sm:=true) lf x (bit s) [(x:Int)] c hcB
                have hvn:=visit_len (g:=g) (a:=a) (y:=y) (B:=B) (D:=distTo g a y) (sm:=true) lf x (bit s) [(x:Int)] c
                have HVC:=Hd_ (HGX2.out lf x (bit s) (bit x) [(x:Int)] c sv [] wr HON.out HBK.out HROW.out (URel.one HX5.out x) hxl HBS.out (by have:=bit_lt (n:=5) (show x < 5 by omega);omega) hcB (by simp;omega))
                have HY:=Hd_ (fun r c' h=>(srchF_yes (k:=k) (r:=r) (c':=c') hhp h).symm.trans HR.out)
                have HO:=Hd_ (fun c' h h2=>(srchF_out (k:=k) (c':=c') hhp h h2).symm.trans HR.out)
                have HN:=Hd_ (fun c' h h2=>(srchF_on (k:=k) (c':=c') hhp h h2).symm.trans HR.out)
                generalize visit g a y B (distTo g a y) true lf x (bit s) [(x:Int)] c=V at *
                obtain ⟨o,r2⟩:=V
                simp only at hvl hvn
                clear HR hhp
                go_wp2_with fail
                refine HPX.out.mono ?_
                rintro e w5 ⟨rfl,hw5⟩
                rw [hw5]
                clear hw5 HPX
                go_wp2_with fail
                refine HVC.out.mono ?_
                rintro e wV ⟨rfl,sv6,hbk6,hrow6,-,hsr6⟩
                have hon6:=hsr6.only (fun n hn=>(HROW.out.lt n hn).1) HON.out
                have hszV:=hon6.size
                have HONT:=Hd_ hon6
                have HBKV:=Hd_ hbk6
                have lTV:=hbk6.lt
                have q9:wV.cell? ⟨bS,9,none⟩=some (.int .i64 (r2:Int)):=hbk6.cell 9
                have hbR:Blk wV (w.heap.size+1+1) 39 #[.int .i64 0,.slice none 0 0]:=HBR3.out.only hon6 (.inl hwS)
                have z0:wV.cell? ⟨w.heap.size+1+1,0,none⟩=some (.int .i64 0):=hbR.cell 0
                have z1:wV.cell? ⟨w.heap.size+1+1,1,none⟩=some (.slice none 0 0):=hbR.cell 1
                have fz0:=hbR.frozen 0
                have fz1:=hbR.frozen 1
                have lz:=hbR.lt
                have HBRV:=Hd_ hbR
                have HBV:=Hd_ (HB1.out.trans (hon6.below (B:=w.heap.size) (by omega) HB1.out.size))
                cases o with
                | some r =>
                  have HE:=Hd_ (HY.out r r2 rfl)
                  have hrl:r.length<=60:=by
                   have:=hvn r rfl
                   omega
                  clear hvn
                  rw [Option.getD_some,List.nil_append] at hrow6
                  have hown6:=Own.of_row (xs:=r) hrow6 rfl rfl
                  obtain ⟨A9,n9,c9,rfl⟩:=hown6.shape
                  have hal2:Below wV.heap.size wV (wV.alloc (.cells #[] 81)):=(Below.refl _ _).alloc (Nat.le_refl _) _
                  have HV2:=Hd_ (SlE.keep ((hown6.sl cSt_len).all (Nat.le_refl _)) hal2)
                  have HLT2:=Hd_ (World.ownsRow_lit (base:=wV.heap.size) (e:=81) (size:=2) wV #[] 0 (Nat.le_refl _) (by decide) rfl)
                  have HAL2:=Hd_ hal2
                  have z10:wV.cell? ⟨bS,10,none⟩=some (.slice A9 n9 c9):=HBKV.out.cell 10
                  clear HY HO HN hbk6 hrow6 hsr6 hon6 hbR hown6 hal2
                  go_wp2_with (at_builtin;(refine wpList_appendL cSt elStep cSt_len cSt_one rfl _ _ rfl wV.heap.size _ [] r (by rfl) HLT2.out 0 _ _ (by rfl) HV2.out (by simp;omega) (by omega) (by simp) ?_);intro v5 w5 hrow5 hgr5 hat5;have hb5:=HAL2.out.trans (own_below HLT2.out (by simp) hgr5);have bR5:=HBRV.out.keep hb5;have z0:w5.cell? ⟨w.heap.size+1+1,0,none⟩=some (.int .i64 0):=bR5.cell 0;have z1:w5.cell? ⟨w.heap.size+1+1,1,none⟩=some (.slice none 0 0):=bR5.cell 1;have fz0:=bR5.frozen 0;have fz1:=bR5.frozen 1;have lz5:=bR5.lt;have hown5:=Own.of_row (xs:=[] ++ r) hrow5 rfl rfl;obtain ⟨A7,n7,c7,hv7⟩:=hown5.shape;subst hv7;have HB5:=Hd_ hb5;have HO5:=Hd_ hown5;clear hown5 bR5 hb5 hrow5 hgr5 hat5)
                  have hon3:=((Only.refl (w.heap.size+1+1) (w.heap.size+1+1+1) w5).setCell (p:=⟨w.heap.size+1+1,0,none⟩) (.inl ⟨Nat.le_refl _,Nat.lt_succ_self _⟩) (.int .i64 (x:Int))).setCell (p:=⟨w.heap.size+1+1,1,none⟩) (.inl ⟨Nat.le_refl _,Nat.lt_succ_self _⟩) (.slice A7 n7 c7)
                  have hs5:=HB5.out.size
                  refine bodyPost_ret (v:=.tuple #[.agg #[.int .i64 (x:Int),.slice A7 n7 c7],.int .i64 1]) (by simp [results,Tryz.results71,go_sem,z0,z1]) rfl ⟨_,by rw [<- HE.out],?_,(below_trans HBV.out HB5.out).trans (hon3.below (by omega) (by omega))⟩
                  rw [<- HE.out]
                  exact ⟨_,rfl,(HO5.out.only hon3 (.inr (by omega))).mono (by omega) (by simp [World.setCell])⟩
                | none =>
                  rw [Option.getD_none,List.append_nil] at hrow6
                  have HROW6:=Hd_ hrow6
                  by_cases hcc:B<=r2
                  · have HE:=Hd_ (HO.out r2 rfl hcc)
                    have hcb:decide ((r2:Int) >= (B:Int))=true:=by simp;omega
                    clear HY HO HN hbk6 hrow6 hsr6 hon6 hbR
                    go_wp2_with fail
                    refine bodyPost_ret (v:=.tuple #[.agg #[.int .i64 0,.slice none 0 0],.int .i64 3]) (by simp [results,Tryz.results71,go_sem,z0,z1]) rfl ⟨_,by rw [<- HE.out],?_,(HBV.out.setCell (p:=⟨w.heap.size+1+1,0,none⟩) (by simp only;omega) _).setCell (p:=⟨w.heap.size+1+1,1,none⟩) (by simp only;omega) _⟩
                    rw [<- HE.out]
                    exact ⟨_,rfl,Own.nil _ _ _ _ _ _⟩
                  · have HE:=Hd_ (HN.out r2 rfl hcc)
                    have hcb:decide ((r2:Int) >= (B:Int))=false:=by simp;omega
                    clear HY HO HN hbk6 hrow6 hsr6 hon6 hbR
                    go_wp2_with fail
                    go_roundw
                    case rel=>exact ⟨lf+1,r2,k,sv6,by omega,hvl.1,by go_num,HE.out,HONT.out,HBKV.out,HROW6.out⟩
                    case measure=>simp [intOf];omega
            · obtain rfl:k=0:=by omega
              have hle:¬ (lf:Int)<=(n1:Int):=by omega
              have HE:=Hd_ ((show srchF g a y B (distTo g a y) true x (bit s) [(x:Int)] 0 lf c=((0,[]),2) from rfl).symm.trans HR.out)
              have hbR:Blk wr (w.heap.size+1+1) 39 #[.int .i64 0,.slice none 0 0]:=HBR3.out.only HON.out (.inl hwS)
              have z0:wr.cell? ⟨w.heap.size+1+1,0,none⟩=some (.int .i64 0):=hbR.cell 0
              have z1:wr.cell? ⟨w.heap.size+1+1,1,none⟩=some (.slice none 0 0):=hbR.cell 1
              have fz0:=hbR.frozen 0
              have fz1:=hbR.frozen 1
              have lz:=hbR.lt
              have HBV:=Hd_ (HB1.out.trans (HON.out.below (B:=w.heap.size) (by omega) HB1.out.size))
              clear HR hbR
              go_wp2_with fail
              refine bodyPost_ret (v:=.tuple #[.agg #[.int .i64 0,.slice none 0 0],.int .i64 2]) (by simp [results,Tryz.results71,go_sem,z0,z1]) rfl ⟨_,by rw [<- HE.out],?_,(HBV.out.setCell (p:=⟨w.heap.size+1+1,0,none⟩) (by simp only;omega) _).setCell (p:=⟨w.heap.size+1+1,1,none⟩) (by simp only;omega) _⟩
              rw [<- HE.out]
              exact ⟨_,rfl,Own.nil _ _ _ _ _ _⟩
         · go_simp
           have hbkz:Blk (W9.drew.alloc (.cells #[.slice none 0 0,.slice none 0 0,.int .i64 0,.slice none 0 0,.slice none 0 0,.int .i64 0,.slice none 0 0,.bool false,.int .i64 0,.int .i64 0,.slice none 0 0] 150)) W9.drew.heap.size 150 #[.slice none 0 0,.slice none 0 0,.int .i64 0,.slice none 0 0,.slice none 0 0,.int .i64 0,.slice none 0 0,.bool false,.int .i64 0,.int .i64 0,.slice none 0 0]:=Blk.new _ _ _ _ rfl
           have hba:=(Below.refl W9.drew.heap.size W9.drew).alloc (Nat.le_refl _) (.cells #[.slice none 0 0,.slice none 0 0,.int .i64 0,.slice none 0 0,.slice none 0 0,.int .i64 0,.slice none 0 0,.bool false,.int .i64 0,.int .i64 0,.slice none 0 0] 150)
           refine hK.out _ _ (kA5 _ hS) (fun _ _=>?_)
           try simp only [tA,tB,tC,Act.put,tE,tF,tG]
           clear hK K inv hS;rename_i hS inv
           refine F_o1 6 inv ?_;intro K hK
           try simp only [tA,tB,tC]
           go_simp
           refine (HLB.out _ (below_trans hb3.drew hba)).mono ?_
           rintro e wD ⟨vD,rfl,hoD,hbD⟩
           obtain ⟨A6,c6,rfl,hl6,hm6,-⟩:=hoD.form cI_len
           have hbkD:=hbkz.keep hbD
           refine hK.out _ _ (kB5 hbD hS) (fun _ _=>?_)
           try simp only [tA,tB,tC,Act.put,tE,tF,tG]
           clear hK K inv hS;rename_i hS inv
           refine F_tk 9 inv ?_
           try simp only [tA,tB,tC,Act.put,tE,tF,tG]
           clear inv;intro inv
           have t0:wD.cell? ⟨W9.heap.size,0,none⟩=some (.slice none 0 0):=hbkD.cell 0
           have g0:wD.frozen? ⟨W9.heap.size,0,none⟩=false:=hbkD.frozen 0
           have t1:wD.cell? ⟨W9.heap.size,1,none⟩=some (.slice none 0 0):=hbkD.cell 1
           have g1:wD.frozen? ⟨W9.heap.size,1,none⟩=false:=hbkD.frozen 1
           have t2:wD.cell? ⟨W9.heap.size,2,none⟩=some (.int .i64 0):=hbkD.cell 2
           have g2:wD.frozen? ⟨W9.heap.size,2,none⟩=false:=hbkD.frozen 2
           have t3:wD.cell? ⟨W9.heap.size,3,none⟩=some (.slice none 0 0):=hbkD.cell 3
           have g3:wD.frozen? ⟨W9.heap.size,3,none⟩=false:=hbkD.frozen 3
           have t4:wD.cell? ⟨W9.heap.size,4,none⟩=some (.slice none 0 0):=hbkD.cell 4
           have g4:wD.frozen? ⟨W9.heap.size,4,none⟩=false:=hbkD.frozen 4
           have t5:wD.cell? ⟨W9.heap.size,5,none⟩=some (.int .i64 0):=hbkD.cell 5
           have g5:wD.frozen? ⟨W9.heap.size,5,none⟩=false:=hbkD.frozen 5
           have t6:wD.cell? ⟨W9.heap.size,6,none⟩=some (.slice none 0 0):=hbkD.cell 6
           have g6:wD.frozen? ⟨W9.heap.size,6,none⟩=false:=hbkD.frozen 6
           have t7:wD.cell? ⟨W9.heap.size,7,none⟩=some (.bool false):=hbkD.cell 7
           have g7:wD.frozen? ⟨W9.heap.size,7,none⟩=false:=hbkD.frozen 7
           have t8:wD.cell? ⟨W9.heap.size,8,none⟩=some (.int .i64 0):=hbkD.cell 8
           have g8:wD.frozen? ⟨W9.heap.size,8,none⟩=false:=hbkD.frozen 8
           have t9:wD.cell? ⟨W9.heap.size,9,none⟩=some (.int .i64 0):=hbkD.cell 9
           have g9:wD.frozen? ⟨W9.heap.size,9,none⟩=false:=hbkD.frozen 9
           have t10:wD.cell? ⟨W9.heap.size,10,none⟩=some (.slice none 0 0):=hbkD.cell 10
           have g10:wD.frozen? ⟨W9.heap.size,10,none⟩=false:=hbkD.frozen 10
           have lS0:W9.heap.size < wD.heap.size:=hbkD.lt
           refine F_l1 11 ?_;intro K hK
           go_simp
           refine hK _ _ ?_
           clear hK K inv hS
           have hbkn:Blk (((((((((((wD.setCell ⟨W9.heap.size,0,none⟩ (.slice A1 g.vals.length c1)).setCell ⟨W9.heap.size,1,none⟩ (.slice A2 g.edges.length c2)).setCell ⟨W9.heap.size,2,none⟩ (.int .i64 a.start)).setCell ⟨W9.heap.size,3,none⟩ (.slice A3 a.accept.length c3)).setCell ⟨W9.heap.size,4,none⟩ (.slice A4 a.accept.length c4)).setCell ⟨W9.heap.size,5,none⟩ (.int .i64 y)).setCell ⟨W9.heap.size,6,none⟩ (.slice A6 (distTo g a y).length c6)).setCell ⟨W9.heap.size,7,none⟩ (.bool true)).setCell ⟨W9.heap.size,8,none⟩ (.int .i64 (B:Int))).setCell ⟨W9.heap.size,9,none⟩ (.int .i64 0)).setCell ⟨W9.heap.size,10,none⟩ (.slice none 0 0)) W9.heap.size 150 #[.slice A1 g.vals.length c1,.slice A2 g.edges.length c2,.int .i64 a.start,.slice A3 a.accept.length c3,.slice A4 a.accept.length c4,.int .i64 y,.slice A6 (distTo g a y).length c6,.bool true,.int .i64 (B:Int),.int .i64 ((0:Nat):Int),.slice none 0 0]:=hbkD.set11 _ _ _ _ _ _ _ _ _ _ _
           have honB:Only W9.heap.size (W9.heap.size+1) wD (((((((((((wD.setCell ⟨W9.heap.size,0,none⟩ (.slice A1 g.vals.length c1)).setCell ⟨W9.heap.size,1,none⟩ (.slice A2 g.edges.length c2)).setCell ⟨W9.heap.size,2,none⟩ (.int .i64 a.start)).setCell ⟨W9.heap.size,3,none⟩ (.slice A3 a.accept.length c3)).setCell ⟨W9.heap.size,4,none⟩ (.slice A4 a.accept.length c4)).setCell ⟨W9.heap.size,5,none⟩ (.int .i64 y)).setCell ⟨W9.heap.size,6,none⟩ (.slice A6 (distTo g a y).length c6)).setCell ⟨W9.heap.size,7,none⟩ (.bool true)).setCell ⟨W9.heap.size,8,none⟩ (.int .i64 (B:Int))).setCell ⟨W9.heap.size,9,none⟩ (.int .i64 0)).setCell ⟨W9.heap.size,10,none⟩ (.slice none 0 0)):=Only.set11 _ _ _ _ _ _ _ _ _ _ _ _ _
           obtain ⟨bS,hbS⟩:∃ bS,bS=W9.heap.size:=⟨_,rfl⟩
           obtain ⟨W1,hW1⟩:∃ W1,W1=(((((((((((wD.setCell ⟨W9.heap.size,0,none⟩ (.slice A1 g.vals.length c1)).setCell ⟨W9.heap.size,1,none⟩ (.slice A2 g.edges.length c2)).setCell ⟨W9.heap.size,2,none⟩ (.int .i64 a.start)).setCell ⟨W9.heap.size,3,none⟩ (.slice A3 a.accept.length c3)).setCell ⟨W9.heap.size,4,none⟩ (.slice A4 a.accept.length c4)).setCell ⟨W9.heap.size,5,none⟩ (.int .i64 y)).setCell ⟨W9.heap.size,6,none⟩ (.slice A6 (distTo g a y).length c6)).setCell ⟨W9.heap.size,7,none⟩ (.bool true)).setCell ⟨W9.heap.size,8,none⟩ (.int .i64 (B:Int))).setCell ⟨W9.heap.size,9,none⟩ (.int .i64 0)).setCell ⟨W9.heap.size,10,none⟩ (.slice none 0 0)):=⟨_,rfl⟩
           rw [<- hW1] at hbkn honB ⊢
           have hbwD:=below_trans (below_trans hb3.drew hba) hbD
           have hwS:w.heap.size+1+1 < bS:=by have:=HBR1.out.lt;omega
           have hdl0:bS+1<=(W9.drew.alloc (.cells #[.slice none 0 0,.slice none 0 0,.int .i64 0,.slice none 0 0,.slice none 0 0,.int .i64 0,.slice none 0 0,.bool false,.int .i64 0,.int .i64 0,.slice none 0 0] 150)).heap.size:=by rw [hbS];simp
           rw [<- hbS] at hbkn honB ⊢
           have hsD:=hbD.size
           have hbw:=hbwD.trans (honB.below (B:=w.heap.size) (by omega) hbwD.size)
           have HDV:=Hd_ (SlI.only (hoD.sl cI_len) honB (Nat.le_refl _) (.inr hdl0))
           have hdl:bS < (W9.drew.alloc (.cells #[.slice none 0 0,.slice none 0 0,.int .i64 0,.slice none 0 0,.slice none 0 0,.int .i64 0,.slice none 0 0,.bool false,.int .i64 0,.int .i64 0,.slice none 0 0] 150)).heap.size ∨ wD.heap.size<=bS:=.inl hdl0
           have hdh:wD.heap.size<=W1.heap.size:=honB.size
           have hsn:bS < W1.heap.size:=by omega
           have HBR3:=Hd_ ((((show Blk W9.drew _ _ _ from HBR1.out).keep hba).keep hbD).only honB (.inl hwS))
           have y0:=ocell honB (kcell hbD (kcell hba (show W9.drew.cell? ⟨w.heap.size+1,0,none⟩=some (.int .i64 a.start) from Y0.out))) (by omega) (.inl (by omega))
           have x0:=ocell honB (kcell hbD (kcell hba (show W9.drew.cell? ⟨w.heap.size,0,none⟩=some (.slice A1 g.vals.length c1) from X0.out))) (by omega) (.inl (by omega))
           have x1:=ocell honB (kcell hbD (kcell hba (show W9.drew.cell? ⟨w.heap.size,1,none⟩=some (.slice A2 g.edges.length c2) from X1.out))) (by omega) (.inl (by omega))
           have HBK:=Hd_ (show Blk W1 bS 150 #[.slice A1 g.vals.length c1,.slice A2 g.edges.length c2,.int .i64 a.start,.slice A3 a.accept.length c3,.slice A4 a.accept.length c4,.int .i64 y,.slice A6 (distTo g a y).length c6,.bool true,.int .i64 (B:Int),.int .i64 ((0:Nat):Int),.slice none 0 0] from hbkn)
           generalize (W9.drew.alloc (.cells #[.slice none 0 0,.slice none 0 0,.int .i64 0,.slice none 0 0,.slice none 0 0,.int .i64 0,.slice none 0 0,.bool false,.int .i64 0,.int .i64 0,.slice none 0 0] 150)).heap.size=dl at *
           generalize wD.heap.size=dh at *
           clear hW1 honB hbkn hbD hoD hsD hb3 HBR1 HBW HLB hbS hbwD hdl0 hba hbkz hbkD t0 g0 t1 g1 t2 g2 t3 g3 t4 g4 t5 g5 t6 g6 t7 g7 t8 g8 t9 g9 t10 g10 lS0
           have HGV1:=Hd_ ((HGV.out.below hbw (Nat.le_refl _)).mono (Nat.zero_le _) (show w.heap.size<=bS by omega))
           have HAV1:=Hd_ ((HAV.out.below hbw (Nat.le_refl _)).mono (Nat.zero_le _) (show w.heap.size<=bS by omega))
           have HGX2:=Hd_ (l20Go_any g a y B (distTo g a y) true HGO.out HAO.out bS dl dh W1 A1 A2 A3 A4 A6 c1 c2 c3 c4 c6 HGV1.out HAV1.out HDV.out hdl hdh HDL.out hB2 hsn)
           have HHX:=Hd_ (fun (W:World) (c:Nat) (sv:Value) (hW:Only bS (bS+1) W1 W) (hk:Blk W bS 150 #[.slice A1 g.vals.length c1,.slice A2 g.edges.length c2,.int .i64 a.start,.slice A3 a.accept.length c3,.slice A4 a.accept.length c4,.int .i64 y,.slice A6 (distTo g a y).length c6,.bool true,.int .i64 (B:Int),.int .i64 (c:Int),sv]) (lf:Nat) (hlf:lf<=60)=>l20Hope_any (distTo g a y) g.vals.length a.accept.length W bS A3 A6 c3 c6 (hk.cell 3) (hk.cell 6) ((SlI.only HDV.out hW hdh (by omega)).all (Nat.le_trans hdh hW.size)) HDL.out hn5 hm12 x (bit s) lf hxl HBS.out hlf hk.lt)
           have HSRF:=Hd_ HF.out.symm
           have HB1:=Hd_ hbw
           have lW0:w.heap.size < W1.heap.size:=by omega
           have lW1:w.heap.size+1 < W1.heap.size:=by omega
           obtain ⟨n1,hn1⟩:∃ n1,n1=g.vals.length - 1:=⟨_,rfl⟩
           have hn1a:n1+1<=g.vals.length:=by omega
           have hn1b:g.vals.length<=n1+1:=by omega
           clear hn1
           have qv:IntKind.i64.wrap ((g.vals.length:Int) - 1)=(n1:Int):=by rw [IntWalk.i64_in _ (by omega)];omega
           have u1:=f1.out
           have u2:=f2.out
           have u3:=f3.out
           clear hbw HF
           go_wp2_with fail
           clear qv u1 u2 u3
           go_loopw [17] (fun ii wr=>∃ (lf c k:Nat) (sv:Value),lf+k=g.vals.length/\c<=B/\ii=.int .i64 (lf:Int)/\srchF g a y B (distTo g a y) true x (bit s) [(x:Int)] k lf c=R/\Only bS (bS+1) W1 wr/\Blk wr bS 150 #[.slice A1 g.vals.length c1,.slice A2 g.edges.length c2,.int .i64 a.start,.slice A3 a.accept.length c3,.slice A4 a.accept.length c4,.int .i64 y,.slice A6 (distTo g a y).length c6,.bool true,.int .i64 (B:Int),.int .i64 (c:Int),sv]/\wr.ownsRow W1.heap.size 81 2 sv ([]:List St).length (([]:List St).flatMap cSt)) (fun ii _=>g.vals.length - (intOf ii).toNat)
           case atStart=>exact ⟨0,0,g.vals.length,.slice none 0 0,by omega,by omega,rfl,HSRF.out,Only.refl _ _ _,HBK.out,World.ownsRow_nil _ _ _ _⟩
           case round =>
            clear HSRF HBK
            obtain ⟨lf,c,k,sv,hlk,hcB,rfl,hR,hon,hbk,hrow⟩:=hrel
            have HR:=Hd_ hR
            have HON:=Hd_ hon
            have HBK:=Hd_ hbk
            have HROW:=Hd_ hrow
            have hsz:=hon.size
            have y0:=ocell hon y0 lW1 (.inl (by omega))
            have lr1:w.heap.size+1 < wr.heap.size:=by omega
            clear hR hon hbk hrow
            by_cases hlt:lf < g.vals.length
            · have hle:(lf:Int)<=(n1:Int):=by omega
              obtain ⟨k,rfl⟩:∃ k',k=k'+1:=⟨k - 1,by omega⟩
              have HPX:=Hd_ (HHX.out wr c sv HON.out HBK.out lf (by omega))
              have s1:=e1.out
              have s2:=e2.out
              have s3:=e3.out
              rw [HST.out] at y0
              cases hhp:hope (distTo g a y) a.accept.length x (bit s) lf with
              | false =>
                rw [hhp] at HPX
                have HE:=Hd_ ((srchF_no hhp).symm.trans HR.out)
                clear HR hhp
                go_wp2_with fail
                refine HPX.out.mono ?_
                rintro e w5 ⟨rfl,hw5⟩
                rw [hw5]
                clear hw5
                go_wp2_with fail
                go_roundw
                case rel=>exact ⟨lf+1,c,k,sv,by omega,hcB,by go_num,HE.out,HON.out,HBK.out,HROW.out⟩
                case measure=>simp [intOf];omega
              | true =>
                rw [hhp] at HPX
                have hvl:=visit_le (g:=g) (a:=a) (y:=y) (B:=B) (D:=distTo g a y) (sm:=true) lf x (bit s) [(x:Int)] c hcB
                have hvn:=visit_len (g:=g) (a:=a) (y:=y) (B:=B) (D:=distTo g a y) (sm:=true) lf x (bit s) [(x:Int)] c
                have HVC:=Hd_ (HGX2.out lf x (bit s) (bit x) [(x:Int)] c sv [] wr HON.out HBK.out HROW.out (URel.one HX5.out x) hxl HBS.out (by have:=bit_lt (n:=5) (show x < 5 by omega);omega) hcB (by simp;omega))
                have HY:=Hd_ (fun r c' h=>(srchF_yes (k:=k) (r:=r) (c':=c') hhp h).symm.trans HR.out)
                have HO:=Hd_ (fun c' h h2=>(srchF_out (k:=k) (c':=c') hhp h h2).symm.trans HR.out)
                have HN:=Hd_ (fun c' h h2=>(srchF_on (k:=k) (c':=c') hhp h h2).symm.trans HR.out)
                generalize visit g a y B (distTo g a y) true lf x (bit s) [(x:Int)] c=V at *
                obtain ⟨o,r2⟩:=V
                simp only at hvl hvn
                clear HR hhp
                go_wp2_with fail
                refine HPX.out.mono ?_
                rintro e w5 ⟨rfl,hw5⟩
                rw [hw5]
                clear hw5 HPX
                go_wp2_with fail
                refine HVC.out.mono ?_
                rintro e wV ⟨rfl,sv6,hbk6,hrow6,-,hsr6⟩
                have hon6:=hsr6.only (fun n hn=>(HROW.out.lt n hn).1) HON.out
                have hszV:=hon6.size
                have HONT:=Hd_ hon6
                have HBKV:=Hd_ hbk6
                have lTV:=hbk6.lt
                have q9:wV.cell? ⟨bS,9,none⟩=some (.int .i64 (r2:Int)):=hbk6.cell 9
                have hbR:Blk wV (w.heap.size+1+1) 39 #[.int .i64 0,.slice none 0 0]:=HBR3.out.only hon6 (.inl hwS)
                have z0:wV.cell? ⟨w.heap.size+1+1,0,none⟩=some (.int .i64 0):=hbR.cell 0
                have z1:wV.cell? ⟨w.heap.size+1+1,1,none⟩=some (.slice none 0 0):=hbR.cell 1
                have fz0:=hbR.frozen 0
                have fz1:=hbR.frozen 1
                have lz:=hbR.lt
                have HBRV:=Hd_ hbR
                have HBV:=Hd_ (HB1.out.trans (hon6.below (B:=w.heap.size) (by omega) HB1.out.size))
                cases o with
                | some r =>
                  have HE:=Hd_ (HY.out r r2 rfl)
                  have hrl:r.length<=60:=by
                   have:=hvn r rfl
                   omega
                  clear hvn
                  rw [Option.getD_some,List.nil_append] at hrow6
                  have hown6:=Own.of_row (xs:=r) hrow6 rfl rfl
                  obtain ⟨A9,n9,c9,rfl⟩:=hown6.shape
                  have hal2:Below wV.heap.size wV (wV.alloc (.cells #[] 81)):=(Below.refl _ _).alloc (Nat.le_refl _) _
                  have HV2:=Hd_ (SlE.keep ((hown6.sl cSt_len).all (Nat.le_refl _)) hal2)
                  have HLT2:=Hd_ (World.ownsRow_lit (base:=wV.heap.size) (e:=81) (size:=2) wV #[] 0 (Nat.le_refl _) (by decide) rfl)
                  have HAL2:=Hd_ hal2
                  have z10:wV.cell? ⟨bS,10,none⟩=some (.slice A9 n9 c9):=HBKV.out.cell 10
                  clear HY HO HN hbk6 hrow6 hsr6 hon6 hbR hown6 hal2
                  go_wp2_with (at_builtin;(refine wpList_appendL cSt elStep cSt_len cSt_one rfl _ _ rfl wV.heap.size _ [] r (by rfl) HLT2.out 0 _ _ (by rfl) HV2.out (by simp;omega) (by omega) (by simp) ?_);intro v5 w5 hrow5 hgr5 hat5;have hb5:=HAL2.out.trans (own_below HLT2.out (by simp) hgr5);have bR5:=HBRV.out.keep hb5;have z0:w5.cell? ⟨w.heap.size+1+1,0,none⟩=some (.int .i64 0):=bR5.cell 0;have z1:w5.cell? ⟨w.heap.size+1+1,1,none⟩=some (.slice none 0 0):=bR5.cell 1;have fz0:=bR5.frozen 0;have fz1:=bR5.frozen 1;have lz5:=bR5.lt;have hown5:=Own.of_row (xs:=[] ++ r) hrow5 rfl rfl;obtain ⟨A7,n7,c7,hv7⟩:=hown5.shape;subst hv7;have HB5:=Hd_ hb5;have HO5:=Hd_ hown5;clear hown5 bR5 hb5 hrow5 hgr5 hat5)
                  have hon3:=((Only.refl (w.heap.size+1+1) (w.heap.size+1+1+1) w5).setCell (p:=⟨w.heap.size+1+1,0,none⟩) (.inl ⟨Nat.le_refl _,Nat.lt_succ_self _⟩) (.int .i64 (x:Int))).setCell (p:=⟨w.heap.size+1+1,1,none⟩) (.inl ⟨Nat.le_refl _,Nat.lt_succ_self _⟩) (.slice A7 n7 c7)
                  have hs5:=HB5.out.size
                  refine bodyPost_ret (v:=.tuple #[.agg #[.int .i64 (x:Int),.slice A7 n7 c7],.int .i64 1]) (by simp [results,Tryz.results71,go_sem,z0,z1]) rfl ⟨_,by rw [<- HE.out],?_,(below_trans HBV.out HB5.out).trans (hon3.below (by omega) (by omega))⟩
                  rw [<- HE.out]
                  exact ⟨_,rfl,(HO5.out.only hon3 (.inr (by omega))).mono (by omega) (by simp [World.setCell])⟩
                | none =>
                  rw [Option.getD_none,List.append_nil] at hrow6
                  have HROW6:=Hd_ hrow6
                  by_cases hcc:B<=r2
                  · have HE:=Hd_ (HO.out r2 rfl hcc)
                    have hcb:decide ((r2:Int) >= (B:Int))=true:=by simp;omega
                    clear HY HO HN hbk6 hrow6 hsr6 hon6 hbR
                    go_wp2_with fail
                    refine bodyPost_ret (v:=.tuple #[.agg #[.int .i64 0,.slice none 0 0],.int .i64 3]) (by simp [results,Tryz.results71,go_sem,z0,z1]) rfl ⟨_,by rw [<- HE.out],?_,(HBV.out.setCell (p:=⟨w.heap.size+1+1,0,none⟩) (by simp only;omega) _).setCell (p:=⟨w.heap.size+1+1,1,none⟩) (by simp only;omega) _⟩
                    rw [<- HE.out]
                    exact ⟨_,rfl,Own.nil _ _ _ _ _ _⟩
                  · have HE:=Hd_ (HN.out r2 rfl hcc)
                    have hcb:decide ((r2:Int) >= (B:Int))=false:=by simp;omega
                    clear HY HO HN hbk6 hrow6 hsr6 hon6 hbR
                    go_wp2_with fail
                    go_roundw
                    case rel=>exact ⟨lf+1,r2,k,sv6,by omega,hvl.1,by go_num,HE.out,HONT.out,HBKV.out,HROW6.out⟩
                    case measure=>simp [intOf];omega
            · obtain rfl:k=0:=by omega
              have hle:¬ (lf:Int)<=(n1:Int):=by omega
              have HE:=Hd_ ((show srchF g a y B (distTo g a y) true x (bit s) [(x:Int)] 0 lf c=((0,[]),2) from rfl).symm.trans HR.out)
              have hbR:Blk wr (w.heap.size+1+1) 39 #[.int .i64 0,.slice none 0 0]:=HBR3.out.only HON.out (.inl hwS)
              have z0:wr.cell? ⟨w.heap.size+1+1,0,none⟩=some (.int .i64 0):=hbR.cell 0
              have z1:wr.cell? ⟨w.heap.size+1+1,1,none⟩=some (.slice none 0 0):=hbR.cell 1
              have fz0:=hbR.frozen 0
              have fz1:=hbR.frozen 1
              have lz:=hbR.lt
              have HBV:=Hd_ (HB1.out.trans (HON.out.below (B:=w.heap.size) (by omega) HB1.out.size))
              clear HR hbR
              go_wp2_with fail
              refine bodyPost_ret (v:=.tuple #[.agg #[.int .i64 0,.slice none 0 0],.int .i64 2]) (by simp [results,Tryz.results71,go_sem,z0,z1]) rfl ⟨_,by rw [<- HE.out],?_,(HBV.out.setCell (p:=⟨w.heap.size+1+1,0,none⟩) (by simp only;omega) _).setCell (p:=⟨w.heap.size+1+1,1,none⟩) (by simp only;omega) _⟩
              rw [<- HE.out]
              exact ⟨_,rfl,Own.nil _ _ _ _ _ _⟩
end Go.Proofs.YtjpdembmchnbgaaGreat
