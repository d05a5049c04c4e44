/- Parts of the proof, joined into one text: SrchJ, Srw, CutM. -/
import Derived.Test.YtjpdembmchnbgaaGreatOnlzNMJNDCCH
import Derived.Test.YtjpdembmchnbgaaGreatOnlzBGBMJIIM
import Derived.Test.YtjpdembmchnbgaaGreatOnlzBJPCHMFC
import Derived.Lib.Slices
import Derived.Test.YtjpdembmchnbgaaGreatOnlzGFEEKDAD
set_option linter.unusedVariables false
set_option linter.unusedSimpArgs false
namespace Go.Proofs.YtjpdembmchnbgaaGreat
open Go.ChangeShapes Go.WideShapes Go.ChangeAt Go.RowKit
attribute [local go_sem] ext_cell ext_frozen ext_lt ext_lt1 ext_lt2 ext_lt3 ltn2 ltn3 ltn13 lts1 lts2 lts3
/-- what a search's calls ask of the world behind its box -/
theorem visit_hyp {g:Gr} {a:Au} {D:List Int} {w wF W1:World} {bT:Nat} {vg va v dv:Value} {xss:List (List Arc)} (hT:bT=wF.heap.size) (hbn:Below wF.heap.size wF W1) (hb:Below w.heap.size w wF) (hgv:GrV 0 w.heap.size w vg g) (hav:AuV 0 w.heap.size w va a)
 (hsa:SSE 0 wF.heap.size wF cA 4 v xss) (hd:SlE wF cI 1 dv D):GrV 0 bT W1 vg g/\AuV 0 bT W1 va a/\SSE 0 bT W1 cA 4 v xss/\SlI 0 bT W1 cI 1 dv D:=by
 subst hT
 exact ⟨(hgv.keep hb).below hbn (Nat.le_refl _),(hav.keep hb).below hbn (Nat.le_refl _),hsa.below hbn (Nat.le_refl _),SlI.below hd hbn (Nat.le_refl _)⟩
set_option maxHeartbeats 16000000 in
set_option maxRecDepth 100000 in
theorem implSearchTrail (vg va:Value) (g:Gr) (a:Au) (x y BI:Int) (w:World) (hgv:GrV 0 w.heap.size w vg g) (hav:AuV 0 w.heap.size w va a) :
 Calls Tryz.prog 19 #[vg,va,.int .i64 x,.int .i64 y,.int .i64 BI] w fun e w'=>∃ v',e=.returned (.tuple #[v',.int .i64 (srchL g a x y BI false).2])/\WkO w.heap.size w'.heap.size w' v' (srchL g a x y BI false).1/\Below w.heap.size w w':=by
 have hgv0:=hgv
 have hav0:=hav
 obtain ⟨A1,c1,A2,c2,rfl,hl1,hm1,hl2,hm2,-,-⟩:=hgv.form
 obtain ⟨R,hR⟩:∃ R,R=srchL g a x y BI false:=⟨_,rfl⟩
 rw [<- hR]
 cases hbo2:([x,y].all (fun s=>wi s 0 ((g.vals.length:Int) - 1)) && (grOk g && auOk a)) with
 | false =>
   have hc:cntOk g a x y=false:=by simpa [cntOk,Bool.and_assoc] using hbo2
   have hfin:R=((0,[]),0):=by rw [hR,srchL,if_neg];rw [srchOk,hc];simp
   obtain ⟨ac,nx,rfl,hac,hnx⟩:=hav
   obtain ⟨A3,c3,rfl,-,-,-⟩:=SlE.form hac
   obtain ⟨A4,n4,c4,rfl⟩:=hnx.shape
   have hb0:Below w.heap.size w (((w.alloc (.cells #[.slice A1 g.vals.length c1,.slice A2 g.edges.length c2] 27)).alloc (.cells #[.int .i64 a.start,.slice A3 a.accept.length c3,.slice A4 n4 c4] 31)).alloc (.cells #[.int .i64 0,.slice none 0 0] 39)):=(((Below.refl _ _).alloc (Nat.le_refl _) _).alloc (by simp) _).alloc (by simp;omega) _
   have hb1:=hb0.alloc hb0.size (.cells #[.int .i64 x,.int .i64 y] 3)
   have hst:SlE ((((w.alloc (.cells #[.slice A1 g.vals.length c1,.slice A2 g.edges.length c2] 27)).alloc (.cells #[.int .i64 a.start,.slice A3 a.accept.length c3,.slice A4 n4 c4] 31)).alloc (.cells #[.int .i64 0,.slice none 0 0] 39)).alloc (.cells #[.int .i64 x,.int .i64 y] 3)) cI 1 (.slice (some ⟨w.heap.size+1+1+1,0,none⟩) 2 2) [x,y]:=by
    have h:=lit_sl (((w.alloc (.cells #[.slice A1 g.vals.length c1,.slice A2 g.edges.length c2] 27)).alloc (.cells #[.int .i64 a.start,.slice A3 a.accept.length c3,.slice A4 n4 c4] 31)).alloc (.cells #[.int .i64 0,.slice none 0 0] 39)) 3 [x,y] (by unfold maxLen;simp)
    simpa using h
   have HBO:=Hd_ (bothOk_any _ _ _ g a [x,y] _ (hgv0.keep hb1) (hav0.keep hb1) hst)
   have HB1:=Hd_ hb1
   have hbR:=(Blk.new ((w.alloc (.cells #[.slice A1 g.vals.length c1,.slice A2 g.edges.length c2] 27)).alloc (.cells #[.int .i64 a.start,.slice A3 a.accept.length c3,.slice A4 n4 c4] 31)) 39 #[.int .i64 0,.slice none 0 0] (w.heap.size+1+1) (by simp)).alloc (.cells #[.int .i64 x,.int .i64 y] 3)
   have hbG:=(((Blk.new w 27 #[.slice A1 g.vals.length c1,.slice A2 g.edges.length c2] w.heap.size rfl).alloc (.cells #[.int .i64 a.start,.slice A3 a.accept.length c3,.slice A4 n4 c4] 31)).alloc (.cells #[.int .i64 0,.slice none 0 0] 39)).alloc (.cells #[.int .i64 x,.int .i64 y] 3)
   have hbA:=((Blk.new (w.alloc (.cells #[.slice A1 g.vals.length c1,.slice A2 g.edges.length c2] 27)) 31 #[.int .i64 a.start,.slice A3 a.accept.length c3,.slice A4 n4 c4] (w.heap.size+1) (by simp)).alloc (.cells #[.int .i64 0,.slice none 0 0] 39)).alloc (.cells #[.int .i64 x,.int .i64 y] 3)
   have HBR:=Hd_ hbR
   have HBG:=Hd_ hbG
   have HBA:=Hd_ hbA
   clear hb0 hb1 hst hbR hbG hbA
   rw [hbo2] at HBO
   have HF:=Hd_ hfin
   clear hgv hac hnx hgv0 hav0 hbo2 hc hfin hR
   go_enter Tryz.func19,Tryz.ntmps19
   go_wp2_with fail
   refine HBO.out.mono ?_
   rintro e w1 ⟨rfl,hb2⟩
   have bR:=HBR.out.keep hb2
   have z0:w1.cell? ⟨w.heap.size+1+1,0,none⟩=some (.int .i64 0):=bR.cell 0
   have z1:w1.cell? ⟨w.heap.size+1+1,1,none⟩=some (.slice none 0 0):=bR.cell 1
   have fz0:=bR.frozen 0
   have fz1:=bR.frozen 1
   have lz:=bR.lt
   have HBV:=Hd_ (below_trans HB1.out hb2)
   clear bR HBR HBG HBA
   go_wp2_with fail
   refine bodyPost_ret (v:=.tuple #[.agg #[.int .i64 0,.slice none 0 0],.int .i64 0]) (by simp [results,Tryz.results19,go_sem,z0,z1]) rfl ⟨_,by rw [HF.out],?_,(HBV.out.setCell (p:=⟨w.heap.size+1+1,0,none⟩) (by simp only;omega) _).setCell (p:=⟨w.heap.size+1+1,1,none⟩) (by simp only;omega) _⟩
   rw [HF.out]
   exact ⟨_,rfl,Own.nil _ _ _ _ _ _⟩
 | true =>
   simp only [List.all_cons,List.all_nil,Bool.and_true] at hbo2
   have hbo3:=hbo2
   simp only [Bool.and_eq_true] at hbo3
   obtain ⟨⟨hx,hy⟩,hgo,hao⟩:=hbo3
   have hck:cntOk g a x y=true:=by rw [cntOk,hx,hy,hgo,hao];rfl
   obtain ⟨A3,c3,A4,c4,rfl,-,-,-,-,-⟩:=hav.form hao
   cases hwB:wi BI 1 20000 with
   | false =>
     have hfin:R=((0,[]),0):=by rw [hR,srchL,if_neg];rw [srchOk,hwB];simp
     have hb0:Below w.heap.size w (((w.alloc (.cells #[.slice A1 g.vals.length c1,.slice A2 g.edges.length c2] 27)).alloc (.cells #[.int .i64 a.start,.slice A3 a.accept.length c3,.slice A4 a.accept.length c4] 31)).alloc (.cells #[.int .i64 0,.slice none 0 0] 39)):=(((Below.refl _ _).alloc (Nat.le_refl _) _).alloc (by simp) _).alloc (by simp;omega) _
     have hb1:=hb0.alloc hb0.size (.cells #[.int .i64 x,.int .i64 y] 3)
     have hst:SlE ((((w.alloc (.cells #[.slice A1 g.vals.length c1,.slice A2 g.edges.length c2] 27)).alloc (.cells #[.int .i64 a.start,.slice A3 a.accept.length c3,.slice A4 a.accept.length c4] 31)).alloc (.cells #[.int .i64 0,.slice none 0 0] 39)).alloc (.cells #[.int .i64 x,.int .i64 y] 3)) cI 1 (.slice (some ⟨w.heap.size+1+1+1,0,none⟩) 2 2) [x,y]:=by
      have h:=lit_sl (((w.alloc (.cells #[.slice A1 g.vals.length c1,.slice A2 g.edges.length c2] 27)).alloc (.cells #[.int .i64 a.start,.slice A3 a.accept.length c3,.slice A4 a.accept.length c4] 31)).alloc (.cells #[.int .i64 0,.slice none 0 0] 39)) 3 [x,y] (by unfold maxLen;simp)
      simpa using h
     have HBO:=Hd_ (bothOk_any _ _ _ g a [x,y] _ (hgv0.keep hb1) (hav0.keep hb1) hst)
     have HB1:=Hd_ hb1
     have hbR:=(Blk.new ((w.alloc (.cells #[.slice A1 g.vals.length c1,.slice A2 g.edges.length c2] 27)).alloc (.cells #[.int .i64 a.start,.slice A3 a.accept.length c3,.slice A4 a.accept.length c4] 31)) 39 #[.int .i64 0,.slice none 0 0] (w.heap.size+1+1) (by simp)).alloc (.cells #[.int .i64 x,.int .i64 y] 3)
     have hbG:=(((Blk.new w 27 #[.slice A1 g.vals.length c1,.slice A2 g.edges.length c2] w.heap.size rfl).alloc (.cells #[.int .i64 a.start,.slice A3 a.accept.length c3,.slice A4 a.accept.length c4] 31)).alloc (.cells #[.int .i64 0,.slice none 0 0] 39)).alloc (.cells #[.int .i64 x,.int .i64 y] 3)
     have hbA:=((Blk.new (w.alloc (.cells #[.slice A1 g.vals.length c1,.slice A2 g.edges.length c2] 27)) 31 #[.int .i64 a.start,.slice A3 a.accept.length c3,.slice A4 a.accept.length c4] (w.heap.size+1) (by simp)).alloc (.cells #[.int .i64 0,.slice none 0 0] 39)).alloc (.cells #[.int .i64 x,.int .i64 y] 3)
     have HBR:=Hd_ hbR
     have HBG:=Hd_ hbG
     have HBA:=Hd_ hbA
     clear hb0 hb1 hst hbR hbG hbA
     simp only [List.all_cons,List.all_nil,Bool.and_true] at HBO
     rw [hbo2] at HBO
     have HF:=Hd_ hfin
     have HW:=Hd_ (fun W=>within_any BI 1 20000 W)
     rw [hwB] at HW
     clear hgv hav hgv0 hav0 hbo2 hck hfin hR hx hy hgo hao hwB
     go_enter Tryz.func19,Tryz.ntmps19
     go_wp2_with fail
     refine HBO.out.mono ?_
     rintro e w1 ⟨rfl,hb2⟩
     go_wp2_with fail
     refine (HW.out _).mono ?_
     rintro e w9 ⟨rfl,hw9⟩
     rw [hw9]
     clear hw9
     have bR:=HBR.out.keep hb2
     have z0:w1.cell? ⟨w.heap.size+1+1,0,none⟩=some (.int .i64 0):=bR.cell 0
     have z1:w1.cell? ⟨w.heap.size+1+1,1,none⟩=some (.slice none 0 0):=bR.cell 1
     have fz0:=bR.frozen 0
     have fz1:=bR.frozen 1
     have lz:=bR.lt
     have HBV:=Hd_ (below_trans HB1.out hb2)
     clear bR HBR HBG HBA
     go_wp2_with fail
     refine bodyPost_ret (v:=.tuple #[.agg #[.int .i64 0,.slice none 0 0],.int .i64 0]) (by simp [results,Tryz.results19,go_sem,z0,z1]) rfl ⟨_,by rw [HF.out],?_,(HBV.out.setCell (p:=⟨w.heap.size+1+1,0,none⟩) (by simp only;omega) _).setCell (p:=⟨w.heap.size+1+1,1,none⟩) (by simp only;omega) _⟩
     rw [HF.out]
     exact ⟨_,rfl,Own.nil _ _ _ _ _ _⟩
   | true =>
     rw [wi_iff] at hx hy
     have hwB2:=wi_iff.1 hwB
     have hgo2:=grOk_iff.1 hgo
     obtain ⟨x,rfl⟩:=Int.eq_ofNat_of_zero_le hx.1
     obtain ⟨B,rfl⟩:=Int.eq_ofNat_of_zero_le (show 0<=BI by omega)
     have hxl:x < g.vals.length:=by omega
     have hn5:=hgo2.n5
     have he12:=hgo2.e12
     obtain ⟨⟨hm1',hm12⟩,⟨hst0,hst1⟩,-,-⟩:=auOk_iff.1 hao
     obtain ⟨s,hs⟩:∃ s:Nat,a.start=(s:Int):=⟨a.start.toNat,by omega⟩
     have hsl:s < a.accept.length:=by omega
     have hfin:R=srchF g a y B (distTo g a y) false x (bit s) (srchU false x) (srchN g false) 0 0:=by
      rw [hR,srchL,if_pos (by rw [srchOk,hck,hwB];rfl),hs];rfl
     have hb0:Below w.heap.size w (((w.alloc (.cells #[.slice A1 g.vals.length c1,.slice A2 g.edges.length c2] 27)).alloc (.cells #[.int .i64 a.start,.slice A3 a.accept.length c3,.slice A4 a.accept.length c4] 31)).alloc (.cells #[.int .i64 0,.slice none 0 0] 39)):=(((Below.refl _ _).alloc (Nat.le_refl _) _).alloc (by simp) _).alloc (by simp;omega) _
     have hb1:=hb0.alloc hb0.size (.cells #[.int .i64 (x:Int),.int .i64 y] 3)
     have hst:SlE ((((w.alloc (.cells #[.slice A1 g.vals.length c1,.slice A2 g.edges.length c2] 27)).alloc (.cells #[.int .i64 a.start,.slice A3 a.accept.length c3,.slice A4 a.accept.length c4] 31)).alloc (.cells #[.int .i64 0,.slice none 0 0] 39)).alloc (.cells #[.int .i64 (x:Int),.int .i64 y] 3)) cI 1 (.slice (some ⟨w.heap.size+1+1+1,0,none⟩) 2 2) [(x:Int),y]:=by
      have h:=lit_sl (((w.alloc (.cells #[.slice A1 g.vals.length c1,.slice A2 g.edges.length c2] 27)).alloc (.cells #[.int .i64 a.start,.slice A3 a.accept.length c3,.slice A4 a.accept.length c4] 31)).alloc (.cells #[.int .i64 0,.slice none 0 0] 39)) 3 [(x:Int),y] (by unfold maxLen;simp)
      simpa using h
     have HBO:=Hd_ (bothOk_any _ _ _ g a [(x:Int),y] _ (hgv0.keep hb1) (hav0.keep hb1) hst)
     have HB1:=Hd_ hb1
     have hbR:=(Blk.new ((w.alloc (.cells #[.slice A1 g.vals.length c1,.slice A2 g.edges.length c2] 27)).alloc (.cells #[.int .i64 a.start,.slice A3 a.accept.length c3,.slice A4 a.accept.length c4] 31)) 39 #[.int .i64 0,.slice none 0 0] (w.heap.size+1+1) (by simp)).alloc (.cells #[.int .i64 (x:Int),.int .i64 y] 3)
     have hbG:=(((Blk.new w 27 #[.slice A1 g.vals.length c1,.slice A2 g.edges.length c2] w.heap.size rfl).alloc (.cells #[.int .i64 a.start,.slice A3 a.accept.length c3,.slice A4 a.accept.length c4] 31)).alloc (.cells #[.int .i64 0,.slice none 0 0] 39)).alloc (.cells #[.int .i64 (x:Int),.int .i64 y] 3)
     have hbA:=((Blk.new (w.alloc (.cells #[.slice A1 g.vals.length c1,.slice A2 g.edges.length c2] 27)) 31 #[.int .i64 a.start,.slice A3 a.accept.length c3,.slice A4 a.accept.length c4] (w.heap.size+1) (by simp)).alloc (.cells #[.int .i64 0,.slice none 0 0] 39)).alloc (.cells #[.int .i64 (x:Int),.int .i64 y] 3)
     have HBR:=Hd_ hbR
     have HBG:=Hd_ hbG
     have HBA:=Hd_ hbA
     clear hb0 hb1 hst hbR hbG hbA
     simp only [List.all_cons,List.all_nil,Bool.and_true] at HBO
     rw [hbo2] at HBO
     have HW:=Hd_ (fun W=>within_any (B:Int) 1 20000 W)
     rw [hwB] at HW
     have HF:=Hd_ hfin
     have HGV:=Hd_ hgv0
     have HAV:=Hd_ hav0
     have HGO:=Hd_ hgo
     have HAO:=Hd_ hao
     have HDL:=Hd_ (distTo_len (g:=g) (a:=a) (y:=y) (by rw [wi_iff.2 hy,hgo,hao];rfl))
     have hbs:=bit_lt hsl
     have HBS:=Hd_ hbs
     have e1:=Hd_ (shl_bit (s:=s) (by omega))
     have e2:=Hd_ (shl_bit2 (s:=s) (by omega))
     have e3:=Hd_ (shl_bit3 (s:=s) (by omega))
     have hB1:1<=B:=by omega
     have hB2:B<=20000:=by omega
     have HST:=Hd_ hs
     clear hgv hav hgv0 hav0 hbo2 hck hfin hR hx hy hgo hao hwB hgo2 hst0 hst1 hbs hwB2 hs
     go_enter Tryz.func19,Tryz.ntmps19
     go_wp2_with fail
     refine HBO.out.mono ?_
     rintro e w1 ⟨rfl,hb2⟩
     have hb3:=below_trans HB1.out hb2
     have bR:=HBR.out.keep hb2
     have bG:=HBG.out.keep hb2
     have bA:=HBA.out.keep hb2
     have x0:w1.cell? ⟨w.heap.size,0,none⟩=some (.slice A1 g.vals.length c1):=by exact bG.cell 0
     have x1:w1.cell? ⟨w.heap.size,1,none⟩=some (.slice A2 g.edges.length c2):=by exact bG.cell 1
     have y0:w1.cell? ⟨w.heap.size+1,0,none⟩=some (.int .i64 a.start):=by exact bA.cell 0
     have y1:w1.cell? ⟨w.heap.size+1,1,none⟩=some (.slice A3 a.accept.length c3):=by exact bA.cell 1
     have y2:w1.cell? ⟨w.heap.size+1,2,none⟩=some (.slice A4 a.accept.length c4):=by exact bA.cell 2
     have HBR1:=Hd_ bR
     have HBW:=Hd_ hb3
     have lR:=bR.lt
     clear bG bA bR hb2 HBO HB1 HBR HBG HBA hb3
     go_wp2_with fail
     refine (HW.out _).mono ?_
     rintro e w9 ⟨rfl,hw9⟩
     rw [hw9]
     clear hw9 HW
     go_wp2_with fail
     have hb3:=HBW.out
     refine F_start 12 (fun w'=>w'.cell? ⟨w.heap.size,0,none⟩=some (.slice A1 g.vals.length c1)/\w'.cell? ⟨w.heap.size,1,none⟩=some (.slice A2 g.edges.length c2)/\w'.cell? ⟨w.heap.size+1,0,none⟩=some (.int .i64 a.start)/\w'.cell? ⟨w.heap.size+1,1,none⟩=some (.slice A3 a.accept.length c3)/\w'.cell? ⟨w.heap.size+1,2,none⟩=some (.slice A4 a.accept.length c4)) (by kernel_rfl) (by exact ⟨x0,x1,y0,y1,y2⟩) (fun hS inv=>?_)
     refine F_tk 0 inv ?_
     try simp only [tA,tB,tC,Act.put,tE,tF,tG]
     clear inv;intro inv
     refine F_tk 1 inv ?_
     try simp only [tA,tB,tC,Act.put,tE,tF,tG]
     clear inv;intro inv
     refine F_tk 2 inv ?_
     try simp only [tA,tB,tC,Act.put,tE,tF,tG]
     clear inv;intro inv
     refine F_tk 3 inv ?_
     try simp only [tA,tB,tC,Act.put,tE,tF,tG]
     clear inv;intro inv
     refine F_tk 5 inv ?_
     try simp only [tA,tB,tC,Act.put,tE,tF,tG]
     clear inv;intro inv
     refine F_tk 6 inv ?_
     try simp only [tA,tB,tC,Act.put,tE,tF,tG]
     clear inv;intro inv
     refine F_tk 7 inv ?_
     try simp only [tA,tB,tC,Act.put,tE,tF,tG]
     clear inv;intro inv
     refine F_tk 9 inv ?_
     try simp only [tA,tB,tC,Act.put,tE,tF,tG]
     clear inv;intro inv
     refine F_o1 4 inv ?_;intro K hK
     try simp only [tA,tB,tC]
     go_simp
     refine (arcs_any _ g _ (GrV.keep (w':=w1.drew) HGV.out hb3.drew) (grOk_iff.1 HGO.out)).mono ?_
     rintro e wA ⟨vA,rfl,hsA,hbA⟩
     refine hK.out _ _ (kB5 hbA hS) (fun _ _=>?_)
     try simp only [tA,tB,tC,Act.put,tE,tF,tG]
     clear hK K inv hS;rename_i hS inv
     refine F_o1 8 inv ?_;intro K hK
     try simp only [tA,tB,tC]
     go_simp
     have hbz:=below_trans hb3.drew hbA
     refine (implDistancesTo _ _ g a y _ (HGV.out.keep hbz) (HAV.out.keep hbz)).mono ?_
     rintro e wF ⟨vD,rfl,hoD,hbD⟩
     refine hK.out _ _ (kB5 hbD hS) (fun _ _=>?_)
     try simp only [tA,tB,tC,Act.put,tE,tF,tG]
     clear hK K inv hS;rename_i hS inv
     have HSA:=Hd_ (SSE.keep (hsA.mono (Nat.zero_le _) (Nat.le_refl _)) hbD)
     have HOD:=Hd_ ((hoD.sl cI_len).all (Nat.le_refl _))
     have HBF:=Hd_ (below_trans hbz hbD)
     have HBR2:=Hd_ (((HBR1.out.drew).keep hbA).keep hbD)
     clear hsA hbA hoD hbD hbz
     have HS5:=Hd_ hS
     obtain ⟨A5,c5,hv5,hl5,hm5⟩:=HSA.out.shape
     have hlen5:((List.range g.vals.length).map fun (x:Nat)=>arcsOf g (x:Int)).length=g.vals.length:=by simp
     rw [hlen5] at hv5 hl5
     subst hv5
     obtain ⟨A6,c6,hv6,hl6,hm6,-⟩:=SlE.form HOD.out
     subst hv6
     refine F_tk 10 inv ?_
     try simp only [tA,tB,tC,Act.put,tE,tF,tG]
     clear inv;intro inv
     refine F_o1 11 inv ?_;intro K hK
     try simp only [tA,tB,tC]
     go_simp
     have hbk:Blk (wF.alloc (.cells #[.slice A1 g.vals.length c1,.slice A2 g.edges.length c2,.int .i64 a.start,.slice A3 a.accept.length c3,.slice A4 a.accept.length c4,.int .i64 y,.slice A5 g.vals.length c5,.slice A6 (distTo g a y).length c6,.int .i64 (B:Int),.int .i64 (((0:Nat)):Int)] 102)) wF.heap.size 102 #[.slice A1 g.vals.length c1,.slice A2 g.edges.length c2,.int .i64 a.start,.slice A3 a.accept.length c3,.slice A4 a.accept.length c4,.int .i64 y,.slice A5 g.vals.length c5,.slice A6 (distTo g a y).length c6,.int .i64 (B:Int),.int .i64 (((0:Nat)):Int)]:=Blk.new _ _ _ _ rfl
     refine hK.out _ _ (kA5 _ hS) (fun _ _=>?_)
     try simp only [tA,tB,tC,Act.put,tE,tF,tG]
     clear hK K inv hS;rename_i hS inv
     refine F_l1 12 ?_;intro K hK
     go_simp
     refine hK _ _ ?_
     clear hK K inv hS
     have hbn:=(Below.refl wF.heap.size wF).alloc (Nat.le_refl _) (.cells #[.slice A1 g.vals.length c1,.slice A2 g.edges.length c2,.int .i64 a.start,.slice A3 a.accept.length c3,.slice A4 a.accept.length c4,.int .i64 y,.slice A5 g.vals.length c5,.slice A6 (distTo g a y).length c6,.int .i64 (B:Int),.int .i64 (((0:Nat)):Int)] 102)
     have hsn:wF.heap.size < (wF.alloc (.cells #[.slice A1 g.vals.length c1,.slice A2 g.edges.length c2,.int .i64 a.start,.slice A3 a.accept.length c3,.slice A4 a.accept.length c4,.int .i64 y,.slice A5 g.vals.length c5,.slice A6 (distTo g a y).length c6,.int .i64 (B:Int),.int .i64 (((0:Nat)):Int)] 102)).heap.size:=by simp
     have hzero:((0:Nat):Int)=0:=rfl
     rw [hzero] at hbk hbn hsn
     obtain ⟨bT,hbT⟩:∃ bT,bT=wF.heap.size:=⟨_,rfl⟩
     obtain ⟨W1,hW1⟩:∃ W1,W1=wF.alloc (.cells #[.slice A1 g.vals.length c1,.slice A2 g.edges.length c2,.int .i64 a.start,.slice A3 a.accept.length c3,.slice A4 a.accept.length c4,.int .i64 y,.slice A5 g.vals.length c5,.slice A6 (distTo g a y).length c6,.int .i64 (B:Int),.int .i64 (0:Int)] 102):=⟨_,rfl⟩
     rw [<- hW1] at hbk hbn hsn
     rw [<- hbT] at hbk hsn
     have HNAME:=Hd_ (And.intro hW1 hbT)
     have hsF:=HBF.out.size
     have HHV:=Hd_ (visit_hyp (v:=.slice A5 g.vals.length c5) (dv:=.slice A6 (distTo g a y).length c6) hbT hbn HBF.out HGV.out HAV.out HSA.out HOD.out)
     have HPR:=Hd_ (fun x s lf c w=>promising_any g a y B (distTo g a y) HGO.out HAO.out bT W1 A1 A2 A3 A4 A5 A6 c1 c2 c3 c4 c5 c6 HHV.out.1 HHV.out.2.1 HHV.out.2.2.1 HHV.out.2.2.2 HDL.out hB2 hsn x s lf c w)
     have HVI:=Hd_ (visit_any g a y B (distTo g a y) HGO.out HAO.out bT W1 A1 A2 A3 A4 A5 A6 c1 c2 c3 c4 c5 c6 HHV.out.1 HHV.out.2.1 HHV.out.2.2.1 HHV.out.2.2.2 HDL.out hB2 hsn)
     have HBK:=Hd_ (show Blk W1 bT 102 #[.slice A1 g.vals.length c1,.slice A2 g.edges.length c2,.int .i64 a.start,.slice A3 a.accept.length c3,.slice A4 a.accept.length c4,.int .i64 y,.slice A5 g.vals.length c5,.slice A6 (distTo g a y).length c6,.int .i64 (B:Int),.int .i64 (((0:Nat)):Int)] from hbk)
     have HBR3:=Hd_ (HBR2.out.keep hbn)
     obtain ⟨x0,x1,y0,y1,y2⟩:=HS5.out
     have x0:=kcell hbn x0
     have x1:=kcell hbn x1
     have y0:=kcell hbn y0
     have y1:=kcell hbn y1
     have y2:=kcell hbn y2
     have hwT:w.heap.size+1+1 < bT:=by have:=HBR2.out.lt;omega
     have HB1:=Hd_ (below_trans HBF.out hbn)
     go_wp2_with fail
     rw [<- HNAME.out.1]
     try rw [<- HNAME.out.2]
     have x0:=x0
     have HSRF:=Hd_ HF.out.symm
     clear hW1 hbk hbn HSA HOD HBF HBR1 HBR2 HNAME HHV HF HS5 hbT
     have lW0:w.heap.size < W1.heap.size:=by omega
     have lW1:w.heap.size+1 < W1.heap.size:=by omega
     go_loopw [13] (fun ii wr=>∃ lf c k:Nat,lf+k=(g.edges.length+1)/\c<=B/\ii=.int .i64 (lf:Int)/\srchF g a y B (distTo g a y) false x (bit s) [] k lf c=R/\Only bT (bT+1) W1 wr/\Blk wr bT 102 #[.slice A1 g.vals.length c1,.slice A2 g.edges.length c2,.int .i64 a.start,.slice A3 a.accept.length c3,.slice A4 a.accept.length c4,.int .i64 y,.slice A5 g.vals.length c5,.slice A6 (distTo g a y).length c6,.int .i64 (B:Int),.int .i64 (c:Int)]) (fun ii _=>(g.edges.length+1) - (intOf ii).toNat)
     case atStart=>exact ⟨0,0,(g.edges.length+1),by omega,by omega,rfl,HSRF.out,Only.refl _ _ _,HBK.out⟩
     case round =>
      clear HSRF HBK
      obtain ⟨lf,c,k,hlk,hcB,rfl,hR,hon,hbk⟩:=hrel
      have HR:=Hd_ hR
      have HON:=Hd_ hon
      have HBK:=Hd_ hbk
      have hsz:=hon.size
      have x0:=ocell hon x0 lW0 (.inl (by omega))
      have x1:=ocell hon x1 lW0 (.inl (by omega))
      have y0:=ocell hon y0 lW1 (.inl (by omega))
      have lr0:w.heap.size < wr.heap.size:=by omega
      have lr1:w.heap.size+1 < wr.heap.size:=by omega
      clear hR hon hbk
      by_cases hlt:lf<=g.edges.length
      · have hle:(lf:Int)<=(g.edges.length:Int):=by omega
        obtain ⟨k,rfl⟩:∃ k',k=k'+1:=⟨k - 1,by omega⟩
        have HPX:=Hd_ (HPR.out x (bit s) lf c wr HON.out HBK.out hxl HBS.out (by omega))
        have s1:=e1.out
        have s2:=e2.out
        have s3:=e3.out
        rw [HST.out] at y0
        cases hhp:hope (distTo g a y) a.accept.length x (bit s) lf with
        | false =>
          rw [hhp] at HPX
          have HE:=Hd_ ((srchF_no hhp).symm.trans HR.out)
          clear HR hhp
          go_wp2_with fail
          refine HPX.out.mono ?_
          rintro e w5 ⟨rfl,hb5⟩
          have HO5:=Hd_ (HON.out.trans (Only.of_below hb5 bT (bT+1)))
          have HBK5:=Hd_ (HBK.out.keep hb5)
          clear hb5
          go_wp2_with fail
          go_roundw
          case rel=>exact ⟨lf+1,c,k,by omega,hcB,by go_num,HE.out,HO5.out,HBK5.out⟩
          case measure=>simp [intOf];omega
        | true =>
          rw [hhp] at HPX
          have hvl:=visit_le (g:=g) (a:=a) (y:=y) (B:=B) (D:=distTo g a y) (sm:=false) lf x (bit s) [] c hcB
          have hvn:=visit_len (g:=g) (a:=a) (y:=y) (B:=B) (D:=distTo g a y) (sm:=false) lf x (bit s) [] c
          have HVX:=Hd_ (fun (uv:Value) (W:World) h1 h2 h3=>HVI.out lf x (bit s) [] c uv W h1 h2 h3 hxl HBS.out hcB (by simp;omega))
          have HY:=Hd_ (fun r c' h=>(srchF_yes (k:=k) (r:=r) (c':=c') hhp h).symm.trans HR.out)
          have HO:=Hd_ (fun c' h h2=>(srchF_out (k:=k) (c':=c') hhp h h2).symm.trans HR.out)
          have HN:=Hd_ (fun c' h h2=>(srchF_on (k:=k) (c':=c') hhp h h2).symm.trans HR.out)
          generalize visit g a y B (distTo g a y) false lf x (bit s) [] c=V at *
          obtain ⟨o,c2⟩:=V
          simp only at hvl hvn
          clear HR hhp
          go_wp2_with fail
          refine HPX.out.mono ?_
          rintro e wP ⟨rfl,hbP⟩
          have HONP:=Hd_ (HON.out.trans (Only.of_below hbP bT (bT+1)))
          have HBKP:=Hd_ (HBK.out.keep hbP)
          have hsP:=hbP.size
          have x0:=kcell hbP x0
          have x1:=kcell hbP x1
          have y0:=kcell hbP y0
          have lp0:w.heap.size < wP.heap.size:=by omega
          have lp1:w.heap.size+1 < wP.heap.size:=by omega
          clear hbP HPX
          have hu1:SlI (bT+1) wP.heap.size wP cI 1 (.slice none 0 0) ([]:List Int):=SlI.nil _ _ _ _ _
          have hon2:=HONP.out
          have hbk2:=HBKP.out
          have HVC:=Hd_ (HVX.out _ _ hon2 hbk2 hu1)
          have HON2:=Hd_ hon2
          clear hon2 hbk2 hu1
          go_wp2_with fail
          refine HVC.out.mono ?_
          rintro e wV ⟨vV,rfl,hoV,hbkV,honV⟩
          have honT:=HON2.out.trans honV
          have hszV:=honT.size
          have HONT:=Hd_ honT
          have HOV:=Hd_ hoV
          have HBKV:=Hd_ hbkV
          have lTV:=hbkV.lt
          have q9:wV.cell? ⟨bT,9,none⟩=some (.int .i64 (c2:Int)):=hbkV.cell 9
          have hbR:Blk wV (w.heap.size+1+1) 39 #[.int .i64 0,.slice none 0 0]:=HBR3.out.only honT (.inl hwT)
          have z0:wV.cell? ⟨w.heap.size+1+1,0,none⟩=some (.int .i64 0):=hbR.cell 0
          have z1:wV.cell? ⟨w.heap.size+1+1,1,none⟩=some (.slice none 0 0):=hbR.cell 1
          have fz0:=hbR.frozen 0
          have fz1:=hbR.frozen 1
          have lz:=hbR.lt
          have HBV:=Hd_ (HB1.out.trans (honT.below (B:=w.heap.size) (by omega) HB1.out.size))
          obtain ⟨A9,n9,c9,rfl⟩:=hoV.shape
          clear honT hoV hbkV honV hbR
          cases o with
          | some r =>
            have HE:=Hd_ (HY.out r c2 rfl)
            clear HY HO HN
            go_wp2_with fail
            have hon3:=((Only.refl (w.heap.size+1+1) (w.heap.size+1+1+1) wV).setCell (p:=⟨w.heap.size+1+1,0,none⟩) (.inl ⟨Nat.le_refl _,Nat.lt_succ_self _⟩) (.int .i64 (x:Int))).setCell (p:=⟨w.heap.size+1+1,1,none⟩) (.inl ⟨Nat.le_refl _,Nat.lt_succ_self _⟩) (.slice A9 n9 c9)
            refine bodyPost_ret (v:=.tuple #[.agg #[.int .i64 (x:Int),.slice A9 n9 c9],.int .i64 1]) (by simp [results,Tryz.results19,go_sem,z0,z1]) rfl ⟨_,by rw [<- HE.out],?_,HBV.out.trans (hon3.below (by omega) (by omega))⟩
            rw [<- HE.out]
            exact ⟨_,rfl,(HOV.out.only hon3 (.inr (by omega))).mono (by omega) (by simp [World.setCell])⟩
          | none =>
            by_cases hcc:B<=c2
            · have HE:=Hd_ (HO.out c2 rfl hcc)
              have hcb:decide ((c2:Int) >= (B:Int))=true:=by simp;omega
              clear HY HO HN
              go_wp2_with fail
              refine bodyPost_ret (v:=.tuple #[.agg #[.int .i64 0,.slice none 0 0],.int .i64 3]) (by simp [results,Tryz.results19,go_sem,z0,z1]) rfl ⟨_,by rw [<- HE.out],?_,(HBV.out.setCell (p:=⟨w.heap.size+1+1,0,none⟩) (by simp only;omega) _).setCell (p:=⟨w.heap.size+1+1,1,none⟩) (by simp only;omega) _⟩
              rw [<- HE.out]
              exact ⟨_,rfl,Own.nil _ _ _ _ _ _⟩
            · have HE:=Hd_ (HN.out c2 rfl hcc)
              have hcb:decide ((c2:Int) >= (B:Int))=false:=by simp;omega
              clear HY HO HN
              go_wp2_with fail
              go_roundw
              case rel=>exact ⟨lf+1,c2,k,by omega,hvl.1,by go_num,HE.out,HONT.out,HBKV.out⟩
              case measure=>simp [intOf];omega
      · obtain rfl:k=0:=by omega
        have HE:=Hd_ ((show srchF g a y B (distTo g a y) false x (bit s) [] 0 lf c=((0,[]),2) from rfl).symm.trans HR.out)
        have hbR:Blk wr (w.heap.size+1+1) 39 #[.int .i64 0,.slice none 0 0]:=HBR3.out.only HON.out (.inl hwT)
        have z0:wr.cell? ⟨w.heap.size+1+1,0,none⟩=some (.int .i64 0):=hbR.cell 0
        have z1:wr.cell? ⟨w.heap.size+1+1,1,none⟩=some (.slice none 0 0):=hbR.cell 1
        have fz0:=hbR.frozen 0
        have fz1:=hbR.frozen 1
        have lz:=hbR.lt
        have HBV:=Hd_ (HB1.out.trans (HON.out.below (B:=w.heap.size) (by omega) HB1.out.size))
        clear HR hbR
        go_wp2_with fail
        refine bodyPost_ret (v:=.tuple #[.agg #[.int .i64 0,.slice none 0 0],.int .i64 2]) (by simp [results,Tryz.results19,go_sem,z0,z1]) rfl ⟨_,by rw [<- HE.out],?_,(HBV.out.setCell (p:=⟨w.heap.size+1+1,0,none⟩) (by simp only;omega) _).setCell (p:=⟨w.heap.size+1+1,1,none⟩) (by simp only;omega) _⟩
        rw [<- HE.out]
        exact ⟨_,rfl,Own.nil _ _ _ _ _ _⟩
set_option maxHeartbeats 16000000 in
set_option maxRecDepth 100000 in
theorem implSearchSimplePath (vg va:Value) (g:Gr) (a:Au) (x y BI:Int) (w:World) (hgv:GrV 0 w.heap.size w vg g) (hav:AuV 0 w.heap.size w va a) :
 Calls Tryz.prog 26 #[vg,va,.int .i64 x,.int .i64 y,.int .i64 BI] w fun e w'=>∃ v',e=.returned (.tuple #[v',.int .i64 (srchL g a x y BI true).2])/\WkO w.heap.size w'.heap.size w' v' (srchL g a x y BI true).1/\Below w.heap.size w w':=by
 have hgv0:=hgv
 have hav0:=hav
 obtain ⟨A1,c1,A2,c2,rfl,hl1,hm1,hl2,hm2,-,-⟩:=hgv.form
 obtain ⟨R,hR⟩:∃ R,R=srchL g a x y BI true:=⟨_,rfl⟩
 rw [<- hR]
 cases hbo2:([x,y].all (fun s=>wi s 0 ((g.vals.length:Int) - 1)) && (grOk g && auOk a)) with
 | false =>
   have hc:cntOk g a x y=false:=by simpa [cntOk,Bool.and_assoc] using hbo2
   have hfin:R=((0,[]),0):=by rw [hR,srchL,if_neg];rw [srchOk,hc];simp
   obtain ⟨ac,nx,rfl,hac,hnx⟩:=hav
   obtain ⟨A3,c3,rfl,-,-,-⟩:=SlE.form hac
   obtain ⟨A4,n4,c4,rfl⟩:=hnx.shape
   have hb0:Below w.heap.size w (((w.alloc (.cells #[.slice A1 g.vals.length c1,.slice A2 g.edges.length c2] 27)).alloc (.cells #[.int .i64 a.start,.slice A3 a.accept.length c3,.slice A4 n4 c4] 31)).alloc (.cells #[.int .i64 0,.slice none 0 0] 39)):=(((Below.refl _ _).alloc (Nat.le_refl _) _).alloc (by simp) _).alloc (by simp;omega) _
   have hb1:=hb0.alloc hb0.size (.cells #[.int .i64 x,.int .i64 y] 3)
   have hst:SlE ((((w.alloc (.cells #[.slice A1 g.vals.length c1,.slice A2 g.edges.length c2] 27)).alloc (.cells #[.int .i64 a.start,.slice A3 a.accept.length c3,.slice A4 n4 c4] 31)).alloc (.cells #[.int .i64 0,.slice none 0 0] 39)).alloc (.cells #[.int .i64 x,.int .i64 y] 3)) cI 1 (.slice (some ⟨w.heap.size+1+1+1,0,none⟩) 2 2) [x,y]:=by
    have h:=lit_sl (((w.alloc (.cells #[.slice A1 g.vals.length c1,.slice A2 g.edges.length c2] 27)).alloc (.cells #[.int .i64 a.start,.slice A3 a.accept.length c3,.slice A4 n4 c4] 31)).alloc (.cells #[.int .i64 0,.slice none 0 0] 39)) 3 [x,y] (by unfold maxLen;simp)
    simpa using h
   have HBO:=Hd_ (bothOk_any _ _ _ g a [x,y] _ (hgv0.keep hb1) (hav0.keep hb1) hst)
   have HB1:=Hd_ hb1
   have hbR:=(Blk.new ((w.alloc (.cells #[.slice A1 g.vals.length c1,.slice A2 g.edges.length c2] 27)).alloc (.cells #[.int .i64 a.start,.slice A3 a.accept.length c3,.slice A4 n4 c4] 31)) 39 #[.int .i64 0,.slice none 0 0] (w.heap.size+1+1) (by simp)).alloc (.cells #[.int .i64 x,.int .i64 y] 3)
   have hbG:=(((Blk.new w 27 #[.slice A1 g.vals.length c1,.slice A2 g.edges.length c2] w.heap.size rfl).alloc (.cells #[.int .i64 a.start,.slice A3 a.accept.length c3,.slice A4 n4 c4] 31)).alloc (.cells #[.int .i64 0,.slice none 0 0] 39)).alloc (.cells #[.int .i64 x,.int .i64 y] 3)
   have hbA:=((Blk.new (w.alloc (.cells #[.slice A1 g.vals.length c1,.slice A2 g.edges.length c2] 27)) 31 #[.int .i64 a.start,.slice A3 a.accept.length c3,.slice A4 n4 c4] (w.heap.size+1) (by simp)).alloc (.cells #[.int .i64 0,.slice none 0 0] 39)).alloc (.cells #[.int .i64 x,.int .i64 y] 3)
   have HBR:=Hd_ hbR
   have HBG:=Hd_ hbG
   have HBA:=Hd_ hbA
   clear hb0 hb1 hst hbR hbG hbA
   rw [hbo2] at HBO
   have HF:=Hd_ hfin
   clear hgv hac hnx hgv0 hav0 hbo2 hc hfin hR
   go_enter Tryz.func26,Tryz.ntmps26
   go_wp2_with fail
   refine HBO.out.mono ?_
   rintro e w1 ⟨rfl,hb2⟩
   have bR:=HBR.out.keep hb2
   have z0:w1.cell? ⟨w.heap.size+1+1,0,none⟩=some (.int .i64 0):=bR.cell 0
   have z1:w1.cell? ⟨w.heap.size+1+1,1,none⟩=some (.slice none 0 0):=bR.cell 1
   have fz0:=bR.frozen 0
   have fz1:=bR.frozen 1
   have lz:=bR.lt
   have HBV:=Hd_ (below_trans HB1.out hb2)
   clear bR HBR HBG HBA
   go_wp2_with fail
   refine bodyPost_ret (v:=.tuple #[.agg #[.int .i64 0,.slice none 0 0],.int .i64 0]) (by simp [results,Tryz.results26,go_sem,z0,z1]) rfl ⟨_,by rw [HF.out],?_,(HBV.out.setCell (p:=⟨w.heap.size+1+1,0,none⟩) (by simp only;omega) _).setCell (p:=⟨w.heap.size+1+1,1,none⟩) (by simp only;omega) _⟩
   rw [HF.out]
   exact ⟨_,rfl,Own.nil _ _ _ _ _ _⟩
 | true =>
   simp only [List.all_cons,List.all_nil,Bool.and_true] at hbo2
   have hbo3:=hbo2
   simp only [Bool.and_eq_true] at hbo3
   obtain ⟨⟨hx,hy⟩,hgo,hao⟩:=hbo3
   have hck:cntOk g a x y=true:=by rw [cntOk,hx,hy,hgo,hao];rfl
   obtain ⟨A3,c3,A4,c4,rfl,-,-,-,-,-⟩:=hav.form hao
   cases hwB:wi BI 1 20000 with
   | false =>
     have hfin:R=((0,[]),0):=by rw [hR,srchL,if_neg];rw [srchOk,hwB];simp
     have hb0:Below w.heap.size w (((w.alloc (.cells #[.slice A1 g.vals.length c1,.slice A2 g.edges.length c2] 27)).alloc (.cells #[.int .i64 a.start,.slice A3 a.accept.length c3,.slice A4 a.accept.length c4] 31)).alloc (.cells #[.int .i64 0,.slice none 0 0] 39)):=(((Below.refl _ _).alloc (Nat.le_refl _) _).alloc (by simp) _).alloc (by simp;omega) _
     have hb1:=hb0.alloc hb0.size (.cells #[.int .i64 x,.int .i64 y] 3)
     have hst:SlE ((((w.alloc (.cells #[.slice A1 g.vals.length c1,.slice A2 g.edges.length c2] 27)).alloc (.cells #[.int .i64 a.start,.slice A3 a.accept.length c3,.slice A4 a.accept.length c4] 31)).alloc (.cells #[.int .i64 0,.slice none 0 0] 39)).alloc (.cells #[.int .i64 x,.int .i64 y] 3)) cI 1 (.slice (some ⟨w.heap.size+1+1+1,0,none⟩) 2 2) [x,y]:=by
      have h:=lit_sl (((w.alloc (.cells #[.slice A1 g.vals.length c1,.slice A2 g.edges.length c2] 27)).alloc (.cells #[.int .i64 a.start,.slice A3 a.accept.length c3,.slice A4 a.accept.length c4] 31)).alloc (.cells #[.int .i64 0,.slice none 0 0] 39)) 3 [x,y] (by unfold maxLen;simp)
      simpa using h
     have HBO:=Hd_ (bothOk_any _ _ _ g a [x,y] _ (hgv0.keep hb1) (hav0.keep hb1) hst)
     have HB1:=Hd_ hb1
     have hbR:=(Blk.new ((w.alloc (.cells #[.slice A1 g.vals.length c1,.slice A2 g.edges.length c2] 27)).alloc (.cells #[.int .i64 a.start,.slice A3 a.accept.length c3,.slice A4 a.accept.length c4] 31)) 39 #[.int .i64 0,.slice none 0 0] (w.heap.size+1+1) (by simp)).alloc (.cells #[.int .i64 x,.int .i64 y] 3)
     have hbG:=(((Blk.new w 27 #[.slice A1 g.vals.length c1,.slice A2 g.edges.length c2] w.heap.size rfl).alloc (.cells #[.int .i64 a.start,.slice A3 a.accept.length c3,.slice A4 a.accept.length c4] 31)).alloc (.cells #[.int .i64 0,.slice none 0 0] 39)).alloc (.cells #[.int .i64 x,.int .i64 y] 3)
     have hbA:=((Blk.new (w.alloc (.cells #[.slice A1 g.vals.length c1,.slice A2 g.edges.length c2] 27)) 31 #[.int .i64 a.start,.slice A3 a.accept.length c3,.slice A4 a.accept.length c4] (w.heap.size+1) (by simp)).alloc (.cells #[.int .i64 0,.slice none 0 0] 39)).alloc (.cells #[.int .i64 x,.int .i64 y] 3)
     have HBR:=Hd_ hbR
     have HBG:=Hd_ hbG
     have HBA:=Hd_ hbA
     clear hb0 hb1 hst hbR hbG hbA
     simp only [List.all_cons,List.all_nil,Bool.and_true] at HBO
     rw [hbo2] at HBO
     have HF:=Hd_ hfin
     have HW:=Hd_ (fun W=>within_any BI 1 20000 W)
     rw [hwB] at HW
     clear hgv hav hgv0 hav0 hbo2 hck hfin hR hx hy hgo hao hwB
     go_enter Tryz.func26,Tryz.ntmps26
     go_wp2_with fail
     refine HBO.out.mono ?_
     rintro e w1 ⟨rfl,hb2⟩
     go_wp2_with fail
     refine (HW.out _).mono ?_
     rintro e w9 ⟨rfl,hw9⟩
     rw [hw9]
     clear hw9
     have bR:=HBR.out.keep hb2
     have z0:w1.cell? ⟨w.heap.size+1+1,0,none⟩=some (.int .i64 0):=bR.cell 0
     have z1:w1.cell? ⟨w.heap.size+1+1,1,none⟩=some (.slice none 0 0):=bR.cell 1
     have fz0:=bR.frozen 0
     have fz1:=bR.frozen 1
     have lz:=bR.lt
     have HBV:=Hd_ (below_trans HB1.out hb2)
     clear bR HBR HBG HBA
     go_wp2_with fail
     refine bodyPost_ret (v:=.tuple #[.agg #[.int .i64 0,.slice none 0 0],.int .i64 0]) (by simp [results,Tryz.results26,go_sem,z0,z1]) rfl ⟨_,by rw [HF.out],?_,(HBV.out.setCell (p:=⟨w.heap.size+1+1,0,none⟩) (by simp only;omega) _).setCell (p:=⟨w.heap.size+1+1,1,none⟩) (by simp only;omega) _⟩
     rw [HF.out]
     exact ⟨_,rfl,Own.nil _ _ _ _ _ _⟩
   | true =>
     rw [wi_iff] at hx hy
     have hwB2:=wi_iff.1 hwB
     have hgo2:=grOk_iff.1 hgo
     obtain ⟨x,rfl⟩:=Int.eq_ofNat_of_zero_le hx.1
     obtain ⟨B,rfl⟩:=Int.eq_ofNat_of_zero_le (show 0<=BI by omega)
     have hxl:x < g.vals.length:=by omega
     have hn5:=hgo2.n5
     have he12:=hgo2.e12
     obtain ⟨⟨hm1',hm12⟩,⟨hst0,hst1⟩,-,-⟩:=auOk_iff.1 hao
     obtain ⟨s,hs⟩:∃ s:Nat,a.start=(s:Int):=⟨a.start.toNat,by omega⟩
     have hsl:s < a.accept.length:=by omega
     have hfin:R=srchF g a y B (distTo g a y) true x (bit s) (srchU true x) (srchN g true) 0 0:=by
      rw [hR,srchL,if_pos (by rw [srchOk,hck,hwB];rfl),hs];rfl
     have hb0:Below w.heap.size w (((w.alloc (.cells #[.slice A1 g.vals.length c1,.slice A2 g.edges.length c2] 27)).alloc (.cells #[.int .i64 a.start,.slice A3 a.accept.length c3,.slice A4 a.accept.length c4] 31)).alloc (.cells #[.int .i64 0,.slice none 0 0] 39)):=(((Below.refl _ _).alloc (Nat.le_refl _) _).alloc (by simp) _).alloc (by simp;omega) _
     have hb1:=hb0.alloc hb0.size (.cells #[.int .i64 (x:Int),.int .i64 y] 3)
     have hst:SlE ((((w.alloc (.cells #[.slice A1 g.vals.length c1,.slice A2 g.edges.length c2] 27)).alloc (.cells #[.int .i64 a.start,.slice A3 a.accept.length c3,.slice A4 a.accept.length c4] 31)).alloc (.cells #[.int .i64 0,.slice none 0 0] 39)).alloc (.cells #[.int .i64 (x:Int),.int .i64 y] 3)) cI 1 (.slice (some ⟨w.heap.size+1+1+1,0,none⟩) 2 2) [(x:Int),y]:=by
      have h:=lit_sl (((w.alloc (.cells #[.slice A1 g.vals.length c1,.slice A2 g.edges.length c2] 27)).alloc (.cells #[.int .i64 a.start,.slice A3 a.accept.length c3,.slice A4 a.accept.length c4] 31)).alloc (.cells #[.int .i64 0,.slice none 0 0] 39)) 3 [(x:Int),y] (by unfold maxLen;simp)
      simpa using h
     have HBO:=Hd_ (bothOk_any _ _ _ g a [(x:Int),y] _ (hgv0.keep hb1) (hav0.keep hb1) hst)
     have HB1:=Hd_ hb1
     have hbR:=(Blk.new ((w.alloc (.cells #[.slice A1 g.vals.length c1,.slice A2 g.edges.length c2] 27)).alloc (.cells #[.int .i64 a.start,.slice A3 a.accept.length c3,.slice A4 a.accept.length c4] 31)) 39 #[.int .i64 0,.slice none 0 0] (w.heap.size+1+1) (by simp)).alloc (.cells #[.int .i64 (x:Int),.int .i64 y] 3)
     have hbG:=(((Blk.new w 27 #[.slice A1 g.vals.length c1,.slice A2 g.edges.length c2] w.heap.size rfl).alloc (.cells #[.int .i64 a.start,.slice A3 a.accept.length c3,.slice A4 a.accept.length c4] 31)).alloc (.cells #[.int .i64 0,.slice none 0 0] 39)).alloc (.cells #[.int .i64 (x:Int),.int .i64 y] 3)
     have hbA:=((Blk.new (w.alloc (.cells #[.slice A1 g.vals.length c1,.slice A2 g.edges.length c2] 27)) 31 #[.int .i64 a.start,.slice A3 a.accept.length c3,.slice A4 a.accept.length c4] (w.heap.size+1) (by simp)).alloc (.cells #[.int .i64 0,.slice none 0 0] 39)).alloc (.cells #[.int .i64 (x:Int),.int .i64 y] 3)
     have HBR:=Hd_ hbR
     have HBG:=Hd_ hbG
     have HBA:=Hd_ hbA
     clear hb0 hb1 hst hbR hbG hbA
     simp only [List.all_cons,List.all_nil,Bool.and_true] at HBO
     rw [hbo2] at HBO
     have HW:=Hd_ (fun W=>within_any (B:Int) 1 20000 W)
     rw [hwB] at HW
     have HF:=Hd_ hfin
     have HGV:=Hd_ hgv0
     have HAV:=Hd_ hav0
     have HGO:=Hd_ hgo
     have HAO:=Hd_ hao
     have HDL:=Hd_ (distTo_len (g:=g) (a:=a) (y:=y) (by rw [wi_iff.2 hy,hgo,hao];rfl))
     have hbs:=bit_lt hsl
     have HBS:=Hd_ hbs
     have e1:=Hd_ (shl_bit (s:=s) (by omega))
     have e2:=Hd_ (shl_bit2 (s:=s) (by omega))
     have e3:=Hd_ (shl_bit3 (s:=s) (by omega))
     have hB1:1<=B:=by omega
     have hB2:B<=20000:=by omega
     have HST:=Hd_ hs
     clear hgv hav hgv0 hav0 hbo2 hck hfin hR hx hy hgo hao hwB hgo2 hst0 hst1 hbs hwB2 hs
     go_enter Tryz.func26,Tryz.ntmps26
     go_wp2_with fail
     refine HBO.out.mono ?_
     rintro e w1 ⟨rfl,hb2⟩
     have hb3:=below_trans HB1.out hb2
     have bR:=HBR.out.keep hb2
     have bG:=HBG.out.keep hb2
     have bA:=HBA.out.keep hb2
     have x0:w1.cell? ⟨w.heap.size,0,none⟩=some (.slice A1 g.vals.length c1):=by exact bG.cell 0
     have x1:w1.cell? ⟨w.heap.size,1,none⟩=some (.slice A2 g.edges.length c2):=by exact bG.cell 1
     have y0:w1.cell? ⟨w.heap.size+1,0,none⟩=some (.int .i64 a.start):=by exact bA.cell 0
     have y1:w1.cell? ⟨w.heap.size+1,1,none⟩=some (.slice A3 a.accept.length c3):=by exact bA.cell 1
     have y2:w1.cell? ⟨w.heap.size+1,2,none⟩=some (.slice A4 a.accept.length c4):=by exact bA.cell 2
     have HBR1:=Hd_ bR
     have HBW:=Hd_ hb3
     have lR:=bR.lt
     clear bG bA bR hb2 HBO HB1 HBR HBG HBA hb3
     go_wp2_with fail
     refine (HW.out _).mono ?_
     rintro e w9 ⟨rfl,hw9⟩
     rw [hw9]
     clear hw9 HW
     go_wp2_with fail
     have hb3:=HBW.out
     refine F_start 12 (fun w'=>w'.cell? ⟨w.heap.size,0,none⟩=some (.slice A1 g.vals.length c1)/\w'.cell? ⟨w.heap.size,1,none⟩=some (.slice A2 g.edges.length c2)/\w'.cell? ⟨w.heap.size+1,0,none⟩=some (.int .i64 a.start)/\w'.cell? ⟨w.heap.size+1,1,none⟩=some (.slice A3 a.accept.length c3)/\w'.cell? ⟨w.heap.size+1,2,none⟩=some (.slice A4 a.accept.length c4)) (by kernel_rfl) (by exact ⟨x0,x1,y0,y1,y2⟩) (fun hS inv=>?_)
     refine F_tk 0 inv ?_
     try simp only [tA,tB,tC,Act.put,tE,tF,tG]
     clear inv;intro inv
     refine F_tk 1 inv ?_
     try simp only [tA,tB,tC,Act.put,tE,tF,tG]
     clear inv;intro inv
     refine F_tk 2 inv ?_
     try simp only [tA,tB,tC,Act.put,tE,tF,tG]
     clear inv;intro inv
     refine F_tk 3 inv ?_
     try simp only [tA,tB,tC,Act.put,tE,tF,tG]
     clear inv;intro inv
     refine F_tk 5 inv ?_
     try simp only [tA,tB,tC,Act.put,tE,tF,tG]
     clear inv;intro inv
     refine F_tk 6 inv ?_
     try simp only [tA,tB,tC,Act.put,tE,tF,tG]
     clear inv;intro inv
     refine F_tk 7 inv ?_
     try simp only [tA,tB,tC,Act.put,tE,tF,tG]
     clear inv;intro inv
     refine F_tk 9 inv ?_
     try simp only [tA,tB,tC,Act.put,tE,tF,tG]
     clear inv;intro inv
     refine F_o1 4 inv ?_;intro K hK
     try simp only [tA,tB,tC]
     go_simp
     refine (arcs_any _ g _ (GrV.keep (w':=w1.drew) HGV.out hb3.drew) (grOk_iff.1 HGO.out)).mono ?_
     rintro e wA ⟨vA,rfl,hsA,hbA⟩
     refine hK.out _ _ (kB5 hbA hS) (fun _ _=>?_)
     try simp only [tA,tB,tC,Act.put,tE,tF,tG]
     clear hK K inv hS;rename_i hS inv
     refine F_o1 8 inv ?_;intro K hK
     try simp only [tA,tB,tC]
     go_simp
     have hbz:=below_trans hb3.drew hbA
     refine (implDistancesTo _ _ g a y _ (HGV.out.keep hbz) (HAV.out.keep hbz)).mono ?_
     rintro e wF ⟨vD,rfl,hoD,hbD⟩
     refine hK.out _ _ (kB5 hbD hS) (fun _ _=>?_)
     try simp only [tA,tB,tC,Act.put,tE,tF,tG]
     clear hK K inv hS;rename_i hS inv
     have HSA:=Hd_ (SSE.keep (hsA.mono (Nat.zero_le _) (Nat.le_refl _)) hbD)
     have HOD:=Hd_ ((hoD.sl cI_len).all (Nat.le_refl _))
     have HBF:=Hd_ (below_trans hbz hbD)
     have HBR2:=Hd_ (((HBR1.out.drew).keep hbA).keep hbD)
     clear hsA hbA hoD hbD hbz
     have HS5:=Hd_ hS
     obtain ⟨A5,c5,hv5,hl5,hm5⟩:=HSA.out.shape
     have hlen5:((List.range g.vals.length).map fun (x:Nat)=>arcsOf g (x:Int)).length=g.vals.length:=by simp
     rw [hlen5] at hv5 hl5
     subst hv5
     obtain ⟨A6,c6,hv6,hl6,hm6,-⟩:=SlE.form HOD.out
     subst hv6
     refine F_tk 10 inv ?_
     try simp only [tA,tB,tC,Act.put,tE,tF,tG]
     clear inv;intro inv
     refine F_o1 11 inv ?_;intro K hK
     try simp only [tA,tB,tC]
     go_simp
     have hbk:Blk (wF.alloc (.cells #[.slice A1 g.vals.length c1,.slice A2 g.edges.length c2,.int .i64 a.start,.slice A3 a.accept.length c3,.slice A4 a.accept.length c4,.int .i64 y,.slice A5 g.vals.length c5,.slice A6 (distTo g a y).length c6,.int .i64 (B:Int),.int .i64 (((0:Nat)):Int)] 102)) wF.heap.size 102 #[.slice A1 g.vals.length c1,.slice A2 g.edges.length c2,.int .i64 a.start,.slice A3 a.accept.length c3,.slice A4 a.accept.length c4,.int .i64 y,.slice A5 g.vals.length c5,.slice A6 (distTo g a y).length c6,.int .i64 (B:Int),.int .i64 (((0:Nat)):Int)]:=Blk.new _ _ _ _ rfl
     refine hK.out _ _ (kA5 _ hS) (fun _ _=>?_)
     try simp only [tA,tB,tC,Act.put,tE,tF,tG]
     clear hK K inv hS;rename_i hS inv
     refine F_l1 12 ?_;intro K hK
     go_simp
     refine hK _ _ ?_
     clear hK K inv hS
     have hbn:=(Below.refl wF.heap.size wF).alloc (Nat.le_refl _) (.cells #[.slice A1 g.vals.length c1,.slice A2 g.edges.length c2,.int .i64 a.start,.slice A3 a.accept.length c3,.slice A4 a.accept.length c4,.int .i64 y,.slice A5 g.vals.length c5,.slice A6 (distTo g a y).length c6,.int .i64 (B:Int),.int .i64 (((0:Nat)):Int)] 102)
     have hsn:wF.heap.size < (wF.alloc (.cells #[.slice A1 g.vals.length c1,.slice A2 g.edges.length c2,.int .i64 a.start,.slice A3 a.accept.length c3,.slice A4 a.accept.length c4,.int .i64 y,.slice A5 g.vals.length c5,.slice A6 (distTo g a y).length c6,.int .i64 (B:Int),.int .i64 (((0:Nat)):Int)] 102)).heap.size:=by simp
     have hzero:((0:Nat):Int)=0:=rfl
     rw [hzero] at hbk hbn hsn
     obtain ⟨bT,hbT⟩:∃ bT,bT=wF.heap.size:=⟨_,rfl⟩
     obtain ⟨W1,hW1⟩:∃ W1,W1=wF.alloc (.cells #[.slice A1 g.vals.length c1,.slice A2 g.edges.length c2,.int .i64 a.start,.slice A3 a.accept.length c3,.slice A4 a.accept.length c4,.int .i64 y,.slice A5 g.vals.length c5,.slice A6 (distTo g a y).length c6,.int .i64 (B:Int),.int .i64 (0:Int)] 102):=⟨_,rfl⟩
     rw [<- hW1] at hbk hbn hsn
     rw [<- hbT] at hbk hsn
     have HNAME:=Hd_ (And.intro hW1 hbT)
     have hsF:=HBF.out.size
     have HHV:=Hd_ (visit_hyp (v:=.slice A5 g.vals.length c5) (dv:=.slice A6 (distTo g a y).length c6) hbT hbn HBF.out HGV.out HAV.out HSA.out HOD.out)
     have HPR:=Hd_ (fun x s lf c w=>promising_any g a y B (distTo g a y) HGO.out HAO.out bT W1 A1 A2 A3 A4 A5 A6 c1 c2 c3 c4 c5 c6 HHV.out.1 HHV.out.2.1 HHV.out.2.2.1 HHV.out.2.2.2 HDL.out hB2 hsn x s lf c w)
     have HVI:=Hd_ (simpleVisit_any g a y B (distTo g a y) HGO.out HAO.out bT W1 A1 A2 A3 A4 A5 A6 c1 c2 c3 c4 c5 c6 HHV.out.1 HHV.out.2.1 HHV.out.2.2.1 HHV.out.2.2.2 HDL.out hB2 hsn)
     have HBK:=Hd_ (show Blk W1 bT 102 #[.slice A1 g.vals.length c1,.slice A2 g.edges.length c2,.int .i64 a.start,.slice A3 a.accept.length c3,.slice A4 a.accept.length c4,.int .i64 y,.slice A5 g.vals.length c5,.slice A6 (distTo g a y).length c6,.int .i64 (B:Int),.int .i64 (((0:Nat)):Int)] from hbk)
     have HBR3:=Hd_ (HBR2.out.keep hbn)
     obtain ⟨x0,x1,y0,y1,y2⟩:=HS5.out
     have x0:=kcell hbn x0
     have x1:=kcell hbn x1
     have y0:=kcell hbn y0
     have y1:=kcell hbn y1
     have y2:=kcell hbn y2
     have hwT:w.heap.size+1+1 < bT:=by have:=HBR2.out.lt;omega
     have HB1:=Hd_ (below_trans HBF.out hbn)
     go_wp2_with fail
     rw [<- HNAME.out.1]
     try rw [<- HNAME.out.2]
     have x0:=x0
     have HSRF:=Hd_ HF.out.symm
     clear hW1 hbk hbn HSA HOD HBF HBR1 HBR2 HNAME HHV HF HS5 hbT
     have lW0:w.heap.size < W1.heap.size:=by omega
     have lW1:w.heap.size+1 < W1.heap.size:=by omega
     go_loopw [13] (fun ii wr=>∃ lf c k:Nat,lf+k=g.vals.length/\c<=B/\ii=.int .i64 (lf:Int)/\srchF g a y B (distTo g a y) true x (bit s) [(x:Int)] k lf c=R/\Only bT (bT+1) W1 wr/\Blk wr bT 102 #[.slice A1 g.vals.length c1,.slice A2 g.edges.length c2,.int .i64 a.start,.slice A3 a.accept.length c3,.slice A4 a.accept.length c4,.int .i64 y,.slice A5 g.vals.length c5,.slice A6 (distTo g a y).length c6,.int .i64 (B:Int),.int .i64 (c:Int)]) (fun ii _=>g.vals.length - (intOf ii).toNat)
     case atStart=>exact ⟨0,0,g.vals.length,by omega,by omega,rfl,HSRF.out,Only.refl _ _ _,HBK.out⟩
     case round =>
      clear HSRF HBK
      obtain ⟨lf,c,k,hlk,hcB,rfl,hR,hon,hbk⟩:=hrel
      have HR:=Hd_ hR
      have HON:=Hd_ hon
      have HBK:=Hd_ hbk
      have hsz:=hon.size
      have x0:=ocell hon x0 lW0 (.inl (by omega))
      have x1:=ocell hon x1 lW0 (.inl (by omega))
      have y0:=ocell hon y0 lW1 (.inl (by omega))
      have lr0:w.heap.size < wr.heap.size:=by omega
      have lr1:w.heap.size+1 < wr.heap.size:=by omega
      clear hR hon hbk
      by_cases hlt:lf < g.vals.length
      · have hle:(lf:Int) < (g.vals.length:Int):=by omega
        obtain ⟨k,rfl⟩:∃ k',k=k'+1:=⟨k - 1,by omega⟩
        have HPX:=Hd_ (HPR.out x (bit s) lf c wr HON.out HBK.out hxl HBS.out (by omega))
        have s1:=e1.out
        have s2:=e2.out
        have s3:=e3.out
        rw [HST.out] at y0
        cases hhp:hope (distTo g a y) a.accept.length x (bit s) lf with
        | false =>
          rw [hhp] at HPX
          have HE:=Hd_ ((srchF_no hhp).symm.trans HR.out)
          clear HR hhp
          go_wp2_with fail
          refine HPX.out.mono ?_
          rintro e w5 ⟨rfl,hb5⟩
          have HO5:=Hd_ (HON.out.trans (Only.of_below hb5 bT (bT+1)))
          have HBK5:=Hd_ (HBK.out.keep hb5)
          clear hb5
          go_wp2_with fail
          go_roundw
          case rel=>exact ⟨lf+1,c,k,by omega,hcB,by go_num,HE.out,HO5.out,HBK5.out⟩
          case measure=>simp [intOf];omega
        | true =>
          rw [hhp] at HPX
          have hvl:=visit_le (g:=g) (a:=a) (y:=y) (B:=B) (D:=distTo g a y) (sm:=true) lf x (bit s) [(x:Int)] c hcB
          have hvn:=visit_len (g:=g) (a:=a) (y:=y) (B:=B) (D:=distTo g a y) (sm:=true) lf x (bit s) [(x:Int)] c
          have HVX:=Hd_ (fun (uv:Value) (W:World) h1 h2 h3=>HVI.out lf x (bit s) [(x:Int)] c uv W h1 h2 h3 hxl HBS.out hcB (by simp;omega))
          have HY:=Hd_ (fun r c' h=>(srchF_yes (k:=k) (r:=r) (c':=c') hhp h).symm.trans HR.out)
          have HO:=Hd_ (fun c' h h2=>(srchF_out (k:=k) (c':=c') hhp h h2).symm.trans HR.out)
          have HN:=Hd_ (fun c' h h2=>(srchF_on (k:=k) (c':=c') hhp h h2).symm.trans HR.out)
          generalize visit g a y B (distTo g a y) true lf x (bit s) [(x:Int)] c=V at *
          obtain ⟨o,c2⟩:=V
          simp only at hvl hvn
          clear HR hhp
          go_wp2_with fail
          refine HPX.out.mono ?_
          rintro e wP ⟨rfl,hbP⟩
          have HONP:=Hd_ (HON.out.trans (Only.of_below hbP bT (bT+1)))
          have HBKP:=Hd_ (HBK.out.keep hbP)
          have hsP:=hbP.size
          have x0:=kcell hbP x0
          have x1:=kcell hbP x1
          have y0:=kcell hbP y0
          have lp0:w.heap.size < wP.heap.size:=by omega
          have lp1:w.heap.size+1 < wP.heap.size:=by omega
          clear hbP HPX
          have hu:=(lit_sl wP 3 [(x:Int)] (by unfold maxLen;simp))
          have hu1:SlI (bT+1) (wP.alloc (.cells #[.int .i64 (x:Int)] 3)).heap.size (wP.alloc (.cells #[.int .i64 (x:Int)] 3)) cI 1 (.slice (some ⟨wP.heap.size,0,none⟩) 1 1) [(x:Int)]:=by
           have h:=Own.of_row (xs:=[(x:Int)]) (E:=cI) (World.ownsRow_lit (base:=wP.heap.size) (e:=3) (size:=1) wP #[.int .i64 (x:Int)] 1 (Nat.le_refl _) (by decide) rfl) rfl rfl
           exact (h.sl cI_len).mono (show bT+1<=wP.heap.size by omega) (Nat.le_refl _)
          have hsq:wP.heap.size < (wP.alloc (.cells #[.int .i64 (x:Int)] 3)).heap.size:=by simp
          have hon2:=HONP.out.alloc (.cells #[.int .i64 (x:Int)] 3)
          have hbk2:=HBKP.out.alloc (.cells #[.int .i64 (x:Int)] 3)
          have HVC:=Hd_ (HVX.out _ _ hon2 hbk2 hu1)
          have HON2:=Hd_ hon2
          clear hon2 hbk2 hu1
          go_wp2_with fail
          refine HVC.out.mono ?_
          rintro e wV ⟨vV,rfl,hoV,hbkV,honV⟩
          have honT:=HON2.out.trans honV
          have hszV:=honT.size
          have HONT:=Hd_ honT
          have HOV:=Hd_ hoV
          have HBKV:=Hd_ hbkV
          have lTV:=hbkV.lt
          have q9:wV.cell? ⟨bT,9,none⟩=some (.int .i64 (c2:Int)):=hbkV.cell 9
          have hbR:Blk wV (w.heap.size+1+1) 39 #[.int .i64 0,.slice none 0 0]:=HBR3.out.only honT (.inl hwT)
          have z0:wV.cell? ⟨w.heap.size+1+1,0,none⟩=some (.int .i64 0):=hbR.cell 0
          have z1:wV.cell? ⟨w.heap.size+1+1,1,none⟩=some (.slice none 0 0):=hbR.cell 1
          have fz0:=hbR.frozen 0
          have fz1:=hbR.frozen 1
          have lz:=hbR.lt
          have HBV:=Hd_ (HB1.out.trans (honT.below (B:=w.heap.size) (by omega) HB1.out.size))
          obtain ⟨A9,n9,c9,rfl⟩:=hoV.shape
          clear honT hoV hbkV honV hbR
          cases o with
          | some r =>
            have HE:=Hd_ (HY.out r c2 rfl)
            clear HY HO HN
            go_wp2_with fail
            have hon3:=((Only.refl (w.heap.size+1+1) (w.heap.size+1+1+1) wV).setCell (p:=⟨w.heap.size+1+1,0,none⟩) (.inl ⟨Nat.le_refl _,Nat.lt_succ_self _⟩) (.int .i64 (x:Int))).setCell (p:=⟨w.heap.size+1+1,1,none⟩) (.inl ⟨Nat.le_refl _,Nat.lt_succ_self _⟩) (.slice A9 n9 c9)
            refine bodyPost_ret (v:=.tuple #[.agg #[.int .i64 (x:Int),.slice A9 n9 c9],.int .i64 1]) (by simp [results,Tryz.results26,go_sem,z0,z1]) rfl ⟨_,by rw [<- HE.out],?_,HBV.out.trans (hon3.below (by omega) (by omega))⟩
            rw [<- HE.out]
            exact ⟨_,rfl,(HOV.out.only hon3 (.inr (by omega))).mono (by omega) (by simp [World.setCell])⟩
          | none =>
            by_cases hcc:B<=c2
            · have HE:=Hd_ (HO.out c2 rfl hcc)
              have hcb:decide ((c2:Int) >= (B:Int))=true:=by simp;omega
              clear HY HO HN
              go_wp2_with fail
              refine bodyPost_ret (v:=.tuple #[.agg #[.int .i64 0,.slice none 0 0],.int .i64 3]) (by simp [results,Tryz.results26,go_sem,z0,z1]) rfl ⟨_,by rw [<- HE.out],?_,(HBV.out.setCell (p:=⟨w.heap.size+1+1,0,none⟩) (by simp only;omega) _).setCell (p:=⟨w.heap.size+1+1,1,none⟩) (by simp only;omega) _⟩
              rw [<- HE.out]
              exact ⟨_,rfl,Own.nil _ _ _ _ _ _⟩
            · have HE:=Hd_ (HN.out c2 rfl hcc)
              have hcb:decide ((c2:Int) >= (B:Int))=false:=by simp;omega
              clear HY HO HN
              go_wp2_with fail
              go_roundw
              case rel=>exact ⟨lf+1,c2,k,by omega,hvl.1,by go_num,HE.out,HONT.out,HBKV.out⟩
              case measure=>simp [intOf];omega
      · obtain rfl:k=0:=by omega
        have HE:=Hd_ ((show srchF g a y B (distTo g a y) true x (bit s) [(x:Int)] 0 lf c=((0,[]),2) from rfl).symm.trans HR.out)
        have hbR:Blk wr (w.heap.size+1+1) 39 #[.int .i64 0,.slice none 0 0]:=HBR3.out.only HON.out (.inl hwT)
        have z0:wr.cell? ⟨w.heap.size+1+1,0,none⟩=some (.int .i64 0):=hbR.cell 0
        have z1:wr.cell? ⟨w.heap.size+1+1,1,none⟩=some (.slice none 0 0):=hbR.cell 1
        have fz0:=hbR.frozen 0
        have fz1:=hbR.frozen 1
        have lz:=hbR.lt
        have HBV:=Hd_ (HB1.out.trans (HON.out.below (B:=w.heap.size) (by omega) HB1.out.size))
        clear HR hbR
        go_wp2_with fail
        refine bodyPost_ret (v:=.tuple #[.agg #[.int .i64 0,.slice none 0 0],.int .i64 2]) (by simp [results,Tryz.results26,go_sem,z0,z1]) rfl ⟨_,by rw [<- HE.out],?_,(HBV.out.setCell (p:=⟨w.heap.size+1+1,0,none⟩) (by simp only;omega) _).setCell (p:=⟨w.heap.size+1+1,1,none⟩) (by simp only;omega) _⟩
        rw [<- HE.out]
        exact ⟨_,rfl,Own.nil _ _ _ _ _ _⟩
end Go.Proofs.YtjpdembmchnbgaaGreat
namespace Go.Proofs.YtjpdembmchnbgaaGreat
open Go.ChangeShapes Go.WideShapes Go.ChangeAt Go.RowKit
structure Srw (bS:Nat) (r:Option Nat) (w w':World):Prop where
 os:w'.os=w.os
 tape:w'.tape=w.tape
 output:w'.output=w.output
 size:w.heap.size<=w'.heap.size
 block:∀ n,n < w.heap.size->n ≠ bS->r ≠ some n->w'.heap[n]?=w.heap[n]?
section
variable {bS:Nat} {r r1:Option Nat} {w w1 w2 w':World}
theorem Srw.refl (bS:Nat) (r:Option Nat) (w:World):Srw bS r w w:=⟨rfl,rfl,rfl,Nat.le_refl _,fun _ _ _ _=>rfl⟩
theorem Srw.trans (h:Srw bS r w w1) (h2:Srw bS r1 w1 w2) (hr:∀ n,r1=some n->r=some n ∨ w.heap.size<=n):Srw bS r w w2 :=
 ⟨h2.os.trans h.os,h2.tape.trans h.tape,h2.output.trans h.output,Nat.le_trans h.size h2.size,fun n hn h3 h4 =>
  (h2.block n (Nat.lt_of_lt_of_le hn h.size) h3 (fun e=>by rcases hr n e with h5 | h5;exact h4 h5;omega)).trans (h.block n hn h3 h4)⟩
theorem Srw.of_below {B:Nat} (h:Below B w w') (hB:w.heap.size<=B) (bS:Nat) (r:Option Nat):Srw bS r w w':=⟨h.os,h.tape,h.output,h.size,fun n hn _ _=>h.block n (by omega)⟩
theorem Srw.set (bS:Nat) (r:Option Nat) (w:World) (i:Nat) (u:Value):Srw bS r w (w.setCell ⟨bS,i,none⟩ u) :=
 ⟨rfl,rfl,rfl,by simp [World.setCell],fun n _ h3 _=>Below.heap_setCell w ⟨bS,i,none⟩ u n h3⟩
theorem Srw.of_grown (h:w.grownBy w' r1) (hr:∀ n,r1=some n->r=some n ∨ w.heap.size<=n) (bS:Nat):Srw bS r w w' :=
 ⟨h.os,h.tape,h.output,h.size,fun n hn _ h4=>h.block n hn (fun e=>by rcases hr n e.symm with h5 | h5;exact h4 h5;omega)⟩
theorem Srw.below (h:Srw bS r w w') {B:Nat} (h1:B<=bS) (h2:∀ n,r=some n->B<=n) (h3:B<=w.heap.size):Below B w w' :=
 ⟨h.os,h.tape,h.output,h.size,fun n hn=>h.block n (by omega) (by omega) (fun e=>by have:=h2 n e;omega)⟩
theorem Srw.sl {α:Type} {E:α->List Value} {lo hi k:Nat} {v:Value} {xs:List α} (h:SlI lo hi w E k v xs) (hs:Srw bS r w w') (hh:hi<=w.heap.size) (h1:bS < lo ∨ hi<=bS) (h2:∀ n,r=some n->n < lo ∨ hi<=n):SlI lo hi w' E k v xs :=
 h.keep_ fun b o h3 h4=>World.cell?_of_block (hs.block b (by omega) (by omega) (fun e=>by have:=h2 b e;omega))
theorem Srw.only {W0:World} (h:Srw bS r w w') (h1:∀ n,r=some n->W0.heap.size<=n):Only bS (bS+1) W0 w->Only bS (bS+1) W0 w':=fun h0 =>
 ⟨h.os.trans h0.os,h.tape.trans h0.tape,h.output.trans h0.output,Nat.le_trans h0.size h.size,fun n hn ho=>(h.block n (Nat.lt_of_lt_of_le hn h0.size) (by omega) (fun e=>by have:=h1 n e;omega)).trans (h0.block n hn ho)⟩
theorem Srw.cell {b o:Nat} {v:Value} (hs:Srw bS r w w') (hc:w.cell? ⟨b,o,none⟩=some v) (hb:b < w.heap.size) (h1:b ≠ bS) (h2:r ≠ some b):w'.cell? ⟨b,o,none⟩=some v :=
 (World.cell?_of_block (a:=⟨b,o,none⟩) (hs.block b hb h1 h2)).trans hc
theorem SlI.stI {lo hi:Nat} {w:World} {A:Option Addr} {n c:Nat} {xs:List St} (h:SlI lo hi w cSt 2 (.slice A n c) xs) {i:Nat} {x:St} (hx:xs[i]?=some x) :
 ∃ b o,A=some ⟨b,o,none⟩/\(lo<=b/\b < hi)/\w.cell? ⟨b,o+i * 2,none⟩=some (.int .i64 x.1)/\w.cell? ⟨b,o+i * 2+1,none⟩=some (.bool x.2):=by
 obtain ⟨A',c',hv,_,_,h3⟩:=h
 injection hv with h1 _ _
 subst h1
 obtain ⟨b,o,e,g1,g2,hc⟩:=h3 i x hx
 exact ⟨b,o,e,⟨g1,g2⟩,by simpa using hc 0 _ rfl,hc 1 _ rfl⟩
end
end Go.Proofs.YtjpdembmchnbgaaGreat
namespace Go.Proofs.YtjpdembmchnbgaaGreat
end Go.Proofs.YtjpdembmchnbgaaGreat
