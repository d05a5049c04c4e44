/- Parts of the proof, joined into one text: ExpE, PosL, PosB. -/
import Derived.Test.YteaplabkemoenaaGreatOnlzENJGEJFE
import Derived.Test.YteaplabkemoenaaGreatOnlzAIFFPHMF
import Derived.RegionTactic
import Derived.BigRegion
set_option linter.unusedVariables false
set_option linter.unusedSimpArgs false
namespace Go.Proofs.YteaplabkemoenaaGreat
open Go.ChangeShapes Go.WideShapes Go.ChangeAt Go.RowKit
attribute [local go_sem] ext_cell ext_frozen ext_lt ext_lt1 ext_lt2 ext_lt3 ltn2 ltn3 ltn13 lts1 lts2 lts3
theorem tko_done {w0 w:World} {r:Nat} {ss:Value} {l:List Tok} {lo:Nat} (h:Own lo w.heap.size w 147 cEd 4 ss l) (hb:Below w0.heap.size w0 w) (hr:w0.heap.size<=r) (hlo:r < lo) (u:Value) :
 TkO w0.heap.size (w.setCell ⟨r,0,none⟩ u).heap.size (w.setCell ⟨r,0,none⟩ u) (.agg #[ss]) l/\Below w0.heap.size w0 (w.setCell ⟨r,0,none⟩ u):=by
 have ho:=(Only.refl r (r+1) w).setCell (p:=⟨r,0,none⟩) (.inl ⟨Nat.le_refl _,Nat.lt_succ_self _⟩) u
 exact ⟨⟨ss,rfl,(h.only ho (.inr (by omega))).mono (by omega) ho.size⟩,hb.setCell (p:=⟨r,0,none⟩) hr _⟩
set_option maxRecDepth 100000 in
set_option maxHeartbeats 8000000 in
theorem l10Expand_any:∀ (r:Tr) (ss:Value) (w:World),r.ok->SlE w cEd 4 ss (post r)->(post r).length<=1048576->sizeT r<=5000 ->
 Calls Tryz.prog 107 #[ss] w fun e w'=>∃ v,e=.returned v/\TkO w.heap.size w'.heap.size w' v (post (expT r))/\Below w.heap.size w w'
 | .leaf t,ss,w,hr,hsl,hlen,hsz=>by
   obtain ⟨t0,t1,t2,t3⟩:=t
   have hk:=ar_leaf hr
   simp only at hk
   rw [expT,post]
   rw [post] at hsl
   obtain ⟨A,c,rfl,hl,hm,hx⟩:=hsl
   unfold maxLen at hm
   obtain ⟨q,o,rfl,-,hq,hcc⟩:=hx 0 (t0,t1,t2,t3) rfl
   have e0:=hcc 0 _ rfl
   have e1:=hcc 1 _ rfl
   have e2:=hcc 2 _ rfl
   have e3:=hcc 3 _ rfl
   simp only [Nat.add_zero,Nat.zero_mul,Nat.add_zero] at e0 e1 e2 e3
   clear hx hcc hlen hr hsz
   have hb0:=((Below.refl w.heap.size w).alloc (Nat.le_refl _) (.cells #[.slice none 0 0] 134)).alloc (by simp) (.cells #[.int .i64 t0,.int .i64 t1,.int .i64 t2,.int .i64 t3] 147)
   have hbr:=(Blk.new w 134 #[.slice none 0 0] _ rfl).alloc (.cells #[.int .i64 t0,.int .i64 t1,.int .i64 t2,.int .i64 t3] 147)
   have hbt:=Blk.new (w.alloc (.cells #[.slice none 0 0] 134)) 147 #[.int .i64 t0,.int .i64 t1,.int .i64 t2,.int .i64 t3] (w.heap.size+1) (by simp)
   have hs0:((w.alloc (.cells #[.slice none 0 0] 134)).alloc (.cells #[.int .i64 t0,.int .i64 t1,.int .i64 t2,.int .i64 t3] 147)).heap.size=w.heap.size+2:=by simp
   rcases hk with rfl | rfl | rfl
   · skip
     go_enter Tryz.func107,Tryz.ntmps107
     go_upto_region 3 with fail
     generalize ((w.alloc (.cells #[.slice none 0 0] 134)).alloc (.cells #[.int .i64 1,.int .i64 t1,.int .i64 t2,.int .i64 t3] 147))=W0 at *
     clear e0 e1 e2 e3
     have x0:W0.cell? ⟨w.heap.size+1,0,none⟩=some (.int .i64 (1)):=hbt.cell 0
     have x1:W0.cell? ⟨w.heap.size+1,1,none⟩=some (.int .i64 (t1)):=hbt.cell 1
     have x2:W0.cell? ⟨w.heap.size+1,2,none⟩=some (.int .i64 (t2)):=hbt.cell 2
     have x3:W0.cell? ⟨w.heap.size+1,3,none⟩=some (.int .i64 (t3)):=hbt.cell 3
     have HBR:=Hd_ hbr
     have HB0:=Hd_ hb0
     have hlt1:=hbt.lt
     clear hbr hb0 hbt
     have hal:=(Below.refl W0.heap.size W0).alloc (Nat.le_refl _) (.cells #[.int .i64 1,.int .i64 t1,.int .i64 t2,.int .i64 t3] 147)
     have hrl:=World.ownsRow_lit (base:=w.heap.size+1) (e:=147) (size:=4) W0 #[.int .i64 1,.int .i64 t1,.int .i64 t2,.int .i64 t3] 1 (by omega) (by decide) rfl
     have HD:=tko_done (r:=w.heap.size) (Own.of_row (xs:=[((1,t1,t2,t3):Tok)]) (E:=cEd) hrl rfl rfl) (below_trans HB0.out hal) (Nat.le_refl _) (Nat.lt_succ_self _) (.slice (some ⟨W0.heap.size,0,none⟩) 1 1)
     have z0:W0.cell? ⟨w.heap.size,0,none⟩=some (.slice none 0 0):=HBR.out.cell 0
     have v0:=HBR.out.frozen 0
     have hlr:=HBR.out.lt
     have HHE:=Hd_ HD
     rw [World.setCell_alloc_past _ _ _ _ hlr] at HD
     have HHD:=Hd_ HD
     clear HD hrl hal hs0
     go_wp2_with fail
     first
      | exact bodyPost_ret (v:=.agg #[.slice (some ⟨W0.heap.size,0,none⟩) 1 1]) (by simp [results,Tryz.results107,go_sem,z0,v0,hlr]) rfl ⟨_,rfl,HHD.out.1,HHD.out.2⟩
      | exact bodyPost_ret (v:=.agg #[.slice (some ⟨W0.heap.size,0,none⟩) 1 1]) (by simp [results,Tryz.results107,go_sem,z0,v0,hlr]) rfl ⟨_,rfl,HHE.out.1,HHE.out.2⟩
   · skip
     go_enter Tryz.func107,Tryz.ntmps107
     go_upto_region 3 with fail
     generalize ((w.alloc (.cells #[.slice none 0 0] 134)).alloc (.cells #[.int .i64 2,.int .i64 t1,.int .i64 t2,.int .i64 t3] 147))=W0 at *
     clear e0 e1 e2 e3
     have x0:W0.cell? ⟨w.heap.size+1,0,none⟩=some (.int .i64 (2)):=hbt.cell 0
     have x1:W0.cell? ⟨w.heap.size+1,1,none⟩=some (.int .i64 (t1)):=hbt.cell 1
     have x2:W0.cell? ⟨w.heap.size+1,2,none⟩=some (.int .i64 (t2)):=hbt.cell 2
     have x3:W0.cell? ⟨w.heap.size+1,3,none⟩=some (.int .i64 (t3)):=hbt.cell 3
     have HBR:=Hd_ hbr
     have HB0:=Hd_ hb0
     have hlt1:=hbt.lt
     clear hbr hb0 hbt
     have hal:=(Below.refl W0.heap.size W0).alloc (Nat.le_refl _) (.cells #[.int .i64 2,.int .i64 t1,.int .i64 t2,.int .i64 t3] 147)
     have hrl:=World.ownsRow_lit (base:=w.heap.size+1) (e:=147) (size:=4) W0 #[.int .i64 2,.int .i64 t1,.int .i64 t2,.int .i64 t3] 1 (by omega) (by decide) rfl
     have HD:=tko_done (r:=w.heap.size) (Own.of_row (xs:=[((2,t1,t2,t3):Tok)]) (E:=cEd) hrl rfl rfl) (below_trans HB0.out hal) (Nat.le_refl _) (Nat.lt_succ_self _) (.slice (some ⟨W0.heap.size,0,none⟩) 1 1)
     have z0:W0.cell? ⟨w.heap.size,0,none⟩=some (.slice none 0 0):=HBR.out.cell 0
     have v0:=HBR.out.frozen 0
     have hlr:=HBR.out.lt
     have HHE:=Hd_ HD
     rw [World.setCell_alloc_past _ _ _ _ hlr] at HD
     have HHD:=Hd_ HD
     clear HD hrl hal hs0
     go_wp2_with fail
     first
      | exact bodyPost_ret (v:=.agg #[.slice (some ⟨W0.heap.size,0,none⟩) 1 1]) (by simp [results,Tryz.results107,go_sem,z0,v0,hlr]) rfl ⟨_,rfl,HHD.out.1,HHD.out.2⟩
      | exact bodyPost_ret (v:=.agg #[.slice (some ⟨W0.heap.size,0,none⟩) 1 1]) (by simp [results,Tryz.results107,go_sem,z0,v0,hlr]) rfl ⟨_,rfl,HHE.out.1,HHE.out.2⟩
   · skip
     go_enter Tryz.func107,Tryz.ntmps107
     go_upto_region 3 with fail
     generalize ((w.alloc (.cells #[.slice none 0 0] 134)).alloc (.cells #[.int .i64 3,.int .i64 t1,.int .i64 t2,.int .i64 t3] 147))=W0 at *
     clear e0 e1 e2 e3
     have x0:W0.cell? ⟨w.heap.size+1,0,none⟩=some (.int .i64 (3)):=hbt.cell 0
     have x1:W0.cell? ⟨w.heap.size+1,1,none⟩=some (.int .i64 (t1)):=hbt.cell 1
     have x2:W0.cell? ⟨w.heap.size+1,2,none⟩=some (.int .i64 (t2)):=hbt.cell 2
     have x3:W0.cell? ⟨w.heap.size+1,3,none⟩=some (.int .i64 (t3)):=hbt.cell 3
     have HBR:=Hd_ hbr
     have HB0:=Hd_ hb0
     have hlt1:=hbt.lt
     clear hbr hb0 hbt
     have hal:=(Below.refl W0.heap.size W0).alloc (Nat.le_refl _) (.cells #[.int .i64 3,.int .i64 t1,.int .i64 t2,.int .i64 t3] 147)
     have hrl:=World.ownsRow_lit (base:=w.heap.size+1) (e:=147) (size:=4) W0 #[.int .i64 3,.int .i64 t1,.int .i64 t2,.int .i64 t3] 1 (by omega) (by decide) rfl
     have HD:=tko_done (r:=w.heap.size) (Own.of_row (xs:=[((3,t1,t2,t3):Tok)]) (E:=cEd) hrl rfl rfl) (below_trans HB0.out hal) (Nat.le_refl _) (Nat.lt_succ_self _) (.slice (some ⟨W0.heap.size,0,none⟩) 1 1)
     have z0:W0.cell? ⟨w.heap.size,0,none⟩=some (.slice none 0 0):=HBR.out.cell 0
     have v0:=HBR.out.frozen 0
     have hlr:=HBR.out.lt
     have HHE:=Hd_ HD
     rw [World.setCell_alloc_past _ _ _ _ hlr] at HD
     have HHD:=Hd_ HD
     clear HD hrl hal hs0
     go_wp2_with fail
     first
      | exact bodyPost_ret (v:=.agg #[.slice (some ⟨W0.heap.size,0,none⟩) 1 1]) (by simp [results,Tryz.results107,go_sem,z0,v0,hlr]) rfl ⟨_,rfl,HHD.out.1,HHD.out.2⟩
      | exact bodyPost_ret (v:=.agg #[.slice (some ⟨W0.heap.size,0,none⟩) 1 1]) (by simp [results,Tryz.results107,go_sem,z0,v0,hlr]) rfl ⟨_,rfl,HHE.out.1,HHE.out.2⟩
 | .un t a,ss,w,hr,hsl,hlen,hsz=>by
   have ht:=ar_un hr.1
   obtain ⟨m,hm0⟩:∃ m,m=(post a).length:=⟨_,rfl⟩
   rw [post] at hsl hlen
   have hlq:(post a ++ [t]).length=m+1:=by rw [List.length_append,hm0];rfl
   rw [hlq] at hlen
   have h0:=hsl
   obtain ⟨A,c,rfl,hl,hm,hx⟩:=hsl
   rw [hlq] at hl h0 ⊢
   unfold maxLen at hm
   have hxi:(post a ++ [t])[m]?=some t:=by rw [List.getElem?_append_right (by omega)];simp [hm0]
   obtain ⟨q,o,rfl,-,hq,hcc⟩:=hx _ t hxi
   obtain ⟨t0,t1,t2,t3⟩:=t
   have e0:=hcc 0 _ rfl
   have e1:=hcc 1 _ rfl
   have e2:=hcc 2 _ rfl
   have e3:=hcc 3 _ rfl
   simp only [Nat.add_zero] at e0
   have hmc1:m<=c:=by omega
   have hsa:sizeT a<=5000:=by
    rw [sizeT] at hsz
    split at hsz
    · omega
    · rename_i h6
      rcases ht with ht | ht
      · exact absurd (by rw [ht]) h6
      · have h1:(sizeT a+3) * 1<=(sizeT a+3) * t3.toNat:=Nat.mul_le_mul_left _ (by simp only at ht;omega)
        simp only at hsz
        omega
   have h2:SlE w cEd 4 (.slice (some ⟨q,o,none⟩) m c) (post a):=SlI.headT h0 hm0.symm
   have HSA:=Hd_ (fun (W:World) (hW:Below w.heap.size w W)=>l10Expand_any a _ W hr.2 (h2.keep hW) (by omega) hsa)
   have hla:=expT_len hsa
   clear hx hcc hxi h0 h2 hm0 hlq hsz
   have hb0:=((Below.refl w.heap.size w).alloc (Nat.le_refl _) (.cells #[.slice none 0 0] 134)).alloc (by simp) (.cells #[.int .i64 t0,.int .i64 t1,.int .i64 t2,.int .i64 t3] 147)
   have hbr:=(Blk.new w 134 #[.slice none 0 0] _ rfl).alloc (.cells #[.int .i64 t0,.int .i64 t1,.int .i64 t2,.int .i64 t3] 147)
   have hbt:=Blk.new (w.alloc (.cells #[.slice none 0 0] 134)) 147 #[.int .i64 t0,.int .i64 t1,.int .i64 t2,.int .i64 t3] (w.heap.size+1) (by simp)
   have hs0:((w.alloc (.cells #[.slice none 0 0] 134)).alloc (.cells #[.int .i64 t0,.int .i64 t1,.int .i64 t2,.int .i64 t3] 147)).heap.size=w.heap.size+2:=by simp
   rcases ht with ht | ⟨ht0,ht1,ht2,ht3,ht4,ht5⟩
   · injection ht with ht0 ht1
     injection ht1 with ht1 ht2
     injection ht2 with ht2 ht3
     subst ht0 ht1 ht2 ht3
     rw [show post (expT (.un (6,0,0,0) a))=post (expT a) ++ [] ++ [(6,0,0,0)] by simp [expT,post]]
     clear hr
     go_enter Tryz.func107,Tryz.ntmps107
     go_upto_region 3 with fail
     generalize ((w.alloc (.cells #[.slice none 0 0] 134)).alloc (.cells #[.int .i64 6,.int .i64 0,.int .i64 0,.int .i64 0] 147))=W0 at *
     clear e0 e1 e2 e3
     have x0:W0.cell? ⟨w.heap.size+1,0,none⟩=some (.int .i64 (6)):=hbt.cell 0
     have x1:W0.cell? ⟨w.heap.size+1,1,none⟩=some (.int .i64 (0)):=hbt.cell 1
     have x2:W0.cell? ⟨w.heap.size+1,2,none⟩=some (.int .i64 (0)):=hbt.cell 2
     have x3:W0.cell? ⟨w.heap.size+1,3,none⟩=some (.int .i64 (0)):=hbt.cell 3
     have HBR:=Hd_ hbr
     have HB0:=Hd_ hb0
     have hlt1:=hbt.lt
     clear hbr hb0 hbt
     go_wp2_with fail
     refine F_start 7 (fun w'=>w'.cell? ⟨w.heap.size+1,0,none⟩=some (.int .i64 (6))/\w'.cell? ⟨w.heap.size+1,1,none⟩=some (.int .i64 (0))/\w'.cell? ⟨w.heap.size+1,2,none⟩=some (.int .i64 (0))/\w'.cell? ⟨w.heap.size+1,3,none⟩=some (.int .i64 (0))) (by kernel_rfl) (by exact ⟨x0,x1,x2,x3⟩) (fun hS inv=>?_)
     refine F_tk 0 inv ?_
     try simp only [tA,tB,tC,Act.put,tE,tF,tG]
     clear inv;intro inv
     refine F_tk 1 inv ?_
     try simp only [tA,tB,tC,Act.put,tE,tF,tG]
     clear inv;intro inv
     refine F_tk 2 inv ?_
     try simp only [tA,tB,tC,Act.put,tE,tF,tG]
     clear inv;intro inv
     refine F_tk 4 inv ?_
     try simp only [tA,tB,tC,Act.put,tE,tF,tG]
     clear inv;intro inv
     refine F_tk 5 inv ?_
     try simp only [tA,tB,tC,Act.put,tE,tF,tG]
     clear inv;intro inv
     have hbd:Below W0.heap.size W0 W0.drew:=(Below.refl _ _).drew
     refine F_o1 3 inv ?_;intro K hK
     try simp only [tA,tB,tC]
     go_simp
     refine (HSA.out _ (below_trans HB0.out hbd)).mono ?_
     rintro e w2 ⟨v2,rfl,h2,hb2⟩
     have hp2:=below_trans hbd hb2
     refine hK.out _ _ (kB4 hb2 hS) (fun _ _=>?_)
     try simp only [tA,tB,tC,Act.put,tE,tF,tG]
     clear hK K inv hS;rename_i hS inv
     refine F_o1 6 inv ?_;intro K hK
     try simp only [tA,tB,tC]
     go_simp
     refine (l8Join_any _ _ _ [] (6,0,0,0) _ (h2.view.mono (Nat.zero_le _) (Nat.le_refl _)) (TkV.nil _ _ _) (by omega) (by simp)).mono ?_
     rintro e w3 ⟨v3,rfl,hr9,hb3⟩
     have hpl:=hp2.size
     obtain ⟨s9,rfl,h9⟩:=hr9
     obtain ⟨A9,n9,c9,rfl⟩:=h9.shape
     have hp9:=below_trans hp2 hb3
     have hbr9:=HBR.out.keep hp9
     have z0:w3.cell? ⟨w.heap.size,0,none⟩=some (.slice none 0 0):=hbr9.cell 0
     have v0:=hbr9.frozen 0
     have hlr:=hbr9.lt
     refine hK.out _ _ (kB4 hb3 hS) (fun _ _=>?_)
     try simp only [tA,tB,tC,Act.put,tE,tF,tG]
     clear hK K inv hS;rename_i hS inv
     refine F_l1 7 ?_;intro K hK
     go_simp
     refine hK _ _ ?_
     clear hK K inv hS
     have HD:=Hd_ (tko_done (r:=w.heap.size) h9 (below_trans HB0.out hp9) (Nat.le_refl _) (by have h1:=HB0.out.size;have h2:=hpl;omega) (.slice A9 n9 c9))
     clear h9 hbr9 hp9 hpl
     go_wp2_with fail
     exact bodyPost_ret (v:=.agg #[.slice A9 n9 c9]) (by simp [results,Tryz.results107,go_sem,z0,v0,hlr]) rfl ⟨_,rfl,HD.out.1,HD.out.2⟩
   · simp only at ht0 ht1 ht2 ht3 ht4 ht5
     subst ht0 ht1
     obtain ⟨h,rfl⟩:=Int.eq_ofNat_of_zero_le (show 0<=t3 by omega)
     obtain ⟨l,rfl⟩:=Int.eq_ofNat_of_zero_le ht4
     rw [show post (expT (.un (7,0,(l:Int),(h:Int)) a))=post (timesT (expT a) l h) by simp [expT]]
     clear hr
     go_enter Tryz.func107,Tryz.ntmps107
     go_upto_region 3 with fail
     generalize ((w.alloc (.cells #[.slice none 0 0] 134)).alloc (.cells #[.int .i64 7,.int .i64 0,.int .i64 (l:Int),.int .i64 (h:Int)] 147))=W0 at *
     clear e0 e1 e2 e3
     have x0:W0.cell? ⟨w.heap.size+1,0,none⟩=some (.int .i64 (7)):=hbt.cell 0
     have x1:W0.cell? ⟨w.heap.size+1,1,none⟩=some (.int .i64 (0)):=hbt.cell 1
     have x2:W0.cell? ⟨w.heap.size+1,2,none⟩=some (.int .i64 ((l:Int))):=hbt.cell 2
     have x3:W0.cell? ⟨w.heap.size+1,3,none⟩=some (.int .i64 ((h:Int))):=hbt.cell 3
     have HBR:=Hd_ hbr
     have HB0:=Hd_ hb0
     have hlt1:=hbt.lt
     clear hbr hb0 hbt
     go_wp2_with fail
     refine F_start 9 (fun w'=>w'.cell? ⟨w.heap.size+1,0,none⟩=some (.int .i64 (7))/\w'.cell? ⟨w.heap.size+1,1,none⟩=some (.int .i64 (0))/\w'.cell? ⟨w.heap.size+1,2,none⟩=some (.int .i64 ((l:Int)))/\w'.cell? ⟨w.heap.size+1,3,none⟩=some (.int .i64 ((h:Int)))) (by kernel_rfl) (by exact ⟨x0,x1,x2,x3⟩) (fun hS inv=>?_)
     refine F_tk 0 inv ?_
     try simp only [tA,tB,tC,Act.put,tE,tF,tG]
     clear inv;intro inv
     refine F_tk 1 inv ?_
     try simp only [tA,tB,tC,Act.put,tE,tF,tG]
     clear inv;intro inv
     refine F_tk 2 inv ?_
     try simp only [tA,tB,tC,Act.put,tE,tF,tG]
     clear inv;intro inv
     refine F_tk 4 inv ?_
     try simp only [tA,tB,tC,Act.put,tE,tF,tG]
     clear inv;intro inv
     refine F_tk 5 inv ?_
     try simp only [tA,tB,tC,Act.put,tE,tF,tG]
     clear inv;intro inv
     refine F_tk 6 inv ?_
     try simp only [tA,tB,tC,Act.put,tE,tF,tG]
     clear inv;intro inv
     refine F_tk 7 inv ?_
     try simp only [tA,tB,tC,Act.put,tE,tF,tG]
     clear inv;intro inv
     have hbd:Below W0.heap.size W0 W0.drew:=(Below.refl _ _).drew
     refine F_o1 3 inv ?_;intro K hK
     try simp only [tA,tB,tC]
     go_simp
     refine (HSA.out _ (below_trans HB0.out hbd)).mono ?_
     rintro e w2 ⟨v2,rfl,h2,hb2⟩
     have hp2:=below_trans hbd hb2
     refine hK.out _ _ (kB4 hb2 hS) (fun _ _=>?_)
     try simp only [tA,tB,tC,Act.put,tE,tF,tG]
     clear hK K inv hS;rename_i hS inv
     refine F_o1 8 inv ?_;intro K hK
     try simp only [tA,tB,tC]
     go_simp
     refine (l10Times_any (expT a) (by omega) h l _ _ (h2.view.mono (Nat.zero_le _) (Nat.le_refl _)) (by omega) (by omega)).mono ?_
     rintro e w3 ⟨v3,rfl,hr9,hb3⟩
     have hpl:=hp2.size
     obtain ⟨s9,rfl,h9⟩:=hr9
     obtain ⟨A9,n9,c9,rfl⟩:=h9.shape
     have hp9:=below_trans hp2 hb3
     have hbr9:=HBR.out.keep hp9
     have z0:w3.cell? ⟨w.heap.size,0,none⟩=some (.slice none 0 0):=hbr9.cell 0
     have v0:=hbr9.frozen 0
     have hlr:=hbr9.lt
     refine hK.out _ _ (kB4 hb3 hS) (fun _ _=>?_)
     try simp only [tA,tB,tC,Act.put,tE,tF,tG]
     clear hK K inv hS;rename_i hS inv
     refine F_l1 9 ?_;intro K hK
     go_simp
     refine hK _ _ ?_
     clear hK K inv hS
     have HD:=Hd_ (tko_done (r:=w.heap.size) h9 (below_trans HB0.out hp9) (Nat.le_refl _) (by have h1:=HB0.out.size;have h2:=hpl;omega) (.slice A9 n9 c9))
     clear h9 hbr9 hp9 hpl
     go_wp2_with fail
     exact bodyPost_ret (v:=.agg #[.slice A9 n9 c9]) (by simp [results,Tryz.results107,go_sem,z0,v0,hlr]) rfl ⟨_,rfl,HD.out.1,HD.out.2⟩
 | .bin t a b,ss,w,hr,hsl,hlen,hsz=>by
   have ht:=ar_bin hr.1
   obtain ⟨m,hm0⟩:∃ m,m=(post a).length:=⟨_,rfl⟩
   obtain ⟨j,hj0⟩:∃ j,j=(post b).length:=⟨_,rfl⟩
   have hj1:0 < j:=by rw [hj0];exact post_pos b
   rw [post] at hsl hlen
   obtain ⟨N,hN⟩:∃ N,N=(post a ++ post b).length:=⟨_,rfl⟩
   have hNm:N=m+j:=by rw [hN,List.length_append,hm0,hj0]
   have hlq:((post a ++ post b) ++ [t]).length=N+1:=by rw [List.length_append,hN];rfl
   rw [hlq] at hlen
   have h0:=hsl
   obtain ⟨A,c,rfl,hl,hm,hx⟩:=hsl
   rw [hlq] at hl h0 ⊢
   unfold maxLen at hm
   have hxi:((post a ++ post b) ++ [t])[N]?=some t:=by rw [List.getElem?_append_right (by omega)];simp [hN]
   obtain ⟨q,o,rfl,-,hq,hcc⟩:=hx _ t hxi
   obtain ⟨t0,t1,t2,t3⟩:=t
   have e0:=hcc 0 _ rfl
   have e1:=hcc 1 _ rfl
   have e2:=hcc 2 _ rfl
   have e3:=hcc 3 _ rfl
   simp only [Nat.add_zero] at e0
   have hsab:sizeT a<=5000/\sizeT b<=5000:=by rw [sizeT] at hsz;omega
   have h1:SlE w cEd 4 (.slice (some ⟨q,o,none⟩) N c) (post a ++ post b):=SlI.headT h0 hN.symm
   have h2:SlE w cEd 4 (.slice (some ⟨q,o,none⟩) m c) (post a):=SlI.headT h1 hm0.symm
   have h3:SlE w cEd 4 (.slice (some ⟨q,o+m * 4,none⟩) (N - m) (c - m)) (post b):=SlI.tailT h1 hm0.symm (by omega) rfl
   have HST:=Hd_ (fun (W:World) (hW:Below w.heap.size w W)=>l8Start_any _ (post a) b W (h1.keep hW) hr.2.2 (by rw [<- hN];omega))
   have HSA:=Hd_ (fun (W:World) (hW:Below w.heap.size w W)=>l10Expand_any a _ W hr.2.1 (h2.keep hW) (by omega) hsab.1)
   have HSB:=Hd_ (fun (W:World) (hW:Below w.heap.size w W)=>l10Expand_any b _ W hr.2.2 (h3.keep hW) (by omega) hsab.2)
   have hla:=expT_len hsab.1
   have hlb:=expT_len hsab.2
   have hsab1:=hsab.1
   have hsab2:=hsab.2
   rw [<- hm0] at HST
   have hmc:¬ c=m:=by omega
   have hmc1:m<=c:=by omega
   have hmc2:N<=c:=by omega
   have hmc3:m<=N:=by omega
   clear hx hcc hxi h0 h1 h2 h3 hr hm0 hj0 hlq hsz hsab hNm hN
   rw [show post (expT (.bin (t0,t1,t2,t3) a b))=post (expT a) ++ post (expT b) ++ [(t0,t1,t2,t3)] by simp [expT,post]]
   have hb0:=((Below.refl w.heap.size w).alloc (Nat.le_refl _) (.cells #[.slice none 0 0] 134)).alloc (by simp) (.cells #[.int .i64 t0,.int .i64 t1,.int .i64 t2,.int .i64 t3] 147)
   have hbr:=(Blk.new w 134 #[.slice none 0 0] _ rfl).alloc (.cells #[.int .i64 t0,.int .i64 t1,.int .i64 t2,.int .i64 t3] 147)
   have hbt:=Blk.new (w.alloc (.cells #[.slice none 0 0] 134)) 147 #[.int .i64 t0,.int .i64 t1,.int .i64 t2,.int .i64 t3] (w.heap.size+1) (by simp)
   have hs0:((w.alloc (.cells #[.slice none 0 0] 134)).alloc (.cells #[.int .i64 t0,.int .i64 t1,.int .i64 t2,.int .i64 t3] 147)).heap.size=w.heap.size+2:=by simp
   rcases ht with ht | ht
   · injection ht with ht0 ht1
     injection ht1 with ht1 ht2
     injection ht2 with ht2 ht3
     subst ht0 ht1 ht2 ht3
     go_enter Tryz.func107,Tryz.ntmps107
     go_upto_region 3 with fail
     generalize ((w.alloc (.cells #[.slice none 0 0] 134)).alloc (.cells #[.int .i64 4,.int .i64 0,.int .i64 0,.int .i64 0] 147))=W0 at *
     clear e0 e1 e2 e3
     have x0:W0.cell? ⟨w.heap.size+1,0,none⟩=some (.int .i64 (4)):=hbt.cell 0
     have x1:W0.cell? ⟨w.heap.size+1,1,none⟩=some (.int .i64 (0)):=hbt.cell 1
     have x2:W0.cell? ⟨w.heap.size+1,2,none⟩=some (.int .i64 (0)):=hbt.cell 2
     have x3:W0.cell? ⟨w.heap.size+1,3,none⟩=some (.int .i64 (0)):=hbt.cell 3
     have HBR:=Hd_ hbr
     have HB0:=Hd_ hb0
     have hlt1:=hbt.lt
     clear hbr hb0 hbt
     go_wp2_with fail
     refine (HST.out _ HB0.out).mono ?_
     rintro e w1 ⟨rfl,hb1⟩
     have x0:=kcell hb1 x0
     have x1:=kcell hb1 x1
     have x2:=kcell hb1 x2
     have x3:=kcell hb1 x3
     have hlt1:w.heap.size+1 < w1.heap.size:=Nat.lt_of_lt_of_le hlt1 hb1.size
     have HB1:=Hd_ hb1
     clear hb1
     go_upto_region 7 with fail
     refine F_start 11 (fun w'=>w'.cell? ⟨w.heap.size+1,0,none⟩=some (.int .i64 (4))/\w'.cell? ⟨w.heap.size+1,1,none⟩=some (.int .i64 (0))/\w'.cell? ⟨w.heap.size+1,2,none⟩=some (.int .i64 (0))/\w'.cell? ⟨w.heap.size+1,3,none⟩=some (.int .i64 (0))) (by kernel_rfl) (by exact ⟨x0,x1,x2,x3⟩) (fun hS inv=>?_)
     refine F_tk 0 inv ?_
     try simp only [tA,tB,tC,Act.put,tE,tF,tG]
     clear inv;intro inv
     refine F_tk 1 inv ?_
     try simp only [tA,tB,tC,Act.put,tE,tF,tG]
     clear inv;intro inv
     refine F_tk 2 inv ?_
     try simp only [tA,tB,tC,Act.put,tE,tF,tG]
     clear inv;intro inv
     refine F_tk 4 inv ?_
     try simp only [tA,tB,tC,Act.put,tE,tF,tG]
     clear inv;intro inv
     refine F_tk 5 inv ?_
     try simp only [tA,tB,tC,Act.put,tE,tF,tG]
     clear inv;intro inv
     refine F_tk 6 inv ?_
     try simp only [tA,tB,tC,Act.put,tE,tF,tG]
     clear inv;intro inv
     refine F_tk 7 inv ?_
     try simp only [tA,tB,tC,Act.put,tE,tF,tG]
     clear inv;intro inv
     refine F_tk 9 inv ?_
     try simp only [tA,tB,tC,Act.put,tE,tF,tG]
     clear inv;intro inv
     have hbd:=below_trans HB1.out ((Below.refl w1.heap.size w1).drew)
     refine F_o1 3 inv ?_;intro K hK
     try simp only [tA,tB,tC]
     go_simp
     refine (HSA.out _ (below_trans HB0.out hbd)).mono ?_
     rintro e w2 ⟨v2,rfl,h2,hb2⟩
     have hp2:=below_trans hbd hb2
     refine hK.out _ _ (kB4 hb2 hS) (fun _ _=>?_)
     try simp only [tA,tB,tC,Act.put,tE,tF,tG]
     clear hK K inv hS;rename_i hS inv
     refine F_o1 8 inv ?_;intro K hK
     try simp only [tA,tB,tC]
     go_simp
     refine (HSB.out _ (below_trans HB0.out hp2)).mono ?_
     rintro e w3 ⟨v3,rfl,h3,hb3⟩
     have hp3:=below_trans hp2 hb3
     refine hK.out _ _ (kB4 hb3 hS) (fun _ _=>?_)
     try simp only [tA,tB,tC,Act.put,tE,tF,tG]
     clear hK K inv hS;rename_i hS inv
     refine F_o1 10 inv ?_;intro K hK
     try simp only [tA,tB,tC]
     go_simp
     refine (l8Join_any _ _ _ _ (4,0,0,0) _ ((h2.view.mono (Nat.zero_le _) (Nat.le_refl _)).keep hb3) (h3.view.mono (Nat.zero_le _) (Nat.le_refl _)) (by omega) (by omega)).mono ?_
     rintro e w4 ⟨v4,rfl,hr9,hb4⟩
     have hpl:=hp3.size
     obtain ⟨s9,rfl,h9⟩:=hr9
     obtain ⟨A9,n9,c9,rfl⟩:=h9.shape
     have hp9:=below_trans hp3 hb4
     have hbr9:=HBR.out.keep hp9
     have z0:w4.cell? ⟨w.heap.size,0,none⟩=some (.slice none 0 0):=hbr9.cell 0
     have v0:=hbr9.frozen 0
     have hlr:=hbr9.lt
     refine hK.out _ _ (kB4 hb4 hS) (fun _ _=>?_)
     try simp only [tA,tB,tC,Act.put,tE,tF,tG]
     clear hK K inv hS;rename_i hS inv
     refine F_l1 11 ?_;intro K hK
     go_simp
     refine hK _ _ ?_
     clear hK K inv hS
     have HD:=Hd_ (tko_done (r:=w.heap.size) h9 (below_trans HB0.out hp9) (Nat.le_refl _) (by have h1:=HB0.out.size;have h2:=hpl;omega) (.slice A9 n9 c9))
     clear h9 hbr9 hp9 hpl
     go_wp2_with fail
     exact bodyPost_ret (v:=.agg #[.slice A9 n9 c9]) (by simp [results,Tryz.results107,go_sem,z0,v0,hlr]) rfl ⟨_,rfl,HD.out.1,HD.out.2⟩
   · injection ht with ht0 ht1
     injection ht1 with ht1 ht2
     injection ht2 with ht2 ht3
     subst ht0 ht1 ht2 ht3
     go_enter Tryz.func107,Tryz.ntmps107
     go_upto_region 3 with fail
     generalize ((w.alloc (.cells #[.slice none 0 0] 134)).alloc (.cells #[.int .i64 5,.int .i64 0,.int .i64 0,.int .i64 0] 147))=W0 at *
     clear e0 e1 e2 e3
     have x0:W0.cell? ⟨w.heap.size+1,0,none⟩=some (.int .i64 (5)):=hbt.cell 0
     have x1:W0.cell? ⟨w.heap.size+1,1,none⟩=some (.int .i64 (0)):=hbt.cell 1
     have x2:W0.cell? ⟨w.heap.size+1,2,none⟩=some (.int .i64 (0)):=hbt.cell 2
     have x3:W0.cell? ⟨w.heap.size+1,3,none⟩=some (.int .i64 (0)):=hbt.cell 3
     have HBR:=Hd_ hbr
     have HB0:=Hd_ hb0
     have hlt1:=hbt.lt
     clear hbr hb0 hbt
     go_wp2_with fail
     refine (HST.out _ HB0.out).mono ?_
     rintro e w1 ⟨rfl,hb1⟩
     have x0:=kcell hb1 x0
     have x1:=kcell hb1 x1
     have x2:=kcell hb1 x2
     have x3:=kcell hb1 x3
     have hlt1:w.heap.size+1 < w1.heap.size:=Nat.lt_of_lt_of_le hlt1 hb1.size
     have HB1:=Hd_ hb1
     clear hb1
     go_upto_region 7 with fail
     refine F_start 11 (fun w'=>w'.cell? ⟨w.heap.size+1,0,none⟩=some (.int .i64 (5))/\w'.cell? ⟨w.heap.size+1,1,none⟩=some (.int .i64 (0))/\w'.cell? ⟨w.heap.size+1,2,none⟩=some (.int .i64 (0))/\w'.cell? ⟨w.heap.size+1,3,none⟩=some (.int .i64 (0))) (by kernel_rfl) (by exact ⟨x0,x1,x2,x3⟩) (fun hS inv=>?_)
     refine F_tk 0 inv ?_
     try simp only [tA,tB,tC,Act.put,tE,tF,tG]
     clear inv;intro inv
     refine F_tk 1 inv ?_
     try simp only [tA,tB,tC,Act.put,tE,tF,tG]
     clear inv;intro inv
     refine F_tk 2 inv ?_
     try simp only [tA,tB,tC,Act.put,tE,tF,tG]
     clear inv;intro inv
     refine F_tk 4 inv ?_
     try simp only [tA,tB,tC,Act.put,tE,tF,tG]
     clear inv;intro inv
     refine F_tk 5 inv ?_
     try simp only [tA,tB,tC,Act.put,tE,tF,tG]
     clear inv;intro inv
     refine F_tk 6 inv ?_
     try simp only [tA,tB,tC,Act.put,tE,tF,tG]
     clear inv;intro inv
     refine F_tk 7 inv ?_
     try simp only [tA,tB,tC,Act.put,tE,tF,tG]
     clear inv;intro inv
     refine F_tk 9 inv ?_
     try simp only [tA,tB,tC,Act.put,tE,tF,tG]
     clear inv;intro inv
     have hbd:=below_trans HB1.out ((Below.refl w1.heap.size w1).drew)
     refine F_o1 3 inv ?_;intro K hK
     try simp only [tA,tB,tC]
     go_simp
     refine (HSA.out _ (below_trans HB0.out hbd)).mono ?_
     rintro e w2 ⟨v2,rfl,h2,hb2⟩
     have hp2:=below_trans hbd hb2
     refine hK.out _ _ (kB4 hb2 hS) (fun _ _=>?_)
     try simp only [tA,tB,tC,Act.put,tE,tF,tG]
     clear hK K inv hS;rename_i hS inv
     refine F_o1 8 inv ?_;intro K hK
     try simp only [tA,tB,tC]
     go_simp
     refine (HSB.out _ (below_trans HB0.out hp2)).mono ?_
     rintro e w3 ⟨v3,rfl,h3,hb3⟩
     have hp3:=below_trans hp2 hb3
     refine hK.out _ _ (kB4 hb3 hS) (fun _ _=>?_)
     try simp only [tA,tB,tC,Act.put,tE,tF,tG]
     clear hK K inv hS;rename_i hS inv
     refine F_o1 10 inv ?_;intro K hK
     try simp only [tA,tB,tC]
     go_simp
     refine (l8Join_any _ _ _ _ (5,0,0,0) _ ((h2.view.mono (Nat.zero_le _) (Nat.le_refl _)).keep hb3) (h3.view.mono (Nat.zero_le _) (Nat.le_refl _)) (by omega) (by omega)).mono ?_
     rintro e w4 ⟨v4,rfl,hr9,hb4⟩
     have hpl:=hp3.size
     obtain ⟨s9,rfl,h9⟩:=hr9
     obtain ⟨A9,n9,c9,rfl⟩:=h9.shape
     have hp9:=below_trans hp3 hb4
     have hbr9:=HBR.out.keep hp9
     have z0:w4.cell? ⟨w.heap.size,0,none⟩=some (.slice none 0 0):=hbr9.cell 0
     have v0:=hbr9.frozen 0
     have hlr:=hbr9.lt
     refine hK.out _ _ (kB4 hb4 hS) (fun _ _=>?_)
     try simp only [tA,tB,tC,Act.put,tE,tF,tG]
     clear hK K inv hS;rename_i hS inv
     refine F_l1 11 ?_;intro K hK
     go_simp
     refine hK _ _ ?_
     clear hK K inv hS
     have HD:=Hd_ (tko_done (r:=w.heap.size) h9 (below_trans HB0.out hp9) (Nat.le_refl _) (by have h1:=HB0.out.size;have h2:=hpl;omega) (.slice A9 n9 c9))
     clear h9 hbr9 hp9 hpl
     go_wp2_with fail
     exact bodyPost_ret (v:=.agg #[.slice A9 n9 c9]) (by simp [results,Tryz.results107,go_sem,z0,v0,hlr]) rfl ⟨_,rfl,HD.out.1,HD.out.2⟩
def ExpOut (w:World) (e:Ending) (w':World):Prop:=∃ v is,e=.returned (.tuple #[v,.bool is])/\(∃ A n c,v=.agg #[.slice A n c])/\(is=true->∃ r:Tr,r.ok/\(post r).length<=5000/\TkV w.heap.size w'.heap.size w' v (post r))/\Below w.heap.size w w'
set_option maxRecDepth 100000 in
set_option maxHeartbeats 4000000 in
theorem expandExpr_any (va:Value) (l:List Tok) (w:World) (hv:TkV 0 w.heap.size w va l) :
 Calls Tryz.prog 96 #[va] w (ExpOut w):=by
 obtain ⟨sa,rfl,hsa⟩:=hv
 have HSA:=Hd_ hsa
 obtain ⟨A1,n1,c1,rfl⟩:=hsa.shape
 clear hsa
 have hb0:=((Below.refl w.heap.size w).alloc (Nat.le_refl _) (.cells #[.slice A1 n1 c1] 134)).alloc (by simp) (.cells #[.slice none 0 0] 134)
 have hbx:=(Blk.new w 134 #[.slice A1 n1 c1] _ rfl).alloc (.cells #[.slice none 0 0] 134)
 have hbr:=Blk.new (w.alloc (.cells #[.slice A1 n1 c1] 134)) 134 #[.slice none 0 0] (w.heap.size+1) (by simp)
 have hs0:((w.alloc (.cells #[.slice A1 n1 c1] 134)).alloc (.cells #[.slice none 0 0] 134)).heap.size=w.heap.size+2:=by simp
 have hsl0:SlE (((w.alloc (.cells #[.slice A1 n1 c1] 134)).alloc (.cells #[.slice none 0 0] 134))) cEd 4 (.slice A1 n1 c1) l:=SlE.keep HSA.out hb0
 go_enter Tryz.func96,Tryz.ntmps96
 go_wp2_with fail
 generalize ((w.alloc (.cells #[.slice A1 n1 c1] 134)).alloc (.cells #[.slice none 0 0] 134))=W0 at *
 refine (isValidExpr_any _ l _ hsl0).mono ?_
 rintro e w1 ⟨rfl,hb1⟩
 have hsl1:=SlE.keep hsl0 hb1
 have hbx1:=hbx.keep hb1
 have hbr1:=hbr.keep hb1
 have HB1:=Hd_ (below_trans hb0 hb1)
 have hz1:=hb1.size
 have HSL1:=Hd_ hsl1
 have x0:w1.cell? ⟨w.heap.size,0,none⟩=some (.slice A1 n1 c1):=hbx1.cell 0
 have z0:w1.cell? ⟨w.heap.size+1,0,none⟩=some (.slice none 0 0):=hbr1.cell 0
 have v0:=hbr1.frozen 0
 have hlr:=hbr1.lt
 have HBR1:=Hd_ hbr1
 have HBX1:=Hd_ hbx1
 have hs1:w.heap.size+2<=w1.heap.size:=by omega
 clear hsl0 hsl1 hbx hbr hbx1 hbr1 hb0 hb1 hs0 hz1
 cases hok:okE l
 · go_wp2_with fail
   exact bodyPost_ret (v:=.tuple #[.agg #[.slice none 0 0],.bool false]) (by simp [results,Tryz.results96,go_sem,z0,v0,hlr]) rfl ⟨_,_,rfl,⟨_,_,_,rfl⟩,(fun h=>by cases h),HB1.out.setCell (p:=⟨w.heap.size+1,0,none⟩) (by simp only;omega) _⟩
 · have htr:∃ r,treeL l=some r/\l.length<=24:=by
    simp only [okE,Bool.and_eq_true,decide_eq_true_eq] at hok
    obtain ⟨r,hr⟩:=Option.isSome_iff_exists.1 hok.2
    exact ⟨r,hr,hok.1⟩
   obtain ⟨r,hr,hl24⟩:=htr
   obtain ⟨hrok,hrp⟩:=treeL_post hr
   rw [<- hrp] at HSL1 hl24
   have HOK:=Hd_ hrok
   clear hok hr hrp hrok
   have hsz:=sizeT_le r
   go_wp2_with fail
   refine (l10Size_any r _ _ HOK.out HSL1.out (by omega)).mono ?_
   rintro e w2 ⟨rfl,hb2⟩
   have HSL2:=Hd_ (SlE.keep HSL1.out hb2)
   have x0:=kcell hb2 x0
   have z0:=kcell hb2 z0
   have HBR2:=Hd_ (HBR1.out.keep hb2)
   have HB2:=Hd_ (below_trans HB1.out hb2)
   have v0:=HBR2.out.frozen 0
   have hlr:=HBR2.out.lt
   have hs2:=hb2.size
   clear hb2 HSL1 HBR1 HBX1
   obtain ⟨S,hS⟩:∃ S,S=sizeT r:=⟨_,rfl⟩
   rw [<- hS] at hsz ⊢
   have HS:=Hd_ hS
   clear hS
   by_cases h5:S<=5000
   · have h5i:¬ 5000 < (S:Int):=by omega
     have h5r:sizeT r<=5000:=by rw [<- HS.out];exact h5
     have HEL:=Hd_ (expT_len h5r)
     clear hsz
     go_wp2_with fail
     refine (l10Expand_any r _ _ HOK.out HSL2.out (by omega) h5r).mono ?_
     rintro e w3 ⟨v3,rfl,⟨s3,rfl,h3⟩,hb3⟩
     obtain ⟨A3,n3,c3,hs3,hn3⟩:∃ A n c,s3=.slice A n c/\n=(post (expT r)).length:=by
      obtain ⟨A,c,h,-⟩:=h3.sl cEd_len
      exact ⟨A,_,c,h,rfl⟩
     subst hs3
     have hn5:n3<=5000:=by rw [hn3];have:=HEL.out;omega
     have hal:=(Below.refl w3.heap.size w3).alloc (Nat.le_refl _) (.cells #[.slice A3 n3 c3] 134)
     have hbA:=below_trans hb3 hal
     have hbr4:=HBR2.out.keep hbA
     have hbn:=Blk.new w3 134 #[.slice A3 n3 c3] _ rfl
     have h4:=(h3.below hal (Nat.le_refl _)).mono (Nat.le_refl _) hal.size
     have HB4:=Hd_ (below_trans HB2.out hbA)
     clear hn3 h3 hb3 hal hbA x0 z0 v0 hlr h5r h5 h5i
     go_upto_region 4 with fail
     generalize w3.alloc (.cells #[.slice A3 n3 c3] 134)=W4 at *
     have H4:=Hd_ h4
     have y0:W4.cell? ⟨w3.heap.size,0,none⟩=some (.slice A3 n3 c3):=hbn.cell 0
     have z0:W4.cell? ⟨w.heap.size+1,0,none⟩=some (.slice none 0 0):=hbr4.cell 0
     have v0:=hbr4.frozen 0
     have hlr:=hbr4.lt
     clear hbn hbr4 h4
     by_cases h4c:400 < n3
     · have h4i:400 < (n3:Int):=by omega
       go_wp2_with fail
       exact bodyPost_ret (v:=.tuple #[.agg #[.slice none 0 0],.bool false]) (by simp [results,Tryz.results96,go_sem,z0,v0,hlr]) rfl ⟨_,_,rfl,⟨_,_,_,rfl⟩,(fun h=>by cases h),HB4.out.setCell (p:=⟨w.heap.size+1,0,none⟩) (by simp only;omega) _⟩
     · have h4i:¬ 400 < (n3:Int):=by omega
       go_wp2_with fail
       have ho:=(Only.refl (w.heap.size+1) (w.heap.size+2) W4).setCell (p:=⟨w.heap.size+1,0,none⟩) (.inl ⟨Nat.le_refl _,Nat.lt_succ_self _⟩) (.slice A3 n3 c3)
       exact bodyPost_ret (v:=.tuple #[.agg #[.slice A3 n3 c3],.bool true]) (by simp [results,Tryz.results96,go_sem,z0,v0,hlr]) rfl ⟨_,_,rfl,⟨_,_,_,rfl⟩,(fun _=>⟨expT r,expT_ok HOK.out,by have:=HEL.out;rw [<- HS.out] at this;omega,⟨_,rfl,((H4.out.only ho (.inr (by omega))).sl cEd_len).mono (by omega) ho.size⟩⟩),HB4.out.setCell (p:=⟨w.heap.size+1,0,none⟩) (by simp only;omega) _⟩
   · have h5i:5000 < (S:Int):=by omega
     clear hsz
     go_wp2_with fail
     exact bodyPost_ret (v:=.tuple #[.agg #[.slice none 0 0],.bool false]) (by simp [results,Tryz.results96,go_sem,z0,v0,hlr]) rfl ⟨_,_,rfl,⟨_,_,_,rfl⟩,(fun h=>by cases h),HB2.out.setCell (p:=⟨w.heap.size+1,0,none⟩) (by simp only;omega) _⟩
theorem ownSl {lo k n:Nat} {e:TypeId} {v:Value} {cs:List Value} {w:World} (h:w.ownsRow lo e k v n cs):∃ A c,v=.slice A n c/\n<=c/\c<=9223372036854775807/\(0 < n->∃ q,A=some ⟨q,0,none⟩):=by
 obtain ⟨_,hs⟩:=h
 rcases hs with ⟨rfl,rfl⟩ | ⟨g,cap,cur,rfl,_,_,h1,h2,_⟩
 · exact ⟨none,0,rfl,Nat.le_refl _,by omega,fun h=>absurd h (Nat.lt_irrefl _)⟩
 · exact ⟨_,_,rfl,h1,by simpa [maxLen] using h2,fun _=>⟨g,rfl⟩⟩
/-- positions under way in the block p: letters and followers, each in a row of the call's own -/
structure PosR (p:Nat) (w:World) (ls fs:Value) (fi la:Int) (nu:Bool) (L F:List Int):Prop where
 blk:Blk w p 129 #[ls,.int .i64 fi,.int .i64 la,fs,.bool nu]
 lets:w.ownsRow (p+1) 3 1 ls L.length (L.flatMap cI)
 fol:w.ownsRow (p+1) 3 1 fs F.length (F.flatMap cI)
 apart:∀ b,ls.ownBlock=some b->fs.ownBlock ≠ some b
/-- what else lies in memory is as it was -/
structure PosF (p:Nat) (ls fs ls' fs':Value) (w w':World):Prop where
 os:w'.os=w.os
 tape:w'.tape=w.tape
 output:w'.output=w.output
 size:w.heap.size<=w'.heap.size
 block:∀ n,n < w.heap.size->n ≠ p->ls.ownBlock ≠ some n->fs.ownBlock ≠ some n->w'.heap[n]?=w.heap[n]?
 newl:∀ n,ls'.ownBlock=some n->ls.ownBlock=some n ∨ w.heap.size<=n
 newf:∀ n,fs'.ownBlock=some n->fs.ownBlock=some n ∨ w.heap.size<=n
theorem PosF.refl (p:Nat) (ls fs:Value) (w:World):PosF p ls fs ls fs w w:=⟨rfl,rfl,rfl,Nat.le_refl _,fun _ _ _ _ _=>rfl,fun _ h=>.inl h,fun _ h=>.inl h⟩
theorem PosF.trans {p:Nat} {ls fs ls' fs' ls'' fs'':Value} {a b c:World} (h:PosF p ls fs ls' fs' a b) (k:PosF p ls' fs' ls'' fs'' b c):PosF p ls fs ls'' fs'' a c :=
 ⟨k.os.trans h.os,k.tape.trans h.tape,k.output.trans h.output,Nat.le_trans h.size k.size,
  fun n h1 h2 h3 h4=>(k.block n (Nat.lt_of_lt_of_le h1 h.size) h2 (fun e=>(h.newl n e).elim h3 (fun e=>by omega)) (fun e=>(h.newf n e).elim h4 (fun e=>by omega))).trans (h.block n h1 h2 h3 h4),
  fun n e=>(k.newl n e).elim (fun e=>h.newl n e) (fun e=>.inr (Nat.le_trans h.size e)),fun n e=>(k.newf n e).elim (fun e=>h.newf n e) (fun e=>.inr (Nat.le_trans h.size e))⟩
theorem PosF.below {p:Nat} {ls fs:Value} {w w':World} (hb:Below w.heap.size w w'):PosF p ls fs ls fs w w':=⟨hb.os,hb.tape,hb.output,hb.size,fun n h _ _ _=>hb.block n h,fun _ h=>.inl h,fun _ h=>.inl h⟩
theorem PosR.below {p:Nat} {w w':World} {ls fs:Value} {fi la:Int} {nu:Bool} {L F:List Int} (h:PosR p w ls fs fi la nu L F) (hb:Below w.heap.size w w'):PosR p w' ls fs fi la nu L F :=
 ⟨h.blk.keep hb,ownsRow_below h.lets hb (Nat.le_refl _),ownsRow_below h.fol hb (Nat.le_refl _),h.apart⟩
/-- blocks that are no part of the positions are kept -/
theorem PosF.blk {p g:Nat} {t:TypeId} {cs:Array Value} {ls fs ls' fs':Value} {w w':World} (h:PosF p ls fs ls' fs' w w') (hb:Blk w g t cs) (h1:g ≠ p) (h2:ls.ownBlock ≠ some g) (h3:fs.ownBlock ≠ some g):Blk w' g t cs:=(h.block g hb.lt h1 h2 h3).trans hb
/-- what lies below p is kept -/
theorem PosF.under {p:Nat} {L F:List Int} {fi la:Int} {nu:Bool} {ls fs ls' fs':Value} {w w':World} (h:PosF p ls fs ls' fs' w w') (hr:PosR p w ls fs fi la nu L F):Below p w w' :=
 ⟨h.os,h.tape,h.output,h.size,fun n hn=>h.block n (Nat.lt_trans hn hr.blk.lt) (by omega) (fun e=>by have:=(hr.lets.lt n e).1;omega) (fun e=>by have:=(hr.fol.lt n e).1;omega)⟩
/-- a follower turned -/
theorem PosR.setF {p:Nat} {w:World} {ls:Value} {g n c:Nat} {fi la:Int} {nu:Bool} {L F:List Int} (h:PosR p w ls (.slice (some ⟨g,0,none⟩) n c) fi la nu L F) (hn:F.length=n) (i:Nat) (x:Int) :
 PosR p (w.setCell ⟨g,i,none⟩ (.int .i64 x)) ls (.slice (some ⟨g,0,none⟩) n c) fi la nu L (F.set i x)/\PosF p ls (.slice (some ⟨g,0,none⟩) n c) ls (.slice (some ⟨g,0,none⟩) n c) w (w.setCell ⟨g,i,none⟩ (.int .i64 x)):=by
 have hg:=h.fol.lt g rfl
 have hr:=h.fol
 rw [hn] at hr
 have hst:=(World.ownsRow.stored hr i (.int .i64 x)).1
 rw [flatI_set] at hst
 refine ⟨⟨h.blk.far (by simp only;omega) _,ownsRow_block h.lets (fun b hb=>Below.heap_setCell w ⟨g,i,none⟩ _ b (fun e=>h.apart b hb (by rw [e];rfl))),by simpa [hn] using hst,h.apart⟩,
  ⟨rfl,rfl,rfl,by simp [World.setCell],fun b hb h1 h2 h3=>Below.heap_setCell w ⟨g,i,none⟩ _ b (fun e=>h3 (by rw [e];rfl)),fun _ h=>.inl h,fun _ h=>.inl h⟩⟩
theorem PosR.pushL {p:Nat} {w w':World} {ls fs:Value} {g n c:Nat} {fi la:Int} {nu:Bool} {L L' F:List Int} (h:PosR p w ls fs fi la nu L F) (hr:w'.ownsRow (p+1) 3 1 (.slice (some ⟨g,0,none⟩) n c) L'.length (L'.flatMap cI)) (hg:w.grownBy w' ls.ownBlock) (hat:ls.ownBlock=some g ∨ w.heap.size<=g) :
 Blk w' p 129 #[ls,.int .i64 fi,.int .i64 la,fs,.bool nu]/\PosR p (w'.setCell ⟨p,0,none⟩ (.slice (some ⟨g,0,none⟩) n c)) (.slice (some ⟨g,0,none⟩) n c) fs fi la nu L' F/\PosF p ls fs (.slice (some ⟨g,0,none⟩) n c) fs w (w'.setCell ⟨p,0,none⟩ (.slice (some ⟨g,0,none⟩) n c)):=by
 have hlp:=h.blk.lt
 have hgl:=(hr.lt g rfl).1
 have hb:Blk w' p 129 #[ls,.int .i64 fi,.int .i64 la,fs,.bool nu]:=(hg.block p hlp (fun e=>by have:=(h.lets.lt p e.symm).1;omega)).trans h.blk
 have hf:w'.ownsRow (p+1) 3 1 fs F.length (F.flatMap cI):=ownsRow_block h.fol fun b hb=>hg.block b (h.fol.lt b hb).2 (fun e=>h.apart b e.symm hb)
 refine ⟨hb,⟨hb.set_ 0 _,ownsRow_block hr (fun b hb=>by cases hb;exact Below.heap_setCell w' ⟨p,0,none⟩ _ g (by simp only;omega)),ownsRow_block hf (fun b hb=>Below.heap_setCell w' ⟨p,0,none⟩ _ b (by have:=(hf.lt b hb).1;simp only;omega)),fun b hb1 hb2=>?_⟩,?_⟩
 · cases hb1
   rcases hat with h1 | h1
   · exact h.apart g h1 hb2
   · have:=(h.fol.lt g hb2).2;omega
 · refine ⟨hg.os,hg.tape,hg.output,by simpa [World.setCell] using hg.size,fun b hb h1 h2 h3=>?_,fun b hb=>?_,fun b hb=>.inl hb⟩
   · rw [Below.heap_setCell w' ⟨p,0,none⟩ _ b (by simpa using h1)]
     exact hg.block b hb (fun e=>h2 e.symm)
   · cases hb
     exact hat
theorem PosR.pushF {p:Nat} {w w':World} {ls fs:Value} {g n c:Nat} {fi la:Int} {nu:Bool} {L F F':List Int} (h:PosR p w ls fs fi la nu L F) (hr:w'.ownsRow (p+1) 3 1 (.slice (some ⟨g,0,none⟩) n c) F'.length (F'.flatMap cI)) (hg:w.grownBy w' fs.ownBlock) (hat:fs.ownBlock=some g ∨ w.heap.size<=g) :
 Blk w' p 129 #[ls,.int .i64 fi,.int .i64 la,fs,.bool nu]/\PosR p (w'.setCell ⟨p,3,none⟩ (.slice (some ⟨g,0,none⟩) n c)) ls (.slice (some ⟨g,0,none⟩) n c) fi la nu L F'/\PosF p ls fs ls (.slice (some ⟨g,0,none⟩) n c) w (w'.setCell ⟨p,3,none⟩ (.slice (some ⟨g,0,none⟩) n c)):=by
 have hlp:=h.blk.lt
 have hgl:=(hr.lt g rfl).1
 have hb:Blk w' p 129 #[ls,.int .i64 fi,.int .i64 la,fs,.bool nu]:=(hg.block p hlp (fun e=>by have:=(h.fol.lt p e.symm).1;omega)).trans h.blk
 have hf:w'.ownsRow (p+1) 3 1 ls L.length (L.flatMap cI):=ownsRow_block h.lets fun b hb=>hg.block b (h.lets.lt b hb).2 (fun e=>h.apart b hb e.symm)
 refine ⟨hb,⟨hb.set_ 3 _,ownsRow_block hf (fun b hb=>Below.heap_setCell w' ⟨p,3,none⟩ _ b (by have:=(hf.lt b hb).1;simp only;omega)),ownsRow_block hr (fun b hb=>by cases hb;exact Below.heap_setCell w' ⟨p,3,none⟩ _ g (by simp only;omega)),fun b hb1 hb2=>?_⟩,?_⟩
 · cases hb2
   rcases hat with h1 | h1
   · exact h.apart g hb1 h1
   · have:=(h.lets.lt g hb1).2;omega
 · refine ⟨hg.os,hg.tape,hg.output,by simpa [World.setCell] using hg.size,fun b hb h1 h2 h3=>?_,fun b hb=>.inl hb,fun b hb=>?_⟩
   · rw [Below.heap_setCell w' ⟨p,3,none⟩ _ b (by simpa using h1)]
     exact hg.block b hb (fun e=>h3 e.symm)
   · cases hb
     exact hat
def LinkOut (p n:Nat) (ls fs:Value) (fi la:Int) (nu:Bool) (L:List Int) (w:World) (e:Ending) (w':World):Prop:=e=.returned (.tuple #[])/\∃ F',F'.length=n/\PosR p w' ls fs fi la nu L F'/\PosF p ls fs ls fs w w'
set_option maxHeartbeats 4000000 in
theorem l10Link_any (p:Nat) (ls fs:Value) (fi la:Int) (nu:Bool) (L F:List Int) (x y:Int) (w:World) (h:PosR p w ls fs fi la nu L F) :
 Calls Tryz.prog 109 #[.pointer (some ⟨p,0,none⟩),.int .i64 x,.int .i64 y] w (LinkOut p F.length ls fs fi la nu L w):=by
 obtain ⟨A,c,rfl,hnc,hcm,hA⟩:=ownSl h.fol
 obtain ⟨n,hn⟩:∃ n,n=F.length:=⟨_,rfl⟩
 rw [<- hn] at hnc hA h ⊢
 have H0:=Hd_ h
 have HN:=Hd_ hn
 clear h hn
 go_enter Tryz.func109,Tryz.ntmps109
 go_wp2_with fail
 go_loopw [6] (fun ii wr=>∃ (i:Nat) (F':List Int),i<=n/\ii=.int .i64 (i:Int)/\F'.length=n/\PosR p wr ls (.slice A n c) fi la nu L F'/\PosF p ls (.slice A n c) ls (.slice A n c) w wr) (fun ii _=>n - (intOf ii).toNat)
 case atStart=>exact ⟨0,F,Nat.zero_le _,rfl,HN.out.symm,H0.out,PosF.refl _ _ _ _⟩
 case round =>
  obtain ⟨i,F',hi,rfl,hF,hR,hP⟩:=hrel
  have HF:=Hd_ hF
  have HR:=Hd_ hR
  have HP:=Hd_ hP
  have x3:wr.cell? ⟨p,3,none⟩=some (.slice A n c):=hR.blk.cell 3
  have hlp:=hR.blk.lt
  clear hF hR hP H0
  by_cases hlt:i < n
  · have hii:(i:Int) < (n:Int):=by omega
    obtain ⟨g,rfl⟩:=hA (by omega)
    have hrow:wr.ownsRow (p+1) 3 1 (.slice (some ⟨g,0,none⟩) n c) n (F'.flatMap cI):=by
     have h:=HR.out.fol
     rw [HF.out] at h
     exact h
    have e0:=World.ownsRow.cellAt hrow i (by omega)
    have f0:=World.ownsRow.frozenAt hrow i
    have hiF:i < F'.length:=by have:=HF.out;omega
    obtain ⟨z,hxi⟩:∃ z,F'[i]?=some z:=⟨_,List.getElem?_eq_getElem hiF⟩
    rw [show (F'.flatMap cI)[i]?=some (.int .i64 z) by have:=flat_at (E:=cI) (k:=1) cI_len hxi 0 _ rfl;simpa using this] at e0
    have hgl:=(hrow.lt g rfl).2
    have hgp:=(hrow.lt g rfl).1
    have HST:=Hd_ (fun u:Int=>HR.out.setF HF.out i u)
    clear hrow hxi hiF
    go_wp2_with fail
    · go_region
      go_wp2_with fail
      go_roundw
      case rel=>exact ⟨i+1,F'.set i _,by omega,by go_num,by rw [List.length_set];exact HF.out,(HST.out _).1.below ((Below.refl _ _).drew),HP.out.trans ((HST.out _).2.trans (PosF.below ((Below.refl _ _).drew)))⟩
      case measure=>simp [intOf];omega
    · go_roundw
      case rel=>exact ⟨i+1,F',by omega,by go_num,HF.out,HR.out,HP.out⟩
      case measure=>simp [intOf];omega
  · have hii:¬ (i:Int) < (n:Int):=by omega
    go_wp2_with fail
    go_end0
    exact ⟨rfl,F',HF.out,HR.out,HP.out⟩
/-- positions that were laid: they read as letters and followers -/
def PosV (lo hi:Nat) (w:World) (v:Value) (L F:List Int):Prop:=∃ ls fs fi la nu,v=.agg #[ls,.int .i64 fi,.int .i64 la,fs,.bool nu]/\SlI lo hi w cI 1 ls L/\SlI lo hi w cI 1 fs F/\L.length=F.length
theorem PosV.below {lo hi:Nat} {w w':World} {v:Value} {L F:List Int} (h:PosV lo hi w v L F) {B:Nat} (hb:Below B w w') (hB:hi<=B):PosV lo hi w' v L F:=by
 obtain ⟨ls,fs,fi,la,nu,rfl,h1,h2,h3⟩:=h
 exact ⟨ls,fs,fi,la,nu,rfl,h1.below hb hB,h2.below hb hB,h3⟩
theorem PosV.mono {lo hi lo' hi':Nat} {w:World} {v:Value} {L F:List Int} (h:PosV lo hi w v L F) (h1:lo'<=lo) (h2:hi<=hi'):PosV lo' hi' w v L F:=by
 obtain ⟨ls,fs,fi,la,nu,rfl,g1,g2,g3⟩:=h
 exact ⟨ls,fs,fi,la,nu,rfl,g1.mono h1 h2,g2.mono h1 h2,g3⟩
theorem PosV.keep {w w':World} {v:Value} {L F:List Int} (h:PosV 0 w.heap.size w v L F) (hb:Below w.heap.size w w'):PosV 0 w'.heap.size w' v L F:=(h.below hb (Nat.le_refl _)).mono (Nat.le_refl _) hb.size
theorem PosV.only {lo hi:Nat} {w w':World} {v:Value} {L F:List Int} (h:PosV lo hi w v L F) {a b:Nat} (hb:Only a b w w') (hh:hi<=w.heap.size) (ho:hi<=a ∨ b<=lo):PosV lo hi w' v L F:=by
 obtain ⟨ls,fs,fi,la,nu,rfl,h1,h2,h3⟩:=h
 exact ⟨ls,fs,fi,la,nu,rfl,h1.only hb hh ho,h2.only hb hh ho,h3⟩
theorem PosV.zero (lo hi:Nat) (w:World):PosV lo hi w (.agg #[.slice none 0 0,.int .i64 0,.int .i64 0,.slice none 0 0,.bool false]) [] []:=⟨_,_,_,_,_,rfl,SlI.nil _ _ _ _ _,SlI.nil _ _ _ _ _,rfl⟩
def AccOut (w:World) (e:Ending) (w':World):Prop:=∃ b,e=.returned (.bool b)/\Below w.heap.size w w'
set_option maxHeartbeats 2000000 in
theorem l10Accepts_any (v:Value) (L F:List Int) (s:Int) (w:World) (hv:PosV 0 w.heap.size w v L F) :
 Calls Tryz.prog 102 #[v,.int .i64 s] w (AccOut w):=by
 obtain ⟨ls,fs,fi,la,nu,rfl,h1,h2,-⟩:=hv
 obtain ⟨A1,n1,c1,rfl⟩:=h1.shape
 obtain ⟨A2,n2,c2,rfl⟩:=h2.shape
 clear h1 h2
 have hb0:=(Below.refl w.heap.size w).alloc (Nat.le_refl _) (.cells #[.slice A1 n1 c1,.int .i64 fi,.int .i64 la,.slice A2 n2 c2,.bool nu] 129)
 go_enter Tryz.func102,Tryz.ntmps102
 go_wp2_with fail
 all_goals (go_ret;exact ⟨_,rfl,(Below.refl _ _).alloc (Nat.le_refl _) _⟩)
def AftOut (w:World) (e:Ending) (w':World):Prop:=∃ x:Int,e=.returned (.int .i64 x)/\Below w.heap.size w w'
set_option maxHeartbeats 4000000 in
theorem l10After_any (v:Value) (L F:List Int) (s k:Int) (w:World) (hv:PosV 0 w.heap.size w v L F) :
 Calls Tryz.prog 100 #[v,.int .i64 s,.int .i64 k] w (AftOut w):=by
 obtain ⟨ls,fs,fi,la,nu,rfl,⟨A1,c1,rfl,hl1,hm1,hx1⟩,⟨A2,c2,rfl,hl2,hm2,hx2⟩,hLF⟩:=hv
 unfold maxLen at hm1 hm2
 obtain ⟨n,hn⟩:∃ n,n=L.length:=⟨_,rfl⟩
 rw [<- hLF] at hl2 ⊢
 rw [<- hn] at hl1 hl2 hLF ⊢
 have HN:=Hd_ hn
 have HF:=Hd_ hLF
 have HX1:=Hd_ hx1
 have HX2:=Hd_ hx2
 have hb0:=(Below.refl w.heap.size w).alloc (Nat.le_refl _) (.cells #[.slice A1 n c1,.int .i64 fi,.int .i64 la,.slice A2 n c2,.bool nu] 129)
 have hbk:=Blk.new w 129 #[.slice A1 n c1,.int .i64 fi,.int .i64 la,.slice A2 n c2,.bool nu] _ rfl
 clear hn hLF hx1 hx2
 go_enter Tryz.func100,Tryz.ntmps100
 go_upto_region 1 with fail
 generalize w.alloc (.cells #[.slice A1 n c1,.int .i64 fi,.int .i64 la,.slice A2 n c2,.bool nu] 129)=W0 at *
 have x0:W0.cell? ⟨w.heap.size,0,none⟩=some (.slice A1 n c1):=hbk.cell 0
 have x1:W0.cell? ⟨w.heap.size,1,none⟩=some (.int .i64 fi):=hbk.cell 1
 have x3:W0.cell? ⟨w.heap.size,3,none⟩=some (.slice A2 n c2):=hbk.cell 3
 have HB0:=Hd_ hb0
 clear hb0 hbk
 go_wp2_with fail
 all_goals
  go_loop [7,8] (fun mm ii=>∃ (i:Nat) (m:Int),i<=n/\mm=.int .i64 m/\ii=.int .i64 (i:Int)) (fun _ ii=>n - (intOf ii).toNat)
  case atStart=>exact ⟨0,_,Nat.zero_le _,rfl,rfl⟩
  case round =>
   obtain ⟨i,m,hi,rfl,rfl⟩:=hrel
   by_cases hlt:i < n
   · have hii:(i:Int) < (n:Int):=by omega
     have hp0:(0:Int)<=(i:Int)+1:=by omega
     have hp1:((i:Int)+1).toNat=i+1:=by omega
     have hp2:¬ (i:Int)+1 < 0:=by omega
     obtain ⟨y,hy⟩:∃ y,F[i]?=some y:=⟨_,List.getElem?_eq_getElem (by have:=HF.out;omega)⟩
     obtain ⟨q,o,rfl,-,hq,hcc⟩:=HX2.out i _ hy
     have e0:=(HB0.out.cell (p:=⟨q,o+i * 1+0,none⟩) hq).trans (hcc 0 _ rfl)
     simp only [Nat.add_zero,Nat.mul_one] at e0
     clear hcc hy
     go_wp2_with fail
     all_goals
      go_round
      case rel=>exact ⟨i+1,_,by omega,rfl,by go_num⟩
      case measure=>simp [intOf];omega
   · have hii:¬ (i:Int) < (n:Int):=by omega
     go_wp2_with fail
     go_loop [9,10] (fun mm ii=>∃ (i:Nat) (m:Int),i<=n/\mm=.int .i64 m/\ii=.int .i64 (i:Int)) (fun _ ii=>n - (intOf ii).toNat)
     case atStart=>exact ⟨0,_,Nat.zero_le _,rfl,rfl⟩
     case round =>
      obtain ⟨j,m2,hj,rfl,rfl⟩:=hrel
      by_cases hjt:j < n
      · have hjj:(j:Int) < (n:Int):=by omega
        have hp0:(0:Int)<=(j:Int)+1:=by omega
        have hp1:((j:Int)+1).toNat=j+1:=by omega
        have hp2:¬ (j:Int)+1 < 0:=by omega
        obtain ⟨y,hy⟩:∃ y,L[j]?=some y:=⟨_,List.getElem?_eq_getElem (by have:=HN.out;omega)⟩
        obtain ⟨q,o,rfl,-,hq,hcc⟩:=HX1.out j _ hy
        have e0:=(HB0.out.cell (p:=⟨q,o+j * 1+0,none⟩) hq).trans (hcc 0 _ rfl)
        simp only [Nat.add_zero,Nat.mul_one] at e0
        clear hcc hy
        go_wp2_with fail
        all_goals
         go_round
         case rel=>exact ⟨j+1,_,by omega,rfl,by go_num⟩
         case measure=>simp [intOf];omega
      · have hjj:¬ (j:Int) < (n:Int):=by omega
        go_wp2_with fail
        go_ret
        exact ⟨_,rfl,HB0.out⟩
def BldOut (p:Nat) (ls fs:Value) (fi la:Int) (nu:Bool) (N:Nat) (w:World) (e:Ending) (w':World):Prop :=
 ∃ (b:Bool) (x y:Int) (ls' fs':Value) (L' F':List Int),e=.returned (.agg #[.bool b,.int .i64 x,.int .i64 y])/\PosR p w' ls' fs' fi la nu L' F'/\L'.length=F'.length/\L'.length<=N/\PosF p ls fs ls' fs' w w'
/-- the state of a build: the result's block r, the token's behind it -/
structure BldR (p r:Nat) (w0 w:World) (ls0 fs0 ls fs:Value) (fi la:Int) (nu:Bool) (L F:List Int):Prop where
 pos:PosR p w ls fs fi la nu L F
 len:L.length=F.length
 res:Blk w r 149 #[.bool false,.int .i64 0,.int .i64 0]
 frm:PosF p ls0 fs0 ls fs w0 w
 at0:w0.heap.size=r
 ltp:p < r
 old:ls0.ownBlock ≠ some r/\fs0.ownBlock ≠ some r
 farl:ls.ownBlock ≠ some r
 farf:fs.ownBlock ≠ some r
section
variable {p r:Nat} {w0 w w':World} {ls0 fs0 ls fs ls' fs':Value} {fi la:Int} {nu:Bool} {L F L' F':List Int}
theorem BldR.next (h:BldR p r w0 w ls0 fs0 ls fs fi la nu L F) (hp:PosR p w' ls' fs' fi la nu L' F') (hl:L'.length=F'.length) (hf:PosF p ls fs ls' fs' w w'):BldR p r w0 w' ls0 fs0 ls' fs' fi la nu L' F':=by
 have hr:=h.res.lt
 exact ⟨hp,hl,hf.blk h.res (by have:=h.ltp;omega) h.farl h.farf,h.frm.trans hf,h.at0,h.ltp,h.old,fun e=>(hf.newl r e).elim h.farl (fun e=>by omega),fun e=>(hf.newf r e).elim h.farf (fun e=>by omega)⟩
theorem BldR.below (h:BldR p r w0 w ls0 fs0 ls fs fi la nu L F) (hb:Below w.heap.size w w'):BldR p r w0 w' ls0 fs0 ls fs fi la nu L F:=h.next (h.pos.below hb) h.len (PosF.below hb)
theorem BldR.done (h:BldR p r w0 w ls0 fs0 ls fs fi la nu L F) (a b c:Value) :
 PosR p (((w.setCell ⟨r,0,none⟩ a).setCell ⟨r,1,none⟩ b).setCell ⟨r,2,none⟩ c) ls fs fi la nu L F/\PosF p ls0 fs0 ls fs w0 (((w.setCell ⟨r,0,none⟩ a).setCell ⟨r,1,none⟩ b).setCell ⟨r,2,none⟩ c):=by
 have ho:Only r (r+1) w (((w.setCell ⟨r,0,none⟩ a).setCell ⟨r,1,none⟩ b).setCell ⟨r,2,none⟩ c) :=
  (((Only.refl r (r+1) w).setCell (p:=⟨r,0,none⟩) (.inl ⟨Nat.le_refl _,Nat.lt_succ_self _⟩) a).setCell (p:=⟨r,1,none⟩) (.inl ⟨Nat.le_refl _,Nat.lt_succ_self _⟩) b).setCell (p:=⟨r,2,none⟩) (.inl ⟨Nat.le_refl _,Nat.lt_succ_self _⟩) c
 have hk:∀ n,n < w.heap.size->n ≠ r->(((w.setCell ⟨r,0,none⟩ a).setCell ⟨r,1,none⟩ b).setCell ⟨r,2,none⟩ c).heap[n]?=w.heap[n]?:=fun n hn hr=>ho.block n hn (by omega)
 have hp:=h.pos
 have hlt:=h.ltp
 refine ⟨⟨(hk p hp.blk.lt (by omega)).trans hp.blk,ownsRow_block hp.lets fun g hg=>hk g (hp.lets.lt g hg).2 (fun e=>h.farl (by rw [<- e];exact hg)),ownsRow_block hp.fol fun g hg=>hk g (hp.fol.lt g hg).2 (fun e=>h.farf (by rw [<- e];exact hg)),hp.apart⟩,?_⟩
 have hf:=h.frm
 exact ⟨ho.os.trans hf.os,ho.tape.trans hf.tape,ho.output.trans hf.output,Nat.le_trans hf.size ho.size,fun n h1 h2 h3 h4=>(hk n (Nat.lt_of_lt_of_le h1 hf.size) (by have:=h.at0;omega)).trans (hf.block n h1 h2 h3 h4),hf.newl,hf.newf⟩
end
set_option maxRecDepth 100000 in
set_option maxHeartbeats 8000000 in
theorem l10Build_any (p:Nat) (fi la:Int) (nu:Bool):∀ (r:Tr) (ss ls fs:Value) (L F:List Int) (w:World),r.ok->SlI 0 p w cEd 4 ss (post r)->PosR p w ls fs fi la nu L F->L.length=F.length->L.length+(post r).length<=1048576 ->
 Calls Tryz.prog 97 #[.pointer (some ⟨p,0,none⟩),ss] w (BldOut p ls fs fi la nu (L.length+(post r).length) w)
 | .leaf t,ss,ls,fs,L,F,w,hr,hsl,hpos,hLF,hlen=>by
   obtain ⟨t0,t1,t2,t3⟩:=t
   have hk:=ar_leaf hr
   simp only at hk
   rw [post] at hsl hlen ⊢
   obtain ⟨A,c,rfl,hl,hm,hx⟩:=hsl
   unfold maxLen at hm
   obtain ⟨q,o,rfl,-,hq,hcc⟩:=hx 0 (t0,t1,t2,t3) rfl
   have hqw:q < w.heap.size:=by have:=hpos.blk.lt;omega
   have e0:=hcc 0 _ rfl
   have e1:=hcc 1 _ rfl
   have e2:=hcc 2 _ rfl
   have e3:=hcc 3 _ rfl
   simp only [Nat.add_zero,Nat.zero_mul,Nat.add_zero] at e0 e1 e2 e3
   have hN:L.length+[((t0,t1,t2,t3):Tok)].length=L.length+1:=rfl
   rw [hN] at hlen ⊢
   clear hx hcc hr hN
   have HLB:=Hd_ (fun b hb=>(hpos.lets.lt b hb).2)
   have HFB:=Hd_ (fun b hb=>(hpos.fol.lt b hb).2)
   have hb0:=((Below.refl w.heap.size w).alloc (Nat.le_refl _) (.cells #[.bool false,.int .i64 0,.int .i64 0] 149)).alloc (by simp) (.cells #[.int .i64 t0,.int .i64 t1,.int .i64 t2,.int .i64 t3] 147)
   have hbr:=(Blk.new w 149 #[.bool false,.int .i64 0,.int .i64 0] _ rfl).alloc (.cells #[.int .i64 t0,.int .i64 t1,.int .i64 t2,.int .i64 t3] 147)
   have hbt:=Blk.new (w.alloc (.cells #[.bool false,.int .i64 0,.int .i64 0] 149)) 147 #[.int .i64 t0,.int .i64 t1,.int .i64 t2,.int .i64 t3] (w.heap.size+1) (by simp)
   have hs0:((w.alloc (.cells #[.bool false,.int .i64 0,.int .i64 0] 149)).alloc (.cells #[.int .i64 t0,.int .i64 t1,.int .i64 t2,.int .i64 t3] 147)).heap.size=w.heap.size+2:=by simp
   have hlw:=hpos.blk.lt
   have hBR:=show BldR p w.heap.size w ((w.alloc (.cells #[.bool false,.int .i64 0,.int .i64 0] 149)).alloc (.cells #[.int .i64 t0,.int .i64 t1,.int .i64 t2,.int .i64 t3] 147)) ls fs ls fs fi la nu L F from
    ⟨hpos.below hb0,hLF,hbr,PosF.below hb0,rfl,hlw,⟨fun e=>by have:=(hpos.lets.lt _ e).2;omega,fun e=>by have:=(hpos.fol.lt _ e).2;omega⟩,fun e=>by have:=(hpos.lets.lt _ e).2;omega,fun e=>by have:=(hpos.fol.lt _ e).2;omega⟩
   rcases hk with rfl | rfl | rfl
   · skip
     go_enter Tryz.func97,Tryz.ntmps97
     go_upto_region 3 with fail
     generalize ((w.alloc (.cells #[.bool false,.int .i64 0,.int .i64 0] 149)).alloc (.cells #[.int .i64 (1),.int .i64 (t1),.int .i64 (t2),.int .i64 (t3)] 147))=W0 at *
     have k0:W0.cell? ⟨w.heap.size+1,0,none⟩=some (.int .i64 (1)):=hbt.cell 0
     have k1:W0.cell? ⟨w.heap.size+1,1,none⟩=some (.int .i64 (t1)):=hbt.cell 1
     have HBR:=Hd_ hBR
     have HB0:=Hd_ hb0
     have HBT:=Hd_ hbt
     have hlt1:=hbt.lt
     clear e0 e1 e2 e3 hbr hb0 hbt hBR hpos hs0
     have z0:W0.cell? ⟨w.heap.size,0,none⟩=some (.bool false):=HBR.out.res.cell 0
     have z1:W0.cell? ⟨w.heap.size,1,none⟩=some (.int .i64 0):=HBR.out.res.cell 1
     have z2:W0.cell? ⟨w.heap.size,2,none⟩=some (.int .i64 0):=HBR.out.res.cell 2
     have v0:=HBR.out.res.frozen 0
     have v1:=HBR.out.res.frozen 1
     have v2:=HBR.out.res.frozen 2
     have hlr:=HBR.out.res.lt
     go_wp2_with fail
     have HD:=HBR.out.done (.bool (false)) (.int .i64 (0)) (.int .i64 (0))
     exact bodyPost_ret (v:=.agg #[.bool (false),.int .i64 (0),.int .i64 (0)]) (by simp [results,Tryz.results97,go_sem,z0,z1,z2,v0,v1,v2,hlr]) rfl ⟨_,_,_,_,_,_,_,rfl,HD.1,HBR.out.len,by omega,HD.2⟩
   · skip
     go_enter Tryz.func97,Tryz.ntmps97
     go_upto_region 3 with fail
     generalize ((w.alloc (.cells #[.bool false,.int .i64 0,.int .i64 0] 149)).alloc (.cells #[.int .i64 (2),.int .i64 (t1),.int .i64 (t2),.int .i64 (t3)] 147))=W0 at *
     have k0:W0.cell? ⟨w.heap.size+1,0,none⟩=some (.int .i64 (2)):=hbt.cell 0
     have k1:W0.cell? ⟨w.heap.size+1,1,none⟩=some (.int .i64 (t1)):=hbt.cell 1
     have HBR:=Hd_ hBR
     have HB0:=Hd_ hb0
     have HBT:=Hd_ hbt
     have hlt1:=hbt.lt
     clear e0 e1 e2 e3 hbr hb0 hbt hBR hpos hs0
     have z0:W0.cell? ⟨w.heap.size,0,none⟩=some (.bool false):=HBR.out.res.cell 0
     have z1:W0.cell? ⟨w.heap.size,1,none⟩=some (.int .i64 0):=HBR.out.res.cell 1
     have z2:W0.cell? ⟨w.heap.size,2,none⟩=some (.int .i64 0):=HBR.out.res.cell 2
     have v0:=HBR.out.res.frozen 0
     have v1:=HBR.out.res.frozen 1
     have v2:=HBR.out.res.frozen 2
     have hlr:=HBR.out.res.lt
     go_wp2_with fail
     have HD:=HBR.out.done (.bool (true)) (.int .i64 (0)) (.int .i64 (0))
     exact bodyPost_ret (v:=.agg #[.bool (true),.int .i64 (0),.int .i64 (0)]) (by simp [results,Tryz.results97,go_sem,z0,z1,z2,v0,v1,v2,hlr]) rfl ⟨_,_,_,_,_,_,_,rfl,HD.1,HBR.out.len,by omega,HD.2⟩
   · skip
     go_enter Tryz.func97,Tryz.ntmps97
     go_upto_region 3 with fail
     generalize ((w.alloc (.cells #[.bool false,.int .i64 0,.int .i64 0] 149)).alloc (.cells #[.int .i64 (3),.int .i64 (t1),.int .i64 (t2),.int .i64 (t3)] 147))=W0 at *
     have k0:W0.cell? ⟨w.heap.size+1,0,none⟩=some (.int .i64 (3)):=hbt.cell 0
     have k1:W0.cell? ⟨w.heap.size+1,1,none⟩=some (.int .i64 (t1)):=hbt.cell 1
     have HBR:=Hd_ hBR
     have HB0:=Hd_ hb0
     have HBT:=Hd_ hbt
     have hlt1:=hbt.lt
     clear e0 e1 e2 e3 hbr hb0 hbt hBR hpos hs0
     obtain ⟨A1,c1,rfl,hnc1,hcm1,-⟩:=ownSl HBR.out.pos.lets
     obtain ⟨A2,c2,rfl,hnc2,hcm2,-⟩:=ownSl HBR.out.pos.fol
     have x0:W0.cell? ⟨p,0,none⟩=some (.slice A1 L.length c1):=HBR.out.pos.blk.cell 0
     have HLF:=Hd_ hLF
     clear hLF
     go_upto_region 8 with fail
     refine F_start 11 (fun w'=>w'.cell? ⟨p,0,none⟩=some (.slice A1 L.length c1)/\w'.cell? ⟨w.heap.size+1,1,none⟩=some (.int .i64 t1)) (by kernel_rfl) (by exact ⟨x0,k1⟩) (fun hS inv=>?_)
     refine F_tk 0 inv ?_
     try simp only [tA,tB,tC,Act.put,tE,tF,tG]
     clear inv;intro inv
     refine F_tk 1 inv ?_
     try simp only [tA,tB,tC,Act.put,tE,tF,tG]
     clear inv;intro inv
     refine F_tk 2 inv ?_
     try simp only [tA,tB,tC,Act.put,tE,tF,tG]
     clear inv;intro inv
     refine F_tk 3 inv ?_
     try simp only [tA,tB,tC,Act.put,tE,tF,tG]
     clear inv;intro inv
     refine F_tk 4 inv ?_
     try simp only [tA,tB,tC,Act.put,tE,tF,tG]
     clear inv;intro inv
     refine F_tk 5 inv ?_
     try simp only [tA,tB,tC,Act.put,tE,tF,tG]
     clear inv;intro inv
     refine F_tk 6 inv ?_
     try simp only [tA,tB,tC,Act.put,tE,tF,tG]
     clear inv;intro inv
     refine F_o1 7 inv ?_;intro K hK
     try simp only [tA,tB,tC]
     go_simp
     have hal:Below W0.heap.size W0 (W0.alloc (.cells #[.int .i64 t1] 3)).drew:=((Below.refl _ _).alloc (Nat.le_refl _) _).drew
     have HB1:=Hd_ (HBR.out.below hal)
     have HT1:=Hd_ (HBT.out.keep hal)
     refine hK.out _ _ (⟨HB1.out.pos.blk.cell 0,HT1.out.cell 1⟩) (fun _ _=>?_)
     try simp only [tA,tB,tC,Act.put,tE,tF,tG]
     clear hK K inv hS;rename_i hS inv
     clear hal HBR HBT x0 k1 k0
     refine F_o1 8 inv ?_;intro K hK
     try simp only [tA,tB,tC]
     refine op_append1 cI elInt rfl _ _ (by rfl) (p+1) _ L t1 1 _ (by rfl) HB1.out.pos.lets (by first | rfl | simp) (heap_alloc_new _ _) rfl (cI_one _) (by omega) (by omega) (by have:=HB1.out.pos.blk.lt;omega) ?_
     intro g2 cp2 w9 hown3 hgr3 hat3 hlt3
     have HP:=Hd_ (HB1.out.pos.pushL hown3 hgr3 hat3)
     have HT9:=Hd_ (show Blk w9 (w.heap.size+1) _ _ from (hgr3.block _ HT1.out.lt (fun e=>by have:=HLB.out _ e.symm;omega)).trans HT1.out)
     clear hown3 hgr3 hat3
     refine hK.out _ _ (⟨HP.out.1.cell 0,HT9.out.cell 1⟩) (fun _ _=>?_)
     try simp only [tA,tB,tC,Act.put,tE,tF,tG]
     clear hK K inv hS;rename_i hS inv
     refine F_tk 9 inv ?_
     try simp only [tA,tB,tC,Act.put,tE,tF,tG]
     clear inv;intro inv
     refine F_tk 10 inv ?_
     try simp only [tA,tB,tC,Act.put,tE,tF,tG]
     clear inv;intro inv
     have f0:=HP.out.1.frozen 0
     have lp:=HP.out.1.lt
     refine F_l1 11 ?_;intro K hK
     go_simp
     refine hK _ _ ?_
     clear hK K inv hS
     have HQ:=Hd_ HP.out.2
     have HTQ:=Hd_ (HT9.out.far (p:=⟨p,0,none⟩) (by simp only;omega) (.slice (some ⟨g2,0,none⟩) (L.length+1) cp2))
     generalize w9.setCell ⟨p,0,none⟩ (.slice (some ⟨g2,0,none⟩) (L.length+1) cp2)=w10 at *
     have hfl:F.length+1<=1048576:=by have:=HLF.out;omega
     have x3:w10.cell? ⟨p,3,none⟩=some (.slice A2 F.length c2):=HQ.out.1.blk.cell 3
     have lp:=HQ.out.1.blk.lt
     clear HP HT9 f0
     go_upto_region 10 with (at_builtin;(refine wpList_append2 cI elInt rfl _ _ (by rfl) (p+1) _ F 0 1 _ (by rfl) (HQ.out.1.fol.alloc _) (by rfl) (heap_alloc_new _ _) rfl (cI_one _) (by omega) (by omega) (by simp;omega) ?_);intro g3 cp3 w11 hown4 hgr4 hat4 hlt4;have HP:=Hd_ ((HQ.out.1.below ((Below.refl _ _).alloc (Nat.le_refl _) (.cells #[.int .i64 0] 3))).pushF hown4 hgr4 hat4);have y3:w11.cell? ⟨p,3,none⟩=some (.slice A2 F.length c2):=HP.out.1.cell 3;have f3:=HP.out.1.frozen 3;have lp2:=HP.out.1.lt;clear hown4 hgr4 hat4)
     have HQ2:=Hd_ HP.out.2
     generalize w11.setCell ⟨p,3,none⟩ (.slice (some ⟨g3,0,none⟩) (F.length+1) cp3)=w12 at *
     have hfin:BldR p w.heap.size w w12 _ _ _ _ fi la nu (L ++ [t1]) (F ++ [0]):=HB1.out.next HQ2.out.1 (by have:=HLF.out;simp;omega) (HQ.out.2.trans ((PosF.below ((Below.refl _ _).alloc (Nat.le_refl _) (.cells #[.int .i64 0] 3))).trans HQ2.out.2))
     have HFIN:=Hd_ hfin
     clear hfin HQ HQ2 HP y3 f3 lp2 x3 HTQ lp HB1 HT1
     generalize wrap64 (2 ^ min L.length 64)=bt
     have z0:w12.cell? ⟨w.heap.size,0,none⟩=some (.bool false):=HFIN.out.res.cell 0
     have z1:w12.cell? ⟨w.heap.size,1,none⟩=some (.int .i64 0):=HFIN.out.res.cell 1
     have z2:w12.cell? ⟨w.heap.size,2,none⟩=some (.int .i64 0):=HFIN.out.res.cell 2
     have v0:=HFIN.out.res.frozen 0
     have v1:=HFIN.out.res.frozen 1
     have v2:=HFIN.out.res.frozen 2
     have hlr:=HFIN.out.res.lt
     go_wp2_with fail
     have HD:=HFIN.out.done (.bool (false)) (.int .i64 (bt)) (.int .i64 (bt))
     exact bodyPost_ret (v:=.agg #[.bool (false),.int .i64 (bt),.int .i64 (bt)]) (by simp [results,Tryz.results97,go_sem,z0,z1,z2,v0,v1,v2,hlr]) rfl ⟨_,_,_,_,_,_,_,rfl,HD.1,HFIN.out.len,by simp,HD.2⟩
 | .un t a,ss,ls,fs,L,F,w,hr,hsl,hpos,hLF,hlen=>by
   have ht:=ar_un hr.1
   obtain ⟨m,hm0⟩:∃ m,m=(post a).length:=⟨_,rfl⟩
   rw [post] at hsl hlen ⊢
   have hlq:(post a ++ [t]).length=m+1:=by rw [List.length_append,hm0];rfl
   rw [hlq] at hlen ⊢
   have h0:=hsl
   obtain ⟨A,c,rfl,hl,hm,hx⟩:=hsl
   rw [hlq] at hl h0 ⊢
   unfold maxLen at hm
   have hxi:(post a ++ [t])[m]?=some t:=by rw [List.getElem?_append_right (by omega)];simp [hm0]
   obtain ⟨q,o,rfl,-,hq,hcc⟩:=hx _ t hxi
   have hqw:q < w.heap.size:=by have:=hpos.blk.lt;omega
   obtain ⟨t0,t1,t2,t3⟩:=t
   have e0:=hcc 0 _ rfl
   have e1:=hcc 1 _ rfl
   have e2:=hcc 2 _ rfl
   have e3:=hcc 3 _ rfl
   simp only [Nat.add_zero] at e0
   have hmc1:m<=c:=by omega
   have h2:SlI 0 p w cEd 4 (.slice (some ⟨q,o,none⟩) m c) (post a):=SlI.headT h0 hm0.symm
   have HIH:=Hd_ (fun (ls' fs':Value) (L' F':List Int) (W:World) (hW:Below p w W) hp hl hn=>l10Build_any p fi la nu a _ ls' fs' L' F' W hr.2 (h2.below hW (Nat.le_refl _)) hp hl hn)
   rw [<- hm0] at HIH
   clear hx hcc hxi h0 h2 hm0 hlq hr
   have hb0:=((Below.refl w.heap.size w).alloc (Nat.le_refl _) (.cells #[.bool false,.int .i64 0,.int .i64 0] 149)).alloc (by simp) (.cells #[.int .i64 t0,.int .i64 t1,.int .i64 t2,.int .i64 t3] 147)
   have hbr:=(Blk.new w 149 #[.bool false,.int .i64 0,.int .i64 0] _ rfl).alloc (.cells #[.int .i64 t0,.int .i64 t1,.int .i64 t2,.int .i64 t3] 147)
   have hbt:=Blk.new (w.alloc (.cells #[.bool false,.int .i64 0,.int .i64 0] 149)) 147 #[.int .i64 t0,.int .i64 t1,.int .i64 t2,.int .i64 t3] (w.heap.size+1) (by simp)
   have hs0:((w.alloc (.cells #[.bool false,.int .i64 0,.int .i64 0] 149)).alloc (.cells #[.int .i64 t0,.int .i64 t1,.int .i64 t2,.int .i64 t3] 147)).heap.size=w.heap.size+2:=by simp
   have hlw:=hpos.blk.lt
   have hBR:=show BldR p w.heap.size w ((w.alloc (.cells #[.bool false,.int .i64 0,.int .i64 0] 149)).alloc (.cells #[.int .i64 t0,.int .i64 t1,.int .i64 t2,.int .i64 t3] 147)) ls fs ls fs fi la nu L F from
    ⟨hpos.below hb0,hLF,hbr,PosF.below hb0,rfl,hlw,⟨fun e=>by have:=(hpos.lets.lt _ e).2;omega,fun e=>by have:=(hpos.fol.lt _ e).2;omega⟩,fun e=>by have:=(hpos.lets.lt _ e).2;omega,fun e=>by have:=(hpos.fol.lt _ e).2;omega⟩
   have HLF:=Hd_ hLF
   clear hLF
   rcases ht with ht | ⟨ht0,ht1,ht2,ht3,ht4,ht5⟩
   · injection ht with ht0 ht1
     injection ht1 with ht1 ht2
     injection ht2 with ht2 ht3
     subst ht0 ht1 ht2 ht3
     go_enter Tryz.func97,Tryz.ntmps97
     go_upto_region 3 with fail
     generalize ((w.alloc (.cells #[.bool false,.int .i64 0,.int .i64 0] 149)).alloc (.cells #[.int .i64 (6),.int .i64 (0),.int .i64 (0),.int .i64 (0)] 147))=W0 at *
     have k0:W0.cell? ⟨w.heap.size+1,0,none⟩=some (.int .i64 (6)):=hbt.cell 0
     have k1:W0.cell? ⟨w.heap.size+1,1,none⟩=some (.int .i64 (0)):=hbt.cell 1
     have HBR:=Hd_ hBR
     have HB0:=Hd_ hb0
     have HBT:=Hd_ hbt
     have hlt1:=hbt.lt
     clear e0 e1 e2 e3 hbr hb0 hbt hBR hpos hs0
     clear k1
     go_wp2_with fail
     refine (HIH.out ls fs L F W0 (HB0.out.mono (by omega)) HBR.out.pos HLF.out (by omega)).mono ?_
     rintro e w2 ⟨b,x,y,ls2,fs2,L2,F2,rfl,hp2,hl2,hn2,hf2⟩
     have HB2:=Hd_ (HBR.out.next hp2 hl2 hf2)
     have hlb2:=fun n hn=>(hp2.lets.lt n hn).2
     have hfb2:=fun n hn=>(hp2.fol.lt n hn).2
     have hpb2:=hp2.blk.lt
     clear hf2 hp2 HBR HBT HB0 k0
     have hal:=(Below.refl w2.heap.size w2).alloc (Nat.le_refl _) (.cells #[.bool b,.int .i64 x,.int .i64 y] 149)
     have bq:=Blk.new w2 149 #[.bool b,.int .i64 x,.int .i64 y] _ rfl
     have HB3:=Hd_ (HB2.out.below hal)
     have HQ1:=Hd_ (show ls2.ownBlock ≠ some w2.heap.size from fun e=>by have:=hlb2 _ e;omega)
     have HQ2:=Hd_ (show fs2.ownBlock ≠ some w2.heap.size from fun e=>by have:=hfb2 _ e;omega)
     have HL2:=Hd_ hl2
     clear hal HB2 hlb2 hfb2 hl2
     go_upto_region 29 with fail
     generalize w2.alloc (.cells #[.bool b,.int .i64 x,.int .i64 y] 149)=W3 at *
     have y1:W3.cell? ⟨w2.heap.size,1,none⟩=some (.int .i64 x):=bq.cell 1
     have y2:W3.cell? ⟨w2.heap.size,2,none⟩=some (.int .i64 y):=bq.cell 2
     have hlq:=bq.lt
     have HBQ:=Hd_ bq
     clear bq
     go_wp2_with fail
     refine (l10Link_any p ls2 fs2 fi la nu L2 F2 y x _ HB3.out.pos).mono ?_
     rintro e w4 ⟨rfl,F4,hF4,hp4,hf4⟩
     have HB4:=Hd_ (HB3.out.next hp4 (by have:=HL2.out;omega) hf4)
     have bq4:=hf4.blk HBQ.out (by omega) HQ1.out HQ2.out
     have y1:w4.cell? ⟨w2.heap.size,1,none⟩=some (.int .i64 x):=bq4.cell 1
     have y2:w4.cell? ⟨w2.heap.size,2,none⟩=some (.int .i64 y):=bq4.cell 2
     have hlq:=bq4.lt
     clear hF4 hp4 hf4 bq4 HB3 HBQ
     have z0:w4.cell? ⟨w.heap.size,0,none⟩=some (.bool false):=HB4.out.res.cell 0
     have z1:w4.cell? ⟨w.heap.size,1,none⟩=some (.int .i64 0):=HB4.out.res.cell 1
     have z2:w4.cell? ⟨w.heap.size,2,none⟩=some (.int .i64 0):=HB4.out.res.cell 2
     have v0:=HB4.out.res.frozen 0
     have v1:=HB4.out.res.frozen 1
     have v2:=HB4.out.res.frozen 2
     have hlr:=HB4.out.res.lt
     go_wp2_with fail
     have HD:=HB4.out.done (.bool (true)) (.int .i64 (x)) (.int .i64 (y))
     exact bodyPost_ret (v:=.agg #[.bool (true),.int .i64 (x),.int .i64 (y)]) (by simp [results,Tryz.results97,go_sem,z0,z1,z2,v0,v1,v2,hlr]) rfl ⟨_,_,_,_,_,_,_,rfl,HD.1,HB4.out.len,by omega,HD.2⟩
   · simp only at ht0
     subst ht0
     go_enter Tryz.func97,Tryz.ntmps97
     go_upto_region 3 with fail
     generalize ((w.alloc (.cells #[.bool false,.int .i64 0,.int .i64 0] 149)).alloc (.cells #[.int .i64 (7),.int .i64 (t1),.int .i64 (t2),.int .i64 (t3)] 147))=W0 at *
     have k0:W0.cell? ⟨w.heap.size+1,0,none⟩=some (.int .i64 (7)):=hbt.cell 0
     have k1:W0.cell? ⟨w.heap.size+1,1,none⟩=some (.int .i64 (t1)):=hbt.cell 1
     have HBR:=Hd_ hBR
     have HB0:=Hd_ hb0
     have HBT:=Hd_ hbt
     have hlt1:=hbt.lt
     clear e0 e1 e2 e3 hbr hb0 hbt hBR hpos hs0
     clear k1
     have z0:W0.cell? ⟨w.heap.size,0,none⟩=some (.bool false):=HBR.out.res.cell 0
     have z1:W0.cell? ⟨w.heap.size,1,none⟩=some (.int .i64 0):=HBR.out.res.cell 1
     have z2:W0.cell? ⟨w.heap.size,2,none⟩=some (.int .i64 0):=HBR.out.res.cell 2
     have v0:=HBR.out.res.frozen 0
     have v1:=HBR.out.res.frozen 1
     have v2:=HBR.out.res.frozen 2
     have hlr:=HBR.out.res.lt
     go_wp2_with fail
     have HD:=HBR.out.done (.bool (false)) (.int .i64 (0)) (.int .i64 (0))
     exact bodyPost_ret (v:=.agg #[.bool (false),.int .i64 (0),.int .i64 (0)]) (by simp [results,Tryz.results97,go_sem,z0,z1,z2,v0,v1,v2,hlr]) rfl ⟨_,_,_,_,_,_,_,rfl,HD.1,HBR.out.len,by omega,HD.2⟩
 | .bin t a b,ss,ls,fs,L,F,w,hr,hsl,hpos,hLF,hlen=>by
   have ht:=ar_bin hr.1
   obtain ⟨m,hm0⟩:∃ m,m=(post a).length:=⟨_,rfl⟩
   obtain ⟨j,hj0⟩:∃ j,j=(post b).length:=⟨_,rfl⟩
   have hj1:0 < j:=by rw [hj0];exact post_pos b
   rw [post] at hsl hlen ⊢
   obtain ⟨N,hN⟩:∃ N,N=(post a ++ post b).length:=⟨_,rfl⟩
   have hNm:N=m+j:=by rw [hN,List.length_append,hm0,hj0]
   have hlq:((post a ++ post b) ++ [t]).length=N+1:=by rw [List.length_append,hN];rfl
   rw [hlq] at hlen ⊢
   have h0:=hsl
   obtain ⟨A,c,rfl,hl,hm,hx⟩:=hsl
   rw [hlq] at hl h0 ⊢
   unfold maxLen at hm
   have hxi:((post a ++ post b) ++ [t])[N]?=some t:=by rw [List.getElem?_append_right (by omega)];simp [hN]
   obtain ⟨q,o,rfl,-,hq,hcc⟩:=hx _ t hxi
   have hqw:q < w.heap.size:=by have:=hpos.blk.lt;omega
   obtain ⟨t0,t1,t2,t3⟩:=t
   have e0:=hcc 0 _ rfl
   have e1:=hcc 1 _ rfl
   have e2:=hcc 2 _ rfl
   have e3:=hcc 3 _ rfl
   simp only [Nat.add_zero] at e0
   have h1:SlI 0 p w cEd 4 (.slice (some ⟨q,o,none⟩) N c) (post a ++ post b):=SlI.headT h0 hN.symm
   have h2:SlI 0 p w cEd 4 (.slice (some ⟨q,o,none⟩) m c) (post a):=SlI.headT h1 hm0.symm
   have h3:SlI 0 p w cEd 4 (.slice (some ⟨q,o+m * 4,none⟩) (N - m) (c - m)) (post b):=SlI.tailT h1 hm0.symm (by omega) rfl
   have hpw:=hpos.blk.lt
   have HST:=Hd_ (fun (W:World) (hW:Below p w W) (hs:p<=W.heap.size)=>l8Start_any _ (post a) b W ((h1.below hW (Nat.le_refl _)).mono (Nat.le_refl _) hs) hr.2.2 (by rw [<- hN];omega))
   have HIA:=Hd_ (fun (ls' fs':Value) (L' F':List Int) (W:World) (hW:Below p w W) hp hl hn=>l10Build_any p fi la nu a _ ls' fs' L' F' W hr.2.1 (h2.below hW (Nat.le_refl _)) hp hl hn)
   have HIB:=Hd_ (fun (ls' fs':Value) (L' F':List Int) (W:World) (hW:Below p w W) hp hl hn=>l10Build_any p fi la nu b _ ls' fs' L' F' W hr.2.2 (h3.below hW (Nat.le_refl _)) hp hl hn)
   rw [<- hm0] at HST HIA
   rw [<- hj0] at HIB
   have hmc:¬ c=m:=by omega
   have hmc1:m<=c:=by omega
   have hmc2:N<=c:=by omega
   have hmc3:m<=N:=by omega
   have HNM:=Hd_ hNm
   clear hx hcc hxi h0 h1 h2 h3 hr hm0 hj0 hlq hN hNm
   have HPOS:=Hd_ hpos
   have hb0:=((Below.refl w.heap.size w).alloc (Nat.le_refl _) (.cells #[.bool false,.int .i64 0,.int .i64 0] 149)).alloc (by simp) (.cells #[.int .i64 t0,.int .i64 t1,.int .i64 t2,.int .i64 t3] 147)
   have hbr:=(Blk.new w 149 #[.bool false,.int .i64 0,.int .i64 0] _ rfl).alloc (.cells #[.int .i64 t0,.int .i64 t1,.int .i64 t2,.int .i64 t3] 147)
   have hbt:=Blk.new (w.alloc (.cells #[.bool false,.int .i64 0,.int .i64 0] 149)) 147 #[.int .i64 t0,.int .i64 t1,.int .i64 t2,.int .i64 t3] (w.heap.size+1) (by simp)
   have hs0:((w.alloc (.cells #[.bool false,.int .i64 0,.int .i64 0] 149)).alloc (.cells #[.int .i64 t0,.int .i64 t1,.int .i64 t2,.int .i64 t3] 147)).heap.size=w.heap.size+2:=by simp
   have hlw:=hpos.blk.lt
   have hBR:=show BldR p w.heap.size w ((w.alloc (.cells #[.bool false,.int .i64 0,.int .i64 0] 149)).alloc (.cells #[.int .i64 t0,.int .i64 t1,.int .i64 t2,.int .i64 t3] 147)) ls fs ls fs fi la nu L F from
    ⟨hpos.below hb0,hLF,hbr,PosF.below hb0,rfl,hlw,⟨fun e=>by have:=(hpos.lets.lt _ e).2;omega,fun e=>by have:=(hpos.fol.lt _ e).2;omega⟩,fun e=>by have:=(hpos.lets.lt _ e).2;omega,fun e=>by have:=(hpos.fol.lt _ e).2;omega⟩
   have HLF:=Hd_ hLF
   clear hLF
   rcases ht with ht | ht
   · injection ht with ht0 ht1
     injection ht1 with ht1 ht2
     injection ht2 with ht2 ht3
     subst ht0 ht1 ht2 ht3
     go_enter Tryz.func97,Tryz.ntmps97
     go_upto_region 3 with fail
     generalize ((w.alloc (.cells #[.bool false,.int .i64 0,.int .i64 0] 149)).alloc (.cells #[.int .i64 (4),.int .i64 (0),.int .i64 (0),.int .i64 (0)] 147))=W0 at *
     have k0:W0.cell? ⟨w.heap.size+1,0,none⟩=some (.int .i64 (4)):=hbt.cell 0
     have k1:W0.cell? ⟨w.heap.size+1,1,none⟩=some (.int .i64 (0)):=hbt.cell 1
     have HBR:=Hd_ hBR
     have HB0:=Hd_ hb0
     have HBT:=Hd_ hbt
     have hlt1:=hbt.lt
     clear e0 e1 e2 e3 hbr hb0 hbt hBR hpos hs0
     clear k1
     go_wp2_with fail
     refine (HST.out W0 (HB0.out.mono (by omega)) (by omega)).mono ?_
     rintro e w1 ⟨rfl,hb1⟩
     have HB1:=Hd_ (HBR.out.below hb1)
     clear hb1 HBR HBT HB0 k0
     go_wp2_with fail
     refine (HIA.out ls fs L F w1 (HB1.out.frm.under HPOS.out) HB1.out.pos HLF.out (by omega)).mono ?_
     rintro e w2 ⟨b1,x1,y1,ls2,fs2,L2,F2,rfl,hp2,hl2,hn2,hf2⟩
     have HB2:=Hd_ (HB1.out.next hp2 hl2 hf2)
     have hal:=(Below.refl w2.heap.size w2).alloc (Nat.le_refl _) (.cells #[.bool b1,.int .i64 x1,.int .i64 y1] 149)
     have bq:=Blk.new w2 149 #[.bool b1,.int .i64 x1,.int .i64 y1] _ rfl
     have HB3:=Hd_ (HB2.out.below hal)
     have HQ1:=Hd_ (show ls2.ownBlock ≠ some w2.heap.size from fun e=>by have:=(hp2.lets.lt _ e).2;omega)
     have HQ2:=Hd_ (show fs2.ownBlock ≠ some w2.heap.size from fun e=>by have:=(hp2.fol.lt _ e).2;omega)
     have hpl2:p < w2.heap.size:=hp2.blk.lt
     have HL2:=Hd_ hl2
     clear hal HB2 hl2 hp2 hf2 HB1
     go_upto_region 14 with fail
     generalize w2.alloc (.cells #[.bool b1,.int .i64 x1,.int .i64 y1] 149)=W3 at *
     have HBQ:=Hd_ bq
     clear bq
     go_wp2_with fail
     refine (HIB.out ls2 fs2 L2 F2 W3 (HB3.out.frm.under HPOS.out) HB3.out.pos HL2.out (by have:=HNM.out;omega)).mono ?_
     rintro e w4 ⟨b2,x2,y2,ls4,fs4,L4,F4,rfl,hp4,hl4,hn4,hf4⟩
     have HB4:=Hd_ (HB3.out.next hp4 hl4 hf4)
     have bq4:=hf4.blk HBQ.out (by omega) HQ1.out HQ2.out
     have HQ3:=Hd_ (show ls4.ownBlock ≠ some w2.heap.size from fun e=>(hf4.newl _ e).elim HQ1.out (fun e=>by have:=HBQ.out.lt;omega))
     have HQ4:=Hd_ (show fs4.ownBlock ≠ some w2.heap.size from fun e=>(hf4.newf _ e).elim HQ2.out (fun e=>by have:=HBQ.out.lt;omega))
     have hal:=(Below.refl w4.heap.size w4).alloc (Nat.le_refl _) (.cells #[.bool b2,.int .i64 x2,.int .i64 y2] 149)
     have bs:=Blk.new w4 149 #[.bool b2,.int .i64 x2,.int .i64 y2] _ rfl
     have HB5:=Hd_ (HB4.out.below hal)
     have HBQ5:=Hd_ (bq4.keep hal)
     have HS1:=Hd_ (show ls4.ownBlock ≠ some w4.heap.size from fun e=>by have:=(hp4.lets.lt _ e).2;omega)
     have HS2:=Hd_ (show fs4.ownBlock ≠ some w4.heap.size from fun e=>by have:=(hp4.fol.lt _ e).2;omega)
     have hpl4:p < w4.heap.size:=hp4.blk.lt
     have HL4:=Hd_ hl4
     clear hal HB4 hl4 hp4 hf4 HB3 bq4 HBQ
     go_upto_region 15 with fail
     generalize w4.alloc (.cells #[.bool b2,.int .i64 x2,.int .i64 y2] 149)=W5 at *
     have HBS5:=Hd_ bs
     clear bs
     have q0:W5.cell? ⟨w2.heap.size,0,none⟩=some (.bool b1):=HBQ5.out.cell 0
     have q1:W5.cell? ⟨w2.heap.size,1,none⟩=some (.int .i64 x1):=HBQ5.out.cell 1
     have q2:W5.cell? ⟨w2.heap.size,2,none⟩=some (.int .i64 y1):=HBQ5.out.cell 2
     have p0:W5.cell? ⟨w4.heap.size,0,none⟩=some (.bool b2):=HBS5.out.cell 0
     have p1:W5.cell? ⟨w4.heap.size,1,none⟩=some (.int .i64 x2):=HBS5.out.cell 1
     have p2:W5.cell? ⟨w4.heap.size,2,none⟩=some (.int .i64 y2):=HBS5.out.cell 2
     go_wp2_with fail
     refine (l10Link_any p ls4 fs4 fi la nu L4 F4 y1 x2 _ HB5.out.pos).mono ?_
     rintro e w6 ⟨rfl,F6,hF6,hp6,hf6⟩
     have HB6:=Hd_ (HB5.out.next hp6 (by have:=HL4.out;omega) hf6)
     have bq6:=hf6.blk HBQ5.out (by omega) HQ3.out HQ4.out
     have bs6:=hf6.blk HBS5.out (by omega) HS1.out HS2.out
     have s0:w6.cell? ⟨w2.heap.size,0,none⟩=some (.bool b1):=bq6.cell 0
     have s1:w6.cell? ⟨w2.heap.size,1,none⟩=some (.int .i64 x1):=bq6.cell 1
     have s2:w6.cell? ⟨w2.heap.size,2,none⟩=some (.int .i64 y1):=bq6.cell 2
     have r0:w6.cell? ⟨w4.heap.size,0,none⟩=some (.bool b2):=bs6.cell 0
     have r1:w6.cell? ⟨w4.heap.size,1,none⟩=some (.int .i64 x2):=bs6.cell 1
     have r2:w6.cell? ⟨w4.heap.size,2,none⟩=some (.int .i64 y2):=bs6.cell 2
     have hlq:=bq6.lt
     have hls:=bs6.lt
     clear hF6 hp6 hf6 bq6 bs6 HB5 HBQ5 HBS5 q0 q1 q2 p0 p1 p2
     have z0:w6.cell? ⟨w.heap.size,0,none⟩=some (.bool false):=HB6.out.res.cell 0
     have z1:w6.cell? ⟨w.heap.size,1,none⟩=some (.int .i64 0):=HB6.out.res.cell 1
     have z2:w6.cell? ⟨w.heap.size,2,none⟩=some (.int .i64 0):=HB6.out.res.cell 2
     have v0:=HB6.out.res.frozen 0
     have v1:=HB6.out.res.frozen 1
     have v2:=HB6.out.res.frozen 2
     have hlr:=HB6.out.res.lt
     cases b1 <;> cases b2
     · skip
       go_wp2_with fail
       have HW:=HB6.out.below ((Below.refl w6.heap.size w6).alloc (Nat.le_refl _) (.cells #[.bool false,.int .i64 (x1),.int .i64 (y2)] 149))
       have HD:=HW.done (.bool false) (.int .i64 (x1)) (.int .i64 (y2))
       rw [World.setCell_alloc_past _ _ _ _ hlr,World.setCell_alloc_past _ _ _ _ (by simpa [World.setCell] using hlr),World.setCell_alloc_past _ _ _ _ (by simpa [World.setCell] using hlr)] at HD
       exact bodyPost_ret (v:=.agg #[.bool false,.int .i64 (x1),.int .i64 (y2)]) (by simp [results,Tryz.results97,go_sem,z0,z1,z2,v0,v1,v2,hlr]) rfl ⟨_,_,_,_,_,_,_,rfl,HD.1,HW.len,by have:=HNM.out;omega,HD.2⟩
     · skip
       go_wp2_with fail
       have HW:=HB6.out.below ((Below.refl w6.heap.size w6).alloc (Nat.le_refl _) (.cells #[.bool false,.int .i64 (x1),.int .i64 (bits .or .i64 y1 y2)] 149))
       have HD:=HW.done (.bool false) (.int .i64 (x1)) (.int .i64 (bits .or .i64 y1 y2))
       rw [World.setCell_alloc_past _ _ _ _ hlr,World.setCell_alloc_past _ _ _ _ (by simpa [World.setCell] using hlr),World.setCell_alloc_past _ _ _ _ (by simpa [World.setCell] using hlr)] at HD
       exact bodyPost_ret (v:=.agg #[.bool false,.int .i64 (x1),.int .i64 (bits .or .i64 y1 y2)]) (by simp [results,Tryz.results97,go_sem,z0,z1,z2,v0,v1,v2,hlr]) rfl ⟨_,_,_,_,_,_,_,rfl,HD.1,HW.len,by have:=HNM.out;omega,HD.2⟩
     · skip
       go_wp2_with fail
       have HW:=HB6.out.below ((Below.refl w6.heap.size w6).alloc (Nat.le_refl _) (.cells #[.bool false,.int .i64 (bits .or .i64 x1 x2),.int .i64 (y2)] 149))
       have HD:=HW.done (.bool false) (.int .i64 (bits .or .i64 x1 x2)) (.int .i64 (y2))
       rw [World.setCell_alloc_past _ _ _ _ hlr,World.setCell_alloc_past _ _ _ _ (by simpa [World.setCell] using hlr),World.setCell_alloc_past _ _ _ _ (by simpa [World.setCell] using hlr)] at HD
       exact bodyPost_ret (v:=.agg #[.bool false,.int .i64 (bits .or .i64 x1 x2),.int .i64 (y2)]) (by simp [results,Tryz.results97,go_sem,z0,z1,z2,v0,v1,v2,hlr]) rfl ⟨_,_,_,_,_,_,_,rfl,HD.1,HW.len,by have:=HNM.out;omega,HD.2⟩
     · skip
       go_wp2_with fail
       have HW:=HB6.out.below ((Below.refl w6.heap.size w6).alloc (Nat.le_refl _) (.cells #[.bool true,.int .i64 (bits .or .i64 x1 x2),.int .i64 (bits .or .i64 y1 y2)] 149))
       have HD:=HW.done (.bool true) (.int .i64 (bits .or .i64 x1 x2)) (.int .i64 (bits .or .i64 y1 y2))
       rw [World.setCell_alloc_past _ _ _ _ hlr,World.setCell_alloc_past _ _ _ _ (by simpa [World.setCell] using hlr),World.setCell_alloc_past _ _ _ _ (by simpa [World.setCell] using hlr)] at HD
       exact bodyPost_ret (v:=.agg #[.bool true,.int .i64 (bits .or .i64 x1 x2),.int .i64 (bits .or .i64 y1 y2)]) (by simp [results,Tryz.results97,go_sem,z0,z1,z2,v0,v1,v2,hlr]) rfl ⟨_,_,_,_,_,_,_,rfl,HD.1,HW.len,by have:=HNM.out;omega,HD.2⟩
   · injection ht with ht0 ht1
     injection ht1 with ht1 ht2
     injection ht2 with ht2 ht3
     subst ht0 ht1 ht2 ht3
     go_enter Tryz.func97,Tryz.ntmps97
     go_upto_region 3 with fail
     generalize ((w.alloc (.cells #[.bool false,.int .i64 0,.int .i64 0] 149)).alloc (.cells #[.int .i64 (5),.int .i64 (0),.int .i64 (0),.int .i64 (0)] 147))=W0 at *
     have k0:W0.cell? ⟨w.heap.size+1,0,none⟩=some (.int .i64 (5)):=hbt.cell 0
     have k1:W0.cell? ⟨w.heap.size+1,1,none⟩=some (.int .i64 (0)):=hbt.cell 1
     have HBR:=Hd_ hBR
     have HB0:=Hd_ hb0
     have HBT:=Hd_ hbt
     have hlt1:=hbt.lt
     clear e0 e1 e2 e3 hbr hb0 hbt hBR hpos hs0
     clear k1
     go_wp2_with fail
     refine (HST.out W0 (HB0.out.mono (by omega)) (by omega)).mono ?_
     rintro e w1 ⟨rfl,hb1⟩
     have HB1:=Hd_ (HBR.out.below hb1)
     clear hb1 HBR HBT HB0 k0
     go_wp2_with fail
     refine (HIA.out ls fs L F w1 (HB1.out.frm.under HPOS.out) HB1.out.pos HLF.out (by omega)).mono ?_
     rintro e w2 ⟨b1,x1,y1,ls2,fs2,L2,F2,rfl,hp2,hl2,hn2,hf2⟩
     have HB2:=Hd_ (HB1.out.next hp2 hl2 hf2)
     have hal:=(Below.refl w2.heap.size w2).alloc (Nat.le_refl _) (.cells #[.bool b1,.int .i64 x1,.int .i64 y1] 149)
     have bq:=Blk.new w2 149 #[.bool b1,.int .i64 x1,.int .i64 y1] _ rfl
     have HB3:=Hd_ (HB2.out.below hal)
     have HQ1:=Hd_ (show ls2.ownBlock ≠ some w2.heap.size from fun e=>by have:=(hp2.lets.lt _ e).2;omega)
     have HQ2:=Hd_ (show fs2.ownBlock ≠ some w2.heap.size from fun e=>by have:=(hp2.fol.lt _ e).2;omega)
     have hpl2:p < w2.heap.size:=hp2.blk.lt
     have HL2:=Hd_ hl2
     clear hal HB2 hl2 hp2 hf2 HB1
     go_upto_region 25 with fail
     generalize w2.alloc (.cells #[.bool b1,.int .i64 x1,.int .i64 y1] 149)=W3 at *
     have HBQ:=Hd_ bq
     clear bq
     go_wp2_with fail
     refine (HIB.out ls2 fs2 L2 F2 W3 (HB3.out.frm.under HPOS.out) HB3.out.pos HL2.out (by have:=HNM.out;omega)).mono ?_
     rintro e w4 ⟨b2,x2,y2,ls4,fs4,L4,F4,rfl,hp4,hl4,hn4,hf4⟩
     have HB4:=Hd_ (HB3.out.next hp4 hl4 hf4)
     have bq4:=hf4.blk HBQ.out (by omega) HQ1.out HQ2.out
     have HQ3:=Hd_ (show ls4.ownBlock ≠ some w2.heap.size from fun e=>(hf4.newl _ e).elim HQ1.out (fun e=>by have:=HBQ.out.lt;omega))
     have HQ4:=Hd_ (show fs4.ownBlock ≠ some w2.heap.size from fun e=>(hf4.newf _ e).elim HQ2.out (fun e=>by have:=HBQ.out.lt;omega))
     have hal:=(Below.refl w4.heap.size w4).alloc (Nat.le_refl _) (.cells #[.bool b2,.int .i64 x2,.int .i64 y2] 149)
     have bs:=Blk.new w4 149 #[.bool b2,.int .i64 x2,.int .i64 y2] _ rfl
     have HB5:=Hd_ (HB4.out.below hal)
     have HBQ5:=Hd_ (bq4.keep hal)
     have HS1:=Hd_ (show ls4.ownBlock ≠ some w4.heap.size from fun e=>by have:=(hp4.lets.lt _ e).2;omega)
     have HS2:=Hd_ (show fs4.ownBlock ≠ some w4.heap.size from fun e=>by have:=(hp4.fol.lt _ e).2;omega)
     have hpl4:p < w4.heap.size:=hp4.blk.lt
     have HL4:=Hd_ hl4
     clear hal HB4 hl4 hp4 hf4 HB3 bq4 HBQ
     go_upto_region 26 with fail
     generalize w4.alloc (.cells #[.bool b2,.int .i64 x2,.int .i64 y2] 149)=W5 at *
     have HBS5:=Hd_ bs
     clear bs
     have q0:W5.cell? ⟨w2.heap.size,0,none⟩=some (.bool b1):=HBQ5.out.cell 0
     have q1:W5.cell? ⟨w2.heap.size,1,none⟩=some (.int .i64 x1):=HBQ5.out.cell 1
     have q2:W5.cell? ⟨w2.heap.size,2,none⟩=some (.int .i64 y1):=HBQ5.out.cell 2
     have p0:W5.cell? ⟨w4.heap.size,0,none⟩=some (.bool b2):=HBS5.out.cell 0
     have p1:W5.cell? ⟨w4.heap.size,1,none⟩=some (.int .i64 x2):=HBS5.out.cell 1
     have p2:W5.cell? ⟨w4.heap.size,2,none⟩=some (.int .i64 y2):=HBS5.out.cell 2
     cases b1 <;> cases b2
     · skip
       have z0:W5.cell? ⟨w.heap.size,0,none⟩=some (.bool false):=HB5.out.res.cell 0
       have z1:W5.cell? ⟨w.heap.size,1,none⟩=some (.int .i64 0):=HB5.out.res.cell 1
       have z2:W5.cell? ⟨w.heap.size,2,none⟩=some (.int .i64 0):=HB5.out.res.cell 2
       have v0:=HB5.out.res.frozen 0
       have v1:=HB5.out.res.frozen 1
       have v2:=HB5.out.res.frozen 2
       have hlr:=HB5.out.res.lt
       go_wp2_with fail
       have HD:=HB5.out.done (.bool (false)) (.int .i64 (bits .or .i64 x1 x2)) (.int .i64 (bits .or .i64 y1 y2))
       exact bodyPost_ret (v:=.agg #[.bool (false),.int .i64 (bits .or .i64 x1 x2),.int .i64 (bits .or .i64 y1 y2)]) (by simp [results,Tryz.results97,go_sem,z0,z1,z2,v0,v1,v2,hlr]) rfl ⟨_,_,_,_,_,_,_,rfl,HD.1,HB5.out.len,by have:=HNM.out;omega,HD.2⟩
     · skip
       have z0:W5.cell? ⟨w.heap.size,0,none⟩=some (.bool false):=HB5.out.res.cell 0
       have z1:W5.cell? ⟨w.heap.size,1,none⟩=some (.int .i64 0):=HB5.out.res.cell 1
       have z2:W5.cell? ⟨w.heap.size,2,none⟩=some (.int .i64 0):=HB5.out.res.cell 2
       have v0:=HB5.out.res.frozen 0
       have v1:=HB5.out.res.frozen 1
       have v2:=HB5.out.res.frozen 2
       have hlr:=HB5.out.res.lt
       go_wp2_with fail
       have HD:=HB5.out.done (.bool (true)) (.int .i64 (bits .or .i64 x1 x2)) (.int .i64 (bits .or .i64 y1 y2))
       exact bodyPost_ret (v:=.agg #[.bool (true),.int .i64 (bits .or .i64 x1 x2),.int .i64 (bits .or .i64 y1 y2)]) (by simp [results,Tryz.results97,go_sem,z0,z1,z2,v0,v1,v2,hlr]) rfl ⟨_,_,_,_,_,_,_,rfl,HD.1,HB5.out.len,by have:=HNM.out;omega,HD.2⟩
     · skip
       have z0:W5.cell? ⟨w.heap.size,0,none⟩=some (.bool false):=HB5.out.res.cell 0
       have z1:W5.cell? ⟨w.heap.size,1,none⟩=some (.int .i64 0):=HB5.out.res.cell 1
       have z2:W5.cell? ⟨w.heap.size,2,none⟩=some (.int .i64 0):=HB5.out.res.cell 2
       have v0:=HB5.out.res.frozen 0
       have v1:=HB5.out.res.frozen 1
       have v2:=HB5.out.res.frozen 2
       have hlr:=HB5.out.res.lt
       go_wp2_with fail
       have HD:=HB5.out.done (.bool (true)) (.int .i64 (bits .or .i64 x1 x2)) (.int .i64 (bits .or .i64 y1 y2))
       exact bodyPost_ret (v:=.agg #[.bool (true),.int .i64 (bits .or .i64 x1 x2),.int .i64 (bits .or .i64 y1 y2)]) (by simp [results,Tryz.results97,go_sem,z0,z1,z2,v0,v1,v2,hlr]) rfl ⟨_,_,_,_,_,_,_,rfl,HD.1,HB5.out.len,by have:=HNM.out;omega,HD.2⟩
     · skip
       have z0:W5.cell? ⟨w.heap.size,0,none⟩=some (.bool false):=HB5.out.res.cell 0
       have z1:W5.cell? ⟨w.heap.size,1,none⟩=some (.int .i64 0):=HB5.out.res.cell 1
       have z2:W5.cell? ⟨w.heap.size,2,none⟩=some (.int .i64 0):=HB5.out.res.cell 2
       have v0:=HB5.out.res.frozen 0
       have v1:=HB5.out.res.frozen 1
       have v2:=HB5.out.res.frozen 2
       have hlr:=HB5.out.res.lt
       go_wp2_with fail
       have HD:=HB5.out.done (.bool (true)) (.int .i64 (bits .or .i64 x1 x2)) (.int .i64 (bits .or .i64 y1 y2))
       exact bodyPost_ret (v:=.agg #[.bool (true),.int .i64 (bits .or .i64 x1 x2),.int .i64 (bits .or .i64 y1 y2)]) (by simp [results,Tryz.results97,go_sem,z0,z1,z2,v0,v1,v2,hlr]) rfl ⟨_,_,_,_,_,_,_,rfl,HD.1,HB5.out.len,by have:=HNM.out;omega,HD.2⟩
end Go.Proofs.YteaplabkemoenaaGreat
