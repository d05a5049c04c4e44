/- Parts of the proof, joined into one text: PosB, PosE, StrD, DrwG, MakE, ParE, KnoE. -/
import Derived.Test.YthnapjodmndlaaaOnlzLLGCDGAC
import Derived.Test.YthnapjodmndlaaaOnlzDGFIJDJD
import Derived.RegionTactic
import Derived.BigRegion
set_option linter.unusedVariables false
set_option linter.unusedSimpArgs false
namespace Go.Proofs.Ythnapjodmndlaaa
open Go.ChangeShapes Go.WideShapes Go.ChangeAt Go.RowKit
attribute [local go_sem] ext_cell ext_frozen ext_lt ext_lt1 ext_lt2 ext_lt3 ltn2 ltn3 ltn13 lts1 lts2 lts3
def BldOut (p:Nat) (ls fs:Value) (fi la:Int) (nu:Bool) (N:Nat) (w:World) (e:Ending) (w':World):Prop :=
 ∃ (b:Bool) (x y:Int) (ls' fs':Value) (L' F':List Int),e=.returned (.agg #[.bool b,.int .i64 x,.int .i64 y])/\PosR p w' ls' fs' fi la nu L' F'/\L'.length=F'.length/\L'.length<=N/\PosF p ls fs ls' fs' w w'
/-- the state of a build: the result's block r, the token's behind it -/
structure BldR (p r:Nat) (w0 w:World) (ls0 fs0 ls fs:Value) (fi la:Int) (nu:Bool) (L F:List Int):Prop where
 pos:PosR p w ls fs fi la nu L F
 len:L.length=F.length
 res:Blk w r 88 #[.bool false,.int .i64 0,.int .i64 0]
 frm:PosF p ls0 fs0 ls fs w0 w
 at0:w0.heap.size=r
 ltp:p < r
 old:ls0.ownBlock ≠ some r/\fs0.ownBlock ≠ some r
 farl:ls.ownBlock ≠ some r
 farf:fs.ownBlock ≠ some r
section
variable {p r:Nat} {w0 w w':World} {ls0 fs0 ls fs ls' fs':Value} {fi la:Int} {nu:Bool} {L F L' F':List Int}
theorem BldR.next (h:BldR p r w0 w ls0 fs0 ls fs fi la nu L F) (hp:PosR p w' ls' fs' fi la nu L' F') (hl:L'.length=F'.length) (hf:PosF p ls fs ls' fs' w w'):BldR p r w0 w' ls0 fs0 ls' fs' fi la nu L' F':=by
 have hr:=h.res.lt
 exact ⟨hp,hl,hf.blk h.res (by have:=h.ltp;omega) h.farl h.farf,h.frm.trans hf,h.at0,h.ltp,h.old,fun e=>(hf.newl r e).elim h.farl (fun e=>by omega),fun e=>(hf.newf r e).elim h.farf (fun e=>by omega)⟩
theorem BldR.below (h:BldR p r w0 w ls0 fs0 ls fs fi la nu L F) (hb:Below w.heap.size w w'):BldR p r w0 w' ls0 fs0 ls fs fi la nu L F:=h.next (h.pos.below hb) h.len (PosF.below hb)
theorem BldR.done (h:BldR p r w0 w ls0 fs0 ls fs fi la nu L F) (a b c:Value) :
 PosR p (((w.setCell ⟨r,0,none⟩ a).setCell ⟨r,1,none⟩ b).setCell ⟨r,2,none⟩ c) ls fs fi la nu L F/\PosF p ls0 fs0 ls fs w0 (((w.setCell ⟨r,0,none⟩ a).setCell ⟨r,1,none⟩ b).setCell ⟨r,2,none⟩ c):=by
 have ho:Only r (r+1) w (((w.setCell ⟨r,0,none⟩ a).setCell ⟨r,1,none⟩ b).setCell ⟨r,2,none⟩ c) :=
  (((Only.refl r (r+1) w).setCell (p:=⟨r,0,none⟩) (.inl ⟨Nat.le_refl _,Nat.lt_succ_self _⟩) a).setCell (p:=⟨r,1,none⟩) (.inl ⟨Nat.le_refl _,Nat.lt_succ_self _⟩) b).setCell (p:=⟨r,2,none⟩) (.inl ⟨Nat.le_refl _,Nat.lt_succ_self _⟩) c
 have hk:∀ n,n < w.heap.size->n ≠ r->(((w.setCell ⟨r,0,none⟩ a).setCell ⟨r,1,none⟩ b).setCell ⟨r,2,none⟩ c).heap[n]?=w.heap[n]?:=fun n hn hr=>ho.block n hn (by omega)
 have hp:=h.pos
 have hlt:=h.ltp
 refine ⟨⟨(hk p hp.blk.lt (by omega)).trans hp.blk,ownsRow_block hp.lets fun g hg=>hk g (hp.lets.lt g hg).2 (fun e=>h.farl (by rw [<- e];exact hg)),ownsRow_block hp.fol fun g hg=>hk g (hp.fol.lt g hg).2 (fun e=>h.farf (by rw [<- e];exact hg)),hp.apart⟩,?_⟩
 have hf:=h.frm
 exact ⟨ho.os.trans hf.os,ho.tape.trans hf.tape,ho.output.trans hf.output,Nat.le_trans hf.size ho.size,fun n h1 h2 h3 h4=>(hk n (Nat.lt_of_lt_of_le h1 hf.size) (by have:=h.at0;omega)).trans (hf.block n h1 h2 h3 h4),hf.newl,hf.newf⟩
end
set_option maxRecDepth 100000 in
set_option maxHeartbeats 8000000 in
theorem l10Build_any (p:Nat) (fi la:Int) (nu:Bool):∀ (r:Tr) (ss ls fs:Value) (L F:List Int) (w:World),r.ok->SlI 0 p w cEd 4 ss (post r)->PosR p w ls fs fi la nu L F->L.length=F.length->L.length+(post r).length<=1048576 ->
 Calls Try.prog 50 #[.pointer (some ⟨p,0,none⟩),ss] w (BldOut p ls fs fi la nu (L.length+(post r).length) w)
 | .leaf t,ss,ls,fs,L,F,w,hr,hsl,hpos,hLF,hlen=>by
   obtain ⟨t0,t1,t2,t3⟩:=t
   have hk:=ar_leaf hr
   simp only at hk
   rw [post] at hsl hlen ⊢
   obtain ⟨A,c,rfl,hl,hm,hx⟩:=hsl
   unfold maxLen at hm
   obtain ⟨q,o,rfl,-,hq,hcc⟩:=hx 0 (t0,t1,t2,t3) rfl
   have hqw:q < w.heap.size:=by have:=hpos.blk.lt;omega
   have e0:=hcc 0 _ rfl
   have e1:=hcc 1 _ rfl
   have e2:=hcc 2 _ rfl
   have e3:=hcc 3 _ rfl
   simp only [Nat.add_zero,Nat.zero_mul,Nat.add_zero] at e0 e1 e2 e3
   have hN:L.length+[((t0,t1,t2,t3):Tok)].length=L.length+1:=rfl
   rw [hN] at hlen ⊢
   clear hx hcc hr hN
   have HLB:=Hd_ (fun b hb=>(hpos.lets.lt b hb).2)
   have HFB:=Hd_ (fun b hb=>(hpos.fol.lt b hb).2)
   have hb0:=((Below.refl w.heap.size w).alloc (Nat.le_refl _) (.cells #[.bool false,.int .i64 0,.int .i64 0] 88)).alloc (by simp) (.cells #[.int .i64 t0,.int .i64 t1,.int .i64 t2,.int .i64 t3] 86)
   have hbr:=(Blk.new w 88 #[.bool false,.int .i64 0,.int .i64 0] _ rfl).alloc (.cells #[.int .i64 t0,.int .i64 t1,.int .i64 t2,.int .i64 t3] 86)
   have hbt:=Blk.new (w.alloc (.cells #[.bool false,.int .i64 0,.int .i64 0] 88)) 86 #[.int .i64 t0,.int .i64 t1,.int .i64 t2,.int .i64 t3] (w.heap.size+1) (by simp)
   have hs0:((w.alloc (.cells #[.bool false,.int .i64 0,.int .i64 0] 88)).alloc (.cells #[.int .i64 t0,.int .i64 t1,.int .i64 t2,.int .i64 t3] 86)).heap.size=w.heap.size+2:=by simp
   have hlw:=hpos.blk.lt
   have hBR:=show BldR p w.heap.size w ((w.alloc (.cells #[.bool false,.int .i64 0,.int .i64 0] 88)).alloc (.cells #[.int .i64 t0,.int .i64 t1,.int .i64 t2,.int .i64 t3] 86)) ls fs ls fs fi la nu L F from
    ⟨hpos.below hb0,hLF,hbr,PosF.below hb0,rfl,hlw,⟨fun e=>by have:=(hpos.lets.lt _ e).2;omega,fun e=>by have:=(hpos.fol.lt _ e).2;omega⟩,fun e=>by have:=(hpos.lets.lt _ e).2;omega,fun e=>by have:=(hpos.fol.lt _ e).2;omega⟩
   rcases hk with rfl | rfl | rfl
   · skip
     go_enter Try.func50,Try.ntmps50
     go_upto_region 3 with fail
     generalize ((w.alloc (.cells #[.bool false,.int .i64 0,.int .i64 0] 88)).alloc (.cells #[.int .i64 (1),.int .i64 (t1),.int .i64 (t2),.int .i64 (t3)] 86))=W0 at *
     have k0:W0.cell? ⟨w.heap.size+1,0,none⟩=some (.int .i64 (1)):=hbt.cell 0
     have k1:W0.cell? ⟨w.heap.size+1,1,none⟩=some (.int .i64 (t1)):=hbt.cell 1
     have HBR:=Hd_ hBR
     have HB0:=Hd_ hb0
     have HBT:=Hd_ hbt
     have hlt1:=hbt.lt
     clear e0 e1 e2 e3 hbr hb0 hbt hBR hpos hs0
     have z0:W0.cell? ⟨w.heap.size,0,none⟩=some (.bool false):=HBR.out.res.cell 0
     have z1:W0.cell? ⟨w.heap.size,1,none⟩=some (.int .i64 0):=HBR.out.res.cell 1
     have z2:W0.cell? ⟨w.heap.size,2,none⟩=some (.int .i64 0):=HBR.out.res.cell 2
     have v0:=HBR.out.res.frozen 0
     have v1:=HBR.out.res.frozen 1
     have v2:=HBR.out.res.frozen 2
     have hlr:=HBR.out.res.lt
     go_wp2_with fail
     have HD:=HBR.out.done (.bool (false)) (.int .i64 (0)) (.int .i64 (0))
     exact bodyPost_ret (v:=.agg #[.bool (false),.int .i64 (0),.int .i64 (0)]) (by simp [results,Try.results50,go_sem,z0,z1,z2,v0,v1,v2,hlr]) rfl ⟨_,_,_,_,_,_,_,rfl,HD.1,HBR.out.len,by omega,HD.2⟩
   · skip
     go_enter Try.func50,Try.ntmps50
     go_upto_region 3 with fail
     generalize ((w.alloc (.cells #[.bool false,.int .i64 0,.int .i64 0] 88)).alloc (.cells #[.int .i64 (2),.int .i64 (t1),.int .i64 (t2),.int .i64 (t3)] 86))=W0 at *
     have k0:W0.cell? ⟨w.heap.size+1,0,none⟩=some (.int .i64 (2)):=hbt.cell 0
     have k1:W0.cell? ⟨w.heap.size+1,1,none⟩=some (.int .i64 (t1)):=hbt.cell 1
     have HBR:=Hd_ hBR
     have HB0:=Hd_ hb0
     have HBT:=Hd_ hbt
     have hlt1:=hbt.lt
     clear e0 e1 e2 e3 hbr hb0 hbt hBR hpos hs0
     have z0:W0.cell? ⟨w.heap.size,0,none⟩=some (.bool false):=HBR.out.res.cell 0
     have z1:W0.cell? ⟨w.heap.size,1,none⟩=some (.int .i64 0):=HBR.out.res.cell 1
     have z2:W0.cell? ⟨w.heap.size,2,none⟩=some (.int .i64 0):=HBR.out.res.cell 2
     have v0:=HBR.out.res.frozen 0
     have v1:=HBR.out.res.frozen 1
     have v2:=HBR.out.res.frozen 2
     have hlr:=HBR.out.res.lt
     go_wp2_with fail
     have HD:=HBR.out.done (.bool (true)) (.int .i64 (0)) (.int .i64 (0))
     exact bodyPost_ret (v:=.agg #[.bool (true),.int .i64 (0),.int .i64 (0)]) (by simp [results,Try.results50,go_sem,z0,z1,z2,v0,v1,v2,hlr]) rfl ⟨_,_,_,_,_,_,_,rfl,HD.1,HBR.out.len,by omega,HD.2⟩
   · skip
     go_enter Try.func50,Try.ntmps50
     go_upto_region 3 with fail
     generalize ((w.alloc (.cells #[.bool false,.int .i64 0,.int .i64 0] 88)).alloc (.cells #[.int .i64 (3),.int .i64 (t1),.int .i64 (t2),.int .i64 (t3)] 86))=W0 at *
     have k0:W0.cell? ⟨w.heap.size+1,0,none⟩=some (.int .i64 (3)):=hbt.cell 0
     have k1:W0.cell? ⟨w.heap.size+1,1,none⟩=some (.int .i64 (t1)):=hbt.cell 1
     have HBR:=Hd_ hBR
     have HB0:=Hd_ hb0
     have HBT:=Hd_ hbt
     have hlt1:=hbt.lt
     clear e0 e1 e2 e3 hbr hb0 hbt hBR hpos hs0
     obtain ⟨A1,c1,rfl,hnc1,hcm1,-⟩:=ownSl HBR.out.pos.lets
     obtain ⟨A2,c2,rfl,hnc2,hcm2,-⟩:=ownSl HBR.out.pos.fol
     have x0:W0.cell? ⟨p,0,none⟩=some (.slice A1 L.length c1):=HBR.out.pos.blk.cell 0
     have HLF:=Hd_ hLF
     clear hLF
     go_upto_region 8 with fail
     refine F_start 11 (fun w'=>w'.cell? ⟨p,0,none⟩=some (.slice A1 L.length c1)/\w'.cell? ⟨w.heap.size+1,1,none⟩=some (.int .i64 t1)) (by kernel_rfl) (by exact ⟨x0,k1⟩) (fun hS inv=>?_)
     refine F_tk 0 inv ?_
     try simp only [tA,tB,tC,Act.put,tE,tF,tG]
     clear inv;intro inv
     refine F_tk 1 inv ?_
     try simp only [tA,tB,tC,Act.put,tE,tF,tG]
     clear inv;intro inv
     refine F_tk 2 inv ?_
     try simp only [tA,tB,tC,Act.put,tE,tF,tG]
     clear inv;intro inv
     refine F_tk 3 inv ?_
     try simp only [tA,tB,tC,Act.put,tE,tF,tG]
     clear inv;intro inv
     refine F_tk 4 inv ?_
     try simp only [tA,tB,tC,Act.put,tE,tF,tG]
     clear inv;intro inv
     refine F_tk 5 inv ?_
     try simp only [tA,tB,tC,Act.put,tE,tF,tG]
     clear inv;intro inv
     refine F_tk 6 inv ?_
     try simp only [tA,tB,tC,Act.put,tE,tF,tG]
     clear inv;intro inv
     refine F_o1 7 inv ?_;intro K hK
     try simp only [tA,tB,tC]
     go_simp
     have hal:Below W0.heap.size W0 (W0.alloc (.cells #[.int .i64 t1] 3)).drew:=((Below.refl _ _).alloc (Nat.le_refl _) _).drew
     have HB1:=Hd_ (HBR.out.below hal)
     have HT1:=Hd_ (HBT.out.keep hal)
     refine hK.out _ _ (⟨HB1.out.pos.blk.cell 0,HT1.out.cell 1⟩) (fun _ _=>?_)
     try simp only [tA,tB,tC,Act.put,tE,tF,tG]
     clear hK K inv hS;rename_i hS inv
     clear hal HBR HBT x0 k1 k0
     refine F_o1 8 inv ?_;intro K hK
     try simp only [tA,tB,tC]
     refine op_append1 cI elInt rfl _ _ (by rfl) (p+1) _ L t1 1 _ (by rfl) HB1.out.pos.lets (by first | rfl | simp) (heap_alloc_new _ _) rfl (cI_one _) (by omega) (by omega) (by have:=HB1.out.pos.blk.lt;omega) ?_
     intro g2 cp2 w9 hown3 hgr3 hat3 hlt3
     have HP:=Hd_ (HB1.out.pos.pushL hown3 hgr3 hat3)
     have HT9:=Hd_ (show Blk w9 (w.heap.size+1) _ _ from (hgr3.block _ HT1.out.lt (fun e=>by have:=HLB.out _ e.symm;omega)).trans HT1.out)
     clear hown3 hgr3 hat3
     refine hK.out _ _ (⟨HP.out.1.cell 0,HT9.out.cell 1⟩) (fun _ _=>?_)
     try simp only [tA,tB,tC,Act.put,tE,tF,tG]
     clear hK K inv hS;rename_i hS inv
     refine F_tk 9 inv ?_
     try simp only [tA,tB,tC,Act.put,tE,tF,tG]
     clear inv;intro inv
     refine F_tk 10 inv ?_
     try simp only [tA,tB,tC,Act.put,tE,tF,tG]
     clear inv;intro inv
     have f0:=HP.out.1.frozen 0
     have lp:=HP.out.1.lt
     refine F_l1 11 ?_;intro K hK
     go_simp
     refine hK _ _ ?_
     clear hK K inv hS
     have HQ:=Hd_ HP.out.2
     have HTQ:=Hd_ (HT9.out.far (p:=⟨p,0,none⟩) (by simp only;omega) (.slice (some ⟨g2,0,none⟩) (L.length+1) cp2))
     generalize w9.setCell ⟨p,0,none⟩ (.slice (some ⟨g2,0,none⟩) (L.length+1) cp2)=w10 at *
     have hfl:F.length+1<=1048576:=by have:=HLF.out;omega
     have x3:w10.cell? ⟨p,3,none⟩=some (.slice A2 F.length c2):=HQ.out.1.blk.cell 3
     have lp:=HQ.out.1.blk.lt
     clear HP HT9 f0
     go_upto_region 10 with (at_builtin;(refine wpList_append2 cI elInt rfl _ _ (by rfl) (p+1) _ F 0 1 _ (by rfl) (HQ.out.1.fol.alloc _) (by rfl) (heap_alloc_new _ _) rfl (cI_one _) (by omega) (by omega) (by simp;omega) ?_);intro g3 cp3 w11 hown4 hgr4 hat4 hlt4;have HP:=Hd_ ((HQ.out.1.below ((Below.refl _ _).alloc (Nat.le_refl _) (.cells #[.int .i64 0] 3))).pushF hown4 hgr4 hat4);have y3:w11.cell? ⟨p,3,none⟩=some (.slice A2 F.length c2):=HP.out.1.cell 3;have f3:=HP.out.1.frozen 3;have lp2:=HP.out.1.lt;clear hown4 hgr4 hat4)
     have HQ2:=Hd_ HP.out.2
     generalize w11.setCell ⟨p,3,none⟩ (.slice (some ⟨g3,0,none⟩) (F.length+1) cp3)=w12 at *
     have hfin:BldR p w.heap.size w w12 _ _ _ _ fi la nu (L ++ [t1]) (F ++ [0]):=HB1.out.next HQ2.out.1 (by have:=HLF.out;simp;omega) (HQ.out.2.trans ((PosF.below ((Below.refl _ _).alloc (Nat.le_refl _) (.cells #[.int .i64 0] 3))).trans HQ2.out.2))
     have HFIN:=Hd_ hfin
     clear hfin HQ HQ2 HP y3 f3 lp2 x3 HTQ lp HB1 HT1
     generalize wrap64 (2 ^ min L.length 64)=bt
     have z0:w12.cell? ⟨w.heap.size,0,none⟩=some (.bool false):=HFIN.out.res.cell 0
     have z1:w12.cell? ⟨w.heap.size,1,none⟩=some (.int .i64 0):=HFIN.out.res.cell 1
     have z2:w12.cell? ⟨w.heap.size,2,none⟩=some (.int .i64 0):=HFIN.out.res.cell 2
     have v0:=HFIN.out.res.frozen 0
     have v1:=HFIN.out.res.frozen 1
     have v2:=HFIN.out.res.frozen 2
     have hlr:=HFIN.out.res.lt
     go_wp2_with fail
     have HD:=HFIN.out.done (.bool (false)) (.int .i64 (bt)) (.int .i64 (bt))
     exact bodyPost_ret (v:=.agg #[.bool (false),.int .i64 (bt),.int .i64 (bt)]) (by simp [results,Try.results50,go_sem,z0,z1,z2,v0,v1,v2,hlr]) rfl ⟨_,_,_,_,_,_,_,rfl,HD.1,HFIN.out.len,by simp,HD.2⟩
 | .un t a,ss,ls,fs,L,F,w,hr,hsl,hpos,hLF,hlen=>by
   have ht:=ar_un hr.1
   obtain ⟨m,hm0⟩:∃ m,m=(post a).length:=⟨_,rfl⟩
   rw [post] at hsl hlen ⊢
   have hlq:(post a ++ [t]).length=m+1:=by rw [List.length_append,hm0];rfl
   rw [hlq] at hlen ⊢
   have h0:=hsl
   obtain ⟨A,c,rfl,hl,hm,hx⟩:=hsl
   rw [hlq] at hl h0 ⊢
   unfold maxLen at hm
   have hxi:(post a ++ [t])[m]?=some t:=by rw [List.getElem?_append_right (by omega)];simp [hm0]
   obtain ⟨q,o,rfl,-,hq,hcc⟩:=hx _ t hxi
   have hqw:q < w.heap.size:=by have:=hpos.blk.lt;omega
   obtain ⟨t0,t1,t2,t3⟩:=t
   have e0:=hcc 0 _ rfl
   have e1:=hcc 1 _ rfl
   have e2:=hcc 2 _ rfl
   have e3:=hcc 3 _ rfl
   simp only [Nat.add_zero] at e0
   have hmc1:m<=c:=by omega
   have h2:SlI 0 p w cEd 4 (.slice (some ⟨q,o,none⟩) m c) (post a):=SlI.headT h0 hm0.symm
   have HIH:=Hd_ (fun (ls' fs':Value) (L' F':List Int) (W:World) (hW:Below p w W) hp hl hn=>l10Build_any p fi la nu a _ ls' fs' L' F' W hr.2 (h2.below hW (Nat.le_refl _)) hp hl hn)
   rw [<- hm0] at HIH
   clear hx hcc hxi h0 h2 hm0 hlq hr
   have hb0:=((Below.refl w.heap.size w).alloc (Nat.le_refl _) (.cells #[.bool false,.int .i64 0,.int .i64 0] 88)).alloc (by simp) (.cells #[.int .i64 t0,.int .i64 t1,.int .i64 t2,.int .i64 t3] 86)
   have hbr:=(Blk.new w 88 #[.bool false,.int .i64 0,.int .i64 0] _ rfl).alloc (.cells #[.int .i64 t0,.int .i64 t1,.int .i64 t2,.int .i64 t3] 86)
   have hbt:=Blk.new (w.alloc (.cells #[.bool false,.int .i64 0,.int .i64 0] 88)) 86 #[.int .i64 t0,.int .i64 t1,.int .i64 t2,.int .i64 t3] (w.heap.size+1) (by simp)
   have hs0:((w.alloc (.cells #[.bool false,.int .i64 0,.int .i64 0] 88)).alloc (.cells #[.int .i64 t0,.int .i64 t1,.int .i64 t2,.int .i64 t3] 86)).heap.size=w.heap.size+2:=by simp
   have hlw:=hpos.blk.lt
   have hBR:=show BldR p w.heap.size w ((w.alloc (.cells #[.bool false,.int .i64 0,.int .i64 0] 88)).alloc (.cells #[.int .i64 t0,.int .i64 t1,.int .i64 t2,.int .i64 t3] 86)) ls fs ls fs fi la nu L F from
    ⟨hpos.below hb0,hLF,hbr,PosF.below hb0,rfl,hlw,⟨fun e=>by have:=(hpos.lets.lt _ e).2;omega,fun e=>by have:=(hpos.fol.lt _ e).2;omega⟩,fun e=>by have:=(hpos.lets.lt _ e).2;omega,fun e=>by have:=(hpos.fol.lt _ e).2;omega⟩
   have HLF:=Hd_ hLF
   clear hLF
   rcases ht with ht | ⟨ht0,ht1,ht2,ht3,ht4,ht5⟩
   · injection ht with ht0 ht1
     injection ht1 with ht1 ht2
     injection ht2 with ht2 ht3
     subst ht0 ht1 ht2 ht3
     go_enter Try.func50,Try.ntmps50
     go_upto_region 3 with fail
     generalize ((w.alloc (.cells #[.bool false,.int .i64 0,.int .i64 0] 88)).alloc (.cells #[.int .i64 (6),.int .i64 (0),.int .i64 (0),.int .i64 (0)] 86))=W0 at *
     have k0:W0.cell? ⟨w.heap.size+1,0,none⟩=some (.int .i64 (6)):=hbt.cell 0
     have k1:W0.cell? ⟨w.heap.size+1,1,none⟩=some (.int .i64 (0)):=hbt.cell 1
     have HBR:=Hd_ hBR
     have HB0:=Hd_ hb0
     have HBT:=Hd_ hbt
     have hlt1:=hbt.lt
     clear e0 e1 e2 e3 hbr hb0 hbt hBR hpos hs0
     clear k1
     go_wp2_with fail
     refine (HIH.out ls fs L F W0 (HB0.out.mono (by omega)) HBR.out.pos HLF.out (by omega)).mono ?_
     rintro e w2 ⟨b,x,y,ls2,fs2,L2,F2,rfl,hp2,hl2,hn2,hf2⟩
     have HB2:=Hd_ (HBR.out.next hp2 hl2 hf2)
     have hlb2:=fun n hn=>(hp2.lets.lt n hn).2
     have hfb2:=fun n hn=>(hp2.fol.lt n hn).2
     have hpb2:=hp2.blk.lt
     clear hf2 hp2 HBR HBT HB0 k0
     have hal:=(Below.refl w2.heap.size w2).alloc (Nat.le_refl _) (.cells #[.bool b,.int .i64 x,.int .i64 y] 88)
     have bq:=Blk.new w2 88 #[.bool b,.int .i64 x,.int .i64 y] _ rfl
     have HB3:=Hd_ (HB2.out.below hal)
     have HQ1:=Hd_ (show ls2.ownBlock ≠ some w2.heap.size from fun e=>by have:=hlb2 _ e;omega)
     have HQ2:=Hd_ (show fs2.ownBlock ≠ some w2.heap.size from fun e=>by have:=hfb2 _ e;omega)
     have HL2:=Hd_ hl2
     clear hal HB2 hlb2 hfb2 hl2
     go_upto_region 29 with fail
     generalize w2.alloc (.cells #[.bool b,.int .i64 x,.int .i64 y] 88)=W3 at *
     have y1:W3.cell? ⟨w2.heap.size,1,none⟩=some (.int .i64 x):=bq.cell 1
     have y2:W3.cell? ⟨w2.heap.size,2,none⟩=some (.int .i64 y):=bq.cell 2
     have hlq:=bq.lt
     have HBQ:=Hd_ bq
     clear bq
     go_wp2_with fail
     refine (l10Link_any p ls2 fs2 fi la nu L2 F2 y x _ HB3.out.pos).mono ?_
     rintro e w4 ⟨rfl,F4,hF4,hp4,hf4⟩
     have HB4:=Hd_ (HB3.out.next hp4 (by have:=HL2.out;omega) hf4)
     have bq4:=hf4.blk HBQ.out (by omega) HQ1.out HQ2.out
     have y1:w4.cell? ⟨w2.heap.size,1,none⟩=some (.int .i64 x):=bq4.cell 1
     have y2:w4.cell? ⟨w2.heap.size,2,none⟩=some (.int .i64 y):=bq4.cell 2
     have hlq:=bq4.lt
     clear hF4 hp4 hf4 bq4 HB3 HBQ
     have z0:w4.cell? ⟨w.heap.size,0,none⟩=some (.bool false):=HB4.out.res.cell 0
     have z1:w4.cell? ⟨w.heap.size,1,none⟩=some (.int .i64 0):=HB4.out.res.cell 1
     have z2:w4.cell? ⟨w.heap.size,2,none⟩=some (.int .i64 0):=HB4.out.res.cell 2
     have v0:=HB4.out.res.frozen 0
     have v1:=HB4.out.res.frozen 1
     have v2:=HB4.out.res.frozen 2
     have hlr:=HB4.out.res.lt
     go_wp2_with fail
     have HD:=HB4.out.done (.bool (true)) (.int .i64 (x)) (.int .i64 (y))
     exact bodyPost_ret (v:=.agg #[.bool (true),.int .i64 (x),.int .i64 (y)]) (by simp [results,Try.results50,go_sem,z0,z1,z2,v0,v1,v2,hlr]) rfl ⟨_,_,_,_,_,_,_,rfl,HD.1,HB4.out.len,by omega,HD.2⟩
   · simp only at ht0
     subst ht0
     go_enter Try.func50,Try.ntmps50
     go_upto_region 3 with fail
     generalize ((w.alloc (.cells #[.bool false,.int .i64 0,.int .i64 0] 88)).alloc (.cells #[.int .i64 (7),.int .i64 (t1),.int .i64 (t2),.int .i64 (t3)] 86))=W0 at *
     have k0:W0.cell? ⟨w.heap.size+1,0,none⟩=some (.int .i64 (7)):=hbt.cell 0
     have k1:W0.cell? ⟨w.heap.size+1,1,none⟩=some (.int .i64 (t1)):=hbt.cell 1
     have HBR:=Hd_ hBR
     have HB0:=Hd_ hb0
     have HBT:=Hd_ hbt
     have hlt1:=hbt.lt
     clear e0 e1 e2 e3 hbr hb0 hbt hBR hpos hs0
     clear k1
     have z0:W0.cell? ⟨w.heap.size,0,none⟩=some (.bool false):=HBR.out.res.cell 0
     have z1:W0.cell? ⟨w.heap.size,1,none⟩=some (.int .i64 0):=HBR.out.res.cell 1
     have z2:W0.cell? ⟨w.heap.size,2,none⟩=some (.int .i64 0):=HBR.out.res.cell 2
     have v0:=HBR.out.res.frozen 0
     have v1:=HBR.out.res.frozen 1
     have v2:=HBR.out.res.frozen 2
     have hlr:=HBR.out.res.lt
     go_wp2_with fail
     have HD:=HBR.out.done (.bool (false)) (.int .i64 (0)) (.int .i64 (0))
     exact bodyPost_ret (v:=.agg #[.bool (false),.int .i64 (0),.int .i64 (0)]) (by simp [results,Try.results50,go_sem,z0,z1,z2,v0,v1,v2,hlr]) rfl ⟨_,_,_,_,_,_,_,rfl,HD.1,HBR.out.len,by omega,HD.2⟩
 | .bin t a b,ss,ls,fs,L,F,w,hr,hsl,hpos,hLF,hlen=>by
   have ht:=ar_bin hr.1
   obtain ⟨m,hm0⟩:∃ m,m=(post a).length:=⟨_,rfl⟩
   obtain ⟨j,hj0⟩:∃ j,j=(post b).length:=⟨_,rfl⟩
   have hj1:0 < j:=by rw [hj0];exact post_pos b
   rw [post] at hsl hlen ⊢
   obtain ⟨N,hN⟩:∃ N,N=(post a ++ post b).length:=⟨_,rfl⟩
   have hNm:N=m+j:=by rw [hN,List.length_append,hm0,hj0]
   have hlq:((post a ++ post b) ++ [t]).length=N+1:=by rw [List.length_append,hN];rfl
   rw [hlq] at hlen ⊢
   have h0:=hsl
   obtain ⟨A,c,rfl,hl,hm,hx⟩:=hsl
   rw [hlq] at hl h0 ⊢
   unfold maxLen at hm
   have hxi:((post a ++ post b) ++ [t])[N]?=some t:=by rw [List.getElem?_append_right (by omega)];simp [hN]
   obtain ⟨q,o,rfl,-,hq,hcc⟩:=hx _ t hxi
   have hqw:q < w.heap.size:=by have:=hpos.blk.lt;omega
   obtain ⟨t0,t1,t2,t3⟩:=t
   have e0:=hcc 0 _ rfl
   have e1:=hcc 1 _ rfl
   have e2:=hcc 2 _ rfl
   have e3:=hcc 3 _ rfl
   simp only [Nat.add_zero] at e0
   have h1:SlI 0 p w cEd 4 (.slice (some ⟨q,o,none⟩) N c) (post a ++ post b):=SlI.headT h0 hN.symm
   have h2:SlI 0 p w cEd 4 (.slice (some ⟨q,o,none⟩) m c) (post a):=SlI.headT h1 hm0.symm
   have h3:SlI 0 p w cEd 4 (.slice (some ⟨q,o+m * 4,none⟩) (N - m) (c - m)) (post b):=SlI.tailT h1 hm0.symm (by omega) rfl
   have hpw:=hpos.blk.lt
   have HST:=Hd_ (fun (W:World) (hW:Below p w W) (hs:p<=W.heap.size)=>l8Start_any _ (post a) b W ((h1.below hW (Nat.le_refl _)).mono (Nat.le_refl _) hs) hr.2.2 (by rw [<- hN];omega))
   have HIA:=Hd_ (fun (ls' fs':Value) (L' F':List Int) (W:World) (hW:Below p w W) hp hl hn=>l10Build_any p fi la nu a _ ls' fs' L' F' W hr.2.1 (h2.below hW (Nat.le_refl _)) hp hl hn)
   have HIB:=Hd_ (fun (ls' fs':Value) (L' F':List Int) (W:World) (hW:Below p w W) hp hl hn=>l10Build_any p fi la nu b _ ls' fs' L' F' W hr.2.2 (h3.below hW (Nat.le_refl _)) hp hl hn)
   rw [<- hm0] at HST HIA
   rw [<- hj0] at HIB
   have hmc:¬ c=m:=by omega
   have hmc1:m<=c:=by omega
   have hmc2:N<=c:=by omega
   have hmc3:m<=N:=by omega
   have HNM:=Hd_ hNm
   clear hx hcc hxi h0 h1 h2 h3 hr hm0 hj0 hlq hN hNm
   have HPOS:=Hd_ hpos
   have hb0:=((Below.refl w.heap.size w).alloc (Nat.le_refl _) (.cells #[.bool false,.int .i64 0,.int .i64 0] 88)).alloc (by simp) (.cells #[.int .i64 t0,.int .i64 t1,.int .i64 t2,.int .i64 t3] 86)
   have hbr:=(Blk.new w 88 #[.bool false,.int .i64 0,.int .i64 0] _ rfl).alloc (.cells #[.int .i64 t0,.int .i64 t1,.int .i64 t2,.int .i64 t3] 86)
   have hbt:=Blk.new (w.alloc (.cells #[.bool false,.int .i64 0,.int .i64 0] 88)) 86 #[.int .i64 t0,.int .i64 t1,.int .i64 t2,.int .i64 t3] (w.heap.size+1) (by simp)
   have hs0:((w.alloc (.cells #[.bool false,.int .i64 0,.int .i64 0] 88)).alloc (.cells #[.int .i64 t0,.int .i64 t1,.int .i64 t2,.int .i64 t3] 86)).heap.size=w.heap.size+2:=by simp
   have hlw:=hpos.blk.lt
   have hBR:=show BldR p w.heap.size w ((w.alloc (.cells #[.bool false,.int .i64 0,.int .i64 0] 88)).alloc (.cells #[.int .i64 t0,.int .i64 t1,.int .i64 t2,.int .i64 t3] 86)) ls fs ls fs fi la nu L F from
    ⟨hpos.below hb0,hLF,hbr,PosF.below hb0,rfl,hlw,⟨fun e=>by have:=(hpos.lets.lt _ e).2;omega,fun e=>by have:=(hpos.fol.lt _ e).2;omega⟩,fun e=>by have:=(hpos.lets.lt _ e).2;omega,fun e=>by have:=(hpos.fol.lt _ e).2;omega⟩
   have HLF:=Hd_ hLF
   clear hLF
   rcases ht with ht | ht
   · injection ht with ht0 ht1
     injection ht1 with ht1 ht2
     injection ht2 with ht2 ht3
     subst ht0 ht1 ht2 ht3
     go_enter Try.func50,Try.ntmps50
     go_upto_region 3 with fail
     generalize ((w.alloc (.cells #[.bool false,.int .i64 0,.int .i64 0] 88)).alloc (.cells #[.int .i64 (4),.int .i64 (0),.int .i64 (0),.int .i64 (0)] 86))=W0 at *
     have k0:W0.cell? ⟨w.heap.size+1,0,none⟩=some (.int .i64 (4)):=hbt.cell 0
     have k1:W0.cell? ⟨w.heap.size+1,1,none⟩=some (.int .i64 (0)):=hbt.cell 1
     have HBR:=Hd_ hBR
     have HB0:=Hd_ hb0
     have HBT:=Hd_ hbt
     have hlt1:=hbt.lt
     clear e0 e1 e2 e3 hbr hb0 hbt hBR hpos hs0
     clear k1
     go_wp2_with fail
     refine (HST.out W0 (HB0.out.mono (by omega)) (by omega)).mono ?_
     rintro e w1 ⟨rfl,hb1⟩
     have HB1:=Hd_ (HBR.out.below hb1)
     clear hb1 HBR HBT HB0 k0
     go_wp2_with fail
     refine (HIA.out ls fs L F w1 (HB1.out.frm.under HPOS.out) HB1.out.pos HLF.out (by omega)).mono ?_
     rintro e w2 ⟨b1,x1,y1,ls2,fs2,L2,F2,rfl,hp2,hl2,hn2,hf2⟩
     have HB2:=Hd_ (HB1.out.next hp2 hl2 hf2)
     have hal:=(Below.refl w2.heap.size w2).alloc (Nat.le_refl _) (.cells #[.bool b1,.int .i64 x1,.int .i64 y1] 88)
     have bq:=Blk.new w2 88 #[.bool b1,.int .i64 x1,.int .i64 y1] _ rfl
     have HB3:=Hd_ (HB2.out.below hal)
     have HQ1:=Hd_ (show ls2.ownBlock ≠ some w2.heap.size from fun e=>by have:=(hp2.lets.lt _ e).2;omega)
     have HQ2:=Hd_ (show fs2.ownBlock ≠ some w2.heap.size from fun e=>by have:=(hp2.fol.lt _ e).2;omega)
     have hpl2:p < w2.heap.size:=hp2.blk.lt
     have HL2:=Hd_ hl2
     clear hal HB2 hl2 hp2 hf2 HB1
     go_upto_region 14 with fail
     generalize w2.alloc (.cells #[.bool b1,.int .i64 x1,.int .i64 y1] 88)=W3 at *
     have HBQ:=Hd_ bq
     clear bq
     go_wp2_with fail
     refine (HIB.out ls2 fs2 L2 F2 W3 (HB3.out.frm.under HPOS.out) HB3.out.pos HL2.out (by have:=HNM.out;omega)).mono ?_
     rintro e w4 ⟨b2,x2,y2,ls4,fs4,L4,F4,rfl,hp4,hl4,hn4,hf4⟩
     have HB4:=Hd_ (HB3.out.next hp4 hl4 hf4)
     have bq4:=hf4.blk HBQ.out (by omega) HQ1.out HQ2.out
     have HQ3:=Hd_ (show ls4.ownBlock ≠ some w2.heap.size from fun e=>(hf4.newl _ e).elim HQ1.out (fun e=>by have:=HBQ.out.lt;omega))
     have HQ4:=Hd_ (show fs4.ownBlock ≠ some w2.heap.size from fun e=>(hf4.newf _ e).elim HQ2.out (fun e=>by have:=HBQ.out.lt;omega))
     have hal:=(Below.refl w4.heap.size w4).alloc (Nat.le_refl _) (.cells #[.bool b2,.int .i64 x2,.int .i64 y2] 88)
     have bs:=Blk.new w4 88 #[.bool b2,.int .i64 x2,.int .i64 y2] _ rfl
     have HB5:=Hd_ (HB4.out.below hal)
     have HBQ5:=Hd_ (bq4.keep hal)
     have HS1:=Hd_ (show ls4.ownBlock ≠ some w4.heap.size from fun e=>by have:=(hp4.lets.lt _ e).2;omega)
     have HS2:=Hd_ (show fs4.ownBlock ≠ some w4.heap.size from fun e=>by have:=(hp4.fol.lt _ e).2;omega)
     have hpl4:p < w4.heap.size:=hp4.blk.lt
     have HL4:=Hd_ hl4
     clear hal HB4 hl4 hp4 hf4 HB3 bq4 HBQ
     go_upto_region 15 with fail
     generalize w4.alloc (.cells #[.bool b2,.int .i64 x2,.int .i64 y2] 88)=W5 at *
     have HBS5:=Hd_ bs
     clear bs
     have q0:W5.cell? ⟨w2.heap.size,0,none⟩=some (.bool b1):=HBQ5.out.cell 0
     have q1:W5.cell? ⟨w2.heap.size,1,none⟩=some (.int .i64 x1):=HBQ5.out.cell 1
     have q2:W5.cell? ⟨w2.heap.size,2,none⟩=some (.int .i64 y1):=HBQ5.out.cell 2
     have p0:W5.cell? ⟨w4.heap.size,0,none⟩=some (.bool b2):=HBS5.out.cell 0
     have p1:W5.cell? ⟨w4.heap.size,1,none⟩=some (.int .i64 x2):=HBS5.out.cell 1
     have p2:W5.cell? ⟨w4.heap.size,2,none⟩=some (.int .i64 y2):=HBS5.out.cell 2
     go_wp2_with fail
     refine (l10Link_any p ls4 fs4 fi la nu L4 F4 y1 x2 _ HB5.out.pos).mono ?_
     rintro e w6 ⟨rfl,F6,hF6,hp6,hf6⟩
     have HB6:=Hd_ (HB5.out.next hp6 (by have:=HL4.out;omega) hf6)
     have bq6:=hf6.blk HBQ5.out (by omega) HQ3.out HQ4.out
     have bs6:=hf6.blk HBS5.out (by omega) HS1.out HS2.out
     have s0:w6.cell? ⟨w2.heap.size,0,none⟩=some (.bool b1):=bq6.cell 0
     have s1:w6.cell? ⟨w2.heap.size,1,none⟩=some (.int .i64 x1):=bq6.cell 1
     have s2:w6.cell? ⟨w2.heap.size,2,none⟩=some (.int .i64 y1):=bq6.cell 2
     have r0:w6.cell? ⟨w4.heap.size,0,none⟩=some (.bool b2):=bs6.cell 0
     have r1:w6.cell? ⟨w4.heap.size,1,none⟩=some (.int .i64 x2):=bs6.cell 1
     have r2:w6.cell? ⟨w4.heap.size,2,none⟩=some (.int .i64 y2):=bs6.cell 2
     have hlq:=bq6.lt
     have hls:=bs6.lt
     clear hF6 hp6 hf6 bq6 bs6 HB5 HBQ5 HBS5 q0 q1 q2 p0 p1 p2
     have z0:w6.cell? ⟨w.heap.size,0,none⟩=some (.bool false):=HB6.out.res.cell 0
     have z1:w6.cell? ⟨w.heap.size,1,none⟩=some (.int .i64 0):=HB6.out.res.cell 1
     have z2:w6.cell? ⟨w.heap.size,2,none⟩=some (.int .i64 0):=HB6.out.res.cell 2
     have v0:=HB6.out.res.frozen 0
     have v1:=HB6.out.res.frozen 1
     have v2:=HB6.out.res.frozen 2
     have hlr:=HB6.out.res.lt
     cases b1 <;> cases b2
     · skip
       go_wp2_with fail
       have HW:=HB6.out.below ((Below.refl w6.heap.size w6).alloc (Nat.le_refl _) (.cells #[.bool false,.int .i64 (x1),.int .i64 (y2)] 88))
       have HD:=HW.done (.bool false) (.int .i64 (x1)) (.int .i64 (y2))
       rw [World.setCell_alloc_past _ _ _ _ hlr,World.setCell_alloc_past _ _ _ _ (by simpa [World.setCell] using hlr),World.setCell_alloc_past _ _ _ _ (by simpa [World.setCell] using hlr)] at HD
       exact bodyPost_ret (v:=.agg #[.bool false,.int .i64 (x1),.int .i64 (y2)]) (by simp [results,Try.results50,go_sem,z0,z1,z2,v0,v1,v2,hlr]) rfl ⟨_,_,_,_,_,_,_,rfl,HD.1,HW.len,by have:=HNM.out;omega,HD.2⟩
     · skip
       go_wp2_with fail
       have HW:=HB6.out.below ((Below.refl w6.heap.size w6).alloc (Nat.le_refl _) (.cells #[.bool false,.int .i64 (x1),.int .i64 (bits .or .i64 y1 y2)] 88))
       have HD:=HW.done (.bool false) (.int .i64 (x1)) (.int .i64 (bits .or .i64 y1 y2))
       rw [World.setCell_alloc_past _ _ _ _ hlr,World.setCell_alloc_past _ _ _ _ (by simpa [World.setCell] using hlr),World.setCell_alloc_past _ _ _ _ (by simpa [World.setCell] using hlr)] at HD
       exact bodyPost_ret (v:=.agg #[.bool false,.int .i64 (x1),.int .i64 (bits .or .i64 y1 y2)]) (by simp [results,Try.results50,go_sem,z0,z1,z2,v0,v1,v2,hlr]) rfl ⟨_,_,_,_,_,_,_,rfl,HD.1,HW.len,by have:=HNM.out;omega,HD.2⟩
     · skip
       go_wp2_with fail
       have HW:=HB6.out.below ((Below.refl w6.heap.size w6).alloc (Nat.le_refl _) (.cells #[.bool false,.int .i64 (bits .or .i64 x1 x2),.int .i64 (y2)] 88))
       have HD:=HW.done (.bool false) (.int .i64 (bits .or .i64 x1 x2)) (.int .i64 (y2))
       rw [World.setCell_alloc_past _ _ _ _ hlr,World.setCell_alloc_past _ _ _ _ (by simpa [World.setCell] using hlr),World.setCell_alloc_past _ _ _ _ (by simpa [World.setCell] using hlr)] at HD
       exact bodyPost_ret (v:=.agg #[.bool false,.int .i64 (bits .or .i64 x1 x2),.int .i64 (y2)]) (by simp [results,Try.results50,go_sem,z0,z1,z2,v0,v1,v2,hlr]) rfl ⟨_,_,_,_,_,_,_,rfl,HD.1,HW.len,by have:=HNM.out;omega,HD.2⟩
     · skip
       go_wp2_with fail
       have HW:=HB6.out.below ((Below.refl w6.heap.size w6).alloc (Nat.le_refl _) (.cells #[.bool true,.int .i64 (bits .or .i64 x1 x2),.int .i64 (bits .or .i64 y1 y2)] 88))
       have HD:=HW.done (.bool true) (.int .i64 (bits .or .i64 x1 x2)) (.int .i64 (bits .or .i64 y1 y2))
       rw [World.setCell_alloc_past _ _ _ _ hlr,World.setCell_alloc_past _ _ _ _ (by simpa [World.setCell] using hlr),World.setCell_alloc_past _ _ _ _ (by simpa [World.setCell] using hlr)] at HD
       exact bodyPost_ret (v:=.agg #[.bool true,.int .i64 (bits .or .i64 x1 x2),.int .i64 (bits .or .i64 y1 y2)]) (by simp [results,Try.results50,go_sem,z0,z1,z2,v0,v1,v2,hlr]) rfl ⟨_,_,_,_,_,_,_,rfl,HD.1,HW.len,by have:=HNM.out;omega,HD.2⟩
   · injection ht with ht0 ht1
     injection ht1 with ht1 ht2
     injection ht2 with ht2 ht3
     subst ht0 ht1 ht2 ht3
     go_enter Try.func50,Try.ntmps50
     go_upto_region 3 with fail
     generalize ((w.alloc (.cells #[.bool false,.int .i64 0,.int .i64 0] 88)).alloc (.cells #[.int .i64 (5),.int .i64 (0),.int .i64 (0),.int .i64 (0)] 86))=W0 at *
     have k0:W0.cell? ⟨w.heap.size+1,0,none⟩=some (.int .i64 (5)):=hbt.cell 0
     have k1:W0.cell? ⟨w.heap.size+1,1,none⟩=some (.int .i64 (0)):=hbt.cell 1
     have HBR:=Hd_ hBR
     have HB0:=Hd_ hb0
     have HBT:=Hd_ hbt
     have hlt1:=hbt.lt
     clear e0 e1 e2 e3 hbr hb0 hbt hBR hpos hs0
     clear k1
     go_wp2_with fail
     refine (HST.out W0 (HB0.out.mono (by omega)) (by omega)).mono ?_
     rintro e w1 ⟨rfl,hb1⟩
     have HB1:=Hd_ (HBR.out.below hb1)
     clear hb1 HBR HBT HB0 k0
     go_wp2_with fail
     refine (HIA.out ls fs L F w1 (HB1.out.frm.under HPOS.out) HB1.out.pos HLF.out (by omega)).mono ?_
     rintro e w2 ⟨b1,x1,y1,ls2,fs2,L2,F2,rfl,hp2,hl2,hn2,hf2⟩
     have HB2:=Hd_ (HB1.out.next hp2 hl2 hf2)
     have hal:=(Below.refl w2.heap.size w2).alloc (Nat.le_refl _) (.cells #[.bool b1,.int .i64 x1,.int .i64 y1] 88)
     have bq:=Blk.new w2 88 #[.bool b1,.int .i64 x1,.int .i64 y1] _ rfl
     have HB3:=Hd_ (HB2.out.below hal)
     have HQ1:=Hd_ (show ls2.ownBlock ≠ some w2.heap.size from fun e=>by have:=(hp2.lets.lt _ e).2;omega)
     have HQ2:=Hd_ (show fs2.ownBlock ≠ some w2.heap.size from fun e=>by have:=(hp2.fol.lt _ e).2;omega)
     have hpl2:p < w2.heap.size:=hp2.blk.lt
     have HL2:=Hd_ hl2
     clear hal HB2 hl2 hp2 hf2 HB1
     go_upto_region 25 with fail
     generalize w2.alloc (.cells #[.bool b1,.int .i64 x1,.int .i64 y1] 88)=W3 at *
     have HBQ:=Hd_ bq
     clear bq
     go_wp2_with fail
     refine (HIB.out ls2 fs2 L2 F2 W3 (HB3.out.frm.under HPOS.out) HB3.out.pos HL2.out (by have:=HNM.out;omega)).mono ?_
     rintro e w4 ⟨b2,x2,y2,ls4,fs4,L4,F4,rfl,hp4,hl4,hn4,hf4⟩
     have HB4:=Hd_ (HB3.out.next hp4 hl4 hf4)
     have bq4:=hf4.blk HBQ.out (by omega) HQ1.out HQ2.out
     have HQ3:=Hd_ (show ls4.ownBlock ≠ some w2.heap.size from fun e=>(hf4.newl _ e).elim HQ1.out (fun e=>by have:=HBQ.out.lt;omega))
     have HQ4:=Hd_ (show fs4.ownBlock ≠ some w2.heap.size from fun e=>(hf4.newf _ e).elim HQ2.out (fun e=>by have:=HBQ.out.lt;omega))
     have hal:=(Below.refl w4.heap.size w4).alloc (Nat.le_refl _) (.cells #[.bool b2,.int .i64 x2,.int .i64 y2] 88)
     have bs:=Blk.new w4 88 #[.bool b2,.int .i64 x2,.int .i64 y2] _ rfl
     have HB5:=Hd_ (HB4.out.below hal)
     have HBQ5:=Hd_ (bq4.keep hal)
     have HS1:=Hd_ (show ls4.ownBlock ≠ some w4.heap.size from fun e=>by have:=(hp4.lets.lt _ e).2;omega)
     have HS2:=Hd_ (show fs4.ownBlock ≠ some w4.heap.size from fun e=>by have:=(hp4.fol.lt _ e).2;omega)
     have hpl4:p < w4.heap.size:=hp4.blk.lt
     have HL4:=Hd_ hl4
     clear hal HB4 hl4 hp4 hf4 HB3 bq4 HBQ
     go_upto_region 26 with fail
     generalize w4.alloc (.cells #[.bool b2,.int .i64 x2,.int .i64 y2] 88)=W5 at *
     have HBS5:=Hd_ bs
     clear bs
     have q0:W5.cell? ⟨w2.heap.size,0,none⟩=some (.bool b1):=HBQ5.out.cell 0
     have q1:W5.cell? ⟨w2.heap.size,1,none⟩=some (.int .i64 x1):=HBQ5.out.cell 1
     have q2:W5.cell? ⟨w2.heap.size,2,none⟩=some (.int .i64 y1):=HBQ5.out.cell 2
     have p0:W5.cell? ⟨w4.heap.size,0,none⟩=some (.bool b2):=HBS5.out.cell 0
     have p1:W5.cell? ⟨w4.heap.size,1,none⟩=some (.int .i64 x2):=HBS5.out.cell 1
     have p2:W5.cell? ⟨w4.heap.size,2,none⟩=some (.int .i64 y2):=HBS5.out.cell 2
     cases b1 <;> cases b2
     · skip
       have z0:W5.cell? ⟨w.heap.size,0,none⟩=some (.bool false):=HB5.out.res.cell 0
       have z1:W5.cell? ⟨w.heap.size,1,none⟩=some (.int .i64 0):=HB5.out.res.cell 1
       have z2:W5.cell? ⟨w.heap.size,2,none⟩=some (.int .i64 0):=HB5.out.res.cell 2
       have v0:=HB5.out.res.frozen 0
       have v1:=HB5.out.res.frozen 1
       have v2:=HB5.out.res.frozen 2
       have hlr:=HB5.out.res.lt
       go_wp2_with fail
       have HD:=HB5.out.done (.bool (false)) (.int .i64 (bits .or .i64 x1 x2)) (.int .i64 (bits .or .i64 y1 y2))
       exact bodyPost_ret (v:=.agg #[.bool (false),.int .i64 (bits .or .i64 x1 x2),.int .i64 (bits .or .i64 y1 y2)]) (by simp [results,Try.results50,go_sem,z0,z1,z2,v0,v1,v2,hlr]) rfl ⟨_,_,_,_,_,_,_,rfl,HD.1,HB5.out.len,by have:=HNM.out;omega,HD.2⟩
     · skip
       have z0:W5.cell? ⟨w.heap.size,0,none⟩=some (.bool false):=HB5.out.res.cell 0
       have z1:W5.cell? ⟨w.heap.size,1,none⟩=some (.int .i64 0):=HB5.out.res.cell 1
       have z2:W5.cell? ⟨w.heap.size,2,none⟩=some (.int .i64 0):=HB5.out.res.cell 2
       have v0:=HB5.out.res.frozen 0
       have v1:=HB5.out.res.frozen 1
       have v2:=HB5.out.res.frozen 2
       have hlr:=HB5.out.res.lt
       go_wp2_with fail
       have HD:=HB5.out.done (.bool (true)) (.int .i64 (bits .or .i64 x1 x2)) (.int .i64 (bits .or .i64 y1 y2))
       exact bodyPost_ret (v:=.agg #[.bool (true),.int .i64 (bits .or .i64 x1 x2),.int .i64 (bits .or .i64 y1 y2)]) (by simp [results,Try.results50,go_sem,z0,z1,z2,v0,v1,v2,hlr]) rfl ⟨_,_,_,_,_,_,_,rfl,HD.1,HB5.out.len,by have:=HNM.out;omega,HD.2⟩
     · skip
       have z0:W5.cell? ⟨w.heap.size,0,none⟩=some (.bool false):=HB5.out.res.cell 0
       have z1:W5.cell? ⟨w.heap.size,1,none⟩=some (.int .i64 0):=HB5.out.res.cell 1
       have z2:W5.cell? ⟨w.heap.size,2,none⟩=some (.int .i64 0):=HB5.out.res.cell 2
       have v0:=HB5.out.res.frozen 0
       have v1:=HB5.out.res.frozen 1
       have v2:=HB5.out.res.frozen 2
       have hlr:=HB5.out.res.lt
       go_wp2_with fail
       have HD:=HB5.out.done (.bool (true)) (.int .i64 (bits .or .i64 x1 x2)) (.int .i64 (bits .or .i64 y1 y2))
       exact bodyPost_ret (v:=.agg #[.bool (true),.int .i64 (bits .or .i64 x1 x2),.int .i64 (bits .or .i64 y1 y2)]) (by simp [results,Try.results50,go_sem,z0,z1,z2,v0,v1,v2,hlr]) rfl ⟨_,_,_,_,_,_,_,rfl,HD.1,HB5.out.len,by have:=HNM.out;omega,HD.2⟩
     · skip
       have z0:W5.cell? ⟨w.heap.size,0,none⟩=some (.bool false):=HB5.out.res.cell 0
       have z1:W5.cell? ⟨w.heap.size,1,none⟩=some (.int .i64 0):=HB5.out.res.cell 1
       have z2:W5.cell? ⟨w.heap.size,2,none⟩=some (.int .i64 0):=HB5.out.res.cell 2
       have v0:=HB5.out.res.frozen 0
       have v1:=HB5.out.res.frozen 1
       have v2:=HB5.out.res.frozen 2
       have hlr:=HB5.out.res.lt
       go_wp2_with fail
       have HD:=HB5.out.done (.bool (true)) (.int .i64 (bits .or .i64 x1 x2)) (.int .i64 (bits .or .i64 y1 y2))
       exact bodyPost_ret (v:=.agg #[.bool (true),.int .i64 (bits .or .i64 x1 x2),.int .i64 (bits .or .i64 y1 y2)]) (by simp [results,Try.results50,go_sem,z0,z1,z2,v0,v1,v2,hlr]) rfl ⟨_,_,_,_,_,_,_,rfl,HD.1,HB5.out.len,by have:=HNM.out;omega,HD.2⟩
/-- positions whose two lists are their own: one can be appended to -/
def PosO (lo:Nat) (w:World) (v:Value):Prop:=∃ (ls fs:Value) (fi la:Int) (nu:Bool) (L F:List Int),v=.agg #[ls,.int .i64 fi,.int .i64 la,fs,.bool nu]/\w.ownsRow lo 3 1 ls L.length (L.flatMap cI)/\w.ownsRow lo 3 1 fs F.length (F.flatMap cI)/\(∀ b,ls.ownBlock=some b->fs.ownBlock ≠ some b)/\L.length<=2097152
theorem PosO.zero (lo:Nat) (w:World):PosO lo w (.agg #[.slice none 0 0,.int .i64 0,.int .i64 0,.slice none 0 0,.bool false]):=⟨_,_,_,_,_,[],[],rfl,World.ownsRow_nil _ _ _ 1,World.ownsRow_nil _ _ _ 1,(by intro b hb;cases hb),by simp⟩
def PosOut2 (w:World) (e:Ending) (w':World):Prop:=∃ v is L F,e=.returned (.tuple #[v,.bool is])/\PosV w.heap.size w'.heap.size w' v L F/\Below w.heap.size w w'/\PosO w.heap.size w' v
theorem PosR.fields {p:Nat} {w:World} {ls fs:Value} {fi la:Int} {nu:Bool} {L F:List Int} (h:PosR p w ls fs fi la nu L F) (x y:Int) (b:Bool) :
 PosR p (((w.setCell ⟨p,1,none⟩ (.int .i64 x)).setCell ⟨p,2,none⟩ (.int .i64 y)).setCell ⟨p,4,none⟩ (.bool b)) ls fs x y b L F/\Only p (p+1) w (((w.setCell ⟨p,1,none⟩ (.int .i64 x)).setCell ⟨p,2,none⟩ (.int .i64 y)).setCell ⟨p,4,none⟩ (.bool b)):=by
 have ho:Only p (p+1) w (((w.setCell ⟨p,1,none⟩ (.int .i64 x)).setCell ⟨p,2,none⟩ (.int .i64 y)).setCell ⟨p,4,none⟩ (.bool b)) :=
  (((Only.refl p (p+1) w).setCell (p:=⟨p,1,none⟩) (.inl ⟨Nat.le_refl _,Nat.lt_succ_self _⟩) _).setCell (p:=⟨p,2,none⟩) (.inl ⟨Nat.le_refl _,Nat.lt_succ_self _⟩) _).setCell (p:=⟨p,4,none⟩) (.inl ⟨Nat.le_refl _,Nat.lt_succ_self _⟩) _
 have hb:=((h.blk.set_ 1 (.int .i64 x)).set_ 2 (.int .i64 y)).set_ 4 (.bool b)
 exact ⟨⟨by simpa using hb,own_only h.lets ho (Nat.le_refl _),own_only h.fol ho (Nat.le_refl _),h.apart⟩,ho⟩
def put5P (w:World) (r:Nat) (a b c d e:Value):World:=((((w.setCell ⟨r,0,none⟩ a).setCell ⟨r,1,none⟩ b).setCell ⟨r,2,none⟩ c).setCell ⟨r,3,none⟩ d).setCell ⟨r,4,none⟩ e
theorem put5P_only (w:World) (r:Nat) (a b c d e:Value):Only r (r+1) w (put5P w r a b c d e) :=
 (((((Only.refl r (r+1) w).setCell (p:=⟨r,0,none⟩) (.inl ⟨Nat.le_refl _,Nat.lt_succ_self _⟩) a).setCell (p:=⟨r,1,none⟩) (.inl ⟨Nat.le_refl _,Nat.lt_succ_self _⟩) b).setCell (p:=⟨r,2,none⟩) (.inl ⟨Nat.le_refl _,Nat.lt_succ_self _⟩) c).setCell (p:=⟨r,3,none⟩) (.inl ⟨Nat.le_refl _,Nat.lt_succ_self _⟩) d).setCell (p:=⟨r,4,none⟩) (.inl ⟨Nat.le_refl _,Nat.lt_succ_self _⟩) e
theorem PosR.done {p r:Nat} {w0 w:World} {ls fs:Value} {fi la:Int} {nu:Bool} {L F:List Int} (h:PosR p w ls fs fi la nu L F) (hl:L.length=F.length) (hb:Below w0.heap.size w0 w) (hr:w0.heap.size<=r) (hrp:r < p) (hm:L.length<=2097152) :
 PosV w0.heap.size (put5P w r ls (.int .i64 fi) (.int .i64 la) fs (.bool nu)).heap.size (put5P w r ls (.int .i64 fi) (.int .i64 la) fs (.bool nu)) (.agg #[ls,.int .i64 fi,.int .i64 la,fs,.bool nu]) L F/\Below w0.heap.size w0 (put5P w r ls (.int .i64 fi) (.int .i64 la) fs (.bool nu))/\PosO w0.heap.size (put5P w r ls (.int .i64 fi) (.int .i64 la) fs (.bool nu)) (.agg #[ls,.int .i64 fi,.int .i64 la,fs,.bool nu]):=by
 have ho:=put5P_only w r ls (.int .i64 fi) (.int .i64 la) fs (.bool nu)
 exact ⟨⟨_,_,_,_,_,rfl,((Own.of_row (xs:=L) (own_only h.lets ho (by omega)) rfl rfl).sl cI_len).mono (by omega) (Nat.le_refl _),((Own.of_row (xs:=F) (own_only h.fol ho (by omega)) rfl rfl).sl cI_len).mono (by omega) (Nat.le_refl _),hl⟩,hb.trans (ho.below hr (hb.size)),ls,fs,fi,la,nu,L,F,rfl,ownsRow_mono (own_only h.lets ho (by omega)) (by omega),ownsRow_mono (own_only h.fol ho (by omega)) (by omega),h.apart,hm⟩
set_option maxHeartbeats 8000000 in
theorem buildPositions_own (va:Value) (l:List Tok) (w:World) (hv:TkV 0 w.heap.size w va l) :
 Calls Try.prog 45 #[va] w (PosOut2 w):=by
 obtain ⟨sa,rfl,hsa⟩:=hv
 have HSA:=Hd_ (show TkV 0 w.heap.size w (.agg #[sa]) l from ⟨_,rfl,hsa⟩)
 obtain ⟨A1,n1,c1,rfl⟩:=hsa.shape
 clear hsa
 have hb0:=((Below.refl w.heap.size w).alloc (Nat.le_refl _) (.cells #[.slice A1 n1 c1] 76)).alloc (by simp) (.cells #[.slice none 0 0,.int .i64 0,.int .i64 0,.slice none 0 0,.bool false] 27)
 have hbr:=Blk.new (w.alloc (.cells #[.slice A1 n1 c1] 76)) 27 #[.slice none 0 0,.int .i64 0,.int .i64 0,.slice none 0 0,.bool false] (w.heap.size+1) (by simp)
 have hs0:((w.alloc (.cells #[.slice A1 n1 c1] 76)).alloc (.cells #[.slice none 0 0,.int .i64 0,.int .i64 0,.slice none 0 0,.bool false] 27)).heap.size=w.heap.size+2:=by simp
 have HTK:=Hd_ (HSA.out.keep hb0)
 go_enter Try.func45,Try.ntmps45
 go_wp2_with fail
 generalize ((w.alloc (.cells #[.slice A1 n1 c1] 76)).alloc (.cells #[.slice none 0 0,.int .i64 0,.int .i64 0,.slice none 0 0,.bool false] 27))=W0 at *
 refine (expandExpr_any _ l _ HTK.out).mono ?_
 rintro e w1 ⟨v1,is,rfl,⟨A3,n3,c3,rfl⟩,hex,hb1⟩
 have hs1:=hb1.size
 have HB1:=Hd_ (below_trans hb0 hb1)
 have HBR:=Hd_ (hbr.keep hb1)
 clear hb0 hbr hb1 HSA HTK
 have hal:=(Below.refl w1.heap.size w1).alloc (Nat.le_refl _) (.cells #[.slice A3 n3 c3] 76)
 have hbx:=Blk.new w1 76 #[.slice A3 n3 c3] _ rfl
 have hbr2:=HBR.out.keep hal
 have HB2:=Hd_ (below_trans HB1.out hal)
 have HAL:=Hd_ hal
 have hs2:w.heap.size+2<=w1.heap.size:=by omega
 have hs3:w1.heap.size < (w1.alloc (.cells #[.slice A3 n3 c3] 76)).heap.size:=hbx.lt
 clear hal HBR HB1 hs0 hs1
 go_upto_region 2 with fail
 generalize w1.alloc (.cells #[.slice A3 n3 c3] 76)=W2 at *
 have x0:W2.cell? ⟨w1.heap.size,0,none⟩=some (.slice A3 n3 c3):=hbx.cell 0
 have z0:W2.cell? ⟨w.heap.size+1,0,none⟩=some (.slice none 0 0):=hbr2.cell 0
 have z1:W2.cell? ⟨w.heap.size+1,1,none⟩=some (.int .i64 0):=hbr2.cell 1
 have z2:W2.cell? ⟨w.heap.size+1,2,none⟩=some (.int .i64 0):=hbr2.cell 2
 have z3:W2.cell? ⟨w.heap.size+1,3,none⟩=some (.slice none 0 0):=hbr2.cell 3
 have z4:W2.cell? ⟨w.heap.size+1,4,none⟩=some (.bool false):=hbr2.cell 4
 have v0:=hbr2.frozen 0
 have v1:=hbr2.frozen 1
 have v2:=hbr2.frozen 2
 have v3:=hbr2.frozen 3
 have v4:=hbr2.frozen 4
 have hlr:=hbr2.lt
 have HBX:=Hd_ hbx
 have HBR2:=Hd_ hbr2
 clear hbx hbr2
 cases is
 · clear hex
   go_wp2_with fail
   exact bodyPost_ret (v:=.tuple #[.agg #[.slice none 0 0,.int .i64 0,.int .i64 0,.slice none 0 0,.bool false],.bool false]) (by simp [results,Try.results45,go_sem,z0,z1,z2,z3,z4,v0,v1,v2,v3,v4,hlr]) rfl ⟨_,_,[],[],rfl,PosV.zero _ _ _,HB2.out.trans ((put5P_only _ _ _ _ _ _ _).below (by omega) HB2.out.size),PosO.zero _ _⟩
 · obtain ⟨r,hrok,hrl,htv⟩:=hex rfl
   clear hex
   obtain ⟨ss,hss,hsl⟩:=htv
   have hss:ss=.slice A3 n3 c3:=by simpa using hss.symm
   subst hss
   obtain ⟨A',c',hv,hl,hm,hx⟩:=id hsl
   injection hv with hv1 hv2 hv3
   subst hv1 hv3
   unfold maxLen at hm
   have hsl2:SlI 0 W2.heap.size W2 cEd 4 (.slice A3 n3 c3) (post r):=(hsl.below HAL.out (Nat.le_refl _)).mono (Nat.zero_le _) HAL.out.size
   have HX:=Hd_ (show ∀ i x,(post r)[i]?=some x->∃ b o,A3=some ⟨b,o,none⟩/\b < W2.heap.size/\W2.cell? ⟨b,o+i * 4,none⟩=some (.int .i64 x.1) from fun i x hi=>by
    obtain ⟨b,o,e,h1,h2,h3⟩:=hx i x hi
    have:=h3 0 _ rfl
    exact ⟨b,o,e,Nat.lt_of_lt_of_le h2 HAL.out.size,(HAL.out.cell (p:=⟨b,o+i * 4,none⟩) h2).trans this⟩)
   have HN:=Hd_ hv2
   have HS2:=Hd_ hsl2
   have HOK:=Hd_ hrok
   rw [<- hv2] at hl hrl
   clear hx hv2 hsl hsl2 hrok
   go_wp2_with fail
   go_loop [6,7] (fun nn ii=>∃ (i k:Nat),i<=n3/\k<=i/\nn=.int .i64 (k:Int)/\ii=.int .i64 (i:Int)) (fun _ ii=>n3 - (intOf ii).toNat)
   case atStart=>exact ⟨0,0,Nat.zero_le _,Nat.le_refl _,rfl,rfl⟩
   case round =>
    obtain ⟨i,k,hi,hk,rfl,rfl⟩:=hrel
    by_cases hlt:i < n3
    · have hii:(i:Int) < (n3:Int):=by omega
      obtain ⟨x,hxi⟩:∃ x,(post r)[i]?=some x:=⟨_,List.getElem?_eq_getElem (by have:=HN.out;omega)⟩
      obtain ⟨q,o,rfl,hq,e0⟩:=HX.out i x hxi
      obtain ⟨t0,t1,t2,t3⟩:=x
      simp only at e0
      clear hxi
      go_wp2_with fail
      · go_round
        case rel=>exact ⟨i+1,k+1,by omega,by omega,by go_num,by go_num⟩
        case measure=>simp [intOf];omega
      · go_round
        case rel=>exact ⟨i+1,k,by omega,by omega,rfl,by go_num⟩
        case measure=>simp [intOf];omega
    · have hii:¬ (i:Int) < (n3:Int):=by omega
      by_cases h20:20 < k
      · have hki:20 < (k:Int):=by omega
        go_wp2_with fail
        exact bodyPost_ret (v:=.tuple #[.agg #[.slice none 0 0,.int .i64 0,.int .i64 0,.slice none 0 0,.bool false],.bool false]) (by simp [results,Try.results45,go_sem,z0,z1,z2,z3,z4,v0,v1,v2,v3,v4,hlr]) rfl ⟨_,_,[],[],rfl,PosV.zero _ _ _,HB2.out.trans ((put5P_only _ _ _ _ _ _ _).below (by omega) HB2.out.size),PosO.zero _ _⟩
      · have hki:¬ 20 < (k:Int):=by omega
        obtain ⟨p,hp⟩:∃ p,p=W2.heap.size:=⟨_,rfl⟩
        have hal:=(Below.refl W2.heap.size W2).alloc (Nat.le_refl _) (.cells #[.slice none 0 0,.int .i64 0,.int .i64 0,.slice none 0 0,.bool false] 27)
        have hbp:=Blk.new W2 27 #[.slice none 0 0,.int .i64 0,.int .i64 0,.slice none 0 0,.bool false] p hp
        have HPR:=Hd_ (show PosR p (W2.alloc (.cells #[.slice none 0 0,.int .i64 0,.int .i64 0,.slice none 0 0,.bool false] 27)) (.slice none 0 0) (.slice none 0 0) 0 0 false [] [] from ⟨hbp,World.ownsRow_nil _ _ _ 1,World.ownsRow_nil _ _ _ 1,by intro b hb;cases hb⟩)
        have HS3:=Hd_ (show SlI 0 p (W2.alloc (.cells #[.slice none 0 0,.int .i64 0,.int .i64 0,.slice none 0 0,.bool false] 27)) cEd 4 _ (post r) by rw [hp];exact HS2.out.below hal (Nat.le_refl _))
        have HB3:=Hd_ (below_trans HB2.out hal)
        have HBR3:=Hd_ (HBR2.out.keep hal)
        have HBX3:=Hd_ (HBX.out.keep hal)
        have hlp:w.heap.size+1 < p:=by omega
        have hlx:w1.heap.size < p:=by omega
        have hsw:w.heap.size<=W2.heap.size:=HB2.out.size
        clear hbp hal
        go_upto_region 13 with fail
        clear HS2 HX x0 z0 z1 z2 z3 z4 v0 v1 v2 v3 v4 hlr HBR2 HBX
        rw [<- hp]
        generalize W2.alloc (.cells #[.slice none 0 0,.int .i64 0,.int .i64 0,.slice none 0 0,.bool false] 27)=W3 at *
        have x0:W3.cell? ⟨w1.heap.size,0,none⟩=some (.slice A3 n3 c3):=HBX3.out.cell 0
        clear hp
        go_wp2_with fail
        refine (l10Build_any p 0 0 false r _ _ _ [] [] W3 HOK.out HS3.out HPR.out rfl (by have:=HN.out;simp;omega)).mono ?_
        rintro e w4 ⟨b,x,y,ls,fs,L,F,rfl,hpr,hlf,hmx,hfr⟩
        have hun:=hfr.under HPR.out
        obtain ⟨B1,m1,d1,rfl⟩:=rowShape hpr.lets
        obtain ⟨B2,m2,d2,rfl⟩:=rowShape hpr.fol
        have hal:=(Below.refl w4.heap.size w4).alloc (Nat.le_refl _) (.cells #[.bool b,.int .i64 x,.int .i64 y] 88)
        have hbq:=Blk.new w4 88 #[.bool b,.int .i64 x,.int .i64 y] _ rfl
        have HPR4:=Hd_ (hpr.below hal)
        have HLF:=Hd_ hlf
        have HMX:=Hd_ hmx
        have HBR4:=Hd_ ((HBR3.out.below hun hlp).keep hal)
        have HB4:=Hd_ (((HB3.out.trans (hun.mono (by omega))).trans (hal.mono (by have:=HB3.out.size;have:=hun.size;omega))))
        have hpl:=hpr.blk.lt
        clear hpr hlf hmx hfr hun hal HPR HS3 HBR3 HBX3 HB3 x0
        go_upto_region 14 with fail
        generalize w4.alloc (.cells #[.bool b,.int .i64 x,.int .i64 y] 88)=W4 at *
        have q0:W4.cell? ⟨w4.heap.size,0,none⟩=some (.bool b):=hbq.cell 0
        have q1:W4.cell? ⟨w4.heap.size,1,none⟩=some (.int .i64 x):=hbq.cell 1
        have q2:W4.cell? ⟨w4.heap.size,2,none⟩=some (.int .i64 y):=hbq.cell 2
        have p0:W4.cell? ⟨p,0,none⟩=some (.slice B1 m1 d1):=HPR4.out.blk.cell 0
        have p1:W4.cell? ⟨p,1,none⟩=some (.int .i64 0):=HPR4.out.blk.cell 1
        have p2:W4.cell? ⟨p,2,none⟩=some (.int .i64 0):=HPR4.out.blk.cell 2
        have p3:W4.cell? ⟨p,3,none⟩=some (.slice B2 m2 d2):=HPR4.out.blk.cell 3
        have p4:W4.cell? ⟨p,4,none⟩=some (.bool false):=HPR4.out.blk.cell 4
        have g1:=HPR4.out.blk.frozen 1
        have g2:=HPR4.out.blk.frozen 2
        have g4:=HPR4.out.blk.frozen 4
        have hlp4:=HPR4.out.blk.lt
        have hlq4:=hbq.lt
        have n1:¬ p=w4.heap.size:=by omega
        have n2:¬ w4.heap.size=p:=by omega
        clear hbq
        go_upto_region 17 with fail
        have HF:=Hd_ (HPR4.out.fields x y b)
        have HBR5:=Hd_ (HBR4.out.only HF.out.2 (.inl (by omega)))
        have HB5:=Hd_ (HB4.out.trans (HF.out.2.below (by omega) HB4.out.size))
        generalize ((W4.setCell ⟨p,1,none⟩ (.int .i64 x)).setCell ⟨p,2,none⟩ (.int .i64 y)).setCell ⟨p,4,none⟩ (.bool b)=W5 at *
        clear p0 p1 p2 p3 p4 q0 q1 q2 g1 g2 g4 hlp4 hlq4 n1 n2
        have p0:W5.cell? ⟨p,0,none⟩=some (.slice B1 m1 d1):=HF.out.1.blk.cell 0
        have p1:W5.cell? ⟨p,1,none⟩=some (.int .i64 x):=HF.out.1.blk.cell 1
        have p2:W5.cell? ⟨p,2,none⟩=some (.int .i64 y):=HF.out.1.blk.cell 2
        have p3:W5.cell? ⟨p,3,none⟩=some (.slice B2 m2 d2):=HF.out.1.blk.cell 3
        have p4:W5.cell? ⟨p,4,none⟩=some (.bool b):=HF.out.1.blk.cell 4
        have z0:W5.cell? ⟨w.heap.size+1,0,none⟩=some (.slice none 0 0):=HBR5.out.cell 0
        have z1:W5.cell? ⟨w.heap.size+1,1,none⟩=some (.int .i64 0):=HBR5.out.cell 1
        have z2:W5.cell? ⟨w.heap.size+1,2,none⟩=some (.int .i64 0):=HBR5.out.cell 2
        have z3:W5.cell? ⟨w.heap.size+1,3,none⟩=some (.slice none 0 0):=HBR5.out.cell 3
        have z4:W5.cell? ⟨w.heap.size+1,4,none⟩=some (.bool false):=HBR5.out.cell 4
        have v0:=HBR5.out.frozen 0
        have v1:=HBR5.out.frozen 1
        have v2:=HBR5.out.frozen 2
        have v3:=HBR5.out.frozen 3
        have v4:=HBR5.out.frozen 4
        have hlr:=HBR5.out.lt
        go_wp2_with fail
        have HD:=HF.out.1.done HLF.out HB5.out (r:=w.heap.size+1) (by omega) (by omega) (by have:=HMX.out;have:=HN.out;simp at *;omega)
        exact bodyPost_ret (v:=.tuple #[.agg #[.slice B1 m1 d1,.int .i64 x,.int .i64 y,.slice B2 m2 d2,.bool b],.bool true]) (by simp [results,Try.results45,go_sem,z0,z1,z2,z3,z4,v0,v1,v2,v3,v4,hlr]) rfl ⟨_,_,L,F,rfl,HD.1,HD.2.1,HD.2.2⟩
set_option maxHeartbeats 4000000 in
theorem formatLetter_any (n:Int) (w:World) :
 Calls Try.prog 73 #[.int .i64 n] w fun e w'=>∃ s,e=.returned (.string s)/\Below w.heap.size w w':=by
 by_cases hw:wi n 0 8=true
 · have h1:=wi_iff.1 hw
   have hc:n=0 ∨ n=1 ∨ n=2 ∨ n=3 ∨ n=4 ∨ n=5 ∨ n=6 ∨ n=7 ∨ n=8:=by omega
   clear h1
   rcases hc with rfl | rfl | rfl | rfl | rfl | rfl | rfl | rfl | rfl
   all_goals
    go_enter Try.func73,Try.ntmps73
    go_wp2_with (refine (l2Letter_any _ _).mono ?_;rintro e w' ⟨rfl,rfl⟩)
    go_ret
    exact ⟨_,rfl,(Below.refl _ _).alloc (Nat.le_refl _) _⟩
 · have hw0:wi n 0 8=false:=by simpa using hw
   clear hw
   go_enter Try.func73,Try.ntmps73
   go_wp2_with (refine (l2Letter_any _ _).mono ?_;rintro e w' ⟨rfl,rfl⟩)
   go_ret
   exact ⟨_,rfl,Below.refl _ _⟩
def LetOut (w:World) (e:Ending) (w':World):Prop:=∃ (n:Int) (b:Bool),e=.returned (.tuple #[.int .i64 n,.bool b])/\Below w.heap.size w w'
set_option maxHeartbeats 4000000 in
theorem parseLetter_any (s:ByteArray) (w:World) :
 Calls Try.prog 72 #[.string s] w (LetOut w):=by
 go_enter Try.func72,Try.ntmps72
 go_wp2
 go_loopw [4] (fun ii wr=>∃ i:Nat,i<=9/\ii=.int .i64 (i:Int)/\Below w.heap.size w wr) (fun ii _=>9 - (intOf ii).toNat)
 case atStart=>exact ⟨0,by omega,rfl,Below.refl _ _⟩
 case round =>
  obtain ⟨i,hi,rfl,hb⟩:=hrel
  have HB:=Hd_ hb
  clear hb
  by_cases hlt:i < 9
  · have hi9:(i:Int) < 9:=by omega
    go_wp2_with fail
    refine (formatLetter_any _ _).mono ?_
    rintro e w2 ⟨x,rfl,hb2⟩
    have HB2:=Hd_ (HB.out.trans (hb2.mono HB.out.size))
    clear hb2
    cases hx:(x.toList==s.toList)
    · go_wp2_with fail
      go_roundw
      case rel=>exact ⟨i+1,by omega,by go_num,HB2.out⟩
      case measure=>simp [intOf];omega
    · go_wp2_with fail
      go_ret2
      exact ⟨_,_,rfl,HB2.out⟩
  · have hi9:¬ (i:Int) < 9:=by omega
    go_wp2_with fail
    go_ret2
    exact ⟨_,_,rfl,HB.out⟩
set_option maxHeartbeats 4000000 in
theorem l8Token_any (k:Int) (w:World) (hk:k=1 ∨ k=2 ∨ k=4 ∨ k=5 ∨ k=6) :
 Calls Try.prog 71 #[.agg #[.int .i64 k,.int .i64 0,.int .i64 0,.int .i64 0]] w fun e w'=>∃ s,e=.returned (.string s)/\Below w.heap.size w w':=by
 rcases hk with rfl | rfl | rfl | rfl | rfl
 all_goals
  go_enter Try.func71,Try.ntmps71
  go_wp2
  go_ret
  exact ⟨_,rfl,(Below.refl _ _).alloc (Nat.le_refl _) _⟩
theorem _root_.Go.RowKit.Below.set4 {w0 w:World} (h:Below w0.heap.size w0 w) (a b c d:Value) :
 Below w0.heap.size w0 ((((w.setCell ⟨w0.heap.size,0,none⟩ a).setCell ⟨w0.heap.size,1,none⟩ b).setCell ⟨w0.heap.size,2,none⟩ c).setCell ⟨w0.heap.size,3,none⟩ d) :=
 (((h.setCell (p:=⟨_,_,none⟩) (Nat.le_refl _) _).setCell (p:=⟨_,_,none⟩) (Nat.le_refl _) _).setCell (p:=⟨_,_,none⟩) (Nat.le_refl _) _).setCell (p:=⟨_,_,none⟩) (Nat.le_refl _) _
set_option maxHeartbeats 8000000 in
theorem l8Read_any (s:ByteArray) (w:World) (hs:s.size<=maxLen) :
 Calls Try.prog 69 #[.string s] w fun e w'=>∃ t:Tok,e=.returned (.agg #[.int .i64 t.1,.int .i64 t.2.1,.int .i64 t.2.2.1,.int .i64 t.2.2.2])/\Below w.heap.size w w':=by
 unfold maxLen at hs
 have hb0:=(Below.refl w.heap.size w).alloc (Nat.le_refl _) (.cells #[.int .i64 0,.int .i64 0,.int .i64 0,.int .i64 0] 86)
 have bk:=Blk.new w 86 #[.int .i64 0,.int .i64 0,.int .i64 0,.int .i64 0] _ rfl
 go_enter Try.func69,Try.ntmps69
 go_wp2
 go_loopw [3] (fun ii wr=>∃ i:Nat,1<=i/\i<=7/\ii=.int .i64 (i:Int)/\Below w.heap.size w wr/\Blk wr w.heap.size 86 #[.int .i64 0,.int .i64 0,.int .i64 0,.int .i64 0]) (fun ii _=>9 - (intOf ii).toNat)
 case atStart=>exact ⟨1,by omega,by omega,rfl,hb0,bk⟩
 case round =>
  obtain ⟨i,hi1,hi7,rfl,hb,hbk⟩:=hrel
  have HB:=Hd_ hb
  have HBK:=Hd_ hbk
  clear hb hbk hb0 bk
  by_cases hlt:i < 7
  · have hi6:(i:Int)<=6:=by omega
    by_cases h3:i=3
    · subst h3
      go_wp2_with fail
      go_roundw
      case rel=>exact ⟨4,by omega,by omega,rfl,HB.out,HBK.out⟩
      case measure=>simp [intOf]
    · have q3:((i:Int) != 3)=true:=by simp;omega
      have hk:(i:Int)=1 ∨ (i:Int)=2 ∨ (i:Int)=4 ∨ (i:Int)=5 ∨ (i:Int)=6:=by omega
      have HK:=Hd_ hk
      clear hk h3
      go_wp2_with fail
      refine (l8Token_any _ _ HK.out).mono ?_
      rintro e w2 ⟨x,rfl,hb2⟩
      have HB2:=Hd_ (HB.out.trans (hb2.mono HB.out.size))
      have hbk2:=HBK.out.keep hb2
      clear hb2
      cases hx:(x.toList==s.toList)
      · have HBK2:=Hd_ hbk2
        clear hbk2
        go_wp2_with fail
        go_roundw
        case rel=>exact ⟨i+1,by omega,by omega,by go_num,HB2.out,HBK2.out⟩
        case measure=>simp [intOf];omega
      · have hii:True:=trivial
        have z0:w2.cell? ⟨w.heap.size,0,none⟩=some (.int .i64 0):=hbk2.cell 0
        have z1:w2.cell? ⟨w.heap.size,1,none⟩=some (.int .i64 0):=hbk2.cell 1
        have z2:w2.cell? ⟨w.heap.size,2,none⟩=some (.int .i64 0):=hbk2.cell 2
        have z3:w2.cell? ⟨w.heap.size,3,none⟩=some (.int .i64 0):=hbk2.cell 3
        have v0:=hbk2.frozen 0
        have v1:=hbk2.frozen 1
        have v2:=hbk2.frozen 2
        have v3:=hbk2.frozen 3
        have hlr:=hbk2.lt
        clear hbk2
        go_wp2_with fail
        refine bodyPost_ret (v:=.agg #[.int .i64 i,.int .i64 0,.int .i64 0,.int .i64 0]) (by simp [results,Try.results69,go_sem,z0,z1,z2,z3,v0,v1,v2,v3,hlr]) rfl ⟨((i:Int),0,0,0),rfl,HB2.out.set4 _ _ _ _⟩
  · have hi6:¬ (i:Int)<=6:=by omega
    go_wp2_with fail
    refine (parseLetter_any s _).mono ?_
    rintro e w2 ⟨n,is,rfl,hb2⟩
    have HB2:=Hd_ (HB.out.trans (hb2.mono HB.out.size))
    have hbk2:=HBK.out.keep hb2
    clear hb2
    have z0:w2.cell? ⟨w.heap.size,0,none⟩=some (.int .i64 0):=hbk2.cell 0
    have z1:w2.cell? ⟨w.heap.size,1,none⟩=some (.int .i64 0):=hbk2.cell 1
    have z2:w2.cell? ⟨w.heap.size,2,none⟩=some (.int .i64 0):=hbk2.cell 2
    have z3:w2.cell? ⟨w.heap.size,3,none⟩=some (.int .i64 0):=hbk2.cell 3
    have v0:=hbk2.frozen 0
    have v1:=hbk2.frozen 1
    have v2:=hbk2.frozen 2
    have v3:=hbk2.frozen 3
    have hlr:=hbk2.lt
    clear hbk2
    cases is
    · by_cases h5:s.size=5
      · have HS5:=Hd_ h5
        have h5d:((s.size:Int)==5)=true:=by simp;omega
        have hb0:0 < s.size:=by omega
        have hb1:(1:Int) < (s.size:Int):=by omega
        have hb2:(2:Int) < (s.size:Int):=by omega
        have hb3:(3:Int) < (s.size:Int):=by omega
        have hb4:(4:Int) < (s.size:Int):=by omega
        clear h5
        go_wp2_with fail
        rotate_left
        · exact bodyPost_ret (v:=.agg #[.int .i64 0,.int .i64 0,.int .i64 0,.int .i64 0]) (by simp [results,Try.results69,go_sem,z0,z1,z2,z3,v0,v1,v2,v3,hlr]) rfl ⟨(0,0,0,0),rfl,HB2.out.set4 _ _ _ _⟩
        · exact bodyPost_ret (v:=.agg #[.int .i64 0,.int .i64 0,.int .i64 0,.int .i64 0]) (by simp [results,Try.results69,go_sem,z0,z1,z2,z3,v0,v1,v2,v3,hlr]) rfl ⟨(0,0,0,0),rfl,HB2.out.set4 _ _ _ _⟩
        · exact bodyPost_ret (v:=.agg #[.int .i64 0,.int .i64 0,.int .i64 0,.int .i64 0]) (by simp [results,Try.results69,go_sem,z0,z1,z2,z3,v0,v1,v2,v3,hlr]) rfl ⟨(0,0,0,0),rfl,HB2.out.set4 _ _ _ _⟩
        go_region
        go_wp2_with fail
        exact bodyPost_ret (v:=.agg #[.int .i64 7,.int .i64 0,.int .i64 (wrap64 (wrap64 ((s[1]'(by omega)).toNat:Int) - 48)),.int .i64 (wrap64 (wrap64 ((s[3]'(by omega)).toNat:Int) - 48))]) (by simp [results,Try.results69,go_sem,z0,z1,z2,z3,v0,v1,v2,v3,hlr]) rfl ⟨(7,0,_,_),rfl,(HB2.out.set4 _ _ _ _).drew⟩
      · have h5d:((s.size:Int)==5)=false:=by simp;omega
        go_wp2_with fail
        refine bodyPost_ret (v:=.agg #[.int .i64 0,.int .i64 0,.int .i64 0,.int .i64 0]) (by simp [results,Try.results69,go_sem,z0,z1,z2,z3,v0,v1,v2,v3,hlr]) rfl ⟨(0,0,0,0),rfl,HB2.out.set4 _ _ _ _⟩
    · go_wp2_with fail
      refine bodyPost_ret (v:=.agg #[.int .i64 3,.int .i64 n,.int .i64 0,.int .i64 0]) (by simp [results,Try.results69,go_sem,z0,z1,z2,z3,v0,v1,v2,v3,hlr]) rfl ⟨(3,n,0,0),rfl,HB2.out.set4 _ _ _ _⟩
theorem litD_sl (W:World) (e:TypeId) (cs:Array Value) (xs:List Int) (n lo:Nat) (hlo:lo<=W.heap.size) (hn:n<=maxLen) (h1:xs.length=n) (h2:xs.flatMap cI=cs.toList) (h3:cs.size=n * 1) :
 SlI lo (W.alloc (.cells cs e)).heap.size (W.alloc (.cells cs e)) cI 1 (.slice (some ⟨W.heap.size,0,none⟩) n n) xs :=
 (Own.of_row (xs:=xs) (E:=cI) (World.ownsRow_lit (base:=lo) (e:=e) (size:=1) W cs n hlo hn h3) h1 h2).sl cI_len
theorem tk_done {b r:Nat} {w0 w:World} {v:Value} {l:List Tok} (h:TkV (r+1) w.heap.size w v l) (hc:Cur w b) (ho:Only b (b+1) w0 w) (hr:w0.heap.size=r) (hb:b < r) (u:Value) :
 TkV w0.heap.size (w.setCell ⟨r,0,none⟩ u).heap.size (w.setCell ⟨r,0,none⟩ u) v l/\Cur (w.setCell ⟨r,0,none⟩ u) b/\Only b (b+1) w0 (w.setCell ⟨r,0,none⟩ u):=by
 have hs:=(Only.refl r (r+1) w).setCell (p:=⟨r,0,none⟩) (.inl ⟨Nat.le_refl _,Nat.lt_succ_self _⟩) u
 exact ⟨(h.only hs (Nat.le_refl _) (.inr (Nat.le_refl _))).mono (by omega) hs.size,hc.only hs (by omega),ho.setCell (p:=⟨r,0,none⟩) (.inr (by simp only;omega)) _⟩
set_option maxHeartbeats 8000000 in
theorem l8Make_any (b:Nat):∀ (d:Nat) (w:World),Cur w b->d<=3 ->
 Calls Try.prog 53 #[.pointer (some ⟨b,0,none⟩),.int .i64 (d:Int)] w fun e w'=>∃ v l,e=.returned v/\TkV w.heap.size w'.heap.size w' v l/\l.length+1<=2 ^ (d+1)/\Cur w' b/\Only b (b+1) w w':=by
 intro d
 induction d with
 | zero =>
   intro w hc _
   have hlt:=hc.lt
   have hb0:=(Below.refl w.heap.size w).alloc (Nat.le_refl _) (.cells #[.slice none 0 0] 76)
   have hbr:=Blk.new w 76 #[.slice none 0 0] _ rfl
   go_enter Try.func53,Try.ntmps53
   go_wp2_with fail
   refine (l1Once_any b 12 _ (hc.keep hb0)).mono ?_
   rintro e w1 ⟨r,rfl,hc1,ho1⟩
   have hbr1:=hbr.only ho1 (.inr (by omega))
   have hl1:=hbr1.lt
   have HO1:=Hd_ ((Only.of_below hb0 b (b+1)).trans ho1)
   clear hbr ho1 hb0
   cases r
   · have HSL:=Hd_ (litD_sl w1 3 #[.int .i64 0,.int .i64 0,.int .i64 2,.int .i64 2,.int .i64 1,.int .i64 4,.int .i64 3,.int .i64 6,.int .i64 7] [0,0,2,2,1,4,3,6,7] 9 (b+1) (by omega) (by decide) rfl rfl rfl)
     have HAL:=Hd_ ((Below.refl w1.heap.size w1).alloc (Nat.le_refl _) (.cells #[.int .i64 0,.int .i64 0,.int .i64 2,.int .i64 2,.int .i64 1,.int .i64 4,.int .i64 3,.int .i64 6,.int .i64 7] 3))
     go_wp2_with fail
     refine (l1PickInt_any b _ _ _ (hc1.keep HAL.out) (by decide) HSL.out).mono ?_
     rintro e w2 ⟨k,rfl,-,hc2,ho2⟩
     have hbr2:=(hbr1.keep HAL.out).only ho2 (.inr (by omega))
     have HO2:=Hd_ (HO1.out.trans ((Only.of_below HAL.out b (b+1)).trans ho2))
     have hl2:=hbr2.lt
     clear ho2 hbr1 hc1 HSL HAL
     go_wp2_with fail
     refine (letterExpr_any k _).mono ?_
     rintro e w3 ⟨v,rfl,ht,hb3⟩
     have HB3:=Hd_ (hbr2.keep hb3)
     have HO3:=Hd_ (HO2.out.trans (Only.of_below hb3 b (b+1)))
     have HC3:=Hd_ (hc2.keep hb3)
     have HT3:=Hd_ (ht.view.mono (lo':=w.heap.size+1) (by omega) (Nat.le_refl _))
     clear hbr2 hb3 hc2 ht
     obtain ⟨sx,rfl,hox⟩:=HT3.out
     obtain ⟨AX,nx,cx,rfl⟩:=hox.shape
     have bx:=HB3.out
     have z0:w3.cell? ⟨w.heap.size,0,none⟩=some (.slice none 0 0):=bx.cell 0
     have v0:=bx.frozen 0
     have hlr:=bx.lt
     clear bx hox
     go_wp2_with fail
     have HD:=tk_done HT3.out HC3.out HO3.out rfl hlt (.slice AX nx cx)
     refine bodyPost_ret (v:=.agg #[.slice AX nx cx]) (by simp [results,Try.results53,go_sem,z0,v0,hlr]) rfl ⟨_,_,rfl,HD.1,by simp,HD.2.1,HD.2.2⟩
   · have HSL:=Hd_ (litD_sl w1 3 #[.int .i64 1,.int .i64 2] [1,2] 2 (b+1) (by omega) (by decide) rfl rfl rfl)
     have HAL:=Hd_ ((Below.refl w1.heap.size w1).alloc (Nat.le_refl _) (.cells #[.int .i64 1,.int .i64 2] 3))
     go_wp2_with fail
     refine (l1PickInt_any b _ _ _ (hc1.keep HAL.out) (by decide) HSL.out).mono ?_
     rintro e w2 ⟨k,rfl,-,hc2,ho2⟩
     have hbr2:=(hbr1.keep HAL.out).only ho2 (.inr (by omega))
     have HO2:=Hd_ (HO1.out.trans ((Only.of_below HAL.out b (b+1)).trans ho2))
     have hl2:=hbr2.lt
     clear ho2 hbr1 hc1 HSL HAL
     go_wp2_with fail
     refine (l8Leaf_any k _).mono ?_
     rintro e w3 ⟨v,rfl,ht,hb3⟩
     have HB3:=Hd_ (hbr2.keep hb3)
     have HO3:=Hd_ (HO2.out.trans (Only.of_below hb3 b (b+1)))
     have HC3:=Hd_ (hc2.keep hb3)
     have HT3:=Hd_ (ht.view.mono (lo':=w.heap.size+1) (by omega) (Nat.le_refl _))
     clear hbr2 hb3 hc2 ht
     obtain ⟨sx,rfl,hox⟩:=HT3.out
     obtain ⟨AX,nx,cx,rfl⟩:=hox.shape
     have bx:=HB3.out
     have z0:w3.cell? ⟨w.heap.size,0,none⟩=some (.slice none 0 0):=bx.cell 0
     have v0:=bx.frozen 0
     have hlr:=bx.lt
     clear bx hox
     go_wp2_with fail
     have HD:=tk_done HT3.out HC3.out HO3.out rfl hlt (.slice AX nx cx)
     refine bodyPost_ret (v:=.agg #[.slice AX nx cx]) (by simp [results,Try.results53,go_sem,z0,v0,hlr]) rfl ⟨_,_,rfl,HD.1,by simp,HD.2.1,HD.2.2⟩
 | succ d ih =>
   intro w hc hd3
   have hlt:=hc.lt
   have hpw:(2:Nat) ^ (d+1+1)=2 * 2 ^ (d+1):=by rw [Nat.pow_succ];omega
   have hp8:(2:Nat) ^ (d+1)<=8:=Nat.le_trans (Nat.pow_le_pow_right (by decide) (show d+1<=3 by omega)) (by decide)
   have hb0:=(Below.refl w.heap.size w).alloc (Nat.le_refl _) (.cells #[.slice none 0 0] 76)
   have hbr:=Blk.new w 76 #[.slice none 0 0] _ rfl
   have hds:((d:Int)+1==0)=false:=by simp;omega
   rw [hpw]
   generalize (2:Nat) ^ (d+1)=P at *
   clear hpw
   go_enter Try.func53,Try.ntmps53
   go_wp2_with fail
   refine (l1Below_any b 6 _ (hc.keep hb0)).mono ?_
   rintro e w1 ⟨t,rfl,-,hc1,ho1⟩
   have hbr1:=hbr.only ho1 (.inr (by omega))
   have hl1:=hbr1.lt
   have HB1:=Hd_ hbr1
   have HC1:=Hd_ hc1
   have HO1:=Hd_ ((Only.of_below hb0 b (b+1)).trans ho1)
   clear hbr ho1 hb0 hds hbr1 hc1 hc
   by_cases ht0:t=0
   · subst ht0
     go_wp2_with fail
     refine (ih _ HC1.out (by omega)).mono ?_
     rintro e w2 ⟨v2,l2,rfl,h2,hn2,hc2,ho2⟩
     have HB2:=Hd_ (HB1.out.only ho2 (.inr (by omega)))
     have HO2:=Hd_ (HO1.out.trans ho2)
     have H2:=Hd_ h2
     have HC2:=Hd_ hc2
     have hz2:=ho2.size
     clear h2 hc2 ho2
     go_wp2_with fail
     refine (ih _ HC2.out (by omega)).mono ?_
     rintro e w3 ⟨v3,l3,rfl,h3,hn3,hc3,ho3⟩
     have HB3:=Hd_ (HB2.out.only ho3 (.inr (by omega)))
     have HO3:=Hd_ (HO2.out.trans ho3)
     have H23:=Hd_ (((H2.out.only ho3 (Nat.le_refl _) (.inr (by omega))).mono (Nat.zero_le _) ho3.size))
     have H3:=Hd_ (h3.mono (Nat.zero_le _) (Nat.le_refl _))
     have HC3:=Hd_ hc3
     have hz3:=ho3.size
     clear h3 hc3 ho3 H2
     go_wp2_with fail
     refine (l8Join_any _ _ l2 l3 (4,0,0,0) _ H23.out H3.out (by omega) (by omega)).mono ?_
     rintro e w4 ⟨v4,rfl,h4,hb4⟩
     have HB4:=Hd_ (HB3.out.keep hb4)
     have HO4:=Hd_ (HO3.out.trans (Only.of_below hb4 b (b+1)))
     have HC4:=Hd_ (HC3.out.keep hb4)
     have H4:=Hd_ (h4.view.mono (lo':=w.heap.size+1) (by omega) (Nat.le_refl _))
     clear h4 hb4
     obtain ⟨sx,rfl,hox⟩:=H4.out
     obtain ⟨AX,nx,cx,rfl⟩:=hox.shape
     have bx:=HB4.out
     have z0:w4.cell? ⟨w.heap.size,0,none⟩=some (.slice none 0 0):=bx.cell 0
     have v0:=bx.frozen 0
     have hlr:=bx.lt
     clear bx hox
     go_wp2_with fail
     have HD:=tk_done H4.out HC4.out HO4.out rfl hlt (.slice AX nx cx)
     refine bodyPost_ret (v:=.agg #[.slice AX nx cx]) (by simp [results,Try.results53,go_sem,z0,v0,hlr]) rfl ⟨_,_,rfl,HD.1,by simp;omega,HD.2.1,HD.2.2⟩
   have hd0:(t==0)=false:=by simpa using ht0
   by_cases ht1:t=1
   · subst ht1
     go_wp2_with fail
     refine (ih _ HC1.out (by omega)).mono ?_
     rintro e w2 ⟨v2,l2,rfl,h2,hn2,hc2,ho2⟩
     have HB2:=Hd_ (HB1.out.only ho2 (.inr (by omega)))
     have HO2:=Hd_ (HO1.out.trans ho2)
     have H2:=Hd_ h2
     have HC2:=Hd_ hc2
     have hz2:=ho2.size
     clear h2 hc2 ho2
     go_wp2_with fail
     refine (ih _ HC2.out (by omega)).mono ?_
     rintro e w3 ⟨v3,l3,rfl,h3,hn3,hc3,ho3⟩
     have HB3:=Hd_ (HB2.out.only ho3 (.inr (by omega)))
     have HO3:=Hd_ (HO2.out.trans ho3)
     have H23:=Hd_ (((H2.out.only ho3 (Nat.le_refl _) (.inr (by omega))).mono (Nat.zero_le _) ho3.size))
     have H3:=Hd_ (h3.mono (Nat.zero_le _) (Nat.le_refl _))
     have HC3:=Hd_ hc3
     have hz3:=ho3.size
     clear h3 hc3 ho3 H2
     go_wp2_with fail
     refine (l8Join_any _ _ l2 l3 (4,0,0,0) _ H23.out H3.out (by omega) (by omega)).mono ?_
     rintro e w4 ⟨v4,rfl,h4,hb4⟩
     have HB4:=Hd_ (HB3.out.keep hb4)
     have HO4:=Hd_ (HO3.out.trans (Only.of_below hb4 b (b+1)))
     have HC4:=Hd_ (HC3.out.keep hb4)
     have H4:=Hd_ (h4.view.mono (lo':=w.heap.size+1) (by omega) (Nat.le_refl _))
     clear h4 hb4
     obtain ⟨sx,rfl,hox⟩:=H4.out
     obtain ⟨AX,nx,cx,rfl⟩:=hox.shape
     have bx:=HB4.out
     have z0:w4.cell? ⟨w.heap.size,0,none⟩=some (.slice none 0 0):=bx.cell 0
     have v0:=bx.frozen 0
     have hlr:=bx.lt
     clear bx hox
     go_wp2_with fail
     have HD:=tk_done H4.out HC4.out HO4.out rfl hlt (.slice AX nx cx)
     refine bodyPost_ret (v:=.agg #[.slice AX nx cx]) (by simp [results,Try.results53,go_sem,z0,v0,hlr]) rfl ⟨_,_,rfl,HD.1,by simp;omega,HD.2.1,HD.2.2⟩
   have hd1:(t==1)=false:=by simpa using ht1
   by_cases ht2:t=2
   · subst ht2
     go_wp2_with fail
     refine (ih _ HC1.out (by omega)).mono ?_
     rintro e w2 ⟨v2,l2,rfl,h2,hn2,hc2,ho2⟩
     have HB2:=Hd_ (HB1.out.only ho2 (.inr (by omega)))
     have HO2:=Hd_ (HO1.out.trans ho2)
     have H2:=Hd_ h2
     have HC2:=Hd_ hc2
     have hz2:=ho2.size
     clear h2 hc2 ho2
     go_wp2_with fail
     refine (ih _ HC2.out (by omega)).mono ?_
     rintro e w3 ⟨v3,l3,rfl,h3,hn3,hc3,ho3⟩
     have HB3:=Hd_ (HB2.out.only ho3 (.inr (by omega)))
     have HO3:=Hd_ (HO2.out.trans ho3)
     have H23:=Hd_ (((H2.out.only ho3 (Nat.le_refl _) (.inr (by omega))).mono (Nat.zero_le _) ho3.size))
     have H3:=Hd_ (h3.mono (Nat.zero_le _) (Nat.le_refl _))
     have HC3:=Hd_ hc3
     have hz3:=ho3.size
     clear h3 hc3 ho3 H2
     go_wp2_with fail
     refine (l8Join_any _ _ l2 l3 (5,0,0,0) _ H23.out H3.out (by omega) (by omega)).mono ?_
     rintro e w4 ⟨v4,rfl,h4,hb4⟩
     have HB4:=Hd_ (HB3.out.keep hb4)
     have HO4:=Hd_ (HO3.out.trans (Only.of_below hb4 b (b+1)))
     have HC4:=Hd_ (HC3.out.keep hb4)
     have H4:=Hd_ (h4.view.mono (lo':=w.heap.size+1) (by omega) (Nat.le_refl _))
     clear h4 hb4
     obtain ⟨sx,rfl,hox⟩:=H4.out
     obtain ⟨AX,nx,cx,rfl⟩:=hox.shape
     have bx:=HB4.out
     have z0:w4.cell? ⟨w.heap.size,0,none⟩=some (.slice none 0 0):=bx.cell 0
     have v0:=bx.frozen 0
     have hlr:=bx.lt
     clear bx hox
     go_wp2_with fail
     have HD:=tk_done H4.out HC4.out HO4.out rfl hlt (.slice AX nx cx)
     refine bodyPost_ret (v:=.agg #[.slice AX nx cx]) (by simp [results,Try.results53,go_sem,z0,v0,hlr]) rfl ⟨_,_,rfl,HD.1,by simp;omega,HD.2.1,HD.2.2⟩
   have hd2:(t==2)=false:=by simpa using ht2
   by_cases ht3:t=3
   · subst ht3
     go_wp2_with fail
     refine (ih _ HC1.out (by omega)).mono ?_
     rintro e w2 ⟨v2,l2,rfl,h2,hn2,hc2,ho2⟩
     have HB2:=Hd_ (HB1.out.only ho2 (.inr (by omega)))
     have HO2:=Hd_ (HO1.out.trans ho2)
     have H2:=Hd_ h2
     have HC2:=Hd_ hc2
     have hz2:=ho2.size
     clear h2 hc2 ho2
     go_wp2_with fail
     refine (ih _ HC2.out (by omega)).mono ?_
     rintro e w3 ⟨v3,l3,rfl,h3,hn3,hc3,ho3⟩
     have HB3:=Hd_ (HB2.out.only ho3 (.inr (by omega)))
     have HO3:=Hd_ (HO2.out.trans ho3)
     have H23:=Hd_ (((H2.out.only ho3 (Nat.le_refl _) (.inr (by omega))).mono (Nat.zero_le _) ho3.size))
     have H3:=Hd_ (h3.mono (Nat.zero_le _) (Nat.le_refl _))
     have HC3:=Hd_ hc3
     have hz3:=ho3.size
     clear h3 hc3 ho3 H2
     go_wp2_with fail
     refine (l8Join_any _ _ l2 l3 (5,0,0,0) _ H23.out H3.out (by omega) (by omega)).mono ?_
     rintro e w4 ⟨v4,rfl,h4,hb4⟩
     have HB4:=Hd_ (HB3.out.keep hb4)
     have HO4:=Hd_ (HO3.out.trans (Only.of_below hb4 b (b+1)))
     have HC4:=Hd_ (HC3.out.keep hb4)
     have H4:=Hd_ (h4.view.mono (lo':=w.heap.size+1) (by omega) (Nat.le_refl _))
     clear h4 hb4
     obtain ⟨sx,rfl,hox⟩:=H4.out
     obtain ⟨AX,nx,cx,rfl⟩:=hox.shape
     have bx:=HB4.out
     have z0:w4.cell? ⟨w.heap.size,0,none⟩=some (.slice none 0 0):=bx.cell 0
     have v0:=bx.frozen 0
     have hlr:=bx.lt
     clear bx hox
     go_wp2_with fail
     have HD:=tk_done H4.out HC4.out HO4.out rfl hlt (.slice AX nx cx)
     refine bodyPost_ret (v:=.agg #[.slice AX nx cx]) (by simp [results,Try.results53,go_sem,z0,v0,hlr]) rfl ⟨_,_,rfl,HD.1,by simp;omega,HD.2.1,HD.2.2⟩
   have hdd3:(t==3)=false:=by simpa using ht3
   by_cases ht4:t=4
   · subst ht4
     go_wp2_with fail
     refine (ih _ HC1.out (by omega)).mono ?_
     rintro e w2 ⟨v2,l2,rfl,h2,hn2,hc2,ho2⟩
     have HB2:=Hd_ (HB1.out.only ho2 (.inr (by omega)))
     have HO2:=Hd_ (HO1.out.trans ho2)
     have H2:=Hd_ (h2.mono (Nat.zero_le _) (Nat.le_refl _))
     have HC2:=Hd_ hc2
     have hz2:=ho2.size
     clear h2 hc2 ho2
     go_wp2_with fail
     refine (l8Join_any _ _ l2 [] (6,0,0,0) _ H2.out (TkV.nil _ _ _) (by omega) (by simp)).mono ?_
     rintro e w4 ⟨v4,rfl,h4,hb4⟩
     have HB4:=Hd_ (HB2.out.keep hb4)
     have HO4:=Hd_ (HO2.out.trans (Only.of_below hb4 b (b+1)))
     have HC4:=Hd_ (HC2.out.keep hb4)
     have H4:=Hd_ (h4.view.mono (lo':=w.heap.size+1) (by omega) (Nat.le_refl _))
     clear h4 hb4
     obtain ⟨sx,rfl,hox⟩:=H4.out
     obtain ⟨AX,nx,cx,rfl⟩:=hox.shape
     have bx:=HB4.out
     have z0:w4.cell? ⟨w.heap.size,0,none⟩=some (.slice none 0 0):=bx.cell 0
     have v0:=bx.frozen 0
     have hlr:=bx.lt
     clear bx hox
     go_wp2_with fail
     have HD:=tk_done H4.out HC4.out HO4.out rfl hlt (.slice AX nx cx)
     refine bodyPost_ret (v:=.agg #[.slice AX nx cx]) (by simp [results,Try.results53,go_sem,z0,v0,hlr]) rfl ⟨_,_,rfl,HD.1,by simp;omega,HD.2.1,HD.2.2⟩
   have hd4:(t==4)=false:=by simpa using ht4
   clear ht0 ht1 ht2 ht3 ht4
   go_wp2_with fail
   refine (l1Below_any b 3 _ HC1.out).mono ?_
   rintro e w5 ⟨h,rfl,⟨hh0,-,hh1⟩,hc5,ho5⟩
   have hh1:=hh1 (by omega)
   have HB5:=Hd_ (HB1.out.only ho5 (.inr (by omega)))
   have HO5:=Hd_ (HO1.out.trans ho5)
   have HC5:=Hd_ hc5
   have hz5:=ho5.size
   clear hc5 ho5 hd0 hd1 hd2 hdd3 hd4
   go_wp2_with fail
   refine (ih _ HC5.out (by omega)).mono ?_
   rintro e w2 ⟨v2,l2,rfl,h2,hn2,hc2,ho2⟩
   have HB2:=Hd_ (HB5.out.only ho2 (.inr (by omega)))
   have HO2:=Hd_ (HO5.out.trans ho2)
   have H2:=Hd_ h2
   have HC2:=Hd_ hc2
   have hz2:=ho2.size
   clear h2 hc2 ho2
   go_wp2_with fail
   refine (l1Below_any b _ _ HC2.out).mono ?_
   rintro e w3 ⟨lo,rfl,-,hc3,ho3⟩
   have HB3:=Hd_ (HB2.out.only ho3 (.inr (by omega)))
   have HO3:=Hd_ (HO2.out.trans ho3)
   have H23:=Hd_ (((H2.out.only ho3 (Nat.le_refl _) (.inr (by omega))).mono (Nat.zero_le _) ho3.size))
   have HC3:=Hd_ hc3
   have hz3:=ho3.size
   clear hc3 ho3 H2
   go_wp2_with fail
   refine (l8Join_any _ _ l2 [] (7,0,lo,1+h) _ H23.out (TkV.nil _ _ _) (by omega) (by simp)).mono ?_
   rintro e w4 ⟨v4,rfl,h4,hb4⟩
   have HB4:=Hd_ (HB3.out.keep hb4)
   have HO4:=Hd_ (HO3.out.trans (Only.of_below hb4 b (b+1)))
   have HC4:=Hd_ (HC3.out.keep hb4)
   have H4:=Hd_ (h4.view.mono (lo':=w.heap.size+1) (by omega) (Nat.le_refl _))
   clear h4 hb4
   obtain ⟨sx,rfl,hox⟩:=H4.out
   obtain ⟨AX,nx,cx,rfl⟩:=hox.shape
   have bx:=HB4.out
   have z0:w4.cell? ⟨w.heap.size,0,none⟩=some (.slice none 0 0):=bx.cell 0
   have v0:=bx.frozen 0
   have hlr:=bx.lt
   clear bx hox
   go_wp2_with fail
   have HD:=tk_done H4.out HC4.out HO4.out rfl hlt (.slice AX nx cx)
   refine bodyPost_ret (v:=.agg #[.slice AX nx cx]) (by simp [results,Try.results53,go_sem,z0,v0,hlr]) rfl ⟨_,_,rfl,HD.1,by simp;omega,HD.2.1,HD.2.2⟩
def cS (s:ByteArray):List Value:=[.string s]
theorem cS_len (x:ByteArray):(cS x).length=1:=rfl
theorem cS_one (x:ByteArray):∀ u ∈ cS x,u.oneCell'=true:=by intro u hu;simp only [cS,List.mem_cons,List.not_mem_nil,or_false] at hu;subst hu;rfl
theorem elStr:ElemOk Try.prog 100 9 (.string ⟨#[]⟩) 1 16:=⟨Try.underlying100,by kernel_rfl,rfl,by omega⟩
theorem kcell_own {w w':World} {base k n:Nat} {e:TypeId} {v:Value} {cs:List Value} (hg:w.grownBy w' v.ownBlock) (h:w.ownsRow base e k v n cs) {p:Addr} {u:Value} (hc:w.cell? p=some u) (hp:p.block < base):w'.cell? p=some u :=
 hg.cell hc (fun e=>by have:=(h.lt p.block e.symm).1;omega)
set_option maxHeartbeats 4000000 in
theorem l2Cut_any (s:ByteArray) (w:World) (hs:s.size<=1000) :
 Calls Try.prog 68 #[.string s,.int .u8 32] w fun e w'=>∃ v L,e=.returned v/\Own w.heap.size w'.heap.size w' 9 cS 1 v L/\(L.length<=1001/\∀ x ∈ L,x.size<=maxLen)/\Below w.heap.size w w':=by
 have hal:=(Below.refl w.heap.size w).alloc (Nat.le_refl _) (.cells #[] 9)
 have hrl:=World.ownsRow_lit (base:=w.heap.size) (e:=9) (size:=1) w #[] 0 (Nat.le_refl _) (by decide) rfl
 go_enter Try.func68,Try.ntmps68
 go_wp2
 go_loopw [5,6,7] (fun oo ff ii wr=>∃ (i f:Nat) (L:List ByteArray),i<=s.size/\f<=i/\L.length<=i/\(∀ x ∈ L,x.size<=maxLen)/\ff=.int .i64 (f:Int)/\ii=.int .i64 (i:Int)/\wr.ownsRow w.heap.size 9 1 oo L.length (L.flatMap cS)/\Below w.heap.size w wr) (fun _ _ ii _=>s.size - (intOf ii).toNat)
 case atStart=>exact ⟨0,0,[],by omega,by omega,by simp,by simp,rfl,rfl,hrl,hal⟩
 case round =>
  obtain ⟨i,f,L,hi,hf,hL,hx,rfl,rfl,hrow,hb⟩:=hrel
  obtain ⟨A,n,c,rfl⟩:=rowShape hrow
  have HX:=Hd_ hx
  have HR:=Hd_ hrow
  have HB:=Hd_ hb
  clear hx hrow hb hal hrl
  by_cases hlt:i < s.size
  · have hii:(i:Int) < (s.size:Int):=by omega
    cases hc:((s[i].toNat:Int)==32)
    · go_wp2_with fail
      go_roundw
      case rel=>exact ⟨i+1,f,L,by omega,by omega,by omega,HX.out,rfl,by go_num,HR.out,HB.out⟩
      case measure=>simp [intOf];omega
    · go_wp2_with (at_builtin;(refine wpList_append2 cS elStr rfl _ _ (by rfl) w.heap.size _ L (s.extract f i) 1 _ (by rfl) (HR.out.alloc _) (by rfl) (heap_alloc_new _ _) rfl (cS_one _) (by omega) (by omega) (by have:=HB.out.size;simp;omega) ?_);intro g2 cp2 w9 hown3 hgr3 hat3 hlt3;have HR9:=Hd_ hown3;have HB9:=Hd_ ((HB.out.alloc HB.out.size (.cells #[.string (s.extract f i)] 9)).trans (own_below (HR.out.alloc (.cells #[.string (s.extract f i)] 9)) (by have:=HB.out.size;simp;omega) hgr3));clear hown3 hgr3 hat3)
      have hxs:(s.extract f i).size<=maxLen:=by rw [ByteArray.size_extract];unfold maxLen;omega
      have HXS:=Hd_ hxs
      clear hxs
      go_roundw
      case rel=>exact ⟨i+1,i+1,L ++ [s.extract f i],by omega,by omega,by simp;omega,fun x hx=>by rcases List.mem_append.1 hx with h | h;exact HX.out x h;rw [List.mem_singleton] at h;rw [h];exact HXS.out,by go_num,by go_num,HR9.out,HB9.out⟩
      case measure=>simp [intOf];omega
  · obtain rfl:i=s.size:=by omega
    go_wp2_with (at_builtin;(refine wpList_append2 cS elStr rfl _ _ (by rfl) w.heap.size _ L (s.extract f s.size) 1 _ (by rfl) (HR.out.alloc _) (by rfl) (heap_alloc_new _ _) rfl (cS_one _) (by omega) (by omega) (by have:=HB.out.size;simp;omega) ?_);intro g2 cp2 w9 hown3 hgr3 hat3 hlt3;have HR9:=Hd_ hown3;have HB9:=Hd_ ((HB.out.alloc HB.out.size (.cells #[.string (s.extract f s.size)] 9)).trans (own_below (HR.out.alloc (.cells #[.string (s.extract f s.size)] 9)) (by have:=HB.out.size;simp;omega) hgr3));clear hown3 hgr3 hat3)
    have hxs:(s.extract f s.size).size<=maxLen:=by rw [ByteArray.size_extract];unfold maxLen;omega
    go_ret
    exact ⟨_,L ++ [s.extract f s.size],rfl,Own.of_row HR9.out rfl rfl,⟨by simp;omega,fun x hx=>by rcases List.mem_append.1 hx with h | h;exact HX.out x h;rw [List.mem_singleton] at h;rw [h];exact hxs⟩,HB9.out⟩
/-- an expression that is being read: in the block behind the result's -/
structure PaR (w0 w1 w:World) (ss:Value) (T:List Tok):Prop where
 res:Blk w w0.heap.size 76 #[.slice none 0 0]
 blk:Blk w (w0.heap.size+1) 76 #[ss]
 row:w.ownsRow w1.heap.size 86 4 ss T.length (T.flatMap cEd)
 only:Only (w0.heap.size+1) (w0.heap.size+2) w1 w
 base:Below w0.heap.size w0 w1
 le:w0.heap.size+2<=w1.heap.size
theorem PaR.below {w0 w1 w w':World} {ss:Value} {T:List Tok} (h:PaR w0 w1 w ss T) (hb:Below w.heap.size w w'):PaR w0 w1 w' ss T :=
 ⟨h.res.keep hb,h.blk.keep hb,ownsRow_below h.row hb (Nat.le_refl _),h.only.trans (Only.of_below hb _ _),h.base,h.le⟩
theorem PaR.push {w0 w1 w w':World} {ss:Value} {T T':List Tok} {g n c:Nat} (h:PaR w0 w1 w ss T) (hr:w'.ownsRow w1.heap.size 86 4 (.slice (some ⟨g,0,none⟩) n c) T'.length (T'.flatMap cEd)) (hg:w.grownBy w' ss.ownBlock) :
 Blk w' (w0.heap.size+1) 76 #[ss]/\PaR w0 w1 (w'.setCell ⟨w0.heap.size+1,0,none⟩ (.slice (some ⟨g,0,none⟩) n c)) (.slice (some ⟨g,0,none⟩) n c) T':=by
 have hl:=h.le
 have hb:=own_below h.row h.only.size hg
 have hgl:=(hr.lt g rfl).1
 have hbq:=h.blk.below hb (by omega)
 exact ⟨hbq,(h.res.below hb (by omega)).far (by simp only;omega) _,hbq.set_ 0 _,ownsRow_block hr (fun g' hg'=>by cases hg';exact Below.heap_setCell w' ⟨w0.heap.size+1,0,none⟩ _ g (by simp only;omega)),(h.only.andBelow hb (Nat.le_refl _)).setCell (p:=⟨w0.heap.size+1,0,none⟩) (.inl (by simp only;omega)) _,h.base,hl⟩
theorem PaR.done {w0 w1 w:World} {ss:Value} {T:List Tok} (h:PaR w0 w1 w ss T) :
 TkV w0.heap.size (w.setCell ⟨w0.heap.size,0,none⟩ ss).heap.size (w.setCell ⟨w0.heap.size,0,none⟩ ss) (.agg #[ss]) T/\T.length<=T.length/\Below w0.heap.size w0 (w.setCell ⟨w0.heap.size,0,none⟩ ss):=by
 have hl:=h.le
 have ho:=(Only.refl w0.heap.size (w0.heap.size+1) w).setCell (p:=⟨w0.heap.size,0,none⟩) (.inl ⟨Nat.le_refl _,Nat.lt_succ_self _⟩) ss
 exact ⟨⟨ss,rfl,(((Own.of_row (xs:=T) h.row rfl rfl).only ho (.inr (by omega))).sl cEd_len).mono (by omega) ho.size⟩,Nat.le_refl _,(h.base.trans (h.only.below (by omega) (by omega))).setCell (p:=⟨w0.heap.size,0,none⟩) (Nat.le_refl _) _⟩
theorem PaR.off {w0 w1 w:World} {ss:Value} {T:List Tok} (h:PaR w0 w1 w ss T) :
 TkV w0.heap.size (w.setCell ⟨w0.heap.size,0,none⟩ (.slice none 0 0)).heap.size (w.setCell ⟨w0.heap.size,0,none⟩ (.slice none 0 0)) (.agg #[.slice none 0 0]) []/\([]:List Tok).length<=100/\Below w0.heap.size w0 (w.setCell ⟨w0.heap.size,0,none⟩ (.slice none 0 0)) :=
 ⟨TkV.nil _ _ _,by simp,(h.base.trans (h.only.below (by omega) (by have:=h.base.size;omega))).setCell (p:=⟨w0.heap.size,0,none⟩) (Nat.le_refl _) _⟩
theorem PaR.view {w0 w1 w:World} {ss:Value} {T:List Tok} (h:PaR w0 w1 w ss T):SlE w cEd 4 ss T:=((Own.of_row (xs:=T) h.row rfl rfl).sl cEd_len).mono (Nat.zero_le _) (Nat.le_refl _)
set_option maxHeartbeats 8000000 in
theorem parseExpr_any (s:ByteArray) (w:World) (hs:s.size<=1000) :
 Calls Try.prog 60 #[.string s] w fun e w'=>∃ v l is,e=.returned (.tuple #[v,.bool is])/\(TkV w.heap.size w'.heap.size w' v l/\l.length<=100/\Below w.heap.size w w'):=by
 have hb0:=((Below.refl w.heap.size w).alloc (Nat.le_refl _) (.cells #[.slice none 0 0] 76)).alloc (by simp) (.cells #[.slice none 0 0] 76)
 have b1:=(Blk.new w 76 #[.slice none 0 0] _ rfl).alloc (.cells #[.slice none 0 0] 76)
 have b2:=Blk.new (w.alloc (.cells #[.slice none 0 0] 76)) 76 #[.slice none 0 0] (w.heap.size+1) (by simp)
 have hs0:((w.alloc (.cells #[.slice none 0 0] 76)).alloc (.cells #[.slice none 0 0] 76)).heap.size=w.heap.size+2:=by simp
 go_enter Try.func60,Try.ntmps60
 go_wp2_with fail
 generalize ((w.alloc (.cells #[.slice none 0 0] 76)).alloc (.cells #[.slice none 0 0] 76))=W0 at *
 refine (l2Cut_any s _ hs).mono ?_
 rintro e w1 ⟨v1,L,rfl,hoL,⟨hL,hxL⟩,hb1⟩
 have hc1:=b1.keep hb1
 have hc2:=b2.keep hb1
 have hbw:=below_trans hb0 hb1
 have hsz:=hb1.size
 rw [hs0] at hoL hsz
 obtain ⟨AL,cL,rfl,hlL,hmL,hxx⟩:=hoL.sl cS_len
 unfold maxLen at hmL
 obtain ⟨n,hn⟩:∃ n,n=L.length:=⟨_,rfl⟩
 rw [<- hn] at hL hlL ⊢
 have HN:=Hd_ hn
 have HXX:=Hd_ hxx
 have HXL:=Hd_ hxL
 clear hoL hxx hxL hb0 hb1 b1 b2 hs0 hn
 go_wp2_with fail
 have HP0:=Hd_ (show PaR w w1 w1 (.slice none 0 0) [] from ⟨hc1,hc2,World.ownsRow_nil _ _ _ 4,Only.refl _ _ _,hbw,hsz⟩)
 clear hc1 hc2 hbw hsz
 go_loopw [6] (fun ii wr=>∃ (i:Nat) (ss:Value) (T:List Tok),i<=25/\ii=.int .i64 (i:Int)/\T.length=i/\PaR w w1 wr ss T) (fun ii _=>30 - (intOf ii).toNat)
 case atStart=>exact ⟨0,_,[],by omega,rfl,rfl,HP0.out⟩
 case round =>
  obtain ⟨i,ss,T,hi,rfl,hT,hP⟩:=hrel
  have HT:=Hd_ hT
  have hTl:T.length<=25:=by omega
  obtain ⟨A3,n3,c3,rfl⟩:=rowShape hP.row
  have HP:=Hd_ hP
  have x0:wr.cell? ⟨w.heap.size+1,0,none⟩=some (.slice A3 n3 c3):=hP.blk.cell 0
  clear hT hP HP0
  by_cases hlt:i < n
  · have hin:(i:Int) < (n:Int):=by omega
    by_cases h24:i<=24
    · have hi24:(i:Int)<=24:=by omega
      have hxi:L[i]?=some L[i]:=List.getElem?_eq_getElem (by have:=HN.out;omega)
      obtain ⟨q,o,rfl,hq0,hq1,hcc⟩:=HXX.out i _ hxi
      have hxs:=HXL.out _ (List.mem_of_getElem? hxi)
      generalize L[i]=x at hcc hxs
      have e0:=(HP.out.only.cell (p:=⟨q,o+i * 1+0,none⟩) hq1 (.inr (by simp only;omega))).trans (hcc 0 _ rfl)
      simp only [Nat.add_zero,Nat.mul_one] at e0
      have HXS:=Hd_ hxs
      clear hcc hxi hxs
      go_wp2_with fail
      refine F_start 10 (fun w'=>w'.cell? ⟨w.heap.size+1,0,none⟩=some (.slice A3 n3 c3)/\w'.cell? ⟨q,o+i,none⟩=some (.string x)) (by kernel_rfl) (by exact ⟨x0,e0⟩) (fun hS inv=>?_)
      refine F_tk 0 inv ?_
      try simp only [tA,tB,tC,Act.put,tE,tF,tG]
      clear inv;intro inv
      refine F_tk 1 inv ?_
      try simp only [tA,tB,tC,Act.put,tE,tF,tG]
      clear inv;intro inv
      refine F_tk 2 inv ?_
      try simp only [tA,tB,tC,Act.put,tE,tF,tG]
      clear inv;intro inv
      refine F_tk 3 inv ?_
      try simp only [tA,tB,tC,Act.put,tE,tF,tG]
      clear inv;intro inv
      refine F_tk 4 inv ?_
      try simp only [tA,tB,tC,Act.put,tE,tF,tG]
      clear inv;intro inv
      refine F_tk 5 inv ?_
      try simp only [tA,tB,tC,Act.put,tE,tF,tG]
      clear inv;intro inv
      have HPd:=Hd_ (HP.out.below ((Below.refl _ _).drew))
      clear HP x0 e0
      refine F_o1 6 inv ?_;intro K hK
      try simp only [tA,tB,tC]
      go_simp
      refine (l8Read_any x _ HXS.out).mono ?_
      rintro e w2 ⟨⟨t0,t1,t2,t3⟩,rfl,hb2⟩
      have HP2:=Hd_ (HPd.out.below hb2)
      refine hK.out _ _ (⟨HP2.out.blk.cell 0,kcell hb2 hS.2⟩) (fun _ _=>?_)
      try simp only [tA,tB,tC,Act.put,tE,tF,tG]
      clear hK K inv hS;rename_i hS inv
      clear HPd
      refine F_o1 7 inv ?_;intro K hK
      try simp only [tA,tB,tC]
      go_simp
      have hal:=(Below.refl w2.heap.size w2).alloc (Nat.le_refl _) (.cells #[.int .i64 t0,.int .i64 t1,.int .i64 t2,.int .i64 t3] 86)
      have HP3:=Hd_ (HP2.out.below hal)
      refine hK.out _ _ (⟨HP3.out.blk.cell 0,kcell hal hS.2⟩) (fun _ _=>?_)
      try simp only [tA,tB,tC,Act.put,tE,tF,tG]
      clear hK K inv hS;rename_i hS inv
      clear HP2 hal
      refine F_o1 8 inv ?_;intro K hK
      try simp only [tA,tB,tC]
      refine op_append1 cEd elTok rfl _ _ (by rfl) w1.heap.size _ T (t0,t1,t2,t3) 1 _ (by rfl) HP3.out.row (by first | rfl | simp) (heap_alloc_new _ _) rfl (cEd_one _) (by omega) (by omega) HP3.out.only.size ?_
      intro g2 cp2 w9 hown3 hgr3 hat3 hlt3
      have HQ:=Hd_ (HP3.out.push hown3 hgr3)
      have hq3:w9.cell? ⟨q,o+i,none⟩=some (.string x):=kcell_own hgr3 HP3.out.row hS.2 (by simp only;omega)
      clear hown3 hgr3 hat3
      refine hK.out _ _ (⟨HQ.out.1.cell 0,hq3⟩) (fun _ _=>?_)
      try simp only [tA,tB,tC,Act.put,tE,tF,tG]
      clear hK K inv hS;rename_i hS inv
      clear hq3
      refine F_tk 9 inv ?_
      try simp only [tA,tB,tC,Act.put,tE,tF,tG]
      clear inv;intro inv
      have f0:=HQ.out.1.frozen 0
      have hlq:=HQ.out.1.lt
      refine F_l1 10 ?_;intro K hK
      go_simp
      refine hK _ _ ?_
      clear hK K inv hS
      have HQ2:=Hd_ HQ.out.2
      clear HQ f0 hlq HP3
      go_wp2_with fail
      go_roundw
      case rel=>exact ⟨i+1,_,_,by omega,by go_num,by simp [HT.out],HQ2.out⟩
      case measure=>simp [intOf];omega
    · have hi24:¬ (i:Int)<=24:=by omega
      go_wp2_with fail
      refine (isValidExpr_any _ T _ HP.out.view).mono ?_
      rintro e w9 ⟨rfl,hb9⟩
      generalize okE T=ok
      have HP9:=Hd_ (HP.out.below hb9)
      clear hb9 x0 HP
      have x0:w9.cell? ⟨w.heap.size+1,0,none⟩=some (.slice A3 n3 c3):=HP9.out.blk.cell 0
      have z0:w9.cell? ⟨w.heap.size,0,none⟩=some (.slice none 0 0):=HP9.out.res.cell 0
      have v0:=HP9.out.res.frozen 0
      have hlr:=HP9.out.res.lt
      cases ok
      · go_wp2_with fail
        exact bodyPost_ret (v:=.tuple #[.agg #[.slice none 0 0],.bool false]) (by simp [results,Try.results60,go_sem,z0,v0,hlr]) rfl ⟨_,[],_,rfl,HP9.out.off⟩
      · go_wp2_with fail
        have HD:=HP9.out.done
        exact bodyPost_ret (v:=.tuple #[.agg #[.slice A3 n3 c3],.bool true]) (by simp [results,Try.results60,go_sem,z0,v0,hlr]) rfl ⟨_,T,_,rfl,HD.1,by omega,HD.2.2⟩
  · have hin:¬ (i:Int) < (n:Int):=by omega
    go_wp2_with fail
    refine (isValidExpr_any _ T _ HP.out.view).mono ?_
    rintro e w9 ⟨rfl,hb9⟩
    generalize okE T=ok
    have HP9:=Hd_ (HP.out.below hb9)
    clear hb9 x0 HP
    have x0:w9.cell? ⟨w.heap.size+1,0,none⟩=some (.slice A3 n3 c3):=HP9.out.blk.cell 0
    have z0:w9.cell? ⟨w.heap.size,0,none⟩=some (.slice none 0 0):=HP9.out.res.cell 0
    have v0:=HP9.out.res.frozen 0
    have hlr:=HP9.out.res.lt
    cases ok
    · go_wp2_with fail
      exact bodyPost_ret (v:=.tuple #[.agg #[.slice none 0 0],.bool false]) (by simp [results,Try.results60,go_sem,z0,v0,hlr]) rfl ⟨_,[],_,rfl,HP9.out.off⟩
    · go_wp2_with fail
      have HD:=HP9.out.done
      exact bodyPost_ret (v:=.tuple #[.agg #[.slice A3 n3 c3],.bool true]) (by simp [results,Try.results60,go_sem,z0,v0,hlr]) rfl ⟨_,T,_,rfl,HD.1,by omega,HD.2.2⟩
def strOk (v:Value):Bool:=match v with | .string s=>decide (s.size<=1000) | _=>false
theorem strOk_of {v:Value} (h:strOk v=true):∃ s,v=.string s/\s.size<=1000:=by
 unfold strOk at h
 split at h
 · exact ⟨_,rfl,by simpa using h⟩
 · cases h
set_option maxHeartbeats 1000000 in
/-- a text picked out of a list that was just laid -/
theorem l1Pick_lit (b n:Nat) (cs:Array Value) (e:TypeId) (w:World) (hc:Cur w b) (hn:0 < n) (hm:n<=1000) (hcs:cs.size=n) (hall:cs.toList.all strOk=true) :
 Calls Try.prog 61 #[.pointer (some ⟨b,0,none⟩),.slice (some ⟨w.heap.size,0,none⟩) n n] (w.alloc (.cells cs e)) fun e' w'=>∃ r,e'=.returned (.string r)/\r.size<=1000/\Cur w' b/\Only b (b+1) (w.alloc (.cells cs e)) w':=by
 have hlt:=hc.lt
 have hal:=(Below.refl w.heap.size w).alloc (Nat.le_refl _) (.cells cs e)
 have hbk:=Blk.new w e cs _ rfl
 have HALL:=Hd_ hall
 have HCS:=Hd_ hcs
 have HC:=Hd_ (hc.keep hal)
 generalize hW:w.alloc (.cells cs e)=W at *
 clear hall hcs hal hW hc
 go_enter Try.func61,Try.ntmps61
 go_wp2_with fail
 refine (l1Below_any b _ _ HC.out).mono ?_;rintro e1 w1 ⟨r,rfl,⟨h0,-,h1⟩,hc1,ho1⟩
 have h1:=h1 (by omega)
 obtain ⟨i,rfl⟩:=Int.eq_ofNat_of_zero_le h0
 have hi:i < cs.size:=by have:=HCS.out;omega
 have hbk1:=hbk.only ho1 (.inr (by omega))
 have hci:=hbk1.cell i
 rw [Array.getElem?_eq_getElem hi] at hci
 obtain ⟨s,hs,hs2⟩:=strOk_of (List.all_eq_true.1 HALL.out cs[i] (by simp))
 rw [hs] at hci
 have HS2:=Hd_ hs2
 clear hs hs2 hbk hbk1
 go_wp2_with fail
 go_ret
 exact ⟨_,rfl,HS2.out,hc1,ho1⟩
set_option maxRecDepth 100000 in
set_option maxHeartbeats 4000000 in
theorem l8Known_any (b:Nat) (w:World) (hc:Cur w b) :
 Calls Try.prog 52 #[.pointer (some ⟨b,0,none⟩)] w fun e w'=>∃ v l,e=.returned v/\TkV w.heap.size w'.heap.size w' v l/\l.length<=100/\Cur w' b/\Only b (b+1) w w':=by
 have hlt:=hc.lt
 have hb0:=(Below.refl w.heap.size w).alloc (Nat.le_refl _) (.cells #[.slice none 0 0] 76)
 have hbr:=Blk.new w 76 #[.slice none 0 0] _ rfl
 go_enter Try.func52,Try.ntmps52
 go_upto_region 1 with fail
 generalize w.alloc (.cells #[.slice none 0 0] 76)=W0 at *
 go_wp2_with fail
 refine (l1Pick_lit b _ _ _ _ (hc.keep hb0) (by decide) (by decide) (by rfl) (by kernel_rfl)).mono ?_
 rintro e w1 ⟨s,rfl,hs1,hc1,ho1⟩
 have hbr1:=(hbr.alloc _).only ho1 (.inr (by omega))
 have HO1:=Hd_ (((Only.of_below hb0 b (b+1)).alloc _).trans ho1)
 have hl1:=hbr1.lt
 have HC1:=Hd_ hc1
 clear ho1 hbr hb0 hc1
 go_wp2_with fail
 refine (parseExpr_any s _ hs1).mono ?_
 rintro e w2 ⟨v,l,is,rfl,hv,hl,hb2⟩
 obtain ⟨ss,rfl,hsv⟩:=hv
 obtain ⟨A,n,c,rfl⟩:=hsv.shape
 have hal:=(Below.refl w2.heap.size w2).alloc (Nat.le_refl _) (.cells #[.slice A n c] 76)
 have hbA:=below_trans hb2 hal
 have hbr2:=hbr1.keep hbA
 have HT:=Hd_ (show TkV (w.heap.size+1) _ _ (.agg #[.slice A n c]) l from ⟨_,rfl,(hsv.below hal (Nat.le_refl _)).mono (by omega) hal.size⟩)
 have HC2:=Hd_ (HC1.out.keep hbA)
 have HO2:=Hd_ (HO1.out.trans (Only.of_below hbA b (b+1)))
 have hbn:=Blk.new w2 76 #[.slice A n c] _ rfl
 have HL:=Hd_ hl
 clear hsv hbA hb2 hal hbr1 hl hs1
 go_upto_region 2 with fail
 generalize w2.alloc (.cells #[.slice A n c] 76)=W2 at *
 have x0:W2.cell? ⟨w2.heap.size,0,none⟩=some (.slice A n c):=hbn.cell 0
 have z0:W2.cell? ⟨w.heap.size,0,none⟩=some (.slice none 0 0):=hbr2.cell 0
 have v0:=hbr2.frozen 0
 have hlr:=hbr2.lt
 clear hbn hbr2
 go_wp2_with fail
 have HD:=tk_done HT.out HC2.out HO2.out rfl hlt (.slice A n c)
 exact bodyPost_ret (v:=.agg #[.slice A n c]) (by simp [results,Try.results52,go_sem,z0,v0,hlr]) rfl ⟨_,l,rfl,HD.1,HL.out,HD.2.1,HD.2.2⟩
set_option maxHeartbeats 4000000 in
theorem l8Expr_any (b:Nat) (w:World) (hc:Cur w b) :
 Calls Try.prog 46 #[.pointer (some ⟨b,0,none⟩)] w fun e w'=>∃ v l,e=.returned v/\TkV w.heap.size w'.heap.size w' v l/\l.length<=100/\Cur w' b/\Only b (b+1) w w':=by
 have hlt:=hc.lt
 have hb0:=(Below.refl w.heap.size w).alloc (Nat.le_refl _) (.cells #[.slice none 0 0] 76)
 have hbr:=Blk.new w 76 #[.slice none 0 0] _ rfl
 go_enter Try.func46,Try.ntmps46
 go_wp2_with fail
 refine (l1Once_any b 2 _ (hc.keep hb0)).mono ?_
 rintro e w1 ⟨r,rfl,hc1,ho1⟩
 have hbr1:=hbr.only ho1 (.inr (by omega))
 have hl1:=hbr1.lt
 have HO1:=Hd_ ((Only.of_below hb0 b (b+1)).trans ho1)
 clear hbr ho1 hb0
 cases r
 · go_wp2_with fail
   refine (l1Below_any b 3 _ hc1).mono ?_
   rintro e w2 ⟨k,rfl,⟨hk0,-,hk1⟩,hc2,ho2⟩
   have hk1:=hk1 (by omega)
   obtain ⟨k,rfl⟩:=Int.eq_ofNat_of_zero_le hk0
   have hbr2:=hbr1.only ho2 (.inr (by omega))
   have HO2:=Hd_ (HO1.out.trans ho2)
   have hl2:=hbr2.lt
   clear ho2 hbr1 hc1
   go_wp2_with fail
   have hmk:=l8Make_any b (1+k) _ hc2 (by omega)
   rw [show (((1+k:Nat)):Int)=1+(k:Int) by omega] at hmk
   refine hmk.mono ?_
   rintro e w3 ⟨v,l,rfl,ht,hl3,hc3,ho3⟩
   have HB3:=Hd_ (hbr2.only ho3 (.inr (by omega)))
   have HO3:=Hd_ (HO2.out.trans ho3)
   have HC3:=Hd_ hc3
   have HT3:=Hd_ (ht.mono (lo':=w.heap.size+1) (by omega) (Nat.le_refl _))
   have hp:(2:Nat) ^ (1+k+1)<=2 ^ 4:=Nat.pow_le_pow_right (by decide) (by omega)
   have HL:=Hd_ (show l.length<=100 by simp at hp;omega)
   clear hbr2 hc3 ht ho3 hmk hp hl3
   obtain ⟨sx,rfl,hox⟩:=HT3.out
   obtain ⟨AX,nx,cx,rfl⟩:=hox.shape
   have bx:=HB3.out
   have z0:w3.cell? ⟨w.heap.size,0,none⟩=some (.slice none 0 0):=bx.cell 0
   have v0:=bx.frozen 0
   have hlr:=bx.lt
   clear bx hox
   go_wp2_with fail
   have HD:=tk_done HT3.out HC3.out HO3.out rfl hlt (.slice AX nx cx)
   refine bodyPost_ret (v:=.agg #[.slice AX nx cx]) (by simp [results,Try.results46,go_sem,z0,v0,hlr]) rfl ⟨_,_,rfl,HD.1,HL.out,HD.2.1,HD.2.2⟩
 · go_wp2_with fail
   refine (l8Known_any b _ hc1).mono ?_
   rintro e w3 ⟨v,l,rfl,ht,hl3,hc3,ho3⟩
   have HB3:=Hd_ (hbr1.only ho3 (.inr (by omega)))
   have HO3:=Hd_ (HO1.out.trans ho3)
   have HC3:=Hd_ hc3
   have HT3:=Hd_ (ht.mono (lo':=w.heap.size+1) (by omega) (Nat.le_refl _))
   have HL:=Hd_ hl3
   clear hbr1 hc3 ht ho3 hl3 hc1
   obtain ⟨sx,rfl,hox⟩:=HT3.out
   obtain ⟨AX,nx,cx,rfl⟩:=hox.shape
   have bx:=HB3.out
   have z0:w3.cell? ⟨w.heap.size,0,none⟩=some (.slice none 0 0):=bx.cell 0
   have v0:=bx.frozen 0
   have hlr:=bx.lt
   clear bx hox
   go_wp2_with fail
   have HD:=tk_done HT3.out HC3.out HO3.out rfl hlt (.slice AX nx cx)
   refine bodyPost_ret (v:=.agg #[.slice AX nx cx]) (by simp [results,Try.results46,go_sem,z0,v0,hlr]) rfl ⟨_,_,rfl,HD.1,HL.out,HD.2.1,HD.2.2⟩
end Go.Proofs.Ythnapjodmndlaaa
