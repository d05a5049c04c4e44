/- Parts of the proof, joined into one text: AnyB, DrwN, DrwA, PairD, AutI, SetI, GraphI, BothI, ArcM. -/
import Derived.Test.YtjpdembmchnbgaaGreatOnlzFNJLBIOC
import Derived.Test.YtjpdembmchnbgaaGreatOnlzPDGEJABA
import Derived.RegionTactic
import Derived.BigRegion
import Derived.Test.YtjpdembmchnbgaaGreatOnlzALPFPLEE
import Derived.Test.YtjpdembmchnbgaaGreatOnlzNELCFPNN
set_option linter.unusedVariables false
set_option linter.unusedSimpArgs false
namespace Go.Proofs.YtjpdembmchnbgaaGreat
open Go.ChangeShapes Go.WideShapes Go.ChangeAt Go.RowKit
attribute [local go_sem] ext_cell ext_frozen ext_lt ext_lt1 ext_lt2 ext_lt3 ltn2 ltn3 ltn13 lts1 lts2 lts3
/-- all blocks of the automaton are as they were -/
theorem AuR.same {lo:Nat} {w w':World} {ac nx:Value} {us:List Value} {acc:List Bool} {nxt:List (List Int)} (h:AuR lo w ac nx us acc nxt) (hb:∀ b,(ac.ownBlock=some b ∨ b ∈ blks (nx :: us))->w'.heap[b]?=w.heap[b]?):AuR lo w' ac nx us acc nxt :=
 ⟨ownsRow_block h.acc fun g hg=>hb g (.inl hg),h.nxt.blocks fun b hm=>hb b (.inr hm),h.apart⟩
/-- an automaton that was drawn lies in the block q; the result's block r -/
structure AyR (b r q:Nat) (w0 w:World) (st:Int) (ac nx:Value) (us:List Value) (acc:List Bool) (nxt:List (List Int)):Prop where
 res:Blk w r 31 #[.int .i64 0,.slice none 0 0,.slice none 0 0]
 blk:Blk w q 31 #[.int .i64 st,ac,nx]
 au:AuR (r+1) w ac nx us acc nxt
 farq:ac.ownBlock ≠ some q/\q ∉ blks (nx :: us)
 cur:Cur w b
 frm:Only b (b+1) w0 w
 at0:w0.heap.size=r
 ord:b < r/\r < q
section
variable {b r q:Nat} {w0 w w':World} {st:Int} {ac nx:Value} {us:List Value} {acc:List Bool} {nxt:List (List Int)}
theorem AyR.step (a:AyR b r q w0 w st ac nx us acc nxt) (ho:Only b (b+1) w w') (hc:Cur w' b):AyR b r q w0 w' st ac nx us acc nxt:=by
 have hd:=a.ord
 exact ⟨a.res.only ho (.inr (by omega)),a.blk.only ho (.inr (by omega)),a.au.only ho (by omega),a.farq,hc,a.frm.trans ho,a.at0,hd⟩
theorem AyR.below (a:AyR b r q w0 w st ac nx us acc nxt) (hb:Below w.heap.size w w'):AyR b r q w0 w' st ac nx us acc nxt:=a.step (Only.of_below hb _ _) (a.cur.keep hb)
theorem AyR.setQ (a:AyR b r q w0 w st ac nx us acc nxt) (i:Nat) (u:Value):AuR (r+1) (w.setCell ⟨q,i,none⟩ u) ac nx us acc nxt :=
 a.au.same fun g hg=>Below.heap_setCell w ⟨q,i,none⟩ _ g (fun e=>by subst e;exact hg.elim a.farq.1 a.farq.2)
theorem any_done {v x y z:Value} {m:Au} (h:AuV (r+1) w.heap.size w v m) (hc:Cur w b) (ho:Only b (b+1) w0 w) (hr:w0.heap.size=r) (hb:b < r) :
 AuV w0.heap.size (put3 w r x y z).heap.size (put3 w r x y z) v m/\Cur (put3 w r x y z) b/\Only b (b+1) w0 (put3 w r x y z):=by
 have hp:=put3_only w r x y z
 exact ⟨(h.only hp (Nat.le_refl _) (.inr (Nat.le_refl _))).mono (by omega) hp.size,hc.only hp (by omega),((ho.setCell (p:=⟨r,0,none⟩) (.inr (by simp only;omega)) _).setCell (p:=⟨r,1,none⟩) (.inr (by simp only;omega)) _).setCell (p:=⟨r,2,none⟩) (.inr (by simp only;omega)) _⟩
end
def AnyOut (b:Nat) (w:World) (e:Ending) (w':World):Prop:=∃ v m,e=.returned v/\(AuV w.heap.size w'.heap.size w' v m/\Cur w' b/\Only b (b+1) w w')
set_option maxHeartbeats 8000000 in
theorem l11Any_any (b:Nat) (w:World) (hc:Cur w b) :
 Calls Tryz.prog 113 #[.pointer (some ⟨b,0,none⟩)] w (AnyOut b w):=by
 have hbw:=hc.lt
 have hb0:=(Below.refl w.heap.size w).alloc (Nat.le_refl _) (.cells #[.int .i64 0,.slice none 0 0,.slice none 0 0] 31)
 have hbr:=Blk.new w 31 #[.int .i64 0,.slice none 0 0,.slice none 0 0] _ rfl
 have hs0:(w.alloc (.cells #[.int .i64 0,.slice none 0 0,.slice none 0 0] 31)).heap.size=w.heap.size+1:=by simp
 go_enter Tryz.func113,Tryz.ntmps113
 go_wp2_with fail
 generalize w.alloc (.cells #[.int .i64 0,.slice none 0 0,.slice none 0 0] 31)=W0 at *
 refine (l11Aut_any b _ (hc.keep hb0)).mono ?_
 rintro e w1 ⟨⟨st,ac,nx,us,acc,nxt,rfl,hau,hnn,ho1⟩,hc1⟩
 rw [hs0] at hau
 obtain ⟨A1,c1,rfl,-,-,-⟩:=ownSh hau.acc
 obtain ⟨A2,c2,rfl,-,-,hA2⟩:=ownSh hau.nxt.own
 obtain ⟨q,hq⟩:∃ q,q=w1.heap.size:=⟨_,rfl⟩
 have hz1:=ho1.size
 have hal:=(Below.refl w1.heap.size w1).alloc (Nat.le_refl _) (.cells #[.int .i64 st,.slice A1 acc.length c1,.slice A2 us.length c2] 31)
 have hlen:=hau.nxt.len
 have HA0:=Hd_ (show AyR b w.heap.size q w (w1.alloc (.cells #[.int .i64 st,.slice A1 acc.length c1,.slice A2 us.length c2] 31)) st _ _ us acc nxt from
  ⟨(hbr.only ho1 (.inr (by omega))).keep hal,Blk.new w1 _ _ _ hq,hau.below hal,⟨fun e=>by have:=(hau.acc.lt _ e).2;omega,fun e=>by have:=(hau.nxt.lt _ e).2;omega⟩,hc1.keep hal,((Only.of_below hb0 b (b+1)).trans ho1).trans (Only.of_below hal b (b+1)),rfl,by omega⟩)
 have hqr:w.heap.size < q:=by omega
 have HNN:=Hd_ hnn
 have HLEN:=Hd_ hlen
 have hup:0 < us.length:=by omega
 have haccl:acc.length<=100:=by omega
 clear hal hau hc1 ho1 hbr hb0 hs0 hz1 hnn hlen hc
 go_upto_region 2 with fail
 rw [<- hq]
 generalize w1.alloc (.cells #[.int .i64 st,.slice A1 acc.length c1,.slice A2 us.length c2] 31)=W1 at *
 clear hq
 go_wp2_with fail
 refine (l1Below_any b 14 _ HA0.out.cur).mono ?_
 rintro e w2 ⟨t,rfl,-,hc2,ho2⟩
 have HA:=Hd_ (HA0.out.step ho2 hc2)
 clear HA0 ho2 hc2
 have hlq:=HA.out.blk.lt
 have hlr0:=HA.out.res.lt
 by_cases ht0:t=0
 · subst ht0
   have HSL:=Hd_ (litD_sl w2 3 #[.int .i64 (-1),.int .i64 12,.int .i64 1] [-1,12,1] 3 (b+1) (by omega) (by decide) rfl rfl rfl)
   have HAL:=Hd_ ((Below.refl w2.heap.size w2).alloc (Nat.le_refl _) (.cells #[.int .i64 (-1),.int .i64 12,.int .i64 1] 3))
   go_wp2_with fail
   refine (l1PickInt_any b _ _ _ (HA.out.cur.keep HAL.out) (by decide) HSL.out).mono ?_
   rintro e w3 ⟨u,rfl,-,hc3,ho3⟩
   have HA3:=Hd_ ((HA.out.below HAL.out).step ho3 hc3)
   clear hc3 ho3 HSL HAL HA
   have x0:w3.cell? ⟨q,0,none⟩=some (.int .i64 st):=HA3.out.blk.cell 0
   have f0:=HA3.out.blk.frozen 0
   have hlq3:=HA3.out.blk.lt
   go_upto_region 11 with fail
   have HV:=Hd_ ((HA3.out.setQ 0 (.int .i64 u)).view u)
   have HBQ:=Hd_ (HA3.out.blk.set_ 0 (.int .i64 u))
   have HBR:=Hd_ (HA3.out.res.far (p:=⟨q,0,none⟩) (by simp only;omega) (.int .i64 u))
   have HCU:=Hd_ (HA3.out.cur.set (p:=⟨q,0,none⟩) (by simp only;omega) (.int .i64 u))
   have HFR:=Hd_ (HA3.out.frm.setCell (p:=⟨q,0,none⟩) (.inr (by simp only;omega)) (.int .i64 u))
   generalize w3.setCell ⟨q,0,none⟩ (.int .i64 u)=w4 at *
   clear x0 f0 hlq3 HA3 hlr0 hlq
   have x0:w4.cell? ⟨q,0,none⟩=some (.int .i64 (u)):=HBQ.out.cell 0
   have x1:w4.cell? ⟨q,1,none⟩=some (.slice A1 acc.length c1):=HBQ.out.cell 1
   have x2:w4.cell? ⟨q,2,none⟩=some (.slice A2 us.length c2):=HBQ.out.cell 2
   have z0:w4.cell? ⟨w.heap.size,0,none⟩=some (.int .i64 0):=HBR.out.cell 0
   have z1:w4.cell? ⟨w.heap.size,1,none⟩=some (.slice none 0 0):=HBR.out.cell 1
   have z2:w4.cell? ⟨w.heap.size,2,none⟩=some (.slice none 0 0):=HBR.out.cell 2
   have v0:=HBR.out.frozen 0
   have v1:=HBR.out.frozen 1
   have v2:=HBR.out.frozen 2
   have hlr:=HBR.out.lt
   have q1:¬ q=w.heap.size:=by omega
   have q2:¬ w.heap.size=q:=by omega
   go_wp2_with fail
   exact bodyPost_ret (v:=.agg #[.int .i64 (u),.slice A1 acc.length c1,.slice A2 us.length c2]) (by simp [results,Tryz.results113,go_sem,z0,z1,z2,v0,v1,v2,hlr]) rfl ⟨_,_,rfl,any_done HV.out HCU.out HFR.out rfl hbw⟩
 have hd0:(t==0)=false:=by simpa using ht0
 by_cases ht1:t=1
 · subst ht1
   have x1:w2.cell? ⟨q,1,none⟩=some (.slice A1 acc.length c1):=HA.out.blk.cell 1
   go_upto_region 11 with (at_builtin;(refine wpList_append2 cB elBool rfl _ _ (by rfl) (w.heap.size+1) _ acc true 1 _ (by rfl) (HA.out.au.acc.alloc _) (by rfl) (heap_alloc_new _ _) rfl (cB_one _) (by omega) (by omega) (by simp;omega) ?_);intro g2 cp2 w9 hown3 hgr3 hat3 hlt3;have hal:=(Below.refl w2.heap.size w2).alloc (Nat.le_refl _) (.cells #[.bool true] 4);have HA9:=Hd_ ((HA.out.au.below hal).pushA hgr3 hown3 (fun k hk=>by cases hk;exact hat3));have hob:=own_below (HA.out.au.acc.alloc (.cells #[.bool true] 4)) (by simp;omega) hgr3;have HBQ9:=Hd_ (show Blk w9 q _ _ from (hgr3.block q (by simp;omega) (fun e=>HA.out.farq.1 e.symm)).trans (HA.out.blk.keep hal));have HBR9:=Hd_ ((HA.out.res.keep hal).below hob (by omega));have HCU9:=Hd_ ((HA.out.cur.keep hal).below hob (by omega));have HFR9:=Hd_ ((HA.out.frm.alloc (.cells #[.bool true] 4)).andBelow hob (by omega));have HG9:=Hd_ (show g2 ≠ q from fun e=>by subst e;exact hat3.elim HA.out.farq.1 (fun e=>by simp at e;omega));have y1:w9.cell? ⟨q,1,none⟩=some (.slice A1 acc.length c1):=HBQ9.out.cell 1;have f1:=HBQ9.out.frozen 1;have hl9:=HBQ9.out.lt;clear hown3 hgr3 hat3 hal hob)
   have HV:=Hd_ ((HA9.out.same (w':=w9.setCell ⟨q,1,none⟩ (.slice (some ⟨g2,0,none⟩) (acc.length+1) cp2)) (fun g hg=>Below.heap_setCell w9 ⟨q,1,none⟩ _ g (fun e=>by subst e;exact hg.elim (fun e=>HG9.out (by cases e;rfl)) HA.out.farq.2))).view st)
   have HBQ:=Hd_ (HBQ9.out.set_ 1 (.slice (some ⟨g2,0,none⟩) (acc.length+1) cp2))
   have HBR:=Hd_ (HBR9.out.far (p:=⟨q,1,none⟩) (by simp only;omega) (.slice (some ⟨g2,0,none⟩) (acc.length+1) cp2))
   have HCU:=Hd_ (HCU9.out.set (p:=⟨q,1,none⟩) (by simp only;omega) (.slice (some ⟨g2,0,none⟩) (acc.length+1) cp2))
   have HFR:=Hd_ (HFR9.out.setCell (p:=⟨q,1,none⟩) (.inr (by simp only;omega)) (.slice (some ⟨g2,0,none⟩) (acc.length+1) cp2))
   generalize w9.setCell ⟨q,1,none⟩ (.slice (some ⟨g2,0,none⟩) (acc.length+1) cp2)=w4 at *
   clear y1 f1 hl9 x1 HA9 hlr0 hlq HBQ9 HBR9 HCU9 HFR9
   have x0:w4.cell? ⟨q,0,none⟩=some (.int .i64 (st)):=HBQ.out.cell 0
   have x1:w4.cell? ⟨q,1,none⟩=some (.slice (some ⟨g2,0,none⟩) (acc.length+1) cp2):=HBQ.out.cell 1
   have x2:w4.cell? ⟨q,2,none⟩=some (.slice A2 us.length c2):=HBQ.out.cell 2
   have z0:w4.cell? ⟨w.heap.size,0,none⟩=some (.int .i64 0):=HBR.out.cell 0
   have z1:w4.cell? ⟨w.heap.size,1,none⟩=some (.slice none 0 0):=HBR.out.cell 1
   have z2:w4.cell? ⟨w.heap.size,2,none⟩=some (.slice none 0 0):=HBR.out.cell 2
   have v0:=HBR.out.frozen 0
   have v1:=HBR.out.frozen 1
   have v2:=HBR.out.frozen 2
   have hlr:=HBR.out.lt
   have q1:¬ q=w.heap.size:=by omega
   have q2:¬ w.heap.size=q:=by omega
   go_wp2_with fail
   exact bodyPost_ret (v:=.agg #[.int .i64 (st),.slice (some ⟨g2,0,none⟩) (acc.length+1) cp2,.slice A2 us.length c2]) (by simp [results,Tryz.results113,go_sem,z0,z1,z2,v0,v1,v2,hlr]) rfl ⟨_,_,rfl,any_done HV.out HCU.out HFR.out rfl hbw⟩
 have hd1:(t==1)=false:=by simpa using ht1
 obtain ⟨gN,rfl⟩:=hA2 hup
 obtain ⟨u0,us',rfl⟩:∃ u0 us',us=u0 :: us':=by
  cases us with
  | nil=>simp at hup
  | cons u us=>exact ⟨u,us,rfl⟩
 obtain ⟨x0s,nxt',rfl⟩:∃ x0s nxt',nxt=x0s :: nxt':=by
  cases nxt with
  | nil=>have:=HNN.out.2.1;simp at this
  | cons x xs=>exact ⟨x,xs,rfl⟩
 have hrow0:=HA.out.au.nxt.rows 0 u0 x0s rfl rfl
 have h9:x0s.length=9:=HNN.out.2.2.2 x0s (by simp)
 rw [h9] at hrow0
 obtain ⟨A0,c0,rfl,hc90,-,hA0⟩:=ownSh hrow0
 obtain ⟨g0,rfl⟩:=hA0 (by omega)
 have n0:w2.cell? ⟨gN,0,none⟩=some (.slice (some ⟨g0,0,none⟩) 9 c0):=World.ownsRow.cellAt HA.out.au.nxt.own 0 (by simp)
 have x2:w2.cell? ⟨q,2,none⟩=some (.slice (some ⟨gN,0,none⟩) (us'.length+1) c2):=HA.out.blk.cell 2
 have HROW0:=Hd_ hrow0
 have H9:=Hd_ h9
 have hgNl:=(HA.out.au.nxt.own.lt gN rfl)
 have hg0l:=hrow0.lt g0 rfl
 have hun:0 < us'.length+1:=by omega
 clear hrow0 h9 hup
 by_cases ht2:t=2
 · subst ht2
   go_wp2_with fail
   refine F_start 7 (fun w'=>w'.cell? ⟨q,2,none⟩=some (.slice (some ⟨gN,0,none⟩) (us'.length+1) c2)/\w'.cell? ⟨gN,0,none⟩=some (.slice (some ⟨g0,0,none⟩) 9 c0)) (by kernel_rfl) (by exact ⟨x2,n0⟩) (fun hS inv=>?_)
   refine F_tk 0 inv ?_
   try simp only [tA,tB,tC,Act.put,tE,tF,tG]
   clear inv;intro inv
   refine F_tk 1 inv ?_
   try simp only [tA,tB,tC,Act.put,tE,tF,tG]
   clear inv;intro inv
   refine F_tk 2 inv ?_
   try simp only [tA,tB,tC,Act.put,tE,tF,tG]
   clear inv;intro inv
   refine F_tk 3 inv ?_
   try simp only [tA,tB,tC,Act.put,tE,tF,tG]
   clear inv;intro inv
   refine F_tk 4 inv ?_
   try simp only [tA,tB,tC,Act.put,tE,tF,tG]
   clear inv;intro inv
   refine F_o1 5 inv ?_;intro K hK
   try simp only [tA,tB,tC]
   go_simp
   have hal:=((Below.refl w2.heap.size w2).alloc (Nat.le_refl _) (.cells #[.int .i64 (-2),.int .i64 12,.int .i64 0] 3)).drew
   have HA3:=Hd_ (HA.out.below hal)
   have HL3:=Hd_ (show SlI (b+1) (w2.alloc (.cells #[.int .i64 (-2),.int .i64 12,.int .i64 0] 3)).drew.heap.size (w2.alloc (.cells #[.int .i64 (-2),.int .i64 12,.int .i64 0] 3)).drew cI 1 _ _ from litD_sl w2 3 #[.int .i64 (-2),.int .i64 12,.int .i64 0] [-2,12,0] 3 (b+1) (by omega) (by decide) rfl rfl rfl)
   refine hK.out _ _ (kB2 hal hS) (fun _ _=>?_)
   try simp only [tA,tB,tC,Act.put,tE,tF,tG]
   clear hK K inv hS;rename_i hS inv
   clear hal
   refine F_o1 6 inv ?_;intro K hK
   try simp only [tA,tB,tC]
   go_simp
   refine (l1PickInt_any b _ _ _ HA3.out.cur (by decide) HL3.out).mono ?_
   rintro e w3 ⟨u,rfl,-,hc3,ho3⟩
   have HA4:=Hd_ (HA3.out.step ho3 hc3)
   have hrow4:=HA4.out.au.nxt.rows 0 _ x0s rfl rfl
   rw [H9.out] at hrow4
   have hz4:=ho3.size
   refine hK.out _ _ (⟨HA4.out.blk.cell 2,World.ownsRow.cellAt HA4.out.au.nxt.own 0 (by simp)⟩) (fun _ _=>?_)
   try simp only [tA,tB,tC,Act.put,tE,tF,tG]
   clear hK K inv hS;rename_i hS inv
   clear HA3 HL3 hc3 ho3 x2 n0
   have fz0:=World.ownsRow.frozenAt hrow4 0
   have cz0:=World.ownsRow.cellAt hrow4 0 (by omega)
   obtain ⟨y0,hy0⟩:∃ y,x0s[0]?=some y:=⟨_,List.getElem?_eq_getElem (by have:=H9.out;omega)⟩
   rw [show (x0s.flatMap cI)[0]?=some (.int .i64 y0) by have:=flat_at (E:=cI) (k:=1) cI_len hy0 0 _ rfl;simpa using this] at cz0
   have hst:=(World.ownsRow.stored hrow4 0 (.int .i64 u)).1
   rw [flatI_set] at hst
   have hlg:=(hrow4.lt g0 rfl).2
   have HST:=Hd_ hst
   clear hrow4 hst hy0
   refine F_tail (i:=7) (by kernel_rfl) rfl rfl (by omega) (fun K hK=>?_)
   try simp only [tA,tB,tC]
   go_simp
   refine hK.out _ _ ?_
   try simp only [tA,tB,tC,Act.put,tE,tF,tG]
   clear hK K
   try clear inv hS
   refine F_l1 8 ?_;intro K hK
   go_simp
   refine hK _ _ ?_
   clear hK K
   have hns:=HA4.out.au.nxt.turn (i:=0) (u:=.slice (some ⟨g0,0,none⟩) 9 c0) (xs':=x0s.set 0 u) (w':=w3.setCell ⟨g0,0,none⟩ (.int .i64 u)) rfl (by rw [List.length_set,H9.out];exact HST.out) (fun k _ hk=>Below.heap_setCell w3 ⟨g0,0,none⟩ _ k (fun e=>hk (by rw [e];rfl)))
   have h0m:g0 ∈ blks (Value.slice (some ⟨gN,0,none⟩) (us'.length+1) c2 :: .slice (some ⟨g0,0,none⟩) 9 c0 :: us'):=mem_blks.2 ⟨1,_,rfl,rfl⟩
   have hau:AuR (w.heap.size+1) (w3.setCell ⟨g0,0,none⟩ (.int .i64 u)) (.slice A1 acc.length c1) (.slice (some ⟨gN,0,none⟩) (us'.length+1) c2) (.slice (some ⟨g0,0,none⟩) 9 c0 :: us') acc ((x0s :: nxt').set 0 (x0s.set 0 u)) :=
    ⟨ownsRow_block HA4.out.au.acc fun k hk=>Below.heap_setCell w3 ⟨g0,0,none⟩ _ k (fun e=>HA4.out.au.apart k hk (by rw [e];exact h0m)),hns,HA4.out.au.apart⟩
   have hg0q:q ≠ g0:=fun e=>HA4.out.farq.2 (by rw [e];exact h0m)
   have hg0r:w.heap.size < g0:=by omega
   have HV:=Hd_ (hau.view st)
   have HBQ:=Hd_ (HA4.out.blk.far (p:=⟨g0,0,none⟩) (by simpa using hg0q) (.int .i64 u))
   have HBR:=Hd_ (HA4.out.res.far (p:=⟨g0,0,none⟩) (by simp only;omega) (.int .i64 u))
   have HCU:=Hd_ (HA4.out.cur.set (p:=⟨g0,0,none⟩) (by simp only;omega) (.int .i64 u))
   have HFR:=Hd_ (HA4.out.frm.setCell (p:=⟨g0,0,none⟩) (.inr (by simp only;omega)) (.int .i64 u))
   generalize w3.setCell ⟨g0,0,none⟩ (.int .i64 u)=w4 at *
   clear hns hau fz0 cz0 HA4 HA hlr0 hlq h0m hg0q HST hlg
   have x0:w4.cell? ⟨q,0,none⟩=some (.int .i64 (st)):=HBQ.out.cell 0
   have x1:w4.cell? ⟨q,1,none⟩=some (.slice A1 acc.length c1):=HBQ.out.cell 1
   have x2:w4.cell? ⟨q,2,none⟩=some (.slice (some ⟨gN,0,none⟩) (us'.length+1) c2):=HBQ.out.cell 2
   have z0:w4.cell? ⟨w.heap.size,0,none⟩=some (.int .i64 0):=HBR.out.cell 0
   have z1:w4.cell? ⟨w.heap.size,1,none⟩=some (.slice none 0 0):=HBR.out.cell 1
   have z2:w4.cell? ⟨w.heap.size,2,none⟩=some (.slice none 0 0):=HBR.out.cell 2
   have v0:=HBR.out.frozen 0
   have v1:=HBR.out.frozen 1
   have v2:=HBR.out.frozen 2
   have hlr:=HBR.out.lt
   have q1:¬ q=w.heap.size:=by omega
   have q2:¬ w.heap.size=q:=by omega
   go_wp2_with fail
   exact bodyPost_ret (v:=.agg #[.int .i64 (st),.slice A1 acc.length c1,.slice (some ⟨gN,0,none⟩) (us'.length+1) c2]) (by simp [results,Tryz.results113,go_sem,z0,z1,z2,v0,v1,v2,hlr]) rfl ⟨_,_,rfl,any_done HV.out HCU.out HFR.out rfl hbw⟩
 have hd2:(t==2)=false:=by simpa using ht2
 by_cases ht3:t=3
 · subst ht3
   have fN:=World.ownsRow.frozenAt HA.out.au.nxt.own 0
   have hc8:8<=c0:=by omega
   have hlN:=hgNl.2
   go_wp2_with fail
   go_region
   have hst:=(World.ownsRow.stored HA.out.au.nxt.own 0 (.slice (some ⟨g0,0,none⟩) 8 c0)).1
   have hfs:((Value.slice (some ⟨g0,0,none⟩) 9 c0 :: us').flatMap cV).set 0 (.slice (some ⟨g0,0,none⟩) 8 c0)=(Value.slice (some ⟨g0,0,none⟩) 8 c0 :: us').flatMap cV:=rfl
   rw [hfs] at hst
   have hNm:gN ∈ blks (Value.slice (some ⟨gN,0,none⟩) (us'.length+1) c2 :: .slice (some ⟨g0,0,none⟩) 9 c0 :: us'):=mem_blks.2 ⟨0,_,rfl,rfl⟩
   have hdis:=HA.out.au.nxt.dis
   have hau:AuV (w.heap.size+1) (w2.setCell ⟨gN,0,none⟩ (.slice (some ⟨g0,0,none⟩) 8 c0)).heap.size (w2.setCell ⟨gN,0,none⟩ (.slice (some ⟨g0,0,none⟩) 8 c0)) (.agg #[.int .i64 st,.slice A1 acc.length c1,.slice (some ⟨gN,0,none⟩) (us'.length+1) c2]) ⟨st,acc,x0s.take 8 :: nxt'⟩:=by
    refine ⟨_,_,rfl,(Own.of_row (xs:=acc) (ownsRow_block HA.out.au.acc fun k hk=>Below.heap_setCell w2 ⟨gN,0,none⟩ _ k (fun e=>HA.out.au.apart k hk (by rw [e];exact hNm))) rfl rfl).sl cB_len,Value.slice (some ⟨g0,0,none⟩) 8 c0 :: us',(Own.of_row (xs:=Value.slice (some ⟨g0,0,none⟩) 8 c0 :: us') hst rfl rfl).sl cV_len,by have:=HA.out.au.nxt.len;simpa using this,fun i u xs hu hx=>?_⟩
    have hkeep:∀ (u:Value) (xs:List Int),(u ∈ (Value.slice (some ⟨g0,0,none⟩) 9 c0 :: us'))->w2.ownsRow (w.heap.size+1) 3 1 u xs.length (xs.flatMap cI)->(w2.setCell ⟨gN,0,none⟩ (.slice (some ⟨g0,0,none⟩) 8 c0)).ownsRow (w.heap.size+1) 3 1 u xs.length (xs.flatMap cI):=fun u xs hm h =>
     ownsRow_block h fun k hk=>Below.heap_setCell w2 ⟨gN,0,none⟩ _ k (fun e=>by
      obtain ⟨i,hi,hie⟩:=List.getElem_of_mem hm
      have h2:(Value.slice (some ⟨gN,0,none⟩) (us'.length+1) c2 :: .slice (some ⟨g0,0,none⟩) 9 c0 :: us')[i+1]?=some u:=by rw [List.getElem?_cons_succ,List.getElem?_eq_getElem hi,hie]
      have:=filterMap_inj (i:=0) (j:=i+1) hdis rfl h2 (b:=gN) rfl (by rw [hk,e])
      omega)
    cases i with
    | zero =>
      simp only [List.getElem?_cons_zero,Option.some.injEq] at hu hx
      subst hu hx
      have h:=hkeep _ x0s (by simp) (HA.out.au.nxt.rows 0 _ x0s rfl rfl)
      have h2:=(Own.of_row (xs:=x0s) h rfl rfl).sl cI_len
      exact SlI.headT (m:=8) (ys:=x0s.drop 8) (by rw [List.take_append_drop];exact h2) (by rw [List.length_take];have:=H9.out;omega)
    | succ i =>
      rw [List.getElem?_cons_succ] at hu hx
      exact (Own.of_row (xs:=xs) (hkeep u xs (List.mem_cons_of_mem _ (List.mem_of_getElem? hu)) (HA.out.au.nxt.rows (i+1) u xs (by simpa using hu) (by simpa using hx))) rfl rfl).sl cI_len
   have hgNq:q ≠ gN:=fun e=>HA.out.farq.2 (by rw [e];exact hNm)
   have hgNr:w.heap.size < gN:=by omega
   have HV:=Hd_ (show AuV (w.heap.size+1) (w2.setCell ⟨gN,0,none⟩ (.slice (some ⟨g0,0,none⟩) 8 c0)).drew.heap.size (w2.setCell ⟨gN,0,none⟩ (.slice (some ⟨g0,0,none⟩) 8 c0)).drew _ _ from hau)
   have HBQ:=Hd_ ((HA.out.blk.far (p:=⟨gN,0,none⟩) (by simpa using hgNq) (.slice (some ⟨g0,0,none⟩) 8 c0)).drew)
   have HBR:=Hd_ ((HA.out.res.far (p:=⟨gN,0,none⟩) (by simp only;omega) (.slice (some ⟨g0,0,none⟩) 8 c0)).drew)
   have HCU:=Hd_ ((HA.out.cur.set (p:=⟨gN,0,none⟩) (by simp only;omega) (.slice (some ⟨g0,0,none⟩) 8 c0)).keep ((Below.refl _ _).drew))
   have HFR:=Hd_ ((HA.out.frm.setCell (p:=⟨gN,0,none⟩) (.inr (by simp only;omega)) (.slice (some ⟨g0,0,none⟩) 8 c0)).drew)
   generalize (w2.setCell ⟨gN,0,none⟩ (.slice (some ⟨g0,0,none⟩) 8 c0)).drew=w4 at *
   clear hau hst hfs hNm hdis hgNq fN n0 x2 hlr0 hlq HA hlN
   have x0:w4.cell? ⟨q,0,none⟩=some (.int .i64 (st)):=HBQ.out.cell 0
   have x1:w4.cell? ⟨q,1,none⟩=some (.slice A1 acc.length c1):=HBQ.out.cell 1
   have x2:w4.cell? ⟨q,2,none⟩=some (.slice (some ⟨gN,0,none⟩) (us'.length+1) c2):=HBQ.out.cell 2
   have z0:w4.cell? ⟨w.heap.size,0,none⟩=some (.int .i64 0):=HBR.out.cell 0
   have z1:w4.cell? ⟨w.heap.size,1,none⟩=some (.slice none 0 0):=HBR.out.cell 1
   have z2:w4.cell? ⟨w.heap.size,2,none⟩=some (.slice none 0 0):=HBR.out.cell 2
   have v0:=HBR.out.frozen 0
   have v1:=HBR.out.frozen 1
   have v2:=HBR.out.frozen 2
   have hlr:=HBR.out.lt
   have q1:¬ q=w.heap.size:=by omega
   have q2:¬ w.heap.size=q:=by omega
   go_wp2_with fail
   exact bodyPost_ret (v:=.agg #[.int .i64 (st),.slice A1 acc.length c1,.slice (some ⟨gN,0,none⟩) (us'.length+1) c2]) (by simp [results,Tryz.results113,go_sem,z0,z1,z2,v0,v1,v2,hlr]) rfl ⟨_,_,rfl,any_done HV.out HCU.out HFR.out rfl hbw⟩
 · have hd3:(t==3)=false:=by simpa using ht3
   have HV:=Hd_ (HA.out.au.view st)
   clear n0 x2 hlr0
   have x0:w2.cell? ⟨q,0,none⟩=some (.int .i64 (st)):=HA.out.blk.cell 0
   have x1:w2.cell? ⟨q,1,none⟩=some (.slice A1 acc.length c1):=HA.out.blk.cell 1
   have x2:w2.cell? ⟨q,2,none⟩=some (.slice (some ⟨gN,0,none⟩) (us'.length+1) c2):=HA.out.blk.cell 2
   have z0:w2.cell? ⟨w.heap.size,0,none⟩=some (.int .i64 0):=HA.out.res.cell 0
   have z1:w2.cell? ⟨w.heap.size,1,none⟩=some (.slice none 0 0):=HA.out.res.cell 1
   have z2:w2.cell? ⟨w.heap.size,2,none⟩=some (.slice none 0 0):=HA.out.res.cell 2
   have v0:=HA.out.res.frozen 0
   have v1:=HA.out.res.frozen 1
   have v2:=HA.out.res.frozen 2
   have hlr:=HA.out.res.lt
   have q1:¬ q=w.heap.size:=by omega
   have q2:¬ w.heap.size=q:=by omega
   go_wp2_with fail
   exact bodyPost_ret (v:=.agg #[.int .i64 (st),.slice A1 acc.length c1,.slice (some ⟨gN,0,none⟩) (us'.length+1) c2]) (by simp [results,Tryz.results113,go_sem,z0,z1,z2,v0,v1,v2,hlr]) rfl ⟨_,_,rfl,any_done HV.out HA.out.cur HA.out.frm rfl hbw⟩
set_option maxHeartbeats 1000000 in
theorem l4Node_any (b:Nat) (A1 A2:Option Addr) (n1 c1 n2 c2:Nat) (w:World) (hc:Cur w b) (hn:n1<=maxLen) :
 Calls Tryz.prog 96 #[.pointer (some ⟨b,0,none⟩),.agg #[.slice A1 n1 c1,.slice A2 n2 c2]] w fun e w'=>∃ r:Int,e=.returned (.int .i64 r)/\Cur w' b/\Only b (b+1) w w':=by
 unfold maxLen at hn
 have hlt:=hc.lt
 have hal:=(Below.refl w.heap.size w).alloc (Nat.le_refl _) (.cells #[.slice A1 n1 c1,.slice A2 n2 c2] 27)
 have hbk:=Blk.new w 27 #[.slice A1 n1 c1,.slice A2 n2 c2] _ rfl
 go_enter Tryz.func96,Tryz.ntmps96
 go_wp2_with fail
 refine (l1Once_any b 14 _ (hc.keep hal)).mono ?_
 rintro e w1 ⟨r,rfl,hc1,ho1⟩
 have hbk1:=hbk.only ho1 (.inr (by omega))
 have x0:w1.cell? ⟨w.heap.size,0,none⟩=some (.slice A1 n1 c1):=hbk1.cell 0
 have l0:=hbk1.lt
 have ho1:=(Only.of_below hal b (b+1)).trans ho1
 have HO:=Hd_ ho1
 clear ho1 hbk hbk1 hal
 cases r
 · go_wp2_with fail
   all_goals
    refine (l1Below_any b _ _ hc1).mono ?_
    rintro e w2 ⟨r,rfl,-,hc2,ho2⟩
    go_wp2_with fail
    go_ret
    exact ⟨_,rfl,hc2,HO.out.trans ho2⟩
 · have HSL:=Hd_ (litD_sl w1 3 #[.int .i64 (-1),.int .i64 5,.int .i64 9223372036854775807] [-1,5,9223372036854775807] 3 (b+1) (by omega) (by decide) rfl rfl rfl)
   have hal2:=(Below.refl w1.heap.size w1).alloc (Nat.le_refl _) (.cells #[.int .i64 (-1),.int .i64 5,.int .i64 9223372036854775807] 3)
   have HAL:=Hd_ hal2
   clear hal2
   go_wp2_with fail
   refine (l1PickInt_any b _ _ _ (hc1.keep HAL.out) (by decide) HSL.out).mono ?_
   rintro e w2 ⟨r,rfl,-,hc2,ho2⟩
   go_wp2_with fail
   go_ret
   exact ⟨_,rfl,hc2,HO.out.trans ((Only.of_below HAL.out b (b+1)).trans ho2)⟩
/-- a graph that lies in the block q; the result's block r -/
structure GcR (b r q lo mid hi:Nat) (w0 w:World) (vs es:Value) (xs:List Int) (ys:List Ed):Prop where
 res:Blk w r 27 #[.slice none 0 0,.slice none 0 0]
 blk:Blk w q 27 #[vs,es]
 vals:Own lo mid w 3 cI 1 vs xs
 edges:Own mid hi w 138 cEd 4 es ys
 cur:Cur w b
 only:Only b (b+1) w0 w
 at0:w0.heap.size=r
 ord:b < r/\r < lo/\lo<=mid/\mid<=hi/\hi<=q
section
variable {b r q lo mid hi:Nat} {w0 w w':World} {vs es:Value} {xs:List Int} {ys:List Ed}
theorem GcR.move (h:GcR b r q lo mid hi w0 w vs es xs ys) (ho:Only b (b+1) w w') (hc:Cur w' b):GcR b r q lo mid hi w0 w' vs es xs ys:=by
 have hd:=h.ord
 exact ⟨h.res.only ho (.inr (by omega)),h.blk.only ho (.inr (by omega)),h.vals.only ho (.inr (by omega)),h.edges.only ho (.inr (by omega)),hc,h.only.trans ho,h.at0,hd⟩
theorem GcR.below (h:GcR b r q lo mid hi w0 w vs es xs ys) (hb:Below w.heap.size w w'):GcR b r q lo mid hi w0 w' vs es xs ys:=by
 have hd:=h.ord
 have hq:=h.blk.lt
 exact ⟨h.res.keep hb,h.blk.keep hb,h.vals.below hb (by omega),h.edges.below hb (by omega),h.cur.keep hb,h.only.trans (Only.of_below hb _ _),h.at0,hd⟩
theorem GcR.alloc (h:GcR b r q lo mid hi w0 w vs es xs ys) (o:Obj):GcR b r q lo mid hi w0 (w.alloc o) vs es xs ys:=h.below ((Below.refl _ _).alloc (Nat.le_refl _) _)
theorem GcR.view (h:GcR b r q lo mid hi w0 w vs es xs ys):GrV lo w.heap.size w (.agg #[vs,es]) ⟨xs,ys⟩:=by
 have hd:=h.ord
 have hq:=h.blk.lt
 exact ⟨vs,es,rfl,(h.vals.sl cI_len).mono (Nat.le_refl _) (by omega),(h.edges.sl cEd_len).mono (by omega) (by omega)⟩
theorem GcR.push {ys':List Ed} {g n c:Nat} (h:GcR b r q lo mid hi w0 w vs es xs ys) (hr:w'.ownsRow mid 138 4 (.slice (some ⟨g,0,none⟩) n c) ys'.length (ys'.flatMap cEd)) (hg:w.grownBy w' es.ownBlock) (hat:es.ownBlock=some g ∨ w.heap.size<=g) :
 Blk w' q 27 #[vs,es]/\(GrV lo (w'.setCell ⟨q,1,none⟩ (.slice (some ⟨g,0,none⟩) n c)).heap.size (w'.setCell ⟨q,1,none⟩ (.slice (some ⟨g,0,none⟩) n c)) (.agg #[vs,.slice (some ⟨g,0,none⟩) n c]) ⟨xs,ys'⟩ /\
  Blk (w'.setCell ⟨q,1,none⟩ (.slice (some ⟨g,0,none⟩) n c)) r 27 #[.slice none 0 0,.slice none 0 0]/\Blk (w'.setCell ⟨q,1,none⟩ (.slice (some ⟨g,0,none⟩) n c)) q 27 #[vs,.slice (some ⟨g,0,none⟩) n c] /\
  Cur (w'.setCell ⟨q,1,none⟩ (.slice (some ⟨g,0,none⟩) n c)) b/\Only b (b+1) w0 (w'.setCell ⟨q,1,none⟩ (.slice (some ⟨g,0,none⟩) n c))):=by
 have hd:=h.ord
 have hq:=h.blk.lt
 have hb:=own_below h.edges.1 (by omega) hg
 have hne:es.ownBlock ≠ some q:=fun e=>by have:=h.edges.2 q e;omega
 have hs:=hb.size
 have hgq:g ≠ q:=by
  rcases hat with h1 | h1
  · have:=h.edges.2 g h1;omega
  · omega
 have hbq:Blk w' q 27 #[vs,es]:=(hg.block q hq (fun e=>hne e.symm)).trans h.blk
 have hos:=(Only.refl q (q+1) w').setCell (p:=⟨q,1,none⟩) (.inl ⟨Nat.le_refl _,Nat.lt_succ_self _⟩) (.slice (some ⟨g,0,none⟩) n c)
 have hr2:=ownsRow_block hr (w':=w'.setCell ⟨q,1,none⟩ (.slice (some ⟨g,0,none⟩) n c)) (fun g' hg'=>by cases hg';exact Below.heap_setCell w' ⟨q,1,none⟩ _ g hgq)
 exact ⟨hbq,⟨_,_,rfl,(((h.vals.below hb (Nat.le_refl _)).only hos (.inl (by omega))).sl cI_len).mono (Nat.le_refl _) (Nat.le_trans (by omega) hos.size),((Own.of_row (xs:=ys') hr2 rfl rfl).sl cEd_len).mono (by omega) (Nat.le_refl _)⟩,(h.res.below hb (by omega)).far (by simp only;omega) _,hbq.set_ 1 _,(h.cur.below hb (by omega)).set (by simp only;omega) _,(h.only.andBelow hb (by have:=h.at0;omega)).setCell (.inr (by have:=h.at0;simp only;omega)) _⟩
end
/-- a graph in the block gq, an automaton in aq; the results' blocks r and r + 1 -/
structure PrR (b r gq aq:Nat) (w0 w:World) (gs es:Value) (g:Gr) (ac nx:Value) (a:Au):Prop where
 res1:Blk w r 27 #[.slice none 0 0,.slice none 0 0]
 res2:Blk w (r+1) 31 #[.int .i64 0,.slice none 0 0,.slice none 0 0]
 gbk:Blk w gq 27 #[gs,es]
 abk:Blk w aq 31 #[.int .i64 a.start,ac,nx]
 gv:∃ lo hi,GrV lo hi w (.agg #[gs,es]) g/\r+2<=lo/\hi<=w.heap.size/\(gq < lo ∨ hi<=gq)/\(aq < lo ∨ hi<=aq)
 av:∃ lo hi,AuV lo hi w (.agg #[.int .i64 a.start,ac,nx]) a/\r+2<=lo/\hi<=w.heap.size/\(gq < lo ∨ hi<=gq)/\(aq < lo ∨ hi<=aq)
 cur:Cur w b
 only:Only b (b+1) w0 w
 at0:w0.heap.size=r
 e12:g.edges.length<=11
 ord:b < r/\r+2<=gq/\gq < aq
def putGA (w:World) (r:Nat) (gs es st ac nx:Value):World:=(((((w.setCell ⟨r,0,none⟩ gs).setCell ⟨r,1,none⟩ es).setCell ⟨r+1,0,none⟩ st).setCell ⟨r+1,1,none⟩ ac).setCell ⟨r+1,2,none⟩ nx).drew
theorem putGA_only (w:World) (r:Nat) (gs es st ac nx:Value):Only r (r+2) w (putGA w r gs es st ac nx):=((((((Only.refl r (r+2) w).setCell (p:=⟨r,0,none⟩) (.inl (by simp only;omega)) _).setCell (p:=⟨r,1,none⟩) (.inl (by simp only;omega)) _).setCell (p:=⟨r+1,0,none⟩) (.inl (by simp only;omega)) _).setCell (p:=⟨r+1,1,none⟩) (.inl (by simp only;omega)) _).setCell (p:=⟨r+1,2,none⟩) (.inl (by simp only;omega)) _).drew
section
variable {b r gq aq:Nat} {w0 w w':World} {gs es:Value} {g:Gr} {ac nx:Value} {a:Au}
theorem PrR.step (h:PrR b r gq aq w0 w gs es g ac nx a) (ho:Only b (b+1) w w') (hc:Cur w' b):PrR b r gq aq w0 w' gs es g ac nx a:=by
 have hd:=h.ord
 obtain ⟨lo,hi,h1,h2,h3,h4⟩:=h.gv
 obtain ⟨lo',hi',k1,k2,k3,k4⟩:=h.av
 exact ⟨h.res1.only ho (.inr (by omega)),h.res2.only ho (.inr (by omega)),h.gbk.only ho (.inr (by omega)),h.abk.only ho (.inr (by omega)),⟨lo,hi,h1.only ho h3 (.inr (by omega)),h2,Nat.le_trans h3 ho.size,h4⟩,⟨lo',hi',k1.only ho k3 (.inr (by omega)),k2,Nat.le_trans k3 ho.size,k4⟩,hc,h.only.trans ho,h.at0,h.e12,hd⟩
theorem PrR.setA {ac' nx':Value} {a':Au} {lo:Nat} (h:PrR b r gq aq w0 w gs es g ac nx a) (ha:AuV lo w.heap.size w (.agg #[.int .i64 a'.start,ac',nx']) a') (hlo:aq < lo):PrR b r gq aq w0 (put3 w aq (.int .i64 a'.start) ac' nx') gs es g ac' nx' a':=by
 have hd:=h.ord
 have h0:=h.at0
 have ho:=put3_only w aq (.int .i64 a'.start) ac' nx'
 obtain ⟨lo',hi',k1,k2,k3,k4⟩:=h.gv
 exact ⟨h.res1.only ho (.inl (by omega)),h.res2.only ho (.inl (by omega)),h.gbk.only ho (.inl (by omega)),((h.abk.set_ 0 (.int .i64 a'.start)).set_ 1 ac').set_ 2 nx',⟨lo',hi',k1.only ho k3 (by omega),k2,Nat.le_trans k3 ho.size,k4⟩,⟨lo,w.heap.size,ha.only ho (Nat.le_refl _) (.inr (by omega)),by omega,ho.size,.inl (by omega),.inl (by omega)⟩,h.cur.only ho (by omega),
  ((h.only.setCell (p:=⟨aq,0,none⟩) (.inr (by simp only;omega)) _).setCell (p:=⟨aq,1,none⟩) (.inr (by simp only;omega)) _).setCell (p:=⟨aq,2,none⟩) (.inr (by simp only;omega)) _,h.at0,h.e12,hd⟩
theorem PrR.done (h:PrR b r gq aq w0 w gs es g ac nx a) (v1 v2 v3 v4 v5:Value) :
 GrV w0.heap.size (putGA w r v1 v2 v3 v4 v5).heap.size (putGA w r v1 v2 v3 v4 v5) (.agg #[gs,es]) g/\g.edges.length<=11/\AuV w0.heap.size (putGA w r v1 v2 v3 v4 v5).heap.size (putGA w r v1 v2 v3 v4 v5) (.agg #[.int .i64 a.start,ac,nx]) a/\Cur (putGA w r v1 v2 v3 v4 v5) b/\Only b (b+1) w0 (putGA w r v1 v2 v3 v4 v5):=by
 have hd:=h.ord
 have h0:=h.at0
 have ho:=putGA_only w r v1 v2 v3 v4 v5
 have hs:=ho.size
 obtain ⟨lo,hi,h1,h2,h3,h4⟩:=h.gv
 obtain ⟨lo',hi',k1,k2,k3,k4⟩:=h.av
 exact ⟨(h1.only ho h3 (.inr (by omega))).mono (by omega) (by omega),h.e12,(k1.only ho k3 (.inr (by omega))).mono (by omega) (by omega),h.cur.only ho (by omega),
  (((((h.only.setCell (p:=⟨r,0,none⟩) (.inr (by simp only;omega)) _).setCell (p:=⟨r,1,none⟩) (.inr (by simp only;omega)) _).setCell (p:=⟨r+1,0,none⟩) (.inr (by simp only;omega)) _).setCell (p:=⟨r+1,1,none⟩) (.inr (by simp only;omega)) _).setCell (p:=⟨r+1,2,none⟩) (.inr (by simp only;omega)) _).drew⟩
end
theorem within_any (n a b:Int) (w:World):Calls Tryz.prog 45 #[.int .i64 n,.int .i64 a,.int .i64 b] w fun e w'=>e=.returned (.bool (wi n a b))/\w'=w:=by
 unfold wi
 by_cases h1:a<=n
 · have e1:decide (a<=n)=true:=by simpa using h1
   by_cases h2:n<=b
   · go_enter Tryz.func45,Tryz.ntmps45
     go_wp2
     go_ret
     exact ⟨by simp [h1,h2],rfl⟩
   · go_enter Tryz.func45,Tryz.ntmps45
     go_wp2
     go_ret
     exact ⟨by simp [h1];try omega,rfl⟩
 · have e1:decide (a<=n)=false:=by simpa using h1
   go_enter Tryz.func45,Tryz.ntmps45
   go_wp2
   go_ret
   exact ⟨by simp [h1];try omega,rfl⟩
set_option maxHeartbeats 1000000 in
theorem implValidAutomaton (v:Value) (a:Au) (w:World) (hv:AuV 0 w.heap.size w v a) :
 Calls Tryz.prog 115 #[v] w fun e w'=>e=.returned (.bool (auOk a))/\Below w.heap.size w w':=by
 obtain ⟨ac,nx,rfl,⟨A1,c1,rfl,hl1,hm1,-⟩,us,⟨A2,c2,rfl,hl2,hm2,hx2⟩,hul,hrows⟩:=hv
 rw [hul] at hl2 ⊢
 have HU:=Hd_ hul
 clear hul
 unfold maxLen at hm1 hm2
 have hb0:Below w.heap.size w (w.alloc (.cells #[.int .i64 a.start,.slice A1 a.accept.length c1,.slice A2 a.next.length c2] 31)):=(Below.refl _ _).alloc (Nat.le_refl _) _
 have HW:=Hd_ within_any
 by_cases g1:wi a.accept.length 1 12=true
 · by_cases g2:wi a.start 0 ((a.accept.length:Int) - 1)=true
   · by_cases g3:a.next.length=a.accept.length
     · have HG3:=Hd_ g3
       have g3':((a.next.length:Int) != (a.accept.length:Int))=false:=by simp;omega
       have hr:auOk a=a.next.all (rowOk a.accept.length):=by simp [auOk,g1,g2,g3]
       have HR:=Hd_ hr
       clear hr g3
       obtain ⟨hn1,hn2⟩:=wi_iff.1 g1
       go_enter Tryz.func115,Tryz.ntmps115
       go_wp2_with (go_at_call 45;refine (HW.out _ _ _ _).mono ?_;rintro e w' ⟨rfl,rfl⟩)
       go_loop [32] (fun ii=>∃ i:Nat,i<=a.next.length/\ii=.int .i64 i/\(a.next.take i).all (rowOk a.accept.length)=true) (fun ii=>a.next.length - (intOf ii).toNat)
       case atStart=>exact ⟨0,Nat.zero_le _,rfl,rfl⟩
       case round =>
        obtain ⟨i,hi,rfl,hall⟩:=hrel
        have HA:=Hd_ hall
        clear hall
        by_cases hlt:i < a.next.length
        · obtain ⟨u,hu⟩:∃ u,us[i]?=some u:=⟨_,List.getElem?_eq_getElem (by have:=HU.out;omega)⟩
          obtain ⟨b,o,rfl,-,hb1,hc⟩:=hx2 i u hu
          have hxi:a.next[i]?=some a.next[i]:=List.getElem?_eq_getElem hlt
          have hvi:=hrows i u _ hu hxi
          generalize a.next[i]=row at hvi hxi
          have c0:=hc 0 _ rfl
          simp only [Nat.mul_one,Nat.add_zero] at c0
          obtain ⟨A3,c3,rfl,hl3,hm3,hx3⟩:=hvi
          unfold maxLen at hm3
          have HX:=Hd_ hxi
          clear hc hx2 hu hxi hrows
          go_wp2_with fail
          go_loop [38] (fun jj=>∃ j:Nat,j<=row.length/\jj=.int .i64 j/\(row.take j).all (fun t=>wi t (-1) ((a.accept.length:Int) - 1))=true) (fun jj=>row.length - (intOf jj).toNat)
          case atStart=>exact ⟨0,Nat.zero_le _,rfl,rfl⟩
          case round =>
           obtain ⟨j,hj,rfl,hall2⟩:=hrel
           have HB:=Hd_ hall2
           clear hall2
           by_cases hlt2:j < row.length
           · have hxj:row[j]?=some row[j]:=List.getElem?_eq_getElem hlt2
             obtain ⟨b2,o2,rfl,-,hb2,hc2⟩:=hx3 j _ hxj
             generalize row[j]=t at hc2 hxj
             have d0:=hc2 0 _ rfl
             simp only [Nat.mul_one,Nat.add_zero] at d0
             have HXJ:=Hd_ hxj
             clear hc2 hx3 hxj
             by_cases g4:wi t (-1) ((a.accept.length:Int) - 1)=true
             · go_wp2_with (go_at_call 45;refine (HW.out _ _ _ _).mono ?_;rintro e w' ⟨rfl,rfl⟩)
               go_round
               case rel=>exact ⟨j+1,by omega,by go_num,all_take_succ HXJ.out HB.out g4⟩
               case measure=>simp [intOf];omega
             · simp only [Bool.not_eq_true] at g4
               have hfin:auOk a=false:=by
                rw [HR.out]
                refine all_false_of HX.out ?_
                rw [rowOk,all_false_of HXJ.out g4]
                rfl
               have HF:=Hd_ hfin
               clear hfin
               go_wp2_with (go_at_call 45;refine (HW.out _ _ _ _).mono ?_;rintro e w' ⟨rfl,rfl⟩)
               go_ret
               exact ⟨by rw [HF.out];rfl,hb0⟩
           · obtain rfl:j=row.length:=by omega
             have hall3:row.all (fun t=>wi t (-1) ((a.accept.length:Int) - 1))=true:=by have:=HB.out;rwa [List.take_length] at this
             have H3:=Hd_ hall3
             clear hall3
             clear hx3
             by_cases g9:row.length=9
             · have g9':((row.length:Int) != 9)=false:=by simp;omega
               have hok:rowOk a.accept.length row=true:=by rw [rowOk,H3.out,g9];rfl
               have HO:=Hd_ hok
               clear hok g9
               go_wp2_with fail
               go_round
               case rel=>exact ⟨i+1,by omega,by go_num,all_take_succ HX.out HA.out HO.out⟩
               case measure=>simp [intOf];omega
             · have g9':((row.length:Int) != 9)=true:=by simp;omega
               have hfin:auOk a=false:=by
                rw [HR.out]
                refine all_false_of HX.out ?_
                rw [rowOk]
                simp [g9]
               have HF:=Hd_ hfin
               clear hfin g9
               go_wp2_with fail
               go_ret
               exact ⟨by rw [HF.out];rfl,hb0⟩
        · obtain rfl:i=a.next.length:=by omega
          have hfin:auOk a=true:=by rw [HR.out];have:=HA.out;rwa [List.take_length] at this
          have HF:=Hd_ hfin
          clear hfin hx2 hrows
          go_wp2_with fail
          go_ret
          exact ⟨by rw [HF.out];rfl,hb0⟩
     · have g3':((a.next.length:Int) != (a.accept.length:Int))=true:=by simp;omega
       have hr:auOk a=false:=by simp [auOk,g3]
       have HR:=Hd_ hr
       clear hr g3
       go_enter Tryz.func115,Tryz.ntmps115
       go_wp2_with (go_at_call 45;refine (HW.out _ _ _ _).mono ?_;rintro e w' ⟨rfl,rfl⟩)
       go_ret
       exact ⟨by rw [HR.out];rfl,hb0⟩
   · simp only [Bool.not_eq_true] at g2
     have hr:auOk a=false:=by simp [auOk,g2]
     have HR:=Hd_ hr
     clear hr
     go_enter Tryz.func115,Tryz.ntmps115
     go_wp2_with (go_at_call 45;refine (HW.out _ _ _ _).mono ?_;rintro e w' ⟨rfl,rfl⟩)
     go_ret
     exact ⟨by rw [HR.out];rfl,hb0⟩
 · simp only [Bool.not_eq_true] at g1
   have hr:auOk a=false:=by simp [auOk,g1]
   have HR:=Hd_ hr
   clear hr
   go_enter Tryz.func115,Tryz.ntmps115
   go_wp2_with (go_at_call 45;refine (HW.out _ _ _ _).mono ?_;rintro e w' ⟨rfl,rfl⟩)
   go_ret
   exact ⟨by rw [HR.out];rfl,hb0⟩
theorem isLetter_any (n:Int) (w:World):Calls Tryz.prog 173 #[.int .i64 n] w fun e w'=>e=.returned (.bool (wi n 0 8))/\w'=w:=by
 have HW:=Hd_ within_any
 go_enter Tryz.func173,Tryz.ntmps173
 go_wp2_with (go_at_call 45;refine (HW.out _ _ _ _).mono ?_;rintro e w' ⟨rfl,rfl⟩)
 go_ret
 exact ⟨rfl,rfl⟩
def mvI (a:Au) (s l:Int):Int:=if 0<=s/\wi l 0 8=true then mv a s.toNat l.toNat else -1
theorem mvI_in {a:Au} {s l:Nat} (hl:l < 9):mvI a s l=mv a s l:=by
 rw [mvI,if_pos ⟨by omega,wi_iff.2 ⟨by omega,by omega⟩⟩];simp
set_option maxHeartbeats 1000000 in
theorem move_any (v:Value) (a:Au) (s l:Int) (w:World) (hv:AuV 0 w.heap.size w v a) (hok:auOk a=true) (hs:s < (a.accept.length:Int)) :
 Calls Tryz.prog 149 #[v,.int .i64 s,.int .i64 l] w fun e w'=>e=.returned (.int .i64 (mvI a s l))/\Below w.heap.size w w':=by
 obtain ⟨A1,c1,A2,c2,rfl,hl1,hm1,hl2,hm2,hC⟩:=hv.form hok
 have HL:=Hd_ isLetter_any
 have hb0:Below w.heap.size w (w.alloc (.cells #[.int .i64 a.start,.slice A1 a.accept.length c1,.slice A2 a.accept.length c2] 31)):=(Below.refl _ _).alloc (Nat.le_refl _) _
 have HOK:=Hd_ hok
 clear hok hv
 by_cases h0:s < 0
 · have hfin:mvI a s l=-1:=by rw [mvI,if_neg (by omega)]
   have HF:=Hd_ hfin
   clear hfin
   go_enter Tryz.func149,Tryz.ntmps149
   go_wp2_with fail
   go_ret
   exact ⟨by rw [HF.out];rfl,hb0⟩
 · obtain ⟨s,rfl⟩:=Int.eq_ofNat_of_zero_le (show 0<=s by omega)
   cases hl:wi l 0 8 with
   | false =>
     have hfin:mvI a s l=-1:=by rw [mvI,if_neg (by simp [hl])]
     have HF:=Hd_ hfin
     clear hfin
     go_enter Tryz.func149,Tryz.ntmps149
     go_wp2_with (go_at_call 173;refine (HL.out _ _).mono ?_;rintro e w' ⟨rfl,rfl⟩)
     go_ret
     exact ⟨by rw [HF.out];rfl,hb0⟩
   | true =>
     have hl0:=wi_iff.1 hl
     obtain ⟨l,rfl⟩:=Int.eq_ofNat_of_zero_le hl0.1
     obtain ⟨b2,o2,b3,o3,c3,rfl,hb2,d2,hl3,hm3,hb3,hc3⟩:=hC.row s (by omega)
     have hl9:l < 9:=by omega
     have d3:=hc3 l hl9
     have HF:=Hd_ (mvI_in (a:=a) (s:=s) (l:=l) (by omega))
     clear hc3 hC hl0
     go_enter Tryz.func149,Tryz.ntmps149
     go_wp2_with (go_at_call 173;refine (HL.out _ _).mono ?_;rintro e w' ⟨rfl,rfl⟩)
     go_ret
     exact ⟨by rw [HF.out];rfl,hb0⟩
set_option maxHeartbeats 1000000 in
theorem closure_any (v:Value) (a:Au) (s x:Nat) (w:World) (hv:AuV 0 w.heap.size w v a) (hok:auOk a=true) (hs:s < a.accept.length) (hx:x<=2) :
 Calls Tryz.prog 146 #[v,.int .i64 (s:Int),.int .i64 (x:Int)] w fun e w'=>e=.returned (.int .i64 (cls a x s:Int))/\Below w.heap.size w w':=by
 have hv0:=hv
 obtain ⟨A1,c1,A2,c2,rfl,-⟩:=hv.form hok
 clear hv
 have hn12:a.accept.length<=12:=(auOk_iff.1 hok).1.2
 have hb0:Below w.heap.size w (w.alloc (.cells #[.int .i64 a.start,.slice A1 a.accept.length c1,.slice A2 a.accept.length c2] 31)):=(Below.refl _ _).alloc (Nat.le_refl _) _
 have HV:=Hd_ hv0
 have HOK:=Hd_ hok
 clear hok
 obtain ⟨R,hR⟩:∃ R,R=cls a x s:=⟨_,rfl⟩
 rw [<- hR]
 have HR:=Hd_ hR
 clear hR hv0
 go_enter Tryz.func146,Tryz.ntmps146
 go_wp2_with fail
 go_loopw [7,8] (fun st ss wr=>∃ (f m:Nat) (s:Int) (u:World),st=.int .i64 (m:Int)/\ss=.int .i64 s/\clsF a (6+x) f s m=R/\f+(mem 12 m).length=13/\m < 2 ^ a.accept.length/\s < (a.accept.length:Int)/\wr=ext (w.alloc (.cells #[.int .i64 a.start,.slice A1 a.accept.length c1,.slice A2 a.accept.length c2] 31)) u) (fun st _ _=>13 - (mem 12 (intOf st).toNat).length)
 case atStart=>exact ⟨13,0,s,_,rfl,rfl,HR.out.symm,by simp [mem],Nat.two_pow_pos _,by omega,ext_self _⟩
 case round =>
  obtain ⟨f,m,s,u,rfl,rfl,hcl,hf,hm,hs,rfl⟩:=hrel
  have hm2:=lt12 HOK.out hm
  have hml:=mem_len 12 m
  have HC:=Hd_ hcl
  have HFC:=Hd_ hf
  have hbw:=below_trans hb0 (ext_below _ u)
  clear hcl hf
  by_cases h0:0<=s
  · obtain ⟨s,rfl⟩:=Int.eq_ofNat_of_zero_le h0
    have hs12:s < 12:=by omega
    have e1:=shl_bit (s:=s) (by omega)
    have e2:=or_ins (m:=m) (s:=s) (by omega) (by omega)
    cases hb:m.testBit s with
    | true =>
      have e3:=bit_on (by omega) (by omega) hb
      have hfin:m=R:=by rw [<- HC.out];exact (clsF_stop (.inr (by simpa using hb))).symm
      have HF:=Hd_ hfin
      clear hfin hb h0
      go_wp2_with fail
      go_ret
      exact ⟨by rw [HF.out];rfl,hbw⟩
    | false =>
      have e3:=bit_off (by omega) (by omega) hb
      have HB:=Hd_ hb
      have hmv:=mv_lt HOK.out s (6+x)
      clear hb h0
      go_wp2_with fail
      refine (move_any _ a (s:Int) _ _ (HV.out.keep hbw) HOK.out (by omega)).mono ?_
      rintro e w1 ⟨rfl,hb1⟩
      obtain ⟨u1,rfl⟩:=ext_of (below_trans (ext_below _ u) hb1)
      rw [show (6:Int)+(x:Int)=((6+x:Nat):Int) by omega,mvI_in (by omega)]
      go_wp2_with fail
      go_roundw
      case rel =>
       have h1:=cnt_or (n:=12) (m:=m) hs12 HB.out
       have h2:=HFC.out
       obtain ⟨f,rfl⟩:∃ f',f=f'+1:=⟨f - 1,by omega⟩
       refine ⟨f,ins m s,_,_,rfl,rfl,by rw [<- HC.out];exact (clsF_go HB.out).symm,by omega,ins_lt hm (by omega),by omega,rfl⟩
      case measure =>
       have h1:=cnt_or (n:=12) (m:=m) hs12 HB.out
       simp [intOf];omega
  · have hfin:m=R:=by rw [<- HC.out];exact (clsF_stop (.inl (by omega))).symm
    have h0':decide (s >= 0)=false:=by simp;omega
    have HF:=Hd_ hfin
    clear hfin
    go_wp2_with fail
    go_ret
    exact ⟨by rw [HF.out];rfl,hbw⟩
set_option maxHeartbeats 1000000 in
theorem members_any (m:Nat) (w:World) (hm:m < 4096) :
 Calls Tryz.prog 121 #[.int .i64 (m:Int)] w fun e w'=>∃ v',e=.returned v'/\Own w.heap.size w'.heap.size w' 3 cN 1 v' (mem 12 m)/\Below w.heap.size w w':=by
 obtain ⟨R,hR⟩:∃ R,R=mem 12 m:=⟨_,rfl⟩
 rw [<- hR]
 have HR:=Hd_ hR
 clear hR
 go_enter Tryz.func121,Tryz.ntmps121
 go_wp2_with fail
 go_loopw [3,4] (fun out ii wr=>∃ i:Nat,i<=12/\ii=.int .i64 (i:Int)/\wr.ownsRow w.heap.size 3 1 out (mem i m).length ((mem i m).flatMap cN)/\Below w.heap.size w wr) (fun _ ii _=>12 - (intOf ii).toNat)
 case atStart=>exact ⟨0,Nat.zero_le _,rfl,World.ownsRow_lit w #[] 0 (Nat.le_refl _) (by decide) rfl,(Below.refl _ _).alloc (Nat.le_refl _) _⟩
 case round =>
  obtain ⟨i,hi,rfl,hrow,hbel⟩:=hrel
  have HROW:=Hd_ hrow
  have hs:=hbel.size
  have hml:=mem_len i m
  clear hrow
  by_cases hlt:2 ^ i<=m
  · have e1:=shr_on (by omega) hlt
    have hi12:i < 12:=by
     rcases Nat.lt_or_ge i 12 with h | h
     · exact h
     · have:2 ^ 12<=2 ^ i:=Nat.pow_le_pow_right (by omega) h
       omega
    clear hlt
    cases hb:m.testBit i with
    | true =>
      have e3:=bit_on (by omega) (by omega) hb
      have HM:=Hd_ (mem_yes hb)
      clear hb
      go_wp2_with (at_builtin;(refine wpList_append1 cN elInt rfl _ _ rfl w.heap.size _ (mem i m) i _ 1 _ (by rfl) HROW.out (by rfl) rfl rfl rfl (cN_one _) (by omega) (by omega) hs ?_);rw [<- HM.out];intro v' w4 hrow' hb4 _ _)
      go_roundw
      case rel=>exact ⟨i+1,by omega,by go_num,hrow',hbel.trans hb4⟩
      case measure=>simp [intOf];omega
    | false =>
      have e3:=bit_off (by omega) (by omega) hb
      have HM:=Hd_ (mem_no hb)
      clear hb
      go_wp2_with fail
      go_roundw
      case rel=>exact ⟨i+1,by omega,by go_num,by rw [HM.out];exact HROW.out,hbel⟩
      case measure=>simp [intOf];omega
  · have e1:=shr_off (i:=i) (m:=m) (by omega) (by omega)
    have hfin:R=mem i m:=by rw [HR.out];exact mem_stop (by omega) hi
    have HF:=Hd_ hfin
    clear hfin hlt
    go_wp2_with fail
    go_ret
    exact ⟨_,rfl,by rw [HF.out];exact Own.of_row HROW.out rfl rfl,hbel⟩
set_option maxHeartbeats 2000000 in
theorem after_any (v:Value) (a:Au) (set x l:Nat) (w:World) (hv:AuV 0 w.heap.size w v a) (hok:auOk a=true) (hset:set < 2 ^ a.accept.length) (hx:x<=2) (hl:l < 9) :
 Calls Tryz.prog 104 #[v,.int .i64 (set:Int),.int .i64 (x:Int),.int .i64 (l:Int)] w fun e w'=>e=.returned (.int .i64 (aft a set x l:Int))/\Below w.heap.size w w':=by
 have hv0:=hv
 obtain ⟨A1,c1,A2,c2,rfl,-⟩:=hv.form hok
 clear hv
 have hn12:a.accept.length<=12:=(auOk_iff.1 hok).1.2
 have hb0:Below w.heap.size w (w.alloc (.cells #[.int .i64 a.start,.slice A1 a.accept.length c1,.slice A2 a.accept.length c2] 31)):=(Below.refl _ _).alloc (Nat.le_refl _) _
 have HV:=Hd_ hv0
 have HOK:=Hd_ hok
 have HSET:=Hd_ hset
 have h4096:=lt12 hok hset
 clear hok hv0 hset
 go_enter Tryz.func104,Tryz.ntmps104
 go_wp2_with fail
 refine (members_any set _ h4096).mono ?_
 rintro e w1 ⟨v1,rfl,ho,hb1⟩
 obtain ⟨A3,c3,rfl,hl3,hm3,hC3⟩:=ho.form cN_len
 have hml:=mem_len 12 set
 have hb2:=below_trans hb0 hb1
 have HC3:=Hd_ hC3
 have b0:=(Blk.new w _ _ w.heap.size rfl).keep hb1
 have x0:w1.cell? ⟨w.heap.size,0,none⟩=some _:=b0.cell 0
 have x1:w1.cell? ⟨w.heap.size,1,none⟩=some _:=b0.cell 1
 have x2:w1.cell? ⟨w.heap.size,2,none⟩=some _:=b0.cell 2
 have l0:=b0.lt
 clear b0
 clear hb1 hb0 ho hC3
 go_wp2_with fail
 have hfl:∀ i,((mem 12 set).take i).foldl (aftS a x l) 0 < 2 ^ a.accept.length:=fun i=>foldl_inv (P:=fun m=>m < 2 ^ a.accept.length) (fun m s hm=>aftS_lt HOK.out x l m s hm) _ _ (Nat.two_pow_pos _)
 have HFL:=Hd_ hfl
 clear hfl
 go_loopw [9,18] (fun out ii wr=>∃ (i:Nat) (u:World),i<=(mem 12 set).length/\ii=.int .i64 (i:Int)/\out=.int .i64 (((mem 12 set).take i).foldl (aftS a x l) 0:Nat)/\wr=ext w1 u) (fun _ ii _=>(mem 12 set).length - (intOf ii).toNat)
 case atStart=>exact ⟨0,w1,Nat.zero_le _,rfl,rfl,ext_self _⟩
 case round =>
  obtain ⟨i,u,hi,rfl,rfl,rfl⟩:=hrel
  by_cases hlt:i < (mem 12 set).length
  · have hsi:(mem 12 set)[i]?=some (mem 12 set)[i]:=List.getElem?_eq_getElem hlt
    have hsm:=mem_mem.1 (List.getElem_mem hlt)
    generalize (mem 12 set)[i]=s at hsi hsm
    have hsn:s < a.accept.length:=by
     rcases Nat.lt_or_ge s a.accept.length with h | h
     · exact h
     · have:=Nat.testBit_lt_two_pow (Nat.lt_of_lt_of_le HSET.out (Nat.pow_le_pow_right (by omega) h))
       rw [hsm.2] at this;cases this
    obtain ⟨b3,o3,rfl,hb3,d3⟩:=HC3.out.nat hsi
    have HFT:=Hd_ (foldl_take (f:=aftS a x l) hsi 0)
    have hbw:=below_trans hb2 (ext_below w1 u)
    have hm0:=HFL.out i
    generalize ((mem 12 set).take i).foldl (aftS a x l) 0=m0 at *
    clear hsi hsm
    go_wp2_with fail
    refine (closure_any _ a s x _ (HV.out.keep hbw) HOK.out hsn hx).mono ?_
    rintro e w2 ⟨rfl,hb5⟩
    obtain ⟨u2,rfl⟩:=ext_of (below_trans (ext_below w1 u) hb5)
    have hcl:=cls_lt HOK.out x s hsn
    have hcl4:=lt12 HOK.out hcl
    go_wp2_with fail
    refine (members_any (cls a x s) _ hcl4).mono ?_
    rintro e w3 ⟨v4,rfl,ho4,hb6⟩
    obtain ⟨A4,c4,rfl,hl4,hm4,hC4⟩:=ho4.form cN_len
    have hml4:=mem_len 12 (cls a x s)
    have hb7:=below_trans (ext_below w1 u2) hb6
    have hb8:=below_trans hb2 hb7
    have x0:=bcell hb7 x0 l0
    have x1:=bcell hb7 x1 l0
    have x2:=bcell hb7 x2 l0
    have l0:=Nat.lt_of_lt_of_le l0 hb7.size
    have HC4:=Hd_ hC4
    have HCL:=Hd_ hcl
    clear hb6 hb5 hbw ho4 hC4 hcl
    go_wp2_with fail
    go_loopw [9,28] (fun out jj wr=>∃ (j:Nat) (u:World),j<=(mem 12 (cls a x s)).length/\jj=.int .i64 (j:Int)/\out=.int .i64 (((mem 12 (cls a x s)).take j).foldl (aft1 a l) m0:Nat)/\wr=ext w3 u) (fun _ jj _=>(mem 12 (cls a x s)).length - (intOf jj).toNat)
    case atStart=>exact ⟨0,w3,Nat.zero_le _,rfl,rfl,ext_self _⟩
    case round =>
     obtain ⟨j,u3,hj,rfl,rfl,rfl⟩:=hrel
     by_cases hlt2:j < (mem 12 (cls a x s)).length
     · have hti:(mem 12 (cls a x s))[j]?=some (mem 12 (cls a x s))[j]:=List.getElem?_eq_getElem hlt2
       have htm:=mem_mem.1 (List.getElem_mem hlt2)
       generalize (mem 12 (cls a x s))[j]=t at hti htm
       have htn:t < a.accept.length:=by
        rcases Nat.lt_or_ge t a.accept.length with h | h
        · exact h
        · have:=Nat.testBit_lt_two_pow (Nat.lt_of_lt_of_le HCL.out (Nat.pow_le_pow_right (by omega) h))
          rw [htm.2] at this;cases this
       obtain ⟨b4,o4,rfl,hb4,d4⟩:=HC4.out.nat hti
       have HFT2:=Hd_ (foldl_take (f:=aft1 a l) hti m0)
       have hm1:((mem 12 (cls a x s)).take j).foldl (aft1 a l) m0 < 2 ^ a.accept.length:=foldl_inv (P:=fun m=>m < 2 ^ a.accept.length) (fun m s hm=>aft1_lt HOK.out l m s hm) _ _ hm0
       have hm14:=lt12 HOK.out hm1
       generalize ((mem 12 (cls a x s)).take j).foldl (aft1 a l) m0=m1 at *
       have hbw:=below_trans hb8 (ext_below w3 u3)
       have hmv:=mv_lt HOK.out t l
       have HA:=Hd_ (show aft1 a l m1 t=if 0<=mv a t l then ins m1 (mv a t l).toNat else m1 from rfl)
       clear hti htm hm0
       go_wp2_with fail
       refine (move_any _ a (t:Int) (l:Int) _ (HV.out.keep hbw) HOK.out (by omega)).mono ?_
       rintro e w4 ⟨rfl,hb9⟩
       obtain ⟨u4,rfl⟩:=ext_of (below_trans (ext_below w3 u3) hb9)
       rw [mvI_in hl]
       clear hb9
       by_cases h0:0<=mv a t l
       · generalize mv a t l=z at *
         obtain ⟨z,rfl⟩:=Int.eq_ofNat_of_zero_le h0
         have e1:=shl_bit (s:=z) (by omega)
         have e2:=or_ins (m:=m1) (s:=z) (by omega) (by omega)
         go_wp2_with fail
         go_roundw
         case rel=>exact ⟨j+1,u4,by omega,by go_num,by rw [HFT2.out,HA.out,if_pos h0];simp,rfl⟩
         case measure=>simp [intOf];omega
       · have h0':decide (mv a t l >= 0)=false:=by simp;omega
         go_wp2_with fail
         go_roundw
         case rel=>exact ⟨j+1,u4,by omega,by go_num,by rw [HFT2.out,HA.out,if_neg (by omega)],rfl⟩
         case measure=>simp [intOf];omega
     · obtain rfl:j=(mem 12 (cls a x s)).length:=by omega
       have HT:=Hd_ (show ((mem 12 (cls a x s)).take (mem 12 (cls a x s)).length).foldl (aft1 a l) m0=aftS a x l m0 s by rw [List.take_length];rfl)
       go_wp2_with fail
       go_roundw
       case rel =>
        obtain ⟨u5,hu5⟩:=ext_of (below_trans hb7 (ext_below w3 u3))
        exact ⟨i+1,u5,by omega,by go_num,by rw [HFT.out,HT.out],hu5⟩
       case measure=>simp [intOf];omega
  · obtain rfl:i=(mem 12 set).length:=by omega
    have HT:=Hd_ (show ((mem 12 set).take (mem 12 set).length).foldl (aftS a x l) 0=aft a set x l by rw [List.take_length];rfl)
    go_wp2_with fail
    go_ret
    exact ⟨by rw [HT.out];rfl,below_trans hb2 (ext_below w1 u)⟩
theorem bit_in {n m t:Nat} (hm:m < 2 ^ n) (ht:m.testBit t=true):t < n:=by
 rcases Nat.lt_or_ge t n with h | h
 · exact h
 · have:=Nat.testBit_lt_two_pow (Nat.lt_of_lt_of_le hm (Nat.pow_le_pow_right (by omega) h))
   rw [ht] at this;cases this
theorem any_take {α:Type} {p:α->Bool} {xs:List α} {i:Nat} {x:α} (h:xs[i]?=some x):(xs.take (i+1)).any p=((xs.take i).any p || p x):=by
 rw [take_snoc h,List.any_append];simp
theorem any_of_at {α:Type} {p:α->Bool} {xs:List α} {i:Nat} {x:α} (h:xs[i]?=some x) (hp:p x=true):xs.any p=true:=List.any_eq_true.2 ⟨x,List.mem_of_getElem? h,hp⟩
set_option maxHeartbeats 2000000 in
theorem acceptsAt_any (v:Value) (a:Au) (set x:Nat) (w:World) (hv:AuV 0 w.heap.size w v a) (hok:auOk a=true) (hset:set < 2 ^ a.accept.length) (hx:x<=2) :
 Calls Tryz.prog 99 #[v,.int .i64 (set:Int),.int .i64 (x:Int)] w fun e w'=>e=.returned (.bool (acc a set x))/\Below w.heap.size w w':=by
 have hv0:=hv
 obtain ⟨A1,c1,A2,c2,rfl,hl1,hm1,-,-,hAC,-⟩:=hv.form hok
 clear hv
 have hn12:a.accept.length<=12:=(auOk_iff.1 hok).1.2
 have hb0:Below w.heap.size w (w.alloc (.cells #[.int .i64 a.start,.slice A1 a.accept.length c1,.slice A2 a.accept.length c2] 31)):=(Below.refl _ _).alloc (Nat.le_refl _) _
 have HV:=Hd_ hv0
 have HOK:=Hd_ hok
 have HSET:=Hd_ hset
 have HAC:=Hd_ hAC
 have h4096:=lt12 hok hset
 clear hok hv0 hset hAC
 go_enter Tryz.func99,Tryz.ntmps99
 go_wp2_with fail
 refine (members_any set _ h4096).mono ?_
 rintro e w1 ⟨v1,rfl,ho,hb1⟩
 obtain ⟨A3,c3,rfl,hl3,hm3,hC3⟩:=ho.form cN_len
 have hml:=mem_len 12 set
 have hb2:=below_trans hb0 hb1
 have HC3:=Hd_ hC3
 have b0:=(Blk.new w _ _ w.heap.size rfl).keep hb1
 have x0:w1.cell? ⟨w.heap.size,0,none⟩=some _:=b0.cell 0
 have x1:w1.cell? ⟨w.heap.size,1,none⟩=some _:=b0.cell 1
 have x2:w1.cell? ⟨w.heap.size,2,none⟩=some _:=b0.cell 2
 have l0:=b0.lt
 clear b0
 clear hb1 hb0 ho hC3
 go_wp2_with fail
 go_loopw [14] (fun ii wr=>∃ (i:Nat) (u:World),i<=(mem 12 set).length/\ii=.int .i64 (i:Int)/\((mem 12 set).take i).any (accC a x)=false/\wr=ext w1 u) (fun ii _=>(mem 12 set).length - (intOf ii).toNat)
 case atStart=>exact ⟨0,w1,Nat.zero_le _,rfl,rfl,ext_self _⟩
 case round =>
  obtain ⟨i,u,hi,rfl,hno,rfl⟩:=hrel
  have HNO:=Hd_ hno
  clear hno
  by_cases hlt:i < (mem 12 set).length
  · have hsi:(mem 12 set)[i]?=some (mem 12 set)[i]:=List.getElem?_eq_getElem hlt
    have hsm:=mem_mem.1 (List.getElem_mem hlt)
    generalize (mem 12 set)[i]=s at hsi hsm
    have hsn:=bit_in HSET.out hsm.2
    obtain ⟨b3,o3,rfl,hb3,d3⟩:=HC3.out.nat hsi
    have hbw:=below_trans hb2 (ext_below w1 u)
    have HSI:=Hd_ hsi
    clear hsi hsm
    go_wp2_with fail
    refine (closure_any _ a s x _ (HV.out.keep hbw) HOK.out hsn hx).mono ?_
    rintro e w2 ⟨rfl,hb5⟩
    obtain ⟨u2,rfl⟩:=ext_of (below_trans (ext_below w1 u) hb5)
    have hcl:=cls_lt HOK.out x s hsn
    have hcl4:=lt12 HOK.out hcl
    go_wp2_with fail
    refine (members_any (cls a x s) _ hcl4).mono ?_
    rintro e w3 ⟨v4,rfl,ho4,hb6⟩
    obtain ⟨A4,c4,rfl,hl4,hm4,hC4⟩:=ho4.form cN_len
    have hml4:=mem_len 12 (cls a x s)
    have hb7:=below_trans (ext_below w1 u2) hb6
    have hb8:=below_trans hb2 hb7
    have x0:=bcell hb7 x0 l0
    have x1:=bcell hb7 x1 l0
    have x2:=bcell hb7 x2 l0
    have l0:=Nat.lt_of_lt_of_le l0 hb7.size
    have HC4:=Hd_ hC4
    have HCL:=Hd_ hcl
    have HAC3:=Hd_ (HAC.out.keep hb8)
    have HAE:=Hd_ (show accC a x s=(mem 12 (cls a x s)).any fun t=>a.accept.getD t false from rfl)
    clear hb6 hb5 hbw ho4 hC4 hcl
    go_wp2_with fail
    go_loopw [24] (fun jj wr=>∃ (j:Nat) (u:World),j<=(mem 12 (cls a x s)).length/\jj=.int .i64 (j:Int)/\((mem 12 (cls a x s)).take j).any (fun t=>a.accept.getD t false)=false/\wr=ext w3 u) (fun jj _=>(mem 12 (cls a x s)).length - (intOf jj).toNat)
    case atStart=>exact ⟨0,w3,Nat.zero_le _,rfl,rfl,ext_self _⟩
    case round =>
     obtain ⟨j,u3,hj,rfl,hno,rfl⟩:=hrel
     have HNJ:=Hd_ hno
     clear hno
     by_cases hlt2:j < (mem 12 (cls a x s)).length
     · have hti:(mem 12 (cls a x s))[j]?=some (mem 12 (cls a x s))[j]:=List.getElem?_eq_getElem hlt2
       have htm:=mem_mem.1 (List.getElem_mem hlt2)
       generalize (mem 12 (cls a x s))[j]=t at hti htm
       have htn:=bit_in HCL.out htm.2
       obtain ⟨b4,o4,rfl,hb4,d4⟩:=HC4.out.nat hti
       have hbw:=below_trans hb8 (ext_below w3 u3)
       have hai:a.accept[t]?=some a.accept[t]:=List.getElem?_eq_getElem htn
       obtain ⟨b5,o5,rfl,hb5,d5⟩:=HAC3.out.bool hai
       have hag:a.accept.getD t false=a.accept[t]:=by simp [List.getD,hai]
       generalize a.accept[t]=b at *
       have HAG:=Hd_ hag
       have HTI:=Hd_ hti
       clear hti htm hai hag
       cases b with
       | true =>
         have hfin:acc a set x=true:=any_of_at HSI.out (by rw [HAE.out];exact any_of_at HTI.out HAG.out)
         have HF:=Hd_ hfin
         clear hfin
         go_wp2_with fail
         go_ret
         exact ⟨by rw [HF.out];rfl,hbw⟩
       | false =>
         go_wp2_with fail
         go_roundw
         case rel=>exact ⟨j+1,u3,by omega,by go_num,by rw [any_take HTI.out,HNJ.out,HAG.out];rfl,rfl⟩
         case measure=>simp [intOf];omega
     · obtain rfl:j=(mem 12 (cls a x s)).length:=by omega
       have HT:=Hd_ (show accC a x s=false by have h:=HNJ.out;rw [List.take_length] at h;rw [HAE.out];exact h)
       go_wp2_with fail
       go_roundw
       case rel =>
        obtain ⟨u5,hu5⟩:=ext_of (below_trans hb7 (ext_below w3 u3))
        exact ⟨i+1,u5,by omega,by go_num,by rw [any_take HSI.out,HNO.out,HT.out];rfl,hu5⟩
       case measure=>simp [intOf];omega
  · obtain rfl:i=(mem 12 set).length:=by omega
    have HT:=Hd_ (show acc a set x=false by have h:=HNO.out;rw [List.take_length] at h;exact h)
    go_wp2_with fail
    go_ret
    exact ⟨by rw [HT.out];rfl,below_trans hb2 (ext_below w1 u)⟩
set_option maxHeartbeats 1000000 in
theorem edgeOk_any (e:Ed) (n:Nat) (w:World) (hn:n<=9223372036854775807) :
 Calls Tryz.prog 151 #[.agg #[.int .i64 e.1,.int .i64 e.2.1,.int .i64 e.2.2.1,.int .i64 e.2.2.2],.int .i64 (n:Int)] w fun en w'=>en=.returned (.bool (edOk n e))/\Below w.heap.size w w':=by
 obtain ⟨a,b,c,d⟩:=e
 have HW:=Hd_ within_any
 unfold edOk
 simp only
 have hb0:Below w.heap.size w (w.alloc (.cells #[.int .i64 a,.int .i64 b,.int .i64 c,.int .i64 d] 138)):=(Below.refl _ _).alloc (Nat.le_refl _) _
 cases g1:wi a 1 99 with
 | false =>
   have HZ:=Hd_ g1
   go_enter Tryz.func151,Tryz.ntmps151
   go_wp2_with (go_at_call 45;refine (HW.out _ _ _ _).mono ?_;rintro e w' ⟨rfl,rfl⟩)
   go_ret
   exact ⟨rfl,hb0⟩
 | true =>
   cases g2:wi b 0 ((n:Int) - 1) with
   | false =>
     go_enter Tryz.func151,Tryz.ntmps151
     go_wp2_with (go_at_call 45;refine (HW.out _ _ _ _).mono ?_;rintro e w' ⟨rfl,rfl⟩)
     go_ret
     exact ⟨rfl,hb0⟩
   | true =>
     cases g3:wi c 0 ((n:Int) - 1) with
     | false =>
       go_enter Tryz.func151,Tryz.ntmps151
       go_wp2_with (go_at_call 45;refine (HW.out _ _ _ _).mono ?_;rintro e w' ⟨rfl,rfl⟩)
       go_ret
       exact ⟨rfl,hb0⟩
     | true =>
       go_enter Tryz.func151,Tryz.ntmps151
       go_wp2_with (go_at_call 45;refine (HW.out _ _ _ _).mono ?_;rintro e w' ⟨rfl,rfl⟩)
       go_ret
       exact ⟨rfl,hb0⟩
set_option maxHeartbeats 2000000 in
theorem implValidGraph (v:Value) (g:Gr) (w:World) (hv:GrV 0 w.heap.size w v g) :
 Calls Tryz.prog 114 #[v] w fun e w'=>e=.returned (.bool (grOk g))/\Below w.heap.size w w':=by
 obtain ⟨vs,es,rfl,⟨A1,c1,rfl,hl1,hm1,hx1⟩,⟨A2,c2,rfl,hl2,hm2,hx2⟩⟩:=hv
 unfold maxLen at hm1 hm2
 have hb0:Below w.heap.size w (w.alloc (.cells #[.slice A1 g.vals.length c1,.slice A2 g.edges.length c2] 27)):=(Below.refl _ _).alloc (Nat.le_refl _) _
 have HW:=Hd_ within_any
 have HX1:=Hd_ hx1
 have HX2:=Hd_ hx2
 clear hx1 hx2
 go_enter Tryz.func114,Tryz.ntmps114
 go_wp2_with fail
 go_loop [14] (fun ii=>∃ i:Nat,i<=g.vals.length/\ii=.int .i64 i/\(g.vals.take i).all (fun v=>wi v 0 2)=true) (fun ii=>g.vals.length - (intOf ii).toNat)
 case atStart=>exact ⟨0,Nat.zero_le _,rfl,rfl⟩
 case round =>
  obtain ⟨i,hi,rfl,hall⟩:=hrel
  have HA:=Hd_ hall
  clear hall
  by_cases hlt:i < g.vals.length
  · have hxi:g.vals[i]?=some g.vals[i]:=List.getElem?_eq_getElem hlt
    obtain ⟨b,o,rfl,-,hb1,hc⟩:=HX1.out i _ hxi
    generalize g.vals[i]=x at hc hxi
    have c0:=hc 0 _ rfl
    simp only [Nat.mul_one,Nat.add_zero] at c0
    have HX:=Hd_ hxi
    clear hc hxi
    cases g4:wi x 0 2 with
    | true =>
      have G4:=Hd_ g4
      go_wp2_with (go_at_call 45;refine (HW.out _ _ _ _).mono ?_;rintro e w' ⟨rfl,rfl⟩)
      go_round
      case rel=>exact ⟨i+1,by omega,by go_num,all_take_succ HX.out HA.out G4.out⟩
      case measure=>simp [intOf];omega
    | false =>
      have hfin:grOk g=false:=by
       rw [grOk,all_false_of HX.out g4]
       rfl
      have HF:=Hd_ hfin
      clear hfin
      go_wp2_with (go_at_call 45;refine (HW.out _ _ _ _).mono ?_;rintro e w' ⟨rfl,rfl⟩)
      go_ret
      exact ⟨by rw [HF.out];rfl,hb0⟩
  · obtain rfl:i=g.vals.length:=by omega
    have hallv:g.vals.all (fun v=>wi v 0 2)=true:=by have:=HA.out;rwa [List.take_length] at this
    have HV:=Hd_ hallv
    clear hallv HA
    go_wp2_with fail
    go_loopw [25] (fun ii wr=>∃ (i:Nat) (u:World),i<=g.edges.length/\ii=.int .i64 i/\(List.range i).all (edAt g.vals.length g.edges)=true/\wr=ext (w.alloc (.cells #[.slice A1 g.vals.length c1,.slice A2 g.edges.length c2] 27)) u) (fun ii _=>g.edges.length - (intOf ii).toNat)
    case atStart=>exact ⟨0,_,Nat.zero_le _,rfl,rfl,ext_self _⟩
    case round =>
     obtain ⟨i,u,hi,rfl,hall,rfl⟩:=hrel
     have HA:=Hd_ hall
     clear hall
     by_cases hlt:i < g.edges.length
     · have hxi:g.edges[i]?=some g.edges[i]:=List.getElem?_eq_getElem hlt
       obtain ⟨b,o',rfl,-,hb1,hc⟩:=HX2.out i _ hxi
       generalize g.edges[i]=x at hc hxi
       have c0:=hc 0 _ rfl
       have c1':=hc 1 _ rfl
       have c2':=hc 2 _ rfl
       have c3:=hc 3 _ rfl
       simp only [Nat.add_zero] at c0
       have HX:=Hd_ hxi
       have hlen:g.vals.length<=9223372036854775807:=by omega
       clear hc hxi
       have hgr:grOk g=((List.range g.edges.length).all (edAt g.vals.length g.edges) && wi g.vals.length 1 5 && decide (g.edges.length<=12)):=by
        rw [grOk,HV.out];rfl
       have HGR:=Hd_ hgr
       clear hgr
       cases g4:edOk g.vals.length x with
       | false =>
         have hfin:grOk g=false:=by
          rw [HGR.out,range_all_false hlt (by rw [edAt,HX.out];simp [g4])]
          rfl
         have HF:=Hd_ hfin
         clear hfin
         go_wp2_with fail
         refine wp_region_ext_lit (by kernel_rfl) (by kernel_rfl) ?_
         repeat (go_big_quiet_step ((go_at_call 151;exact Calls.ext_of (edgeOk_any x g.vals.length _ hlen))))
         refine wpQuiet_nil ?_
         rintro _ ⟨u2,rfl⟩
         go_wp2_with fail
         go_ret
         exact ⟨by rw [HF.out];rfl,below_trans hb0 (below_trans (ext_below _ _) (below_trans ((Below.refl _ _).alloc (Nat.le_refl _) _) (ext_below _ _)))⟩
       | true =>
         have G4:=Hd_ g4
         have hbx:∀ o u2,∃ z,ext ((ext (w.alloc (.cells #[.slice A1 g.vals.length c1,.slice (some ⟨b,o',none⟩) g.edges.length c2] 27)) u).alloc o) u2=ext (w.alloc (.cells #[.slice A1 g.vals.length c1,.slice (some ⟨b,o',none⟩) g.edges.length c2] 27)) z :=
          fun o u2=>ext_of (below_trans (ext_below _ _) (below_trans ((Below.refl _ _).alloc (Nat.le_refl _) _) (ext_below _ _)))
         by_cases hi0:i=0
         · subst hi0
           have hat:edAt g.vals.length g.edges 0=true:=by rw [edAt,HX.out];simp [G4.out]
           have HAT:=Hd_ hat
           clear hat
           simp only [Nat.zero_mul,Nat.add_zero,Nat.zero_add] at c0 c1' c2' c3
           go_wp2_with fail
           refine wp_region_ext_lit (by kernel_rfl) (by kernel_rfl) ?_
           repeat (go_big_quiet_step ((go_at_call 151;exact Calls.ext_of (edgeOk_any x g.vals.length _ hlen))))
           refine wpQuiet_nil ?_
           rintro _ ⟨u2,rfl⟩
           go_wp2_with fail
           go_roundw
           case rel =>
            obtain ⟨z,hz⟩:=hbx _ u2
            exact ⟨1,z,by omega,by go_num,range_all_succ HA.out HAT.out,hz⟩
           case measure=>simp [intOf];omega
         · have hi1:0 < i:=by omega
           have hxj:g.edges[i - 1]?=some g.edges[i - 1]:=List.getElem?_eq_getElem (by omega)
           obtain ⟨b9,o9,ho9,-,-,hcj⟩:=HX2.out (i - 1) _ hxj
           obtain ⟨rfl,rfl⟩:b=b9/\o'=o9:=by injection ho9 with h1;injection h1 with h1 h2;exact ⟨h1,h2⟩
           generalize g.edges[i - 1]=p at hcj hxj
           have hb1':b < w.heap.size+1:=by omega
           have p0:=hcj 0 _ rfl
           simp only [Nat.add_zero] at p0
           have HXJ:=Hd_ hxj
           have hi00:((i:Int) > 0):=by omega
           clear hcj hxj ho9
           by_cases hlt2:p.1 < x.1
           · have hat:edAt g.vals.length g.edges i=true:=by rw [edAt,HX.out];simp [G4.out,HXJ.out,hlt2]
             have hge:decide (p.1 >= x.1)=false:=by simp;omega
             have HAT:=Hd_ hat
             clear hat
             go_wp2_with fail
             have q1:IntKind.i64.wrap ((i:Int) - 1)=(i:Int) - 1:=IntWalk.i64_in _ (by omega)
             have q2:0<=(i:Int) - 1:=by omega
             have q3:(i:Int) - 1 < (g.edges.length:Int):=by omega
             have q4:((i:Int) - 1).toNat=i - 1:=by omega
             refine wp_region_ext_lit (by kernel_rfl) (by kernel_rfl) ?_
             repeat (go_big_quiet_step ((go_at_call 151;exact Calls.ext_of (edgeOk_any x g.vals.length _ hlen))))
             refine wpQuiet_nil ?_
             rintro _ ⟨u2,rfl⟩
             clear q1 q2 q3 q4
             go_wp2_with fail
             go_roundw
             case rel =>
              obtain ⟨z,hz⟩:=hbx _ u2
              exact ⟨i+1,z,by omega,by go_num,range_all_succ HA.out HAT.out,hz⟩
             case measure=>simp [intOf];omega
           · have hfin:grOk g=false:=by
              rw [HGR.out,range_all_false hlt (by rw [edAt,HX.out];simp [G4.out,HXJ.out,hi0];omega)]
              rfl
             have hge:decide (p.1 >= x.1)=true:=by simp;omega
             have HF:=Hd_ hfin
             clear hfin
             go_wp2_with fail
             have q1:IntKind.i64.wrap ((i:Int) - 1)=(i:Int) - 1:=IntWalk.i64_in _ (by omega)
             have q2:0<=(i:Int) - 1:=by omega
             have q3:(i:Int) - 1 < (g.edges.length:Int):=by omega
             have q4:((i:Int) - 1).toNat=i - 1:=by omega
             refine wp_region_ext_lit (by kernel_rfl) (by kernel_rfl) ?_
             repeat (go_big_quiet_step ((go_at_call 151;exact Calls.ext_of (edgeOk_any x g.vals.length _ hlen))))
             refine wpQuiet_nil ?_
             rintro _ ⟨u2,rfl⟩
             clear q1 q2 q3 q4
             go_wp2_with fail
             go_ret
             exact ⟨by rw [HF.out];rfl,below_trans hb0 (below_trans (ext_below _ _) (below_trans ((Below.refl _ _).alloc (Nat.le_refl _) _) (ext_below _ _)))⟩
     · obtain rfl:i=g.edges.length:=by omega
       have hgr:grOk g=(wi g.vals.length 1 5 && decide (g.edges.length<=12)):=by
        rw [grOk,HV.out,HA.out];rfl
       have HGR:=Hd_ hgr
       clear hgr HA HV
       cases g5:wi g.vals.length 1 5 with
       | false =>
         rw [g5] at HGR
         go_wp2_with (go_at_call 45;refine (HW.out _ _ _ _).mono ?_;rintro e w' ⟨rfl,rfl⟩)
         go_ret
         exact ⟨by rw [HGR.out];rfl,below_trans hb0 (ext_below _ _)⟩
       | true =>
         rw [g5] at HGR
         have HG5:=Hd_ g5
         by_cases g6:g.edges.length<=12
         · have g6':decide ((g.edges.length:Int)<=12)=true:=by simp;omega
           have hfin:grOk g=true:=by rw [HGR.out];simp [g6]
           have HF:=Hd_ hfin
           clear hfin HGR
           go_wp2_with (go_at_call 45;refine (HW.out _ _ _ _).mono ?_;rintro e w' ⟨rfl,rfl⟩)
           go_ret
           exact ⟨by rw [HF.out];rfl,below_trans hb0 (ext_below _ _)⟩
         · have g6':decide ((g.edges.length:Int)<=12)=false:=by simp;omega
           have hfin:grOk g=false:=by rw [HGR.out];simp [g6]
           have HF:=Hd_ hfin
           clear hfin HGR
           go_wp2_with (go_at_call 45;refine (HW.out _ _ _ _).mono ?_;rintro e w' ⟨rfl,rfl⟩)
           go_ret
           exact ⟨by rw [HF.out];rfl,below_trans hb0 (ext_below _ _)⟩
/-- slices.IndexFunc over edges, at EdgeIndex's closure -/
theorem indexFuncEdge (k0:Value) (v:Value) (xs:List Ed) (p:Ed->Prop) (w:World) (hv:SlE w cEd 4 v xs)
 (hF:∀ x ∈ xs,∀ W:World,Below w.heap.size w W->Calls Tryz.prog 219 #[.agg #[.int .i64 x.1,.int .i64 x.2.1,.int .i64 x.2.2.1,.int .i64 x.2.2.2],k0] W fun e W'=>∃ b,e=.returned (.bool b)/\(b=true ↔ p x)/\Below W.heap.size W W') :
 Calls Tryz.prog 218 #[v,.func (Fn.func 219) #[] #[k0]] w fun e w'=>∃ r:Int,e=.returned (.int .i64 r)/\Below w.heap.size w w' /\
  ((r=-1/\∀ x ∈ xs,¬ p x) ∨ ∃ (i:Nat) (x:Ed),r=i/\xs[i]?=some x/\p x/\∀ y ∈ xs.take i,¬ p y):=by
 obtain ⟨A,c,rfl,hl,hm,hx⟩:=hv
 unfold maxLen at hm
 have HF:=Hd_ hF
 have HX:=Hd_ hx
 clear hF hx
 go_enter Tryz.func218,Tryz.ntmps218
 go_wp2_with fail
 go_loopw [8] (fun ii wr=>∃ (i:Nat) (u:World),i<=xs.length/\ii=.int .i64 i/\(∀ y ∈ xs.take i,¬ p y)/\wr=ext w u) (fun ii _=>xs.length - (intOf ii).toNat)
 case atStart=>exact ⟨0,w,Nat.zero_le _,rfl,by simp,ext_self w⟩
 case round =>
  obtain ⟨i,u,hi,rfl,hno,rfl⟩:=hrel
  have HN:=Hd_ hno
  clear hno
  by_cases hlt:i < xs.length
  · have hxi:xs[i]?=some xs[i]:=List.getElem?_eq_getElem hlt
    generalize xs[i]=x at hxi
    obtain ⟨b,o,rfl,-,hb,hc⟩:=HX.out i x hxi
    have c0:=hc 0 _ rfl
    have c1':=hc 1 _ rfl
    have c2':=hc 2 _ rfl
    have c3:=hc 3 _ rfl
    simp only [Nat.add_zero] at c0
    have HXI:=Hd_ hxi
    clear hc hxi
    go_wp2_with fail
    refine (HF.out x (List.mem_of_getElem? HXI.out) _ (ext_below w u)).mono ?_
    rintro e w1 ⟨bb,rfl,hbb,hb1⟩
    have HBB:=Hd_ hbb
    clear hbb
    cases bb with
    | true =>
      go_wp2_with fail
      go_ret
      exact ⟨_,rfl,below_trans (ext_below w u) hb1,.inr ⟨i,x,rfl,HXI.out,HBB.out.1 (by first | rfl | trivial),HN.out⟩⟩
    | false =>
      go_wp2_with fail
      go_roundw
      case rel =>
       obtain ⟨z,hz⟩:=ext_of (below_trans (ext_below w u) hb1)
       refine ⟨i+1,z,by omega,by go_num,fun y hy=>?_,hz⟩
       rw [take_snoc HXI.out] at hy
       rcases List.mem_append.1 hy with hy | hy
       · exact HN.out y hy
       · have:y=x:=by simpa using hy
         subst this
         exact fun h=>by have:=HBB.out.2 h;cases this
      case measure=>simp [intOf];omega
  · obtain rfl:i=xs.length:=by omega
    go_wp2_with fail
    go_ret
    exact ⟨_,rfl,ext_below w u,.inl ⟨rfl,fun x hx=>HN.out x (by rw [List.take_length];exact hx)⟩⟩
set_option maxHeartbeats 1000000 in
theorem implEdgeIndex (v:Value) (g:Gr) (id:Int) (w:World) (hv:GrV 0 w.heap.size w v g) :
 Calls Tryz.prog 192 #[v,.int .i64 id] w fun e w'=>e=.returned (.int .i64 (edgeIdx g id))/\Below w.heap.size w w':=by
 obtain ⟨vs,es,rfl,-,hes⟩:=hv
 have hb0:Below w.heap.size w ((w.alloc (.cells #[vs,es] 27)).alloc (.cells #[.int .i64 id] 3)):=((Below.refl _ _).alloc (Nat.le_refl _) _).alloc (by simp) _
 have b1:=Blk.new (w.alloc (.cells #[vs,es] 27)) 3 #[.int .i64 id] (w.heap.size+1) (by simp)
 go_enter Tryz.func192,Tryz.ntmps192
 go_wp2_with fail
 refine (indexFuncEdge _ es g.edges (fun e=>e.1=id) _ (SlE.keep hes hb0) (fun x hx W hW=>?_)).mono ?_
 · have b1':=b1.keep hW
   have y0:W.cell? ⟨w.heap.size+1,0,none⟩=some _:=b1'.cell 0
   have hlt:=b1'.lt
   clear hb0 b1 b1' hW
   obtain ⟨x1,x2,x3,x4⟩:=x
   go_enter Tryz.func219,Tryz.ntmps219
   go_wp2_with fail
   go_ret
   refine ⟨_,rfl,by simp,(Below.refl _ _).alloc (Nat.le_refl _) _⟩
 · rintro e w1 ⟨r,rfl,hb1,hr⟩
   have hfin:edgeIdx g id=r:=by
    rcases hr with ⟨rfl,h⟩ | ⟨i,x,rfl,hx,hp,hno⟩
    · exact edgeIdx_none h
    · exact edgeIdx_some hx hp hno
   subst hfin
   clear hr
   go_wp2_with fail
   go_ret
   exact ⟨rfl,below_trans hb0 hb1⟩
set_option maxHeartbeats 1000000 in
theorem bothOk_any (vg va lv:Value) (g:Gr) (a:Au) (ss:List Int) (w:World) (hg:GrV 0 w.heap.size w vg g) (ha:AuV 0 w.heap.size w va a) (hl:SlE w cI 1 lv ss) :
 Calls Tryz.prog 66 #[vg,va,lv] w fun e w'=>e=.returned (.bool (ss.all (fun s=>wi s 0 ((g.vals.length:Int) - 1)) && (grOk g && auOk a)))/\Below w.heap.size w w':=by
 have hg0:=hg
 have ha0:=ha
 obtain ⟨A1,c1,A2,c2,rfl,hl1,hm1,-,-,-,-⟩:=hg.form
 obtain ⟨A3,n3,c3,A4,n4,c4,rfl⟩:=ha.shape
 obtain ⟨A5,c5,rfl,hl5,hm5,hC5⟩:=hl.form
 have HG:=Hd_ hg0
 have HA:=Hd_ ha0
 have HC5:=Hd_ hC5
 have HW:=Hd_ within_any
 have hb0:Below w.heap.size w ((w.alloc (.cells #[.slice A1 g.vals.length c1,.slice A2 g.edges.length c2] 27)).alloc (.cells #[.int .i64 a.start,.slice A3 n3 c3,.slice A4 n4 c4] 31)):=((Below.refl _ _).alloc (Nat.le_refl _) _).alloc (by simp) _
 clear hg ha hl hg0 ha0 hC5
 go_enter Tryz.func66,Tryz.ntmps66
 go_wp2_with fail
 go_loop [11] (fun ii=>∃ i:Nat,i<=ss.length/\ii=.int .i64 i/\(ss.take i).all (fun s=>wi s 0 ((g.vals.length:Int) - 1))=true) (fun ii=>ss.length - (intOf ii).toNat)
 case atStart=>exact ⟨0,Nat.zero_le _,rfl,rfl⟩
 case round =>
  obtain ⟨i,hi,rfl,hall⟩:=hrel
  have HALL:=Hd_ hall
  clear hall
  by_cases hlt:i < ss.length
  · have hxi:ss[i]?=some ss[i]:=List.getElem?_eq_getElem hlt
    generalize ss[i]=s at hxi
    obtain ⟨b,o,rfl,hb1,c0⟩:=HC5.out.int hxi
    have HX:=Hd_ hxi
    clear hxi
    by_cases g4:wi s 0 ((g.vals.length:Int) - 1)=true
    · go_wp2_with (go_at_call 45;refine (HW.out _ _ _ _).mono ?_;rintro e w' ⟨rfl,rfl⟩)
      go_round
      case rel=>exact ⟨i+1,by omega,by go_num,all_take_succ HX.out HALL.out g4⟩
      case measure=>simp [intOf];omega
    · simp only [Bool.not_eq_true] at g4
      have hfin:ss.all (fun s=>wi s 0 ((g.vals.length:Int) - 1))=false:=all_false_of HX.out g4
      have HF:=Hd_ hfin
      clear hfin
      go_wp2_with (go_at_call 45;refine (HW.out _ _ _ _).mono ?_;rintro e w' ⟨rfl,rfl⟩)
      go_ret
      exact ⟨by rw [HF.out];rfl,hb0⟩
  · obtain rfl:i=ss.length:=by omega
    have hfin:ss.all (fun s=>wi s 0 ((g.vals.length:Int) - 1))=true:=by have:=HALL.out;rwa [List.take_length] at this
    have HF:=Hd_ hfin
    clear hfin
    go_wp2_with fail
    refine (implValidGraph _ g _ (HG.out.keep hb0)).mono ?_
    rintro e w1 ⟨he,hb1⟩
    obtain ⟨u1,rfl⟩:=ext_of hb1
    have hb2:=below_trans hb0 hb1
    clear hb1
    subst he
    cases hgo:grOk g with
    | false =>
      have HGO:=Hd_ hgo
      clear hgo
      go_wp2_with fail
      go_ret
      exact ⟨by rw [HF.out,HGO.out];rfl,hb2⟩
    | true =>
      have HGO:=Hd_ hgo
      clear hgo
      go_wp2_with fail
      refine (implValidAutomaton _ a _ (HA.out.keep hb2)).mono ?_
      rintro e w2 ⟨rfl,hb3⟩
      go_wp2_with fail
      go_ret
      exact ⟨by rw [HF.out,HGO.out];rfl,below_trans hb2 hb3⟩
end Go.Proofs.YtjpdembmchnbgaaGreat
namespace Go.Proofs.YtjpdembmchnbgaaGreat
/-- the arcs of all nodes by the first i edges -/
def rowsTo (g:Gr) (i:Nat):List (List Arc):=(List.range g.vals.length).map fun (x:Nat)=>(g.edges.take i).flatMap (arcE (x:Int))
theorem rowsTo_at {g:Gr} {i x:Nat} (h:x < g.vals.length):(rowsTo g i)[x]?=some ((g.edges.take i).flatMap (arcE (x:Int))):=by simp [rowsTo,h]
theorem rowsTo_len (g:Gr) (i:Nat):(rowsTo g i).length=g.vals.length:=by simp [rowsTo]
theorem rowsTo_zero (g:Gr):rowsTo g 0=List.replicate g.vals.length []:=by
 apply List.ext_getElem?
 intro x
 simp only [rowsTo,List.take_zero,List.flatMap_nil,List.getElem?_map,List.getElem?_replicate,List.getElem?_range]
 by_cases h:x < g.vals.length
 · simp [h]
 · simp [h]
def rowFrom (g:Gr) (i:Nat) (e:Ed):List (List Arc):=(rowsTo g i).set e.2.1.toNat ((g.edges.take i).flatMap (arcE e.2.1) ++ [((e.1,false),arcLetter false e,e.2.2.1)])
def rowBack (g:Gr) (i:Nat) (e:Ed):List Arc:=(g.edges.take i).flatMap (arcE e.2.2.1) ++ if e.2.1=e.2.2.1 then [((e.1,false),arcLetter false e,e.2.2.1)] else []
theorem rowFrom_at {g:Gr} {i:Nat} {e:Ed} (h0:0<=e.2.1) (hn:e.2.1<=(g.vals.length:Int) - 1) (h1:0<=e.2.2.1) (h2:e.2.2.1<=(g.vals.length:Int) - 1):(rowFrom g i e)[e.2.2.1.toNat]?=some (rowBack g i e):=by
 unfold rowFrom rowBack
 rw [List.getElem?_set]
 by_cases h:e.2.1=e.2.2.1
 · rw [if_pos (by rw [h]),if_pos (by rw [rowsTo_len];omega),if_pos h,h]
 · rw [if_neg (by omega),if_neg h,rowsTo_at (by omega),Int.toNat_of_nonneg h1];simp
theorem rowsTo_push {g:Gr} {i:Nat} {e:Ed} (he:g.edges[i]?=some e) (h0:0<=e.2.1) (hn:e.2.1<=(g.vals.length:Int) - 1) (h1:0<=e.2.2.1) (h2:e.2.2.1<=(g.vals.length:Int) - 1) :
 (rowFrom g i e).set e.2.2.1.toNat (rowBack g i e ++ [((e.1,true),arcLetter true e,e.2.1)])=rowsTo g (i+1):=by
 apply List.ext_getElem?
 intro x
 by_cases hx:x < g.vals.length
 · rw [rowsTo_at hx,flat_take he,List.getElem?_set]
   unfold rowFrom rowBack
   rw [List.length_set,rowsTo_len]
   by_cases hb:e.2.2.1=(x:Int)
   · rw [if_pos (by omega),if_pos (by omega)]
     congr 1
     rw [hb,List.append_assoc]
     congr 1
     unfold arcE arcLetter
     by_cases hf:e.2.1=(x:Int)
     · simp [hf,hb]
     · simp [hf,hb]
   · rw [if_neg (by omega),List.getElem?_set,rowsTo_len]
     by_cases hf:e.2.1=(x:Int)
     · rw [if_pos (by omega),if_pos (by omega)]
       congr 1
       rw [hf]
       congr 1
       unfold arcE arcLetter
       simp [hf,hb]
     · rw [if_neg (by omega),rowsTo_at hx]
       congr 1
       unfold arcE
       simp [hf,hb]
 · rw [List.getElem?_eq_none (by rw [List.length_set,rowFrom,List.length_set,rowsTo_len];omega),List.getElem?_eq_none (by rw [rowsTo_len];omega)]
theorem rowsTo_all (g:Gr):rowsTo g g.edges.length=(List.range g.vals.length).map fun (x:Nat)=>arcsOf g (x:Int):=by
 unfold rowsTo arcsOf
 rw [List.take_length]
end Go.Proofs.YtjpdembmchnbgaaGreat
