/- Parts of the proof, joined into one text: AnyB, DrwN, DrwA, PairD, AutI, SetI. -/
import Derived.Test.YtcnenpjaoalmeaaGreatOnlzFPECOPGN
import Derived.Test.YtcnenpjaoalmeaaGreatOnlzAPJMGHGH
import Derived.RegionTactic
import Derived.BigRegion
import Derived.Test.YtcnenpjaoalmeaaGreatOnlzNBNNNJPC
import Derived.Test.YtcnenpjaoalmeaaGreatOnlzFMIHCKLL
set_option linter.unusedVariables false
set_option linter.unusedSimpArgs false
namespace Go.Proofs.YtcnenpjaoalmeaaGreat
open Go.ChangeShapes Go.WideShapes Go.ChangeAt Go.RowKit
attribute [local go_sem] ext_cell ext_frozen ext_lt ext_lt1 ext_lt2 ext_lt3 ltn2 ltn3 ltn13 lts1 lts2 lts3
/-- all blocks of the automaton are as they were -/
theorem AuR.same {lo:Nat} {w w':World} {ac nx:Value} {us:List Value} {acc:List Bool} {nxt:List (List Int)} (h:AuR lo w ac nx us acc nxt) (hb:∀ b,(ac.ownBlock=some b ∨ b ∈ blks (nx :: us))->w'.heap[b]?=w.heap[b]?):AuR lo w' ac nx us acc nxt :=
 ⟨ownsRow_block h.acc fun g hg=>hb g (.inl hg),h.nxt.blocks fun b hm=>hb b (.inr hm),h.apart⟩
/-- an automaton that was drawn lies in the block q; the result's block r -/
structure AyR (b r q:Nat) (w0 w:World) (st:Int) (ac nx:Value) (us:List Value) (acc:List Bool) (nxt:List (List Int)):Prop where
 res:Blk w r 31 #[.int .i64 0,.slice none 0 0,.slice none 0 0]
 blk:Blk w q 31 #[.int .i64 st,ac,nx]
 au:AuR (r+1) w ac nx us acc nxt
 farq:ac.ownBlock ≠ some q/\q ∉ blks (nx :: us)
 cur:Cur w b
 frm:Only b (b+1) w0 w
 at0:w0.heap.size=r
 ord:b < r/\r < q
section
variable {b r q:Nat} {w0 w w':World} {st:Int} {ac nx:Value} {us:List Value} {acc:List Bool} {nxt:List (List Int)}
theorem AyR.step (a:AyR b r q w0 w st ac nx us acc nxt) (ho:Only b (b+1) w w') (hc:Cur w' b):AyR b r q w0 w' st ac nx us acc nxt:=by
 have hd:=a.ord
 exact ⟨a.res.only ho (.inr (by omega)),a.blk.only ho (.inr (by omega)),a.au.only ho (by omega),a.farq,hc,a.frm.trans ho,a.at0,hd⟩
theorem AyR.below (a:AyR b r q w0 w st ac nx us acc nxt) (hb:Below w.heap.size w w'):AyR b r q w0 w' st ac nx us acc nxt:=a.step (Only.of_below hb _ _) (a.cur.keep hb)
theorem AyR.setQ (a:AyR b r q w0 w st ac nx us acc nxt) (i:Nat) (u:Value):AuR (r+1) (w.setCell ⟨q,i,none⟩ u) ac nx us acc nxt :=
 a.au.same fun g hg=>Below.heap_setCell w ⟨q,i,none⟩ _ g (fun e=>by subst e;exact hg.elim a.farq.1 a.farq.2)
theorem any_done {v x y z:Value} {m:Au} (h:AuV (r+1) w.heap.size w v m) (hc:Cur w b) (ho:Only b (b+1) w0 w) (hr:w0.heap.size=r) (hb:b < r) :
 AuV w0.heap.size (put3 w r x y z).heap.size (put3 w r x y z) v m/\Cur (put3 w r x y z) b/\Only b (b+1) w0 (put3 w r x y z):=by
 have hp:=put3_only w r x y z
 exact ⟨(h.only hp (Nat.le_refl _) (.inr (Nat.le_refl _))).mono (by omega) hp.size,hc.only hp (by omega),((ho.setCell (p:=⟨r,0,none⟩) (.inr (by simp only;omega)) _).setCell (p:=⟨r,1,none⟩) (.inr (by simp only;omega)) _).setCell (p:=⟨r,2,none⟩) (.inr (by simp only;omega)) _⟩
end
def AnyOut (b:Nat) (w:World) (e:Ending) (w':World):Prop:=∃ v m,e=.returned v/\(AuV w.heap.size w'.heap.size w' v m/\Cur w' b/\Only b (b+1) w w')
set_option maxHeartbeats 8000000 in
theorem l11Any_any (b:Nat) (w:World) (hc:Cur w b) :
 Calls Tryz.prog 98 #[.pointer (some ⟨b,0,none⟩)] w (AnyOut b w):=by
 have hbw:=hc.lt
 have hb0:=(Below.refl w.heap.size w).alloc (Nat.le_refl _) (.cells #[.int .i64 0,.slice none 0 0,.slice none 0 0] 31)
 have hbr:=Blk.new w 31 #[.int .i64 0,.slice none 0 0,.slice none 0 0] _ rfl
 have hs0:(w.alloc (.cells #[.int .i64 0,.slice none 0 0,.slice none 0 0] 31)).heap.size=w.heap.size+1:=by simp
 go_enter Tryz.func98,Tryz.ntmps98
 go_wp2_with fail
 generalize w.alloc (.cells #[.int .i64 0,.slice none 0 0,.slice none 0 0] 31)=W0 at *
 refine (l11Aut_any b _ (hc.keep hb0)).mono ?_
 rintro e w1 ⟨⟨st,ac,nx,us,acc,nxt,rfl,hau,hnn,ho1⟩,hc1⟩
 rw [hs0] at hau
 obtain ⟨A1,c1,rfl,-,-,-⟩:=ownSh hau.acc
 obtain ⟨A2,c2,rfl,-,-,hA2⟩:=ownSh hau.nxt.own
 obtain ⟨q,hq⟩:∃ q,q=w1.heap.size:=⟨_,rfl⟩
 have hz1:=ho1.size
 have hal:=(Below.refl w1.heap.size w1).alloc (Nat.le_refl _) (.cells #[.int .i64 st,.slice A1 acc.length c1,.slice A2 us.length c2] 31)
 have hlen:=hau.nxt.len
 have HA0:=Hd_ (show AyR b w.heap.size q w (w1.alloc (.cells #[.int .i64 st,.slice A1 acc.length c1,.slice A2 us.length c2] 31)) st _ _ us acc nxt from
  ⟨(hbr.only ho1 (.inr (by omega))).keep hal,Blk.new w1 _ _ _ hq,hau.below hal,⟨fun e=>by have:=(hau.acc.lt _ e).2;omega,fun e=>by have:=(hau.nxt.lt _ e).2;omega⟩,hc1.keep hal,((Only.of_below hb0 b (b+1)).trans ho1).trans (Only.of_below hal b (b+1)),rfl,by omega⟩)
 have hqr:w.heap.size < q:=by omega
 have HNN:=Hd_ hnn
 have HLEN:=Hd_ hlen
 have hup:0 < us.length:=by omega
 have haccl:acc.length<=100:=by omega
 clear hal hau hc1 ho1 hbr hb0 hs0 hz1 hnn hlen hc
 go_upto_region 2 with fail
 rw [<- hq]
 generalize w1.alloc (.cells #[.int .i64 st,.slice A1 acc.length c1,.slice A2 us.length c2] 31)=W1 at *
 clear hq
 go_wp2_with fail
 refine (l1Below_any b 14 _ HA0.out.cur).mono ?_
 rintro e w2 ⟨t,rfl,-,hc2,ho2⟩
 have HA:=Hd_ (HA0.out.step ho2 hc2)
 clear HA0 ho2 hc2
 have hlq:=HA.out.blk.lt
 have hlr0:=HA.out.res.lt
 by_cases ht0:t=0
 · subst ht0
   have HSL:=Hd_ (litD_sl w2 3 #[.int .i64 (-1),.int .i64 12,.int .i64 1] [-1,12,1] 3 (b+1) (by omega) (by decide) rfl rfl rfl)
   have HAL:=Hd_ ((Below.refl w2.heap.size w2).alloc (Nat.le_refl _) (.cells #[.int .i64 (-1),.int .i64 12,.int .i64 1] 3))
   go_wp2_with fail
   refine (l1PickInt_any b _ _ _ (HA.out.cur.keep HAL.out) (by decide) HSL.out).mono ?_
   rintro e w3 ⟨u,rfl,-,hc3,ho3⟩
   have HA3:=Hd_ ((HA.out.below HAL.out).step ho3 hc3)
   clear hc3 ho3 HSL HAL HA
   have x0:w3.cell? ⟨q,0,none⟩=some (.int .i64 st):=HA3.out.blk.cell 0
   have f0:=HA3.out.blk.frozen 0
   have hlq3:=HA3.out.blk.lt
   go_upto_region 11 with fail
   have HV:=Hd_ ((HA3.out.setQ 0 (.int .i64 u)).view u)
   have HBQ:=Hd_ (HA3.out.blk.set_ 0 (.int .i64 u))
   have HBR:=Hd_ (HA3.out.res.far (p:=⟨q,0,none⟩) (by simp only;omega) (.int .i64 u))
   have HCU:=Hd_ (HA3.out.cur.set (p:=⟨q,0,none⟩) (by simp only;omega) (.int .i64 u))
   have HFR:=Hd_ (HA3.out.frm.setCell (p:=⟨q,0,none⟩) (.inr (by simp only;omega)) (.int .i64 u))
   generalize w3.setCell ⟨q,0,none⟩ (.int .i64 u)=w4 at *
   clear x0 f0 hlq3 HA3 hlr0 hlq
   have x0:w4.cell? ⟨q,0,none⟩=some (.int .i64 (u)):=HBQ.out.cell 0
   have x1:w4.cell? ⟨q,1,none⟩=some (.slice A1 acc.length c1):=HBQ.out.cell 1
   have x2:w4.cell? ⟨q,2,none⟩=some (.slice A2 us.length c2):=HBQ.out.cell 2
   have z0:w4.cell? ⟨w.heap.size,0,none⟩=some (.int .i64 0):=HBR.out.cell 0
   have z1:w4.cell? ⟨w.heap.size,1,none⟩=some (.slice none 0 0):=HBR.out.cell 1
   have z2:w4.cell? ⟨w.heap.size,2,none⟩=some (.slice none 0 0):=HBR.out.cell 2
   have v0:=HBR.out.frozen 0
   have v1:=HBR.out.frozen 1
   have v2:=HBR.out.frozen 2
   have hlr:=HBR.out.lt
   have q1:¬ q=w.heap.size:=by omega
   have q2:¬ w.heap.size=q:=by omega
   go_wp2_with fail
   exact bodyPost_ret (v:=.agg #[.int .i64 (u),.slice A1 acc.length c1,.slice A2 us.length c2]) (by simp [results,Tryz.results98,go_sem,z0,z1,z2,v0,v1,v2,hlr]) rfl ⟨_,_,rfl,any_done HV.out HCU.out HFR.out rfl hbw⟩
 have hd0:(t==0)=false:=by simpa using ht0
 by_cases ht1:t=1
 · subst ht1
   have x1:w2.cell? ⟨q,1,none⟩=some (.slice A1 acc.length c1):=HA.out.blk.cell 1
   go_upto_region 11 with (at_builtin;(refine wpList_append2 cB elBool rfl _ _ (by rfl) (w.heap.size+1) _ acc true 1 _ (by rfl) (HA.out.au.acc.alloc _) (by rfl) (heap_alloc_new _ _) rfl (cB_one _) (by omega) (by omega) (by simp;omega) ?_);intro g2 cp2 w9 hown3 hgr3 hat3 hlt3;have hal:=(Below.refl w2.heap.size w2).alloc (Nat.le_refl _) (.cells #[.bool true] 4);have HA9:=Hd_ ((HA.out.au.below hal).pushA hgr3 hown3 (fun k hk=>by cases hk;exact hat3));have hob:=own_below (HA.out.au.acc.alloc (.cells #[.bool true] 4)) (by simp;omega) hgr3;have HBQ9:=Hd_ (show Blk w9 q _ _ from (hgr3.block q (by simp;omega) (fun e=>HA.out.farq.1 e.symm)).trans (HA.out.blk.keep hal));have HBR9:=Hd_ ((HA.out.res.keep hal).below hob (by omega));have HCU9:=Hd_ ((HA.out.cur.keep hal).below hob (by omega));have HFR9:=Hd_ ((HA.out.frm.alloc (.cells #[.bool true] 4)).andBelow hob (by omega));have HG9:=Hd_ (show g2 ≠ q from fun e=>by subst e;exact hat3.elim HA.out.farq.1 (fun e=>by simp at e;omega));have y1:w9.cell? ⟨q,1,none⟩=some (.slice A1 acc.length c1):=HBQ9.out.cell 1;have f1:=HBQ9.out.frozen 1;have hl9:=HBQ9.out.lt;clear hown3 hgr3 hat3 hal hob)
   have HV:=Hd_ ((HA9.out.same (w':=w9.setCell ⟨q,1,none⟩ (.slice (some ⟨g2,0,none⟩) (acc.length+1) cp2)) (fun g hg=>Below.heap_setCell w9 ⟨q,1,none⟩ _ g (fun e=>by subst e;exact hg.elim (fun e=>HG9.out (by cases e;rfl)) HA.out.farq.2))).view st)
   have HBQ:=Hd_ (HBQ9.out.set_ 1 (.slice (some ⟨g2,0,none⟩) (acc.length+1) cp2))
   have HBR:=Hd_ (HBR9.out.far (p:=⟨q,1,none⟩) (by simp only;omega) (.slice (some ⟨g2,0,none⟩) (acc.length+1) cp2))
   have HCU:=Hd_ (HCU9.out.set (p:=⟨q,1,none⟩) (by simp only;omega) (.slice (some ⟨g2,0,none⟩) (acc.length+1) cp2))
   have HFR:=Hd_ (HFR9.out.setCell (p:=⟨q,1,none⟩) (.inr (by simp only;omega)) (.slice (some ⟨g2,0,none⟩) (acc.length+1) cp2))
   generalize w9.setCell ⟨q,1,none⟩ (.slice (some ⟨g2,0,none⟩) (acc.length+1) cp2)=w4 at *
   clear y1 f1 hl9 x1 HA9 hlr0 hlq HBQ9 HBR9 HCU9 HFR9
   have x0:w4.cell? ⟨q,0,none⟩=some (.int .i64 (st)):=HBQ.out.cell 0
   have x1:w4.cell? ⟨q,1,none⟩=some (.slice (some ⟨g2,0,none⟩) (acc.length+1) cp2):=HBQ.out.cell 1
   have x2:w4.cell? ⟨q,2,none⟩=some (.slice A2 us.length c2):=HBQ.out.cell 2
   have z0:w4.cell? ⟨w.heap.size,0,none⟩=some (.int .i64 0):=HBR.out.cell 0
   have z1:w4.cell? ⟨w.heap.size,1,none⟩=some (.slice none 0 0):=HBR.out.cell 1
   have z2:w4.cell? ⟨w.heap.size,2,none⟩=some (.slice none 0 0):=HBR.out.cell 2
   have v0:=HBR.out.frozen 0
   have v1:=HBR.out.frozen 1
   have v2:=HBR.out.frozen 2
   have hlr:=HBR.out.lt
   have q1:¬ q=w.heap.size:=by omega
   have q2:¬ w.heap.size=q:=by omega
   go_wp2_with fail
   exact bodyPost_ret (v:=.agg #[.int .i64 (st),.slice (some ⟨g2,0,none⟩) (acc.length+1) cp2,.slice A2 us.length c2]) (by simp [results,Tryz.results98,go_sem,z0,z1,z2,v0,v1,v2,hlr]) rfl ⟨_,_,rfl,any_done HV.out HCU.out HFR.out rfl hbw⟩
 have hd1:(t==1)=false:=by simpa using ht1
 obtain ⟨gN,rfl⟩:=hA2 hup
 obtain ⟨u0,us',rfl⟩:∃ u0 us',us=u0 :: us':=by
  cases us with
  | nil=>simp at hup
  | cons u us=>exact ⟨u,us,rfl⟩
 obtain ⟨x0s,nxt',rfl⟩:∃ x0s nxt',nxt=x0s :: nxt':=by
  cases nxt with
  | nil=>have:=HNN.out.2.1;simp at this
  | cons x xs=>exact ⟨x,xs,rfl⟩
 have hrow0:=HA.out.au.nxt.rows 0 u0 x0s rfl rfl
 have h9:x0s.length=9:=HNN.out.2.2.2 x0s (by simp)
 rw [h9] at hrow0
 obtain ⟨A0,c0,rfl,hc90,-,hA0⟩:=ownSh hrow0
 obtain ⟨g0,rfl⟩:=hA0 (by omega)
 have n0:w2.cell? ⟨gN,0,none⟩=some (.slice (some ⟨g0,0,none⟩) 9 c0):=World.ownsRow.cellAt HA.out.au.nxt.own 0 (by simp)
 have x2:w2.cell? ⟨q,2,none⟩=some (.slice (some ⟨gN,0,none⟩) (us'.length+1) c2):=HA.out.blk.cell 2
 have HROW0:=Hd_ hrow0
 have H9:=Hd_ h9
 have hgNl:=(HA.out.au.nxt.own.lt gN rfl)
 have hg0l:=hrow0.lt g0 rfl
 have hun:0 < us'.length+1:=by omega
 clear hrow0 h9 hup
 by_cases ht2:t=2
 · subst ht2
   go_wp2_with fail
   refine F_start 7 (fun w'=>w'.cell? ⟨q,2,none⟩=some (.slice (some ⟨gN,0,none⟩) (us'.length+1) c2)/\w'.cell? ⟨gN,0,none⟩=some (.slice (some ⟨g0,0,none⟩) 9 c0)) (by kernel_rfl) (by exact ⟨x2,n0⟩) (fun hS inv=>?_)
   refine F_tk 0 inv ?_
   try simp only [tA,tB,tC,Act.put,tE,tF,tG]
   clear inv;intro inv
   refine F_tk 1 inv ?_
   try simp only [tA,tB,tC,Act.put,tE,tF,tG]
   clear inv;intro inv
   refine F_tk 2 inv ?_
   try simp only [tA,tB,tC,Act.put,tE,tF,tG]
   clear inv;intro inv
   refine F_tk 3 inv ?_
   try simp only [tA,tB,tC,Act.put,tE,tF,tG]
   clear inv;intro inv
   refine F_tk 4 inv ?_
   try simp only [tA,tB,tC,Act.put,tE,tF,tG]
   clear inv;intro inv
   refine F_o1 5 inv ?_;intro K hK
   try simp only [tA,tB,tC]
   go_simp
   have hal:=((Below.refl w2.heap.size w2).alloc (Nat.le_refl _) (.cells #[.int .i64 (-2),.int .i64 12,.int .i64 0] 3)).drew
   have HA3:=Hd_ (HA.out.below hal)
   have HL3:=Hd_ (show SlI (b+1) (w2.alloc (.cells #[.int .i64 (-2),.int .i64 12,.int .i64 0] 3)).drew.heap.size (w2.alloc (.cells #[.int .i64 (-2),.int .i64 12,.int .i64 0] 3)).drew cI 1 _ _ from litD_sl w2 3 #[.int .i64 (-2),.int .i64 12,.int .i64 0] [-2,12,0] 3 (b+1) (by omega) (by decide) rfl rfl rfl)
   refine hK.out _ _ (kB2 hal hS) (fun _ _=>?_)
   try simp only [tA,tB,tC,Act.put,tE,tF,tG]
   clear hK K inv hS;rename_i hS inv
   clear hal
   refine F_o1 6 inv ?_;intro K hK
   try simp only [tA,tB,tC]
   go_simp
   refine (l1PickInt_any b _ _ _ HA3.out.cur (by decide) HL3.out).mono ?_
   rintro e w3 ⟨u,rfl,-,hc3,ho3⟩
   have HA4:=Hd_ (HA3.out.step ho3 hc3)
   have hrow4:=HA4.out.au.nxt.rows 0 _ x0s rfl rfl
   rw [H9.out] at hrow4
   have hz4:=ho3.size
   refine hK.out _ _ (⟨HA4.out.blk.cell 2,World.ownsRow.cellAt HA4.out.au.nxt.own 0 (by simp)⟩) (fun _ _=>?_)
   try simp only [tA,tB,tC,Act.put,tE,tF,tG]
   clear hK K inv hS;rename_i hS inv
   clear HA3 HL3 hc3 ho3 x2 n0
   have fz0:=World.ownsRow.frozenAt hrow4 0
   have cz0:=World.ownsRow.cellAt hrow4 0 (by omega)
   obtain ⟨y0,hy0⟩:∃ y,x0s[0]?=some y:=⟨_,List.getElem?_eq_getElem (by have:=H9.out;omega)⟩
   rw [show (x0s.flatMap cI)[0]?=some (.int .i64 y0) by have:=flat_at (E:=cI) (k:=1) cI_len hy0 0 _ rfl;simpa using this] at cz0
   have hst:=(World.ownsRow.stored hrow4 0 (.int .i64 u)).1
   rw [flatI_set] at hst
   have hlg:=(hrow4.lt g0 rfl).2
   have HST:=Hd_ hst
   clear hrow4 hst hy0
   refine F_tail (i:=7) (by kernel_rfl) rfl rfl (by omega) (fun K hK=>?_)
   try simp only [tA,tB,tC]
   go_simp
   refine hK.out _ _ ?_
   try simp only [tA,tB,tC,Act.put,tE,tF,tG]
   clear hK K
   try clear inv hS
   refine F_l1 8 ?_;intro K hK
   go_simp
   refine hK _ _ ?_
   clear hK K
   have hns:=HA4.out.au.nxt.turn (i:=0) (u:=.slice (some ⟨g0,0,none⟩) 9 c0) (xs':=x0s.set 0 u) (w':=w3.setCell ⟨g0,0,none⟩ (.int .i64 u)) rfl (by rw [List.length_set,H9.out];exact HST.out) (fun k _ hk=>Below.heap_setCell w3 ⟨g0,0,none⟩ _ k (fun e=>hk (by rw [e];rfl)))
   have h0m:g0 ∈ blks (Value.slice (some ⟨gN,0,none⟩) (us'.length+1) c2 :: .slice (some ⟨g0,0,none⟩) 9 c0 :: us'):=mem_blks.2 ⟨1,_,rfl,rfl⟩
   have hau:AuR (w.heap.size+1) (w3.setCell ⟨g0,0,none⟩ (.int .i64 u)) (.slice A1 acc.length c1) (.slice (some ⟨gN,0,none⟩) (us'.length+1) c2) (.slice (some ⟨g0,0,none⟩) 9 c0 :: us') acc ((x0s :: nxt').set 0 (x0s.set 0 u)) :=
    ⟨ownsRow_block HA4.out.au.acc fun k hk=>Below.heap_setCell w3 ⟨g0,0,none⟩ _ k (fun e=>HA4.out.au.apart k hk (by rw [e];exact h0m)),hns,HA4.out.au.apart⟩
   have hg0q:q ≠ g0:=fun e=>HA4.out.farq.2 (by rw [e];exact h0m)
   have hg0r:w.heap.size < g0:=by omega
   have HV:=Hd_ (hau.view st)
   have HBQ:=Hd_ (HA4.out.blk.far (p:=⟨g0,0,none⟩) (by simpa using hg0q) (.int .i64 u))
   have HBR:=Hd_ (HA4.out.res.far (p:=⟨g0,0,none⟩) (by simp only;omega) (.int .i64 u))
   have HCU:=Hd_ (HA4.out.cur.set (p:=⟨g0,0,none⟩) (by simp only;omega) (.int .i64 u))
   have HFR:=Hd_ (HA4.out.frm.setCell (p:=⟨g0,0,none⟩) (.inr (by simp only;omega)) (.int .i64 u))
   generalize w3.setCell ⟨g0,0,none⟩ (.int .i64 u)=w4 at *
   clear hns hau fz0 cz0 HA4 HA hlr0 hlq h0m hg0q HST hlg
   have x0:w4.cell? ⟨q,0,none⟩=some (.int .i64 (st)):=HBQ.out.cell 0
   have x1:w4.cell? ⟨q,1,none⟩=some (.slice A1 acc.length c1):=HBQ.out.cell 1
   have x2:w4.cell? ⟨q,2,none⟩=some (.slice (some ⟨gN,0,none⟩) (us'.length+1) c2):=HBQ.out.cell 2
   have z0:w4.cell? ⟨w.heap.size,0,none⟩=some (.int .i64 0):=HBR.out.cell 0
   have z1:w4.cell? ⟨w.heap.size,1,none⟩=some (.slice none 0 0):=HBR.out.cell 1
   have z2:w4.cell? ⟨w.heap.size,2,none⟩=some (.slice none 0 0):=HBR.out.cell 2
   have v0:=HBR.out.frozen 0
   have v1:=HBR.out.frozen 1
   have v2:=HBR.out.frozen 2
   have hlr:=HBR.out.lt
   have q1:¬ q=w.heap.size:=by omega
   have q2:¬ w.heap.size=q:=by omega
   go_wp2_with fail
   exact bodyPost_ret (v:=.agg #[.int .i64 (st),.slice A1 acc.length c1,.slice (some ⟨gN,0,none⟩) (us'.length+1) c2]) (by simp [results,Tryz.results98,go_sem,z0,z1,z2,v0,v1,v2,hlr]) rfl ⟨_,_,rfl,any_done HV.out HCU.out HFR.out rfl hbw⟩
 have hd2:(t==2)=false:=by simpa using ht2
 by_cases ht3:t=3
 · subst ht3
   have fN:=World.ownsRow.frozenAt HA.out.au.nxt.own 0
   have hc8:8<=c0:=by omega
   have hlN:=hgNl.2
   go_wp2_with fail
   go_region
   have hst:=(World.ownsRow.stored HA.out.au.nxt.own 0 (.slice (some ⟨g0,0,none⟩) 8 c0)).1
   have hfs:((Value.slice (some ⟨g0,0,none⟩) 9 c0 :: us').flatMap cV).set 0 (.slice (some ⟨g0,0,none⟩) 8 c0)=(Value.slice (some ⟨g0,0,none⟩) 8 c0 :: us').flatMap cV:=rfl
   rw [hfs] at hst
   have hNm:gN ∈ blks (Value.slice (some ⟨gN,0,none⟩) (us'.length+1) c2 :: .slice (some ⟨g0,0,none⟩) 9 c0 :: us'):=mem_blks.2 ⟨0,_,rfl,rfl⟩
   have hdis:=HA.out.au.nxt.dis
   have hau:AuV (w.heap.size+1) (w2.setCell ⟨gN,0,none⟩ (.slice (some ⟨g0,0,none⟩) 8 c0)).heap.size (w2.setCell ⟨gN,0,none⟩ (.slice (some ⟨g0,0,none⟩) 8 c0)) (.agg #[.int .i64 st,.slice A1 acc.length c1,.slice (some ⟨gN,0,none⟩) (us'.length+1) c2]) ⟨st,acc,x0s.take 8 :: nxt'⟩:=by
    refine ⟨_,_,rfl,(Own.of_row (xs:=acc) (ownsRow_block HA.out.au.acc fun k hk=>Below.heap_setCell w2 ⟨gN,0,none⟩ _ k (fun e=>HA.out.au.apart k hk (by rw [e];exact hNm))) rfl rfl).sl cB_len,Value.slice (some ⟨g0,0,none⟩) 8 c0 :: us',(Own.of_row (xs:=Value.slice (some ⟨g0,0,none⟩) 8 c0 :: us') hst rfl rfl).sl cV_len,by have:=HA.out.au.nxt.len;simpa using this,fun i u xs hu hx=>?_⟩
    have hkeep:∀ (u:Value) (xs:List Int),(u ∈ (Value.slice (some ⟨g0,0,none⟩) 9 c0 :: us'))->w2.ownsRow (w.heap.size+1) 3 1 u xs.length (xs.flatMap cI)->(w2.setCell ⟨gN,0,none⟩ (.slice (some ⟨g0,0,none⟩) 8 c0)).ownsRow (w.heap.size+1) 3 1 u xs.length (xs.flatMap cI):=fun u xs hm h =>
     ownsRow_block h fun k hk=>Below.heap_setCell w2 ⟨gN,0,none⟩ _ k (fun e=>by
      obtain ⟨i,hi,hie⟩:=List.getElem_of_mem hm
      have h2:(Value.slice (some ⟨gN,0,none⟩) (us'.length+1) c2 :: .slice (some ⟨g0,0,none⟩) 9 c0 :: us')[i+1]?=some u:=by rw [List.getElem?_cons_succ,List.getElem?_eq_getElem hi,hie]
      have:=filterMap_inj (i:=0) (j:=i+1) hdis rfl h2 (b:=gN) rfl (by rw [hk,e])
      omega)
    cases i with
    | zero =>
      simp only [List.getElem?_cons_zero,Option.some.injEq] at hu hx
      subst hu hx
      have h:=hkeep _ x0s (by simp) (HA.out.au.nxt.rows 0 _ x0s rfl rfl)
      have h2:=(Own.of_row (xs:=x0s) h rfl rfl).sl cI_len
      exact SlI.headT (m:=8) (ys:=x0s.drop 8) (by rw [List.take_append_drop];exact h2) (by rw [List.length_take];have:=H9.out;omega)
    | succ i =>
      rw [List.getElem?_cons_succ] at hu hx
      exact (Own.of_row (xs:=xs) (hkeep u xs (List.mem_cons_of_mem _ (List.mem_of_getElem? hu)) (HA.out.au.nxt.rows (i+1) u xs (by simpa using hu) (by simpa using hx))) rfl rfl).sl cI_len
   have hgNq:q ≠ gN:=fun e=>HA.out.farq.2 (by rw [e];exact hNm)
   have hgNr:w.heap.size < gN:=by omega
   have HV:=Hd_ (show AuV (w.heap.size+1) (w2.setCell ⟨gN,0,none⟩ (.slice (some ⟨g0,0,none⟩) 8 c0)).drew.heap.size (w2.setCell ⟨gN,0,none⟩ (.slice (some ⟨g0,0,none⟩) 8 c0)).drew _ _ from hau)
   have HBQ:=Hd_ ((HA.out.blk.far (p:=⟨gN,0,none⟩) (by simpa using hgNq) (.slice (some ⟨g0,0,none⟩) 8 c0)).drew)
   have HBR:=Hd_ ((HA.out.res.far (p:=⟨gN,0,none⟩) (by simp only;omega) (.slice (some ⟨g0,0,none⟩) 8 c0)).drew)
   have HCU:=Hd_ ((HA.out.cur.set (p:=⟨gN,0,none⟩) (by simp only;omega) (.slice (some ⟨g0,0,none⟩) 8 c0)).keep ((Below.refl _ _).drew))
   have HFR:=Hd_ ((HA.out.frm.setCell (p:=⟨gN,0,none⟩) (.inr (by simp only;omega)) (.slice (some ⟨g0,0,none⟩) 8 c0)).drew)
   generalize (w2.setCell ⟨gN,0,none⟩ (.slice (some ⟨g0,0,none⟩) 8 c0)).drew=w4 at *
   clear hau hst hfs hNm hdis hgNq fN n0 x2 hlr0 hlq HA hlN
   have x0:w4.cell? ⟨q,0,none⟩=some (.int .i64 (st)):=HBQ.out.cell 0
   have x1:w4.cell? ⟨q,1,none⟩=some (.slice A1 acc.length c1):=HBQ.out.cell 1
   have x2:w4.cell? ⟨q,2,none⟩=some (.slice (some ⟨gN,0,none⟩) (us'.length+1) c2):=HBQ.out.cell 2
   have z0:w4.cell? ⟨w.heap.size,0,none⟩=some (.int .i64 0):=HBR.out.cell 0
   have z1:w4.cell? ⟨w.heap.size,1,none⟩=some (.slice none 0 0):=HBR.out.cell 1
   have z2:w4.cell? ⟨w.heap.size,2,none⟩=some (.slice none 0 0):=HBR.out.cell 2
   have v0:=HBR.out.frozen 0
   have v1:=HBR.out.frozen 1
   have v2:=HBR.out.frozen 2
   have hlr:=HBR.out.lt
   have q1:¬ q=w.heap.size:=by omega
   have q2:¬ w.heap.size=q:=by omega
   go_wp2_with fail
   exact bodyPost_ret (v:=.agg #[.int .i64 (st),.slice A1 acc.length c1,.slice (some ⟨gN,0,none⟩) (us'.length+1) c2]) (by simp [results,Tryz.results98,go_sem,z0,z1,z2,v0,v1,v2,hlr]) rfl ⟨_,_,rfl,any_done HV.out HCU.out HFR.out rfl hbw⟩
 · have hd3:(t==3)=false:=by simpa using ht3
   have HV:=Hd_ (HA.out.au.view st)
   clear n0 x2 hlr0
   have x0:w2.cell? ⟨q,0,none⟩=some (.int .i64 (st)):=HA.out.blk.cell 0
   have x1:w2.cell? ⟨q,1,none⟩=some (.slice A1 acc.length c1):=HA.out.blk.cell 1
   have x2:w2.cell? ⟨q,2,none⟩=some (.slice (some ⟨gN,0,none⟩) (us'.length+1) c2):=HA.out.blk.cell 2
   have z0:w2.cell? ⟨w.heap.size,0,none⟩=some (.int .i64 0):=HA.out.res.cell 0
   have z1:w2.cell? ⟨w.heap.size,1,none⟩=some (.slice none 0 0):=HA.out.res.cell 1
   have z2:w2.cell? ⟨w.heap.size,2,none⟩=some (.slice none 0 0):=HA.out.res.cell 2
   have v0:=HA.out.res.frozen 0
   have v1:=HA.out.res.frozen 1
   have v2:=HA.out.res.frozen 2
   have hlr:=HA.out.res.lt
   have q1:¬ q=w.heap.size:=by omega
   have q2:¬ w.heap.size=q:=by omega
   go_wp2_with fail
   exact bodyPost_ret (v:=.agg #[.int .i64 (st),.slice A1 acc.length c1,.slice (some ⟨gN,0,none⟩) (us'.length+1) c2]) (by simp [results,Tryz.results98,go_sem,z0,z1,z2,v0,v1,v2,hlr]) rfl ⟨_,_,rfl,any_done HV.out HA.out.cur HA.out.frm rfl hbw⟩
set_option maxHeartbeats 1000000 in
theorem l4Node_any (b:Nat) (A1 A2:Option Addr) (n1 c1 n2 c2:Nat) (w:World) (hc:Cur w b) (hn:n1<=maxLen) :
 Calls Tryz.prog 66 #[.pointer (some ⟨b,0,none⟩),.agg #[.slice A1 n1 c1,.slice A2 n2 c2]] w fun e w'=>∃ r:Int,e=.returned (.int .i64 r)/\Cur w' b/\Only b (b+1) w w':=by
 unfold maxLen at hn
 have hlt:=hc.lt
 have hal:=(Below.refl w.heap.size w).alloc (Nat.le_refl _) (.cells #[.slice A1 n1 c1,.slice A2 n2 c2] 27)
 have hbk:=Blk.new w 27 #[.slice A1 n1 c1,.slice A2 n2 c2] _ rfl
 go_enter Tryz.func66,Tryz.ntmps66
 go_wp2_with fail
 refine (l1Once_any b 14 _ (hc.keep hal)).mono ?_
 rintro e w1 ⟨r,rfl,hc1,ho1⟩
 have hbk1:=hbk.only ho1 (.inr (by omega))
 have x0:w1.cell? ⟨w.heap.size,0,none⟩=some (.slice A1 n1 c1):=hbk1.cell 0
 have l0:=hbk1.lt
 have ho1:=(Only.of_below hal b (b+1)).trans ho1
 have HO:=Hd_ ho1
 clear ho1 hbk hbk1 hal
 cases r
 · go_wp2_with fail
   all_goals
    refine (l1Below_any b _ _ hc1).mono ?_
    rintro e w2 ⟨r,rfl,-,hc2,ho2⟩
    go_wp2_with fail
    go_ret
    exact ⟨_,rfl,hc2,HO.out.trans ho2⟩
 · have HSL:=Hd_ (litD_sl w1 3 #[.int .i64 (-1),.int .i64 5,.int .i64 9223372036854775807] [-1,5,9223372036854775807] 3 (b+1) (by omega) (by decide) rfl rfl rfl)
   have hal2:=(Below.refl w1.heap.size w1).alloc (Nat.le_refl _) (.cells #[.int .i64 (-1),.int .i64 5,.int .i64 9223372036854775807] 3)
   have HAL:=Hd_ hal2
   clear hal2
   go_wp2_with fail
   refine (l1PickInt_any b _ _ _ (hc1.keep HAL.out) (by decide) HSL.out).mono ?_
   rintro e w2 ⟨r,rfl,-,hc2,ho2⟩
   go_wp2_with fail
   go_ret
   exact ⟨_,rfl,hc2,HO.out.trans ((Only.of_below HAL.out b (b+1)).trans ho2)⟩
theorem gv_done {b r lo:Nat} {w0 w:World} {v d0 d1:Value} {g:Gr} (h:GrV lo w.heap.size w v g) (hc:Cur w b) (ho:Only b (b+1) w0 w) (hr:w0.heap.size=r) (hlt:b < r/\r < lo) :
 GrV w0.heap.size ((w.setCell ⟨r,0,none⟩ d0).setCell ⟨r,1,none⟩ d1).heap.size ((w.setCell ⟨r,0,none⟩ d0).setCell ⟨r,1,none⟩ d1) v g/\Cur ((w.setCell ⟨r,0,none⟩ d0).setCell ⟨r,1,none⟩ d1) b/\Only b (b+1) w0 ((w.setCell ⟨r,0,none⟩ d0).setCell ⟨r,1,none⟩ d1):=by
 have hp:=Only.put2 w r d0 d1
 exact ⟨(h.only hp (Nat.le_refl _) (.inr (by omega))).mono (by omega) hp.size,hc.only hp (by omega),(ho.setCell (p:=⟨r,0,none⟩) (.inr (by simp only;omega)) _).setCell (p:=⟨r,1,none⟩) (.inr (by simp only;omega)) _⟩
/-- a graph that lies in the block q; the result's block r -/
structure GcR (b r q lo mid hi:Nat) (w0 w:World) (vs es:Value) (xs:List Int) (ys:List Ed):Prop where
 res:Blk w r 27 #[.slice none 0 0,.slice none 0 0]
 blk:Blk w q 27 #[vs,es]
 vals:Own lo mid w 3 cI 1 vs xs
 edges:Own mid hi w 114 cEd 4 es ys
 cur:Cur w b
 only:Only b (b+1) w0 w
 at0:w0.heap.size=r
 ord:b < r/\r < lo/\lo<=mid/\mid<=hi/\hi<=q
section
variable {b r q lo mid hi:Nat} {w0 w w':World} {vs es:Value} {xs:List Int} {ys:List Ed}
theorem GcR.move (h:GcR b r q lo mid hi w0 w vs es xs ys) (ho:Only b (b+1) w w') (hc:Cur w' b):GcR b r q lo mid hi w0 w' vs es xs ys:=by
 have hd:=h.ord
 exact ⟨h.res.only ho (.inr (by omega)),h.blk.only ho (.inr (by omega)),h.vals.only ho (.inr (by omega)),h.edges.only ho (.inr (by omega)),hc,h.only.trans ho,h.at0,hd⟩
theorem GcR.below (h:GcR b r q lo mid hi w0 w vs es xs ys) (hb:Below w.heap.size w w'):GcR b r q lo mid hi w0 w' vs es xs ys:=by
 have hd:=h.ord
 have hq:=h.blk.lt
 exact ⟨h.res.keep hb,h.blk.keep hb,h.vals.below hb (by omega),h.edges.below hb (by omega),h.cur.keep hb,h.only.trans (Only.of_below hb _ _),h.at0,hd⟩
theorem GcR.alloc (h:GcR b r q lo mid hi w0 w vs es xs ys) (o:Obj):GcR b r q lo mid hi w0 (w.alloc o) vs es xs ys:=h.below ((Below.refl _ _).alloc (Nat.le_refl _) _)
theorem GcR.view (h:GcR b r q lo mid hi w0 w vs es xs ys):GrV lo w.heap.size w (.agg #[vs,es]) ⟨xs,ys⟩:=by
 have hd:=h.ord
 have hq:=h.blk.lt
 exact ⟨vs,es,rfl,(h.vals.sl cI_len).mono (Nat.le_refl _) (by omega),(h.edges.sl cEd_len).mono (by omega) (by omega)⟩
theorem GcR.push {ys':List Ed} {g n c:Nat} (h:GcR b r q lo mid hi w0 w vs es xs ys) (hr:w'.ownsRow mid 114 4 (.slice (some ⟨g,0,none⟩) n c) ys'.length (ys'.flatMap cEd)) (hg:w.grownBy w' es.ownBlock) (hat:es.ownBlock=some g ∨ w.heap.size<=g) :
 Blk w' q 27 #[vs,es]/\(GrV lo (w'.setCell ⟨q,1,none⟩ (.slice (some ⟨g,0,none⟩) n c)).heap.size (w'.setCell ⟨q,1,none⟩ (.slice (some ⟨g,0,none⟩) n c)) (.agg #[vs,.slice (some ⟨g,0,none⟩) n c]) ⟨xs,ys'⟩ /\
  Blk (w'.setCell ⟨q,1,none⟩ (.slice (some ⟨g,0,none⟩) n c)) r 27 #[.slice none 0 0,.slice none 0 0]/\Blk (w'.setCell ⟨q,1,none⟩ (.slice (some ⟨g,0,none⟩) n c)) q 27 #[vs,.slice (some ⟨g,0,none⟩) n c] /\
  Cur (w'.setCell ⟨q,1,none⟩ (.slice (some ⟨g,0,none⟩) n c)) b/\Only b (b+1) w0 (w'.setCell ⟨q,1,none⟩ (.slice (some ⟨g,0,none⟩) n c))):=by
 have hd:=h.ord
 have hq:=h.blk.lt
 have hb:=own_below h.edges.1 (by omega) hg
 have hne:es.ownBlock ≠ some q:=fun e=>by have:=h.edges.2 q e;omega
 have hs:=hb.size
 have hgq:g ≠ q:=by
  rcases hat with h1 | h1
  · have:=h.edges.2 g h1;omega
  · omega
 have hbq:Blk w' q 27 #[vs,es]:=(hg.block q hq (fun e=>hne e.symm)).trans h.blk
 have hos:=(Only.refl q (q+1) w').setCell (p:=⟨q,1,none⟩) (.inl ⟨Nat.le_refl _,Nat.lt_succ_self _⟩) (.slice (some ⟨g,0,none⟩) n c)
 have hr2:=ownsRow_block hr (w':=w'.setCell ⟨q,1,none⟩ (.slice (some ⟨g,0,none⟩) n c)) (fun g' hg'=>by cases hg';exact Below.heap_setCell w' ⟨q,1,none⟩ _ g hgq)
 exact ⟨hbq,⟨_,_,rfl,(((h.vals.below hb (Nat.le_refl _)).only hos (.inl (by omega))).sl cI_len).mono (Nat.le_refl _) (Nat.le_trans (by omega) hos.size),((Own.of_row (xs:=ys') hr2 rfl rfl).sl cEd_len).mono (by omega) (Nat.le_refl _)⟩,(h.res.below hb (by omega)).far (by simp only;omega) _,hbq.set_ 1 _,(h.cur.below hb (by omega)).set (by simp only;omega) _,(h.only.andBelow hb (by have:=h.at0;omega)).setCell (.inr (by have:=h.at0;simp only;omega)) _⟩
end
set_option maxHeartbeats 4000000 in
theorem l3Any_any (b:Nat) (w:World) (hc:Cur w b) :
 Calls Tryz.prog 97 #[.pointer (some ⟨b,0,none⟩)] w fun e w'=>∃ v g,e=.returned v/\GrV w.heap.size w'.heap.size w' v g/\(g.vals.length<=5/\g.edges.length<=11)/\Cur w' b/\Only b (b+1) w w':=by
 have hlt:=hc.lt
 have hb0:=(Below.refl w.heap.size w).alloc (Nat.le_refl _) (.cells #[.slice none 0 0,.slice none 0 0] 27)
 have hbr:=Blk.new w 27 #[.slice none 0 0,.slice none 0 0] _ rfl
 go_enter Tryz.func97,Tryz.ntmps97
 go_wp2_with fail
 refine (l3Graph_any b _ (hc.keep hb0)).mono ?_
 rintro e w1 ⟨v,g,rfl,hgo,⟨hg1,hg2,hg3⟩,hc1,ho1⟩
 have hsz:(w.alloc (.cells #[.slice none 0 0,.slice none 0 0] 27)).heap.size=w.heap.size+1:=by simp
 rw [hsz] at hgo
 obtain ⟨vs,es,mid,rfl,hov,hoe,hm1,hm2⟩:=hgo
 obtain ⟨A1,n1,c1,rfl⟩:=hov.shape
 obtain ⟨A2,n2,c2,rfl⟩:=hoe.shape
 have hal:=(Below.refl w1.heap.size w1).alloc (Nat.le_refl _) (.cells #[.slice A1 n1 c1,.slice A2 n2 c2] 27)
 have HG0:=Hd_ (show GcR b w.heap.size w1.heap.size (w.heap.size+1) mid w1.heap.size w (w1.alloc (.cells #[.slice A1 n1 c1,.slice A2 n2 c2] 27)) _ _ g.vals g.edges from
  ⟨(hbr.only ho1 (.inr (by omega))).keep hal,Blk.new w1 _ _ _ rfl,hov.below hal (by omega),hoe.below hal (Nat.le_refl _),hc1.keep hal,((Only.of_below hb0 b (b+1)).trans ho1).trans (Only.of_below hal _ _),rfl,by omega⟩)
 clear hal hsz hov hoe ho1 hc1 hbr hb0
 go_wp2_with fail
 refine (l1Below_any b 14 _ HG0.out.cur).mono ?_
 rintro e w2 ⟨t,rfl,-,hc2,ho2⟩
 have HG:=Hd_ (HG0.out.move ho2 hc2)
 clear HG0 ho2 hc2
 have x0:w2.cell? ⟨w1.heap.size,0,none⟩=some (.slice A1 n1 c1):=HG.out.blk.cell 0
 have x1:w2.cell? ⟨w1.heap.size,1,none⟩=some (.slice A2 n2 c2):=HG.out.blk.cell 1
 have y0:=HG.out.blk.frozen 0
 have y1:=HG.out.blk.frozen 1
 have hlq:=HG.out.blk.lt
 have hlr:=HG.out.res.lt
 have v0:=HG.out.res.frozen 0
 have v1:=HG.out.res.frozen 1
 by_cases ht0:t=0
 · subst ht0
   have z0:w2.cell? ⟨w.heap.size,0,none⟩=some (.slice none 0 0):=HG.out.res.cell 0
   have z1:w2.cell? ⟨w.heap.size,1,none⟩=some (.slice none 0 0):=HG.out.res.cell 1
   have hvr:=HG.out.vals.1
   have hn1:∃ gV,A1=some ⟨gV,0,none⟩/\n1=g.vals.length:=by
    rcases hvr.2 with ⟨_,h2⟩ | ⟨gV,cap,cur,h1,_⟩
    · omega
    · injection h1 with h1 h2 _;exact ⟨gV,h1,h2⟩
   obtain ⟨gV,rfl,rfl⟩:=hn1
   have hvl:=HG.out.vals.lt gV rfl
   have fz0:=World.ownsRow.frozenAt hvr 0
   have cz0:=World.ownsRow.cellAt hvr 0 (by omega)
   have hx0:g.vals[0]?=some g.vals[0]:=List.getElem?_eq_getElem (by omega)
   have hfl:(g.vals.flatMap cI)[0]?=some (.int .i64 g.vals[0]):=by have:=flat_at (E:=cI) (k:=1) cI_len hx0 0 _ rfl;simpa using this
   rw [hfl] at cz0
   clear hfl hx0 hvr
   have h0n:(0:Int) < (g.vals.length:Int):=by omega
   have h0N:0 < g.vals.length:=by omega
   go_wp2_with fail
   refine F_start 5 (fun w'=>w'.cell? ⟨w1.heap.size,0,none⟩=some (.slice (some ⟨gV,0,none⟩) g.vals.length c1)) (by kernel_rfl) (by exact x0) (fun hS inv=>?_)
   refine F_tk 0 inv ?_
   try simp only [tA,tB,tC,Act.put,tE,tF,tG]
   clear inv;intro inv
   refine F_tk 1 inv ?_
   try simp only [tA,tB,tC,Act.put,tE,tF,tG]
   clear inv;intro inv
   refine F_tk 2 inv ?_
   try simp only [tA,tB,tC,Act.put,tE,tF,tG]
   clear inv;intro inv
   refine F_o1 3 inv ?_;intro K hK
   try simp only [tA,tB,tC]
   go_simp
   have hal:=((Below.refl w2.heap.size w2).alloc (Nat.le_refl _) (.cells #[.int .i64 (-1),.int .i64 3,.int .i64 2] 3)).drew
   have HG3:=Hd_ (HG.out.below hal)
   have HL3:=Hd_ (show SlI (b+1) (w2.alloc (.cells #[.int .i64 (-1),.int .i64 3,.int .i64 2] 3)).drew.heap.size (w2.alloc (.cells #[.int .i64 (-1),.int .i64 3,.int .i64 2] 3)).drew cI 1 _ _ from litD_sl w2 3 #[.int .i64 (-1),.int .i64 3,.int .i64 2] [-1,3,2] 3 (b+1) (by omega) (by decide) rfl rfl rfl)
   clear hal
   refine hK.out _ _ ((HG3.out.blk.cell 0)) (fun _ _=>?_)
   try simp only [tA,tB,tC,Act.put,tE,tF,tG]
   clear hK K inv hS;rename_i hS inv
   refine F_o1 4 inv ?_;intro K hK
   try simp only [tA,tB,tC]
   go_simp
   refine (l1PickInt_any b _ _ _ HG3.out.cur (by decide) HL3.out).mono ?_
   rintro e w3 ⟨u,rfl,-,hc3,ho3⟩
   have HG4:=Hd_ (HG3.out.move ho3 hc3)
   clear ho3 hc3 HG3 HL3 x0 x1 y0 y1 v0 v1 z0 z1 fz0 cz0 hlr hlq
   refine hK.out _ _ ((HG4.out.blk.cell 0)) (fun _ _=>?_)
   try simp only [tA,tB,tC,Act.put,tE,tF,tG]
   clear hK K inv hS;rename_i hS inv
   have hvr:=HG4.out.vals.1
   have fz0:=World.ownsRow.frozenAt hvr 0
   have cz0:=World.ownsRow.cellAt hvr 0 (by omega)
   have hx0:g.vals[0]?=some g.vals[0]:=List.getElem?_eq_getElem (by omega)
   have hfl:(g.vals.flatMap cI)[0]?=some (.int .i64 g.vals[0]):=by have:=flat_at (E:=cI) (k:=1) cI_len hx0 0 _ rfl;simpa using this
   rw [hfl] at cz0
   have hst:=(World.ownsRow.stored hvr 0 (.int .i64 u)).1
   rw [flatI_set] at hst
   have HST:=Hd_ hst
   clear hst hfl hx0 hvr
   refine F_tail (i:=5) (by kernel_rfl) rfl rfl (by omega) (fun K hK=>?_)
   try simp only [tA,tB,tC]
   go_simp
   refine hK.out _ _ ?_
   try simp only [tA,tB,tC,Act.put,tE,tF,tG]
   clear hK K
   try clear inv hS
   refine F_l1 6 ?_;intro K hK
   go_simp
   refine hK _ _ ?_
   clear hK K
   have hosv:=(Only.refl gV (gV+1) w3).setCell (p:=⟨gV,0,none⟩) (.inl ⟨Nat.le_refl _,Nat.lt_succ_self _⟩) (.int .i64 u)
   have HW:=Hd_ (show GcR b w.heap.size w1.heap.size (w.heap.size+1) mid w1.heap.size w (w3.setCell ⟨gV,0,none⟩ (.int .i64 u)) _ _ (g.vals.set 0 u) g.edges from
    ⟨HG4.out.res.far (by simp only;omega) _,HG4.out.blk.far (by simp only;omega) _,⟨by simpa using HST.out,HG4.out.vals.2⟩,HG4.out.edges.only hosv (.inr (by omega)),HG4.out.cur.set (by simp only;omega) _,HG4.out.only.setCell (.inr (by simp only;omega)) _,rfl,HG4.out.ord⟩)
   generalize w3.setCell ⟨gV,0,none⟩ (.int .i64 u)=w4 at *
   clear HST hosv fz0 cz0
   have x0:w4.cell? ⟨w1.heap.size,0,none⟩=some (.slice (some ⟨gV,0,none⟩) g.vals.length c1):=HW.out.blk.cell 0
   have x1:w4.cell? ⟨w1.heap.size,1,none⟩=some (.slice A2 n2 c2):=HW.out.blk.cell 1
   have z0:w4.cell? ⟨w.heap.size,0,none⟩=some (.slice none 0 0):=HW.out.res.cell 0
   have z1:w4.cell? ⟨w.heap.size,1,none⟩=some (.slice none 0 0):=HW.out.res.cell 1
   have v0:=HW.out.res.frozen 0
   have v1:=HW.out.res.frozen 1
   have hlr:=HW.out.res.lt
   go_wp2_with fail
   have HD:=gv_done (d0:=.slice (some ⟨gV,0,none⟩) g.vals.length c1) (d1:=.slice A2 n2 c2) HW.out.view HW.out.cur HW.out.only rfl (by omega)
   refine bodyPost_ret (v:=.agg #[.slice (some ⟨gV,0,none⟩) g.vals.length c1,.slice A2 n2 c2]) (by simp [results,Tryz.results97,go_sem,z0,z1,v0,v1]) rfl ⟨_,⟨g.vals.set 0 u,g.edges⟩,rfl,HD.1,⟨by simp;omega,by simp only;omega⟩,HD.2.1,HD.2.2⟩
 have hd0:(t==0)=false:=by simpa using ht0
 by_cases ht1:t=1
 · subst ht1
   go_wp2_with fail
   refine F_start 15 (fun w'=>w'.cell? ⟨w1.heap.size,1,none⟩=some (.slice A2 n2 c2)) (by kernel_rfl) (by exact x1) (fun hS inv=>?_)
   refine F_tk 0 inv ?_
   try simp only [tA,tB,tC,Act.put,tE,tF,tG]
   clear inv;intro inv
   refine F_tk 1 inv ?_
   try simp only [tA,tB,tC,Act.put,tE,tF,tG]
   clear inv;intro inv
   refine F_tk 2 inv ?_
   try simp only [tA,tB,tC,Act.put,tE,tF,tG]
   clear inv;intro inv
   refine F_tk 5 inv ?_
   try simp only [tA,tB,tC,Act.put,tE,tF,tG]
   clear inv;intro inv
   refine F_tk 7 inv ?_
   try simp only [tA,tB,tC,Act.put,tE,tF,tG]
   clear inv;intro inv
   refine F_tk 9 inv ?_
   try simp only [tA,tB,tC,Act.put,tE,tF,tG]
   clear inv;intro inv
   refine F_o1 3 inv ?_;intro K hK
   try simp only [tA,tB,tC]
   go_simp
   have hal:=((Below.refl w2.heap.size w2).alloc (Nat.le_refl _) (.cells #[.int .i64 0,.int .i64 1,.int .i64 99,.int .i64 100] 3)).drew
   have HG3:=Hd_ (HG.out.below hal)
   have HL3:=Hd_ (show SlI (b+1) (w2.alloc (.cells #[.int .i64 0,.int .i64 1,.int .i64 99,.int .i64 100] 3)).drew.heap.size (w2.alloc (.cells #[.int .i64 0,.int .i64 1,.int .i64 99,.int .i64 100] 3)).drew cI 1 _ _ from litD_sl w2 3 #[.int .i64 0,.int .i64 1,.int .i64 99,.int .i64 100] [0,1,99,100] 4 (b+1) (by omega) (by decide) rfl rfl rfl)
   clear hal
   refine hK.out _ _ ((HG3.out.blk.cell 1)) (fun _ _=>?_)
   try simp only [tA,tB,tC,Act.put,tE,tF,tG]
   clear hK K inv hS;rename_i hS inv
   refine F_o1 4 inv ?_;intro K hK
   try simp only [tA,tB,tC]
   go_simp
   refine (l1PickInt_any b _ _ _ HG3.out.cur (by decide) HL3.out).mono ?_
   rintro e w3 ⟨u1,rfl,-,hc3,ho3⟩
   have HG4:=Hd_ (HG3.out.move ho3 hc3)
   clear ho3 hc3 HG3 HL3 x0 x1 y0 y1 v0 v1 hlr hlq
   refine hK.out _ _ ((HG4.out.blk.cell 1)) (fun _ _=>?_)
   try simp only [tA,tB,tC,Act.put,tE,tF,tG]
   clear hK K inv hS;rename_i hS inv
   refine F_o1 6 inv ?_;intro K hK
   try simp only [tA,tB,tC]
   go_simp
   refine (l1Below_any b _ _ HG4.out.cur).mono ?_
   rintro e w4 ⟨u2,rfl,-,hc4,ho4⟩
   have HG5:=Hd_ (HG4.out.move ho4 hc4)
   clear ho4 hc4
   refine hK.out _ _ ((HG5.out.blk.cell 1)) (fun _ _=>?_)
   try simp only [tA,tB,tC,Act.put,tE,tF,tG]
   clear hK K inv hS;rename_i hS inv
   refine F_o1 8 inv ?_;intro K hK
   try simp only [tA,tB,tC]
   go_simp
   refine (l1Below_any b _ _ HG5.out.cur).mono ?_
   rintro e w5 ⟨u3,rfl,-,hc5,ho5⟩
   have HG6:=Hd_ (HG5.out.move ho5 hc5)
   clear ho5 hc5
   refine hK.out _ _ ((HG6.out.blk.cell 1)) (fun _ _=>?_)
   try simp only [tA,tB,tC,Act.put,tE,tF,tG]
   clear hK K inv hS;rename_i hS inv
   refine F_o1 10 inv ?_;intro K hK
   try simp only [tA,tB,tC]
   go_simp
   refine (l1Below_any b _ _ HG6.out.cur).mono ?_
   rintro e w6 ⟨u4,rfl,-,hc6,ho6⟩
   have HG7:=Hd_ (HG6.out.move ho6 hc6)
   clear ho6 hc6 HG4 HG5 HG6
   refine hK.out _ _ ((HG7.out.blk.cell 1)) (fun _ _=>?_)
   try simp only [tA,tB,tC,Act.put,tE,tF,tG]
   clear hK K inv hS;rename_i hS inv
   refine F_tk 11 inv ?_
   try simp only [tA,tB,tC,Act.put,tE,tF,tG]
   clear inv;intro inv
   refine F_o1 12 inv ?_;intro K hK
   try simp only [tA,tB,tC]
   go_simp
   have HG8:=Hd_ (HG7.out.alloc (.cells #[.int .i64 u1,.int .i64 u2,.int .i64 u3,.int .i64 u4] 114))
   refine hK.out _ _ ((HG8.out.blk.cell 1)) (fun _ _=>?_)
   try simp only [tA,tB,tC,Act.put,tE,tF,tG]
   clear hK K inv hS;rename_i hS inv
   refine F_o1 13 inv ?_;intro K hK
   try simp only [tA,tB,tC]
   refine op_append1 cEd elEdD rfl _ _ (by rfl) mid _ g.edges (u1,u2,u3,u4) 1 _ (by rfl) HG8.out.edges.1 (by first | rfl | simp) (heap_alloc_new _ _) rfl (cEd_one _) (by omega) (by omega) (by have h1:=HG8.out.ord;have h2:=HG8.out.blk.lt;omega) ?_
   intro g2 cp2 w9 hown3 hgr3 hat3 hlt3
   have HP:=Hd_ (HG8.out.push hown3 hgr3 hat3)
   clear hown3 hgr3 hat3
   refine hK.out _ _ ((HP.out.1.cell 1)) (fun _ _=>?_)
   try simp only [tA,tB,tC,Act.put,tE,tF,tG]
   clear hK K inv hS;rename_i hS inv
   refine F_tk 14 inv ?_
   try simp only [tA,tB,tC,Act.put,tE,tF,tG]
   clear inv;intro inv
   have y1:=HP.out.1.frozen 1
   have hlq:=HP.out.1.lt
   refine F_l1 15 ?_;intro K hK
   go_simp
   refine hK _ _ ?_
   clear hK K inv hS
   have HW:=Hd_ HP.out.2
   clear HP y1 hlq
   generalize w9.setCell ⟨w1.heap.size,1,none⟩ (.slice (some ⟨g2,0,none⟩) (g.edges.length+1) cp2)=w10 at *
   have x0:w10.cell? ⟨w1.heap.size,0,none⟩=some (.slice A1 n1 c1):=HW.out.2.2.1.cell 0
   have x1:w10.cell? ⟨w1.heap.size,1,none⟩=some (.slice (some ⟨g2,0,none⟩) (g.edges.length+1) cp2):=HW.out.2.2.1.cell 1
   have z0:w10.cell? ⟨w.heap.size,0,none⟩=some (.slice none 0 0):=HW.out.2.1.cell 0
   have z1:w10.cell? ⟨w.heap.size,1,none⟩=some (.slice none 0 0):=HW.out.2.1.cell 1
   have v0:=HW.out.2.1.frozen 0
   have v1:=HW.out.2.1.frozen 1
   have hlr:=HW.out.2.1.lt
   go_wp2_with fail
   have HD:=gv_done (d0:=.slice A1 n1 c1) (d1:=.slice (some ⟨g2,0,none⟩) (g.edges.length+1) cp2) HW.out.1 HW.out.2.2.2.1 HW.out.2.2.2.2 rfl (by omega)
   refine bodyPost_ret (v:=.agg #[.slice A1 n1 c1,.slice (some ⟨g2,0,none⟩) (g.edges.length+1) cp2]) (by simp [results,Tryz.results97,go_sem,z0,z1,v0,v1]) rfl ⟨_,_,rfl,HD.1,⟨by simp only;omega,by simp;omega⟩,HD.2.1,HD.2.2⟩
 have hd1:(t==1)=false:=by simpa using ht1
 by_cases ht2:t=2
 · subst ht2
   go_upto_region 9 with fail
   have HW:=Hd_ (show GcR b w.heap.size w1.heap.size (w.heap.size+1) mid w1.heap.size w (w2.setCell ⟨w1.heap.size,0,none⟩ (.slice none 0 0)) (.slice none 0 0) _ [] g.edges from
    ⟨HG.out.res.far (by simp only;omega) _,HG.out.blk.set_ 0 _,Own.nil _ _ _ _ _ _,HG.out.edges.only ((Only.refl w1.heap.size (w1.heap.size+1) w2).setCell (p:=⟨w1.heap.size,0,none⟩) (.inl ⟨Nat.le_refl _,Nat.lt_succ_self _⟩) _) (.inl (Nat.le_refl _)),HG.out.cur.set (by simp only;omega) _,HG.out.only.setCell (.inr (by simp only;omega)) _,rfl,HG.out.ord⟩)
   generalize w2.setCell ⟨w1.heap.size,0,none⟩ (.slice none 0 0)=w4 at *
   clear x0 x1 v0 v1 y0 y1 hlr hlq
   have x0:w4.cell? ⟨w1.heap.size,0,none⟩=some (.slice none 0 0):=HW.out.blk.cell 0
   have x1:w4.cell? ⟨w1.heap.size,1,none⟩=some (.slice A2 n2 c2):=HW.out.blk.cell 1
   have z0:w4.cell? ⟨w.heap.size,0,none⟩=some (.slice none 0 0):=HW.out.res.cell 0
   have z1:w4.cell? ⟨w.heap.size,1,none⟩=some (.slice none 0 0):=HW.out.res.cell 1
   have v0:=HW.out.res.frozen 0
   have v1:=HW.out.res.frozen 1
   have hlr:=HW.out.res.lt
   go_wp2_with fail
   have HD:=gv_done (d0:=.slice none 0 0) (d1:=.slice A2 n2 c2) HW.out.view HW.out.cur HW.out.only rfl (by omega)
   refine bodyPost_ret (v:=.agg #[.slice none 0 0,.slice A2 n2 c2]) (by simp [results,Tryz.results97,go_sem,z0,z1,v0,v1]) rfl ⟨_,⟨[],g.edges⟩,rfl,HD.1,⟨by simp,by simp only;omega⟩,HD.2.1,HD.2.2⟩
 · have hd2:(t==2)=false:=by simpa using ht2
   have z0:w2.cell? ⟨w.heap.size,0,none⟩=some (.slice none 0 0):=HG.out.res.cell 0
   have z1:w2.cell? ⟨w.heap.size,1,none⟩=some (.slice none 0 0):=HG.out.res.cell 1
   go_wp2_with fail
   have HD:=gv_done (d0:=.slice A1 n1 c1) (d1:=.slice A2 n2 c2) HG.out.view HG.out.cur HG.out.only rfl (by omega)
   refine bodyPost_ret (v:=.agg #[.slice A1 n1 c1,.slice A2 n2 c2]) (by simp [results,Tryz.results97,go_sem,z0,z1,v0,v1]) rfl ⟨_,g,rfl,HD.1,⟨by omega,by omega⟩,HD.2.1,HD.2.2⟩
/-- a graph in the block gq, an automaton in aq; the results' blocks r and r + 1 -/
structure PrR (b r gq aq:Nat) (w0 w:World) (gs es:Value) (g:Gr) (ac nx:Value) (a:Au):Prop where
 res1:Blk w r 27 #[.slice none 0 0,.slice none 0 0]
 res2:Blk w (r+1) 31 #[.int .i64 0,.slice none 0 0,.slice none 0 0]
 gbk:Blk w gq 27 #[gs,es]
 abk:Blk w aq 31 #[.int .i64 a.start,ac,nx]
 gv:∃ lo hi,GrV lo hi w (.agg #[gs,es]) g/\r+2<=lo/\hi<=w.heap.size/\(gq < lo ∨ hi<=gq)/\(aq < lo ∨ hi<=aq)
 av:∃ lo hi,AuV lo hi w (.agg #[.int .i64 a.start,ac,nx]) a/\r+2<=lo/\hi<=w.heap.size/\(gq < lo ∨ hi<=gq)/\(aq < lo ∨ hi<=aq)
 cur:Cur w b
 only:Only b (b+1) w0 w
 at0:w0.heap.size=r
 e12:g.edges.length<=11
 ord:b < r/\r+2<=gq/\gq < aq
def putGA (w:World) (r:Nat) (gs es st ac nx:Value):World:=(((((w.setCell ⟨r,0,none⟩ gs).setCell ⟨r,1,none⟩ es).setCell ⟨r+1,0,none⟩ st).setCell ⟨r+1,1,none⟩ ac).setCell ⟨r+1,2,none⟩ nx).drew
theorem putGA_only (w:World) (r:Nat) (gs es st ac nx:Value):Only r (r+2) w (putGA w r gs es st ac nx):=((((((Only.refl r (r+2) w).setCell (p:=⟨r,0,none⟩) (.inl (by simp only;omega)) _).setCell (p:=⟨r,1,none⟩) (.inl (by simp only;omega)) _).setCell (p:=⟨r+1,0,none⟩) (.inl (by simp only;omega)) _).setCell (p:=⟨r+1,1,none⟩) (.inl (by simp only;omega)) _).setCell (p:=⟨r+1,2,none⟩) (.inl (by simp only;omega)) _).drew
section
variable {b r gq aq:Nat} {w0 w w':World} {gs es:Value} {g:Gr} {ac nx:Value} {a:Au}
theorem PrR.step (h:PrR b r gq aq w0 w gs es g ac nx a) (ho:Only b (b+1) w w') (hc:Cur w' b):PrR b r gq aq w0 w' gs es g ac nx a:=by
 have hd:=h.ord
 obtain ⟨lo,hi,h1,h2,h3,h4⟩:=h.gv
 obtain ⟨lo',hi',k1,k2,k3,k4⟩:=h.av
 exact ⟨h.res1.only ho (.inr (by omega)),h.res2.only ho (.inr (by omega)),h.gbk.only ho (.inr (by omega)),h.abk.only ho (.inr (by omega)),⟨lo,hi,h1.only ho h3 (.inr (by omega)),h2,Nat.le_trans h3 ho.size,h4⟩,⟨lo',hi',k1.only ho k3 (.inr (by omega)),k2,Nat.le_trans k3 ho.size,k4⟩,hc,h.only.trans ho,h.at0,h.e12,hd⟩
theorem PrR.setG {gs' es':Value} {g':Gr} {lo:Nat} (h:PrR b r gq aq w0 w gs es g ac nx a) (hg:GrV lo w.heap.size w (.agg #[gs',es']) g') (he:g'.edges.length<=11) (hlo:aq < lo):PrR b r gq aq w0 ((w.setCell ⟨gq,0,none⟩ gs').setCell ⟨gq,1,none⟩ es') gs' es' g' ac nx a:=by
 have hd:=h.ord
 have h0:=h.at0
 have ho:=Only.put2 w gq gs' es'
 obtain ⟨lo',hi',k1,k2,k3,k4⟩:=h.av
 exact ⟨h.res1.only ho (.inl (by omega)),h.res2.only ho (.inl (by omega)),(h.gbk.set_ 0 gs').set_ 1 es',h.abk.only ho (.inr (by omega)),⟨lo,w.heap.size,hg.only ho (Nat.le_refl _) (.inr (by omega)),by omega,ho.size,.inl (by omega),.inl (by omega)⟩,⟨lo',hi',k1.only ho k3 (by omega),k2,Nat.le_trans k3 ho.size,k4⟩,h.cur.only ho (by omega),
  (h.only.setCell (p:=⟨gq,0,none⟩) (.inr (by simp only;omega)) _).setCell (p:=⟨gq,1,none⟩) (.inr (by simp only;omega)) _,h.at0,he,hd⟩
theorem PrR.setA {ac' nx':Value} {a':Au} {lo:Nat} (h:PrR b r gq aq w0 w gs es g ac nx a) (ha:AuV lo w.heap.size w (.agg #[.int .i64 a'.start,ac',nx']) a') (hlo:aq < lo):PrR b r gq aq w0 (put3 w aq (.int .i64 a'.start) ac' nx') gs es g ac' nx' a':=by
 have hd:=h.ord
 have h0:=h.at0
 have ho:=put3_only w aq (.int .i64 a'.start) ac' nx'
 obtain ⟨lo',hi',k1,k2,k3,k4⟩:=h.gv
 exact ⟨h.res1.only ho (.inl (by omega)),h.res2.only ho (.inl (by omega)),h.gbk.only ho (.inl (by omega)),((h.abk.set_ 0 (.int .i64 a'.start)).set_ 1 ac').set_ 2 nx',⟨lo',hi',k1.only ho k3 (by omega),k2,Nat.le_trans k3 ho.size,k4⟩,⟨lo,w.heap.size,ha.only ho (Nat.le_refl _) (.inr (by omega)),by omega,ho.size,.inl (by omega),.inl (by omega)⟩,h.cur.only ho (by omega),
  ((h.only.setCell (p:=⟨aq,0,none⟩) (.inr (by simp only;omega)) _).setCell (p:=⟨aq,1,none⟩) (.inr (by simp only;omega)) _).setCell (p:=⟨aq,2,none⟩) (.inr (by simp only;omega)) _,h.at0,h.e12,hd⟩
theorem PrR.done (h:PrR b r gq aq w0 w gs es g ac nx a) (v1 v2 v3 v4 v5:Value) :
 GrV w0.heap.size (putGA w r v1 v2 v3 v4 v5).heap.size (putGA w r v1 v2 v3 v4 v5) (.agg #[gs,es]) g/\g.edges.length<=11/\AuV w0.heap.size (putGA w r v1 v2 v3 v4 v5).heap.size (putGA w r v1 v2 v3 v4 v5) (.agg #[.int .i64 a.start,ac,nx]) a/\Cur (putGA w r v1 v2 v3 v4 v5) b/\Only b (b+1) w0 (putGA w r v1 v2 v3 v4 v5):=by
 have hd:=h.ord
 have h0:=h.at0
 have ho:=putGA_only w r v1 v2 v3 v4 v5
 have hs:=ho.size
 obtain ⟨lo,hi,h1,h2,h3,h4⟩:=h.gv
 obtain ⟨lo',hi',k1,k2,k3,k4⟩:=h.av
 exact ⟨(h1.only ho h3 (.inr (by omega))).mono (by omega) (by omega),h.e12,(k1.only ho k3 (.inr (by omega))).mono (by omega) (by omega),h.cur.only ho (by omega),
  (((((h.only.setCell (p:=⟨r,0,none⟩) (.inr (by simp only;omega)) _).setCell (p:=⟨r,1,none⟩) (.inr (by simp only;omega)) _).setCell (p:=⟨r+1,0,none⟩) (.inr (by simp only;omega)) _).setCell (p:=⟨r+1,1,none⟩) (.inr (by simp only;omega)) _).setCell (p:=⟨r+1,2,none⟩) (.inr (by simp only;omega)) _).drew⟩
end
def PairOut (b:Nat) (w:World) (e:Ending) (w':World):Prop:=∃ vg va g a,e=.returned (.tuple #[vg,va])/\(GrV w.heap.size w'.heap.size w' vg g/\g.edges.length<=11/\AuV w.heap.size w'.heap.size w' va a/\Cur w' b/\Only b (b+1) w w')
set_option maxHeartbeats 8000000 in
theorem l14Pair_any (b:Nat) (w:World) (hc:Cur w b) :
 Calls Tryz.prog 65 #[.pointer (some ⟨b,0,none⟩)] w (PairOut b w):=by
 have hbw:=hc.lt
 have hb0:=((Below.refl w.heap.size w).alloc (Nat.le_refl _) (.cells #[.slice none 0 0,.slice none 0 0] 27)).alloc (by simp) (.cells #[.int .i64 0,.slice none 0 0,.slice none 0 0] 31)
 have hb1:=(Blk.new w 27 #[.slice none 0 0,.slice none 0 0] _ rfl).alloc (.cells #[.int .i64 0,.slice none 0 0,.slice none 0 0] 31)
 have hb2:=Blk.new (w.alloc (.cells #[.slice none 0 0,.slice none 0 0] 27)) 31 #[.int .i64 0,.slice none 0 0,.slice none 0 0] (w.heap.size+1) (by simp)
 have hs0:((w.alloc (.cells #[.slice none 0 0,.slice none 0 0] 27)).alloc (.cells #[.int .i64 0,.slice none 0 0,.slice none 0 0] 31)).heap.size=w.heap.size+2:=by simp
 go_enter Tryz.func65,Tryz.ntmps65
 go_wp2_with fail
 refine (l3Graph_any b _ (hc.keep hb0)).mono ?_
 rintro e w1 ⟨v,g,rfl,hgo,⟨-,-,hg10⟩,hc1,ho1⟩
 have hgv:=hgo.view
 obtain ⟨A1,n1,c1,A2,n2,c2,rfl⟩:=hgv.shape
 rw [hs0] at hgv
 have hs1:=ho1.size
 rw [hs0] at hs1
 have hal1:=(Below.refl w1.heap.size w1).alloc (Nat.le_refl _) (.cells #[.slice A1 n1 c1,.slice A2 n2 c2] 27)
 have hgb:=Blk.new w1 27 #[.slice A1 n1 c1,.slice A2 n2 c2] _ rfl
 have hr1:=(hb1.only ho1 (.inr (by omega))).keep hal1
 have hr2:=(hb2.only ho1 (.inr (by omega))).keep hal1
 have hgv1:=hgv.below hal1 (Nat.le_refl _)
 have hcA:=hc1.keep hal1
 have hoA:=((Only.of_below hb0 b (b+1)).trans ho1).trans (Only.of_below hal1 b (b+1))
 have hsA:(w1.alloc (.cells #[.slice A1 n1 c1,.slice A2 n2 c2] 27)).heap.size=w1.heap.size+1:=by simp
 obtain ⟨gq,hgq⟩:∃ gq,gq=w1.heap.size:=⟨_,rfl⟩
 rw [<- hgq] at hs1 hgb hgv1 hsA
 clear hgo hgv hc1 ho1 hb1 hb2 hb0 hs0 hal1 hc
 go_wp2_with fail
 rw [<- hgq]
 generalize w1.alloc (.cells #[.slice A1 n1 c1,.slice A2 n2 c2] 27)=W1 at *
 clear hgq
 refine (l11Aut_any b _ hcA).mono ?_
 rintro e w2 ⟨⟨st,ac,nx,us,acc,nxt,rfl,hau,hnn,ho2⟩,hc2⟩
 clear hnn
 have hav:=hau.view st
 obtain ⟨a,ha⟩:∃ a:Au,a=⟨st,acc,nxt⟩:=⟨_,rfl⟩
 obtain rfl:st=a.start:=by rw [ha]
 rw [<- ha] at hav
 obtain ⟨A3,c3,rfl,-,-,-⟩:=ownSh hau.acc
 obtain ⟨A4,c4,rfl,-,-,-⟩:=ownSh hau.nxt.own
 generalize acc.length=n3 at hav ⊢
 generalize us.length=n4 at hav ⊢
 rw [hsA] at hav
 have hs2:=ho2.size
 rw [hsA] at hs2
 have hal2:=(Below.refl w2.heap.size w2).alloc (Nat.le_refl _) (.cells #[.int .i64 a.start,.slice A3 n3 c3,.slice A4 n4 c4] 31)
 have hsB:w2.heap.size<=(w2.alloc (.cells #[.int .i64 a.start,.slice A3 n3 c3,.slice A4 n4 c4] 31)).heap.size:=hal2.size
 obtain ⟨aq,haq⟩:∃ aq,aq=w2.heap.size:=⟨_,rfl⟩
 have HP:=Hd_ (show PrR b w.heap.size gq aq w (w2.alloc (.cells #[.int .i64 a.start,.slice A3 n3 c3,.slice A4 n4 c4] 31)) _ _ g _ _ a from
  ⟨(hr1.only ho2 (.inr (by omega))).keep hal2,(hr2.only ho2 (.inr (by omega))).keep hal2,(hgb.only ho2 (.inr (by omega))).keep hal2,Blk.new w2 _ _ _ haq,⟨w.heap.size+2,gq,(hgv1.only ho2 (by omega) (.inr (by omega))).below hal2 (by omega),by omega,by omega,.inr (by omega),.inr (by omega)⟩,
    ⟨gq+1,aq,(haq ▸ hav.below hal2 (Nat.le_refl _)),by omega,by omega,.inl (by omega),.inr (by omega)⟩,hc2.keep hal2,(hoA.trans ho2).trans (Only.of_below hal2 b (b+1)),rfl,by omega,by omega⟩)
 clear hau hav ho2 hc2 hr1 hr2 hgb hgv1 hcA hoA hsA hal2 hsB hs2 ha hs1 hg10
 go_upto_region 3 with fail
 rw [<- haq]
 generalize w2.alloc (.cells #[.int .i64 a.start,.slice A3 n3 c3,.slice A4 n4 c4] 31)=W2 at *
 clear haq
 go_wp2_with fail
 refine (l1Once_any b 16 _ HP.out.cur).mono ?_
 rintro e w3 ⟨t,rfl,hc3,ho3⟩
 have HP3:=Hd_ (HP.out.step ho3 hc3)
 clear HP hc3 ho3
 cases t
 · skip
   go_wp2_with fail
   refine (l1Once_any b 16 _ HP3.out.cur).mono ?_
   rintro e w5 ⟨t2,rfl,hc5,ho5⟩
   have HP5:=Hd_ (HP3.out.step ho5 hc5)
   clear HP3 hc5 ho5
   cases t2
   · skip
     have x0:w5.cell? ⟨gq,0,none⟩=some (.slice A1 n1 c1):=HP5.out.gbk.cell 0
     have x1:w5.cell? ⟨gq,1,none⟩=some (.slice A2 n2 c2):=HP5.out.gbk.cell 1
     have y0:w5.cell? ⟨aq,0,none⟩=some (.int .i64 a.start):=HP5.out.abk.cell 0
     have y1:w5.cell? ⟨aq,1,none⟩=some (.slice A3 n3 c3):=HP5.out.abk.cell 1
     have y2:w5.cell? ⟨aq,2,none⟩=some (.slice A4 n4 c4):=HP5.out.abk.cell 2
     have z0:w5.cell? ⟨w.heap.size,0,none⟩=some (.slice none 0 0):=HP5.out.res1.cell 0
     have z1:w5.cell? ⟨w.heap.size,1,none⟩=some (.slice none 0 0):=HP5.out.res1.cell 1
     have z2:w5.cell? ⟨w.heap.size+1,0,none⟩=some (.int .i64 0):=HP5.out.res2.cell 0
     have z3:w5.cell? ⟨w.heap.size+1,1,none⟩=some (.slice none 0 0):=HP5.out.res2.cell 1
     have z4:w5.cell? ⟨w.heap.size+1,2,none⟩=some (.slice none 0 0):=HP5.out.res2.cell 2
     have v0:=HP5.out.res1.frozen 0
     have v1:=HP5.out.res1.frozen 1
     have v2:=HP5.out.res2.frozen 0
     have v3:=HP5.out.res2.frozen 1
     have v4:=HP5.out.res2.frozen 2
     have hlr:=HP5.out.res1.lt
     have hls:=HP5.out.res2.lt
     have hord:=HP5.out.ord
     have q1:¬ aq=w.heap.size:=by omega
     have q2:¬ w.heap.size=aq:=by omega
     have q3:¬ aq=w.heap.size+1:=by omega
     have q4:¬ w.heap.size+1=aq:=by omega
     have q5:¬ gq=w.heap.size:=by omega
     have q6:¬ w.heap.size=gq:=by omega
     have q7:¬ gq=w.heap.size+1:=by omega
     have q8:¬ w.heap.size+1=gq:=by omega
     clear hord
     go_wp2_with fail
     go_region
     have HD:=HP5.out.done (.slice A1 n1 c1) (.slice A2 n2 c2) (.int .i64 a.start) (.slice A3 n3 c3) (.slice A4 n4 c4)
     go_wp2_with fail
     refine bodyPost_ret (v:=.tuple #[.agg #[.slice A1 n1 c1,.slice A2 n2 c2],.agg #[.int .i64 a.start,.slice A3 n3 c3,.slice A4 n4 c4]]) (by simp [results,Tryz.results65,go_sem,z0,z1,z2,z3,z4,v0,v1,v2,v3,v4]) rfl ⟨_,_,_,_,rfl,HD⟩
   · go_wp2_with fail
     refine (l11Any_any b _ HP5.out.cur).mono ?_
     rintro e w6 ⟨va,a',rfl,hau',hc6,ho6⟩
     obtain ⟨A7,n7,c7,A8,n8,c8,rfl⟩:=hau'.shape
     have HP6:=Hd_ (HP5.out.step ho6 hc6)
     have hlt5:=HP5.out.abk.lt
     have f0:=HP6.out.abk.frozen 0
     have f1:=HP6.out.abk.frozen 1
     have f2:=HP6.out.abk.frozen 2
     have u0:w6.cell? ⟨aq,0,none⟩=some (.int .i64 a.start):=HP6.out.abk.cell 0
     have u1:w6.cell? ⟨aq,1,none⟩=some (.slice A3 n3 c3):=HP6.out.abk.cell 1
     have u2:w6.cell? ⟨aq,2,none⟩=some (.slice A4 n4 c4):=HP6.out.abk.cell 2
     have hla:=HP6.out.abk.lt
     have HP7:=Hd_ (HP6.out.setA hau' hlt5)
     clear hc6 ho6 hau' HP5 HP6
     go_upto_region 7 with fail
     change Code.wp _ _ _ _ (put3 w6 aq (.int .i64 a'.start) (.slice A7 n7 c7) (.slice A8 n8 c8))
     generalize put3 w6 aq (.int .i64 a'.start) (.slice A7 n7 c7) (.slice A8 n8 c8)=w7 at *
     clear f0 f1 f2 u0 u1 u2 hla hlt5
     have x0:w7.cell? ⟨gq,0,none⟩=some (.slice A1 n1 c1):=HP7.out.gbk.cell 0
     have x1:w7.cell? ⟨gq,1,none⟩=some (.slice A2 n2 c2):=HP7.out.gbk.cell 1
     have y0:w7.cell? ⟨aq,0,none⟩=some (.int .i64 a'.start):=HP7.out.abk.cell 0
     have y1:w7.cell? ⟨aq,1,none⟩=some (.slice A7 n7 c7):=HP7.out.abk.cell 1
     have y2:w7.cell? ⟨aq,2,none⟩=some (.slice A8 n8 c8):=HP7.out.abk.cell 2
     have z0:w7.cell? ⟨w.heap.size,0,none⟩=some (.slice none 0 0):=HP7.out.res1.cell 0
     have z1:w7.cell? ⟨w.heap.size,1,none⟩=some (.slice none 0 0):=HP7.out.res1.cell 1
     have z2:w7.cell? ⟨w.heap.size+1,0,none⟩=some (.int .i64 0):=HP7.out.res2.cell 0
     have z3:w7.cell? ⟨w.heap.size+1,1,none⟩=some (.slice none 0 0):=HP7.out.res2.cell 1
     have z4:w7.cell? ⟨w.heap.size+1,2,none⟩=some (.slice none 0 0):=HP7.out.res2.cell 2
     have v0:=HP7.out.res1.frozen 0
     have v1:=HP7.out.res1.frozen 1
     have v2:=HP7.out.res2.frozen 0
     have v3:=HP7.out.res2.frozen 1
     have v4:=HP7.out.res2.frozen 2
     have hlr:=HP7.out.res1.lt
     have hls:=HP7.out.res2.lt
     have hord:=HP7.out.ord
     have q1:¬ aq=w.heap.size:=by omega
     have q2:¬ w.heap.size=aq:=by omega
     have q3:¬ aq=w.heap.size+1:=by omega
     have q4:¬ w.heap.size+1=aq:=by omega
     have q5:¬ gq=w.heap.size:=by omega
     have q6:¬ w.heap.size=gq:=by omega
     have q7:¬ gq=w.heap.size+1:=by omega
     have q8:¬ w.heap.size+1=gq:=by omega
     clear hord
     go_wp2_with fail
     go_region
     have HD:=HP7.out.done (.slice A1 n1 c1) (.slice A2 n2 c2) (.int .i64 a'.start) (.slice A7 n7 c7) (.slice A8 n8 c8)
     go_wp2_with fail
     refine bodyPost_ret (v:=.tuple #[.agg #[.slice A1 n1 c1,.slice A2 n2 c2],.agg #[.int .i64 a'.start,.slice A7 n7 c7,.slice A8 n8 c8]]) (by simp [results,Tryz.results65,go_sem,z0,z1,z2,z3,z4,v0,v1,v2,v3,v4]) rfl ⟨_,_,_,_,rfl,HD⟩
 · go_wp2_with fail
   refine (l3Any_any b _ HP3.out.cur).mono ?_
   rintro e w4 ⟨v4,g',rfl,hgv4,⟨-,hg11⟩,hc4,ho4⟩
   obtain ⟨A5,n5,c5,A6,n6,c6,rfl⟩:=hgv4.shape
   have HP4:=Hd_ (HP3.out.step ho4 hc4)
   have hlt3:=HP3.out.abk.lt
   have f0:=HP4.out.gbk.frozen 0
   have f1:=HP4.out.gbk.frozen 1
   have u0:w4.cell? ⟨gq,0,none⟩=some (.slice A1 n1 c1):=HP4.out.gbk.cell 0
   have u1:w4.cell? ⟨gq,1,none⟩=some (.slice A2 n2 c2):=HP4.out.gbk.cell 1
   have hlg:=HP4.out.gbk.lt
   have HPG:=Hd_ (HP4.out.setG hgv4 hg11 hlt3)
   clear hc4 ho4 hgv4 HP3 HP4 hg11
   go_upto_region 5 with fail
   generalize (w4.setCell ⟨gq,0,none⟩ (.slice A5 n5 c5)).setCell ⟨gq,1,none⟩ (.slice A6 n6 c6)=W4 at *
   clear f0 f1 u0 u1 hlg hlt3
   go_wp2_with fail
   refine (l1Once_any b 16 _ HPG.out.cur).mono ?_
   rintro e w5 ⟨t2,rfl,hc5,ho5⟩
   have HP5:=Hd_ (HPG.out.step ho5 hc5)
   clear HPG hc5 ho5
   cases t2
   · skip
     have x0:w5.cell? ⟨gq,0,none⟩=some (.slice A5 n5 c5):=HP5.out.gbk.cell 0
     have x1:w5.cell? ⟨gq,1,none⟩=some (.slice A6 n6 c6):=HP5.out.gbk.cell 1
     have y0:w5.cell? ⟨aq,0,none⟩=some (.int .i64 a.start):=HP5.out.abk.cell 0
     have y1:w5.cell? ⟨aq,1,none⟩=some (.slice A3 n3 c3):=HP5.out.abk.cell 1
     have y2:w5.cell? ⟨aq,2,none⟩=some (.slice A4 n4 c4):=HP5.out.abk.cell 2
     have z0:w5.cell? ⟨w.heap.size,0,none⟩=some (.slice none 0 0):=HP5.out.res1.cell 0
     have z1:w5.cell? ⟨w.heap.size,1,none⟩=some (.slice none 0 0):=HP5.out.res1.cell 1
     have z2:w5.cell? ⟨w.heap.size+1,0,none⟩=some (.int .i64 0):=HP5.out.res2.cell 0
     have z3:w5.cell? ⟨w.heap.size+1,1,none⟩=some (.slice none 0 0):=HP5.out.res2.cell 1
     have z4:w5.cell? ⟨w.heap.size+1,2,none⟩=some (.slice none 0 0):=HP5.out.res2.cell 2
     have v0:=HP5.out.res1.frozen 0
     have v1:=HP5.out.res1.frozen 1
     have v2:=HP5.out.res2.frozen 0
     have v3:=HP5.out.res2.frozen 1
     have v4:=HP5.out.res2.frozen 2
     have hlr:=HP5.out.res1.lt
     have hls:=HP5.out.res2.lt
     have hord:=HP5.out.ord
     have q1:¬ aq=w.heap.size:=by omega
     have q2:¬ w.heap.size=aq:=by omega
     have q3:¬ aq=w.heap.size+1:=by omega
     have q4:¬ w.heap.size+1=aq:=by omega
     have q5:¬ gq=w.heap.size:=by omega
     have q6:¬ w.heap.size=gq:=by omega
     have q7:¬ gq=w.heap.size+1:=by omega
     have q8:¬ w.heap.size+1=gq:=by omega
     clear hord
     go_wp2_with fail
     go_region
     have HD:=HP5.out.done (.slice A5 n5 c5) (.slice A6 n6 c6) (.int .i64 a.start) (.slice A3 n3 c3) (.slice A4 n4 c4)
     go_wp2_with fail
     refine bodyPost_ret (v:=.tuple #[.agg #[.slice A5 n5 c5,.slice A6 n6 c6],.agg #[.int .i64 a.start,.slice A3 n3 c3,.slice A4 n4 c4]]) (by simp [results,Tryz.results65,go_sem,z0,z1,z2,z3,z4,v0,v1,v2,v3,v4]) rfl ⟨_,_,_,_,rfl,HD⟩
   · go_wp2_with fail
     refine (l11Any_any b _ HP5.out.cur).mono ?_
     rintro e w6 ⟨va,a',rfl,hau',hc6,ho6⟩
     obtain ⟨A7,n7,c7,A8,n8,c8,rfl⟩:=hau'.shape
     have HP6:=Hd_ (HP5.out.step ho6 hc6)
     have hlt5:=HP5.out.abk.lt
     have f0:=HP6.out.abk.frozen 0
     have f1:=HP6.out.abk.frozen 1
     have f2:=HP6.out.abk.frozen 2
     have u0:w6.cell? ⟨aq,0,none⟩=some (.int .i64 a.start):=HP6.out.abk.cell 0
     have u1:w6.cell? ⟨aq,1,none⟩=some (.slice A3 n3 c3):=HP6.out.abk.cell 1
     have u2:w6.cell? ⟨aq,2,none⟩=some (.slice A4 n4 c4):=HP6.out.abk.cell 2
     have hla:=HP6.out.abk.lt
     have HP7:=Hd_ (HP6.out.setA hau' hlt5)
     clear hc6 ho6 hau' HP5 HP6
     go_upto_region 7 with fail
     change Code.wp _ _ _ _ (put3 w6 aq (.int .i64 a'.start) (.slice A7 n7 c7) (.slice A8 n8 c8))
     generalize put3 w6 aq (.int .i64 a'.start) (.slice A7 n7 c7) (.slice A8 n8 c8)=w7 at *
     clear f0 f1 f2 u0 u1 u2 hla hlt5
     have x0:w7.cell? ⟨gq,0,none⟩=some (.slice A5 n5 c5):=HP7.out.gbk.cell 0
     have x1:w7.cell? ⟨gq,1,none⟩=some (.slice A6 n6 c6):=HP7.out.gbk.cell 1
     have y0:w7.cell? ⟨aq,0,none⟩=some (.int .i64 a'.start):=HP7.out.abk.cell 0
     have y1:w7.cell? ⟨aq,1,none⟩=some (.slice A7 n7 c7):=HP7.out.abk.cell 1
     have y2:w7.cell? ⟨aq,2,none⟩=some (.slice A8 n8 c8):=HP7.out.abk.cell 2
     have z0:w7.cell? ⟨w.heap.size,0,none⟩=some (.slice none 0 0):=HP7.out.res1.cell 0
     have z1:w7.cell? ⟨w.heap.size,1,none⟩=some (.slice none 0 0):=HP7.out.res1.cell 1
     have z2:w7.cell? ⟨w.heap.size+1,0,none⟩=some (.int .i64 0):=HP7.out.res2.cell 0
     have z3:w7.cell? ⟨w.heap.size+1,1,none⟩=some (.slice none 0 0):=HP7.out.res2.cell 1
     have z4:w7.cell? ⟨w.heap.size+1,2,none⟩=some (.slice none 0 0):=HP7.out.res2.cell 2
     have v0:=HP7.out.res1.frozen 0
     have v1:=HP7.out.res1.frozen 1
     have v2:=HP7.out.res2.frozen 0
     have v3:=HP7.out.res2.frozen 1
     have v4:=HP7.out.res2.frozen 2
     have hlr:=HP7.out.res1.lt
     have hls:=HP7.out.res2.lt
     have hord:=HP7.out.ord
     have q1:¬ aq=w.heap.size:=by omega
     have q2:¬ w.heap.size=aq:=by omega
     have q3:¬ aq=w.heap.size+1:=by omega
     have q4:¬ w.heap.size+1=aq:=by omega
     have q5:¬ gq=w.heap.size:=by omega
     have q6:¬ w.heap.size=gq:=by omega
     have q7:¬ gq=w.heap.size+1:=by omega
     have q8:¬ w.heap.size+1=gq:=by omega
     clear hord
     go_wp2_with fail
     go_region
     have HD:=HP7.out.done (.slice A5 n5 c5) (.slice A6 n6 c6) (.int .i64 a'.start) (.slice A7 n7 c7) (.slice A8 n8 c8)
     go_wp2_with fail
     refine bodyPost_ret (v:=.tuple #[.agg #[.slice A5 n5 c5,.slice A6 n6 c6],.agg #[.int .i64 a'.start,.slice A7 n7 c7,.slice A8 n8 c8]]) (by simp [results,Tryz.results65,go_sem,z0,z1,z2,z3,z4,v0,v1,v2,v3,v4]) rfl ⟨_,_,_,_,rfl,HD⟩
theorem within_any (n a b:Int) (w:World):Calls Tryz.prog 37 #[.int .i64 n,.int .i64 a,.int .i64 b] w fun e w'=>e=.returned (.bool (wi n a b))/\w'=w:=by
 unfold wi
 by_cases h1:a<=n
 · have e1:decide (a<=n)=true:=by simpa using h1
   by_cases h2:n<=b
   · go_enter Tryz.func37,Tryz.ntmps37
     go_wp2
     go_ret
     exact ⟨by simp [h1,h2],rfl⟩
   · go_enter Tryz.func37,Tryz.ntmps37
     go_wp2
     go_ret
     exact ⟨by simp [h1];try omega,rfl⟩
 · have e1:decide (a<=n)=false:=by simpa using h1
   go_enter Tryz.func37,Tryz.ntmps37
   go_wp2
   go_ret
   exact ⟨by simp [h1];try omega,rfl⟩
set_option maxHeartbeats 1000000 in
theorem implValidAutomaton (v:Value) (a:Au) (w:World) (hv:AuV 0 w.heap.size w v a) :
 Calls Tryz.prog 82 #[v] w fun e w'=>e=.returned (.bool (auOk a))/\Below w.heap.size w w':=by
 obtain ⟨ac,nx,rfl,⟨A1,c1,rfl,hl1,hm1,-⟩,us,⟨A2,c2,rfl,hl2,hm2,hx2⟩,hul,hrows⟩:=hv
 rw [hul] at hl2 ⊢
 have HU:=Hd_ hul
 clear hul
 unfold maxLen at hm1 hm2
 have hb0:Below w.heap.size w (w.alloc (.cells #[.int .i64 a.start,.slice A1 a.accept.length c1,.slice A2 a.next.length c2] 31)):=(Below.refl _ _).alloc (Nat.le_refl _) _
 have HW:=Hd_ within_any
 by_cases g1:wi a.accept.length 1 12=true
 · by_cases g2:wi a.start 0 ((a.accept.length:Int) - 1)=true
   · by_cases g3:a.next.length=a.accept.length
     · have HG3:=Hd_ g3
       have g3':((a.next.length:Int) != (a.accept.length:Int))=false:=by simp;omega
       have hr:auOk a=a.next.all (rowOk a.accept.length):=by simp [auOk,g1,g2,g3]
       have HR:=Hd_ hr
       clear hr g3
       obtain ⟨hn1,hn2⟩:=wi_iff.1 g1
       go_enter Tryz.func82,Tryz.ntmps82
       go_wp2_with (go_at_call 37;refine (HW.out _ _ _ _).mono ?_;rintro e w' ⟨rfl,rfl⟩)
       go_loop [32] (fun ii=>∃ i:Nat,i<=a.next.length/\ii=.int .i64 i/\(a.next.take i).all (rowOk a.accept.length)=true) (fun ii=>a.next.length - (intOf ii).toNat)
       case atStart=>exact ⟨0,Nat.zero_le _,rfl,rfl⟩
       case round =>
        obtain ⟨i,hi,rfl,hall⟩:=hrel
        have HA:=Hd_ hall
        clear hall
        by_cases hlt:i < a.next.length
        · obtain ⟨u,hu⟩:∃ u,us[i]?=some u:=⟨_,List.getElem?_eq_getElem (by have:=HU.out;omega)⟩
          obtain ⟨b,o,rfl,-,hb1,hc⟩:=hx2 i u hu
          have hxi:a.next[i]?=some a.next[i]:=List.getElem?_eq_getElem hlt
          have hvi:=hrows i u _ hu hxi
          generalize a.next[i]=row at hvi hxi
          have c0:=hc 0 _ rfl
          simp only [Nat.mul_one,Nat.add_zero] at c0
          obtain ⟨A3,c3,rfl,hl3,hm3,hx3⟩:=hvi
          unfold maxLen at hm3
          have HX:=Hd_ hxi
          clear hc hx2 hu hxi hrows
          go_wp2_with fail
          go_loop [38] (fun jj=>∃ j:Nat,j<=row.length/\jj=.int .i64 j/\(row.take j).all (fun t=>wi t (-1) ((a.accept.length:Int) - 1))=true) (fun jj=>row.length - (intOf jj).toNat)
          case atStart=>exact ⟨0,Nat.zero_le _,rfl,rfl⟩
          case round =>
           obtain ⟨j,hj,rfl,hall2⟩:=hrel
           have HB:=Hd_ hall2
           clear hall2
           by_cases hlt2:j < row.length
           · have hxj:row[j]?=some row[j]:=List.getElem?_eq_getElem hlt2
             obtain ⟨b2,o2,rfl,-,hb2,hc2⟩:=hx3 j _ hxj
             generalize row[j]=t at hc2 hxj
             have d0:=hc2 0 _ rfl
             simp only [Nat.mul_one,Nat.add_zero] at d0
             have HXJ:=Hd_ hxj
             clear hc2 hx3 hxj
             by_cases g4:wi t (-1) ((a.accept.length:Int) - 1)=true
             · go_wp2_with (go_at_call 37;refine (HW.out _ _ _ _).mono ?_;rintro e w' ⟨rfl,rfl⟩)
               go_round
               case rel=>exact ⟨j+1,by omega,by go_num,all_take_succ HXJ.out HB.out g4⟩
               case measure=>simp [intOf];omega
             · simp only [Bool.not_eq_true] at g4
               have hfin:auOk a=false:=by
                rw [HR.out]
                refine all_false_of HX.out ?_
                rw [rowOk,all_false_of HXJ.out g4]
                rfl
               have HF:=Hd_ hfin
               clear hfin
               go_wp2_with (go_at_call 37;refine (HW.out _ _ _ _).mono ?_;rintro e w' ⟨rfl,rfl⟩)
               go_ret
               exact ⟨by rw [HF.out];rfl,hb0⟩
           · obtain rfl:j=row.length:=by omega
             have hall3:row.all (fun t=>wi t (-1) ((a.accept.length:Int) - 1))=true:=by have:=HB.out;rwa [List.take_length] at this
             have H3:=Hd_ hall3
             clear hall3
             clear hx3
             by_cases g9:row.length=9
             · have g9':((row.length:Int) != 9)=false:=by simp;omega
               have hok:rowOk a.accept.length row=true:=by rw [rowOk,H3.out,g9];rfl
               have HO:=Hd_ hok
               clear hok g9
               go_wp2_with fail
               go_round
               case rel=>exact ⟨i+1,by omega,by go_num,all_take_succ HX.out HA.out HO.out⟩
               case measure=>simp [intOf];omega
             · have g9':((row.length:Int) != 9)=true:=by simp;omega
               have hfin:auOk a=false:=by
                rw [HR.out]
                refine all_false_of HX.out ?_
                rw [rowOk]
                simp [g9]
               have HF:=Hd_ hfin
               clear hfin g9
               go_wp2_with fail
               go_ret
               exact ⟨by rw [HF.out];rfl,hb0⟩
        · obtain rfl:i=a.next.length:=by omega
          have hfin:auOk a=true:=by rw [HR.out];have:=HA.out;rwa [List.take_length] at this
          have HF:=Hd_ hfin
          clear hfin hx2 hrows
          go_wp2_with fail
          go_ret
          exact ⟨by rw [HF.out];rfl,hb0⟩
     · have g3':((a.next.length:Int) != (a.accept.length:Int))=true:=by simp;omega
       have hr:auOk a=false:=by simp [auOk,g3]
       have HR:=Hd_ hr
       clear hr g3
       go_enter Tryz.func82,Tryz.ntmps82
       go_wp2_with (go_at_call 37;refine (HW.out _ _ _ _).mono ?_;rintro e w' ⟨rfl,rfl⟩)
       go_ret
       exact ⟨by rw [HR.out];rfl,hb0⟩
   · simp only [Bool.not_eq_true] at g2
     have hr:auOk a=false:=by simp [auOk,g2]
     have HR:=Hd_ hr
     clear hr
     go_enter Tryz.func82,Tryz.ntmps82
     go_wp2_with (go_at_call 37;refine (HW.out _ _ _ _).mono ?_;rintro e w' ⟨rfl,rfl⟩)
     go_ret
     exact ⟨by rw [HR.out];rfl,hb0⟩
 · simp only [Bool.not_eq_true] at g1
   have hr:auOk a=false:=by simp [auOk,g1]
   have HR:=Hd_ hr
   clear hr
   go_enter Tryz.func82,Tryz.ntmps82
   go_wp2_with (go_at_call 37;refine (HW.out _ _ _ _).mono ?_;rintro e w' ⟨rfl,rfl⟩)
   go_ret
   exact ⟨by rw [HR.out];rfl,hb0⟩
theorem isLetter_any (n:Int) (w:World):Calls Tryz.prog 119 #[.int .i64 n] w fun e w'=>e=.returned (.bool (wi n 0 8))/\w'=w:=by
 have HW:=Hd_ within_any
 go_enter Tryz.func119,Tryz.ntmps119
 go_wp2_with (go_at_call 37;refine (HW.out _ _ _ _).mono ?_;rintro e w' ⟨rfl,rfl⟩)
 go_ret
 exact ⟨rfl,rfl⟩
def mvI (a:Au) (s l:Int):Int:=if 0<=s/\wi l 0 8=true then mv a s.toNat l.toNat else -1
theorem mvI_in {a:Au} {s l:Nat} (hl:l < 9):mvI a s l=mv a s l:=by
 rw [mvI,if_pos ⟨by omega,wi_iff.2 ⟨by omega,by omega⟩⟩];simp
set_option maxHeartbeats 1000000 in
theorem move_any (v:Value) (a:Au) (s l:Int) (w:World) (hv:AuV 0 w.heap.size w v a) (hok:auOk a=true) (hs:s < (a.accept.length:Int)) :
 Calls Tryz.prog 107 #[v,.int .i64 s,.int .i64 l] w fun e w'=>e=.returned (.int .i64 (mvI a s l))/\Below w.heap.size w w':=by
 obtain ⟨A1,c1,A2,c2,rfl,hl1,hm1,hl2,hm2,hC⟩:=hv.form hok
 have HL:=Hd_ isLetter_any
 have hb0:Below w.heap.size w (w.alloc (.cells #[.int .i64 a.start,.slice A1 a.accept.length c1,.slice A2 a.accept.length c2] 31)):=(Below.refl _ _).alloc (Nat.le_refl _) _
 have HOK:=Hd_ hok
 clear hok hv
 by_cases h0:s < 0
 · have hfin:mvI a s l=-1:=by rw [mvI,if_neg (by omega)]
   have HF:=Hd_ hfin
   clear hfin
   go_enter Tryz.func107,Tryz.ntmps107
   go_wp2_with fail
   go_ret
   exact ⟨by rw [HF.out];rfl,hb0⟩
 · obtain ⟨s,rfl⟩:=Int.eq_ofNat_of_zero_le (show 0<=s by omega)
   cases hl:wi l 0 8 with
   | false =>
     have hfin:mvI a s l=-1:=by rw [mvI,if_neg (by simp [hl])]
     have HF:=Hd_ hfin
     clear hfin
     go_enter Tryz.func107,Tryz.ntmps107
     go_wp2_with (go_at_call 119;refine (HL.out _ _).mono ?_;rintro e w' ⟨rfl,rfl⟩)
     go_ret
     exact ⟨by rw [HF.out];rfl,hb0⟩
   | true =>
     have hl0:=wi_iff.1 hl
     obtain ⟨l,rfl⟩:=Int.eq_ofNat_of_zero_le hl0.1
     obtain ⟨b2,o2,b3,o3,c3,rfl,hb2,d2,hl3,hm3,hb3,hc3⟩:=hC.row s (by omega)
     have hl9:l < 9:=by omega
     have d3:=hc3 l hl9
     have HF:=Hd_ (mvI_in (a:=a) (s:=s) (l:=l) (by omega))
     clear hc3 hC hl0
     go_enter Tryz.func107,Tryz.ntmps107
     go_wp2_with (go_at_call 119;refine (HL.out _ _).mono ?_;rintro e w' ⟨rfl,rfl⟩)
     go_ret
     exact ⟨by rw [HF.out];rfl,hb0⟩
set_option maxHeartbeats 1000000 in
theorem closure_any (v:Value) (a:Au) (s x:Nat) (w:World) (hv:AuV 0 w.heap.size w v a) (hok:auOk a=true) (hs:s < a.accept.length) (hx:x<=2) :
 Calls Tryz.prog 101 #[v,.int .i64 (s:Int),.int .i64 (x:Int)] w fun e w'=>e=.returned (.int .i64 (cls a x s:Int))/\Below w.heap.size w w':=by
 have hv0:=hv
 obtain ⟨A1,c1,A2,c2,rfl,-⟩:=hv.form hok
 clear hv
 have hn12:a.accept.length<=12:=(auOk_iff.1 hok).1.2
 have hb0:Below w.heap.size w (w.alloc (.cells #[.int .i64 a.start,.slice A1 a.accept.length c1,.slice A2 a.accept.length c2] 31)):=(Below.refl _ _).alloc (Nat.le_refl _) _
 have HV:=Hd_ hv0
 have HOK:=Hd_ hok
 clear hok
 obtain ⟨R,hR⟩:∃ R,R=cls a x s:=⟨_,rfl⟩
 rw [<- hR]
 have HR:=Hd_ hR
 clear hR hv0
 go_enter Tryz.func101,Tryz.ntmps101
 go_wp2_with fail
 go_loopw [7,8] (fun st ss wr=>∃ (f m:Nat) (s:Int) (u:World),st=.int .i64 (m:Int)/\ss=.int .i64 s/\clsF a (6+x) f s m=R/\f+(mem 12 m).length=13/\m < 2 ^ a.accept.length/\s < (a.accept.length:Int)/\wr=ext (w.alloc (.cells #[.int .i64 a.start,.slice A1 a.accept.length c1,.slice A2 a.accept.length c2] 31)) u) (fun st _ _=>13 - (mem 12 (intOf st).toNat).length)
 case atStart=>exact ⟨13,0,s,_,rfl,rfl,HR.out.symm,by simp [mem],Nat.two_pow_pos _,by omega,ext_self _⟩
 case round =>
  obtain ⟨f,m,s,u,rfl,rfl,hcl,hf,hm,hs,rfl⟩:=hrel
  have hm2:=lt12 HOK.out hm
  have hml:=mem_len 12 m
  have HC:=Hd_ hcl
  have HFC:=Hd_ hf
  have hbw:=below_trans hb0 (ext_below _ u)
  clear hcl hf
  by_cases h0:0<=s
  · obtain ⟨s,rfl⟩:=Int.eq_ofNat_of_zero_le h0
    have hs12:s < 12:=by omega
    have e1:=shl_bit (s:=s) (by omega)
    have e2:=or_ins (m:=m) (s:=s) (by omega) (by omega)
    cases hb:m.testBit s with
    | true =>
      have e3:=bit_on (by omega) (by omega) hb
      have hfin:m=R:=by rw [<- HC.out];exact (clsF_stop (.inr (by simpa using hb))).symm
      have HF:=Hd_ hfin
      clear hfin hb h0
      go_wp2_with fail
      go_ret
      exact ⟨by rw [HF.out];rfl,hbw⟩
    | false =>
      have e3:=bit_off (by omega) (by omega) hb
      have HB:=Hd_ hb
      have hmv:=mv_lt HOK.out s (6+x)
      clear hb h0
      go_wp2_with fail
      refine (move_any _ a (s:Int) _ _ (HV.out.keep hbw) HOK.out (by omega)).mono ?_
      rintro e w1 ⟨rfl,hb1⟩
      obtain ⟨u1,rfl⟩:=ext_of (below_trans (ext_below _ u) hb1)
      rw [show (6:Int)+(x:Int)=((6+x:Nat):Int) by omega,mvI_in (by omega)]
      go_wp2_with fail
      go_roundw
      case rel =>
       have h1:=cnt_or (n:=12) (m:=m) hs12 HB.out
       have h2:=HFC.out
       obtain ⟨f,rfl⟩:∃ f',f=f'+1:=⟨f - 1,by omega⟩
       refine ⟨f,ins m s,_,_,rfl,rfl,by rw [<- HC.out];exact (clsF_go HB.out).symm,by omega,ins_lt hm (by omega),by omega,rfl⟩
      case measure =>
       have h1:=cnt_or (n:=12) (m:=m) hs12 HB.out
       simp [intOf];omega
  · have hfin:m=R:=by rw [<- HC.out];exact (clsF_stop (.inl (by omega))).symm
    have h0':decide (s >= 0)=false:=by simp;omega
    have HF:=Hd_ hfin
    clear hfin
    go_wp2_with fail
    go_ret
    exact ⟨by rw [HF.out];rfl,hbw⟩
set_option maxHeartbeats 1000000 in
theorem members_any (m:Nat) (w:World) (hm:m < 4096) :
 Calls Tryz.prog 100 #[.int .i64 (m:Int)] w fun e w'=>∃ v',e=.returned v'/\Own w.heap.size w'.heap.size w' 3 cN 1 v' (mem 12 m)/\Below w.heap.size w w':=by
 obtain ⟨R,hR⟩:∃ R,R=mem 12 m:=⟨_,rfl⟩
 rw [<- hR]
 have HR:=Hd_ hR
 clear hR
 go_enter Tryz.func100,Tryz.ntmps100
 go_wp2_with fail
 go_loopw [3,4] (fun out ii wr=>∃ i:Nat,i<=12/\ii=.int .i64 (i:Int)/\wr.ownsRow w.heap.size 3 1 out (mem i m).length ((mem i m).flatMap cN)/\Below w.heap.size w wr) (fun _ ii _=>12 - (intOf ii).toNat)
 case atStart=>exact ⟨0,Nat.zero_le _,rfl,World.ownsRow_lit w #[] 0 (Nat.le_refl _) (by decide) rfl,(Below.refl _ _).alloc (Nat.le_refl _) _⟩
 case round =>
  obtain ⟨i,hi,rfl,hrow,hbel⟩:=hrel
  have HROW:=Hd_ hrow
  have hs:=hbel.size
  have hml:=mem_len i m
  clear hrow
  by_cases hlt:2 ^ i<=m
  · have e1:=shr_on (by omega) hlt
    have hi12:i < 12:=by
     rcases Nat.lt_or_ge i 12 with h | h
     · exact h
     · have:2 ^ 12<=2 ^ i:=Nat.pow_le_pow_right (by omega) h
       omega
    clear hlt
    cases hb:m.testBit i with
    | true =>
      have e3:=bit_on (by omega) (by omega) hb
      have HM:=Hd_ (mem_yes hb)
      clear hb
      go_wp2_with (at_builtin;(refine wpList_append1 cN elInt rfl _ _ rfl w.heap.size _ (mem i m) i _ 1 _ (by rfl) HROW.out (by rfl) rfl rfl rfl (cN_one _) (by omega) (by omega) hs ?_);rw [<- HM.out];intro v' w4 hrow' hb4 _ _)
      go_roundw
      case rel=>exact ⟨i+1,by omega,by go_num,hrow',hbel.trans hb4⟩
      case measure=>simp [intOf];omega
    | false =>
      have e3:=bit_off (by omega) (by omega) hb
      have HM:=Hd_ (mem_no hb)
      clear hb
      go_wp2_with fail
      go_roundw
      case rel=>exact ⟨i+1,by omega,by go_num,by rw [HM.out];exact HROW.out,hbel⟩
      case measure=>simp [intOf];omega
  · have e1:=shr_off (i:=i) (m:=m) (by omega) (by omega)
    have hfin:R=mem i m:=by rw [HR.out];exact mem_stop (by omega) hi
    have HF:=Hd_ hfin
    clear hfin hlt
    go_wp2_with fail
    go_ret
    exact ⟨_,rfl,by rw [HF.out];exact Own.of_row HROW.out rfl rfl,hbel⟩
set_option maxHeartbeats 2000000 in
theorem after_any (v:Value) (a:Au) (set x l:Nat) (w:World) (hv:AuV 0 w.heap.size w v a) (hok:auOk a=true) (hset:set < 2 ^ a.accept.length) (hx:x<=2) (hl:l < 9) :
 Calls Tryz.prog 83 #[v,.int .i64 (set:Int),.int .i64 (x:Int),.int .i64 (l:Int)] w fun e w'=>e=.returned (.int .i64 (aft a set x l:Int))/\Below w.heap.size w w':=by
 have hv0:=hv
 obtain ⟨A1,c1,A2,c2,rfl,-⟩:=hv.form hok
 clear hv
 have hn12:a.accept.length<=12:=(auOk_iff.1 hok).1.2
 have hb0:Below w.heap.size w (w.alloc (.cells #[.int .i64 a.start,.slice A1 a.accept.length c1,.slice A2 a.accept.length c2] 31)):=(Below.refl _ _).alloc (Nat.le_refl _) _
 have HV:=Hd_ hv0
 have HOK:=Hd_ hok
 have HSET:=Hd_ hset
 have h4096:=lt12 hok hset
 clear hok hv0 hset
 go_enter Tryz.func83,Tryz.ntmps83
 go_wp2_with fail
 refine (members_any set _ h4096).mono ?_
 rintro e w1 ⟨v1,rfl,ho,hb1⟩
 obtain ⟨A3,c3,rfl,hl3,hm3,hC3⟩:=ho.form cN_len
 have hml:=mem_len 12 set
 have hb2:=below_trans hb0 hb1
 have HC3:=Hd_ hC3
 have b0:=(Blk.new w _ _ w.heap.size rfl).keep hb1
 have x0:w1.cell? ⟨w.heap.size,0,none⟩=some _:=b0.cell 0
 have x1:w1.cell? ⟨w.heap.size,1,none⟩=some _:=b0.cell 1
 have x2:w1.cell? ⟨w.heap.size,2,none⟩=some _:=b0.cell 2
 have l0:=b0.lt
 clear b0
 clear hb1 hb0 ho hC3
 go_wp2_with fail
 have hfl:∀ i,((mem 12 set).take i).foldl (aftS a x l) 0 < 2 ^ a.accept.length:=fun i=>foldl_inv (P:=fun m=>m < 2 ^ a.accept.length) (fun m s hm=>aftS_lt HOK.out x l m s hm) _ _ (Nat.two_pow_pos _)
 have HFL:=Hd_ hfl
 clear hfl
 go_loopw [9,18] (fun out ii wr=>∃ (i:Nat) (u:World),i<=(mem 12 set).length/\ii=.int .i64 (i:Int)/\out=.int .i64 (((mem 12 set).take i).foldl (aftS a x l) 0:Nat)/\wr=ext w1 u) (fun _ ii _=>(mem 12 set).length - (intOf ii).toNat)
 case atStart=>exact ⟨0,w1,Nat.zero_le _,rfl,rfl,ext_self _⟩
 case round =>
  obtain ⟨i,u,hi,rfl,rfl,rfl⟩:=hrel
  by_cases hlt:i < (mem 12 set).length
  · have hsi:(mem 12 set)[i]?=some (mem 12 set)[i]:=List.getElem?_eq_getElem hlt
    have hsm:=mem_mem.1 (List.getElem_mem hlt)
    generalize (mem 12 set)[i]=s at hsi hsm
    have hsn:s < a.accept.length:=by
     rcases Nat.lt_or_ge s a.accept.length with h | h
     · exact h
     · have:=Nat.testBit_lt_two_pow (Nat.lt_of_lt_of_le HSET.out (Nat.pow_le_pow_right (by omega) h))
       rw [hsm.2] at this;cases this
    obtain ⟨b3,o3,rfl,hb3,d3⟩:=HC3.out.nat hsi
    have HFT:=Hd_ (foldl_take (f:=aftS a x l) hsi 0)
    have hbw:=below_trans hb2 (ext_below w1 u)
    have hm0:=HFL.out i
    generalize ((mem 12 set).take i).foldl (aftS a x l) 0=m0 at *
    clear hsi hsm
    go_wp2_with fail
    refine (closure_any _ a s x _ (HV.out.keep hbw) HOK.out hsn hx).mono ?_
    rintro e w2 ⟨rfl,hb5⟩
    obtain ⟨u2,rfl⟩:=ext_of (below_trans (ext_below w1 u) hb5)
    have hcl:=cls_lt HOK.out x s hsn
    have hcl4:=lt12 HOK.out hcl
    go_wp2_with fail
    refine (members_any (cls a x s) _ hcl4).mono ?_
    rintro e w3 ⟨v4,rfl,ho4,hb6⟩
    obtain ⟨A4,c4,rfl,hl4,hm4,hC4⟩:=ho4.form cN_len
    have hml4:=mem_len 12 (cls a x s)
    have hb7:=below_trans (ext_below w1 u2) hb6
    have hb8:=below_trans hb2 hb7
    have x0:=bcell hb7 x0 l0
    have x1:=bcell hb7 x1 l0
    have x2:=bcell hb7 x2 l0
    have l0:=Nat.lt_of_lt_of_le l0 hb7.size
    have HC4:=Hd_ hC4
    have HCL:=Hd_ hcl
    clear hb6 hb5 hbw ho4 hC4 hcl
    go_wp2_with fail
    go_loopw [9,28] (fun out jj wr=>∃ (j:Nat) (u:World),j<=(mem 12 (cls a x s)).length/\jj=.int .i64 (j:Int)/\out=.int .i64 (((mem 12 (cls a x s)).take j).foldl (aft1 a l) m0:Nat)/\wr=ext w3 u) (fun _ jj _=>(mem 12 (cls a x s)).length - (intOf jj).toNat)
    case atStart=>exact ⟨0,w3,Nat.zero_le _,rfl,rfl,ext_self _⟩
    case round =>
     obtain ⟨j,u3,hj,rfl,rfl,rfl⟩:=hrel
     by_cases hlt2:j < (mem 12 (cls a x s)).length
     · have hti:(mem 12 (cls a x s))[j]?=some (mem 12 (cls a x s))[j]:=List.getElem?_eq_getElem hlt2
       have htm:=mem_mem.1 (List.getElem_mem hlt2)
       generalize (mem 12 (cls a x s))[j]=t at hti htm
       have htn:t < a.accept.length:=by
        rcases Nat.lt_or_ge t a.accept.length with h | h
        · exact h
        · have:=Nat.testBit_lt_two_pow (Nat.lt_of_lt_of_le HCL.out (Nat.pow_le_pow_right (by omega) h))
          rw [htm.2] at this;cases this
       obtain ⟨b4,o4,rfl,hb4,d4⟩:=HC4.out.nat hti
       have HFT2:=Hd_ (foldl_take (f:=aft1 a l) hti m0)
       have hm1:((mem 12 (cls a x s)).take j).foldl (aft1 a l) m0 < 2 ^ a.accept.length:=foldl_inv (P:=fun m=>m < 2 ^ a.accept.length) (fun m s hm=>aft1_lt HOK.out l m s hm) _ _ hm0
       have hm14:=lt12 HOK.out hm1
       generalize ((mem 12 (cls a x s)).take j).foldl (aft1 a l) m0=m1 at *
       have hbw:=below_trans hb8 (ext_below w3 u3)
       have hmv:=mv_lt HOK.out t l
       have HA:=Hd_ (show aft1 a l m1 t=if 0<=mv a t l then ins m1 (mv a t l).toNat else m1 from rfl)
       clear hti htm hm0
       go_wp2_with fail
       refine (move_any _ a (t:Int) (l:Int) _ (HV.out.keep hbw) HOK.out (by omega)).mono ?_
       rintro e w4 ⟨rfl,hb9⟩
       obtain ⟨u4,rfl⟩:=ext_of (below_trans (ext_below w3 u3) hb9)
       rw [mvI_in hl]
       clear hb9
       by_cases h0:0<=mv a t l
       · generalize mv a t l=z at *
         obtain ⟨z,rfl⟩:=Int.eq_ofNat_of_zero_le h0
         have e1:=shl_bit (s:=z) (by omega)
         have e2:=or_ins (m:=m1) (s:=z) (by omega) (by omega)
         go_wp2_with fail
         go_roundw
         case rel=>exact ⟨j+1,u4,by omega,by go_num,by rw [HFT2.out,HA.out,if_pos h0];simp,rfl⟩
         case measure=>simp [intOf];omega
       · have h0':decide (mv a t l >= 0)=false:=by simp;omega
         go_wp2_with fail
         go_roundw
         case rel=>exact ⟨j+1,u4,by omega,by go_num,by rw [HFT2.out,HA.out,if_neg (by omega)],rfl⟩
         case measure=>simp [intOf];omega
     · obtain rfl:j=(mem 12 (cls a x s)).length:=by omega
       have HT:=Hd_ (show ((mem 12 (cls a x s)).take (mem 12 (cls a x s)).length).foldl (aft1 a l) m0=aftS a x l m0 s by rw [List.take_length];rfl)
       go_wp2_with fail
       go_roundw
       case rel =>
        obtain ⟨u5,hu5⟩:=ext_of (below_trans hb7 (ext_below w3 u3))
        exact ⟨i+1,u5,by omega,by go_num,by rw [HFT.out,HT.out],hu5⟩
       case measure=>simp [intOf];omega
  · obtain rfl:i=(mem 12 set).length:=by omega
    have HT:=Hd_ (show ((mem 12 set).take (mem 12 set).length).foldl (aftS a x l) 0=aft a set x l by rw [List.take_length];rfl)
    go_wp2_with fail
    go_ret
    exact ⟨by rw [HT.out];rfl,below_trans hb2 (ext_below w1 u)⟩
theorem bit_in {n m t:Nat} (hm:m < 2 ^ n) (ht:m.testBit t=true):t < n:=by
 rcases Nat.lt_or_ge t n with h | h
 · exact h
 · have:=Nat.testBit_lt_two_pow (Nat.lt_of_lt_of_le hm (Nat.pow_le_pow_right (by omega) h))
   rw [ht] at this;cases this
theorem any_take {α:Type} {p:α->Bool} {xs:List α} {i:Nat} {x:α} (h:xs[i]?=some x):(xs.take (i+1)).any p=((xs.take i).any p || p x):=by
 rw [take_snoc h,List.any_append];simp
theorem any_of_at {α:Type} {p:α->Bool} {xs:List α} {i:Nat} {x:α} (h:xs[i]?=some x) (hp:p x=true):xs.any p=true:=List.any_eq_true.2 ⟨x,List.mem_of_getElem? h,hp⟩
set_option maxHeartbeats 2000000 in
theorem acceptsAt_any (v:Value) (a:Au) (set x:Nat) (w:World) (hv:AuV 0 w.heap.size w v a) (hok:auOk a=true) (hset:set < 2 ^ a.accept.length) (hx:x<=2) :
 Calls Tryz.prog 70 #[v,.int .i64 (set:Int),.int .i64 (x:Int)] w fun e w'=>e=.returned (.bool (acc a set x))/\Below w.heap.size w w':=by
 have hv0:=hv
 obtain ⟨A1,c1,A2,c2,rfl,hl1,hm1,-,-,hAC,-⟩:=hv.form hok
 clear hv
 have hn12:a.accept.length<=12:=(auOk_iff.1 hok).1.2
 have hb0:Below w.heap.size w (w.alloc (.cells #[.int .i64 a.start,.slice A1 a.accept.length c1,.slice A2 a.accept.length c2] 31)):=(Below.refl _ _).alloc (Nat.le_refl _) _
 have HV:=Hd_ hv0
 have HOK:=Hd_ hok
 have HSET:=Hd_ hset
 have HAC:=Hd_ hAC
 have h4096:=lt12 hok hset
 clear hok hv0 hset hAC
 go_enter Tryz.func70,Tryz.ntmps70
 go_wp2_with fail
 refine (members_any set _ h4096).mono ?_
 rintro e w1 ⟨v1,rfl,ho,hb1⟩
 obtain ⟨A3,c3,rfl,hl3,hm3,hC3⟩:=ho.form cN_len
 have hml:=mem_len 12 set
 have hb2:=below_trans hb0 hb1
 have HC3:=Hd_ hC3
 have b0:=(Blk.new w _ _ w.heap.size rfl).keep hb1
 have x0:w1.cell? ⟨w.heap.size,0,none⟩=some _:=b0.cell 0
 have x1:w1.cell? ⟨w.heap.size,1,none⟩=some _:=b0.cell 1
 have x2:w1.cell? ⟨w.heap.size,2,none⟩=some _:=b0.cell 2
 have l0:=b0.lt
 clear b0
 clear hb1 hb0 ho hC3
 go_wp2_with fail
 go_loopw [14] (fun ii wr=>∃ (i:Nat) (u:World),i<=(mem 12 set).length/\ii=.int .i64 (i:Int)/\((mem 12 set).take i).any (accC a x)=false/\wr=ext w1 u) (fun ii _=>(mem 12 set).length - (intOf ii).toNat)
 case atStart=>exact ⟨0,w1,Nat.zero_le _,rfl,rfl,ext_self _⟩
 case round =>
  obtain ⟨i,u,hi,rfl,hno,rfl⟩:=hrel
  have HNO:=Hd_ hno
  clear hno
  by_cases hlt:i < (mem 12 set).length
  · have hsi:(mem 12 set)[i]?=some (mem 12 set)[i]:=List.getElem?_eq_getElem hlt
    have hsm:=mem_mem.1 (List.getElem_mem hlt)
    generalize (mem 12 set)[i]=s at hsi hsm
    have hsn:=bit_in HSET.out hsm.2
    obtain ⟨b3,o3,rfl,hb3,d3⟩:=HC3.out.nat hsi
    have hbw:=below_trans hb2 (ext_below w1 u)
    have HSI:=Hd_ hsi
    clear hsi hsm
    go_wp2_with fail
    refine (closure_any _ a s x _ (HV.out.keep hbw) HOK.out hsn hx).mono ?_
    rintro e w2 ⟨rfl,hb5⟩
    obtain ⟨u2,rfl⟩:=ext_of (below_trans (ext_below w1 u) hb5)
    have hcl:=cls_lt HOK.out x s hsn
    have hcl4:=lt12 HOK.out hcl
    go_wp2_with fail
    refine (members_any (cls a x s) _ hcl4).mono ?_
    rintro e w3 ⟨v4,rfl,ho4,hb6⟩
    obtain ⟨A4,c4,rfl,hl4,hm4,hC4⟩:=ho4.form cN_len
    have hml4:=mem_len 12 (cls a x s)
    have hb7:=below_trans (ext_below w1 u2) hb6
    have hb8:=below_trans hb2 hb7
    have x0:=bcell hb7 x0 l0
    have x1:=bcell hb7 x1 l0
    have x2:=bcell hb7 x2 l0
    have l0:=Nat.lt_of_lt_of_le l0 hb7.size
    have HC4:=Hd_ hC4
    have HCL:=Hd_ hcl
    have HAC3:=Hd_ (HAC.out.keep hb8)
    have HAE:=Hd_ (show accC a x s=(mem 12 (cls a x s)).any fun t=>a.accept.getD t false from rfl)
    clear hb6 hb5 hbw ho4 hC4 hcl
    go_wp2_with fail
    go_loopw [24] (fun jj wr=>∃ (j:Nat) (u:World),j<=(mem 12 (cls a x s)).length/\jj=.int .i64 (j:Int)/\((mem 12 (cls a x s)).take j).any (fun t=>a.accept.getD t false)=false/\wr=ext w3 u) (fun jj _=>(mem 12 (cls a x s)).length - (intOf jj).toNat)
    case atStart=>exact ⟨0,w3,Nat.zero_le _,rfl,rfl,ext_self _⟩
    case round =>
     obtain ⟨j,u3,hj,rfl,hno,rfl⟩:=hrel
     have HNJ:=Hd_ hno
     clear hno
     by_cases hlt2:j < (mem 12 (cls a x s)).length
     · have hti:(mem 12 (cls a x s))[j]?=some (mem 12 (cls a x s))[j]:=List.getElem?_eq_getElem hlt2
       have htm:=mem_mem.1 (List.getElem_mem hlt2)
       generalize (mem 12 (cls a x s))[j]=t at hti htm
       have htn:=bit_in HCL.out htm.2
       obtain ⟨b4,o4,rfl,hb4,d4⟩:=HC4.out.nat hti
       have hbw:=below_trans hb8 (ext_below w3 u3)
       have hai:a.accept[t]?=some a.accept[t]:=List.getElem?_eq_getElem htn
       obtain ⟨b5,o5,rfl,hb5,d5⟩:=HAC3.out.bool hai
       have hag:a.accept.getD t false=a.accept[t]:=by simp [List.getD,hai]
       generalize a.accept[t]=b at *
       have HAG:=Hd_ hag
       have HTI:=Hd_ hti
       clear hti htm hai hag
       cases b with
       | true =>
         have hfin:acc a set x=true:=any_of_at HSI.out (by rw [HAE.out];exact any_of_at HTI.out HAG.out)
         have HF:=Hd_ hfin
         clear hfin
         go_wp2_with fail
         go_ret
         exact ⟨by rw [HF.out];rfl,hbw⟩
       | false =>
         go_wp2_with fail
         go_roundw
         case rel=>exact ⟨j+1,u3,by omega,by go_num,by rw [any_take HTI.out,HNJ.out,HAG.out];rfl,rfl⟩
         case measure=>simp [intOf];omega
     · obtain rfl:j=(mem 12 (cls a x s)).length:=by omega
       have HT:=Hd_ (show accC a x s=false by have h:=HNJ.out;rw [List.take_length] at h;rw [HAE.out];exact h)
       go_wp2_with fail
       go_roundw
       case rel =>
        obtain ⟨u5,hu5⟩:=ext_of (below_trans hb7 (ext_below w3 u3))
        exact ⟨i+1,u5,by omega,by go_num,by rw [any_take HSI.out,HNO.out,HT.out];rfl,hu5⟩
       case measure=>simp [intOf];omega
  · obtain rfl:i=(mem 12 set).length:=by omega
    have HT:=Hd_ (show acc a set x=false by have h:=HNO.out;rw [List.take_length] at h;exact h)
    go_wp2_with fail
    go_ret
    exact ⟨by rw [HT.out];rfl,below_trans hb2 (ext_below w1 u)⟩
end Go.Proofs.YtcnenpjaoalmeaaGreat
