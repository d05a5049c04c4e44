/- Parts of the proof, joined into one text: SbsD, StrD, MakE, ParE, KnoE, AnyA. -/
import Derived.Test.YtjpdembmchnbgaaGreatOnlzPDGEJABA
import Derived.Test.YtjpdembmchnbgaaGreatOnlzLJJOBLAE
import Derived.Test.YtjpdembmchnbgaaGreatOnlzBCJHBOCD
import Derived.Test.YtjpdembmchnbgaaGreatOnlzNELCFPNN
import Derived.RegionTactic
import Derived.BigRegion
set_option linter.unusedVariables false
set_option linter.unusedSimpArgs false
namespace Go.Proofs.YtjpdembmchnbgaaGreat
open Go.ChangeShapes Go.WideShapes Go.ChangeAt Go.RowKit
attribute [local go_sem] ext_cell ext_frozen ext_lt ext_lt1 ext_lt2 ext_lt3 ltn2 ltn3 ltn13 lts1 lts2 lts3
theorem AsR.grown {l h r q:Nat} {w0 w w':World} {st:Int} {ac nx:Value} {us:List Value} {acc:List Bool} {nxt:List (List Int)} {row:Option Nat} (a:AsR l h r q w0 w st ac nx us acc nxt) (hg:w.grownBy w' row) (hn:∀ b,row=some b->q < b/\b ∉ blks (nx :: us)/\ac.ownBlock ≠ some b):AsR l h r q w0 w' st ac nx us acc nxt:=by
 have hd:=a.ord
 have hb:Below (q+1) w w':=⟨hg.os,hg.tape,hg.output,hg.size,fun n hn'=>hg.block n (by have:=a.blk.lt;omega) (fun e=>by have:=(hn n e.symm).1;omega)⟩
 have hs:=a.frm.size
 exact ⟨a.res.below hb (by omega),a.blk.below hb (by omega),⟨ownsRow_block a.au.acc fun g hk=>hg.block g (a.au.acc.lt g hk).2 (fun e=>(hn g e.symm).2.2 hk),a.au.nxt.blocks fun g hm=>hg.block g (a.au.nxt.lt g hm).2 (fun e=>(hn g e.symm).2.1 hm),a.au.apart⟩,a.frm.andBelow hb (by omega),hd⟩
theorem AsR.off {r q:Nat} {w0 w:World} {st:Int} {ac nx:Value} {us:List Value} {acc:List Bool} {nxt:List (List Int)} (a:AsR 0 0 r q w0 w st ac nx us acc nxt):Below w0.heap.size w0 (((w.setCell ⟨r,0,none⟩ (.int .i64 0)).setCell ⟨r,1,none⟩ (.slice none 0 0)).setCell ⟨r,2,none⟩ (.slice none 0 0)):=by
 have hd:=a.ord
 have hb:Below w0.heap.size w0 w:=⟨a.frm.os,a.frm.tape,a.frm.output,a.frm.size,fun n hn=>a.frm.block n hn (.inr (Nat.zero_le _))⟩
 exact ((hb.setCell (p:=⟨r,0,none⟩) (by simp only;omega) _).setCell (p:=⟨r,1,none⟩) (by simp only;omega) _).setCell (p:=⟨r,2,none⟩) (by simp only;omega) _
/-- the sets' list, the positions' box and the automaton under way -/
structure SbR (w0 w:World) (q:Nat) (ps:Array Value) (sv:Value) (S:List Int) (ac nx:Value) (us:List Value) (acc:List Bool) (nxt:List (List Int)):Prop where
 aut:AsR 0 0 (w0.heap.size+1) q w0 w 0 ac nx us acc nxt
 box:Blk w w0.heap.size 159 ps
 sets:w.ownsRow (q+1) 3 1 sv S.length (S.flatMap cI)
 far:∀ b,sv.ownBlock=some b->b ∉ blks (nx :: us)/\ac.ownBlock ≠ some b
section
variable {w0 w w':World} {q:Nat} {ps:Array Value} {sv:Value} {S:List Int} {ac nx:Value} {us:List Value} {acc:List Bool} {nxt:List (List Int)}
theorem SbR.below (h:SbR w0 w q ps sv S ac nx us acc nxt) (hb:Below w.heap.size w w'):SbR w0 w' q ps sv S ac nx us acc nxt :=
 ⟨h.aut.below hb,h.box.keep hb,ownsRow_below h.sets hb (Nat.le_refl _),h.far⟩
/-- a row elsewhere grows -/
theorem SbR.row {u:Option Nat} (h:SbR w0 w q ps sv S ac nx us acc nxt) (hg:w.grownBy w' u) (hn:∀ b,u=some b->q < b/\b ∉ blks (nx :: us)/\ac.ownBlock ≠ some b/\sv.ownBlock ≠ some b):SbR w0 w' q ps sv S ac nx us acc nxt:=by
 have hd:=h.aut.ord
 exact ⟨h.aut.grown hg fun b e=>⟨(hn b e).1,(hn b e).2.1,(hn b e).2.2.1⟩,(hg.block _ h.box.lt (fun e=>by have:=(hn _ e.symm).1;omega)).trans h.box,ownsRow_block h.sets fun g hk=>hg.block g (h.sets.lt g hk).2 (fun e=>(hn g e.symm).2.2.2 hk),h.far⟩
/-- one set more -/
theorem SbR.push {g n c:Nat} {S':List Int} (h:SbR w0 w q ps sv S ac nx us acc nxt) (hr:w'.ownsRow (q+1) 3 1 (.slice (some ⟨g,0,none⟩) n c) S'.length (S'.flatMap cI)) (hg:w.grownBy w' sv.ownBlock) (hat:sv.ownBlock=some g ∨ w.heap.size<=g):SbR w0 w' q ps (.slice (some ⟨g,0,none⟩) n c) S' ac nx us acc nxt:=by
 have hd:=h.aut.ord
 refine ⟨h.aut.grown hg fun b e=>⟨by have:=(h.sets.lt b e).1;omega,h.far b e⟩,(hg.block _ h.box.lt (fun e=>by have:=(h.sets.lt _ e.symm).1;omega)).trans h.box,hr,fun b hb=>?_⟩
 cases hb
 rcases hat with h1 | h1
 · exact h.far g h1
 · exact ⟨fun hm=>by have:=(h.aut.au.nxt.lt g hm).2;omega,fun e=>by have:=(h.aut.au.acc.lt g e).2;omega⟩
end
def SubOut (w:World) (e:Ending) (w':World):Prop :=
 ∃ A1 n1 c1 A2 n2 c2 st is,e=.returned (.tuple #[.agg #[.int .i64 st,.slice A1 n1 c1,.slice A2 n2 c2],.bool is])/\(is=true->∃ us acc nxt,AuR w.heap.size w' (.slice A1 n1 c1) (.slice A2 n2 c2) us acc nxt/\(acc.length=nxt.length/\0 < nxt.length/\nxt.length<=100/\∀ row ∈ nxt,row.length=9))/\Below w.heap.size w w'
set_option maxHeartbeats 16000000 in
theorem l11Subsets_any (v:Value) (L F:List Int) (w:World) (hv:PosV 0 w.heap.size w v L F) :
 Calls Tryz.prog 134 #[v,.int .i64 12] w (SubOut w):=by
 have HV:=Hd_ hv
 obtain ⟨ls,fs,fi,la,nu,rfl,h1,h2,-⟩:=hv
 obtain ⟨A1,n1,c1,rfl⟩:=h1.shape
 obtain ⟨A2,n2,c2,rfl⟩:=h2.shape
 clear h1 h2
 have hb0:=((((Below.refl w.heap.size w).alloc (Nat.le_refl _) (.cells #[.slice A1 n1 c1,.int .i64 fi,.int .i64 la,.slice A2 n2 c2,.bool nu] 159)).alloc (by simp) (.cells #[.int .i64 0,.slice none 0 0,.slice none 0 0] 31)).alloc (by simp;omega) (.cells #[.int .i64 0,.slice none 0 0,.slice none 0 0] 31)).alloc (by simp;omega) (.cells #[.int .i64 1] 3)
 have b0:=(((Blk.new w 159 #[.slice A1 n1 c1,.int .i64 fi,.int .i64 la,.slice A2 n2 c2,.bool nu] _ rfl).alloc (.cells #[.int .i64 0,.slice none 0 0,.slice none 0 0] 31)).alloc (.cells #[.int .i64 0,.slice none 0 0,.slice none 0 0] 31)).alloc (.cells #[.int .i64 1] 3)
 have b1:=((Blk.new (w.alloc (.cells #[.slice A1 n1 c1,.int .i64 fi,.int .i64 la,.slice A2 n2 c2,.bool nu] 159)) 31 #[.int .i64 0,.slice none 0 0,.slice none 0 0] (w.heap.size+1) (by simp)).alloc (.cells #[.int .i64 0,.slice none 0 0,.slice none 0 0] 31)).alloc (.cells #[.int .i64 1] 3)
 have b2:=(Blk.new ((w.alloc (.cells #[.slice A1 n1 c1,.int .i64 fi,.int .i64 la,.slice A2 n2 c2,.bool nu] 159)).alloc (.cells #[.int .i64 0,.slice none 0 0,.slice none 0 0] 31)) 31 #[.int .i64 0,.slice none 0 0,.slice none 0 0] (w.heap.size+1+1) (by simp)).alloc (.cells #[.int .i64 1] 3)
 have hrl:=World.ownsRow_lit (base:=w.heap.size+1+1+1) (e:=3) (size:=1) (((w.alloc (.cells #[.slice A1 n1 c1,.int .i64 fi,.int .i64 la,.slice A2 n2 c2,.bool nu] 159)).alloc (.cells #[.int .i64 0,.slice none 0 0,.slice none 0 0] 31)).alloc (.cells #[.int .i64 0,.slice none 0 0,.slice none 0 0] 31)) #[.int .i64 1] 1 (by simp) (by decide) rfl
 rw [show (((w.alloc (.cells #[.slice A1 n1 c1,.int .i64 fi,.int .i64 la,.slice A2 n2 c2,.bool nu] 159)).alloc (.cells #[.int .i64 0,.slice none 0 0,.slice none 0 0] 31)).alloc (.cells #[.int .i64 0,.slice none 0 0,.slice none 0 0] 31)).heap.size=w.heap.size+1+1+1 by simp] at hrl
 go_enter Tryz.func134,Tryz.ntmps134
 go_upto_region 3 with fail
 generalize ((((w.alloc (.cells #[.slice A1 n1 c1,.int .i64 fi,.int .i64 la,.slice A2 n2 c2,.bool nu] 159)).alloc (.cells #[.int .i64 0,.slice none 0 0,.slice none 0 0] 31)).alloc (.cells #[.int .i64 0,.slice none 0 0,.slice none 0 0] 31)).alloc (.cells #[.int .i64 1] 3))=W0 at *
 have HS0:=Hd_ (show SbR w W0 (w.heap.size+1+1) #[.slice A1 n1 c1,.int .i64 fi,.int .i64 la,.slice A2 n2 c2,.bool nu] _ [1] (.slice none 0 0) (.slice none 0 0) [] [] [] from
  ⟨⟨b1,b2,AuR.start _ _,Only.of_below hb0 _ _,by omega⟩,b0,hrl,fun b hb=>⟨by intro hm;obtain ⟨i,u,hi,hu⟩:=mem_blks.1 hm;cases i with | zero=>(simp only [List.getElem?_cons_zero,Option.some.injEq] at hi;subst hi;cases hu) | succ i=>simp at hi,by intro e;cases e⟩⟩)
 clear hb0 b0 b1 b2 hrl
 go_wp2_with fail
 go_loopw [7,8,9,10,11,12] (fun vv ss _ _ _ _ wr=>∃ (s:Nat) (S:List Int) (sv ac nx:Value) (us:List Value) (acc:List Bool) (nxt:List (List Int)),s<=S.length/\1<=S.length/\S.length<=12/\ss=.int .i64 (s:Int)/\vv=sv/\acc.length=s/\nxt.length=s/\(∀ row ∈ nxt,row.length=9)/\SbR w wr (w.heap.size+1+1) #[.slice A1 n1 c1,.int .i64 fi,.int .i64 la,.slice A2 n2 c2,.bool nu] sv S ac nx us acc nxt) (fun _ ss _ _ _ _ _=>14 - (intOf ss).toNat)
 case atStart=>exact ⟨0,[1],_,_,_,[],[],[],by simp,by simp,by simp,rfl,rfl,rfl,rfl,by simp,HS0.out⟩
 case round =>
  obtain ⟨s,S,sv,ac,nx,us,acc,nxt,hsS,hS1,hS12,rfl,rfl,hla,hln,h9,hS⟩:=hrel
  have HS:=Hd_ hS
  have HLA:=Hd_ hla
  have HLN:=Hd_ hln
  have H9:=Hd_ h9
  obtain ⟨A3,c3,rfl,-,-,-⟩:=ownSh hS.aut.au.acc
  obtain ⟨A4,c4,rfl,-,-,-⟩:=ownSh hS.aut.au.nxt.own
  obtain ⟨A5,c5,rfl,-,-,-⟩:=ownSh hS.sets
  clear hS hla hln h9 HS0
  by_cases hlt:s < S.length
  · have hsi:(s:Int) < (S.length:Int):=by omega
    obtain ⟨W,rfl⟩:∃ W:World,W=wr:=⟨_,rfl⟩
    have hal:=(Below.refl W.heap.size W).alloc (Nat.le_refl _) (.cells #[] 3)
    have HRL:=Hd_ (World.ownsRow_lit (base:=W.heap.size) (e:=3) (size:=1) W #[] 0 (Nat.le_refl _) (by decide) rfl)
    have HS1:=Hd_ (HS.out.below hal)
    have HAB:=Hd_ (fun k hk=>(HS.out.aut.au.acc.lt k hk).2)
    have HNB:=Hd_ (fun k hk=>(HS.out.aut.au.nxt.lt k hk).2)
    have HSB:=Hd_ (fun k hk=>(HS.out.sets.lt k hk).2)
    have hqW:=HS.out.aut.blk.lt
    have HVW:=Hd_ (fun (W':World) (hW:Only 0 0 w W')=>(HV.out.only hW (Nat.le_refl _) (.inr (Nat.zero_le _))).mono (Nat.zero_le _) hW.size)
    clear hal
    go_wp2_with fail
    go_loopw [7,9,10,11,12] (fun vv uu kk _ _ wx=>∃ (k:Nat) (R S2:List Int) (sv:Value),k<=9/\kk=.int .i64 (k:Int)/\vv=sv/\R.length=k/\S.length<=S2.length/\S2.length<=S.length+k/\W.heap.size<=wx.heap.size/\wx.ownsRow W.heap.size 3 1 uu R.length (R.flatMap cI)/\(∀ b,uu.ownBlock=some b->sv.ownBlock ≠ some b)/\SbR w wx (w.heap.size+1+1) #[.slice A1 n1 c1,.int .i64 fi,.int .i64 la,.slice A2 n2 c2,.bool nu] sv S2 (.slice A3 acc.length c3) (.slice A4 us.length c4) us acc nxt) (fun _ _ kk _ _ _=>9 - (intOf kk).toNat)
    case atStart=>exact ⟨0,[],S,_,by omega,rfl,rfl,rfl,Nat.le_refl _,by omega,by simp,HRL.out,fun b hb e=>by cases hb;exact absurd (HSB.out _ e) (Nat.lt_irrefl _),HS1.out⟩
    case round =>
     obtain ⟨k,R,S2,sv,hk,rfl,rfl,hR,hS2a,hS2b,hlenW,hrow,hdis,hSb⟩:=hrel
     have HR:=Hd_ hR
     have HROW:=Hd_ hrow
     have HDIS:=Hd_ hdis
     have HSb:=Hd_ hSb
     obtain ⟨A6,c6,rfl,-,-,-⟩:=ownSh hrow
     obtain ⟨A7,c7,rfl,hsc1,hsc2,hA7⟩:=ownSh hSb.sets
     obtain ⟨g7,rfl⟩:=hA7 (by omega)
     have hs2:s < S2.length:=by omega
     have hs2i:(s:Int) < (S2.length:Int):=by omega
     obtain ⟨z,hz⟩:∃ z,S2[s]?=some z:=⟨_,List.getElem?_eq_getElem hs2⟩
     have e0:=World.ownsRow.cellAt hSb.sets s (by omega)
     rw [show (S2.flatMap cI)[s]?=some (.int .i64 z) by have:=flat_at (E:=cI) (k:=1) cI_len hz 0 _ rfl;simpa using this] at e0
     have x0:wr.cell? ⟨w.heap.size,0,none⟩=some (.slice A1 n1 c1):=hSb.box.cell 0
     have x1:wr.cell? ⟨w.heap.size,1,none⟩=some (.int .i64 fi):=hSb.box.cell 1
     have x2:wr.cell? ⟨w.heap.size,2,none⟩=some (.int .i64 la):=hSb.box.cell 2
     have x3:wr.cell? ⟨w.heap.size,3,none⟩=some (.slice A2 n2 c2):=hSb.box.cell 3
     have x4:wr.cell? ⟨w.heap.size,4,none⟩=some (.bool nu):=hSb.box.cell 4
     have hRl:R.length<=9:=by omega
     have HROWs:=Hd_ hlenW
     have HZ:=Hd_ (show (S2.flatMap cI)[s]?=some (.int .i64 z) by have:=flat_at (E:=cI) (k:=1) cI_len hz 0 _ rfl;simpa using this)
     clear hR hrow hdis hSb HRL HS1 hz
     by_cases hk9:k < 9
     · have hki:(k:Int) < 9:=by omega
       go_wp2_with fail
       refine F_start 7 (fun w'=>w'.cell? ⟨w.heap.size,0,none⟩=some (.slice A1 n1 c1)/\w'.cell? ⟨w.heap.size,1,none⟩=some (.int .i64 fi)/\w'.cell? ⟨w.heap.size,2,none⟩=some (.int .i64 la)/\w'.cell? ⟨w.heap.size,3,none⟩=some (.slice A2 n2 c2)/\w'.cell? ⟨w.heap.size,4,none⟩=some (.bool nu)/\w'.cell? ⟨g7,s,none⟩=some (.int .i64 z)) (by kernel_rfl) (by exact ⟨x0,x1,x2,x3,x4,e0⟩) (fun hS inv=>?_)
       refine F_tk 0 inv ?_
       try simp only [tA,tB,tC,Act.put,tE,tF,tG]
       clear inv;intro inv
       refine F_tk 1 inv ?_
       try simp only [tA,tB,tC,Act.put,tE,tF,tG]
       clear inv;intro inv
       refine F_tk 2 inv ?_
       try simp only [tA,tB,tC,Act.put,tE,tF,tG]
       clear inv;intro inv
       refine F_tk 3 inv ?_
       try simp only [tA,tB,tC,Act.put,tE,tF,tG]
       clear inv;intro inv
       refine F_tk 4 inv ?_
       try simp only [tA,tB,tC,Act.put,tE,tF,tG]
       clear inv;intro inv
       refine F_tk 5 inv ?_
       try simp only [tA,tB,tC,Act.put,tE,tF,tG]
       clear inv;intro inv
       have hbd:Below wr.heap.size wr wr.drew:=(Below.refl _ _).drew
       refine F_o1 6 inv ?_;intro K hK
       try simp only [tA,tB,tC]
       go_simp
       refine (l10After_any _ L F z (k:Int) _ (HVW.out _ (HSb.out.aut.frm.trans (Only.of_below hbd 0 0)))).mono ?_
       rintro e w3 ⟨x,rfl,hb3⟩
       have hp3:=below_trans hbd hb3
       refine hK.out _ _ (kB6 hb3 hS) (fun _ _=>?_)
       try simp only [tA,tB,tC,Act.put,tE,tF,tG]
       clear hK K inv hS;rename_i hS inv
       refine F_l1 7 ?_;intro K hK
       go_simp
       refine hK _ _ ?_
       clear hK K inv hS
       have HS3:=Hd_ (HSb.out.below hp3)
       have HR3:=Hd_ (ownsRow_below HROW.out hp3 (Nat.le_refl _))
       have hW3:W.heap.size<=w3.heap.size:=Nat.le_trans HROWs.out hp3.size
       clear hb3 hp3 hbd x0 x1 x2 x3 x4 e0 HSb HROW
       by_cases hx0:x=0
       · subst hx0
         go_wp2_with (at_builtin;(refine wpList_append2 cI elInt rfl _ _ (by rfl) W.heap.size _ R ((-1)) 1 _ (by rfl) (HR3.out.alloc _) (by rfl) (heap_alloc_new _ _) rfl (cI_one _) (by omega) (by omega) (by simp;omega) ?_);intro g8 cp8 w8 hown8 hgr8 hat8 hlt8;have hal:=(Below.refl w3.heap.size w3).alloc (Nat.le_refl _) (.cells #[.int .i64 ((-1))] 3);have HS8:=Hd_ ((HS3.out.below hal).row hgr8 (fun k hk=>⟨by have:=(HR3.out.lt k hk).1;omega,fun hm=>by have h1:=(HR3.out.lt k hk).1;have h2:=HNB.out k hm;omega,fun e=>by have h1:=(HR3.out.lt k hk).1;have h2:=HAB.out k e;omega,HDIS.out k hk⟩));have HD8:=Hd_ (show ∀ k,(Value.slice (some ⟨g8,0,none⟩) (R.length+1) cp8).ownBlock=some k->_ ≠ some k from fun k hk=>by cases hk;exact hat8.elim (fun e=>HDIS.out g8 e) (fun e e2=>by have:=(HS3.out.sets.lt g8 e2).2;simp at e;omega));have HR8:=Hd_ hown8;have hW8:W.heap.size<=w8.heap.size:=Nat.le_trans (by omega) (Nat.le_trans (show w3.heap.size<=_ from hal.size) hgr8.size);clear hown8 hgr8 hat8 hal)
         go_roundw
         case rel=>exact ⟨k+1,R ++ [(-1)],_,_,by omega,by go_num,rfl,by simp [HR.out],by omega,by omega,hW8,HR8.out,HD8.out,HS8.out⟩
         case measure=>simp [intOf];omega
       · have hxx:(x != 0)=true:=by simpa using hx0
         clear hx0
         go_wp2_with fail
         refine (l11Find_any _ S2 x _ (((Own.of_row (xs:=S2) HS3.out.sets rfl rfl).sl cI_len).mono (Nat.zero_le _) (Nat.le_refl _))).mono ?_
         rintro e w' ⟨rfl,hw'⟩
         rw [hw']
         clear hw'
         generalize Lib.idxOf S2 x=idx
         by_cases hix:idx < 0
         · go_upto_region 17 with (at_builtin;(refine wpList_append2 cI elInt rfl _ _ (by rfl) (w.heap.size+1+1+1) _ S2 x 1 _ (by rfl) (HS3.out.sets.alloc _) (by rfl) (heap_alloc_new _ _) rfl (cI_one _) (by omega) (by omega) (by simp;omega) ?_);intro g5 cp5 w5 hown5 hgr5 hat5 hlt5;have hal:=(Below.refl w3.heap.size w3).alloc (Nat.le_refl _) (.cells #[.int .i64 x] 3);have HS5:=Hd_ ((HS3.out.below hal).push hown5 hgr5 hat5);have HR5:=Hd_ (ownsRow_block (ownsRow_below HR3.out hal (Nat.le_refl _)) (fun b hb=>hgr5.block b (by have:=(HR3.out.lt b hb).2;simp;omega) (fun e=>HDIS.out b hb e.symm)));have HD5:=Hd_ (show ∀ b,(Value.slice A6 R.length c6).ownBlock=some b->(Value.slice (some ⟨g5,0,none⟩) (S2.length+1) cp5).ownBlock ≠ some b from fun b hb e=>by cases e;exact hat5.elim (fun e=>HDIS.out g5 hb e) (fun e=>by have:=(HR3.out.lt g5 hb).2;simp at e;omega));have hW5:W.heap.size<=w5.heap.size:=Nat.le_trans hW3 (Nat.le_trans (by simp) hgr5.size);clear hown5 hgr5 hat5 hal)
           go_wp2_with (at_builtin;(refine wpList_append2 cI elInt rfl _ _ (by rfl) W.heap.size _ R ((S2.length:Int)) 1 _ (by rfl) (HR5.out.alloc _) (by rfl) (heap_alloc_new _ _) rfl (cI_one _) (by omega) (by omega) (by simp;omega) ?_);intro g8 cp8 w8 hown8 hgr8 hat8 hlt8;have hal:=(Below.refl w5.heap.size w5).alloc (Nat.le_refl _) (.cells #[.int .i64 ((S2.length:Int))] 3);have HS8:=Hd_ ((HS5.out.below hal).row hgr8 (fun k hk=>⟨by have:=(HR5.out.lt k hk).1;omega,fun hm=>by have h1:=(HR5.out.lt k hk).1;have h2:=HNB.out k hm;omega,fun e=>by have h1:=(HR5.out.lt k hk).1;have h2:=HAB.out k e;omega,HD5.out k hk⟩));have HD8:=Hd_ (show ∀ k,(Value.slice (some ⟨g8,0,none⟩) (R.length+1) cp8).ownBlock=some k->_ ≠ some k from fun k hk=>by cases hk;exact hat8.elim (fun e=>HD5.out g8 e) (fun e e2=>by have:=(HS5.out.sets.lt g8 e2).2;simp at e;omega));have HR8:=Hd_ hown8;have hW8:W.heap.size<=w8.heap.size:=Nat.le_trans (by omega) (Nat.le_trans (show w5.heap.size<=_ from hal.size) hgr8.size);clear hown8 hgr8 hat8 hal)
           go_roundw
           case rel=>exact ⟨k+1,R ++ [(S2.length:Int)],_,_,by omega,by go_num,rfl,by simp [HR.out],by (simp;omega),by (simp;omega),hW8,HR8.out,HD8.out,HS8.out⟩
           case measure=>simp [intOf];omega
         · skip
           go_wp2_with (at_builtin;(refine wpList_append2 cI elInt rfl _ _ (by rfl) W.heap.size _ R (idx) 1 _ (by rfl) (HR3.out.alloc _) (by rfl) (heap_alloc_new _ _) rfl (cI_one _) (by omega) (by omega) (by simp;omega) ?_);intro g8 cp8 w8 hown8 hgr8 hat8 hlt8;have hal:=(Below.refl w3.heap.size w3).alloc (Nat.le_refl _) (.cells #[.int .i64 (idx)] 3);have HS8:=Hd_ ((HS3.out.below hal).row hgr8 (fun k hk=>⟨by have:=(HR3.out.lt k hk).1;omega,fun hm=>by have h1:=(HR3.out.lt k hk).1;have h2:=HNB.out k hm;omega,fun e=>by have h1:=(HR3.out.lt k hk).1;have h2:=HAB.out k e;omega,HDIS.out k hk⟩));have HD8:=Hd_ (show ∀ k,(Value.slice (some ⟨g8,0,none⟩) (R.length+1) cp8).ownBlock=some k->_ ≠ some k from fun k hk=>by cases hk;exact hat8.elim (fun e=>HDIS.out g8 e) (fun e e2=>by have:=(HS3.out.sets.lt g8 e2).2;simp at e;omega));have HR8:=Hd_ hown8;have hW8:W.heap.size<=w8.heap.size:=Nat.le_trans (by omega) (Nat.le_trans (show w3.heap.size<=_ from hal.size) hgr8.size);clear hown8 hgr8 hat8 hal)
           go_roundw
           case rel=>exact ⟨k+1,R ++ [idx],_,_,by omega,by go_num,rfl,by simp [HR.out],by omega,by omega,hW8,HR8.out,HD8.out,HS8.out⟩
           case measure=>simp [intOf];omega
     · have hki:¬ (k:Int) < 9:=by omega
       by_cases h12:12 < S2.length
       · have h12i:12 < (S2.length:Int):=by omega
         have z0:wr.cell? ⟨w.heap.size+1,0,none⟩=some (.int .i64 0):=HSb.out.aut.res.cell 0
         have z1:wr.cell? ⟨w.heap.size+1,1,none⟩=some (.slice none 0 0):=HSb.out.aut.res.cell 1
         have z2:wr.cell? ⟨w.heap.size+1,2,none⟩=some (.slice none 0 0):=HSb.out.aut.res.cell 2
         have v0:=HSb.out.aut.res.frozen 0
         have v1:=HSb.out.aut.res.frozen 1
         have v2:=HSb.out.aut.res.frozen 2
         have hlr:=HSb.out.aut.res.lt
         go_wp2_with fail
         exact bodyPost_ret (v:=.tuple #[.agg #[.int .i64 0,.slice none 0 0,.slice none 0 0],.bool false]) (by simp [results,Tryz.results134,go_sem,z0,z1,z2,v0,v1,v2,hlr]) rfl ⟨_,_,_,_,_,_,_,_,rfl,(fun h=>by cases h),HSb.out.aut.off⟩
       · have h12i:¬ 12 < (S2.length:Int):=by omega
         have y1:wr.cell? ⟨w.heap.size+1+1,1,none⟩=some (.slice A3 acc.length c3):=HSb.out.aut.blk.cell 1
         go_wp2_with fail
         refine F_start 11 (fun w'=>w'.cell? ⟨w.heap.size,0,none⟩=some (.slice A1 n1 c1)/\w'.cell? ⟨w.heap.size,1,none⟩=some (.int .i64 fi)/\w'.cell? ⟨w.heap.size,2,none⟩=some (.int .i64 la)/\w'.cell? ⟨w.heap.size,3,none⟩=some (.slice A2 n2 c2)/\w'.cell? ⟨w.heap.size,4,none⟩=some (.bool nu)/\w'.cell? ⟨g7,s,none⟩=some (.int .i64 z)/\w'.cell? ⟨w.heap.size+1+1,1,none⟩=some (.slice A3 acc.length c3)) (by kernel_rfl) (by exact ⟨x0,x1,x2,x3,x4,e0,y1⟩) (fun hS inv=>?_)
         refine F_tk 0 inv ?_
         try simp only [tA,tB,tC,Act.put,tE,tF,tG]
         clear inv;intro inv
         refine F_tk 1 inv ?_
         try simp only [tA,tB,tC,Act.put,tE,tF,tG]
         clear inv;intro inv
         refine F_tk 2 inv ?_
         try simp only [tA,tB,tC,Act.put,tE,tF,tG]
         clear inv;intro inv
         refine F_tk 3 inv ?_
         try simp only [tA,tB,tC,Act.put,tE,tF,tG]
         clear inv;intro inv
         refine F_tk 4 inv ?_
         try simp only [tA,tB,tC,Act.put,tE,tF,tG]
         clear inv;intro inv
         refine F_tk 5 inv ?_
         try simp only [tA,tB,tC,Act.put,tE,tF,tG]
         clear inv;intro inv
         refine F_tk 6 inv ?_
         try simp only [tA,tB,tC,Act.put,tE,tF,tG]
         clear inv;intro inv
         have hbd:Below wr.heap.size wr wr.drew:=(Below.refl _ _).drew
         refine F_o1 7 inv ?_;intro K hK
         try simp only [tA,tB,tC]
         go_simp
         refine (l10Accepts_any _ L F z _ (HVW.out _ (HSb.out.aut.frm.trans (Only.of_below hbd 0 0)))).mono ?_
         rintro e w3 ⟨x,rfl,hb3⟩
         have hp3:=below_trans hbd hb3
         refine hK.out _ _ (kB7 hb3 hS) (fun _ _=>?_)
         try simp only [tA,tB,tC,Act.put,tE,tF,tG]
         clear hK K inv hS;rename_i hS inv
         have HS3:=Hd_ (HSb.out.below hp3)
         have HR3:=Hd_ (ownsRow_below HROW.out hp3 (Nat.le_refl _))
         clear hb3 hp3 hbd x0 x1 x2 x3 x4 e0 y1 HSb HROW
         refine F_o1 8 inv ?_;intro K hK
         try simp only [tA,tB,tC]
         go_simp
         have hal:=(Below.refl w3.heap.size w3).alloc (Nat.le_refl _) (.cells #[.bool x] 4)
         have HS4:=Hd_ (HS3.out.below hal)
         have HR4:=Hd_ (ownsRow_below HR3.out hal (Nat.le_refl _))
         refine hK.out _ _ (kB7 hal hS) (fun _ _=>?_)
         try simp only [tA,tB,tC,Act.put,tE,tF,tG]
         clear hK K inv hS;rename_i hS inv
         clear hal HS3 HR3
         refine F_o1 9 inv ?_;intro K hK
         try simp only [tA,tB,tC]
         refine op_append1 cB elBool rfl _ _ (by rfl) (w.heap.size+1+1+1) _ acc x 1 _ (by rfl) HS4.out.aut.au.acc (by first | rfl | simp) (heap_alloc_new _ _) rfl (cB_one _) (by have:=HLA.out;omega) (by omega) (by have:=HS4.out.aut.blk.lt;omega) ?_
         intro g2 cp2 w9 hown3 hgr3 hat3 hlt3
         have HP:=Hd_ (HS4.out.aut.pushA hown3 hgr3 hat3)
         have HSE9:=Hd_ (ownsRow_block HS4.out.sets (fun b hb=>hgr3.block b (HS4.out.sets.lt b hb).2 (fun e=>(HS4.out.far b hb).2 e.symm)))
         have HBX9:=Hd_ (show Blk w9 w.heap.size _ _ from (hgr3.block _ HS4.out.box.lt (fun e=>by have:=(HS4.out.aut.au.acc.lt _ e.symm).1;omega)).trans HS4.out.box)
         have HR9:=Hd_ (ownsRow_block HR4.out (fun b hb=>hgr3.block b (HR4.out.lt b hb).2 (fun e=>by have h1:=(HR4.out.lt b hb).1;have h2:=HAB.out b e.symm;omega)))
         have HG9:=Hd_ (show ∀ b,(Value.slice A6 R.length c6).ownBlock=some b->(Value.slice (some ⟨g2,0,none⟩) (acc.length+1) cp2).ownBlock ≠ some b from fun b hb e=>by cases e;exact hat3.elim (fun e=>by have h1:=(HR4.out.lt g2 hb).1;have h2:=HAB.out g2 e;omega) (fun e=>by have:=(HR4.out.lt g2 hb).2;omega))
         have hlt7:=(HS4.out.sets.lt g7 rfl).2
         have HK9:=Hd_ (show (Value.slice (some ⟨g2,0,none⟩) (acc.length+1) cp2).ownBlock ≠ (Value.slice (some ⟨g7,0,none⟩) S2.length c7).ownBlock from fun e=>by
          have e2:some g2=some g7:=e
          rcases hat3 with h1 | h1
          · exact (HS4.out.far g7 rfl).2 (h1.trans e2)
          · injection e2 with e2
            omega)
         clear hlt7
         clear hown3 hgr3 hat3
         have hse9:=World.ownsRow.cellAt HSE9.out s (by omega)
         have hq9:(S2.flatMap cI)[s]?=some (.int .i64 z):=HZ.out
         refine hK.out _ _ (⟨HBX9.out.cell 0,HBX9.out.cell 1,HBX9.out.cell 2,HBX9.out.cell 3,HBX9.out.cell 4,hse9.trans hq9,HP.out.1.cell 1⟩) (fun _ _=>?_)
         try simp only [tA,tB,tC,Act.put,tE,tF,tG]
         clear hK K inv hS;rename_i hS inv
         clear hse9 hq9
         refine F_tk 10 inv ?_
         try simp only [tA,tB,tC,Act.put,tE,tF,tG]
         clear inv;intro inv
         have f0:=HP.out.1.frozen 1
         have lp:=HP.out.1.lt
         refine F_l1 11 ?_;intro K hK
         go_simp
         refine hK _ _ ?_
         clear hK K inv hS
         have HQ:=Hd_ HP.out.2
         have hoq:=(Only.refl (w.heap.size+1+1) (w.heap.size+1+1+1) w9).setCell (p:=⟨w.heap.size+1+1,1,none⟩) (.inl ⟨Nat.le_refl _,Nat.lt_succ_self _⟩) (.slice (some ⟨g2,0,none⟩) (acc.length+1) cp2)
         have HSEq:=Hd_ (own_only HSE9.out hoq (Nat.le_refl _))
         have HRq:=Hd_ (own_only HR9.out hoq (by omega))
         have HBXq:=Hd_ (HBX9.out.only hoq (.inl (by omega)))
         generalize w9.setCell ⟨w.heap.size+1+1,1,none⟩ (.slice (some ⟨g2,0,none⟩) (acc.length+1) cp2)=w10 at *
         have HFAR:=Hd_ HS4.out.far
         clear HP f0 lp hoq HSE9 HR9 HBX9 HS4 HR4
         have x2:w10.cell? ⟨w.heap.size+1+1,2,none⟩=some (.slice A4 us.length c4):=HQ.out.blk.cell 2
         have hul:us.length<=20:=by have h1:=HQ.out.au.nxt.len;have h2:=HLN.out;omega
         have HUF:=Hd_ (show ∀ k,(Value.slice A6 R.length c6).ownBlock=some k->k ∉ blks (Value.slice A4 us.length c4 :: us)/\(Value.slice (some ⟨g2,0,none⟩) (acc.length+1) cp2).ownBlock ≠ some k from
          fun k hk=>⟨fun hm=>by have h1:=(HRq.out.lt k hk).1;have h2:=HNB.out k hm;omega,HG9.out k hk⟩)
         have lq2:=HQ.out.blk.lt
         go_wp2_with (at_builtin;(refine wpList_append2 cV elSS rfl _ _ (by rfl) (w.heap.size+1+1+1) _ us (Value.slice A6 R.length c6) 1 _ (by rfl) (HQ.out.au.nxt.own.alloc _) (by rfl) (heap_alloc_new _ _) rfl (fun u hu=>by simp only [cV,List.mem_cons,List.not_mem_nil,or_false] at hu;subst hu;rfl) (by omega) (by omega) (by simp;omega) ?_);intro g4 cp4 w11 hown4 hgr4 hat4 hlt4;have hal:=(Below.refl w10.heap.size w10).alloc (Nat.le_refl _) (.cells #[Value.slice A6 R.length c6] 24);have HP:=Hd_ ((HQ.out.below hal).pushN (ownsRow_mono (ownsRow_below HRq.out hal (Nat.le_refl _)) (by omega)) HUF.out hown4 hgr4 hat4);have HSE11:=Hd_ (ownsRow_block (ownsRow_below HSEq.out hal (Nat.le_refl _)) (fun b hb=>hgr4.block b (by have:=(HSEq.out.lt b hb).2;simp;omega) (fun e=>(HFAR.out b hb).1 (mem_blks.2 ⟨0,_,rfl,e.symm⟩))));have hob:=own_below (HQ.out.au.nxt.own.alloc (.cells #[Value.slice A6 R.length c6] 24)) (by simp;omega) hgr4;have HBX11:=Hd_ ((HBXq.out.keep hal).below hob (by omega));have HAT:=Hd_ hat4;have f2:=HP.out.1.frozen 2;have y2:w11.cell? ⟨w.heap.size+1+1,2,none⟩=some (.slice A4 us.length c4):=HP.out.1.cell 2;have lp:=HP.out.1.lt;clear hown4 hgr4 hat4 hal hob)
         have hoq:=(Only.refl (w.heap.size+1+1) (w.heap.size+1+1+1) w11).setCell (p:=⟨w.heap.size+1+1,2,none⟩) (.inl ⟨Nat.le_refl _,Nat.lt_succ_self _⟩) (.slice (some ⟨g4,0,none⟩) (us.length+1) cp4)
         have hfar:∀ b,(Value.slice (some ⟨g7,0,none⟩) S2.length c7).ownBlock=some b->b ∉ blks (Value.slice (some ⟨g4,0,none⟩) (us.length+1) cp4 :: (us ++ [Value.slice A6 R.length c6]))/\(Value.slice (some ⟨g2,0,none⟩) (acc.length+1) cp2).ownBlock ≠ some b:=by
          intro b hb
          refine ⟨fun hm=>?_,fun e=>HK9.out (by rw [e,hb])⟩
          obtain ⟨i,u,hi,hu⟩:=mem_blks.1 hm
          cases i with
          | zero =>
            simp only [List.getElem?_cons_zero,Option.some.injEq] at hi
            subst hi
            cases hu
            rcases HAT.out with h1 | h1
            · exact (HFAR.out _ hb).1 (mem_blks.2 ⟨0,_,rfl,h1⟩)
            · have h2:=(HSEq.out.lt _ hb).2
              have h3:w10.heap.size < _:=Nat.lt_of_lt_of_le (by simp) h1
              exact absurd (Nat.lt_trans h3 h2) (Nat.lt_irrefl _)
          | succ i =>
            rw [List.getElem?_cons_succ] at hi
            rcases Nat.lt_or_ge i us.length with hl | hl
            · rw [List.getElem?_append_left hl] at hi
              exact (HFAR.out b hb).1 (mem_blks.2 ⟨i+1,u,by simpa using hi,hu⟩)
            · rw [List.getElem?_append_right hl,List.getElem?_singleton] at hi
              split at hi
              · injection hi with hi
                subst hi
                exact HDIS.out b hu hb
              · cases hi
         have HFIN:=Hd_ (show SbR w _ (w.heap.size+1+1) #[.slice A1 n1 c1,.int .i64 fi,.int .i64 la,.slice A2 n2 c2,.bool nu] (.slice (some ⟨g7,0,none⟩) S2.length c7) S2 _ _ _ _ _ from ⟨HP.out.2,HBX11.out.only hoq (.inl (by omega)),own_only HSE11.out hoq (Nat.le_refl _),hfar⟩)
         clear HP f2 y2 lp x2 hoq hfar
         go_roundw
         case rel =>
          refine ⟨s+1,S2,_,_,_,us ++ [_],acc ++ [x],nxt ++ [R],by omega,by omega,by omega,by go_num,rfl,by simp [HLA.out],by simp [HLN.out],?_,HFIN.out⟩
          intro row hm
          rcases List.mem_append.1 hm with h | h
          · exact H9.out row h
          · rw [List.mem_singleton] at h
            rw [h,HR.out]
            omega
         case measure=>simp [intOf];omega
  · have hsi:¬ (s:Int) < (S.length:Int):=by omega
    have x0:wr.cell? ⟨w.heap.size+1+1,0,none⟩=some (.int .i64 0):=HS.out.aut.blk.cell 0
    have x1:wr.cell? ⟨w.heap.size+1+1,1,none⟩=some (.slice A3 acc.length c3):=HS.out.aut.blk.cell 1
    have x2:wr.cell? ⟨w.heap.size+1+1,2,none⟩=some (.slice A4 us.length c4):=HS.out.aut.blk.cell 2
    have z0:wr.cell? ⟨w.heap.size+1,0,none⟩=some (.int .i64 0):=HS.out.aut.res.cell 0
    have z1:wr.cell? ⟨w.heap.size+1,1,none⟩=some (.slice none 0 0):=HS.out.aut.res.cell 1
    have z2:wr.cell? ⟨w.heap.size+1,2,none⟩=some (.slice none 0 0):=HS.out.aut.res.cell 2
    have v0:=HS.out.aut.res.frozen 0
    have v1:=HS.out.aut.res.frozen 1
    have v2:=HS.out.aut.res.frozen 2
    have hlr:=HS.out.aut.res.lt
    go_wp2_with fail
    have HD:=HS.out.aut.done
    have hbl:Below w.heap.size w (put3 wr (w.heap.size+1) (.int .i64 0) (.slice A3 acc.length c3) (.slice A4 us.length c4)):=⟨HD.2.os,HD.2.tape,HD.2.output,HD.2.size,fun n hn=>HD.2.block n hn (.inr (Nat.zero_le _))⟩
    exact bodyPost_ret (v:=.tuple #[.agg #[.int .i64 0,.slice A3 acc.length c3,.slice A4 us.length c4],.bool true]) (by simp [results,Tryz.results134,go_sem,z0,z1,z2,v0,v1,v2,hlr]) rfl ⟨_,_,_,_,_,_,_,_,rfl,(fun _=>⟨us,acc,nxt,HD.1,by have h1:=HLA.out;have h2:=HLN.out;omega,by have h2:=HLN.out;omega,by have h2:=HLN.out;omega,H9.out⟩),hbl⟩
set_option maxHeartbeats 4000000 in
theorem formatLetter_any (n:Int) (w:World) :
 Calls Tryz.prog 233 #[.int .i64 n] w fun e w'=>∃ s,e=.returned (.string s)/\Below w.heap.size w w':=by
 by_cases hw:wi n 0 8=true
 · have h1:=wi_iff.1 hw
   have hc:n=0 ∨ n=1 ∨ n=2 ∨ n=3 ∨ n=4 ∨ n=5 ∨ n=6 ∨ n=7 ∨ n=8:=by omega
   clear h1
   rcases hc with rfl | rfl | rfl | rfl | rfl | rfl | rfl | rfl | rfl
   all_goals
    go_enter Tryz.func233,Tryz.ntmps233
    go_wp2_with (refine (l2Letter_any _ _).mono ?_;rintro e w' ⟨rfl,rfl⟩)
    go_ret
    exact ⟨_,rfl,(Below.refl _ _).alloc (Nat.le_refl _) _⟩
 · have hw0:wi n 0 8=false:=by simpa using hw
   clear hw
   go_enter Tryz.func233,Tryz.ntmps233
   go_wp2_with (refine (l2Letter_any _ _).mono ?_;rintro e w' ⟨rfl,rfl⟩)
   go_ret
   exact ⟨_,rfl,Below.refl _ _⟩
def LetOut (w:World) (e:Ending) (w':World):Prop:=∃ (n:Int) (b:Bool),e=.returned (.tuple #[.int .i64 n,.bool b])/\Below w.heap.size w w'
set_option maxHeartbeats 4000000 in
theorem parseLetter_any (s:ByteArray) (w:World) :
 Calls Tryz.prog 228 #[.string s] w (LetOut w):=by
 go_enter Tryz.func228,Tryz.ntmps228
 go_wp2
 go_loopw [4] (fun ii wr=>∃ i:Nat,i<=9/\ii=.int .i64 (i:Int)/\Below w.heap.size w wr) (fun ii _=>9 - (intOf ii).toNat)
 case atStart=>exact ⟨0,by omega,rfl,Below.refl _ _⟩
 case round =>
  obtain ⟨i,hi,rfl,hb⟩:=hrel
  have HB:=Hd_ hb
  clear hb
  by_cases hlt:i < 9
  · have hi9:(i:Int) < 9:=by omega
    go_wp2_with fail
    refine (formatLetter_any _ _).mono ?_
    rintro e w2 ⟨x,rfl,hb2⟩
    have HB2:=Hd_ (HB.out.trans (hb2.mono HB.out.size))
    clear hb2
    cases hx:(x.toList==s.toList)
    · go_wp2_with fail
      go_roundw
      case rel=>exact ⟨i+1,by omega,by go_num,HB2.out⟩
      case measure=>simp [intOf];omega
    · go_wp2_with fail
      go_ret2
      exact ⟨_,_,rfl,HB2.out⟩
  · have hi9:¬ (i:Int) < 9:=by omega
    go_wp2_with fail
    go_ret2
    exact ⟨_,_,rfl,HB.out⟩
set_option maxHeartbeats 4000000 in
theorem l8Token_any (k:Int) (w:World) (hk:k=1 ∨ k=2 ∨ k=4 ∨ k=5 ∨ k=6) :
 Calls Tryz.prog 227 #[.agg #[.int .i64 k,.int .i64 0,.int .i64 0,.int .i64 0]] w fun e w'=>∃ s,e=.returned (.string s)/\Below w.heap.size w w':=by
 rcases hk with rfl | rfl | rfl | rfl | rfl
 all_goals
  go_enter Tryz.func227,Tryz.ntmps227
  go_wp2
  go_ret
  exact ⟨_,rfl,(Below.refl _ _).alloc (Nat.le_refl _) _⟩
theorem _root_.Go.RowKit.Below.set4 {w0 w:World} (h:Below w0.heap.size w0 w) (a b c d:Value) :
 Below w0.heap.size w0 ((((w.setCell ⟨w0.heap.size,0,none⟩ a).setCell ⟨w0.heap.size,1,none⟩ b).setCell ⟨w0.heap.size,2,none⟩ c).setCell ⟨w0.heap.size,3,none⟩ d) :=
 (((h.setCell (p:=⟨_,_,none⟩) (Nat.le_refl _) _).setCell (p:=⟨_,_,none⟩) (Nat.le_refl _) _).setCell (p:=⟨_,_,none⟩) (Nat.le_refl _) _).setCell (p:=⟨_,_,none⟩) (Nat.le_refl _) _
set_option maxHeartbeats 8000000 in
theorem l8Read_any (s:ByteArray) (w:World) (hs:s.size<=maxLen) :
 Calls Tryz.prog 208 #[.string s] w fun e w'=>∃ t:Tok,e=.returned (.agg #[.int .i64 t.1,.int .i64 t.2.1,.int .i64 t.2.2.1,.int .i64 t.2.2.2])/\Below w.heap.size w w':=by
 unfold maxLen at hs
 have hb0:=(Below.refl w.heap.size w).alloc (Nat.le_refl _) (.cells #[.int .i64 0,.int .i64 0,.int .i64 0,.int .i64 0] 184)
 have bk:=Blk.new w 184 #[.int .i64 0,.int .i64 0,.int .i64 0,.int .i64 0] _ rfl
 go_enter Tryz.func208,Tryz.ntmps208
 go_wp2
 go_loopw [3] (fun ii wr=>∃ i:Nat,1<=i/\i<=7/\ii=.int .i64 (i:Int)/\Below w.heap.size w wr/\Blk wr w.heap.size 184 #[.int .i64 0,.int .i64 0,.int .i64 0,.int .i64 0]) (fun ii _=>9 - (intOf ii).toNat)
 case atStart=>exact ⟨1,by omega,by omega,rfl,hb0,bk⟩
 case round =>
  obtain ⟨i,hi1,hi7,rfl,hb,hbk⟩:=hrel
  have HB:=Hd_ hb
  have HBK:=Hd_ hbk
  clear hb hbk hb0 bk
  by_cases hlt:i < 7
  · have hi6:(i:Int)<=6:=by omega
    by_cases h3:i=3
    · subst h3
      go_wp2_with fail
      go_roundw
      case rel=>exact ⟨4,by omega,by omega,rfl,HB.out,HBK.out⟩
      case measure=>simp [intOf]
    · have q3:((i:Int) != 3)=true:=by simp;omega
      have hk:(i:Int)=1 ∨ (i:Int)=2 ∨ (i:Int)=4 ∨ (i:Int)=5 ∨ (i:Int)=6:=by omega
      have HK:=Hd_ hk
      clear hk h3
      go_wp2_with fail
      refine (l8Token_any _ _ HK.out).mono ?_
      rintro e w2 ⟨x,rfl,hb2⟩
      have HB2:=Hd_ (HB.out.trans (hb2.mono HB.out.size))
      have hbk2:=HBK.out.keep hb2
      clear hb2
      cases hx:(x.toList==s.toList)
      · have HBK2:=Hd_ hbk2
        clear hbk2
        go_wp2_with fail
        go_roundw
        case rel=>exact ⟨i+1,by omega,by omega,by go_num,HB2.out,HBK2.out⟩
        case measure=>simp [intOf];omega
      · have hii:True:=trivial
        have z0:w2.cell? ⟨w.heap.size,0,none⟩=some (.int .i64 0):=hbk2.cell 0
        have z1:w2.cell? ⟨w.heap.size,1,none⟩=some (.int .i64 0):=hbk2.cell 1
        have z2:w2.cell? ⟨w.heap.size,2,none⟩=some (.int .i64 0):=hbk2.cell 2
        have z3:w2.cell? ⟨w.heap.size,3,none⟩=some (.int .i64 0):=hbk2.cell 3
        have v0:=hbk2.frozen 0
        have v1:=hbk2.frozen 1
        have v2:=hbk2.frozen 2
        have v3:=hbk2.frozen 3
        have hlr:=hbk2.lt
        clear hbk2
        go_wp2_with fail
        refine bodyPost_ret (v:=.agg #[.int .i64 i,.int .i64 0,.int .i64 0,.int .i64 0]) (by simp [results,Tryz.results208,go_sem,z0,z1,z2,z3,v0,v1,v2,v3,hlr]) rfl ⟨((i:Int),0,0,0),rfl,HB2.out.set4 _ _ _ _⟩
  · have hi6:¬ (i:Int)<=6:=by omega
    go_wp2_with fail
    refine (parseLetter_any s _).mono ?_
    rintro e w2 ⟨n,is,rfl,hb2⟩
    have HB2:=Hd_ (HB.out.trans (hb2.mono HB.out.size))
    have hbk2:=HBK.out.keep hb2
    clear hb2
    have z0:w2.cell? ⟨w.heap.size,0,none⟩=some (.int .i64 0):=hbk2.cell 0
    have z1:w2.cell? ⟨w.heap.size,1,none⟩=some (.int .i64 0):=hbk2.cell 1
    have z2:w2.cell? ⟨w.heap.size,2,none⟩=some (.int .i64 0):=hbk2.cell 2
    have z3:w2.cell? ⟨w.heap.size,3,none⟩=some (.int .i64 0):=hbk2.cell 3
    have v0:=hbk2.frozen 0
    have v1:=hbk2.frozen 1
    have v2:=hbk2.frozen 2
    have v3:=hbk2.frozen 3
    have hlr:=hbk2.lt
    clear hbk2
    cases is
    · by_cases h5:s.size=5
      · have HS5:=Hd_ h5
        have h5d:((s.size:Int)==5)=true:=by simp;omega
        have hb0:0 < s.size:=by omega
        have hb1:(1:Int) < (s.size:Int):=by omega
        have hb2:(2:Int) < (s.size:Int):=by omega
        have hb3:(3:Int) < (s.size:Int):=by omega
        have hb4:(4:Int) < (s.size:Int):=by omega
        clear h5
        go_wp2_with fail
        rotate_left
        · exact bodyPost_ret (v:=.agg #[.int .i64 0,.int .i64 0,.int .i64 0,.int .i64 0]) (by simp [results,Tryz.results208,go_sem,z0,z1,z2,z3,v0,v1,v2,v3,hlr]) rfl ⟨(0,0,0,0),rfl,HB2.out.set4 _ _ _ _⟩
        · exact bodyPost_ret (v:=.agg #[.int .i64 0,.int .i64 0,.int .i64 0,.int .i64 0]) (by simp [results,Tryz.results208,go_sem,z0,z1,z2,z3,v0,v1,v2,v3,hlr]) rfl ⟨(0,0,0,0),rfl,HB2.out.set4 _ _ _ _⟩
        · exact bodyPost_ret (v:=.agg #[.int .i64 0,.int .i64 0,.int .i64 0,.int .i64 0]) (by simp [results,Tryz.results208,go_sem,z0,z1,z2,z3,v0,v1,v2,v3,hlr]) rfl ⟨(0,0,0,0),rfl,HB2.out.set4 _ _ _ _⟩
        go_region
        go_wp2_with fail
        exact bodyPost_ret (v:=.agg #[.int .i64 7,.int .i64 0,.int .i64 (wrap64 (wrap64 ((s[1]'(by omega)).toNat:Int) - 48)),.int .i64 (wrap64 (wrap64 ((s[3]'(by omega)).toNat:Int) - 48))]) (by simp [results,Tryz.results208,go_sem,z0,z1,z2,z3,v0,v1,v2,v3,hlr]) rfl ⟨(7,0,_,_),rfl,(HB2.out.set4 _ _ _ _).drew⟩
      · have h5d:((s.size:Int)==5)=false:=by simp;omega
        go_wp2_with fail
        refine bodyPost_ret (v:=.agg #[.int .i64 0,.int .i64 0,.int .i64 0,.int .i64 0]) (by simp [results,Tryz.results208,go_sem,z0,z1,z2,z3,v0,v1,v2,v3,hlr]) rfl ⟨(0,0,0,0),rfl,HB2.out.set4 _ _ _ _⟩
    · go_wp2_with fail
      refine bodyPost_ret (v:=.agg #[.int .i64 3,.int .i64 n,.int .i64 0,.int .i64 0]) (by simp [results,Tryz.results208,go_sem,z0,z1,z2,z3,v0,v1,v2,v3,hlr]) rfl ⟨(3,n,0,0),rfl,HB2.out.set4 _ _ _ _⟩
theorem tk_done {b r:Nat} {w0 w:World} {v:Value} {l:List Tok} (h:TkV (r+1) w.heap.size w v l) (hc:Cur w b) (ho:Only b (b+1) w0 w) (hr:w0.heap.size=r) (hb:b < r) (u:Value) :
 TkV w0.heap.size (w.setCell ⟨r,0,none⟩ u).heap.size (w.setCell ⟨r,0,none⟩ u) v l/\Cur (w.setCell ⟨r,0,none⟩ u) b/\Only b (b+1) w0 (w.setCell ⟨r,0,none⟩ u):=by
 have hs:=(Only.refl r (r+1) w).setCell (p:=⟨r,0,none⟩) (.inl ⟨Nat.le_refl _,Nat.lt_succ_self _⟩) u
 exact ⟨(h.only hs (Nat.le_refl _) (.inr (Nat.le_refl _))).mono (by omega) hs.size,hc.only hs (by omega),ho.setCell (p:=⟨r,0,none⟩) (.inr (by simp only;omega)) _⟩
set_option maxHeartbeats 8000000 in
theorem l8Make_any (b:Nat):∀ (d:Nat) (w:World),Cur w b->d<=3 ->
 Calls Tryz.prog 162 #[.pointer (some ⟨b,0,none⟩),.int .i64 (d:Int)] w fun e w'=>∃ v l,e=.returned v/\TkV w.heap.size w'.heap.size w' v l/\l.length+1<=2 ^ (d+1)/\Cur w' b/\Only b (b+1) w w':=by
 intro d
 induction d with
 | zero =>
   intro w hc _
   have hlt:=hc.lt
   have hb0:=(Below.refl w.heap.size w).alloc (Nat.le_refl _) (.cells #[.slice none 0 0] 164)
   have hbr:=Blk.new w 164 #[.slice none 0 0] _ rfl
   go_enter Tryz.func162,Tryz.ntmps162
   go_wp2_with fail
   refine (l1Once_any b 12 _ (hc.keep hb0)).mono ?_
   rintro e w1 ⟨r,rfl,hc1,ho1⟩
   have hbr1:=hbr.only ho1 (.inr (by omega))
   have hl1:=hbr1.lt
   have HO1:=Hd_ ((Only.of_below hb0 b (b+1)).trans ho1)
   clear hbr ho1 hb0
   cases r
   · have HSL:=Hd_ (litD_sl w1 3 #[.int .i64 0,.int .i64 0,.int .i64 2,.int .i64 2,.int .i64 1,.int .i64 4,.int .i64 3,.int .i64 6,.int .i64 7] [0,0,2,2,1,4,3,6,7] 9 (b+1) (by omega) (by decide) rfl rfl rfl)
     have HAL:=Hd_ ((Below.refl w1.heap.size w1).alloc (Nat.le_refl _) (.cells #[.int .i64 0,.int .i64 0,.int .i64 2,.int .i64 2,.int .i64 1,.int .i64 4,.int .i64 3,.int .i64 6,.int .i64 7] 3))
     go_wp2_with fail
     refine (l1PickInt_any b _ _ _ (hc1.keep HAL.out) (by decide) HSL.out).mono ?_
     rintro e w2 ⟨k,rfl,-,hc2,ho2⟩
     have hbr2:=(hbr1.keep HAL.out).only ho2 (.inr (by omega))
     have HO2:=Hd_ (HO1.out.trans ((Only.of_below HAL.out b (b+1)).trans ho2))
     have hl2:=hbr2.lt
     clear ho2 hbr1 hc1 HSL HAL
     go_wp2_with fail
     refine (letterExpr_any k _).mono ?_
     rintro e w3 ⟨v,rfl,ht,hb3⟩
     have HB3:=Hd_ (hbr2.keep hb3)
     have HO3:=Hd_ (HO2.out.trans (Only.of_below hb3 b (b+1)))
     have HC3:=Hd_ (hc2.keep hb3)
     have HT3:=Hd_ (ht.view.mono (lo':=w.heap.size+1) (by omega) (Nat.le_refl _))
     clear hbr2 hb3 hc2 ht
     obtain ⟨sx,rfl,hox⟩:=HT3.out
     obtain ⟨AX,nx,cx,rfl⟩:=hox.shape
     have bx:=HB3.out
     have z0:w3.cell? ⟨w.heap.size,0,none⟩=some (.slice none 0 0):=bx.cell 0
     have v0:=bx.frozen 0
     have hlr:=bx.lt
     clear bx hox
     go_wp2_with fail
     have HD:=tk_done HT3.out HC3.out HO3.out rfl hlt (.slice AX nx cx)
     refine bodyPost_ret (v:=.agg #[.slice AX nx cx]) (by simp [results,Tryz.results162,go_sem,z0,v0,hlr]) rfl ⟨_,_,rfl,HD.1,by simp,HD.2.1,HD.2.2⟩
   · have HSL:=Hd_ (litD_sl w1 3 #[.int .i64 1,.int .i64 2] [1,2] 2 (b+1) (by omega) (by decide) rfl rfl rfl)
     have HAL:=Hd_ ((Below.refl w1.heap.size w1).alloc (Nat.le_refl _) (.cells #[.int .i64 1,.int .i64 2] 3))
     go_wp2_with fail
     refine (l1PickInt_any b _ _ _ (hc1.keep HAL.out) (by decide) HSL.out).mono ?_
     rintro e w2 ⟨k,rfl,-,hc2,ho2⟩
     have hbr2:=(hbr1.keep HAL.out).only ho2 (.inr (by omega))
     have HO2:=Hd_ (HO1.out.trans ((Only.of_below HAL.out b (b+1)).trans ho2))
     have hl2:=hbr2.lt
     clear ho2 hbr1 hc1 HSL HAL
     go_wp2_with fail
     refine (l8Leaf_any k _).mono ?_
     rintro e w3 ⟨v,rfl,ht,hb3⟩
     have HB3:=Hd_ (hbr2.keep hb3)
     have HO3:=Hd_ (HO2.out.trans (Only.of_below hb3 b (b+1)))
     have HC3:=Hd_ (hc2.keep hb3)
     have HT3:=Hd_ (ht.view.mono (lo':=w.heap.size+1) (by omega) (Nat.le_refl _))
     clear hbr2 hb3 hc2 ht
     obtain ⟨sx,rfl,hox⟩:=HT3.out
     obtain ⟨AX,nx,cx,rfl⟩:=hox.shape
     have bx:=HB3.out
     have z0:w3.cell? ⟨w.heap.size,0,none⟩=some (.slice none 0 0):=bx.cell 0
     have v0:=bx.frozen 0
     have hlr:=bx.lt
     clear bx hox
     go_wp2_with fail
     have HD:=tk_done HT3.out HC3.out HO3.out rfl hlt (.slice AX nx cx)
     refine bodyPost_ret (v:=.agg #[.slice AX nx cx]) (by simp [results,Tryz.results162,go_sem,z0,v0,hlr]) rfl ⟨_,_,rfl,HD.1,by simp,HD.2.1,HD.2.2⟩
 | succ d ih =>
   intro w hc hd3
   have hlt:=hc.lt
   have hpw:(2:Nat) ^ (d+1+1)=2 * 2 ^ (d+1):=by rw [Nat.pow_succ];omega
   have hp8:(2:Nat) ^ (d+1)<=8:=Nat.le_trans (Nat.pow_le_pow_right (by decide) (show d+1<=3 by omega)) (by decide)
   have hb0:=(Below.refl w.heap.size w).alloc (Nat.le_refl _) (.cells #[.slice none 0 0] 164)
   have hbr:=Blk.new w 164 #[.slice none 0 0] _ rfl
   have hds:((d:Int)+1==0)=false:=by simp;omega
   rw [hpw]
   generalize (2:Nat) ^ (d+1)=P at *
   clear hpw
   go_enter Tryz.func162,Tryz.ntmps162
   go_wp2_with fail
   refine (l1Below_any b 6 _ (hc.keep hb0)).mono ?_
   rintro e w1 ⟨t,rfl,-,hc1,ho1⟩
   have hbr1:=hbr.only ho1 (.inr (by omega))
   have hl1:=hbr1.lt
   have HB1:=Hd_ hbr1
   have HC1:=Hd_ hc1
   have HO1:=Hd_ ((Only.of_below hb0 b (b+1)).trans ho1)
   clear hbr ho1 hb0 hds hbr1 hc1 hc
   by_cases ht0:t=0
   · subst ht0
     go_wp2_with fail
     refine (ih _ HC1.out (by omega)).mono ?_
     rintro e w2 ⟨v2,l2,rfl,h2,hn2,hc2,ho2⟩
     have HB2:=Hd_ (HB1.out.only ho2 (.inr (by omega)))
     have HO2:=Hd_ (HO1.out.trans ho2)
     have H2:=Hd_ h2
     have HC2:=Hd_ hc2
     have hz2:=ho2.size
     clear h2 hc2 ho2
     go_wp2_with fail
     refine (ih _ HC2.out (by omega)).mono ?_
     rintro e w3 ⟨v3,l3,rfl,h3,hn3,hc3,ho3⟩
     have HB3:=Hd_ (HB2.out.only ho3 (.inr (by omega)))
     have HO3:=Hd_ (HO2.out.trans ho3)
     have H23:=Hd_ (((H2.out.only ho3 (Nat.le_refl _) (.inr (by omega))).mono (Nat.zero_le _) ho3.size))
     have H3:=Hd_ (h3.mono (Nat.zero_le _) (Nat.le_refl _))
     have HC3:=Hd_ hc3
     have hz3:=ho3.size
     clear h3 hc3 ho3 H2
     go_wp2_with fail
     refine (l8Join_any _ _ l2 l3 (4,0,0,0) _ H23.out H3.out (by omega) (by omega)).mono ?_
     rintro e w4 ⟨v4,rfl,h4,hb4⟩
     have HB4:=Hd_ (HB3.out.keep hb4)
     have HO4:=Hd_ (HO3.out.trans (Only.of_below hb4 b (b+1)))
     have HC4:=Hd_ (HC3.out.keep hb4)
     have H4:=Hd_ (h4.view.mono (lo':=w.heap.size+1) (by omega) (Nat.le_refl _))
     clear h4 hb4
     obtain ⟨sx,rfl,hox⟩:=H4.out
     obtain ⟨AX,nx,cx,rfl⟩:=hox.shape
     have bx:=HB4.out
     have z0:w4.cell? ⟨w.heap.size,0,none⟩=some (.slice none 0 0):=bx.cell 0
     have v0:=bx.frozen 0
     have hlr:=bx.lt
     clear bx hox
     go_wp2_with fail
     have HD:=tk_done H4.out HC4.out HO4.out rfl hlt (.slice AX nx cx)
     refine bodyPost_ret (v:=.agg #[.slice AX nx cx]) (by simp [results,Tryz.results162,go_sem,z0,v0,hlr]) rfl ⟨_,_,rfl,HD.1,by simp;omega,HD.2.1,HD.2.2⟩
   have hd0:(t==0)=false:=by simpa using ht0
   by_cases ht1:t=1
   · subst ht1
     go_wp2_with fail
     refine (ih _ HC1.out (by omega)).mono ?_
     rintro e w2 ⟨v2,l2,rfl,h2,hn2,hc2,ho2⟩
     have HB2:=Hd_ (HB1.out.only ho2 (.inr (by omega)))
     have HO2:=Hd_ (HO1.out.trans ho2)
     have H2:=Hd_ h2
     have HC2:=Hd_ hc2
     have hz2:=ho2.size
     clear h2 hc2 ho2
     go_wp2_with fail
     refine (ih _ HC2.out (by omega)).mono ?_
     rintro e w3 ⟨v3,l3,rfl,h3,hn3,hc3,ho3⟩
     have HB3:=Hd_ (HB2.out.only ho3 (.inr (by omega)))
     have HO3:=Hd_ (HO2.out.trans ho3)
     have H23:=Hd_ (((H2.out.only ho3 (Nat.le_refl _) (.inr (by omega))).mono (Nat.zero_le _) ho3.size))
     have H3:=Hd_ (h3.mono (Nat.zero_le _) (Nat.le_refl _))
     have HC3:=Hd_ hc3
     have hz3:=ho3.size
     clear h3 hc3 ho3 H2
     go_wp2_with fail
     refine (l8Join_any _ _ l2 l3 (4,0,0,0) _ H23.out H3.out (by omega) (by omega)).mono ?_
     rintro e w4 ⟨v4,rfl,h4,hb4⟩
     have HB4:=Hd_ (HB3.out.keep hb4)
     have HO4:=Hd_ (HO3.out.trans (Only.of_below hb4 b (b+1)))
     have HC4:=Hd_ (HC3.out.keep hb4)
     have H4:=Hd_ (h4.view.mono (lo':=w.heap.size+1) (by omega) (Nat.le_refl _))
     clear h4 hb4
     obtain ⟨sx,rfl,hox⟩:=H4.out
     obtain ⟨AX,nx,cx,rfl⟩:=hox.shape
     have bx:=HB4.out
     have z0:w4.cell? ⟨w.heap.size,0,none⟩=some (.slice none 0 0):=bx.cell 0
     have v0:=bx.frozen 0
     have hlr:=bx.lt
     clear bx hox
     go_wp2_with fail
     have HD:=tk_done H4.out HC4.out HO4.out rfl hlt (.slice AX nx cx)
     refine bodyPost_ret (v:=.agg #[.slice AX nx cx]) (by simp [results,Tryz.results162,go_sem,z0,v0,hlr]) rfl ⟨_,_,rfl,HD.1,by simp;omega,HD.2.1,HD.2.2⟩
   have hd1:(t==1)=false:=by simpa using ht1
   by_cases ht2:t=2
   · subst ht2
     go_wp2_with fail
     refine (ih _ HC1.out (by omega)).mono ?_
     rintro e w2 ⟨v2,l2,rfl,h2,hn2,hc2,ho2⟩
     have HB2:=Hd_ (HB1.out.only ho2 (.inr (by omega)))
     have HO2:=Hd_ (HO1.out.trans ho2)
     have H2:=Hd_ h2
     have HC2:=Hd_ hc2
     have hz2:=ho2.size
     clear h2 hc2 ho2
     go_wp2_with fail
     refine (ih _ HC2.out (by omega)).mono ?_
     rintro e w3 ⟨v3,l3,rfl,h3,hn3,hc3,ho3⟩
     have HB3:=Hd_ (HB2.out.only ho3 (.inr (by omega)))
     have HO3:=Hd_ (HO2.out.trans ho3)
     have H23:=Hd_ (((H2.out.only ho3 (Nat.le_refl _) (.inr (by omega))).mono (Nat.zero_le _) ho3.size))
     have H3:=Hd_ (h3.mono (Nat.zero_le _) (Nat.le_refl _))
     have HC3:=Hd_ hc3
     have hz3:=ho3.size
     clear h3 hc3 ho3 H2
     go_wp2_with fail
     refine (l8Join_any _ _ l2 l3 (5,0,0,0) _ H23.out H3.out (by omega) (by omega)).mono ?_
     rintro e w4 ⟨v4,rfl,h4,hb4⟩
     have HB4:=Hd_ (HB3.out.keep hb4)
     have HO4:=Hd_ (HO3.out.trans (Only.of_below hb4 b (b+1)))
     have HC4:=Hd_ (HC3.out.keep hb4)
     have H4:=Hd_ (h4.view.mono (lo':=w.heap.size+1) (by omega) (Nat.le_refl _))
     clear h4 hb4
     obtain ⟨sx,rfl,hox⟩:=H4.out
     obtain ⟨AX,nx,cx,rfl⟩:=hox.shape
     have bx:=HB4.out
     have z0:w4.cell? ⟨w.heap.size,0,none⟩=some (.slice none 0 0):=bx.cell 0
     have v0:=bx.frozen 0
     have hlr:=bx.lt
     clear bx hox
     go_wp2_with fail
     have HD:=tk_done H4.out HC4.out HO4.out rfl hlt (.slice AX nx cx)
     refine bodyPost_ret (v:=.agg #[.slice AX nx cx]) (by simp [results,Tryz.results162,go_sem,z0,v0,hlr]) rfl ⟨_,_,rfl,HD.1,by simp;omega,HD.2.1,HD.2.2⟩
   have hd2:(t==2)=false:=by simpa using ht2
   by_cases ht3:t=3
   · subst ht3
     go_wp2_with fail
     refine (ih _ HC1.out (by omega)).mono ?_
     rintro e w2 ⟨v2,l2,rfl,h2,hn2,hc2,ho2⟩
     have HB2:=Hd_ (HB1.out.only ho2 (.inr (by omega)))
     have HO2:=Hd_ (HO1.out.trans ho2)
     have H2:=Hd_ h2
     have HC2:=Hd_ hc2
     have hz2:=ho2.size
     clear h2 hc2 ho2
     go_wp2_with fail
     refine (ih _ HC2.out (by omega)).mono ?_
     rintro e w3 ⟨v3,l3,rfl,h3,hn3,hc3,ho3⟩
     have HB3:=Hd_ (HB2.out.only ho3 (.inr (by omega)))
     have HO3:=Hd_ (HO2.out.trans ho3)
     have H23:=Hd_ (((H2.out.only ho3 (Nat.le_refl _) (.inr (by omega))).mono (Nat.zero_le _) ho3.size))
     have H3:=Hd_ (h3.mono (Nat.zero_le _) (Nat.le_refl _))
     have HC3:=Hd_ hc3
     have hz3:=ho3.size
     clear h3 hc3 ho3 H2
     go_wp2_with fail
     refine (l8Join_any _ _ l2 l3 (5,0,0,0) _ H23.out H3.out (by omega) (by omega)).mono ?_
     rintro e w4 ⟨v4,rfl,h4,hb4⟩
     have HB4:=Hd_ (HB3.out.keep hb4)
     have HO4:=Hd_ (HO3.out.trans (Only.of_below hb4 b (b+1)))
     have HC4:=Hd_ (HC3.out.keep hb4)
     have H4:=Hd_ (h4.view.mono (lo':=w.heap.size+1) (by omega) (Nat.le_refl _))
     clear h4 hb4
     obtain ⟨sx,rfl,hox⟩:=H4.out
     obtain ⟨AX,nx,cx,rfl⟩:=hox.shape
     have bx:=HB4.out
     have z0:w4.cell? ⟨w.heap.size,0,none⟩=some (.slice none 0 0):=bx.cell 0
     have v0:=bx.frozen 0
     have hlr:=bx.lt
     clear bx hox
     go_wp2_with fail
     have HD:=tk_done H4.out HC4.out HO4.out rfl hlt (.slice AX nx cx)
     refine bodyPost_ret (v:=.agg #[.slice AX nx cx]) (by simp [results,Tryz.results162,go_sem,z0,v0,hlr]) rfl ⟨_,_,rfl,HD.1,by simp;omega,HD.2.1,HD.2.2⟩
   have hdd3:(t==3)=false:=by simpa using ht3
   by_cases ht4:t=4
   · subst ht4
     go_wp2_with fail
     refine (ih _ HC1.out (by omega)).mono ?_
     rintro e w2 ⟨v2,l2,rfl,h2,hn2,hc2,ho2⟩
     have HB2:=Hd_ (HB1.out.only ho2 (.inr (by omega)))
     have HO2:=Hd_ (HO1.out.trans ho2)
     have H2:=Hd_ (h2.mono (Nat.zero_le _) (Nat.le_refl _))
     have HC2:=Hd_ hc2
     have hz2:=ho2.size
     clear h2 hc2 ho2
     go_wp2_with fail
     refine (l8Join_any _ _ l2 [] (6,0,0,0) _ H2.out (TkV.nil _ _ _) (by omega) (by simp)).mono ?_
     rintro e w4 ⟨v4,rfl,h4,hb4⟩
     have HB4:=Hd_ (HB2.out.keep hb4)
     have HO4:=Hd_ (HO2.out.trans (Only.of_below hb4 b (b+1)))
     have HC4:=Hd_ (HC2.out.keep hb4)
     have H4:=Hd_ (h4.view.mono (lo':=w.heap.size+1) (by omega) (Nat.le_refl _))
     clear h4 hb4
     obtain ⟨sx,rfl,hox⟩:=H4.out
     obtain ⟨AX,nx,cx,rfl⟩:=hox.shape
     have bx:=HB4.out
     have z0:w4.cell? ⟨w.heap.size,0,none⟩=some (.slice none 0 0):=bx.cell 0
     have v0:=bx.frozen 0
     have hlr:=bx.lt
     clear bx hox
     go_wp2_with fail
     have HD:=tk_done H4.out HC4.out HO4.out rfl hlt (.slice AX nx cx)
     refine bodyPost_ret (v:=.agg #[.slice AX nx cx]) (by simp [results,Tryz.results162,go_sem,z0,v0,hlr]) rfl ⟨_,_,rfl,HD.1,by simp;omega,HD.2.1,HD.2.2⟩
   have hd4:(t==4)=false:=by simpa using ht4
   clear ht0 ht1 ht2 ht3 ht4
   go_wp2_with fail
   refine (l1Below_any b 3 _ HC1.out).mono ?_
   rintro e w5 ⟨h,rfl,⟨hh0,-,hh1⟩,hc5,ho5⟩
   have hh1:=hh1 (by omega)
   have HB5:=Hd_ (HB1.out.only ho5 (.inr (by omega)))
   have HO5:=Hd_ (HO1.out.trans ho5)
   have HC5:=Hd_ hc5
   have hz5:=ho5.size
   clear hc5 ho5 hd0 hd1 hd2 hdd3 hd4
   go_wp2_with fail
   refine (ih _ HC5.out (by omega)).mono ?_
   rintro e w2 ⟨v2,l2,rfl,h2,hn2,hc2,ho2⟩
   have HB2:=Hd_ (HB5.out.only ho2 (.inr (by omega)))
   have HO2:=Hd_ (HO5.out.trans ho2)
   have H2:=Hd_ h2
   have HC2:=Hd_ hc2
   have hz2:=ho2.size
   clear h2 hc2 ho2
   go_wp2_with fail
   refine (l1Below_any b _ _ HC2.out).mono ?_
   rintro e w3 ⟨lo,rfl,-,hc3,ho3⟩
   have HB3:=Hd_ (HB2.out.only ho3 (.inr (by omega)))
   have HO3:=Hd_ (HO2.out.trans ho3)
   have H23:=Hd_ (((H2.out.only ho3 (Nat.le_refl _) (.inr (by omega))).mono (Nat.zero_le _) ho3.size))
   have HC3:=Hd_ hc3
   have hz3:=ho3.size
   clear hc3 ho3 H2
   go_wp2_with fail
   refine (l8Join_any _ _ l2 [] (7,0,lo,1+h) _ H23.out (TkV.nil _ _ _) (by omega) (by simp)).mono ?_
   rintro e w4 ⟨v4,rfl,h4,hb4⟩
   have HB4:=Hd_ (HB3.out.keep hb4)
   have HO4:=Hd_ (HO3.out.trans (Only.of_below hb4 b (b+1)))
   have HC4:=Hd_ (HC3.out.keep hb4)
   have H4:=Hd_ (h4.view.mono (lo':=w.heap.size+1) (by omega) (Nat.le_refl _))
   clear h4 hb4
   obtain ⟨sx,rfl,hox⟩:=H4.out
   obtain ⟨AX,nx,cx,rfl⟩:=hox.shape
   have bx:=HB4.out
   have z0:w4.cell? ⟨w.heap.size,0,none⟩=some (.slice none 0 0):=bx.cell 0
   have v0:=bx.frozen 0
   have hlr:=bx.lt
   clear bx hox
   go_wp2_with fail
   have HD:=tk_done H4.out HC4.out HO4.out rfl hlt (.slice AX nx cx)
   refine bodyPost_ret (v:=.agg #[.slice AX nx cx]) (by simp [results,Tryz.results162,go_sem,z0,v0,hlr]) rfl ⟨_,_,rfl,HD.1,by simp;omega,HD.2.1,HD.2.2⟩
def cS (s:ByteArray):List Value:=[.string s]
theorem cS_len (x:ByteArray):(cS x).length=1:=rfl
theorem cS_one (x:ByteArray):∀ u ∈ cS x,u.oneCell'=true:=by intro u hu;simp only [cS,List.mem_cons,List.not_mem_nil,or_false] at hu;subst hu;rfl
theorem elStr:ElemOk Tryz.prog 211 9 (.string ⟨#[]⟩) 1 16:=⟨Tryz.underlying211,by kernel_rfl,rfl,by omega⟩
theorem kcell_own {w w':World} {base k n:Nat} {e:TypeId} {v:Value} {cs:List Value} (hg:w.grownBy w' v.ownBlock) (h:w.ownsRow base e k v n cs) {p:Addr} {u:Value} (hc:w.cell? p=some u) (hp:p.block < base):w'.cell? p=some u :=
 hg.cell hc (fun e=>by have:=(h.lt p.block e.symm).1;omega)
set_option maxHeartbeats 4000000 in
theorem l2Cut_any (s:ByteArray) (w:World) (hs:s.size<=1000) :
 Calls Tryz.prog 207 #[.string s,.int .u8 32] w fun e w'=>∃ v L,e=.returned v/\Own w.heap.size w'.heap.size w' 9 cS 1 v L/\(L.length<=1001/\∀ x ∈ L,x.size<=maxLen)/\Below w.heap.size w w':=by
 have hal:=(Below.refl w.heap.size w).alloc (Nat.le_refl _) (.cells #[] 9)
 have hrl:=World.ownsRow_lit (base:=w.heap.size) (e:=9) (size:=1) w #[] 0 (Nat.le_refl _) (by decide) rfl
 go_enter Tryz.func207,Tryz.ntmps207
 go_wp2
 go_loopw [5,6,7] (fun oo ff ii wr=>∃ (i f:Nat) (L:List ByteArray),i<=s.size/\f<=i/\L.length<=i/\(∀ x ∈ L,x.size<=maxLen)/\ff=.int .i64 (f:Int)/\ii=.int .i64 (i:Int)/\wr.ownsRow w.heap.size 9 1 oo L.length (L.flatMap cS)/\Below w.heap.size w wr) (fun _ _ ii _=>s.size - (intOf ii).toNat)
 case atStart=>exact ⟨0,0,[],by omega,by omega,by simp,by simp,rfl,rfl,hrl,hal⟩
 case round =>
  obtain ⟨i,f,L,hi,hf,hL,hx,rfl,rfl,hrow,hb⟩:=hrel
  obtain ⟨A,n,c,rfl⟩:=rowShape hrow
  have HX:=Hd_ hx
  have HR:=Hd_ hrow
  have HB:=Hd_ hb
  clear hx hrow hb hal hrl
  by_cases hlt:i < s.size
  · have hii:(i:Int) < (s.size:Int):=by omega
    cases hc:((s[i].toNat:Int)==32)
    · go_wp2_with fail
      go_roundw
      case rel=>exact ⟨i+1,f,L,by omega,by omega,by omega,HX.out,rfl,by go_num,HR.out,HB.out⟩
      case measure=>simp [intOf];omega
    · go_wp2_with (at_builtin;(refine wpList_append2 cS elStr rfl _ _ (by rfl) w.heap.size _ L (s.extract f i) 1 _ (by rfl) (HR.out.alloc _) (by rfl) (heap_alloc_new _ _) rfl (cS_one _) (by omega) (by omega) (by have:=HB.out.size;simp;omega) ?_);intro g2 cp2 w9 hown3 hgr3 hat3 hlt3;have HR9:=Hd_ hown3;have HB9:=Hd_ ((HB.out.alloc HB.out.size (.cells #[.string (s.extract f i)] 9)).trans (own_below (HR.out.alloc (.cells #[.string (s.extract f i)] 9)) (by have:=HB.out.size;simp;omega) hgr3));clear hown3 hgr3 hat3)
      have hxs:(s.extract f i).size<=maxLen:=by rw [ByteArray.size_extract];unfold maxLen;omega
      have HXS:=Hd_ hxs
      clear hxs
      go_roundw
      case rel=>exact ⟨i+1,i+1,L ++ [s.extract f i],by omega,by omega,by simp;omega,fun x hx=>by rcases List.mem_append.1 hx with h | h;exact HX.out x h;rw [List.mem_singleton] at h;rw [h];exact HXS.out,by go_num,by go_num,HR9.out,HB9.out⟩
      case measure=>simp [intOf];omega
  · obtain rfl:i=s.size:=by omega
    go_wp2_with (at_builtin;(refine wpList_append2 cS elStr rfl _ _ (by rfl) w.heap.size _ L (s.extract f s.size) 1 _ (by rfl) (HR.out.alloc _) (by rfl) (heap_alloc_new _ _) rfl (cS_one _) (by omega) (by omega) (by have:=HB.out.size;simp;omega) ?_);intro g2 cp2 w9 hown3 hgr3 hat3 hlt3;have HR9:=Hd_ hown3;have HB9:=Hd_ ((HB.out.alloc HB.out.size (.cells #[.string (s.extract f s.size)] 9)).trans (own_below (HR.out.alloc (.cells #[.string (s.extract f s.size)] 9)) (by have:=HB.out.size;simp;omega) hgr3));clear hown3 hgr3 hat3)
    have hxs:(s.extract f s.size).size<=maxLen:=by rw [ByteArray.size_extract];unfold maxLen;omega
    go_ret
    exact ⟨_,L ++ [s.extract f s.size],rfl,Own.of_row HR9.out rfl rfl,⟨by simp;omega,fun x hx=>by rcases List.mem_append.1 hx with h | h;exact HX.out x h;rw [List.mem_singleton] at h;rw [h];exact hxs⟩,HB9.out⟩
/-- an expression that is being read: in the block behind the result's -/
structure PaR (w0 w1 w:World) (ss:Value) (T:List Tok):Prop where
 res:Blk w w0.heap.size 164 #[.slice none 0 0]
 blk:Blk w (w0.heap.size+1) 164 #[ss]
 row:w.ownsRow w1.heap.size 184 4 ss T.length (T.flatMap cEd)
 only:Only (w0.heap.size+1) (w0.heap.size+2) w1 w
 base:Below w0.heap.size w0 w1
 le:w0.heap.size+2<=w1.heap.size
theorem PaR.below {w0 w1 w w':World} {ss:Value} {T:List Tok} (h:PaR w0 w1 w ss T) (hb:Below w.heap.size w w'):PaR w0 w1 w' ss T :=
 ⟨h.res.keep hb,h.blk.keep hb,ownsRow_below h.row hb (Nat.le_refl _),h.only.trans (Only.of_below hb _ _),h.base,h.le⟩
theorem PaR.push {w0 w1 w w':World} {ss:Value} {T T':List Tok} {g n c:Nat} (h:PaR w0 w1 w ss T) (hr:w'.ownsRow w1.heap.size 184 4 (.slice (some ⟨g,0,none⟩) n c) T'.length (T'.flatMap cEd)) (hg:w.grownBy w' ss.ownBlock) :
 Blk w' (w0.heap.size+1) 164 #[ss]/\PaR w0 w1 (w'.setCell ⟨w0.heap.size+1,0,none⟩ (.slice (some ⟨g,0,none⟩) n c)) (.slice (some ⟨g,0,none⟩) n c) T':=by
 have hl:=h.le
 have hb:=own_below h.row h.only.size hg
 have hgl:=(hr.lt g rfl).1
 have hbq:=h.blk.below hb (by omega)
 exact ⟨hbq,(h.res.below hb (by omega)).far (by simp only;omega) _,hbq.set_ 0 _,ownsRow_block hr (fun g' hg'=>by cases hg';exact Below.heap_setCell w' ⟨w0.heap.size+1,0,none⟩ _ g (by simp only;omega)),(h.only.andBelow hb (Nat.le_refl _)).setCell (p:=⟨w0.heap.size+1,0,none⟩) (.inl (by simp only;omega)) _,h.base,hl⟩
theorem PaR.done {w0 w1 w:World} {ss:Value} {T:List Tok} (h:PaR w0 w1 w ss T) :
 TkV w0.heap.size (w.setCell ⟨w0.heap.size,0,none⟩ ss).heap.size (w.setCell ⟨w0.heap.size,0,none⟩ ss) (.agg #[ss]) T/\T.length<=T.length/\Below w0.heap.size w0 (w.setCell ⟨w0.heap.size,0,none⟩ ss):=by
 have hl:=h.le
 have ho:=(Only.refl w0.heap.size (w0.heap.size+1) w).setCell (p:=⟨w0.heap.size,0,none⟩) (.inl ⟨Nat.le_refl _,Nat.lt_succ_self _⟩) ss
 exact ⟨⟨ss,rfl,(((Own.of_row (xs:=T) h.row rfl rfl).only ho (.inr (by omega))).sl cEd_len).mono (by omega) ho.size⟩,Nat.le_refl _,(h.base.trans (h.only.below (by omega) (by omega))).setCell (p:=⟨w0.heap.size,0,none⟩) (Nat.le_refl _) _⟩
theorem PaR.off {w0 w1 w:World} {ss:Value} {T:List Tok} (h:PaR w0 w1 w ss T) :
 TkV w0.heap.size (w.setCell ⟨w0.heap.size,0,none⟩ (.slice none 0 0)).heap.size (w.setCell ⟨w0.heap.size,0,none⟩ (.slice none 0 0)) (.agg #[.slice none 0 0]) []/\([]:List Tok).length<=100/\Below w0.heap.size w0 (w.setCell ⟨w0.heap.size,0,none⟩ (.slice none 0 0)) :=
 ⟨TkV.nil _ _ _,by simp,(h.base.trans (h.only.below (by omega) (by have:=h.base.size;omega))).setCell (p:=⟨w0.heap.size,0,none⟩) (Nat.le_refl _) _⟩
theorem PaR.view {w0 w1 w:World} {ss:Value} {T:List Tok} (h:PaR w0 w1 w ss T):SlE w cEd 4 ss T:=((Own.of_row (xs:=T) h.row rfl rfl).sl cEd_len).mono (Nat.zero_le _) (Nat.le_refl _)
set_option maxHeartbeats 8000000 in
theorem parseExpr_any (s:ByteArray) (w:World) (hs:s.size<=1000) :
 Calls Tryz.prog 183 #[.string s] w fun e w'=>∃ v l is,e=.returned (.tuple #[v,.bool is])/\(TkV w.heap.size w'.heap.size w' v l/\l.length<=100/\Below w.heap.size w w'):=by
 have hb0:=((Below.refl w.heap.size w).alloc (Nat.le_refl _) (.cells #[.slice none 0 0] 164)).alloc (by simp) (.cells #[.slice none 0 0] 164)
 have b1:=(Blk.new w 164 #[.slice none 0 0] _ rfl).alloc (.cells #[.slice none 0 0] 164)
 have b2:=Blk.new (w.alloc (.cells #[.slice none 0 0] 164)) 164 #[.slice none 0 0] (w.heap.size+1) (by simp)
 have hs0:((w.alloc (.cells #[.slice none 0 0] 164)).alloc (.cells #[.slice none 0 0] 164)).heap.size=w.heap.size+2:=by simp
 go_enter Tryz.func183,Tryz.ntmps183
 go_wp2_with fail
 generalize ((w.alloc (.cells #[.slice none 0 0] 164)).alloc (.cells #[.slice none 0 0] 164))=W0 at *
 refine (l2Cut_any s _ hs).mono ?_
 rintro e w1 ⟨v1,L,rfl,hoL,⟨hL,hxL⟩,hb1⟩
 have hc1:=b1.keep hb1
 have hc2:=b2.keep hb1
 have hbw:=below_trans hb0 hb1
 have hsz:=hb1.size
 rw [hs0] at hoL hsz
 obtain ⟨AL,cL,rfl,hlL,hmL,hxx⟩:=hoL.sl cS_len
 unfold maxLen at hmL
 obtain ⟨n,hn⟩:∃ n,n=L.length:=⟨_,rfl⟩
 rw [<- hn] at hL hlL ⊢
 have HN:=Hd_ hn
 have HXX:=Hd_ hxx
 have HXL:=Hd_ hxL
 clear hoL hxx hxL hb0 hb1 b1 b2 hs0 hn
 go_wp2_with fail
 have HP0:=Hd_ (show PaR w w1 w1 (.slice none 0 0) [] from ⟨hc1,hc2,World.ownsRow_nil _ _ _ 4,Only.refl _ _ _,hbw,hsz⟩)
 clear hc1 hc2 hbw hsz
 go_loopw [6] (fun ii wr=>∃ (i:Nat) (ss:Value) (T:List Tok),i<=25/\ii=.int .i64 (i:Int)/\T.length=i/\PaR w w1 wr ss T) (fun ii _=>30 - (intOf ii).toNat)
 case atStart=>exact ⟨0,_,[],by omega,rfl,rfl,HP0.out⟩
 case round =>
  obtain ⟨i,ss,T,hi,rfl,hT,hP⟩:=hrel
  have HT:=Hd_ hT
  have hTl:T.length<=25:=by omega
  obtain ⟨A3,n3,c3,rfl⟩:=rowShape hP.row
  have HP:=Hd_ hP
  have x0:wr.cell? ⟨w.heap.size+1,0,none⟩=some (.slice A3 n3 c3):=hP.blk.cell 0
  clear hT hP HP0
  by_cases hlt:i < n
  · have hin:(i:Int) < (n:Int):=by omega
    by_cases h24:i<=24
    · have hi24:(i:Int)<=24:=by omega
      have hxi:L[i]?=some L[i]:=List.getElem?_eq_getElem (by have:=HN.out;omega)
      obtain ⟨q,o,rfl,hq0,hq1,hcc⟩:=HXX.out i _ hxi
      have hxs:=HXL.out _ (List.mem_of_getElem? hxi)
      generalize L[i]=x at hcc hxs
      have e0:=(HP.out.only.cell (p:=⟨q,o+i * 1+0,none⟩) hq1 (.inr (by simp only;omega))).trans (hcc 0 _ rfl)
      simp only [Nat.add_zero,Nat.mul_one] at e0
      have HXS:=Hd_ hxs
      clear hcc hxi hxs
      go_wp2_with fail
      refine F_start 10 (fun w'=>w'.cell? ⟨w.heap.size+1,0,none⟩=some (.slice A3 n3 c3)/\w'.cell? ⟨q,o+i,none⟩=some (.string x)) (by kernel_rfl) (by exact ⟨x0,e0⟩) (fun hS inv=>?_)
      refine F_tk 0 inv ?_
      try simp only [tA,tB,tC,Act.put,tE,tF,tG]
      clear inv;intro inv
      refine F_tk 1 inv ?_
      try simp only [tA,tB,tC,Act.put,tE,tF,tG]
      clear inv;intro inv
      refine F_tk 2 inv ?_
      try simp only [tA,tB,tC,Act.put,tE,tF,tG]
      clear inv;intro inv
      refine F_tk 3 inv ?_
      try simp only [tA,tB,tC,Act.put,tE,tF,tG]
      clear inv;intro inv
      refine F_tk 4 inv ?_
      try simp only [tA,tB,tC,Act.put,tE,tF,tG]
      clear inv;intro inv
      refine F_tk 5 inv ?_
      try simp only [tA,tB,tC,Act.put,tE,tF,tG]
      clear inv;intro inv
      have HPd:=Hd_ (HP.out.below ((Below.refl _ _).drew))
      clear HP x0 e0
      refine F_o1 6 inv ?_;intro K hK
      try simp only [tA,tB,tC]
      go_simp
      refine (l8Read_any x _ HXS.out).mono ?_
      rintro e w2 ⟨⟨t0,t1,t2,t3⟩,rfl,hb2⟩
      have HP2:=Hd_ (HPd.out.below hb2)
      refine hK.out _ _ (⟨HP2.out.blk.cell 0,kcell hb2 hS.2⟩) (fun _ _=>?_)
      try simp only [tA,tB,tC,Act.put,tE,tF,tG]
      clear hK K inv hS;rename_i hS inv
      clear HPd
      refine F_o1 7 inv ?_;intro K hK
      try simp only [tA,tB,tC]
      go_simp
      have hal:=(Below.refl w2.heap.size w2).alloc (Nat.le_refl _) (.cells #[.int .i64 t0,.int .i64 t1,.int .i64 t2,.int .i64 t3] 184)
      have HP3:=Hd_ (HP2.out.below hal)
      refine hK.out _ _ (⟨HP3.out.blk.cell 0,kcell hal hS.2⟩) (fun _ _=>?_)
      try simp only [tA,tB,tC,Act.put,tE,tF,tG]
      clear hK K inv hS;rename_i hS inv
      clear HP2 hal
      refine F_o1 8 inv ?_;intro K hK
      try simp only [tA,tB,tC]
      refine op_append1 cEd elTok rfl _ _ (by rfl) w1.heap.size _ T (t0,t1,t2,t3) 1 _ (by rfl) HP3.out.row (by first | rfl | simp) (heap_alloc_new _ _) rfl (cEd_one _) (by omega) (by omega) HP3.out.only.size ?_
      intro g2 cp2 w9 hown3 hgr3 hat3 hlt3
      have HQ:=Hd_ (HP3.out.push hown3 hgr3)
      have hq3:w9.cell? ⟨q,o+i,none⟩=some (.string x):=kcell_own hgr3 HP3.out.row hS.2 (by simp only;omega)
      clear hown3 hgr3 hat3
      refine hK.out _ _ (⟨HQ.out.1.cell 0,hq3⟩) (fun _ _=>?_)
      try simp only [tA,tB,tC,Act.put,tE,tF,tG]
      clear hK K inv hS;rename_i hS inv
      clear hq3
      refine F_tk 9 inv ?_
      try simp only [tA,tB,tC,Act.put,tE,tF,tG]
      clear inv;intro inv
      have f0:=HQ.out.1.frozen 0
      have hlq:=HQ.out.1.lt
      refine F_l1 10 ?_;intro K hK
      go_simp
      refine hK _ _ ?_
      clear hK K inv hS
      have HQ2:=Hd_ HQ.out.2
      clear HQ f0 hlq HP3
      go_wp2_with fail
      go_roundw
      case rel=>exact ⟨i+1,_,_,by omega,by go_num,by simp [HT.out],HQ2.out⟩
      case measure=>simp [intOf];omega
    · have hi24:¬ (i:Int)<=24:=by omega
      go_wp2_with fail
      refine (isValidExpr_any _ T _ HP.out.view).mono ?_
      rintro e w9 ⟨rfl,hb9⟩
      generalize okE T=ok
      have HP9:=Hd_ (HP.out.below hb9)
      clear hb9 x0 HP
      have x0:w9.cell? ⟨w.heap.size+1,0,none⟩=some (.slice A3 n3 c3):=HP9.out.blk.cell 0
      have z0:w9.cell? ⟨w.heap.size,0,none⟩=some (.slice none 0 0):=HP9.out.res.cell 0
      have v0:=HP9.out.res.frozen 0
      have hlr:=HP9.out.res.lt
      cases ok
      · go_wp2_with fail
        exact bodyPost_ret (v:=.tuple #[.agg #[.slice none 0 0],.bool false]) (by simp [results,Tryz.results183,go_sem,z0,v0,hlr]) rfl ⟨_,[],_,rfl,HP9.out.off⟩
      · go_wp2_with fail
        have HD:=HP9.out.done
        exact bodyPost_ret (v:=.tuple #[.agg #[.slice A3 n3 c3],.bool true]) (by simp [results,Tryz.results183,go_sem,z0,v0,hlr]) rfl ⟨_,T,_,rfl,HD.1,by omega,HD.2.2⟩
  · have hin:¬ (i:Int) < (n:Int):=by omega
    go_wp2_with fail
    refine (isValidExpr_any _ T _ HP.out.view).mono ?_
    rintro e w9 ⟨rfl,hb9⟩
    generalize okE T=ok
    have HP9:=Hd_ (HP.out.below hb9)
    clear hb9 x0 HP
    have x0:w9.cell? ⟨w.heap.size+1,0,none⟩=some (.slice A3 n3 c3):=HP9.out.blk.cell 0
    have z0:w9.cell? ⟨w.heap.size,0,none⟩=some (.slice none 0 0):=HP9.out.res.cell 0
    have v0:=HP9.out.res.frozen 0
    have hlr:=HP9.out.res.lt
    cases ok
    · go_wp2_with fail
      exact bodyPost_ret (v:=.tuple #[.agg #[.slice none 0 0],.bool false]) (by simp [results,Tryz.results183,go_sem,z0,v0,hlr]) rfl ⟨_,[],_,rfl,HP9.out.off⟩
    · go_wp2_with fail
      have HD:=HP9.out.done
      exact bodyPost_ret (v:=.tuple #[.agg #[.slice A3 n3 c3],.bool true]) (by simp [results,Tryz.results183,go_sem,z0,v0,hlr]) rfl ⟨_,T,_,rfl,HD.1,by omega,HD.2.2⟩
def strOk (v:Value):Bool:=match v with | .string s=>decide (s.size<=1000) | _=>false
theorem strOk_of {v:Value} (h:strOk v=true):∃ s,v=.string s/\s.size<=1000:=by
 unfold strOk at h
 split at h
 · exact ⟨_,rfl,by simpa using h⟩
 · cases h
set_option maxHeartbeats 1000000 in
/-- a text picked out of a list that was just laid -/
theorem l1Pick_lit (b n:Nat) (cs:Array Value) (e:TypeId) (w:World) (hc:Cur w b) (hn:0 < n) (hm:n<=1000) (hcs:cs.size=n) (hall:cs.toList.all strOk=true) :
 Calls Tryz.prog 184 #[.pointer (some ⟨b,0,none⟩),.slice (some ⟨w.heap.size,0,none⟩) n n] (w.alloc (.cells cs e)) fun e' w'=>∃ r,e'=.returned (.string r)/\r.size<=1000/\Cur w' b/\Only b (b+1) (w.alloc (.cells cs e)) w':=by
 have hlt:=hc.lt
 have hal:=(Below.refl w.heap.size w).alloc (Nat.le_refl _) (.cells cs e)
 have hbk:=Blk.new w e cs _ rfl
 have HALL:=Hd_ hall
 have HCS:=Hd_ hcs
 have HC:=Hd_ (hc.keep hal)
 generalize hW:w.alloc (.cells cs e)=W at *
 clear hall hcs hal hW hc
 go_enter Tryz.func184,Tryz.ntmps184
 go_wp2_with fail
 refine (l1Below_any b _ _ HC.out).mono ?_;rintro e1 w1 ⟨r,rfl,⟨h0,-,h1⟩,hc1,ho1⟩
 have h1:=h1 (by omega)
 obtain ⟨i,rfl⟩:=Int.eq_ofNat_of_zero_le h0
 have hi:i < cs.size:=by have:=HCS.out;omega
 have hbk1:=hbk.only ho1 (.inr (by omega))
 have hci:=hbk1.cell i
 rw [Array.getElem?_eq_getElem hi] at hci
 obtain ⟨s,hs,hs2⟩:=strOk_of (List.all_eq_true.1 HALL.out cs[i] (by simp))
 rw [hs] at hci
 have HS2:=Hd_ hs2
 clear hs hs2 hbk hbk1
 go_wp2_with fail
 go_ret
 exact ⟨_,rfl,HS2.out,hc1,ho1⟩
set_option maxRecDepth 100000 in
set_option maxHeartbeats 4000000 in
theorem l8Known_any (b:Nat) (w:World) (hc:Cur w b) :
 Calls Tryz.prog 161 #[.pointer (some ⟨b,0,none⟩)] w fun e w'=>∃ v l,e=.returned v/\TkV w.heap.size w'.heap.size w' v l/\l.length<=100/\Cur w' b/\Only b (b+1) w w':=by
 have hlt:=hc.lt
 have hb0:=(Below.refl w.heap.size w).alloc (Nat.le_refl _) (.cells #[.slice none 0 0] 164)
 have hbr:=Blk.new w 164 #[.slice none 0 0] _ rfl
 go_enter Tryz.func161,Tryz.ntmps161
 go_upto_region 1 with fail
 generalize w.alloc (.cells #[.slice none 0 0] 164)=W0 at *
 go_wp2_with fail
 refine (l1Pick_lit b _ _ _ _ (hc.keep hb0) (by decide) (by decide) (by rfl) (by kernel_rfl)).mono ?_
 rintro e w1 ⟨s,rfl,hs1,hc1,ho1⟩
 have hbr1:=(hbr.alloc _).only ho1 (.inr (by omega))
 have HO1:=Hd_ (((Only.of_below hb0 b (b+1)).alloc _).trans ho1)
 have hl1:=hbr1.lt
 have HC1:=Hd_ hc1
 clear ho1 hbr hb0 hc1
 go_wp2_with fail
 refine (parseExpr_any s _ hs1).mono ?_
 rintro e w2 ⟨v,l,is,rfl,hv,hl,hb2⟩
 obtain ⟨ss,rfl,hsv⟩:=hv
 obtain ⟨A,n,c,rfl⟩:=hsv.shape
 have hal:=(Below.refl w2.heap.size w2).alloc (Nat.le_refl _) (.cells #[.slice A n c] 164)
 have hbA:=below_trans hb2 hal
 have hbr2:=hbr1.keep hbA
 have HT:=Hd_ (show TkV (w.heap.size+1) _ _ (.agg #[.slice A n c]) l from ⟨_,rfl,(hsv.below hal (Nat.le_refl _)).mono (by omega) hal.size⟩)
 have HC2:=Hd_ (HC1.out.keep hbA)
 have HO2:=Hd_ (HO1.out.trans (Only.of_below hbA b (b+1)))
 have hbn:=Blk.new w2 164 #[.slice A n c] _ rfl
 have HL:=Hd_ hl
 clear hsv hbA hb2 hal hbr1 hl hs1
 go_upto_region 2 with fail
 generalize w2.alloc (.cells #[.slice A n c] 164)=W2 at *
 have x0:W2.cell? ⟨w2.heap.size,0,none⟩=some (.slice A n c):=hbn.cell 0
 have z0:W2.cell? ⟨w.heap.size,0,none⟩=some (.slice none 0 0):=hbr2.cell 0
 have v0:=hbr2.frozen 0
 have hlr:=hbr2.lt
 clear hbn hbr2
 go_wp2_with fail
 have HD:=tk_done HT.out HC2.out HO2.out rfl hlt (.slice A n c)
 exact bodyPost_ret (v:=.agg #[.slice A n c]) (by simp [results,Tryz.results161,go_sem,z0,v0,hlr]) rfl ⟨_,l,rfl,HD.1,HL.out,HD.2.1,HD.2.2⟩
set_option maxHeartbeats 4000000 in
theorem l8Expr_any (b:Nat) (w:World) (hc:Cur w b) :
 Calls Tryz.prog 133 #[.pointer (some ⟨b,0,none⟩)] w fun e w'=>∃ v l,e=.returned v/\TkV w.heap.size w'.heap.size w' v l/\l.length<=100/\Cur w' b/\Only b (b+1) w w':=by
 have hlt:=hc.lt
 have hb0:=(Below.refl w.heap.size w).alloc (Nat.le_refl _) (.cells #[.slice none 0 0] 164)
 have hbr:=Blk.new w 164 #[.slice none 0 0] _ rfl
 go_enter Tryz.func133,Tryz.ntmps133
 go_wp2_with fail
 refine (l1Once_any b 2 _ (hc.keep hb0)).mono ?_
 rintro e w1 ⟨r,rfl,hc1,ho1⟩
 have hbr1:=hbr.only ho1 (.inr (by omega))
 have hl1:=hbr1.lt
 have HO1:=Hd_ ((Only.of_below hb0 b (b+1)).trans ho1)
 clear hbr ho1 hb0
 cases r
 · go_wp2_with fail
   refine (l1Below_any b 3 _ hc1).mono ?_
   rintro e w2 ⟨k,rfl,⟨hk0,-,hk1⟩,hc2,ho2⟩
   have hk1:=hk1 (by omega)
   obtain ⟨k,rfl⟩:=Int.eq_ofNat_of_zero_le hk0
   have hbr2:=hbr1.only ho2 (.inr (by omega))
   have HO2:=Hd_ (HO1.out.trans ho2)
   have hl2:=hbr2.lt
   clear ho2 hbr1 hc1
   go_wp2_with fail
   have hmk:=l8Make_any b (1+k) _ hc2 (by omega)
   rw [show (((1+k:Nat)):Int)=1+(k:Int) by omega] at hmk
   refine hmk.mono ?_
   rintro e w3 ⟨v,l,rfl,ht,hl3,hc3,ho3⟩
   have HB3:=Hd_ (hbr2.only ho3 (.inr (by omega)))
   have HO3:=Hd_ (HO2.out.trans ho3)
   have HC3:=Hd_ hc3
   have HT3:=Hd_ (ht.mono (lo':=w.heap.size+1) (by omega) (Nat.le_refl _))
   have hp:(2:Nat) ^ (1+k+1)<=2 ^ 4:=Nat.pow_le_pow_right (by decide) (by omega)
   have HL:=Hd_ (show l.length<=100 by simp at hp;omega)
   clear hbr2 hc3 ht ho3 hmk hp hl3
   obtain ⟨sx,rfl,hox⟩:=HT3.out
   obtain ⟨AX,nx,cx,rfl⟩:=hox.shape
   have bx:=HB3.out
   have z0:w3.cell? ⟨w.heap.size,0,none⟩=some (.slice none 0 0):=bx.cell 0
   have v0:=bx.frozen 0
   have hlr:=bx.lt
   clear bx hox
   go_wp2_with fail
   have HD:=tk_done HT3.out HC3.out HO3.out rfl hlt (.slice AX nx cx)
   refine bodyPost_ret (v:=.agg #[.slice AX nx cx]) (by simp [results,Tryz.results133,go_sem,z0,v0,hlr]) rfl ⟨_,_,rfl,HD.1,HL.out,HD.2.1,HD.2.2⟩
 · go_wp2_with fail
   refine (l8Known_any b _ hc1).mono ?_
   rintro e w3 ⟨v,l,rfl,ht,hl3,hc3,ho3⟩
   have HB3:=Hd_ (hbr1.only ho3 (.inr (by omega)))
   have HO3:=Hd_ (HO1.out.trans ho3)
   have HC3:=Hd_ hc3
   have HT3:=Hd_ (ht.mono (lo':=w.heap.size+1) (by omega) (Nat.le_refl _))
   have HL:=Hd_ hl3
   clear hbr1 hc3 ht ho3 hl3 hc1
   obtain ⟨sx,rfl,hox⟩:=HT3.out
   obtain ⟨AX,nx,cx,rfl⟩:=hox.shape
   have bx:=HB3.out
   have z0:w3.cell? ⟨w.heap.size,0,none⟩=some (.slice none 0 0):=bx.cell 0
   have v0:=bx.frozen 0
   have hlr:=bx.lt
   clear bx hox
   go_wp2_with fail
   have HD:=tk_done HT3.out HC3.out HO3.out rfl hlt (.slice AX nx cx)
   refine bodyPost_ret (v:=.agg #[.slice AX nx cx]) (by simp [results,Tryz.results133,go_sem,z0,v0,hlr]) rfl ⟨_,_,rfl,HD.1,HL.out,HD.2.1,HD.2.2⟩
theorem aut_done {b r lo:Nat} {w0 w:World} {st:Int} {ac nx:Value} {us:List Value} {acc:List Bool} {nxt:List (List Int)} (h:AuR lo w ac nx us acc nxt) (hc:Cur w b) (ho:Only b (b+1) w0 w) (hr:w0.heap.size<=r) (hlo:r < lo) (hb:b < w0.heap.size)
 (hn:acc.length=nxt.length/\0 < nxt.length/\nxt.length<=100/\∀ row ∈ nxt,row.length=9):AutCur b w0 (.returned (.agg #[.int .i64 st,ac,nx])) (put3 w r (.int .i64 st) ac nx):=by
 have hp:=put3_only w r (.int .i64 st) ac nx
 exact ⟨⟨_,_,_,us,acc,nxt,rfl,(h.only hp (by omega)).mono (by omega),hn,((ho.setCell (p:=⟨r,0,none⟩) (.inr (by simp only;omega)) _).setCell (p:=⟨r,1,none⟩) (.inr (by simp only;omega)) _).setCell (p:=⟨r,2,none⟩) (.inr (by simp only;omega)) _⟩,hc.only hp (by omega)⟩
set_option maxHeartbeats 8000000 in
theorem l11Aut_any (b:Nat) (w:World) (hc:Cur w b) :
 Calls Tryz.prog 86 #[.pointer (some ⟨b,0,none⟩)] w (AutCur b w):=by
 have hbw:=hc.lt
 have hb0:=(Below.refl w.heap.size w).alloc (Nat.le_refl _) (.cells #[.int .i64 0,.slice none 0 0,.slice none 0 0] 31)
 have hbr:=Blk.new w 31 #[.int .i64 0,.slice none 0 0,.slice none 0 0] _ rfl
 go_enter Tryz.func86,Tryz.ntmps86
 go_wp2_with fail
 refine (l1Once_any b 3 _ (hc.keep hb0)).mono ?_
 rintro e w1 ⟨o,rfl,hc1,ho1⟩
 have HBR1:=Hd_ (hbr.only ho1 (.inr (by omega)))
 have HO1:=Hd_ ((Only.of_below hb0 b (b+1)).trans ho1)
 have HC1:=Hd_ hc1
 clear hb0 hbr ho1 hc1
 cases o
 · go_wp2_with fail
   refine (l8Expr_any b _ HC1.out).mono ?_
   rintro e w2 ⟨v2,l,rfl,htk,-,hc2,ho2⟩
   have HBR2:=Hd_ (HBR1.out.only ho2 (.inr (by omega)))
   have HO2:=Hd_ (HO1.out.trans ho2)
   have HC2:=Hd_ hc2
   have HTK:=Hd_ (htk.mono (Nat.zero_le _) (Nat.le_refl _))
   clear hc2 ho2 htk HBR1 HO1 HC1
   go_wp2_with fail
   refine (buildPositions_any _ l _ HTK.out).mono ?_
   rintro e w3 ⟨v3,is3,L,F,rfl,hpv,hb3⟩
   obtain ⟨ls,fs,fi,la,nu,rfl,g1,g2,hLF⟩:=hpv
   obtain ⟨B1,m1,d1,rfl⟩:=g1.shape
   obtain ⟨B2,m2,d2,rfl⟩:=g2.shape
   have hal:=(Below.refl w3.heap.size w3).alloc (Nat.le_refl _) (.cells #[.slice B1 m1 d1,.int .i64 fi,.int .i64 la,.slice B2 m2 d2,.bool nu] 159)
   have hbA:=below_trans hb3 hal
   have hbp:=Blk.new w3 159 #[.slice B1 m1 d1,.int .i64 fi,.int .i64 la,.slice B2 m2 d2,.bool nu] _ rfl
   have HPV:=Hd_ (PosV.keep (show PosV 0 w3.heap.size w3 (.agg #[.slice B1 m1 d1,.int .i64 fi,.int .i64 la,.slice B2 m2 d2,.bool nu]) L F from ⟨_,_,_,_,_,rfl,g1.mono (Nat.zero_le _) (Nat.le_refl _),g2.mono (Nat.zero_le _) (Nat.le_refl _),hLF⟩) hal)
   have HBR3:=Hd_ (HBR2.out.keep hbA)
   have HO3:=Hd_ (HO2.out.trans (Only.of_below hbA b (b+1)))
   have HC3:=Hd_ (HC2.out.keep hbA)
   clear g1 g2 hLF hb3 hal hbA HBR2 HO2 HC2 HTK
   go_upto_region 4 with fail
   generalize w3.alloc (.cells #[.slice B1 m1 d1,.int .i64 fi,.int .i64 la,.slice B2 m2 d2,.bool nu] 159)=W3 at *
   have x0:W3.cell? ⟨w3.heap.size,0,none⟩=some (.slice B1 m1 d1):=hbp.cell 0
   have x1:W3.cell? ⟨w3.heap.size,1,none⟩=some (.int .i64 fi):=hbp.cell 1
   have x2:W3.cell? ⟨w3.heap.size,2,none⟩=some (.int .i64 la):=hbp.cell 2
   have x3:W3.cell? ⟨w3.heap.size,3,none⟩=some (.slice B2 m2 d2):=hbp.cell 3
   have x4:W3.cell? ⟨w3.heap.size,4,none⟩=some (.bool nu):=hbp.cell 4
   clear hbp
   go_wp2_with fail
   refine (l11Subsets_any _ L F _ HPV.out).mono ?_
   rintro e w4 ⟨A1,n1,c1,A2,n2,c2,st,is,rfl,hex,hb4⟩
   have hal:=(Below.refl w4.heap.size w4).alloc (Nat.le_refl _) (.cells #[.int .i64 st,.slice A1 n1 c1,.slice A2 n2 c2] 31)
   have hbA:=below_trans hb4 hal
   have hbq:=Blk.new w4 31 #[.int .i64 st,.slice A1 n1 c1,.slice A2 n2 c2] _ rfl
   have HBR4:=Hd_ (HBR3.out.keep hbA)
   have HO4:=Hd_ (HO3.out.trans (Only.of_below hbA b (b+1)))
   have HC4:=Hd_ (HC3.out.keep hbA)
   have HAL:=Hd_ hal
   have hw3:w.heap.size < W3.heap.size:=HBR3.out.lt
   clear x0 x1 x2 x3 x4 hb4 hal hbA HBR3 HO3 HC3 HPV
   go_upto_region 5 with fail
   generalize w4.alloc (.cells #[.int .i64 st,.slice A1 n1 c1,.slice A2 n2 c2] 31)=W4 at *
   cases is
   · clear hex hbq
     go_wp2_with fail
     refine (l11Random_any b _ HC4.out).mono ?_
     rintro e w9 ⟨⟨st,ac,nx,us,acc,nxt,rfl,hau,hnn,ho9⟩,hc9⟩
     obtain ⟨A1,c1,rfl,-,-,-⟩:=ownSh hau.acc
     obtain ⟨A2,c2,rfl,-,-,-⟩:=ownSh hau.nxt.own
     have hbr9:=HBR4.out.only ho9 (.inr (by omega))
     have hlw:=HBR4.out.lt
     have z0:w9.cell? ⟨w.heap.size,0,none⟩=some (.int .i64 0):=hbr9.cell 0
     have z1:w9.cell? ⟨w.heap.size,1,none⟩=some (.slice none 0 0):=hbr9.cell 1
     have z2:w9.cell? ⟨w.heap.size,2,none⟩=some (.slice none 0 0):=hbr9.cell 2
     have v0:=hbr9.frozen 0
     have v1:=hbr9.frozen 1
     have v2:=hbr9.frozen 2
     have hlr:=hbr9.lt
     have HD:=Hd_ (aut_done (r:=w.heap.size) (st:=st) hau hc9 (HO4.out.trans ho9) (Nat.le_refl _) hlw hbw hnn)
     clear hbr9 hau hnn ho9 hc9
     go_wp2_with fail
     exact bodyPost_ret (v:=.agg #[.int .i64 st,.slice A1 acc.length c1,.slice A2 us.length c2]) (by simp [results,Tryz.results86,go_sem,z0,z1,z2,v0,v1,v2,hlr]) rfl HD.out
   · obtain ⟨us,acc,nxt,hau,hnn⟩:=hex rfl
     have y0:W4.cell? ⟨w4.heap.size,0,none⟩=some (.int .i64 st):=hbq.cell 0
     have y1:W4.cell? ⟨w4.heap.size,1,none⟩=some (.slice A1 n1 c1):=hbq.cell 1
     have y2:W4.cell? ⟨w4.heap.size,2,none⟩=some (.slice A2 n2 c2):=hbq.cell 2
     have z0:W4.cell? ⟨w.heap.size,0,none⟩=some (.int .i64 0):=HBR4.out.cell 0
     have z1:W4.cell? ⟨w.heap.size,1,none⟩=some (.slice none 0 0):=HBR4.out.cell 1
     have z2:W4.cell? ⟨w.heap.size,2,none⟩=some (.slice none 0 0):=HBR4.out.cell 2
     have v0:=HBR4.out.frozen 0
     have v1:=HBR4.out.frozen 1
     have v2:=HBR4.out.frozen 2
     have hlr:=HBR4.out.lt
     have HD:=Hd_ (aut_done (r:=w.heap.size) (st:=st) (hau.below HAL.out) HC4.out HO4.out (Nat.le_refl _) hw3 hbw hnn)
     clear hau hnn hbq hex
     go_wp2_with fail
     exact bodyPost_ret (v:=.agg #[.int .i64 st,.slice A1 n1 c1,.slice A2 n2 c2]) (by simp [results,Tryz.results86,go_sem,z0,z1,z2,v0,v1,v2,hlr]) rfl HD.out
 · skip
   go_wp2_with fail
   refine (l11Random_any b _ HC1.out).mono ?_
   rintro e w9 ⟨⟨st,ac,nx,us,acc,nxt,rfl,hau,hnn,ho9⟩,hc9⟩
   obtain ⟨A1,c1,rfl,-,-,-⟩:=ownSh hau.acc
   obtain ⟨A2,c2,rfl,-,-,-⟩:=ownSh hau.nxt.own
   have hbr9:=HBR1.out.only ho9 (.inr (by omega))
   have hlw:=HBR1.out.lt
   have z0:w9.cell? ⟨w.heap.size,0,none⟩=some (.int .i64 0):=hbr9.cell 0
   have z1:w9.cell? ⟨w.heap.size,1,none⟩=some (.slice none 0 0):=hbr9.cell 1
   have z2:w9.cell? ⟨w.heap.size,2,none⟩=some (.slice none 0 0):=hbr9.cell 2
   have v0:=hbr9.frozen 0
   have v1:=hbr9.frozen 1
   have v2:=hbr9.frozen 2
   have hlr:=hbr9.lt
   have HD:=Hd_ (aut_done (r:=w.heap.size) (st:=st) hau hc9 (HO1.out.trans ho9) (Nat.le_refl _) hlw hbw hnn)
   clear hbr9 hau hnn ho9 hc9
   go_wp2_with fail
   exact bodyPost_ret (v:=.agg #[.int .i64 st,.slice A1 acc.length c1,.slice A2 us.length c2]) (by simp [results,Tryz.results86,go_sem,z0,z1,z2,v0,v1,v2,hlr]) rfl HD.out
end Go.Proofs.YtjpdembmchnbgaaGreat
