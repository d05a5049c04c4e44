/- Parts of the proof, joined into one text: ExpD, SzE, TimE. -/
import Derived.Test.YteaplabkemoenaaGreatOnlzGFGPLLBC
import Derived.Test.YteaplabkemoenaaGreatOnlzAIFFPHMF
import Derived.Deep.Cut
import Derived.Deep.DeepCutAuto
set_option linter.unusedVariables false
set_option linter.unusedSimpArgs false
namespace Go.Proofs.YteaplabkemoenaaGreat
open Go.ChangeShapes Go.WideShapes Go.ChangeAt Go.RowKit
attribute [local go_sem] ext_cell ext_frozen ext_lt ext_lt1 ext_lt2 ext_lt3 ltn2 ltn3 ltn13 lts1 lts2 lts3
theorem elTok:ElemOk Tryz.prog 132 147 (.agg #[.int .i64 0,.int .i64 0,.int .i64 0,.int .i64 0]) 4 32:=⟨Tryz.underlying132,by kernel_rfl,rfl,by omega⟩
/-- an expression in memory of the call's own -/
def TkO (lo hi:Nat) (w:World) (v:Value) (l:List Tok):Prop:=∃ ss,v=.agg #[ss]/\Own lo hi w 147 cEd 4 ss l
theorem TkO.below {lo hi:Nat} {w w':World} {v:Value} {l:List Tok} (h:TkO lo hi w v l) {B:Nat} (hb:Below B w w') (hB:hi<=B):TkO lo hi w' v l:=by
 obtain ⟨ss,rfl,h⟩:=h
 exact ⟨ss,rfl,h.below hb hB⟩
theorem TkO.only {lo hi:Nat} {w w':World} {v:Value} {l:List Tok} (h:TkO lo hi w v l) {a b:Nat} (hb:Only a b w w') (ho:hi<=a ∨ b<=lo):TkO lo hi w' v l:=by
 obtain ⟨ss,rfl,h⟩:=h
 exact ⟨ss,rfl,h.only hb ho⟩
theorem TkO.mono {lo hi lo' hi':Nat} {w:World} {v:Value} {l:List Tok} (h:TkO lo hi w v l) (h1:lo'<=lo) (h2:hi<=hi'):TkO lo' hi' w v l:=by
 obtain ⟨ss,rfl,h⟩:=h
 exact ⟨ss,rfl,h.mono h1 h2⟩
/-- an expression that reads as a list of tokens -/
def TkV (lo hi:Nat) (w:World) (v:Value) (l:List Tok):Prop:=∃ ss,v=.agg #[ss]/\SlI lo hi w cEd 4 ss l
theorem TkO.view {lo hi:Nat} {w:World} {v:Value} {l:List Tok} (h:TkO lo hi w v l):TkV lo hi w v l:=by
 obtain ⟨ss,rfl,h⟩:=h
 exact ⟨ss,rfl,h.sl cEd_len⟩
theorem TkV.below {lo hi:Nat} {w w':World} {v:Value} {l:List Tok} (h:TkV lo hi w v l) {B:Nat} (hb:Below B w w') (hB:hi<=B):TkV lo hi w' v l:=by
 obtain ⟨ss,rfl,h⟩:=h
 exact ⟨ss,rfl,h.below hb hB⟩
theorem TkV.only {lo hi:Nat} {w w':World} {v:Value} {l:List Tok} (h:TkV lo hi w v l) {a b:Nat} (hb:Only a b w w') (hh:hi<=w.heap.size) (ho:hi<=a ∨ b<=lo):TkV lo hi w' v l:=by
 obtain ⟨ss,rfl,h⟩:=h
 exact ⟨ss,rfl,h.only hb hh ho⟩
theorem TkV.mono {lo hi lo' hi':Nat} {w:World} {v:Value} {l:List Tok} (h:TkV lo hi w v l) (h1:lo'<=lo) (h2:hi<=hi'):TkV lo' hi' w v l:=by
 obtain ⟨ss,rfl,h⟩:=h
 exact ⟨ss,rfl,h.mono h1 h2⟩
theorem TkV.keep {w w':World} {v:Value} {l:List Tok} (h:TkV 0 w.heap.size w v l) (hb:Below w.heap.size w w'):TkV 0 w'.heap.size w' v l:=(h.below hb (Nat.le_refl _)).mono (Nat.le_refl _) hb.size
theorem TkV.nil (lo hi:Nat) (w:World):TkV lo hi w (.agg #[.slice none 0 0]) []:=⟨_,rfl,SlI.nil _ _ _ _ _⟩
/-- what lies in blocks from B + 1 on, behind a store to block B -/
theorem TkO.done {w:World} {B:Nat} {v:Value} {l:List Tok} (h:TkO (B+1) w.heap.size w v l) {w0:World} (hb:Below w0.heap.size w0 w) (hB:w0.heap.size=B) (u:Value) :
 TkO w0.heap.size (w.setCell ⟨B,0,none⟩ u).heap.size (w.setCell ⟨B,0,none⟩ u) v l/\Below w0.heap.size w0 (w.setCell ⟨B,0,none⟩ u):=by
 have ho:=(Only.refl B (B+1) w).setCell (p:=⟨B,0,none⟩) (.inl ⟨Nat.le_refl _,Nat.lt_succ_self _⟩) u
 exact ⟨(h.only ho (.inr (Nat.le_refl _))).mono (by omega) ho.size,hb.setCell (p:=⟨B,0,none⟩) (by simp only;omega) u⟩
set_option maxHeartbeats 1000000 in
theorem l8Copy_any (ss:Value) (l:List Tok) (w:World) (hv:SlE w cEd 4 ss l) (hn:l.length<=1048576) :
 Calls Tryz.prog 123 #[ss] w fun e w'=>∃ v',e=.returned v'/\TkO w.heap.size w'.heap.size w' v' l/\Below w.heap.size w w':=by
 have HV:=Hd_ hv
 obtain ⟨A,n,c,rfl⟩:=hv.shape
 clear hv
 have hb0:=(Below.refl w.heap.size w).alloc (Nat.le_refl _) (.cells #[.slice none 0 0] 134)
 have hbr:=Blk.new w 134 #[.slice none 0 0] _ rfl
 obtain ⟨W0,hW0⟩:∃ W0,W0=w.alloc (.cells #[.slice none 0 0] 134):=⟨_,rfl⟩
 have hs0:W0.heap.size=w.heap.size+1:=by rw [hW0];simp
 rw [<- hW0] at hb0 hbr
 have hal:=(Below.refl W0.heap.size W0).alloc (Nat.le_refl _) (.cells #[] 147)
 have hrl:=World.ownsRow_lit (base:=w.heap.size+1) (e:=147) (size:=4) W0 #[] 0 (by omega) (by decide) rfl
 have HV1:=Hd_ (HV.out.keep (below_trans hb0 hal))
 have HB1:=Hd_ (below_trans hb0 hal)
 have HR1:=Hd_ (hbr.keep hal)
 rw [hs0] at hrl
 have HL:=Hd_ hrl
 have HS0:=Hd_ hs0
 have HW0:=Hd_ hW0
 clear hb0 hbr hal hrl hs0 hW0
 go_enter Tryz.func123,Tryz.ntmps123
 go_wp2_with (at_builtin;(refine wpList_appendL cEd elTok cEd_len cEd_one rfl _ _ rfl (w.heap.size+1) _ [] l (by rfl) (by rw [<- HW0.out];exact HL.out) 0 _ _ (by rfl) (by rw [<- HW0.out];exact HV1.out) (by simp;omega) (by omega) (by simp) ?_);intro v5 w5 hrow5 hgr5 hat5
              rw [<- HW0.out] at hgr5
              have hob:=own_below HL.out (by have:=HS0.out;simp;omega) hgr5
              have HR5:=Hd_ (HR1.out.below hob (by omega))
              have HB5:=Hd_ (HB1.out.trans (hob.mono (by omega)))
              have HO5:=Hd_ (Own.of_row (xs:=l) hrow5 rfl rfl)
              obtain ⟨A5,n5,c5,rfl⟩:=HO5.out.shape
              have z0:w5.cell? ⟨w.heap.size,0,none⟩=some (.slice none 0 0):=HR5.out.cell 0
              have v0:=HR5.out.frozen 0
              have hlr:=HR5.out.lt
              clear hrow5 hgr5 hat5 hob)
 have HD:=TkO.done (B:=w.heap.size) (v:=.agg #[.slice A5 n5 c5]) ⟨_,rfl,HO5.out⟩ HB5.out rfl (.slice A5 n5 c5)
 refine bodyPost_ret (v:=.agg #[.slice A5 n5 c5]) (by simp [results,Tryz.results123,go_sem,z0,v0]) rfl ⟨_,rfl,HD.1,HD.2⟩
set_option maxHeartbeats 1000000 in
theorem l8Leaf_any (k:Int) (w:World) :
 Calls Tryz.prog 112 #[.int .i64 k] w fun e w'=>∃ v',e=.returned v'/\TkO w.heap.size w'.heap.size w' v' [(k,0,0,0)]/\Below w.heap.size w w':=by
 have hbr:=Blk.new w 134 #[.slice none 0 0] _ rfl
 have hb0:=(Below.refl w.heap.size w).alloc (Nat.le_refl _) (.cells #[.slice none 0 0] 134)
 have hs0:(w.alloc (.cells #[.slice none 0 0] 134)).heap.size=w.heap.size+1:=by simp
 go_enter Tryz.func112,Tryz.ntmps112
 go_upto_region 1 with fail
 generalize w.alloc (.cells #[.slice none 0 0] 134)=W0 at *
 have hal:=(Below.refl W0.heap.size W0).alloc (Nat.le_refl _) (.cells #[.int .i64 k,.int .i64 0,.int .i64 0,.int .i64 0] 147)
 have hrl:=World.ownsRow_lit (base:=w.heap.size+1) (e:=147) (size:=4) W0 #[.int .i64 k,.int .i64 0,.int .i64 0,.int .i64 0] 1 (by omega) (by decide) rfl
 have HB5:=Hd_ (below_trans hb0 hal)
 have HR5:=Hd_ (hbr.keep hal)
 have HO5:=Hd_ (Own.of_row (xs:=[((k,0,0,0):Tok)]) (E:=cEd) hrl rfl rfl)
 have z0:W0.cell? ⟨w.heap.size,0,none⟩=some (.slice none 0 0):=hbr.cell 0
 have v0:=hbr.frozen 0
 have hlr:=hbr.lt
 clear hal hrl hb0 hbr hs0
 go_wp2_with fail
 have HD:=TkO.done (B:=w.heap.size) (v:=.agg #[.slice (some ⟨W0.heap.size,0,none⟩) 1 1]) ⟨_,rfl,HO5.out⟩ HB5.out rfl (.slice (some ⟨W0.heap.size,0,none⟩) 1 1)
 rw [World.setCell_alloc_past _ _ _ _ hlr] at HD
 refine bodyPost_ret (v:=.agg #[.slice (some ⟨W0.heap.size,0,none⟩) 1 1]) (by simp [results,Tryz.results112,go_sem,z0,v0,hlr]) rfl ⟨_,rfl,HD.1,HD.2⟩
set_option maxHeartbeats 1000000 in
theorem letterExpr_any (k:Int) (w:World) :
 Calls Tryz.prog 113 #[.int .i64 k] w fun e w'=>∃ v',e=.returned v'/\TkO w.heap.size w'.heap.size w' v' [(3,k,0,0)]/\Below w.heap.size w w':=by
 have hbr:=Blk.new w 134 #[.slice none 0 0] _ rfl
 have hb0:=(Below.refl w.heap.size w).alloc (Nat.le_refl _) (.cells #[.slice none 0 0] 134)
 have hs0:(w.alloc (.cells #[.slice none 0 0] 134)).heap.size=w.heap.size+1:=by simp
 go_enter Tryz.func113,Tryz.ntmps113
 go_upto_region 1 with fail
 generalize w.alloc (.cells #[.slice none 0 0] 134)=W0 at *
 have hal:=(Below.refl W0.heap.size W0).alloc (Nat.le_refl _) (.cells #[.int .i64 3,.int .i64 k,.int .i64 0,.int .i64 0] 147)
 have hrl:=World.ownsRow_lit (base:=w.heap.size+1) (e:=147) (size:=4) W0 #[.int .i64 3,.int .i64 k,.int .i64 0,.int .i64 0] 1 (by omega) (by decide) rfl
 have HB5:=Hd_ (below_trans hb0 hal)
 have HR5:=Hd_ (hbr.keep hal)
 have HO5:=Hd_ (Own.of_row (xs:=[((3,k,0,0):Tok)]) (E:=cEd) hrl rfl rfl)
 have z0:W0.cell? ⟨w.heap.size,0,none⟩=some (.slice none 0 0):=hbr.cell 0
 have v0:=hbr.frozen 0
 have hlr:=hbr.lt
 clear hal hrl hb0 hbr hs0
 go_wp2_with fail
 have HD:=TkO.done (B:=w.heap.size) (v:=.agg #[.slice (some ⟨W0.heap.size,0,none⟩) 1 1]) ⟨_,rfl,HO5.out⟩ HB5.out rfl (.slice (some ⟨W0.heap.size,0,none⟩) 1 1)
 rw [World.setCell_alloc_past _ _ _ _ hlr] at HD
 refine bodyPost_ret (v:=.agg #[.slice (some ⟨W0.heap.size,0,none⟩) 1 1]) (by simp [results,Tryz.results113,go_sem,z0,v0,hlr]) rfl ⟨_,rfl,HD.1,HD.2⟩
/-- a joined expression under way -/
structure JR (w0 w:World) (q:Nat) (ss:Value) (L:List Tok) (tk:Array Value):Prop where
 row:w.ownsRow (w0.heap.size+4) 147 4 ss L.length (L.flatMap cEd)
 far:ss.ownBlock ≠ some q
 blk:Blk w q 134 #[ss]
 tok:Blk w (w0.heap.size+1+1) 147 tk
 res:Blk w (w0.heap.size+1+1+1) 134 #[.slice none 0 0]
 below:Below w0.heap.size w0 w
 le:w0.heap.size+4<=q
theorem JR.push {w0 w w':World} {q:Nat} {ss ss':Value} {L L':List Tok} {tk:Array Value} (h:JR w0 w q ss L tk) (hr:w'.ownsRow (w0.heap.size+4) 147 4 ss' L'.length (L'.flatMap cEd)) (hg:w.grownBy w' ss.ownBlock)
 (hat:ss'.ownBlock=ss.ownBlock ∨ ∀ k,ss'.ownBlock=some k->w.heap.size<=k):Blk w' q 134 #[ss]/\JR w0 (w'.setCell ⟨q,0,none⟩ ss') q ss' L' tk:=by
 have hd:=h.le
 have hq:=h.blk.lt
 have hb:=own_below h.row (by omega) hg
 have hfar:ss'.ownBlock ≠ some q:=by
  rcases hat with h1 | h1
  · rw [h1];exact h.far
  · intro e;have:=h1 q e;omega
 have hbq:Blk w' q 134 #[ss]:=(hg.block q hq (fun e=>h.far e.symm)).trans h.blk
 refine ⟨hbq,ownsRow_block hr (fun g hg'=>Below.heap_setCell w' ⟨q,0,none⟩ _ g (fun e=>hfar (by rw [hg',e]))),hfar,hbq.set_ 0 _,(h.tok.below hb (by omega)).far (by simp only;omega) _,(h.res.below hb (by omega)).far (by simp only;omega) _,(h.below.trans (hb.mono (by omega))).setCell (p:=⟨q,0,none⟩) (by simp only;omega) _,hd⟩
theorem JR.below_ {w0 w w':World} {q:Nat} {ss:Value} {L:List Tok} {tk:Array Value} (h:JR w0 w q ss L tk) (hb:Below w.heap.size w w'):JR w0 w' q ss L tk :=
 ⟨ownsRow_below h.row hb (Nat.le_refl _),h.far,h.blk.keep hb,h.tok.keep hb,h.res.keep hb,h.below.trans (hb.mono h.below.size),h.le⟩
theorem JR.done {w0 w:World} {q:Nat} {ss:Value} {L:List Tok} {tk:Array Value} (h:JR w0 w q ss L tk) :
 TkO w0.heap.size (w.setCell ⟨w0.heap.size+1+1+1,0,none⟩ ss).heap.size (w.setCell ⟨w0.heap.size+1+1+1,0,none⟩ ss) (.agg #[ss]) L/\Below w0.heap.size w0 (w.setCell ⟨w0.heap.size+1+1+1,0,none⟩ ss):=by
 have ho:=(Only.refl (w0.heap.size+1+1+1) (w0.heap.size+4) w).setCell (p:=⟨w0.heap.size+1+1+1,0,none⟩) (.inl ⟨Nat.le_refl _,Nat.lt_succ_self _⟩) ss
 exact ⟨⟨ss,rfl,((Own.of_row (xs:=L) h.row rfl rfl).only ho (.inr (Nat.le_refl _))).mono (by omega) ho.size⟩,h.below.setCell (p:=⟨w0.heap.size+1+1+1,0,none⟩) (by simp only;omega) _⟩
set_option maxHeartbeats 4000000 in
theorem l8Join_any (va vb:Value) (a b:List Tok) (t:Tok) (w:World) (ha:TkV 0 w.heap.size w va a) (hb:TkV 0 w.heap.size w vb b) (hna:a.length<=100000) (hnb:b.length<=100000) :
 Calls Tryz.prog 114 #[va,vb,.agg #[.int .i64 t.1,.int .i64 t.2.1,.int .i64 t.2.2.1,.int .i64 t.2.2.2]] w fun e w'=>∃ v',e=.returned v'/\TkO w.heap.size w'.heap.size w' v' (a ++ b ++ [t])/\Below w.heap.size w w':=by
 obtain ⟨t0,t1,t2,t3⟩:=t
 obtain ⟨sa,rfl,hsa⟩:=ha
 obtain ⟨sb,rfl,hsb⟩:=hb
 obtain ⟨A1,n1,c1,rfl⟩:=hsa.shape
 obtain ⟨A2,n2,c2,rfl⟩:=hsb.shape
 have HSA:=Hd_ (show SlE w cEd 4 _ a from hsa)
 have HSB:=Hd_ (show SlE w cEd 4 _ b from hsb)
 simp only
 obtain ⟨L,hL⟩:∃ L,L=a ++ b:=⟨_,rfl⟩
 rw [<- hL]
 have HL:=Hd_ hL
 clear hL
 have hbl:Below w.heap.size w ((((w.alloc (.cells #[.slice A1 n1 c1] 134)).alloc (.cells #[.slice A2 n2 c2] 134)).alloc (.cells #[.int .i64 t0,.int .i64 t1,.int .i64 t2,.int .i64 t3] 147)).alloc (.cells #[.slice none 0 0] 134)):=((((Below.refl _ _).alloc (Nat.le_refl _) _).alloc (by simp) _).alloc (by simp;omega) _).alloc (by simp;omega) _
 have b2:=((Blk.new (w.alloc (.cells #[.slice A1 n1 c1] 134)) 134 #[.slice A2 n2 c2] (w.heap.size+1) (by simp)).alloc (.cells #[.int .i64 t0,.int .i64 t1,.int .i64 t2,.int .i64 t3] 147)).alloc (.cells #[.slice none 0 0] 134)
 have b3:=(Blk.new ((w.alloc (.cells #[.slice A1 n1 c1] 134)).alloc (.cells #[.slice A2 n2 c2] 134)) 147 #[.int .i64 t0,.int .i64 t1,.int .i64 t2,.int .i64 t3] (w.heap.size+1+1) (by simp)).alloc (.cells #[.slice none 0 0] 134)
 have b4:=Blk.new (((w.alloc (.cells #[.slice A1 n1 c1] 134)).alloc (.cells #[.slice A2 n2 c2] 134)).alloc (.cells #[.int .i64 t0,.int .i64 t1,.int .i64 t2,.int .i64 t3] 147)) 134 #[.slice none 0 0] (w.heap.size+1+1+1) (by simp)
 have hs0:((((w.alloc (.cells #[.slice A1 n1 c1] 134)).alloc (.cells #[.slice A2 n2 c2] 134)).alloc (.cells #[.int .i64 t0,.int .i64 t1,.int .i64 t2,.int .i64 t3] 147)).alloc (.cells #[.slice none 0 0] 134)).heap.size=w.heap.size+4:=by simp
 clear hsa hsb
 go_enter Tryz.func114,Tryz.ntmps114
 go_wp2_with fail
 generalize ((((w.alloc (.cells #[.slice A1 n1 c1] 134)).alloc (.cells #[.slice A2 n2 c2] 134)).alloc (.cells #[.int .i64 t0,.int .i64 t1,.int .i64 t2,.int .i64 t3] 147)).alloc (.cells #[.slice none 0 0] 134))=W0 at *
 refine (l8Copy_any _ a _ (HSA.out.keep hbl) (by omega)).mono ?_
 rintro e w1 ⟨v1,rfl,⟨s1,rfl,ho1⟩,hb1⟩
 obtain ⟨A3,n3,c3,rfl⟩:=ho1.shape
 rw [hs0] at ho1
 obtain ⟨q,hq⟩:∃ q,q=w1.heap.size:=⟨_,rfl⟩
 have hsz:=hb1.size
 rw [hs0] at hsz
 have hal:=(Below.refl w1.heap.size w1).alloc (Nat.le_refl _) (.cells #[.slice A3 n3 c3] 134)
 have hbA:=below_trans hb1 hal
 have b2':=b2.keep hbA
 have HSB1:=Hd_ (HSB.out.keep (below_trans hbl hbA))
 have HJ:=Hd_ (show JR w (w1.alloc (.cells #[.slice A3 n3 c3] 134)) q (.slice A3 n3 c3) a _ from
  ⟨ownsRow_below ho1.1 hal (Nat.le_refl _),(fun e=>by have:=ho1.2 _ e;omega),Blk.new w1 134 #[.slice A3 n3 c3] q hq,b3.keep hbA,b4.keep hbA,below_trans hbl hbA,by omega⟩)
 clear b2 b3 b4 hal hb1 hbA hbl hs0 ho1
 go_upto_region 2 with fail
 rw [<- hq]
 generalize w1.alloc (.cells #[.slice A3 n3 c3] 134)=W1 at *
 clear hq
 have y0:W1.cell? ⟨q,0,none⟩=some (.slice A3 n3 c3):=HJ.out.blk.cell 0
 have x0:W1.cell? ⟨w.heap.size+1,0,none⟩=some (.slice A2 n2 c2):=b2'.cell 0
 clear b2'
 go_upto_region 3 with (at_builtin;(refine wpList_appendL cEd elTok cEd_len cEd_one rfl _ _ rfl (w.heap.size+4) _ a b (by rfl) HJ.out.row 0 _ _ (by rfl) HSB1.out (by omega) (by omega) (by have h1:=HJ.out.le;have h2:=HJ.out.blk.lt;omega) ?_);intro v5 w5 hrow5 hgr5 hat5;obtain ⟨A5,n5,c5,rfl⟩:=rowShape hrow5;have HP:=Hd_ (HJ.out.push hrow5 hgr5 (hat5.imp_right (fun e k hk=>by rw [e] at hk;injection hk with hk;omega)));have z0:w5.cell? ⟨q,0,none⟩=some (.slice A3 n3 c3):=HP.out.1.cell 0;have f0:=HP.out.1.frozen 0;have lq:=HP.out.1.lt;clear hrow5 hgr5 hat5)
 have HJ2:=Hd_ HP.out.2
 rw [<- HL.out] at HJ2
 generalize w5.setCell ⟨q,0,none⟩ (.slice A5 n5 c5)=W2 at *
 clear HP z0 f0 lq y0 x0 HJ HSB1 HSB HSA
 have y0:W2.cell? ⟨q,0,none⟩=some (.slice A5 n5 c5):=HJ2.out.blk.cell 0
 have x0:W2.cell? ⟨w.heap.size+1+1,0,none⟩=some (.int .i64 t0):=HJ2.out.tok.cell 0
 have x1:W2.cell? ⟨w.heap.size+1+1,1,none⟩=some (.int .i64 t1):=HJ2.out.tok.cell 1
 have x2:W2.cell? ⟨w.heap.size+1+1,2,none⟩=some (.int .i64 t2):=HJ2.out.tok.cell 2
 have x3:W2.cell? ⟨w.heap.size+1+1,3,none⟩=some (.int .i64 t3):=HJ2.out.tok.cell 3
 have hll:=HJ2.out.le
 have hlq:=HJ2.out.blk.lt
 have hab:L.length<=200000:=by rw [HL.out,List.length_append];omega
 go_upto_region 4 with (at_builtin;(refine wpList_append2 cEd elTok rfl _ _ (by rfl) (w.heap.size+4) _ L (t0,t1,t2,t3) 1 _ (by rfl) (HJ2.out.row.alloc _) (by rfl) (heap_alloc_new _ _) rfl (cEd_one _) (by omega) (by omega) (by simp;omega) ?_);intro g2 cp2 w9 hown3 hgr3 hat3 hlt3;have HP:=Hd_ ((HJ2.out.below_ ((Below.refl _ _).alloc (Nat.le_refl _) (.cells #[.int .i64 t0,.int .i64 t1,.int .i64 t2,.int .i64 t3] 147))).push hown3 hgr3 (hat3.imp (fun e=>e.symm) (fun e k hk=>by cases hk;exact e)));have z0:w9.cell? ⟨q,0,none⟩=some (.slice A5 n5 c5):=HP.out.1.cell 0;have f0:=HP.out.1.frozen 0;have lq:=HP.out.1.lt;clear hown3 hgr3 hat3)
 have HJ3:=Hd_ HP.out.2
 generalize w9.setCell ⟨q,0,none⟩ (.slice (some ⟨g2,0,none⟩) (L.length+1) cp2)=W3 at *
 clear HP z0 f0 lq y0 x0 x1 x2 x3 HJ2 hlq
 have y0:W3.cell? ⟨q,0,none⟩=some (.slice (some ⟨g2,0,none⟩) (L.length+1) cp2):=HJ3.out.blk.cell 0
 have z0:W3.cell? ⟨w.heap.size+1+1+1,0,none⟩=some (.slice none 0 0):=HJ3.out.res.cell 0
 have v0:=HJ3.out.res.frozen 0
 have hlr:=HJ3.out.res.lt
 go_wp2_with fail
 have HD:=HJ3.out.done
 refine bodyPost_ret (v:=.agg #[.slice (some ⟨g2,0,none⟩) (L.length+1) cp2]) (by simp [results,Tryz.results114,go_sem,z0,v0,hlr]) rfl ⟨_,rfl,HD.1,HD.2⟩
theorem SlI.headT {α:Type} {lo hi:Nat} {w:World} {E:α->List Value} {k n c m:Nat} {A:Option Addr} {xs ys:List α} (h:SlI lo hi w E k (.slice A n c) (xs ++ ys)) (hm:xs.length=m):SlI lo hi w E k (.slice A m c) xs:=by
 obtain ⟨A',c',hv,hl,hc,hx⟩:=h
 injection hv with h1 h2 h3
 subst h1 h3 hm
 rw [List.length_append] at hl
 refine ⟨_,c,rfl,by omega,hc,fun i x hi=>hx i x ?_⟩
 rw [List.getElem?_append_left (List.getElem?_eq_some_iff.1 hi).1]
 exact hi
theorem SlI.tailT {α:Type} {lo hi:Nat} {w:World} {E:α->List Value} {k n c m j d q o:Nat} {xs ys:List α} (h:SlI lo hi w E k (.slice (some ⟨q,o,none⟩) n c) (xs ++ ys)) (hm:xs.length=m) (hj:ys.length=j) (hd:d=c - m):SlI lo hi w E k (.slice (some ⟨q,o+m * k,none⟩) j d) ys:=by
 obtain ⟨A',c',hv,hl,hc,hx⟩:=h
 injection hv with h1 h2 h3
 subst h1 h3 hm hj hd
 rw [List.length_append] at hl
 refine ⟨_,_,rfl,by omega,by omega,fun i x hi=>?_⟩
 obtain ⟨b,o',e,g1,g2,g3⟩:=hx (xs.length+i) x (by rw [List.getElem?_append_right (by omega),Nat.add_sub_cancel_left];exact hi)
 injection e with e
 injection e with e1 e2
 subst e1 e2
 refine ⟨q,o+xs.length * k,rfl,g1,g2,fun t u hu=>?_⟩
 have:=g3 t u hu
 rw [Nat.add_mul,<- Nat.add_assoc] at this
 exact this
theorem ar_leaf {t:Tok} (h:ar t=some 0):t.1=1 ∨ t.1=2 ∨ t.1=3:=by
 unfold ar at h
 split at h
 · rename_i hk;exact hk.elim .inl (fun e=>.inr (.inl e))
 · split at h
   · rename_i hk;exact .inr (.inr hk)
   · split at h
     · split at h <;> cases h
     · split at h
       · split at h <;> cases h
       · split at h
         · split at h <;> cases h
         · cases h
theorem ar_un {t:Tok} (h:ar t=some 1):t=(6,0,0,0) ∨ (t.1=7/\t.2.1=0/\1<=t.2.2.2/\t.2.2.2<=3/\0<=t.2.2.1/\t.2.2.1<=t.2.2.2):=by
 obtain ⟨k,l,lo,hi⟩:=t
 unfold ar at h
 simp only at h
 split at h
 · split at h <;> cases h
 · split at h
   · split at h <;> cases h
   · split at h
     · split at h <;> cases h
     · split at h
       · rename_i hk
         split at h
         · rename_i hp
           simp only [tokPlain,Bool.and_eq_true,beq_iff_eq] at hp
           obtain ⟨rfl,rfl,rfl⟩:=hp
           exact .inl (by rw [hk])
         · cases h
       · split at h
         · rename_i hk
           split at h
           · rename_i hp;exact .inr ⟨hk,hp⟩
           · cases h
         · cases h
set_option maxHeartbeats 8000000 in
set_option maxRecDepth 100000 in
theorem l10Size_any:∀ (r:Tr) (ss:Value) (w:World),r.ok->SlE w cEd 4 ss (post r)->(post r).length<=1048576 ->
 Calls Tryz.prog 106 #[ss] w fun e w'=>e=.returned (.int .i64 (sizeT r:Int))/\Below w.heap.size w w'
 | .leaf t,ss,w,hr,hsl,hlen=>by
   obtain ⟨t0,t1,t2,t3⟩:=t
   have hk:=ar_leaf hr
   simp only at hk
   rw [post] at hsl
   obtain ⟨A,c,rfl,hl,hm,hx⟩:=hsl
   unfold maxLen at hm
   obtain ⟨q,o,rfl,-,hq,hcc⟩:=hx 0 (t0,t1,t2,t3) rfl
   have e0:=hcc 0 _ rfl
   have e1:=hcc 1 _ rfl
   have e2:=hcc 2 _ rfl
   have e3:=hcc 3 _ rfl
   simp only [Nat.add_zero,Nat.zero_mul,Nat.add_zero] at e0 e1 e2 e3
   rw [show (sizeT (.leaf (t0,t1,t2,t3)):Int)=1 by simp [sizeT]]
   clear hx hcc hlen hr
   have hb0:=(Below.refl w.heap.size w).alloc (Nat.le_refl _) (.cells #[.int .i64 t0,.int .i64 t1,.int .i64 t2,.int .i64 t3] 147)
   have HB:=Hd_ hb0
   clear hb0
   rcases hk with rfl | rfl | rfl
   all_goals
    go_enter Tryz.func106,Tryz.ntmps106
    go_wp2_with fail
    go_ret
    exact ⟨rfl,HB.out⟩
 | .un t a,ss,w,hr,hsl,hlen=>by
   have ht:=ar_un hr.1
   obtain ⟨m,hm0⟩:∃ m,m=(post a).length:=⟨_,rfl⟩
   rw [post] at hsl hlen
   have hlq:(post a ++ [t]).length=m+1:=by rw [List.length_append,hm0];rfl
   rw [hlq] at hlen
   have h0:=hsl
   obtain ⟨A,c,rfl,hl,hm,hx⟩:=hsl
   rw [hlq] at hl h0 ⊢
   unfold maxLen at hm
   have hxi:(post a ++ [t])[m]?=some t:=by rw [List.getElem?_append_right (by omega)];simp [hm0]
   obtain ⟨q,o,rfl,-,hq,hcc⟩:=hx _ t hxi
   obtain ⟨t0,t1,t2,t3⟩:=t
   have e0:=hcc 0 _ rfl
   have e1:=hcc 1 _ rfl
   have e2:=hcc 2 _ rfl
   have e3:=hcc 3 _ rfl
   simp only [Nat.add_zero] at e0
   have hb0:=(Below.refl w.heap.size w).alloc (Nat.le_refl _) (.cells #[.int .i64 t0,.int .i64 t1,.int .i64 t2,.int .i64 t3] 147)
   have bk:=Blk.new w 147 #[.int .i64 t0,.int .i64 t1,.int .i64 t2,.int .i64 t3] _ rfl
   have h2:SlE w cEd 4 (.slice (some ⟨q,o,none⟩) m c) (post a):=SlI.headT h0 hm0.symm
   have HSA:=Hd_ (fun (W:World) (hW:Below w.heap.size w W)=>l10Size_any a _ W hr.2 (h2.keep hW) (by omega))
   have hsa:=sizeT_le a
   obtain ⟨R,hR⟩:∃ R:Nat,R=sizeT (.un (t0,t1,t2,t3) a):=⟨_,rfl⟩
   rw [<- hR]
   rw [sizeT] at hR
   generalize sizeT a=sa at *
   have HB:=Hd_ hb0
   clear hx hcc hxi h0 h2 hr hm0 hlq
   rcases ht with ht | ⟨ht0,ht1,ht2,ht3,ht4,ht5⟩
   · injection ht with ht0 ht1
     injection ht1 with ht1 ht2
     injection ht2 with ht2 ht3
     subst ht0 ht1 ht2 ht3
     have HR:=Hd_ (show R=min 100000 (sa+1) by simpa using hR)
     clear hR
     go_enter Tryz.func106,Tryz.ntmps106
     go_wp2_with fail
     refine (HSA.out _ HB.out).mono ?_
     rintro e w1 ⟨rfl,hb1⟩
     have HB1:=Hd_ (below_trans HB.out hb1)
     clear hb1 e0 e1 e2 e3 bk HSA HB hm hl
     obtain ⟨S,hS⟩:∃ S:Int,S=(sa:Int):=⟨_,rfl⟩
     rw [<- hS]
     have HS:=Hd_ hS
     have hs1:1<=S:=by omega
     have hs2:S<=100000:=by omega
     clear hS hsa
     by_cases hlt:S+1 < 100000
     · have hf:R=sa+1:=by rw [HR.out];have:=HS.out;omega
       have HF:=Hd_ hf
       clear hf HR
       go_wp2_with fail
       go_ret
       exact ⟨ret_int (by rw [HF.out,HS.out];rfl),HB1.out⟩
     · have hf:R=100000:=by rw [HR.out];have:=HS.out;omega
       have HF:=Hd_ hf
       clear hf HR
       go_wp2_with fail
       go_ret
       exact ⟨ret_int (by rw [HF.out];rfl),HB1.out⟩
   · simp only at ht0 ht1 ht2 ht3 ht4 ht5
     subst ht0 ht1
     obtain ⟨h,rfl⟩:=Int.eq_ofNat_of_zero_le (show 0<=t3 by omega)
     have HR:=Hd_ (show R=min 100000 ((sa+3) * h+1) by simpa using hR)
     have hh:h=1 ∨ h=2 ∨ h=3:=by omega
     clear hR ht2 ht3 ht5
     rcases hh with rfl | rfl | rfl
     · skip
       go_enter Tryz.func106,Tryz.ntmps106
       go_upto_region 11 with fail
       have hbk:Blk (w.alloc (.cells #[.int .i64 7,.int .i64 0,.int .i64 t2,.int .i64 _] 147)) w.heap.size 147 #[.int .i64 7,.int .i64 0,.int .i64 t2,.int .i64 _]:=bk
       clear e0 e1 e2 e3 bk
       generalize w.alloc (.cells #[.int .i64 7,.int .i64 0,.int .i64 t2,.int .i64 _] 147)=W0 at *
       have HSA2:=Hd_ (fun (u:World)=>HSA.out (ext W0 u) (below_trans HB.out (ext_below W0 u)))
       have hlw:=hbk.lt
       have x3:=hbk.cell 3
       clear hbk HSA
       refine wp_region_ext_lit (by kernel_rfl) (by kernel_rfl) ?_
       repeat (go_big_quiet_step ((with_reducible exact Calls.ext_of (HSA2.out _))))
       refine wpQuiet_nil ?_
       rintro _ ⟨u,rfl⟩
       have hif:(if (sa:Int)+3+1 < 100000 then (sa:Int)+3+1 else 100000)=(R:Int):=by rw [HR.out];split <;> omega
       rw [hif]
       clear hif hsa HR
       go_wp2_with fail
       go_ret
       exact ⟨rfl,below_trans HB.out (ext_below _ _)⟩
     · skip
       go_enter Tryz.func106,Tryz.ntmps106
       go_upto_region 11 with fail
       have hbk:Blk (w.alloc (.cells #[.int .i64 7,.int .i64 0,.int .i64 t2,.int .i64 _] 147)) w.heap.size 147 #[.int .i64 7,.int .i64 0,.int .i64 t2,.int .i64 _]:=bk
       clear e0 e1 e2 e3 bk
       generalize w.alloc (.cells #[.int .i64 7,.int .i64 0,.int .i64 t2,.int .i64 _] 147)=W0 at *
       have HSA2:=Hd_ (fun (u:World)=>HSA.out (ext W0 u) (below_trans HB.out (ext_below W0 u)))
       have hlw:=hbk.lt
       have x3:=hbk.cell 3
       clear hbk HSA
       refine wp_region_ext_lit (by kernel_rfl) (by kernel_rfl) ?_
       repeat (go_big_quiet_step ((with_reducible exact Calls.ext_of (HSA2.out _))))
       refine wpQuiet_nil ?_
       rintro _ ⟨u,rfl⟩
       have hif:(if ((sa:Int)+3) * 2+1 < 100000 then ((sa:Int)+3) * 2+1 else 100000)=(R:Int):=by rw [HR.out];split <;> omega
       rw [hif]
       clear hif hsa HR
       go_wp2_with fail
       go_ret
       exact ⟨rfl,below_trans HB.out (ext_below _ _)⟩
     · skip
       go_enter Tryz.func106,Tryz.ntmps106
       go_upto_region 11 with fail
       have hbk:Blk (w.alloc (.cells #[.int .i64 7,.int .i64 0,.int .i64 t2,.int .i64 _] 147)) w.heap.size 147 #[.int .i64 7,.int .i64 0,.int .i64 t2,.int .i64 _]:=bk
       clear e0 e1 e2 e3 bk
       generalize w.alloc (.cells #[.int .i64 7,.int .i64 0,.int .i64 t2,.int .i64 _] 147)=W0 at *
       have HSA2:=Hd_ (fun (u:World)=>HSA.out (ext W0 u) (below_trans HB.out (ext_below W0 u)))
       have hlw:=hbk.lt
       have x3:=hbk.cell 3
       clear hbk HSA
       refine wp_region_ext_lit (by kernel_rfl) (by kernel_rfl) ?_
       repeat (go_big_quiet_step ((with_reducible exact Calls.ext_of (HSA2.out _))))
       refine wpQuiet_nil ?_
       rintro _ ⟨u,rfl⟩
       have hif:(if ((sa:Int)+3) * 3+1 < 100000 then ((sa:Int)+3) * 3+1 else 100000)=(R:Int):=by rw [HR.out];split <;> omega
       rw [hif]
       clear hif hsa HR
       go_wp2_with fail
       go_ret
       exact ⟨rfl,below_trans HB.out (ext_below _ _)⟩
 | .bin t a b,ss,w,hr,hsl,hlen=>by
   have ht:=ar_bin hr.1
   obtain ⟨m,hm0⟩:∃ m,m=(post a).length:=⟨_,rfl⟩
   obtain ⟨j,hj0⟩:∃ j,j=(post b).length:=⟨_,rfl⟩
   have hj1:0 < j:=by rw [hj0];exact post_pos b
   rw [post] at hsl hlen
   have hlq:((post a ++ post b) ++ [t]).length=m+j+1:=by rw [List.length_append,List.length_append,hm0,hj0];rfl
   rw [hlq] at hlen
   have h0:=hsl
   obtain ⟨A,c,rfl,hl,hm,hx⟩:=hsl
   rw [hlq] at hl h0 ⊢
   unfold maxLen at hm
   have hxi:((post a ++ post b) ++ [t])[m+j]?=some t:=by rw [List.getElem?_append_right (by simp [hm0,hj0])];simp [hm0,hj0]
   obtain ⟨q,o,rfl,-,hq,hcc⟩:=hx _ t hxi
   obtain ⟨t0,t1,t2,t3⟩:=t
   have e0:=hcc 0 _ rfl
   have e1:=hcc 1 _ rfl
   have e2:=hcc 2 _ rfl
   have e3:=hcc 3 _ rfl
   simp only [Nat.add_zero] at e0
   have hb0:=(Below.refl w.heap.size w).alloc (Nat.le_refl _) (.cells #[.int .i64 t0,.int .i64 t1,.int .i64 t2,.int .i64 t3] 147)
   have bk:=Blk.new w 147 #[.int .i64 t0,.int .i64 t1,.int .i64 t2,.int .i64 t3] _ rfl
   have h1:SlE w cEd 4 (.slice (some ⟨q,o,none⟩) (m+j) c) (post a ++ post b):=SlI.headT h0 (by simp [hm0,hj0])
   have h2:SlE w cEd 4 (.slice (some ⟨q,o,none⟩) m c) (post a):=SlI.headT h1 hm0.symm
   have h3:SlE w cEd 4 (.slice (some ⟨q,o+m * 4,none⟩) j (c - m)) (post b):=SlI.tailT h1 hm0.symm hj0.symm rfl
   have HST:=Hd_ (fun (W:World) (hW:Below w.heap.size w W)=>l8Start_any _ (post a) b W (h1.keep hW) hr.2.2 (by simp [<- hm0,<- hj0];omega))
   have HSA:=Hd_ (fun (W:World) (hW:Below w.heap.size w W)=>l10Size_any a _ W hr.2.1 (h2.keep hW) (by omega))
   have HSB:=Hd_ (fun (W:World) (hW:Below w.heap.size w W)=>l10Size_any b _ W hr.2.2 (h3.keep hW) (by omega))
   have hsa:=sizeT_le a
   have hsb:=sizeT_le b
   obtain ⟨R,hR⟩:∃ R:Nat,R=sizeT (.bin (t0,t1,t2,t3) a b):=⟨_,rfl⟩
   rw [<- hR]
   have HR:=Hd_ (show R=min 100000 (sizeT a+sizeT b+1) by rw [hR,sizeT])
   rw [<- hm0] at HST
   have HMC:=Hd_ (show ¬ c=m by omega)
   generalize sizeT a=sa at *
   generalize sizeT b=sb at *
   have HB:=Hd_ hb0
   clear hx hcc hxi h0 h1 h2 h3 hr hm0 hj0 hlq hR
   rcases ht with ht | ht
   all_goals
    injection ht with ht0 ht1
    injection ht1 with ht1 ht2
    injection ht2 with ht2 ht3
    subst ht0 ht1 ht2 ht3
    go_enter Tryz.func106,Tryz.ntmps106
    go_wp2_with fail
    refine (HST.out _ HB.out).mono ?_
    rintro e w1 ⟨rfl,hb1⟩
    have HB1:=Hd_ (below_trans HB.out hb1)
    have hmc:=HMC.out
    clear hb1 e0 e1 e2 e3 bk
    have HSA2:=Hd_ (fun (u:World)=>HSA.out (ext w1 u) (below_trans HB1.out (ext_below w1 u)))
    have HSB2:=Hd_ (fun (u:World)=>HSB.out (ext w1 u) (below_trans HB1.out (ext_below w1 u)))
    clear HSA HSB HST HMC HB
    go_upto_region 7 with fail
    refine wp_region_ext_lit (by kernel_rfl) (by kernel_rfl) ?_
    repeat (go_big_quiet_step ((first | with_reducible exact Calls.ext_of (HSA2.out _) | with_reducible exact Calls.ext_of (HSB2.out _))))
    refine wpQuiet_nil ?_
    rintro _ ⟨u,rfl⟩
    have hif:(if (sa:Int)+(sb:Int)+1 < 100000 then (sa:Int)+(sb:Int)+1 else 100000)=(R:Int):=by rw [HR.out];split <;> omega
    rw [hif]
    clear hif hsa hsb HR
    go_wp2_with fail
    go_ret
    exact ⟨rfl,below_trans HB1.out (ext_below _ _)⟩
theorem TkV.drew {lo hi:Nat} {w:World} {v:Value} {l:List Tok} (h:TkV lo hi w v l):TkV lo hi w.drew v l:=h
/-- an expression in the cell q, its tokens apart from it -/
structure CelX (W0 w:World) (q:Nat) (ss:Value) (T:List Tok):Prop where
 blk:Blk w q 134 #[ss]
 row:∃ lo hi,Own lo hi w 147 cEd 4 ss T/\W0.heap.size<=lo/\hi<=w.heap.size
 ge:W0.heap.size<=q
 below:Below W0.heap.size W0 w
theorem CelX.view {W0 w:World} {q:Nat} {ss:Value} {T:List Tok} (h:CelX W0 w q ss T):TkV W0.heap.size w.heap.size w (.agg #[ss]) T:=by
 obtain ⟨lo,hi,h1,h2,h3⟩:=h.row
 exact ⟨ss,rfl,(h1.sl cEd_len).mono h2 h3⟩
theorem CelX.done {W0 w w0:World} {q:Nat} {ss:Value} {T:List Tok} (h:CelX W0 w q ss T) (hb:Below w0.heap.size w0 W0) {r:Nat} (hr:w0.heap.size<=r) (hr2:r < W0.heap.size) (u:Value) :
 TkO w0.heap.size (w.setCell ⟨r,0,none⟩ u).heap.size (w.setCell ⟨r,0,none⟩ u) (.agg #[ss]) T/\Below w0.heap.size w0 (w.setCell ⟨r,0,none⟩ u):=by
 obtain ⟨lo,hi,h1,h2,h3⟩:=h.row
 have ho:=(Only.refl r (r+1) w).setCell (p:=⟨r,0,none⟩) (.inl ⟨Nat.le_refl _,Nat.lt_succ_self _⟩) u
 have hs:=h.below.size
 exact ⟨⟨ss,rfl,(h1.only ho (.inr (by omega))).mono (by omega) (Nat.le_trans h3 ho.size)⟩,(below_trans hb h.below).setCell (p:=⟨r,0,none⟩) hr _⟩
set_option maxHeartbeats 8000000 in
theorem l10Times_any (a:Tr) (hla:(post a).length<=5000):∀ (h low:Nat) (va:Value) (w:World),TkV 0 w.heap.size w va (post a)->h<=3->low<=3 ->
 Calls Tryz.prog 119 #[va,.int .i64 (low:Int),.int .i64 (h:Int)] w fun e w'=>∃ v,e=.returned v/\TkO w.heap.size w'.heap.size w' v (post (timesT a low h))/\Below w.heap.size w w'
 | 0,low,va,w,hva,_,_=>by
   rw [timesT,post]
   obtain ⟨sa,rfl,hsa⟩:=hva
   obtain ⟨A1,n1,c1,rfl⟩:=hsa.shape
   have hb0:=((Below.refl w.heap.size w).alloc (Nat.le_refl _) (.cells #[.slice A1 n1 c1] 134)).alloc (by simp) (.cells #[.slice none 0 0] 134)
   have hbr:=Blk.new (w.alloc (.cells #[.slice A1 n1 c1] 134)) 134 #[.slice none 0 0] (w.heap.size+1) (by simp)
   clear hsa
   go_enter Tryz.func119,Tryz.ntmps119
   go_wp2_with fail
   generalize ((w.alloc (.cells #[.slice A1 n1 c1] 134)).alloc (.cells #[.slice none 0 0] 134))=W0 at *
   refine (l8Leaf_any 2 _).mono ?_
   rintro e w1 ⟨v1,rfl,⟨s1,rfl,h1⟩,hb1⟩
   obtain ⟨A3,n3,c3,rfl⟩:=h1.shape
   have hbr1:=hbr.keep hb1
   have z0:w1.cell? ⟨w.heap.size+1,0,none⟩=some (.slice none 0 0):=hbr1.cell 0
   have v0:=hbr1.frozen 0
   have hlr:=hbr1.lt
   have hlr0:=hbr.lt
   have ho:=(Only.refl (w.heap.size+1) (w.heap.size+2) w1).setCell (p:=⟨w.heap.size+1,0,none⟩) (.inl ⟨Nat.le_refl _,Nat.lt_succ_self _⟩) (.slice A3 n3 c3)
   have HO:=Hd_ ((h1.only ho (.inr (by omega))).mono (lo':=w.heap.size) (by omega) ho.size)
   have HB:=Hd_ ((below_trans hb0 hb1).setCell (p:=⟨w.heap.size+1,0,none⟩) (by simp only;omega) (.slice A3 n3 c3))
   clear h1 hb1 hbr hbr1 hb0 ho
   go_wp2_with fail
   exact bodyPost_ret (v:=.agg #[.slice A3 n3 c3]) (by simp [results,Tryz.results119,go_sem,z0,v0,hlr]) rfl ⟨_,rfl,⟨_,rfl,HO.out⟩,HB.out⟩
 | h+1,low,va,w,hva,hh,hlo=>by
   obtain ⟨T1,hT1⟩:∃ T1,T1=post (timesT a (low - 1) h):=⟨_,rfl⟩
   have hTl:T1.length<=20000:=by
    have:=timesT_len a h (low - 1)
    have h2:((post a).length+3) * h<=5003 * 3:=Nat.mul_le_mul (by omega) (by omega)
    rw [hT1];omega
   obtain ⟨sa,rfl,hsa⟩:=hva
   obtain ⟨A1,n1,c1,rfl⟩:=hsa.shape
   have hva:TkV 0 w.heap.size w (.agg #[.slice A1 n1 c1]) (post a):=⟨_,rfl,hsa⟩
   have hb0:=((Below.refl w.heap.size w).alloc (Nat.le_refl _) (.cells #[.slice A1 n1 c1] 134)).alloc (by simp) (.cells #[.slice none 0 0] 134)
   have hbx:=(Blk.new w 134 #[.slice A1 n1 c1] _ rfl).alloc (.cells #[.slice none 0 0] 134)
   have hbr:=Blk.new (w.alloc (.cells #[.slice A1 n1 c1] 134)) 134 #[.slice none 0 0] (w.heap.size+1) (by simp)
   have hds:((h:Int)+1==0)=false:=by simp;omega
   have hs0:((w.alloc (.cells #[.slice A1 n1 c1] 134)).alloc (.cells #[.slice none 0 0] 134)).heap.size=w.heap.size+2:=by simp
   clear hsa
   rcases low with _ | l
   · have HT:Hid (post (timesT a 0 (h+1))=(post a ++ T1 ++ [(4,0,0,0)]) ++ [(2,0,0,0)] ++ [(5,0,0,0)]):=Hd_ (by rw [hT1];simp [timesT,post,tCat,tAlt,tEmp])
     rw [HT.out]
     simp only [Nat.zero_sub] at hT1
     go_enter Tryz.func119,Tryz.ntmps119
     go_upto_region 3 with fail
     generalize ((w.alloc (.cells #[.slice A1 n1 c1] 134)).alloc (.cells #[.slice none 0 0] 134))=W0 at *
     have x0:W0.cell? ⟨w.heap.size,0,none⟩=some (.slice A1 n1 c1):=hbx.cell 0
     have HIH:=Hd_ (show ∀ (W:World) (z z':Int),z=0->z'=(h:Int)->Below W0.heap.size W0 W->Calls Tryz.prog 119 #[.agg #[.slice A1 n1 c1],.int .i64 z,.int .i64 z'] W fun e w'=>∃ v,e=.returned v/\TkO W.heap.size w'.heap.size w' v T1/\Below W.heap.size W w' from
      fun W z z' hz hz' hW=>by rw [hz,hz',hT1];exact l10Times_any a hla h 0 _ W (hva.keep (below_trans hb0 hW)) (by omega) (by omega))
     have HVA:=Hd_ (hva.keep hb0)
     have HBR:=Hd_ hbr
     have HB0:=Hd_ hb0
     have hs1:w.heap.size+1 < W0.heap.size:=by omega
     clear hT1 hva hb0 hbx hbr hs0
     go_wp2_with fail
     go_cut [7] (fun p wx=>∃ (q:Nat) (A:Option Addr) (n c:Nat),p=.pointer (some ⟨q,0,none⟩)/\CelX W0 wx q (.slice A n c) (post a ++ T1 ++ [(4,0,0,0)]))
     case first =>
      refine F_start 11 (fun w'=>w'.cell? ⟨w.heap.size,0,none⟩=some (.slice A1 n1 c1)) (by kernel_rfl) (by exact x0) (fun hS inv=>?_)
      refine F_tk 0 inv ?_
      try simp only [tA,tB,tC,Act.put,tE,tF,tG]
      clear inv;intro inv
      refine F_tk 1 inv ?_
      try simp only [tA,tB,tC,Act.put,tE,tF,tG]
      clear inv;intro inv
      refine F_tk 2 inv ?_
      try simp only [tA,tB,tC,Act.put,tE,tF,tG]
      clear inv;intro inv
      refine F_tk 3 inv ?_
      try simp only [tA,tB,tC,Act.put,tE,tF,tG]
      clear inv;intro inv
      refine F_tk 4 inv ?_
      try simp only [tA,tB,tC,Act.put,tE,tF,tG]
      clear inv;intro inv
      refine F_tk 5 inv ?_
      try simp only [tA,tB,tC,Act.put,tE,tF,tG]
      clear inv;intro inv
      refine F_tk 6 inv ?_
      try simp only [tA,tB,tC,Act.put,tE,tF,tG]
      clear inv;intro inv
      refine F_tk 8 inv ?_
      try simp only [tA,tB,tC,Act.put,tE,tF,tG]
      clear inv;intro inv
      have hbd:Below W0.heap.size W0 W0.drew:=(Below.refl _ _).drew
      refine F_two (i:=7) (j:=10) (by kernel_rfl) rfl rfl rfl rfl (by omega) inv (fun K hK=>?_) (fun K hK=>?_)
      all_goals (try simp only [tA,tB,tC])
      · go_simp
        refine (HIH.out _ _ _ (by first | rfl | (rw [IntWalk.i64_in _ (by omega)];first | done | (split <;> omega) | omega)) (by rw [IntWalk.i64_in _ (by omega)]) hbd).mono ?_
        rintro e w2 ⟨v2,rfl,h2,hb2⟩
        have hp:=below_trans hbd hb2
        have H2:=Hd_ (h2.view.mono (Nat.zero_le _) (Nat.le_refl _))
        refine hK.out _ _ (kcell hb2 hS) (fun _ _=>?_)
        try simp only [tA,tB,tC,Act.put,tE,tF,tG]
        clear hK K inv hS;rename_i hS inv
        clear h2 hb2
        refine F_two (i:=9) (j:=10) (by kernel_rfl) rfl rfl rfl rfl (by omega) inv (fun K hK=>?_) (fun K hK=>?_)
        all_goals (try simp only [tA,tB,tC])
        · go_simp
          refine (l8Join_any _ _ (post a) T1 (4,0,0,0) _ (HVA.out.keep hp) H2.out (by omega) (by omega)).mono ?_
          rintro e w3 ⟨v3,rfl,⟨s3,rfl,h3⟩,hb3⟩
          obtain ⟨A3,n3,c3,rfl⟩:=h3.shape
          have hp3:=below_trans hp hb3
          refine hK.out _ _ (kcell hb3 hS) (fun _ _=>?_)
          try simp only [tA,tB,tC,Act.put,tE,tF,tG]
          clear hK K inv hS;rename_i hS inv
          refine F_o1 10 inv ?_;intro K hK
          try simp only [tA,tB,tC]
          go_simp
          have hal:=(Below.refl w3.heap.size w3).alloc (Nat.le_refl _) (.cells #[.slice none 0 0] 134)
          refine hK.out _ _ (kcell hal hS) (fun _ _=>?_)
          try simp only [tA,tB,tC,Act.put,tE,tF,tG]
          clear hK K inv hS;rename_i hS inv
          refine F_l1 11 ?_;intro K hK
          go_simp
          refine hK _ _ ?_
          clear hK K inv hS
          have hal2:=(Below.refl w3.heap.size w3).alloc (Nat.le_refl _) (.cells #[.slice A3 n3 c3] 134)
          have hcx:CelX W0 (w3.alloc (.cells #[.slice A3 n3 c3] 134)) w3.heap.size (.slice A3 n3 c3) (post a ++ T1 ++ [(4,0,0,0)]):=⟨Blk.new _ _ _ _ rfl,⟨_,_,h3.below hal2 (Nat.le_refl _),hp.size,hal2.size⟩,hp3.size,below_trans hp3 hal2⟩
          go_wp2_with fail
          all_goals (go_meet;exact ⟨_,_,_,_,rfl,hcx⟩)
        · go_simp
          have hal:=(Below.refl w2.heap.size w2).alloc (Nat.le_refl _) (.cells #[.slice none 0 0] 134)
          have hbz:=Blk.new w2 134 #[.slice none 0 0] w2.heap.size rfl
          have hpa:=below_trans hp hal
          refine hK.out _ _ (kcell hal hS) (fun _ _=>?_)
          try simp only [tA,tB,tC,Act.put,tE,tF,tG]
          clear hK K inv hS;rename_i hS inv
          refine F_o1 9 inv ?_;intro K hK
          try simp only [tA,tB,tC]
          go_simp
          refine (l8Join_any _ _ (post a) T1 (4,0,0,0) _ (HVA.out.keep hpa) (H2.out.keep hal) (by omega) (by omega)).mono ?_
          rintro e w3 ⟨v3,rfl,⟨s3,rfl,h3⟩,hb3⟩
          obtain ⟨A3,n3,c3,rfl⟩:=h3.shape
          have hp3:=below_trans hpa hb3
          have hbz3:=hbz.keep hb3
          have z0:w3.cell? ⟨w2.heap.size,0,none⟩=some (.slice none 0 0):=hbz3.cell 0
          have v0:=hbz3.frozen 0
          have hlz:=hbz3.lt
          have hzl:w2.heap.size < (w2.alloc (.cells #[.slice none 0 0] 134)).heap.size:=hbz.lt
          refine hK.out _ _ (kcell hb3 hS) (fun _ _=>?_)
          try simp only [tA,tB,tC,Act.put,tE,tF,tG]
          clear hK K inv hS;rename_i hS inv
          refine F_l1 11 ?_;intro K hK
          go_simp
          refine hK _ _ ?_
          clear hK K inv hS
          have hcx:CelX W0 (w3.setCell ⟨w2.heap.size,0,none⟩ (.slice A3 n3 c3)) w2.heap.size (.slice A3 n3 c3) (post a ++ T1 ++ [(4,0,0,0)]) :=
           ⟨hbz3.set_ 0 _,⟨_,_,h3.only ((Only.refl w2.heap.size (w2.heap.size+1) w3).setCell (p:=⟨w2.heap.size,0,none⟩) (.inl ⟨Nat.le_refl _,Nat.lt_succ_self _⟩) _) (.inr hzl),hpa.size,by simp [World.setCell]⟩,hp.size,hp3.setCell (p:=⟨w2.heap.size,0,none⟩) hp.size _⟩
          go_wp2_with fail
          all_goals (go_meet;exact ⟨_,_,_,_,rfl,hcx⟩)
      · go_simp
        have hal:=((Below.refl W0.heap.size W0).alloc (Nat.le_refl _) (.cells #[.slice none 0 0] 134)).drew
        have hbz:Blk (W0.alloc (.cells #[.slice none 0 0] 134)).drew W0.heap.size 134 #[.slice none 0 0]:=Blk.new W0 134 #[.slice none 0 0] W0.heap.size rfl
        refine hK.out _ _ (kcell hal hS) (fun _ _=>?_)
        try simp only [tA,tB,tC,Act.put,tE,tF,tG]
        clear hK K inv hS;rename_i hS inv
        refine F_o1 7 inv ?_;intro K hK
        try simp only [tA,tB,tC]
        go_simp
        refine (HIH.out _ _ _ (by first | rfl | (rw [IntWalk.i64_in _ (by omega)];first | done | (split <;> omega) | omega)) (by rw [IntWalk.i64_in _ (by omega)]) hal).mono ?_
        rintro e w2 ⟨v2,rfl,h2,hb2⟩
        have hp:=below_trans hal hb2
        have H2:=Hd_ (h2.view.mono (Nat.zero_le _) (Nat.le_refl _))
        have hbz2:=hbz.keep hb2
        refine hK.out _ _ (kcell hb2 hS) (fun _ _=>?_)
        try simp only [tA,tB,tC,Act.put,tE,tF,tG]
        clear hK K inv hS;rename_i hS inv
        clear h2 hb2
        refine F_o1 9 inv ?_;intro K hK
        try simp only [tA,tB,tC]
        go_simp
        refine (l8Join_any _ _ (post a) T1 (4,0,0,0) _ (HVA.out.keep hp) H2.out (by omega) (by omega)).mono ?_
        rintro e w3 ⟨v3,rfl,⟨s3,rfl,h3⟩,hb3⟩
        obtain ⟨A3,n3,c3,rfl⟩:=h3.shape
        have hp3:=below_trans hp hb3
        have hbz3:=hbz2.keep hb3
        have z0:w3.cell? ⟨W0.heap.size,0,none⟩=some (.slice none 0 0):=hbz3.cell 0
        have v0:=hbz3.frozen 0
        have hlz:=hbz3.lt
        have hzl:W0.heap.size < w2.heap.size:=hbz2.lt
        refine hK.out _ _ (kcell hb3 hS) (fun _ _=>?_)
        try simp only [tA,tB,tC,Act.put,tE,tF,tG]
        clear hK K inv hS;rename_i hS inv
        refine F_l1 11 ?_;intro K hK
        go_simp
        refine hK _ _ ?_
        clear hK K inv hS
        have hcx:CelX W0 (w3.setCell ⟨W0.heap.size,0,none⟩ (.slice A3 n3 c3)) W0.heap.size (.slice A3 n3 c3) (post a ++ T1 ++ [(4,0,0,0)]) :=
         ⟨hbz3.set_ 0 _,⟨_,_,h3.only ((Only.refl W0.heap.size (W0.heap.size+1) w3).setCell (p:=⟨W0.heap.size,0,none⟩) (.inl ⟨Nat.le_refl _,Nat.lt_succ_self _⟩) _) (.inr hzl),hp.size,by simp [World.setCell]⟩,Nat.le_refl _,hp3.setCell (p:=⟨W0.heap.size,0,none⟩) (Nat.le_refl _) _⟩
        go_wp2_with fail
        all_goals (go_meet;exact ⟨_,_,_,_,rfl,hcx⟩)
     case rest =>
      obtain ⟨q,A,n,c,rfl,hcx⟩:=hcut
      have HCX:=Hd_ hcx
      have y0:wc.cell? ⟨q,0,none⟩=some (.slice A n c):=hcx.blk.cell 0
      have hbr:=HBR.out.keep hcx.below
      have z0:wc.cell? ⟨w.heap.size+1,0,none⟩=some (.slice none 0 0):=hbr.cell 0
      have v0:=hbr.frozen 0
      have hlr:=hbr.lt
      clear hcx x0
      obtain ⟨T2,hT2⟩:∃ T2,T2=post a ++ T1 ++ [(4,0,0,0)]:=⟨_,rfl⟩
      have HT2:=Hd_ hT2
      have HVW:=Hd_ (show TkV 0 wc.heap.size wc (.agg #[.slice A n c]) T2 by rw [hT2];exact HCX.out.view.mono (Nat.zero_le _) (Nat.le_refl _))
      have hl2:T2.length<=30000:=by rw [hT2];simp;omega
      clear hT2
      go_wp2_with fail
      refine F_start 4 (fun w'=>w'.cell? ⟨q,0,none⟩=some (.slice A n c)) (by kernel_rfl) (by exact y0) (fun hS inv=>?_)
      refine F_tk 0 inv ?_
      try simp only [tA,tB,tC,Act.put,tE,tF,tG]
      clear inv;intro inv
      refine F_tk 2 inv ?_
      try simp only [tA,tB,tC,Act.put,tE,tF,tG]
      clear inv;intro inv
      have hbd:Below wc.heap.size wc wc.drew:=(Below.refl _ _).drew
      refine F_o1 1 inv ?_;intro K hK
      try simp only [tA,tB,tC]
      go_simp
      refine (l8Leaf_any 2 _).mono ?_
      rintro e w5 ⟨v5,rfl,h5,hb5⟩
      have hp5:=below_trans hbd hb5
      refine hK.out _ _ (kcell hb5 hS) (fun _ _=>?_)
      try simp only [tA,tB,tC,Act.put,tE,tF,tG]
      clear hK K inv hS;rename_i hS inv
      refine F_o1 3 inv ?_;intro K hK
      try simp only [tA,tB,tC]
      go_simp
      refine (l8Join_any _ _ T2 [(2,0,0,0)] (5,0,0,0) _ (HVW.out.keep hp5) (h5.view.mono (Nat.zero_le _) (Nat.le_refl _)) (by omega) (by simp)).mono ?_
      rintro e w6 ⟨v6,rfl,⟨s6,rfl,h6⟩,hb6⟩
      obtain ⟨A6,n6,c6,rfl⟩:=h6.shape
      have hp6:=below_trans hp5 hb6
      refine hK.out _ _ (kcell hb6 hS) (fun _ _=>?_)
      try simp only [tA,tB,tC,Act.put,tE,tF,tG]
      clear hK K inv hS;rename_i hS inv
      have hbr6:=hbr.keep hp6
      have z6:w6.cell? ⟨w.heap.size+1,0,none⟩=some (.slice none 0 0):=hbr6.cell 0
      have v6:=hbr6.frozen 0
      have hlr6:=hbr6.lt
      clear z0 v0 hlr
      refine F_l1 4 ?_;intro K hK
      go_simp
      refine hK _ _ ?_
      clear hK K inv hS
      have hpc:=HCX.out.below.size
      have hps:=hp5.size
      have ho:=(Only.refl (w.heap.size+1) (w.heap.size+2) w6).setCell (p:=⟨w.heap.size+1,0,none⟩) (.inl ⟨Nat.le_refl _,Nat.lt_succ_self _⟩) (.slice A6 n6 c6)
      have HO:=Hd_ ((h6.only ho (.inr (by omega))).mono (lo':=w.heap.size) (by omega) ho.size)
      have HB:=Hd_ ((below_trans (below_trans HB0.out HCX.out.below) hp6).setCell (p:=⟨w.heap.size+1,0,none⟩) (by simp only;omega) (.slice A6 n6 c6))
      clear h6 hb6 ho hp6 hp5
      go_wp2_with fail
      refine bodyPost_ret (v:=.agg #[.slice A6 n6 c6]) (by simp [results,Tryz.results119,go_sem,z6,v6,hlr6]) rfl ⟨_,rfl,⟨_,rfl,?_⟩,HB.out⟩
      rw [<- HT2.out]
      exact HO.out
   · have HT:Hid (post (timesT a (l+1) (h+1))=post a ++ T1 ++ [(4,0,0,0)]):=Hd_ (by rw [hT1];simp [timesT,post,tCat,tAlt,tEmp])
     rw [HT.out]
     rw [Nat.add_sub_cancel] at hT1
     go_enter Tryz.func119,Tryz.ntmps119
     go_upto_region 3 with fail
     generalize ((w.alloc (.cells #[.slice A1 n1 c1] 134)).alloc (.cells #[.slice none 0 0] 134))=W0 at *
     have x0:W0.cell? ⟨w.heap.size,0,none⟩=some (.slice A1 n1 c1):=hbx.cell 0
     have HIH:=Hd_ (show ∀ (W:World) (z z':Int),z=(l:Int)->z'=(h:Int)->Below W0.heap.size W0 W->Calls Tryz.prog 119 #[.agg #[.slice A1 n1 c1],.int .i64 z,.int .i64 z'] W fun e w'=>∃ v,e=.returned v/\TkO W.heap.size w'.heap.size w' v T1/\Below W.heap.size W w' from
      fun W z z' hz hz' hW=>by rw [hz,hz',hT1];exact l10Times_any a hla h l _ W (hva.keep (below_trans hb0 hW)) (by omega) (by omega))
     have HVA:=Hd_ (hva.keep hb0)
     have HBR:=Hd_ hbr
     have HB0:=Hd_ hb0
     have hs1:w.heap.size+1 < W0.heap.size:=by omega
     clear hT1 hva hb0 hbx hbr hs0
     go_wp2_with fail
     go_cut [7] (fun p wx=>∃ (q:Nat) (A:Option Addr) (n c:Nat),p=.pointer (some ⟨q,0,none⟩)/\CelX W0 wx q (.slice A n c) (post a ++ T1 ++ [(4,0,0,0)]))
     case first =>
      refine F_start 11 (fun w'=>w'.cell? ⟨w.heap.size,0,none⟩=some (.slice A1 n1 c1)) (by kernel_rfl) (by exact x0) (fun hS inv=>?_)
      refine F_tk 0 inv ?_
      try simp only [tA,tB,tC,Act.put,tE,tF,tG]
      clear inv;intro inv
      refine F_tk 1 inv ?_
      try simp only [tA,tB,tC,Act.put,tE,tF,tG]
      clear inv;intro inv
      refine F_tk 2 inv ?_
      try simp only [tA,tB,tC,Act.put,tE,tF,tG]
      clear inv;intro inv
      refine F_tk 3 inv ?_
      try simp only [tA,tB,tC,Act.put,tE,tF,tG]
      clear inv;intro inv
      refine F_tk 4 inv ?_
      try simp only [tA,tB,tC,Act.put,tE,tF,tG]
      clear inv;intro inv
      refine F_tk 5 inv ?_
      try simp only [tA,tB,tC,Act.put,tE,tF,tG]
      clear inv;intro inv
      refine F_tk 6 inv ?_
      try simp only [tA,tB,tC,Act.put,tE,tF,tG]
      clear inv;intro inv
      refine F_tk 8 inv ?_
      try simp only [tA,tB,tC,Act.put,tE,tF,tG]
      clear inv;intro inv
      have hbd:Below W0.heap.size W0 W0.drew:=(Below.refl _ _).drew
      refine F_two (i:=7) (j:=10) (by kernel_rfl) rfl rfl rfl rfl (by omega) inv (fun K hK=>?_) (fun K hK=>?_)
      all_goals (try simp only [tA,tB,tC])
      · go_simp
        refine (HIH.out _ _ _ (by first | rfl | (rw [IntWalk.i64_in _ (by omega)];first | done | (split <;> omega) | omega)) (by rw [IntWalk.i64_in _ (by omega)]) hbd).mono ?_
        rintro e w2 ⟨v2,rfl,h2,hb2⟩
        have hp:=below_trans hbd hb2
        have H2:=Hd_ (h2.view.mono (Nat.zero_le _) (Nat.le_refl _))
        refine hK.out _ _ (kcell hb2 hS) (fun _ _=>?_)
        try simp only [tA,tB,tC,Act.put,tE,tF,tG]
        clear hK K inv hS;rename_i hS inv
        clear h2 hb2
        refine F_two (i:=9) (j:=10) (by kernel_rfl) rfl rfl rfl rfl (by omega) inv (fun K hK=>?_) (fun K hK=>?_)
        all_goals (try simp only [tA,tB,tC])
        · go_simp
          refine (l8Join_any _ _ (post a) T1 (4,0,0,0) _ (HVA.out.keep hp) H2.out (by omega) (by omega)).mono ?_
          rintro e w3 ⟨v3,rfl,⟨s3,rfl,h3⟩,hb3⟩
          obtain ⟨A3,n3,c3,rfl⟩:=h3.shape
          have hp3:=below_trans hp hb3
          refine hK.out _ _ (kcell hb3 hS) (fun _ _=>?_)
          try simp only [tA,tB,tC,Act.put,tE,tF,tG]
          clear hK K inv hS;rename_i hS inv
          refine F_o1 10 inv ?_;intro K hK
          try simp only [tA,tB,tC]
          go_simp
          have hal:=(Below.refl w3.heap.size w3).alloc (Nat.le_refl _) (.cells #[.slice none 0 0] 134)
          refine hK.out _ _ (kcell hal hS) (fun _ _=>?_)
          try simp only [tA,tB,tC,Act.put,tE,tF,tG]
          clear hK K inv hS;rename_i hS inv
          refine F_l1 11 ?_;intro K hK
          go_simp
          refine hK _ _ ?_
          clear hK K inv hS
          have hal2:=(Below.refl w3.heap.size w3).alloc (Nat.le_refl _) (.cells #[.slice A3 n3 c3] 134)
          have hcx:CelX W0 (w3.alloc (.cells #[.slice A3 n3 c3] 134)) w3.heap.size (.slice A3 n3 c3) (post a ++ T1 ++ [(4,0,0,0)]):=⟨Blk.new _ _ _ _ rfl,⟨_,_,h3.below hal2 (Nat.le_refl _),hp.size,hal2.size⟩,hp3.size,below_trans hp3 hal2⟩
          go_wp2_with fail
          all_goals (go_meet;exact ⟨_,_,_,_,rfl,hcx⟩)
        · go_simp
          have hal:=(Below.refl w2.heap.size w2).alloc (Nat.le_refl _) (.cells #[.slice none 0 0] 134)
          have hbz:=Blk.new w2 134 #[.slice none 0 0] w2.heap.size rfl
          have hpa:=below_trans hp hal
          refine hK.out _ _ (kcell hal hS) (fun _ _=>?_)
          try simp only [tA,tB,tC,Act.put,tE,tF,tG]
          clear hK K inv hS;rename_i hS inv
          refine F_o1 9 inv ?_;intro K hK
          try simp only [tA,tB,tC]
          go_simp
          refine (l8Join_any _ _ (post a) T1 (4,0,0,0) _ (HVA.out.keep hpa) (H2.out.keep hal) (by omega) (by omega)).mono ?_
          rintro e w3 ⟨v3,rfl,⟨s3,rfl,h3⟩,hb3⟩
          obtain ⟨A3,n3,c3,rfl⟩:=h3.shape
          have hp3:=below_trans hpa hb3
          have hbz3:=hbz.keep hb3
          have z0:w3.cell? ⟨w2.heap.size,0,none⟩=some (.slice none 0 0):=hbz3.cell 0
          have v0:=hbz3.frozen 0
          have hlz:=hbz3.lt
          have hzl:w2.heap.size < (w2.alloc (.cells #[.slice none 0 0] 134)).heap.size:=hbz.lt
          refine hK.out _ _ (kcell hb3 hS) (fun _ _=>?_)
          try simp only [tA,tB,tC,Act.put,tE,tF,tG]
          clear hK K inv hS;rename_i hS inv
          refine F_l1 11 ?_;intro K hK
          go_simp
          refine hK _ _ ?_
          clear hK K inv hS
          have hcx:CelX W0 (w3.setCell ⟨w2.heap.size,0,none⟩ (.slice A3 n3 c3)) w2.heap.size (.slice A3 n3 c3) (post a ++ T1 ++ [(4,0,0,0)]) :=
           ⟨hbz3.set_ 0 _,⟨_,_,h3.only ((Only.refl w2.heap.size (w2.heap.size+1) w3).setCell (p:=⟨w2.heap.size,0,none⟩) (.inl ⟨Nat.le_refl _,Nat.lt_succ_self _⟩) _) (.inr hzl),hpa.size,by simp [World.setCell]⟩,hp.size,hp3.setCell (p:=⟨w2.heap.size,0,none⟩) hp.size _⟩
          go_wp2_with fail
          all_goals (go_meet;exact ⟨_,_,_,_,rfl,hcx⟩)
      · go_simp
        have hal:=((Below.refl W0.heap.size W0).alloc (Nat.le_refl _) (.cells #[.slice none 0 0] 134)).drew
        have hbz:Blk (W0.alloc (.cells #[.slice none 0 0] 134)).drew W0.heap.size 134 #[.slice none 0 0]:=Blk.new W0 134 #[.slice none 0 0] W0.heap.size rfl
        refine hK.out _ _ (kcell hal hS) (fun _ _=>?_)
        try simp only [tA,tB,tC,Act.put,tE,tF,tG]
        clear hK K inv hS;rename_i hS inv
        refine F_o1 7 inv ?_;intro K hK
        try simp only [tA,tB,tC]
        go_simp
        refine (HIH.out _ _ _ (by first | rfl | (rw [IntWalk.i64_in _ (by omega)];first | done | (split <;> omega) | omega)) (by rw [IntWalk.i64_in _ (by omega)]) hal).mono ?_
        rintro e w2 ⟨v2,rfl,h2,hb2⟩
        have hp:=below_trans hal hb2
        have H2:=Hd_ (h2.view.mono (Nat.zero_le _) (Nat.le_refl _))
        have hbz2:=hbz.keep hb2
        refine hK.out _ _ (kcell hb2 hS) (fun _ _=>?_)
        try simp only [tA,tB,tC,Act.put,tE,tF,tG]
        clear hK K inv hS;rename_i hS inv
        clear h2 hb2
        refine F_o1 9 inv ?_;intro K hK
        try simp only [tA,tB,tC]
        go_simp
        refine (l8Join_any _ _ (post a) T1 (4,0,0,0) _ (HVA.out.keep hp) H2.out (by omega) (by omega)).mono ?_
        rintro e w3 ⟨v3,rfl,⟨s3,rfl,h3⟩,hb3⟩
        obtain ⟨A3,n3,c3,rfl⟩:=h3.shape
        have hp3:=below_trans hp hb3
        have hbz3:=hbz2.keep hb3
        have z0:w3.cell? ⟨W0.heap.size,0,none⟩=some (.slice none 0 0):=hbz3.cell 0
        have v0:=hbz3.frozen 0
        have hlz:=hbz3.lt
        have hzl:W0.heap.size < w2.heap.size:=hbz2.lt
        refine hK.out _ _ (kcell hb3 hS) (fun _ _=>?_)
        try simp only [tA,tB,tC,Act.put,tE,tF,tG]
        clear hK K inv hS;rename_i hS inv
        refine F_l1 11 ?_;intro K hK
        go_simp
        refine hK _ _ ?_
        clear hK K inv hS
        have hcx:CelX W0 (w3.setCell ⟨W0.heap.size,0,none⟩ (.slice A3 n3 c3)) W0.heap.size (.slice A3 n3 c3) (post a ++ T1 ++ [(4,0,0,0)]) :=
         ⟨hbz3.set_ 0 _,⟨_,_,h3.only ((Only.refl W0.heap.size (W0.heap.size+1) w3).setCell (p:=⟨W0.heap.size,0,none⟩) (.inl ⟨Nat.le_refl _,Nat.lt_succ_self _⟩) _) (.inr hzl),hp.size,by simp [World.setCell]⟩,Nat.le_refl _,hp3.setCell (p:=⟨W0.heap.size,0,none⟩) (Nat.le_refl _) _⟩
        go_wp2_with fail
        all_goals (go_meet;exact ⟨_,_,_,_,rfl,hcx⟩)
     case rest =>
      obtain ⟨q,A,n,c,rfl,hcx⟩:=hcut
      have HCX:=Hd_ hcx
      have y0:wc.cell? ⟨q,0,none⟩=some (.slice A n c):=hcx.blk.cell 0
      have hbr:=HBR.out.keep hcx.below
      have z0:wc.cell? ⟨w.heap.size+1,0,none⟩=some (.slice none 0 0):=hbr.cell 0
      have v0:=hbr.frozen 0
      have hlr:=hbr.lt
      clear hcx x0
      have HD:=HCX.out.done HB0.out (r:=w.heap.size+1) (by omega) hs1 (.slice A n c)
      have hl0:0 < (l:Int)+1:=by omega
      go_wp2_with fail
      exact bodyPost_ret (v:=.agg #[.slice A n c]) (by simp [results,Tryz.results119,go_sem,z0,v0,hlr]) rfl ⟨_,rfl,HD.1,HD.2⟩
end Go.Proofs.YteaplabkemoenaaGreat
