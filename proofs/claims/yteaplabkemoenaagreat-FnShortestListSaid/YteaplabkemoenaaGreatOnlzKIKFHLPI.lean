/- Parts of the proof, joined into one text: PosE, AuR, DrwG, AutD, AscM, DistM, SpreadM, NextM, GoalM, DistP. -/
import Derived.Test.YteaplabkemoenaaGreatOnlzEHEKMOBL
import Derived.Test.YteaplabkemoenaaGreatOnlzAIFFPHMF
import Derived.Lib.SlicesCompact
set_option linter.unusedVariables false
set_option linter.unusedSimpArgs false
namespace Go.Proofs.YteaplabkemoenaaGreat
open Go.ChangeShapes Go.WideShapes Go.ChangeAt Go.RowKit
attribute [local go_sem] ext_cell ext_frozen ext_lt ext_lt1 ext_lt2 ext_lt3 ltn2 ltn3 ltn13 lts1 lts2 lts3
def PosOut (w:World) (e:Ending) (w':World):Prop:=∃ v is L F,e=.returned (.tuple #[v,.bool is])/\PosV w.heap.size w'.heap.size w' v L F/\Below w.heap.size w w'
theorem PosR.fields {p:Nat} {w:World} {ls fs:Value} {fi la:Int} {nu:Bool} {L F:List Int} (h:PosR p w ls fs fi la nu L F) (x y:Int) (b:Bool) :
 PosR p (((w.setCell ⟨p,1,none⟩ (.int .i64 x)).setCell ⟨p,2,none⟩ (.int .i64 y)).setCell ⟨p,4,none⟩ (.bool b)) ls fs x y b L F/\Only p (p+1) w (((w.setCell ⟨p,1,none⟩ (.int .i64 x)).setCell ⟨p,2,none⟩ (.int .i64 y)).setCell ⟨p,4,none⟩ (.bool b)):=by
 have ho:Only p (p+1) w (((w.setCell ⟨p,1,none⟩ (.int .i64 x)).setCell ⟨p,2,none⟩ (.int .i64 y)).setCell ⟨p,4,none⟩ (.bool b)) :=
  (((Only.refl p (p+1) w).setCell (p:=⟨p,1,none⟩) (.inl ⟨Nat.le_refl _,Nat.lt_succ_self _⟩) _).setCell (p:=⟨p,2,none⟩) (.inl ⟨Nat.le_refl _,Nat.lt_succ_self _⟩) _).setCell (p:=⟨p,4,none⟩) (.inl ⟨Nat.le_refl _,Nat.lt_succ_self _⟩) _
 have hb:=((h.blk.set_ 1 (.int .i64 x)).set_ 2 (.int .i64 y)).set_ 4 (.bool b)
 exact ⟨⟨by simpa using hb,own_only h.lets ho (Nat.le_refl _),own_only h.fol ho (Nat.le_refl _),h.apart⟩,ho⟩
def put5P (w:World) (r:Nat) (a b c d e:Value):World:=((((w.setCell ⟨r,0,none⟩ a).setCell ⟨r,1,none⟩ b).setCell ⟨r,2,none⟩ c).setCell ⟨r,3,none⟩ d).setCell ⟨r,4,none⟩ e
theorem put5P_only (w:World) (r:Nat) (a b c d e:Value):Only r (r+1) w (put5P w r a b c d e) :=
 (((((Only.refl r (r+1) w).setCell (p:=⟨r,0,none⟩) (.inl ⟨Nat.le_refl _,Nat.lt_succ_self _⟩) a).setCell (p:=⟨r,1,none⟩) (.inl ⟨Nat.le_refl _,Nat.lt_succ_self _⟩) b).setCell (p:=⟨r,2,none⟩) (.inl ⟨Nat.le_refl _,Nat.lt_succ_self _⟩) c).setCell (p:=⟨r,3,none⟩) (.inl ⟨Nat.le_refl _,Nat.lt_succ_self _⟩) d).setCell (p:=⟨r,4,none⟩) (.inl ⟨Nat.le_refl _,Nat.lt_succ_self _⟩) e
theorem PosR.done {p r:Nat} {w0 w:World} {ls fs:Value} {fi la:Int} {nu:Bool} {L F:List Int} (h:PosR p w ls fs fi la nu L F) (hl:L.length=F.length) (hb:Below w0.heap.size w0 w) (hr:w0.heap.size<=r) (hrp:r < p) :
 PosV w0.heap.size (put5P w r ls (.int .i64 fi) (.int .i64 la) fs (.bool nu)).heap.size (put5P w r ls (.int .i64 fi) (.int .i64 la) fs (.bool nu)) (.agg #[ls,.int .i64 fi,.int .i64 la,fs,.bool nu]) L F/\Below w0.heap.size w0 (put5P w r ls (.int .i64 fi) (.int .i64 la) fs (.bool nu)):=by
 have ho:=put5P_only w r ls (.int .i64 fi) (.int .i64 la) fs (.bool nu)
 exact ⟨⟨_,_,_,_,_,rfl,((Own.of_row (xs:=L) (own_only h.lets ho (by omega)) rfl rfl).sl cI_len).mono (by omega) (Nat.le_refl _),((Own.of_row (xs:=F) (own_only h.fol ho (by omega)) rfl rfl).sl cI_len).mono (by omega) (Nat.le_refl _),hl⟩,hb.trans (ho.below hr (hb.size))⟩
set_option maxHeartbeats 8000000 in
theorem buildPositions_any (va:Value) (l:List Tok) (w:World) (hv:TkV 0 w.heap.size w va l) :
 Calls Tryz.prog 84 #[va] w (PosOut w):=by
 obtain ⟨sa,rfl,hsa⟩:=hv
 have HSA:=Hd_ (show TkV 0 w.heap.size w (.agg #[sa]) l from ⟨_,rfl,hsa⟩)
 obtain ⟨A1,n1,c1,rfl⟩:=hsa.shape
 clear hsa
 have hb0:=((Below.refl w.heap.size w).alloc (Nat.le_refl _) (.cells #[.slice A1 n1 c1] 134)).alloc (by simp) (.cells #[.slice none 0 0,.int .i64 0,.int .i64 0,.slice none 0 0,.bool false] 129)
 have hbr:=Blk.new (w.alloc (.cells #[.slice A1 n1 c1] 134)) 129 #[.slice none 0 0,.int .i64 0,.int .i64 0,.slice none 0 0,.bool false] (w.heap.size+1) (by simp)
 have hs0:((w.alloc (.cells #[.slice A1 n1 c1] 134)).alloc (.cells #[.slice none 0 0,.int .i64 0,.int .i64 0,.slice none 0 0,.bool false] 129)).heap.size=w.heap.size+2:=by simp
 have HTK:=Hd_ (HSA.out.keep hb0)
 go_enter Tryz.func84,Tryz.ntmps84
 go_wp2_with fail
 generalize ((w.alloc (.cells #[.slice A1 n1 c1] 134)).alloc (.cells #[.slice none 0 0,.int .i64 0,.int .i64 0,.slice none 0 0,.bool false] 129))=W0 at *
 refine (expandExpr_any _ l _ HTK.out).mono ?_
 rintro e w1 ⟨v1,is,rfl,⟨A3,n3,c3,rfl⟩,hex,hb1⟩
 have hs1:=hb1.size
 have HB1:=Hd_ (below_trans hb0 hb1)
 have HBR:=Hd_ (hbr.keep hb1)
 clear hb0 hbr hb1 HSA HTK
 have hal:=(Below.refl w1.heap.size w1).alloc (Nat.le_refl _) (.cells #[.slice A3 n3 c3] 134)
 have hbx:=Blk.new w1 134 #[.slice A3 n3 c3] _ rfl
 have hbr2:=HBR.out.keep hal
 have HB2:=Hd_ (below_trans HB1.out hal)
 have HAL:=Hd_ hal
 have hs2:w.heap.size+2<=w1.heap.size:=by omega
 have hs3:w1.heap.size < (w1.alloc (.cells #[.slice A3 n3 c3] 134)).heap.size:=hbx.lt
 clear hal HBR HB1 hs0 hs1
 go_upto_region 2 with fail
 generalize w1.alloc (.cells #[.slice A3 n3 c3] 134)=W2 at *
 have x0:W2.cell? ⟨w1.heap.size,0,none⟩=some (.slice A3 n3 c3):=hbx.cell 0
 have z0:W2.cell? ⟨w.heap.size+1,0,none⟩=some (.slice none 0 0):=hbr2.cell 0
 have z1:W2.cell? ⟨w.heap.size+1,1,none⟩=some (.int .i64 0):=hbr2.cell 1
 have z2:W2.cell? ⟨w.heap.size+1,2,none⟩=some (.int .i64 0):=hbr2.cell 2
 have z3:W2.cell? ⟨w.heap.size+1,3,none⟩=some (.slice none 0 0):=hbr2.cell 3
 have z4:W2.cell? ⟨w.heap.size+1,4,none⟩=some (.bool false):=hbr2.cell 4
 have v0:=hbr2.frozen 0
 have v1:=hbr2.frozen 1
 have v2:=hbr2.frozen 2
 have v3:=hbr2.frozen 3
 have v4:=hbr2.frozen 4
 have hlr:=hbr2.lt
 have HBX:=Hd_ hbx
 have HBR2:=Hd_ hbr2
 clear hbx hbr2
 cases is
 · clear hex
   go_wp2_with fail
   exact bodyPost_ret (v:=.tuple #[.agg #[.slice none 0 0,.int .i64 0,.int .i64 0,.slice none 0 0,.bool false],.bool false]) (by simp [results,Tryz.results84,go_sem,z0,z1,z2,z3,z4,v0,v1,v2,v3,v4,hlr]) rfl ⟨_,_,[],[],rfl,PosV.zero _ _ _,HB2.out.trans ((put5P_only _ _ _ _ _ _ _).below (by omega) HB2.out.size)⟩
 · obtain ⟨r,hrok,hrl,htv⟩:=hex rfl
   clear hex
   obtain ⟨ss,hss,hsl⟩:=htv
   have hss:ss=.slice A3 n3 c3:=by simpa using hss.symm
   subst hss
   obtain ⟨A',c',hv,hl,hm,hx⟩:=id hsl
   injection hv with hv1 hv2 hv3
   subst hv1 hv3
   unfold maxLen at hm
   have hsl2:SlI 0 W2.heap.size W2 cEd 4 (.slice A3 n3 c3) (post r):=(hsl.below HAL.out (Nat.le_refl _)).mono (Nat.zero_le _) HAL.out.size
   have HX:=Hd_ (show ∀ i x,(post r)[i]?=some x->∃ b o,A3=some ⟨b,o,none⟩/\b < W2.heap.size/\W2.cell? ⟨b,o+i * 4,none⟩=some (.int .i64 x.1) from fun i x hi=>by
    obtain ⟨b,o,e,h1,h2,h3⟩:=hx i x hi
    have:=h3 0 _ rfl
    exact ⟨b,o,e,Nat.lt_of_lt_of_le h2 HAL.out.size,(HAL.out.cell (p:=⟨b,o+i * 4,none⟩) h2).trans this⟩)
   have HN:=Hd_ hv2
   have HS2:=Hd_ hsl2
   have HOK:=Hd_ hrok
   rw [<- hv2] at hl hrl
   clear hx hv2 hsl hsl2 hrok
   go_wp2_with fail
   go_loop [6,7] (fun nn ii=>∃ (i k:Nat),i<=n3/\k<=i/\nn=.int .i64 (k:Int)/\ii=.int .i64 (i:Int)) (fun _ ii=>n3 - (intOf ii).toNat)
   case atStart=>exact ⟨0,0,Nat.zero_le _,Nat.le_refl _,rfl,rfl⟩
   case round =>
    obtain ⟨i,k,hi,hk,rfl,rfl⟩:=hrel
    by_cases hlt:i < n3
    · have hii:(i:Int) < (n3:Int):=by omega
      obtain ⟨x,hxi⟩:∃ x,(post r)[i]?=some x:=⟨_,List.getElem?_eq_getElem (by have:=HN.out;omega)⟩
      obtain ⟨q,o,rfl,hq,e0⟩:=HX.out i x hxi
      obtain ⟨t0,t1,t2,t3⟩:=x
      simp only at e0
      clear hxi
      go_wp2_with fail
      · go_round
        case rel=>exact ⟨i+1,k+1,by omega,by omega,by go_num,by go_num⟩
        case measure=>simp [intOf];omega
      · go_round
        case rel=>exact ⟨i+1,k,by omega,by omega,rfl,by go_num⟩
        case measure=>simp [intOf];omega
    · have hii:¬ (i:Int) < (n3:Int):=by omega
      by_cases h20:20 < k
      · have hki:20 < (k:Int):=by omega
        go_wp2_with fail
        exact bodyPost_ret (v:=.tuple #[.agg #[.slice none 0 0,.int .i64 0,.int .i64 0,.slice none 0 0,.bool false],.bool false]) (by simp [results,Tryz.results84,go_sem,z0,z1,z2,z3,z4,v0,v1,v2,v3,v4,hlr]) rfl ⟨_,_,[],[],rfl,PosV.zero _ _ _,HB2.out.trans ((put5P_only _ _ _ _ _ _ _).below (by omega) HB2.out.size)⟩
      · have hki:¬ 20 < (k:Int):=by omega
        obtain ⟨p,hp⟩:∃ p,p=W2.heap.size:=⟨_,rfl⟩
        have hal:=(Below.refl W2.heap.size W2).alloc (Nat.le_refl _) (.cells #[.slice none 0 0,.int .i64 0,.int .i64 0,.slice none 0 0,.bool false] 129)
        have hbp:=Blk.new W2 129 #[.slice none 0 0,.int .i64 0,.int .i64 0,.slice none 0 0,.bool false] p hp
        have HPR:=Hd_ (show PosR p (W2.alloc (.cells #[.slice none 0 0,.int .i64 0,.int .i64 0,.slice none 0 0,.bool false] 129)) (.slice none 0 0) (.slice none 0 0) 0 0 false [] [] from ⟨hbp,World.ownsRow_nil _ _ _ 1,World.ownsRow_nil _ _ _ 1,by intro b hb;cases hb⟩)
        have HS3:=Hd_ (show SlI 0 p (W2.alloc (.cells #[.slice none 0 0,.int .i64 0,.int .i64 0,.slice none 0 0,.bool false] 129)) cEd 4 _ (post r) by rw [hp];exact HS2.out.below hal (Nat.le_refl _))
        have HB3:=Hd_ (below_trans HB2.out hal)
        have HBR3:=Hd_ (HBR2.out.keep hal)
        have HBX3:=Hd_ (HBX.out.keep hal)
        have hlp:w.heap.size+1 < p:=by omega
        have hlx:w1.heap.size < p:=by omega
        have hsw:w.heap.size<=W2.heap.size:=HB2.out.size
        clear hbp hal
        go_upto_region 13 with fail
        clear HS2 HX x0 z0 z1 z2 z3 z4 v0 v1 v2 v3 v4 hlr HBR2 HBX
        rw [<- hp]
        generalize W2.alloc (.cells #[.slice none 0 0,.int .i64 0,.int .i64 0,.slice none 0 0,.bool false] 129)=W3 at *
        have x0:W3.cell? ⟨w1.heap.size,0,none⟩=some (.slice A3 n3 c3):=HBX3.out.cell 0
        clear hp
        go_wp2_with fail
        refine (l10Build_any p 0 0 false r _ _ _ [] [] W3 HOK.out HS3.out HPR.out rfl (by have:=HN.out;simp;omega)).mono ?_
        rintro e w4 ⟨b,x,y,ls,fs,L,F,rfl,hpr,hlf,-,hfr⟩
        have hun:=hfr.under HPR.out
        obtain ⟨B1,m1,d1,rfl⟩:=rowShape hpr.lets
        obtain ⟨B2,m2,d2,rfl⟩:=rowShape hpr.fol
        have hal:=(Below.refl w4.heap.size w4).alloc (Nat.le_refl _) (.cells #[.bool b,.int .i64 x,.int .i64 y] 149)
        have hbq:=Blk.new w4 149 #[.bool b,.int .i64 x,.int .i64 y] _ rfl
        have HPR4:=Hd_ (hpr.below hal)
        have HLF:=Hd_ hlf
        have HBR4:=Hd_ ((HBR3.out.below hun hlp).keep hal)
        have HB4:=Hd_ (((HB3.out.trans (hun.mono (by omega))).trans (hal.mono (by have:=HB3.out.size;have:=hun.size;omega))))
        have hpl:=hpr.blk.lt
        clear hpr hlf hfr hun hal HPR HS3 HBR3 HBX3 HB3 x0
        go_upto_region 14 with fail
        generalize w4.alloc (.cells #[.bool b,.int .i64 x,.int .i64 y] 149)=W4 at *
        have q0:W4.cell? ⟨w4.heap.size,0,none⟩=some (.bool b):=hbq.cell 0
        have q1:W4.cell? ⟨w4.heap.size,1,none⟩=some (.int .i64 x):=hbq.cell 1
        have q2:W4.cell? ⟨w4.heap.size,2,none⟩=some (.int .i64 y):=hbq.cell 2
        have p0:W4.cell? ⟨p,0,none⟩=some (.slice B1 m1 d1):=HPR4.out.blk.cell 0
        have p1:W4.cell? ⟨p,1,none⟩=some (.int .i64 0):=HPR4.out.blk.cell 1
        have p2:W4.cell? ⟨p,2,none⟩=some (.int .i64 0):=HPR4.out.blk.cell 2
        have p3:W4.cell? ⟨p,3,none⟩=some (.slice B2 m2 d2):=HPR4.out.blk.cell 3
        have p4:W4.cell? ⟨p,4,none⟩=some (.bool false):=HPR4.out.blk.cell 4
        have g1:=HPR4.out.blk.frozen 1
        have g2:=HPR4.out.blk.frozen 2
        have g4:=HPR4.out.blk.frozen 4
        have hlp4:=HPR4.out.blk.lt
        have hlq4:=hbq.lt
        have n1:¬ p=w4.heap.size:=by omega
        have n2:¬ w4.heap.size=p:=by omega
        clear hbq
        go_upto_region 17 with fail
        have HF:=Hd_ (HPR4.out.fields x y b)
        have HBR5:=Hd_ (HBR4.out.only HF.out.2 (.inl (by omega)))
        have HB5:=Hd_ (HB4.out.trans (HF.out.2.below (by omega) HB4.out.size))
        generalize ((W4.setCell ⟨p,1,none⟩ (.int .i64 x)).setCell ⟨p,2,none⟩ (.int .i64 y)).setCell ⟨p,4,none⟩ (.bool b)=W5 at *
        clear p0 p1 p2 p3 p4 q0 q1 q2 g1 g2 g4 hlp4 hlq4 n1 n2
        have p0:W5.cell? ⟨p,0,none⟩=some (.slice B1 m1 d1):=HF.out.1.blk.cell 0
        have p1:W5.cell? ⟨p,1,none⟩=some (.int .i64 x):=HF.out.1.blk.cell 1
        have p2:W5.cell? ⟨p,2,none⟩=some (.int .i64 y):=HF.out.1.blk.cell 2
        have p3:W5.cell? ⟨p,3,none⟩=some (.slice B2 m2 d2):=HF.out.1.blk.cell 3
        have p4:W5.cell? ⟨p,4,none⟩=some (.bool b):=HF.out.1.blk.cell 4
        have z0:W5.cell? ⟨w.heap.size+1,0,none⟩=some (.slice none 0 0):=HBR5.out.cell 0
        have z1:W5.cell? ⟨w.heap.size+1,1,none⟩=some (.int .i64 0):=HBR5.out.cell 1
        have z2:W5.cell? ⟨w.heap.size+1,2,none⟩=some (.int .i64 0):=HBR5.out.cell 2
        have z3:W5.cell? ⟨w.heap.size+1,3,none⟩=some (.slice none 0 0):=HBR5.out.cell 3
        have z4:W5.cell? ⟨w.heap.size+1,4,none⟩=some (.bool false):=HBR5.out.cell 4
        have v0:=HBR5.out.frozen 0
        have v1:=HBR5.out.frozen 1
        have v2:=HBR5.out.frozen 2
        have v3:=HBR5.out.frozen 3
        have v4:=HBR5.out.frozen 4
        have hlr:=HBR5.out.lt
        go_wp2_with fail
        have HD:=HF.out.1.done HLF.out HB5.out (r:=w.heap.size+1) (by omega) (by omega)
        exact bodyPost_ret (v:=.tuple #[.agg #[.slice B1 m1 d1,.int .i64 x,.int .i64 y,.slice B2 m2 d2,.bool b],.bool true]) (by simp [results,Tryz.results84,go_sem,z0,z1,z2,z3,z4,v0,v1,v2,v3,v4,hlr]) rfl ⟨_,_,L,F,rfl,HD.1,HD.2⟩
end Go.Proofs.YteaplabkemoenaaGreat
namespace Go.Proofs.YteaplabkemoenaaGreat
open Go.ChangeShapes Go.WideShapes Go.ChangeAt Go.RowKit
structure AuR (lo:Nat) (w:World) (ac nx:Value) (us:List Value) (acc:List Bool) (nxt:List (List Int)):Prop where
 acc:w.ownsRow lo 4 1 ac acc.length (acc.flatMap cB)
 nxt:NS lo w 24 3 cI 1 nx us nxt
 apart:∀ b,ac.ownBlock=some b->b ∉ blks (nx :: us)
section
variable {lo:Nat} {w w':World} {ac nx:Value} {us:List Value} {acc:List Bool} {nxt:List (List Int)}
theorem AuR.start (lo:Nat) (w:World):AuR lo w (.slice none 0 0) (.slice none 0 0) [] [] [] :=
 ⟨World.ownsRow_nil w lo _ 1,NS.start (World.ownsRow_nil w lo _ 1),by intro b hb;cases hb⟩
theorem AuR.blocks (h:AuR lo w ac nx us acc nxt) (hb:∀ b,lo<=b->b < w.heap.size->w'.heap[b]?=w.heap[b]?):AuR lo w' ac nx us acc nxt :=
 ⟨ownsRow_block h.acc fun g hg=>hb g (h.acc.lt g hg).1 (h.acc.lt g hg).2,h.nxt.blocks fun b hm=>hb b (h.nxt.lt b hm).1 (h.nxt.lt b hm).2,h.apart⟩
theorem AuR.only (h:AuR lo w ac nx us acc nxt) {l r:Nat} (ho:Only l r w w') (hr:r<=lo):AuR lo w' ac nx us acc nxt :=
 h.blocks fun b h1 h2=>ho.block b h2 (by omega)
theorem AuR.below (h:AuR lo w ac nx us acc nxt) (hb:Below w.heap.size w w'):AuR lo w' ac nx us acc nxt :=
 h.blocks fun b _ h2=>hb.block b h2
theorem AuR.pushA (h:AuR lo w ac nx us acc nxt) {b:Bool} {ac':Value} (hg:w.grownBy w' ac.ownBlock) (hr:w'.ownsRow lo 4 1 ac' (acc ++ [b]).length ((acc ++ [b]).flatMap cB)) (hat:∀ g,ac'.ownBlock=some g->ac.ownBlock=some g ∨ w.heap.size<=g) :
 AuR lo w' ac' nx us (acc ++ [b]) nxt:=by
 refine ⟨hr,h.nxt.blocks fun g hm=>hg.block g (h.nxt.lt g hm).2 fun e=>h.apart g e.symm hm,fun g hb hm=>?_⟩
 rcases hat g hb with h1 | h1
 · exact h.apart g h1 hm
 · have:=(h.nxt.lt g hm).2
   omega
theorem AuR.pushN (h:AuR lo w ac nx us acc nxt) {u nx':Value} {xs:List Int} (hu:w.ownsRow lo 3 1 u xs.length (xs.flatMap cI)) (hn:∀ b,u.ownBlock=some b->b ∉ blks (nx :: us)/\ac.ownBlock ≠ some b)
 (hg:w.grownBy w' nx.ownBlock) (hr:w'.ownsRow lo 24 1 nx' (us ++ [u]).length ((us ++ [u]).flatMap cV)) (hat:∀ g,nx'.ownBlock=some g->nx.ownBlock=some g ∨ w.heap.size<=g) :
 AuR lo w' ac nx' (us ++ [u]) acc (nxt ++ [xs]):=by
 refine ⟨ownsRow_block h.acc fun g hb=>hg.block g (h.acc.lt g hb).2 fun e=>h.apart g hb (mem_blks.2 ⟨0,nx,rfl,e.symm⟩),h.nxt.push hu (fun b hb=>(hn b hb).1) hg hr hat,fun b hb hm=>?_⟩
 obtain ⟨i,v,hi,hv⟩:=mem_blks.1 hm
 cases i with
 | zero =>
   simp only [List.getElem?_cons_zero,Option.some.injEq] at hi
   subst hi
   rcases hat b hv with h1 | h1
   · exact h.apart b hb (mem_blks.2 ⟨0,nx,rfl,h1⟩)
   · have:=(h.acc.lt b hb).2
     omega
 | succ i =>
   rw [List.getElem?_cons_succ] at hi
   rcases Nat.lt_or_ge i us.length with hl | hl
   · rw [List.getElem?_append_left hl] at hi
     exact h.apart b hb (mem_blks.2 ⟨i+1,v,by simpa using hi,hv⟩)
   · rw [List.getElem?_append_right hl] at hi
     rw [List.getElem?_singleton] at hi
     split at hi
     · injection hi with hi
       subst hi
       exact (hn b hv).2 hb
     · cases hi
theorem AuR.view (h:AuR lo w ac nx us acc nxt) (s:Int):AuV lo w.heap.size w (.agg #[.int .i64 s,ac,nx]) ⟨s,acc,nxt⟩ :=
 ⟨ac,nx,rfl,(Own.of_row h.acc rfl rfl).sl cB_len,(NSO.of h.nxt).view⟩
end
end Go.Proofs.YteaplabkemoenaaGreat
namespace Go.Proofs.YteaplabkemoenaaGreat
open Go.ChangeShapes Go.WideShapes Go.ChangeAt Go.RowKit
attribute [local go_sem] ext_cell ext_frozen ext_lt ext_lt1 ext_lt2 ext_lt3 ltn2 ltn3 ltn13 lts1 lts2 lts3
theorem litD_sl (W:World) (e:TypeId) (cs:Array Value) (xs:List Int) (n lo:Nat) (hlo:lo<=W.heap.size) (hn:n<=maxLen) (h1:xs.length=n) (h2:xs.flatMap cI=cs.toList) (h3:cs.size=n * 1) :
 SlI lo (W.alloc (.cells cs e)).heap.size (W.alloc (.cells cs e)) cI 1 (.slice (some ⟨W.heap.size,0,none⟩) n n) xs :=
 (Own.of_row (xs:=xs) (E:=cI) (World.ownsRow_lit (base:=lo) (e:=e) (size:=1) W cs n hlo hn h3) h1 h2).sl cI_len
/-- a graph under way: its two lists in the block q, the values below mid, the edges from mid on -/
structure GrR (b r q mid:Nat) (w0 wr:World) (vs es:Value) (xs:List Int) (ys:List Ed):Prop where
 res:Blk wr r 27 #[.slice none 0 0,.slice none 0 0]
 blk:Blk wr q 27 #[vs,es]
 vals:wr.ownsRow (q+1) 3 1 vs xs.length (xs.flatMap cI)
 edges:wr.ownsRow mid 110 4 es ys.length (ys.flatMap cEd)
 under:∀ g,vs.ownBlock=some g->g < mid
 cur:Cur wr b
 only:Only b (b+1) w0 wr
 size:mid<=wr.heap.size
theorem GrR.move {b r q mid:Nat} {w0 w w':World} {vs es:Value} {xs:List Int} {ys:List Ed} (h:GrR b r q mid w0 w vs es xs ys) (ho:Only b (b+1) w w') (hc:Cur w' b) (hb:b < r/\r < q/\q < mid):GrR b r q mid w0 w' vs es xs ys :=
 ⟨h.res.only ho (.inr (by omega)),h.blk.only ho (.inr (by omega)),own_only h.vals ho (by omega),own_only h.edges ho (by omega),h.under,hc,h.only.trans ho,Nat.le_trans h.size ho.size⟩
theorem GrR.below {b r q mid:Nat} {w0 w w':World} {vs es:Value} {xs:List Int} {ys:List Ed} (h:GrR b r q mid w0 w vs es xs ys) (hb:Below w.heap.size w w'):GrR b r q mid w0 w' vs es xs ys :=
 ⟨h.res.keep hb,h.blk.keep hb,ownsRow_below h.vals hb (Nat.le_refl _),ownsRow_below h.edges hb (Nat.le_refl _),h.under,h.cur.keep hb,h.only.trans (Only.of_below hb _ _),Nat.le_trans h.size hb.size⟩
theorem GrR.push {b r q mid:Nat} {w0 w w':World} {vs es es':Value} {xs:List Int} {ys:List Ed} {y:Ed} (h:GrR b r q mid w0 w vs es xs ys) (hlt:b < r/\r < q/\q < mid) (hw:w0.heap.size<=r) (hb:Below mid w w')
 (hown:w'.ownsRow mid 110 4 es' (ys ++ [y]).length ((ys ++ [y]).flatMap cEd)):GrR b r q mid w0 (w'.setCell ⟨q,1,none⟩ es') vs es' xs (ys ++ [y]):=by
 have hos:Only q (q+1) w' (w'.setCell ⟨q,1,none⟩ es'):=(Only.refl q (q+1) w').setCell (p:=⟨q,1,none⟩) (.inl ⟨Nat.le_refl _,Nat.lt_succ_self _⟩) es'
 have hv:w'.ownsRow (q+1) 3 1 vs xs.length (xs.flatMap cI):=ownsRow_block h.vals fun g hg=>hb.block g (h.under g hg)
 exact ⟨(h.res.below hb (by omega)).far (by simp only;omega) _,(h.blk.below hb (by omega)).set_ 1 _,own_only hv hos (Nat.le_refl _),own_only hown hos (by omega),h.under,(h.cur.below hb (by omega)).set (by simp only;omega) _,(h.only.andBelow hb (by omega)).setCell (.inr (by simp only;omega)) _,Nat.le_trans h.size (Nat.le_trans hb.size hos.size)⟩
theorem elEdD:ElemOk Tryz.prog 25 110 (.agg #[.int .i64 0,.int .i64 0,.int .i64 0,.int .i64 0]) 4 32:=⟨Tryz.underlying25,by kernel_rfl,rfl,by omega⟩
theorem GrR.alloc {b r q mid:Nat} {w0 w:World} {vs es:Value} {xs:List Int} {ys:List Ed} (h:GrR b r q mid w0 w vs es xs ys) (o:Obj):GrR b r q mid w0 (w.alloc o) vs es xs ys:=h.below ((Below.refl _ _).alloc (Nat.le_refl _) _)
theorem GrR.done {b r q mid:Nat} {w0 w:World} {vs es:Value} {xs:List Int} {ys:List Ed} (h:GrR b r q mid w0 w vs es xs ys) (hr:w0.heap.size=r) (hlt:b < r/\r < q/\q < mid) :
 GrO w0.heap.size ((w.setCell ⟨r,0,none⟩ vs).setCell ⟨r,1,none⟩ es).heap.size ((w.setCell ⟨r,0,none⟩ vs).setCell ⟨r,1,none⟩ es) (.agg #[vs,es]) ⟨xs,ys⟩/\Cur ((w.setCell ⟨r,0,none⟩ vs).setCell ⟨r,1,none⟩ es) b/\Only b (b+1) w0 ((w.setCell ⟨r,0,none⟩ vs).setCell ⟨r,1,none⟩ es):=by
 have ho:=Only.put2 w r vs es
 have hs:=Nat.le_trans h.size ho.size
 refine ⟨⟨vs,es,mid,rfl,⟨ownsRow_mono (own_only h.vals ho (by omega)) (by omega),h.under⟩,⟨own_only h.edges ho (by omega),fun g hg=>?_⟩,by omega,hs⟩,h.cur.only ho (by omega),(h.only.setCell (p:=⟨r,0,none⟩) (.inr (by simp only;omega)) _).setCell (p:=⟨r,1,none⟩) (.inr (by simp only;omega)) _⟩
 exact Nat.lt_of_lt_of_le (h.edges.lt g hg).2 ho.size
set_option maxHeartbeats 4000000 in
theorem l3Graph_any (b:Nat) (w:World) (hc:Cur w b) :
 Calls Tryz.prog 62 #[.pointer (some ⟨b,0,none⟩)] w fun e w'=>∃ v g,e=.returned v/\GrO w.heap.size w'.heap.size w' v g/\(2<=g.vals.length/\g.vals.length<=5/\g.edges.length<=10)/\Cur w' b/\Only b (b+1) w w':=by
 have hlt:=hc.lt
 have hb0:Below w.heap.size w ((w.alloc (.cells #[.slice none 0 0,.slice none 0 0] 27)).alloc (.cells #[.slice none 0 0,.slice none 0 0] 27)):=((Below.refl _ _).alloc (Nat.le_refl _) _).alloc (by simp) _
 have hbq:Blk ((w.alloc (.cells #[.slice none 0 0,.slice none 0 0] 27)).alloc (.cells #[.slice none 0 0,.slice none 0 0] 27)) (w.heap.size+1) 27 #[.slice none 0 0,.slice none 0 0]:=Blk.new _ _ _ _ (by simp)
 have hbr:Blk ((w.alloc (.cells #[.slice none 0 0,.slice none 0 0] 27)).alloc (.cells #[.slice none 0 0,.slice none 0 0] 27)) w.heap.size 27 #[.slice none 0 0,.slice none 0 0]:=(Blk.new w _ _ _ rfl).alloc _
 go_enter Tryz.func62,Tryz.ntmps62
 go_wp2_with fail
 generalize hW0:((w.alloc (.cells #[.slice none 0 0,.slice none 0 0] 27)).alloc (.cells #[.slice none 0 0,.slice none 0 0] 27))=W0 at hb0 hbq hbr ⊢
 have hs0:W0.heap.size=w.heap.size+1+1:=by rw [<- hW0];simp
 have hbl:=(Below.refl W0.heap.size W0).alloc (Nat.le_refl _) (.cells #[.int .i64 2,.int .i64 3,.int .i64 4,.int .i64 4,.int .i64 5] 3)
 have hsl:=litD_sl W0 3 #[.int .i64 2,.int .i64 3,.int .i64 4,.int .i64 4,.int .i64 5] [2,3,4,4,5] 5 (b+1) (by omega) (by decide) rfl rfl rfl
 rw [hs0] at hsl
 refine (l1PickInt_any b _ [2,3,4,4,5] _ (hc.keep (below_trans hb0 hbl)) (by decide) hsl).mono ?_
 rintro e w1 ⟨r,rfl,hr,hc1,ho1⟩
 obtain ⟨r,rfl⟩:∃ n:Nat,r=(n:Int):=⟨r.toNat,by simp only [List.mem_cons,List.not_mem_nil,or_false] at hr;omega⟩
 have hr25:2<=r/\r<=5:=by simp only [List.mem_cons,List.not_mem_nil,or_false] at hr;omega
 have ho2:=(Only.of_below (below_trans hb0 hbl) b (b+1)).trans ho1
 have hbq1:=(hbq.keep hbl).only ho1 (.inr (by omega))
 have hbr1:=(hbr.keep hbl).only ho1 (.inr (by omega))
 clear hr hsl hbl hb0 hbq hbr hW0 ho1
 have hs1:w.heap.size+1 < w1.heap.size:=hbq1.lt
 go_wp2_with fail
 go_loopw [4] (fun nn wr=>∃ (n:Nat) (vs:Value) (xs:List Int),nn=.int .i64 (n:Int)/\xs.length+n=r/\Blk wr w.heap.size 27 #[.slice none 0 0,.slice none 0 0]/\Blk wr (w.heap.size+1) 27 #[vs,.slice none 0 0]/\wr.ownsRow (w.heap.size+1+1) 3 1 vs xs.length (xs.flatMap cI)/\Cur wr b/\Only b (b+1) w wr) (fun nn _=>(intOf nn).toNat)
 case atStart=>exact ⟨r,.slice none 0 0,[],rfl,by simp,hbr1,hbq1,World.ownsRow_nil _ _ _ 1,hc1,ho2⟩
 case round =>
  obtain ⟨n,vs,xs,rfl,hn,hres,hblk,hown,hcur,hon⟩:=hrel
  have HBLK:=Hd_ hblk
  have HRES:=Hd_ hres
  have HOWN:=Hd_ hown
  have HCUR:=Hd_ hcur
  have HON:=Hd_ hon
  have hlw:=hblk.lt
  have x0:wr.cell? ⟨w.heap.size+1,0,none⟩=some vs:=hblk.cell 0
  have y0:=hblk.frozen 0
  clear hblk hres hown hcur hon hbq1 hbr1 ho2 hc1
  rcases Nat.eq_zero_or_pos n with rfl | h0
  · obtain ⟨wm,rfl⟩:∃ wm:World,wm=wr:=⟨_,rfl⟩
    have hbl:=(Below.refl wm.heap.size wm).alloc (Nat.le_refl _) (.cells #[.int .i64 4,.int .i64 8,.int .i64 11] 3)
    have HSL:=Hd_ (litD_sl wm 3 #[.int .i64 4,.int .i64 8,.int .i64 11] [4,8,11] 3 (b+1) (by omega) (by decide) rfl rfl rfl)
    go_wp2_with fail
    refine (l1PickInt_any b _ [4,8,11] _ (HCUR.out.keep hbl) (by decide) HSL.out).mono ?_
    rintro e w2 ⟨m,rfl,hm,hc2,ho2⟩
    have hm11:4<=m/\m<=11:=by simp only [List.mem_cons,List.not_mem_nil,or_false] at hm;omega
    have ho2:=(Only.of_below hbl b (b+1)).trans ho2
    clear hm hbl
    go_wp2_with fail
    refine (l1Below_any b m _ hc2).mono ?_
    rintro e w3 ⟨z,rfl,⟨hz0,-,hz1⟩,hc3,ho3⟩
    have hz1:=hz1 (by omega)
    obtain ⟨z,rfl⟩:=Int.eq_ofNat_of_zero_le hz0
    have ho3:=ho2.trans ho3
    have HG0:=Hd_ (show GrR b w.heap.size (w.heap.size+1) wm.heap.size w w3 vs (.slice none 0 0) xs [] from ⟨HRES.out.only ho3 (.inr (by omega)),HBLK.out.only ho3 (.inr (by omega)),own_only HOWN.out ho3 (by omega),World.ownsRow_nil _ _ _ 4,fun g hg=>(HOWN.out.lt g hg).2,hc3,HON.out.trans ho3,ho3.size⟩)
    clear x0 y0 hc2 hc3 ho2 ho3 HBLK HRES HOWN HCUR HON HSL
    go_wp2_with fail
    go_loopw [5,6] (fun dd nn wr=>∃ (n:Nat) (d:Int) (es:Value) (ys:List Ed),dd=.int .i64 d/\nn=.int .i64 (n:Int)/\ys.length+n=z/\GrR b w.heap.size (w.heap.size+1) wm.heap.size w wr vs es xs ys) (fun _ nn _=>(intOf nn).toNat)
    case atStart=>exact ⟨z,0,_,[],rfl,rfl,by simp,HG0.out⟩
    case round =>
     obtain ⟨n,d,es,ys,rfl,rfl,hn2,hG⟩:=hrel
     have HG:=Hd_ hG
     clear hG HG0
     have hl2:=HG.out.blk.lt
     have x0:wr.cell? ⟨w.heap.size+1,0,none⟩=some vs:=HG.out.blk.cell 0
     have x1:wr.cell? ⟨w.heap.size+1,1,none⟩=some es:=HG.out.blk.cell 1
     have y0:=HG.out.blk.frozen 0
     have y1:=HG.out.blk.frozen 1
     obtain ⟨A1,n1,c1,rfl⟩:=rowShape HG.out.vals
     obtain ⟨A2,n2,c2,rfl⟩:=rowShape HG.out.edges
     have hsz:=HG.out.size
     rcases Nat.eq_zero_or_pos n with rfl | h0
     · have z0:wr.cell? ⟨w.heap.size,0,none⟩=some (.slice none 0 0):=HG.out.res.cell 0
       have z1:wr.cell? ⟨w.heap.size,1,none⟩=some (.slice none 0 0):=HG.out.res.cell 1
       have v0:=HG.out.res.frozen 0
       have v1:=HG.out.res.frozen 1
       have hl0:=HG.out.res.lt
       go_wp2_with fail
       have HD:=HG.out.done rfl (by omega)
       refine bodyPost_ret (v:=.agg #[.slice A1 n1 c1,.slice A2 n2 c2]) (by simp [results,Tryz.results62,go_sem,z0,z1,v0,v1]) rfl ⟨_,⟨xs,ys⟩,rfl,HD.1,⟨by simp only;omega,by simp only;omega,by simp only;omega⟩,HD.2.1,HD.2.2⟩
     · have hni:0 < (n:Int):=by omega
       go_wp2_with fail
       refine (l1Below_any b 3 _ HG.out.cur).mono ?_
       rintro e w4 ⟨t,rfl,⟨ht0,ht1,-⟩,hc4,ho4⟩
       have x0:=ho4.kc (by simp only;omega) x0
       have x1:=ho4.kc (by simp only;omega) x1
       go_wp2_with fail
       have HG4:=Hd_ (HG.out.move ho4 hc4 (by omega))
       have hlo4:=HG4.out.blk.lt
       clear ho4 hc4 hl2 y0 y1
       generalize wrap64 (wrap64 (d+1)+t)=d2
       refine F_start 20 (fun w'=>w'.cell? ⟨w.heap.size+1,0,none⟩=some (.slice A1 n1 c1)/\w'.cell? ⟨w.heap.size+1,1,none⟩=some (.slice A2 n2 c2)) (by kernel_rfl) (by exact ⟨x0,x1⟩) (fun hS inv=>?_)
       refine F_tk 0 inv ?_
       try simp only [tA,tB,tC,Act.put,tE,tF,tG]
       clear inv;intro inv
       refine F_tk 1 inv ?_
       try simp only [tA,tB,tC,Act.put,tE,tF,tG]
       clear inv;intro inv
       refine F_tk 2 inv ?_
       try simp only [tA,tB,tC,Act.put,tE,tF,tG]
       clear inv;intro inv
       refine F_tk 3 inv ?_
       try simp only [tA,tB,tC,Act.put,tE,tF,tG]
       clear inv;intro inv
       refine F_tk 4 inv ?_
       try simp only [tA,tB,tC,Act.put,tE,tF,tG]
       clear inv;intro inv
       refine F_tk 5 inv ?_
       try simp only [tA,tB,tC,Act.put,tE,tF,tG]
       clear inv;intro inv
       refine F_tk 6 inv ?_
       try simp only [tA,tB,tC,Act.put,tE,tF,tG]
       clear inv;intro inv
       refine F_tk 8 inv ?_
       try simp only [tA,tB,tC,Act.put,tE,tF,tG]
       clear inv;intro inv
       refine F_tk 9 inv ?_
       try simp only [tA,tB,tC,Act.put,tE,tF,tG]
       clear inv;intro inv
       refine F_tk 10 inv ?_
       try simp only [tA,tB,tC,Act.put,tE,tF,tG]
       clear inv;intro inv
       refine F_tk 11 inv ?_
       try simp only [tA,tB,tC,Act.put,tE,tF,tG]
       clear inv;intro inv
       refine F_tk 13 inv ?_
       try simp only [tA,tB,tC,Act.put,tE,tF,tG]
       clear inv;intro inv
       refine F_two (i:=7) (j:=14) (by kernel_rfl) rfl rfl rfl rfl (by omega) inv (fun K hK=>?_) (fun K hK=>?_)
       all_goals (try simp only [tA,tB,tC])
       · go_simp
         refine (l1Below_any b _ _ (HG4.out.cur.keep (Below.refl _ _).drew)).mono ?_
         rintro e w5 ⟨f,rfl,-,hc5,ho5⟩
         have HG5:=Hd_ (HG4.out.move ((Only.of_below (Below.refl _ _).drew b (b+1)).trans ho5) hc5 (by omega))
         refine hK.out _ _ (⟨HG5.out.blk.cell 0,HG5.out.blk.cell 1⟩) (fun _ _=>?_)
         try simp only [tA,tB,tC,Act.put,tE,tF,tG]
         clear hK K inv hS;rename_i hS inv
         clear ho5 hc5
         refine F_two (i:=12) (j:=14) (by kernel_rfl) rfl rfl rfl rfl (by omega) inv (fun K hK=>?_) (fun K hK=>?_)
         all_goals (try simp only [tA,tB,tC])
         · go_simp
           refine (l1Below_any b _ _ HG5.out.cur).mono ?_
           rintro e w6 ⟨h,rfl,-,hc6,ho6⟩
           have HG6:=Hd_ (HG5.out.move ho6 hc6 (by omega))
           refine hK.out _ _ (⟨HG6.out.blk.cell 0,HG6.out.blk.cell 1⟩) (fun _ _=>?_)
           try simp only [tA,tB,tC,Act.put,tE,tF,tG]
           clear hK K inv hS;rename_i hS inv
           clear ho6 hc6
           refine F_o1 14 inv ?_;intro K hK
           try simp only [tA,tB,tC]
           go_simp
           have HG7:=Hd_ (HG6.out.alloc (.cells #[.int .i64 0,.int .i64 0,.int .i64 1,.int .i64 2] 3))
           have HL7:=Hd_ (litD_sl w6 3 #[.int .i64 0,.int .i64 0,.int .i64 1,.int .i64 2] [0,0,1,2] 4 (b+1) (Nat.le_trans (by omega) HG6.out.size) (by decide) rfl rfl rfl)
           refine hK.out _ _ (⟨HG7.out.blk.cell 0,HG7.out.blk.cell 1⟩) (fun _ _=>?_)
           try simp only [tA,tB,tC,Act.put,tE,tF,tG]
           clear hK K inv hS;rename_i hS inv
           refine F_o1 15 inv ?_;intro K hK
           try simp only [tA,tB,tC]
           go_simp
           refine (l1PickInt_any b _ [0,0,1,2] _ HG7.out.cur (by decide) HL7.out).mono ?_
           rintro e w8 ⟨l,rfl,-,hc8,ho8⟩
           have HG8:=Hd_ (HG7.out.move ho8 hc8 (by omega))
           refine hK.out _ _ (⟨HG8.out.blk.cell 0,HG8.out.blk.cell 1⟩) (fun _ _=>?_)
           try simp only [tA,tB,tC,Act.put,tE,tF,tG]
           clear hK K inv hS;rename_i hS inv
           clear ho8 hc8 HG7 HL7
           refine F_tk 16 inv ?_
           try simp only [tA,tB,tC,Act.put,tE,tF,tG]
           clear inv;intro inv
           refine F_o1 17 inv ?_;intro K hK
           try simp only [tA,tB,tC]
           go_simp
           refine hK.out _ _ ((kB2 ((Below.refl _ _).alloc (Nat.le_refl _) _) hS)) (fun _ _=>?_)
           try simp only [tA,tB,tC,Act.put,tE,tF,tG]
           clear hK K inv hS;rename_i hS inv
           refine F_o1 18 inv ?_;intro K hK
           try simp only [tA,tB,tC]
           refine op_append1 cEd elEdD rfl _ _ (by rfl) wm.heap.size _ ys (d2,f,h,l) 1 _ (by rfl) (HG8.out.edges.alloc _) (by first | rfl | simp) (heap_alloc_new _ _) rfl (cEd_one _) (by omega) (by omega) (Nat.le_trans HG8.out.size (by simp)) ?_
           intro g2 cp2 w9 hown3 hgr3 hat3 hlt3
           have hbT:=((Below.refl wm.heap.size w8).alloc HG8.out.size (.cells #[.int .i64 d2,.int .i64 f,.int .i64 h,.int .i64 l] 110)).trans (own_below (HG8.out.edges.alloc (.cells #[.int .i64 d2,.int .i64 f,.int .i64 h,.int .i64 l] 110)) (Nat.le_trans HG8.out.size (by simp)) hgr3)
           have HB9:=Hd_ (HG8.out.blk.below hbT hlw)
           have HG9:=Hd_ (HG8.out.push (by omega) (by omega) hbT hown3)
           have z1:=HB9.out.frozen 1
           have zl:=HB9.out.lt
           clear hbT hown3 hgr3 hat3 hlt3
           refine hK.out _ _ (⟨HB9.out.cell 0,HB9.out.cell 1⟩) (fun _ _=>?_)
           try simp only [tA,tB,tC,Act.put,tE,tF,tG]
           clear hK K inv hS;rename_i hS inv
           refine F_tk 19 inv ?_
           try simp only [tA,tB,tC,Act.put,tE,tF,tG]
           clear inv;intro inv
           refine F_l1 20 ?_;intro K hK
           go_simp
           refine hK _ _ ?_
           clear hK K inv hS
           clear z1 zl x0 x1
           generalize w9.setCell ⟨w.heap.size+1,1,none⟩ (.slice (some ⟨g2,0,none⟩) (ys.length+1) cp2)=w10 at *
           go_wp2_with fail
           go_roundw
           case rel =>
            refine ⟨n - 1,d2,_,ys ++ [(d2,f,h,l)],rfl,?_,by simp;omega,HG9.out⟩
            congr 1;omega
           case measure=>simp [intOf];omega
         · go_simp
           have HG6:=Hd_ (HG5.out.alloc (.cells #[.int .i64 0,.int .i64 0,.int .i64 1,.int .i64 2] 3))
           have HL6:=Hd_ (litD_sl w5 3 #[.int .i64 0,.int .i64 0,.int .i64 1,.int .i64 2] [0,0,1,2] 4 (b+1) (Nat.le_trans (by omega) HG5.out.size) (by decide) rfl rfl rfl)
           refine hK.out _ _ (⟨HG6.out.blk.cell 0,HG6.out.blk.cell 1⟩) (fun _ _=>?_)
           try simp only [tA,tB,tC,Act.put,tE,tF,tG]
           clear hK K inv hS;rename_i hS inv
           refine F_o1 12 inv ?_;intro K hK
           try simp only [tA,tB,tC]
           go_simp
           refine (l1Below_any b _ _ HG6.out.cur).mono ?_
           rintro e w7 ⟨h,rfl,-,hc7,ho7⟩
           have HG7:=Hd_ (HG6.out.move ho7 hc7 (by omega))
           have HL7:=Hd_ ((HL6.out.only ho7 (Nat.le_refl _) (.inr (Nat.le_refl _))).mono (Nat.le_refl _) ho7.size)
           refine hK.out _ _ (⟨HG7.out.blk.cell 0,HG7.out.blk.cell 1⟩) (fun _ _=>?_)
           try simp only [tA,tB,tC,Act.put,tE,tF,tG]
           clear hK K inv hS;rename_i hS inv
           clear ho7 hc7
           refine F_o1 15 inv ?_;intro K hK
           try simp only [tA,tB,tC]
           go_simp
           refine (l1PickInt_any b _ [0,0,1,2] _ HG7.out.cur (by decide) HL7.out).mono ?_
           rintro e w8 ⟨l,rfl,-,hc8,ho8⟩
           have HG8:=Hd_ (HG7.out.move ho8 hc8 (by omega))
           refine hK.out _ _ (⟨HG8.out.blk.cell 0,HG8.out.blk.cell 1⟩) (fun _ _=>?_)
           try simp only [tA,tB,tC,Act.put,tE,tF,tG]
           clear hK K inv hS;rename_i hS inv
           clear ho8 hc8 HG7 HL7
           refine F_tk 16 inv ?_
           try simp only [tA,tB,tC,Act.put,tE,tF,tG]
           clear inv;intro inv
           refine F_o1 17 inv ?_;intro K hK
           try simp only [tA,tB,tC]
           go_simp
           refine hK.out _ _ ((kB2 ((Below.refl _ _).alloc (Nat.le_refl _) _) hS)) (fun _ _=>?_)
           try simp only [tA,tB,tC,Act.put,tE,tF,tG]
           clear hK K inv hS;rename_i hS inv
           refine F_o1 18 inv ?_;intro K hK
           try simp only [tA,tB,tC]
           refine op_append1 cEd elEdD rfl _ _ (by rfl) wm.heap.size _ ys (d2,f,h,l) 1 _ (by rfl) (HG8.out.edges.alloc _) (by first | rfl | simp) (heap_alloc_new _ _) rfl (cEd_one _) (by omega) (by omega) (Nat.le_trans HG8.out.size (by simp)) ?_
           intro g2 cp2 w9 hown3 hgr3 hat3 hlt3
           have hbT:=((Below.refl wm.heap.size w8).alloc HG8.out.size (.cells #[.int .i64 d2,.int .i64 f,.int .i64 h,.int .i64 l] 110)).trans (own_below (HG8.out.edges.alloc (.cells #[.int .i64 d2,.int .i64 f,.int .i64 h,.int .i64 l] 110)) (Nat.le_trans HG8.out.size (by simp)) hgr3)
           have HB9:=Hd_ (HG8.out.blk.below hbT hlw)
           have HG9:=Hd_ (HG8.out.push (by omega) (by omega) hbT hown3)
           have z1:=HB9.out.frozen 1
           have zl:=HB9.out.lt
           clear hbT hown3 hgr3 hat3 hlt3
           refine hK.out _ _ (⟨HB9.out.cell 0,HB9.out.cell 1⟩) (fun _ _=>?_)
           try simp only [tA,tB,tC,Act.put,tE,tF,tG]
           clear hK K inv hS;rename_i hS inv
           refine F_tk 19 inv ?_
           try simp only [tA,tB,tC,Act.put,tE,tF,tG]
           clear inv;intro inv
           refine F_l1 20 ?_;intro K hK
           go_simp
           refine hK _ _ ?_
           clear hK K inv hS
           clear z1 zl x0 x1
           generalize w9.setCell ⟨w.heap.size+1,1,none⟩ (.slice (some ⟨g2,0,none⟩) (ys.length+1) cp2)=w10 at *
           go_wp2_with fail
           go_roundw
           case rel =>
            refine ⟨n - 1,d2,_,ys ++ [(d2,f,h,l)],rfl,?_,by simp;omega,HG9.out⟩
            congr 1;omega
           case measure=>simp [intOf];omega
       · go_simp
         have HG5:=Hd_ (show GrR b w.heap.size (w.heap.size+1) wm.heap.size w (w4.alloc (.cells #[.int .i64 0,.int .i64 0,.int .i64 1,.int .i64 2] 3)).drew _ _ _ _ from HG4.out.below ((Below.refl _ _).alloc (Nat.le_refl _) _).drew)
         have HL5:=Hd_ (show SlI (b+1) (w4.alloc (.cells #[.int .i64 0,.int .i64 0,.int .i64 1,.int .i64 2] 3)).drew.heap.size (w4.alloc (.cells #[.int .i64 0,.int .i64 0,.int .i64 1,.int .i64 2] 3)).drew cI 1 _ _ from litD_sl w4 3 #[.int .i64 0,.int .i64 0,.int .i64 1,.int .i64 2] [0,0,1,2] 4 (b+1) (Nat.le_trans (by omega) HG4.out.size) (by decide) rfl rfl rfl)
         refine hK.out _ _ (⟨HG5.out.blk.cell 0,HG5.out.blk.cell 1⟩) (fun _ _=>?_)
         try simp only [tA,tB,tC,Act.put,tE,tF,tG]
         clear hK K inv hS;rename_i hS inv
         refine F_o1 7 inv ?_;intro K hK
         try simp only [tA,tB,tC]
         go_simp
         refine (l1Below_any b _ _ HG5.out.cur).mono ?_
         rintro e w6 ⟨f,rfl,-,hc6,ho6⟩
         have HG6:=Hd_ (HG5.out.move ho6 hc6 (by omega))
         have HL6:=Hd_ ((HL5.out.only ho6 (Nat.le_refl _) (.inr (Nat.le_refl _))).mono (Nat.le_refl _) ho6.size)
         refine hK.out _ _ (⟨HG6.out.blk.cell 0,HG6.out.blk.cell 1⟩) (fun _ _=>?_)
         try simp only [tA,tB,tC,Act.put,tE,tF,tG]
         clear hK K inv hS;rename_i hS inv
         clear ho6 hc6
         refine F_o1 12 inv ?_;intro K hK
         try simp only [tA,tB,tC]
         go_simp
         refine (l1Below_any b _ _ HG6.out.cur).mono ?_
         rintro e w7 ⟨h,rfl,-,hc7,ho7⟩
         have HG7:=Hd_ (HG6.out.move ho7 hc7 (by omega))
         have HL7:=Hd_ ((HL6.out.only ho7 (Nat.le_refl _) (.inr (Nat.le_refl _))).mono (Nat.le_refl _) ho7.size)
         refine hK.out _ _ (⟨HG7.out.blk.cell 0,HG7.out.blk.cell 1⟩) (fun _ _=>?_)
         try simp only [tA,tB,tC,Act.put,tE,tF,tG]
         clear hK K inv hS;rename_i hS inv
         clear ho7 hc7
         refine F_o1 15 inv ?_;intro K hK
         try simp only [tA,tB,tC]
         go_simp
         refine (l1PickInt_any b _ [0,0,1,2] _ HG7.out.cur (by decide) HL7.out).mono ?_
         rintro e w8 ⟨l,rfl,-,hc8,ho8⟩
         have HG8:=Hd_ (HG7.out.move ho8 hc8 (by omega))
         refine hK.out _ _ (⟨HG8.out.blk.cell 0,HG8.out.blk.cell 1⟩) (fun _ _=>?_)
         try simp only [tA,tB,tC,Act.put,tE,tF,tG]
         clear hK K inv hS;rename_i hS inv
         clear ho8 hc8 HG7 HL7
         refine F_tk 16 inv ?_
         try simp only [tA,tB,tC,Act.put,tE,tF,tG]
         clear inv;intro inv
         refine F_o1 17 inv ?_;intro K hK
         try simp only [tA,tB,tC]
         go_simp
         refine hK.out _ _ ((kB2 ((Below.refl _ _).alloc (Nat.le_refl _) _) hS)) (fun _ _=>?_)
         try simp only [tA,tB,tC,Act.put,tE,tF,tG]
         clear hK K inv hS;rename_i hS inv
         refine F_o1 18 inv ?_;intro K hK
         try simp only [tA,tB,tC]
         refine op_append1 cEd elEdD rfl _ _ (by rfl) wm.heap.size _ ys (d2,f,h,l) 1 _ (by rfl) (HG8.out.edges.alloc _) (by first | rfl | simp) (heap_alloc_new _ _) rfl (cEd_one _) (by omega) (by omega) (Nat.le_trans HG8.out.size (by simp)) ?_
         intro g2 cp2 w9 hown3 hgr3 hat3 hlt3
         have hbT:=((Below.refl wm.heap.size w8).alloc HG8.out.size (.cells #[.int .i64 d2,.int .i64 f,.int .i64 h,.int .i64 l] 110)).trans (own_below (HG8.out.edges.alloc (.cells #[.int .i64 d2,.int .i64 f,.int .i64 h,.int .i64 l] 110)) (Nat.le_trans HG8.out.size (by simp)) hgr3)
         have HB9:=Hd_ (HG8.out.blk.below hbT hlw)
         have HG9:=Hd_ (HG8.out.push (by omega) (by omega) hbT hown3)
         have z1:=HB9.out.frozen 1
         have zl:=HB9.out.lt
         clear hbT hown3 hgr3 hat3 hlt3
         refine hK.out _ _ (⟨HB9.out.cell 0,HB9.out.cell 1⟩) (fun _ _=>?_)
         try simp only [tA,tB,tC,Act.put,tE,tF,tG]
         clear hK K inv hS;rename_i hS inv
         refine F_tk 19 inv ?_
         try simp only [tA,tB,tC,Act.put,tE,tF,tG]
         clear inv;intro inv
         refine F_l1 20 ?_;intro K hK
         go_simp
         refine hK _ _ ?_
         clear hK K inv hS
         clear z1 zl x0 x1
         generalize w9.setCell ⟨w.heap.size+1,1,none⟩ (.slice (some ⟨g2,0,none⟩) (ys.length+1) cp2)=w10 at *
         go_wp2_with fail
         go_roundw
         case rel =>
          refine ⟨n - 1,d2,_,ys ++ [(d2,f,h,l)],rfl,?_,by simp;omega,HG9.out⟩
          congr 1;omega
         case measure=>simp [intOf];omega
  · have hni:0 < (n:Int):=by omega
    go_wp2_with fail
    refine F_start 7 (fun w'=>w'.cell? ⟨w.heap.size+1,0,none⟩=some (vs)) (by kernel_rfl) (by exact x0) (fun hS inv=>?_)
    refine F_tk 0 inv ?_
    try simp only [tA,tB,tC,Act.put,tE,tF,tG]
    clear inv;intro inv
    refine F_tk 1 inv ?_
    try simp only [tA,tB,tC,Act.put,tE,tF,tG]
    clear inv;intro inv
    refine F_tk 2 inv ?_
    try simp only [tA,tB,tC,Act.put,tE,tF,tG]
    clear inv;intro inv
    refine F_o1 3 inv ?_;intro K hK
    try simp only [tA,tB,tC]
    go_simp
    refine (l1Below_any b 3 _ (HCUR.out.keep (Below.refl _ _).drew)).mono ?_
    rintro e w2 ⟨y,rfl,-,hc2,ho2⟩
    have HR2:=Hd_ ((HRES.out.drew).only ho2 (.inr (by omega)))
    have HB2:=Hd_ ((HBLK.out.drew).only ho2 (.inr (by omega)))
    have HO2:=Hd_ (own_only HOWN.out ((Only.of_below (Below.refl _ _).drew b (b+1)).trans ho2) (by omega))
    have HN2:=Hd_ (HON.out.trans (Only.trans (Only.of_below (Below.refl _ _).drew b (b+1)) ho2))
    have hs2:=HB2.out.lt
    refine hK.out _ _ ((ho2.kc (by simp only;omega) hS)) (fun _ _=>?_)
    try simp only [tA,tB,tC,Act.put,tE,tF,tG]
    clear hK K inv hS;rename_i hS inv
    refine F_o1 4 inv ?_;intro K hK
    try simp only [tA,tB,tC]
    go_simp
    refine hK.out _ _ ((kcell ((Below.refl _ _).alloc (Nat.le_refl _) _) hS)) (fun _ _=>?_)
    try simp only [tA,tB,tC,Act.put,tE,tF,tG]
    clear hK K inv hS;rename_i hS inv
    refine F_o1 5 inv ?_;intro K hK
    try simp only [tA,tB,tC]
    refine op_append1 cI elInt rfl _ _ (by rfl) (w.heap.size+1+1) vs xs y 1 _ (by rfl) (HO2.out.alloc _) (by first | rfl | simp) (heap_alloc_new _ _) rfl (cI_one _) (by omega) (by omega) (by simp;omega) ?_
    intro g2 cp2 w3 hown3 hgr3 hat3 hlt3
    have hbT:=((Below.refl (w.heap.size+1+1) w2).alloc (by omega) (.cells #[.int .i64 y] 3)).trans (own_below (HO2.out.alloc (.cells #[.int .i64 y] 3)) (by simp;omega) hgr3)
    have HR3:=Hd_ (HR2.out.below hbT (by omega))
    have HB3:=Hd_ (HB2.out.below hbT (by omega))
    have HC3:=Hd_ (hc2.below hbT (by omega))
    have HN3:=Hd_ (HN2.out.andBelow hbT (by omega))
    have HO3:=Hd_ hown3
    have x0:w3.cell? ⟨w.heap.size+1,0,none⟩=some vs:=HB3.out.cell 0
    have y0:=HB3.out.frozen 0
    have hl3:=HB3.out.lt
    clear hbT hown3 hgr3 hat3 ho2 hc2 hs2
    refine hK.out _ _ (x0) (fun _ _=>?_)
    try simp only [tA,tB,tC,Act.put,tE,tF,tG]
    clear hK K inv hS;rename_i hS inv
    refine F_tk 6 inv ?_
    try simp only [tA,tB,tC,Act.put,tE,tF,tG]
    clear inv;intro inv
    refine F_l1 7 ?_;intro K hK
    go_simp
    refine hK _ _ ?_
    clear hK K inv hS
    clear x0 y0
    have HOS:=Hd_ ((Only.refl (w.heap.size+1) (w.heap.size+1+1) w3).setCell (p:=⟨w.heap.size+1,0,none⟩) (.inl ⟨Nat.le_refl _,Nat.lt_succ_self _⟩) (.slice (some ⟨g2,0,none⟩) (xs.length+1) cp2))
    go_wp2_with fail
    go_roundw
    case rel =>
     refine ⟨n - 1,_,xs ++ [y],?_,by simp;omega,HR3.out.far (by simp only;omega) _,HB3.out.set_ 0 _,own_only HO3.out HOS.out (Nat.le_refl _),HC3.out.set (by simp only;omega) _,HN3.out.setCell (.inr (by simp only;omega)) _⟩
     congr 1;omega
    case measure=>simp [intOf];omega
theorem ownSh {lo k n:Nat} {e:TypeId} {v:Value} {cs:List Value} {w:World} (h:w.ownsRow lo e k v n cs):∃ A c,v=.slice A n c/\n<=c/\c<=9223372036854775807/\(0 < n->∃ q,A=some ⟨q,0,none⟩):=by
 obtain ⟨_,hs⟩:=h
 rcases hs with ⟨rfl,rfl⟩ | ⟨g,cap,cur,rfl,_,_,h1,h2,_⟩
 · exact ⟨none,0,rfl,Nat.le_refl _,by omega,fun h=>absurd h (Nat.lt_irrefl _)⟩
 · exact ⟨_,_,rfl,h1,by simpa [maxLen] using h2,fun _=>⟨g,rfl⟩⟩
theorem AuR.mono {lo lo':Nat} {w:World} {ac nx:Value} {us:List Value} {acc:List Bool} {nxt:List (List Int)} (h:AuR lo w ac nx us acc nxt) (hl:lo'<=lo):AuR lo' w ac nx us acc nxt :=
 ⟨ownsRow_mono h.acc hl,⟨ownsRow_mono h.nxt.own hl,h.nxt.len,fun i u xs h1 h2=>ownsRow_mono (h.nxt.rows i u xs h1 h2) hl,h.nxt.dis⟩,h.apart⟩
/-- an automaton under way in the block q; the result's block r; all else but the blocks from l to h is as it was -/
structure AsR (l h r q:Nat) (w0 w:World) (st:Int) (ac nx:Value) (us:List Value) (acc:List Bool) (nxt:List (List Int)):Prop where
 res:Blk w r 31 #[.int .i64 0,.slice none 0 0,.slice none 0 0]
 blk:Blk w q 31 #[.int .i64 st,ac,nx]
 au:AuR (q+1) w ac nx us acc nxt
 frm:Only l h w0 w
 ord:h<=w0.heap.size/\w0.heap.size<=r/\r < q
section
variable {l h r q:Nat} {w0 w w':World} {st:Int} {ac nx:Value} {us:List Value} {acc:List Bool} {nxt:List (List Int)}
theorem AsR.step (a:AsR l h r q w0 w st ac nx us acc nxt) (ho:Only l h w w'):AsR l h r q w0 w' st ac nx us acc nxt:=by
 have hd:=a.ord
 exact ⟨a.res.only ho (.inr (by omega)),a.blk.only ho (.inr (by omega)),a.au.only ho (by omega),a.frm.trans ho,hd⟩
theorem AsR.below (a:AsR l h r q w0 w st ac nx us acc nxt) (hb:Below w.heap.size w w'):AsR l h r q w0 w' st ac nx us acc nxt:=a.step (Only.of_below hb _ _)
theorem AsR.pushA {g n c:Nat} {x:Bool} (a:AsR l h r q w0 w st ac nx us acc nxt) (hr:w'.ownsRow (q+1) 4 1 (.slice (some ⟨g,0,none⟩) n c) (acc ++ [x]).length ((acc ++ [x]).flatMap cB)) (hg:w.grownBy w' ac.ownBlock) (hat:ac.ownBlock=some g ∨ w.heap.size<=g) :
 Blk w' q 31 #[.int .i64 st,ac,nx]/\AsR l h r q w0 (w'.setCell ⟨q,1,none⟩ (.slice (some ⟨g,0,none⟩) n c)) st (.slice (some ⟨g,0,none⟩) n c) nx us (acc ++ [x]) nxt:=by
 have hd:=a.ord
 have hb:=own_below a.au.acc (by have:=a.blk.lt;omega) hg
 have hbq:=a.blk.below hb (by omega)
 have ho:=(Only.refl q (q+1) w').setCell (p:=⟨q,1,none⟩) (.inl ⟨Nat.le_refl _,Nat.lt_succ_self _⟩) (.slice (some ⟨g,0,none⟩) n c)
 have hau:=(a.au.pushA hg hr (fun k hk=>by cases hk;exact hat)).only ho (Nat.le_refl _)
 have hs:=a.frm.size
 exact ⟨hbq,(a.res.below hb (by omega)).far (by simp only;omega) _,hbq.set_ 1 _,hau,(a.frm.andBelow hb (by omega)).setCell (p:=⟨q,1,none⟩) (.inr (by simp only;omega)) _,hd⟩
theorem AsR.pushN {g n c:Nat} {u:Value} {xs:List Int} (a:AsR l h r q w0 w st ac nx us acc nxt) (hu:w.ownsRow (q+1) 3 1 u xs.length (xs.flatMap cI)) (hn:∀ b,u.ownBlock=some b->b ∉ blks (nx :: us)/\ac.ownBlock ≠ some b)
 (hr:w'.ownsRow (q+1) 24 1 (.slice (some ⟨g,0,none⟩) n c) (us ++ [u]).length ((us ++ [u]).flatMap cV)) (hg:w.grownBy w' nx.ownBlock) (hat:nx.ownBlock=some g ∨ w.heap.size<=g) :
 Blk w' q 31 #[.int .i64 st,ac,nx]/\AsR l h r q w0 (w'.setCell ⟨q,2,none⟩ (.slice (some ⟨g,0,none⟩) n c)) st ac (.slice (some ⟨g,0,none⟩) n c) (us ++ [u]) acc (nxt ++ [xs]):=by
 have hd:=a.ord
 have hb:=own_below a.au.nxt.own (by have:=a.blk.lt;omega) hg
 have hbq:=a.blk.below hb (by omega)
 have ho:=(Only.refl q (q+1) w').setCell (p:=⟨q,2,none⟩) (.inl ⟨Nat.le_refl _,Nat.lt_succ_self _⟩) (.slice (some ⟨g,0,none⟩) n c)
 have hau:=(a.au.pushN hu hn hg hr (fun k hk=>by cases hk;exact hat)).only ho (Nat.le_refl _)
 have hs:=a.frm.size
 exact ⟨hbq,(a.res.below hb (by omega)).far (by simp only;omega) _,hbq.set_ 2 _,hau,(a.frm.andBelow hb (by omega)).setCell (p:=⟨q,2,none⟩) (.inr (by simp only;omega)) _,hd⟩
def put3 (w:World) (r:Nat) (a b c:Value):World:=((w.setCell ⟨r,0,none⟩ a).setCell ⟨r,1,none⟩ b).setCell ⟨r,2,none⟩ c
theorem put3_only (w:World) (r:Nat) (a b c:Value):Only r (r+1) w (put3 w r a b c) :=
 (((Only.refl r (r+1) w).setCell (p:=⟨r,0,none⟩) (.inl ⟨Nat.le_refl _,Nat.lt_succ_self _⟩) a).setCell (p:=⟨r,1,none⟩) (.inl ⟨Nat.le_refl _,Nat.lt_succ_self _⟩) b).setCell (p:=⟨r,2,none⟩) (.inl ⟨Nat.le_refl _,Nat.lt_succ_self _⟩) c
theorem AsR.done (a:AsR l h r q w0 w st ac nx us acc nxt):AuR w0.heap.size (put3 w r (.int .i64 st) ac nx) ac nx us acc nxt/\Only l h w0 (put3 w r (.int .i64 st) ac nx):=by
 have hd:=a.ord
 have ho:=put3_only w r (.int .i64 st) ac nx
 refine ⟨(a.au.only ho (by omega)).mono (by omega),?_⟩
 exact ((a.frm.setCell (p:=⟨r,0,none⟩) (.inr (by simp only;omega)) _).setCell (p:=⟨r,1,none⟩) (.inr (by simp only;omega)) _).setCell (p:=⟨r,2,none⟩) (.inr (by simp only;omega)) _
/-- an automaton is handed back, all in memory of its own; its rows have nine moves -/
def AutOut (l h:Nat) (w:World) (e:Ending) (w':World):Prop :=
 ∃ st ac nx us acc nxt,e=.returned (.agg #[.int .i64 st,ac,nx])/\AuR w.heap.size w' ac nx us acc nxt/\(acc.length=nxt.length/\0 < nxt.length/\nxt.length<=100/\∀ row ∈ nxt,row.length=9)/\Only l h w w'
end
/-- the cursor lives, and an automaton is handed back -/
def AutCur (b:Nat) (w:World) (e:Ending) (w':World):Prop:=AutOut b (b+1) w e w'/\Cur w' b
set_option maxHeartbeats 8000000 in
theorem l11Random_any (b:Nat) (w:World) (hc:Cur w b) :
 Calls Tryz.prog 83 #[.pointer (some ⟨b,0,none⟩)] w (AutCur b w):=by
 have hbw:=hc.lt
 have hb0:=(Below.refl w.heap.size w).alloc (Nat.le_refl _) (.cells #[.int .i64 0,.slice none 0 0,.slice none 0 0] 31)
 have hbr:=Blk.new w 31 #[.int .i64 0,.slice none 0 0,.slice none 0 0] _ rfl
 have hs0:(w.alloc (.cells #[.int .i64 0,.slice none 0 0,.slice none 0 0] 31)).heap.size=w.heap.size+1:=by simp
 go_enter Tryz.func83,Tryz.ntmps83
 go_wp2_with fail
 generalize w.alloc (.cells #[.int .i64 0,.slice none 0 0,.slice none 0 0] 31)=W0 at *
 refine (l1Below_any b 4 _ (hc.keep hb0)).mono ?_
 rintro e w1 ⟨n,rfl,⟨hn0,-,hn1⟩,hc1,ho1⟩
 have hn1:=hn1 (by omega)
 obtain ⟨n,rfl⟩:=Int.eq_ofNat_of_zero_le hn0
 go_wp2_with fail
 refine (l1Below_any b _ _ hc1).mono ?_
 rintro e w2 ⟨st,rfl,-,hc2,ho2⟩
 have ho12:=ho1.trans ho2
 have hbr2:=hbr.only ho12 (.inr (by omega))
 have hs2:=ho12.size
 have hal:=(Below.refl w2.heap.size w2).alloc (Nat.le_refl _) (.cells #[.int .i64 st,.slice none 0 0,.slice none 0 0] 31)
 have HA0:=Hd_ (show AsR b (b+1) w.heap.size w2.heap.size w (w2.alloc (.cells #[.int .i64 st,.slice none 0 0,.slice none 0 0] 31)) st (.slice none 0 0) (.slice none 0 0) [] [] [] from
  ⟨hbr2.keep hal,Blk.new w2 _ _ _ rfl,AuR.start _ _,((Only.of_below hb0 b (b+1)).trans ho12).trans (Only.of_below hal _ _),by omega⟩)
 have HC0:=Hd_ (hc2.keep hal)
 have hq:w.heap.size < w2.heap.size:=by omega
 clear hal hbr hbr2 hb0 ho1 ho2 ho12 hc1 hc2 hc hs0 hs2
 go_upto_region 3 with fail
 generalize w2.alloc (.cells #[.int .i64 st,.slice none 0 0,.slice none 0 0] 31)=W2 at *
 go_wp2_with fail
 go_loopw [5,6,7,8] (fun ss _ _ _ wr=>∃ (s:Nat) (ac nx:Value) (us:List Value) (acc:List Bool) (nxt:List (List Int)),s<=n+1/\ss=.int .i64 (s:Int)/\acc.length=s/\nxt.length=s/\(∀ row ∈ nxt,row.length=9)/\AsR b (b+1) w.heap.size w2.heap.size w wr st ac nx us acc nxt/\Cur wr b) (fun ss _ _ _ _=>5 - (intOf ss).toNat)
 case atStart=>exact ⟨0,_,_,[],[],[],by omega,rfl,rfl,rfl,by simp,HA0.out,HC0.out⟩
 case round =>
  obtain ⟨s,ac,nx,us,acc,nxt,hs,rfl,hla,hln,h9,hA,hcw⟩:=hrel
  have HA:=Hd_ hA
  have HC:=Hd_ hcw
  have HLA:=Hd_ hla
  have HLN:=Hd_ hln
  have H9:=Hd_ h9
  obtain ⟨A1,c1,rfl,-,-,-⟩:=ownSh hA.au.acc
  obtain ⟨A2,c2,rfl,-,-,-⟩:=ownSh hA.au.nxt.own
  clear hA hcw hla hln h9 HA0 HC0
  by_cases hlt:s < n+1
  · have hsn:(s:Int) < 1+(n:Int):=by omega
    have hsn2:(s:Int) < (n:Int)+1:=by omega
    obtain ⟨RB,hRB⟩:∃ RB,RB=wr.heap.size:=⟨_,rfl⟩
    obtain ⟨W,rfl⟩:∃ W:World,W=wr:=⟨_,rfl⟩
    have hal:=(Below.refl W.heap.size W).alloc (Nat.le_refl _) (.cells #[] 3)
    have hrl:=World.ownsRow_lit (base:=W.heap.size) (e:=3) (size:=1) W #[] 0 (Nat.le_refl _) (by decide) rfl
    have HC1:=Hd_ (HC.out.keep hal)
    have HO1:=Hd_ (Only.of_below hal b (b+1))
    have HRL:=Hd_ hrl
    clear hal hrl
    go_wp2_with fail
    go_loopw [6,7,8] (fun uu kk _ wx=>∃ (k:Nat) (R:List Int),k<=9/\kk=.int .i64 (k:Int)/\R.length=k/\wx.ownsRow W.heap.size 3 1 uu R.length (R.flatMap cI)/\Only b (b+1) W wx/\Cur wx b) (fun _ kk _ _=>9 - (intOf kk).toNat)
    case atStart=>exact ⟨0,[],by omega,rfl,rfl,HRL.out,HO1.out,HC1.out⟩
    case round =>
     obtain ⟨k,R,hk,rfl,hR,hrow,hox,hcx⟩:=hrel
     have HR:=Hd_ hR
     have HROW:=Hd_ hrow
     have HOX:=Hd_ hox
     have HCX:=Hd_ hcx
     obtain ⟨A3,c3,rfl,-,-,-⟩:=ownSh hrow
     have hRl:R.length<=9:=by omega
     have hsW:=hox.size
     have hbW:b < W.heap.size:=HC.out.lt
     clear hR hrow hox hcx HRL HO1 HC1
     by_cases hk9:k < 9
     · have hki:(k:Int) < 9:=by omega
       go_wp2_with fail
       refine (l1Once_any b 3 _ HCX.out).mono ?_
       rintro e w3 ⟨o,rfl,hc3,ho3⟩
       have HO3:=Hd_ (HOX.out.trans ho3)
       have HW3:=Hd_ (own_only HROW.out ho3 (by omega))
       have HC3:=Hd_ hc3
       have hz3:=ho3.size
       clear hc3 ho3 HCX HROW HOX
       cases o
       · go_wp2_with fail
         refine (l1Below_any b _ _ HC3.out).mono ?_
         rintro e w4 ⟨t,rfl,-,hc4,ho4⟩
         have HO4:=Hd_ (HO3.out.trans ho4)
         have HW4:=Hd_ (own_only HW3.out ho4 (by omega))
         have HC4:=Hd_ hc4
         have hz4:=ho4.size
         clear hc4 ho4
         by_cases h3:3 < k
         · have h3i:3 < (k:Int):=by omega
           go_wp2_with (at_builtin;(refine wpList_append2 cI elInt rfl _ _ (by rfl) W.heap.size _ R ((-1)) 1 _ (by rfl) (HW4.out.alloc _) (by rfl) (heap_alloc_new _ _) rfl (cI_one _) (by omega) (by omega) (by simp;omega) ?_);intro g2 cp2 w9 hown3 hgr3 hat3 hlt3;have hal:=(Below.refl w4.heap.size w4).alloc (Nat.le_refl _) (.cells #[.int .i64 ((-1))] 3);have hob:=own_below (HW4.out.alloc (.cells #[.int .i64 ((-1))] 3)) (by simp;omega) hgr3;have HO9:=Hd_ ((HO4.out.alloc (.cells #[.int .i64 ((-1))] 3)).andBelow hob (Nat.le_refl _));have HC9:=Hd_ ((HC4.out.keep hal).below hob hbW);have HW9:=Hd_ hown3;clear hown3 hgr3 hat3 hal hob)
           go_roundw
           case rel=>exact ⟨k+1,R ++ [(-1)],by omega,by go_num,by simp [HR.out],HW9.out,HO9.out,HC9.out⟩
           case measure=>simp [intOf];omega
         · have h3i:¬ 3 < (k:Int):=by omega
           go_wp2_with (at_builtin;(refine wpList_append2 cI elInt rfl _ _ (by rfl) W.heap.size _ R (t) 1 _ (by rfl) (HW4.out.alloc _) (by rfl) (heap_alloc_new _ _) rfl (cI_one _) (by omega) (by omega) (by simp;omega) ?_);intro g2 cp2 w9 hown3 hgr3 hat3 hlt3;have hal:=(Below.refl w4.heap.size w4).alloc (Nat.le_refl _) (.cells #[.int .i64 (t)] 3);have hob:=own_below (HW4.out.alloc (.cells #[.int .i64 (t)] 3)) (by simp;omega) hgr3;have HO9:=Hd_ ((HO4.out.alloc (.cells #[.int .i64 (t)] 3)).andBelow hob (Nat.le_refl _));have HC9:=Hd_ ((HC4.out.keep hal).below hob hbW);have HW9:=Hd_ hown3;clear hown3 hgr3 hat3 hal hob)
           go_roundw
           case rel=>exact ⟨k+1,R ++ [t],by omega,by go_num,by simp [HR.out],HW9.out,HO9.out,HC9.out⟩
           case measure=>simp [intOf];omega
       · by_cases h3:3 < k
         · have h3i:3 < (k:Int):=by omega
           go_wp2_with (at_builtin;(refine wpList_append2 cI elInt rfl _ _ (by rfl) W.heap.size _ R ((-1)) 1 _ (by rfl) (HW3.out.alloc _) (by rfl) (heap_alloc_new _ _) rfl (cI_one _) (by omega) (by omega) (by simp;omega) ?_);intro g2 cp2 w9 hown3 hgr3 hat3 hlt3;have hal:=(Below.refl w3.heap.size w3).alloc (Nat.le_refl _) (.cells #[.int .i64 ((-1))] 3);have hob:=own_below (HW3.out.alloc (.cells #[.int .i64 ((-1))] 3)) (by simp;omega) hgr3;have HO9:=Hd_ ((HO3.out.alloc (.cells #[.int .i64 ((-1))] 3)).andBelow hob (Nat.le_refl _));have HC9:=Hd_ ((HC3.out.keep hal).below hob hbW);have HW9:=Hd_ hown3;clear hown3 hgr3 hat3 hal hob)
           go_roundw
           case rel=>exact ⟨k+1,R ++ [(-1)],by omega,by go_num,by simp [HR.out],HW9.out,HO9.out,HC9.out⟩
           case measure=>simp [intOf];omega
         · have h3i:¬ 3 < (k:Int):=by omega
           go_wp2_with (at_builtin;(refine wpList_append2 cI elInt rfl _ _ (by rfl) W.heap.size _ R ((-1)) 1 _ (by rfl) (HW3.out.alloc _) (by rfl) (heap_alloc_new _ _) rfl (cI_one _) (by omega) (by omega) (by simp;omega) ?_);intro g2 cp2 w9 hown3 hgr3 hat3 hlt3;have hal:=(Below.refl w3.heap.size w3).alloc (Nat.le_refl _) (.cells #[.int .i64 ((-1))] 3);have hob:=own_below (HW3.out.alloc (.cells #[.int .i64 ((-1))] 3)) (by simp;omega) hgr3;have HO9:=Hd_ ((HO3.out.alloc (.cells #[.int .i64 ((-1))] 3)).andBelow hob (Nat.le_refl _));have HC9:=Hd_ ((HC3.out.keep hal).below hob hbW);have HW9:=Hd_ hown3;clear hown3 hgr3 hat3 hal hob)
           go_roundw
           case rel=>exact ⟨k+1,R ++ [(-1)],by omega,by go_num,by simp [HR.out],HW9.out,HO9.out,HC9.out⟩
           case measure=>simp [intOf];omega
     · have hki:¬ (k:Int) < 9:=by omega
       have HAx:=Hd_ (HA.out.step HOX.out)
       have x1:wr.cell? ⟨w2.heap.size,1,none⟩=some (.slice A1 acc.length c1):=HAx.out.blk.cell 1
       have hur:=Hd_ (fun k hk=>HROW.out.lt k hk)
       go_wp2_with fail
       refine F_start 7 (fun w'=>w'.cell? ⟨w2.heap.size,1,none⟩=some (.slice A1 acc.length c1)) (by kernel_rfl) (by exact x1) (fun hS inv=>?_)
       refine F_tk 0 inv ?_
       try simp only [tA,tB,tC,Act.put,tE,tF,tG]
       clear inv;intro inv
       refine F_tk 1 inv ?_
       try simp only [tA,tB,tC,Act.put,tE,tF,tG]
       clear inv;intro inv
       refine F_tk 2 inv ?_
       try simp only [tA,tB,tC,Act.put,tE,tF,tG]
       clear inv;intro inv
       have HAd:=Hd_ (HAx.out.below ((Below.refl _ _).drew))
       have HRd:=Hd_ (ownsRow_below HROW.out ((Below.refl wr.heap.size wr).drew) (Nat.le_refl _))
       clear HAx HROW
       refine F_o1 3 inv ?_;intro K hK
       try simp only [tA,tB,tC]
       go_simp
       refine (l1Once_any b 3 _ (HCX.out.keep ((Below.refl _ _).drew))).mono ?_
       rintro e w5 ⟨x,rfl,hc5,ho5⟩
       have HA5:=Hd_ (HAd.out.step ho5)
       have HR5:=Hd_ (own_only HRd.out ho5 (by omega))
       have HC5:=Hd_ hc5
       have hz5:=ho5.size
       clear hc5 ho5 HAd HRd HCX x1
       refine hK.out _ _ ((HA5.out.blk.cell 1)) (fun _ _=>?_)
       try simp only [tA,tB,tC,Act.put,tE,tF,tG]
       clear hK K inv hS;rename_i hS inv
       refine F_o1 4 inv ?_;intro K hK
       try simp only [tA,tB,tC]
       go_simp
       have hal:=(Below.refl w5.heap.size w5).alloc (Nat.le_refl _) (.cells #[.bool x] 4)
       have HA6:=Hd_ (HA5.out.below hal)
       have HR6:=Hd_ (ownsRow_below HR5.out hal (Nat.le_refl _))
       have HC6:=Hd_ (HC5.out.keep hal)
       refine hK.out _ _ ((HA6.out.blk.cell 1)) (fun _ _=>?_)
       try simp only [tA,tB,tC,Act.put,tE,tF,tG]
       clear hK K inv hS;rename_i hS inv
       clear hal HA5 HR5 HC5
       refine F_o1 5 inv ?_;intro K hK
       try simp only [tA,tB,tC]
       refine op_append1 cB elBool rfl _ _ (by rfl) (w2.heap.size+1) _ acc x 1 _ (by rfl) HA6.out.au.acc (by first | rfl | simp) (heap_alloc_new _ _) rfl (cB_one _) (by have:=HLA.out;omega) (by omega) (by have:=HA6.out.blk.lt;omega) ?_
       intro g2 cp2 w9 hown3 hgr3 hat3 hlt3
       have HP:=Hd_ (HA6.out.pushA hown3 hgr3 hat3)
       have hob:=own_below HA6.out.au.acc (by have:=HA6.out.blk.lt;omega) hgr3
       have hWq:w2.heap.size < W.heap.size:=HA.out.blk.lt
       have HAB:=Hd_ (fun k hk=>(HA.out.au.acc.lt k hk).2)
       have hrow9:=ownsRow_block HR6.out (fun k hk=>hgr3.block k (HR6.out.lt k hk).2 (fun e=>by have h1:=(HR6.out.lt k hk).1;have h2:=HAB.out k e.symm;omega))
       have HR9:=Hd_ (ownsRow_block hrow9 (w':=w9.setCell ⟨w2.heap.size,1,none⟩ (.slice (some ⟨g2,0,none⟩) (acc.length+1) cp2)) (fun k hk=>Below.heap_setCell w9 ⟨w2.heap.size,1,none⟩ _ k (by have:=(HR6.out.lt k hk).1;simp only;omega)))
       have HC9:=Hd_ ((HC6.out.below hob (by have:=HA.out.ord;omega)).set (p:=⟨w2.heap.size,1,none⟩) (by simp only;omega) (.slice (some ⟨g2,0,none⟩) (acc.length+1) cp2))
       have HG3:=Hd_ (show ∀ k,(Value.slice A3 R.length c3).ownBlock=some k->(Value.slice (some ⟨g2,0,none⟩) (acc.length+1) cp2).ownBlock ≠ some k from fun k hk hk2=>by
        cases hk2
        have h1:=(HR6.out.lt g2 hk)
        rcases hat3 with h2 | h2
        · have:=HAB.out g2 h2;omega
        · omega)
       clear hown3 hgr3 hat3 hob hrow9
       refine hK.out _ _ ((HP.out.1.cell 1)) (fun _ _=>?_)
       try simp only [tA,tB,tC,Act.put,tE,tF,tG]
       clear hK K inv hS;rename_i hS inv
       refine F_tk 6 inv ?_
       try simp only [tA,tB,tC,Act.put,tE,tF,tG]
       clear inv;intro inv
       have f0:=HP.out.1.frozen 1
       have lp:=HP.out.1.lt
       refine F_l1 7 ?_;intro K hK
       go_simp
       refine hK _ _ ?_
       clear hK K inv hS
       have HQ:=Hd_ HP.out.2
       generalize w9.setCell ⟨w2.heap.size,1,none⟩ (.slice (some ⟨g2,0,none⟩) (acc.length+1) cp2)=w10 at *
       clear HP f0 lp HA6 HR6 HC6
       have x2:w10.cell? ⟨w2.heap.size,2,none⟩=some (.slice A2 us.length c2):=HQ.out.blk.cell 2
       have hul:us.length<=10:=by have h1:=HQ.out.au.nxt.len;have h2:=HLN.out;omega
       have HUF:=Hd_ (show ∀ k,(Value.slice A3 R.length c3).ownBlock=some k->k ∉ blks (Value.slice A2 us.length c2 :: us)/\(Value.slice (some ⟨g2,0,none⟩) (acc.length+1) cp2).ownBlock ≠ some k from
        fun k hk=>⟨fun hm=>by have h1:=(hur.out k hk).1;have h2:=(HA.out.au.nxt.lt k hm).2;omega,HG3.out k hk⟩)
       have lq2:=HQ.out.blk.lt
       go_wp2_with (at_builtin;(refine wpList_append2 cV elSS rfl _ _ (by rfl) (w2.heap.size+1) _ us (Value.slice A3 R.length c3) 1 _ (by rfl) (HQ.out.au.nxt.own.alloc _) (by rfl) (heap_alloc_new _ _) rfl (fun u hu=>by simp only [cV,List.mem_cons,List.not_mem_nil,or_false] at hu;subst hu;rfl) (by omega) (by omega) (by simp;omega) ?_);intro g4 cp4 w11 hown4 hgr4 hat4 hlt4;have hal:=(Below.refl w10.heap.size w10).alloc (Nat.le_refl _) (.cells #[Value.slice A3 R.length c3] 24);have HP:=Hd_ ((HQ.out.below hal).pushN (ownsRow_mono (ownsRow_below HR9.out hal (Nat.le_refl _)) (by omega)) HUF.out hown4 hgr4 hat4);have hob:=own_below (HQ.out.au.nxt.own.alloc (.cells #[Value.slice A3 R.length c3] 24)) (by simp;omega) hgr4;have HC11:=Hd_ ((HC9.out.keep hal).below hob (by have:=HA.out.ord;omega));have f2:=HP.out.1.frozen 2;have y2:w11.cell? ⟨w2.heap.size,2,none⟩=some (.slice A2 us.length c2):=HP.out.1.cell 2;have lp:=HP.out.1.lt;clear hown4 hgr4 hat4 hal hob)
       have HQ2:=Hd_ HP.out.2
       have HC12:=Hd_ (HC11.out.set (p:=⟨w2.heap.size,2,none⟩) (by simp only;omega) (.slice (some ⟨g4,0,none⟩) (us.length+1) cp4))
       clear HP f2 y2 lp x2
       go_roundw
       case rel =>
        refine ⟨s+1,_,_,us ++ [_],acc ++ [x],nxt ++ [R],by omega,by go_num,by simp [HLA.out],by simp [HLN.out],?_,HQ2.out,HC12.out⟩
        intro row hm
        rcases List.mem_append.1 hm with h | h
        · exact H9.out row h
        · rw [List.mem_singleton] at h
          rw [h,HR.out]
          omega
       case measure=>simp [intOf];omega
  · have hsn:¬ (s:Int) < 1+(n:Int):=by omega
    have hsn2:¬ (s:Int) < (n:Int)+1:=by omega
    have x0:wr.cell? ⟨w2.heap.size,0,none⟩=some (.int .i64 st):=HA.out.blk.cell 0
    have x1:wr.cell? ⟨w2.heap.size,1,none⟩=some (.slice A1 acc.length c1):=HA.out.blk.cell 1
    have x2:wr.cell? ⟨w2.heap.size,2,none⟩=some (.slice A2 us.length c2):=HA.out.blk.cell 2
    have z0:wr.cell? ⟨w.heap.size,0,none⟩=some (.int .i64 0):=HA.out.res.cell 0
    have z1:wr.cell? ⟨w.heap.size,1,none⟩=some (.slice none 0 0):=HA.out.res.cell 1
    have z2:wr.cell? ⟨w.heap.size,2,none⟩=some (.slice none 0 0):=HA.out.res.cell 2
    have v0:=HA.out.res.frozen 0
    have v1:=HA.out.res.frozen 1
    have v2:=HA.out.res.frozen 2
    have hlr:=HA.out.res.lt
    go_wp2_with fail
    have HD:=HA.out.done
    have hcu:Cur (put3 wr w.heap.size (.int .i64 st) (.slice A1 acc.length c1) (.slice A2 us.length c2)) b:=HC.out.only (put3_only _ _ _ _ _) hbw
    exact bodyPost_ret (v:=.agg #[.int .i64 st,.slice A1 acc.length c1,.slice A2 us.length c2]) (by simp [results,Tryz.results83,go_sem,z0,z1,z2,v0,v1,v2,hlr]) rfl ⟨⟨_,_,_,us,acc,nxt,rfl,HD.1,⟨by have h1:=HLA.out;have h2:=HLN.out;omega,by have h2:=HLN.out;omega,by have h2:=HLN.out;omega,H9.out⟩,HD.2⟩,hcu⟩
end Go.Proofs.YteaplabkemoenaaGreat
namespace Go.Proofs.YteaplabkemoenaaGreat
open Go.Lib
/-- the members of a set, as numbers -/
def memI (n m:Nat):List Int:=(mem n m).map fun (t:Nat)=>(t:Int)
end Go.Proofs.YteaplabkemoenaaGreat
namespace Go.Proofs.YteaplabkemoenaaGreat
/-- a goal is n steps away from i -/
def toG (next:Nat->List Nat) (goal:Nat->Prop):Nat->Nat->Prop
 | 0,i=>goal i
 | n+1,i=>∃ k ∈ next i,toG next goal n k
def IsDist (next:Nat->List Nat) (goal:Nat->Prop) (i:Nat) (d:Int):Prop :=
 (d=-1/\∀ n,¬ toG next goal n i) ∨ (0<=d/\toG next goal d.toNat i/\∀ m:Nat,m < d.toNat->¬ toG next goal m i)
theorem IsDist.uniq {next:Nat->List Nat} {goal:Nat->Prop} {i:Nat} {d e:Int} (h:IsDist next goal i d) (k:IsDist next goal i e):d=e:=by
 rcases h with ⟨rfl,h⟩ | ⟨h0,h1,h2⟩
 · rcases k with ⟨rfl,_⟩ | ⟨_,k1,_⟩
   · rfl
   · exact absurd k1 (h _)
 · rcases k with ⟨rfl,k⟩ | ⟨k0,k1,k2⟩
   · exact absurd h1 (k _)
   · rcases Nat.lt_trichotomy d.toNat e.toNat with hlt | heq | hgt
     · exact absurd h1 (k2 _ hlt)
     · omega
     · exact absurd k1 (h2 _ hgt)
section
variable {prev next:Nat->List Nat} {goal:Nat->Prop} {N:Nat} {D:List Int} {q:List Nat}
structure BO (prev next:Nat->List Nat) (goal:Nat->Prop) (N:Nat) (D:List Int) (q:List Nat):Prop where
 len:D.length=N
 sound:∀ i,i < N->0<=D.getD i 0->toG next goal (D.getD i 0).toNat i
 src:∀ i,i < N->goal i->D.getD i 0=0
 done:∀ k,k < N->0<=D.getD k 0->k ∉ q->∀ i ∈ prev k,0<=D.getD i 0/\D.getD i 0<=D.getD k 0+1
 top:∀ h r,q=h :: r->∀ i,i < N->D.getD i 0<=D.getD h 0+1
 sorted:q.Pairwise (fun a b=>D.getD a 0<=D.getD b 0)
 qN:∀ x ∈ q,x < N/\0<=D.getD x 0
 low:∀ i,i < N->-1<=D.getD i 0
structure BI (prev next:Nat->List Nat) (goal:Nat->Prop) (N:Nat) (D:List Int) (q:List Nat) (h:Nat) (l:List Nat):Prop where
 len:D.length=N
 hN:h < N
 hD:0<=D.getD h 0
 sound:∀ i,i < N->0<=D.getD i 0->toG next goal (D.getD i 0).toNat i
 src:∀ i,i < N->goal i->D.getD i 0=0
 done:∀ k,k < N->0<=D.getD k 0->k ∉ q->k ≠ h->∀ i ∈ prev k,0<=D.getD i 0/\D.getD i 0<=D.getD k 0+1
 here:∀ i ∈ prev h,i ∈ l ∨ (0<=D.getD i 0/\D.getD i 0<=D.getD h 0+1)
 top:∀ i,i < N->D.getD i 0<=D.getD h 0+1
 qs:∀ x ∈ q,D.getD h 0<=D.getD x 0
 sorted:q.Pairwise (fun a b=>D.getD a 0<=D.getD b 0)
 qN:∀ x ∈ q,x < N/\0<=D.getD x 0
 low:∀ i,i < N->-1<=D.getD i 0
theorem BO.enter {h:Nat} (b:BO prev next goal N D (h :: q)):BI prev next goal N D q h (prev h) :=
 ⟨b.len,(b.qN h (by simp)).1,(b.qN h (by simp)).2,b.sound,b.src,fun k hk h0 hq hh=>b.done k hk h0 (by simp [hq,hh]),fun i hi=>.inl hi,b.top h q rfl,
  fun x hx=>(List.pairwise_cons.1 b.sorted).1 x hx,(List.pairwise_cons.1 b.sorted).2,fun x hx=>b.qN x (List.mem_cons_of_mem _ hx),b.low⟩
theorem BI.leave {h:Nat} (b:BI prev next goal N D q h []):BO prev next goal N D q:=by
 refine ⟨b.len,b.sound,b.src,fun k hk h0 hq=>?_,fun x r hx i hi=>?_,b.sorted,b.qN,b.low⟩
 · by_cases hkh:k=h
   · subst hkh
     intro i hi
     rcases b.here i hi with h | h
     · simp at h
     · exact h
   · exact b.done k hk h0 hq hkh
 · have h1:=b.top i hi
   have h2:=b.qs x (by rw [hx];simp)
   omega
theorem BI.old {h k:Nat} {l:List Nat} (b:BI prev next goal N D q h (k :: l)) (hk:k < N) (h0:¬ D.getD k 0 < 0):BI prev next goal N D q h l:=by
 refine ⟨b.len,b.hN,b.hD,b.sound,b.src,b.done,fun i hi=>?_,b.top,b.qs,b.sorted,b.qN,b.low⟩
 rcases b.here i hi with h1 | h1
 · rcases List.mem_cons.1 h1 with rfl | h1
   · exact .inr ⟨by omega,b.top _ hk⟩
   · exact .inl h1
 · exact .inr h1
theorem BI.new {h k:Nat} {l:List Nat} (hpn:∀ i k,i < N->k < N->i ∈ prev k->k ∈ next i) (hpN:∀ i k,k < N->i ∈ prev k->i < N) (b:BI prev next goal N D q h (k :: l)) (hkp:k ∈ prev h) (h0:D.getD k 0 < 0) :
 BI prev next goal N (D.set k (D.getD h 0+1)) (q ++ [k]) h l:=by
 have hk:k < N:=hpN k h b.hN hkp
 have hkl:k < D.length:=by rw [b.len];exact hk
 have hD:=b.hD
 have hkh:k ≠ h:=by intro e;subst e;omega
 have hh:(D.set k (D.getD h 0+1)).getD h 0=D.getD h 0:=by rw [getD_set' hkl,if_neg (Ne.symm hkh)]
 have hset:∀ x,x ≠ k->(D.set k (D.getD h 0+1)).getD x 0=D.getD x 0:=fun x hx=>by rw [getD_set' hkl,if_neg hx]
 have hsk:(D.set k (D.getD h 0+1)).getD k 0=D.getD h 0+1:=by rw [getD_set' hkl,if_pos rfl]
 have hkq:∀ x ∈ q,x ≠ k:=fun x hx e=>by subst e;have:=(b.qN x hx).2;omega
 refine ⟨by rw [List.length_set];exact b.len,b.hN,by rw [hh];exact hD,fun i hi h1=>?_,fun i hi hg=>?_,fun x hx h1 hxq hxh i hi=>?_,fun i hi=>?_,fun i hi=>?_,fun x hx=>?_,?_,fun x hx=>?_,fun i hi=>?_⟩
 · by_cases e:i=k
   · subst e
     rw [hsk]
     have h2:=b.sound h b.hN hD
     rw [show (D.getD h 0+1).toNat=(D.getD h 0).toNat+1 by omega]
     exact ⟨h,hpn i h hi b.hN hkp,h2⟩
   · rw [hset i e] at h1 ⊢
     exact b.sound i hi h1
 · have e:i ≠ k:=by
    intro e;subst e
    have:=b.src i hi hg
    omega
   rw [hset i e]
   exact b.src i hi hg
 · have e:x ≠ k:=by intro e;subst e;simp at hxq
   rw [hset x e] at h1 ⊢
   have h2:=b.done x hx h1 (fun h=>hxq (by simp [h])) hxh i hi
   have e2:i ≠ k:=by intro e2;subst e2;omega
   rw [hset i e2]
   exact h2
 · rw [hh]
   by_cases e:i=k
   · subst e
     refine .inr ?_
     rw [hsk]
     omega
   · rw [hset i e]
     rcases b.here i hi with h1 | h1
     · rcases List.mem_cons.1 h1 with h1 | h1
       · exact absurd h1 e
       · exact .inl h1
     · exact .inr h1
 · rw [hh]
   by_cases e:i=k
   · subst e;rw [hsk];omega
   · rw [hset i e];exact b.top i hi
 · rw [hh]
   rcases List.mem_append.1 hx with hx | hx
   · rw [hset x (hkq x hx)];exact b.qs x hx
   · have:x=k:=by simpa using hx
     subst this
     rw [hsk];omega
 · rw [List.pairwise_append]
   refine ⟨?_,by simp,fun x hx y hy=>?_⟩
   · refine List.Pairwise.imp_of_mem (fun {x y} hx hy hxy=>?_) b.sorted
     rw [hset x (hkq x hx),hset y (hkq y hy)]
     exact hxy
   · have:y=k:=by simpa using hy
     subst this
     rw [hset x (hkq x hx),hsk]
     exact b.top x (b.qN x hx).1
 · rcases List.mem_append.1 hx with hx | hx
   · rw [hset x (hkq x hx)];exact b.qN x hx
   · have:x=k:=by simpa using hx
     subst this
     rw [hsk]
     exact ⟨hk,by omega⟩
 · by_cases e:i=k
   · subst e;rw [hsk];omega
   · rw [hset i e];exact b.low i hi
theorem BI.all (hpn:∀ i k,i < N->k < N->i ∈ prev k->k ∈ next i) (hpN:∀ i k,k < N->i ∈ prev k->i < N) {h:Nat}:∀ (l:List Nat) (D:List Int) (q:List Nat) (d:Int),d=D.getD h 0+1->BI prev next goal N D q h l->(∀ k ∈ l,k ∈ prev h) ->
 BO prev next goal N (relax d l D q).1 (relax d l D q).2/\(relax d l D q).2.length+negs (relax d l D q).1=q.length+negs D
 | [],_,_,_,_,b,_=>⟨b.leave,rfl⟩
 | k :: l,D,q,d,hd,b,hl=>by
   have hk:k < N:=hpN k h b.hN (hl k (by simp))
   rw [relax]
   by_cases h0:D.getD k 0 < 0
   · rw [if_pos h0]
     have hkl:k < D.length:=by rw [b.len];exact hk
     have hkh:k ≠ h:=by intro e;subst e;have:=b.hD;omega
     have h1:=BI.new hpn hpN b (hl k (by simp)) h0
     rw [<- hd] at h1
     have:=BI.all hpn hpN l (D.set k d) (q ++ [k]) d (by rw [getD_set' hkl,if_neg (Ne.symm hkh)];exact hd) h1 (fun x hx=>hl x (List.mem_cons_of_mem _ hx))
     refine ⟨this.1,this.2.trans ?_⟩
     have h3:=negs_set hkl h0 (d:=d) (by have:=b.hD;omega)
     rw [List.length_append,List.length_singleton]
     omega
   · rw [if_neg h0]
     exact BI.all hpn hpN l D q d hd (b.old hk h0) (fun x hx=>hl x (List.mem_cons_of_mem _ hx))
theorem BO.fin (hnN:∀ i k,i < N->k ∈ next i->k < N) (hnp:∀ i k,i < N->k < N->k ∈ next i->i ∈ prev k) (b:BO prev next goal N D []):∀ i,i < N->IsDist next goal i (D.getD i 0):=by
 have hall:∀ (n i:Nat),i < N->toG next goal n i->0<=D.getD i 0/\D.getD i 0<=n:=by
  intro n
  induction n with
  | zero =>
    intro i hi h
    rw [b.src i hi h]
    omega
  | succ n ih =>
    rintro i hi ⟨k,hk,h⟩
    have hkN:=hnN i k hi hk
    have h1:=ih k hkN h
    have h2:=b.done k hkN h1.1 (by simp) i (hnp i k hi hkN hk)
    omega
 intro i hi
 by_cases h0:0<=D.getD i 0
 · exact .inr ⟨h0,b.sound i hi h0,fun m hm h=>by have:=hall m i hi h;omega⟩
 · refine .inl ⟨by have:=b.low i hi;omega,fun n h=>h0 (hall n i hi h).1⟩
theorem bfs_dist (hpn:∀ i k,i < N->k < N->i ∈ prev k->k ∈ next i) (hpN:∀ i k,k < N->i ∈ prev k->i < N) (hnN:∀ i k,i < N->k ∈ next i->k < N) (hnp:∀ i k,i < N->k < N->k ∈ next i->i ∈ prev k) :
 ∀ (f:Nat) (D:List Int) (q:List Nat),BO prev next goal N D q->q.length+negs D<=f->∀ i,i < N->IsDist next goal i ((bfs prev f D q).getD i 0):=by
 intro f
 induction f with
 | zero =>
   intro D q b hf
   have:q=[]:=List.eq_nil_of_length_eq_zero (by omega)
   subst this
   exact b.fin hnN hnp
 | succ f ih =>
   intro D q b hf
   cases q with
   | nil=>exact b.fin hnN hnp
   | cons h q =>
     rw [bfs]
     have:=BI.all hpn hpN (prev h) D q _ rfl b.enter (fun _ h=>h)
     exact ih _ _ this.1 (by rw [this.2];rw [List.length_cons] at hf;omega)
/-- after the sweeps up to d: the distances up to d are known -/
def SwO (next:Nat->List Nat) (goal:Nat->Prop) (N:Nat) (D:List Int) (d:Nat):Prop :=
 D.length=N/\∀ i,i < N->(D.getD i 0=-1/\∀ m,m<=d->¬ toG next goal m i) ∨ (0<=D.getD i 0/\D.getD i 0<=d/\IsDist next goal i (D.getD i 0))
/-- within the sweep for d + 1: the vertices below j are done -/
def SwI (next:Nat->List Nat) (goal:Nat->Prop) (N:Nat) (D:List Int) (d j:Nat) (ch:Bool):Prop :=
 D.length=N/\(∀ i,i < N->(D.getD i 0=-1/\(∀ m,m<=d->¬ toG next goal m i)/\(i < j->¬ toG next goal (d+1) i)) ∨ (0<=D.getD i 0/\D.getD i 0<=(d:Int)+1/\IsDist next goal i (D.getD i 0))) /\
  (ch=false->∀ i,i < N->D.getD i 0<=d)
theorem SwO.enter {d:Nat} (h:SwO next goal N D d):SwI next goal N D d 0 false:=by
 refine ⟨h.1,fun i hi=>?_,fun _ i hi=>?_⟩
 · rcases h.2 i hi with h1 | h1
   · exact .inl ⟨h1.1,h1.2,fun h=>by omega⟩
   · exact .inr ⟨h1.1,by omega,h1.2.2⟩
 · rcases h.2 i hi with h1 | h1 <;> omega
theorem SwI.leave {d:Nat} {ch:Bool} (h:SwI next goal N D d N ch):SwO next goal N D (d+1):=by
 refine ⟨h.1,fun i hi=>?_⟩
 rcases h.2.1 i hi with h1 | h1
 · refine .inl ⟨h1.1,fun m hm=>?_⟩
   by_cases e:m=d+1
   · subst e;exact h1.2.2 hi
   · exact h1.2.1 m (by omega)
 · exact .inr ⟨h1.1,by omega,h1.2.2⟩
theorem SwI.stop (hnN:∀ i k,i < N->k ∈ next i->k < N) {d:Nat} (h:SwI next goal N D d N false):∀ i,i < N->IsDist next goal i (D.getD i 0):=by
 have hno:∀ i,i < N->toG next goal (d+1) i->∃ m,m<=d/\toG next goal m i:=by
  intro i hi ht
  rcases h.2.1 i hi with h1 | h1
  · exact absurd ht (h1.2.2 hi)
  · have h2:=h.2.2 rfl i hi
    rcases h1.2.2 with h3 | h3
    · omega
    · exact ⟨_,by omega,h3.2.1⟩
 have hall:∀ (n i:Nat),i < N->toG next goal n i->∃ m,m<=d/\toG next goal m i:=by
  intro n
  induction n with
  | zero=>intro i _ h;exact ⟨0,Nat.zero_le _,h⟩
  | succ n ih =>
    rintro i hi ⟨k,hk,ht⟩
    obtain ⟨m,hm,h2⟩:=ih k (hnN i k hi hk) ht
    by_cases e:m=d
    · subst e
      exact hno i hi ⟨k,hk,h2⟩
    · exact ⟨m+1,by omega,k,hk,h2⟩
 intro i hi
 rcases h.2.1 i hi with h1 | h1
 · refine .inl ⟨h1.1,fun n hn=>?_⟩
   obtain ⟨m,hm,h2⟩:=hall n i hi hn
   exact h1.2.1 m hm h2
 · exact h1.2.2
/-- vertex j is known already, or none of its next ones is at distance d -/
theorem SwI.skip {d j:Nat} {ch:Bool} (h:SwI next goal N D d j ch) (hs:¬ D.getD j 0 < 0 ∨ ∀ k ∈ next j,D.getD k 0 ≠ d) (hnN:∀ i k,i < N->k ∈ next i->k < N):SwI next goal N D d (j+1) ch:=by
 refine ⟨h.1,fun i hi=>?_,h.2.2⟩
 rcases h.2.1 i hi with h1 | h1
 · refine .inl ⟨h1.1,h1.2.1,fun hij=>?_⟩
   by_cases e:i=j
   · subst e
     rcases hs with hs | hs
     · omega
     · rintro ⟨k,hk,ht⟩
       have hkN:=hnN i k hi hk
       rcases h.2.1 k hkN with h2 | h2
       · exact h2.2.1 d (Nat.le_refl _) ht
       · rcases h2.2.2 with h3 | h3
         · omega
         · have h4:¬ d < (D.getD k 0).toNat:=fun hlt=>h3.2.2 d hlt ht
           have h5:=hs k hk
           refine h1.2.1 ((D.getD k 0).toNat+1) (by omega) ⟨k,hk,h3.2.1⟩
   · exact h1.2.2 (by omega)
 · exact .inr h1
theorem SwI.put {d j k:Nat} {ch:Bool} (h:SwI next goal N D d j ch) (hj:j < N) (h0:D.getD j 0 < 0) (hk:k ∈ next j) (hkd:D.getD k 0=d) (hnN:∀ i k,i < N->k ∈ next i->k < N):SwI next goal N (D.set j ((d:Int)+1)) d (j+1) true:=by
 have hjl:j < D.length:=by rw [h.1];exact hj
 have hkN:=hnN j k hj hk
 refine ⟨by rw [List.length_set];exact h.1,fun i hi=>?_,fun h=>by cases h⟩
 by_cases e:i=j
 · subst e
   rw [getD_set' hjl,if_pos rfl]
   rcases h.2.1 i hi with h1 | h1
   · refine .inr ⟨by omega,by omega,.inr ⟨by omega,?_,fun m hm=>h1.2.1 m (by omega)⟩⟩
     rcases h.2.1 k hkN with h2 | h2
     · omega
     · rcases h2.2.2 with h3 | h3
       · omega
       · have h4:=h3.2.1
         rw [hkd] at h4
         rw [show ((d:Int)+1).toNat=d+1 by omega]
         exact ⟨k,hk,by simpa using h4⟩
   · omega
 · rw [getD_set' hjl,if_neg e]
   rcases h.2.1 i hi with h1 | h1
   · exact .inl ⟨h1.1,h1.2.1,fun hij=>h1.2.2 (by omega)⟩
   · exact .inr h1
end
/-- the lists turned round -/
def turnL (N:Nat) (next:Nat->List Nat) (k:Nat):List Nat:=(List.range N).flatMap fun i=>(next i).filterMap fun x=>if x=k then some i else none
theorem mem_turnL {N:Nat} {next:Nat->List Nat} {i k:Nat}:i ∈ turnL N next k ↔ i < N/\k ∈ next i:=by
 unfold turnL
 simp only [List.mem_flatMap,List.mem_range,List.mem_filterMap]
 constructor
 · rintro ⟨j,hj,x,hx,he⟩
   by_cases h:x=k
   · rw [if_pos h] at he
     injection he with he
     subst h he
     exact ⟨hj,hx⟩
   · rw [if_neg h] at he;cases he
 · rintro ⟨hi,hk⟩
   exact ⟨i,hi,k,hk,by simp⟩
def srcD (N:Nat) (fs:List Nat):List Int:=fs.foldl (fun D i=>D.set i 0) (List.replicate N (-1))
theorem srcD_len (N:Nat) (fs:List Nat):(srcD N fs).length=N:=by
 have h:∀ (fs:List Nat) (D:List Int),(fs.foldl (fun D i=>D.set i 0) D).length=D.length:=by
  intro fs
  induction fs with
  | nil=>intro D;rfl
  | cons x fs ih=>intro D;rw [List.foldl_cons,ih,List.length_set]
 rw [srcD,h,List.length_replicate]
theorem srcD_at {N:Nat} {fs:List Nat} {i:Nat} (hi:i < N):(srcD N fs).getD i 0=if i ∈ fs then 0 else -1:=by
 have h:∀ (fs:List Nat) (D:List Int),i < D.length->(fs.foldl (fun D i=>D.set i 0) D).getD i 0=if i ∈ fs then 0 else D.getD i 0:=by
  intro fs
  induction fs with
  | nil=>intro D _;simp
  | cons x fs ih =>
    intro D hD
    rw [List.foldl_cons,ih _ (by rw [List.length_set];exact hD)]
    by_cases h1:i ∈ fs
    · simp [h1]
    · rw [if_neg h1]
      by_cases h2:i=x
      · subst h2
        rw [getD_set' hD,if_pos rfl];simp
      · have hx:(D.set x 0).getD i 0=D.getD i 0:=by
         simp only [List.getD,List.getElem?_set]
         rw [if_neg (fun e=>h2 e.symm)]
        rw [hx,if_neg (by simp [h1,h2])]
 rw [srcD,h fs _ (by simpa using hi)]
 simp [List.getD,List.getElem?_replicate,hi]
theorem srcD_snoc (N:Nat) (fs:List Nat) (x:Nat):srcD N (fs ++ [x])=(srcD N fs).set x 0:=by simp [srcD,List.foldl_append]
theorem srcD_out {N:Nat} {fs:List Nat} {i:Nat} (hi:¬ i < N):(srcD N fs).getD i 0=0:=by
 simp only [List.getD]
 rw [List.getElem?_eq_none (by rw [srcD_len];omega)]
 rfl
theorem negs_le (D:List Int):negs D<=D.length:=List.countP_le_length
theorem srcD_bfsI {N:Nat} {fs:List Nat} (hfs:∀ i ∈ fs,i < N):BfsI N (fs.length+N) (fs.length+N) (srcD N fs) fs:=by
 have hv:∀ i,(srcD N fs).getD i 0=0 ∨ (srcD N fs).getD i 0=-1:=by
  intro i
  by_cases hi:i < N
  · rw [srcD_at hi]
    split
    · exact .inl rfl
    · exact .inr rfl
  · exact .inl (srcD_out hi)
 refine ⟨srcD_len N fs,fun h hh=>⟨hfs h hh,?_⟩,?_,fun h=>?_,fun h=>?_,Nat.le_refl _⟩
 · rw [srcD_at (hfs h hh),if_pos hh];omega
 · have:=negs_le (srcD N fs)
   rw [srcD_len] at this
   omega
 · rcases hv h with h1 | h1 <;> rw [h1] <;> omega
 · rcases hv h with h1 | h1 <;> rw [h1] <;> omega
def spreadR (N:Nat) (next:Nat->List Nat) (fs:List Nat):List Int:=bfs next (fs.length+N) (srcD N fs) fs
theorem spreadR_len (N:Nat) (next:Nat->List Nat) (fs:List Nat):(spreadR N next fs).length=N:=by rw [spreadR,bfs_len,srcD_len]
/-- from the goals, the rows turned round: the least number of steps to a goal -/
theorem spread_dist {N:Nat} {next:Nat->List Nat} {fs:List Nat} (hfs:∀ i ∈ fs,i < N) (hn:∀ i k,i < N->k ∈ next i->k < N) (i:Nat) (hi:i < N) :
 IsDist next (fun i=>i ∈ fs) i ((spreadR N (turnL N next) fs).getD i 0):=by
 refine bfs_dist (prev:=turnL N next) (fun i k _ _ h=>(mem_turnL.1 h).2) (fun i k _ h=>(mem_turnL.1 h).1) hn (fun i k hi _ h=>mem_turnL.2 ⟨hi,h⟩) _ _ _ ?_ (srcD_bfsI hfs).fuel i hi
 refine ⟨srcD_len N fs,fun i hi h0=>?_,fun i hi hg=>?_,fun k hk h0 hq=>?_,fun h r hq i hi=>?_,?_,(srcD_bfsI hfs).queue,fun i hi=>(srcD_bfsI hfs).low i⟩
 · rw [srcD_at hi] at h0 ⊢
   by_cases h:i ∈ fs
   · rw [if_pos h];exact h
   · rw [if_neg h] at h0;omega
 · rw [srcD_at hi,if_pos hg]
 · rw [srcD_at hk,if_neg hq] at h0;omega
 · have hm:h ∈ fs:=by rw [hq];simp
   have e1:=srcD_at (fs:=fs) (hfs h hm)
   rw [if_pos hm] at e1
   rw [srcD_at hi,e1]
   split <;> omega
 · have:∀ l:List Nat,(∀ x ∈ l,x ∈ fs)->l.Pairwise (fun a b=>(srcD N fs).getD a 0<=(srcD N fs).getD b 0):=by
    intro l
    induction l with
    | nil=>intro _;simp
    | cons x l ih =>
      intro hl
      refine List.pairwise_cons.2 ⟨fun y hy=>?_,ih fun z hz=>hl z (List.mem_cons_of_mem _ hz)⟩
      have h1:=hl x (by simp)
      have h2:=hl y (List.mem_cons_of_mem _ hy)
      rw [srcD_at (hfs x h1),srcD_at (hfs y h2),if_pos h1,if_pos h2]
      omega
   exact this fs (fun _ h=>h)
theorem relax_mid (d:Int) (k:Nat) (l:List Nat) (D:List Int) (q:List Nat) (h:D.getD k 0 < 0):relax d (k :: l) D q=relax d l (D.set k d) (q ++ [k]):=by rw [relax,if_pos h]
theorem relax_old (d:Int) (k:Nat) (l:List Nat) (D:List Int) (q:List Nat) (h:¬ D.getD k 0 < 0):relax d (k :: l) D q=relax d l D q:=by rw [relax,if_neg h]
/-- rows below i are whole, row i holds cur, the others are empty -/
def fillTo (N:Nat) (next:Nat->List Nat) (i:Nat) (cur:List Nat):List (List Nat):=(List.range N).map fun m=>if m < i then next m else if m=i then cur else []
theorem fill_at {N i m:Nat} {next:Nat->List Nat} {cur:List Nat} (h:m < N):(fillTo N next i cur)[m]?=some (if m < i then next m else if m=i then cur else []):=by simp [fillTo,h]
theorem fill_cur {N i:Nat} {next:Nat->List Nat} {cur:List Nat} (h:i < N):(fillTo N next i cur)[i]?=some cur:=by rw [fill_at h,if_neg (by omega),if_pos rfl]
theorem fill_len (N i:Nat) (next:Nat->List Nat) (cur:List Nat):(fillTo N next i cur).length=N:=by simp [fillTo]
theorem fill_zero (N:Nat) (next:Nat->List Nat):fillTo N next 0 []=List.replicate N []:=by
 apply List.ext_getElem?
 intro x
 by_cases h:x < N
 · rw [fill_at h,List.getElem?_replicate,if_pos h];simp
 · rw [List.getElem?_eq_none (by rw [fill_len];omega),List.getElem?_eq_none (by rw [List.length_replicate];omega)]
theorem fill_push {N i:Nat} {next:Nat->List Nat} {cur:List Nat} (v:List Nat) (h:i < N):(fillTo N next i cur).set i v=fillTo N next i v:=by
 apply List.ext_getElem?
 intro x
 rw [List.getElem?_set,fill_len]
 by_cases hx:x < N
 · by_cases e:i=x
   · subst e
     rw [if_pos rfl,if_pos h,fill_cur h]
   · rw [if_neg e,fill_at hx,fill_at hx]
     have:¬ x=i:=fun h=>e h.symm
     simp [this]
 · rw [List.getElem?_eq_none (l:=fillTo N next i v) (by rw [fill_len];omega)]
   rw [if_neg (by omega),List.getElem?_eq_none (by rw [fill_len];omega)]
theorem fill_next {N i:Nat} {next:Nat->List Nat}:fillTo N next i (next i)=fillTo N next (i+1) []:=by
 unfold fillTo
 apply List.map_congr_left
 intro m _
 by_cases h1:m < i
 · rw [if_pos h1,if_pos (by omega)]
 · by_cases h2:m=i
   · subst h2
     rw [if_neg h1,if_pos rfl,if_pos (by omega)]
   · rw [if_neg h1,if_neg h2,if_neg (by omega)]
     split <;> rfl
theorem fill_all (N:Nat) (next:Nat->List Nat):fillTo N next N []=(List.range N).map next:=by
 unfold fillTo
 apply List.map_congr_left
 intro m hm
 rw [if_pos (List.mem_range.1 hm)]
theorem nextI_at {g:Gr} {a:Au} {x s:Nat} (hs:s < a.accept.length):nextI g a (x * a.accept.length+s)=nextV g a x s:=by
 unfold nextI
 rw [Nat.add_comm,Nat.add_mul_div_right _ _ (by omega),Nat.div_eq_of_lt hs,Nat.add_mul_mod_self_right,Nat.mod_eq_of_lt hs,Nat.zero_add]
theorem vert_lt {n m x s:Nat} (hx:x < m) (hs:s < n):x * n+s < m * n:=by
 have:=Nat.mul_le_mul_right n (show x+1<=m by omega)
 rw [Nat.succ_mul] at this
 omega
/-- the rows turned round, by the first i rows and j entries of row i -/
def turnTo (N:Nat) (next:Nat->List Nat) (i:Nat) (cur:List Nat):List (List Nat):=(List.range N).map fun k=>((List.range i).flatMap fun m=>(next m).filterMap fun x=>if x=k then some m else none) ++ cur.filterMap fun x=>if x=k then some i else none
theorem turn_at {N i k:Nat} {next:Nat->List Nat} {cur:List Nat} (h:k < N):(turnTo N next i cur)[k]?=some (((List.range i).flatMap fun m=>(next m).filterMap fun x=>if x=k then some m else none) ++ cur.filterMap fun x=>if x=k then some i else none):=by simp [turnTo,h]
theorem turn_len (N i:Nat) (next:Nat->List Nat) (cur:List Nat):(turnTo N next i cur).length=N:=by simp [turnTo]
theorem turn_zero (N:Nat) (next:Nat->List Nat):turnTo N next 0 []=List.replicate N []:=by
 apply List.ext_getElem?
 intro x
 by_cases h:x < N
 · rw [turn_at h,List.getElem?_replicate,if_pos h];simp
 · rw [List.getElem?_eq_none (by rw [turn_len];omega),List.getElem?_eq_none (by rw [List.length_replicate];omega)]
theorem turn_push {N i k:Nat} {next:Nat->List Nat} {cur row:List Nat} (h:k < N) (hr:(turnTo N next i cur)[k]?=some row):(turnTo N next i cur).set k (row ++ [i])=turnTo N next i (cur ++ [k]):=by
 apply List.ext_getElem?
 intro x
 rw [List.getElem?_set,turn_len]
 by_cases hx:x < N
 · by_cases e:k=x
   · subst e
     rw [turn_at h] at hr
     injection hr with hr
     rw [if_pos rfl,if_pos h,turn_at h,<- hr,List.filterMap_append]
     simp
   · rw [if_neg e,turn_at hx,turn_at hx,List.filterMap_append]
     simp [e]
 · rw [List.getElem?_eq_none (l:=turnTo N next i (cur ++ [k])) (by rw [turn_len];omega)]
   rw [if_neg (by omega),List.getElem?_eq_none (by rw [turn_len];omega)]
theorem turn_next {N i:Nat} {next:Nat->List Nat}:turnTo N next i (next i)=turnTo N next (i+1) []:=by
 unfold turnTo
 apply List.map_congr_left
 intro k _
 rw [List.range_succ,List.flatMap_append]
 simp
theorem turn_all (N:Nat) (next:Nat->List Nat):turnTo N next N []=(List.range N).map (turnL N next):=by
 unfold turnTo turnL
 apply List.map_congr_left
 intro k _
 simp
def goalsTo (g:Gr) (a:Au) (y i:Nat):List Nat:=((List.range i).filter (accC a (valAt g y))).map fun s=>y * a.accept.length+s
def goalsL (g:Gr) (a:Au) (y:Nat):List Nat:=goalsTo g a y a.accept.length
theorem goalsTo_yes {g:Gr} {a:Au} {y i:Nat} (h:accC a (valAt g y) i=true):goalsTo g a y (i+1)=goalsTo g a y i ++ [y * a.accept.length+i]:=by
 unfold goalsTo
 rw [List.range_succ,List.filter_append,List.map_append]
 simp [h]
theorem goalsTo_no {g:Gr} {a:Au} {y i:Nat} (h:accC a (valAt g y) i=false):goalsTo g a y (i+1)=goalsTo g a y i:=by
 unfold goalsTo
 rw [List.range_succ,List.filter_append,List.map_append]
 simp [h]
theorem goalsTo_len (g:Gr) (a:Au) (y i:Nat):(goalsTo g a y i).length<=i:=by
 unfold goalsTo
 rw [List.length_map]
 have:=List.length_filter_le (accC a (valAt g y)) (List.range i)
 rw [List.length_range] at this
 exact this
theorem mem_goalsL {g:Gr} {a:Au} {y v:Nat}:v ∈ goalsL g a y ↔ ∃ s,s < a.accept.length/\accC a (valAt g y) s=true/\v=y * a.accept.length+s:=by
 unfold goalsL goalsTo
 simp only [List.mem_map,List.mem_filter,List.mem_range]
 constructor
 · rintro ⟨s,⟨h1,h2⟩,rfl⟩;exact ⟨s,h1,h2,rfl⟩
 · rintro ⟨s,h1,h2,rfl⟩;exact ⟨s,⟨h1,h2⟩,rfl⟩
def distTo (g:Gr) (a:Au) (y:Int):List Int :=
 if (wi y 0 ((g.vals.length:Int) - 1) && (grOk g && auOk a))=true then spreadR (g.vals.length * a.accept.length) (turnL (g.vals.length * a.accept.length) (nextI g a)) (goalsL g a y.toNat) else []
def shortLen (g:Gr) (a:Au) (x y:Int):Int :=
 if (wi x 0 ((g.vals.length:Int) - 1) && (wi y 0 ((g.vals.length:Int) - 1) && (grOk g && auOk a)))=true then (distTo g a y).getD (x.toNat * a.accept.length+a.start.toNat) 0 else -1
theorem distTo_len {g:Gr} {a:Au} {y:Int} (h:(wi y 0 ((g.vals.length:Int) - 1) && (grOk g && auOk a))=true):(distTo g a y).length=g.vals.length * a.accept.length:=by rw [distTo,if_pos h,spreadR_len]
end Go.Proofs.YteaplabkemoenaaGreat
