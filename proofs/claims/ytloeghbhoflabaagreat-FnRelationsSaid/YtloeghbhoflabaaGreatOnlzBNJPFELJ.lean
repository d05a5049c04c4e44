/- Parts of the proof, joined into one text: LetI, RelT. -/
import Derived.Test.YtloeghbhoflabaaGreatOnlzMBOLNCNE
import Derived.Test.YtloeghbhoflabaaGreatOnlzDPCIHGBO
import Derived.Test.YtloeghbhoflabaaGreatOnlzJDDHLKGG
set_option linter.unusedVariables false
set_option linter.unusedSimpArgs false
namespace Go.Proofs.YtloeghbhoflabaaGreat
open Go.ChangeShapes Go.WideShapes Go.ChangeAt Go.RowKit
attribute [local go_sem] ext_cell ext_frozen ext_lt ext_lt1 ext_lt2 ext_lt3 ltn2 ltn3 ltn13 lts1 lts2 lts3
def rowTo (g:Gr) (lt:Int) (x j:Nat):List Pr:=((arcsOf g (x:Int)).take j).flatMap (arcP lt x)
theorem rowTo_yes {g:Gr} {lt:Int} {x j:Nat} {y:Arc} (h:(arcsOf g (x:Int))[j]?=some y) (e:y.2.1=lt):rowTo g lt x (j+1)=rowTo g lt x j ++ [((x:Int),y.2.2)]:=by rw [rowTo,flat_take h,arcP,if_pos e];rfl
theorem rowTo_no {g:Gr} {lt:Int} {x j:Nat} {y:Arc} (h:(arcsOf g (x:Int))[j]?=some y) (e:¬ y.2.1=lt):rowTo g lt x (j+1)=rowTo g lt x j:=by rw [rowTo,flat_take h,arcP,if_neg e,List.append_nil];rfl
theorem rowTo_len {g:Gr} (hg:GrOk g) (lt:Int) (x j:Nat):(rowTo g lt x j).length<=24:=by
 have h1:=flat_le (arcP_len lt x) ((arcsOf g (x:Int)).take j)
 have h2:=arcs_len hg (x:Int)
 rw [List.length_take] at h1
 rw [rowTo]
 omega
theorem implLet_next (g:Gr) (lt:Int) (x:Nat):implLet g lt (x+1)=implLet g lt x ++ rowTo g lt x (arcsOf g (x:Int)).length ++ selfE g lt x:=by
 rw [implLet_succ,rowP,rowTo,List.take_length,List.append_assoc]
set_option maxHeartbeats 8000000 in
set_option maxRecDepth 100000 in
theorem implLetter (v:Value) (g:Gr) (lt:Int) (w:World) (hv:GrV 0 w.heap.size w v g) :
 Calls Tryz.prog 19 #[v,.int .i64 lt] w fun e w'=>∃ v',e=.returned v'/\Own w.heap.size w'.heap.size w' 57 cPr 2 v' (letterL g lt)/\Below w.heap.size w w':=by
 have hvo:=hv
 obtain ⟨A1,n1,c1,A2,n2,c2,rfl⟩:=hv.shape
 have hb0:Below w.heap.size w (w.alloc (.cells #[.slice A1 n1 c1,.slice A2 n2 c2] 40)):=(Below.refl _ _).alloc (Nat.le_refl _) _
 have hvg:=implValidGraph _ g _ (hvo.keep hb0)
 have HGV:=Hd_ hvo
 have HVG:=Hd_ hvg
 obtain ⟨R,hR⟩:∃ R,R=letterL g lt:=⟨_,rfl⟩
 rw [<- hR]
 clear hv hvo hvg
 cases hgk:grOk g with
 | false =>
   have HE:=Hd_ (show R=[] by rw [hR];simp [letterL,hgk])
   rw [hgk] at HVG
   clear hgk hR
   go_enter Tryz.func19,Tryz.ntmps19
   go_wp2_with fail
   refine HVG.out.mono ?_
   rintro e w1 ⟨rfl,hb1⟩
   have hb2:=below_trans hb0 hb1
   go_wp2_with fail
   go_ret
   exact ⟨_,rfl,by rw [HE.out];exact Own.nil _ _ _ _ _ _,hb2⟩
 | true =>
   have hgo:=grOk_iff.1 hgk
   rw [hgk] at HVG
   cases hlt:wi lt 0 8 with
   | false =>
     have HE:=Hd_ (show R=[] by rw [hR,letterL,hgk,letter_none hgo hlt];rfl)
     have HIL:=Hd_ (fun W=>isLetter_any lt W)
     rw [hlt] at HIL
     clear hgk hR hgo hlt
     go_enter Tryz.func19,Tryz.ntmps19
     go_wp2_with fail
     refine HVG.out.mono ?_
     rintro e w1 ⟨rfl,hb1⟩
     have hb2:=below_trans hb0 hb1
     go_wp2_with fail
     refine (HIL.out _).mono ?_
     rintro e w1 ⟨rfl,rfl⟩
     go_wp2_with fail
     go_ret
     exact ⟨_,rfl,by rw [HE.out];exact Own.nil _ _ _ _ _ _,hb2⟩
   | true =>
     have HR:=Hd_ (show R=psetL (implLet g lt g.vals.length) by rw [hR,letterL,hgk,letter_impl hgo];rfl)
     have HIL:=Hd_ (fun W=>isLetter_any lt W)
     rw [hlt] at HIL
     have HGO:=Hd_ hgo
     have hn5:=hgo.n5
     clear hgk hR hgo hlt
     go_enter Tryz.func19,Tryz.ntmps19
     go_wp2_with fail
     refine HVG.out.mono ?_
     rintro e w1 ⟨rfl,hb1⟩
     have hb2:=below_trans hb0 hb1
     have b1:=(Blk.new w 40 #[.slice A1 n1 c1,.slice A2 n2 c2] w.heap.size rfl).keep hb1
     have x0:w1.cell? ⟨w.heap.size,0,none⟩=some (.slice A1 n1 c1):=b1.cell 0
     have x1:w1.cell? ⟨w.heap.size,1,none⟩=some (.slice A2 n2 c2):=b1.cell 1
     have l1:=b1.lt
     clear b1 hb1 hb0 HVG
     go_wp2_with fail
     refine (HIL.out _).mono ?_
     rintro e w1 ⟨rfl,rfl⟩
     obtain ⟨gO,hgO⟩:∃ gO,gO=w1.heap.size:=⟨_,rfl⟩
     obtain ⟨W0,hW0⟩:∃ W0,W0=w1.alloc (.cells #[] 57):=⟨_,rfl⟩
     have hbn:Below w1.heap.size w1 W0:=by rw [hW0];exact (Below.refl _ _).alloc (Nat.le_refl _) _
     have hrow0:W0.ownsRow gO 57 2 (.slice (some ⟨gO,0,none⟩) 0 0) 0 []:=by
      rw [hW0,hgO]
      exact World.ownsRow_lit w1 #[] 0 (Nat.le_refl _) (by decide) rfl
     have hgs:gO < W0.heap.size:=by rw [hW0,hgO];simp
     have hbW:=below_trans hb2 hbn
     have x0:=kcell hbn x0
     have x1:=kcell hbn x1
     have lW:w.heap.size < W0.heap.size:=by omega
     have harc:=arcs_any _ g W0 (HGV.out.keep hbW) HGO.out
     have HARC:=Hd_ harc
     have HROW0:=Hd_ hrow0
     have HBW:=Hd_ hbW
     have hlg:w.heap.size < gO:=by omega
     clear hrow0 harc hb2 hbn hbW HIL
     go_wp2_with fail
     rw [<- hW0,<- hgO]
     clear hW0 hgO
     refine HARC.out.mono ?_
     rintro e w2 ⟨vA,rfl,hsA,hbA⟩
     have HB2:=Hd_ (below_trans HBW.out hbA)
     have HROW2:=Hd_ (ownsRow_below HROW0.out hbA (Nat.le_refl _))
     have hs2:=hbA.size
     have x0:=kcell hbA x0
     have x1:=kcell hbA x1
     obtain ⟨A5,c5,hv5,hl5,hm5⟩:=hsA.shape
     have hlen5:((List.range g.vals.length).map fun (x:Nat)=>arcsOf g (x:Int)).length=g.vals.length:=by simp
     rw [hlen5] at hv5 hl5
     subst hv5
     have HSA:=Hd_ hsA
     clear hsA hbA HARC HROW0 hlen5 HBW
     go_wp2_with fail
     go_loopw [5,22] (fun oo ii wr=>∃ i:Nat,i<=g.vals.length/\ii=.int .i64 (i:Int)/\wr.ownsRow gO 57 2 oo (implLet g lt i).length ((implLet g lt i).flatMap cPr)/\Only gO (gO+1) w2 wr/\(∀ b,oo.ownBlock=some b->b=gO ∨ w2.heap.size<=b)) (fun _ ii _=>g.vals.length - (intOf ii).toNat)
     case atStart=>exact ⟨0,Nat.zero_le _,rfl,HROW2.out,Only.refl _ _ _,fun b hb=>by cases hb;exact .inl rfl⟩
     case round =>
      clear HROW2
      obtain ⟨i,hi,rfl,hrow,hon,hob⟩:=hrel
      have HROW:=Hd_ hrow
      have HON:=Hd_ hon
      have HOB:=Hd_ hob
      have hsz:=hon.size
      have HIL:=Hd_ (implLet_len HGO.out lt i)
      have hil:=implLet_len HGO.out lt i
      clear hrow hon hob
      obtain ⟨wo,rfl⟩:∃ wo:World,wo=wr:=⟨_,rfl⟩
      by_cases hlt:i < g.vals.length
      · obtain ⟨b5,o5,A7,c7,rfl,hlo5,hb5,d5,hl7,hm7,hI7,-⟩:=HSA.out.row (Nat.le_refl _) (i:=i) (xs:=arcsOf g (i:Int)) (by simp [hlt])
        have d5:=ocellI HON.out d5 hb5 (.inr (by omega))
        have HI7:=Hd_ hI7
        have hb5w:b5 < wo.heap.size:=by omega
        have hii:(i:Int) < (g.vals.length:Int):=by omega
        have hal:=arcs_len HGO.out (i:Int)
        have hxi:g.vals[i]?=some g.vals[i]:=List.getElem?_eq_getElem hlt
        have hgd:g.vals.getD i 0=g.vals[i]:=by simp [List.getD,hlt]
        generalize g.vals[i]=av at hxi hgd
        have HXI:=Hd_ hxi
        have HNX:=Hd_ (show implLet g lt (i+1)=implLet g lt i ++ rowTo g lt i (arcsOf g (i:Int)).length ++ (if lt=6+av then [((i:Int),(i:Int))] else []) by rw [implLet_next,selfE,hgd])
        have HRL:=Hd_ (fun j=>rowTo_len HGO.out lt i j)
        have hrl0:rowTo g lt i 0=[]:=rfl
        have HR0:=Hd_ hrl0
        have hil2:(implLet g lt i).length<=125:=by omega
        clear hI7 hrl0 hil hxi hgd
        generalize implLet g lt i=C at *
        go_wp2_with fail
        go_loopw [5,29] (fun oo jj wr=>∃ j:Nat,j<=(arcsOf g (i:Int)).length/\jj=.int .i64 (j:Int)/\wr.ownsRow gO 57 2 oo (C ++ rowTo g lt i j).length ((C ++ rowTo g lt i j).flatMap cPr) /\
         Only gO (gO+1) w2 wr/\(∀ b,oo.ownBlock=some b->(b=gO ∨ w2.heap.size<=b))) (fun _ jj _=>(arcsOf g (i:Int)).length - (intOf jj).toNat)
        case atStart=>exact ⟨0,Nat.zero_le _,rfl,by rw [HR0.out,List.append_nil];exact HROW.out,HON.out,HOB.out⟩
        case round =>
         clear HROW HON HOB d5 hb5w hsz
         obtain ⟨j,hj,rfl,hrow2,hon2,hob2⟩:=hrel
         have HROW2:=Hd_ hrow2
         have HON2:=Hd_ hon2
         have HOB2:=Hd_ hob2
         have hsz2:=hon2.size
         have hrl:=HRL.out j
         have hll:(C ++ rowTo g lt i j).length<=1000:=by rw [List.length_append];omega
         clear hrow2 hon2 hob2
         by_cases hlj:j < (arcsOf g (i:Int)).length
         · have hyj:(arcsOf g (i:Int))[j]?=some (arcsOf g (i:Int))[j]:=List.getElem?_eq_getElem hlj
           have HRY:=Hd_ (fun e=>rowTo_yes (lt:=lt) hyj e)
           have HRN:=Hd_ (fun e=>rowTo_no (lt:=lt) hyj e)
           generalize (arcsOf g (i:Int))[j]=y at hyj HRY HRN
           obtain ⟨b7,o7,rfl,hlo7,hb7,z0,z1,z2,z3⟩:=HI7.out.arc hyj
           have z0:=ocellI HON2.out z0 hb7 (.inr (by omega))
           have z1:=ocellI HON2.out z1 hb7 (.inr (by omega))
           have z2:=ocellI HON2.out z2 hb7 (.inr (by omega))
           have z3:=ocellI HON2.out z3 hb7 (.inr (by omega))
           have hb7w:b7 < wr.heap.size:=by omega
           obtain ⟨⟨sid,sinv⟩,l,t⟩:=y
           simp only at z0 z1 z2 z3 HRY HRN
           have hjj:(j:Int) < ((arcsOf g (i:Int)).length:Int):=by omega
           clear hyj
           have HRA:=Hd_ (HROW2.out.alloc (.cells #[.int .i64 sid,.bool sinv,.int .i64 l,.int .i64 t] 73))
           have HRA2:=Hd_ (HRA.out.alloc (.cells #[.int .i64 (i:Int),.int .i64 t] 57))
           have HOA2:=Hd_ (HON2.out.alloc (.cells #[.int .i64 sid,.bool sinv,.int .i64 l,.int .i64 t] 73))
           by_cases hxy:l=lt
           · have HSN:=Hd_ (show C ++ rowTo g lt i (j+1)=(C ++ rowTo g lt i j) ++ [((i:Int),t)] by rw [HRY.out hxy,List.append_assoc])
             generalize C ++ rowTo g lt i j=L at *
             subst hxy
             go_wp2_with (at_builtin;(refine wpList_append1 cPr elPair rfl _ _ rfl gO _ L ((i:Int),t) _ 1 (wr.heap.size+1) (by rfl) HRA.out (by rfl) (by simp) rfl rfl (cPr_one _) (by omega) (by omega) (by simp;omega) ?_);intro v' w4 hrow' hb4 hat4 hgr4)
             go_roundw
             case rel =>
              refine ⟨j+1,by omega,by go_num,by rw [HSN.out];exact hrow',onlyGrown (HOA2.out.alloc _) hgr4 (fun b hb=>by have:=HOB2.out b hb;omega),fun b hb=>?_⟩
              rcases hat4 with h1 | ⟨g1,h1,h2⟩
              · exact HOB2.out b (by rw [<- h1];exact hb)
              · rw [h1] at hb
                injection hb with hb
                simp at h2
                exact .inr (by omega)
             case measure=>simp [intOf];omega
           · have hxf:(l==lt)=false:=by simpa using hxy
             have HSN:=Hd_ (show C ++ rowTo g lt i (j+1)=C ++ rowTo g lt i j by rw [HRN.out hxy])
             generalize C ++ rowTo g lt i j=L at *
             go_wp2_with fail
             go_roundw
             case rel=>exact ⟨j+1,by omega,by go_num,by rw [HSN.out];exact HRA.out,HOA2.out,HOB2.out⟩
             case measure=>simp [intOf];omega
         · obtain rfl:j=(arcsOf g (i:Int)).length:=by omega
           have x0:=ocellI HON2.out x0 (by omega) (.inl (by omega))
           have x1:=ocellI HON2.out x1 (by omega) (.inl (by omega))
           have hbw:=HB2.out.trans (HON2.out.below (B:=w.heap.size) (by omega) HB2.out.size)
           have hh:=implHolds _ g wr (HGV.out.keep hbw) HGO.out i av HXI.out lt
           have hlw:w.heap.size < wr.heap.size:=by omega
           clear hrl HRL HR0 HI7 hbw
           generalize C ++ rowTo g lt i (arcsOf g (i:Int)).length=L at *
           by_cases he:lt=6+av
           · rw [show decide (lt=6+av)=true by simp [he]] at hh
             rw [if_pos he] at HNX
             have HH:=Hd_ hh
             clear hh he
             go_wp2_with fail
             refine HH.out.mono ?_
             rintro e w4 ⟨rfl,hb4⟩
             have HR4:=Hd_ (ownsRow_below HROW2.out hb4 (Nat.le_refl _))
             have HO4:=Hd_ (HON2.out.trans (Only.of_below hb4 gO (gO+1)))
             have hs4:=hb4.size
             clear hb4
             go_wp2_with (at_builtin;(refine wpList_append1 cPr elPair rfl _ _ rfl gO _ L ((i:Int),(i:Int)) _ 1 w4.heap.size (by rfl) HR4.out (by rfl) rfl rfl rfl (cPr_one _) (by omega) (by omega) (by omega) ?_);intro v' w5 hrow' hb5 hat4 hgr4)
             go_roundw
             case rel =>
              refine ⟨i+1,by omega,by go_num,by rw [HNX.out];exact hrow',onlyGrown (HO4.out.alloc _) hgr4 (fun b hb=>by have:=HOB2.out b hb;omega),fun b hb=>?_⟩
              rcases hat4 with h1 | ⟨g1,h1,h2⟩
              · exact HOB2.out b (by rw [<- h1];exact hb)
              · rw [h1] at hb
                injection hb with hb
                exact .inr (by omega)
             case measure=>simp [intOf];omega
           · rw [show decide (lt=6+av)=false by simp [he]] at hh
             rw [if_neg he,List.append_nil] at HNX
             have HH:=Hd_ hh
             clear hh he
             go_wp2_with fail
             refine HH.out.mono ?_
             rintro e w4 ⟨rfl,hb4⟩
             have HR4:=Hd_ (ownsRow_below HROW2.out hb4 (Nat.le_refl _))
             have HO4:=Hd_ (HON2.out.trans (Only.of_below hb4 gO (gO+1)))
             clear hb4
             go_wp2_with fail
             go_roundw
             case rel=>exact ⟨i+1,by omega,by go_num,by rw [HNX.out];exact HR4.out,HO4.out,HOB2.out⟩
             case measure=>simp [intOf];omega
      · obtain rfl:i=g.vals.length:=by omega
        have hown:=Own.of_row (xs:=implLet g lt g.vals.length) HROW.out rfl rfl
        have HP:=Hd_ (pairSet_any _ (implLet g lt g.vals.length) wo ((hown.sl cPr_len).all (Nat.le_refl _)) (by omega))
        rw [<- HR.out] at HP
        have HBW:=Hd_ (HB2.out.trans (HON.out.below (B:=w.heap.size) (by omega) HB2.out.size))
        clear hown
        go_wp2_with fail
        refine HP.out.mono ?_
        rintro e w5 ⟨v5,rfl,ho5,hb5⟩
        have HO:=Hd_ (ho5.mono HBW.out.size (Nat.le_refl _))
        have HB:=Hd_ (below_trans HBW.out hb5)
        obtain ⟨A9,n9,c9,rfl⟩:=ho5.shape
        clear ho5 hb5
        go_wp2_with fail
        go_ret
        exact ⟨_,rfl,HO.out,HB.out⟩
def RelOut (l:List Pr) (w:World) (e:Ending) (w':World):Prop:=∃ v',e=.returned v'/\Own w.heap.size w'.heap.size w' 57 cPr 2 v' l/\Below w.heap.size w w'
theorem RelOut.up {l:List Pr} {w w1:World} (hb:Below w.heap.size w w1) {e:Ending} {w':World} (h:RelOut l w1 e w'):RelOut l w e w':=by
 obtain ⟨v',rfl,h1,h2⟩:=h
 exact ⟨v',rfl,h1.mono hb.size (Nat.le_refl _),below_trans hb h2⟩
theorem ar_one {t:Tok} (h:ar t=some 1):t.1=6 ∨ t.1=7:=by
 unfold ar at h
 split at h
 · split at h <;> cases h
 · split at h
   · split at h <;> cases h
   · split at h
     · split at h <;> cases h
     · split at h
       · rename_i hk;exact .inl hk
       · split at h
         · rename_i hk;exact .inr hk
         · cases h
theorem ar_two {t:Tok} (h:ar t=some 2):t.1=4 ∨ t.1=5:=by
 unfold ar at h
 split at h
 · split at h <;> cases h
 · split at h
   · split at h <;> cases h
   · split at h
     · rename_i hk;exact hk
     · split at h
       · split at h <;> cases h
       · split at h
         · split at h <;> cases h
         · cases h
theorem GrV.n1 {lo hi:Nat} {w:World} {A1 A2:Option Addr} {n1 c1 n2 c2:Nat} {g:Gr} (h:GrV lo hi w (.agg #[.slice A1 n1 c1,.slice A2 n2 c2]) g):n1=g.vals.length:=by
 obtain ⟨vs,es,hv,⟨A,c,rfl,-⟩,-⟩:=h
 simp only [Value.agg.injEq,Array.mk.injEq,List.cons.injEq,Value.slice.injEq,and_true] at hv
 exact hv.1.2.1
set_option maxRecDepth 100000 in
set_option maxHeartbeats 4000000 in
theorem rel_leaf {g:Gr} {t:Tok} (hok:ar t=some 0) (b:Nat) (vg:Value) (w:World) (ht:TreeAt w none b (.leaf t)) (hgv:GrV 0 w.heap.size w vg g) :
 Calls Tryz.prog 49 #[.pointer (some ⟨b,0,none⟩),vg] w (RelOut (evalT g (.leaf t)) w):=by
 obtain ⟨R,hR⟩:∃ R,R=evalT g (.leaf t):=⟨_,rfl⟩
 rw [<- hR]
 have HR:=Hd_ hR
 clear hR
 have hk:=ar_leaf hok
 obtain ⟨tk,tl,tlo,thi⟩:=t
 simp only at hk
 have HOK:=Hd_ hok
 clear hok
 obtain ⟨A1,n1,c1,A2,n2,c2,rfl⟩:=hgv.shape
 have hn1:=hgv.n1
 have hal:=(Below.refl w.heap.size w).alloc (Nat.le_refl _) (.cells #[.slice A1 n1 c1,.slice A2 n2 c2] 40)
 have hgb:=Blk.new w 40 #[.slice A1 n1 c1,.slice A2 n2 c2] _ rfl
 have HGV:=Hd_ (hgv.keep hal)
 have HAL:=Hd_ hal
 have HT:=Hd_ (ht.below hal)
 have HN1:=Hd_ hn1
 obtain ⟨gq,hgq⟩:∃ gq,gq=w.heap.size:=⟨_,rfl⟩
 obtain ⟨W,hW⟩:∃ W,W=w.alloc (.cells #[.slice A1 n1 c1,.slice A2 n2 c2] 40):=⟨_,rfl⟩
 rw [<- hW] at hgb HGV HAL HT
 rw [<- hgq] at hgb
 have hHW:=Hd_ hW
 have hHG:=Hd_ hgq
 clear hal hgv ht hn1 hW hgq
 have g0:W.cell? ⟨gq,0,none⟩=some (.slice A1 n1 c1):=by exact hgb.cell 0
 have g1:W.cell? ⟨gq,1,none⟩=some (.slice A2 n2 c2):=by exact hgb.cell 1
 clear hgb
 obtain ⟨-,ks,hbk⟩:=HT.out
 have e0:W.cell? ⟨b,0,none⟩=some (.int .i64 tk):=by exact hbk.cell 0
 have e1:W.cell? ⟨b,1,none⟩=some (.int .i64 tl):=by exact hbk.cell 1
 clear hbk
 rcases hk with rfl | rfl | rfl
 · have hl:=World.ownsRow_lit (base:=w.heap.size) (e:=57) (size:=2) W #[] 0 HAL.out.size (by decide) rfl
   have HO:=Hd_ (Own.of_row (E:=cPr) (xs:=[]) hl rfl rfl)
   have HB:=Hd_ (below_trans HAL.out ((Below.refl W.heap.size W).alloc (Nat.le_refl _) (.cells #[] 57)))
   have hr:R=[]:=by rw [HR.out];rfl
   clear HR hl
   subst hr
   go_enter Tryz.func49,Tryz.ntmps49
   go_upto_region 1 with fail
   rw [<- hHW.out]
   rw [<- hHG.out]
   go_wp2_with fail
   go_ret
   exact ⟨_,rfl,HO.out,HB.out⟩
 · have hr:R=identityOf (n1:Int):=by rw [HR.out,HN1.out];rfl
   have HRI:=Hd_ hr
   clear HR hr
   go_enter Tryz.func49,Tryz.ntmps49
   go_upto_region 1 with fail
   rw [<- hHW.out]
   rw [<- hHG.out]
   go_wp2_with fail
   refine (implIdentity (n1:Int) _).mono ?_
   rintro e w' ⟨v',rfl,hO,hB⟩
   have HO:=Hd_ (show Own w.heap.size w'.heap.size w' 57 cPr 2 v' R by rw [HRI.out];exact hO.mono HAL.out.size (Nat.le_refl _))
   have HB:=Hd_ (below_trans HAL.out hB)
   clear hO hB
   go_wp2_with fail
   go_ret
   exact ⟨_,rfl,HO.out,HB.out⟩
 · have hr:R=letterL g tl:=by rw [HR.out];rfl
   have HRI:=Hd_ hr
   clear HR hr
   go_enter Tryz.func49,Tryz.ntmps49
   go_upto_region 1 with fail
   rw [<- hHW.out]
   rw [<- hHG.out]
   go_wp2_with fail
   refine F_start 7 (fun w'=>w'.cell? ⟨gq,0,none⟩=some (.slice A1 n1 c1)/\w'.cell? ⟨gq,1,none⟩=some (.slice A2 n2 c2)/\w'.cell? ⟨b,1,none⟩=some (.int .i64 tl)) (by kernel_rfl) (by exact ⟨g0,g1,e1⟩) (fun hS inv=>?_)
   refine F_tk 0 inv ?_
   try simp only [tA,tB,tC,Act.put,tE,tF,tG]
   clear inv;intro inv
   refine F_tk 1 inv ?_
   try simp only [tA,tB,tC,Act.put,tE,tF,tG]
   clear inv;intro inv
   refine F_tk 2 inv ?_
   try simp only [tA,tB,tC,Act.put,tE,tF,tG]
   clear inv;intro inv
   refine F_tk 3 inv ?_
   try simp only [tA,tB,tC,Act.put,tE,tF,tG]
   clear inv;intro inv
   refine F_tk 4 inv ?_
   try simp only [tA,tB,tC,Act.put,tE,tF,tG]
   clear inv;intro inv
   refine F_tk 5 inv ?_
   try simp only [tA,tB,tC,Act.put,tE,tF,tG]
   clear inv;intro inv
   have hd:=(Below.refl W.heap.size W).drew
   have HGD:=Hd_ (HGV.out.keep hd)
   have HD:=Hd_ (below_trans HAL.out hd)
   clear hd g0 g1 e0 e1
   refine F_o1 6 inv ?_;intro K hK
   try simp only [tA,tB,tC]
   go_simp
   refine (implLetter _ g tl _ HGD.out).mono ?_
   rintro e w' ⟨v',rfl,hO,hB⟩
   have HO:=Hd_ (show Own w.heap.size w'.heap.size w' 57 cPr 2 v' R by rw [HRI.out];exact hO.mono HAL.out.size (Nat.le_refl _))
   have HBB:=Hd_ hB
   have HB:=Hd_ (below_trans HD.out hB)
   clear hO hB
   refine hK.out _ _ (⟨kcell HBB.out hS.1,kcell HBB.out hS.2.1,kcell HBB.out hS.2.2⟩) (fun _ _=>?_)
   try simp only [tA,tB,tC,Act.put,tE,tF,tG]
   clear hK K inv hS;rename_i hS inv
   refine F_l1 7 ?_;intro K hK
   go_simp
   refine hK _ _ ?_
   clear hK K
   go_wp2_with fail
   go_ret
   exact ⟨_,rfl,HO.out,HB.out⟩
/-- a call of the relation, further down the tree -/
def RelIH (g:Gr) (r:Tr):Prop:=∀ (b:Nat) (vg:Value) (w:World),TreeAt w none b r->GrV 0 w.heap.size w vg g->Calls Tryz.prog 49 #[.pointer (some ⟨b,0,none⟩),vg] w (RelOut (evalT g r) w)
set_option maxRecDepth 100000 in
set_option maxHeartbeats 8000000 in
theorem rel_un {g:Gr} (hg:GrOk g) {t:Tok} {a:Tr} (hok:ar t=some 1) (ih:RelIH g a) (b:Nat) (vg:Value) (w:World) (ht:TreeAt w none b (.un t a)) (hgv:GrV 0 w.heap.size w vg g) :
 Calls Tryz.prog 49 #[.pointer (some ⟨b,0,none⟩),vg] w (RelOut (evalT g (.un t a)) w):=by
 obtain ⟨R,hR⟩:∃ R,R=evalT g (.un t a):=⟨_,rfl⟩
 rw [<- hR]
 have HR:=Hd_ hR
 clear hR
 have hk:=ar_one hok
 obtain ⟨tk,tl,tlo,thi⟩:=t
 simp only at hk
 have HIH:=Hd_ ih
 have HLN:=Hd_ (eval_len hg a)
 clear hok ih hg
 obtain ⟨A1,n1,c1,A2,n2,c2,rfl⟩:=hgv.shape
 have hn1:=hgv.n1
 have hal:=(Below.refl w.heap.size w).alloc (Nat.le_refl _) (.cells #[.slice A1 n1 c1,.slice A2 n2 c2] 40)
 have hgb:=Blk.new w 40 #[.slice A1 n1 c1,.slice A2 n2 c2] _ rfl
 have HGV:=Hd_ (hgv.keep hal)
 have HAL:=Hd_ hal
 have HT:=Hd_ (ht.below hal)
 have HN1:=Hd_ hn1
 obtain ⟨gq,hgq⟩:∃ gq,gq=w.heap.size:=⟨_,rfl⟩
 obtain ⟨W,hW⟩:∃ W,W=w.alloc (.cells #[.slice A1 n1 c1,.slice A2 n2 c2] 40):=⟨_,rfl⟩
 rw [<- hW] at hgb HGV HAL HT
 rw [<- hgq] at hgb
 have hHW:=Hd_ hW
 have hHG:=Hd_ hgq
 clear hal hgv ht hn1 hW hgq
 have g0:W.cell? ⟨gq,0,none⟩=some (.slice A1 n1 c1):=by exact hgb.cell 0
 have g1:W.cell? ⟨gq,1,none⟩=some (.slice A2 n2 c2):=by exact hgb.cell 1
 clear hgb
 obtain ⟨-,q,o,c,p,hbk,-,hql,hcp,hta⟩:=HT.out
 have e0:W.cell? ⟨b,0,none⟩=some (.int .i64 tk):=by exact hbk.cell 0
 have e2:W.cell? ⟨b,2,none⟩=some (.int .i64 tlo):=by exact hbk.cell 2
 have e3:W.cell? ⟨b,3,none⟩=some (.int .i64 thi):=by exact hbk.cell 3
 have e4:W.cell? ⟨b,4,none⟩=some (.slice (some ⟨q,o,none⟩) 1 c):=by exact hbk.cell 4
 have p0:=hcp
 have HTA:=Hd_ hta
 clear hbk hcp hta HT hql
 rcases hk with rfl | rfl
 · have hr:R=closureL (n1:Int) (evalT g a):=by rw [HR.out,HN1.out];rfl
   have HRI:=Hd_ hr
   clear HR hr
   go_enter Tryz.func49,Tryz.ntmps49
   go_upto_region 1 with fail
   rw [<- hHW.out]
   rw [<- hHG.out]
   go_wp2_with fail
   refine F_start 10 (fun w'=>w'.cell? ⟨gq,0,none⟩=some (.slice A1 n1 c1)/\w'.cell? ⟨gq,1,none⟩=some (.slice A2 n2 c2)/\w'.cell? ⟨b,4,none⟩=some (.slice (some ⟨q,o,none⟩) 1 c)/\w'.cell? ⟨q,o,none⟩=some (.pointer (some ⟨p,0,none⟩))) (by kernel_rfl) (by exact ⟨g0,g1,e4,p0⟩) (fun hS inv=>?_)
   refine F_tk 0 inv ?_
   try simp only [tA,tB,tC,Act.put,tE,tF,tG]
   clear inv;intro inv
   refine F_tk 1 inv ?_
   try simp only [tA,tB,tC,Act.put,tE,tF,tG]
   clear inv;intro inv
   refine F_tk 2 inv ?_
   try simp only [tA,tB,tC,Act.put,tE,tF,tG]
   clear inv;intro inv
   refine F_tk 3 inv ?_
   try simp only [tA,tB,tC,Act.put,tE,tF,tG]
   clear inv;intro inv
   refine F_tk 4 inv ?_
   try simp only [tA,tB,tC,Act.put,tE,tF,tG]
   clear inv;intro inv
   refine F_tk 5 inv ?_
   try simp only [tA,tB,tC,Act.put,tE,tF,tG]
   clear inv;intro inv
   refine F_tk 6 inv ?_
   try simp only [tA,tB,tC,Act.put,tE,tF,tG]
   clear inv;intro inv
   refine F_tk 7 inv ?_
   try simp only [tA,tB,tC,Act.put,tE,tF,tG]
   clear inv;intro inv
   have hd:=(Below.refl W.heap.size W).drew
   have HGD:=Hd_ (HGV.out.keep hd)
   have HTD:=Hd_ (HTA.out.below hd)
   have HD:=Hd_ (below_trans HAL.out hd)
   clear hd g0 g1 e0 e2 e3 e4 p0 HTA HGV
   refine F_o1 8 inv ?_;intro K hK
   try simp only [tA,tB,tC]
   go_simp
   refine ((HIH).out _ _ _ HTD.out HGD.out).mono ?_
   rintro e w3 ⟨v3,rfl,hO,hB⟩
   have HV3:=Hd_ ((hO.sl cPr_len).mono (lo':=0) (Nat.zero_le _) (Nat.le_refl _))
   have HB3:=Hd_ hB
   clear hO hB
   refine hK.out _ _ (⟨kcell HB3.out hS.1,kcell HB3.out hS.2.1,kcell HB3.out hS.2.2.1,kcell HB3.out hS.2.2.2⟩) (fun _ _=>?_)
   try simp only [tA,tB,tC,Act.put,tE,tF,tG]
   clear hK K inv hS;rename_i hS inv
   refine F_o1 9 inv ?_;intro K hK
   try simp only [tA,tB,tC]
   go_simp
   refine (implClosure (n1:Int) _ _ _ HV3.out (Nat.le_trans HLN.out (by omega))).mono ?_
   rintro e w4 ⟨v4,rfl,hO,hB⟩
   have HO:=Hd_ (show Own w.heap.size w4.heap.size w4 57 cPr 2 v4 R by rw [HRI.out];exact hO.mono (below_trans HD.out HB3.out).size (Nat.le_refl _))
   have HBB:=Hd_ hB
   have HB:=Hd_ (below_trans (below_trans HD.out HB3.out) hB)
   clear hO hB
   refine hK.out _ _ (⟨kcell HBB.out hS.1,kcell HBB.out hS.2.1,kcell HBB.out hS.2.2.1,kcell HBB.out hS.2.2.2⟩) (fun _ _=>?_)
   try simp only [tA,tB,tC,Act.put,tE,tF,tG]
   clear hK K inv hS;rename_i hS inv
   refine F_l1 10 ?_;intro K hK
   go_simp
   refine hK _ _ ?_
   clear hK K
   go_wp2_with fail
   go_ret
   exact ⟨_,rfl,HO.out,HB.out⟩
 · have hr:R=powerL (n1:Int) (evalT g a) tlo thi:=by rw [HR.out,HN1.out];rfl
   have HRI:=Hd_ hr
   clear HR hr
   go_enter Tryz.func49,Tryz.ntmps49
   go_upto_region 1 with fail
   rw [<- hHW.out]
   rw [<- hHG.out]
   go_wp2_with fail
   refine F_start 20 (fun w'=>w'.cell? ⟨gq,0,none⟩=some (.slice A1 n1 c1)/\w'.cell? ⟨gq,1,none⟩=some (.slice A2 n2 c2)/\w'.cell? ⟨b,2,none⟩=some (.int .i64 tlo)/\w'.cell? ⟨b,3,none⟩=some (.int .i64 thi)/\w'.cell? ⟨b,4,none⟩=some (.slice (some ⟨q,o,none⟩) 1 c)/\w'.cell? ⟨q,o,none⟩=some (.pointer (some ⟨p,0,none⟩))) (by kernel_rfl) (by exact ⟨g0,g1,e2,e3,e4,p0⟩) (fun hS inv=>?_)
   refine F_tk 0 inv ?_
   try simp only [tA,tB,tC,Act.put,tE,tF,tG]
   clear inv;intro inv
   refine F_tk 1 inv ?_
   try simp only [tA,tB,tC,Act.put,tE,tF,tG]
   clear inv;intro inv
   refine F_tk 2 inv ?_
   try simp only [tA,tB,tC,Act.put,tE,tF,tG]
   clear inv;intro inv
   refine F_tk 3 inv ?_
   try simp only [tA,tB,tC,Act.put,tE,tF,tG]
   clear inv;intro inv
   refine F_tk 4 inv ?_
   try simp only [tA,tB,tC,Act.put,tE,tF,tG]
   clear inv;intro inv
   refine F_tk 5 inv ?_
   try simp only [tA,tB,tC,Act.put,tE,tF,tG]
   clear inv;intro inv
   refine F_tk 6 inv ?_
   try simp only [tA,tB,tC,Act.put,tE,tF,tG]
   clear inv;intro inv
   refine F_tk 7 inv ?_
   try simp only [tA,tB,tC,Act.put,tE,tF,tG]
   clear inv;intro inv
   refine F_tk 9 inv ?_
   try simp only [tA,tB,tC,Act.put,tE,tF,tG]
   clear inv;intro inv
   refine F_tk 10 inv ?_
   try simp only [tA,tB,tC,Act.put,tE,tF,tG]
   clear inv;intro inv
   refine F_tk 11 inv ?_
   try simp only [tA,tB,tC,Act.put,tE,tF,tG]
   clear inv;intro inv
   refine F_tk 12 inv ?_
   try simp only [tA,tB,tC,Act.put,tE,tF,tG]
   clear inv;intro inv
   refine F_tk 13 inv ?_
   try simp only [tA,tB,tC,Act.put,tE,tF,tG]
   clear inv;intro inv
   refine F_tk 14 inv ?_
   try simp only [tA,tB,tC,Act.put,tE,tF,tG]
   clear inv;intro inv
   refine F_tk 15 inv ?_
   try simp only [tA,tB,tC,Act.put,tE,tF,tG]
   clear inv;intro inv
   refine F_tk 16 inv ?_
   try simp only [tA,tB,tC,Act.put,tE,tF,tG]
   clear inv;intro inv
   refine F_tk 17 inv ?_
   try simp only [tA,tB,tC,Act.put,tE,tF,tG]
   clear inv;intro inv
   refine F_tk 18 inv ?_
   try simp only [tA,tB,tC,Act.put,tE,tF,tG]
   clear inv;intro inv
   have hd:=(Below.refl W.heap.size W).drew
   have HGD:=Hd_ (HGV.out.keep hd)
   have HTD:=Hd_ (HTA.out.below hd)
   have HD:=Hd_ (below_trans HAL.out hd)
   clear hd g0 g1 e0 e2 e3 e4 p0 HTA HGV
   refine F_o1 8 inv ?_;intro K hK
   try simp only [tA,tB,tC]
   go_simp
   refine ((HIH).out _ _ _ HTD.out HGD.out).mono ?_
   rintro e w3 ⟨v3,rfl,hO,hB⟩
   have HV3:=Hd_ ((hO.sl cPr_len).mono (lo':=0) (Nat.zero_le _) (Nat.le_refl _))
   have HB3:=Hd_ hB
   clear hO hB
   refine hK.out _ _ (⟨kcell HB3.out hS.1,kcell HB3.out hS.2.1,kcell HB3.out hS.2.2.1,kcell HB3.out hS.2.2.2.1,kcell HB3.out hS.2.2.2.2.1,kcell HB3.out hS.2.2.2.2.2⟩) (fun _ _=>?_)
   try simp only [tA,tB,tC,Act.put,tE,tF,tG]
   clear hK K inv hS;rename_i hS inv
   refine F_o1 19 inv ?_;intro K hK
   try simp only [tA,tB,tC]
   go_simp
   refine (implPower (n1:Int) _ _ tlo thi _ HV3.out (Nat.le_trans HLN.out (by omega))).mono ?_
   rintro e w4 ⟨v4,rfl,hO,hB⟩
   have HO:=Hd_ (show Own w.heap.size w4.heap.size w4 57 cPr 2 v4 R by rw [HRI.out];exact hO.mono (below_trans HD.out HB3.out).size (Nat.le_refl _))
   have HBB:=Hd_ hB
   have HB:=Hd_ (below_trans (below_trans HD.out HB3.out) hB)
   clear hO hB
   refine hK.out _ _ (⟨kcell HBB.out hS.1,kcell HBB.out hS.2.1,kcell HBB.out hS.2.2.1,kcell HBB.out hS.2.2.2.1,kcell HBB.out hS.2.2.2.2.1,kcell HBB.out hS.2.2.2.2.2⟩) (fun _ _=>?_)
   try simp only [tA,tB,tC,Act.put,tE,tF,tG]
   clear hK K inv hS;rename_i hS inv
   refine F_l1 20 ?_;intro K hK
   go_simp
   refine hK _ _ ?_
   clear hK K
   go_wp2_with fail
   go_ret
   exact ⟨_,rfl,HO.out,HB.out⟩
set_option maxRecDepth 100000 in
set_option maxHeartbeats 8000000 in
theorem rel_bin {g:Gr} (hg:GrOk g) {t:Tok} {a d:Tr} (hok:ar t=some 2) (iha:RelIH g a) (ihd:RelIH g d) (b:Nat) (vg:Value) (w:World) (ht:TreeAt w none b (.bin t a d)) (hgv:GrV 0 w.heap.size w vg g) :
 Calls Tryz.prog 49 #[.pointer (some ⟨b,0,none⟩),vg] w (RelOut (evalT g (.bin t a d)) w):=by
 obtain ⟨R,hR⟩:∃ R,R=evalT g (.bin t a d):=⟨_,rfl⟩
 rw [<- hR]
 have HR:=Hd_ hR
 clear hR
 have hk:=ar_two hok
 obtain ⟨tk,tl,tlo,thi⟩:=t
 simp only at hk
 have HIA:=Hd_ iha
 have HID:=Hd_ ihd
 have HLA:=Hd_ (eval_len hg a)
 have HLD:=Hd_ (eval_len hg d)
 clear hok iha ihd hg
 obtain ⟨A1,n1,c1,A2,n2,c2,rfl⟩:=hgv.shape
 have hn1:=hgv.n1
 have hal:=(Below.refl w.heap.size w).alloc (Nat.le_refl _) (.cells #[.slice A1 n1 c1,.slice A2 n2 c2] 40)
 have hgb:=Blk.new w 40 #[.slice A1 n1 c1,.slice A2 n2 c2] _ rfl
 have HGV:=Hd_ (hgv.keep hal)
 have HAL:=Hd_ hal
 have HT:=Hd_ (ht.below hal)
 have HN1:=Hd_ hn1
 obtain ⟨gq,hgq⟩:∃ gq,gq=w.heap.size:=⟨_,rfl⟩
 obtain ⟨W,hW⟩:∃ W,W=w.alloc (.cells #[.slice A1 n1 c1,.slice A2 n2 c2] 40):=⟨_,rfl⟩
 rw [<- hW] at hgb HGV HAL HT
 rw [<- hgq] at hgb
 have hHW:=Hd_ hW
 have hHG:=Hd_ hgq
 clear hal hgv ht hn1 hW hgq
 have g0:W.cell? ⟨gq,0,none⟩=some (.slice A1 n1 c1):=by exact hgb.cell 0
 have g1:W.cell? ⟨gq,1,none⟩=some (.slice A2 n2 c2):=by exact hgb.cell 1
 clear hgb
 obtain ⟨-,q,o,c,p,p',hbk,-,hql,hcp,hcq,hta,htb⟩:=HT.out
 have e0:W.cell? ⟨b,0,none⟩=some (.int .i64 tk):=by exact hbk.cell 0
 have e4:W.cell? ⟨b,4,none⟩=some (.slice (some ⟨q,o,none⟩) 2 c):=by exact hbk.cell 4
 have p0:=hcp
 have p1:=hcq
 have HTA:=Hd_ hta
 have HTB:=Hd_ htb
 clear hbk hcp hcq hta htb HT hql
 rcases hk with rfl | rfl
 · have hr:R=composeL (evalT g a) (evalT g d):=by rw [HR.out];rfl
   have HRI:=Hd_ hr
   clear HR hr
   go_enter Tryz.func49,Tryz.ntmps49
   go_upto_region 1 with fail
   rw [<- hHW.out]
   rw [<- hHG.out]
   go_wp2_with fail
   refine F_start 17 (fun w'=>w'.cell? ⟨gq,0,none⟩=some (.slice A1 n1 c1)/\w'.cell? ⟨gq,1,none⟩=some (.slice A2 n2 c2)/\w'.cell? ⟨b,4,none⟩=some (.slice (some ⟨q,o,none⟩) 2 c)/\w'.cell? ⟨q,o,none⟩=some (.pointer (some ⟨p,0,none⟩))/\w'.cell? ⟨q,o+1,none⟩=some (.pointer (some ⟨p',0,none⟩))) (by kernel_rfl) (by exact ⟨g0,g1,e4,p0,p1⟩) (fun hS inv=>?_)
   refine F_tk 0 inv ?_
   try simp only [tA,tB,tC,Act.put,tE,tF,tG]
   clear inv;intro inv
   refine F_tk 1 inv ?_
   try simp only [tA,tB,tC,Act.put,tE,tF,tG]
   clear inv;intro inv
   refine F_tk 2 inv ?_
   try simp only [tA,tB,tC,Act.put,tE,tF,tG]
   clear inv;intro inv
   refine F_tk 3 inv ?_
   try simp only [tA,tB,tC,Act.put,tE,tF,tG]
   clear inv;intro inv
   refine F_tk 4 inv ?_
   try simp only [tA,tB,tC,Act.put,tE,tF,tG]
   clear inv;intro inv
   refine F_tk 5 inv ?_
   try simp only [tA,tB,tC,Act.put,tE,tF,tG]
   clear inv;intro inv
   refine F_tk 6 inv ?_
   try simp only [tA,tB,tC,Act.put,tE,tF,tG]
   clear inv;intro inv
   refine F_tk 8 inv ?_
   try simp only [tA,tB,tC,Act.put,tE,tF,tG]
   clear inv;intro inv
   refine F_tk 9 inv ?_
   try simp only [tA,tB,tC,Act.put,tE,tF,tG]
   clear inv;intro inv
   refine F_tk 10 inv ?_
   try simp only [tA,tB,tC,Act.put,tE,tF,tG]
   clear inv;intro inv
   refine F_tk 11 inv ?_
   try simp only [tA,tB,tC,Act.put,tE,tF,tG]
   clear inv;intro inv
   refine F_tk 12 inv ?_
   try simp only [tA,tB,tC,Act.put,tE,tF,tG]
   clear inv;intro inv
   refine F_tk 13 inv ?_
   try simp only [tA,tB,tC,Act.put,tE,tF,tG]
   clear inv;intro inv
   refine F_tk 14 inv ?_
   try simp only [tA,tB,tC,Act.put,tE,tF,tG]
   clear inv;intro inv
   have hd:=(Below.refl W.heap.size W).drew
   have HGD:=Hd_ (HGV.out.keep hd)
   have HTD:=Hd_ (HTA.out.below hd)
   have HTE:=Hd_ (HTB.out.below hd)
   have HD:=Hd_ (below_trans HAL.out hd)
   clear hd g0 g1 e0 e4 p0 p1 HTA HTB HGV
   refine F_o1 7 inv ?_;intro K hK
   try simp only [tA,tB,tC]
   go_simp
   refine ((HIA).out _ _ _ HTD.out HGD.out).mono ?_
   rintro e w3 ⟨v3,rfl,hO,hB⟩
   have HV3:=Hd_ ((hO.sl cPr_len).mono (lo':=0) (Nat.zero_le _) (Nat.le_refl _))
   have HB3:=Hd_ hB
   clear hO hB
   refine hK.out _ _ (⟨kcell HB3.out hS.1,kcell HB3.out hS.2.1,kcell HB3.out hS.2.2.1,kcell HB3.out hS.2.2.2.1,kcell HB3.out hS.2.2.2.2⟩) (fun _ _=>?_)
   try simp only [tA,tB,tC,Act.put,tE,tF,tG]
   clear hK K inv hS;rename_i hS inv
   have HGD:=Hd_ (HGD.out.keep HB3.out)
   have HTE:=Hd_ (HTE.out.below HB3.out)
   refine F_o1 15 inv ?_;intro K hK
   try simp only [tA,tB,tC]
   go_simp
   refine ((HID).out _ _ _ HTE.out HGD.out).mono ?_
   rintro e w4 ⟨v4,rfl,hO,hB⟩
   have HV4:=Hd_ ((hO.sl cPr_len).mono (lo':=0) (Nat.zero_le _) (Nat.le_refl _))
   have HB4:=Hd_ hB
   clear hO hB
   refine hK.out _ _ (⟨kcell HB4.out hS.1,kcell HB4.out hS.2.1,kcell HB4.out hS.2.2.1,kcell HB4.out hS.2.2.2.1,kcell HB4.out hS.2.2.2.2⟩) (fun _ _=>?_)
   try simp only [tA,tB,tC,Act.put,tE,tF,tG]
   clear hK K inv hS;rename_i hS inv
   have HV3:=Hd_ (SlE.keep HV3.out HB4.out)
   refine F_o1 16 inv ?_;intro K hK
   try simp only [tA,tB,tC]
   go_simp
   refine (implCompose _ _ _ _ _ HV3.out HV4.out (Nat.le_trans HLA.out (by omega)) (Nat.le_trans HLD.out (by omega))).mono ?_
   rintro e w5 ⟨v5,rfl,hO,hB⟩
   have HO:=Hd_ (show Own w.heap.size w5.heap.size w5 57 cPr 2 v5 R by rw [HRI.out];exact hO.mono (below_trans (below_trans HD.out HB3.out) HB4.out).size (Nat.le_refl _))
   have HBB:=Hd_ hB
   have HB:=Hd_ (below_trans (below_trans (below_trans HD.out HB3.out) HB4.out) hB)
   clear hO hB
   refine hK.out _ _ (⟨kcell HBB.out hS.1,kcell HBB.out hS.2.1,kcell HBB.out hS.2.2.1,kcell HBB.out hS.2.2.2.1,kcell HBB.out hS.2.2.2.2⟩) (fun _ _=>?_)
   try simp only [tA,tB,tC,Act.put,tE,tF,tG]
   clear hK K inv hS;rename_i hS inv
   refine F_l1 17 ?_;intro K hK
   go_simp
   refine hK _ _ ?_
   clear hK K
   go_wp2_with fail
   go_ret
   exact ⟨_,rfl,HO.out,HB.out⟩
 · have hr:R=mergeL (evalT g a) (evalT g d):=by rw [HR.out];rfl
   have HRI:=Hd_ hr
   clear HR hr
   go_enter Tryz.func49,Tryz.ntmps49
   go_upto_region 1 with fail
   rw [<- hHW.out]
   rw [<- hHG.out]
   go_wp2_with fail
   refine F_start 17 (fun w'=>w'.cell? ⟨gq,0,none⟩=some (.slice A1 n1 c1)/\w'.cell? ⟨gq,1,none⟩=some (.slice A2 n2 c2)/\w'.cell? ⟨b,4,none⟩=some (.slice (some ⟨q,o,none⟩) 2 c)/\w'.cell? ⟨q,o,none⟩=some (.pointer (some ⟨p,0,none⟩))/\w'.cell? ⟨q,o+1,none⟩=some (.pointer (some ⟨p',0,none⟩))) (by kernel_rfl) (by exact ⟨g0,g1,e4,p0,p1⟩) (fun hS inv=>?_)
   refine F_tk 0 inv ?_
   try simp only [tA,tB,tC,Act.put,tE,tF,tG]
   clear inv;intro inv
   refine F_tk 1 inv ?_
   try simp only [tA,tB,tC,Act.put,tE,tF,tG]
   clear inv;intro inv
   refine F_tk 2 inv ?_
   try simp only [tA,tB,tC,Act.put,tE,tF,tG]
   clear inv;intro inv
   refine F_tk 3 inv ?_
   try simp only [tA,tB,tC,Act.put,tE,tF,tG]
   clear inv;intro inv
   refine F_tk 4 inv ?_
   try simp only [tA,tB,tC,Act.put,tE,tF,tG]
   clear inv;intro inv
   refine F_tk 5 inv ?_
   try simp only [tA,tB,tC,Act.put,tE,tF,tG]
   clear inv;intro inv
   refine F_tk 6 inv ?_
   try simp only [tA,tB,tC,Act.put,tE,tF,tG]
   clear inv;intro inv
   refine F_tk 8 inv ?_
   try simp only [tA,tB,tC,Act.put,tE,tF,tG]
   clear inv;intro inv
   refine F_tk 9 inv ?_
   try simp only [tA,tB,tC,Act.put,tE,tF,tG]
   clear inv;intro inv
   refine F_tk 10 inv ?_
   try simp only [tA,tB,tC,Act.put,tE,tF,tG]
   clear inv;intro inv
   refine F_tk 11 inv ?_
   try simp only [tA,tB,tC,Act.put,tE,tF,tG]
   clear inv;intro inv
   refine F_tk 12 inv ?_
   try simp only [tA,tB,tC,Act.put,tE,tF,tG]
   clear inv;intro inv
   refine F_tk 13 inv ?_
   try simp only [tA,tB,tC,Act.put,tE,tF,tG]
   clear inv;intro inv
   refine F_tk 14 inv ?_
   try simp only [tA,tB,tC,Act.put,tE,tF,tG]
   clear inv;intro inv
   have hd:=(Below.refl W.heap.size W).drew
   have HGD:=Hd_ (HGV.out.keep hd)
   have HTD:=Hd_ (HTA.out.below hd)
   have HTE:=Hd_ (HTB.out.below hd)
   have HD:=Hd_ (below_trans HAL.out hd)
   clear hd g0 g1 e0 e4 p0 p1 HTA HTB HGV
   refine F_o1 7 inv ?_;intro K hK
   try simp only [tA,tB,tC]
   go_simp
   refine ((HIA).out _ _ _ HTD.out HGD.out).mono ?_
   rintro e w3 ⟨v3,rfl,hO,hB⟩
   have HV3:=Hd_ ((hO.sl cPr_len).mono (lo':=0) (Nat.zero_le _) (Nat.le_refl _))
   have HB3:=Hd_ hB
   clear hO hB
   refine hK.out _ _ (⟨kcell HB3.out hS.1,kcell HB3.out hS.2.1,kcell HB3.out hS.2.2.1,kcell HB3.out hS.2.2.2.1,kcell HB3.out hS.2.2.2.2⟩) (fun _ _=>?_)
   try simp only [tA,tB,tC,Act.put,tE,tF,tG]
   clear hK K inv hS;rename_i hS inv
   have HGD:=Hd_ (HGD.out.keep HB3.out)
   have HTE:=Hd_ (HTE.out.below HB3.out)
   refine F_o1 15 inv ?_;intro K hK
   try simp only [tA,tB,tC]
   go_simp
   refine ((HID).out _ _ _ HTE.out HGD.out).mono ?_
   rintro e w4 ⟨v4,rfl,hO,hB⟩
   have HV4:=Hd_ ((hO.sl cPr_len).mono (lo':=0) (Nat.zero_le _) (Nat.le_refl _))
   have HB4:=Hd_ hB
   clear hO hB
   refine hK.out _ _ (⟨kcell HB4.out hS.1,kcell HB4.out hS.2.1,kcell HB4.out hS.2.2.1,kcell HB4.out hS.2.2.2.1,kcell HB4.out hS.2.2.2.2⟩) (fun _ _=>?_)
   try simp only [tA,tB,tC,Act.put,tE,tF,tG]
   clear hK K inv hS;rename_i hS inv
   have HV3:=Hd_ (SlE.keep HV3.out HB4.out)
   refine F_o1 16 inv ?_;intro K hK
   try simp only [tA,tB,tC]
   go_simp
   refine (implMerge _ _ _ _ _ HV3.out HV4.out (Nat.le_trans HLA.out (by omega)) (Nat.le_trans HLD.out (by omega))).mono ?_
   rintro e w5 ⟨v5,rfl,hO,hB⟩
   have HO:=Hd_ (show Own w.heap.size w5.heap.size w5 57 cPr 2 v5 R by rw [HRI.out];exact hO.mono (below_trans (below_trans HD.out HB3.out) HB4.out).size (Nat.le_refl _))
   have HBB:=Hd_ hB
   have HB:=Hd_ (below_trans (below_trans (below_trans HD.out HB3.out) HB4.out) hB)
   clear hO hB
   refine hK.out _ _ (⟨kcell HBB.out hS.1,kcell HBB.out hS.2.1,kcell HBB.out hS.2.2.1,kcell HBB.out hS.2.2.2.1,kcell HBB.out hS.2.2.2.2⟩) (fun _ _=>?_)
   try simp only [tA,tB,tC,Act.put,tE,tF,tG]
   clear hK K inv hS;rename_i hS inv
   refine F_l1 17 ?_;intro K hK
   go_simp
   refine hK _ _ ?_
   clear hK K
   go_wp2_with fail
   go_ret
   exact ⟨_,rfl,HO.out,HB.out⟩
theorem relation_any {g:Gr} (hg:GrOk g):∀ {r:Tr},r.ok->RelIH g r
 | .leaf _,h=>fun b vg w ht hgv=>rel_leaf h b vg w ht hgv
 | .un _ _,h=>fun b vg w ht hgv=>rel_un hg h.1 (relation_any hg h.2) b vg w ht hgv
 | .bin _ _ _,h=>fun b vg w ht hgv=>rel_bin hg h.1 (relation_any hg h.2.1) (relation_any hg h.2.2) b vg w ht hgv
end Go.Proofs.YtloeghbhoflabaaGreat
