/- Parts of the proof, joined into one text: RelI, Merg, Ident, Clos, Powr, EvalM, SubS, RelQ, RelL, RevM, RelR, EvalQ, RlsM, SizeM, SzE, SetI, TokI. -/
import Derived.Test.YtloeghbhoflabaaGreatOnlzMBOLNCNE
import Derived.Test.YtloeghbhoflabaaGreatOnlzMBBPDBAM
import Derived.Test.YtloeghbhoflabaaGreatOnlzIEACLFLD
import Derived.Deep.Cut
import Derived.Test.YtloeghbhoflabaaGreatOnlzNPPBGEHB
import Derived.Laws.StructEq
set_option linter.unusedVariables false
set_option linter.unusedSimpArgs false
namespace Go.Proofs.YtloeghbhoflabaaGreat
open Go.ChangeShapes Go.WideShapes Go.ChangeAt Go.RowKit
attribute [local go_sem] ext_cell ext_frozen ext_lt ext_lt1 ext_lt2 ext_lt3 ltn2 ltn3 ltn13 lts1 lts2 lts3
theorem ocellI {lo hi:Nat} {w w':World} (h:Only lo hi w w') {b o:Nat} {v:Value} (hc:w.cell? ⟨b,o,none⟩=some v) (hb:b < w.heap.size) (ho:b < lo ∨ hi<=b):w'.cell? ⟨b,o,none⟩=some v:=(h.cell (p:=⟨b,o,none⟩) hb ho).trans hc
theorem onlyGrown {lo hi:Nat} {a w w':World} {row:Option Nat} (h:Only lo hi a w) (hg:w.grownBy w' row) (hr:∀ b,row=some b->(lo<=b/\b < hi) ∨ a.heap.size<=b):Only lo hi a w' :=
 ⟨hg.os.trans h.os,hg.tape.trans h.tape,hg.output.trans h.output,Nat.le_trans h.size hg.size,fun n hn ho=>(hg.block n (Nat.lt_of_lt_of_le hn h.size) (fun e=>by have:=hr n e.symm;omega)).trans (h.block n hn ho)⟩
theorem own_blk {W:World} {base k n:Nat} {e:TypeId} {v:Value} {cs:List Value} (h:W.ownsRow base e k v n cs) {b:Nat} (hb:v.ownBlock=some b):∃ c,v=.slice (some ⟨b,0,none⟩) n c:=by
 obtain ⟨_,hs⟩:=h
 rcases hs with ⟨rfl,_⟩ | ⟨g,cap,cur,rfl,_⟩
 · cases hb
 · injection hb with hb
   subst hb
   exact ⟨cap,rfl⟩
set_option maxHeartbeats 2000000 in
theorem pairSet_any (v:Value) (xs:List Pr) (w:World) (hv:SlE w cPr 2 v xs) (hn:xs.length<=1099511627776) :
 Calls Tryz.prog 26 #[v] w fun e w'=>∃ v',e=.returned v'/\Own w.heap.size w'.heap.size w' 57 cPr 2 v' (psetL xs)/\Below w.heap.size w w':=by
 have hv0:=hv
 obtain ⟨A,c,rfl,hl,hm,-⟩:=hv
 unfold maxLen at hm
 have hba:Below w.heap.size w (w.alloc (.cells #[] 57)):=(Below.refl _ _).alloc (Nat.le_refl _) _
 have hv1:=SlE.keep hv0 hba
 have hrow:=World.ownsRow_lit (base:=w.heap.size) (e:=57) (size:=2) w #[] 0 (Nat.le_refl _) (by decide) rfl
 obtain ⟨R,hR⟩:∃ R,R=psetL xs:=⟨_,rfl⟩
 rw [<- hR]
 have HRS:=Hd_ hR
 have HV:=Hd_ hv1
 have HR:=Hd_ hrow
 have HBA:=Hd_ hba
 clear hv0 hv1 hrow hR hba
 go_enter Tryz.func26,Tryz.ntmps26
 go_wp2_with (at_builtin;(refine wpList_appendL cPr elPair cPr_len cPr_one rfl _ _ rfl w.heap.size _ [] xs (by rfl) HR.out 0 _ _ (by rfl) HV.out (by simp;omega) (by omega) (by simp) ?_);intro v' w4 hrow' hgr4 hat4)
 simp only [List.nil_append] at hrow'
 have hb4:=HBA.out.trans (own_below HR.out (by simp) hgr4)
 have hob:∃ b,v'.ownBlock=some b:=by
  rcases hat4 with h | h
  · exact ⟨w.heap.size,h⟩
  · exact ⟨_,h⟩
 obtain ⟨g,hob⟩:=hob
 obtain ⟨c',rfl⟩:=own_blk hrow' hob
 have HS:=Hd_ (sortPairs_any w.heap.size g c' xs w4 hrow' (by omega))
 have HB4:=Hd_ hb4
 have hg1:=(hrow'.lt g rfl).1
 have hg2:=(hrow'.lt g rfl).2
 clear hrow' hgr4 hat4 hob hb4
 refine HS.out.mono ?_
 rintro e w5 ⟨rfl,ys,hyl,hym,hys,hrow5,hon5⟩
 have hset:=compTo_set hys hym
 rw [<- HRS.out] at hset
 rw [<- hyl] at hrow5
 have HC:=Hd_ (compactP_any w.heap.size g c' ys w5 hrow5 (by omega))
 rw [hset] at HC
 have HB5:=Hd_ (HB4.out.trans (hon5.below (B:=w.heap.size) hg1 (by omega)))
 have hs5:=hon5.size
 rw [<- hyl]
 clear hset hrow5 hon5 hys hym hyl HS
 go_wp2_with fail
 refine HC.out.mono ?_
 rintro e w6 ⟨m,rfl,hrow6,hon6⟩
 have HO:=Hd_ (Own.of_row (xs:=R) hrow6 rfl rfl)
 have HB6:=Hd_ (HB5.out.trans (hon6.below (B:=w.heap.size) hg1 (by omega)))
 clear hrow6 hon6
 go_wp2_with fail
 go_ret
 exact ⟨_,rfl,HO.out,HB6.out⟩
set_option maxHeartbeats 2000000 in
theorem implInvert (v:Value) (xs:List Pr) (w:World) (hv:SlE w cPr 2 v xs) (hn:xs.length<=1048576) :
 Calls Tryz.prog 9 #[v] w fun e w'=>∃ v',e=.returned v'/\Own w.heap.size w'.heap.size w' 57 cPr 2 v' (invertL xs)/\Below w.heap.size w w':=by
 have hsl:=hv
 obtain ⟨A,c,rfl,hl,hm,-⟩:=hv
 unfold maxLen at hm
 obtain ⟨R,hR⟩:∃ R,R=invertL xs:=⟨_,rfl⟩
 rw [<- hR]
 have HR:=Hd_ hR
 have HSL:=Hd_ hsl
 clear hR hsl
 go_enter Tryz.func9,Tryz.ntmps9
 go_wp2_with fail
 go_loopw [3,9] (fun oo ii wr=>∃ i:Nat,i<=xs.length/\ii=.int .i64 (i:Int)/\wr.ownsRow w.heap.size 57 2 oo ((xs.take i).map fun p=>(p.2,p.1)).length (((xs.take i).map fun p=>(p.2,p.1)).flatMap cPr)/\Below w.heap.size w wr) (fun _ ii _=>xs.length - (intOf ii).toNat)
 case atStart=>exact ⟨0,Nat.zero_le _,rfl,World.ownsRow_lit w #[] 0 (Nat.le_refl _) (by decide) rfl,(Below.refl _ _).alloc (Nat.le_refl _) _⟩
 case round =>
  obtain ⟨i,hi,rfl,hrow,hbel⟩:=hrel
  have HROW:=Hd_ hrow
  have hsz:=hbel.size
  clear hrow
  by_cases hlt:i < xs.length
  · have hxi:xs[i]?=some xs[i]:=List.getElem?_eq_getElem hlt
    generalize xs[i]=x at hxi
    obtain ⟨b,o,rfl,⟨-,hb⟩,d0,d1⟩:=HSL.out.prA hxi
    have d0:=kcell hbel d0
    have d1:=kcell hbel d1
    obtain ⟨xa,xb⟩:=x
    simp only at d0 d1
    have hbw:b < wr.heap.size:=by omega
    have hii:(i:Int) < (xs.length:Int):=by omega
    have HSN:=Hd_ (show ((xs.take (i+1)).map fun p=>(p.2,p.1))=((xs.take i).map fun p=>(p.2,p.1)) ++ [(xb,xa)] from take_mapS hxi)
    have hpl:((xs.take i).map fun p:Pr=>(p.2,p.1)).length<=xs.length:=by rw [List.length_map,List.length_take];omega
    have HRA:=Hd_ (HROW.out.alloc (.cells #[.int .i64 xa,.int .i64 xb] 57))
    have HBA:=Hd_ (hbel.alloc hsz (.cells #[.int .i64 xa,.int .i64 xb] 57))
    clear hxi
    generalize ((xs.take i).map fun p:Pr=>(p.2,p.1))=L at *
    go_wp2_with (at_builtin;(refine wpList_append1 cPr elPair rfl _ _ rfl w.heap.size _ L (xb,xa) _ 1 (wr.heap.size+1) (by rfl) HRA.out (by rfl) (by simp) rfl rfl (cPr_one _) (by omega) (by omega) (by simp;omega) ?_);intro v' w4 hrow' hb4 _ _)
    go_roundw
    case rel=>exact ⟨i+1,by omega,by go_num,by rw [HSN.out];exact hrow',HBA.out.trans hb4⟩
    case measure=>simp [intOf];omega
  · obtain rfl:i=xs.length:=by omega
    rw [List.take_length] at HROW
    have hown:=Own.of_row (xs:=xs.map fun p:Pr=>(p.2,p.1)) HROW.out rfl rfl
    have HP:=Hd_ (pairSet_any _ (xs.map fun p:Pr=>(p.2,p.1)) wr ((hown.sl cPr_len).all (Nat.le_refl _)) (by rw [List.length_map];omega))
    rw [show psetL (xs.map fun p:Pr=>(p.2,p.1))=R from HR.out.symm] at HP
    clear hown
    go_wp2_with fail
    refine HP.out.mono ?_
    rintro e w5 ⟨v5,rfl,ho5,hb5⟩
    have HO:=Hd_ (ho5.mono hsz (Nat.le_refl _))
    have HB:=Hd_ (below_trans hbel hb5)
    obtain ⟨A9,n9,c9,rfl⟩:=ho5.shape
    clear ho5 hb5
    go_wp2_with fail
    go_ret
    exact ⟨_,rfl,HO.out,HB.out⟩
set_option maxHeartbeats 4000000 in
set_option maxRecDepth 100000 in
theorem implCompose (va vb:Value) (a b:List Pr) (w:World) (hva:SlE w cPr 2 va a) (hvb:SlE w cPr 2 vb b) (hna:a.length<=1048576) (hnb:b.length<=1048576) :
 Calls Tryz.prog 6 #[va,vb] w fun e w'=>∃ v',e=.returned v'/\Own w.heap.size w'.heap.size w' 57 cPr 2 v' (composeL a b)/\Below w.heap.size w w':=by
 have hsa:=hva
 have hsb:=hvb
 obtain ⟨A,ca,rfl,hla,hma,-⟩:=hva
 obtain ⟨B,cb,rfl,hlb,hmb,-⟩:=hvb
 unfold maxLen at hma hmb
 obtain ⟨R,hR⟩:∃ R,R=composeL a b:=⟨_,rfl⟩
 rw [<- hR]
 rw [<- composeL_pset] at hR
 obtain ⟨gO,hgO⟩:∃ gO,gO=w.heap.size:=⟨_,rfl⟩
 obtain ⟨W0,hW0⟩:∃ W0,W0=w.alloc (.cells #[] 57):=⟨_,rfl⟩
 have hb0:Below w.heap.size w W0:=by rw [hW0];exact (Below.refl _ _).alloc (Nat.le_refl _) _
 have hrow0:W0.ownsRow gO 57 2 (.slice (some ⟨gO,0,none⟩) 0 0) 0 []:=by
  rw [hW0,hgO]
  exact World.ownsRow_lit w #[] 0 (Nat.le_refl _) (by decide) rfl
 have hgs:gO < W0.heap.size:=by rw [hW0,hgO];simp
 have hps:=pairSet_any _ a W0 (SlE.keep hsa hb0) (by omega)
 have hpl:=psetL_len a
 have HR:=Hd_ hR
 have HSB:=Hd_ hsb
 have HPS:=Hd_ hps
 have HB0:=Hd_ hb0
 have HROW0:=Hd_ hrow0
 clear hR hsa hsb hps hb0 hrow0
 generalize psetL a=pa at *
 go_enter Tryz.func6,Tryz.ntmps6
 go_wp2_with fail
 rw [<- hW0,<- hgO]
 clear hW0
 refine HPS.out.mono ?_
 rintro e w1 ⟨v1,rfl,ho1,hb1⟩
 have HB1:=Hd_ (below_trans HB0.out hb1)
 have HROW1:=Hd_ (ownsRow_below HROW0.out hb1 (Nat.le_refl _))
 have hs1:=hb1.size
 have HC6:=Hd_ (ho1.sl cPr_len)
 obtain ⟨A6,c6,rfl,hl6,hm6,-⟩:=ho1.form cPr_len
 have HWG:=Hd_ hgO
 have hwg:w.heap.size<=gO:=by omega
 have hgw:gO<=w.heap.size:=by omega
 clear ho1 hb1 HPS HROW0 hgO
 go_wp2_with fail
 go_loopw [5,14] (fun oo ii wr=>∃ i:Nat,i<=pa.length/\ii=.int .i64 (i:Int)/\wr.ownsRow gO 57 2 oo (compL (pa.take i) b).length ((compL (pa.take i) b).flatMap cPr)/\Only gO (gO+1) w1 wr/\(∀ b,oo.ownBlock=some b->b=gO ∨ w1.heap.size<=b)) (fun _ ii _=>pa.length - (intOf ii).toNat)
 case atStart=>exact ⟨0,Nat.zero_le _,rfl,HROW1.out,Only.refl _ _ _,fun b hb=>by cases hb;exact .inl rfl⟩
 case round =>
  clear HROW1
  obtain ⟨i,hi,rfl,hrow,hon,hob⟩:=hrel
  have HROW:=Hd_ hrow
  have HON:=Hd_ hon
  have HOB:=Hd_ hob
  have hsz:=hon.size
  clear hrow hon hob
  obtain ⟨wo,rfl⟩:∃ wo:World,wo=wr:=⟨_,rfl⟩
  by_cases hlt:i < pa.length
  · have hxi:pa[i]?=some pa[i]:=List.getElem?_eq_getElem hlt
    generalize pa[i]=x at hxi
    obtain ⟨b1,o1,rfl,⟨hb10,hb1⟩,d0,d1⟩:=HC6.out.prA hxi
    have d0:=ocellI HON.out d0 hb1 (.inr (by omega))
    have d1:=ocellI HON.out d1 hb1 (.inr (by omega))
    obtain ⟨xa,xb⟩:=x
    simp only at d0 d1
    have hb1w:b1 < wo.heap.size:=by omega
    have hii:(i:Int) < (pa.length:Int):=by omega
    have HRY:=Hd_ (fun (q:Pr) (j:Nat) (h:b[j]?=some q) he=>compRow_yes (p:=(xa,xb)) h he)
    have HRN:=Hd_ (fun (q:Pr) (j:Nat) (h:b[j]?=some q) he=>compRow_no (p:=(xa,xb)) h he)
    have HTK:=Hd_ (compL_take (b:=b) hxi)
    have HRL:=Hd_ (compRow_len (xa,xb) b)
    have hcl:=compL_len (pa.take i) b
    have hcl2:(compL (pa.take i) b).length<=1099511627776 - 1048576:=Nat.le_trans hcl (Nat.le_trans (Nat.mul_le_mul (show (pa.take i).length<=1048575 by rw [List.length_take];omega) hnb) (by omega))
    clear hxi hcl
    generalize compL (pa.take i) b=C at *
    obtain ⟨W7,hW7⟩:∃ W7,W7=wo.alloc (.cells #[.int .i64 xa,.int .i64 xb] 57):=⟨_,rfl⟩
    have e0:W7.cell? ⟨wo.heap.size,0,none⟩=some (.int .i64 xa):=by rw [hW7];simp
    have e1:W7.cell? ⟨wo.heap.size,1,none⟩=some (.int .i64 xb):=by rw [hW7];simp
    have hs7:wo.heap.size < W7.heap.size:=by rw [hW7];simp
    have HROW7:=Hd_ (show W7.ownsRow gO 57 2 _ C.length (C.flatMap cPr) by rw [hW7];exact HROW.out.alloc _)
    have HON7:=Hd_ (show Only gO (gO+1) w1 W7 by rw [hW7];exact HON.out.alloc _)
    have hlt7:=HROW.out.lt
    have HL7:=Hd_ hlt7
    clear hlt7
    go_wp2_with fail
    rw [<- hW7]
    clear hW7 d0 d1
    go_loopw [5,20] (fun oo jj wr=>∃ j:Nat,j<=b.length/\jj=.int .i64 (j:Int)/\wr.ownsRow gO 57 2 oo (C ++ compRow (xa,xb) (b.take j)).length ((C ++ compRow (xa,xb) (b.take j)).flatMap cPr) /\
     Only gO (gO+1) w1 wr/\Only gO wo.heap.size W7 wr/\(∀ b,oo.ownBlock=some b->(b=gO ∨ w1.heap.size<=b)/\((gO<=b/\b < wo.heap.size) ∨ W7.heap.size<=b))) (fun _ jj _=>b.length - (intOf jj).toNat)
    case atStart=>exact ⟨0,Nat.zero_le _,rfl,by simpa [compRow] using HROW7.out,HON7.out,Only.refl _ _ _,fun b hb=>⟨HOB.out b hb,.inl (HL7.out b hb)⟩⟩
    case round =>
     clear HROW7 HON7 HL7
     obtain ⟨j,hj,rfl,hrow2,hon2,hon3,hob2⟩:=hrel
     have HROW2:=Hd_ hrow2
     have HON2:=Hd_ hon2
     have HON3:=Hd_ hon3
     have HOB2:=Hd_ hob2
     have hsz2:=hon2.size
     have hsz3:=hon3.size
     have e0:=ocellI hon3 e0 hs7 (.inr (Nat.le_refl _))
     have e1:=ocellI hon3 e1 hs7 (.inr (Nat.le_refl _))
     have hbw:=HB1.out.trans (hon2.below (B:=w.heap.size) hwg HB1.out.size)
     have HBW:=Hd_ hbw
     have hbs:=hbw.size
     clear hrow2 hon2 hon3 hob2 hbw
     by_cases hlj:j < b.length
     · have hyj:b[j]?=some b[j]:=List.getElem?_eq_getElem hlj
       generalize b[j]=y at hyj
       obtain ⟨b2,o2,rfl,⟨-,hb2⟩,f0,f1⟩:=HSB.out.prA hyj
       have f0:=kcell HBW.out f0
       have f1:=kcell HBW.out f1
       obtain ⟨ya,yb⟩:=y
       simp only at f0 f1
       have hb2w:b2 < wr.heap.size:=by omega
       have hwo:wo.heap.size < wr.heap.size:=by omega
       have hjj:(j:Int) < (b.length:Int):=by omega
       have HYJ:=Hd_ hyj
       have hrl:=HRL.out j
       have hll:(C ++ compRow (xa,xb) (b.take j)).length<=1099511627776:=by rw [List.length_append];omega
       clear hyj
       have HRA:=Hd_ (HROW2.out.alloc (.cells #[.int .i64 ya,.int .i64 yb] 57))
       have HOA2:=Hd_ (HON2.out.alloc (.cells #[.int .i64 ya,.int .i64 yb] 57))
       have HOA3:=Hd_ (HON3.out.alloc (.cells #[.int .i64 ya,.int .i64 yb] 57))
       cases hxy:(xb==ya) with
       | true =>
         have HSN:=Hd_ (show C ++ compRow (xa,xb) (b.take (j+1))=(C ++ compRow (xa,xb) (b.take j)) ++ [(xa,yb)] by
          rw [HRY.out _ j HYJ.out (by simpa using hxy),<- List.append_assoc])
         generalize C ++ compRow (xa,xb) (b.take j)=L at *
         go_wp2_with (at_builtin;(refine wpList_append1 cPr elPair rfl _ _ rfl gO _ L (xa,yb) _ 1 (wr.heap.size+1) (by rfl) HRA.out (by rfl) (by simp) rfl rfl (cPr_one _) (by omega) (by omega) (by simp;omega) ?_);intro v' w4 hrow' hb4 hat4 hgr4)
         go_roundw
         case rel =>
          refine ⟨j+1,by omega,by go_num,by rw [HSN.out];exact hrow',onlyGrown (HOA2.out.alloc _) hgr4 (fun b hb=>by have:=(HOB2.out b hb).1;omega),onlyGrown (HOA3.out.alloc _) hgr4 (fun b hb=>(HOB2.out b hb).2),fun b hb=>?_⟩
          rcases hat4 with h1 | ⟨g1,h1,h2⟩
          · exact HOB2.out b (by rw [<- h1];exact hb)
          · rw [h1] at hb
            injection hb with hb
            simp at h2
            exact ⟨.inr (by omega),.inr (by omega)⟩
         case measure=>simp [intOf];omega
       | false =>
         have HSN:=Hd_ (show C ++ compRow (xa,xb) (b.take (j+1))=C ++ compRow (xa,xb) (b.take j) by
          rw [HRN.out _ j HYJ.out (by simpa using hxy)])
         generalize C ++ compRow (xa,xb) (b.take j)=L at *
         go_wp2_with fail
         go_roundw
         case rel=>exact ⟨j+1,by omega,by go_num,by rw [HSN.out];exact HRA.out,HOA2.out,HOA3.out,HOB2.out⟩
         case measure=>simp [intOf];omega
     · obtain rfl:j=b.length:=by omega
       rw [List.take_length,<- HTK.out] at HROW2
       go_wp2_with fail
       go_roundw
       case rel=>exact ⟨i+1,by omega,by go_num,HROW2.out,HON2.out,fun b hb=>(HOB2.out b hb).1⟩
       case measure=>simp [intOf];omega
  · obtain rfl:i=pa.length:=by omega
    rw [List.take_length] at HROW
    have hown:=Own.of_row (xs:=compL pa b) HROW.out rfl rfl
    have hcl:=compL_len pa b
    have hcl2:(compL pa b).length<=1099511627776:=Nat.le_trans hcl (Nat.le_trans (Nat.mul_le_mul (show pa.length<=1048576 by omega) hnb) (by omega))
    have HP:=Hd_ (pairSet_any _ (compL pa b) wo ((hown.sl cPr_len).all (Nat.le_refl _)) hcl2)
    rw [<- HR.out] at HP
    have HBW:=Hd_ (HB1.out.trans (HON.out.below (B:=w.heap.size) hwg HB1.out.size))
    clear hown hcl hcl2
    go_wp2_with fail
    refine HP.out.mono ?_
    rintro e w5 ⟨v5,rfl,ho5,hb5⟩
    have HO:=Hd_ (ho5.mono HBW.out.size (Nat.le_refl _))
    have HB:=Hd_ (below_trans HBW.out hb5)
    obtain ⟨A9,n9,c9,rfl⟩:=ho5.shape
    clear ho5 hb5
    go_wp2_with fail
    go_ret
    exact ⟨_,rfl,HO.out,HB.out⟩
set_option maxHeartbeats 2000000 in
set_option maxRecDepth 100000 in
theorem specMerge (va vb:Value) (a b:List Pr) (w:World) (hva:SlE w cPr 2 va a) (hvb:SlE w cPr 2 vb b) (hna:a.length<=1048576) (hnb:b.length<=1048576) :
 Calls Tryz.prog 35 #[va,vb] w fun e w'=>∃ v',e=.returned v'/\Own w.heap.size w'.heap.size w' 57 cPr 2 v' (mergeL a b)/\Below w.heap.size w w':=by
 have hsa:=hva
 have hsb:=hvb
 obtain ⟨A,ca,rfl,hla,hma,-⟩:=hva
 obtain ⟨B,cb,rfl,hlb,hmb,-⟩:=hvb
 unfold maxLen at hma hmb
 obtain ⟨R,hR⟩:∃ R,R=mergeL a b:=⟨_,rfl⟩
 rw [<- hR]
 have HR:=Hd_ hR
 have HSA:=Hd_ hsa
 have HSB:=Hd_ hsb
 clear hR hsa hsb
 go_enter Tryz.func35,Tryz.ntmps35
 go_wp2_with fail
 go_loopw [5,6] (fun oo ii wr=>∃ i:Nat,i<=a.length/\ii=.int .i64 (i:Int)/\SetR w.heap.size wr oo (psetL (a.take i))/\Below w.heap.size w wr) (fun _ ii _=>a.length - (intOf ii).toNat)
 case atStart=>exact ⟨0,Nat.zero_le _,rfl,SetR.lit w _ (Nat.le_refl _),(Below.refl _ _).alloc (Nat.le_refl _) _⟩
 case round =>
  obtain ⟨i,hi,rfl,hset,hbel⟩:=hrel
  have HSET:=Hd_ hset
  have hsz:=hbel.size
  clear hset
  by_cases hlt:i < a.length
  · have hxi:a[i]?=some a[i]:=List.getElem?_eq_getElem hlt
    generalize a[i]=x at hxi
    obtain ⟨b',o,rfl,⟨-,hb⟩,d0,d1⟩:=HSA.out.prA hxi
    have d0:=kcell hbel d0
    have d1:=kcell hbel d1
    obtain ⟨xa,xb⟩:=x
    simp only at d0 d1
    have hbw:b' < wr.heap.size:=by omega
    have hii:(i:Int) < (a.length:Int):=by omega
    have HSN:=Hd_ (show psetL (a.take (i+1))=putP (psetL (a.take i)) (xa,xb) from by rw [take_snoc hxi,psetL_snoc])
    have hpl:(psetL (a.take i)).length<=2097152:=Nat.le_trans (psetL_len _) (by simp only [List.length_append,List.length_take];omega)
    clear hxi
    generalize psetL (a.take i)=L at *
    have HP:=Hd_ (l15Put_any _ w.heap.size L (xa,xb) wr HSET.out hsz (by omega))
    go_wp2_with fail
    refine HP.out.mono ?_
    rintro e w4 ⟨v4,rfl,hs4,hb4⟩
    have HS4:=Hd_ hs4
    have HB4:=Hd_ (hbel.trans (hb4.mono hsz))
    clear hs4 hb4
    go_wp2_with fail
    go_roundw
    case rel=>exact ⟨i+1,by omega,by go_num,by rw [HSN.out];exact HS4.out,HB4.out⟩
    case measure=>simp [intOf];omega
  · obtain rfl:i=a.length:=by omega
    rw [List.take_length] at HSET
    go_wp2_with fail
    go_loopw [5,7] (fun oo ii wr=>∃ i:Nat,i<=b.length/\ii=.int .i64 (i:Int)/\SetR w.heap.size wr oo (psetL (a ++ b.take i))/\Below w.heap.size w wr) (fun _ ii _=>b.length - (intOf ii).toNat)
    case atStart=>exact ⟨0,Nat.zero_le _,rfl,by rw [List.take_zero,List.append_nil];exact HSET.out,hbel⟩
    case round =>
     obtain ⟨i,hi,rfl,hset,hbel⟩:=hrel
     have HSET:=Hd_ hset
     have hsz:=hbel.size
     clear hset
     by_cases hlt:i < b.length
     · have hxi:b[i]?=some b[i]:=List.getElem?_eq_getElem hlt
       generalize b[i]=x at hxi
       obtain ⟨b',o,rfl,⟨-,hb⟩,d0,d1⟩:=HSB.out.prA hxi
       have d0:=kcell hbel d0
       have d1:=kcell hbel d1
       obtain ⟨xa,xb⟩:=x
       simp only at d0 d1
       have hbw:b' < wr.heap.size:=by omega
       have hii:(i:Int) < (b.length:Int):=by omega
       have HSN:=Hd_ (show psetL (a ++ b.take (i+1))=putP (psetL (a ++ b.take i)) (xa,xb) from by rw [take_snoc hxi,<- List.append_assoc,psetL_snoc])
       have hpl:(psetL (a ++ b.take i)).length<=2097152:=Nat.le_trans (psetL_len _) (by simp only [List.length_append,List.length_take];omega)
       clear hxi
       generalize psetL (a ++ b.take i)=L at *
       have HP:=Hd_ (l15Put_any _ w.heap.size L (xa,xb) wr HSET.out hsz (by omega))
       go_wp2_with fail
       refine HP.out.mono ?_
       rintro e w4 ⟨v4,rfl,hs4,hb4⟩
       have HS4:=Hd_ hs4
       have HB4:=Hd_ (hbel.trans (hb4.mono hsz))
       clear hs4 hb4
       go_wp2_with fail
       go_roundw
       case rel=>exact ⟨i+1,by omega,by go_num,by rw [HSN.out];exact HS4.out,HB4.out⟩
       case measure=>simp [intOf];omega
     · obtain rfl:i=b.length:=by omega
       rw [List.take_length] at HSET
       have HO:=Hd_ (show Own w.heap.size wr.heap.size wr 57 cPr 2 _ R from by rw [HR.out];exact HSET.out.own)
       obtain ⟨g,c',rfl,-⟩:=HSET.out
       go_wp2_with fail
       go_ret
       exact ⟨_,rfl,HO.out,hbel⟩
set_option maxHeartbeats 2000000 in
set_option maxRecDepth 100000 in
theorem implMerge (va vb:Value) (a b:List Pr) (w:World) (hva:SlE w cPr 2 va a) (hvb:SlE w cPr 2 vb b) (hna:a.length<=1048576) (hnb:b.length<=1048576) :
 Calls Tryz.prog 31 #[va,vb] w fun e w'=>∃ v',e=.returned v'/\Own w.heap.size w'.heap.size w' 57 cPr 2 v' (mergeL a b)/\Below w.heap.size w w':=by
 have hsa:=hva
 have hsb:=hvb
 obtain ⟨A,ca,rfl,hla,hma,-⟩:=hva
 obtain ⟨B,cb,rfl,hlb,hmb,-⟩:=hvb
 unfold maxLen at hma hmb
 have hba:Below w.heap.size w (w.alloc (.cells #[] 57)):=(Below.refl _ _).alloc (Nat.le_refl _) _
 have hv1:=SlE.keep hsa hba
 have hrow:=World.ownsRow_lit (base:=w.heap.size) (e:=57) (size:=2) w #[] 0 (Nat.le_refl _) (by decide) rfl
 obtain ⟨R,hR⟩:∃ R,R=mergeL a b:=⟨_,rfl⟩
 rw [<- hR]
 have HRS:=Hd_ hR
 have HV:=Hd_ hv1
 have HSB:=Hd_ hsb
 have HR:=Hd_ hrow
 have HBA:=Hd_ hba
 clear hsa hsb hv1 hrow hR hba
 go_enter Tryz.func31,Tryz.ntmps31
 go_wp2_with (first | (at_builtin;(refine wpList_appendL cPr elPair cPr_len cPr_one rfl _ _ rfl w.heap.size _ [] a (by rfl) HR.out 0 _ _ (by rfl) HV.out (by simp;omega) (by omega) (by simp) ?_);intro v1 w1 hrow1 hgr1 hat1;simp only [List.nil_append] at hrow1;have hb1:=HBA.out.trans (own_below HR.out (by simp) hgr1);have HR1:=Hd_ hrow1;have HB1:=Hd_ hb1;have HV1:=Hd_ (SlE.keep HSB.out hb1);have hz1:=hb1.size;clear hrow1 hgr1 hat1 hb1) | (at_builtin;(refine wpList_appendL cPr elPair cPr_len cPr_one rfl _ _ rfl w.heap.size _ a b (by rfl) HR1.out 0 _ _ (by rfl) HV1.out (by omega) (by omega) hz1 ?_);intro v2 w2 hrow2 hgr2 hat2))
 have hb2:=HB1.out.trans (own_below HR1.out hz1 hgr2)
 have hz2:=hb2.size
 have hp:=pairSet_any v2 (a ++ b) w2 (((Own.of_row (xs:=a ++ b) hrow2 rfl rfl).sl cPr_len).all (Nat.le_refl _)) (by simp only [List.length_append];omega)
 rw [show psetL (a ++ b)=R from HRS.out.symm] at hp
 have HP:=Hd_ hp
 have HB2:=Hd_ hb2
 clear hp hb2 hrow2 hgr2 hat2
 refine HP.out.mono ?_
 rintro e w5 ⟨v5,rfl,ho5,hb5⟩
 have HO:=Hd_ (ho5.mono hz2 (Nat.le_refl _))
 have HB:=Hd_ (below_trans HB2.out hb5)
 obtain ⟨A9,n9,c9,rfl⟩:=ho5.shape
 clear ho5 hb5
 go_wp2_with fail
 go_ret
 exact ⟨_,rfl,HO.out,HB.out⟩
theorem elPr:ElemOk Tryz.prog 24 57 (.agg #[.int .i64 0,.int .i64 0]) 2 16:=⟨Tryz.underlying24,by kernel_rfl,rfl,by omega⟩
def idPairs (n:Nat):List Pr:=(List.range n).map fun (i:Nat)=>((i:Int),(i:Int))
theorem idPairs_succ (n:Nat):idPairs (n+1)=idPairs n ++ [((n:Int),(n:Int))]:=by simp [idPairs,List.range_succ]
theorem idPairs_len (n:Nat):(idPairs n).length=n:=by simp [idPairs]
def identityOf (n:Int):List Pr:=if 5 < n then [] else idPairs n.toNat
set_option maxHeartbeats 400000 in
theorem implIdentity (n:Int) (w:World) :
 Calls Tryz.prog 14 #[.int .i64 n] w fun en w'=>∃ v,en=.returned v/\Own w.heap.size w'.heap.size w' 57 cPr 2 v (identityOf n)/\Below w.heap.size w w':=by
 by_cases h5:5 < n
 · go_enter Tryz.func14,Tryz.ntmps14
   go_wp2
   go_ret
   exact ⟨_,rfl,by rw [identityOf,if_pos h5];exact Own.nil _ _ _ _ _ _,Below.refl _ _⟩
 · rw [identityOf,if_neg h5]
   go_enter Tryz.func14,Tryz.ntmps14
   go_wp2
   go_loopw [3,4] (fun out ii wr=>∃ i:Nat,i<=n.toNat/\ii=.int .i64 i/\wr.ownsRow w.heap.size 57 2 out (idPairs i).length ((idPairs i).flatMap cPr)/\Below w.heap.size w wr) (fun _ ii _=>n.toNat - (intOf ii).toNat)
   case atStart=>exact ⟨0,Nat.zero_le _,rfl,World.ownsRow_lit w #[] 0 (Nat.le_refl _) (by decide) rfl,(Below.refl _ _).alloc (Nat.le_refl _) _⟩
   case round =>
    obtain ⟨i,hi,rfl,hrow,hbel⟩:=hrel
    by_cases hlt:(i:Int) < n
    · have hs:=hbel.size
      go_wp2_with (at_builtin;(refine wpList_append1 cPr elPr rfl _ _ rfl w.heap.size u3 (idPairs i) ((i:Int),(i:Int)) _ 1 _ (by rfl) hrow (by rfl) rfl rfl rfl (cPr_one _) (by rw [idPairs_len];omega) (by omega) hs ?_);rw [<- idPairs_succ];intro v' w1 hrow' hb1 _ _)
      go_roundw
      case rel=>exact ⟨i+1,by omega,by go_num,hrow',hbel.trans hb1⟩
      case measure=>simp [intOf];omega
    · obtain rfl:i=n.toNat:=by omega
      go_wp2
      go_ret
      exact ⟨_,rfl,Own.of_row hrow rfl rfl,hbel⟩
set_option maxHeartbeats 400000 in
theorem specIdentity (n:Int) (w:World) :
 Calls Tryz.prog 34 #[.int .i64 n] w fun en w'=>∃ v,en=.returned v/\Own w.heap.size w'.heap.size w' 57 cPr 2 v (identityOf n)/\Below w.heap.size w w':=by
 by_cases h5:5 < n
 · go_enter Tryz.func34,Tryz.ntmps34
   go_wp2
   go_loopw [3,4] (fun out ii wr=>out=.slice (some ⟨w.heap.size,0,none⟩) 0 0/\ii=.int .i64 0/\wr=w.alloc (.cells #[] 57)) (fun _ _ _=>0)
   case atStart=>exact ⟨rfl,rfl,rfl⟩
   case round =>
    obtain ⟨rfl,rfl,rfl⟩:=hrel
    go_wp2
    all_goals go_ret
    all_goals exact ⟨_,rfl,by rw [identityOf,if_pos h5];exact Own.of_row (World.ownsRow_lit w #[] 0 (Nat.le_refl _) (by decide) rfl) rfl rfl,(Below.refl _ _).alloc (Nat.le_refl _) _⟩
 · rw [identityOf,if_neg h5]
   go_enter Tryz.func34,Tryz.ntmps34
   go_wp2
   go_loopw [3,4] (fun out ii wr=>∃ i:Nat,i<=n.toNat/\ii=.int .i64 i/\wr.ownsRow w.heap.size 57 2 out (idPairs i).length ((idPairs i).flatMap cPr)/\Below w.heap.size w wr) (fun _ ii _=>n.toNat - (intOf ii).toNat)
   case atStart=>exact ⟨0,Nat.zero_le _,rfl,World.ownsRow_lit w #[] 0 (Nat.le_refl _) (by decide) rfl,(Below.refl _ _).alloc (Nat.le_refl _) _⟩
   case round =>
    obtain ⟨i,hi,rfl,hrow,hbel⟩:=hrel
    by_cases hlt:(i:Int) < n
    · have hs:=hbel.size
      go_wp2_with (at_builtin;refine wpList_append1 cPr elPr rfl _ _ rfl w.heap.size u3 (idPairs i) ((i:Int),(i:Int)) _ 1 _ (by rfl) hrow (by rfl) rfl rfl rfl (cPr_one _) (by rw [idPairs_len];omega) (by omega) hs ?_;rw [<- idPairs_succ];intro v' w1 hrow' hb1 _ _)
      go_roundw
      case rel=>exact ⟨i+1,by omega,by go_num,hrow',hbel.trans hb1⟩
      case measure=>simp [intOf];omega
    · obtain rfl:i=n.toNat:=by omega
      go_wp2
      go_ret
      exact ⟨_,rfl,Own.of_row hrow rfl rfl,hbel⟩
/-- pairs of nodes, rising -/
def sqP (o:List Pr):Prop:=ascP o/\∀ p ∈ o,inB p.1/\inB p.2
def allSq:List Pr:=(List.range 5).flatMap fun (i:Nat)=>(List.range 5).map fun (j:Nat)=>((i:Int),(j:Int))
theorem sq_len {o:List Pr} (h:sqP o):o.length<=25:=by
 have h1:o.Sublist (psetL allSq):=subP h.1 (psetL_asc _) fun x hx=>by
  obtain ⟨⟨a0,a4⟩,⟨b0,b4⟩⟩:=h.2 x hx
  obtain ⟨x1,x2⟩:=x
  simp only at a0 a4 b0 b4
  obtain ⟨a,rfl⟩:=Int.eq_ofNat_of_zero_le a0
  obtain ⟨b,rfl⟩:=Int.eq_ofNat_of_zero_le b0
  exact mem_psetL.2 (List.mem_flatMap.2 ⟨a,List.mem_range.2 (by omega),List.mem_map.2 ⟨b,List.mem_range.2 (by omega),rfl⟩⟩)
 exact Nat.le_trans h1.length_le (Nat.le_trans (psetL_len _) (by decide))
theorem sq_comp {o l:List Pr} (h:sqP o) (hl:∀ p ∈ l,inB p.1/\inB p.2):sqP (composeL o l):=⟨psetL_asc _,fun p hp=>by
 rw [composeL,mem_psetL,mem_compL] at hp
 obtain ⟨q,hq,r,hr,-,rfl⟩:=hp
 exact ⟨(h.2 q hq).1,(hl r hr).2⟩⟩
theorem sq_merge {a b:List Pr} (ha:sqP a) (hb:sqP b):sqP (mergeL a b):=⟨psetL_asc _,fun p hp=>by
 rw [mergeL,mem_psetL,List.mem_append] at hp
 exact hp.elim (ha.2 p) (hb.2 p)⟩
theorem idPairs_asc:∀ n,ascP (idPairs n)
 | 0=>List.Pairwise.nil
 | n+1=>by
   rw [idPairs_succ]
   refine List.pairwise_append.2 ⟨idPairs_asc n,List.pairwise_singleton _ _,fun a ha b hb=>?_⟩
   obtain ⟨i,hi,rfl⟩:=List.mem_map.1 ha
   rw [List.mem_singleton] at hb
   subst hb
   have:=List.mem_range.1 hi
   exact ltP_iff.2 (.inl (by simp only;omega))
theorem sq_id (n:Int):sqP (identityOf n):=by
 rw [identityOf]
 split
 · exact ⟨List.Pairwise.nil,by simp⟩
 · refine ⟨idPairs_asc _,fun p hp=>?_⟩
   obtain ⟨i,hi,rfl⟩:=List.mem_map.1 hp
   have:=List.mem_range.1 hi
   exact ⟨⟨by simp only;omega,by simp only;omega⟩,⟨by simp only;omega,by simp only;omega⟩⟩
theorem sq_clos {o l:List Pr} (h:sqP o) (hl:∀ p ∈ l,inB p.1/\inB p.2):∀ k,sqP (closK l o k)
 | 0=>h
 | k+1=>sq_merge (sq_clos h hl k) (sq_comp (sq_clos h hl k) hl)
def closureL (n:Int) (l:List Pr):List Pr:=if wi n 1 5 && arePL l then closK l (identityOf n) 5 else []
theorem closure_len (n:Int) (l:List Pr):(closureL n l).length<=25:=by
 rw [closureL]
 split
 · rename_i h
   simp only [Bool.and_eq_true] at h
   exact sq_len (sq_clos (sq_id n) (arePL_in h.2) 5)
 · simp
theorem clos_done {l o:List Pr} (ho:sqP o) (hl:∀ p ∈ l,inB p.1/\inB p.2) {k:Nat} (h:closStep l (closK l o k)=closK l o k):closK l o k=closK l o 5:=by
 have h5:=clos_fix (fun p hp=>(hl p hp).2) (fun p hp=>(ho.2 p hp).2) ho.1 (l:=l) (o:=o)
 rcases Nat.le_total k 5 with hk | hk
 · have:=clos_stay h (5 - k)
   rw [show k+(5 - k)=5 by omega] at this
   exact this.symm
 · have:=clos_stay h5 (k - 5)
   rw [show 5+(k - 5)=k by omega] at this
   exact this
theorem clos_grows {l o:List Pr} (ho:ascP o) (k:Nat):(closK l o k).length<=(closStep l (closK l o k)).length :=
 (subP (closK_asc ho k) (psetL_asc _) fun _ hx=>closK_mono hx).length_le
def lenV:Value->Nat
 | .slice _ n _=>n
 | _=>0
theorem own_slice {lo hi:Nat} {w:World} {e:TypeId} {v:Value} {xs:List Pr} (h:Own lo hi w e cPr 2 v xs):∃ A c,v=.slice A xs.length c:=by
 obtain ⟨A,c,rfl,-⟩:=h.sl cPr_len
 exact ⟨A,c,rfl⟩
set_option maxHeartbeats 2000000 in
set_option maxRecDepth 100000 in
theorem specClosure (n:Int) (v:Value) (l:List Pr) (w:World) (hv:SlE w cPr 2 v l) (hn:l.length<=1048576) :
 Calls Tryz.prog 12 #[.int .i64 n,v] w fun e w'=>∃ v',e=.returned v'/\Own w.heap.size w'.heap.size w' 57 cPr 2 v' (closureL n l)/\Below w.heap.size w w':=by
 have HSL:=Hd_ hv
 have hin:=l1In_any n 1 5 w
 have hare:=specAre v l w hv hn
 clear hv
 cases g1:wi n 1 5 with
 | false =>
   have HE:=Hd_ (show closureL n l=[] by simp [closureL,g1])
   rw [g1] at hin
   have HIN:=Hd_ hin
   clear hin hare g1
   rw [HE.out]
   go_enter Tryz.func12,Tryz.ntmps12
   go_wp2_with fail
   refine HIN.out.mono ?_
   rintro e w1 ⟨rfl,rfl⟩
   go_wp2_with fail
   go_ret
   exact ⟨_,rfl,Own.of_row (xs:=([]:List Pr)) (World.ownsRow_lit _ #[] 0 (Nat.le_refl _) (by decide) rfl) rfl rfl,(Below.refl _ _).alloc (Nat.le_refl _) _⟩
 | true =>
   rw [g1] at hin
   cases g2:arePL l with
   | false =>
     have HE:=Hd_ (show closureL n l=[] by simp [closureL,g2])
     rw [g2] at hare
     have HIN:=Hd_ hin
     have HAR:=Hd_ hare
     clear hin hare g1 g2
     rw [HE.out]
     go_enter Tryz.func12,Tryz.ntmps12
     go_wp2_with fail
     refine HIN.out.mono ?_
     rintro e w1 ⟨rfl,rfl⟩
     go_wp2_with fail
     refine HAR.out.mono ?_
     rintro e w2 ⟨rfl,hb2⟩
     go_wp2_with fail
     go_ret
     exact ⟨_,rfl,(Own.of_row (xs:=([]:List Pr)) (World.ownsRow_lit w2 #[] 0 (Nat.le_refl _) (by decide) rfl) rfl rfl).mono hb2.size (Nat.le_refl _),hb2.alloc hb2.size _⟩
   | true =>
     have HL:=Hd_ (arePL_in g2)
     have HE:=Hd_ (show closureL n l=closK l (identityOf n) 5 by simp [closureL,g1,g2])
     rw [g2] at hare
     have HIN:=Hd_ hin
     have HAR:=Hd_ hare
     have HSQ:=Hd_ (sq_id n)
     have HID:=Hd_ (specIdentity n)
     clear hin hare g1 g2
     generalize closureL n l=R at *
     generalize identityOf n=o at *
     go_enter Tryz.func12,Tryz.ntmps12
     go_wp2_with fail
     refine HIN.out.mono ?_
     rintro e w1 ⟨rfl,rfl⟩
     go_wp2_with fail
     refine HAR.out.mono ?_
     rintro e w2 ⟨rfl,hb2⟩
     go_wp2_with fail
     refine (HID.out w2).mono ?_
     rintro e w3 ⟨v3,rfl,ho3,hb3⟩
     have HO3:=Hd_ (ho3.mono hb2.size (Nat.le_refl _))
     have hb3':=below_trans hb2 hb3
     clear ho3 hb3 hb2
     go_wp2_with fail
     go_loopw [5,6] (fun oo ii wr=>∃ k:Nat,k<=5/\ii=.int .i64 (k:Int)/\Own w1.heap.size wr.heap.size wr 57 cPr 2 oo (closK l o k)/\Below w1.heap.size w1 wr) (fun _ ii _=>5 - (intOf ii).toNat)
     case atStart=>exact ⟨0,by omega,rfl,HO3.out,hb3'⟩
     case round =>
      obtain ⟨k,hk,rfl,hown,hbel⟩:=hrel
      have hsz:=hbel.size
      by_cases hlt:k < 5
      · have hq:=sq_clos HSQ.out HL.out k
        have hql:=sq_len hq
        have hcl:=sq_len (sq_comp hq HL.out)
        have hkk:(k:Int) < 5:=by omega
        have HST:=Hd_ (show closK l o (k+1)=mergeL (closK l o k) (composeL (closK l o k) l) from rfl)
        generalize closK l o k=C at *
        have HC:=Hd_ (specCompose _ v C l wr ((hown.sl cPr_len).all (Nat.le_refl _)) (SlE.keep HSL.out hbel) (by omega) hn)
        have HOWN:=Hd_ hown
        clear hown hq
        go_wp2_with fail
        refine HC.out.mono ?_
        rintro e w4 ⟨v4,rfl,ho4,hb4⟩
        have hz4:=hb4.size
        have HM:=Hd_ (specMerge _ v4 C (composeL C l) w4 (SlE.keep ((HOWN.out.sl cPr_len).all (Nat.le_refl _)) hb4) ((ho4.sl cPr_len).all (Nat.le_refl _)) (by omega) (by omega))
        have HB4:=Hd_ (below_trans hbel hb4)
        clear ho4 hb4
        go_wp2_with fail
        refine HM.out.mono ?_
        rintro e w5 ⟨v5,rfl,ho5,hb5⟩
        have HO5:=Hd_ (ho5.mono (Nat.le_trans hsz hz4) (Nat.le_refl _))
        have HB5:=Hd_ (below_trans HB4.out hb5)
        clear ho5 hb5
        go_wp2_with fail
        go_roundw
        case rel=>exact ⟨k+1,by omega,by go_num,by rw [HST.out];exact HO5.out,HB5.out⟩
        case measure=>simp [intOf];omega
      · obtain rfl:k=5:=by omega
        rw [<- HE.out] at hown
        have HO:=Hd_ hown
        obtain ⟨A9,n9,c9,rfl⟩:=hown.shape
        clear hown
        go_wp2_with fail
        go_ret
        exact ⟨_,rfl,HO.out,hbel⟩
set_option maxHeartbeats 2000000 in
set_option maxRecDepth 100000 in
theorem implClosure (n:Int) (v:Value) (l:List Pr) (w:World) (hv:SlE w cPr 2 v l) (hn:l.length<=1048576) :
 Calls Tryz.prog 11 #[.int .i64 n,v] w fun e w'=>∃ v',e=.returned v'/\Own w.heap.size w'.heap.size w' 57 cPr 2 v' (closureL n l)/\Below w.heap.size w w':=by
 have HSL:=Hd_ hv
 have hin:=within_any n 1 5 w
 have hare:=implAre v l w hv hn
 clear hv
 cases g1:wi n 1 5 with
 | false =>
   have HE:=Hd_ (show closureL n l=[] by simp [closureL,g1])
   rw [g1] at hin
   have HIN:=Hd_ hin
   clear hin hare g1
   rw [HE.out]
   go_enter Tryz.func11,Tryz.ntmps11
   go_wp2_with fail
   refine HIN.out.mono ?_
   rintro e w1 ⟨rfl,rfl⟩
   go_wp2_with fail
   go_ret
   exact ⟨_,rfl,Own.nil _ _ _ _ _ _,Below.refl _ _⟩
 | true =>
   rw [g1] at hin
   cases g2:arePL l with
   | false =>
     have HE:=Hd_ (show closureL n l=[] by simp [closureL,g2])
     rw [g2] at hare
     have HIN:=Hd_ hin
     have HAR:=Hd_ hare
     clear hin hare g1 g2
     rw [HE.out]
     go_enter Tryz.func11,Tryz.ntmps11
     go_wp2_with fail
     refine HIN.out.mono ?_
     rintro e w1 ⟨rfl,rfl⟩
     go_wp2_with fail
     refine HAR.out.mono ?_
     rintro e w2 ⟨rfl,hb2⟩
     go_wp2_with fail
     go_ret
     exact ⟨_,rfl,Own.nil _ _ _ _ _ _,hb2⟩
   | true =>
     have HL:=Hd_ (arePL_in g2)
     have HE:=Hd_ (show closureL n l=closK l (identityOf n) 5 by simp [closureL,g1,g2])
     rw [g2] at hare
     have HIN:=Hd_ hin
     have HAR:=Hd_ hare
     have HSQ:=Hd_ (sq_id n)
     have HID:=Hd_ (implIdentity n)
     clear hin hare g1 g2
     generalize closureL n l=R at *
     generalize identityOf n=o at *
     go_enter Tryz.func11,Tryz.ntmps11
     go_wp2_with fail
     refine HIN.out.mono ?_
     rintro e w1 ⟨rfl,rfl⟩
     go_wp2_with fail
     refine HAR.out.mono ?_
     rintro e w2 ⟨rfl,hb2⟩
     go_wp2_with fail
     refine (HID.out w2).mono ?_
     rintro e w3 ⟨v3,rfl,ho3,hb3⟩
     have HO3:=Hd_ (ho3.mono hb2.size (Nat.le_refl _))
     have hb3':=below_trans hb2 hb3
     clear ho3 hb3 hb2
     go_wp2_with fail
     go_loopw [5] (fun oo wr=>∃ k:Nat,Own w1.heap.size wr.heap.size wr 57 cPr 2 oo (closK l o k)/\Below w1.heap.size w1 wr) (fun oo _=>25 - lenV oo)
     case atStart=>exact ⟨0,HO3.out,hb3'⟩
     case round =>
      obtain ⟨k,hown,hbel⟩:=hrel
      have hsz:=hbel.size
      have hq:=sq_clos HSQ.out HL.out k
      have hql:=sq_len hq
      have hcl:=sq_len (sq_comp hq HL.out)
      have hml:=sq_len (sq_clos HSQ.out HL.out (k+1))
      have hgr:=clos_grows (l:=l) HSQ.out.1 k
      have HST:=Hd_ (show closK l o (k+1)=mergeL (closK l o k) (composeL (closK l o k) l) from rfl)
      have HDN:=Hd_ (fun h=>(clos_done HSQ.out HL.out (clos_len HSQ.out.1 h)).trans HE.out.symm:(closStep l (closK l o k)).length=(closK l o k).length->closK l o k=R)
      rw [show closStep l (closK l o k)=closK l o (k+1) from rfl] at hgr HDN
      generalize hC1:closK l o (k+1)=C1 at *
      have HC1:=Hd_ hC1
      clear hC1
      generalize closK l o k=C at *
      obtain ⟨A1,c1,rfl⟩:=own_slice hown
      have HC:=Hd_ (implCompose _ v C l wr ((hown.sl cPr_len).all (Nat.le_refl _)) (SlE.keep HSL.out hbel) (by omega) hn)
      have HOWN:=Hd_ hown
      clear hown hq
      go_wp2_with fail
      refine HC.out.mono ?_
      rintro e w4 ⟨v4,rfl,ho4,hb4⟩
      have hz4:=hb4.size
      have hm:=implMerge _ v4 C (composeL C l) w4 (SlE.keep ((HOWN.out.sl cPr_len).all (Nat.le_refl _)) hb4) ((ho4.sl cPr_len).all (Nat.le_refl _)) (by omega) (by omega)
      rw [<- HST.out] at hm
      have HM:=Hd_ hm
      have HB4:=Hd_ (below_trans hbel hb4)
      have HOW4:=Hd_ (HOWN.out.below hb4 (Nat.le_refl _))
      clear ho4 hb4 hm
      go_wp2_with fail
      refine HM.out.mono ?_
      rintro e w5 ⟨v5,rfl,ho5,hb5⟩
      have hz5:=hb5.size
      obtain ⟨A5,c5,rfl⟩:=own_slice ho5
      have HO5:=Hd_ (ho5.mono (Nat.le_trans hsz hz4) (Nat.le_refl _))
      have HOW5:=Hd_ ((HOW4.out.below hb5 hz4).mono (Nat.le_refl _) (Nat.le_trans hz4 hz5))
      have HB5:=Hd_ (below_trans HB4.out hb5)
      clear ho5 hb5
      by_cases hlen:C1.length=C.length
      · have hli:(C1.length:Int)=(C.length:Int):=by omega
        have HRE:=Hd_ (HDN.out hlen)
        go_wp2_with fail
        go_ret
        exact ⟨_,rfl,by rw [<- HRE.out];exact HOW5.out,HB5.out⟩
      · have hli:¬ (C1.length:Int)=(C.length:Int):=by omega
        go_wp2_with fail
        go_roundw
        case rel=>exact ⟨k+1,by rw [HC1.out];exact HO5.out,HB5.out⟩
        case measure=>simp only [lenV];omega
def powX (l o:List Pr):Nat->List Pr
 | 0=>o
 | k+1=>composeL (powX l o k) l
def powO (l o:List Pr) (lo:Int):Nat->List Pr
 | 0=>[]
 | k+1=>if lo<=(k:Int) then mergeL (powO l o lo k) (powX l o k) else powO l o lo k
theorem sq_powX {o l:List Pr} (h:sqP o) (hl:∀ p ∈ l,inB p.1/\inB p.2):∀ k,sqP (powX l o k)
 | 0=>h
 | k+1=>sq_comp (sq_powX h hl k) hl
theorem sq_powO {o l:List Pr} (h:sqP o) (hl:∀ p ∈ l,inB p.1/\inB p.2) (lo:Int):∀ k,sqP (powO l o lo k)
 | 0=>⟨List.Pairwise.nil,by simp [powO]⟩
 | k+1=>by
   rw [powO]
   split
   · exact sq_merge (sq_powO h hl lo k) (sq_powX h hl k)
   · exact sq_powO h hl lo k
def powerL (n:Int) (l:List Pr) (lo hi:Int):List Pr:=if wi n 1 5 && arePL l && wi hi 0 3 && decide (0<=lo) then powO l (identityOf n) lo (hi.toNat+1) else []
theorem own_step {lo:Nat} {w w':World} {e:TypeId} {v:Value} {xs:List Pr} (h:Own lo w.heap.size w e cPr 2 v xs) (hb:Below w.heap.size w w'):Own lo w'.heap.size w' e cPr 2 v xs :=
 (h.below hb (Nat.le_refl _)).mono (Nat.le_refl _) hb.size
set_option maxHeartbeats 4000000 in
set_option maxRecDepth 100000 in
theorem specPower (n:Int) (v:Value) (l:List Pr) (lo hi:Int) (w:World) (hv:SlE w cPr 2 v l) (hn:l.length<=1048576) :
 Calls Tryz.prog 17 #[.int .i64 n,v,.int .i64 lo,.int .i64 hi] w fun e w'=>∃ v',e=.returned v'/\Own w.heap.size w'.heap.size w' 57 cPr 2 v' (powerL n l lo hi)/\Below w.heap.size w w':=by
 have HSL:=Hd_ hv
 have hin:∀ w:World,_:=fun w=>l1In_any n 1 5 w
 have hih:∀ w:World,_:=fun w=>l1In_any hi 0 3 w
 have hare:∀ w:World,SlE w cPr 2 v l->_:=fun w h=>specAre v l w h hn
 have hb0:Below w.heap.size w (w.alloc (.cells #[] 57)):=(Below.refl _ _).alloc (Nat.le_refl _) _
 have HO0:=Hd_ (Own.of_row (E:=cPr) (xs:=([]:List Pr)) (World.ownsRow_lit (base:=w.heap.size) (e:=57) (size:=2) w #[] 0 (Nat.le_refl _) (by decide) rfl) rfl rfl)
 clear hv
 cases g1:wi n 1 5 with
 | false =>
   have HE:=Hd_ (show powerL n l lo hi=[] by simp [powerL,g1])
   simp only [g1] at hin
   have HIN:=Hd_ hin
   clear hin hih hare g1
   rw [HE.out]
   go_enter Tryz.func17,Tryz.ntmps17
   go_wp2_with fail
   refine (HIN.out _).mono ?_
   rintro e w1 ⟨rfl,hw1⟩
   rw [hw1]
   clear hw1 w1
   go_wp2_with fail
   go_ret
   exact ⟨_,rfl,HO0.out,hb0⟩
 | true =>
   simp only [g1] at hin
   cases g2:arePL l with
   | false =>
     have HE:=Hd_ (show powerL n l lo hi=[] by simp [powerL,g2])
     simp only [g2] at hare
     have HIN:=Hd_ hin
     have HAR:=Hd_ hare
     clear hin hih hare g1 g2
     rw [HE.out]
     go_enter Tryz.func17,Tryz.ntmps17
     go_wp2_with fail
     refine (HIN.out _).mono ?_
     rintro e w1 ⟨rfl,hw1⟩
     rw [hw1]
     clear hw1 w1
     go_wp2_with fail
     refine (HAR.out _ (SlE.keep HSL.out hb0)).mono ?_
     rintro e w2 ⟨rfl,hb2⟩
     have HO2:=Hd_ (own_step HO0.out hb2)
     have hb:=below_trans hb0 hb2
     clear hb2
     go_wp2_with fail
     go_ret
     exact ⟨_,rfl,HO2.out,hb⟩
   | true =>
     simp only [g2] at hare
     cases g3:wi hi 0 3 with
     | false =>
       have HE:=Hd_ (show powerL n l lo hi=[] by simp [powerL,g3])
       simp only [g3] at hih
       have HIN:=Hd_ hin
       have HAR:=Hd_ hare
       have HIH:=Hd_ hih
       clear hin hih hare g1 g2 g3
       rw [HE.out]
       go_enter Tryz.func17,Tryz.ntmps17
       go_wp2_with fail
       refine (HIN.out _).mono ?_
       rintro e w1 ⟨rfl,hw1⟩
       rw [hw1]
       clear hw1 w1
       go_wp2_with fail
       refine (HAR.out _ (SlE.keep HSL.out hb0)).mono ?_
       rintro e w2 ⟨rfl,hb2⟩
       have HO2:=Hd_ (own_step HO0.out hb2)
       have hb:=below_trans hb0 hb2
       clear hb2
       go_wp2_with fail
       refine (HIH.out _).mono ?_
       rintro e w1 ⟨rfl,hw1⟩
       rw [hw1]
       clear hw1 w1
       go_wp2_with fail
       go_ret
       exact ⟨_,rfl,HO2.out,hb⟩
     | true =>
       simp only [g3] at hih
       by_cases g4:lo < 0
       · have HE:=Hd_ (show powerL n l lo hi=[] by (have:¬ 0<=lo:=(by omega));simp [powerL,this])
         have HIN:=Hd_ hin
         have HAR:=Hd_ hare
         have HIH:=Hd_ hih
         clear hin hih hare g1 g2
         rw [HE.out]
         go_enter Tryz.func17,Tryz.ntmps17
         go_wp2_with fail
         refine (HIN.out _).mono ?_
         rintro e w1 ⟨rfl,hw1⟩
         rw [hw1]
         clear hw1 w1
         go_wp2_with fail
         refine (HAR.out _ (SlE.keep HSL.out hb0)).mono ?_
         rintro e w2 ⟨rfl,hb2⟩
         have HO2:=Hd_ (own_step HO0.out hb2)
         have hb:=below_trans hb0 hb2
         clear hb2
         go_wp2_with fail
         refine (HIH.out _).mono ?_
         rintro e w1 ⟨rfl,hw1⟩
         rw [hw1]
         clear hw1 w1
         go_wp2_with fail
         go_ret
         exact ⟨_,rfl,HO2.out,hb⟩
       · have g4d:decide (lo < 0)=false:=by simpa using g4
         have HL:=Hd_ (arePL_in g2)
         have HE:=Hd_ (show powerL n l lo hi=powO l (identityOf n) lo (hi.toNat+1) by (have:0<=lo:=(by omega));simp [powerL,g1,g2,g3,this])
         obtain ⟨g30,g31⟩:=wi_iff.1 g3
         have HIN:=Hd_ hin
         have HAR:=Hd_ hare
         have HIH:=Hd_ hih
         have HSQ:=Hd_ (sq_id n)
         have HID:=Hd_ (specIdentity n)
         clear hin hare hih g1 g2 g3
         generalize powerL n l lo hi=R at *
         generalize identityOf n=o at *
         obtain ⟨h,rfl⟩:=Int.eq_ofNat_of_zero_le g30
         rw [Int.toNat_natCast] at HE
         have hh3:h<=3:=by omega
         clear g30 g31
         go_enter Tryz.func17,Tryz.ntmps17
         go_wp2_with fail
         refine (HIN.out _).mono ?_
         rintro e w1 ⟨rfl,hw1⟩
         rw [hw1]
         clear hw1 w1
         go_wp2_with fail
         refine (HAR.out _ (SlE.keep HSL.out hb0)).mono ?_
         rintro e w2 ⟨rfl,hb2⟩
         have HO2:=Hd_ (own_step HO0.out hb2)
         have hb:=below_trans hb0 hb2
         clear hb2
         go_wp2_with fail
         refine (HIH.out _).mono ?_
         rintro e w1 ⟨rfl,hw1⟩
         rw [hw1]
         clear hw1 w1
         go_wp2_with fail
         have hzz:=hb.size
         refine (HID.out _).mono ?_
         rintro e w3 ⟨v3,rfl,ho3,hb3⟩
         have HX3:=Hd_ (ho3.mono hzz (Nat.le_refl _))
         have HO3:=Hd_ (own_step HO2.out hb3)
         have hb3':=below_trans hb hb3
         clear ho3 hb3 hzz hb
         go_wp2_with fail
         go_loopw [9,10,11] (fun oo xx ii wr=>∃ k:Nat,k<=h+1/\ii=.int .i64 (k:Int)/\Own w.heap.size wr.heap.size wr 57 cPr 2 oo (powO l o lo k)/\Own w.heap.size wr.heap.size wr 57 cPr 2 xx (powX l o k)/\Below w.heap.size w wr) (fun _ _ ii _=>h+1 - (intOf ii).toNat)
         case atStart=>exact ⟨0,by omega,rfl,HO3.out,HX3.out,hb3'⟩
         case round =>
          obtain ⟨k,hk,rfl,hown,hox,hbel⟩:=hrel
          have hsz:=hbel.size
          by_cases hlt:k<=h
          · have hq:=sq_powX HSQ.out HL.out k
            have hql:=sq_len hq
            have hpl:=sq_len (sq_powO HSQ.out HL.out lo k)
            have hkk:(k:Int)<=(h:Int):=by omega
            have HSX:=Hd_ (show powX l o (k+1)=composeL (powX l o k) l from rfl)
            have HOWN:=Hd_ hown
            have HOX:=Hd_ hox
            clear hown hox hq
            by_cases hlo:lo<=(k:Int)
            · have HSO:=Hd_ (show powO l o lo (k+1)=mergeL (powO l o lo k) (powX l o k) from if_pos hlo)
              generalize powO l o lo k=C at *
              generalize powX l o k=X at *
              have HM:=Hd_ (specMerge _ _ C X wr ((HOWN.out.sl cPr_len).all (Nat.le_refl _)) ((HOX.out.sl cPr_len).all (Nat.le_refl _)) (by omega) (by omega))
              go_wp2_with fail
              refine HM.out.mono ?_
              rintro e w4 ⟨v4,rfl,ho4,hb4⟩
              have HO4:=Hd_ (ho4.mono hsz (Nat.le_refl _))
              have HOX4:=Hd_ (own_step HOX.out hb4)
              have hbel4:=below_trans hbel hb4
              have hsz4:=hbel4.size
              clear ho4 hb4 HM
              have HC:=Hd_ (specCompose _ v X l w4 ((HOX4.out.sl cPr_len).all (Nat.le_refl _)) (SlE.keep HSL.out hbel4) (by omega) hn)
              go_wp2_with fail
              refine HC.out.mono ?_
              rintro e w5 ⟨v5,rfl,ho5,hb5⟩
              have HX5:=Hd_ (ho5.mono hsz4 (Nat.le_refl _))
              have HO5:=Hd_ (own_step HO4.out hb5)
              have HB5:=Hd_ (below_trans hbel4 hb5)
              clear ho5 hb5
              go_wp2_with fail
              go_roundw
              case rel=>exact ⟨k+1,by omega,by go_num,by rw [HSO.out];exact HO5.out,by rw [HSX.out];exact HX5.out,HB5.out⟩
              case measure=>simp [intOf];omega
            · have HSO:=Hd_ (show powO l o lo (k+1)=powO l o lo k from if_neg hlo)
              generalize powO l o lo k=C at *
              generalize powX l o k=X at *
              have HC:=Hd_ (specCompose _ v X l wr ((HOX.out.sl cPr_len).all (Nat.le_refl _)) (SlE.keep HSL.out hbel) (by omega) hn)
              go_wp2_with fail
              refine HC.out.mono ?_
              rintro e w5 ⟨v5,rfl,ho5,hb5⟩
              have HX5:=Hd_ (ho5.mono hsz (Nat.le_refl _))
              have HO5:=Hd_ (own_step HOWN.out hb5)
              have HB5:=Hd_ (below_trans hbel hb5)
              clear ho5 hb5
              go_wp2_with fail
              go_roundw
              case rel=>exact ⟨k+1,by omega,by go_num,by rw [HSO.out];exact HO5.out,by rw [HSX.out];exact HX5.out,HB5.out⟩
              case measure=>simp [intOf];omega
          · obtain rfl:k=h+1:=by omega
            rw [<- HE.out] at hown
            have HO:=Hd_ hown
            obtain ⟨A9,n9,c9,rfl⟩:=hown.shape
            clear hown hox
            have hkk:¬ ((h+1:Nat):Int)<=(h:Int):=by omega
            go_wp2_with fail
            go_ret
            exact ⟨_,rfl,HO.out,hbel⟩
set_option maxHeartbeats 4000000 in
set_option maxRecDepth 100000 in
theorem implPower (n:Int) (v:Value) (l:List Pr) (lo hi:Int) (w:World) (hv:SlE w cPr 2 v l) (hn:l.length<=1048576) :
 Calls Tryz.prog 16 #[.int .i64 n,v,.int .i64 lo,.int .i64 hi] w fun e w'=>∃ v',e=.returned v'/\Own w.heap.size w'.heap.size w' 57 cPr 2 v' (powerL n l lo hi)/\Below w.heap.size w w':=by
 have HSL:=Hd_ hv
 have hin:∀ w:World,_:=fun w=>within_any n 1 5 w
 have hih:∀ w:World,_:=fun w=>within_any hi 0 3 w
 have hare:∀ w:World,SlE w cPr 2 v l->_:=fun w h=>implAre v l w h hn
 have hb0:Below w.heap.size w w:=Below.refl _ _
 clear hv
 cases g1:wi n 1 5 with
 | false =>
   have HE:=Hd_ (show powerL n l lo hi=[] by simp [powerL,g1])
   simp only [g1] at hin
   have HIN:=Hd_ hin
   clear hin hih hare g1
   rw [HE.out]
   go_enter Tryz.func16,Tryz.ntmps16
   go_wp2_with fail
   refine (HIN.out _).mono ?_
   rintro e w1 ⟨rfl,hw1⟩
   rw [hw1]
   clear hw1 w1
   go_wp2_with fail
   go_ret
   exact ⟨_,rfl,Own.nil _ _ _ _ _ _,hb0⟩
 | true =>
   simp only [g1] at hin
   cases g2:arePL l with
   | false =>
     have HE:=Hd_ (show powerL n l lo hi=[] by simp [powerL,g2])
     simp only [g2] at hare
     have HIN:=Hd_ hin
     have HAR:=Hd_ hare
     clear hin hih hare g1 g2
     rw [HE.out]
     go_enter Tryz.func16,Tryz.ntmps16
     go_wp2_with fail
     refine (HIN.out _).mono ?_
     rintro e w1 ⟨rfl,hw1⟩
     rw [hw1]
     clear hw1 w1
     go_wp2_with fail
     refine (HAR.out _ (SlE.keep HSL.out hb0)).mono ?_
     rintro e w2 ⟨rfl,hb2⟩
     have hb:=below_trans hb0 hb2
     clear hb2
     go_wp2_with fail
     go_ret
     exact ⟨_,rfl,Own.nil _ _ _ _ _ _,hb⟩
   | true =>
     simp only [g2] at hare
     by_cases g4:lo < 0
     · have HE:=Hd_ (show powerL n l lo hi=[] by (have:¬ 0<=lo:=(by omega));simp [powerL,this])
       have HIN:=Hd_ hin
       have HAR:=Hd_ hare
       have HIH:=Hd_ hih
       clear hin hih hare g1 g2
       rw [HE.out]
       go_enter Tryz.func16,Tryz.ntmps16
       go_wp2_with fail
       refine (HIN.out _).mono ?_
       rintro e w1 ⟨rfl,hw1⟩
       rw [hw1]
       clear hw1 w1
       go_wp2_with fail
       refine (HAR.out _ (SlE.keep HSL.out hb0)).mono ?_
       rintro e w2 ⟨rfl,hb2⟩
       have hb:=below_trans hb0 hb2
       clear hb2
       go_wp2_with fail
       go_ret
       exact ⟨_,rfl,Own.nil _ _ _ _ _ _,hb⟩
     · have g4d:decide (lo < 0)=false:=by simpa using g4
       cases g3:wi hi 0 3 with
       | false =>
         have HE:=Hd_ (show powerL n l lo hi=[] by simp [powerL,g3])
         simp only [g3] at hih
         have HIN:=Hd_ hin
         have HAR:=Hd_ hare
         have HIH:=Hd_ hih
         clear hin hih hare g1 g2 g3
         rw [HE.out]
         go_enter Tryz.func16,Tryz.ntmps16
         go_wp2_with fail
         refine (HIN.out _).mono ?_
         rintro e w1 ⟨rfl,hw1⟩
         rw [hw1]
         clear hw1 w1
         go_wp2_with fail
         refine (HAR.out _ (SlE.keep HSL.out hb0)).mono ?_
         rintro e w2 ⟨rfl,hb2⟩
         have hb:=below_trans hb0 hb2
         clear hb2
         go_wp2_with fail
         refine (HIH.out _).mono ?_
         rintro e w1 ⟨rfl,hw1⟩
         rw [hw1]
         clear hw1 w1
         go_wp2_with fail
         go_ret
         exact ⟨_,rfl,Own.nil _ _ _ _ _ _,hb⟩
       | true =>
         simp only [g3] at hih
         have HL:=Hd_ (arePL_in g2)
         have HE:=Hd_ (show powerL n l lo hi=powO l (identityOf n) lo (hi.toNat+1) by (have:0<=lo:=(by omega));simp [powerL,g1,g2,g3,this])
         obtain ⟨g30,g31⟩:=wi_iff.1 g3
         have HIN:=Hd_ hin
         have HAR:=Hd_ hare
         have HIH:=Hd_ hih
         have HSQ:=Hd_ (sq_id n)
         have HID:=Hd_ (implIdentity n)
         clear hin hare hih g1 g2 g3
         generalize powerL n l lo hi=R at *
         generalize identityOf n=o at *
         obtain ⟨h,rfl⟩:=Int.eq_ofNat_of_zero_le g30
         rw [Int.toNat_natCast] at HE
         have hh3:h<=3:=by omega
         clear g30 g31
         go_enter Tryz.func16,Tryz.ntmps16
         go_wp2_with fail
         refine (HIN.out _).mono ?_
         rintro e w1 ⟨rfl,hw1⟩
         rw [hw1]
         clear hw1 w1
         go_wp2_with fail
         refine (HAR.out _ (SlE.keep HSL.out hb0)).mono ?_
         rintro e w2 ⟨rfl,hb2⟩
         have hb:=below_trans hb0 hb2
         clear hb2
         go_wp2_with fail
         refine (HIH.out _).mono ?_
         rintro e w1 ⟨rfl,hw1⟩
         rw [hw1]
         clear hw1 w1
         go_wp2_with fail
         have HO2:=Hd_ ((Own.of_row (E:=cPr) (xs:=([]:List Pr)) (World.ownsRow_lit (base:=w2.heap.size) (e:=57) (size:=2) w2 #[] 0 (Nat.le_refl _) (by decide) rfl) rfl rfl).mono hb.size (Nat.le_refl _))
         replace hb:=hb.alloc hb.size (.cells #[] 57)
         have hzz:=hb.size
         refine (HID.out _).mono ?_
         rintro e w3 ⟨v3,rfl,ho3,hb3⟩
         have HX3:=Hd_ (ho3.mono hzz (Nat.le_refl _))
         have HO3:=Hd_ (own_step HO2.out hb3)
         have hb3':=below_trans hb hb3
         clear ho3 hb3 hzz hb
         go_wp2_with fail
         go_loopw [9,10,11] (fun oo xx ii wr=>∃ k:Nat,k<=h+1/\ii=.int .i64 (k:Int)/\Own w.heap.size wr.heap.size wr 57 cPr 2 oo (powO l o lo k)/\Own w.heap.size wr.heap.size wr 57 cPr 2 xx (powX l o k)/\Below w.heap.size w wr) (fun _ _ ii _=>h+1 - (intOf ii).toNat)
         case atStart=>exact ⟨0,by omega,rfl,HO3.out,HX3.out,hb3'⟩
         case round =>
          obtain ⟨k,hk,rfl,hown,hox,hbel⟩:=hrel
          have hsz:=hbel.size
          by_cases hlt:k<=h
          · have hq:=sq_powX HSQ.out HL.out k
            have hql:=sq_len hq
            have hpl:=sq_len (sq_powO HSQ.out HL.out lo k)
            have hkk:(k:Int)<=(h:Int):=by omega
            have HSX:=Hd_ (show powX l o (k+1)=composeL (powX l o k) l from rfl)
            have HOWN:=Hd_ hown
            have HOX:=Hd_ hox
            clear hown hox hq
            by_cases hlo:lo<=(k:Int)
            · have HSO:=Hd_ (show powO l o lo (k+1)=mergeL (powO l o lo k) (powX l o k) from if_pos hlo)
              generalize powO l o lo k=C at *
              generalize powX l o k=X at *
              have HM:=Hd_ (implMerge _ _ C X wr ((HOWN.out.sl cPr_len).all (Nat.le_refl _)) ((HOX.out.sl cPr_len).all (Nat.le_refl _)) (by omega) (by omega))
              go_wp2_with fail
              refine HM.out.mono ?_
              rintro e w4 ⟨v4,rfl,ho4,hb4⟩
              have HO4:=Hd_ (ho4.mono hsz (Nat.le_refl _))
              have HOX4:=Hd_ (own_step HOX.out hb4)
              have hbel4:=below_trans hbel hb4
              have hsz4:=hbel4.size
              clear ho4 hb4 HM
              have HC:=Hd_ (implCompose _ v X l w4 ((HOX4.out.sl cPr_len).all (Nat.le_refl _)) (SlE.keep HSL.out hbel4) (by omega) hn)
              go_wp2_with fail
              refine HC.out.mono ?_
              rintro e w5 ⟨v5,rfl,ho5,hb5⟩
              have HX5:=Hd_ (ho5.mono hsz4 (Nat.le_refl _))
              have HO5:=Hd_ (own_step HO4.out hb5)
              have HB5:=Hd_ (below_trans hbel4 hb5)
              clear ho5 hb5
              go_wp2_with fail
              go_roundw
              case rel=>exact ⟨k+1,by omega,by go_num,by rw [HSO.out];exact HO5.out,by rw [HSX.out];exact HX5.out,HB5.out⟩
              case measure=>simp [intOf];omega
            · have HSO:=Hd_ (show powO l o lo (k+1)=powO l o lo k from if_neg hlo)
              generalize powO l o lo k=C at *
              generalize powX l o k=X at *
              have HC:=Hd_ (implCompose _ v X l wr ((HOX.out.sl cPr_len).all (Nat.le_refl _)) (SlE.keep HSL.out hbel) (by omega) hn)
              go_wp2_with fail
              refine HC.out.mono ?_
              rintro e w5 ⟨v5,rfl,ho5,hb5⟩
              have HX5:=Hd_ (ho5.mono hsz (Nat.le_refl _))
              have HO5:=Hd_ (own_step HOWN.out hb5)
              have HB5:=Hd_ (below_trans hbel hb5)
              clear ho5 hb5
              go_wp2_with fail
              go_roundw
              case rel=>exact ⟨k+1,by omega,by go_num,by rw [HSO.out];exact HO5.out,by rw [HSX.out];exact HX5.out,HB5.out⟩
              case measure=>simp [intOf];omega
          · obtain rfl:k=h+1:=by omega
            rw [<- HE.out] at hown
            have HO:=Hd_ hown
            obtain ⟨A9,n9,c9,rfl⟩:=hown.shape
            clear hown hox
            have hkk:¬ ((h+1:Nat):Int)<=(h:Int):=by omega
            go_wp2_with fail
            go_ret
            exact ⟨_,rfl,HO.out,hbel⟩
end Go.Proofs.YtloeghbhoflabaaGreat
namespace Go.Proofs.YtloeghbhoflabaaGreat
open Go.ChangeShapes Go.WideShapes Go.ChangeAt Go.RowKit
def evalT (g:Gr):Tr->List Pr
 | .leaf t=>if t.1=2 then identityOf (g.vals.length:Int) else if t.1=3 then letterL g t.2.1 else []
 | .un t a=>if t.1=6 then closureL (g.vals.length:Int) (evalT g a) else if t.1=7 then powerL (g.vals.length:Int) (evalT g a) t.2.2.1 t.2.2.2 else []
 | .bin t a b=>if t.1=4 then composeL (evalT g a) (evalT g b) else if t.1=5 then mergeL (evalT g a) (evalT g b) else []
theorem sq_nil:sqP []:=⟨List.Pairwise.nil,by simp⟩
theorem letter_in {g:Gr} (hg:GrOk g) {lt:Int} {p:Pr} (h:p ∈ specLet g lt):inB p.1/\inB p.2:=by
 have hn5:=hg.n5
 simp only [specLet,selfL,List.mem_append,List.mem_flatMap,List.mem_range] at h
 rcases h with ⟨x,hx,hp⟩ | ⟨e,he,hp⟩
 · unfold selfE at hp
   split at hp
   · rw [List.mem_singleton] at hp
     subst hp
     exact ⟨⟨by simp only;omega,by simp only;omega⟩,⟨by simp only;omega,by simp only;omega⟩⟩
   · cases hp
 · obtain ⟨-,⟨f0,f1⟩,⟨t0,t1⟩,-⟩:=hg.edges e he
   rcases mem_edgE.1 hp with ⟨-,rfl⟩ | ⟨-,rfl⟩
   · exact ⟨⟨f0,by simp only;omega⟩,⟨t0,by simp only;omega⟩⟩
   · exact ⟨⟨t0,by simp only;omega⟩,⟨f0,by simp only;omega⟩⟩
theorem sq_letter {g:Gr} (hg:GrOk g) (lt:Int):sqP (letterL g lt):=by
 rw [letterL]
 split
 · exact ⟨psetL_asc _,fun p hp=>letter_in hg (mem_psetL.1 hp)⟩
 · exact sq_nil
theorem sq_closure (n:Int) (l:List Pr):sqP (closureL n l):=by
 rw [closureL]
 split
 · rename_i h
   simp only [Bool.and_eq_true] at h
   exact sq_clos (sq_id n) (arePL_in h.2) 5
 · exact sq_nil
theorem sq_power (n:Int) (l:List Pr) (lo hi:Int):sqP (powerL n l lo hi):=by
 rw [powerL]
 split
 · rename_i h
   simp only [Bool.and_eq_true] at h
   exact sq_powO (sq_id n) (arePL_in h.1.1.2) lo _
 · exact sq_nil
theorem sq_eval {g:Gr} (hg:GrOk g):∀ r:Tr,sqP (evalT g r)
 | .leaf t=>by
   rw [evalT]
   split
   · exact sq_id _
   · split
     · exact sq_letter hg _
     · exact sq_nil
 | .un t a=>by
   rw [evalT]
   split
   · exact sq_closure _ _
   · split
     · exact sq_power _ _ _ _
     · exact sq_nil
 | .bin t a b=>by
   rw [evalT]
   split
   · exact sq_comp (sq_eval hg a) (sq_eval hg b).2
   · split
     · exact sq_merge (sq_eval hg a) (sq_eval hg b)
     · exact sq_nil
theorem eval_len {g:Gr} (hg:GrOk g) (r:Tr):(evalT g r).length<=25:=sq_len (sq_eval hg r)
/-- an expression: at most 24 tokens that are one tree -/
def exprOk (l:List Tok):Bool:=decide (l.length<=24) && (treeL l).isSome
def evalE (g:Gr) (l:List Tok):List Pr × Bool:=if (grOk g && exprOk l)=true then (match treeL l with | some r=>evalT g r | none=>[],true) else ([],false)
theorem evalE_len (g:Gr) (l:List Tok):(evalE g l).1.length<=25:=by
 unfold evalE
 split
 · rename_i h
   simp only [Bool.and_eq_true] at h
   simp only
   split
   · exact eval_len (grOk_iff.1 h.1) _
   · simp
 · simp
end Go.Proofs.YtloeghbhoflabaaGreat
namespace Go.Proofs.YtloeghbhoflabaaGreat
open Go.ChangeShapes Go.WideShapes Go.ChangeAt Go.RowKit
attribute [local go_sem] ext_cell ext_frozen ext_lt ext_lt1 ext_lt2 ext_lt3 ltn2 ltn3 ltn13 lts1 lts2 lts3
def inP (b:List Pr) (p:Pr):Bool:=decide (p ∈ b)
def subL (a b:List Pr):List Pr:=psetL (a.filter fun p=>!inP b p)
set_option maxHeartbeats 2000000 in
theorem l15Has_any (v:Value) (l:List Pr) (p:Pr) (w:World) (hv:SlE w cPr 2 v l) :
 Calls Tryz.prog 58 #[v,.agg #[.int .i64 p.1,.int .i64 p.2]] w fun e w'=>e=.returned (.bool (inP l p))/\Below w.heap.size w w':=by
 have hs:=hv
 obtain ⟨A,c,rfl,hl,hm,-⟩:=hv
 unfold maxLen at hm
 have HS:=Hd_ hs
 obtain ⟨pa,pb⟩:=p
 obtain ⟨R,hR⟩:∃ R,R=inP l (pa,pb):=⟨_,rfl⟩
 have HRT:=Hd_ (fun (h:((pa,pb):Pr) ∈ l)=>show R=true by rw [hR,inP];simpa using h)
 have HRF:=Hd_ (fun (h:¬ ((pa,pb):Pr) ∈ l)=>show R=false by rw [hR,inP];simpa using h)
 simp only
 rw [<- hR]
 clear hs hR
 have hb0:Below w.heap.size w (w.alloc (.cells #[.int .i64 pa,.int .i64 pb] 57)):=(Below.refl _ _).alloc (Nat.le_refl _) _
 have bZ:=Blk.new w 57 #[.int .i64 pa,.int .i64 pb] w.heap.size rfl
 go_enter Tryz.func58,Tryz.ntmps58
 go_wp2_with fail
 obtain ⟨W1,hW1⟩:∃ W1,W1=w.alloc (.cells #[.int .i64 pa,.int .i64 pb] 57):=⟨_,rfl⟩
 rw [<- hW1] at hb0 bZ ⊢
 have z0:W1.cell? ⟨w.heap.size,0,none⟩=some (.int .i64 pa):=bZ.cell 0
 have z1:W1.cell? ⟨w.heap.size,1,none⟩=some (.int .i64 pb):=bZ.cell 1
 have lz:=bZ.lt
 have HB0:=Hd_ hb0
 clear hW1 hb0 bZ
 go_loopw [5] (fun ii wr=>∃ (i:Nat) (u:World),i<=l.length/\ii=.int .i64 (i:Int)/\(∀ j q,j < i->l[j]?=some q->q ≠ ((pa,pb):Pr))/\wr=ext W1 u) (fun ii _=>l.length - (intOf ii).toNat)
 case atStart=>exact ⟨0,W1,Nat.zero_le _,rfl,fun j q hj=>by omega,ext_self _⟩
 case round =>
  obtain ⟨i,u,hi,rfl,hno,rfl⟩:=hrel
  by_cases hlt:i < l.length
  · have hxi:l[i]?=some l[i]:=List.getElem?_eq_getElem hlt
    generalize l[i]=x at hxi
    obtain ⟨b',o,rfl,⟨-,hb⟩,d0,d1⟩:=HS.out.prA hxi
    obtain ⟨xa,xb⟩:=x
    simp only at d0 d1
    have d0:=kcell HB0.out d0
    have d1:=kcell HB0.out d1
    have hbw:b' < W1.heap.size:=by omega
    have hii:(i:Int) < (l.length:Int):=by omega
    have HMEM:=Hd_ (List.mem_of_getElem? hxi)
    have HNX:=Hd_ (fun (h:((xa,xb):Pr) ≠ (pa,pb)) j q (hj:j < i+1) (hq:l[j]?=some q)=>show q ≠ ((pa,pb):Pr) from by
     rcases Nat.lt_or_ge j i with h1 | h1
     · exact hno j q h1 hq
     · obtain rfl:j=i:=by omega
       rw [hxi] at hq
       injection hq with hq
       rw [<- hq];exact h)
    obtain ⟨bb,hbb⟩:∃ bb,bb=decide (((xa,xb):Pr)=(pa,pb)):=⟨_,rfl⟩
    have HEQ:=Hd_ (fun w=>eqlPr xa xb pa pb w)
    rw [<- hbb] at HEQ
    have HBB:=Hd_ hbb
    have heq:=HEQ.out
    clear hbb hxi hno
    cases bb with
    | true =>
      have HFN:=Hd_ (HRT.out (by have h:((xa,xb):Pr)=(pa,pb):=of_decide_eq_true HBB.out.symm;rw [<- h];exact HMEM.out))
      go_wp2_with fail
      refine wp_region_ext_lit (by kernel_rfl) (by kernel_rfl) ?_
      repeat (go_big_quiet_step (fail))
      refine wpQuiet_nil ?_
      rintro _ ⟨u2,rfl⟩
      have hbf:=below_trans HB0.out (below_trans (ext_below W1 u) (ext_below (ext W1 u) u2))
      go_wp2_with fail
      go_ret
      exact ⟨by rw [HFN.out];rfl,hbf⟩
    | false =>
      have HNY:=Hd_ (HNX.out (of_decide_eq_false HBB.out.symm))
      go_wp2_with fail
      refine wp_region_ext_lit (by kernel_rfl) (by kernel_rfl) ?_
      repeat (go_big_quiet_step (fail))
      refine wpQuiet_nil ?_
      rintro _ ⟨u2,rfl⟩
      obtain ⟨u4,hu4⟩:=ext_ext W1 u u2
      rw [hu4]
      clear hu4
      go_wp2_with fail
      go_roundw
      case rel=>exact ⟨i+1,u4,by omega,by go_num,HNY.out,rfl⟩
      case measure=>simp [intOf];omega
  · have HFN:=Hd_ (HRF.out (fun h=>by
     obtain ⟨j,hj⟩:=List.getElem?_of_mem h
     exact hno j _ (by have:=(List.getElem?_eq_some_iff.1 hj).1;omega) hj rfl))
    have hii:¬ (i:Int) < (l.length:Int):=by omega
    have hbf:=below_trans HB0.out (ext_below W1 u)
    clear hno
    go_wp2_with fail
    go_ret
    exact ⟨by rw [HFN.out];rfl,hbf⟩
theorem filt_yes {a:List Pr} {f:Pr->Bool} {i:Nat} {x:Pr} (h:a[i]?=some x) (hf:f x=true):(a.take (i+1)).filter f=(a.take i).filter f ++ [x]:=by
 rw [take_snoc h,List.filter_append];simp [hf]
theorem filt_no {a:List Pr} {f:Pr->Bool} {i:Nat} {x:Pr} (h:a[i]?=some x) (hf:f x=false):(a.take (i+1)).filter f=(a.take i).filter f:=by
 rw [take_snoc h,List.filter_append];simp [hf]
set_option maxHeartbeats 2000000 in
set_option maxRecDepth 100000 in
theorem specSubtract (va vb:Value) (a b:List Pr) (w:World) (hva:SlE w cPr 2 va a) (hvb:SlE w cPr 2 vb b) (hna:a.length<=1048576) :
 Calls Tryz.prog 36 #[va,vb] w fun e w'=>∃ v',e=.returned v'/\Own w.heap.size w'.heap.size w' 57 cPr 2 v' (subL a b)/\Below w.heap.size w w':=by
 have hsa:=hva
 have hsb:=hvb
 obtain ⟨A,ca,rfl,hla,hma,-⟩:=hva
 obtain ⟨B,cb,rfl,hlb,hmb,-⟩:=hvb
 unfold maxLen at hma hmb
 obtain ⟨R,hR⟩:∃ R,R=subL a b:=⟨_,rfl⟩
 rw [<- hR]
 have HR:=Hd_ hR
 have HSA:=Hd_ hsa
 have HSB:=Hd_ hsb
 have HHAS:=Hd_ (fun (p:Pr) (W:World) (hW:Below w.heap.size w W)=>l15Has_any _ b p W (SlE.keep hsb hW))
 clear hR hsa hsb
 go_enter Tryz.func36,Tryz.ntmps36
 go_wp2_with fail
 go_loopw [5,6] (fun oo ii wr=>∃ i:Nat,i<=a.length/\ii=.int .i64 (i:Int)/\SetR w.heap.size wr oo (psetL ((a.take i).filter fun p=>!inP b p))/\Below w.heap.size w wr) (fun _ ii _=>a.length - (intOf ii).toNat)
 case atStart=>exact ⟨0,Nat.zero_le _,rfl,SetR.lit w _ (Nat.le_refl _),(Below.refl _ _).alloc (Nat.le_refl _) _⟩
 case round =>
  obtain ⟨i,hi,rfl,hset,hbel⟩:=hrel
  have HSET:=Hd_ hset
  have hsz:=hbel.size
  clear hset
  by_cases hlt:i < a.length
  · have hxi:a[i]?=some a[i]:=List.getElem?_eq_getElem hlt
    generalize a[i]=x at hxi
    obtain ⟨b',o,rfl,⟨-,hb⟩,d0,d1⟩:=HSA.out.prA hxi
    have d0:=kcell hbel d0
    have d1:=kcell hbel d1
    obtain ⟨xa,xb⟩:=x
    simp only at d0 d1
    have hbw:b' < wr.heap.size:=by omega
    have hii:(i:Int) < (a.length:Int):=by omega
    have HY:=Hd_ (fun (h:inP b (xa,xb)=false)=>show psetL ((a.take (i+1)).filter fun p=>!inP b p)=putP (psetL ((a.take i).filter fun p=>!inP b p)) (xa,xb) from by rw [filt_yes hxi (by rw [h];rfl),psetL_snoc])
    have HN:=Hd_ (fun (h:inP b (xa,xb)=true)=>show psetL ((a.take (i+1)).filter fun p=>!inP b p)=psetL ((a.take i).filter fun p=>!inP b p) from by rw [filt_no hxi (by rw [h];rfl)])
    have hpl:(psetL ((a.take i).filter fun p=>!inP b p)).length<=2097152:=Nat.le_trans (psetL_len _) (Nat.le_trans (List.length_filter_le _ _) (by simp only [List.length_take];omega))
    clear hxi
    generalize psetL ((a.take i).filter fun p=>!inP b p)=L at *
    go_wp2_with fail
    refine (HHAS.out (xa,xb) _ hbel).mono ?_
    rintro e w3 ⟨rfl,hb3⟩
    have hbel3:=below_trans hbel hb3
    have HS3:=Hd_ (HSET.out.below hb3)
    have hsz3:=hbel3.size
    have d0:=kcell hb3 d0
    have d1:=kcell hb3 d1
    have hbw3:b' < w3.heap.size:=by have:=hb3.size;omega
    cases hc:inP b (xa,xb) with
    | true =>
      have HM:=Hd_ (HN.out hc)
      clear hc hb3
      go_wp2_with fail
      go_roundw
      case rel=>exact ⟨i+1,by omega,by go_num,by rw [HM.out];exact HS3.out,hbel3⟩
      case measure=>simp [intOf];omega
    | false =>
      have HM:=Hd_ (HY.out hc)
      have HP:=Hd_ (l15Put_any _ w.heap.size L (xa,xb) w3 HS3.out hsz3 (by omega))
      clear hc hb3
      go_wp2_with fail
      refine HP.out.mono ?_
      rintro e w4 ⟨v4,rfl,hs4,hb4⟩
      have HS4:=Hd_ hs4
      have HB4:=Hd_ (hbel3.trans (hb4.mono hsz3))
      clear hs4 hb4
      go_wp2_with fail
      go_roundw
      case rel=>exact ⟨i+1,by omega,by go_num,by rw [HM.out];exact HS4.out,HB4.out⟩
      case measure=>simp [intOf];omega
  · obtain rfl:i=a.length:=by omega
    rw [List.take_length] at HSET
    have HO:=Hd_ (show Own w.heap.size wr.heap.size wr 57 cPr 2 _ R from by rw [HR.out];exact HSET.out.own)
    obtain ⟨g,c',rfl,-⟩:=HSET.out
    go_wp2_with fail
    go_ret
    exact ⟨_,rfl,HO.out,hbel⟩
end Go.Proofs.YtloeghbhoflabaaGreat
namespace Go.Proofs.YtloeghbhoflabaaGreat
open Go.ChangeShapes Go.WideShapes Go.ChangeAt Go.RowKit
theorem mem_subL {a b:List Pr} {p:Pr}:p ∈ subL a b ↔ p ∈ a/\p ∉ b:=by
 rw [subL,mem_psetL,List.mem_filter,inP]
 simp
theorem subL_nil {a b:List Pr} (h:∀ p ∈ a,p ∈ b):subL a b=[]:=List.eq_nil_iff_forall_not_mem.2 fun p hp=>(mem_subL.1 hp).2 (h p (mem_subL.1 hp).1)
theorem mem_mergeL {a b:List Pr} {p:Pr}:p ∈ mergeL a b ↔ p ∈ a ∨ p ∈ b:=by rw [mergeL,mem_psetL,List.mem_append]
theorem mem_invertL {l:List Pr} {p:Pr}:p ∈ invertL l ↔ (p.2,p.1) ∈ l:=by
 rw [invertL,mem_psetL,List.mem_map]
 constructor
 · rintro ⟨q,hq,rfl⟩;exact hq
 · intro h;exact ⟨_,h,rfl⟩
theorem mem_composeL {a b:List Pr} {x:Pr}:x ∈ composeL a b ↔ ∃ p ∈ a,∃ q ∈ b,p.2=q.1/\x=(p.1,q.2):=by rw [composeL,mem_psetL,mem_compL]
theorem inv_comp (a b:List Pr):invertL (composeL a b)=composeL (invertL b) (invertL a):=by
 refine uniqP (psetL_asc _) (psetL_asc _) fun x=>?_
 rw [mem_invertL,mem_composeL,mem_composeL]
 constructor
 · rintro ⟨p,hp,q,hq,e,h⟩
   simp only [Prod.mk.injEq] at h
   exact ⟨(q.2,q.1),mem_invertL.2 hq,(p.2,p.1),mem_invertL.2 hp,e.symm,by rw [<- h.1,<- h.2]⟩
 · rintro ⟨p,hp,q,hq,e,rfl⟩
   exact ⟨(q.2,q.1),mem_invertL.1 hq,(p.2,p.1),mem_invertL.1 hp,e.symm,rfl⟩
theorem inv_merge (a b:List Pr):invertL (mergeL a b)=mergeL (invertL a) (invertL b):=by
 refine uniqP (psetL_asc _) (psetL_asc _) fun x=>?_
 rw [mem_invertL,mem_mergeL,mem_mergeL,mem_invertL,mem_invertL]
/-- a closure that stands is transitive and holds its steps -/
theorem clos_trans {l o:List Pr} (ho:∀ p ∈ o,p.1=p.2) {n:Nat} (hf:closStep l (closK l o n)=closK l o n) {x y:Int} (hxy:(x,y) ∈ closK l o n):∀ {k:Nat} {z:Int},(y,z) ∈ closK l o k->(x,z) ∈ closK l o n
 | 0,z,h=>by
   have:y=z:=ho _ h
   exact this ▸ hxy
 | k+1,z,h=>by
   rcases mem_closStep.1 h with h | ⟨p,hp,q,hq,e,h⟩
   · exact clos_trans ho hf hxy h
   · simp only [Prod.mk.injEq] at h
     obtain ⟨rfl,rfl⟩:=h
     have h1:=clos_trans ho hf hxy (z:=p.2) hp
     rw [<- hf]
     exact mem_closStep.2 (.inr ⟨_,h1,q,hq,e,rfl⟩)
theorem clos_comp {l o:List Pr} (ho:∀ p ∈ o,p.1=p.2) {n:Nat} (hf:closStep l (closK l o n)=closK l o n):subL (composeL (closK l o n) (closK l o n)) (closK l o n)=[]:=subL_nil fun x hx=>by
 obtain ⟨p,hp,q,hq,e,rfl⟩:=mem_composeL.1 hx
 exact clos_trans ho hf (y:=p.2) hp (k:=n) (by rw [e];exact hq)
theorem clos_base {l o:List Pr} {p:Pr} (h:p ∈ o):∀ n,p ∈ closK l o n
 | 0=>h
 | n+1=>closK_mono (clos_base h n)
theorem clos_id (l o:List Pr) (n:Nat):subL o (closK l o n)=[]:=subL_nil fun p hp=>clos_base hp n
theorem clos_own {l o:List Pr} {n:Nat} (hf:closStep l (closK l o n)=closK l o n) (ho:∀ p ∈ l,(p.1,p.1) ∈ o):subL l (closK l o n)=[]:=subL_nil fun p hp=>by
 rw [<- hf]
 exact mem_closStep.2 (.inr ⟨_,clos_base (ho p hp) n,p,hp,rfl,rfl⟩)
/-- what the steps give, the inverse steps give backwards -/
theorem inv_clos_one {l l' o:List Pr} (ho:∀ p ∈ o,p.1=p.2) (hl:∀ p ∈ l,(p.2,p.1) ∈ l') (ho':∀ p ∈ l',(p.1,p.1) ∈ o) {n:Nat} (hf:closStep l' (closK l' o n)=closK l' o n):∀ {k:Nat} {x y:Int},(x,y) ∈ closK l o k->(y,x) ∈ closK l' o n
 | 0,x,y,h=>by
   have:x=y:=ho _ h
   subst this
   exact clos_base h n
 | k+1,x,y,h=>by
   rcases mem_closStep.1 h with h | ⟨p,hp,q,hq,e,h⟩
   · exact inv_clos_one ho hl ho' hf h
   · simp only [Prod.mk.injEq] at h
     obtain ⟨rfl,rfl⟩:=h
     have h1:=inv_clos_one ho hl ho' hf (x:=p.1) (y:=p.2) hp
     have h2:(q.2,q.1) ∈ closK l' o n:=by
      rw [<- hf]
      exact mem_closStep.2 (.inr ⟨_,clos_base (ho' _ (hl q hq)) n,_,hl q hq,rfl,rfl⟩)
     rw [<- e] at h2
     exact clos_trans ho hf h2 (k:=n) h1
theorem inv_clos {l o:List Pr} {n:Nat} (ho:∀ p ∈ o,p.1=p.2) (has:ascP o) (h1:∀ p ∈ l,(p.1,p.1) ∈ o/\(p.2,p.2) ∈ o) (hf:closStep l (closK l o n)=closK l o n) (hf':closStep (invertL l) (closK (invertL l) o n)=closK (invertL l) o n) :
 invertL (closK l o n)=closK (invertL l) o n:=by
 refine uniqP (psetL_asc _) (closK_asc has n) fun x=>?_
 rw [mem_invertL]
 constructor
 · intro h
   exact inv_clos_one ho (fun p hp=>mem_invertL.2 hp) (fun p hp=>(h1 _ (mem_invertL.1 hp)).2) hf' h
 · intro h
   exact inv_clos_one ho (fun p hp=>mem_invertL.1 hp) (fun p hp=>(h1 _ hp).1) hf h
def invLt (lt:Int):Int:=if lt < 6 then (if lt % 2=0 then lt+1 else lt - 1) else lt
theorem invLt_two {lt:Int}:invLt (invLt lt)=lt:=by unfold invLt;repeat' (first | omega | split)
theorem mem_specLet {g:Gr} {lt:Int} {x:Pr}:x ∈ specLet g lt ↔ (∃ i:Nat,i < g.vals.length/\lt=6+g.vals.getD i 0/\x=((i:Int),(i:Int))) ∨ ∃ e ∈ g.edges,(2 * e.2.2.2=lt/\x=(e.2.1,e.2.2.1)) ∨ (2 * e.2.2.2+1=lt/\x=(e.2.2.1,e.2.1)):=by
 rw [specLet,List.mem_append,selfL,List.mem_flatMap,List.mem_flatMap]
 constructor
 · rintro (⟨i,hi,h⟩ | ⟨e,he,h⟩)
   · rw [selfE] at h
     split at h
     · rename_i hl
       exact .inl ⟨i,List.mem_range.1 hi,hl,List.mem_singleton.1 h⟩
     · cases h
   · refine .inr ⟨e,he,?_⟩
     rw [edgE,List.mem_append] at h
     rcases h with h | h
     · split at h
       · rename_i hl;exact .inl ⟨hl,List.mem_singleton.1 h⟩
       · cases h
     · split at h
       · rename_i hl;exact .inr ⟨hl,List.mem_singleton.1 h⟩
       · cases h
 · rintro (⟨i,hi,hl,rfl⟩ | ⟨e,he,h⟩)
   · exact .inl ⟨i,List.mem_range.2 hi,by rw [selfE,if_pos hl];simp⟩
   · refine .inr ⟨e,he,?_⟩
     rw [edgE,List.mem_append]
     rcases h with ⟨hl,rfl⟩ | ⟨hl,rfl⟩
     · exact .inl (by rw [if_pos hl];simp)
     · exact .inr (by rw [if_pos hl];simp)
theorem spec_inv {g:Gr} (hg:GrOk g) {lt:Int} {x:Pr} (h:x ∈ specLet g lt):(x.2,x.1) ∈ specLet g (invLt lt):=by
 rw [mem_specLet] at h ⊢
 rcases h with ⟨i,hi,hl,rfl⟩ | ⟨e,he,h⟩
 · have hv:0<=g.vals.getD i 0:=by
    rw [List.getD_eq_getElem?_getD,List.getElem?_eq_getElem hi,Option.getD_some]
    exact (hg.vals _ (List.getElem_mem hi)).1
   refine .inl ⟨i,hi,?_,rfl⟩
   rw [invLt,if_neg (by omega)]
   exact hl
 · obtain ⟨-,-,-,l0,l2⟩:=hg.edges e he
   refine .inr ⟨e,he,?_⟩
   rcases h with ⟨hl,rfl⟩ | ⟨hl,rfl⟩
   · exact .inr ⟨by unfold invLt;rw [if_pos (by omega),if_pos (by omega)];omega,rfl⟩
   · exact .inl ⟨by unfold invLt;rw [if_pos (by omega),if_neg (by omega)];omega,rfl⟩
theorem inv_letter (g:Gr) (lt:Int):invertL (letterL g lt)=letterL g (invLt lt):=by
 rw [letterL,letterL]
 split
 · rename_i hg
   have hg:=grOk_iff.1 hg
   refine uniqP (psetL_asc _) (psetL_asc _) fun x=>?_
   rw [mem_invertL,mem_psetL,mem_psetL]
   constructor
   · intro h;exact spec_inv hg h
   · intro h
     have:=spec_inv hg h
     rwa [invLt_two] at this
 · rfl
def revTok (t:Tok):Tok:=if t.1=3 then (t.1,invLt t.2.1,t.2.2) else t
def revT:Tr->Tr
 | .leaf t=>.leaf (revTok t)
 | .un t a=>.un t (revT a)
 | .bin t a b=>if t.1=4 then .bin t (revT b) (revT a) else .bin t (revT a) (revT b)
theorem invLt_in {lt:Int} (h:0<=lt/\lt<=8):0<=invLt lt/\invLt lt<=8:=by unfold invLt;repeat' (first | omega | split)
theorem rev_len:∀ r:Tr,(post (revT r)).length=(post r).length
 | .leaf t=>rfl
 | .un t a=>by rw [revT,post,post,List.length_append,List.length_append,rev_len a]
 | .bin t a b=>by
   rw [revT]
   split
   · simp only [post,List.length_append,rev_len a,rev_len b];omega
   · simp only [post,List.length_append,rev_len a,rev_len b]
theorem ar_rev {t:Tok} (h:ar t=some 0):ar (revTok t)=some 0:=by
 obtain ⟨k,l,lo,hi⟩:=t
 rw [revTok]
 split
 · rename_i h3
   simp only at h3
   subst h3
   simp only [ar] at h ⊢
   simp only [show ¬ ((3:Int)=1 ∨ (3:Int)=2) by omega,if_false,if_true] at h ⊢
   split at h
   · rename_i hr
     have:=invLt_in (lt:=l) ⟨hr.1,hr.2.1⟩
     rw [if_pos ⟨this.1,this.2,hr.2.2.1,hr.2.2.2⟩]
   · cases h
 · exact h
theorem rev_ok:∀ {r:Tr},r.ok->(revT r).ok
 | .leaf t,h=>ar_rev h
 | .un t a,h=>⟨h.1,rev_ok h.2⟩
 | .bin t a b,h=>by
   rw [revT]
   split
   · exact ⟨h.1,rev_ok h.2.2,rev_ok h.2.1⟩
   · exact ⟨h.1,rev_ok h.2.1,rev_ok h.2.2⟩
theorem parse_succ {l:List Tok} {i:Nat} {st:List Tr} {t:Tok} (h:parseTo l i=some st) (ht:l[i]?=some t):parseTo l (i+1)=push st t:=by rw [parseTo,h,ht]
theorem parse_run {l:List Tok}:∀ {r:Tr},r.ok->∀ {i:Nat} {st:List Tr},parseTo l i=some st->(∀ j,j < (post r).length->l[i+j]?=(post r)[j]?)->parseTo l (i+(post r).length)=some (st ++ [r])
 | .leaf t,h,i,st,hp,hl=>by
   have h0:l[i]?=some t:=by have:=hl 0 (by simp [post]);simpa [post] using this
   have ha:ar t=some 0:=h
   show parseTo l (i+1)=_
   rw [parse_succ hp h0,push,ha]
   rfl
 | .un t a,h,i,st,hp,hl=>by
   have e:(post (.un t a)).length=(post a).length+1:=by rw [post,List.length_append];rfl
   have h1:=parse_run h.2 hp (fun j hj=>by rw [hl j (by omega),post,List.getElem?_append_left hj])
   have h2:l[i+(post a).length]?=some t:=by rw [hl _ (by omega),post,List.getElem?_append_right (Nat.le_refl _),Nat.sub_self];rfl
   rw [e,<- Nat.add_assoc,parse_succ h1 h2,push,h.1]
   simp
 | .bin t a b,h,i,st,hp,hl=>by
   have e:(post (.bin t a b)).length=(post a).length+(post b).length+1:=by rw [post,List.length_append,List.length_append];rfl
   have h1:=parse_run h.2.1 hp (fun j hj=>by rw [hl j (by omega),post,List.getElem?_append_left (by rw [List.length_append];omega),List.getElem?_append_left hj])
   have h2:=parse_run h.2.2 h1 (fun j hj=>by
    rw [Nat.add_assoc,hl _ (by omega),post,List.getElem?_append_left (by rw [List.length_append];omega),List.getElem?_append_right (by omega),Nat.add_sub_cancel_left])
   have h3:l[i+(post a).length+(post b).length]?=some t:=by
    rw [Nat.add_assoc,hl _ (by omega),post,List.getElem?_append_right (by rw [List.length_append];omega),List.length_append,Nat.sub_self];rfl
   rw [e,<- Nat.add_assoc,<- Nat.add_assoc,parse_succ h2 h3,push,h.1]
   have e1:(st ++ [a] ++ [b]).getLast?=some b:=by simp
   have e2:(st ++ [a] ++ [b]).dropLast=st ++ [a]:=by simp
   rw [e1,e2]
   simp
theorem treeL_of {r:Tr} (h:r.ok):treeL (post r)=some r:=by
 have h1:=parse_run (l:=post r) h (i:=0) (st:=[]) rfl (fun j _=>by rw [Nat.zero_add])
 rw [Nat.zero_add,List.nil_append] at h1
 rw [treeL,h1]
theorem pow_pre {l o:List Pr} (ho:∀ p ∈ o,p.1=p.2) {x w:Int} (h:(x,w) ∈ l) (hx:(x,x) ∈ o):∀ {k:Nat} {y:Int},(w,y) ∈ powX l o k->(x,y) ∈ powX l o (k+1)
 | 0,y,h2=>by
   have:w=y:=ho _ h2
   subst this
   exact mem_composeL.2 ⟨(x,x),hx,(x,w),h,rfl,rfl⟩
 | k+1,y,h2=>by
   obtain ⟨p,hp,q,hq,e,h3⟩:=mem_composeL.1 h2
   simp only [Prod.mk.injEq] at h3
   obtain ⟨rfl,rfl⟩:=h3
   exact mem_composeL.2 ⟨(x,p.2),pow_pre ho h hx (y:=p.2) hp,q,hq,e,rfl⟩
theorem inv_pow_one {l l' o:List Pr} (ho:∀ p ∈ o,p.1=p.2) (hl:∀ p ∈ l,(p.2,p.1) ∈ l') (ho':∀ p ∈ l',(p.1,p.1) ∈ o):∀ {k:Nat} {x y:Int},(x,y) ∈ powX l o k->(y,x) ∈ powX l' o k
 | 0,x,y,h=>by
   have:x=y:=ho _ h
   subst this
   exact h
 | k+1,x,y,h=>by
   obtain ⟨p,hp,q,hq,e,h3⟩:=mem_composeL.1 h
   simp only [Prod.mk.injEq] at h3
   obtain ⟨rfl,rfl⟩:=h3
   have h1:=inv_pow_one ho hl ho' (x:=p.1) (y:=p.2) hp
   have h2:=hl q hq
   rw [<- e] at h2
   exact pow_pre ho h2 (ho' _ h2) h1
theorem inv_powO {l o:List Pr} (ho:∀ p ∈ o,p.1=p.2) (h1:∀ p ∈ l,(p.1,p.1) ∈ o/\(p.2,p.2) ∈ o) (lo:Int):∀ k x,x ∈ powO (invertL l) o lo k ↔ (x.2,x.1) ∈ powO l o lo k
 | 0,x=>by simp [powO]
 | k+1,x=>by
   have ih:=inv_powO ho h1 lo k x
   have hp:x ∈ powX (invertL l) o k ↔ (x.2,x.1) ∈ powX l o k :=
    ⟨fun h=>inv_pow_one ho (fun p hp=>mem_invertL.1 hp) (fun p hp=>(h1 _ hp).1) h,fun h=>inv_pow_one ho (fun p hp=>mem_invertL.2 hp) (fun p hp=>(h1 _ (mem_invertL.1 hp)).2) h⟩
   rw [powO,powO]
   split
   · rw [mem_mergeL,mem_mergeL,ih,hp]
   · exact ih
/-- within the nodes below n -/
def inN (n:Nat) (l:List Pr):Prop:=∀ p ∈ l,(0<=p.1/\p.1 < (n:Int))/\(0<=p.2/\p.2 < (n:Int))
theorem inN_inv {n:Nat} {l:List Pr} (h:inN n l):inN n (invertL l):=fun p hp=>by
 have:=h _ (mem_invertL.1 hp)
 exact ⟨this.2,this.1⟩
theorem mem_idPairs {n:Nat} {p:Pr}:p ∈ idPairs n ↔ ∃ i:Nat,i < n/\p=((i:Int),(i:Int)):=by
 rw [idPairs,List.mem_map]
 constructor
 · rintro ⟨i,hi,rfl⟩;exact ⟨i,List.mem_range.1 hi,rfl⟩
 · rintro ⟨i,hi,rfl⟩;exact ⟨i,List.mem_range.2 hi,rfl⟩
theorem id_of {n:Nat} (h:n<=5):identityOf (n:Int)=idPairs n:=by rw [identityOf,if_neg (by omega),Int.toNat_natCast]
theorem id_same {n:Nat} {p:Pr} (h:p ∈ idPairs n):p.1=p.2:=by
 obtain ⟨i,-,rfl⟩:=mem_idPairs.1 h
 rfl
theorem id_has {n:Nat} {x:Int} (h:0<=x/\x < (n:Int)):(x,x) ∈ idPairs n:=mem_idPairs.2 ⟨x.toNat,by omega,by
 have:((x.toNat:Nat):Int)=x:=by omega
 rw [this]⟩
theorem id_in (n:Nat):inN n (idPairs n):=fun p hp=>by
 obtain ⟨i,hi,rfl⟩:=mem_idPairs.1 hp
 simp only
 omega
theorem inv_id (n:Nat):invertL (idPairs n)=idPairs n:=by
 refine uniqP (psetL_asc _) (idPairs_asc n) fun x=>?_
 rw [mem_invertL,mem_idPairs,mem_idPairs]
 constructor <;> rintro ⟨i,hi,h⟩ <;> refine ⟨i,hi,?_⟩ <;> rw [pr_eq] at h ⊢ <;> exact ⟨h.2,h.1⟩
theorem in_clos {n:Nat} {l o:List Pr} (hl:inN n l) (ho:inN n o):∀ k,inN n (closK l o k)
 | 0=>ho
 | k+1=>fun x hx=>by
   rcases mem_closStep.1 hx with h | ⟨p,hp,q,hq,e,rfl⟩
   · exact in_clos hl ho k x h
   · exact ⟨(in_clos hl ho k p hp).1,(hl q hq).2⟩
theorem in_comp {n:Nat} {a b:List Pr} (ha:inN n a) (hb:inN n b):inN n (composeL a b):=fun x hx=>by
 obtain ⟨p,hp,q,hq,-,rfl⟩:=mem_composeL.1 hx
 exact ⟨(ha p hp).1,(hb q hq).2⟩
theorem in_merge {n:Nat} {a b:List Pr} (ha:inN n a) (hb:inN n b):inN n (mergeL a b):=fun x hx=>by
 rcases mem_mergeL.1 hx with h | h
 · exact ha x h
 · exact hb x h
theorem in_powX {n:Nat} {l o:List Pr} (hl:inN n l) (ho:inN n o):∀ k,inN n (powX l o k)
 | 0=>ho
 | k+1=>in_comp (in_powX hl ho k) hl
theorem in_powO {n:Nat} {l o:List Pr} (hl:inN n l) (ho:inN n o) (lo:Int):∀ k,inN n (powO l o lo k)
 | 0=>fun x hx=>by simp [powO] at hx
 | k+1=>by
   rw [powO]
   split
   · exact in_merge (in_powO hl ho lo k) (in_powX hl ho k)
   · exact in_powO hl ho lo k
theorem in_nil (n:Nat):inN n []:=fun x hx=>by cases hx
theorem in_letter {g:Gr} (hg:grOk g=true) (lt:Int):inN g.vals.length (letterL g lt):=fun x hx=>by
 have hgo:=grOk_iff.1 hg
 rw [letterL,if_pos hg,mem_psetL,mem_specLet] at hx
 rcases hx with ⟨i,hi,-,rfl⟩ | ⟨e,he,h⟩
 · simp only;omega
 · obtain ⟨-,f,t,-⟩:=hgo.edges e he
   rcases h with ⟨-,rfl⟩ | ⟨-,rfl⟩ <;> simp only <;> omega
theorem eval_in {g:Gr} (hg:grOk g=true):∀ r:Tr,inN g.vals.length (evalT g r)
 | .leaf t=>by
   have h5:=(grOk_iff.1 hg).n5
   rw [evalT]
   split
   · rw [id_of h5];exact id_in _
   · split
     · exact in_letter hg _
     · exact in_nil _
 | .un t a=>by
   have h5:=(grOk_iff.1 hg).n5
   rw [evalT]
   split
   · rw [closureL]
     split
     · rw [id_of h5];exact in_clos (eval_in hg a) (id_in _) 5
     · exact in_nil _
   · split
     · rw [powerL]
       split
       · rw [id_of h5];exact in_powO (eval_in hg a) (id_in _) _ _
       · exact in_nil _
     · exact in_nil _
 | .bin t a b=>by
   rw [evalT]
   split
   · exact in_comp (eval_in hg a) (eval_in hg b)
   · split
     · exact in_merge (eval_in hg a) (eval_in hg b)
     · exact in_nil _
theorem are_of {l:List Pr} (h:sqP l):arePL l=true:=by
 rw [arePL,List.all_eq_true]
 intro i hi
 have hi:=List.mem_range.1 hi
 obtain ⟨h1,h2⟩:=h.2 _ (List.getElem_mem hi)
 rw [prAt,List.getElem?_eq_getElem hi]
 simp only [Bool.and_eq_true,Bool.or_eq_true,wi_iff,decide_eq_true_eq]
 refine ⟨⟨h1,h2⟩,?_⟩
 by_cases h0:i=0
 · exact .inl h0
 · refine .inr ?_
   rw [List.getElem?_eq_getElem (show i - 1 < l.length by omega)]
   exact (List.pairwise_iff_getElem.1 h.1) (i - 1) i (by omega) hi (by omega)
theorem inB_of {n:Nat} (h5:n<=5) {l:List Pr} (h:inN n l):∀ p ∈ l,inB p.1/\inB p.2:=fun p hp=>by
 have:=h p hp
 exact ⟨⟨by omega,by omega⟩,⟨by omega,by omega⟩⟩
theorem inv_closure {n:Nat} (h5:n<=5) {l:List Pr} (h:inN n l) (hl:sqP l) (hi:sqP (invertL l)):invertL (closureL (n:Int) l)=closureL (n:Int) (invertL l):=by
 rw [closureL,closureL,are_of hl,are_of hi,Bool.and_true]
 split
 · rw [id_of h5]
   have hb:=inB_of h5 h
   have hb':=inB_of h5 (inN_inv h)
   have ho:=inB_of h5 (id_in n)
   exact inv_clos (fun p hp=>id_same hp) (idPairs_asc n) (fun p hp=>⟨id_has (h p hp).1,id_has (h p hp).2⟩)
    (clos_fix (fun p hp=>(hb p hp).2) (fun p hp=>(ho p hp).2) (idPairs_asc n)) (clos_fix (fun p hp=>(hb' p hp).2) (fun p hp=>(ho p hp).2) (idPairs_asc n))
 · rfl
theorem powO_asc {l o:List Pr} {lo:Int}:∀ k,ascP (powO l o lo k)
 | 0=>List.Pairwise.nil
 | k+1=>by
   rw [powO]
   split
   · exact psetL_asc _
   · exact powO_asc k
theorem inv_power {n:Nat} (h5:n<=5) {l:List Pr} (h:inN n l) (hl:sqP l) (hi:sqP (invertL l)) (lo hi':Int):invertL (powerL (n:Int) l lo hi')=powerL (n:Int) (invertL l) lo hi':=by
 rw [powerL,powerL,are_of hl,are_of hi,Bool.and_true]
 split
 · rw [id_of h5]
   refine uniqP (psetL_asc _) (powO_asc _) fun x=>?_
   rw [mem_invertL,inv_powO (fun p hp=>id_same hp) (fun p hp=>⟨id_has (h p hp).1,id_has (h p hp).2⟩)]
 · rfl
theorem inv_eval {g:Gr} (hg:grOk g=true):∀ r:Tr,invertL (evalT g r)=evalT g (revT r)
 | .leaf t=>by
   have h5:=(grOk_iff.1 hg).n5
   rw [revT,evalT,evalT,revTok]
   by_cases h2:t.1=2
   · rw [if_pos h2,if_neg (show ¬ t.1=3 by omega),if_pos h2,id_of h5,inv_id]
   · rw [if_neg h2]
     by_cases h3:t.1=3
     · rw [if_pos h3,if_pos h3,if_neg (show ¬ (t.1,invLt t.2.1,t.2.2).1=2 from h2),if_pos (show (t.1,invLt t.2.1,t.2.2).1=3 from h3),inv_letter]
     · rw [if_neg h3,if_neg h3,if_neg h2,if_neg h3];rfl
 | .un t a=>by
   have hgo:=grOk_iff.1 hg
   have ih:=inv_eval hg a
   have hs:=sq_eval hgo a
   have hs':=sq_eval hgo (revT a)
   rw [<- ih] at hs'
   rw [revT,evalT,evalT,<- ih]
   split
   · exact inv_closure hgo.n5 (eval_in hg a) hs hs'
   · split
     · exact inv_power hgo.n5 (eval_in hg a) hs hs' _ _
     · rfl
 | .bin t a b=>by
   have ia:=inv_eval hg a
   have ib:=inv_eval hg b
   rw [revT]
   by_cases h4:t.1=4
   · rw [if_pos h4,evalT,evalT,if_pos h4,if_pos h4,<- ia,<- ib,inv_comp]
   · rw [if_neg h4,evalT,evalT,if_neg h4,if_neg h4,<- ia,<- ib]
     split
     · exact inv_merge _ _
     · rfl
theorem clos_laws {n:Int} {r:List Pr} (h:0 < (closureL n r).length):subL (identityOf n) (closureL n r)=[]/\subL (composeL (closureL n r) (closureL n r)) (closureL n r)=[]/\(n=5->subL r (closureL n r)=[]):=by
 have hk:(wi n 1 5 && arePL r)=true:=by
  cases hk:(wi n 1 5 && arePL r) with
  | true=>rfl
  | false=>rw [closureL,hk] at h;simp at h
 have e:closureL n r=closK r (identityOf n) 5:=by rw [closureL,if_pos hk]
 rw [e]
 rw [Bool.and_eq_true] at hk
 obtain ⟨h1,h5⟩:=wi_iff.1 hk.1
 obtain ⟨m,rfl⟩:=Int.eq_ofNat_of_zero_le (show 0<=n by omega)
 rw [id_of (by omega)]
 have hb:=arePL_in hk.2
 have ho:=inB_of (show m<=5 by omega) (id_in m)
 have hf:=clos_fix (fun p hp=>(hb p hp).2) (fun p hp=>(ho p hp).2) (idPairs_asc m)
 refine ⟨clos_id _ _ _,clos_comp (fun p hp=>id_same hp) hf,fun h5'=>clos_own hf (fun p hp=>id_has ?_)⟩
 have:=(hb p hp).1
 unfold inB at this
 omega
/-- the tokens that ReverseExpr hands back -/
def revE (l:List Tok):List Tok:=match treeL l with
 | some r=>post (revT r)
 | none=>[]
theorem exprOk_nil:exprOk []=false:=rfl
theorem eval_rev (g:Gr) (l:List Tok):evalE g (revE l)=(invertL (evalE g l).1,(evalE g l).2):=by
 cases hg:grOk g with
 | false=>rw [evalE,evalE,hg];rfl
 | true =>
   cases ht:treeL l with
   | none =>
     have e:revE l=[]:=by rw [revE,ht]
     have e2:exprOk l=false:=by rw [exprOk,ht];simp
     rw [e,evalE,evalE,hg,e2,exprOk_nil];rfl
   | some r =>
     obtain ⟨hok,hp⟩:=treeL_post ht
     have e:revE l=post (revT r):=by rw [revE,ht]
     have e1:=treeL_of (rev_ok hok)
     rw [e]
     by_cases h24:l.length<=24
     · have k1:exprOk l=true:=by rw [exprOk,ht,decide_eq_true h24];rfl
       have k2:exprOk (post (revT r))=true:=by rw [exprOk,e1,decide_eq_true (by rw [rev_len,hp];exact h24)];rfl
       rw [evalE,evalE,hg,k1,k2,e1,ht]
       simp only [Bool.and_self,if_true]
       rw [inv_eval hg r]
     · have k1:exprOk l=false:=by rw [exprOk,decide_eq_false h24,Bool.false_and]
       have k2:exprOk (post (revT r))=false:=by rw [exprOk,decide_eq_false (by rw [rev_len,hp];exact h24),Bool.false_and]
       rw [evalE,evalE,hg,k1,k2];rfl
end Go.Proofs.YtloeghbhoflabaaGreat
namespace Go.Proofs.YtloeghbhoflabaaGreat
end Go.Proofs.YtloeghbhoflabaaGreat
namespace Go.Proofs.YtloeghbhoflabaaGreat
open Go.ChangeShapes Go.WideShapes Go.ChangeAt Go.RowKit
attribute [local go_sem] ext_cell ext_frozen ext_lt ext_lt1 ext_lt2 ext_lt3 ltn2 ltn3 ltn13 lts1 lts2 lts3
theorem SlI.headT {α:Type} {lo hi:Nat} {w:World} {E:α->List Value} {k n c m:Nat} {A:Option Addr} {xs ys:List α} (h:SlI lo hi w E k (.slice A n c) (xs ++ ys)) (hm:xs.length=m):SlI lo hi w E k (.slice A m c) xs:=by
 obtain ⟨A',c',hv,hl,hc,hx⟩:=h
 injection hv with h1 h2 h3
 subst h1 h3 hm
 rw [List.length_append] at hl
 refine ⟨_,c,rfl,by omega,hc,fun i x hi=>hx i x ?_⟩
 rw [List.getElem?_append_left (List.getElem?_eq_some_iff.1 hi).1]
 exact hi
theorem SlI.tailT {α:Type} {lo hi:Nat} {w:World} {E:α->List Value} {k n c m j d q o:Nat} {xs ys:List α} (h:SlI lo hi w E k (.slice (some ⟨q,o,none⟩) n c) (xs ++ ys)) (hm:xs.length=m) (hj:ys.length=j) (hd:d=c - m):SlI lo hi w E k (.slice (some ⟨q,o+m * k,none⟩) j d) ys:=by
 obtain ⟨A',c',hv,hl,hc,hx⟩:=h
 injection hv with h1 h2 h3
 subst h1 h3 hm hj hd
 rw [List.length_append] at hl
 refine ⟨_,_,rfl,by omega,by omega,fun i x hi=>?_⟩
 obtain ⟨b,o',e,g1,g2,g3⟩:=hx (xs.length+i) x (by rw [List.getElem?_append_right (by omega),Nat.add_sub_cancel_left];exact hi)
 injection e with e
 injection e with e1 e2
 subst e1 e2
 refine ⟨q,o+xs.length * k,rfl,g1,g2,fun t u hu=>?_⟩
 have:=g3 t u hu
 rw [Nat.add_mul,<- Nat.add_assoc] at this
 exact this
theorem ar_leaf {t:Tok} (h:ar t=some 0):t.1=1 ∨ t.1=2 ∨ t.1=3:=by
 unfold ar at h
 split at h
 · rename_i hk;exact hk.elim .inl (fun e=>.inr (.inl e))
 · split at h
   · rename_i hk;exact .inr (.inr hk)
   · split at h
     · split at h <;> cases h
     · split at h
       · split at h <;> cases h
       · split at h
         · split at h <;> cases h
         · cases h
theorem isLetter_any (n:Int) (w:World):Calls Tryz.prog 41 #[.int .i64 n] w fun e w'=>e=.returned (.bool (wi n 0 8))/\w'=w:=by
 have HW:=Hd_ within_any
 go_enter Tryz.func41,Tryz.ntmps41
 go_wp2_with (go_at_call 29;refine (HW.out _ _ _ _).mono ?_;rintro e w' ⟨rfl,rfl⟩)
 go_ret
 exact ⟨rfl,rfl⟩
theorem eqTk (a b c d e f g h:Int) (w:World):(Op.equalIn 10000 94 (.agg #[.int .i64 a,.int .i64 b,.int .i64 c,.int .i64 d]) (.agg #[.int .i64 e,.int .i64 f,.int .i64 g,.int .i64 h])).run Tryz.prog w=.ok (decide ((a,b,c,d)=(e,f,g,h))) w:=by
 have u3:=Tryz.underlying3
 have a3:=Tryz.isAgg3
 have z3:=Tryz.sizeOf3
 have hS:Tryz.prog.underlying 94=some (.struct (Tryz.prog.fieldsOf 94)):=by kernel_rfl
 have hp:Tryz.prog.stoodInHeld 94=false:=by kernel_rfl
 rw [show (10000:Nat)=9999+1 from rfl,run_equalIn_agg w 9999 94 _ _ hS hp]
 simp only [Program.fieldsOf,Tryz.underlying94]
 go_simp
 by_cases h1:a=e <;> by_cases h2:b=f <;> by_cases h3:c=g <;> by_cases h4:d=h <;> simp [h1,h2,h3,h4]
theorem guardTk:Tryz.prog.eqGuardType Tryz.prog.depth 94=false:=by kernel_rfl
attribute [local go_sem] guardTk
theorem eqlTk (a b c d e f g h:Int) (w:World):(binOp .eql 94 (.agg #[.int .i64 a,.int .i64 b,.int .i64 c,.int .i64 d]) (.agg #[.int .i64 e,.int .i64 f,.int .i64 g,.int .i64 h])).run Tryz.prog w=.ok (.bool (decide ((a,b,c,d)=(e,f,g,h)))) w:=by
 rw [run_eql_struct,eqTk]
 rfl
theorem tokPlain_iff {k l lo hi:Int}:tokPlain (k,l,lo,hi)=decide ((k,l,lo,hi)=(k,(0:Int),(0:Int),(0:Int))):=by
 unfold tokPlain
 by_cases h1:l=0 <;> by_cases h2:lo=0 <;> by_cases h3:hi=0 <;> simp [h1,h2,h3]
set_option maxHeartbeats 4000000 in
theorem tokenOk_any (t:Tok) (w:World) :
 Calls Tryz.prog 66 #[.agg #[.int .i64 t.1,.int .i64 t.2.1,.int .i64 t.2.2.1,.int .i64 t.2.2.2]] w fun e w'=>e=.returned (.bool (ar t).isSome)/\Below w.heap.size w w':=by
 obtain ⟨k,l,lo,hi⟩:=t
 obtain ⟨R,hR⟩:∃ R,R=(ar (k,l,lo,hi)).isSome:=⟨_,rfl⟩
 rw [<- hR]
 have HR:=Hd_ hR
 clear hR
 simp only
 obtain ⟨bb,hbb⟩:∃ bb,bb=decide ((k,l,lo,hi)=(k,(0:Int),(0:Int),(0:Int))):=⟨_,rfl⟩
 have HEQ:=Hd_ (fun (w:World)=>eqlTk k l lo hi k 0 0 0 w)
 rw [<- hbb] at HEQ
 have HBB:=Hd_ hbb
 clear hbb
 by_cases h3:k=3
 · subst h3
   clear HEQ HBB bb
   have HL:=Hd_ (fun w=>isLetter_any l w)
   cases hw:wi l 0 8 with
   | false =>
     have hfin:R=false:=by
      rw [HR.out]
      have hn:¬ (0<=l/\l<=8):=fun h=>by rw [wi_yes h.1 h.2] at hw;cases hw
      simp only [ar]
      rw [if_neg (by decide),if_pos trivial,if_neg (fun h=>hn ⟨h.1,h.2.1⟩)]
      rfl
     rw [hw] at HL
     clear HR hw
     subst hfin
     go_enter Tryz.func66,Tryz.ntmps66
     go_wp2_with fail
     refine (HL.out _).mono ?_
     rintro e w' ⟨rfl,rfl⟩
     go_wp2_with fail
     go_ret
     exact ⟨rfl,(Below.refl _ _).alloc (Nat.le_refl _) _⟩
   | true =>
     have hl:=wi_iff.1 hw
     rw [hw] at HL
     have hfin:R=(decide (lo=0) && decide (hi=0)):=by
      rw [HR.out]
      simp only [ar]
      rw [if_neg (by decide),if_pos trivial]
      by_cases h1:lo=0 <;> by_cases h2:hi=0 <;> simp [h1,h2,hl.1,hl.2]
     clear HR hw hl
     by_cases h1:lo=0
     · subst h1
       by_cases h2:hi=0
       · subst h2
         simp at hfin
         subst hfin
         go_enter Tryz.func66,Tryz.ntmps66
         go_wp2_with fail
         refine (HL.out _).mono ?_
         rintro e w' ⟨rfl,rfl⟩
         go_wp2_with fail
         go_ret
         exact ⟨rfl,(Below.refl _ _).alloc (Nat.le_refl _) _⟩
       · have hx:(hi==0)=false:=by simpa using h2
         simp [h2] at hfin
         subst hfin
         clear h2
         go_enter Tryz.func66,Tryz.ntmps66
         go_wp2_with fail
         refine (HL.out _).mono ?_
         rintro e w' ⟨rfl,rfl⟩
         go_wp2_with fail
         go_ret
         exact ⟨rfl,(Below.refl _ _).alloc (Nat.le_refl _) _⟩
     · have hx:(lo==0)=false:=by simpa using h1
       simp [h1] at hfin
       subst hfin
       clear h1
       go_enter Tryz.func66,Tryz.ntmps66
       go_wp2_with fail
       refine (HL.out _).mono ?_
       rintro e w' ⟨rfl,rfl⟩
       go_wp2_with fail
       go_ret
       exact ⟨rfl,(Below.refl _ _).alloc (Nat.le_refl _) _⟩
 by_cases h7:k=7
 · subst h7
   clear HEQ HBB bb h3
   have HW:=Hd_ (fun n a b w=>within_any n a b w)
   have hfin:R=(decide (l=0) && (wi lo 0 hi && wi hi 1 3)):=by
    rw [HR.out]
    simp only [ar]
    rw [if_neg (by decide),if_neg (by decide),if_neg (by decide),if_neg (by decide),if_pos trivial]
    by_cases h1:l=0
    · by_cases h2:0<=lo/\lo<=hi
      · by_cases h3:1<=hi/\hi<=3
        · rw [wi_yes h2.1 h2.2,wi_yes h3.1 h3.2,if_pos ⟨h1,h3.1,h3.2,h2.1,h2.2⟩,h1];rfl
        · rw [wi_no h3,if_neg (fun h=>h3 ⟨h.2.1,h.2.2.1⟩)];simp
      · rw [wi_no h2,if_neg (fun h=>h2 ⟨h.2.2.2.1,h.2.2.2.2⟩)];simp
    · rw [if_neg (fun h=>h1 h.1)];simp [h1]
   clear HR
   by_cases h1:l=0
   · subst h1
     obtain ⟨b1,hb1⟩:∃ b1,b1=wi lo 0 hi:=⟨_,rfl⟩
     obtain ⟨b2,hb2⟩:∃ b2,b2=wi hi 1 3:=⟨_,rfl⟩
     have H1:=Hd_ (hb1 ▸ HW.out lo 0 hi)
     have H2:=Hd_ (hb2 ▸ HW.out hi 1 3)
     rw [<- hb1,<- hb2] at hfin
     clear hb1 hb2 HW
     cases b1 with
     | false =>
       simp at hfin
       subst hfin
       go_enter Tryz.func66,Tryz.ntmps66
       go_wp2_with fail
       refine (H1.out _).mono ?_
       rintro e w' ⟨rfl,rfl⟩
       go_wp2_with fail
       go_ret
       exact ⟨rfl,(Below.refl _ _).alloc (Nat.le_refl _) _⟩
     | true =>
       simp at hfin
       subst hfin
       go_enter Tryz.func66,Tryz.ntmps66
       go_wp2_with fail
       refine (H1.out _).mono ?_
       rintro e w' ⟨rfl,rfl⟩
       go_wp2_with fail
       refine (H2.out _).mono ?_
       rintro e w' ⟨rfl,rfl⟩
       go_wp2_with fail
       go_ret
       exact ⟨rfl,(Below.refl _ _).alloc (Nat.le_refl _) _⟩
   · have hx:(l==0)=false:=by simpa using h1
     simp [h1] at hfin
     subst hfin
     clear h1 HW
     go_enter Tryz.func66,Tryz.ntmps66
     go_wp2_with fail
     go_ret
     exact ⟨rfl,(Below.refl _ _).alloc (Nat.le_refl _) _⟩
 by_cases h1:k=1
 · subst h1
   have hfin:R=bb:=by rw [HR.out,HBB.out,<- tokPlain_iff];simp only [ar];cases tokPlain (1,l,lo,hi) <;> simp
   clear HR HBB
   subst hfin
   have heq:=HEQ.out
   go_enter Tryz.func66,Tryz.ntmps66
   go_wp2_with fail
   go_ret
   exact ⟨rfl,(Below.refl _ _).alloc (Nat.le_refl _) _⟩
 by_cases h2:k=2
 · subst h2
   have hfin:R=bb:=by rw [HR.out,HBB.out,<- tokPlain_iff];simp only [ar];cases tokPlain (2,l,lo,hi) <;> simp
   clear HR HBB
   subst hfin
   have heq:=HEQ.out
   go_enter Tryz.func66,Tryz.ntmps66
   go_wp2_with fail
   go_ret
   exact ⟨rfl,(Below.refl _ _).alloc (Nat.le_refl _) _⟩
 by_cases h4:k=4
 · subst h4
   have hfin:R=bb:=by rw [HR.out,HBB.out,<- tokPlain_iff];simp only [ar];cases tokPlain (4,l,lo,hi) <;> simp
   clear HR HBB
   subst hfin
   have heq:=HEQ.out
   go_enter Tryz.func66,Tryz.ntmps66
   go_wp2_with fail
   go_ret
   exact ⟨rfl,(Below.refl _ _).alloc (Nat.le_refl _) _⟩
 by_cases h5:k=5
 · subst h5
   have hfin:R=bb:=by rw [HR.out,HBB.out,<- tokPlain_iff];simp only [ar];cases tokPlain (5,l,lo,hi) <;> simp
   clear HR HBB
   subst hfin
   have heq:=HEQ.out
   go_enter Tryz.func66,Tryz.ntmps66
   go_wp2_with fail
   go_ret
   exact ⟨rfl,(Below.refl _ _).alloc (Nat.le_refl _) _⟩
 by_cases h6:k=6
 · subst h6
   have hfin:R=bb:=by rw [HR.out,HBB.out,<- tokPlain_iff];simp only [ar];cases tokPlain (6,l,lo,hi) <;> simp
   clear HR HBB
   subst hfin
   have heq:=HEQ.out
   go_enter Tryz.func66,Tryz.ntmps66
   go_wp2_with fail
   go_ret
   exact ⟨rfl,(Below.refl _ _).alloc (Nat.le_refl _) _⟩
 have hfin:R=false:=by rw [HR.out];simp [ar,h1,h2,h3,h4,h5,h6,h7]
 have k1:(k==1)=false:=by simpa using h1
 have k2:(k==2)=false:=by simpa using h2
 have k3:(k==3)=false:=by simpa using h3
 have k4:(k==4)=false:=by simpa using h4
 have k5:(k==5)=false:=by simpa using h5
 have k6:(k==6)=false:=by simpa using h6
 have k7:(k==7)=false:=by simpa using h7
 clear HR HEQ HBB h1 h2 h3 h4 h5 h6 h7
 subst hfin
 go_enter Tryz.func66,Tryz.ntmps66
 go_wp2_with fail
 go_ret
 exact ⟨rfl,(Below.refl _ _).alloc (Nat.le_refl _) _⟩
end Go.Proofs.YtloeghbhoflabaaGreat
