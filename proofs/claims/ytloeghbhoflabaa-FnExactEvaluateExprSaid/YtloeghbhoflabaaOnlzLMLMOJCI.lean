/- Parts of the proof, joined into one text: RelI, Merg, Ident, Clos, Powr, EvalM, SizeM, SzE, GraphI, GraphS, Holds. -/
import Derived.Test.YtloeghbhoflabaaOnlzMAGDGCPL
import Derived.Test.YtloeghbhoflabaaOnlzAHMCLFHH
import Derived.Test.YtloeghbhoflabaaOnlzGFOHOABB
import Derived.Test.YtloeghbhoflabaaOnlzKDDNPOOL
import Derived.Deep.Cut
set_option linter.unusedVariables false
set_option linter.unusedSimpArgs false
namespace Go.Proofs.Ytloeghbhoflabaa
open Go.ChangeShapes Go.WideShapes Go.ChangeAt Go.RowKit
attribute [local go_sem] ext_cell ext_frozen ext_lt ext_lt1 ext_lt2 ext_lt3 ltn2 ltn3 ltn13 lts1 lts2 lts3
theorem ocellI {lo hi:Nat} {w w':World} (h:Only lo hi w w') {b o:Nat} {v:Value} (hc:w.cell? ⟨b,o,none⟩=some v) (hb:b < w.heap.size) (ho:b < lo ∨ hi<=b):w'.cell? ⟨b,o,none⟩=some v:=(h.cell (p:=⟨b,o,none⟩) hb ho).trans hc
theorem onlyGrown {lo hi:Nat} {a w w':World} {row:Option Nat} (h:Only lo hi a w) (hg:w.grownBy w' row) (hr:∀ b,row=some b->(lo<=b/\b < hi) ∨ a.heap.size<=b):Only lo hi a w' :=
 ⟨hg.os.trans h.os,hg.tape.trans h.tape,hg.output.trans h.output,Nat.le_trans h.size hg.size,fun n hn ho=>(hg.block n (Nat.lt_of_lt_of_le hn h.size) (fun e=>by have:=hr n e.symm;omega)).trans (h.block n hn ho)⟩
theorem own_blk {W:World} {base k n:Nat} {e:TypeId} {v:Value} {cs:List Value} (h:W.ownsRow base e k v n cs) {b:Nat} (hb:v.ownBlock=some b):∃ c,v=.slice (some ⟨b,0,none⟩) n c:=by
 obtain ⟨_,hs⟩:=h
 rcases hs with ⟨rfl,_⟩ | ⟨g,cap,cur,rfl,_⟩
 · cases hb
 · injection hb with hb
   subst hb
   exact ⟨cap,rfl⟩
set_option maxHeartbeats 2000000 in
theorem pairSet_any (v:Value) (xs:List Pr) (w:World) (hv:SlE w cPr 2 v xs) (hn:xs.length<=1099511627776) :
 Calls Try.prog 108 #[v] w fun e w'=>∃ v',e=.returned v'/\Own w.heap.size w'.heap.size w' 82 cPr 2 v' (psetL xs)/\Below w.heap.size w w':=by
 have hv0:=hv
 obtain ⟨A,c,rfl,hl,hm,-⟩:=hv
 unfold maxLen at hm
 have hba:Below w.heap.size w (w.alloc (.cells #[] 82)):=(Below.refl _ _).alloc (Nat.le_refl _) _
 have hv1:=SlE.keep hv0 hba
 have hrow:=World.ownsRow_lit (base:=w.heap.size) (e:=82) (size:=2) w #[] 0 (Nat.le_refl _) (by decide) rfl
 obtain ⟨R,hR⟩:∃ R,R=psetL xs:=⟨_,rfl⟩
 rw [<- hR]
 have HRS:=Hd_ hR
 have HV:=Hd_ hv1
 have HR:=Hd_ hrow
 have HBA:=Hd_ hba
 clear hv0 hv1 hrow hR hba
 go_enter Try.func108,Try.ntmps108
 go_wp2_with (at_builtin;(refine wpList_appendL cPr elPair cPr_len cPr_one rfl _ _ rfl w.heap.size _ [] xs (by rfl) HR.out 0 _ _ (by rfl) HV.out (by simp;omega) (by omega) (by simp) ?_);intro v' w4 hrow' hgr4 hat4)
 simp only [List.nil_append] at hrow'
 have hb4:=HBA.out.trans (own_below HR.out (by simp) hgr4)
 have hob:∃ b,v'.ownBlock=some b:=by
  rcases hat4 with h | h
  · exact ⟨w.heap.size,h⟩
  · exact ⟨_,h⟩
 obtain ⟨g,hob⟩:=hob
 obtain ⟨c',rfl⟩:=own_blk hrow' hob
 have HS:=Hd_ (sortPairs_any w.heap.size g c' xs w4 hrow' (by omega))
 have HB4:=Hd_ hb4
 have hg1:=(hrow'.lt g rfl).1
 have hg2:=(hrow'.lt g rfl).2
 clear hrow' hgr4 hat4 hob hb4
 refine HS.out.mono ?_
 rintro e w5 ⟨rfl,ys,hyl,hym,hys,hrow5,hon5⟩
 have hset:=compTo_set hys hym
 rw [<- HRS.out] at hset
 rw [<- hyl] at hrow5
 have HC:=Hd_ (compactP_any w.heap.size g c' ys w5 hrow5 (by omega))
 rw [hset] at HC
 have HB5:=Hd_ (HB4.out.trans (hon5.below (B:=w.heap.size) hg1 (by omega)))
 have hs5:=hon5.size
 rw [<- hyl]
 clear hset hrow5 hon5 hys hym hyl HS
 go_wp2_with fail
 refine HC.out.mono ?_
 rintro e w6 ⟨m,rfl,hrow6,hon6⟩
 have HO:=Hd_ (Own.of_row (xs:=R) hrow6 rfl rfl)
 have HB6:=Hd_ (HB5.out.trans (hon6.below (B:=w.heap.size) hg1 (by omega)))
 clear hrow6 hon6
 go_wp2_with fail
 go_ret
 exact ⟨_,rfl,HO.out,HB6.out⟩
set_option maxHeartbeats 4000000 in
set_option maxRecDepth 100000 in
theorem implCompose (va vb:Value) (a b:List Pr) (w:World) (hva:SlE w cPr 2 va a) (hvb:SlE w cPr 2 vb b) (hna:a.length<=1048576) (hnb:b.length<=1048576) :
 Calls Try.prog 87 #[va,vb] w fun e w'=>∃ v',e=.returned v'/\Own w.heap.size w'.heap.size w' 82 cPr 2 v' (composeL a b)/\Below w.heap.size w w':=by
 have hsa:=hva
 have hsb:=hvb
 obtain ⟨A,ca,rfl,hla,hma,-⟩:=hva
 obtain ⟨B,cb,rfl,hlb,hmb,-⟩:=hvb
 unfold maxLen at hma hmb
 obtain ⟨R,hR⟩:∃ R,R=composeL a b:=⟨_,rfl⟩
 rw [<- hR]
 rw [<- composeL_pset] at hR
 obtain ⟨gO,hgO⟩:∃ gO,gO=w.heap.size:=⟨_,rfl⟩
 obtain ⟨W0,hW0⟩:∃ W0,W0=w.alloc (.cells #[] 82):=⟨_,rfl⟩
 have hb0:Below w.heap.size w W0:=by rw [hW0];exact (Below.refl _ _).alloc (Nat.le_refl _) _
 have hrow0:W0.ownsRow gO 82 2 (.slice (some ⟨gO,0,none⟩) 0 0) 0 []:=by
  rw [hW0,hgO]
  exact World.ownsRow_lit w #[] 0 (Nat.le_refl _) (by decide) rfl
 have hgs:gO < W0.heap.size:=by rw [hW0,hgO];simp
 have hps:=pairSet_any _ a W0 (SlE.keep hsa hb0) (by omega)
 have hpl:=psetL_len a
 have HR:=Hd_ hR
 have HSB:=Hd_ hsb
 have HPS:=Hd_ hps
 have HB0:=Hd_ hb0
 have HROW0:=Hd_ hrow0
 clear hR hsa hsb hps hb0 hrow0
 generalize psetL a=pa at *
 go_enter Try.func87,Try.ntmps87
 go_wp2_with fail
 rw [<- hW0,<- hgO]
 clear hW0
 refine HPS.out.mono ?_
 rintro e w1 ⟨v1,rfl,ho1,hb1⟩
 have HB1:=Hd_ (below_trans HB0.out hb1)
 have HROW1:=Hd_ (ownsRow_below HROW0.out hb1 (Nat.le_refl _))
 have hs1:=hb1.size
 have HC6:=Hd_ (ho1.sl cPr_len)
 obtain ⟨A6,c6,rfl,hl6,hm6,-⟩:=ho1.form cPr_len
 have HWG:=Hd_ hgO
 have hwg:w.heap.size<=gO:=by omega
 have hgw:gO<=w.heap.size:=by omega
 clear ho1 hb1 HPS HROW0 hgO
 go_wp2_with fail
 go_loopw [5,14] (fun oo ii wr=>∃ i:Nat,i<=pa.length/\ii=.int .i64 (i:Int)/\wr.ownsRow gO 82 2 oo (compL (pa.take i) b).length ((compL (pa.take i) b).flatMap cPr)/\Only gO (gO+1) w1 wr/\(∀ b,oo.ownBlock=some b->b=gO ∨ w1.heap.size<=b)) (fun _ ii _=>pa.length - (intOf ii).toNat)
 case atStart=>exact ⟨0,Nat.zero_le _,rfl,HROW1.out,Only.refl _ _ _,fun b hb=>by cases hb;exact .inl rfl⟩
 case round =>
  clear HROW1
  obtain ⟨i,hi,rfl,hrow,hon,hob⟩:=hrel
  have HROW:=Hd_ hrow
  have HON:=Hd_ hon
  have HOB:=Hd_ hob
  have hsz:=hon.size
  clear hrow hon hob
  obtain ⟨wo,rfl⟩:∃ wo:World,wo=wr:=⟨_,rfl⟩
  by_cases hlt:i < pa.length
  · have hxi:pa[i]?=some pa[i]:=List.getElem?_eq_getElem hlt
    generalize pa[i]=x at hxi
    obtain ⟨b1,o1,rfl,⟨hb10,hb1⟩,d0,d1⟩:=HC6.out.prA hxi
    have d0:=ocellI HON.out d0 hb1 (.inr (by omega))
    have d1:=ocellI HON.out d1 hb1 (.inr (by omega))
    obtain ⟨xa,xb⟩:=x
    simp only at d0 d1
    have hb1w:b1 < wo.heap.size:=by omega
    have hii:(i:Int) < (pa.length:Int):=by omega
    have HRY:=Hd_ (fun (q:Pr) (j:Nat) (h:b[j]?=some q) he=>compRow_yes (p:=(xa,xb)) h he)
    have HRN:=Hd_ (fun (q:Pr) (j:Nat) (h:b[j]?=some q) he=>compRow_no (p:=(xa,xb)) h he)
    have HTK:=Hd_ (compL_take (b:=b) hxi)
    have HRL:=Hd_ (compRow_len (xa,xb) b)
    have hcl:=compL_len (pa.take i) b
    have hcl2:(compL (pa.take i) b).length<=1099511627776 - 1048576:=Nat.le_trans hcl (Nat.le_trans (Nat.mul_le_mul (show (pa.take i).length<=1048575 by rw [List.length_take];omega) hnb) (by omega))
    clear hxi hcl
    generalize compL (pa.take i) b=C at *
    obtain ⟨W7,hW7⟩:∃ W7,W7=wo.alloc (.cells #[.int .i64 xa,.int .i64 xb] 82):=⟨_,rfl⟩
    have e0:W7.cell? ⟨wo.heap.size,0,none⟩=some (.int .i64 xa):=by rw [hW7];simp
    have e1:W7.cell? ⟨wo.heap.size,1,none⟩=some (.int .i64 xb):=by rw [hW7];simp
    have hs7:wo.heap.size < W7.heap.size:=by rw [hW7];simp
    have HROW7:=Hd_ (show W7.ownsRow gO 82 2 _ C.length (C.flatMap cPr) by rw [hW7];exact HROW.out.alloc _)
    have HON7:=Hd_ (show Only gO (gO+1) w1 W7 by rw [hW7];exact HON.out.alloc _)
    have hlt7:=HROW.out.lt
    have HL7:=Hd_ hlt7
    clear hlt7
    go_wp2_with fail
    rw [<- hW7]
    clear hW7 d0 d1
    go_loopw [5,20] (fun oo jj wr=>∃ j:Nat,j<=b.length/\jj=.int .i64 (j:Int)/\wr.ownsRow gO 82 2 oo (C ++ compRow (xa,xb) (b.take j)).length ((C ++ compRow (xa,xb) (b.take j)).flatMap cPr) /\
     Only gO (gO+1) w1 wr/\Only gO wo.heap.size W7 wr/\(∀ b,oo.ownBlock=some b->(b=gO ∨ w1.heap.size<=b)/\((gO<=b/\b < wo.heap.size) ∨ W7.heap.size<=b))) (fun _ jj _=>b.length - (intOf jj).toNat)
    case atStart=>exact ⟨0,Nat.zero_le _,rfl,by simpa [compRow] using HROW7.out,HON7.out,Only.refl _ _ _,fun b hb=>⟨HOB.out b hb,.inl (HL7.out b hb)⟩⟩
    case round =>
     clear HROW7 HON7 HL7
     obtain ⟨j,hj,rfl,hrow2,hon2,hon3,hob2⟩:=hrel
     have HROW2:=Hd_ hrow2
     have HON2:=Hd_ hon2
     have HON3:=Hd_ hon3
     have HOB2:=Hd_ hob2
     have hsz2:=hon2.size
     have hsz3:=hon3.size
     have e0:=ocellI hon3 e0 hs7 (.inr (Nat.le_refl _))
     have e1:=ocellI hon3 e1 hs7 (.inr (Nat.le_refl _))
     have hbw:=HB1.out.trans (hon2.below (B:=w.heap.size) hwg HB1.out.size)
     have HBW:=Hd_ hbw
     have hbs:=hbw.size
     clear hrow2 hon2 hon3 hob2 hbw
     by_cases hlj:j < b.length
     · have hyj:b[j]?=some b[j]:=List.getElem?_eq_getElem hlj
       generalize b[j]=y at hyj
       obtain ⟨b2,o2,rfl,⟨-,hb2⟩,f0,f1⟩:=HSB.out.prA hyj
       have f0:=kcell HBW.out f0
       have f1:=kcell HBW.out f1
       obtain ⟨ya,yb⟩:=y
       simp only at f0 f1
       have hb2w:b2 < wr.heap.size:=by omega
       have hwo:wo.heap.size < wr.heap.size:=by omega
       have hjj:(j:Int) < (b.length:Int):=by omega
       have HYJ:=Hd_ hyj
       have hrl:=HRL.out j
       have hll:(C ++ compRow (xa,xb) (b.take j)).length<=1099511627776:=by rw [List.length_append];omega
       clear hyj
       have HRA:=Hd_ (HROW2.out.alloc (.cells #[.int .i64 ya,.int .i64 yb] 82))
       have HOA2:=Hd_ (HON2.out.alloc (.cells #[.int .i64 ya,.int .i64 yb] 82))
       have HOA3:=Hd_ (HON3.out.alloc (.cells #[.int .i64 ya,.int .i64 yb] 82))
       cases hxy:(xb==ya) with
       | true =>
         have HSN:=Hd_ (show C ++ compRow (xa,xb) (b.take (j+1))=(C ++ compRow (xa,xb) (b.take j)) ++ [(xa,yb)] by
          rw [HRY.out _ j HYJ.out (by simpa using hxy),<- List.append_assoc])
         generalize C ++ compRow (xa,xb) (b.take j)=L at *
         go_wp2_with (at_builtin;(refine wpList_append1 cPr elPair rfl _ _ rfl gO _ L (xa,yb) _ 1 (wr.heap.size+1) (by rfl) HRA.out (by rfl) (by simp) rfl rfl (cPr_one _) (by omega) (by omega) (by simp;omega) ?_);intro v' w4 hrow' hb4 hat4 hgr4)
         go_roundw
         case rel =>
          refine ⟨j+1,by omega,by go_num,by rw [HSN.out];exact hrow',onlyGrown (HOA2.out.alloc _) hgr4 (fun b hb=>by have:=(HOB2.out b hb).1;omega),onlyGrown (HOA3.out.alloc _) hgr4 (fun b hb=>(HOB2.out b hb).2),fun b hb=>?_⟩
          rcases hat4 with h1 | ⟨g1,h1,h2⟩
          · exact HOB2.out b (by rw [<- h1];exact hb)
          · rw [h1] at hb
            injection hb with hb
            simp at h2
            exact ⟨.inr (by omega),.inr (by omega)⟩
         case measure=>simp [intOf];omega
       | false =>
         have HSN:=Hd_ (show C ++ compRow (xa,xb) (b.take (j+1))=C ++ compRow (xa,xb) (b.take j) by
          rw [HRN.out _ j HYJ.out (by simpa using hxy)])
         generalize C ++ compRow (xa,xb) (b.take j)=L at *
         go_wp2_with fail
         go_roundw
         case rel=>exact ⟨j+1,by omega,by go_num,by rw [HSN.out];exact HRA.out,HOA2.out,HOA3.out,HOB2.out⟩
         case measure=>simp [intOf];omega
     · obtain rfl:j=b.length:=by omega
       rw [List.take_length,<- HTK.out] at HROW2
       go_wp2_with fail
       go_roundw
       case rel=>exact ⟨i+1,by omega,by go_num,HROW2.out,HON2.out,fun b hb=>(HOB2.out b hb).1⟩
       case measure=>simp [intOf];omega
  · obtain rfl:i=pa.length:=by omega
    rw [List.take_length] at HROW
    have hown:=Own.of_row (xs:=compL pa b) HROW.out rfl rfl
    have hcl:=compL_len pa b
    have hcl2:(compL pa b).length<=1099511627776:=Nat.le_trans hcl (Nat.le_trans (Nat.mul_le_mul (show pa.length<=1048576 by omega) hnb) (by omega))
    have HP:=Hd_ (pairSet_any _ (compL pa b) wo ((hown.sl cPr_len).all (Nat.le_refl _)) hcl2)
    rw [<- HR.out] at HP
    have HBW:=Hd_ (HB1.out.trans (HON.out.below (B:=w.heap.size) hwg HB1.out.size))
    clear hown hcl hcl2
    go_wp2_with fail
    refine HP.out.mono ?_
    rintro e w5 ⟨v5,rfl,ho5,hb5⟩
    have HO:=Hd_ (ho5.mono HBW.out.size (Nat.le_refl _))
    have HB:=Hd_ (below_trans HBW.out hb5)
    obtain ⟨A9,n9,c9,rfl⟩:=ho5.shape
    clear ho5 hb5
    go_wp2_with fail
    go_ret
    exact ⟨_,rfl,HO.out,HB.out⟩
set_option maxHeartbeats 2000000 in
set_option maxRecDepth 100000 in
theorem specMerge (va vb:Value) (a b:List Pr) (w:World) (hva:SlE w cPr 2 va a) (hvb:SlE w cPr 2 vb b) (hna:a.length<=1048576) (hnb:b.length<=1048576) :
 Calls Try.prog 75 #[va,vb] w fun e w'=>∃ v',e=.returned v'/\Own w.heap.size w'.heap.size w' 82 cPr 2 v' (mergeL a b)/\Below w.heap.size w w':=by
 have hsa:=hva
 have hsb:=hvb
 obtain ⟨A,ca,rfl,hla,hma,-⟩:=hva
 obtain ⟨B,cb,rfl,hlb,hmb,-⟩:=hvb
 unfold maxLen at hma hmb
 obtain ⟨R,hR⟩:∃ R,R=mergeL a b:=⟨_,rfl⟩
 rw [<- hR]
 have HR:=Hd_ hR
 have HSA:=Hd_ hsa
 have HSB:=Hd_ hsb
 clear hR hsa hsb
 go_enter Try.func75,Try.ntmps75
 go_wp2_with fail
 go_loopw [5,6] (fun oo ii wr=>∃ i:Nat,i<=a.length/\ii=.int .i64 (i:Int)/\SetR w.heap.size wr oo (psetL (a.take i))/\Below w.heap.size w wr) (fun _ ii _=>a.length - (intOf ii).toNat)
 case atStart=>exact ⟨0,Nat.zero_le _,rfl,SetR.lit w _ (Nat.le_refl _),(Below.refl _ _).alloc (Nat.le_refl _) _⟩
 case round =>
  obtain ⟨i,hi,rfl,hset,hbel⟩:=hrel
  have HSET:=Hd_ hset
  have hsz:=hbel.size
  clear hset
  by_cases hlt:i < a.length
  · have hxi:a[i]?=some a[i]:=List.getElem?_eq_getElem hlt
    generalize a[i]=x at hxi
    obtain ⟨b',o,rfl,⟨-,hb⟩,d0,d1⟩:=HSA.out.prA hxi
    have d0:=kcell hbel d0
    have d1:=kcell hbel d1
    obtain ⟨xa,xb⟩:=x
    simp only at d0 d1
    have hbw:b' < wr.heap.size:=by omega
    have hii:(i:Int) < (a.length:Int):=by omega
    have HSN:=Hd_ (show psetL (a.take (i+1))=putP (psetL (a.take i)) (xa,xb) from by rw [take_snoc hxi,psetL_snoc])
    have hpl:(psetL (a.take i)).length<=2097152:=Nat.le_trans (psetL_len _) (by simp only [List.length_append,List.length_take];omega)
    clear hxi
    generalize psetL (a.take i)=L at *
    have HP:=Hd_ (l15Put_any _ w.heap.size L (xa,xb) wr HSET.out hsz (by omega))
    go_wp2_with fail
    refine HP.out.mono ?_
    rintro e w4 ⟨v4,rfl,hs4,hb4⟩
    have HS4:=Hd_ hs4
    have HB4:=Hd_ (hbel.trans (hb4.mono hsz))
    clear hs4 hb4
    go_wp2_with fail
    go_roundw
    case rel=>exact ⟨i+1,by omega,by go_num,by rw [HSN.out];exact HS4.out,HB4.out⟩
    case measure=>simp [intOf];omega
  · obtain rfl:i=a.length:=by omega
    rw [List.take_length] at HSET
    go_wp2_with fail
    go_loopw [5,7] (fun oo ii wr=>∃ i:Nat,i<=b.length/\ii=.int .i64 (i:Int)/\SetR w.heap.size wr oo (psetL (a ++ b.take i))/\Below w.heap.size w wr) (fun _ ii _=>b.length - (intOf ii).toNat)
    case atStart=>exact ⟨0,Nat.zero_le _,rfl,by rw [List.take_zero,List.append_nil];exact HSET.out,hbel⟩
    case round =>
     obtain ⟨i,hi,rfl,hset,hbel⟩:=hrel
     have HSET:=Hd_ hset
     have hsz:=hbel.size
     clear hset
     by_cases hlt:i < b.length
     · have hxi:b[i]?=some b[i]:=List.getElem?_eq_getElem hlt
       generalize b[i]=x at hxi
       obtain ⟨b',o,rfl,⟨-,hb⟩,d0,d1⟩:=HSB.out.prA hxi
       have d0:=kcell hbel d0
       have d1:=kcell hbel d1
       obtain ⟨xa,xb⟩:=x
       simp only at d0 d1
       have hbw:b' < wr.heap.size:=by omega
       have hii:(i:Int) < (b.length:Int):=by omega
       have HSN:=Hd_ (show psetL (a ++ b.take (i+1))=putP (psetL (a ++ b.take i)) (xa,xb) from by rw [take_snoc hxi,<- List.append_assoc,psetL_snoc])
       have hpl:(psetL (a ++ b.take i)).length<=2097152:=Nat.le_trans (psetL_len _) (by simp only [List.length_append,List.length_take];omega)
       clear hxi
       generalize psetL (a ++ b.take i)=L at *
       have HP:=Hd_ (l15Put_any _ w.heap.size L (xa,xb) wr HSET.out hsz (by omega))
       go_wp2_with fail
       refine HP.out.mono ?_
       rintro e w4 ⟨v4,rfl,hs4,hb4⟩
       have HS4:=Hd_ hs4
       have HB4:=Hd_ (hbel.trans (hb4.mono hsz))
       clear hs4 hb4
       go_wp2_with fail
       go_roundw
       case rel=>exact ⟨i+1,by omega,by go_num,by rw [HSN.out];exact HS4.out,HB4.out⟩
       case measure=>simp [intOf];omega
     · obtain rfl:i=b.length:=by omega
       rw [List.take_length] at HSET
       have HO:=Hd_ (show Own w.heap.size wr.heap.size wr 82 cPr 2 _ R from by rw [HR.out];exact HSET.out.own)
       obtain ⟨g,c',rfl,-⟩:=HSET.out
       go_wp2_with fail
       go_ret
       exact ⟨_,rfl,HO.out,hbel⟩
set_option maxHeartbeats 2000000 in
set_option maxRecDepth 100000 in
theorem implMerge (va vb:Value) (a b:List Pr) (w:World) (hva:SlE w cPr 2 va a) (hvb:SlE w cPr 2 vb b) (hna:a.length<=1048576) (hnb:b.length<=1048576) :
 Calls Try.prog 88 #[va,vb] w fun e w'=>∃ v',e=.returned v'/\Own w.heap.size w'.heap.size w' 82 cPr 2 v' (mergeL a b)/\Below w.heap.size w w':=by
 have hsa:=hva
 have hsb:=hvb
 obtain ⟨A,ca,rfl,hla,hma,-⟩:=hva
 obtain ⟨B,cb,rfl,hlb,hmb,-⟩:=hvb
 unfold maxLen at hma hmb
 have hba:Below w.heap.size w (w.alloc (.cells #[] 82)):=(Below.refl _ _).alloc (Nat.le_refl _) _
 have hv1:=SlE.keep hsa hba
 have hrow:=World.ownsRow_lit (base:=w.heap.size) (e:=82) (size:=2) w #[] 0 (Nat.le_refl _) (by decide) rfl
 obtain ⟨R,hR⟩:∃ R,R=mergeL a b:=⟨_,rfl⟩
 rw [<- hR]
 have HRS:=Hd_ hR
 have HV:=Hd_ hv1
 have HSB:=Hd_ hsb
 have HR:=Hd_ hrow
 have HBA:=Hd_ hba
 clear hsa hsb hv1 hrow hR hba
 go_enter Try.func88,Try.ntmps88
 go_wp2_with (first | (at_builtin;(refine wpList_appendL cPr elPair cPr_len cPr_one rfl _ _ rfl w.heap.size _ [] a (by rfl) HR.out 0 _ _ (by rfl) HV.out (by simp;omega) (by omega) (by simp) ?_);intro v1 w1 hrow1 hgr1 hat1;simp only [List.nil_append] at hrow1;have hb1:=HBA.out.trans (own_below HR.out (by simp) hgr1);have HR1:=Hd_ hrow1;have HB1:=Hd_ hb1;have HV1:=Hd_ (SlE.keep HSB.out hb1);have hz1:=hb1.size;clear hrow1 hgr1 hat1 hb1) | (at_builtin;(refine wpList_appendL cPr elPair cPr_len cPr_one rfl _ _ rfl w.heap.size _ a b (by rfl) HR1.out 0 _ _ (by rfl) HV1.out (by omega) (by omega) hz1 ?_);intro v2 w2 hrow2 hgr2 hat2))
 have hb2:=HB1.out.trans (own_below HR1.out hz1 hgr2)
 have hz2:=hb2.size
 have hp:=pairSet_any v2 (a ++ b) w2 (((Own.of_row (xs:=a ++ b) hrow2 rfl rfl).sl cPr_len).all (Nat.le_refl _)) (by simp only [List.length_append];omega)
 rw [show psetL (a ++ b)=R from HRS.out.symm] at hp
 have HP:=Hd_ hp
 have HB2:=Hd_ hb2
 clear hp hb2 hrow2 hgr2 hat2
 refine HP.out.mono ?_
 rintro e w5 ⟨v5,rfl,ho5,hb5⟩
 have HO:=Hd_ (ho5.mono hz2 (Nat.le_refl _))
 have HB:=Hd_ (below_trans HB2.out hb5)
 obtain ⟨A9,n9,c9,rfl⟩:=ho5.shape
 clear ho5 hb5
 go_wp2_with fail
 go_ret
 exact ⟨_,rfl,HO.out,HB.out⟩
theorem elPr:ElemOk Try.prog 31 82 (.agg #[.int .i64 0,.int .i64 0]) 2 16:=⟨Try.underlying31,by kernel_rfl,rfl,by omega⟩
def idPairs (n:Nat):List Pr:=(List.range n).map fun (i:Nat)=>((i:Int),(i:Int))
theorem idPairs_succ (n:Nat):idPairs (n+1)=idPairs n ++ [((n:Int),(n:Int))]:=by simp [idPairs,List.range_succ]
theorem idPairs_len (n:Nat):(idPairs n).length=n:=by simp [idPairs]
def identityOf (n:Int):List Pr:=if 5 < n then [] else idPairs n.toNat
set_option maxHeartbeats 400000 in
theorem implIdentity (n:Int) (w:World) :
 Calls Try.prog 85 #[.int .i64 n] w fun en w'=>∃ v,en=.returned v/\Own w.heap.size w'.heap.size w' 82 cPr 2 v (identityOf n)/\Below w.heap.size w w':=by
 by_cases h5:5 < n
 · go_enter Try.func85,Try.ntmps85
   go_wp2
   go_ret
   exact ⟨_,rfl,by rw [identityOf,if_pos h5];exact Own.nil _ _ _ _ _ _,Below.refl _ _⟩
 · rw [identityOf,if_neg h5]
   go_enter Try.func85,Try.ntmps85
   go_wp2
   go_loopw [3,4] (fun out ii wr=>∃ i:Nat,i<=n.toNat/\ii=.int .i64 i/\wr.ownsRow w.heap.size 82 2 out (idPairs i).length ((idPairs i).flatMap cPr)/\Below w.heap.size w wr) (fun _ ii _=>n.toNat - (intOf ii).toNat)
   case atStart=>exact ⟨0,Nat.zero_le _,rfl,World.ownsRow_lit w #[] 0 (Nat.le_refl _) (by decide) rfl,(Below.refl _ _).alloc (Nat.le_refl _) _⟩
   case round =>
    obtain ⟨i,hi,rfl,hrow,hbel⟩:=hrel
    by_cases hlt:(i:Int) < n
    · have hs:=hbel.size
      go_wp2_with (at_builtin;(refine wpList_append1 cPr elPr rfl _ _ rfl w.heap.size u3 (idPairs i) ((i:Int),(i:Int)) _ 1 _ (by rfl) hrow (by rfl) rfl rfl rfl (cPr_one _) (by rw [idPairs_len];omega) (by omega) hs ?_);rw [<- idPairs_succ];intro v' w1 hrow' hb1 _ _)
      go_roundw
      case rel=>exact ⟨i+1,by omega,by go_num,hrow',hbel.trans hb1⟩
      case measure=>simp [intOf];omega
    · obtain rfl:i=n.toNat:=by omega
      go_wp2
      go_ret
      exact ⟨_,rfl,Own.of_row hrow rfl rfl,hbel⟩
set_option maxHeartbeats 400000 in
theorem specIdentity (n:Int) (w:World) :
 Calls Try.prog 71 #[.int .i64 n] w fun en w'=>∃ v,en=.returned v/\Own w.heap.size w'.heap.size w' 82 cPr 2 v (identityOf n)/\Below w.heap.size w w':=by
 by_cases h5:5 < n
 · go_enter Try.func71,Try.ntmps71
   go_wp2
   go_loopw [3,4] (fun out ii wr=>out=.slice (some ⟨w.heap.size,0,none⟩) 0 0/\ii=.int .i64 0/\wr=w.alloc (.cells #[] 82)) (fun _ _ _=>0)
   case atStart=>exact ⟨rfl,rfl,rfl⟩
   case round =>
    obtain ⟨rfl,rfl,rfl⟩:=hrel
    go_wp2
    all_goals go_ret
    all_goals exact ⟨_,rfl,by rw [identityOf,if_pos h5];exact Own.of_row (World.ownsRow_lit w #[] 0 (Nat.le_refl _) (by decide) rfl) rfl rfl,(Below.refl _ _).alloc (Nat.le_refl _) _⟩
 · rw [identityOf,if_neg h5]
   go_enter Try.func71,Try.ntmps71
   go_wp2
   go_loopw [3,4] (fun out ii wr=>∃ i:Nat,i<=n.toNat/\ii=.int .i64 i/\wr.ownsRow w.heap.size 82 2 out (idPairs i).length ((idPairs i).flatMap cPr)/\Below w.heap.size w wr) (fun _ ii _=>n.toNat - (intOf ii).toNat)
   case atStart=>exact ⟨0,Nat.zero_le _,rfl,World.ownsRow_lit w #[] 0 (Nat.le_refl _) (by decide) rfl,(Below.refl _ _).alloc (Nat.le_refl _) _⟩
   case round =>
    obtain ⟨i,hi,rfl,hrow,hbel⟩:=hrel
    by_cases hlt:(i:Int) < n
    · have hs:=hbel.size
      go_wp2_with (at_builtin;refine wpList_append1 cPr elPr rfl _ _ rfl w.heap.size u3 (idPairs i) ((i:Int),(i:Int)) _ 1 _ (by rfl) hrow (by rfl) rfl rfl rfl (cPr_one _) (by rw [idPairs_len];omega) (by omega) hs ?_;rw [<- idPairs_succ];intro v' w1 hrow' hb1 _ _)
      go_roundw
      case rel=>exact ⟨i+1,by omega,by go_num,hrow',hbel.trans hb1⟩
      case measure=>simp [intOf];omega
    · obtain rfl:i=n.toNat:=by omega
      go_wp2
      go_ret
      exact ⟨_,rfl,Own.of_row hrow rfl rfl,hbel⟩
/-- pairs of nodes, rising -/
def sqP (o:List Pr):Prop:=ascP o/\∀ p ∈ o,inB p.1/\inB p.2
def allSq:List Pr:=(List.range 5).flatMap fun (i:Nat)=>(List.range 5).map fun (j:Nat)=>((i:Int),(j:Int))
theorem sq_len {o:List Pr} (h:sqP o):o.length<=25:=by
 have h1:o.Sublist (psetL allSq):=subP h.1 (psetL_asc _) fun x hx=>by
  obtain ⟨⟨a0,a4⟩,⟨b0,b4⟩⟩:=h.2 x hx
  obtain ⟨x1,x2⟩:=x
  simp only at a0 a4 b0 b4
  obtain ⟨a,rfl⟩:=Int.eq_ofNat_of_zero_le a0
  obtain ⟨b,rfl⟩:=Int.eq_ofNat_of_zero_le b0
  exact mem_psetL.2 (List.mem_flatMap.2 ⟨a,List.mem_range.2 (by omega),List.mem_map.2 ⟨b,List.mem_range.2 (by omega),rfl⟩⟩)
 exact Nat.le_trans h1.length_le (Nat.le_trans (psetL_len _) (by decide))
theorem sq_comp {o l:List Pr} (h:sqP o) (hl:∀ p ∈ l,inB p.1/\inB p.2):sqP (composeL o l):=⟨psetL_asc _,fun p hp=>by
 rw [composeL,mem_psetL,mem_compL] at hp
 obtain ⟨q,hq,r,hr,-,rfl⟩:=hp
 exact ⟨(h.2 q hq).1,(hl r hr).2⟩⟩
theorem sq_merge {a b:List Pr} (ha:sqP a) (hb:sqP b):sqP (mergeL a b):=⟨psetL_asc _,fun p hp=>by
 rw [mergeL,mem_psetL,List.mem_append] at hp
 exact hp.elim (ha.2 p) (hb.2 p)⟩
theorem idPairs_asc:∀ n,ascP (idPairs n)
 | 0=>List.Pairwise.nil
 | n+1=>by
   rw [idPairs_succ]
   refine List.pairwise_append.2 ⟨idPairs_asc n,List.pairwise_singleton _ _,fun a ha b hb=>?_⟩
   obtain ⟨i,hi,rfl⟩:=List.mem_map.1 ha
   rw [List.mem_singleton] at hb
   subst hb
   have:=List.mem_range.1 hi
   exact ltP_iff.2 (.inl (by simp only;omega))
theorem sq_id (n:Int):sqP (identityOf n):=by
 rw [identityOf]
 split
 · exact ⟨List.Pairwise.nil,by simp⟩
 · refine ⟨idPairs_asc _,fun p hp=>?_⟩
   obtain ⟨i,hi,rfl⟩:=List.mem_map.1 hp
   have:=List.mem_range.1 hi
   exact ⟨⟨by simp only;omega,by simp only;omega⟩,⟨by simp only;omega,by simp only;omega⟩⟩
theorem sq_clos {o l:List Pr} (h:sqP o) (hl:∀ p ∈ l,inB p.1/\inB p.2):∀ k,sqP (closK l o k)
 | 0=>h
 | k+1=>sq_merge (sq_clos h hl k) (sq_comp (sq_clos h hl k) hl)
def closureL (n:Int) (l:List Pr):List Pr:=if wi n 1 5 && arePL l then closK l (identityOf n) 5 else []
theorem clos_done {l o:List Pr} (ho:sqP o) (hl:∀ p ∈ l,inB p.1/\inB p.2) {k:Nat} (h:closStep l (closK l o k)=closK l o k):closK l o k=closK l o 5:=by
 have h5:=clos_fix (fun p hp=>(hl p hp).2) (fun p hp=>(ho.2 p hp).2) ho.1 (l:=l) (o:=o)
 rcases Nat.le_total k 5 with hk | hk
 · have:=clos_stay h (5 - k)
   rw [show k+(5 - k)=5 by omega] at this
   exact this.symm
 · have:=clos_stay h5 (k - 5)
   rw [show 5+(k - 5)=k by omega] at this
   exact this
theorem clos_grows {l o:List Pr} (ho:ascP o) (k:Nat):(closK l o k).length<=(closStep l (closK l o k)).length :=
 (subP (closK_asc ho k) (psetL_asc _) fun _ hx=>closK_mono hx).length_le
def lenV:Value->Nat
 | .slice _ n _=>n
 | _=>0
theorem own_slice {lo hi:Nat} {w:World} {e:TypeId} {v:Value} {xs:List Pr} (h:Own lo hi w e cPr 2 v xs):∃ A c,v=.slice A xs.length c:=by
 obtain ⟨A,c,rfl,-⟩:=h.sl cPr_len
 exact ⟨A,c,rfl⟩
set_option maxHeartbeats 2000000 in
set_option maxRecDepth 100000 in
theorem specClosure (n:Int) (v:Value) (l:List Pr) (w:World) (hv:SlE w cPr 2 v l) (hn:l.length<=1048576) :
 Calls Try.prog 76 #[.int .i64 n,v] w fun e w'=>∃ v',e=.returned v'/\Own w.heap.size w'.heap.size w' 82 cPr 2 v' (closureL n l)/\Below w.heap.size w w':=by
 have HSL:=Hd_ hv
 have hin:=l1In_any n 1 5 w
 have hare:=specAre v l w hv hn
 clear hv
 cases g1:wi n 1 5 with
 | false =>
   have HE:=Hd_ (show closureL n l=[] by simp [closureL,g1])
   rw [g1] at hin
   have HIN:=Hd_ hin
   clear hin hare g1
   rw [HE.out]
   go_enter Try.func76,Try.ntmps76
   go_wp2_with fail
   refine HIN.out.mono ?_
   rintro e w1 ⟨rfl,rfl⟩
   go_wp2_with fail
   go_ret
   exact ⟨_,rfl,Own.of_row (xs:=([]:List Pr)) (World.ownsRow_lit _ #[] 0 (Nat.le_refl _) (by decide) rfl) rfl rfl,(Below.refl _ _).alloc (Nat.le_refl _) _⟩
 | true =>
   rw [g1] at hin
   cases g2:arePL l with
   | false =>
     have HE:=Hd_ (show closureL n l=[] by simp [closureL,g2])
     rw [g2] at hare
     have HIN:=Hd_ hin
     have HAR:=Hd_ hare
     clear hin hare g1 g2
     rw [HE.out]
     go_enter Try.func76,Try.ntmps76
     go_wp2_with fail
     refine HIN.out.mono ?_
     rintro e w1 ⟨rfl,rfl⟩
     go_wp2_with fail
     refine HAR.out.mono ?_
     rintro e w2 ⟨rfl,hb2⟩
     go_wp2_with fail
     go_ret
     exact ⟨_,rfl,(Own.of_row (xs:=([]:List Pr)) (World.ownsRow_lit w2 #[] 0 (Nat.le_refl _) (by decide) rfl) rfl rfl).mono hb2.size (Nat.le_refl _),hb2.alloc hb2.size _⟩
   | true =>
     have HL:=Hd_ (arePL_in g2)
     have HE:=Hd_ (show closureL n l=closK l (identityOf n) 5 by simp [closureL,g1,g2])
     rw [g2] at hare
     have HIN:=Hd_ hin
     have HAR:=Hd_ hare
     have HSQ:=Hd_ (sq_id n)
     have HID:=Hd_ (specIdentity n)
     clear hin hare g1 g2
     generalize closureL n l=R at *
     generalize identityOf n=o at *
     go_enter Try.func76,Try.ntmps76
     go_wp2_with fail
     refine HIN.out.mono ?_
     rintro e w1 ⟨rfl,rfl⟩
     go_wp2_with fail
     refine HAR.out.mono ?_
     rintro e w2 ⟨rfl,hb2⟩
     go_wp2_with fail
     refine (HID.out w2).mono ?_
     rintro e w3 ⟨v3,rfl,ho3,hb3⟩
     have HO3:=Hd_ (ho3.mono hb2.size (Nat.le_refl _))
     have hb3':=below_trans hb2 hb3
     clear ho3 hb3 hb2
     go_wp2_with fail
     go_loopw [5,6] (fun oo ii wr=>∃ k:Nat,k<=5/\ii=.int .i64 (k:Int)/\Own w1.heap.size wr.heap.size wr 82 cPr 2 oo (closK l o k)/\Below w1.heap.size w1 wr) (fun _ ii _=>5 - (intOf ii).toNat)
     case atStart=>exact ⟨0,by omega,rfl,HO3.out,hb3'⟩
     case round =>
      obtain ⟨k,hk,rfl,hown,hbel⟩:=hrel
      have hsz:=hbel.size
      by_cases hlt:k < 5
      · have hq:=sq_clos HSQ.out HL.out k
        have hql:=sq_len hq
        have hcl:=sq_len (sq_comp hq HL.out)
        have hkk:(k:Int) < 5:=by omega
        have HST:=Hd_ (show closK l o (k+1)=mergeL (closK l o k) (composeL (closK l o k) l) from rfl)
        generalize closK l o k=C at *
        have HC:=Hd_ (specCompose _ v C l wr ((hown.sl cPr_len).all (Nat.le_refl _)) (SlE.keep HSL.out hbel) (by omega) hn)
        have HOWN:=Hd_ hown
        clear hown hq
        go_wp2_with fail
        refine HC.out.mono ?_
        rintro e w4 ⟨v4,rfl,ho4,hb4⟩
        have hz4:=hb4.size
        have HM:=Hd_ (specMerge _ v4 C (composeL C l) w4 (SlE.keep ((HOWN.out.sl cPr_len).all (Nat.le_refl _)) hb4) ((ho4.sl cPr_len).all (Nat.le_refl _)) (by omega) (by omega))
        have HB4:=Hd_ (below_trans hbel hb4)
        clear ho4 hb4
        go_wp2_with fail
        refine HM.out.mono ?_
        rintro e w5 ⟨v5,rfl,ho5,hb5⟩
        have HO5:=Hd_ (ho5.mono (Nat.le_trans hsz hz4) (Nat.le_refl _))
        have HB5:=Hd_ (below_trans HB4.out hb5)
        clear ho5 hb5
        go_wp2_with fail
        go_roundw
        case rel=>exact ⟨k+1,by omega,by go_num,by rw [HST.out];exact HO5.out,HB5.out⟩
        case measure=>simp [intOf];omega
      · obtain rfl:k=5:=by omega
        rw [<- HE.out] at hown
        have HO:=Hd_ hown
        obtain ⟨A9,n9,c9,rfl⟩:=hown.shape
        clear hown
        go_wp2_with fail
        go_ret
        exact ⟨_,rfl,HO.out,hbel⟩
set_option maxHeartbeats 2000000 in
set_option maxRecDepth 100000 in
theorem implClosure (n:Int) (v:Value) (l:List Pr) (w:World) (hv:SlE w cPr 2 v l) (hn:l.length<=1048576) :
 Calls Try.prog 89 #[.int .i64 n,v] w fun e w'=>∃ v',e=.returned v'/\Own w.heap.size w'.heap.size w' 82 cPr 2 v' (closureL n l)/\Below w.heap.size w w':=by
 have HSL:=Hd_ hv
 have hin:=within_any n 1 5 w
 have hare:=implAre v l w hv hn
 clear hv
 cases g1:wi n 1 5 with
 | false =>
   have HE:=Hd_ (show closureL n l=[] by simp [closureL,g1])
   rw [g1] at hin
   have HIN:=Hd_ hin
   clear hin hare g1
   rw [HE.out]
   go_enter Try.func89,Try.ntmps89
   go_wp2_with fail
   refine HIN.out.mono ?_
   rintro e w1 ⟨rfl,rfl⟩
   go_wp2_with fail
   go_ret
   exact ⟨_,rfl,Own.nil _ _ _ _ _ _,Below.refl _ _⟩
 | true =>
   rw [g1] at hin
   cases g2:arePL l with
   | false =>
     have HE:=Hd_ (show closureL n l=[] by simp [closureL,g2])
     rw [g2] at hare
     have HIN:=Hd_ hin
     have HAR:=Hd_ hare
     clear hin hare g1 g2
     rw [HE.out]
     go_enter Try.func89,Try.ntmps89
     go_wp2_with fail
     refine HIN.out.mono ?_
     rintro e w1 ⟨rfl,rfl⟩
     go_wp2_with fail
     refine HAR.out.mono ?_
     rintro e w2 ⟨rfl,hb2⟩
     go_wp2_with fail
     go_ret
     exact ⟨_,rfl,Own.nil _ _ _ _ _ _,hb2⟩
   | true =>
     have HL:=Hd_ (arePL_in g2)
     have HE:=Hd_ (show closureL n l=closK l (identityOf n) 5 by simp [closureL,g1,g2])
     rw [g2] at hare
     have HIN:=Hd_ hin
     have HAR:=Hd_ hare
     have HSQ:=Hd_ (sq_id n)
     have HID:=Hd_ (implIdentity n)
     clear hin hare g1 g2
     generalize closureL n l=R at *
     generalize identityOf n=o at *
     go_enter Try.func89,Try.ntmps89
     go_wp2_with fail
     refine HIN.out.mono ?_
     rintro e w1 ⟨rfl,rfl⟩
     go_wp2_with fail
     refine HAR.out.mono ?_
     rintro e w2 ⟨rfl,hb2⟩
     go_wp2_with fail
     refine (HID.out w2).mono ?_
     rintro e w3 ⟨v3,rfl,ho3,hb3⟩
     have HO3:=Hd_ (ho3.mono hb2.size (Nat.le_refl _))
     have hb3':=below_trans hb2 hb3
     clear ho3 hb3 hb2
     go_wp2_with fail
     go_loopw [5] (fun oo wr=>∃ k:Nat,Own w1.heap.size wr.heap.size wr 82 cPr 2 oo (closK l o k)/\Below w1.heap.size w1 wr) (fun oo _=>25 - lenV oo)
     case atStart=>exact ⟨0,HO3.out,hb3'⟩
     case round =>
      obtain ⟨k,hown,hbel⟩:=hrel
      have hsz:=hbel.size
      have hq:=sq_clos HSQ.out HL.out k
      have hql:=sq_len hq
      have hcl:=sq_len (sq_comp hq HL.out)
      have hml:=sq_len (sq_clos HSQ.out HL.out (k+1))
      have hgr:=clos_grows (l:=l) HSQ.out.1 k
      have HST:=Hd_ (show closK l o (k+1)=mergeL (closK l o k) (composeL (closK l o k) l) from rfl)
      have HDN:=Hd_ (fun h=>(clos_done HSQ.out HL.out (clos_len HSQ.out.1 h)).trans HE.out.symm:(closStep l (closK l o k)).length=(closK l o k).length->closK l o k=R)
      rw [show closStep l (closK l o k)=closK l o (k+1) from rfl] at hgr HDN
      generalize hC1:closK l o (k+1)=C1 at *
      have HC1:=Hd_ hC1
      clear hC1
      generalize closK l o k=C at *
      obtain ⟨A1,c1,rfl⟩:=own_slice hown
      have HC:=Hd_ (implCompose _ v C l wr ((hown.sl cPr_len).all (Nat.le_refl _)) (SlE.keep HSL.out hbel) (by omega) hn)
      have HOWN:=Hd_ hown
      clear hown hq
      go_wp2_with fail
      refine HC.out.mono ?_
      rintro e w4 ⟨v4,rfl,ho4,hb4⟩
      have hz4:=hb4.size
      have hm:=implMerge _ v4 C (composeL C l) w4 (SlE.keep ((HOWN.out.sl cPr_len).all (Nat.le_refl _)) hb4) ((ho4.sl cPr_len).all (Nat.le_refl _)) (by omega) (by omega)
      rw [<- HST.out] at hm
      have HM:=Hd_ hm
      have HB4:=Hd_ (below_trans hbel hb4)
      have HOW4:=Hd_ (HOWN.out.below hb4 (Nat.le_refl _))
      clear ho4 hb4 hm
      go_wp2_with fail
      refine HM.out.mono ?_
      rintro e w5 ⟨v5,rfl,ho5,hb5⟩
      have hz5:=hb5.size
      obtain ⟨A5,c5,rfl⟩:=own_slice ho5
      have HO5:=Hd_ (ho5.mono (Nat.le_trans hsz hz4) (Nat.le_refl _))
      have HOW5:=Hd_ ((HOW4.out.below hb5 hz4).mono (Nat.le_refl _) (Nat.le_trans hz4 hz5))
      have HB5:=Hd_ (below_trans HB4.out hb5)
      clear ho5 hb5
      by_cases hlen:C1.length=C.length
      · have hli:(C1.length:Int)=(C.length:Int):=by omega
        have HRE:=Hd_ (HDN.out hlen)
        go_wp2_with fail
        go_ret
        exact ⟨_,rfl,by rw [<- HRE.out];exact HOW5.out,HB5.out⟩
      · have hli:¬ (C1.length:Int)=(C.length:Int):=by omega
        go_wp2_with fail
        go_roundw
        case rel=>exact ⟨k+1,by rw [HC1.out];exact HO5.out,HB5.out⟩
        case measure=>simp only [lenV];omega
def powX (l o:List Pr):Nat->List Pr
 | 0=>o
 | k+1=>composeL (powX l o k) l
def powO (l o:List Pr) (lo:Int):Nat->List Pr
 | 0=>[]
 | k+1=>if lo<=(k:Int) then mergeL (powO l o lo k) (powX l o k) else powO l o lo k
theorem sq_powX {o l:List Pr} (h:sqP o) (hl:∀ p ∈ l,inB p.1/\inB p.2):∀ k,sqP (powX l o k)
 | 0=>h
 | k+1=>sq_comp (sq_powX h hl k) hl
theorem sq_powO {o l:List Pr} (h:sqP o) (hl:∀ p ∈ l,inB p.1/\inB p.2) (lo:Int):∀ k,sqP (powO l o lo k)
 | 0=>⟨List.Pairwise.nil,by simp [powO]⟩
 | k+1=>by
   rw [powO]
   split
   · exact sq_merge (sq_powO h hl lo k) (sq_powX h hl k)
   · exact sq_powO h hl lo k
def powerL (n:Int) (l:List Pr) (lo hi:Int):List Pr:=if wi n 1 5 && arePL l && wi hi 0 3 && decide (0<=lo) then powO l (identityOf n) lo (hi.toNat+1) else []
theorem own_step {lo:Nat} {w w':World} {e:TypeId} {v:Value} {xs:List Pr} (h:Own lo w.heap.size w e cPr 2 v xs) (hb:Below w.heap.size w w'):Own lo w'.heap.size w' e cPr 2 v xs :=
 (h.below hb (Nat.le_refl _)).mono (Nat.le_refl _) hb.size
set_option maxHeartbeats 4000000 in
set_option maxRecDepth 100000 in
theorem specPower (n:Int) (v:Value) (l:List Pr) (lo hi:Int) (w:World) (hv:SlE w cPr 2 v l) (hn:l.length<=1048576) :
 Calls Try.prog 77 #[.int .i64 n,v,.int .i64 lo,.int .i64 hi] w fun e w'=>∃ v',e=.returned v'/\Own w.heap.size w'.heap.size w' 82 cPr 2 v' (powerL n l lo hi)/\Below w.heap.size w w':=by
 have HSL:=Hd_ hv
 have hin:∀ w:World,_:=fun w=>l1In_any n 1 5 w
 have hih:∀ w:World,_:=fun w=>l1In_any hi 0 3 w
 have hare:∀ w:World,SlE w cPr 2 v l->_:=fun w h=>specAre v l w h hn
 have hb0:Below w.heap.size w (w.alloc (.cells #[] 82)):=(Below.refl _ _).alloc (Nat.le_refl _) _
 have HO0:=Hd_ (Own.of_row (E:=cPr) (xs:=([]:List Pr)) (World.ownsRow_lit (base:=w.heap.size) (e:=82) (size:=2) w #[] 0 (Nat.le_refl _) (by decide) rfl) rfl rfl)
 clear hv
 cases g1:wi n 1 5 with
 | false =>
   have HE:=Hd_ (show powerL n l lo hi=[] by simp [powerL,g1])
   simp only [g1] at hin
   have HIN:=Hd_ hin
   clear hin hih hare g1
   rw [HE.out]
   go_enter Try.func77,Try.ntmps77
   go_wp2_with fail
   refine (HIN.out _).mono ?_
   rintro e w1 ⟨rfl,hw1⟩
   rw [hw1]
   clear hw1 w1
   go_wp2_with fail
   go_ret
   exact ⟨_,rfl,HO0.out,hb0⟩
 | true =>
   simp only [g1] at hin
   cases g2:arePL l with
   | false =>
     have HE:=Hd_ (show powerL n l lo hi=[] by simp [powerL,g2])
     simp only [g2] at hare
     have HIN:=Hd_ hin
     have HAR:=Hd_ hare
     clear hin hih hare g1 g2
     rw [HE.out]
     go_enter Try.func77,Try.ntmps77
     go_wp2_with fail
     refine (HIN.out _).mono ?_
     rintro e w1 ⟨rfl,hw1⟩
     rw [hw1]
     clear hw1 w1
     go_wp2_with fail
     refine (HAR.out _ (SlE.keep HSL.out hb0)).mono ?_
     rintro e w2 ⟨rfl,hb2⟩
     have HO2:=Hd_ (own_step HO0.out hb2)
     have hb:=below_trans hb0 hb2
     clear hb2
     go_wp2_with fail
     go_ret
     exact ⟨_,rfl,HO2.out,hb⟩
   | true =>
     simp only [g2] at hare
     cases g3:wi hi 0 3 with
     | false =>
       have HE:=Hd_ (show powerL n l lo hi=[] by simp [powerL,g3])
       simp only [g3] at hih
       have HIN:=Hd_ hin
       have HAR:=Hd_ hare
       have HIH:=Hd_ hih
       clear hin hih hare g1 g2 g3
       rw [HE.out]
       go_enter Try.func77,Try.ntmps77
       go_wp2_with fail
       refine (HIN.out _).mono ?_
       rintro e w1 ⟨rfl,hw1⟩
       rw [hw1]
       clear hw1 w1
       go_wp2_with fail
       refine (HAR.out _ (SlE.keep HSL.out hb0)).mono ?_
       rintro e w2 ⟨rfl,hb2⟩
       have HO2:=Hd_ (own_step HO0.out hb2)
       have hb:=below_trans hb0 hb2
       clear hb2
       go_wp2_with fail
       refine (HIH.out _).mono ?_
       rintro e w1 ⟨rfl,hw1⟩
       rw [hw1]
       clear hw1 w1
       go_wp2_with fail
       go_ret
       exact ⟨_,rfl,HO2.out,hb⟩
     | true =>
       simp only [g3] at hih
       by_cases g4:lo < 0
       · have HE:=Hd_ (show powerL n l lo hi=[] by (have:¬ 0<=lo:=(by omega));simp [powerL,this])
         have HIN:=Hd_ hin
         have HAR:=Hd_ hare
         have HIH:=Hd_ hih
         clear hin hih hare g1 g2
         rw [HE.out]
         go_enter Try.func77,Try.ntmps77
         go_wp2_with fail
         refine (HIN.out _).mono ?_
         rintro e w1 ⟨rfl,hw1⟩
         rw [hw1]
         clear hw1 w1
         go_wp2_with fail
         refine (HAR.out _ (SlE.keep HSL.out hb0)).mono ?_
         rintro e w2 ⟨rfl,hb2⟩
         have HO2:=Hd_ (own_step HO0.out hb2)
         have hb:=below_trans hb0 hb2
         clear hb2
         go_wp2_with fail
         refine (HIH.out _).mono ?_
         rintro e w1 ⟨rfl,hw1⟩
         rw [hw1]
         clear hw1 w1
         go_wp2_with fail
         go_ret
         exact ⟨_,rfl,HO2.out,hb⟩
       · have g4d:decide (lo < 0)=false:=by simpa using g4
         have HL:=Hd_ (arePL_in g2)
         have HE:=Hd_ (show powerL n l lo hi=powO l (identityOf n) lo (hi.toNat+1) by (have:0<=lo:=(by omega));simp [powerL,g1,g2,g3,this])
         obtain ⟨g30,g31⟩:=wi_iff.1 g3
         have HIN:=Hd_ hin
         have HAR:=Hd_ hare
         have HIH:=Hd_ hih
         have HSQ:=Hd_ (sq_id n)
         have HID:=Hd_ (specIdentity n)
         clear hin hare hih g1 g2 g3
         generalize powerL n l lo hi=R at *
         generalize identityOf n=o at *
         obtain ⟨h,rfl⟩:=Int.eq_ofNat_of_zero_le g30
         rw [Int.toNat_natCast] at HE
         have hh3:h<=3:=by omega
         clear g30 g31
         go_enter Try.func77,Try.ntmps77
         go_wp2_with fail
         refine (HIN.out _).mono ?_
         rintro e w1 ⟨rfl,hw1⟩
         rw [hw1]
         clear hw1 w1
         go_wp2_with fail
         refine (HAR.out _ (SlE.keep HSL.out hb0)).mono ?_
         rintro e w2 ⟨rfl,hb2⟩
         have HO2:=Hd_ (own_step HO0.out hb2)
         have hb:=below_trans hb0 hb2
         clear hb2
         go_wp2_with fail
         refine (HIH.out _).mono ?_
         rintro e w1 ⟨rfl,hw1⟩
         rw [hw1]
         clear hw1 w1
         go_wp2_with fail
         have hzz:=hb.size
         refine (HID.out _).mono ?_
         rintro e w3 ⟨v3,rfl,ho3,hb3⟩
         have HX3:=Hd_ (ho3.mono hzz (Nat.le_refl _))
         have HO3:=Hd_ (own_step HO2.out hb3)
         have hb3':=below_trans hb hb3
         clear ho3 hb3 hzz hb
         go_wp2_with fail
         go_loopw [9,10,11] (fun oo xx ii wr=>∃ k:Nat,k<=h+1/\ii=.int .i64 (k:Int)/\Own w.heap.size wr.heap.size wr 82 cPr 2 oo (powO l o lo k)/\Own w.heap.size wr.heap.size wr 82 cPr 2 xx (powX l o k)/\Below w.heap.size w wr) (fun _ _ ii _=>h+1 - (intOf ii).toNat)
         case atStart=>exact ⟨0,by omega,rfl,HO3.out,HX3.out,hb3'⟩
         case round =>
          obtain ⟨k,hk,rfl,hown,hox,hbel⟩:=hrel
          have hsz:=hbel.size
          by_cases hlt:k<=h
          · have hq:=sq_powX HSQ.out HL.out k
            have hql:=sq_len hq
            have hpl:=sq_len (sq_powO HSQ.out HL.out lo k)
            have hkk:(k:Int)<=(h:Int):=by omega
            have HSX:=Hd_ (show powX l o (k+1)=composeL (powX l o k) l from rfl)
            have HOWN:=Hd_ hown
            have HOX:=Hd_ hox
            clear hown hox hq
            by_cases hlo:lo<=(k:Int)
            · have HSO:=Hd_ (show powO l o lo (k+1)=mergeL (powO l o lo k) (powX l o k) from if_pos hlo)
              generalize powO l o lo k=C at *
              generalize powX l o k=X at *
              have HM:=Hd_ (specMerge _ _ C X wr ((HOWN.out.sl cPr_len).all (Nat.le_refl _)) ((HOX.out.sl cPr_len).all (Nat.le_refl _)) (by omega) (by omega))
              go_wp2_with fail
              refine HM.out.mono ?_
              rintro e w4 ⟨v4,rfl,ho4,hb4⟩
              have HO4:=Hd_ (ho4.mono hsz (Nat.le_refl _))
              have HOX4:=Hd_ (own_step HOX.out hb4)
              have hbel4:=below_trans hbel hb4
              have hsz4:=hbel4.size
              clear ho4 hb4 HM
              have HC:=Hd_ (specCompose _ v X l w4 ((HOX4.out.sl cPr_len).all (Nat.le_refl _)) (SlE.keep HSL.out hbel4) (by omega) hn)
              go_wp2_with fail
              refine HC.out.mono ?_
              rintro e w5 ⟨v5,rfl,ho5,hb5⟩
              have HX5:=Hd_ (ho5.mono hsz4 (Nat.le_refl _))
              have HO5:=Hd_ (own_step HO4.out hb5)
              have HB5:=Hd_ (below_trans hbel4 hb5)
              clear ho5 hb5
              go_wp2_with fail
              go_roundw
              case rel=>exact ⟨k+1,by omega,by go_num,by rw [HSO.out];exact HO5.out,by rw [HSX.out];exact HX5.out,HB5.out⟩
              case measure=>simp [intOf];omega
            · have HSO:=Hd_ (show powO l o lo (k+1)=powO l o lo k from if_neg hlo)
              generalize powO l o lo k=C at *
              generalize powX l o k=X at *
              have HC:=Hd_ (specCompose _ v X l wr ((HOX.out.sl cPr_len).all (Nat.le_refl _)) (SlE.keep HSL.out hbel) (by omega) hn)
              go_wp2_with fail
              refine HC.out.mono ?_
              rintro e w5 ⟨v5,rfl,ho5,hb5⟩
              have HX5:=Hd_ (ho5.mono hsz (Nat.le_refl _))
              have HO5:=Hd_ (own_step HOWN.out hb5)
              have HB5:=Hd_ (below_trans hbel hb5)
              clear ho5 hb5
              go_wp2_with fail
              go_roundw
              case rel=>exact ⟨k+1,by omega,by go_num,by rw [HSO.out];exact HO5.out,by rw [HSX.out];exact HX5.out,HB5.out⟩
              case measure=>simp [intOf];omega
          · obtain rfl:k=h+1:=by omega
            rw [<- HE.out] at hown
            have HO:=Hd_ hown
            obtain ⟨A9,n9,c9,rfl⟩:=hown.shape
            clear hown hox
            have hkk:¬ ((h+1:Nat):Int)<=(h:Int):=by omega
            go_wp2_with fail
            go_ret
            exact ⟨_,rfl,HO.out,hbel⟩
set_option maxHeartbeats 4000000 in
set_option maxRecDepth 100000 in
theorem implPower (n:Int) (v:Value) (l:List Pr) (lo hi:Int) (w:World) (hv:SlE w cPr 2 v l) (hn:l.length<=1048576) :
 Calls Try.prog 90 #[.int .i64 n,v,.int .i64 lo,.int .i64 hi] w fun e w'=>∃ v',e=.returned v'/\Own w.heap.size w'.heap.size w' 82 cPr 2 v' (powerL n l lo hi)/\Below w.heap.size w w':=by
 have HSL:=Hd_ hv
 have hin:∀ w:World,_:=fun w=>within_any n 1 5 w
 have hih:∀ w:World,_:=fun w=>within_any hi 0 3 w
 have hare:∀ w:World,SlE w cPr 2 v l->_:=fun w h=>implAre v l w h hn
 have hb0:Below w.heap.size w w:=Below.refl _ _
 clear hv
 cases g1:wi n 1 5 with
 | false =>
   have HE:=Hd_ (show powerL n l lo hi=[] by simp [powerL,g1])
   simp only [g1] at hin
   have HIN:=Hd_ hin
   clear hin hih hare g1
   rw [HE.out]
   go_enter Try.func90,Try.ntmps90
   go_wp2_with fail
   refine (HIN.out _).mono ?_
   rintro e w1 ⟨rfl,hw1⟩
   rw [hw1]
   clear hw1 w1
   go_wp2_with fail
   go_ret
   exact ⟨_,rfl,Own.nil _ _ _ _ _ _,hb0⟩
 | true =>
   simp only [g1] at hin
   cases g2:arePL l with
   | false =>
     have HE:=Hd_ (show powerL n l lo hi=[] by simp [powerL,g2])
     simp only [g2] at hare
     have HIN:=Hd_ hin
     have HAR:=Hd_ hare
     clear hin hih hare g1 g2
     rw [HE.out]
     go_enter Try.func90,Try.ntmps90
     go_wp2_with fail
     refine (HIN.out _).mono ?_
     rintro e w1 ⟨rfl,hw1⟩
     rw [hw1]
     clear hw1 w1
     go_wp2_with fail
     refine (HAR.out _ (SlE.keep HSL.out hb0)).mono ?_
     rintro e w2 ⟨rfl,hb2⟩
     have hb:=below_trans hb0 hb2
     clear hb2
     go_wp2_with fail
     go_ret
     exact ⟨_,rfl,Own.nil _ _ _ _ _ _,hb⟩
   | true =>
     simp only [g2] at hare
     by_cases g4:lo < 0
     · have HE:=Hd_ (show powerL n l lo hi=[] by (have:¬ 0<=lo:=(by omega));simp [powerL,this])
       have HIN:=Hd_ hin
       have HAR:=Hd_ hare
       have HIH:=Hd_ hih
       clear hin hih hare g1 g2
       rw [HE.out]
       go_enter Try.func90,Try.ntmps90
       go_wp2_with fail
       refine (HIN.out _).mono ?_
       rintro e w1 ⟨rfl,hw1⟩
       rw [hw1]
       clear hw1 w1
       go_wp2_with fail
       refine (HAR.out _ (SlE.keep HSL.out hb0)).mono ?_
       rintro e w2 ⟨rfl,hb2⟩
       have hb:=below_trans hb0 hb2
       clear hb2
       go_wp2_with fail
       go_ret
       exact ⟨_,rfl,Own.nil _ _ _ _ _ _,hb⟩
     · have g4d:decide (lo < 0)=false:=by simpa using g4
       cases g3:wi hi 0 3 with
       | false =>
         have HE:=Hd_ (show powerL n l lo hi=[] by simp [powerL,g3])
         simp only [g3] at hih
         have HIN:=Hd_ hin
         have HAR:=Hd_ hare
         have HIH:=Hd_ hih
         clear hin hih hare g1 g2 g3
         rw [HE.out]
         go_enter Try.func90,Try.ntmps90
         go_wp2_with fail
         refine (HIN.out _).mono ?_
         rintro e w1 ⟨rfl,hw1⟩
         rw [hw1]
         clear hw1 w1
         go_wp2_with fail
         refine (HAR.out _ (SlE.keep HSL.out hb0)).mono ?_
         rintro e w2 ⟨rfl,hb2⟩
         have hb:=below_trans hb0 hb2
         clear hb2
         go_wp2_with fail
         refine (HIH.out _).mono ?_
         rintro e w1 ⟨rfl,hw1⟩
         rw [hw1]
         clear hw1 w1
         go_wp2_with fail
         go_ret
         exact ⟨_,rfl,Own.nil _ _ _ _ _ _,hb⟩
       | true =>
         simp only [g3] at hih
         have HL:=Hd_ (arePL_in g2)
         have HE:=Hd_ (show powerL n l lo hi=powO l (identityOf n) lo (hi.toNat+1) by (have:0<=lo:=(by omega));simp [powerL,g1,g2,g3,this])
         obtain ⟨g30,g31⟩:=wi_iff.1 g3
         have HIN:=Hd_ hin
         have HAR:=Hd_ hare
         have HIH:=Hd_ hih
         have HSQ:=Hd_ (sq_id n)
         have HID:=Hd_ (implIdentity n)
         clear hin hare hih g1 g2 g3
         generalize powerL n l lo hi=R at *
         generalize identityOf n=o at *
         obtain ⟨h,rfl⟩:=Int.eq_ofNat_of_zero_le g30
         rw [Int.toNat_natCast] at HE
         have hh3:h<=3:=by omega
         clear g30 g31
         go_enter Try.func90,Try.ntmps90
         go_wp2_with fail
         refine (HIN.out _).mono ?_
         rintro e w1 ⟨rfl,hw1⟩
         rw [hw1]
         clear hw1 w1
         go_wp2_with fail
         refine (HAR.out _ (SlE.keep HSL.out hb0)).mono ?_
         rintro e w2 ⟨rfl,hb2⟩
         have hb:=below_trans hb0 hb2
         clear hb2
         go_wp2_with fail
         refine (HIH.out _).mono ?_
         rintro e w1 ⟨rfl,hw1⟩
         rw [hw1]
         clear hw1 w1
         go_wp2_with fail
         have HO2:=Hd_ ((Own.of_row (E:=cPr) (xs:=([]:List Pr)) (World.ownsRow_lit (base:=w2.heap.size) (e:=82) (size:=2) w2 #[] 0 (Nat.le_refl _) (by decide) rfl) rfl rfl).mono hb.size (Nat.le_refl _))
         replace hb:=hb.alloc hb.size (.cells #[] 82)
         have hzz:=hb.size
         refine (HID.out _).mono ?_
         rintro e w3 ⟨v3,rfl,ho3,hb3⟩
         have HX3:=Hd_ (ho3.mono hzz (Nat.le_refl _))
         have HO3:=Hd_ (own_step HO2.out hb3)
         have hb3':=below_trans hb hb3
         clear ho3 hb3 hzz hb
         go_wp2_with fail
         go_loopw [9,10,11] (fun oo xx ii wr=>∃ k:Nat,k<=h+1/\ii=.int .i64 (k:Int)/\Own w.heap.size wr.heap.size wr 82 cPr 2 oo (powO l o lo k)/\Own w.heap.size wr.heap.size wr 82 cPr 2 xx (powX l o k)/\Below w.heap.size w wr) (fun _ _ ii _=>h+1 - (intOf ii).toNat)
         case atStart=>exact ⟨0,by omega,rfl,HO3.out,HX3.out,hb3'⟩
         case round =>
          obtain ⟨k,hk,rfl,hown,hox,hbel⟩:=hrel
          have hsz:=hbel.size
          by_cases hlt:k<=h
          · have hq:=sq_powX HSQ.out HL.out k
            have hql:=sq_len hq
            have hpl:=sq_len (sq_powO HSQ.out HL.out lo k)
            have hkk:(k:Int)<=(h:Int):=by omega
            have HSX:=Hd_ (show powX l o (k+1)=composeL (powX l o k) l from rfl)
            have HOWN:=Hd_ hown
            have HOX:=Hd_ hox
            clear hown hox hq
            by_cases hlo:lo<=(k:Int)
            · have HSO:=Hd_ (show powO l o lo (k+1)=mergeL (powO l o lo k) (powX l o k) from if_pos hlo)
              generalize powO l o lo k=C at *
              generalize powX l o k=X at *
              have HM:=Hd_ (implMerge _ _ C X wr ((HOWN.out.sl cPr_len).all (Nat.le_refl _)) ((HOX.out.sl cPr_len).all (Nat.le_refl _)) (by omega) (by omega))
              go_wp2_with fail
              refine HM.out.mono ?_
              rintro e w4 ⟨v4,rfl,ho4,hb4⟩
              have HO4:=Hd_ (ho4.mono hsz (Nat.le_refl _))
              have HOX4:=Hd_ (own_step HOX.out hb4)
              have hbel4:=below_trans hbel hb4
              have hsz4:=hbel4.size
              clear ho4 hb4 HM
              have HC:=Hd_ (implCompose _ v X l w4 ((HOX4.out.sl cPr_len).all (Nat.le_refl _)) (SlE.keep HSL.out hbel4) (by omega) hn)
              go_wp2_with fail
              refine HC.out.mono ?_
              rintro e w5 ⟨v5,rfl,ho5,hb5⟩
              have HX5:=Hd_ (ho5.mono hsz4 (Nat.le_refl _))
              have HO5:=Hd_ (own_step HO4.out hb5)
              have HB5:=Hd_ (below_trans hbel4 hb5)
              clear ho5 hb5
              go_wp2_with fail
              go_roundw
              case rel=>exact ⟨k+1,by omega,by go_num,by rw [HSO.out];exact HO5.out,by rw [HSX.out];exact HX5.out,HB5.out⟩
              case measure=>simp [intOf];omega
            · have HSO:=Hd_ (show powO l o lo (k+1)=powO l o lo k from if_neg hlo)
              generalize powO l o lo k=C at *
              generalize powX l o k=X at *
              have HC:=Hd_ (implCompose _ v X l wr ((HOX.out.sl cPr_len).all (Nat.le_refl _)) (SlE.keep HSL.out hbel) (by omega) hn)
              go_wp2_with fail
              refine HC.out.mono ?_
              rintro e w5 ⟨v5,rfl,ho5,hb5⟩
              have HX5:=Hd_ (ho5.mono hsz (Nat.le_refl _))
              have HO5:=Hd_ (own_step HOWN.out hb5)
              have HB5:=Hd_ (below_trans hbel hb5)
              clear ho5 hb5
              go_wp2_with fail
              go_roundw
              case rel=>exact ⟨k+1,by omega,by go_num,by rw [HSO.out];exact HO5.out,by rw [HSX.out];exact HX5.out,HB5.out⟩
              case measure=>simp [intOf];omega
          · obtain rfl:k=h+1:=by omega
            rw [<- HE.out] at hown
            have HO:=Hd_ hown
            obtain ⟨A9,n9,c9,rfl⟩:=hown.shape
            clear hown hox
            have hkk:¬ ((h+1:Nat):Int)<=(h:Int):=by omega
            go_wp2_with fail
            go_ret
            exact ⟨_,rfl,HO.out,hbel⟩
end Go.Proofs.Ytloeghbhoflabaa
namespace Go.Proofs.Ytloeghbhoflabaa
open Go.ChangeShapes Go.WideShapes Go.ChangeAt Go.RowKit
def evalT (g:Gr):Tr->List Pr
 | .leaf t=>if t.1=2 then identityOf (g.vals.length:Int) else if t.1=3 then letterL g t.2.1 else []
 | .un t a=>if t.1=6 then closureL (g.vals.length:Int) (evalT g a) else if t.1=7 then powerL (g.vals.length:Int) (evalT g a) t.2.2.1 t.2.2.2 else []
 | .bin t a b=>if t.1=4 then composeL (evalT g a) (evalT g b) else if t.1=5 then mergeL (evalT g a) (evalT g b) else []
theorem sq_nil:sqP []:=⟨List.Pairwise.nil,by simp⟩
theorem letter_in {g:Gr} (hg:GrOk g) {lt:Int} {p:Pr} (h:p ∈ specLet g lt):inB p.1/\inB p.2:=by
 have hn5:=hg.n5
 simp only [specLet,selfL,List.mem_append,List.mem_flatMap,List.mem_range] at h
 rcases h with ⟨x,hx,hp⟩ | ⟨e,he,hp⟩
 · unfold selfE at hp
   split at hp
   · rw [List.mem_singleton] at hp
     subst hp
     exact ⟨⟨by simp only;omega,by simp only;omega⟩,⟨by simp only;omega,by simp only;omega⟩⟩
   · cases hp
 · obtain ⟨-,⟨f0,f1⟩,⟨t0,t1⟩,-⟩:=hg.edges e he
   rcases mem_edgE.1 hp with ⟨-,rfl⟩ | ⟨-,rfl⟩
   · exact ⟨⟨f0,by simp only;omega⟩,⟨t0,by simp only;omega⟩⟩
   · exact ⟨⟨t0,by simp only;omega⟩,⟨f0,by simp only;omega⟩⟩
theorem sq_letter {g:Gr} (hg:GrOk g) (lt:Int):sqP (letterL g lt):=by
 rw [letterL]
 split
 · exact ⟨psetL_asc _,fun p hp=>letter_in hg (mem_psetL.1 hp)⟩
 · exact sq_nil
theorem sq_closure (n:Int) (l:List Pr):sqP (closureL n l):=by
 rw [closureL]
 split
 · rename_i h
   simp only [Bool.and_eq_true] at h
   exact sq_clos (sq_id n) (arePL_in h.2) 5
 · exact sq_nil
theorem sq_power (n:Int) (l:List Pr) (lo hi:Int):sqP (powerL n l lo hi):=by
 rw [powerL]
 split
 · rename_i h
   simp only [Bool.and_eq_true] at h
   exact sq_powO (sq_id n) (arePL_in h.1.1.2) lo _
 · exact sq_nil
theorem sq_eval {g:Gr} (hg:GrOk g):∀ r:Tr,sqP (evalT g r)
 | .leaf t=>by
   rw [evalT]
   split
   · exact sq_id _
   · split
     · exact sq_letter hg _
     · exact sq_nil
 | .un t a=>by
   rw [evalT]
   split
   · exact sq_closure _ _
   · split
     · exact sq_power _ _ _ _
     · exact sq_nil
 | .bin t a b=>by
   rw [evalT]
   split
   · exact sq_comp (sq_eval hg a) (sq_eval hg b).2
   · split
     · exact sq_merge (sq_eval hg a) (sq_eval hg b)
     · exact sq_nil
theorem eval_len {g:Gr} (hg:GrOk g) (r:Tr):(evalT g r).length<=25:=sq_len (sq_eval hg r)
/-- an expression: at most 24 tokens that are one tree -/
def exprOk (l:List Tok):Bool:=decide (l.length<=24) && (treeL l).isSome
def evalE (g:Gr) (l:List Tok):List Pr × Bool:=if (grOk g && exprOk l)=true then (match treeL l with | some r=>evalT g r | none=>[],true) else ([],false)
theorem evalE_len (g:Gr) (l:List Tok):(evalE g l).1.length<=25:=by
 unfold evalE
 split
 · rename_i h
   simp only [Bool.and_eq_true] at h
   simp only
   split
   · exact eval_len (grOk_iff.1 h.1) _
   · simp
 · simp
end Go.Proofs.Ytloeghbhoflabaa
namespace Go.Proofs.Ytloeghbhoflabaa
end Go.Proofs.Ytloeghbhoflabaa
namespace Go.Proofs.Ytloeghbhoflabaa
open Go.ChangeShapes Go.WideShapes Go.ChangeAt Go.RowKit
attribute [local go_sem] ext_cell ext_frozen ext_lt ext_lt1 ext_lt2 ext_lt3 ltn2 ltn3 ltn13 lts1 lts2 lts3
theorem SlI.headT {α:Type} {lo hi:Nat} {w:World} {E:α->List Value} {k n c m:Nat} {A:Option Addr} {xs ys:List α} (h:SlI lo hi w E k (.slice A n c) (xs ++ ys)) (hm:xs.length=m):SlI lo hi w E k (.slice A m c) xs:=by
 obtain ⟨A',c',hv,hl,hc,hx⟩:=h
 injection hv with h1 h2 h3
 subst h1 h3 hm
 rw [List.length_append] at hl
 refine ⟨_,c,rfl,by omega,hc,fun i x hi=>hx i x ?_⟩
 rw [List.getElem?_append_left (List.getElem?_eq_some_iff.1 hi).1]
 exact hi
theorem SlI.tailT {α:Type} {lo hi:Nat} {w:World} {E:α->List Value} {k n c m j d q o:Nat} {xs ys:List α} (h:SlI lo hi w E k (.slice (some ⟨q,o,none⟩) n c) (xs ++ ys)) (hm:xs.length=m) (hj:ys.length=j) (hd:d=c - m):SlI lo hi w E k (.slice (some ⟨q,o+m * k,none⟩) j d) ys:=by
 obtain ⟨A',c',hv,hl,hc,hx⟩:=h
 injection hv with h1 h2 h3
 subst h1 h3 hm hj hd
 rw [List.length_append] at hl
 refine ⟨_,_,rfl,by omega,by omega,fun i x hi=>?_⟩
 obtain ⟨b,o',e,g1,g2,g3⟩:=hx (xs.length+i) x (by rw [List.getElem?_append_right (by omega),Nat.add_sub_cancel_left];exact hi)
 injection e with e
 injection e with e1 e2
 subst e1 e2
 refine ⟨q,o+xs.length * k,rfl,g1,g2,fun t u hu=>?_⟩
 have:=g3 t u hu
 rw [Nat.add_mul,<- Nat.add_assoc] at this
 exact this
theorem ar_leaf {t:Tok} (h:ar t=some 0):t.1=1 ∨ t.1=2 ∨ t.1=3:=by
 unfold ar at h
 split at h
 · rename_i hk;exact hk.elim .inl (fun e=>.inr (.inl e))
 · split at h
   · rename_i hk;exact .inr (.inr hk)
   · split at h
     · split at h <;> cases h
     · split at h
       · split at h <;> cases h
       · split at h
         · split at h <;> cases h
         · cases h
set_option maxHeartbeats 1000000 in
theorem edgeOk_any (e:Ed) (n:Nat) (w:World) (hn:n<=9223372036854775807) :
 Calls Try.prog 81 #[.agg #[.int .i64 e.1,.int .i64 e.2.1,.int .i64 e.2.2.1,.int .i64 e.2.2.2],.int .i64 (n:Int)] w fun en w'=>en=.returned (.bool (edOk n e))/\Below w.heap.size w w':=by
 obtain ⟨a,b,c,d⟩:=e
 have HW:=Hd_ within_any
 unfold edOk
 simp only
 have hb0:Below w.heap.size w (w.alloc (.cells #[.int .i64 a,.int .i64 b,.int .i64 c,.int .i64 d] 111)):=(Below.refl _ _).alloc (Nat.le_refl _) _
 cases g1:wi a 1 99 with
 | false =>
   have HZ:=Hd_ g1
   go_enter Try.func81,Try.ntmps81
   go_wp2_with (go_at_call 80;refine (HW.out _ _ _ _).mono ?_;rintro e w' ⟨rfl,rfl⟩)
   go_ret
   exact ⟨rfl,hb0⟩
 | true =>
   cases g2:wi b 0 ((n:Int) - 1) with
   | false =>
     go_enter Try.func81,Try.ntmps81
     go_wp2_with (go_at_call 80;refine (HW.out _ _ _ _).mono ?_;rintro e w' ⟨rfl,rfl⟩)
     go_ret
     exact ⟨rfl,hb0⟩
   | true =>
     cases g3:wi c 0 ((n:Int) - 1) with
     | false =>
       go_enter Try.func81,Try.ntmps81
       go_wp2_with (go_at_call 80;refine (HW.out _ _ _ _).mono ?_;rintro e w' ⟨rfl,rfl⟩)
       go_ret
       exact ⟨rfl,hb0⟩
     | true =>
       go_enter Try.func81,Try.ntmps81
       go_wp2_with (go_at_call 80;refine (HW.out _ _ _ _).mono ?_;rintro e w' ⟨rfl,rfl⟩)
       go_ret
       exact ⟨rfl,hb0⟩
set_option maxHeartbeats 2000000 in
theorem implValidGraph (v:Value) (g:Gr) (w:World) (hv:GrV 0 w.heap.size w v g) :
 Calls Try.prog 47 #[v] w fun e w'=>e=.returned (.bool (grOk g))/\Below w.heap.size w w':=by
 obtain ⟨vs,es,rfl,⟨A1,c1,rfl,hl1,hm1,hx1⟩,⟨A2,c2,rfl,hl2,hm2,hx2⟩⟩:=hv
 unfold maxLen at hm1 hm2
 have hb0:Below w.heap.size w (w.alloc (.cells #[.slice A1 g.vals.length c1,.slice A2 g.edges.length c2] 36)):=(Below.refl _ _).alloc (Nat.le_refl _) _
 have HW:=Hd_ within_any
 have HX1:=Hd_ hx1
 have HX2:=Hd_ hx2
 clear hx1 hx2
 go_enter Try.func47,Try.ntmps47
 go_wp2_with fail
 go_loop [14] (fun ii=>∃ i:Nat,i<=g.vals.length/\ii=.int .i64 i/\(g.vals.take i).all (fun v=>wi v 0 2)=true) (fun ii=>g.vals.length - (intOf ii).toNat)
 case atStart=>exact ⟨0,Nat.zero_le _,rfl,rfl⟩
 case round =>
  obtain ⟨i,hi,rfl,hall⟩:=hrel
  have HA:=Hd_ hall
  clear hall
  by_cases hlt:i < g.vals.length
  · have hxi:g.vals[i]?=some g.vals[i]:=List.getElem?_eq_getElem hlt
    obtain ⟨b,o,rfl,-,hb1,hc⟩:=HX1.out i _ hxi
    generalize g.vals[i]=x at hc hxi
    have c0:=hc 0 _ rfl
    simp only [Nat.mul_one,Nat.add_zero] at c0
    have HX:=Hd_ hxi
    clear hc hxi
    cases g4:wi x 0 2 with
    | true =>
      have G4:=Hd_ g4
      go_wp2_with (go_at_call 80;refine (HW.out _ _ _ _).mono ?_;rintro e w' ⟨rfl,rfl⟩)
      go_round
      case rel=>exact ⟨i+1,by omega,by go_num,all_take_succ HX.out HA.out G4.out⟩
      case measure=>simp [intOf];omega
    | false =>
      have hfin:grOk g=false:=by
       rw [grOk,all_false_of HX.out g4]
       rfl
      have HF:=Hd_ hfin
      clear hfin
      go_wp2_with (go_at_call 80;refine (HW.out _ _ _ _).mono ?_;rintro e w' ⟨rfl,rfl⟩)
      go_ret
      exact ⟨by rw [HF.out];rfl,hb0⟩
  · obtain rfl:i=g.vals.length:=by omega
    have hallv:g.vals.all (fun v=>wi v 0 2)=true:=by have:=HA.out;rwa [List.take_length] at this
    have HV:=Hd_ hallv
    clear hallv HA
    go_wp2_with fail
    go_loopw [25] (fun ii wr=>∃ (i:Nat) (u:World),i<=g.edges.length/\ii=.int .i64 i/\(List.range i).all (edAt g.vals.length g.edges)=true/\wr=ext (w.alloc (.cells #[.slice A1 g.vals.length c1,.slice A2 g.edges.length c2] 36)) u) (fun ii _=>g.edges.length - (intOf ii).toNat)
    case atStart=>exact ⟨0,_,Nat.zero_le _,rfl,rfl,ext_self _⟩
    case round =>
     obtain ⟨i,u,hi,rfl,hall,rfl⟩:=hrel
     have HA:=Hd_ hall
     clear hall
     by_cases hlt:i < g.edges.length
     · have hxi:g.edges[i]?=some g.edges[i]:=List.getElem?_eq_getElem hlt
       obtain ⟨b,o',rfl,-,hb1,hc⟩:=HX2.out i _ hxi
       generalize g.edges[i]=x at hc hxi
       have c0:=hc 0 _ rfl
       have c1':=hc 1 _ rfl
       have c2':=hc 2 _ rfl
       have c3:=hc 3 _ rfl
       simp only [Nat.add_zero] at c0
       have HX:=Hd_ hxi
       have hlen:g.vals.length<=9223372036854775807:=by omega
       clear hc hxi
       have hgr:grOk g=((List.range g.edges.length).all (edAt g.vals.length g.edges) && wi g.vals.length 1 5 && decide (g.edges.length<=12)):=by
        rw [grOk,HV.out];rfl
       have HGR:=Hd_ hgr
       clear hgr
       cases g4:edOk g.vals.length x with
       | false =>
         have hfin:grOk g=false:=by
          rw [HGR.out,range_all_false hlt (by rw [edAt,HX.out];simp [g4])]
          rfl
         have HF:=Hd_ hfin
         clear hfin
         go_wp2_with fail
         refine wp_region_ext_lit (by kernel_rfl) (by kernel_rfl) ?_
         repeat (go_big_quiet_step ((go_at_call 81;exact Calls.ext_of (edgeOk_any x g.vals.length _ hlen))))
         refine wpQuiet_nil ?_
         rintro _ ⟨u2,rfl⟩
         go_wp2_with fail
         go_ret
         exact ⟨by rw [HF.out];rfl,below_trans hb0 (below_trans (ext_below _ _) (below_trans ((Below.refl _ _).alloc (Nat.le_refl _) _) (ext_below _ _)))⟩
       | true =>
         have G4:=Hd_ g4
         have hbx:∀ o u2,∃ z,ext ((ext (w.alloc (.cells #[.slice A1 g.vals.length c1,.slice (some ⟨b,o',none⟩) g.edges.length c2] 36)) u).alloc o) u2=ext (w.alloc (.cells #[.slice A1 g.vals.length c1,.slice (some ⟨b,o',none⟩) g.edges.length c2] 36)) z :=
          fun o u2=>ext_of (below_trans (ext_below _ _) (below_trans ((Below.refl _ _).alloc (Nat.le_refl _) _) (ext_below _ _)))
         by_cases hi0:i=0
         · subst hi0
           have hat:edAt g.vals.length g.edges 0=true:=by rw [edAt,HX.out];simp [G4.out]
           have HAT:=Hd_ hat
           clear hat
           simp only [Nat.zero_mul,Nat.add_zero,Nat.zero_add] at c0 c1' c2' c3
           go_wp2_with fail
           refine wp_region_ext_lit (by kernel_rfl) (by kernel_rfl) ?_
           repeat (go_big_quiet_step ((go_at_call 81;exact Calls.ext_of (edgeOk_any x g.vals.length _ hlen))))
           refine wpQuiet_nil ?_
           rintro _ ⟨u2,rfl⟩
           go_wp2_with fail
           go_roundw
           case rel =>
            obtain ⟨z,hz⟩:=hbx _ u2
            exact ⟨1,z,by omega,by go_num,range_all_succ HA.out HAT.out,hz⟩
           case measure=>simp [intOf];omega
         · have hi1:0 < i:=by omega
           have hxj:g.edges[i - 1]?=some g.edges[i - 1]:=List.getElem?_eq_getElem (by omega)
           obtain ⟨b9,o9,ho9,-,-,hcj⟩:=HX2.out (i - 1) _ hxj
           obtain ⟨rfl,rfl⟩:b=b9/\o'=o9:=by injection ho9 with h1;injection h1 with h1 h2;exact ⟨h1,h2⟩
           generalize g.edges[i - 1]=p at hcj hxj
           have hb1':b < w.heap.size+1:=by omega
           have p0:=hcj 0 _ rfl
           simp only [Nat.add_zero] at p0
           have HXJ:=Hd_ hxj
           have hi00:((i:Int) > 0):=by omega
           clear hcj hxj ho9
           by_cases hlt2:p.1 < x.1
           · have hat:edAt g.vals.length g.edges i=true:=by rw [edAt,HX.out];simp [G4.out,HXJ.out,hlt2]
             have hge:decide (p.1 >= x.1)=false:=by simp;omega
             have HAT:=Hd_ hat
             clear hat
             go_wp2_with fail
             have q1:IntKind.i64.wrap ((i:Int) - 1)=(i:Int) - 1:=IntWalk.i64_in _ (by omega)
             have q2:0<=(i:Int) - 1:=by omega
             have q3:(i:Int) - 1 < (g.edges.length:Int):=by omega
             have q4:((i:Int) - 1).toNat=i - 1:=by omega
             refine wp_region_ext_lit (by kernel_rfl) (by kernel_rfl) ?_
             repeat (go_big_quiet_step ((go_at_call 81;exact Calls.ext_of (edgeOk_any x g.vals.length _ hlen))))
             refine wpQuiet_nil ?_
             rintro _ ⟨u2,rfl⟩
             clear q1 q2 q3 q4
             go_wp2_with fail
             go_roundw
             case rel =>
              obtain ⟨z,hz⟩:=hbx _ u2
              exact ⟨i+1,z,by omega,by go_num,range_all_succ HA.out HAT.out,hz⟩
             case measure=>simp [intOf];omega
           · have hfin:grOk g=false:=by
              rw [HGR.out,range_all_false hlt (by rw [edAt,HX.out];simp [G4.out,HXJ.out,hi0];omega)]
              rfl
             have hge:decide (p.1 >= x.1)=true:=by simp;omega
             have HF:=Hd_ hfin
             clear hfin
             go_wp2_with fail
             have q1:IntKind.i64.wrap ((i:Int) - 1)=(i:Int) - 1:=IntWalk.i64_in _ (by omega)
             have q2:0<=(i:Int) - 1:=by omega
             have q3:(i:Int) - 1 < (g.edges.length:Int):=by omega
             have q4:((i:Int) - 1).toNat=i - 1:=by omega
             refine wp_region_ext_lit (by kernel_rfl) (by kernel_rfl) ?_
             repeat (go_big_quiet_step ((go_at_call 81;exact Calls.ext_of (edgeOk_any x g.vals.length _ hlen))))
             refine wpQuiet_nil ?_
             rintro _ ⟨u2,rfl⟩
             clear q1 q2 q3 q4
             go_wp2_with fail
             go_ret
             exact ⟨by rw [HF.out];rfl,below_trans hb0 (below_trans (ext_below _ _) (below_trans ((Below.refl _ _).alloc (Nat.le_refl _) _) (ext_below _ _)))⟩
     · obtain rfl:i=g.edges.length:=by omega
       have hgr:grOk g=(wi g.vals.length 1 5 && decide (g.edges.length<=12)):=by
        rw [grOk,HV.out,HA.out];rfl
       have HGR:=Hd_ hgr
       clear hgr HA HV
       cases g5:wi g.vals.length 1 5 with
       | false =>
         rw [g5] at HGR
         go_wp2_with (go_at_call 80;refine (HW.out _ _ _ _).mono ?_;rintro e w' ⟨rfl,rfl⟩)
         go_ret
         exact ⟨by rw [HGR.out];rfl,below_trans hb0 (ext_below _ _)⟩
       | true =>
         rw [g5] at HGR
         have HG5:=Hd_ g5
         by_cases g6:g.edges.length<=12
         · have g6':decide ((g.edges.length:Int)<=12)=true:=by simp;omega
           have hfin:grOk g=true:=by rw [HGR.out];simp [g6]
           have HF:=Hd_ hfin
           clear hfin HGR
           go_wp2_with (go_at_call 80;refine (HW.out _ _ _ _).mono ?_;rintro e w' ⟨rfl,rfl⟩)
           go_ret
           exact ⟨by rw [HF.out];rfl,below_trans hb0 (ext_below _ _)⟩
         · have g6':decide ((g.edges.length:Int)<=12)=false:=by simp;omega
           have hfin:grOk g=false:=by rw [HGR.out];simp [g6]
           have HF:=Hd_ hfin
           clear hfin HGR
           go_wp2_with (go_at_call 80;refine (HW.out _ _ _ _).mono ?_;rintro e w' ⟨rfl,rfl⟩)
           go_ret
           exact ⟨by rw [HF.out];rfl,below_trans hb0 (ext_below _ _)⟩
set_option maxHeartbeats 1000000 in
theorem l3Edge_any (A:Option Addr) (n cc:Nat) (es:Value) (e:Ed) (w:World) (hn:n<=9223372036854775807) :
 Calls Try.prog 69 #[.agg #[.slice A n cc,es],.agg #[.int .i64 e.1,.int .i64 e.2.1,.int .i64 e.2.2.1,.int .i64 e.2.2.2]] w fun en w'=>en=.returned (.bool (edOk n e))/\Below w.heap.size w w':=by
 obtain ⟨a,b,c,d⟩:=e
 have HW:=Hd_ l1In_any
 unfold edOk
 simp only
 have hb0:Below w.heap.size w ((w.alloc (.cells #[.slice A n cc,es] 36)).alloc (.cells #[.int .i64 a,.int .i64 b,.int .i64 c,.int .i64 d] 111)):=((Below.refl _ _).alloc (Nat.le_refl _) _).alloc (by simp) _
 cases g1:wi a 1 99 with
 | false =>
   have HZ:=Hd_ g1
   go_enter Try.func69,Try.ntmps69
   go_wp2_with (go_at_call 63;refine (HW.out _ _ _ _).mono ?_;rintro e w' ⟨rfl,rfl⟩)
   go_ret
   exact ⟨rfl,hb0⟩
 | true =>
   cases g2:wi b 0 ((n:Int) - 1) with
   | false =>
     go_enter Try.func69,Try.ntmps69
     go_wp2_with (go_at_call 63;refine (HW.out _ _ _ _).mono ?_;rintro e w' ⟨rfl,rfl⟩)
     go_ret
     exact ⟨rfl,hb0⟩
   | true =>
     cases g3:wi c 0 ((n:Int) - 1) with
     | false =>
       go_enter Try.func69,Try.ntmps69
       go_wp2_with (go_at_call 63;refine (HW.out _ _ _ _).mono ?_;rintro e w' ⟨rfl,rfl⟩)
       go_ret
       exact ⟨rfl,hb0⟩
     | true =>
       go_enter Try.func69,Try.ntmps69
       go_wp2_with (go_at_call 63;refine (HW.out _ _ _ _).mono ?_;rintro e w' ⟨rfl,rfl⟩)
       go_ret
       exact ⟨rfl,hb0⟩
set_option maxHeartbeats 2000000 in
theorem specValidGraph (v:Value) (g:Gr) (w:World) (hv:GrV 0 w.heap.size w v g) :
 Calls Try.prog 41 #[v] w fun e w'=>e=.returned (.bool (grOk g))/\Below w.heap.size w w':=by
 obtain ⟨vs,es,rfl,⟨A1,c1,rfl,hl1,hm1,hx1⟩,⟨A2,c2,rfl,hl2,hm2,hx2⟩⟩:=hv
 unfold maxLen at hm1 hm2
 have hb0:Below w.heap.size w (w.alloc (.cells #[.slice A1 g.vals.length c1,.slice A2 g.edges.length c2] 36)):=(Below.refl _ _).alloc (Nat.le_refl _) _
 have HW:=Hd_ l1In_any
 have HX1:=Hd_ hx1
 have HX2:=Hd_ hx2
 clear hx1 hx2
 go_enter Try.func41,Try.ntmps41
 go_wp2_with fail
 go_loop [3] (fun ii=>∃ i:Nat,i<=g.vals.length/\ii=.int .i64 i/\(g.vals.take i).all (fun v=>wi v 0 2)=true) (fun ii=>g.vals.length - (intOf ii).toNat)
 case atStart=>exact ⟨0,Nat.zero_le _,rfl,rfl⟩
 case round =>
  obtain ⟨i,hi,rfl,hall⟩:=hrel
  have HA:=Hd_ hall
  clear hall
  by_cases hlt:i < g.vals.length
  · have hxi:g.vals[i]?=some g.vals[i]:=List.getElem?_eq_getElem hlt
    obtain ⟨b,o,rfl,-,hb1,hc⟩:=HX1.out i _ hxi
    generalize g.vals[i]=x at hc hxi
    have c0:=hc 0 _ rfl
    simp only [Nat.mul_one,Nat.add_zero] at c0
    have HX:=Hd_ hxi
    clear hc hxi
    cases g4:wi x 0 2 with
    | true =>
      have G4:=Hd_ g4
      go_wp2_with (go_at_call 63;refine (HW.out _ _ _ _).mono ?_;rintro e w' ⟨rfl,rfl⟩)
      go_round
      case rel=>exact ⟨i+1,by omega,by go_num,all_take_succ HX.out HA.out G4.out⟩
      case measure=>simp [intOf];omega
    | false =>
      have hfin:grOk g=false:=by
       rw [grOk,all_false_of HX.out g4]
       rfl
      have HF:=Hd_ hfin
      clear hfin
      go_wp2_with (go_at_call 63;refine (HW.out _ _ _ _).mono ?_;rintro e w' ⟨rfl,rfl⟩)
      go_ret
      exact ⟨by rw [HF.out];rfl,hb0⟩
  · obtain rfl:i=g.vals.length:=by omega
    have hallv:g.vals.all (fun v=>wi v 0 2)=true:=by have:=HA.out;rwa [List.take_length] at this
    have HV:=Hd_ hallv
    clear hallv HA
    go_wp2_with fail
    go_loopw [4] (fun ii wr=>∃ (i:Nat) (u:World),i<=g.edges.length/\ii=.int .i64 i/\(List.range i).all (edAt g.vals.length g.edges)=true/\wr=ext (w.alloc (.cells #[.slice A1 g.vals.length c1,.slice A2 g.edges.length c2] 36)) u) (fun ii _=>g.edges.length - (intOf ii).toNat)
    case atStart=>exact ⟨0,_,Nat.zero_le _,rfl,rfl,ext_self _⟩
    case round =>
     obtain ⟨i,u,hi,rfl,hall,rfl⟩:=hrel
     have HA:=Hd_ hall
     clear hall
     by_cases hlt:i < g.edges.length
     · have hxi:g.edges[i]?=some g.edges[i]:=List.getElem?_eq_getElem hlt
       obtain ⟨b,o',rfl,-,hb1,hc⟩:=HX2.out i _ hxi
       generalize g.edges[i]=x at hc hxi
       have hb1':b < w.heap.size+1:=by omega
       have c0:=hc 0 _ rfl
       have c1':=hc 1 _ rfl
       have c2':=hc 2 _ rfl
       have c3:=hc 3 _ rfl
       simp only [Nat.add_zero] at c0
       have HX:=Hd_ hxi
       have hlen:g.vals.length<=9223372036854775807:=by omega
       clear hc hxi
       have hgr:grOk g=((List.range g.edges.length).all (edAt g.vals.length g.edges) && wi g.vals.length 1 5 && decide (g.edges.length<=12)):=by
        rw [grOk,HV.out];rfl
       have HGR:=Hd_ hgr
       clear hgr
       cases g4:edOk g.vals.length x with
       | false =>
         have hfin:grOk g=false:=by
          rw [HGR.out,range_all_false hlt (by rw [edAt,HX.out];simp [g4])]
          rfl
         have HF:=Hd_ hfin
         clear hfin
         go_wp2_with fail
         refine wp_region_ext_lit (by kernel_rfl) (by kernel_rfl) ?_
         repeat (go_big_quiet_step ((go_at_call 69;exact Calls.ext_of (l3Edge_any A1 g.vals.length c1 _ x _ hlen))))
         refine wpQuiet_nil ?_
         rintro _ ⟨u2,rfl⟩
         go_wp2_with fail
         go_ret
         exact ⟨by rw [HF.out];rfl,below_trans hb0 (below_trans (ext_below _ _) (ext_below _ _))⟩
       | true =>
         have G4:=Hd_ g4
         have hbx:∀ u2,∃ z,ext (ext (w.alloc (.cells #[.slice A1 g.vals.length c1,.slice (some ⟨b,o',none⟩) g.edges.length c2] 36)) u) u2=ext (w.alloc (.cells #[.slice A1 g.vals.length c1,.slice (some ⟨b,o',none⟩) g.edges.length c2] 36)) z :=
          fun u2=>ext_of (below_trans (ext_below _ _) (ext_below _ _))
         by_cases hi0:i=0
         · subst hi0
           have hat:edAt g.vals.length g.edges 0=true:=by rw [edAt,HX.out];simp [G4.out]
           have HAT:=Hd_ hat
           clear hat
           simp only [Nat.zero_mul,Nat.add_zero,Nat.zero_add] at c0 c1' c2' c3
           go_wp2_with fail
           refine wp_region_ext_lit (by kernel_rfl) (by kernel_rfl) ?_
           repeat (go_big_quiet_step ((go_at_call 69;exact Calls.ext_of (l3Edge_any A1 g.vals.length c1 _ x _ hlen))))
           refine wpQuiet_nil ?_
           rintro _ ⟨u2,rfl⟩
           go_wp2_with fail
           go_roundw
           case rel =>
            obtain ⟨z,hz⟩:=hbx u2
            exact ⟨1,z,by omega,by go_num,range_all_succ HA.out HAT.out,hz⟩
           case measure=>simp [intOf];omega
         · have hi1:0 < i:=by omega
           have hxj:g.edges[i - 1]?=some g.edges[i - 1]:=List.getElem?_eq_getElem (by omega)
           obtain ⟨b9,o9,ho9,-,-,hcj⟩:=HX2.out (i - 1) _ hxj
           obtain ⟨rfl,rfl⟩:b=b9/\o'=o9:=by injection ho9 with h1;injection h1 with h1 h2;exact ⟨h1,h2⟩
           generalize g.edges[i - 1]=p at hcj hxj
           have hb1':b < w.heap.size+1:=by omega
           have p0:=hcj 0 _ rfl
           simp only [Nat.add_zero] at p0
           have HXJ:=Hd_ hxj
           have hi00:((i:Int) > 0):=by omega
           clear hcj hxj ho9
           by_cases hlt2:p.1 < x.1
           · have hat:edAt g.vals.length g.edges i=true:=by rw [edAt,HX.out];simp [G4.out,HXJ.out,hlt2]
             have hge:decide (p.1 >= x.1)=false:=by simp;omega
             have HAT:=Hd_ hat
             clear hat
             go_wp2_with fail
             have q1:IntKind.i64.wrap ((i:Int) - 1)=(i:Int) - 1:=IntWalk.i64_in _ (by omega)
             have q2:0<=(i:Int) - 1:=by omega
             have q3:(i:Int) - 1 < (g.edges.length:Int):=by omega
             have q4:((i:Int) - 1).toNat=i - 1:=by omega
             refine wp_region_ext_lit (by kernel_rfl) (by kernel_rfl) ?_
             repeat (go_big_quiet_step ((go_at_call 69;exact Calls.ext_of (l3Edge_any A1 g.vals.length c1 _ x _ hlen))))
             refine wpQuiet_nil ?_
             rintro _ ⟨u2,rfl⟩
             clear q1 q2 q3 q4
             go_wp2_with fail
             go_roundw
             case rel =>
              obtain ⟨z,hz⟩:=hbx u2
              exact ⟨i+1,z,by omega,by go_num,range_all_succ HA.out HAT.out,hz⟩
             case measure=>simp [intOf];omega
           · have hfin:grOk g=false:=by
              rw [HGR.out,range_all_false hlt (by rw [edAt,HX.out];simp [G4.out,HXJ.out,hi0];omega)]
              rfl
             have hge:decide (p.1 >= x.1)=true:=by simp;omega
             have HF:=Hd_ hfin
             clear hfin
             go_wp2_with fail
             have q1:IntKind.i64.wrap ((i:Int) - 1)=(i:Int) - 1:=IntWalk.i64_in _ (by omega)
             have q2:0<=(i:Int) - 1:=by omega
             have q3:(i:Int) - 1 < (g.edges.length:Int):=by omega
             have q4:((i:Int) - 1).toNat=i - 1:=by omega
             refine wp_region_ext_lit (by kernel_rfl) (by kernel_rfl) ?_
             repeat (go_big_quiet_step ((go_at_call 69;exact Calls.ext_of (l3Edge_any A1 g.vals.length c1 _ x _ hlen))))
             refine wpQuiet_nil ?_
             rintro _ ⟨u2,rfl⟩
             clear q1 q2 q3 q4
             go_wp2_with fail
             go_ret
             exact ⟨by rw [HF.out];rfl,below_trans hb0 (below_trans (ext_below _ _) (ext_below _ _))⟩
     · obtain rfl:i=g.edges.length:=by omega
       have hgr:grOk g=(wi g.vals.length 1 5 && decide (g.edges.length<=12)):=by
        rw [grOk,HV.out,HA.out];rfl
       have HGR:=Hd_ hgr
       clear hgr HA HV
       cases g5:wi g.vals.length 1 5 with
       | false =>
         rw [g5] at HGR
         go_wp2_with (go_at_call 63;refine (HW.out _ _ _ _).mono ?_;rintro e w' ⟨rfl,rfl⟩)
         go_ret
         exact ⟨by rw [HGR.out];rfl,below_trans hb0 (ext_below _ _)⟩
       | true =>
         rw [g5] at HGR
         have HG5:=Hd_ g5
         by_cases g6:g.edges.length<=12
         · have g6':decide ((g.edges.length:Int)<=12)=true:=by simp;omega
           have hfin:grOk g=true:=by rw [HGR.out];simp [g6]
           have HF:=Hd_ hfin
           clear hfin HGR
           go_wp2_with (go_at_call 63;refine (HW.out _ _ _ _).mono ?_;rintro e w' ⟨rfl,rfl⟩)
           go_ret
           exact ⟨by rw [HF.out];rfl,below_trans hb0 (ext_below _ _)⟩
         · have g6':decide ((g.edges.length:Int)<=12)=false:=by simp;omega
           have hfin:grOk g=false:=by rw [HGR.out];simp [g6]
           have HF:=Hd_ hfin
           clear hfin HGR
           go_wp2_with (go_at_call 63;refine (HW.out _ _ _ _).mono ?_;rintro e w' ⟨rfl,rfl⟩)
           go_ret
           exact ⟨by rw [HF.out];rfl,below_trans hb0 (ext_below _ _)⟩
set_option maxHeartbeats 2000000 in
theorem implHolds (v:Value) (g:Gr) (w:World) (hv:GrV 0 w.heap.size w v g) (hg:GrOk g) (x:Nat) (a:Int) (hx:g.vals[x]?=some a) (letter:Int) :
 Calls Try.prog 107 #[v,.int .i64 (x:Int),.int .i64 letter] w fun e w'=>e=.returned (.bool (decide (letter=6+a)))/\Below w.heap.size w w':=by
 have hvo:=hv
 obtain ⟨vs,es,rfl,⟨A1,c1,rfl,hl1,hm1,hC1⟩,⟨A2,c2,rfl,hl2,hm2,hC2⟩⟩:=hv
 unfold maxLen at hm1 hm2
 have hn5:=hg.n5
 have hn1:=hg.n1
 have hxn:=(List.getElem?_eq_some_iff.1 hx).1
 have hav:=hg.vals a (List.mem_of_getElem? hx)
 have hx1:wi (x:Int) 0 ((g.vals.length:Int) - 1)=true:=wi_iff.2 ⟨by omega,by omega⟩
 obtain ⟨b,ob,rfl,-,hb1,hc⟩:=hC1 x a hx
 have c0:=hc 0 _ rfl
 simp only [Nat.mul_one,Nat.add_zero] at c0
 have hb0:Below w.heap.size w (w.alloc (.cells #[.slice (some ⟨b,ob,none⟩) g.vals.length c1,.slice A2 g.edges.length c2] 36)):=(Below.refl _ _).alloc (Nat.le_refl _) _
 have bl:=Blk.new w 36 #[.slice (some ⟨b,ob,none⟩) g.vals.length c1,.slice A2 g.edges.length c2] w.heap.size rfl
 have hvg:=implValidGraph _ g (w.alloc (.cells #[.slice (some ⟨b,ob,none⟩) g.vals.length c1,.slice A2 g.edges.length c2] 36)) (hvo.keep hb0)
 rw [grOk_iff.2 hg] at hvg
 have HVG:=Hd_ hvg
 have HB0:=Hd_ hb0
 have HBL:=Hd_ bl
 clear hvg hb0 bl hc hC1 hC2 hvo hg hx
 go_enter Try.func107,Try.ntmps107
 go_wp2_with fail
 refine HVG.out.mono ?_
 rintro e w2 ⟨rfl,hb2⟩
 have b2:=HBL.out.keep hb2
 have y0:w2.cell? ⟨w.heap.size,0,none⟩=some (.slice (some ⟨b,ob,none⟩) g.vals.length c1):=b2.cell 0
 have y1:w2.cell? ⟨w.heap.size,1,none⟩=some (.slice A2 g.edges.length c2):=b2.cell 1
 have d0:=kcell (below_trans HB0.out hb2) c0
 have HB2:=Hd_ (below_trans HB0.out hb2)
 have hz2:=b2.lt
 clear b2 hb2
 have q1:IntKind.i64.wrap ((g.vals.length:Int) - 1)=(g.vals.length:Int) - 1:=IntWalk.i64_in _ (by omega)
 go_wp2_with fail
 refine (within_any (x:Int) 0 ((g.vals.length:Int) - 1) _).mono ?_
 rintro e w3 ⟨rfl,hw⟩
 rw [hw,hx1]
 clear hw w3
 go_wp2_with fail
 refine (isLetter_any letter _).mono ?_
 rintro e w3 ⟨rfl,hw⟩
 rw [hw]
 clear hw w3
 cases gl:wi letter 0 8 with
 | false =>
   have hne:¬ letter=6+a:=fun h=>by
    have:wi letter 0 8=true:=wi_iff.2 ⟨by omega,by omega⟩
    rw [this] at gl
    cases gl
   go_wp2_with fail
   go_ret
   exact ⟨by simp [hne],HB2.out⟩
 | true =>
   obtain ⟨l0,l8⟩:=wi_iff.1 gl
   have hxx:(x:Int) < (g.vals.length:Int):=by omega
   have q2:IntKind.i64.wrap (6+a)=6+a:=IntWalk.i64_in _ (by omega)
   by_cases he:letter=6+a
   · have hq:letter=6+a:=by omega
     have HE:=Hd_ he
     clear he
     go_wp2_with fail
     go_ret
     exact ⟨by rw [decide_eq_true HE.out] <;> simp [hq],HB2.out⟩
   · have hq:¬ letter=6+a:=by omega
     go_wp2_with fail
     go_ret
     exact ⟨by simp [he,hq],HB2.out⟩
set_option maxHeartbeats 2000000 in
theorem specHolds (v:Value) (g:Gr) (w:World) (hv:GrV 0 w.heap.size w v g) (hg:GrOk g) (x:Nat) (a:Int) (hx:g.vals[x]?=some a) (letter:Int) :
 Calls Try.prog 103 #[v,.int .i64 (x:Int),.int .i64 letter] w fun e w'=>e=.returned (.bool (decide (letter=6+a)))/\Below w.heap.size w w':=by
 have hvo:=hv
 obtain ⟨vs,es,rfl,⟨A1,c1,rfl,hl1,hm1,hC1⟩,⟨A2,c2,rfl,hl2,hm2,hC2⟩⟩:=hv
 unfold maxLen at hm1 hm2
 have hn5:=hg.n5
 have hn1:=hg.n1
 have hxn:=(List.getElem?_eq_some_iff.1 hx).1
 have hav:=hg.vals a (List.mem_of_getElem? hx)
 have hx1:wi (x:Int) 0 ((g.vals.length:Int) - 1)=true:=wi_iff.2 ⟨by omega,by omega⟩
 obtain ⟨b,ob,rfl,-,hb1,hc⟩:=hC1 x a hx
 have c0:=hc 0 _ rfl
 simp only [Nat.mul_one,Nat.add_zero] at c0
 have hb0:Below w.heap.size w (w.alloc (.cells #[.slice (some ⟨b,ob,none⟩) g.vals.length c1,.slice A2 g.edges.length c2] 36)):=(Below.refl _ _).alloc (Nat.le_refl _) _
 have bl:=Blk.new w 36 #[.slice (some ⟨b,ob,none⟩) g.vals.length c1,.slice A2 g.edges.length c2] w.heap.size rfl
 have hvg:=specValidGraph _ g (w.alloc (.cells #[.slice (some ⟨b,ob,none⟩) g.vals.length c1,.slice A2 g.edges.length c2] 36)) (hvo.keep hb0)
 rw [grOk_iff.2 hg] at hvg
 have HVG:=Hd_ hvg
 have HB0:=Hd_ hb0
 have HBL:=Hd_ bl
 clear hvg hb0 bl hc hC1 hC2 hvo hg hx
 go_enter Try.func103,Try.ntmps103
 go_wp2_with fail
 refine HVG.out.mono ?_
 rintro e w2 ⟨rfl,hb2⟩
 have b2:=HBL.out.keep hb2
 have y0:w2.cell? ⟨w.heap.size,0,none⟩=some (.slice (some ⟨b,ob,none⟩) g.vals.length c1):=b2.cell 0
 have y1:w2.cell? ⟨w.heap.size,1,none⟩=some (.slice A2 g.edges.length c2):=b2.cell 1
 have d0:=kcell (below_trans HB0.out hb2) c0
 have HB2:=Hd_ (below_trans HB0.out hb2)
 have hz2:=b2.lt
 clear b2 hb2
 have q1:IntKind.i64.wrap ((g.vals.length:Int) - 1)=(g.vals.length:Int) - 1:=IntWalk.i64_in _ (by omega)
 go_wp2_with fail
 refine (l1In_any (x:Int) 0 ((g.vals.length:Int) - 1) _).mono ?_
 rintro e w3 ⟨rfl,hw⟩
 rw [hw,hx1]
 clear hw w3
 go_wp2_with fail
 refine (l1In_any letter 6 8 _).mono ?_
 rintro e w3 ⟨rfl,hw⟩
 rw [hw]
 clear hw w3
 cases gl:wi letter 6 8 with
 | false =>
   have hne:¬ letter=6+a:=fun h=>by
    have:wi letter 6 8=true:=wi_iff.2 ⟨by omega,by omega⟩
    rw [this] at gl
    cases gl
   go_wp2_with fail
   go_ret
   exact ⟨by simp [hne],HB2.out⟩
 | true =>
   obtain ⟨l0,l8⟩:=wi_iff.1 gl
   have hxx:(x:Int) < (g.vals.length:Int):=by omega
   have q2:IntKind.i64.wrap (letter - 6)=letter - 6:=IntWalk.i64_in _ (by omega)
   by_cases he:letter=6+a
   · have hq:a=letter - 6:=by omega
     have HE:=Hd_ he
     clear he
     go_wp2_with fail
     go_ret
     exact ⟨by rw [decide_eq_true HE.out] <;> simp [hq],HB2.out⟩
   · have hq:¬ a=letter - 6:=by omega
     go_wp2_with fail
     go_ret
     exact ⟨by simp [he,hq],HB2.out⟩
end Go.Proofs.Ytloeghbhoflabaa
