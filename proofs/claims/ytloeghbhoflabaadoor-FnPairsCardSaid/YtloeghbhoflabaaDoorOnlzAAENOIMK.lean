/- Parts of the proof, joined into one text: SubI, RelQ, Rec, Seat. -/
import Derived.Test.YtloeghbhoflabaaDoorOnlzJJBNAEEJ
import Derived.Lib.SliceRun
import Derived.JoinedOf
import Derived.Test.YtloeghbhoflabaaDoorRows
set_option linter.unusedVariables false
set_option linter.unusedSimpArgs false
namespace Go.Proofs.YtloeghbhoflabaaDoor
open Go.ChangeShapes Go.WideShapes Go.ChangeAt Go.RowKit
attribute [local go_sem] ext_cell ext_frozen ext_lt ext_lt1 ext_lt2 ext_lt3 ltn2 ltn3 ltn13 lts1 lts2 lts3
set_option maxHeartbeats 2000000 in
theorem indexP_any (v:Value) (l:List Pr) (p:Pr) (w:World) (hv:SlE w cPr 2 v l) :
 Calls Tryd.prog 39 #[v,.agg #[.int .i64 p.1,.int .i64 p.2]] w fun e w'=>∃ r:Int,e=.returned (.int .i64 r)/\((inP l p=true/\0<=r) ∨ (inP l p=false/\r=-1))/\Below w.heap.size w w':=by
 have hs:=hv
 obtain ⟨A,c,rfl,hl,hm,-⟩:=hv
 unfold maxLen at hm
 have HS:=Hd_ hs
 obtain ⟨pa,pb⟩:=p
 obtain ⟨R,hR⟩:∃ R,R=inP l (pa,pb):=⟨_,rfl⟩
 have HRT:=Hd_ (fun (h:((pa,pb):Pr) ∈ l)=>show R=true by rw [hR,inP];simpa using h)
 have HRF:=Hd_ (fun (h:¬ ((pa,pb):Pr) ∈ l)=>show R=false by rw [hR,inP];simpa using h)
 simp only
 rw [<- hR]
 clear hs hR
 have hb0:Below w.heap.size w (w.alloc (.cells #[.int .i64 pa,.int .i64 pb] 30)):=(Below.refl _ _).alloc (Nat.le_refl _) _
 have bZ:=Blk.new w 30 #[.int .i64 pa,.int .i64 pb] w.heap.size rfl
 go_enter Tryd.func39,Tryd.ntmps39
 go_wp2_with fail
 obtain ⟨W1,hW1⟩:∃ W1,W1=w.alloc (.cells #[.int .i64 pa,.int .i64 pb] 30):=⟨_,rfl⟩
 rw [<- hW1] at hb0 bZ ⊢
 have z0:W1.cell? ⟨w.heap.size,0,none⟩=some (.int .i64 pa):=bZ.cell 0
 have z1:W1.cell? ⟨w.heap.size,1,none⟩=some (.int .i64 pb):=bZ.cell 1
 have lz:=bZ.lt
 have HB0:=Hd_ hb0
 clear hW1 hb0 bZ
 go_loopw [8] (fun ii wr=>∃ (i:Nat) (u:World),i<=l.length/\ii=.int .i64 (i:Int)/\(∀ j q,j < i->l[j]?=some q->q ≠ ((pa,pb):Pr))/\wr=ext W1 u) (fun ii _=>l.length - (intOf ii).toNat)
 case atStart=>exact ⟨0,W1,Nat.zero_le _,rfl,fun j q hj=>by omega,ext_self _⟩
 case round =>
  obtain ⟨i,u,hi,rfl,hno,rfl⟩:=hrel
  by_cases hlt:i < l.length
  · have hxi:l[i]?=some l[i]:=List.getElem?_eq_getElem hlt
    generalize l[i]=x at hxi
    obtain ⟨b',o,rfl,⟨-,hb⟩,d0,d1⟩:=HS.out.prA hxi
    obtain ⟨xa,xb⟩:=x
    simp only at d0 d1
    have d0:=kcell HB0.out d0
    have d1:=kcell HB0.out d1
    have hbw:b' < W1.heap.size:=by omega
    have hii:(i:Int) < (l.length:Int):=by omega
    have HMEM:=Hd_ (List.mem_of_getElem? hxi)
    have HNX:=Hd_ (fun (h:((pa,pb):Pr) ≠ (xa,xb)) j q (hj:j < i+1) (hq:l[j]?=some q)=>show q ≠ ((pa,pb):Pr) from by
     rcases Nat.lt_or_ge j i with h1 | h1
     · exact hno j q h1 hq
     · obtain rfl:j=i:=by omega
       rw [hxi] at hq
       injection hq with hq
       rw [<- hq];exact fun e=>h e.symm)
    obtain ⟨bb,hbb⟩:∃ bb,bb=decide (((pa,pb):Pr)=(xa,xb)):=⟨_,rfl⟩
    have HEQ:=Hd_ (fun w=>eqlPr pa pb xa xb w)
    rw [<- hbb] at HEQ
    have HBB:=Hd_ hbb
    have heq:=HEQ.out
    clear hbb hxi hno
    cases bb with
    | true =>
      have HFN:=Hd_ (HRT.out (by have h:((pa,pb):Pr)=(xa,xb):=of_decide_eq_true HBB.out.symm;rw [h];exact HMEM.out))
      go_wp2_with fail
      refine wp_region_ext_lit (by kernel_rfl) (by kernel_rfl) ?_
      repeat (go_big_quiet_step (fail))
      refine wpQuiet_nil ?_
      rintro _ ⟨u2,rfl⟩
      have hbf:=below_trans HB0.out (below_trans (ext_below W1 u) (ext_below (ext W1 u) u2))
      go_wp2_with fail
      go_ret
      exact ⟨_,rfl,.inl ⟨HFN.out,by omega⟩,hbf⟩
    | false =>
      have HNY:=Hd_ (HNX.out (of_decide_eq_false HBB.out.symm))
      go_wp2_with fail
      refine wp_region_ext_lit (by kernel_rfl) (by kernel_rfl) ?_
      repeat (go_big_quiet_step (fail))
      refine wpQuiet_nil ?_
      rintro _ ⟨u2,rfl⟩
      obtain ⟨u4,hu4⟩:=ext_ext W1 u u2
      rw [hu4]
      clear hu4
      go_wp2_with fail
      go_roundw
      case rel=>exact ⟨i+1,u4,by omega,by go_num,HNY.out,rfl⟩
      case measure=>simp [intOf];omega
  · have HFN:=Hd_ (HRF.out (fun h=>by
     obtain ⟨j,hj⟩:=List.getElem?_of_mem h
     exact hno j _ (by have:=(List.getElem?_eq_some_iff.1 hj).1;omega) hj rfl))
    have hii:¬ (i:Int) < (l.length:Int):=by omega
    have hbf:=below_trans HB0.out (ext_below W1 u)
    clear hno
    go_wp2_with fail
    go_ret
    exact ⟨_,rfl,.inr ⟨HFN.out,rfl⟩,hbf⟩
theorem containsP_any (v:Value) (l:List Pr) (p:Pr) (w:World) (hv:SlE w cPr 2 v l) :
 Calls Tryd.prog 21 #[v,.agg #[.int .i64 p.1,.int .i64 p.2]] w fun e w'=>e=.returned (.bool (inP l p))/\Below w.heap.size w w':=by
 have hb0:Below w.heap.size w (w.alloc (.cells #[.int .i64 p.1,.int .i64 p.2] 30)):=(Below.refl _ _).alloc (Nat.le_refl _) _
 have HI:=Hd_ (indexP_any v l p _ (SlE.keep hv hb0))
 generalize inP l p=R at *
 clear hv
 go_enter Tryd.func21,Tryd.ntmps21
 go_wp2_with fail
 refine HI.out.mono ?_
 rintro e w1 ⟨r,rfl,hr,hb1⟩
 have hb2:=below_trans hb0 hb1
 rcases hr with ⟨rfl,h0⟩ | ⟨rfl,rfl⟩
 · have hd:decide (r >= 0)=true:=by simpa using h0
   go_wp2_with fail
   go_ret
   exact ⟨rfl,hb2⟩
 · go_wp2_with fail
   go_ret
   exact ⟨rfl,hb2⟩
theorem subClos (bB:Nat) (B:Option Addr) (nb cb:Nat) (b:List Pr) (p:Pr) (W:World) (y0:W.cell? ⟨bB,0,none⟩=some (.slice B nb cb)) (hvb:SlE W cPr 2 (.slice B nb cb) b) :
 Calls Tryd.prog 20 #[.agg #[.int .i64 p.1,.int .i64 p.2],.pointer (some ⟨bB,0,none⟩)] W fun e W'=>e=.returned (.bool (inP b p))/\Below W.heap.size W W':=by
 have hb0:Below W.heap.size W (W.alloc (.cells #[.int .i64 p.1,.int .i64 p.2] 30)):=(Below.refl _ _).alloc (Nat.le_refl _) _
 have HC:=Hd_ (containsP_any _ b p _ (SlE.keep hvb hb0))
 have lB:bB < W.heap.size:=World.block_lt_of_cell? _ _ y0
 generalize inP b p=R at *
 clear hvb
 go_enter Tryd.func20,Tryd.ntmps20
 go_wp2_with fail
 refine HC.out.mono ?_
 rintro e w1 ⟨rfl,hb1⟩
 have hb2:=below_trans hb0 hb1
 go_wp2_with fail
 go_ret
 exact ⟨rfl,hb2⟩
/-- slices.IndexFunc over pairs, at SubtractPairs' closure -/
theorem indexFuncP (k0:Value) (v:Value) (xs:List Pr) (p:Pr->Bool) (w:World) (hv:SlE w cPr 2 v xs)
 (hF:∀ x ∈ xs,∀ W:World,Below w.heap.size w W->Calls Tryd.prog 20 #[.agg #[.int .i64 x.1,.int .i64 x.2],k0] W fun e W'=>e=.returned (.bool (p x))/\Below W.heap.size W W') :
 Calls Tryd.prog 38 #[v,.func (Fn.func 20) #[] #[k0]] w fun e w'=>∃ r:Int,e=.returned (.int .i64 r)/\Below w.heap.size w w' /\
  ((r=-1/\∀ x ∈ xs,p x=false) ∨ ∃ (i:Nat),r=i/\i < xs.length/\p (xs.getD i (0,0))=true/\∀ y ∈ xs.take i,p y=false):=by
 obtain ⟨A,c,rfl,hl,hm,hx⟩:=hv
 unfold maxLen at hm
 have HF:=Hd_ hF
 have HX:=Hd_ hx
 clear hF hx
 go_enter Tryd.func38,Tryd.ntmps38
 go_wp2_with fail
 go_loopw [8] (fun ii wr=>∃ (i:Nat) (u:World),i<=xs.length/\ii=.int .i64 i/\(∀ y ∈ xs.take i,p y=false)/\wr=ext w u) (fun ii _=>xs.length - (intOf ii).toNat)
 case atStart=>exact ⟨0,w,Nat.zero_le _,rfl,by simp,ext_self w⟩
 case round =>
  obtain ⟨i,u,hi,rfl,hno,rfl⟩:=hrel
  have HN:=Hd_ hno
  clear hno
  by_cases hlt:i < xs.length
  · have hxi:=getP (xs:=xs) hlt
    obtain ⟨x,hx⟩:∃ x,x=xs.getD i (0,0):=⟨_,rfl⟩
    rw [<- hx] at hxi
    obtain ⟨b,o,rfl,-,hb,hc⟩:=HX.out i x hxi
    have c0:=hc 0 _ rfl
    have c1:=hc 1 _ rfl
    simp only [Nat.add_zero] at c0
    have HXI:=Hd_ hxi
    have HXE:=Hd_ hx
    clear hc hxi hx
    have hii:(i:Int) < (xs.length:Int):=by omega
    go_wp2_with fail
    refine (HF.out x (List.mem_of_getElem? HXI.out) _ (ext_below w u)).mono ?_
    rintro e w1 ⟨rfl,hb1⟩
    cases hbb:p x with
    | true =>
      have HBB:=Hd_ hbb
      clear hbb
      go_wp2_with fail
      go_ret
      exact ⟨_,rfl,below_trans (ext_below w u) hb1,.inr ⟨i,rfl,hlt,by rw [<- HXE.out];exact HBB.out,HN.out⟩⟩
    | false =>
      have HBB:=Hd_ hbb
      clear hbb
      go_wp2_with fail
      go_roundw
      case rel =>
       obtain ⟨z,hz⟩:=ext_of (below_trans (ext_below w u) hb1)
       refine ⟨i+1,z,by omega,by go_num,fun y hy=>?_,hz⟩
       rw [take_snoc HXI.out] at hy
       rcases List.mem_append.1 hy with hy | hy
       · exact HN.out y hy
       · have:y=x:=by simpa using hy
         subst this
         exact HBB.out
      case measure=>simp [intOf];omega
  · obtain rfl:i=xs.length:=by omega
    go_wp2_with fail
    go_ret
    exact ⟨_,rfl,ext_below w u,.inl ⟨rfl,fun x hx=>HN.out x (by rw [List.take_length];exact hx)⟩⟩
set_option maxHeartbeats 4000000 in
set_option maxRecDepth 100000 in
theorem deleteFuncP (k0 v:Value) (lo:Nat) (xs:List Pr) (p:Pr->Bool) (w:World) (hv:Own lo w.heap.size w 30 cPr 2 v xs) (hn:xs.length<=1048576)
 (hF:∀ x ∈ xs,∀ W:World,Only lo w.heap.size w W->Calls Tryd.prog 20 #[.agg #[.int .i64 x.1,.int .i64 x.2],k0] W fun e W'=>e=.returned (.bool (p x))/\Below W.heap.size W W') :
 Calls Tryd.prog 19 #[v,.func (Fn.func 20) #[] #[k0]] w fun e w'=>∃ v',e=.returned v'/\Own lo w'.heap.size w' 30 cPr 2 v' (xs.filter fun x=>!p x)/\Only lo w.heap.size w w':=by
 have hif:=indexFuncP k0 v xs p w ((hv.sl cPr_len).all (Nat.le_refl _)) (fun x hx W hW=>hF x hx W (Only.of_below hW _ _))
 obtain ⟨A,n,c,rfl⟩:=hv.shape
 have hnn:n=xs.length:=by
  obtain ⟨A',c',h1,_⟩:=hv.sl cPr_len
  injection h1
 subst hnn
 have HV:=Hd_ hv
 have HF:=Hd_ hF
 have HIF:=Hd_ hif
 clear hv hF hif
 obtain ⟨R,hR⟩:∃ R,R=xs.filter fun x=>!p x:=⟨_,rfl⟩
 rw [<- hR]
 have HR:=Hd_ hR
 clear hR
 go_enter Tryd.func19,Tryd.ntmps19
 go_wp2_with fail
 refine HIF.out.mono ?_
 rintro e w1 ⟨r,rfl,hb1,hr⟩
 rcases hr with ⟨rfl,hno⟩ | ⟨i0,rfl,hi0,hp0,hno⟩
 · have hfin:R=xs:=by
    rw [HR.out]
    exact List.filter_eq_self.2 fun x hx=>by rw [hno x hx];rfl
   have HFN:=Hd_ hfin
   clear hno hfin
   go_wp2_with fail
   go_ret
   exact ⟨_,rfl,by rw [HFN.out];exact (HV.out.below hb1 (Nat.le_refl _)).mono (Nat.le_refl _) hb1.size,Only.of_below hb1 _ _⟩
 · have hrow0:=ownsRow_below HV.out.1 hb1 (Nat.le_refl _)
   obtain ⟨g,cap,hv2,hg1,hg2,hcap,hcm⟩:=own_some HV.out.1 (by omega)
   injection hv2 with e1 _ e3
   subst e1 e3
   have hon1:=Only.of_below hb1 lo w.heap.size
   have hst:(xs.take (i0+1)).filter (fun x=>!p x)=xs.take i0:=by
    rw [take_snoc (getP hi0),List.filter_append]
    have h1:(xs.take i0).filter (fun x=>!p x)=xs.take i0:=List.filter_eq_self.2 fun x hx=>by rw [hno x hx];rfl
    have h2:[xs.getD i0 (0,0)].filter (fun x=>!p x)=[]:=by simp only [List.filter_cons,hp0];rfl
    rw [h1,h2,List.append_nil]
   have HROW0:=Hd_ hrow0
   have HST:=Hd_ hst
   have HON1:=Hd_ hon1
   have hi0z:((i0:Int)==-1)=false:=by simp only [beq_eq_false_iff_ne,ne_eq];omega
   obtain ⟨N,hN⟩:∃ N,N=xs.length:=⟨_,rfl⟩
   rw [<- hN] at hn hi0 hcap HROW0 ⊢
   have HN:=Hd_ hN
   clear hrow0 hst hon1 hb1 hp0 hno hN
   go_wp2_with fail
   go_loopw [5,6] (fun ii jj wr=>∃ (i j:Nat) (L:List Pr),i < j/\j<=N/\ii=.int .i64 (i:Int)/\jj=.int .i64 (j:Int)/\L.length=N/\L.take i=(xs.take j).filter (fun x=>!p x)/\L.drop j=xs.drop j /\
    wr.ownsRow lo 30 2 (.slice (some ⟨g,0,none⟩) N c) N (L.flatMap cPr)/\Only lo w.heap.size w wr) (fun _ jj _=>N - (intOf jj).toNat)
   case atStart=>exact ⟨i0,i0+1,xs,by omega,by omega,rfl,by go_num,HN.out.symm,HST.out.symm,rfl,HROW0.out,HON1.out⟩
   case round =>
    clear HROW0 HON1 HST
    obtain ⟨i,j,L,hij,hj,rfl,rfl,hLn,hLt,hLd,hrow,hon⟩:=hrel
    have HLN:=Hd_ hLn
    have HLT:=Hd_ hLt
    have HLD:=Hd_ hLd
    have HROW:=Hd_ hrow
    have HON:=Hd_ hon
    have hsz:=hon.size
    clear hLn hLt hLd hrow hon
    by_cases hlt:j < N
    · have hxj:=getP (xs:=xs) (i:=j) (by have:=HN.out;omega)
      have hLj:L[j]?=some (xs.getD j (0,0)):=by
       have h:=congrArg (fun l=>l[0]?) HLD.out
       simp only [List.getElem?_drop,Nat.add_zero] at h
       rw [h,hxj]
      obtain ⟨a0,a1⟩:=flatP_at hLj
      have cj0:=(World.ownsRow.cellAt HROW.out (j * 2) (by omega)).trans a0
      have cj1:=(World.ownsRow.cellAt HROW.out (j * 2+1) (by omega)).trans a1
      have hxm:=List.mem_of_getElem? hxj
      have HXJ:=Hd_ hxj
      have hLi:=getP (xs:=L) (i:=i) (by have:=HLN.out;omega)
      obtain ⟨g0,g1⟩:=flatP_at hLi
      have HG0:=Hd_ g0
      have HG1:=Hd_ g1
      have hgw:g < wr.heap.size:=by omega
      have HXM:=Hd_ hxm
      clear hxj hLj hxm hLi a0 a1 g0 g1
      generalize hxe:xs.getD j (0,0)=x at *
      generalize L.getD i (0,0)=old at *
      have hjj:(j:Int) < (N:Int):=by omega
      have hii:(i:Int) < (N:Int):=by omega
      obtain ⟨xa,xb⟩:=x
      simp only at cj0 cj1
      clear hxe
      have hbX:Below wr.heap.size wr (wr.alloc (.cells #[.int .i64 xa,.int .i64 xb] 30)):=(Below.refl _ _).alloc (Nat.le_refl _) _
      have bX:=Blk.new wr 30 #[.int .i64 xa,.int .i64 xb] wr.heap.size rfl
      have HBX:=Hd_ hbX
      have HBV:=Hd_ bX
      clear hbX bX
      go_wp2_with fail
      refine (HF.out (xa,xb) HXM.out _ (HON.out.trans (Only.of_below HBX.out lo w.heap.size))).mono ?_
      rintro e w2 ⟨rfl,hb2⟩
      have hbW:=below_trans HBX.out hb2
      have hrow2:=ownsRow_below HROW.out hbW (Nat.le_refl _)
      have bX:=HBV.out.keep hb2
      have q0:w2.cell? ⟨wr.heap.size,0,none⟩=some (.int .i64 xa):=bX.cell 0
      have q1:w2.cell? ⟨wr.heap.size,1,none⟩=some (.int .i64 xb):=bX.cell 1
      have lq:=bX.lt
      have hon2:=HON.out.trans (Only.of_below hbW lo w.heap.size)
      have hs2:=hbW.size
      clear bX
      cases hpx:p (xa,xb) with
      | true =>
        have hflt:(xs.take (j+1)).filter (fun x=>!p x)=(xs.take j).filter (fun x=>!p x):=by
         rw [take_snoc HXJ.out,List.filter_append]
         have h2:[((xa,xb):Pr)].filter (fun x=>!p x)=[]:=by simp only [List.filter_cons,hpx];rfl
         rw [h2,List.append_nil]
        have HROW2:=Hd_ hrow2
        have HON2:=Hd_ hon2
        have HFL:=Hd_ hflt
        have HD1:=Hd_ (show L.drop (j+1)=xs.drop (j+1) by rw [<- List.drop_drop,HLD.out,List.drop_drop])
        clear hrow2 hon2 hflt hpx hb2 hbW
        go_wp2_with fail
        go_roundw
        case rel=>exact ⟨i,j+1,L,by omega,by omega,rfl,by go_num,HLN.out,by rw [HFL.out];exact HLT.out,HD1.out,HROW2.out,HON2.out⟩
        case measure=>simp [intOf];omega
      | false =>
        have hflt:(xs.take (j+1)).filter (fun x=>!p x)=(xs.take j).filter (fun x=>!p x) ++ [(xa,xb)]:=by
         rw [take_snoc HXJ.out,List.filter_append]
         have h2:[((xa,xb):Pr)].filter (fun x=>!p x)=[(xa,xb)]:=by simp only [List.filter_cons,hpx];rfl
         rw [h2]
        have ci0:=(World.ownsRow.cellAt hrow2 (i * 2) (by omega)).trans HG0.out
        have ci1:=(World.ownsRow.cellAt hrow2 (i * 2+1) (by omega)).trans HG1.out
        have fi0:=World.ownsRow.frozenAt hrow2 (i * 2)
        have fi1:=World.ownsRow.frozenAt hrow2 (i * 2+1)
        have hrow3:=(World.ownsRow.stored (World.ownsRow.stored hrow2 (i * 2) (.int .i64 xa)).1 (i * 2+1) (.int .i64 xb)).1
        rw [flatP_set L i (xa,xb) (by have:=HLN.out;omega)] at hrow3
        have hon3:=(hon2.setCell (p:=⟨g,i * 2,none⟩) (.inl ⟨hg1,hg2⟩) (.int .i64 xa)).setCell (p:=⟨g,i * 2+1,none⟩) (.inl ⟨hg1,hg2⟩) (.int .i64 xb)
        have HROW2:=Hd_ hrow3
        have HON2:=Hd_ hon3
        have HFL:=Hd_ hflt
        have hlen:(L.set i (xa,xb)).length=N:=by rw [List.length_set];exact HLN.out
        have ht1:(L.set i (xa,xb)).take (i+1)=L.take i ++ [(xa,xb)]:=by
         have h1:(L.set i (xa,xb))[i]?=some (xa,xb):=List.getElem?_set_self (by have:=HLN.out;omega)
         rw [take_snoc h1,List.take_set,List.set_eq_of_length_le (by rw [List.length_take];omega)]
        have hd1:(L.set i (xa,xb)).drop (j+1)=xs.drop (j+1):=by
         rw [List.drop_set_of_lt (by omega),<- List.drop_drop,HLD.out,List.drop_drop]
        have HLN2:=Hd_ hlen
        have HT1:=Hd_ ht1
        have HD1:=Hd_ hd1
        have hgw2:g < w2.heap.size:=by omega
        clear hrow2 hon2 hrow3 hon3 hflt hpx hb2 hlen ht1 hd1 hbW
        go_wp2_with fail
        go_roundw
        case rel=>exact ⟨i+1,j+1,L.set i (xa,xb),by omega,by omega,by go_num,by go_num,HLN2.out,by rw [HFL.out,HT1.out,HLT.out],HD1.out,HROW2.out,HON2.out⟩
        case measure=>simp [intOf];omega
    · obtain rfl:j=N:=by omega
      have hci2:¬ c=i:=by omega
      have hcl:∀ ty,(Builtin.clear_ #[24] ty #[.slice (some ⟨g,i * 2,none⟩) (j - i) (c - i)]).run Tryd.prog wr=.ok (.tuple #[]) (wr.setCells g (i * 2) (Builtin.zeroCells #[.int .i64 0,.int .i64 0] (j - i)).toList) :=
       fun ty=>clear_pairs wr ty g (i * 2) (j - i) (c - i) (by omega) (fun t ht=>by
        rw [World.ownsRow.cellAt HROW.out (i * 2+t) (by omega),List.getElem?_eq_getElem (by rw [flatP_len];have:=HLN.out;omega)];rfl) (fun t ht=>World.ownsRow.frozenAt HROW.out (i * 2+t))
      obtain ⟨cs',h1,h2,h3⟩:=setCells_ownP (Builtin.zeroCells #[.int .i64 0,.int .i64 0] (j - i)).toList (i * 2) _ _ HROW.out
      have h4:=ownsRow_take h1 (show i<=j by omega)
      have hfin:R=L.take i:=by rw [HR.out,HLT.out,HN.out,List.take_length]
      rw [h2,flatP_take,<- hfin] at h4
      have hRl:R.length=i:=by rw [hfin,List.length_take];have:=HLN.out;omega
      have HOWN:=Hd_ h4
      have HRL:=Hd_ hRl
      have HON2:=Hd_ (HON.out.trans (h3.mono hg1 (show g+1<=w.heap.size by omega)))
      have hcz:(i:Int)<=(j:Int):=by omega
      have hcz2:(i:Int)<=(c:Int):=by omega
      clear h1 h2 h3 h4 hfin hRl
      go_wp2_with fail
      go_ret
      exact ⟨_,rfl,Own.of_row HOWN.out HRL.out rfl,HON2.out⟩
set_option maxHeartbeats 4000000 in
set_option maxRecDepth 100000 in
theorem implSubtract (va vb:Value) (a b:List Pr) (w:World) (hva:SlE w cPr 2 va a) (hvb:SlE w cPr 2 vb b) (hna:a.length<=1048576) :
 Calls Tryd.prog 7 #[va,vb] w fun e w'=>∃ v',e=.returned v'/\Own w.heap.size w'.heap.size w' 30 cPr 2 v' (subL a b)/\Below w.heap.size w w':=by
 have hsb:=hvb
 obtain ⟨B,cb,rfl,hlb,hmb,-⟩:=hvb
 have hb0:Below w.heap.size w (w.alloc (.cells #[.slice B b.length cb] 24)):=(Below.refl _ _).alloc (Nat.le_refl _) _
 have bZ:=Blk.new w 24 #[.slice B b.length cb] w.heap.size rfl
 have HPS:=Hd_ (pairSet_any va a _ (SlE.keep hva hb0) (by omega))
 have hsub:=subL_pset a b
 obtain ⟨R,hR⟩:∃ R,R=subL a b:=⟨_,rfl⟩
 rw [<- hR] at hsub ⊢
 have hpl:=psetL_len a
 have HSUB:=Hd_ hsub
 have HSB:=Hd_ hsb
 have HB0:=Hd_ hb0
 have HZ:=Hd_ bZ
 generalize psetL a=PA at *
 clear hva hsb hb0 bZ hsub hR
 go_enter Tryd.func7,Tryd.ntmps7
 go_wp2_with fail
 refine HPS.out.mono ?_
 rintro e w1 ⟨v1,rfl,ho1,hb1⟩
 have hbz:=HZ.out.keep hb1
 have hs0:w.heap.size+1<=w1.heap.size:=by have:=hb1.size;simp at this;omega
 have hbw:=below_trans HB0.out hb1
 have HDF:=Hd_ (deleteFuncP (.pointer (some ⟨w.heap.size,0,none⟩)) v1 (w.heap.size+1) PA (inP b) w1 (ho1.mono (by simp) (Nat.le_refl _)) (by omega) (fun x _ W hW=>by
  have hz:=hbz.only hW (.inl (Nat.lt_succ_self _))
  exact subClos w.heap.size B b.length cb b x W (hz.cell 0) (((SlI.below HSB.out hbw (Nat.le_refl _)).only hW hbw.size (.inl (Nat.le_succ _))).mono (Nat.le_refl _) (Nat.le_trans hbw.size hW.size))))
 rw [HSUB.out] at HDF
 have HBW:=Hd_ hbw
 clear ho1 hb1 hbz hbw
 go_wp2_with fail
 refine HDF.out.mono ?_
 rintro e w2 ⟨v2,rfl,ho2,hon2⟩
 have hbf:=HBW.out.trans (hon2.below (show w.heap.size<=w.heap.size+1 by omega) HBW.out.size)
 have HO:=Hd_ (ho2.mono (show w.heap.size<=w.heap.size+1 by omega) (Nat.le_refl _))
 clear ho2 hon2
 go_wp2_with fail
 go_ret
 exact ⟨_,rfl,HO.out,hbf⟩
end Go.Proofs.YtloeghbhoflabaaDoor
namespace Go.Proofs.YtloeghbhoflabaaDoor
open Go.ChangeShapes Go.WideShapes Go.ChangeAt Go.RowKit
theorem mem_subL {a b:List Pr} {p:Pr}:p ∈ subL a b ↔ p ∈ a/\p ∉ b:=by
 rw [subL,mem_psetL,List.mem_filter,inP]
 simp
theorem subL_nil {a b:List Pr} (h:∀ p ∈ a,p ∈ b):subL a b=[]:=List.eq_nil_iff_forall_not_mem.2 fun p hp=>(mem_subL.1 hp).2 (h p (mem_subL.1 hp).1)
theorem subL_some {a b:List Pr} {p:Pr} (h:p ∈ a) (h2:p ∉ b):0 < (subL a b).length:=List.length_pos_of_mem (mem_subL.2 ⟨h,h2⟩)
theorem mem_mergeL {a b:List Pr} {p:Pr}:p ∈ mergeL a b ↔ p ∈ a ∨ p ∈ b:=by rw [mergeL,mem_psetL,List.mem_append]
theorem merge_left (a b:List Pr):subL a (mergeL a b)=[]:=subL_nil fun p hp=>mem_mergeL.2 (.inl hp)
theorem merge_right (a b:List Pr):subL b (mergeL a b)=[]:=subL_nil fun p hp=>mem_mergeL.2 (.inr hp)
theorem sub_part (a b:List Pr):subL (subL a b) a=[]:=subL_nil fun p hp=>(mem_subL.1 hp).1
theorem sub_each {a b:List Pr} {p:Pr} (h:p ∈ subL a b):subL [p] a=[]/\0 < (subL [p] b).length:=by
 obtain ⟨h1,h2⟩:=mem_subL.1 h
 exact ⟨subL_nil fun q hq=>by rw [List.mem_singleton] at hq;exact hq ▸ h1,subL_some List.mem_cons_self h2⟩
theorem merge_sub (a b:List Pr):mergeL (subL a b) b=mergeL a b:=psetL_of fun p=>by
 rw [List.mem_append,List.mem_append,mem_subL]
 constructor
 · rintro (⟨h,-⟩ | h)
   · exact .inl h
   · exact .inr h
 · rintro (h | h)
   · by_cases hb:p ∈ b
     · exact .inr hb
     · exact .inl ⟨h,hb⟩
   · exact .inr h
end Go.Proofs.YtloeghbhoflabaaDoor
namespace Go.Proofs.YtloeghbhoflabaaDoor
theorem seat_mayEnter:Tryd.pinned.checked.prog.mayEnter=true:=by kernel_rfl
theorem seat_lifts:Tryd.pinned.checked.prog.liftsFinal=false:=by kernel_rfl
theorem seat_laidOut:laidOutB Tryd.pinned.checked.prog=true:=by kernel_rfl
theorem seat_mapsRowed:mapsRowed Tryd.pinned.checked.prog=true:=by kernel_rfl
end Go.Proofs.YtloeghbhoflabaaDoor
