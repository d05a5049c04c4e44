/- Parts of the proof, joined into one text: FarS, AmbS, CntR, AutI, SetI, IsW, PosX, CntW, TwMap, TwnG. -/
import Derived.Test.YthnapjodmndlaaaOnlzDPOMHOLA
import Derived.Test.YthnapjodmndlaaaOnlzDNHGMCJG
import Derived.Test.YthnapjodmndlaaaOnlzALIKEGPF
import Derived.Test.YthnapjodmndlaaaOnlzDGFIJDJD
import Derived.Maps.OwnSet
import Derived.Maps.Views
import Derived.DeepKeys4
set_option linter.unusedVariables false
set_option linter.unusedSimpArgs false
namespace Go.Proofs.Ythnapjodmndlaaa
open Go.ChangeShapes Go.WideShapes Go.ChangeAt Go.RowKit
attribute [local go_sem] ext_cell ext_frozen ext_lt ext_lt1 ext_lt2 ext_lt3 ltn2 ltn3 ltn13 lts1 lts2 lts3
set_option maxRecDepth 100000 in
set_option maxHeartbeats 8000000 in
theorem specFar (v vl ve:Value) (p:Pz) (w:World) (hv:PzV 0 w.heap.size w v p) (hok:pzOk p=true) (hl:SlE w cNt 5 vl (endT p)) (he:SlE w cEg 3 ve (edsT p)) :
 Calls Try.prog 28 #[v,vl,ve] w fun e w'=>∃ vf F,e=.returned vf/\Own w.heap.size w'.heap.size w' 3 cI 1 vf F/\FarI (prsT p) (goalT p) (endT p).length F/\(∀ i,i < (endT p).length->F.getD i 0=dT p i)/\Below w.heap.size w w':=by
 have HV:=Hd_ hv
 have HOK:=Hd_ hok
 have h20:=(pz_facts hok).1
 have H20:=Hd_ h20
 have HL:=Hd_ hl
 have HE:=Hd_ he
 obtain ⟨vq,vf,rfl,h1,h2⟩:=hv
 obtain ⟨A,n1,c,rfl⟩:=h1.shape
 obtain ⟨B,n2,c2,rfl⟩:=h2.shape
 obtain ⟨A3,c3,rfl,hl3,hm3,-⟩:=hl
 obtain ⟨A4,c4,rfl,hl4,hm4,-⟩:=he
 unfold maxLen at hm3 hm4
 have hN882:(endT p).length<=882:=by rw [endT];exact allT_len h20 882
 have hNpos:0 < (endT p).length:=(List.getElem?_eq_some_iff.1 (endT_start p)).1
 have HFO:=Hd_ (farZ_ok p)
 obtain ⟨N,hN⟩:∃ N,N=(endT p).length:=⟨_,rfl⟩
 obtain ⟨EL,hEL⟩:∃ EL,EL=(edsT p).length:=⟨_,rfl⟩
 rw [<- hN] at hl3 hN882 hNpos HL HFO ⊢
 rw [<- hEL] at hl4 HE ⊢
 have HN:=Hd_ hN
 have HEL:=Hd_ hEL
 have HAC:=Hd_ (fun (s:Nat) (W:World) (h:Below w.heap.size w W) (hs:s < 2 ^ 21)=>specAccepts _ p s W (HV.out.keep h) HOK.out hs)
 have HAB:=Hd_ (fun (s:Nat) (W:World) (b:Bool) (h:Below w.heap.size w W) (hs:s < 2 ^ 21) (hb:b=accP p s)=>show Calls Try.prog 44 #[.agg #[.slice A n1 c,.int .i64 p.first,.int .i64 p.last,.slice B n2 c2,.bool p.nul],.int .i64 (s:Int)] W fun e w'=>e=.returned (.bool b)/\Below W.heap.size W w' by rw [hb];exact HAC.out s W h hs)
 obtain ⟨W0,hW0⟩:∃ W0,W0=w.alloc (.cells #[.slice A n1 c,.int .i64 p.first,.int .i64 p.last,.slice B n2 c2,.bool p.nul] 27):=⟨_,rfl⟩
 have hbp:Blk W0 w.heap.size 27 #[.slice A n1 c,.int .i64 p.first,.int .i64 p.last,.slice B n2 c2,.bool p.nul]:=by rw [hW0];exact Blk.new _ _ _ _ rfl
 have hb0:Below w.heap.size w W0:=by rw [hW0];exact (Below.refl _ _).alloc (Nat.le_refl _) _
 have hsz:W0.heap.size=w.heap.size+1:=by rw [hW0];simp
 have HBP:=Hd_ hbp
 have HB0:=Hd_ hb0
 clear h1 h2 hok hN hEL hbp hb0 h20
 go_enter Try.func28,Try.ntmps28
 go_upto_region 1 with fail
 rw [<- hW0]
 clear hW0
 have hs0:w.heap.size+1<=W0.heap.size:=by omega
 have hst:(W0.alloc (.cells #[] 3)).ownsRow (w.heap.size+1) 3 1 (.slice (some ⟨w.heap.size+1,0,none⟩) 0 0) (farZ p 0).length ((farZ p 0).flatMap cI):=by
  have h:=World.ownsRow_lit (base:=w.heap.size+1) (e:=3) (size:=1) W0 #[] 0 hs0 (by decide) rfl
  rw [hsz] at h
  exact h
 have HST:=Hd_ hst
 clear hst
 go_wp2_with fail
 go_loopw [7,8,9] (fun ff kk _ wr=>∃ k:Nat,k<=N/\kk=.int .i64 (k:Int)/\wr.ownsRow (w.heap.size+1) 3 1 ff (farZ p k).length ((farZ p k).flatMap cI)/\Below (w.heap.size+1) W0 wr) (fun _ kk _ _=>N - (intOf kk).toNat)
 case atStart=>exact ⟨0,Nat.zero_le _,rfl,HST.out,(Below.refl _ _).alloc hs0 _⟩
 case round =>
  clear HST
  obtain ⟨k,hk,rfl,hrow,hbel⟩:=hrel
  obtain ⟨wk,rfl⟩:∃ wk:World,wk=wr:=⟨_,rfl⟩
  have HROW:=Hd_ hrow
  have HBEL:=Hd_ hbel
  by_cases hlt:k < N
  · have hki:(k:Int) < (N:Int):=by omega
    have hat:(endT p)[k]?=some (twnA p k):=by rw [twnA,List.getD_eq_getElem?_getD,List.getElem?_eq_getElem (by rw [<- HN.out];exact hlt)];rfl
    have HZS:=Hd_ (farZ_succ hat)
    have HZL:=Hd_ (farZ_len p (k:=k) (by rw [<- HN.out];exact hk))
    have hlow:(twnA p k).1<=20/\(twnA p k).2.1<=20:=by
     have h1:=List.mem_of_getElem? hat
     rw [endT] at h1
     exact allT_low (i:=882) H20.out h1
    obtain ⟨b1,o1,rfl,hb1,d0,d1,d2⟩:=HL.out.nt hat
    have hbw:=HB0.out.trans (hbel.mono (show w.heap.size<=w.heap.size+1 by omega))
    have d0:=kcell hbw d0
    have d1:=kcell hbw d1
    have d2:=kcell hbw d2
    obtain ⟨⟨ta,tb,td⟩,ht⟩:∃ t,t=twnA p k:=⟨_,rfl⟩
    rw [<- ht] at d0 d1 d2 hlow HZS
    simp only at d0 d1 d2
    have hbp:Blk wk w.heap.size 27 #[.slice A n1 c,.int .i64 p.first,.int .i64 p.last,.slice B n2 c2,.bool p.nul]:=(hbel.block w.heap.size (by omega)).trans HBP.out
    have x0:wk.cell? ⟨w.heap.size,0,none⟩=some (.slice A n1 c):=by exact hbp.cell 0
    have x1:wk.cell? ⟨w.heap.size,1,none⟩=some (.int .i64 p.first):=by exact hbp.cell 1
    have x2:wk.cell? ⟨w.heap.size,2,none⟩=some (.int .i64 p.last):=by exact hbp.cell 2
    have x3:wk.cell? ⟨w.heap.size,3,none⟩=some (.slice B n2 c2):=by exact hbp.cell 3
    have x4:wk.cell? ⟨w.heap.size,4,none⟩=some (.bool p.nul):=by exact hbp.cell 4
    have hl0:=hbp.lt
    have hl1:b1 < wk.heap.size:=by omega
    have hba:bit ta < 2 ^ 21:=Nat.pow_lt_pow_right (by decide) (by have:=hlow.1;simp only at this;omega)
    have hbb:bit tb < 2 ^ 21:=Nat.pow_lt_pow_right (by decide) (by have:=hlow.2;simp only at this;omega)
    have hsa:=shl_bit2 (s:=ta) (by have:=hlow.1;simp only at this;omega)
    have hsb:=shl_bit2 (s:=tb) (by have:=hlow.2;simp only at this;omega)
    have hsa3:=shl_bit3 (s:=ta) (by have:=hlow.1;simp only at this;omega)
    have hsb3:=shl_bit3 (s:=tb) (by have:=hlow.2;simp only at this;omega)
    have HBW:=Hd_ hbw
    have hsB:=hbel.size
    obtain ⟨qa,hqa⟩:∃ q,q=accP p (bit ta):=⟨_,rfl⟩
    obtain ⟨qb,hqb⟩:∃ q,q=accP p (bit tb):=⟨_,rfl⟩
    have HG:=Hd_ (show twnG p (ta,tb,td)=(td && (qa && qb)) by rw [hqa,hqb];rfl)
    obtain ⟨D,hD⟩:∃ D,D=farZ p k:=⟨_,rfl⟩
    rw [<- hD] at HROW HZL HZS
    have HQA:=Hd_ hqa
    have HQB:=Hd_ hqb
    clear hrow hbel hat ht hbw hbp hlow hD hqa hqb
    have qb1:(D.length+1) * 8<=140737488355328:=by have:=HZL.out;omega
    cases td with
    | false =>
      go_upto_region 6 with fail
      refine wp_region_ext_lit (by kernel_rfl) (by kernel_rfl) ?_
      repeat (go_big_quiet_step ((fail)))
      refine wpQuiet_nil ?_
      rintro _ ⟨u2,rfl⟩
      have HROW2:=Hd_ (ownsRow_below HROW.out (ext_below wk u2) (Nat.le_refl _))
      have HBEL2:=Hd_ (HBEL.out.trans ((ext_below wk u2).mono (show w.heap.size+1<=wk.heap.size by omega)))
      have HZ2:=Hd_ (show farZ p (k+1)=D ++ [-1] by rw [HZS.out,HG.out];rfl)
      have qb2:w.heap.size+1<=(ext wk u2).heap.size:=Nat.le_trans hs0 HBEL2.out.size
      generalize ext wk u2=w2 at *
      clear d0 d1 d2 x0 x1 x2 x3 x4 hsa hsb hsa3 hsb3
      go_wp2_with (at_builtin;(refine wpList_append1 cI elInt rfl _ _ rfl (w.heap.size+1) _ D (-1) _ 1 _ (by rfl) HROW2.out (by rfl) rfl rfl rfl (cI_one _) qb1 (by decide) qb2 ?_);intro v8 w8 hrow8 hb8 _ _)
      go_roundw
      case rel=>exact ⟨k+1,by omega,by go_num,by rw [HZ2.out];exact hrow8,HBEL2.out.trans hb8⟩
      case measure=>simp [intOf];omega
    | true =>
      cases qa with
      | false =>
        go_upto_region 6 with fail
        refine wp_region_ext_lit (by kernel_rfl) (by kernel_rfl) ?_
        repeat (go_big_quiet_step ((go_at_call 44;exact Calls.ext_of (HAB.out _ _ _ (below_trans HBW.out (ext_below _ _)) (by first | exact hba | exact hbb) (by first | exact HQA.out | exact HQB.out)))))
        refine wpQuiet_nil ?_
        rintro _ ⟨u2,rfl⟩
        have HROW2:=Hd_ (ownsRow_below HROW.out (ext_below wk u2) (Nat.le_refl _))
        have HBEL2:=Hd_ (HBEL.out.trans ((ext_below wk u2).mono (show w.heap.size+1<=wk.heap.size by omega)))
        have HZ2:=Hd_ (show farZ p (k+1)=D ++ [-1] by rw [HZS.out,HG.out];rfl)
        have qb2:w.heap.size+1<=(ext wk u2).heap.size:=Nat.le_trans hs0 HBEL2.out.size
        generalize ext wk u2=w2 at *
        clear d0 d1 d2 x0 x1 x2 x3 x4 hsa hsb hsa3 hsb3
        go_wp2_with (at_builtin;(refine wpList_append1 cI elInt rfl _ _ rfl (w.heap.size+1) _ D (-1) _ 1 _ (by rfl) HROW2.out (by rfl) rfl rfl rfl (cI_one _) qb1 (by decide) qb2 ?_);intro v8 w8 hrow8 hb8 _ _)
        go_roundw
        case rel=>exact ⟨k+1,by omega,by go_num,by rw [HZ2.out];exact hrow8,HBEL2.out.trans hb8⟩
        case measure=>simp [intOf];omega
      | true =>
        cases qb with
        | false =>
          go_upto_region 6 with fail
          refine wp_region_ext_lit (by kernel_rfl) (by kernel_rfl) ?_
          repeat (go_big_quiet_step ((go_at_call 44;exact Calls.ext_of (HAB.out _ _ _ (below_trans HBW.out (ext_below _ _)) (by first | exact hba | exact hbb) (by first | exact HQA.out | exact HQB.out)))))
          refine wpQuiet_nil ?_
          rintro _ ⟨u2,rfl⟩
          have HROW2:=Hd_ (ownsRow_below HROW.out (ext_below wk u2) (Nat.le_refl _))
          have HBEL2:=Hd_ (HBEL.out.trans ((ext_below wk u2).mono (show w.heap.size+1<=wk.heap.size by omega)))
          have HZ2:=Hd_ (show farZ p (k+1)=D ++ [-1] by rw [HZS.out,HG.out];rfl)
          have qb2:w.heap.size+1<=(ext wk u2).heap.size:=Nat.le_trans hs0 HBEL2.out.size
          generalize ext wk u2=w2 at *
          clear d0 d1 d2 x0 x1 x2 x3 x4 hsa hsb hsa3 hsb3
          go_wp2_with (at_builtin;(refine wpList_append1 cI elInt rfl _ _ rfl (w.heap.size+1) _ D (-1) _ 1 _ (by rfl) HROW2.out (by rfl) rfl rfl rfl (cI_one _) qb1 (by decide) qb2 ?_);intro v8 w8 hrow8 hb8 _ _)
          go_roundw
          case rel=>exact ⟨k+1,by omega,by go_num,by rw [HZ2.out];exact hrow8,HBEL2.out.trans hb8⟩
          case measure=>simp [intOf];omega
        | true =>
          go_upto_region 6 with fail
          refine wp_region_ext_lit (by kernel_rfl) (by kernel_rfl) ?_
          repeat (go_big_quiet_step ((go_at_call 44;exact Calls.ext_of (HAB.out _ _ _ (below_trans HBW.out (ext_below _ _)) (by first | exact hba | exact hbb) (by first | exact HQA.out | exact HQB.out)))))
          refine wpQuiet_nil ?_
          rintro _ ⟨u2,rfl⟩
          have HROW2:=Hd_ (ownsRow_below HROW.out (ext_below wk u2) (Nat.le_refl _))
          have HBEL2:=Hd_ (HBEL.out.trans ((ext_below wk u2).mono (show w.heap.size+1<=wk.heap.size by omega)))
          have HZ2:=Hd_ (show farZ p (k+1)=D ++ [0] by rw [HZS.out,HG.out];rfl)
          have qb2:w.heap.size+1<=(ext wk u2).heap.size:=Nat.le_trans hs0 HBEL2.out.size
          generalize ext wk u2=w2 at *
          clear d0 d1 d2 x0 x1 x2 x3 x4 hsa hsb hsa3 hsb3
          go_wp2_with (at_builtin;(refine wpList_append1 cI elInt rfl _ _ rfl (w.heap.size+1) _ D (0) _ 1 _ (by rfl) HROW2.out (by rfl) rfl rfl rfl (cI_one _) qb1 (by decide) qb2 ?_);intro v8 w8 hrow8 hb8 _ _)
          go_roundw
          case rel=>exact ⟨k+1,by omega,by go_num,by rw [HZ2.out];exact hrow8,HBEL2.out.trans hb8⟩
          case measure=>simp [intOf];omega
  · obtain rfl:k=N:=by omega
    have hFl:=farZ_len p (k:=k) (by rw [<- HN.out];exact Nat.le_refl _)
    obtain ⟨F0,hF0⟩:∃ F0,F0=farZ p k:=⟨_,rfl⟩
    rw [<- hF0] at HFO
    rw [<- hF0] at hrow hFl
    rw [hFl] at hrow
    obtain ⟨gf,cf,rfl,hgf,hgfw,-,-⟩:=own_some hrow (by omega)
    have HROW:=Hd_ hrow
    have HPL:=Hd_ (prsT_lt (p:=p) H20.out)
    rw [<- HN.out] at HPL
    clear hrow hbel hF0 hFl hlt hk
    go_wp2_with fail
    go_loopg [10,11,12] (farW k F0+1) (fun gk aa _ _ wr=>∃ (b:Bool) (F:List Int),aa=.bool b/\FarI (prsT p) (goalT p) k F/\(b=false->∀ e ∈ prsT p,rlxB F e=false)/\(b=true->farW k F < gk)/\wr.ownsRow (w.heap.size+1) 3 1 (.slice (some ⟨gf,0,none⟩) k cf) k (F.flatMap cI)/\Below (w.heap.size+1) W0 wr)
    case atStart=>exact ⟨true,F0,rfl,HFO.out,(fun h=>by cases h),(fun _=>Nat.lt_succ_self _),HROW.out,HBEL.out⟩
    case round =>
     clear HROW HBEL HFO
     obtain ⟨b,F,rfl,hfi,hz,hw,hrow,hbel⟩:=hrel
     obtain ⟨wa,rfl⟩:∃ wa:World,wa=wr:=⟨_,rfl⟩
     have HFI:=Hd_ hfi
     have HROW:=Hd_ hrow
     have HBEL:=Hd_ hbel
     have HZ:=Hd_ hz
     have HW:=Hd_ hw
     clear hfi hz hw hrow hbel
     cases b with
     | false =>
       have HFE:=Hd_ (far_end H20.out (by rw [<- HN.out];exact HFI.out) (HZ.out rfl))
       rw [<- HN.out] at HFE
       go_wp2_with fail
       go_ret
       exact ⟨_,rfl,F,(Own.of_row HROW.out HFI.out.len rfl).mono (by omega) (Nat.le_refl _),HFI.out,HFE.out,HB0.out.trans (HBEL.out.mono (by omega))⟩
     | true =>
       have HPA:=Hd_ (fun i=>foldP_all HPL.out ((prsT p).take i) F false (fun e he=>List.mem_of_mem_take he) HFI.out)
       go_wp2_with fail
       go_loopw [10,11,12] (fun aa ii _ wr=>∃ i:Nat,i<=EL/\ii=.int .i64 (i:Int)/\aa=.bool (passT (prsT p) F i).2/\wr.ownsRow (w.heap.size+1) 3 1 (.slice (some ⟨gf,0,none⟩) k cf) k ((passT (prsT p) F i).1.flatMap cI)/\Below (w.heap.size+1) W0 wr) (fun _ ii _ _=>EL - (intOf ii).toNat)
       case atStart=>exact ⟨0,Nat.zero_le _,rfl,rfl,HROW.out,HBEL.out⟩
       case round =>
        clear HROW HBEL
        obtain ⟨i,hi,rfl,rfl,hrow,hbel⟩:=hrel
        by_cases hlt:i < EL
        · have hat:(edsT p)[i]?=some ((edsT p)[i]'(by rw [<- HEL.out];exact hlt)):=List.getElem?_eq_getElem _
          obtain ⟨e,he⟩:∃ e,e=(edsT p)[i]'(by rw [<- HEL.out];exact hlt):=⟨_,rfl⟩
          rw [<- he] at hat
          have hpat:=prsT_at hat
          have HPS:=Hd_ (passT_succ hpat F)
          have hpl:=HPL.out _ (List.mem_of_getElem? hpat)
          obtain ⟨b1,o1,rfl,hb1,d0,-,d2⟩:=HE.out.eg hat
          have hbw:=HB0.out.trans (hbel.mono (show w.heap.size<=w.heap.size+1 by omega))
          have d0:=kcell hbw d0
          have d2:=kcell hbw d2
          have hbs:=hbw.size
          obtain ⟨⟨ea,eb,ec⟩,he2⟩:∃ e',e'=e:=⟨_,rfl⟩
          subst he2
          simp only at d0 d2 hpl HPS
          have hfa:=(HPA.out i).1
          have hfd:passT (prsT p) F i=((prsT p).take i).foldl rlxP (F,false):=rfl
          rw [<- hfd] at hfa
          obtain ⟨⟨G,bg⟩,hG⟩:∃ g,g=passT (prsT p) F i:=⟨_,rfl⟩
          rw [<- hG] at hrow hfa HPS ⊢
          simp only at hrow hfa
          have hx:=(World.ownsRow.cellAt hrow ec (by have:=hpl.2;omega)).trans (flatI_at (getD_of (D:=G) (k:=ec) (by rw [hfa.len];exact hpl.2)))
          have hy:=(World.ownsRow.cellAt hrow ea (by have:=hpl.1;omega)).trans (flatI_at (getD_of (D:=G) (k:=ea) (by rw [hfa.len];exact hpl.1)))
          have hfz:=World.ownsRow.frozenAt hrow ea
          have hlx:=hfa.low ec hpl.2
          have hhx:=hfa.lt hpl.2
          have HRL:=Hd_ (show rlxB G (ea,ec)=(decide (0 < G.getD ec 0+1) && (decide (G.getD ea 0 < 0) || decide (G.getD ec 0+1 < G.getD ea 0))) from rfl)
          have HRX:=Hd_ (show rlx G (ea,ec)=if rlxB G (ea,ec)=true then G.set ea (G.getD ec 0+1) else G from rfl)
          obtain ⟨x,hxx⟩:∃ x,x=G.getD ec 0:=⟨_,rfl⟩
          obtain ⟨y,hyy⟩:∃ y,y=G.getD ea 0:=⟨_,rfl⟩
          rw [<- hxx] at hx hlx hhx HRL HRX
          rw [<- hyy] at hy HRL
          obtain ⟨n,hn⟩:∃ n,n=x+1:=⟨_,rfl⟩
          have hwr:IntKind.i64.wrap (x+1)=n:=by rw [IntWalk.i64_in _ (by omega)];exact hn.symm
          rw [<- hn] at HRL HRX
          have hgw:=(hrow.lt gf rfl).2
          have hii:(i:Int) < (EL:Int):=by omega
          have hti:(ec:Int) < (k:Int):=by have:=hpl.2;omega
          have htj:(ea:Int) < (k:Int):=by have:=hpl.1;omega
          have hb1w:b1 < wr.heap.size:=by omega
          have HROW:=Hd_ hrow
          have HBEL:=Hd_ hbel
          have HNN:=Hd_ hn
          clear hrow hbel hat hpat he hfa hfd hG hxx hyy hn hpl hbw hlx hhx hbs
          by_cases h1:0 < n
          · by_cases h2:y < 0
            · have hr:rlxB G (ea,ec)=true:=by rw [HRL.out,decide_eq_true h1,decide_eq_true h2];rfl
              have HF:=Hd_ (show passT (prsT p) F (i+1)=(G.set ea n,true) by rw [HPS.out,rlxP,HRX.out,hr];simp)
              have hst:=(World.ownsRow.stored HROW.out ea (.int .i64 n)).1
              rw [flatI_set] at hst
              have HST:=Hd_ hst
              clear hr hst
              go_wp2_with fail
              go_roundw
              case rel=>exact ⟨i+1,by omega,by go_num,by rw [HF.out],by rw [HF.out];exact HST.out,HBEL.out.setCell (p:=⟨gf,ea,none⟩) hgf _⟩
              case measure=>simp [intOf];omega
            · by_cases h3:n < y
              · have hr:rlxB G (ea,ec)=true:=by rw [HRL.out,decide_eq_true h1,decide_eq_false h2,decide_eq_true h3];rfl
                have HF:=Hd_ (show passT (prsT p) F (i+1)=(G.set ea n,true) by rw [HPS.out,rlxP,HRX.out,hr];simp)
                have hst:=(World.ownsRow.stored HROW.out ea (.int .i64 n)).1
                rw [flatI_set] at hst
                have HST:=Hd_ hst
                clear hr hst
                go_wp2_with fail
                go_roundw
                case rel=>exact ⟨i+1,by omega,by go_num,by rw [HF.out],by rw [HF.out];exact HST.out,HBEL.out.setCell (p:=⟨gf,ea,none⟩) hgf _⟩
                case measure=>simp [intOf];omega
              · have hr:rlxB G (ea,ec)=false:=by rw [HRL.out,decide_eq_true h1,decide_eq_false h2,decide_eq_false h3];rfl
                have HF:=Hd_ (show passT (prsT p) F (i+1)=(G,bg) by rw [HPS.out,rlxP,HRX.out,hr];simp)
                clear hr
                go_wp2_with fail
                go_roundw
                case rel=>exact ⟨i+1,by omega,by go_num,by rw [HF.out],by rw [HF.out];exact HROW.out,HBEL.out⟩
                case measure=>simp [intOf];omega
          · have hr:rlxB G (ea,ec)=false:=by rw [HRL.out,decide_eq_false h1];rfl
            have HF:=Hd_ (show passT (prsT p) F (i+1)=(G,bg) by rw [HPS.out,rlxP,HRX.out,hr];simp)
            clear hr
            go_wp2_with fail
            go_roundw
            case rel=>exact ⟨i+1,by omega,by go_num,by rw [HF.out],by rw [HF.out];exact HROW.out,HBEL.out⟩
            case measure=>simp [intOf];omega
        · obtain rfl:i=EL:=by omega
          have hta:(prsT p).take i=prsT p:=List.take_of_length_le (by rw [prsT_len,<- HEL.out];exact Nat.le_refl _)
          have hfa:=HPA.out i
          rw [show ((prsT p).take i).foldl rlxP (F,false)=passT (prsT p) F i from rfl,hta] at hfa
          obtain ⟨G,hG⟩:∃ g,g=passT (prsT p) F i:=⟨_,rfl⟩
          rw [<- hG] at hrow hfa ⊢
          have HFA:=Hd_ hfa
          have HROW:=Hd_ hrow
          have HBEL:=Hd_ hbel
          have hww:=HW.out (by first | rfl | trivial)
          obtain ⟨G,bg⟩:=G
          clear hrow hbel hfa hta hG
          go_wp2_with fail
          cases bg with
          | false =>
            go_roundg 0
            case measure=>omega
            case rel=>exact ⟨false,G,rfl,HFA.out.1,(fun _ e he=>by rw [(HFA.out.2.2.2 rfl).1];exact (HFA.out.2.2.2 rfl).2 e he),(fun h=>by cases h),HROW.out,HBEL.out⟩
          | true =>
            go_roundg (farW k G+1)
            case measure =>
             rcases HFA.out.2.2.1 rfl with h | h
             · cases h
             · (try simp only at h);omega
            case rel=>exact ⟨true,G,rfl,HFA.out.1,(fun h=>by cases h),(fun _=>Nat.lt_succ_self _),HROW.out,HBEL.out⟩
theorem flatB_at {xs:List Bool} {t:Nat} {x:Bool} (h:xs[t]?=some x):(xs.flatMap cB)[t]?=some (.bool x):=by
 have:=flat_at cB_len h 0 _ rfl
 simpa using this
theorem flatB_set (xs:List Bool) (t:Nat) (x:Bool):(xs.flatMap cB).set t (.bool x)=(xs.set t x).flatMap cB:=by
 induction xs generalizing t with
 | nil=>rfl
 | cons y ys ih =>
   cases t with
   | zero=>rfl
   | succ t=>simp only [List.flatMap_cons,List.set_cons_succ,cB,List.cons_append,List.nil_append];rw [ih]
theorem getB_of {D:List Bool} {k:Nat} (h:k < D.length):D[k]?=some (D.getD k false):=by rw [List.getD_eq_getElem?_getD,List.getElem?_eq_getElem h];rfl
theorem tell_start {N:Nat} (h:0 < N):TellB N ((List.replicate N false).set 0 true) [0]:=by
 refine ⟨by simp,fun i hi=>by rw [List.mem_singleton] at hi;omega,fun i hi=>?_⟩
 rw [getD_setB (by simpa using h),List.mem_singleton]
 have:(List.replicate N false).getD i false=false:=by
  rw [List.getD_eq_getElem?_getD,List.getElem?_replicate]
  split <;> rfl
 rw [this]
 split
 · simp_all
 · simp;omega
theorem flatN (l:List Nat):l.flatMap cN=(l.map fun n:Nat=>(n:Int)).flatMap cI:=by
 induction l with
 | nil=>rfl
 | cons x l ih=>simp only [List.flatMap_cons,List.map_cons,ih];rfl
theorem SlI.intJ {lo hi:Nat} {w:World} {A:Option Addr} {n c:Nat} {xs:List Int} (h:SlI lo hi w cI 1 (.slice A n c) xs) {i:Nat} {x:Int} (hx:xs[i]?=some x) :
 ∃ b o,A=some ⟨b,o,none⟩/\b < hi/\w.cell? ⟨b,o+i,none⟩=some (.int .i64 x):=by
 obtain ⟨A',c',hv,-,-,h⟩:=h
 cases hv
 obtain ⟨b,o,hA,-,h2,hc⟩:=h i x hx
 exact ⟨b,o,hA,h2,by simpa using hc 0 _ rfl⟩
/-- the word as integers -/
noncomputable def ambO (p:Pz):List Int:=(ambT p).1.map fun n:Nat=>(n:Int)
theorem elBl:ElemOk Try.prog 49 4 (.bool false) 1 1:=⟨Try.underlying49,by kernel_rfl,rfl,by omega⟩
structure AmR (w1 wr:World) (lo g N:Nat) (oo:Value) (O:List Nat) (H:List Bool):Prop where
 out:wr.ownsRow lo 3 1 oo O.length (O.flatMap cN)
 place:∀ b,oo.ownBlock=some b->b=lo ∨ w1.heap.size<=b
 here:wr.ownsRow w1.heap.size 4 1 (.slice (some ⟨g,0,none⟩) N N) N (H.flatMap cB)
 ne:oo.ownBlock ≠ some g
 only:Only lo (lo+1) w1 wr
section
variable {w1 wr w4:World} {lo g g2 N:Nat} {oo v':Value} {O:List Nat} {H G:List Bool}
theorem AmR.gLt (h:AmR w1 wr lo g N oo O H):w1.heap.size<=g/\g < wr.heap.size:=h.here.lt g rfl
theorem AmR.below (h:AmR w1 wr lo g N oo O H) (hb:Below wr.heap.size wr w4):AmR w1 w4 lo g N oo O H :=
 ⟨ownsRow_below h.out hb (Nat.le_refl _),h.place,ownsRow_below h.here hb (Nat.le_refl _),h.ne,h.only.trans (Only.of_below (hb.mono (Nat.le_refl _)) _ _)⟩
theorem AmR.far (h:AmR w1 wr lo g N oo O H) (h1:g2 ≠ g) (h2:oo.ownBlock ≠ some g2) (h3:w1.heap.size<=g2) (i:Nat) (u:Value):AmR w1 (wr.setCell ⟨g2,i,none⟩ u) lo g N oo O H :=
 ⟨ownsRow_block h.out fun b hb=>Below.heap_setCell _ _ _ _ (by intro e;simp only at e;subst e;exact h2 hb),h.place,ownsRow_block h.here fun b hb=>Below.heap_setCell _ _ _ _ (by have hb:some g=some b:=hb;cases hb;simp only;omega),h.ne,h.only.setCell (.inr (by simp only;omega)) _⟩
theorem AmR.swap (h:AmR w1 wr lo g N oo O H) (hr:wr.ownsRow w1.heap.size 4 1 (.slice (some ⟨g2,0,none⟩) N N) N (G.flatMap cB)) (h2:oo.ownBlock ≠ some g2):AmR w1 wr lo g2 N oo O G:=⟨h.out,h.place,hr,h2,h.only⟩
theorem AmR.push (h:AmR w1 wr lo g N oo O H) {O':List Nat} {o:Obj} (hrow:w4.ownsRow lo 3 1 v' O'.length (O'.flatMap cN)) (hg:(wr.alloc o).grownBy w4 oo.ownBlock) (hat:v'.ownBlock=oo.ownBlock ∨ ∃ b,v'.ownBlock=some b/\wr.heap.size<=b):AmR w1 w4 lo g N v' O' H:=by
 have hgl:=h.gLt
 have hs:=h.only.size
 refine ⟨hrow,?_,?_,?_,?_⟩
 · intro b hb
   rcases hat with e | ⟨c,e,hge⟩
   · exact h.place b (by rw [<- e];exact hb)
   · rw [e] at hb
     cases hb
     exact .inr (by omega)
 · refine ownsRow_block h.here fun b hb=>?_
   have hb:some g=some b:=hb
   cases hb
   rw [hg.block g (by simp;omega) (fun e=>h.ne e.symm),Below.heap_alloc _ _ _ hgl.2]
 · intro hb
   rcases hat with e | ⟨c,e,hge⟩
   · exact h.ne (by rw [<- e];exact hb)
   · rw [e] at hb
     cases hb
     omega
 · have h1:=h.only.alloc o
   exact ⟨hg.os.trans h1.os,hg.tape.trans h1.tape,hg.output.trans h1.output,Nat.le_trans h1.size hg.size,fun n hn ho=>(hg.block n (Nat.lt_of_lt_of_le hn h1.size) (fun e=>by have:=h.place n e.symm;omega)).trans (h1.block n hn ho)⟩
theorem AmR.cellH (h:AmR w1 wr lo g N oo O H) (hN:H.length=N) {i:Nat} (hi:i < N):wr.cell? ⟨g,i,none⟩=some (.bool (H.getD i false))/\wr.frozen? ⟨g,i,none⟩=false :=
 ⟨(World.ownsRow.cellAt h.here i (by omega)).trans (flatB_at (getB_of (by omega))),World.ownsRow.frozenAt h.here i⟩
end
set_option maxRecDepth 100000 in
set_option maxHeartbeats 8000000 in
theorem specAmb (v:Value) (p:Pz) (w:World) (hv:PzV 0 w.heap.size w v p) :
 Calls Try.prog 11 #[v] w fun e w'=>∃ vo,e=.returned (.tuple #[vo,.bool (ambT p).2])/\Own w.heap.size w'.heap.size w' 3 cI 1 vo (ambO p)/\Below w.heap.size w w':=by
 obtain ⟨R1,hR1⟩:∃ R,R=ambO p:=⟨_,rfl⟩
 obtain ⟨R2,hR2⟩:∃ R,R=(ambT p).2:=⟨_,rfl⟩
 rw [<- hR1,<- hR2]
 have HR1:=Hd_ hR1
 have HR2:=Hd_ hR2
 clear hR1 hR2
 have HV:=Hd_ hv
 have HVP:=Hd_ (fun W (h:Below w.heap.size w W)=>specValidPos v p W (hv.keep h))
 obtain ⟨vq,vf,rfl,h1,h2⟩:=hv
 obtain ⟨A,n1,c,rfl⟩:=h1.shape
 obtain ⟨B,n2,c2,rfl⟩:=h2.shape
 obtain ⟨W0,hW0⟩:∃ W0,W0=(w.alloc (.cells #[.slice A n1 c,.int .i64 p.first,.int .i64 p.last,.slice B n2 c2,.bool p.nul] 27)).alloc (.cells #[] 3):=⟨_,rfl⟩
 have hbp:Blk W0 w.heap.size 27 #[.slice A n1 c,.int .i64 p.first,.int .i64 p.last,.slice B n2 c2,.bool p.nul]:=by rw [hW0];exact (Blk.new _ _ _ _ rfl).alloc _
 have hb0:Below w.heap.size w W0:=by rw [hW0];exact ((Below.refl _ _).alloc (Nat.le_refl _) _).alloc (by simp) _
 have hsz:W0.heap.size=w.heap.size+1+1:=by rw [hW0];simp
 have hro:W0.ownsRow (w.heap.size+1) 3 1 (.slice (some ⟨w.heap.size+1,0,none⟩) 0 0) 0 []:=by
  have h:=World.ownsRow_lit (base:=w.heap.size+1) (e:=3) (size:=1) (w.alloc (.cells #[.slice A n1 c,.int .i64 p.first,.int .i64 p.last,.slice B n2 c2,.bool p.nul] 27)) #[] 0 (by simp) (by decide) rfl
  rw [hW0]
  simpa using h
 have HBP:=Hd_ hbp
 have HB0:=Hd_ hb0
 have HRO:=Hd_ hro
 have x0:W0.cell? ⟨w.heap.size,0,none⟩=some (.slice A n1 c):=by exact hbp.cell 0
 have x1:W0.cell? ⟨w.heap.size,1,none⟩=some (.int .i64 p.first):=by exact hbp.cell 1
 have x2:W0.cell? ⟨w.heap.size,2,none⟩=some (.int .i64 p.last):=by exact hbp.cell 2
 have x3:W0.cell? ⟨w.heap.size,3,none⟩=some (.slice B n2 c2):=by exact hbp.cell 3
 have x4:W0.cell? ⟨w.heap.size,4,none⟩=some (.bool p.nul):=by exact hbp.cell 4
 have hl0:w.heap.size < W0.heap.size:=by omega
 clear h1 h2 hbp hb0 hro
 go_enter Try.func11,Try.ntmps11
 go_upto_region 2 with fail
 rw [<- hW0]
 clear hW0
 go_wp2_with fail
 refine (HVP.out _ HB0.out).mono ?_
 rintro e w2 ⟨rfl,hb2⟩
 have x0:=kcell hb2 x0
 have x1:=kcell hb2 x1
 have x2:=kcell hb2 x2
 have x3:=kcell hb2 x3
 have x4:=kcell hb2 x4
 have hl0:=Nat.lt_of_lt_of_le hl0 hb2.size
 have hs2:=hb2.size
 have HRO:=Hd_ (ownsRow_below HRO.out hb2 (by omega))
 have HB2:=Hd_ (below_trans HB0.out hb2)
 have HBP:=Hd_ (HBP.out.keep hb2)
 clear hb2
 cases hok:pzOk p with
 | false =>
   have hE:ambT p=([],false):=by rw [ambT,hok];rfl
   have e1:R1=[]:=by rw [HR1.out,ambO,hE];rfl
   have e2:R2=false:=by rw [HR2.out,hE]
   subst e1 e2
   clear hE HR1 HR2
   go_wp2_with fail
   go_ret2
   exact ⟨_,rfl,(Own.of_row (xs:=([]:List Int)) HRO.out rfl rfl).mono (by omega) (Nat.le_refl _),HB2.out⟩
 | true =>
   have HOK:=Hd_ hok
   have HAT:=Hd_ (show ambT p=if dT p 0 < 0 then ([],false) else (ambW p,true) by rw [ambT,hok];rfl)
   clear hok
   go_wp2_with fail
   refine (specPairs _ p _ (HV.out.keep HB2.out) HOK.out).mono ?_
   rintro e w3 ⟨vl,ve,rfl,hol,hoe,hb3⟩
   have h20:=(pz_facts HOK.out).1
   have hN882:(endT p).length<=882:=by rw [endT];exact allT_len h20 882
   have hNpos:0 < (endT p).length:=(List.getElem?_eq_some_iff.1 (endT_start p)).1
   have HSL:=Hd_ (hol.sl cNt_len)
   have HSE:=Hd_ (hoe.sl cEg_len)
   have hl1:=hol.1
   have he1:=hoe.sl cEg_len
   obtain ⟨N,hN⟩:∃ N,N=(endT p).length:=⟨_,rfl⟩
   obtain ⟨EL,hEL⟩:∃ EL,EL=(edsT p).length:=⟨_,rfl⟩
   rw [<- hN] at hl1 hN882 hNpos
   obtain ⟨gl,cl,rfl,-,-,-,-⟩:=own_some hl1 (by omega)
   obtain ⟨A4,c4,rfl,hl4,hm4,-⟩:=he1
   rw [<- hEL] at hl4 HSE ⊢
   unfold maxLen at hm4
   have x0:=kcell hb3 x0
   have x1:=kcell hb3 x1
   have x2:=kcell hb3 x2
   have x3:=kcell hb3 x3
   have x4:=kcell hb3 x4
   have hl0:=Nat.lt_of_lt_of_le hl0 hb3.size
   have HB3:=Hd_ (below_trans HB2.out hb3)
   have HRO:=Hd_ (ownsRow_below HRO.out hb3 (Nat.le_refl _))
   have hs3:=hb3.size
   have HN:=Hd_ hN
   have HEL:=Hd_ hEL
   clear hol hoe hl1 hb3 hN hEL
   go_wp2_with fail
   refine (specFar _ _ _ p w3 (HV.out.keep HB3.out) HOK.out ((HSL.out.all (Nat.le_refl _))) ((HSE.out.all (Nat.le_refl _)))).mono ?_
   rintro e w4 ⟨vf,F,rfl,hof,hfi,hfd,hb4⟩
   have hf1:=hof.1
   have hFl:=hfi.len
   rw [<- HN.out] at hfi hfd hFl
   rw [hFl] at hf1
   have hF0:=hfd 0 hNpos
   have hFlt:=hfi.lt hNpos
   obtain ⟨gf,cf,rfl,hgf,hgfw,-,-⟩:=own_some hf1 (by omega)
   have HSF:=Hd_ (hof.sl cI_len)
   have hc0:=(World.ownsRow.cellAt hf1 0 (by omega)).trans (flatI_at (getD_of (D:=F) (k:=0) (by omega)))
   rw [hF0] at hc0 hFlt
   have hs4:=hb4.size
   have HSE:=Hd_ (HSE.out.below hb4 (Nat.le_refl _))
   have HB4:=Hd_ (below_trans HB3.out hb4)
   have HRO:=Hd_ (ownsRow_below HRO.out hb4 (Nat.le_refl _))
   have HFD:=Hd_ hfd
   have HFL:=Hd_ hFl
   clear hof hf1 hfi hfd hFl hb4 x0 x1 x2 x3 x4 hl0 hF0
   by_cases hneg:dT p 0 < 0
   · have hE:ambT p=([],false):=by rw [HAT.out,if_pos hneg]
     have e1:R1=[]:=by rw [HR1.out,ambO,hE];rfl
     have e2:R2=false:=by rw [HR2.out,hE]
     subst e1 e2
     clear hE HR1 HR2 HAT
     go_wp2_with fail
     go_ret2
     exact ⟨_,rfl,(Own.of_row (xs:=([]:List Int)) HRO.out rfl rfl).mono (by omega) (Nat.le_refl _),HB4.out⟩
   · have hE:ambT p=(ambW p,true):=by rw [HAT.out,if_neg hneg]
     have e2:R2=true:=by rw [HR2.out,hE]
     subst e2
     have HR1:=Hd_ (show R1=(ambW p).map fun n:Nat=>(n:Int) by rw [HR1.out,ambO,hE])
     clear hE HR2 HAT
     obtain ⟨n0,hn0⟩:∃ n0:Nat,n0=(dT p 0).toNat:=⟨_,rfl⟩
     have hd0:dT p 0=(n0:Int):=by omega
     have HAW:=Hd_ (show ambW p=wordT 9 (nxI p) (dT p) n0 [0] by rw [ambW,hn0])
     rw [hd0] at hc0 hFlt
     have HD0:=Hd_ hd0
     have hnn:¬ (n0:Int) < 0:=by omega
     clear hneg hn0 hd0
     have hz:((List.replicate N false).flatMap cB)[0]?=some (.bool false):=flatB_at (by rw [List.getElem?_replicate,if_pos hNpos])
     have HZ:=Hd_ hz
     have hne:¬ w4.heap.size=gf:=by omega
     have hne2:¬ gf=w4.heap.size:=by omega
     have hgl5:gf < w4.heap.size+1:=by omega
     have hN0:(0:Int) < (N:Int):=by omega
     clear hz
     go_wp2_with (at_make;refine wpList_makeE (P:=Try.prog) cB false elBl rfl rfl rfl _ _ rfl w4.heap.size N _ (by rfl) (by rfl) rfl (by omega) (by unfold maxLen;omega) (Nat.le_refl _) ?_;intro w5 hrow5 hbel5;have HROW5:=Hd_ hrow5;have HBEL5:=Hd_ hbel5;have hc5:=(World.ownsRow.cellAt hrow5 0 (by omega)).trans HZ.out;have hf5:=World.ownsRow.frozenAt hrow5 0;have hcf:=kcell hbel5 hc0;have hl5:=(hrow5.lt _ rfl).2;have hg5:=Nat.lt_of_lt_of_le hgfw hbel5.size;clear hrow5 hbel5)
     have hst:AmR w4 (w5.setCell ⟨w4.heap.size,0,none⟩ (.bool true)) (w.heap.size+1) w4.heap.size N (.slice (some ⟨w.heap.size+1,0,none⟩) 0 0) [] ((List.replicate N false).set 0 true):=by
      have h1:=(World.ownsRow.stored HROW5.out 0 (.bool true)).1
      rw [flatB_set] at h1
      refine ⟨?_,?_,h1,?_,?_⟩
      · exact ownsRow_block (ownsRow_below HRO.out HBEL5.out (Nat.le_refl _)) fun b hb=>Below.heap_setCell _ _ _ _ (by have hb:some (w.heap.size+1)=some b:=hb;cases hb;simp only;omega)
      · intro b hb
        have hb:some (w.heap.size+1)=some b:=hb
        cases hb
        exact .inl rfl
      · intro hb
        have hb:some (w.heap.size+1)=some w4.heap.size:=hb
        injection hb with hb
        omega
      · exact (Only.of_below HBEL5.out _ _).setCell (.inr (Nat.le_refl _)) _
     have HST:=Hd_ hst
     have HTS:=Hd_ (tell_start hNpos)
     have hlo:w.heap.size+1+1<=w2.heap.size:=by omega
     have hs24:w3.heap.size<=w4.heap.size:=hs4
     have H20:=Hd_ h20
     clear hst hc5 hf5 hcf hl5 hg5 HROW5 HBEL5 HZ hne hne2 hgl5 hN0 hc0 HRO h20
     go_loopw [4,8,9,10,11,12,13] (fun oo hh ll _ _ _ _ wr=>∃ (n g:Nat) (S O:List Nat) (H:List Bool),ll=.int .i64 (n:Int)/\hh=.slice (some ⟨g,0,none⟩) N N/\O.length+n=n0/\AmR w4 wr (w.heap.size+1) g N oo O H/\TellB N H S/\(∃ i,i ∈ S)/\(∀ i ∈ S,dT p i=(n:Int))/\O ++ wordT 9 (nxI p) (dT p) n S=ambW p) (fun _ _ ll _ _ _ _ _=>(intOf ll).toNat)
     case atStart=>exact ⟨n0,w4.heap.size,[0],[],(List.replicate N false).set 0 true,rfl,rfl,by simp,HST.out,HTS.out,⟨0,by simp⟩,(fun i hi=>by rw [List.mem_singleton] at hi;rw [hi];exact HD0.out),by rw [HAW.out];rfl⟩
     case round =>
      clear HST HTS
      obtain ⟨n,g,S,O,H,rfl,rfl,hon,har,htl,hne,hsd,haw⟩:=hrel
      obtain ⟨wo,rfl⟩:∃ wo:World,wo=wr:=⟨_,rfl⟩
      obtain ⟨A9,n9,c9,rfl⟩:=(Own.of_row har.out rfl rfl).shape
      have HAR:=Hd_ har
      have HTL:=Hd_ htl
      have HNE:=Hd_ hne
      have HSD:=Hd_ hsd
      have HOA:=Hd_ haw
      have hoL:O.length<=882:=by omega
      have hn8:n<=882:=by omega
      have HON:=Hd_ hon
      clear htl hne hsd haw hon
      cases n with
      | zero =>
        have HRW:=Hd_ har.out
        have HBF:=Hd_ (HB4.out.trans (har.only.below (B:=w.heap.size) (by omega) (by omega)))
        have hRE:R1=O.map fun n:Nat=>(n:Int):=by rw [HR1.out,<- HOA.out,wordT,List.append_nil]
        clear har
        go_wp2_with fail
        go_ret2
        refine ⟨_,rfl,?_,HBF.out⟩
        have h:=HRW.out
        rw [flatN] at h
        exact (Own.of_row h (by rw [hRE,List.length_map]) (by rw [hRE])).mono (by omega) (Nat.le_refl _)
      | succ m =>
        obtain ⟨k,hk1,hk9,hkw,hkt,hkn,hks⟩:=amb_round (n:=m) (F:=F) (H:=H) (S:=S) H20.out (fun i hi=>HFD.out i (by rw [HN.out];exact hi)) (by rw [<- HN.out];exact HTL.out) HNE.out HSD.out
        have HKW:=Hd_ hkw
        have HKT:=Hd_ hkt
        have HKN:=Hd_ hkn
        have HKS:=Hd_ hks
        have HK1:=Hd_ hk1
        have HED:=Hd_ (HSE.out.only har.only hs24 (.inr hlo))
        have HFR:=Hd_ (HSF.out.only har.only (Nat.le_refl _) (.inr (by omega)))
        have hgl:=har.gLt
        have hws:=har.only.size
        have hwr1:IntKind.i64.wrap (((m+1:Nat):Int) - 1)=(m:Int):=by rw [IntWalk.i64_in _ (by omega)];omega
        have hmp:(0:Int) < ((m+1:Nat):Int):=by omega
        clear hkw hkt hkn hks hk1 har
        go_wp2_with fail
        go_loopw [10,11] (fun mm ii wr=>∃ i:Nat,i<=EL/\ii=.int .i64 (i:Int)/\mm=.int .i64 ((letE H F m ((edsT p).take i):Nat):Int)/\wr=wo) (fun _ ii _=>EL - (intOf ii).toNat)
        case atStart=>exact ⟨0,Nat.zero_le _,rfl,rfl,rfl⟩
        case round =>
         obtain ⟨i,hi,rfl,rfl,rfl⟩:=hrel
         by_cases hlt:i < EL
         · skip
           have hat:(edsT p)[i]?=some ((edsT p)[i]'(by rw [<- HEL.out];exact hlt)):=List.getElem?_eq_getElem _
           obtain ⟨⟨ea,eb,ec⟩,he⟩:∃ e,e=(edsT p)[i]'(by rw [<- HEL.out];exact hlt):=⟨_,rfl⟩
           rw [<- he] at hat
           have hpl:=prsT_lt H20.out _ (List.mem_of_getElem? (prsT_at hat))
           rw [<- HN.out] at hpl
           simp only at hpl
           obtain ⟨b1,o1,rfl,hb1,d0,d1,d2⟩:=HED.out.eg hat
           simp only at d0 d1 d2
           have hh0:=(HAR.out.cellH HTL.out.len hpl.1).1
           obtain ⟨bf,of,ef,hbf,hf0⟩:=HFR.out.intJ (getD_of (D:=F) (k:=ec) (by rw [HFL.out];exact hpl.2))
           cases ef
           rw [Nat.zero_add] at hf0
           obtain ⟨fv,hfv⟩:∃ f,f=F.getD ec 0:=⟨_,rfl⟩
           obtain ⟨hv,hhv⟩:∃ f,f=H.getD ea false:=⟨_,rfl⟩
           have HONE:=Hd_ (show onE H F m (ea,eb,ec)=(hv && decide (fv=(m:Int))) by rw [hhv,hfv];rfl)
           rw [<- hfv] at hf0
           rw [<- hhv] at hh0
           have hii:(i:Int) < (EL:Int):=by omega
           have hti:(ec:Int) < (N:Int):=by have:=hpl.2;omega
           have htj:(ea:Int) < (N:Int):=by have:=hpl.1;omega
           clear he hpl hfv hhv
           have HLS:=Hd_ (letE_succ (H:=H) (F:=F) (n:=m) hat)
           have HLE:=Hd_ (letE_le H F m ((edsT p).take i))
           obtain ⟨M,hM⟩:∃ M,M=letE H F m ((edsT p).take i):=⟨_,rfl⟩
           rw [<- hM] at HLS HLE ⊢
           have h9:=HLE.out
           clear hM hat HLE
           cases hv with
           | false =>
             have HF:=Hd_ (show letE H F m ((edsT p).take (i+1))=M by rw [HLS.out,HONE.out];rfl)
             go_wp2_with fail
             go_roundw
             case rel=>exact ⟨i+1,by omega,by go_num,by rw [HF.out],trivial⟩
             case measure=>simp [intOf];omega
           | true =>
             by_cases hq2:fv=(m:Int)
             · have HF:=Hd_ (show letE H F m ((edsT p).take (i+1))=min M eb by rw [HLS.out,HONE.out,decide_eq_true hq2];rfl)
               subst hq2
               go_wp2_with fail
               go_roundw
               case rel=>exact ⟨i+1,by omega,by go_num,by rw [HF.out];congr 1;split <;> omega,trivial⟩
               case measure=>simp [intOf];omega
             · have HF:=Hd_ (show letE H F m ((edsT p).take (i+1))=M by rw [HLS.out,HONE.out,decide_eq_false hq2];rfl)
               go_wp2_with fail
               go_roundw
               case rel=>exact ⟨i+1,by omega,by go_num,by rw [HF.out],trivial⟩
               case measure=>simp [intOf];omega
         · obtain rfl:EL=i:=by omega
           have hle:letE H F m ((edsT p).take EL)=k:=by rw [show (edsT p).take EL=edsT p from List.take_of_length_le (by rw [<- HEL.out];exact Nat.le_refl _)];exact HK1.out
           rw [hle]
           clear hle
           obtain ⟨g2,hg2⟩:∃ g2,g2=wr.heap.size:=⟨_,rfl⟩
           have hne2:g2 ≠ g:=by rw [hg2];have:=HAR.out.gLt.2;omega
           have HNO:=Hd_ (show (Value.slice A9 n9 c9).ownBlock ≠ some g2 from fun hb=>by have:=(HAR.out.out.lt g2 hb).2;omega)
           have hgw4:w4.heap.size<=g2:=by rw [hg2];exact HAR.out.only.size
           have hmx:w4.heap.size<=wr.heap.size:=HAR.out.only.size
           go_wp2_with (at_make;refine wpList_makeE (P:=Try.prog) cB false elBl rfl rfl rfl _ _ rfl w4.heap.size N _ (by rfl) (by rfl) rfl (by omega) (by unfold maxLen;omega) hmx ?_;intro w6 hrow6 hbel6;rw [<- hg2] at hrow6;have HROW6:=Hd_ hrow6;have HBEL6:=Hd_ hbel6;clear hrow6 hbel6)
           rw [<- hg2]
           have HAR:=Hd_ (HAR.out.below HBEL6.out)
           clear HED HFR hgl hws hg2 hmx HBEL6
           go_loopw [13] (fun ii wr=>∃ i:Nat,i<=EL/\ii=.int .i64 (i:Int)/\AmR w4 wr (w.heap.size+1) g N (.slice A9 n9 c9) O H/\wr.ownsRow w4.heap.size 4 1 (.slice (some ⟨g2,0,none⟩) N N) N ((setE H F m k N ((edsT p).take i)).flatMap cB)) (fun ii _=>EL - (intOf ii).toNat)
           case atStart=>exact ⟨0,Nat.zero_le _,rfl,HAR.out,HROW6.out⟩
           case round =>
            clear HAR HROW6
            obtain ⟨i,hi,rfl,har,hrow⟩:=hrel
            have HAR:=Hd_ har
            have HROW:=Hd_ hrow
            have HED:=Hd_ (HSE.out.only har.only hs24 (.inr hlo))
            have HFR:=Hd_ (HSF.out.only har.only (Nat.le_refl _) (.inr (by omega)))
            have hg2w:=(hrow.lt g2 rfl).2
            have hws:=har.only.size
            have hgl:=har.gLt.2
            clear har hrow
            by_cases hlt:i < EL
            · skip
              have hat:(edsT p)[i]?=some ((edsT p)[i]'(by rw [<- HEL.out];exact hlt)):=List.getElem?_eq_getElem _
              obtain ⟨⟨ea,eb,ec⟩,he⟩:∃ e,e=(edsT p)[i]'(by rw [<- HEL.out];exact hlt):=⟨_,rfl⟩
              rw [<- he] at hat
              have hpl:=prsT_lt H20.out _ (List.mem_of_getElem? (prsT_at hat))
              rw [<- HN.out] at hpl
              simp only at hpl
              obtain ⟨b1,o1,rfl,hb1,d0,d1,d2⟩:=HED.out.eg hat
              simp only at d0 d1 d2
              have hh0:=(HAR.out.cellH HTL.out.len hpl.1).1
              obtain ⟨bf,of,ef,hbf,hf0⟩:=HFR.out.intJ (getD_of (D:=F) (k:=ec) (by rw [HFL.out];exact hpl.2))
              cases ef
              rw [Nat.zero_add] at hf0
              obtain ⟨fv,hfv⟩:∃ f,f=F.getD ec 0:=⟨_,rfl⟩
              obtain ⟨hv,hhv⟩:∃ f,f=H.getD ea false:=⟨_,rfl⟩
              have HONE:=Hd_ (show onE H F m (ea,eb,ec)=(hv && decide (fv=(m:Int))) by rw [hhv,hfv];rfl)
              rw [<- hfv] at hf0
              rw [<- hhv] at hh0
              have hii:(i:Int) < (EL:Int):=by omega
              have hti:(ec:Int) < (N:Int):=by have:=hpl.2;omega
              have htj:(ea:Int) < (N:Int):=by have:=hpl.1;omega
              clear he hpl hfv hhv
              have HLS:=Hd_ (setE_succ (H:=H) (F:=F) (n:=m) (k:=k) (N:=N) hat)
              have hb1w:b1 < wr.heap.size:=by omega
              have hfz:=World.ownsRow.frozenAt HROW.out ec
              obtain ⟨G,hG⟩:∃ G,G=setE H F m k N ((edsT p).take i):=⟨_,rfl⟩
              rw [<- hG] at HROW HLS
              obtain ⟨uz,huz⟩:∃ u,(G.flatMap cB)[ec]?=some u:=⟨_,List.getElem?_eq_getElem (by rw [HROW.out.1];omega)⟩
              have hcz:=(World.ownsRow.cellAt HROW.out ec (by omega)).trans huz
              clear hat hG huz
              cases hv with
              | false =>
                have HF:=Hd_ (show setE H F m k N ((edsT p).take (i+1))=G by rw [HLS.out,HONE.out];rfl)
                go_wp2_with fail
                go_roundw
                case rel=>exact ⟨i+1,by omega,by go_num,HAR.out,by rw [HF.out];exact HROW.out⟩
                case measure=>simp [intOf];omega
              | true =>
                by_cases hq1:eb=k
                · by_cases hq2:fv=(m:Int)
                  · have HF:=Hd_ (show setE H F m k N ((edsT p).take (i+1))=G.set ec true by rw [HLS.out,HONE.out,decide_eq_true hq2,decide_eq_true hq1];rfl)
                    have hst:=(World.ownsRow.stored HROW.out ec (.bool true)).1
                    rw [flatB_set] at hst
                    have HST:=Hd_ hst
                    clear hst
                    subst hq2
                    subst hq1
                    go_wp2_with fail
                    go_roundw
                    case rel=>exact ⟨i+1,by omega,by go_num,HAR.out.far hne2 HNO.out hgw4 ec _,by rw [HF.out];exact HST.out⟩
                    case measure=>simp [intOf];omega
                  · have HF:=Hd_ (show setE H F m k N ((edsT p).take (i+1))=G by rw [HLS.out,HONE.out,decide_eq_false hq2];rfl)
                    subst hq1
                    go_wp2_with fail
                    go_roundw
                    case rel=>exact ⟨i+1,by omega,by go_num,HAR.out,by rw [HF.out];exact HROW.out⟩
                    case measure=>simp [intOf];omega
                · have HF:=Hd_ (show setE H F m k N ((edsT p).take (i+1))=G by rw [HLS.out,HONE.out,decide_eq_false hq1,Bool.and_false];rfl)
                  have hq3:¬ (eb:Int)=(k:Int):=by omega
                  go_wp2_with fail
                  go_roundw
                  case rel=>exact ⟨i+1,by omega,by go_num,HAR.out,by rw [HF.out];exact HROW.out⟩
                  case measure=>simp [intOf];omega
            · obtain rfl:EL=i:=by omega
              have hle:(edsT p).take EL=edsT p:=List.take_of_length_le (by rw [<- HEL.out];exact Nat.le_refl _)
              rw [hle] at HROW
              have HAS:=Hd_ (HAR.out.swap HROW.out HNO.out)
              have hlo1:w.heap.size+1<=wr.heap.size:=by omega
              have qb1:(O.length+1) * 8<=140737488355328:=by omega
              clear hle HED HFR
              go_wp2_with (at_builtin;(refine wpList_append1 cN elInt rfl _ _ rfl (w.heap.size+1) _ O k _ 1 _ (by rfl) HAS.out.out (by rfl) rfl rfl rfl (cN_one _) qb1 (by decide) hlo1 ?_);intro v8 w8 hrow8 hb8 hat8 hgr8)
              go_roundw
              case rel=>exact ⟨m,g2,nowT (nxI p) (dT p) S m k,O ++ [k],setE H F m k N (edsT p),by go_num,rfl,by rw [List.length_append,List.length_singleton];have:=HON.out;omega,HAS.out.push hrow8 hgr8 hat8,by have h:=HKT.out;rw [<- HN.out] at h;exact h,HKN.out,HKS.out,by rw [<- HOA.out,HKW.out,List.append_assoc];rfl⟩
              case measure=>(simp [intOf] <;> omega)
end Go.Proofs.Ythnapjodmndlaaa
namespace Go.Proofs.Ythnapjodmndlaaa
open Go.ChangeShapes Go.WideShapes Go.ChangeAt Go.RowKit
theorem cntStep_succ (p:Pz) (k:Nat) (C:Nat->Nat) (t i:Nat):cntStep p k C t (i+1)=if (aftP p (bit i) (k:Int)).testBit t=true then min 1000000 (cntStep p k C t i+C i) else cntStep p k C t i:=by
 rw [cntStep,List.range_succ,List.foldl_append];rfl
theorem cntStep_le (p:Pz) (k:Nat) (C:Nat->Nat) (t:Nat):∀ i,cntStep p k C t i<=1000000
 | 0=>by simp [cntStep]
 | i+1=>by
   have:=cntStep_le p k C t i
   rw [cntStep_succ]
   split <;> omega
/-- the next counts: the first s states are done, of state s the first t targets -/
def nxL (p:Pz) (k:Nat) (C:Nat->Nat) (K s t:Nat):List Nat:=(List.range K).map fun j=>if j < t then cntStep p k C j (s+1) else cntStep p k C j s
theorem nxL_len (p:Pz) (k:Nat) (C:Nat->Nat) (K s t:Nat):(nxL p k C K s t).length=K:=by simp [nxL]
theorem nxL_get {p:Pz} {k:Nat} {C:Nat->Nat} {K s t j:Nat} (h:j < K):(nxL p k C K s t)[j]?=some (if j < t then cntStep p k C j (s+1) else cntStep p k C j s):=by
 rw [nxL,List.getElem?_map,List.getElem?_range h];rfl
theorem nxL_at {p:Pz} {k:Nat} {C:Nat->Nat} {K s t:Nat} (h:t < K):(nxL p k C K s t)[t]?=some (cntStep p k C t s):=by rw [nxL_get h,if_neg (by omega)]
theorem nxL_set {p:Pz} {k:Nat} {C:Nat->Nat} {K s t:Nat} (h:t < K) (hb:(aftP p (bit s) (k:Int)).testBit t=true):nxL p k C K s (t+1)=(nxL p k C K s t).set t (min 1000000 (cntStep p k C t s+C s)):=by
 apply List.ext_getElem?
 intro j
 rw [List.getElem?_set,nxL_len]
 by_cases hj:j < K
 · rw [nxL_get hj,nxL_get hj]
   by_cases e:t=j
   · subst e
     rw [if_pos rfl,if_pos (by omega),if_pos hj,cntStep_succ,if_pos hb]
   · rw [if_neg e]
     by_cases hl:j < t
     · rw [if_pos hl,if_pos (by omega)]
     · rw [if_neg hl,if_neg (by omega)]
 · have h1:∀ t',(nxL p k C K s t')[j]?=none:=fun t'=>List.getElem?_eq_none (by rw [nxL_len];omega)
   rw [h1,h1]
   split
   · omega
   · rfl
theorem nxL_skip {p:Pz} {k:Nat} {C:Nat->Nat} {K s t:Nat} (hb:(aftP p (bit s) (k:Int)).testBit t=false):nxL p k C K s (t+1)=nxL p k C K s t:=by
 rw [nxL,nxL]
 apply List.map_congr_left
 intro j _
 by_cases hl:j < t
 · rw [if_pos hl,if_pos (by omega)]
 · rw [if_neg hl]
   by_cases e:t=j
   · subst e
     rw [if_pos (by omega),cntStep_succ,if_neg (by simp [hb])]
   · rw [if_neg (by omega)]
theorem nxL_end (p:Pz) (k:Nat) (C:Nat->Nat) (K s:Nat):nxL p k C K s K=nxL p k C K (s+1) 0:=by
 rw [nxL,nxL]
 apply List.map_congr_left
 intro j hj
 rw [List.mem_range] at hj
 rw [if_pos hj,if_neg (by omega)]
theorem nxL_none {p:Pz} {k:Nat} {C:Nat->Nat} {K s:Nat} (h:C s=0) (t:Nat):nxL p k C K s t=nxL p k C K (s+1) 0:=by
 rw [nxL,nxL]
 apply List.map_congr_left
 intro j _
 have e:cntStep p k C j (s+1)=cntStep p k C j s:=by
  rw [cntStep_succ,h,Nat.add_zero]
  have:=cntStep_le p k C j s
  split
  · omega
  · rfl
 rw [if_neg (show ¬ j < 0 by omega),e]
 split <;> rfl
theorem nxL_start (p:Pz) (k:Nat) (C:Nat->Nat) (K:Nat):nxL p k C K 0 0=List.replicate K 0:=by
 apply List.ext_getElem?
 intro j
 rw [List.getElem?_replicate]
 by_cases hj:j < K
 · rw [nxL_get hj,if_neg (by omega),if_pos hj];rfl
 · rw [if_neg hj,List.getElem?_eq_none (by rw [nxL_len];omega)]
/-- the counts behind a word, capped -/
def cntC (p:Pz) (u:List Nat) (s:Nat):Nat:=min 1000000 (nR p u s)
def cntL (p:Pz) (u:List Nat):List Nat:=(List.range (p.lets.length+1)).map (cntC p u)
theorem cntC_le (p:Pz) (u:List Nat) (s:Nat):cntC p u s<=1000000:=Nat.min_le_left _ _
theorem cntL_len (p:Pz) (u:List Nat):(cntL p u).length=p.lets.length+1:=by simp [cntL]
theorem cntL_at {p:Pz} {u:List Nat} {s:Nat} (h:s < p.lets.length+1):(cntL p u)[s]?=some (cntC p u s):=by
 rw [cntL,List.getElem?_map,List.getElem?_range h];rfl
theorem nxL_all (p:Pz) (k:Nat) (u:List Nat):nxL p k (cntC p u) (p.lets.length+1) (p.lets.length+1) 0=cntL p (k :: u):=by
 rw [nxL,cntL]
 apply List.map_congr_left
 intro j _
 rw [if_neg (by omega),cntStep_eq (C:=cntC p u) (w:=u) (fun s=>rfl)]
 rfl
theorem cntL_nil (p:Pz):(List.replicate (p.lets.length+1) 0).set 0 1=cntL p []:=by
 apply List.ext_getElem?
 intro j
 rw [List.getElem?_set,List.length_replicate,List.getElem?_replicate]
 by_cases hj:j < p.lets.length+1
 · rw [cntL_at hj,cntC,nR]
   by_cases e:0=j
   · subst e;simp
   · rw [if_neg e,if_pos hj,if_neg (by omega)];rfl
 · rw [List.getElem?_eq_none (l:=cntL p []) (by rw [cntL_len];omega),if_neg (by omega),if_neg hj]
/-- the total over the first s states -/
def totN (p:Pz) (u:List Nat) (s:Nat):Nat:=(List.range s).foldl (fun n s=>if accP p (bit s)=true then min 1000000 (n+cntC p u s) else n) 0
theorem totN_succ (p:Pz) (u:List Nat) (s:Nat):totN p u (s+1)=if accP p (bit s)=true then min 1000000 (totN p u s+cntC p u s) else totN p u s:=by
 rw [totN,List.range_succ,List.foldl_append];rfl
theorem totN_le (p:Pz) (u:List Nat):∀ s,totN p u s<=1000000
 | 0=>by simp [totN]
 | s+1=>by
   have:=totN_le p u s
   rw [totN_succ]
   split <;> omega
theorem totN_all (p:Pz) (u:List Nat):totN p u (p.lets.length+1)=min 1000000 (accR p u):=by
 rw [totN,cap_fold (f:=nR p u) (b:=fun s=>accP p (bit s)) (C:=cntC p u) (fun s=>rfl) _ 0 0 (by simp),Nat.zero_add,accR]
/-- whether a list is a word -/
def wordOk (xs:List Int):Bool:=xs.all (fun k=>wi k 0 8) && decide (xs.length<=8)
theorem wordOk_nat {xs:List Int} (h:wordOk xs=true):∃ ws:List Nat,xs=ws.map (fun n:Nat=>(n:Int))/\(∀ k ∈ ws,k < 9):=by
 rw [wordOk,Bool.and_eq_true,List.all_eq_true] at h
 refine ⟨xs.map Int.toNat,?_,?_⟩
 · rw [List.map_map]
   conv=>lhs;rw [<- List.map_id xs]
   apply List.map_congr_left
   intro k hk
   have:=wi_iff.1 (h.1 k hk)
   simp only [id,Function.comp]
   omega
 · intro k hk
   obtain ⟨x,hx,rfl⟩:=List.mem_map.1 hk
   have:=wi_iff.1 (h.1 x hx)
   omega
theorem toNat_map (ws:List Nat):(ws.map (fun n:Nat=>(n:Int))).map Int.toNat=ws:=by
 rw [List.map_map]
 conv=>rhs;rw [<- List.map_id ws]
 apply List.map_congr_left
 intro k _
 rfl
/-- what CountRuns answers -/
def cntRuns (p:Pz) (xs:List Int):Nat:=if (pzOk p && wordOk xs)=true then min 1000000 (accR p (xs.map Int.toNat).reverse) else 0
theorem cntRuns_yes {p:Pz} {ws:List Nat} (h1:pzOk p=true) (h2:wordOk (ws.map (fun n:Nat=>(n:Int)))=true):cntRuns p (ws.map (fun n:Nat=>(n:Int)))=totN p ws.reverse (p.lets.length+1):=by
 rw [cntRuns,if_pos (by rw [h1,h2];rfl),toNat_map,totN_all]
theorem cntRuns_no {p:Pz} {xs:List Int} (h:(pzOk p && wordOk xs)=false):cntRuns p xs=0:=by rw [cntRuns,if_neg (by rw [h];simp)]
/-- an ambiguous word has two runs -/
theorem runs_two {p:Pz} (h:(ambT p).2=true) (hw:wordOk (ambO p)=true):2<=cntRuns p (ambO p):=by
 cases hok:pzOk p with
 | false=>rw [ambT,if_neg (by simp [hok])] at h;cases h
 | true =>
   by_cases hd:dT p 0 < 0
   · rw [ambT,if_pos hok,if_pos hd] at h;cases h
   · have he:ambO p=(ambW p).map (fun n:Nat=>(n:Int)):=by rw [ambO,ambT,if_pos hok,if_neg hd]
     rw [he] at hw ⊢
     rw [cntRuns,if_pos (by rw [hok,hw];rfl),toNat_map]
     have:=(amb_yes (pz_facts hok).1 (by omega)).1
     omega
/-- where no word is ambiguous, every word has at most one -/
theorem runs_one {p:Pz} (h:(ambT p).2=false) (xs:List Int):cntRuns p xs<=1:=by
 cases hb:(pzOk p && wordOk xs) with
 | false=>rw [cntRuns_no hb];omega
 | true =>
   rw [Bool.and_eq_true] at hb
   obtain ⟨hok,hw⟩:=hb
   by_cases hd:dT p 0 < 0
   · rw [cntRuns,if_pos (by rw [hok,hw];rfl)]
     have:=amb_no (pz_facts hok).1 hd (w:=xs.map Int.toNat) (fun k hk=>by
      obtain ⟨x,hx,rfl⟩:=List.mem_map.1 hk
      rw [wordOk,Bool.and_eq_true,List.all_eq_true] at hw
      have:=wi_iff.1 (hw.1 x hx)
      omega)
     omega
   · rw [ambT,if_pos hok,if_neg hd] at h;cases h
end Go.Proofs.Ythnapjodmndlaaa
namespace Go.Proofs.Ythnapjodmndlaaa
open Go.ChangeShapes Go.WideShapes Go.ChangeAt Go.RowKit
attribute [local go_sem] ext_cell ext_frozen ext_lt ext_lt1 ext_lt2 ext_lt3 ltn2 ltn3 ltn13 lts1 lts2 lts3
theorem within_any (n a b:Int) (w:World):Calls Try.prog 40 #[.int .i64 n,.int .i64 a,.int .i64 b] w fun e w'=>e=.returned (.bool (wi n a b))/\w'=w:=by
 unfold wi
 by_cases h1:a<=n
 · have e1:decide (a<=n)=true:=by simpa using h1
   by_cases h2:n<=b
   · go_enter Try.func40,Try.ntmps40
     go_wp2
     go_ret
     exact ⟨by simp [h1,h2],rfl⟩
   · go_enter Try.func40,Try.ntmps40
     go_wp2
     go_ret
     exact ⟨by simp [h1];try omega,rfl⟩
 · have e1:decide (a<=n)=false:=by simpa using h1
   go_enter Try.func40,Try.ntmps40
   go_wp2
   go_ret
   exact ⟨by simp [h1];try omega,rfl⟩
theorem isLetter_any (n:Int) (w:World):Calls Try.prog 41 #[.int .i64 n] w fun e w'=>e=.returned (.bool (wi n 0 8))/\w'=w:=by
 have HW:=Hd_ within_any
 go_enter Try.func41,Try.ntmps41
 go_wp2_with (go_at_call 40;refine (HW.out _ _ _ _).mono ?_;rintro e w' ⟨rfl,rfl⟩)
 go_ret
 exact ⟨rfl,rfl⟩
theorem drop_at {xs:List Int} {i:Nat} {x:Int} (h:xs[i]?=some x):xs.drop i=x :: xs.drop (i+1):=by
 obtain ⟨hl,h⟩:=List.getElem?_eq_some_iff.1 h
 rw [List.drop_eq_getElem_cons hl,h]
set_option maxHeartbeats 4000000 in
theorem implIsWord (v:Value) (xs:List Int) (w:World) (hv:SlI 0 w.heap.size w cI 1 v xs) :
 Calls Try.prog 35 #[v] w fun e w'=>e=.returned (.bool (wordOk xs))/\w'=w:=by
 obtain ⟨R,hR⟩:∃ R,R=wordOk xs:=⟨_,rfl⟩
 rw [<- hR]
 have HR:=Hd_ (show R=((xs.drop 0).all (fun k=>wi k 0 8) && decide (xs.length<=8)) from hR)
 clear hR
 have HV:=Hd_ hv
 obtain ⟨A,c,rfl,hl,hm,-⟩:=hv
 unfold maxLen at hm
 obtain ⟨N,hN⟩:∃ N,N=xs.length:=⟨_,rfl⟩
 rw [<- hN] at hl HV HR ⊢
 have HN:=Hd_ hN
 clear hN
 go_enter Try.func35,Try.ntmps35
 go_wp2_with fail
 go_loopw [4,7] (fun _ ii wr=>∃ i:Nat,i<=N/\ii=.int .i64 (i:Int)/\wr=w/\R=((xs.drop i).all (fun k=>wi k 0 8) && decide (N<=8))) (fun _ ii _=>N - (intOf ii).toNat)
 case atStart=>exact ⟨0,Nat.zero_le _,rfl,rfl,HR.out⟩
 case round =>
  clear HR
  obtain ⟨i,hi,rfl,rfl,hr⟩:=hrel
  have HR:=Hd_ hr
  clear hr
  by_cases hlt:i < N
  · have hat:xs[i]?=some (xs[i]'(by rw [<- HN.out];exact hlt)):=List.getElem?_eq_getElem _
    generalize xs[i]'(by rw [<- HN.out];exact hlt)=x at hat
    obtain ⟨b1,o1,rfl,hb1,d0⟩:=SlI.intJ HV.out hat
    have hii:(i:Int) < (N:Int):=by omega
    have HD:=Hd_ (drop_at hat)
    clear hat
    go_wp2_with fail
    refine (isLetter_any x _).mono ?_
    rintro e w1 ⟨rfl,hw1⟩
    rw [hw1]
    clear hw1
    cases h8:wi x 0 8 with
    | false =>
      have HF:=Hd_ (show R=false by rw [HR.out,HD.out,List.all_cons,h8];rfl)
      clear h8
      go_wp2_with fail
      go_ret
      exact ⟨by rw [HF.out];rfl,rfl⟩
    | true =>
      have HF:=Hd_ (show R=((xs.drop (i+1)).all (fun k=>wi k 0 8) && decide (N<=8)) by rw [HR.out,HD.out,List.all_cons,h8,Bool.true_and])
      clear h8
      go_wp2_with fail
      go_roundw
      case rel=>exact ⟨i+1,by omega,by go_num,trivial,HF.out⟩
      case measure=>simp [intOf];omega
  · obtain rfl:N=i:=by omega
    have hfin:R=decide (N<=8):=by rw [HR.out,List.drop_eq_nil_of_le (by rw [<- HN.out];exact Nat.le_refl _)];rfl
    have HF:=Hd_ hfin
    clear hfin
    by_cases h8:N<=8
    · have h9:decide ((N:Int)<=8)=true:=by simp;omega
      have HF:=Hd_ (show R=true by rw [HF.out];simpa using h8)
      clear h8
      go_wp2_with fail
      go_ret
      exact ⟨by rw [HF.out];rfl,rfl⟩
    · have h9:decide ((N:Int)<=8)=false:=by simp;omega
      have HF:=Hd_ (show R=false by rw [HF.out];simpa using h8)
      clear h8
      go_wp2_with fail
      go_ret
      exact ⟨by rw [HF.out];rfl,rfl⟩
set_option maxHeartbeats 4000000 in
theorem specIsWord (v:Value) (xs:List Int) (w:World) (hv:SlI 0 w.heap.size w cI 1 v xs) :
 Calls Try.prog 21 #[v] w fun e w'=>e=.returned (.bool (wordOk xs))/\w'=w:=by
 obtain ⟨R,hR⟩:∃ R,R=wordOk xs:=⟨_,rfl⟩
 rw [<- hR]
 have HR:=Hd_ (show R=((xs.drop 0).all (fun k=>wi k 0 8) && decide (xs.length<=8)) from hR)
 clear hR
 have HV:=Hd_ hv
 obtain ⟨A,c,rfl,hl,hm,-⟩:=hv
 unfold maxLen at hm
 obtain ⟨N,hN⟩:∃ N,N=xs.length:=⟨_,rfl⟩
 rw [<- hN] at hl HV HR ⊢
 have HN:=Hd_ hN
 clear hN
 go_enter Try.func21,Try.ntmps21
 go_wp2_with fail
 go_loopw [3] (fun ii wr=>∃ i:Nat,i<=N/\ii=.int .i64 (i:Int)/\wr=w/\R=((xs.drop i).all (fun k=>wi k 0 8) && decide (N<=8))) (fun ii _=>N - (intOf ii).toNat)
 case atStart=>exact ⟨0,Nat.zero_le _,rfl,rfl,HR.out⟩
 case round =>
  clear HR
  obtain ⟨i,hi,rfl,rfl,hr⟩:=hrel
  have HR:=Hd_ hr
  clear hr
  by_cases hlt:i < N
  · have hat:xs[i]?=some (xs[i]'(by rw [<- HN.out];exact hlt)):=List.getElem?_eq_getElem _
    generalize xs[i]'(by rw [<- HN.out];exact hlt)=x at hat
    obtain ⟨b1,o1,rfl,hb1,d0⟩:=SlI.intJ HV.out hat
    have hii:(i:Int) < (N:Int):=by omega
    have HD:=Hd_ (drop_at hat)
    clear hat
    go_wp2_with fail
    refine (l2Letter_any x _).mono ?_
    rintro e w1 ⟨rfl,hw1⟩
    rw [hw1]
    clear hw1
    cases h8:wi x 0 8 with
    | false =>
      have HF:=Hd_ (show R=false by rw [HR.out,HD.out,List.all_cons,h8];rfl)
      clear h8
      go_wp2_with fail
      go_ret
      exact ⟨by rw [HF.out];rfl,rfl⟩
    | true =>
      have HF:=Hd_ (show R=((xs.drop (i+1)).all (fun k=>wi k 0 8) && decide (N<=8)) by rw [HR.out,HD.out,List.all_cons,h8,Bool.true_and])
      clear h8
      go_wp2_with fail
      go_roundw
      case rel=>exact ⟨i+1,by omega,by go_num,trivial,HF.out⟩
      case measure=>simp [intOf];omega
  · obtain rfl:N=i:=by omega
    have hfin:R=decide (N<=8):=by rw [HR.out,List.drop_eq_nil_of_le (by rw [<- HN.out];exact Nat.le_refl _)];rfl
    have HF:=Hd_ hfin
    clear hfin
    by_cases h8:N<=8
    · have h9:decide ((N:Int)<=8)=true:=by simp;omega
      have HF:=Hd_ (show R=true by rw [HF.out];simpa using h8)
      clear h8
      go_wp2_with fail
      go_ret
      exact ⟨by rw [HF.out];rfl,rfl⟩
    · have h9:decide ((N:Int)<=8)=false:=by simp;omega
      have HF:=Hd_ (show R=false by rw [HF.out];simpa using h8)
      clear h8
      go_wp2_with fail
      go_ret
      exact ⟨by rw [HF.out];rfl,rfl⟩
set_option maxHeartbeats 1000000 in
theorem isSet_any (n:Nat) (hn:n<=20) (s:Int) (b:Nat) (W:World) (hc:W.cell? ⟨b,0,none⟩=some (.int .i64 (n:Int))) :
 Calls Try.prog 39 #[.int .i64 s,.pointer (some ⟨b,0,none⟩)] W fun e w'=>e=.returned (.bool (setP n s))/\w'=W:=by
 have hsh:=shl_bit2 (s:=n) (by omega)
 have hsh3:=shl_bit3 (s:=n) (by omega)
 have hbl:bit n<=2 ^ 20:=Nat.pow_le_pow_right (by decide) hn
 have hsub:IntKind.i64.wrap ((bit n:Int) - 1)=(bit n:Int) - 1:=IntWalk.i64_in _ (by omega)
 have HW:=Hd_ (wi_set hn s)
 go_enter Try.func39,Try.ntmps39
 go_wp2_with fail
 refine (within_any s 0 _ _).mono ?_
 rintro e w' ⟨rfl,rfl⟩
 go_wp2_with fail
 go_ret
 exact ⟨by rw [<- HW.out];rfl,rfl⟩
set_option maxRecDepth 100000 in
set_option maxHeartbeats 4000000 in
theorem implValidPos (v:Value) (p:Pz) (w:World) (hv:PzV 0 w.heap.size w v p) :
 Calls Try.prog 26 #[v] w fun e w'=>e=.returned (.bool (pzOk p))/\Below w.heap.size w w':=by
 obtain ⟨R,hR⟩:∃ R,R=pzOk p:=⟨_,rfl⟩
 rw [<- hR]
 have HR:=Hd_ hR
 clear hR
 obtain ⟨vl,vf,rfl,⟨A,c,rfl,hl,hm,hC⟩,⟨B,d,rfl,hl2,hm2,hC2⟩⟩:=hv
 unfold maxLen at hm hm2
 obtain ⟨N,hN⟩:∃ N,N=p.lets.length:=⟨_,rfl⟩
 obtain ⟨K,hK⟩:∃ K,K=p.fol.length:=⟨_,rfl⟩
 rw [<- hN] at hl ⊢
 rw [<- hK] at hl2 ⊢
 have HN:=Hd_ hN
 have HK:=Hd_ hK
 obtain ⟨W0,hW0⟩:∃ W0,W0=(w.alloc (.cells #[.slice A N c,.int .i64 p.first,.int .i64 p.last,.slice B K d,.bool p.nul] 27)).alloc (.cells #[.int .i64 (N:Int)] 3):=⟨_,rfl⟩
 have hbk:Blk W0 w.heap.size 27 #[.slice A N c,.int .i64 p.first,.int .i64 p.last,.slice B K d,.bool p.nul]:=by rw [hW0];exact (Blk.new w _ _ _ rfl).alloc _
 have hbn:Blk W0 (w.heap.size+1) 3 #[.int .i64 (N:Int)]:=by rw [hW0];exact Blk.new _ _ _ _ (by simp)
 have hb0:Below w.heap.size w W0:=by rw [hW0];exact ((Below.refl _ _).alloc (Nat.le_refl _) _).alloc (by simp) _
 have hsz:W0.heap.size=w.heap.size+2:=by rw [hW0];simp
 have HB0:=Hd_ hb0
 have HC:=Hd_ (show ∀ (i:Nat) x,p.lets[i]?=some x->∃ b o,A=some ⟨b,o,none⟩/\b < w.heap.size/\W0.cell? ⟨b,o+i,none⟩=some (.int .i64 x) from fun i x hx=>by
  obtain ⟨b,o,hA,-,hb,hc⟩:=hC i x hx
  refine ⟨b,o,hA,by omega,kcell hb0 ?_⟩
  simpa using hc 0 _ rfl)
 have HC2:=Hd_ (show ∀ (i:Nat) x,p.fol[i]?=some x->∃ b o,B=some ⟨b,o,none⟩/\b < w.heap.size/\W0.cell? ⟨b,o+i,none⟩=some (.int .i64 x) from fun i x hx=>by
  obtain ⟨b,o,hA,-,hb,hc⟩:=hC2 i x hx
  refine ⟨b,o,hA,by omega,kcell hb0 ?_⟩
  simpa using hc 0 _ rfl)
 clear hN hK hb0 hC hC2
 go_enter Try.func26,Try.ntmps26
 have x0:W0.cell? ⟨w.heap.size,0,none⟩=some (.slice A N c):=by exact hbk.cell 0
 have x1:W0.cell? ⟨w.heap.size,1,none⟩=some (.int .i64 p.first):=by exact hbk.cell 1
 have x2:W0.cell? ⟨w.heap.size,2,none⟩=some (.int .i64 p.last):=by exact hbk.cell 2
 have x3:W0.cell? ⟨w.heap.size,3,none⟩=some (.slice B K d):=by exact hbk.cell 3
 have n0:W0.cell? ⟨w.heap.size+1,0,none⟩=some (.int .i64 (N:Int)):=by exact hbn.cell 0
 clear hbk hbn
 go_upto_region 2 with fail
 rw [<- hW0]
 clear hW0
 have HN0:=Hd_ n0
 by_cases h20:N<=20
 · have hgt:¬ (N:Int) > 20:=by omega
   have hgd:decide ((N:Int) > 20)=false:=decide_eq_false hgt
   have HSET:=Hd_ (fun (s:Int)=>isSet_any N h20 s (w.heap.size+1) W0 HN0.out)
   by_cases hKN:K=N
   · subst hKN
     have hkk:((K:Int) != (K:Int))=false:=by simp
     go_wp2_with fail
     clear hkk hgt hgd
     go_loopw [5,6,23] (fun _ _ ii wr=>∃ (i:Nat),i<=K/\ii=.int .i64 (i:Int)/\wr=W0/\okTo p i) (fun _ _ ii _=>K - (intOf ii).toNat)
     case atStart=>exact ⟨0,Nat.zero_le _,rfl,rfl,okTo_zero p⟩
     case round =>
      obtain ⟨i,hi,rfl,rfl,hto⟩:=hrel
      have HTO:=Hd_ hto
      clear hto
      by_cases hlt:i < K
      · have hxi:p.lets[i]?=some (p.lets[i]'(by rw [<- HN.out];exact hlt)):=List.getElem?_eq_getElem _
        have hyi:p.fol[i]?=some (p.fol[i]'(by rw [<- HK.out];exact hlt)):=List.getElem?_eq_getElem _
        generalize p.lets[i]'(by rw [<- HN.out];exact hlt)=x at hxi
        generalize p.fol[i]'(by rw [<- HK.out];exact hlt)=y at hyi
        obtain ⟨b1,o1,rfl,hb1,d0⟩:=HC.out i x hxi
        obtain ⟨b2,o2,rfl,hb2,e0⟩:=HC2.out i y hyi
        have HOX:=Hd_ (okTo_step HTO.out hxi hyi)
        have HNX:=Hd_ (okTo_no (p:=p) hxi hyi)
        have hii:(i:Int) < (K:Int):=by omega
        have HSY:=Hd_ (HSET.out y)
        have HLX:=Hd_ (isLetter_any x wr)
        clear hxi hyi
        go_wp2_with fail
        refine HLX.out.mono ?_
        rintro e w1 ⟨rfl,rfl⟩
        cases h3:wi x 0 8 with
        | false =>
          have HF:=Hd_ (show R=false by rw [HR.out];exact pz_no fun h=>HNX.out (.inl h3) h)
          clear h3
          go_wp2_with fail
          go_ret
          exact ⟨by rw [HF.out];rfl,HB0.out⟩
        | true =>
          have H3:=Hd_ h3
          clear h3
          go_wp2_with fail
          refine HSY.out.mono ?_
          rintro e w2 ⟨rfl,rfl⟩
          cases h4:setP K y with
          | false =>
            have HF:=Hd_ (show R=false by rw [HR.out];exact pz_no fun h=>HNX.out (.inr (by rw [<- HN.out];exact h4)) h)
            clear h4
            go_wp2_with fail
            go_ret
            exact ⟨by rw [HF.out];rfl,HB0.out⟩
          | true =>
            have HNW:=Hd_ (HOX.out H3.out (by rw [<- HN.out];exact h4))
            clear h4
            go_wp2_with fail
            go_roundw
            case rel=>exact ⟨i+1,by omega,by go_num,trivial,HNW.out⟩
            case measure=>simp [intOf];omega
      · obtain rfl:i=K:=by omega
        have HS1:=Hd_ (HSET.out p.first)
        have HS2:=Hd_ (HSET.out p.last)
        clear hlt
        go_wp2_with fail
        refine HS1.out.mono ?_
        rintro e w1 ⟨rfl,rfl⟩
        cases h1:setP i p.first with
        | false =>
          have HF:=Hd_ (show R=false by rw [HR.out];exact pz_no fun h=>by have:=(pz_facts h).2.2.2.2.1;rw [<- HN.out,h1] at this;cases this)
          clear h1
          go_wp2_with fail
          go_ret
          exact ⟨by rw [HF.out];rfl,HB0.out⟩
        | true =>
          have H1:=Hd_ h1
          clear h1
          go_wp2_with fail
          refine HS2.out.mono ?_
          rintro e w2 ⟨rfl,rfl⟩
          have HF:=Hd_ (show R=setP i p.last by
           rw [HR.out]
           cases h2:setP i p.last with
           | false=>exact pz_no fun h=>by have:=(pz_facts h).2.2.2.2.2;rw [<- HN.out,h2] at this;cases this
           | true=>exact okTo_all (by rw [<- HN.out];exact h20) (by rw [<- HK.out,<- HN.out]) (by rw [<- HN.out];exact HTO.out) (by rw [<- HN.out];exact H1.out) (by rw [<- HN.out];exact h2))
          go_wp2_with fail
          go_ret
          exact ⟨by rw [HF.out];rfl,HB0.out⟩
   · have hkk:((K:Int) != (N:Int))=true:=by simpa using fun h=>hKN (by omega)
     have HF:=Hd_ (show R=false by rw [HR.out];exact pz_no fun h=>hKN (by rw [HK.out,HN.out];exact (pz_facts h).2.1))
     go_wp2_with fail
     go_ret
     exact ⟨by rw [HF.out];rfl,HB0.out⟩
 · have hgt:(N:Int) > 20:=by omega
   have hgd:decide ((N:Int) > 20)=true:=decide_eq_true hgt
   have hgd2:decide (20 < N)=true:=decide_eq_true (by omega)
   have HF:=Hd_ (show R=false by rw [HR.out];exact pz_no fun h=>h20 (by rw [HN.out];exact (pz_facts h).1))
   go_wp2_with fail
   go_ret
   exact ⟨by rw [HF.out];rfl,HB0.out⟩
theorem flatN_atC {xs:List Nat} {t:Nat} {x:Nat} (h:xs[t]?=some x):(xs.flatMap cN)[t]?=some (.int .i64 (x:Int)):=by
 have:=flat_at cN_len h 0 _ rfl
 simpa using this
theorem flatN_setC (xs:List Nat) (t:Nat) (x:Nat):(xs.flatMap cN).set t (.int .i64 (x:Int))=(xs.set t x).flatMap cN:=by
 induction xs generalizing t with
 | nil=>rfl
 | cons y ys ih =>
   cases t with
   | zero=>rfl
   | succ t=>simp only [List.flatMap_cons,List.set_cons_succ,cN,List.cons_append,List.nil_append];rw [ih]
theorem elCn:ElemOk Try.prog 22 3 (.int .i64 0) 1 8:=⟨Try.underlying22,by kernel_rfl,rfl,by omega⟩
/-- a row of counts in the block g -/
def CnR (B:Nat) (w:World) (g K:Nat) (C:List Nat):Prop:=w.ownsRow B 3 1 (.slice (some ⟨g,0,none⟩) K K) K (C.flatMap cN)
set_option maxRecDepth 100000 in
set_option maxHeartbeats 8000000 in
theorem implCount (v vw:Value) (p:Pz) (xs:List Int) (w:World) (hv:PzV 0 w.heap.size w v p) (hw:SlI 0 w.heap.size w cI 1 vw xs) :
 Calls Try.prog 22 #[v,vw] w fun e w'=>e=.returned (.int .i64 (cntRuns p xs:Int))/\Below w.heap.size w w':=by
 obtain ⟨R,hR⟩:∃ R,R=cntRuns p xs:=⟨_,rfl⟩
 rw [<- hR]
 have HR:=Hd_ hR
 clear hR
 have HV:=Hd_ hv
 have HW:=Hd_ hw
 have HVP:=Hd_ (fun W (h:Below w.heap.size w W)=>implValidPos v p W (hv.keep h))
 have HIW:=Hd_ (fun W (h:Below w.heap.size w W)=>implIsWord vw xs W ((hw.below h (Nat.le_refl _)).mono (Nat.le_refl _) h.size))
 obtain ⟨vq,vf,rfl,h1,h2⟩:=hv
 obtain ⟨A,c,rfl,hlA,hmA,-⟩:=h1
 obtain ⟨B0,n2,c2,rfl⟩:=h2.shape
 obtain ⟨A3,c3,rfl,hl3,hm3,-⟩:=hw
 unfold maxLen at hm3
 obtain ⟨W0,hW0⟩:∃ W0,W0=w.alloc (.cells #[.slice A p.lets.length c,.int .i64 p.first,.int .i64 p.last,.slice B0 n2 c2,.bool p.nul] 27):=⟨_,rfl⟩
 have hbp:Blk W0 w.heap.size 27 #[.slice A p.lets.length c,.int .i64 p.first,.int .i64 p.last,.slice B0 n2 c2,.bool p.nul]:=by rw [hW0];exact Blk.new _ _ _ _ rfl
 have hb0:Below w.heap.size w W0:=by rw [hW0];exact (Below.refl _ _).alloc (Nat.le_refl _) _
 have hsz:W0.heap.size=w.heap.size+1:=by rw [hW0];simp
 have HBP:=Hd_ hbp
 have HB0:=Hd_ hb0
 obtain ⟨K0,hK0⟩:∃ K0,K0=p.lets.length:=⟨_,rfl⟩
 rw [<- hK0] at hbp HBP HV HVP hW0 ⊢ hlA
 obtain ⟨M,hM⟩:∃ M,M=xs.length:=⟨_,rfl⟩
 rw [<- hM] at hl3 HIW HW ⊢
 have HM:=Hd_ hM
 have x0:W0.cell? ⟨w.heap.size,0,none⟩=some (.slice A K0 c):=by exact hbp.cell 0
 have x1:W0.cell? ⟨w.heap.size,1,none⟩=some (.int .i64 p.first):=by exact hbp.cell 1
 have x2:W0.cell? ⟨w.heap.size,2,none⟩=some (.int .i64 p.last):=by exact hbp.cell 2
 have x3:W0.cell? ⟨w.heap.size,3,none⟩=some (.slice B0 n2 c2):=by exact hbp.cell 3
 have x4:W0.cell? ⟨w.heap.size,4,none⟩=some (.bool p.nul):=by exact hbp.cell 4
 have hl0:w.heap.size < W0.heap.size:=by omega
 have HK0:=Hd_ hK0
 clear h2 hbp hb0 hM hlA hmA hK0
 go_enter Try.func22,Try.ntmps22
 go_upto_region 1 with fail
 rw [<- hW0]
 clear hW0
 go_wp2_with fail
 refine (HVP.out _ HB0.out).mono ?_
 rintro e w1 ⟨rfl,hb1⟩
 have x0:=kcell hb1 x0
 have x1:=kcell hb1 x1
 have x2:=kcell hb1 x2
 have x3:=kcell hb1 x3
 have x4:=kcell hb1 x4
 have hl0:=Nat.lt_of_lt_of_le hl0 hb1.size
 have HB1:=Hd_ (below_trans HB0.out hb1)
 have HBP:=Hd_ (HBP.out.keep hb1)
 clear hb1 HVP hsz HB0
 cases hok:pzOk p with
 | false =>
   have HF:=Hd_ (show R=0 by rw [HR.out,cntRuns_no (by rw [hok];rfl)])
   clear hok
   go_wp2_with fail
   go_ret
   exact ⟨by rw [HF.out];rfl,HB1.out⟩
 | true =>
   have HOK:=Hd_ hok
   clear hok
   go_wp2_with fail
   refine (HIW.out _ HB1.out).mono ?_
   rintro e w2 ⟨rfl,hw2⟩
   rw [hw2]
   clear hw2 HIW
   cases hwk:wordOk xs with
   | false =>
     have HF:=Hd_ (show R=0 by rw [HR.out,cntRuns_no (by rw [hwk,Bool.and_false])])
     clear hwk
     go_wp2_with fail
     go_ret
     exact ⟨by rw [HF.out];rfl,HB1.out⟩
   | true =>
     have h20:=(pz_facts HOK.out).1
     obtain ⟨ws,rfl,hws⟩:=wordOk_nat hwk
     have HRT:=Hd_ (show R=totN p ws.reverse (p.lets.length+1) by rw [HR.out,cntRuns_yes HOK.out hwk])
     have HWS:=Hd_ hws
     obtain ⟨K,hK⟩:∃ K,K=K0+1:=⟨_,rfl⟩
     have HKP:=Hd_ (show p.lets.length+1=K by have:=HK0.out;omega)
     have hKi:(K0:Int)+1=(K:Int):=by omega
     have hKp:0 < K:=by omega
     have hKn:K<=21:=by have:=HK0.out;omega
     have hwrK:IntKind.i64.wrap ((K0:Int)+1)=(K:Int):=by rw [IntWalk.i64_in _ (by omega)];omega
     clear hwk hws hK h20 HR
     have hML:M=ws.length:=by have:=HM.out;simpa using this
     have HML:=Hd_ hML
     clear hML HM
     go_upto_region 4 with fail
     clear hwrK hKi
     obtain ⟨B,hB⟩:∃ B,B=w1.heap.size:=⟨_,rfl⟩
     have hz0:((List.replicate K 0).flatMap cN)[0]?=some (.int .i64 ((0:Nat):Int)):=flatN_atC (by rw [List.getElem?_replicate,if_pos hKp])
     have HZ:=Hd_ hz0
     clear hz0
     go_upto_region 6 with (at_make;refine wpList_makeE (P:=Try.prog) cN 0 elCn rfl rfl rfl _ _ rfl w1.heap.size K _ (by rfl) (by rfl) rfl (by omega) (by unfold maxLen;omega) (Nat.le_refl _) ?_;intro w3 hrow3 hbel3;have HROW3:=Hd_ hrow3;have HBEL3:=Hd_ hbel3;have hc3:=(World.ownsRow.cellAt hrow3 0 (by omega)).trans HZ.out;have hf3:=World.ownsRow.frozenAt hrow3 0;have hl3':=(hrow3.lt _ rfl).2;clear hrow3 hbel3)
     have hst:CnR B (w3.setCell ⟨w1.heap.size,0,none⟩ (.int .i64 1)) w1.heap.size K (cntL p []):=by
      have h:=(World.ownsRow.stored HROW3.out 0 (.int .i64 ((1:Nat):Int))).1
      rw [flatN_setC] at h
      rw [<- cntL_nil,HKP.out,hB]
      exact h
     have hbel:=Below.trans HBEL3.out (Only.below (Only.setCell (Only.refl w1.heap.size (w1.heap.size+1) w3) (p:=⟨w1.heap.size,0,none⟩) (.inl ⟨Nat.le_refl _,Nat.lt_succ_self _⟩) (.int .i64 1)) (Nat.le_refl _) HBEL3.out.size)
     rw [<- hB] at hst hbel ⊢
     have HST:=Hd_ hst
     have HBEL:=Hd_ hbel
     have hBw1:w.heap.size < B:=by rw [hB];exact hl0
     have HAF:=Hd_ (fun (s k:Nat) (W:World) (X:Nat) (h:Below w.heap.size w W) (hs:s < 2 ^ 21) (hX:X=aftP p s (k:Int))=>show Calls Try.prog 36 #[.agg #[.slice A K0 c,.int .i64 p.first,.int .i64 p.last,.slice B0 n2 c2,.bool p.nul],.int .i64 (s:Int),.int .i64 (k:Int)] W fun e w'=>e=.returned (.int .i64 (X:Int))/\Below W.heap.size W w' by rw [hX];exact implAfter _ p s (k:Int) W (HV.out.keep h) HOK.out hs)
     have HAC:=Hd_ (fun (s:Nat) (W:World) (b:Bool) (h:Below w.heap.size w W) (hs:s < 2 ^ 21) (hb:b=accP p s)=>show Calls Try.prog 37 #[.agg #[.slice A K0 c,.int .i64 p.first,.int .i64 p.last,.slice B0 n2 c2,.bool p.nul],.int .i64 (s:Int)] W fun e w'=>e=.returned (.bool b)/\Below W.heap.size W w' by rw [hb];exact implAccepts _ p s W (HV.out.keep h) HOK.out hs)
     clear hst hbel HROW3 HBEL3 HZ hc3 hf3 hl3' x0 x1 x2 x3 x4 hl0 hB
     generalize w3.setCell ⟨B,0,none⟩ (.int .i64 1)=w4 at *
     go_wp2_with fail
     go_loopw [6,8,9,10,11,12,34] (fun rr _ _ _ _ _ ii wr=>∃ (i g:Nat),i<=M/\ii=.int .i64 (i:Int)/\rr=.slice (some ⟨g,0,none⟩) K K/\CnR B wr g K (cntL p (ws.take i).reverse)/\Below B w1 wr) (fun _ _ _ _ _ _ ii _=>M - (intOf ii).toNat)
     case atStart=>exact ⟨0,B,Nat.zero_le _,rfl,rfl,by simpa using HST.out,HBEL.out⟩
     case round =>
      clear HST HBEL
      obtain ⟨i,g,hi,rfl,rfl,hrow,hbel⟩:=hrel
      obtain ⟨wo,rfl⟩:∃ wo:World,wo=wr:=⟨_,rfl⟩
      obtain ⟨u,hu⟩:∃ u,u=(ws.take i).reverse:=⟨_,rfl⟩
      rw [<- hu] at hrow
      have HU:=Hd_ hu
      have HROW:=Hd_ hrow
      have HBEL:=Hd_ hbel
      have hBw:=HB1.out.trans (hbel.mono (by omega))
      have hgl:=(hrow.lt g rfl).2
      have hgB:=(hrow.lt g rfl).1
      have hwB:=hbel.size
      clear hu
      by_cases hlt:i < M
      · have hat:ws[i]?=some (ws[i]'(by rw [<- HML.out];exact hlt)):=List.getElem?_eq_getElem _
        generalize ws[i]'(by rw [<- HML.out];exact hlt)=k at hat
        have hk9:k < 9:=HWS.out k (List.mem_of_getElem? hat)
        obtain ⟨b1,o1,rfl,hb1,d0⟩:=SlI.intJ HW.out (show (ws.map (fun n:Nat=>(n:Int)))[i]?=some (k:Int) by rw [List.getElem?_map,hat];rfl)
        have d0:=kcell hBw d0
        have hb1w:b1 < wo.heap.size:=Nat.lt_of_lt_of_le hb1 hBw.size
        have hii:(i:Int) < (M:Int):=by omega
        have HU2:=Hd_ (show (ws.take (i+1)).reverse=k :: u by rw [take_snoc hat,List.reverse_append,<- HU.out];rfl)
        obtain ⟨g2,hg2⟩:∃ g2,g2=wo.heap.size:=⟨_,rfl⟩
        have hg2B:B<=wo.heap.size:=by omega
        have HG2:=Hd_ hg2
        clear hat hrow hbel hBw
        go_wp2_with (at_make;refine wpList_makeE (P:=Try.prog) cN 0 elCn rfl rfl rfl _ _ rfl B K _ (by rfl) (by rfl) rfl (by omega) (by unfold maxLen;omega) hg2B ?_;intro w5 hrow5 hbel5;rw [<- hg2] at hrow5;have HROW5:=Hd_ hrow5;have HBEL5:=Hd_ hbel5;clear hrow5 hbel5)
        rw [<- hg2]
        have h1:CnR B w5 g2 K (nxL p k (cntC p u) K 0 0):=by rw [nxL_start];exact HROW5.out
        have h2:CnR B w5 g K (cntL p u):=ownsRow_below HROW.out HBEL5.out (Nat.le_refl _)
        have h3:Below B w1 w5:=HBEL.out.trans (HBEL5.out.mono hg2B)
        have hne:g2 ≠ g:=by omega
        have hiM:=hlt
        have H1:=Hd_ h1
        have H2:=Hd_ h2
        have H3:=Hd_ h3
        clear h1 h2 h3 hg2 hgl d0 hb1w hb1 hlt HROW HBEL HROW5 HBEL5 hii
        go_loopw [10,11,12,42] (fun _ _ _ ii wr=>∃ s:Nat,s<=K/\ii=.int .i64 (s:Int)/\CnR B wr g2 K (nxL p k (cntC p u) K s 0)/\CnR B wr g K (cntL p u)/\Below B w1 wr) (fun _ _ _ ii _=>K - (intOf ii).toNat)
        case atStart=>exact ⟨0,Nat.zero_le _,rfl,H1.out,H2.out,H3.out⟩
        case round =>
         clear H1 H2 H3
         obtain ⟨s,hs,rfl,h1,h2,h3⟩:=hrel
         obtain ⟨ws1,rfl⟩:∃ ws1:World,ws1=wr:=⟨_,rfl⟩
         have H1:=Hd_ h1
         have H2:=Hd_ h2
         have H3:=Hd_ h3
         have hgl:=(h2.lt g rfl).2
         by_cases hlt:s < K
         · obtain ⟨n,hn⟩:∃ n,n=cntC p u s:=⟨_,rfl⟩
           have hcs:=(World.ownsRow.cellAt h2 s (by omega)).trans (flatN_atC (cntL_at (by rw [HKP.out];exact hlt)))
           rw [<- hn] at hcs
           have hn6:n<=1000000:=by rw [hn];exact cntC_le p u s
           have HN:=Hd_ hn
           have hss:(s:Int) < (K:Int):=by omega
           clear hn h1 h2 h3
           go_wp2_with fail
           clear hcs hgl hss
           go_loopw [12] (fun tt wr=>∃ t:Nat,t<=K/\tt=.int .i64 (t:Int)/\CnR B wr g2 K (nxL p k (cntC p u) K s t)/\CnR B wr g K (cntL p u)/\Below B w1 wr) (fun tt _=>K - (intOf tt).toNat)
           case atStart=>exact ⟨0,Nat.zero_le _,rfl,H1.out,H2.out,H3.out⟩
           case round =>
            clear H1 H2 H3
            obtain ⟨t,ht,rfl,h1,h2,h3⟩:=hrel
            have H1:=Hd_ h1
            have H2:=Hd_ h2
            have H3:=Hd_ h3
            have hg2l:=(h1.lt g2 rfl).2
            have hg2B':=(h1.lt g2 rfl).1
            by_cases hn0:n=0
            · subst hn0
              have HE:=Hd_ (show nxL p k (cntC p u) K s t=nxL p k (cntC p u) K (s+1) 0 from nxL_none HN.out.symm t)
              clear h1 h2 h3
              go_wp2_with fail
              go_roundw
              case rel=>exact ⟨s+1,by omega,by go_num,by rw [<- HE.out];exact H1.out,H2.out,H3.out⟩
              case measure=>simp [intOf];omega
            · have hnp:(n:Int) > 0:=by omega
              have hnd:decide ((n:Int) > 0)=true:=decide_eq_true hnp
              by_cases htK:t < K
              · have htt:(t:Int) < (K:Int):=by omega
                obtain ⟨X,hX⟩:∃ X,X=aftP p (bit s) (k:Int):=⟨_,rfl⟩
                have hXl:X < 2 ^ 21:=by rw [hX];exact aftI_lt p (folP p (bit s) p.lets.length) (k:Int) p.lets.length (pz_facts HOK.out).1
                have hbs:bit s < 2 ^ 21:=Nat.pow_lt_pow_right (by decide) (by omega)
                have hsa:=shl_bit2 (s:=s) (by omega)
                have hsa3:=shl_bit3 (s:=s) (by omega)
                have hbp:Blk wr w.heap.size 27 #[.slice A K0 c,.int .i64 p.first,.int .i64 p.last,.slice B0 n2 c2,.bool p.nul]:=(h3.block w.heap.size hBw1).trans HBP.out
                have HBX:=Hd_ (HB1.out.trans (h3.mono (by omega)))
                have x0:wr.cell? ⟨w.heap.size,0,none⟩=some (.slice A K0 c):=by exact hbp.cell 0
                have x1:wr.cell? ⟨w.heap.size,1,none⟩=some (.int .i64 p.first):=by exact hbp.cell 1
                have x2:wr.cell? ⟨w.heap.size,2,none⟩=some (.int .i64 p.last):=by exact hbp.cell 2
                have x3:wr.cell? ⟨w.heap.size,3,none⟩=some (.slice B0 n2 c2):=by exact hbp.cell 3
                have x4:wr.cell? ⟨w.heap.size,4,none⟩=some (.bool p.nul):=by exact hbp.cell 4
                have hl0:=hbp.lt
                have HX:=Hd_ hX
                clear hX hbp h2 h3
                cases hbt:X.testBit t with
                | false =>
                  have hci:(bits .and .i64 ((X:Int) / 2 ^ t) 1==1)=false:=by rw [bit_off (by omega) (by omega) hbt];rfl
                  have HE:=Hd_ (show nxL p k (cntC p u) K s (t+1)=nxL p k (cntC p u) K s t from nxL_skip (by rw [<- HX.out];exact hbt))
                  clear hbt h1
                  go_wp2_with fail
                  refine wp_region_ext_lit (by kernel_rfl) (by kernel_rfl) ?_
                  repeat (go_big_quiet_step ((go_at_call 36;exact Calls.ext_of (HAF.out _ _ _ _ (below_trans HBX.out (ext_below _ _)) hbs HX.out))))
                  refine wpQuiet_nil ?_
                  rintro _ ⟨u2,rfl⟩
                  go_wp2_with fail
                  go_roundw
                  case rel=>exact ⟨t+1,by omega,by go_num,by rw [HE.out];exact ownsRow_below H1.out (ext_below wr u2) (Nat.le_refl _),ownsRow_below H2.out (ext_below wr u2) (Nat.le_refl _),H3.out.trans ((ext_below wr u2).mono (by omega))⟩
                  case measure=>simp [intOf];omega
                | true =>
                  have hci:(bits .and .i64 ((X:Int) / 2 ^ t) 1==1)=true:=by rw [bit_on (by omega) (by omega) hbt];rfl
                  obtain ⟨x,hx⟩:∃ x,x=cntStep p k (cntC p u) t s:=⟨_,rfl⟩
                  have hx6:x<=1000000:=by rw [hx];exact cntStep_le _ _ _ _ _
                  have hct:=(World.ownsRow.cellAt h1 t (by omega)).trans (flatN_atC (nxL_at htK))
                  rw [<- hx] at hct
                  obtain ⟨y,hy⟩:∃ y,y=min 1000000 (x+n):=⟨_,rfl⟩
                  have HE:=Hd_ (show nxL p k (cntC p u) K s (t+1)=(nxL p k (cntC p u) K s t).set t y by rw [hy,hx,HN.out];exact nxL_set htK (by rw [<- HX.out];exact hbt))
                  have hwr1:IntKind.i64.wrap ((x:Int)+(n:Int))=((x+n:Nat):Int):=by rw [IntWalk.i64_in _ (by omega)];omega
                  have HY:=Hd_ hy
                  have HHX:=Hd_ hx
                  clear hbt h1 hx hy
                  go_wp2_with fail
                  refine wp_region_ext_lit (by kernel_rfl) (by kernel_rfl) ?_
                  repeat (go_big_quiet_step ((go_at_call 36;exact Calls.ext_of (HAF.out _ _ _ _ (below_trans HBX.out (ext_below _ _)) hbs HX.out))))
                  refine wpQuiet_nil ?_
                  rintro _ ⟨u2,rfl⟩
                  have R1:=Hd_ (show CnR B (ext wr u2) g2 K (nxL p k (cntC p u) K s t) from ownsRow_below H1.out (ext_below wr u2) (Nat.le_refl _))
                  have hct:=kcell (ext_below wr u2) hct
                  have hfz:=World.ownsRow.frozenAt R1.out t
                  have hg2l:=(World.ownsRow.lt R1.out g2 rfl).2
                  go_wp2_with fail
                  go_roundw
                  case rel =>
                   refine ⟨t+1,by omega,by go_num,?_,?_,?_⟩
                   · have hmin:(if (x:Int)+(n:Int) < 1000000 then (x:Int)+(n:Int) else 1000000)=(y:Int):=by rw [HY.out];split <;> omega
                     rw [hmin,HE.out]
                     have h:=(World.ownsRow.stored R1.out t (.int .i64 (y:Int))).1
                     rw [flatN_setC] at h
                     exact h
                   · exact ownsRow_block (ownsRow_below H2.out (ext_below wr u2) (Nat.le_refl _)) fun b hb=>Below.heap_setCell _ _ _ _ (fun e=>hne (by have hb:some g=some b:=hb;injection hb with hb;rw [hb];exact e.symm))
                   · exact (H3.out.trans ((ext_below wr u2).mono (by omega))).trans (Only.below (Only.setCell (Only.refl g2 (g2+1) (ext wr u2)) (p:=⟨g2,t,none⟩) (.inl ⟨Nat.le_refl _,Nat.lt_succ_self _⟩) _) hg2B' (by have:=(ext_below wr u2).size;omega))
                  case measure=>simp [intOf];omega
              · obtain rfl:t=K:=by omega
                have HE:=Hd_ (nxL_end p k (cntC p u) t s)
                have htt:¬ (t:Int) < (t:Int):=by omega
                clear h1 h2 h3
                go_wp2_with fail
                go_roundw
                case rel=>exact ⟨s+1,by omega,by go_num,by rw [<- HE.out];exact H1.out,H2.out,H3.out⟩
                case measure=>simp [intOf];omega
         · obtain rfl:K=s:=by omega
           have HE:=Hd_ (show nxL p k (cntC p u) K K 0=cntL p (k :: u) by rw [<- HKP.out];exact nxL_all p k u)
           clear h1 h2 h3
           go_wp2_with fail
           go_roundw
           case rel=>exact ⟨i+1,g2,by omega,by go_num,rfl,by rw [HU2.out,<- HE.out];exact H1.out,H3.out⟩
           case measure=>simp [intOf];omega
      · obtain rfl:M=i:=by omega
        have hur:u=ws.reverse:=by rw [HU.out,List.take_of_length_le (by rw [<- HML.out];exact Nat.le_refl _)]
        subst hur
        clear hrow hbel hBw
        go_wp2_with fail
        go_loopw [13,14,15,80] (fun tt _ _ ii wr=>∃ s:Nat,s<=K/\ii=.int .i64 (s:Int)/\tt=.int .i64 ((totN p ws.reverse s:Nat):Int)/\CnR B wr g K (cntL p ws.reverse)/\Below B w1 wr) (fun _ _ _ ii _=>K - (intOf ii).toNat)
        case atStart=>exact ⟨0,Nat.zero_le _,rfl,rfl,HROW.out,HBEL.out⟩
        case round =>
         clear HROW HBEL
         obtain ⟨s,hs,rfl,rfl,h2,h3⟩:=hrel
         have H2:=Hd_ h2
         have H3:=Hd_ h3
         have hgl:=(h2.lt g rfl).2
         have hgB':=(h2.lt g rfl).1
         obtain ⟨x,hx⟩:∃ x,x=totN p ws.reverse s:=⟨_,rfl⟩
         rw [<- hx]
         by_cases hlt:s < K
         · obtain ⟨n,hn⟩:∃ n,n=cntC p ws.reverse s:=⟨_,rfl⟩
           have hcs:=(World.ownsRow.cellAt h2 s (by omega)).trans (flatN_atC (cntL_at (by rw [HKP.out];exact hlt)))
           rw [<- hn] at hcs
           have hn6:n<=1000000:=by rw [hn];exact cntC_le p ws.reverse s
           have hx6:x<=1000000:=by rw [hx];exact totN_le p ws.reverse s
           have HT:=Hd_ (show totN p ws.reverse (s+1)=if accP p (bit s)=true then min 1000000 (x+n) else x by rw [totN_succ,hx,hn])
           have hss:(s:Int) < (K:Int):=by omega
           have hbs:bit s < 2 ^ 21:=Nat.pow_lt_pow_right (by decide) (by omega)
           have hsa:=shl_bit2 (s:=s) (by omega)
           have hsa3:=shl_bit3 (s:=s) (by omega)
           have hbp:Blk wr w.heap.size 27 #[.slice A K0 c,.int .i64 p.first,.int .i64 p.last,.slice B0 n2 c2,.bool p.nul]:=(h3.block w.heap.size hBw1).trans HBP.out
           have HBX:=Hd_ (HB1.out.trans (h3.mono (by omega)))
           have x0:wr.cell? ⟨w.heap.size,0,none⟩=some (.slice A K0 c):=by exact hbp.cell 0
           have x1:wr.cell? ⟨w.heap.size,1,none⟩=some (.int .i64 p.first):=by exact hbp.cell 1
           have x2:wr.cell? ⟨w.heap.size,2,none⟩=some (.int .i64 p.last):=by exact hbp.cell 2
           have x3:wr.cell? ⟨w.heap.size,3,none⟩=some (.slice B0 n2 c2):=by exact hbp.cell 3
           have x4:wr.cell? ⟨w.heap.size,4,none⟩=some (.bool p.nul):=by exact hbp.cell 4
           have hl0:=hbp.lt
           obtain ⟨q,hq⟩:∃ q,q=accP p (bit s):=⟨_,rfl⟩
           have HQ:=Hd_ hq
           rw [<- hq] at HT
           have hwr1:IntKind.i64.wrap ((x:Int)+(n:Int))=((x+n:Nat):Int):=by rw [IntWalk.i64_in _ (by omega)];omega
           clear hbp h2 h3 hx hn hq
           cases q with
           | false =>
             go_wp2_with fail
             refine wp_region_ext_lit (by kernel_rfl) (by kernel_rfl) ?_
             repeat (go_big_quiet_step ((go_at_call 37;exact Calls.ext_of (HAC.out _ _ _ (below_trans HBX.out (ext_below _ _)) hbs HQ.out))))
             refine wpQuiet_nil ?_
             rintro _ ⟨u2,rfl⟩
             go_wp2_with fail
             go_roundw
             case rel=>exact ⟨s+1,by omega,by go_num,by rw [HT.out];rfl,ownsRow_below H2.out (ext_below wr u2) (Nat.le_refl _),H3.out.trans ((ext_below wr u2).mono (by omega))⟩
             case measure=>simp [intOf];omega
           | true =>
             go_wp2_with fail
             refine wp_region_ext_lit (by kernel_rfl) (by kernel_rfl) ?_
             repeat (go_big_quiet_step ((go_at_call 37;exact Calls.ext_of (HAC.out _ _ _ (below_trans HBX.out (ext_below _ _)) hbs HQ.out))))
             refine wpQuiet_nil ?_
             rintro _ ⟨u2,rfl⟩
             go_wp2_with fail
             go_roundw
             case rel =>
              have hmin:(if (x:Int)+(n:Int) < 1000000 then (x:Int)+(n:Int) else 1000000)=((min 1000000 (x+n):Nat):Int):=by split <;> omega
              exact ⟨s+1,by omega,by go_num,by rw [HT.out,hmin];rfl,ownsRow_below H2.out (ext_below wr u2) (Nat.le_refl _),H3.out.trans ((ext_below wr u2).mono (by omega))⟩
             case measure=>simp [intOf];omega
         · obtain rfl:K=s:=by omega
           have HF:=Hd_ (show R=x by rw [HRT.out,HKP.out,hx])
           have HBF:=Hd_ (HB1.out.trans (h3.mono (by omega)))
           clear h2 h3 hx
           go_wp2_with fail
           go_ret
           exact ⟨by rw [HF.out];rfl,HBF.out⟩
end Go.Proofs.Ythnapjodmndlaaa
namespace Go.Proofs.Ythnapjodmndlaaa
open Go.ChangeShapes Go.WideShapes Go.ChangeAt Go.RowKit Go.Maps
/-- how an element is told: by itself -/
def encS:Value->Option (DataW Unit × List MemPlace)
 | .bool x=>some (.lit (.bool x),[])
 | .int .i64 a=>some (.lit (.int .i64 a),[])
 | .slice none n c=>some (.slice [.lit (.int .i64 (n:Int)),.lit (.int .i64 (c:Int))] [],[])
 | .slice (some ⟨g,o,none⟩) n c=>some (.slice [.lit (.int .i64 (g:Int)),.lit (.int .i64 (o:Int)),.lit (.int .i64 (n:Int)),.lit (.int .i64 (c:Int))] [],[])
 | _=>none
theorem encS_inj {v v':Value} {d:DataW Unit} {p p':List MemPlace} (h:encS v=some (d,p)) (h':encS v'=some (d,p')):v=v':=by
 unfold encS at h h'
 split at h <;> split at h' <;> simp_all
 all_goals (try (obtain ⟨h1,h2⟩:=h;subst h1;simp_all))
 all_goals omega
theorem key3b {P:Program} {k:TypeId} {f0 f1 f2:Field} (hu:P.underlying k=some (.struct #[f0,f1,f2])) (h1:P.keyType k=true) (hc:P.cellsOf k=3) (h0:P.underlying f0.type=some (.int .i64)) (h0':P.underlying f1.type=some (.int .i64)) (h0'':P.underlying f2.type=some .bool)
 (c0 : P.cellsOf f0.type = 1) (c1 : P.cellsOf f1.type = 1) (c2 : P.cellsOf f2.type = 1) (o0 : f0.offset = 0) (o1 : f1.offset = 1) (o2 : f2.offset = 2) (n0 : (f0.name != "_") = true) (n1 : (f1.name != "_") = true) (n2 : (f2.name != "_") = true) {n : Nat} (hn : P.types.size = n + 1)
 (x s:Int) (f:Bool) (hx:(Lit.int .i64 x).wf=true) (hs:(Lit.int .i64 s).wf=true):keyOf P k (.agg #[.int .i64 x,.int .i64 s,.bool f])=some (.string (keyBytes [.int .i64 x,.int .i64 s,.bool f])):=by
 have h4:(Value.agg #[.int .i64 x,.int .i64 s,.bool f]).formed P k=true:=by simp [Value.formed,hu,hc]
 simp only [bne_iff_ne,ne_eq] at n0 n1 n2
 simp [keyOf,hu,h1,h4,hn,Program.keyLits,hc,h0,h0',h0'',c0,c1,c2,o0,o1,o2,n0,n1,n2,hx,hs,Value.cells]
theorem laidOutT:laidOutB Try.prog=true:=by kernel_rfl
theorem wideTwin:(match Try.prog.underlying 56 with | some (.array _ _) | some (.struct _)=>true | _=>false)=true:=by rw [Try.underlying56]
theorem rowTwin:decide (56 < Try.prog.types.size)=true:=by kernel_rfl
theorem typeTwin:Try.prog.keyTypeAt 5 56=true:=by kernel_rfl
set_option maxRecDepth 100000 in
theorem keyedTwin:Keyed Try.prog 56:=Keyed.of_law (deep_law_laid laidOutT (m:=5) (by decide) (of_decide_eq_true rowTwin) typeTwin wideTwin)
theorem sizeTwin:∃ n,Try.prog.types.size=n+1:=⟨Try.prog.types.size - 1,by have h:0 < Try.prog.types.size:=of_decide_eq_true (by kernel_rfl);omega⟩
def twK (t:Twn):Lit:=.string (keyBytes [.int .i64 (t.1:Int),.int .i64 (t.2.1:Int),.bool t.2.2])
abbrev twV (t:Twn):Value:=.agg #[.int .i64 (t.1:Int),.int .i64 (t.2.1:Int),.bool t.2.2]
def twLow (t:Twn):Prop:=t.1<=20/\t.2.1<=20
theorem keyTTwin:Try.prog.keyType 56=true:=by kernel_rfl
theorem cellsTwin:Try.prog.cellsOf 56=3:=by kernel_rfl
theorem cellsIntT:Try.prog.cellsOf 3=1:=by kernel_rfl
theorem cellsBoolT:Try.prog.cellsOf 4=1:=by kernel_rfl
theorem wf_small {n:Nat} (h:n<=20):(Lit.int .i64 (n:Int)).wf=true:=by
 have e1:IntKind.i64.min=-9223372036854775808:=by decide
 have e2:IntKind.i64.max=9223372036854775807:=by decide
 simp [Lit.wf,IntKind.wrap] <;> omega
theorem keyTwin {t:Twn} (h:twLow t):keyOf Try.prog 56 (twV t)=some (twK t):=by
 obtain ⟨n,hn⟩:=sizeTwin
 exact key3b Try.underlying56 keyTTwin cellsTwin Try.underlying3 Try.underlying3 Try.underlying4 cellsIntT cellsIntT cellsBoolT rfl rfl rfl (by decide) (by decide) (by decide) hn _ _ _ (wf_small h.1) (wf_small h.2)
theorem twK_inj {t u:Twn} (ht:twLow t) (hu:twLow u) (h:twK t=twK u):t=u:=by
 have h1:=keyTwin ht
 have h2:=keyTwin hu
 rw [<- h] at h2
 have h3:=keyedTwin.inj h1 h2
 obtain ⟨a,b,c⟩:=t
 obtain ⟨a',b',c'⟩:=u
 simp only [twV,Value.agg.injEq,Array.mk.injEq,List.cons.injEq,Value.int.injEq,Value.bool.injEq,true_and,and_true] at h3
 obtain ⟨e1,e2,e3⟩:=h3
 have e1:a=a':=by omega
 have e2:b=b':=by omega
 rw [e1,e2,e3]
/-- block b is a map of at most n entries that holds f -/
def TwMap (w:World) (b n:Nat) (f:Twn->Option Value):Prop :=
 ∃ D:DataW Unit,w.ownsMap Try.prog 56 encS b n D/\IsMap D/\∀ t,twLow t->(f t=none/\Maps.has D (twK t)=false) ∨ ∃ v d,f t=some v/\encS v=some (d,[])/\Maps.has D (twK t)=true/\∀ z,D.atKey (twK t) z=d
def updT (f:Twn->Option Value) (t:Twn) (v:Value):Twn->Option Value:=fun u=>if u=t then some v else f u
section
variable {w w':World} {b n:Nat} {f:Twn->Option Value}
theorem TwMap.made (w:World):TwMap (w.alloc (.map #[] 0)) w.heap.size 0 fun _=>none :=
 ⟨_,World.ownsMap_made w _ _ _,isMap_empty,fun _ _=>.inl ⟨rfl,by simp [Maps.has]⟩⟩
theorem TwMap.lt (h:TwMap w b n f):b < w.heap.size:=by obtain ⟨D,h1,-⟩:=h;exact h1.lt
theorem TwMap.block (h:TwMap w b n f) (hb:w'.heap[b]?=w.heap[b]?):TwMap w' b n f:=by
 obtain ⟨D,⟨es,clock,h1,h2⟩,h3⟩:=h
 exact ⟨D,⟨es,clock,hb.trans h1,h2⟩,h3⟩
theorem TwMap.mono (h:TwMap w b n f) {m:Nat} (hm:n<=m):TwMap w b m f:=by obtain ⟨D,h1,h2⟩:=h;exact ⟨D,h1.mono hm,h2⟩
theorem TwMap.below (h:TwMap w b n f) (hb:Below w.heap.size w w'):TwMap w' b n f:=h.block (hb.block b h.lt)
theorem TwMap.alloc (h:TwMap w b n f) (o:Obj):TwMap (w.alloc o) b n f:=h.block (Below.heap_alloc w o b h.lt)
theorem TwMap.grown (h:TwMap w b n f) {row:Option Nat} (hg:w.grownBy w' row) (hne:some b ≠ row):TwMap w' b n f:=h.block (hg.block b h.lt hne)
theorem TwMap.isMap (h:TwMap w b n f):∃ es clock,w.heap[b]?=some (.map es clock):=by obtain ⟨D,⟨es,clock,h1,-⟩,-⟩:=h;exact ⟨es,clock,h1⟩
theorem TwMap.notRow (h:TwMap w b n f) {lo k m:Nat} {e:TypeId} {v:Value} {cs:List Value} (ho:w.ownsRow lo e k v m cs):v.ownBlock ≠ some b:=by
 obtain ⟨es,clock,h1⟩:=h.isMap
 obtain ⟨-,hs⟩:=ho
 rcases hs with ⟨rfl,-⟩ | ⟨g,cap,cur,rfl,-,hh,-⟩
 · simp [Value.ownBlock]
 · intro e1
   have e1:some g=some b:=e1
   cases e1
   rw [h1] at hh
   cases hh
theorem TwMap.ext (h:TwMap w b n f) {g:Twn->Option Value} (hg:∀ t,twLow t->g t=f t):TwMap w b n g:=by
 obtain ⟨D,h1,h2,h3⟩:=h
 exact ⟨D,h1,h2,fun t ht=>by rw [hg t ht];exact h3 t ht⟩
theorem TwMap.look (h:TwMap w b n f) {T e:TypeId} (hT:Try.prog.underlying T=some (.map 56 e)) {z:Value} (hz:(zeroValue e).run Try.prog w=.ok z w) {zd:DataW Unit} (hzd:encS z=some (zd,[])) {t:Twn} (ht:twLow t) :
 (Instr.lookup T (.map (some b)) (twV t) false).run Try.prog w=.ok ((f t).getD z) w:=by
 obtain ⟨D,h1,h2,h3⟩:=h
 obtain ⟨v,ps,hrun,hv⟩:=h1.lookup keyedTwin hT hz hzd (keyTwin ht)
 rcases h3 t ht with ⟨h4,h5⟩ | ⟨u,d,h4,h5,h6,h7⟩
 · rw [Maps.atKey_of_not_has h5] at hv
   rw [hrun,h4,encS_inj hv hzd]
   rfl
 · rw [h7] at hv
   rw [hrun,h4,encS_inj hv h5]
   rfl
theorem TwMap.look_ok (h:TwMap w b n f) {T e:TypeId} (hT:Try.prog.underlying T=some (.map 56 e)) {z:Value} (hz:(zeroValue e).run Try.prog w=.ok z w) {zd:DataW Unit} (hzd:encS z=some (zd,[])) {t:Twn} (ht:twLow t) :
 (Instr.lookup T (.map (some b)) (twV t) true).run Try.prog w=.ok (.tuple #[(f t).getD z,.bool (f t).isSome]) w:=by
 obtain ⟨D,h1,h2,h3⟩:=h
 obtain ⟨v,ps,hrun,hv⟩:=h1.look_ok keyedTwin hT hz hzd (keyTwin ht)
 rcases h3 t ht with ⟨h4,h5⟩ | ⟨u,d,h4,h5,h6,h7⟩
 · rw [Maps.atKey_of_not_has h5] at hv
   rw [hrun,h4,h5,encS_inj hv hzd]
   rfl
 · rw [h7] at hv
   rw [hrun,h4,h6,encS_inj hv h5]
   rfl
theorem TwMap.put (h:TwMap w b n f) {T e:TypeId} (hT:Try.prog.underlying T=some (.map 56 e)) (hn:n < maxLen) {t:Twn} (ht:twLow t) {v:Value} {d:DataW Unit} (hv:encS v=some (d,[])) :
 ∃ w',(Instr.mapUpdate T (.map (some b)) (twV t) v).run Try.prog w=.ok () w'/\TwMap w' b (n+1) (updT f t v)/\w.grownBy w' (some b):=by
 obtain ⟨D,h1,h2,h3⟩:=h
 obtain ⟨w',hrun,h4,h5⟩:=h1.update keyedTwin hT hn (keyTwin ht) hv
 refine ⟨w',hrun,⟨_,h4,h2.put _ _,fun u hu=>?_⟩,h5⟩
 rw [updT]
 by_cases he:u=t
 · subst he
   rw [if_pos rfl]
   exact .inr ⟨v,d,rfl,hv,Maps.has_put_same h2 (show WideAt.IsKeyLit (twK u) from trivial) d,fun z=>atKey_put_same h2 (show WideAt.IsKeyLit (twK u) from trivial) d z⟩
 · rw [if_neg he]
   have hne:twK u ≠ twK t:=fun e1=>he (twK_inj hu ht e1)
   rw [Maps.has_put_other hne]
   rcases h3 u hu with h6 | ⟨x,y,h6,h7,h8,h9⟩
   · exact .inl h6
   · exact .inr ⟨x,y,h6,h7,h8,fun z=>by rw [atKey_put_other hne];exact h9 z⟩
end
/-- a store, at the operation -/
theorem wpList_put_tw {w:World} {ops:Array Oper} {rest:List Oper} {o:Oper} {a:Act} {Q:Exit->Act->World->Prop}
 (hg:o.guard=none) (m x v:Operand) (T:TypeId) (hop:o.op=Op.mapUpdate T m x v)
 {e:TypeId} (hT:Try.prog.underlying T=some (.map 56 e)) {b n:Nat} {f:Twn->Option Value} (hown:TwMap w b n f) (hn:n < maxLen) {t:Twn} (ht:twLow t) {u:Value} {d:DataW Unit} (hu:encS u=some (d,[]))
 (hm:a.eval m=.map (some b)) (hx:a.eval x=twV t) (hv:a.eval v=u)
 (hK:∀ w',TwMap w' b (n+1) (updT f t u)->w.grownBy w' (some b)->wpList Try.prog ops Q rest (a.put o.dst undef) w') :
 wpList Try.prog ops Q (o :: rest) a w:=by
 refine wpList_plain hg fun K' hK'=>?_
 obtain ⟨w',hrun,r1,r2⟩:=hown.put hT hn ht hu
 unfold Oper.wp
 simp [execOp,hop,hm,hx,hv,hrun,Result.andThen]
 exact hK' _ _ (hK w' r1 r2)
end Go.Proofs.Ythnapjodmndlaaa
namespace Go.Proofs.Ythnapjodmndlaaa
def putB (B:Twn->List Twn) (t u:Twn):Twn->List Twn:=fun x=>if x=t then B x ++ [u] else B x
def BefOk (p:Pz) (i n:Nat) (cur:List Twn) (B:Twn->List Twn):Prop:=∀ t u,u ∈ B t ↔ (∃ j,j < i/\u=twnA p j/\∃ k,k < 9/\t ∈ twnX p k u) ∨ (u=twnA p i/\((∃ k,k < n/\t ∈ twnX p k u) ∨ t ∈ cur))
theorem BefOk.start (p:Pz):BefOk p 0 0 [] fun _=>[]:=fun t u=>by simp
theorem BefOk.put {p:Pz} {i n:Nat} {cur:List Twn} {B:Twn->List Twn} (h:BefOk p i n cur B) (x:Twn):BefOk p i n (cur ++ [x]) (putB B x (twnA p i)):=by
 intro t u
 rw [putB]
 by_cases ht:t=x
 · subst ht
   rw [if_pos rfl,List.mem_append,h t u,List.mem_singleton,List.mem_append,List.mem_singleton]
   constructor
   · rintro ((h1 | ⟨h1,h2 | h2⟩) | h1)
     · exact .inl h1
     · exact .inr ⟨h1,.inl h2⟩
     · exact .inr ⟨h1,.inr (.inl h2)⟩
     · exact .inr ⟨h1,.inr (.inr rfl)⟩
   · rintro (h1 | ⟨h1,h2 | h2 | h2⟩)
     · exact .inl (.inl h1)
     · exact .inl (.inr ⟨h1,.inl h2⟩)
     · exact .inl (.inr ⟨h1,.inr h2⟩)
     · exact .inr h1
 · rw [if_neg ht,h t u,List.mem_append,List.mem_singleton]
   simp [ht]
theorem BefOk.letter {p:Pz} {i n:Nat} {B:Twn->List Twn} (h:BefOk p i n (twnX p n (twnA p i)) B):BefOk p i (n+1) [] B:=by
 intro t u
 rw [h t u]
 constructor
 · rintro (h1 | ⟨h1,⟨k,hk,h2⟩ | h2⟩)
   · exact .inl h1
   · exact .inr ⟨h1,.inl ⟨k,by omega,h2⟩⟩
   · exact .inr ⟨h1,.inl ⟨n,by omega,by rw [h1];exact h2⟩⟩
 · rintro (h1 | ⟨h1,⟨k,hk,h2⟩ | h2⟩)
   · exact .inl h1
   · by_cases hkn:k=n
     · subst hkn
       exact .inr ⟨h1,.inr (by rw [<- h1];exact h2)⟩
     · exact .inr ⟨h1,.inl ⟨k,by omega,h2⟩⟩
   · simp at h2
theorem BefOk.pair {p:Pz} {i:Nat} {B:Twn->List Twn} (h:BefOk p i 9 [] B):BefOk p (i+1) 0 [] B:=by
 intro t u
 rw [h t u]
 constructor
 · rintro (⟨j,hj,h1⟩ | ⟨h1,⟨k,hk,h2⟩ | h2⟩)
   · exact .inl ⟨j,by omega,h1⟩
   · exact .inl ⟨i,by omega,h1,k,hk,h2⟩
   · simp at h2
 · rintro (⟨j,hj,h1,h2⟩ | ⟨h1,⟨k,hk,h2⟩ | h2⟩)
   · by_cases hji:j=i
     · subst hji
       exact .inr ⟨h1,.inl h2⟩
     · exact .inl ⟨j,by omega,h1,h2⟩
   · omega
   · simp at h2
theorem BefOk.fin {p:Pz} {B:Twn->List Twn} (h:BefOk p (endT p).length 0 [] B) {t u:Twn}:u ∈ B t ↔ ∃ j,j < (endT p).length/\u=twnA p j/\∃ k,k < 9/\t ∈ twnX p k u:=by
 rw [h t u]
 constructor
 · rintro (h1 | ⟨-,⟨k,hk,-⟩ | h2⟩)
   · exact h1
   · omega
   · simp at h2
 · exact .inl
/-- who comes before pair number k -/
def prvB (p:Pz) (B:Twn->List Twn) (k:Nat):List Nat:=(B (twnA p k)).map (idxT p)
section
variable {p:Pz} {B:Twn->List Twn}
theorem bef_in (h:BefOk p (endT p).length 0 [] B) {t u:Twn} (hu:u ∈ B t):u ∈ endT p:=by
 obtain ⟨j,hj,rfl,-⟩:=h.fin.1 hu
 exact twnA_mem hj
theorem prv_next (h:BefOk p (endT p).length 0 [] B):∀ i k,i < (endT p).length->k < (endT p).length->i ∈ prvB p B k->k ∈ nextE (prsT p) i:=by
 intro i k hi hk hik
 obtain ⟨u,hu,rfl⟩:=List.mem_map.1 hik
 obtain ⟨j,hj,rfl,l,hl,hx⟩:=h.fin.1 hu
 rw [idx_twnA hj]
 exact (mem_next_prs hj).2 ⟨l,hl,List.mem_map.2 ⟨_,hx,idx_twnA hk⟩⟩
theorem prv_lt (h:BefOk p (endT p).length 0 [] B):∀ i k,k < (endT p).length->i ∈ prvB p B k->i < (endT p).length:=by
 intro i k _ hik
 obtain ⟨u,hu,rfl⟩:=List.mem_map.1 hik
 exact idxT_lt (bef_in h hu)
theorem next_lt (hp:p.lets.length<=20):∀ i k,i < (endT p).length->k ∈ nextE (prsT p) i->k < (endT p).length:=by
 intro i k _ hk
 exact (prsT_lt hp _ (mem_nextE.1 hk)).2
theorem next_prv (h:BefOk p (endT p).length 0 [] B) (hp:p.lets.length<=20):∀ i k,i < (endT p).length->k < (endT p).length->k ∈ nextE (prsT p) i->i ∈ prvB p B k:=by
 intro i k hi hk hik
 obtain ⟨l,hl,hxm⟩:=(mem_next_prs hi).1 hik
 obtain ⟨x,hx,rfl⟩:=List.mem_map.1 hxm
 have hxe:=twn_next hp hi hl hx
 refine List.mem_map.2 ⟨twnA p i,?_,idx_twnA hi⟩
 rw [twnA_idx hxe]
 exact h.fin.2 ⟨i,hi,rfl,l,hl,hx⟩
end
/-- the numbers when the ends are laid in -/
theorem BO.begin {prev next:Nat->List Nat} {goal:Nat->Prop} {N:Nat} {D:List Int} {q:List Nat} (hl:D.length=N) (hD:∀ i,i < N->(goal i/\D.getD i 0=0) ∨ (¬ goal i/\D.getD i 0=-1)) (hq:∀ x,x ∈ q ↔ x < N/\goal x):BO prev next goal N D q:=by
 have h0:∀ i,i < N->0<=D.getD i 0->goal i/\D.getD i 0=0:=fun i hi h=>by
  rcases hD i hi with h1 | ⟨_,h1⟩
  · exact h1
  · omega
 have hqz:∀ x ∈ q,D.getD x 0=0:=fun x hx=>by
  obtain ⟨h1,h2⟩:=(hq x).1 hx
  rcases hD x h1 with ⟨_,h3⟩ | ⟨h3,_⟩
  · exact h3
  · exact absurd h2 h3
 refine ⟨hl,fun i hi h=>?_,fun i hi hg=>?_,fun k hk h hkq=>?_,fun h r hr i hi=>?_,?_,fun x hx=>?_,fun i hi=>?_⟩
 · rw [(h0 i hi h).2]
   exact (h0 i hi h).1
 · rcases hD i hi with ⟨_,h3⟩ | ⟨h3,_⟩
   · exact h3
   · exact absurd hg h3
 · exact absurd ((hq k).2 ⟨hk,(h0 k hk h).1⟩) hkq
 · have h1:=hqz h (by rw [hr];simp)
   rcases hD i hi with ⟨_,h3⟩ | ⟨_,h3⟩ <;> omega
 · exact List.pairwise_of_forall_mem_list fun a ha b hb=>by rw [hqz a ha,hqz b hb];exact Int.le_refl _
 · exact ⟨((hq x).1 hx).1,by rw [hqz x hx];exact Int.le_refl _⟩
 · rcases hD i hi with ⟨_,h3⟩ | ⟨_,h3⟩ <;> omega
theorem negs_le (D:List Int):negs D<=D.length:=List.countP_le_length
/-- the value at a pair -/
def dV (p:Pz) (D:List Int) (t:Twn):Option Int:=if (endT p).contains t=true/\0<=D.getD (idxT p t) 0 then some (D.getD (idxT p t) 0) else none
theorem dV_some {p:Pz} {D:List Int} {t:Twn} (ht:t ∈ endT p) (h:0<=D.getD (idxT p t) 0):dV p D t=some (D.getD (idxT p t) 0):=by rw [dV,if_pos ⟨List.contains_iff_mem.2 ht,h⟩]
theorem dV_none {p:Pz} {D:List Int} {t:Twn} (h:D.getD (idxT p t) 0 < 0):dV p D t=none:=by rw [dV,if_neg (fun h2=>by omega)]
theorem dV_set {p:Pz} {D:List Int} {t:Twn} (ht:t ∈ endT p) (hl:D.length=(endT p).length) {d:Int} (hd:0<=d) (u:Twn):dV p (D.set (idxT p t) d) u=if u=t then some d else dV p D u:=by
 have hlt:idxT p t < D.length:=by rw [hl];exact idxT_lt ht
 by_cases hu:u=t
 · subst hu
   rw [if_pos rfl,dV_some ht (by rw [getD_set hlt,if_pos rfl];exact hd),getD_set hlt,if_pos rfl]
 · rw [if_neg hu,dV,dV]
   by_cases hc:u ∈ endT p
   · have hne:¬ idxT p t=idxT p u:=fun e=>hu (by rw [<- twnA_idx hc,<- e,twnA_idx ht])
     rw [getD_set hlt,if_neg hne]
   · rw [if_neg (fun h=>hc (List.contains_iff_mem.1 h.1)),if_neg (fun h=>hc (List.contains_iff_mem.1 h.1))]
end Go.Proofs.Ythnapjodmndlaaa
