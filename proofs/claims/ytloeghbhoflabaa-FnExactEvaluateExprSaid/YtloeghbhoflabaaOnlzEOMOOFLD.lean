/- Parts of the proof, joined into one text: LetS, EvlS, EvlE, EvlX, Rec, Seat. -/
import Derived.Test.YtloeghbhoflabaaOnlzKDDNPOOL
import Derived.Test.YtloeghbhoflabaaOnlzLMLMOJCI
import Derived.Test.YtloeghbhoflabaaOnlzMAGDGCPL
import Derived.Test.YtloeghbhoflabaaOnlzADDNGJMJ
import Derived.Test.YtloeghbhoflabaaOnlzGFOHOABB
import Derived.JoinedOf
import Derived.Test.YtloeghbhoflabaaRows
set_option linter.unusedVariables false
set_option linter.unusedSimpArgs false
namespace Go.Proofs.Ytloeghbhoflabaa
open Go.ChangeShapes Go.WideShapes Go.ChangeAt Go.RowKit
attribute [local go_sem] ext_cell ext_frozen ext_lt ext_lt1 ext_lt2 ext_lt3 ltn2 ltn3 ltn13 lts1 lts2 lts3
set_option maxHeartbeats 4000000 in
set_option maxRecDepth 100000 in
theorem specLetter (v:Value) (g:Gr) (lt:Int) (w:World) (hv:GrV 0 w.heap.size w v g) :
 Calls Try.prog 72 #[v,.int .i64 lt] w fun e w'=>∃ v',e=.returned v'/\Own w.heap.size w'.heap.size w' 82 cPr 2 v' (letterL g lt)/\Below w.heap.size w w':=by
 have hvo:=hv
 obtain ⟨vs,es,rfl,⟨A1,c1,rfl,hl1,hm1,hC1⟩,⟨A2,c2,rfl,hl2,hm2,hC2⟩⟩:=hv
 unfold maxLen at hm1 hm2
 obtain ⟨Wb,hWb⟩:∃ Wb,Wb=w.alloc (.cells #[.slice A1 g.vals.length c1,.slice A2 g.edges.length c2] 36):=⟨_,rfl⟩
 have hbb:Below w.heap.size w Wb:=by rw [hWb];exact (Below.refl _ _).alloc (Nat.le_refl _) _
 have hWs:Wb.heap.size=w.heap.size+1:=by rw [hWb];simp
 obtain ⟨W0,hW0⟩:∃ W0,W0=Wb.alloc (.cells #[] 82):=⟨_,rfl⟩
 have hb0:Below w.heap.size w W0:=by rw [hW0];exact hbb.alloc (by omega) _
 have hs0:SetR w.heap.size W0 (.slice (some ⟨w.heap.size+1,0,none⟩) 0 0) []:=by
  rw [hW0,<- hWs]
  exact SetR.lit Wb _ (by omega)
 have hbl:Blk W0 w.heap.size 36 #[.slice A1 g.vals.length c1,.slice A2 g.edges.length c2]:=by
  rw [hW0,hWb]
  exact (Blk.new w _ _ w.heap.size rfl).alloc _
 have hvg:=specValidGraph _ g W0 (hvo.keep hb0)
 have HGV:=Hd_ hvo
 have HB0:=Hd_ hb0
 have HS0:=Hd_ hs0
 have HBL:=Hd_ hbl
 have HC2:=Hd_ hC2
 have HSW:=Hd_ (show W0=(w.alloc (.cells #[.slice A1 g.vals.length c1,.slice A2 g.edges.length c2] 36)).alloc (.cells #[] 82) by rw [hW0,hWb])
 have hsz0:=hb0.size
 clear hb0 hs0 hbl hbb hW0 hWb hWs hvo hC1 hC2
 cases hgk:grOk g with
 | false =>
   rw [hgk] at hvg
   have HVG:=Hd_ hvg
   have HE:=Hd_ (show letterL g lt=[] by simp [letterL,hgk])
   clear hvg hgk
   rw [HE.out]
   go_enter Try.func72,Try.ntmps72
   go_wp2_with fail
   rw [<- HSW.out]
   refine HVG.out.mono ?_
   rintro e w2 ⟨rfl,hb2⟩
   have HO:=Hd_ ((HS0.out.below hb2).own)
   have HB:=Hd_ (below_trans HB0.out hb2)
   clear hb2
   go_wp2_with fail
   go_ret
   exact ⟨_,rfl,HO.out,HB.out⟩
 | true =>
   rw [hgk] at hvg
   have HVG:=Hd_ hvg
   have HGO:=Hd_ (grOk_iff.1 hgk)
   have HE:=Hd_ (show letterL g lt=psetL (selfL g lt g.vals.length ++ g.edges.flatMap (edgE lt)) by simp [letterL,hgk,specLet])
   have hn5:=HGO.out.n5
   have he12:=HGO.out.e12
   clear hvg hgk
   generalize letterL g lt=R at *
   go_enter Try.func72,Try.ntmps72
   go_wp2_with fail
   rw [<- HSW.out]
   refine HVG.out.mono ?_
   rintro e w2 ⟨rfl,hb2⟩
   have HS2:=Hd_ (HS0.out.below hb2)
   have HB2:=Hd_ (below_trans HB0.out hb2)
   have b2:=HBL.out.keep hb2
   have z0:w2.cell? ⟨w.heap.size,0,none⟩=some (.slice A1 g.vals.length c1):=b2.cell 0
   have z1:w2.cell? ⟨w.heap.size,1,none⟩=some (.slice A2 g.edges.length c2):=b2.cell 1
   clear hb2 b2
   go_wp2_with fail
   go_loopw [5,6] (fun oo ii wr=>∃ i:Nat,i<=g.vals.length/\ii=.int .i64 (i:Int)/\SetR w.heap.size wr oo (psetL (selfL g lt i))/\Below w.heap.size w wr/\wr.cell? ⟨w.heap.size,0,none⟩=some (.slice A1 g.vals.length c1)/\wr.cell? ⟨w.heap.size,1,none⟩=some (.slice A2 g.edges.length c2)) (fun _ ii _=>g.vals.length - (intOf ii).toNat)
   case atStart=>exact ⟨0,Nat.zero_le _,rfl,HS2.out,HB2.out,z0,z1⟩
   case round =>
    obtain ⟨i,hi,rfl,hset,hbel,y0,y1⟩:=hrel
    clear z0 z1
    have HSET:=Hd_ hset
    have hsz:=hbel.size
    have hpl:=psetL_len (selfL g lt i)
    have hsl:=selfL_len g lt i
    clear hset
    by_cases hlt:i < g.vals.length
    · have hxi:g.vals[i]?=some g.vals[i]:=List.getElem?_eq_getElem hlt
      have hgd:g.vals.getD i 0=g.vals[i]:=by simp [List.getD,hlt]
      generalize g.vals[i]=a at hxi hgd
      have hii:(i:Int) < (g.vals.length:Int):=by omega
      have hh:=specHolds _ g wr (HGV.out.keep hbel) HGO.out i a hxi lt
      have HSS:=Hd_ (selfL_succ g lt i)
      clear hxi
      by_cases he:lt=6+a
      · have HSN:=Hd_ (show psetL (selfL g lt (i+1))=putP (psetL (selfL g lt i)) ((i:Int),(i:Int)) by rw [HSS.out,selfE,hgd,if_pos he,psetL_snoc])
        rw [show decide (lt=6+a)=true by simp [he]] at hh
        have HH:=Hd_ hh
        clear hh he hgd
        generalize psetL (selfL g lt i)=L at *
        go_wp2_with fail
        refine HH.out.mono ?_
        rintro e w4 ⟨rfl,hb4⟩
        have HP:=Hd_ (l15Put_any _ w.heap.size L ((i:Int),(i:Int)) w4 (HSET.out.below hb4) (Nat.le_trans hsz hb4.size) (by omega))
        have hbel4:=below_trans hbel hb4
        have hsz4:=hbel4.size
        have y0:=kcell hb4 y0
        have y1:=kcell hb4 y1
        clear hb4
        go_wp2_with fail
        refine HP.out.mono ?_
        rintro e w5 ⟨v5,rfl,hs5,hb5⟩
        have HS5:=Hd_ hs5
        have HB5:=Hd_ (hbel4.trans (hb5.mono hsz4))
        have y0:=kcell hb5 y0
        have y1:=kcell hb5 y1
        clear hs5 hb5
        go_wp2_with fail
        go_roundw
        case rel=>exact ⟨i+1,by omega,by go_num,by rw [HSN.out];exact HS5.out,HB5.out,y0,y1⟩
        case measure=>simp [intOf];omega
      · have HSN:=Hd_ (show psetL (selfL g lt (i+1))=psetL (selfL g lt i) by rw [HSS.out,selfE,hgd,if_neg he,List.append_nil])
        rw [show decide (lt=6+a)=false by simp [he]] at hh
        have HH:=Hd_ hh
        clear hh he hgd
        generalize psetL (selfL g lt i)=L at *
        go_wp2_with fail
        refine HH.out.mono ?_
        rintro e w4 ⟨rfl,hb4⟩
        have HS4:=Hd_ (HSET.out.below hb4)
        have HB4:=Hd_ (below_trans hbel hb4)
        have y0:=kcell hb4 y0
        have y1:=kcell hb4 y1
        clear hb4
        go_wp2_with fail
        go_roundw
        case rel=>exact ⟨i+1,by omega,by go_num,by rw [HSN.out];exact HS4.out,HB4.out,y0,y1⟩
        case measure=>simp [intOf];omega
    · obtain rfl:i=g.vals.length:=by omega
      generalize selfL g lt g.vals.length=S at *
      go_wp2_with fail
      go_loopw [5,7] (fun oo ii wr=>∃ i:Nat,i<=g.edges.length/\ii=.int .i64 (i:Int)/\SetR w.heap.size wr oo (psetL (S ++ (g.edges.take i).flatMap (edgE lt)))/\Below w.heap.size w wr/\wr.cell? ⟨w.heap.size,0,none⟩=some (.slice A1 g.vals.length c1)/\wr.cell? ⟨w.heap.size,1,none⟩=some (.slice A2 g.edges.length c2)) (fun _ ii _=>g.edges.length - (intOf ii).toNat)
      case atStart=>exact ⟨0,Nat.zero_le _,rfl,by rw [List.take_zero,List.flatMap_nil,List.append_nil];exact HSET.out,hbel,y0,y1⟩
      case round =>
       clear HSET hbel y0 y1 hsz hpl hi hlt
       obtain ⟨i,hi,rfl,hset,hbel,y0,y1⟩:=hrel
       have HSET:=Hd_ hset
       have hsz:=hbel.size
       clear hset
       by_cases hlt:i < g.edges.length
       · have hxi:g.edges[i]?=some g.edges[i]:=List.getElem?_eq_getElem hlt
         generalize g.edges[i]=x at hxi
         obtain ⟨b,o,rfl,-,hb,hc⟩:=HC2.out i x hxi
         obtain ⟨x0,x1,x2,x3⟩:=x
         obtain ⟨-,-,-,l0,l2⟩:=HGO.out.edges _ (List.mem_of_getElem? hxi)
         simp only at l0 l2
         have d0:=kcell hbel (hc 0 _ rfl)
         have d1:=kcell hbel (hc 1 _ rfl)
         have d2:=kcell hbel (hc 2 _ rfl)
         have d3:=kcell hbel (hc 3 _ rfl)
         simp only [Nat.add_zero] at d0
         have hbw:b < wr.heap.size:=by omega
         have hii:(i:Int) < (g.edges.length:Int):=by omega
         have hpl:(psetL (S ++ (g.edges.take i).flatMap (edgE lt))).length<=100:=by
          have h1:=psetL_len (S ++ (g.edges.take i).flatMap (edgE lt))
          have h2:=flat_le (edgE_len lt) (g.edges.take i)
          rw [List.length_append] at h1
          rw [List.length_take] at h2
          omega
         have HSN:=Hd_ (show psetL (S ++ (g.edges.take (i+1)).flatMap (edgE lt))=(edgE lt (x0,x1,x2,x3)).foldl putP (psetL (S ++ (g.edges.take i).flatMap (edgE lt))) by rw [take_snoc hxi,List.flatMap_append,List.flatMap_cons,List.flatMap_nil,List.append_nil,<- List.append_assoc,psetL_app])
         have hq0:IntKind.i64.wrap (2 * x3)=2 * x3:=IntWalk.i64_in _ (by omega)
         have hq1:IntKind.i64.wrap (2 * x3+1)=2 * x3+1:=IntWalk.i64_in _ (by omega)
         have HBA:=Hd_ (hbel.alloc hsz (.cells #[.int .i64 x0,.int .i64 x1,.int .i64 x2,.int .i64 x3] 111))
         have HSA:=Hd_ (HSET.out.below ((Below.refl wr.heap.size wr).alloc (Nat.le_refl _) (.cells #[.int .i64 x0,.int .i64 x1,.int .i64 x2,.int .i64 x3] 111)))
         clear hxi hc
         generalize psetL (S ++ (g.edges.take i).flatMap (edgE lt))=L at *
         have HBX:=Hd_ (Blk.new wr 111 #[.int .i64 x0,.int .i64 x1,.int .i64 x2,.int .i64 x3] wr.heap.size rfl)
         have hal:Below wr.heap.size wr (wr.alloc (.cells #[.int .i64 x0,.int .i64 x1,.int .i64 x2,.int .i64 x3] 111)):=(Below.refl wr.heap.size wr).alloc (Nat.le_refl _) _
         have hzz:w.heap.size<=(wr.alloc (.cells #[.int .i64 x0,.int .i64 x1,.int .i64 x2,.int .i64 x3] 111)).heap.size:=Nat.le_trans hsz hal.size
         have ya0:=kcell hal y0
         have ya1:=kcell hal y1
         have HAL:=Hd_ hal
         clear hal
         by_cases h1:2 * x3=lt
         · have h2:¬ 2 * x3+1=lt:=by omega
           have HSN2:=Hd_ (HSN.out.trans (show (edgE lt (x0,x1,x2,x3)).foldl putP L=putP L (x1,x2) by rw [edgE,if_pos h1,if_neg h2];rfl))
           have HP:=Hd_ (l15Put_any _ w.heap.size L (x1,x2) _ HSA.out hzz (by omega))
           have HYA:=Hd_ (And.intro ya0 ya1)
           clear ya0 ya1
           go_wp2_with fail
           refine HP.out.mono ?_
           rintro e w5 ⟨v5,rfl,hs5,hb5⟩
           have HS5:=Hd_ hs5
           have HB5:=Hd_ (HBA.out.trans (hb5.mono hzz))
           have HY5:=Hd_ (And.intro (kcell hb5 HYA.out.1) (kcell hb5 HYA.out.2))
           have bx:=HBX.out.keep hb5
           have e0:w5.cell? ⟨wr.heap.size,0,none⟩=some (.int .i64 x0):=bx.cell 0
           have e1:w5.cell? ⟨wr.heap.size,1,none⟩=some (.int .i64 x1):=bx.cell 1
           have e2:w5.cell? ⟨wr.heap.size,2,none⟩=some (.int .i64 x2):=bx.cell 2
           have e3:w5.cell? ⟨wr.heap.size,3,none⟩=some (.int .i64 x3):=bx.cell 3
           clear hs5 hb5 bx
           go_wp2_with fail
           go_roundw
           case rel=>exact ⟨i+1,by omega,by go_num,by rw [HSN2.out];exact HS5.out,HB5.out,HY5.out.1,HY5.out.2⟩
           case measure=>simp [intOf];omega
         · by_cases h2:2 * x3+1=lt
           · have HSN2:=Hd_ (HSN.out.trans (show (edgE lt (x0,x1,x2,x3)).foldl putP L=putP L (x2,x1) by rw [edgE,if_neg h1,if_pos h2];rfl))
             have HP:=Hd_ (l15Put_any _ w.heap.size L (x2,x1) _ HSA.out hzz (by omega))
             have HYA:=Hd_ (And.intro ya0 ya1)
             clear ya0 ya1
             go_wp2_with fail
             refine HP.out.mono ?_
             rintro e w5 ⟨v5,rfl,hs5,hb5⟩
             have HS5:=Hd_ hs5
             have HB5:=Hd_ (HBA.out.trans (hb5.mono hzz))
             have HY5:=Hd_ (And.intro (kcell hb5 HYA.out.1) (kcell hb5 HYA.out.2))
             have bx:=HBX.out.keep hb5
             have e0:w5.cell? ⟨wr.heap.size,0,none⟩=some (.int .i64 x0):=bx.cell 0
             have e1:w5.cell? ⟨wr.heap.size,1,none⟩=some (.int .i64 x1):=bx.cell 1
             have e2:w5.cell? ⟨wr.heap.size,2,none⟩=some (.int .i64 x2):=bx.cell 2
             have e3:w5.cell? ⟨wr.heap.size,3,none⟩=some (.int .i64 x3):=bx.cell 3
             clear hs5 hb5 bx
             go_wp2_with fail
             go_roundw
             case rel=>exact ⟨i+1,by omega,by go_num,by rw [HSN2.out];exact HS5.out,HB5.out,HY5.out.1,HY5.out.2⟩
             case measure=>simp [intOf];omega
           · have HSN2:=Hd_ (HSN.out.trans (show (edgE lt (x0,x1,x2,x3)).foldl putP L=L by rw [edgE,if_neg h1,if_neg h2];rfl))
             go_wp2_with fail
             go_roundw
             case rel=>exact ⟨i+1,by omega,by go_num,by rw [HSN2.out];exact HSA.out,HBA.out,ya0,ya1⟩
             case measure=>simp [intOf];omega
       · obtain rfl:i=g.edges.length:=by omega
         rw [List.take_length] at HSET
         rw [<- HE.out] at HSET
         have HO:=Hd_ HSET.out.own
         obtain ⟨g9,c9,rfl,-⟩:=HSET.out
         go_wp2_with fail
         go_ret
         exact ⟨_,rfl,HO.out,hbel⟩
set_option maxRecDepth 100000 in
set_option maxHeartbeats 4000000 in
theorem ev_leaf {g:Gr} {t:Tok} (hok:ar t=some 0) (vg ss:Value) (w:World) (hsl:SlE w cEd 4 ss (post (.leaf t))) (hgv:GrV 0 w.heap.size w vg g) :
 Calls Try.prog 43 #[vg,ss] w (RelOut (evalT g (.leaf t)) w):=by
 obtain ⟨R,hR⟩:∃ R,R=evalT g (.leaf t):=⟨_,rfl⟩
 rw [<- hR]
 have HR:=Hd_ hR
 clear hR
 have hk:=ar_leaf hok
 obtain ⟨tk,tl,tlo,thi⟩:=t
 simp only at hk
 rw [post] at hsl
 obtain ⟨A,c,rfl,hl,hm,hx⟩:=hsl
 unfold maxLen at hm
 obtain ⟨q,o,rfl,-,hq,hcc⟩:=hx 0 (tk,tl,tlo,thi) rfl
 have e0:=hcc 0 _ rfl
 have e1:=hcc 1 _ rfl
 have e2:=hcc 2 _ rfl
 have e3:=hcc 3 _ rfl
 simp only [Nat.add_zero,Nat.zero_mul,Nat.add_zero] at e0 e1 e2 e3
 clear hx hcc hok
 obtain ⟨A1,n1,c1,A2,n2,c2,rfl⟩:=hgv.shape
 have hn1:=hgv.n1
 have hal:=((Below.refl w.heap.size w).alloc (Nat.le_refl _) (.cells #[.slice A1 n1 c1,.slice A2 n2 c2] 36)).alloc (by simp) (.cells #[.int .i64 tk,.int .i64 tl,.int .i64 tlo,.int .i64 thi] 113)
 have hgb:=(Blk.new w 36 #[.slice A1 n1 c1,.slice A2 n2 c2] _ rfl).alloc (.cells #[.int .i64 tk,.int .i64 tl,.int .i64 tlo,.int .i64 thi] 113)
 have htb:=Blk.new (w.alloc (.cells #[.slice A1 n1 c1,.slice A2 n2 c2] 36)) 113 #[.int .i64 tk,.int .i64 tl,.int .i64 tlo,.int .i64 thi] (w.heap.size+1) (by simp)
 have HGV:=Hd_ (hgv.keep hal)
 have HAL:=Hd_ hal
 have HN1:=Hd_ hn1
 obtain ⟨gq,hgq⟩:∃ gq,gq=w.heap.size:=⟨_,rfl⟩
 obtain ⟨W,hW⟩:∃ W,W=(w.alloc (.cells #[.slice A1 n1 c1,.slice A2 n2 c2] 36)).alloc (.cells #[.int .i64 tk,.int .i64 tl,.int .i64 tlo,.int .i64 thi] 113):=⟨_,rfl⟩
 rw [<- hW] at hgb htb HGV HAL
 rw [<- hgq] at hgb htb
 have hHW:=Hd_ hW
 have hHG:=Hd_ hgq
 clear hal hgv hn1 hW hgq
 have g0:W.cell? ⟨gq,0,none⟩=some (.slice A1 n1 c1):=by exact hgb.cell 0
 have g1:W.cell? ⟨gq,1,none⟩=some (.slice A2 n2 c2):=by exact hgb.cell 1
 have t0:W.cell? ⟨gq+1,0,none⟩=some (.int .i64 tk):=by exact htb.cell 0
 have t1:W.cell? ⟨gq+1,1,none⟩=some (.int .i64 tl):=by exact htb.cell 1
 clear hgb htb
 rcases hk with rfl | rfl | rfl
 · have hl:=World.ownsRow_lit (base:=w.heap.size) (e:=82) (size:=2) W #[] 0 HAL.out.size (by decide) rfl
   have HO:=Hd_ (Own.of_row (E:=cPr) (xs:=[]) hl rfl rfl)
   have HB:=Hd_ (below_trans HAL.out ((Below.refl W.heap.size W).alloc (Nat.le_refl _) (.cells #[] 82)))
   have hr:R=[]:=by rw [HR.out];rfl
   clear HR hl
   subst hr
   go_enter Try.func43,Try.ntmps43
   go_upto_region 3 with fail
   rw [<- hHW.out]
   rw [<- hHG.out]
   clear e0 e1 e2 e3
   go_wp2_with fail
   go_ret
   exact ⟨_,rfl,HO.out,HB.out⟩
 · have hr:R=identityOf (n1:Int):=by rw [HR.out,HN1.out];rfl
   have HRI:=Hd_ hr
   clear HR hr
   go_enter Try.func43,Try.ntmps43
   go_upto_region 3 with fail
   rw [<- hHW.out]
   rw [<- hHG.out]
   clear e0 e1 e2 e3
   go_wp2_with fail
   refine (specIdentity (n1:Int) _).mono ?_
   rintro e w' ⟨v',rfl,hO,hB⟩
   have HO:=Hd_ (show Own w.heap.size w'.heap.size w' 82 cPr 2 v' R by rw [HRI.out];exact hO.mono HAL.out.size (Nat.le_refl _))
   have HB:=Hd_ (below_trans HAL.out hB)
   clear hO hB
   go_wp2_with fail
   go_ret
   exact ⟨_,rfl,HO.out,HB.out⟩
 · have hr:R=letterL g tl:=by rw [HR.out];rfl
   have HRI:=Hd_ hr
   clear HR hr
   go_enter Try.func43,Try.ntmps43
   go_upto_region 3 with fail
   rw [<- hHW.out]
   rw [<- hHG.out]
   clear e0 e1 e2 e3
   go_wp2_with fail
   refine (specLetter _ g tl _ HGV.out).mono ?_
   rintro e w' ⟨v',rfl,hO,hB⟩
   have HO:=Hd_ (show Own w.heap.size w'.heap.size w' 82 cPr 2 v' R by rw [HRI.out];exact hO.mono HAL.out.size (Nat.le_refl _))
   have HB:=Hd_ (below_trans HAL.out hB)
   clear hO hB
   go_wp2_with fail
   go_ret
   exact ⟨_,rfl,HO.out,HB.out⟩
/-- a call of the evaluation, further down -/
def EvIH (g:Gr) (r:Tr):Prop:=∀ (ss vg:Value) (w:World),SlE w cEd 4 ss (post r)->(post r).length<=1048576->GrV 0 w.heap.size w vg g->Calls Try.prog 43 #[vg,ss] w (RelOut (evalT g r) w)
set_option maxRecDepth 100000 in
set_option maxHeartbeats 8000000 in
theorem ev_un {g:Gr} (hg:GrOk g) {t:Tok} {a:Tr} (hok:ar t=some 1) (ih:EvIH g a) (vg ss:Value) (w:World) (hsl:SlE w cEd 4 ss (post (.un t a))) (hlen:(post (.un t a)).length<=1048576) (hgv:GrV 0 w.heap.size w vg g) :
 Calls Try.prog 43 #[vg,ss] w (RelOut (evalT g (.un t a)) w):=by
 obtain ⟨R,hR⟩:∃ R,R=evalT g (.un t a):=⟨_,rfl⟩
 rw [<- hR]
 have HR:=Hd_ hR
 clear hR
 have hk:=ar_one hok
 have HIH:=Hd_ ih
 have HLN:=Hd_ (eval_len hg a)
 obtain ⟨m,hm0⟩:∃ m,m=(post a).length:=⟨_,rfl⟩
 rw [post] at hsl hlen
 have hlq:(post a ++ [t]).length=m+1:=by rw [List.length_append,hm0];rfl
 rw [hlq] at hlen
 have h0:=hsl
 obtain ⟨A,c,rfl,hl,hm,hx⟩:=hsl
 rw [hlq] at hl h0 ⊢
 unfold maxLen at hm
 have hxi:(post a ++ [t])[m]?=some t:=by rw [List.getElem?_append_right (by omega)];simp [hm0]
 obtain ⟨q,o,rfl,-,hq,hcc⟩:=hx _ t hxi
 obtain ⟨tk,tl,tlo,thi⟩:=t
 simp only at hk
 have e0:=hcc 0 _ rfl
 have e1:=hcc 1 _ rfl
 have e2:=hcc 2 _ rfl
 have e3:=hcc 3 _ rfl
 simp only [Nat.add_zero] at e0
 have HSA:=Hd_ (show SlE w cEd 4 (.slice (some ⟨q,o,none⟩) m c) (post a) from SlI.headT h0 hm0.symm)
 have hpa:(post a).length<=1048576:=by omega
 have HPA:=Hd_ hpa
 clear hx hcc hxi h0 hm0 hlq hok ih hg hpa
 have hmc:m<=c:=by omega
 have hmi:(m:Int)<=(c:Int):=by omega
 obtain ⟨A1,n1,c1,A2,n2,c2,rfl⟩:=hgv.shape
 have hn1:=hgv.n1
 have hal:=((Below.refl w.heap.size w).alloc (Nat.le_refl _) (.cells #[.slice A1 n1 c1,.slice A2 n2 c2] 36)).alloc (by simp) (.cells #[.int .i64 tk,.int .i64 tl,.int .i64 tlo,.int .i64 thi] 113)
 have hgb:=(Blk.new w 36 #[.slice A1 n1 c1,.slice A2 n2 c2] _ rfl).alloc (.cells #[.int .i64 tk,.int .i64 tl,.int .i64 tlo,.int .i64 thi] 113)
 have htb:=Blk.new (w.alloc (.cells #[.slice A1 n1 c1,.slice A2 n2 c2] 36)) 113 #[.int .i64 tk,.int .i64 tl,.int .i64 tlo,.int .i64 thi] (w.heap.size+1) (by simp)
 have HGV:=Hd_ (hgv.keep hal)
 have HAL:=Hd_ hal
 have HN1:=Hd_ hn1
 obtain ⟨gq,hgq⟩:∃ gq,gq=w.heap.size:=⟨_,rfl⟩
 obtain ⟨W,hW⟩:∃ W,W=(w.alloc (.cells #[.slice A1 n1 c1,.slice A2 n2 c2] 36)).alloc (.cells #[.int .i64 tk,.int .i64 tl,.int .i64 tlo,.int .i64 thi] 113):=⟨_,rfl⟩
 rw [<- hW] at hgb htb HGV HAL
 rw [<- hgq] at hgb htb
 have hHW:=Hd_ hW
 have hHG:=Hd_ hgq
 clear hal hgv hn1 hW hgq
 have g0:W.cell? ⟨gq,0,none⟩=some (.slice A1 n1 c1):=by exact hgb.cell 0
 have g1:W.cell? ⟨gq,1,none⟩=some (.slice A2 n2 c2):=by exact hgb.cell 1
 have t0:W.cell? ⟨gq+1,0,none⟩=some (.int .i64 tk):=by exact htb.cell 0
 have t2:W.cell? ⟨gq+1,2,none⟩=some (.int .i64 tlo):=by exact htb.cell 2
 have t3:W.cell? ⟨gq+1,3,none⟩=some (.int .i64 thi):=by exact htb.cell 3
 clear hgb htb
 rcases hk with rfl | rfl
 · have hr:R=closureL (n1:Int) (evalT g a):=by rw [HR.out,HN1.out];rfl
   have HRI:=Hd_ hr
   clear HR hr
   go_enter Try.func43,Try.ntmps43
   go_upto_region 3 with fail
   rw [<- hHW.out]
   rw [<- hHG.out]
   clear e0 e1 e2 e3
   go_wp2_with fail
   refine F_start 9 (fun w'=>w'.cell? ⟨gq,0,none⟩=some (.slice A1 n1 c1)/\w'.cell? ⟨gq,1,none⟩=some (.slice A2 n2 c2)) (by kernel_rfl) (by exact ⟨g0,g1⟩) (fun hS inv=>?_)
   refine F_tk 0 inv ?_
   try simp only [tA,tB,tC,Act.put,tE,tF,tG]
   clear inv;intro inv
   refine F_tk 1 inv ?_
   try simp only [tA,tB,tC,Act.put,tE,tF,tG]
   clear inv;intro inv
   refine F_tk 2 inv ?_
   try simp only [tA,tB,tC,Act.put,tE,tF,tG]
   clear inv;intro inv
   refine F_tk 3 inv ?_
   try simp only [tA,tB,tC,Act.put,tE,tF,tG]
   clear inv;intro inv
   refine F_tk 4 inv ?_
   try simp only [tA,tB,tC,Act.put,tE,tF,tG]
   clear inv;intro inv
   refine F_tk 5 inv ?_
   try simp only [tA,tB,tC,Act.put,tE,tF,tG]
   clear inv;intro inv
   refine F_tk 6 inv ?_
   try simp only [tA,tB,tC,Act.put,tE,tF,tG]
   clear inv;intro inv
   have hd:=(Below.refl W.heap.size W).drew
   have HGD:=Hd_ (HGV.out.keep hd)
   have HD:=Hd_ (below_trans HAL.out hd)
   have HSD:=Hd_ (SlE.keep HSA.out HD.out)
   clear hd g0 g1 t0 t2 t3 HGV HSA
   refine F_o1 7 inv ?_;intro K hK
   try simp only [tA,tB,tC]
   go_simp
   refine (HIH.out _ _ _ HSD.out HPA.out HGD.out).mono ?_
   rintro e w3 ⟨v3,rfl,hO,hB⟩
   have HV3:=Hd_ ((hO.sl cPr_len).mono (lo':=0) (Nat.zero_le _) (Nat.le_refl _))
   have HB3:=Hd_ hB
   clear hO hB
   refine hK.out _ _ (⟨kcell HB3.out hS.1,kcell HB3.out hS.2⟩) (fun _ _=>?_)
   try simp only [tA,tB,tC,Act.put,tE,tF,tG]
   clear hK K inv hS;rename_i hS inv
   refine F_o1 8 inv ?_;intro K hK
   try simp only [tA,tB,tC]
   go_simp
   refine (specClosure (n1:Int) _ _ _ HV3.out (Nat.le_trans HLN.out (by omega))).mono ?_
   rintro e w4 ⟨v4,rfl,hO,hB⟩
   have HO:=Hd_ (show Own w.heap.size w4.heap.size w4 82 cPr 2 v4 R by rw [HRI.out];exact hO.mono (below_trans HD.out HB3.out).size (Nat.le_refl _))
   have HBB:=Hd_ hB
   have HB:=Hd_ (below_trans (below_trans HD.out HB3.out) hB)
   clear hO hB
   refine hK.out _ _ (⟨kcell HBB.out hS.1,kcell HBB.out hS.2⟩) (fun _ _=>?_)
   try simp only [tA,tB,tC,Act.put,tE,tF,tG]
   clear hK K inv hS;rename_i hS inv
   refine F_l1 9 ?_;intro K hK
   go_simp
   refine hK _ _ ?_
   clear hK K
   go_wp2_with fail
   go_ret
   exact ⟨_,rfl,HO.out,HB.out⟩
 · have hr:R=powerL (n1:Int) (evalT g a) tlo thi:=by rw [HR.out,HN1.out];rfl
   have HRI:=Hd_ hr
   clear HR hr
   go_enter Try.func43,Try.ntmps43
   go_upto_region 3 with fail
   rw [<- hHW.out]
   rw [<- hHG.out]
   clear e0 e1 e2 e3
   go_wp2_with fail
   refine F_start 13 (fun w'=>w'.cell? ⟨gq,0,none⟩=some (.slice A1 n1 c1)/\w'.cell? ⟨gq,1,none⟩=some (.slice A2 n2 c2)/\w'.cell? ⟨gq+1,2,none⟩=some (.int .i64 tlo)/\w'.cell? ⟨gq+1,3,none⟩=some (.int .i64 thi)) (by kernel_rfl) (by exact ⟨g0,g1,t2,t3⟩) (fun hS inv=>?_)
   refine F_tk 0 inv ?_
   try simp only [tA,tB,tC,Act.put,tE,tF,tG]
   clear inv;intro inv
   refine F_tk 1 inv ?_
   try simp only [tA,tB,tC,Act.put,tE,tF,tG]
   clear inv;intro inv
   refine F_tk 2 inv ?_
   try simp only [tA,tB,tC,Act.put,tE,tF,tG]
   clear inv;intro inv
   refine F_tk 3 inv ?_
   try simp only [tA,tB,tC,Act.put,tE,tF,tG]
   clear inv;intro inv
   refine F_tk 4 inv ?_
   try simp only [tA,tB,tC,Act.put,tE,tF,tG]
   clear inv;intro inv
   refine F_tk 5 inv ?_
   try simp only [tA,tB,tC,Act.put,tE,tF,tG]
   clear inv;intro inv
   refine F_tk 6 inv ?_
   try simp only [tA,tB,tC,Act.put,tE,tF,tG]
   clear inv;intro inv
   refine F_tk 8 inv ?_
   try simp only [tA,tB,tC,Act.put,tE,tF,tG]
   clear inv;intro inv
   refine F_tk 9 inv ?_
   try simp only [tA,tB,tC,Act.put,tE,tF,tG]
   clear inv;intro inv
   refine F_tk 10 inv ?_
   try simp only [tA,tB,tC,Act.put,tE,tF,tG]
   clear inv;intro inv
   refine F_tk 11 inv ?_
   try simp only [tA,tB,tC,Act.put,tE,tF,tG]
   clear inv;intro inv
   have hd:=(Below.refl W.heap.size W).drew
   have HGD:=Hd_ (HGV.out.keep hd)
   have HD:=Hd_ (below_trans HAL.out hd)
   have HSD:=Hd_ (SlE.keep HSA.out HD.out)
   clear hd g0 g1 t0 t2 t3 HGV HSA
   refine F_o1 7 inv ?_;intro K hK
   try simp only [tA,tB,tC]
   go_simp
   refine (HIH.out _ _ _ HSD.out HPA.out HGD.out).mono ?_
   rintro e w3 ⟨v3,rfl,hO,hB⟩
   have HV3:=Hd_ ((hO.sl cPr_len).mono (lo':=0) (Nat.zero_le _) (Nat.le_refl _))
   have HB3:=Hd_ hB
   clear hO hB
   refine hK.out _ _ (⟨kcell HB3.out hS.1,kcell HB3.out hS.2.1,kcell HB3.out hS.2.2.1,kcell HB3.out hS.2.2.2⟩) (fun _ _=>?_)
   try simp only [tA,tB,tC,Act.put,tE,tF,tG]
   clear hK K inv hS;rename_i hS inv
   refine F_o1 12 inv ?_;intro K hK
   try simp only [tA,tB,tC]
   go_simp
   refine (specPower (n1:Int) _ _ tlo thi _ HV3.out (Nat.le_trans HLN.out (by omega))).mono ?_
   rintro e w4 ⟨v4,rfl,hO,hB⟩
   have HO:=Hd_ (show Own w.heap.size w4.heap.size w4 82 cPr 2 v4 R by rw [HRI.out];exact hO.mono (below_trans HD.out HB3.out).size (Nat.le_refl _))
   have HBB:=Hd_ hB
   have HB:=Hd_ (below_trans (below_trans HD.out HB3.out) hB)
   clear hO hB
   refine hK.out _ _ (⟨kcell HBB.out hS.1,kcell HBB.out hS.2.1,kcell HBB.out hS.2.2.1,kcell HBB.out hS.2.2.2⟩) (fun _ _=>?_)
   try simp only [tA,tB,tC,Act.put,tE,tF,tG]
   clear hK K inv hS;rename_i hS inv
   refine F_l1 13 ?_;intro K hK
   go_simp
   refine hK _ _ ?_
   clear hK K
   go_wp2_with fail
   go_ret
   exact ⟨_,rfl,HO.out,HB.out⟩
set_option maxRecDepth 100000 in
set_option maxHeartbeats 8000000 in
theorem ev_bin {g:Gr} (hg:GrOk g) {t:Tok} {a d:Tr} (hok:ar t=some 2) (hrd:d.ok) (iha:EvIH g a) (ihd:EvIH g d) (vg ss:Value) (w:World) (hsl:SlE w cEd 4 ss (post (.bin t a d))) (hlen:(post (.bin t a d)).length<=1048576) (hgv:GrV 0 w.heap.size w vg g) :
 Calls Try.prog 43 #[vg,ss] w (RelOut (evalT g (.bin t a d)) w):=by
 obtain ⟨R,hR⟩:∃ R,R=evalT g (.bin t a d):=⟨_,rfl⟩
 rw [<- hR]
 have HR:=Hd_ hR
 clear hR
 have hk:=ar_two hok
 have HIA:=Hd_ iha
 have HID:=Hd_ ihd
 have HLA:=Hd_ (eval_len hg a)
 have HLD:=Hd_ (eval_len hg d)
 obtain ⟨m,hm0⟩:∃ m,m=(post a).length:=⟨_,rfl⟩
 obtain ⟨j,hj0⟩:∃ j,j=(post d).length:=⟨_,rfl⟩
 have hj1:0 < j:=by rw [hj0];exact post_pos d
 rw [post] at hsl hlen
 have hlq:((post a ++ post d) ++ [t]).length=m+j+1:=by rw [List.length_append,List.length_append,hm0,hj0];rfl
 rw [hlq] at hlen
 have h0:=hsl
 obtain ⟨A,c,rfl,hl,hm,hx⟩:=hsl
 rw [hlq] at hl h0 ⊢
 unfold maxLen at hm
 have hxi:((post a ++ post d) ++ [t])[m+j]?=some t:=by rw [List.getElem?_append_right (by simp [hm0,hj0])];simp [hm0,hj0]
 obtain ⟨q,o,rfl,-,hq,hcc⟩:=hx _ t hxi
 obtain ⟨tk,tl,tlo,thi⟩:=t
 simp only at hk
 have e0:=hcc 0 _ rfl
 have e1:=hcc 1 _ rfl
 have e2:=hcc 2 _ rfl
 have e3:=hcc 3 _ rfl
 simp only [Nat.add_zero] at e0
 have h1:SlE w cEd 4 (.slice (some ⟨q,o,none⟩) (m+j) c) (post a ++ post d):=SlI.headT h0 (by simp [hm0,hj0])
 have HSA:=Hd_ (show SlE w cEd 4 (.slice (some ⟨q,o,none⟩) m c) (post a) from SlI.headT h1 hm0.symm)
 have HSB:=Hd_ (show SlE w cEd 4 (.slice (some ⟨q,o+m * 4,none⟩) j (c - m)) (post d) from SlI.tailT h1 hm0.symm hj0.symm rfl)
 have HST:=Hd_ (fun (W:World) (hW:Below w.heap.size w W)=>l8Start_any _ (post a) d W (h1.keep hW) hrd (by simp [<- hm0,<- hj0];omega))
 rw [<- hm0] at HST
 have HPA:=Hd_ (show (post a).length<=1048576 by omega)
 have HPD:=Hd_ (show (post d).length<=1048576 by omega)
 have hmc:¬ c=m:=by omega
 have hm1:m<=c:=by omega
 have hm2:m+j<=c:=by omega
 have hm3:(m:Int)<=(m:Int)+(j:Int):=by omega
 have hm4:m<=m+j:=by omega
 have hm5:(0:Int)<=(m:Int)+(j:Int):=by omega
 have hm6:(m:Int)+(j:Int)<=(c:Int):=by omega
 have hm7:((m:Int)+(j:Int)).toNat=m+j:=by omega
 have hm8:m+j - m=j:=by omega
 clear hx hcc hxi h0 h1 hm0 hj0 hlq hok iha ihd hg hrd
 obtain ⟨A1,n1,c1,A2,n2,c2,rfl⟩:=hgv.shape
 have hn1:=hgv.n1
 have hal:=((Below.refl w.heap.size w).alloc (Nat.le_refl _) (.cells #[.slice A1 n1 c1,.slice A2 n2 c2] 36)).alloc (by simp) (.cells #[.int .i64 tk,.int .i64 tl,.int .i64 tlo,.int .i64 thi] 113)
 have hgb:=(Blk.new w 36 #[.slice A1 n1 c1,.slice A2 n2 c2] _ rfl).alloc (.cells #[.int .i64 tk,.int .i64 tl,.int .i64 tlo,.int .i64 thi] 113)
 have htb:=Blk.new (w.alloc (.cells #[.slice A1 n1 c1,.slice A2 n2 c2] 36)) 113 #[.int .i64 tk,.int .i64 tl,.int .i64 tlo,.int .i64 thi] (w.heap.size+1) (by simp)
 have HGV:=Hd_ (hgv.keep hal)
 have HAL:=Hd_ hal
 have HN1:=Hd_ hn1
 obtain ⟨gq,hgq⟩:∃ gq,gq=w.heap.size:=⟨_,rfl⟩
 obtain ⟨W,hW⟩:∃ W,W=(w.alloc (.cells #[.slice A1 n1 c1,.slice A2 n2 c2] 36)).alloc (.cells #[.int .i64 tk,.int .i64 tl,.int .i64 tlo,.int .i64 thi] 113):=⟨_,rfl⟩
 rw [<- hW] at hgb htb HGV HAL
 rw [<- hgq] at hgb htb
 have hHW:=Hd_ hW
 have hHG:=Hd_ hgq
 clear hal hgv hn1 hW hgq
 have g0:W.cell? ⟨gq,0,none⟩=some (.slice A1 n1 c1):=by exact hgb.cell 0
 have g1:W.cell? ⟨gq,1,none⟩=some (.slice A2 n2 c2):=by exact hgb.cell 1
 have t0:W.cell? ⟨gq+1,0,none⟩=some (.int .i64 tk):=by exact htb.cell 0
 clear hgb htb
 rcases hk with rfl | rfl
 · have hr:R=composeL (evalT g a) (evalT g d):=by rw [HR.out];rfl
   have HRI:=Hd_ hr
   clear HR hr
   go_enter Try.func43,Try.ntmps43
   go_upto_region 3 with fail
   rw [<- hHW.out]
   rw [<- hHG.out]
   clear e0 e1 e2 e3
   go_wp2_with fail
   refine (HST.out _ HAL.out).mono ?_
   rintro e w2 ⟨rfl,hb2⟩
   have g0:=kcell hb2 g0
   have g1:=kcell hb2 g1
   have HGV:=Hd_ (HGV.out.keep hb2)
   have HAL:=Hd_ (below_trans HAL.out hb2)
   clear hb2 t0
   go_wp2_with fail
   refine F_start 12 (fun w'=>w'.cell? ⟨gq,0,none⟩=some (.slice A1 n1 c1)/\w'.cell? ⟨gq,1,none⟩=some (.slice A2 n2 c2)) (by kernel_rfl) (by exact ⟨g0,g1⟩) (fun hS inv=>?_)
   refine F_tk 0 inv ?_
   try simp only [tA,tB,tC,Act.put,tE,tF,tG]
   clear inv;intro inv
   refine F_tk 1 inv ?_
   try simp only [tA,tB,tC,Act.put,tE,tF,tG]
   clear inv;intro inv
   refine F_tk 2 inv ?_
   try simp only [tA,tB,tC,Act.put,tE,tF,tG]
   clear inv;intro inv
   refine F_tk 3 inv ?_
   try simp only [tA,tB,tC,Act.put,tE,tF,tG]
   clear inv;intro inv
   refine F_tk 5 inv ?_
   try simp only [tA,tB,tC,Act.put,tE,tF,tG]
   clear inv;intro inv
   refine F_tk 6 inv ?_
   try simp only [tA,tB,tC,Act.put,tE,tF,tG]
   clear inv;intro inv
   refine F_tk 7 inv ?_
   try simp only [tA,tB,tC,Act.put,tE,tF,tG]
   clear inv;intro inv
   refine F_tk 8 inv ?_
   try simp only [tA,tB,tC,Act.put,tE,tF,tG]
   clear inv;intro inv
   refine F_tk 9 inv ?_
   try simp only [tA,tB,tC,Act.put,tE,tF,tG]
   clear inv;intro inv
   have hd:=(Below.refl w2.heap.size w2).drew
   have HGD:=Hd_ (HGV.out.keep hd)
   have HD:=Hd_ (below_trans HAL.out hd)
   have HSD:=Hd_ (SlE.keep HSA.out HD.out)
   have HSE:=Hd_ (SlE.keep HSB.out HD.out)
   clear hd g0 g1 HGV HSA HSB
   refine F_o1 4 inv ?_;intro K hK
   try simp only [tA,tB,tC]
   go_simp
   refine (HIA.out _ _ _ HSD.out HPA.out HGD.out).mono ?_
   rintro e w3 ⟨v3,rfl,hO,hB⟩
   have HV3:=Hd_ ((hO.sl cPr_len).mono (lo':=0) (Nat.zero_le _) (Nat.le_refl _))
   have HB3:=Hd_ hB
   have HGD:=Hd_ (HGD.out.keep hB)
   have HSE:=Hd_ (SlE.keep HSE.out hB)
   clear hO hB
   refine hK.out _ _ (⟨kcell HB3.out hS.1,kcell HB3.out hS.2⟩) (fun _ _=>?_)
   try simp only [tA,tB,tC,Act.put,tE,tF,tG]
   clear hK K inv hS;rename_i hS inv
   refine F_o1 10 inv ?_;intro K hK
   try simp only [tA,tB,tC]
   go_simp
   refine (HID.out _ _ _ HSE.out HPD.out HGD.out).mono ?_
   rintro e w4 ⟨v4,rfl,hO,hB⟩
   have HV4:=Hd_ ((hO.sl cPr_len).mono (lo':=0) (Nat.zero_le _) (Nat.le_refl _))
   have HV3:=Hd_ (SlE.keep HV3.out hB)
   have HB4:=Hd_ hB
   clear hO hB
   refine hK.out _ _ (⟨kcell HB4.out hS.1,kcell HB4.out hS.2⟩) (fun _ _=>?_)
   try simp only [tA,tB,tC,Act.put,tE,tF,tG]
   clear hK K inv hS;rename_i hS inv
   refine F_o1 11 inv ?_;intro K hK
   try simp only [tA,tB,tC]
   go_simp
   refine (specCompose _ _ _ _ _ HV3.out HV4.out (Nat.le_trans HLA.out (by omega)) (Nat.le_trans HLD.out (by omega))).mono ?_
   rintro e w5 ⟨v5,rfl,hO,hB⟩
   have HO:=Hd_ (show Own w.heap.size w5.heap.size w5 82 cPr 2 v5 R by rw [HRI.out];exact hO.mono (below_trans (below_trans HD.out HB3.out) HB4.out).size (Nat.le_refl _))
   have HBB:=Hd_ hB
   have HB:=Hd_ (below_trans (below_trans (below_trans HD.out HB3.out) HB4.out) hB)
   clear hO hB
   refine hK.out _ _ (⟨kcell HBB.out hS.1,kcell HBB.out hS.2⟩) (fun _ _=>?_)
   try simp only [tA,tB,tC,Act.put,tE,tF,tG]
   clear hK K inv hS;rename_i hS inv
   refine F_l1 12 ?_;intro K hK
   go_simp
   refine hK _ _ ?_
   clear hK K
   go_wp2_with fail
   go_ret
   exact ⟨_,rfl,HO.out,HB.out⟩
 · have hr:R=mergeL (evalT g a) (evalT g d):=by rw [HR.out];rfl
   have HRI:=Hd_ hr
   clear HR hr
   go_enter Try.func43,Try.ntmps43
   go_upto_region 3 with fail
   rw [<- hHW.out]
   rw [<- hHG.out]
   clear e0 e1 e2 e3
   go_wp2_with fail
   refine (HST.out _ HAL.out).mono ?_
   rintro e w2 ⟨rfl,hb2⟩
   have g0:=kcell hb2 g0
   have g1:=kcell hb2 g1
   have HGV:=Hd_ (HGV.out.keep hb2)
   have HAL:=Hd_ (below_trans HAL.out hb2)
   clear hb2 t0
   go_wp2_with fail
   refine F_start 12 (fun w'=>w'.cell? ⟨gq,0,none⟩=some (.slice A1 n1 c1)/\w'.cell? ⟨gq,1,none⟩=some (.slice A2 n2 c2)) (by kernel_rfl) (by exact ⟨g0,g1⟩) (fun hS inv=>?_)
   refine F_tk 0 inv ?_
   try simp only [tA,tB,tC,Act.put,tE,tF,tG]
   clear inv;intro inv
   refine F_tk 1 inv ?_
   try simp only [tA,tB,tC,Act.put,tE,tF,tG]
   clear inv;intro inv
   refine F_tk 2 inv ?_
   try simp only [tA,tB,tC,Act.put,tE,tF,tG]
   clear inv;intro inv
   refine F_tk 3 inv ?_
   try simp only [tA,tB,tC,Act.put,tE,tF,tG]
   clear inv;intro inv
   refine F_tk 5 inv ?_
   try simp only [tA,tB,tC,Act.put,tE,tF,tG]
   clear inv;intro inv
   refine F_tk 6 inv ?_
   try simp only [tA,tB,tC,Act.put,tE,tF,tG]
   clear inv;intro inv
   refine F_tk 7 inv ?_
   try simp only [tA,tB,tC,Act.put,tE,tF,tG]
   clear inv;intro inv
   refine F_tk 8 inv ?_
   try simp only [tA,tB,tC,Act.put,tE,tF,tG]
   clear inv;intro inv
   refine F_tk 9 inv ?_
   try simp only [tA,tB,tC,Act.put,tE,tF,tG]
   clear inv;intro inv
   have hd:=(Below.refl w2.heap.size w2).drew
   have HGD:=Hd_ (HGV.out.keep hd)
   have HD:=Hd_ (below_trans HAL.out hd)
   have HSD:=Hd_ (SlE.keep HSA.out HD.out)
   have HSE:=Hd_ (SlE.keep HSB.out HD.out)
   clear hd g0 g1 HGV HSA HSB
   refine F_o1 4 inv ?_;intro K hK
   try simp only [tA,tB,tC]
   go_simp
   refine (HIA.out _ _ _ HSD.out HPA.out HGD.out).mono ?_
   rintro e w3 ⟨v3,rfl,hO,hB⟩
   have HV3:=Hd_ ((hO.sl cPr_len).mono (lo':=0) (Nat.zero_le _) (Nat.le_refl _))
   have HB3:=Hd_ hB
   have HGD:=Hd_ (HGD.out.keep hB)
   have HSE:=Hd_ (SlE.keep HSE.out hB)
   clear hO hB
   refine hK.out _ _ (⟨kcell HB3.out hS.1,kcell HB3.out hS.2⟩) (fun _ _=>?_)
   try simp only [tA,tB,tC,Act.put,tE,tF,tG]
   clear hK K inv hS;rename_i hS inv
   refine F_o1 10 inv ?_;intro K hK
   try simp only [tA,tB,tC]
   go_simp
   refine (HID.out _ _ _ HSE.out HPD.out HGD.out).mono ?_
   rintro e w4 ⟨v4,rfl,hO,hB⟩
   have HV4:=Hd_ ((hO.sl cPr_len).mono (lo':=0) (Nat.zero_le _) (Nat.le_refl _))
   have HV3:=Hd_ (SlE.keep HV3.out hB)
   have HB4:=Hd_ hB
   clear hO hB
   refine hK.out _ _ (⟨kcell HB4.out hS.1,kcell HB4.out hS.2⟩) (fun _ _=>?_)
   try simp only [tA,tB,tC,Act.put,tE,tF,tG]
   clear hK K inv hS;rename_i hS inv
   refine F_o1 11 inv ?_;intro K hK
   try simp only [tA,tB,tC]
   go_simp
   refine (specMerge _ _ _ _ _ HV3.out HV4.out (Nat.le_trans HLA.out (by omega)) (Nat.le_trans HLD.out (by omega))).mono ?_
   rintro e w5 ⟨v5,rfl,hO,hB⟩
   have HO:=Hd_ (show Own w.heap.size w5.heap.size w5 82 cPr 2 v5 R by rw [HRI.out];exact hO.mono (below_trans (below_trans HD.out HB3.out) HB4.out).size (Nat.le_refl _))
   have HBB:=Hd_ hB
   have HB:=Hd_ (below_trans (below_trans (below_trans HD.out HB3.out) HB4.out) hB)
   clear hO hB
   refine hK.out _ _ (⟨kcell HBB.out hS.1,kcell HBB.out hS.2⟩) (fun _ _=>?_)
   try simp only [tA,tB,tC,Act.put,tE,tF,tG]
   clear hK K inv hS;rename_i hS inv
   refine F_l1 12 ?_;intro K hK
   go_simp
   refine hK _ _ ?_
   clear hK K
   go_wp2_with fail
   go_ret
   exact ⟨_,rfl,HO.out,HB.out⟩
theorem l16Eval_any {g:Gr} (hg:GrOk g):∀ {r:Tr},r.ok->EvIH g r
 | .leaf _,h=>fun ss vg w hsl _ hgv=>ev_leaf h vg ss w hsl hgv
 | .un _ _,h=>fun ss vg w hsl hl hgv=>ev_un hg h.1 (l16Eval_any hg h.2) vg ss w hsl hl hgv
 | .bin _ _ _,h=>fun ss vg w hsl hl hgv=>ev_bin hg h.1 h.2.2 (l16Eval_any hg h.2.1) (l16Eval_any hg h.2.2) vg ss w hsl hl hgv
theorem eval_yes {g:Gr} {l:List Tok} {r:Tr} (hg:grOk g=true) (h24:l.length<=24) (ht:treeL l=some r):evalE g l=(evalT g r,true):=by
 rw [evalE,if_pos (by rw [hg,exprOk,ht,decide_eq_true h24];rfl),ht]
theorem eval_noG {g:Gr} {l:List Tok} (hg:grOk g=false):evalE g l=([],false):=by
 rw [evalE,if_neg (by rw [hg];simp)]
theorem eval_noE {g:Gr} {l:List Tok} (hl:exprOk l=false):evalE g l=([],false):=by
 rw [evalE,if_neg (by rw [hl];simp)]
set_option maxHeartbeats 1000000 in
theorem implIsExpr_any (ss:Value) (l:List Tok) (w:World) (hv:SlE w cEd 4 ss l) (h24:l.length<=24) :
 Calls Try.prog 82 #[.agg #[ss]] w fun e w'=>e=.returned (.bool (treeL l).isSome)/\Below w.heap.size w w':=by
 have hb0:Below w.heap.size w (w.alloc (.cells #[ss] 40)):=(Below.refl _ _).alloc (Nat.le_refl _) _
 obtain ⟨A,n,c,rfl⟩:=hv.shape
 have HV:=Hd_ (SlE.keep hv hb0)
 have HB:=Hd_ hb0
 have H24:=Hd_ h24
 clear hv hb0 h24
 go_enter Try.func82,Try.ntmps82
 go_wp2_with fail
 refine (treeOf_any _ l _ HV.out H24.out).mono ?_
 rintro e w' ⟨⟨ht,rfl⟩ | ⟨r,b,ht,rfl,-⟩,hb⟩
 · have HBB:=Hd_ (below_trans HB.out hb)
   have HT:=Hd_ ht
   clear ht hb HV H24
   go_wp2_with fail
   go_ret
   exact ⟨by rw [HT.out];rfl,HBB.out⟩
 · have HBB:=Hd_ (below_trans HB.out hb)
   have HT:=Hd_ ht
   clear ht hb HV H24
   go_wp2_with fail
   go_ret
   exact ⟨by rw [HT.out];rfl,HBB.out⟩
set_option maxHeartbeats 1000000 in
theorem implValidExpr_any (ss:Value) (l:List Tok) (w:World) (hv:SlE w cEd 4 ss l) :
 Calls Try.prog 48 #[.agg #[ss]] w fun e w'=>e=.returned (.bool (exprOk l))/\Below w.heap.size w w':=by
 have hb0:Below w.heap.size w (w.alloc (.cells #[ss] 40)):=(Below.refl _ _).alloc (Nat.le_refl _) _
 have HV:=Hd_ (SlE.keep hv hb0)
 obtain ⟨A,c,rfl,hl,hm,-⟩:=hv
 obtain ⟨n,hn⟩:∃ n,n=l.length:=⟨_,rfl⟩
 rw [<- hn] at hl HV hb0 ⊢
 unfold maxLen at hm
 have HB:=Hd_ hb0
 have HN:=Hd_ hn
 clear hb0 hn
 by_cases h24:n<=24
 · have hii:(n:Int)<=24:=by omega
   have HE:=Hd_ (show exprOk l=(treeL l).isSome by rw [exprOk,decide_eq_true (by rw [<- HN.out];exact h24),Bool.true_and])
   have H24:=Hd_ (show l.length<=24 by rw [<- HN.out];exact h24)
   obtain ⟨bb,hbb⟩:∃ bb,bb=(treeL l).isSome:=⟨_,rfl⟩
   have HBB:=Hd_ hbb
   have HI:=Hd_ (hbb ▸ implIsExpr_any _ l _ HV.out H24.out)
   clear hbb h24 HV
   go_enter Try.func48,Try.ntmps48
   go_wp2_with fail
   refine HI.out.mono ?_
   rintro e w' ⟨rfl,hb⟩
   have HBC:=Hd_ (below_trans HB.out hb)
   clear hb HI
   go_wp2_with fail
   go_ret
   exact ⟨by rw [HE.out,HBB.out];rfl,HBC.out⟩
 · have hii:¬ (n:Int)<=24:=by omega
   have HE:=Hd_ (show exprOk l=false by rw [exprOk,decide_eq_false (by rw [<- HN.out];exact h24),Bool.false_and])
   clear h24 HV
   go_enter Try.func48,Try.ntmps48
   go_wp2_with fail
   go_ret
   exact ⟨by rw [HE.out];rfl,HB.out⟩
def EvOut (g:Gr) (l:List Tok) (w:World) (e:Ending) (w':World):Prop:=∃ v',e=.returned (.tuple #[v',.bool (evalE g l).2])/\Own w.heap.size w'.heap.size w' 82 cPr 2 v' (evalE g l).1/\Below w.heap.size w w'
set_option maxRecDepth 100000 in
set_option maxHeartbeats 4000000 in
theorem implEvaluate (vg ss:Value) (g:Gr) (l:List Tok) (w:World) (hgv:GrV 0 w.heap.size w vg g) (hv:SlE w cEd 4 ss l) :
 Calls Try.prog 12 #[vg,.agg #[ss]] w (EvOut g l w):=by
 obtain ⟨A1,n1,c1,A2,n2,c2,rfl⟩:=hgv.shape
 obtain ⟨A,n,c,rfl⟩:=hv.shape
 have hal:=((Below.refl w.heap.size w).alloc (Nat.le_refl _) (.cells #[.slice A1 n1 c1,.slice A2 n2 c2] 36)).alloc (by simp) (.cells #[.slice A n c] 40)
 have hgb:=(Blk.new w 36 #[.slice A1 n1 c1,.slice A2 n2 c2] _ rfl).alloc (.cells #[.slice A n c] 40)
 have htb:=Blk.new (w.alloc (.cells #[.slice A1 n1 c1,.slice A2 n2 c2] 36)) 40 #[.slice A n c] (w.heap.size+1) (by simp)
 have HGV:=Hd_ (hgv.keep hal)
 have HV:=Hd_ (SlE.keep hv hal)
 have HAL:=Hd_ hal
 obtain ⟨gq,hgq⟩:∃ gq,gq=w.heap.size:=⟨_,rfl⟩
 obtain ⟨W,hW⟩:∃ W,W=(w.alloc (.cells #[.slice A1 n1 c1,.slice A2 n2 c2] 36)).alloc (.cells #[.slice A n c] 40):=⟨_,rfl⟩
 rw [<- hW] at hgb htb HGV HAL HV
 rw [<- hgq] at hgb htb
 have hHW:=Hd_ hW
 have hHG:=Hd_ hgq
 clear hal hgv hv hW hgq
 have g0:W.cell? ⟨gq,0,none⟩=some (.slice A1 n1 c1):=by exact hgb.cell 0
 have g1:W.cell? ⟨gq,1,none⟩=some (.slice A2 n2 c2):=by exact hgb.cell 1
 have t0:W.cell? ⟨gq+1,0,none⟩=some (.slice A n c):=by exact htb.cell 0
 clear hgb htb
 obtain ⟨bg,hbg⟩:∃ bg,bg=grOk g:=⟨_,rfl⟩
 have HVG:=Hd_ (hbg ▸ implValidGraph _ g _ HGV.out)
 have HBG:=Hd_ hbg
 clear hbg
 go_enter Try.func12,Try.ntmps12
 go_upto_region 1 with fail
 rw [<- hHW.out]
 rw [<- hHG.out]
 go_wp2_with fail
 refine HVG.out.mono ?_
 rintro e w1 ⟨rfl,hb1⟩
 have g0:=kcell hb1 g0
 have g1:=kcell hb1 g1
 have t0:=kcell hb1 t0
 have HGV:=Hd_ (HGV.out.keep hb1)
 have HV:=Hd_ (SlE.keep HV.out hb1)
 have HAL:=Hd_ (below_trans HAL.out hb1)
 clear hb1 HVG
 cases bg with
 | false =>
   have HL:=Hd_ (eval_noG (l:=l) HBG.out.symm)
   go_wp2_with fail
   go_ret2
   exact ⟨_,by rw [HL.out];rfl,by rw [HL.out];exact Own.nil _ _ _ _ _ _,HAL.out⟩
 | true =>
   obtain ⟨be,hbe⟩:∃ be,be=exprOk l:=⟨_,rfl⟩
   have HVE:=Hd_ (hbe ▸ implValidExpr_any _ l _ HV.out)
   have HBE:=Hd_ hbe
   clear hbe
   go_wp2_with fail
   refine HVE.out.mono ?_
   rintro e w2 ⟨rfl,hb2⟩
   have g0:=kcell hb2 g0
   have g1:=kcell hb2 g1
   have t0:=kcell hb2 t0
   have HGV:=Hd_ (HGV.out.keep hb2)
   have HV:=Hd_ (SlE.keep HV.out hb2)
   have HAL:=Hd_ (below_trans HAL.out hb2)
   clear hb2 HVE
   cases be with
   | false =>
     have HL:=Hd_ (eval_noE (g:=g) HBE.out.symm)
     go_wp2_with fail
     go_ret2
     exact ⟨_,by rw [HL.out];rfl,by rw [HL.out];exact Own.nil _ _ _ _ _ _,HAL.out⟩
   | true =>
     have hk:l.length<=24/\∃ r,treeL l=some r:=by
      have h:=HBE.out.symm
      rw [exprOk,Bool.and_eq_true,decide_eq_true_eq,Option.isSome_iff_exists] at h
      exact h
     obtain ⟨h24,r,hr⟩:=hk
     have HL:=Hd_ (eval_yes HBG.out.symm h24 hr)
     have HOK:=Hd_ (treeL_post hr).1
     have HGO:=Hd_ (grOk_iff.1 HBG.out.symm)
     have H24:=Hd_ h24
     have HR:=Hd_ hr
     clear h24 hr HBE HBG
     go_wp2_with fail
     refine F_start 5 (fun w'=>w'.cell? ⟨gq,0,none⟩=some (.slice A1 n1 c1)/\w'.cell? ⟨gq,1,none⟩=some (.slice A2 n2 c2)/\w'.cell? ⟨gq+1,0,none⟩=some (.slice A n c)) (by kernel_rfl) (by exact ⟨g0,g1,t0⟩) (fun hS inv=>?_)
     refine F_tk 0 inv ?_
     try simp only [tA,tB,tC,Act.put,tE,tF,tG]
     clear inv;intro inv
     refine F_tk 2 inv ?_
     try simp only [tA,tB,tC,Act.put,tE,tF,tG]
     clear inv;intro inv
     have hd:=(Below.refl w2.heap.size w2).drew
     have HGD:=Hd_ (HGV.out.keep hd)
     have HVD:=Hd_ (SlE.keep HV.out hd)
     have HD:=Hd_ (below_trans HAL.out hd)
     clear hd g0 g1 t0 HGV HV HAL
     refine F_o1 1 inv ?_;intro K hK
     try simp only [tA,tB,tC]
     go_simp
     refine (treeOf_any _ l _ HVD.out H24.out).mono ?_
     rintro e w3 ⟨⟨ht,rfl⟩ | ⟨r',b,ht,rfl,htr⟩,hb⟩
     · rw [HR.out] at ht
       cases ht
     · rw [HR.out] at ht
       injection ht with ht
       subst ht
       have HT:=Hd_ htr
       have HB3:=Hd_ hb
       have HGD:=Hd_ (HGD.out.keep hb)
       have HD:=Hd_ (below_trans HD.out hb)
       clear htr hb
       refine hK.out _ _ (⟨kcell HB3.out hS.1,kcell HB3.out hS.2.1,kcell HB3.out hS.2.2⟩) (fun _ _=>?_)
       try simp only [tA,tB,tC,Act.put,tE,tF,tG]
       clear hK K inv hS;rename_i hS inv
       refine F_o1 3 inv ?_;intro K hK
       try simp only [tA,tB,tC]
       go_simp
       refine (relation_any HGO.out HOK.out _ _ _ HT.out HGD.out).mono ?_
       rintro e w4 ⟨v4,rfl,hO,hB⟩
       have HO:=Hd_ (show Own w.heap.size w4.heap.size w4 82 cPr 2 v4 (evalE g l).1 by rw [HL.out];exact hO.mono HD.out.size (Nat.le_refl _))
       have HB4:=Hd_ hB
       have HB:=Hd_ (below_trans HD.out hB)
       clear hO hB
       refine hK.out _ _ (⟨kcell HB4.out hS.1,kcell HB4.out hS.2.1,kcell HB4.out hS.2.2⟩) (fun _ _=>?_)
       try simp only [tA,tB,tC,Act.put,tE,tF,tG]
       clear hK K inv hS;rename_i hS inv
       refine F_o1 4 inv ?_;intro K hK
       try simp only [tA,tB,tC]
       go_simp
       refine hK.out _ _ (hS) (fun _ _=>?_)
       try simp only [tA,tB,tC,Act.put,tE,tF,tG]
       clear hK K inv hS;rename_i hS inv
       refine F_l1 5 ?_;intro K hK
       go_simp
       refine hK _ _ ?_
       clear hK K
       go_wp2_with fail
       go_ret2
       exact ⟨_,by rw [HL.out];rfl,HO.out,HB.out⟩
set_option maxRecDepth 100000 in
set_option maxHeartbeats 4000000 in
theorem specEvaluate (vg ss:Value) (g:Gr) (l:List Tok) (w:World) (hgv:GrV 0 w.heap.size w vg g) (hv:SlE w cEd 4 ss l) :
 Calls Try.prog 9 #[vg,.agg #[ss]] w (EvOut g l w):=by
 obtain ⟨A1,n1,c1,A2,n2,c2,rfl⟩:=hgv.shape
 obtain ⟨A,n,c,rfl⟩:=hv.shape
 have hal:=((Below.refl w.heap.size w).alloc (Nat.le_refl _) (.cells #[.slice A1 n1 c1,.slice A2 n2 c2] 36)).alloc (by simp) (.cells #[.slice A n c] 40)
 have hgb:=(Blk.new w 36 #[.slice A1 n1 c1,.slice A2 n2 c2] _ rfl).alloc (.cells #[.slice A n c] 40)
 have htb:=Blk.new (w.alloc (.cells #[.slice A1 n1 c1,.slice A2 n2 c2] 36)) 40 #[.slice A n c] (w.heap.size+1) (by simp)
 have HGV:=Hd_ (hgv.keep hal)
 have HV:=Hd_ (SlE.keep hv hal)
 have HAL:=Hd_ hal
 obtain ⟨gq,hgq⟩:∃ gq,gq=w.heap.size:=⟨_,rfl⟩
 obtain ⟨W,hW⟩:∃ W,W=(w.alloc (.cells #[.slice A1 n1 c1,.slice A2 n2 c2] 36)).alloc (.cells #[.slice A n c] 40):=⟨_,rfl⟩
 rw [<- hW] at hgb htb HGV HAL HV
 rw [<- hgq] at hgb htb
 have hHW:=Hd_ hW
 have hHG:=Hd_ hgq
 clear hal hgv hv hW hgq
 have g0:W.cell? ⟨gq,0,none⟩=some (.slice A1 n1 c1):=by exact hgb.cell 0
 have g1:W.cell? ⟨gq,1,none⟩=some (.slice A2 n2 c2):=by exact hgb.cell 1
 have t0:W.cell? ⟨gq+1,0,none⟩=some (.slice A n c):=by exact htb.cell 0
 clear hgb htb
 obtain ⟨bg,hbg⟩:∃ bg,bg=grOk g:=⟨_,rfl⟩
 have HVG:=Hd_ (hbg ▸ specValidGraph _ g _ HGV.out)
 have HBG:=Hd_ hbg
 clear hbg
 go_enter Try.func9,Try.ntmps9
 go_upto_region 1 with fail
 rw [<- hHW.out]
 rw [<- hHG.out]
 go_wp2_with fail
 refine HVG.out.mono ?_
 rintro e w1 ⟨rfl,hb1⟩
 have g0:=kcell hb1 g0
 have g1:=kcell hb1 g1
 have t0:=kcell hb1 t0
 have HGV:=Hd_ (HGV.out.keep hb1)
 have HV:=Hd_ (SlE.keep HV.out hb1)
 have HAL:=Hd_ (below_trans HAL.out hb1)
 clear hb1 HVG
 cases bg with
 | false =>
   have HL:=Hd_ (eval_noG (l:=l) HBG.out.symm)
   have hl:=World.ownsRow_lit (base:=w.heap.size) (e:=82) (size:=2) w1 #[] 0 HAL.out.size (by decide) rfl
   have HO:=Hd_ (Own.of_row (E:=cPr) (xs:=[]) hl rfl rfl)
   have HB:=Hd_ (below_trans HAL.out ((Below.refl w1.heap.size w1).alloc (Nat.le_refl _) (.cells #[] 82)))
   clear hl
   go_wp2_with fail
   go_ret2
   exact ⟨_,by rw [HL.out];rfl,by rw [HL.out];exact HO.out,HB.out⟩
 | true =>
   obtain ⟨be,hbe⟩:∃ be,be=okE l:=⟨_,rfl⟩
   have HVE:=Hd_ (hbe ▸ isValidExpr_any _ l _ HV.out)
   have HBE:=Hd_ (show be=exprOk l from hbe)
   clear hbe
   go_wp2_with fail
   refine HVE.out.mono ?_
   rintro e w2 ⟨rfl,hb2⟩
   have g0:=kcell hb2 g0
   have g1:=kcell hb2 g1
   have t0:=kcell hb2 t0
   have HGV:=Hd_ (HGV.out.keep hb2)
   have HV:=Hd_ (SlE.keep HV.out hb2)
   have HAL:=Hd_ (below_trans HAL.out hb2)
   clear hb2 HVE
   cases be with
   | false =>
     have HL:=Hd_ (eval_noE (g:=g) HBE.out.symm)
     have hl:=World.ownsRow_lit (base:=w.heap.size) (e:=82) (size:=2) w2 #[] 0 HAL.out.size (by decide) rfl
     have HO:=Hd_ (Own.of_row (E:=cPr) (xs:=[]) hl rfl rfl)
     have HB:=Hd_ (below_trans HAL.out ((Below.refl w2.heap.size w2).alloc (Nat.le_refl _) (.cells #[] 82)))
     clear hl
     go_wp2_with fail
     go_ret2
     exact ⟨_,by rw [HL.out];rfl,by rw [HL.out];exact HO.out,HB.out⟩
   | true =>
     have hk:l.length<=24/\∃ r,treeL l=some r:=by
      have h:=HBE.out.symm
      rw [exprOk,Bool.and_eq_true,decide_eq_true_eq,Option.isSome_iff_exists] at h
      exact h
     obtain ⟨h24,r,hr⟩:=hk
     have HL:=Hd_ (eval_yes HBG.out.symm h24 hr)
     obtain ⟨hok,hpo⟩:=treeL_post hr
     have HOK:=Hd_ hok
     have HGO:=Hd_ (grOk_iff.1 HBG.out.symm)
     have HP24:=Hd_ (show (post r).length<=1048576 by rw [hpo];omega)
     have HVP:=Hd_ (show SlE w2 cEd 4 (.slice A n c) (post r) by rw [hpo];exact HV.out)
     clear h24 hr HBE HBG hok hpo HV
     go_wp2_with fail
     refine (l16Eval_any HGO.out HOK.out _ _ _ HVP.out HP24.out HGV.out).mono ?_
     rintro e w4 ⟨v4,rfl,hO,hB⟩
     have HO:=Hd_ (show Own w.heap.size w4.heap.size w4 82 cPr 2 v4 (evalE g l).1 by rw [HL.out];exact hO.mono HAL.out.size (Nat.le_refl _))
     have HB:=Hd_ (below_trans HAL.out hB)
     clear hO hB
     go_wp2_with fail
     go_ret2
     exact ⟨_,by rw [HL.out];rfl,HO.out,HB.out⟩
end Go.Proofs.Ytloeghbhoflabaa
namespace Go.Proofs.Ytloeghbhoflabaa
open Go.ChangeShapes Go.WideShapes Go.ChangeAt Go.RowKit
theorem implEvaluateX (vg ve:Value) (g:Gr) (l:List Ed) (w:World) (hgv:GrV 0 w.heap.size w vg g) (hv:ExV 0 w.heap.size w ve l) :
 Calls Try.prog 12 #[vg,ve] w fun e w'=>∃ v',e=.returned (.tuple #[v',.bool (evalE g l).2])/\Own w.heap.size w'.heap.size w' 82 cPr 2 v' (evalE g l).1/\Below w.heap.size w w':=by
 obtain ⟨ss,rfl,h⟩:=hv
 exact implEvaluate vg ss g l w hgv h
theorem specEvaluateX (vg ve:Value) (g:Gr) (l:List Ed) (w:World) (hgv:GrV 0 w.heap.size w vg g) (hv:ExV 0 w.heap.size w ve l) :
 Calls Try.prog 9 #[vg,ve] w fun e w'=>∃ v',e=.returned (.tuple #[v',.bool (evalE g l).2])/\Own w.heap.size w'.heap.size w' 82 cPr 2 v' (evalE g l).1/\Below w.heap.size w w':=by
 obtain ⟨ss,rfl,h⟩:=hv
 exact specEvaluate vg ss g l w hgv h
end Go.Proofs.Ytloeghbhoflabaa
namespace Go.Proofs.Ytloeghbhoflabaa
theorem seat_mayEnter:Try.pinned.checked.prog.mayEnter=true:=by kernel_rfl
theorem seat_lifts:Try.pinned.checked.prog.liftsFinal=false:=by kernel_rfl
theorem seat_laidOut:laidOutB Try.pinned.checked.prog=true:=by kernel_rfl
theorem seat_mapsRowed:mapsRowed Try.pinned.checked.prog=true:=by kernel_rfl
end Go.Proofs.Ytloeghbhoflabaa
