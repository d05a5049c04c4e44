/- Parts of the proof, joined into one text: AlongI, EqSt, RnkI, RnkS, CmpW, Rec, Seat. -/
import Derived.Test.YtcnenpjaoalmeaaGreatOnlzPHPFCMJJ
import Derived.Test.YtcnenpjaoalmeaaGreatOnlzOFLKAIBE
import Derived.Test.YtcnenpjaoalmeaaGreatOnlzPFBPAMGP
import Derived.Test.YtcnenpjaoalmeaaGreatOnlzFMIHCKLL
import Derived.Test.YtcnenpjaoalmeaaGreatOnlzNBNNNJPC
import Derived.Test.YtcnenpjaoalmeaaGreatOnlzNIJFIFNF
import Derived.Test.YtcnenpjaoalmeaaGreatOnlzACPBJODD
import Derived.Test.YtcnenpjaoalmeaaGreatOnlzAMFEKBDB
import Derived.JoinedOf
import Derived.Test.YtcnenpjaoalmeaaGreatRows
set_option linter.unusedVariables false
set_option linter.unusedSimpArgs false
namespace Go.Proofs.YtcnenpjaoalmeaaGreat
open Go.ChangeShapes Go.WideShapes Go.ChangeAt Go.RowKit
attribute [local go_sem] ext_cell ext_frozen ext_lt ext_lt1 ext_lt2 ext_lt3 ltn2 ltn3 ltn13 lts1 lts2 lts3
set_option maxHeartbeats 1000000 in
theorem implStepLetter (v:Value) (g:Gr) (s:St) (w:World) (hv:GrV 0 w.heap.size w v g) :
 Calls Tryz.prog 105 #[v,.agg #[.int .i64 s.1,.bool s.2]] w fun en w'=>en=.returned (.int .i64 (stepLetter g s))/\Below w.heap.size w w':=by
 have hv0:=hv
 obtain ⟨A1,n1,c1,A2,n2,c2,rfl⟩:=hv.shape
 clear hv
 obtain ⟨id,inv⟩:=s
 have hb0:Below w.heap.size w ((w.alloc (.cells #[.slice A1 n1 c1,.slice A2 n2 c2] 27)).alloc (.cells #[.int .i64 id,.bool inv] 74)):=((Below.refl _ _).alloc (Nat.le_refl _) _).alloc (by simp) _
 have hc:=fun W (hW:Below w.heap.size w W)=>implStepEdge _ g (id,inv) W (hv0.keep hW)
 simp only at hc ⊢
 have HC:=Hd_ hc
 clear hc
 cases hs:stepEd g id with
 | none =>
   have hres:stepLetter g (id,inv)=-1:=by rw [stepLetter];simp [hs]
   have HR:=Hd_ hres
   rw [hs] at HC
   clear hres hs
   go_enter Tryz.func105,Tryz.ntmps105
   go_wp2_with fail
   refine (HC.out _ hb0).mono ?_
   rintro en w1 ⟨e,rfl,-,hb1⟩
   have hb2:=below_trans hb0 hb1
   clear hb0 hb1
   go_wp2_with fail
   go_ret
   exact ⟨ret_int HR.out.symm,hb2.alloc hb2.size _⟩
 | some e =>
   rw [hs] at HC
   have hres:stepLetter g (id,inv)=arcLetter inv e:=stepLetter_of (s:=(id,inv)) hs
   obtain ⟨hg,hm,-⟩:=stepEd_ok hs
   have hl:=(hg.edges e hm).2.2.2
   have HR:=Hd_ hres
   clear hres hs hg hm
   go_enter Tryz.func105,Tryz.ntmps105
   go_wp2_with fail
   refine (HC.out _ hb0).mono ?_
   rintro en w1 ⟨e1,rfl,he1,hb1⟩
   obtain rfl:=he1 e rfl
   have b1:=(Blk.new (w.alloc _) _ _ (w.heap.size+1) (by simp)).keep hb1
   have y1:w1.cell? ⟨w.heap.size+1,1,none⟩=some _:=b1.cell 1
   have hlt:=b1.lt
   have hb2:=below_trans hb0 hb1
   have hb3:=hb2.alloc hb2.size (.cells #[.int .i64 e.1,.int .i64 e.2.1,.int .i64 e.2.2.1,.int .i64 e.2.2.2] 114)
   clear hb0 hb1 he1 b1
   go_wp2_with fail
   refine (reads_any e inv _ hl.1 hl.2).mono ?_
   rintro en w2 ⟨rfl,hb4⟩
   go_wp2_with fail
   go_ret
   exact ⟨ret_int HR.out.symm,below_trans hb3 hb4⟩
theorem flatN_at {xs:List Nat} {t:Nat} {x:Nat} (h:xs[t]?=some x):(xs.flatMap cN)[t]?=some (.int .i64 (x:Int)):=by
 have:=flat_at cN_len h 0 _ rfl
 simpa using this
set_option maxHeartbeats 8000000 in
set_option maxRecDepth 100000 in
theorem along_any (vg va vk:Value) (g:Gr) (a:Au) (k:Wk) (w:World) (hgv:GrV 0 w.heap.size w vg g) (hav:AuV 0 w.heap.size w va a) (hkv:WkV 0 w.heap.size w vk k) :
 Calls Tryz.prog 80 #[vg,va,vk] w fun e w'=>∃ v1 v2,e=.returned (.tuple #[v1,v2,.bool (walkOk g k && auOk a)])/\Own w.heap.size w'.heap.size w' 3 cN 1 v1 (alongS g a k)/\Own w.heap.size w'.heap.size w' 3 cI 1 v2 (alongN g a k)/\Below w.heap.size w w':=by
 have hgv0:=hgv
 have hav0:=hav
 have hkv0:=hkv
 obtain ⟨A1,c1,A2,c2,rfl,hl1,hm1,hl2,hm2,hC1,-⟩:=hgv.form
 obtain ⟨A3,n3,c3,A4,n4,c4,rfl⟩:=hav.shape
 obtain ⟨A5,c5,rfl,hl5,hm5,hC5⟩:=hkv.form
 have hb0:Below w.heap.size w (((w.alloc (.cells #[.slice A1 g.vals.length c1,.slice A2 g.edges.length c2] 27)).alloc (.cells #[.int .i64 a.start,.slice A3 n3 c3,.slice A4 n4 c4] 31)).alloc (.cells #[.int .i64 k.1,.slice A5 k.2.length c5] 36)):=(((Below.refl _ _).alloc (Nat.le_refl _) _).alloc (by simp) _).alloc (by simp;omega) _
 obtain ⟨RS,hRS⟩:∃ RS,RS=alongS g a k:=⟨_,rfl⟩
 obtain ⟨RN,hRN⟩:∃ RN,RN=alongN g a k:=⟨_,rfl⟩
 obtain ⟨ok,hok⟩:∃ ok,ok=(walkOk g k && auOk a):=⟨_,rfl⟩
 rw [<- hRS,<- hRN,<- hok]
 have HOK:=Hd_ hok
 have HRS:=Hd_ hRS
 have HRN:=Hd_ hRN
 have HGV:=Hd_ hgv0
 have HAV:=Hd_ hav0
 have HKV:=Hd_ hkv0
 have HC1:=Hd_ hC1
 have HC5:=Hd_ hC5
 clear hgv hav hkv hgv0 hav0 hkv0 hC1 hC5 hRS hRN hok
 go_enter Tryz.func80,Tryz.ntmps80
 go_wp2_with fail
 obtain ⟨W0,hW0⟩:∃ W0,W0=(((w.alloc (.cells #[.slice A1 g.vals.length c1,.slice A2 g.edges.length c2] 27)).alloc (.cells #[.int .i64 a.start,.slice A3 n3 c3,.slice A4 n4 c4] 31)).alloc (.cells #[.int .i64 k.1,.slice A5 k.2.length c5] 36)):=⟨_,rfl⟩
 rw [<- hW0] at hb0 ⊢
 have bx:Blk W0 w.heap.size 27 #[.slice A1 g.vals.length c1,.slice A2 g.edges.length c2]:=by rw [hW0];exact ((Blk.new w _ _ w.heap.size rfl).alloc _).alloc _
 have by_:Blk W0 (w.heap.size+1) 31 #[.int .i64 a.start,.slice A3 n3 c3,.slice A4 n4 c4]:=by rw [hW0];exact (Blk.new (w.alloc _) _ _ (w.heap.size+1) (by simp)).alloc _
 have bz:Blk W0 (w.heap.size+1+1) 36 #[.int .i64 k.1,.slice A5 k.2.length c5]:=by rw [hW0];exact Blk.new ((w.alloc _).alloc _) _ _ (w.heap.size+1+1) (by simp)
 have x0:W0.cell? ⟨w.heap.size,0,none⟩=some (.slice A1 g.vals.length c1):=by exact bx.cell 0
 have x1:W0.cell? ⟨w.heap.size,1,none⟩=some (.slice A2 g.edges.length c2):=by exact bx.cell 1
 have y0:W0.cell? ⟨w.heap.size+1,0,none⟩=some (.int .i64 a.start):=by exact by_.cell 0
 have y1:W0.cell? ⟨w.heap.size+1,1,none⟩=some (.slice A3 n3 c3):=by exact by_.cell 1
 have y2:W0.cell? ⟨w.heap.size+1,2,none⟩=some (.slice A4 n4 c4):=by exact by_.cell 2
 have z0:W0.cell? ⟨w.heap.size+1+1,0,none⟩=some (.int .i64 k.1):=by exact bz.cell 0
 have z1:W0.cell? ⟨w.heap.size+1+1,1,none⟩=some (.slice A5 k.2.length c5):=by exact bz.cell 1
 have hs0:w.heap.size+1+1+1=W0.heap.size:=by rw [hW0];simp
 have l0:w.heap.size+1+1 < W0.heap.size:=by omega
 clear hW0 hs0 bx by_ bz
 have hnod:=implNodes _ _ g k W0 (HGV.out.keep hb0) (HKV.out.keep hb0)
 have HNOD:=Hd_ hnod
 clear hnod
 cases hw:walkOk g k with
 | false =>
   rw [hw] at HNOD
   have hfS:RS=[]:=by rw [HRS.out,alongS,hw];rfl
   have hfN:RN=[]:=by rw [HRN.out,alongN,hw];rfl
   have hfK:ok=false:=by rw [HOK.out,hw];rfl
   subst hfS hfN hfK
   refine HNOD.out.mono ?_
   rintro e w1 ⟨v1,rfl,ho1,hb1⟩
   obtain ⟨A6,c6,rfl,-,-,-⟩:=ho1.form cI_len
   clear hw HRS HRN HOK
   go_wp2_with fail
   go_ret3
   exact ⟨_,_,rfl,Own.nil _ _ _ _ _ _,Own.nil _ _ _ _ _ _,below_trans hb0 hb1⟩
 | true =>
   rw [hw] at HNOD
   cases ha:auOk a with
   | false =>
     have hfS:RS=[]:=by rw [HRS.out,alongS,hw,ha];rfl
     have hfN:RN=[]:=by rw [HRN.out,alongN,hw,ha];rfl
     have hfK:ok=false:=by rw [HOK.out,hw,ha];rfl
     subst hfS hfN hfK
     have HA:=Hd_ ha
     clear hw HRS HRN ha HOK
     refine HNOD.out.mono ?_
     rintro e w1 ⟨v1,rfl,ho1,hb1⟩
     obtain ⟨A6,c6,rfl,-,-,-⟩:=ho1.form cI_len
     have hb2:=below_trans hb0 hb1
     have y0:=kcell hb1 y0
     have y1:=kcell hb1 y1
     have y2:=kcell hb1 y2
     have l0:=Nat.lt_of_lt_of_le l0 hb1.size
     go_wp2_with fail
     refine (implValidAutomaton _ a _ (HAV.out.keep hb2)).mono ?_
     rw [HA.out]
     rintro e w2 ⟨rfl,hb3⟩
     go_wp2_with fail
     go_ret3
     exact ⟨_,_,rfl,Own.nil _ _ _ _ _ _,Own.nil _ _ _ _ _ _,below_trans hb2 hb3⟩
   | true =>
     have hfS:RS=setsL g a k (k.2.length+1):=by rw [HRS.out,alongS,hw,ha];rfl
     have hfN:RN=nodesL g k:=by rw [HRN.out,alongN,hw,ha];rfl
     have HFS:=Hd_ hfS
     have HFN:=Hd_ hfN
     have HW:=Hd_ hw
     have HA:=Hd_ ha
     have hfK:ok=true:=by rw [HOK.out,hw,ha];rfl
     subst hfK
     clear hw HRS HRN ha hfS hfN HOK
     refine HNOD.out.mono ?_
     rintro e w1 ⟨v1,rfl,ho1,hb1⟩
     rw [nodesOut_yes HW.out] at ho1
     obtain ⟨A6,c6,rfl,hl6,hm6,-⟩:=ho1.form cI_len
     have hb2:=below_trans hb0 hb1
     have x0:=kcell hb1 x0
     have x1:=kcell hb1 x1
     have y0:=kcell hb1 y0
     have y1:=kcell hb1 y1
     have y2:=kcell hb1 y2
     have z0:=kcell hb1 z0
     have z1:=kcell hb1 z1
     have l0:=Nat.lt_of_lt_of_le l0 hb1.size
     have HO1:=Hd_ ho1
     clear ho1 HNOD
     rw [nodesL_len] at hl6 ⊢
     go_wp2_with fail
     refine (implValidAutomaton _ a _ (HAV.out.keep hb2)).mono ?_
     rw [HA.out]
     rintro e w2 ⟨rfl,hb3⟩
     have hbw:=below_trans hb2 hb3
     have x0:=kcell hb3 x0
     have x1:=kcell hb3 x1
     have y0:=kcell hb3 y0
     have y1:=kcell hb3 y1
     have y2:=kcell hb3 y2
     have z0:=kcell hb3 z0
     have z1:=kcell hb3 z1
     have l0:=Nat.lt_of_lt_of_le l0 hb3.size
     obtain ⟨⟨hn1,hn12⟩,⟨hst0,hst1⟩,-,-⟩:=auOk_iff.1 HA.out
     obtain ⟨s,hs⟩:∃ s:Nat,a.start=(s:Int):=⟨a.start.toNat,by omega⟩
     rw [hs] at y0 HAV
     have hsn:s < a.accept.length:=by omega
     have e1:=shl_bit (s:=s) (by omega)
     have hS1:setsL g a k (0+1)=[bit s]:=by simp [setsL,setAt,hs]
     have HS1:=Hd_ hS1
     have hr1:=ownsRow_below (HO1.out.1) hb3 (Nat.le_refl _)
     rw [nodesL_len] at hr1
     obtain ⟨gN,cN',hvN,-,hgN,-,-⟩:=own_some hr1 (by omega)
     injection hvN with e2 _ e3
     subst e2
     subst e3
     have HR1:=Hd_ hr1
     have HB3:=Hd_ hb3
     have hs3:=hb3.size
     have hs2:=hb2.size
     have hg3:=(walkOk_parts HW.out).2.2.1
     have HGO:=Hd_ (walkOk_parts HW.out).1
     clear hs hst0 hst1 hS1 hr1 hb3 hb1 hb0 HO1
     go_wp2_with fail
     go_loopw [11,34] (fun ss ii wr=>∃ i:Nat,i<=k.2.length/\ii=.int .i64 (i:Int)/\wr.ownsRow w2.heap.size 3 1 ss (setsL g a k (i+1)).length ((setsL g a k (i+1)).flatMap cN)/\Below w2.heap.size w2 wr) (fun _ ii _=>k.2.length - (intOf ii).toNat)
     case atStart=>exact ⟨0,Nat.zero_le _,rfl,by rw [HS1.out];exact World.ownsRow_lit w2 #[.int .i64 (bit s:Int)] 1 (Nat.le_refl _) (by decide) rfl,(Below.refl _ _).alloc (Nat.le_refl _) _⟩
     case round =>
      clear HS1 e1
      obtain ⟨i,hi,rfl,hrow,hbel⟩:=hrel
      have hbw2:=below_trans hbw hbel
      have x0:=kcell hbel x0
      have x1:=kcell hbel x1
      have y0:=kcell hbel y0
      have y1:=kcell hbel y1
      have y2:=kcell hbel y2
      have z0:=kcell hbel z0
      have z1:=kcell hbel z1
      have l0:=Nat.lt_of_lt_of_le l0 hbel.size
      have hsz:=hbel.size
      have HROW:=Hd_ hrow
      have HBW2:=Hd_ hbw2
      clear hrow hbw2
      by_cases hlt:i < k.2.length
      · obtain ⟨st,e,hst,he,ht,hl,hsl,hl6⟩:=walk_step HW.out hlt
        obtain ⟨sid,sinv⟩:=st
        obtain ⟨b5,o5,rfl,hb5,p0,p1⟩:=HC5.out.st hst
        have p0:=kcell hbel (kcell hbw p0)
        have p1:=kcell hbel (kcell hbw p1)
        obtain ⟨hna,hnl⟩:=nodeAt_lt HW.out hi
        have q0:=kcell hbel ((World.ownsRow.cellAt HR1.out i (by omega)).trans (flatI_at hna))
        have hvi:g.vals[nodeAt g k i]?=some g.vals[nodeAt g k i]:=List.getElem?_eq_getElem hnl
        have hvr:=HGO.out.vals _ (List.getElem_mem hnl)
        generalize g.vals[nodeAt g k i]=vx at hvi hvr
        obtain ⟨vx,rfl⟩:=Int.eq_ofNat_of_zero_le hvr.1
        have hva:=valAt_of hvi
        rw [Int.toNat_natCast] at hva
        obtain ⟨b1,o1,rfl,hb1,d1⟩:=HC1.out.int hvi
        have d1:=kcell hbel (kcell hbw d1)
        have hrow:=HROW.out
        rw [setsL_len] at hrow
        obtain ⟨gS,cS,rfl,hgS,hgS2,-,-⟩:=own_some hrow (by omega)
        have s0:=(World.ownsRow.cellAt hrow i (by omega)).trans (flatN_at (setsL_at (g:=g) (a:=a) (k:=k) (show i < i+1 by omega)))
        have HSA:=Hd_ (show setAt g a k (i+1)=aft a (setAt g a k i) vx (letAt g k i) by rw [<- hva];rfl)
        have HSN:=Hd_ (setsL_snoc g a k (i+1))
        have hsla:=setAt_lt HA.out k i (g:=g)
        have hsla4:=lt12 HA.out hsla
        have hsal:=setsL_len g a k (i+1)
        have HLET:=Hd_ (show ∀ W,Below w.heap.size w W->Calls Tryz.prog 105 #[.agg #[.slice (some ⟨b1,o1,none⟩) g.vals.length c1,.slice A2 g.edges.length c2],.agg #[.int .i64 sid,.bool sinv]] W fun e w'=>e=.returned (.int .i64 (letAt g k i:Int))/\Below W.heap.size W w' from fun W hW=>by
         have h:=implStepLetter _ g (sid,sinv) W (HGV.out.keep hW)
         rwa [hsl] at h)
        have HSL:=Hd_ hsla
        generalize letAt g k i=LI at *
        generalize setAt g a k i=SI at *
        generalize nodeAt g k i=NI at *
        generalize setsL g a k (i+1)=SX at *
        have hki:(i:Int) < (k.2.length:Int):=by omega
        have hni:(NI:Int) < (g.vals.length:Int):=by omega
        have hki1:(i:Int) < ((k.2.length:Int)+1):=by omega
        clear hst he ht hl hsl hna hvi hva hrow hsla
        go_wp2_with fail
        have hbA:Below wr.heap.size wr (wr.alloc (.cells #[.int .i64 sid,.bool sinv] 74)):=(Below.refl _ _).alloc (Nat.le_refl _) _
        have t0:(wr.alloc (.cells #[.int .i64 sid,.bool sinv] 74)).cell? ⟨wr.heap.size,0,none⟩=some (.int .i64 sid):=by simp
        have t1:(wr.alloc (.cells #[.int .i64 sid,.bool sinv] 74)).cell? ⟨wr.heap.size,1,none⟩=some (.bool sinv):=by simp
        have x0:=kcell hbA x0
        have x1:=kcell hbA x1
        have y0:=kcell hbA y0
        have y1:=kcell hbA y1
        have y2:=kcell hbA y2
        have q0:=kcell hbA q0
        have d1:=kcell hbA d1
        have s0:=kcell hbA s0
        have HRA:=Hd_ (ownsRow_below HROW.out hbA (Nat.le_refl _))
        have hsA:=hbA.size
        generalize wr.alloc (.cells #[.int .i64 sid,.bool sinv] 74)=wA at *
        have hii1:(i:Int) < (i:Int)+1:=by omega
        have hbAd:=below_trans hbA ((Below.refl wA.heap.size wA).drew)
        refine F_start 19 (fun w'=>w'.cell? ⟨w.heap.size,0,none⟩=some (.slice (some ⟨b1,o1,none⟩) g.vals.length c1)/\w'.cell? ⟨w.heap.size,1,none⟩=some (.slice A2 g.edges.length c2)/\w'.cell? ⟨w.heap.size+1,0,none⟩=some (.int .i64 (s:Int))/\w'.cell? ⟨w.heap.size+1,1,none⟩=some (.slice A3 n3 c3)/\w'.cell? ⟨w.heap.size+1,2,none⟩=some (.slice A4 n4 c4)/\w'.cell? ⟨gN,i,none⟩=some (.int .i64 (NI:Int))/\w'.cell? ⟨b1,o1+NI,none⟩=some (.int .i64 (vx:Int))/\w'.cell? ⟨gS,i,none⟩=some (.int .i64 (SI:Int))/\w'.cell? ⟨wr.heap.size,0,none⟩=some (.int .i64 sid)/\w'.cell? ⟨wr.heap.size,1,none⟩=some (.bool sinv)) (by kernel_rfl) (by exact ⟨x0,x1,y0,y1,y2,q0,d1,s0,t0,t1⟩) (fun hS inv=>?_)
        refine F_tk 0 inv ?_
        try simp only [tA,tB,tC,Act.put,tE,tF,tG]
        clear inv;intro inv
        refine F_tk 1 inv ?_
        try simp only [tA,tB,tC,Act.put,tE,tF,tG]
        clear inv;intro inv
        refine F_tk 2 inv ?_
        try simp only [tA,tB,tC,Act.put,tE,tF,tG]
        clear inv;intro inv
        refine F_tk 3 inv ?_
        try simp only [tA,tB,tC,Act.put,tE,tF,tG]
        clear inv;intro inv
        refine F_tk 4 inv ?_
        try simp only [tA,tB,tC,Act.put,tE,tF,tG]
        clear inv;intro inv
        refine F_tk 5 inv ?_
        try simp only [tA,tB,tC,Act.put,tE,tF,tG]
        clear inv;intro inv
        refine F_tk 6 inv ?_
        try simp only [tA,tB,tC,Act.put,tE,tF,tG]
        clear inv;intro inv
        refine F_tk 7 inv ?_
        try simp only [tA,tB,tC,Act.put,tE,tF,tG]
        clear inv;intro inv
        refine F_tk 8 inv ?_
        try simp only [tA,tB,tC,Act.put,tE,tF,tG]
        clear inv;intro inv
        refine F_tk 9 inv ?_
        try simp only [tA,tB,tC,Act.put,tE,tF,tG]
        clear inv;intro inv
        refine F_tk 10 inv ?_
        try simp only [tA,tB,tC,Act.put,tE,tF,tG]
        clear inv;intro inv
        refine F_tk 11 inv ?_
        try simp only [tA,tB,tC,Act.put,tE,tF,tG]
        clear inv;intro inv
        refine F_tk 12 inv ?_
        try simp only [tA,tB,tC,Act.put,tE,tF,tG]
        clear inv;intro inv
        refine F_tk 13 inv ?_
        try simp only [tA,tB,tC,Act.put,tE,tF,tG]
        clear inv;intro inv
        refine F_tk 14 inv ?_
        try simp only [tA,tB,tC,Act.put,tE,tF,tG]
        clear inv;intro inv
        refine F_tk 15 inv ?_
        try simp only [tA,tB,tC,Act.put,tE,tF,tG]
        clear inv;intro inv
        refine F_o1 16 inv ?_;intro K hK
        try simp only [tA,tB,tC]
        go_simp
        refine (HLET.out _ (below_trans HBW2.out hbAd)).mono ?_
        rintro e wL ⟨rfl,hbL⟩
        refine hK.out _ _ (kB10 hbL hS) (fun _ _=>?_)
        try simp only [tA,tB,tC,Act.put,tE,tF,tG]
        clear hK K inv hS;rename_i hS inv
        refine F_o1 17 inv ?_;intro K hK
        try simp only [tA,tB,tC]
        go_simp
        refine (after_any _ a SI vx LI _ (HAV.out.keep (below_trans HBW2.out (below_trans hbAd hbL))) HA.out HSL.out (by omega) (by omega)).mono ?_
        rintro e wT ⟨rfl,hbT⟩
        have hbAT:=below_trans ((Below.refl wA.heap.size wA).drew) (below_trans hbL hbT)
        have HRT:=Hd_ (ownsRow_below HRA.out hbAT (Nat.le_refl _))
        have hsT:=hbAT.size
        refine hK.out _ _ (kB10 hbT hS) (fun _ _=>?_)
        try simp only [tA,tB,tC,Act.put,tE,tF,tG]
        clear hK K inv hS;rename_i hS inv
        refine F_o1 18 inv ?_;intro K hK
        try simp only [tA,tB,tC]
        go_simp
        refine hK.out _ _ (kA10 _ hS) (fun _ _=>?_)
        try simp only [tA,tB,tC,Act.put,tE,tF,tG]
        clear hK K inv hS;rename_i hS inv
        refine F_tail (i:=19) (by kernel_rfl) rfl rfl (by omega) (fun K hK=>?_)
        try simp only [tA,tB,tC]
        refine op_append1 cN elInt rfl _ _ (by rfl) w2.heap.size _ SX (aft a SI vx LI) 1 _ (by rfl) (by have h:=HRT.out.alloc (.cells #[.int .i64 (aft a SI vx LI:Int)] 3);rw [hsal] at h ⊢;exact h) (by first | rfl | simp) (heap_alloc_new _ _) rfl (cN_one _) (by omega) (by omega) (by simp;omega) ?_
        intro g2 cp2 w3 hown3 hgr3 hat3 hlt3
        have HW3:=Hd_ hown3
        have HG3:=Hd_ hgr3
        clear hown3 hgr3 hat3
        refine hK.out _ _ ?_
        try simp only [tA,tB,tC,Act.put,tE,tF,tG]
        clear hK K
        try clear inv hS
        refine F_l1 20 ?_;intro K hK
        go_simp
        refine hK _ _ ?_
        clear hK K
        go_wp2_with fail
        go_roundw
        case rel=>exact ⟨i+1,by omega,by go_num,by rw [HSN.out,HSA.out];have h:=HW3.out;rw [hsal] at h;exact h,(((hbel.trans (hbA.mono hsz)).trans (hbAT.mono (by omega))).alloc (by omega) _).trans (own_below (HRT.out.alloc _) (by simp;omega) HG3.out)⟩
        case measure=>simp [intOf];omega
      · obtain rfl:i=k.2.length:=by omega
        have hrow:=HROW.out
        rw [setsL_len] at hrow
        obtain ⟨gS,cS,rfl,hgS,hgS2,-,-⟩:=own_some hrow (by omega)
        have hoS:=Own.of_row (xs:=setsL g a k (k.2.length+1)) (ownsRow_mono (b:=w.heap.size) HROW.out (by omega)) (by rw [setsL_len]) rfl
        rw [<- HFS.out] at hoS
        have hoN:=Own.of_row (xs:=nodesL g k) (ownsRow_mono (b:=w.heap.size) (ownsRow_below HR1.out hbel (Nat.le_refl _)) (by omega)) (nodesL_len g k) rfl
        rw [<- HFN.out] at hoN
        have HOS:=Hd_ hoS
        have HON:=Hd_ hoN
        clear hrow hoS hoN
        go_wp2_with fail
        go_ret3
        exact ⟨_,_,rfl,HOS.out,HON.out,HBW2.out⟩
set_option maxHeartbeats 4000000 in
set_option maxRecDepth 100000 in
theorem implMatchesWalk (vg va vk:Value) (g:Gr) (a:Au) (k:Wk) (w:World) (hgv:GrV 0 w.heap.size w vg g) (hav:AuV 0 w.heap.size w va a) (hkv:WkV 0 w.heap.size w vk k) :
 Calls Tryz.prog 51 #[vg,va,vk] w fun e w'=>e=.returned (.bool (matchB g a k))/\Below w.heap.size w w':=by
 have hgv0:=hgv
 have hav0:=hav
 have hkv0:=hkv
 obtain ⟨A1,c1,A2,c2,rfl,hl1,hm1,hl2,hm2,hC1,-⟩:=hgv.form
 obtain ⟨A3,n3,c3,A4,n4,c4,rfl⟩:=hav.shape
 obtain ⟨A5,n5,c5,rfl⟩:=hkv.shape
 have hb0:Below w.heap.size w (((w.alloc (.cells #[.slice A1 g.vals.length c1,.slice A2 g.edges.length c2] 27)).alloc (.cells #[.int .i64 a.start,.slice A3 n3 c3,.slice A4 n4 c4] 31)).alloc (.cells #[.int .i64 k.1,.slice A5 n5 c5] 36)):=(((Below.refl _ _).alloc (Nat.le_refl _) _).alloc (by simp) _).alloc (by simp;omega) _
 have hal:=along_any _ _ _ g a k _ (hgv0.keep hb0) (hav0.keep hb0) (hkv0.keep hb0)
 obtain ⟨R,hR⟩:∃ R,R=matchB g a k:=⟨_,rfl⟩
 rw [<- hR]
 have HAL:=Hd_ hal
 have HR:=Hd_ hR
 have HGV:=Hd_ hgv0
 have HAV:=Hd_ hav0
 have HC1:=Hd_ hC1
 clear hgv hav hkv hgv0 hav0 hkv0 hC1 hR hal
 cases hok:walkOk g k && auOk a with
 | false =>
   rw [hok] at HAL
   have hfin:R=false:=by rw [HR.out,matchB,hok];rfl
   subst hfin
   clear HR hok
   go_enter Tryz.func51,Tryz.ntmps51
   go_wp2_with fail
   refine HAL.out.mono ?_
   rintro e w1 ⟨v1,v2,rfl,ho1,ho2,hb1⟩
   obtain ⟨A6,n6,c6,rfl⟩:=ho1.shape
   obtain ⟨A7,n7,c7,rfl⟩:=ho2.shape
   go_wp2_with fail
   refine wp_region_ext_lit (by kernel_rfl) (by kernel_rfl) ?_
   repeat (go_big_quiet_step (fail))
   refine wpQuiet_nil ?_
   rintro _ ⟨u2,rfl⟩
   go_wp2_with fail
   go_ret
   exact ⟨rfl,below_trans (below_trans hb0 hb1) (ext_below _ _)⟩
 | true =>
   rw [hok] at HAL
   have hfin:R=acc a (setAt g a k k.2.length) (valAt g (nodeAt g k k.2.length)):=by rw [HR.out,matchB,hok];simp
   have hS:alongS g a k=setsL g a k (k.2.length+1):=by rw [alongS,hok];rfl
   have hN:alongN g a k=nodesL g k:=by rw [alongN,hok];rfl
   rw [hS,hN] at HAL
   simp only [Bool.and_eq_true] at hok
   obtain ⟨hw,ha⟩:=hok
   have hl60:=(walkOk_parts hw).2.2.1
   have hgo:=(walkOk_parts hw).1
   obtain ⟨hna,hnl⟩:=nodeAt_lt hw (Nat.le_refl _)
   have hvi:g.vals[nodeAt g k k.2.length]?=some g.vals[nodeAt g k k.2.length]:=List.getElem?_eq_getElem hnl
   have hvr:=hgo.vals _ (List.getElem_mem hnl)
   generalize g.vals[nodeAt g k k.2.length]=vx at hvi hvr
   obtain ⟨vx,rfl⟩:=Int.eq_ofNat_of_zero_le hvr.1
   have hva:=valAt_of hvi
   rw [Int.toNat_natCast] at hva
   rw [hva] at hfin
   obtain ⟨b1,o1,rfl,hb1w,d1⟩:=HC1.out.int hvi
   have hsla:=setAt_lt ha k k.2.length (g:=g)
   have hs1:=setsL_at (g:=g) (a:=a) (k:=k) (show k.2.length < k.2.length+1 by omega)
   generalize setAt g a k k.2.length=SI at *
   generalize nodeAt g k k.2.length=NI at *
   have hni:(NI:Int) < (g.vals.length:Int):=by omega
   have HF:=Hd_ hfin
   have HW:=Hd_ hw
   have HA:=Hd_ ha
   have HS1:=Hd_ hs1
   have HNA:=Hd_ hna
   have HSL:=Hd_ hsla
   clear HR hfin hS hN hw ha hvi hva hgo hs1 hna hsla
   go_enter Tryz.func51,Tryz.ntmps51
   go_wp2_with fail
   obtain ⟨W0,hW0⟩:∃ W0,W0=(((w.alloc (.cells #[.slice (some ⟨b1,o1,none⟩) g.vals.length c1,.slice A2 g.edges.length c2] 27)).alloc (.cells #[.int .i64 a.start,.slice A3 n3 c3,.slice A4 n4 c4] 31)).alloc (.cells #[.int .i64 k.1,.slice A5 n5 c5] 36)):=⟨_,rfl⟩
   rw [<- hW0] at hb0 HAL ⊢
   have bx:Blk W0 w.heap.size 27 #[.slice (some ⟨b1,o1,none⟩) g.vals.length c1,.slice A2 g.edges.length c2]:=by rw [hW0];exact ((Blk.new w _ _ w.heap.size rfl).alloc _).alloc _
   have by_:Blk W0 (w.heap.size+1) 31 #[.int .i64 a.start,.slice A3 n3 c3,.slice A4 n4 c4]:=by rw [hW0];exact (Blk.new (w.alloc _) _ _ (w.heap.size+1) (by simp)).alloc _
   have x0:W0.cell? ⟨w.heap.size,0,none⟩=some (.slice (some ⟨b1,o1,none⟩) g.vals.length c1):=by exact bx.cell 0
   have x1:W0.cell? ⟨w.heap.size,1,none⟩=some (.slice A2 g.edges.length c2):=by exact bx.cell 1
   have y0:W0.cell? ⟨w.heap.size+1,0,none⟩=some (.int .i64 a.start):=by exact by_.cell 0
   have y1:W0.cell? ⟨w.heap.size+1,1,none⟩=some (.slice A3 n3 c3):=by exact by_.cell 1
   have y2:W0.cell? ⟨w.heap.size+1,2,none⟩=some (.slice A4 n4 c4):=by exact by_.cell 2
   have l0:=by_.lt
   have l00:=bx.lt
   have d1:=kcell hb0 d1
   have l1:b1 < W0.heap.size:=Nat.lt_of_lt_of_le hb1w hb0.size
   clear hW0 bx by_
   refine HAL.out.mono ?_
   rintro e w1 ⟨v1,v2,rfl,ho1,ho2,hb1⟩
   have x0:=kcell hb1 x0
   have x1:=kcell hb1 x1
   have y0:=kcell hb1 y0
   have y1:=kcell hb1 y1
   have y2:=kcell hb1 y2
   have d1:=kcell hb1 d1
   have hs1:=hb1.size
   have l0:=Nat.lt_of_lt_of_le l0 hs1
   have l00:=Nat.lt_of_lt_of_le l00 hs1
   have l1:=Nat.lt_of_lt_of_le l1 hs1
   have r1:=ho1.1
   have r2:=ho2.1
   rw [setsL_len] at r1
   rw [nodesL_len] at r2
   obtain ⟨gS,cS,rfl,-,hgS,-,-⟩:=own_some r1 (by omega)
   obtain ⟨gN,cN',rfl,-,hgN,-,-⟩:=own_some r2 (by omega)
   have s0:=(World.ownsRow.cellAt r1 k.2.length (by omega)).trans (flatN_at HS1.out)
   have q0:=(World.ownsRow.cellAt r2 k.2.length (by omega)).trans (flatI_at HNA.out)
   have hbw:=below_trans hb0 hb1
   have HBW:=Hd_ hbw
   have m1:((k.2.length:Int)+1) - 1=(k.2.length:Int):=by omega
   clear r1 r2 ho1 ho2 hb0 hb1 hbw
   go_wp2_with fail
   refine wp_region_ext_lit (by kernel_rfl) (by kernel_rfl) ?_
   repeat (go_big_quiet_step ((go_at_call 70;exact Calls.ext_of (acceptsAt_any _ a SI vx _ (HAV.out.keep (below_trans HBW.out (ext_below _ _))) HA.out HSL.out (by omega)))))
   refine wpQuiet_nil ?_
   rintro _ ⟨u2,rfl⟩
   go_wp2_with fail
   go_ret
   exact ⟨by rw [HF.out];rfl,below_trans HBW.out (ext_below _ _)⟩
set_option maxHeartbeats 4000000 in
theorem implIsWitness (vg va vk:Value) (g:Gr) (a:Au) (x y:Int) (k:Wk) (w:World) (hgv:GrV 0 w.heap.size w vg g) (hav:AuV 0 w.heap.size w va a) (hkv:WkV 0 w.heap.size w vk k) :
 Calls Tryz.prog 13 #[vg,va,.int .i64 x,.int .i64 y,vk] w fun e w'=>e=.returned (.bool (isWit g a x y k))/\Below w.heap.size w w':=by
 have hgv0:=hgv
 have hav0:=hav
 have hkv0:=hkv
 obtain ⟨A1,n1,c1,A2,n2,c2,rfl⟩:=hgv.shape
 obtain ⟨A3,n3,c3,A4,n4,c4,rfl⟩:=hav.shape
 obtain ⟨A5,n5,c5,rfl⟩:=hkv.shape
 have hb0:Below w.heap.size w (((w.alloc (.cells #[.slice A1 n1 c1,.slice A2 n2 c2] 27)).alloc (.cells #[.int .i64 a.start,.slice A3 n3 c3,.slice A4 n4 c4] 31)).alloc (.cells #[.int .i64 k.1,.slice A5 n5 c5] 36)):=(((Below.refl _ _).alloc (Nat.le_refl _) _).alloc (by simp) _).alloc (by simp;omega) _
 obtain ⟨R,hR⟩:∃ R,R=isWit g a x y k:=⟨_,rfl⟩
 rw [<- hR]
 have HR:=Hd_ (hR.trans (show isWit g a x y k=((k.1==x && walkEnd g k==y) && matchB g a k) from rfl))
 have HGV:=Hd_ hgv0
 have HAV:=Hd_ hav0
 have HKV:=Hd_ hkv0
 clear hgv hav hkv hgv0 hav0 hkv0 hR
 have HMW:=Hd_ (fun (W:World) (hW:Below w.heap.size w W)=>implMatchesWalk _ _ _ g a k W (HGV.out.keep hW) (HAV.out.keep hW) (HKV.out.keep hW))
 have HWE:=Hd_ (fun (W:World) (hW:Below w.heap.size w W)=>implWalkEnd _ _ g k W (HGV.out.keep hW) (HKV.out.keep hW))
 go_enter Tryz.func13,Tryz.ntmps13
 generalize matchB g a k=mb at HR HMW
 generalize walkEnd g k=we at HR HWE
 cases h1:(k.1==x) with
 | false =>
   have hfin:R=false:=by rw [HR.out,h1];rfl
   subst hfin
   clear HR
   go_wp2_with fail
   go_ret
   exact ⟨rfl,hb0⟩
 | true =>
   rw [h1,Bool.true_and] at HR
   go_wp2_with fail
   obtain ⟨W0,hW0⟩:∃ W0,W0=(((w.alloc (.cells #[.slice A1 n1 c1,.slice A2 n2 c2] 27)).alloc (.cells #[.int .i64 a.start,.slice A3 n3 c3,.slice A4 n4 c4] 31)).alloc (.cells #[.int .i64 k.1,.slice A5 n5 c5] 36)):=⟨_,rfl⟩
   rw [<- hW0] at hb0 ⊢
   have bx:Blk W0 w.heap.size 27 #[.slice A1 n1 c1,.slice A2 n2 c2]:=by rw [hW0];exact ((Blk.new w _ _ w.heap.size rfl).alloc _).alloc _
   have by_:Blk W0 (w.heap.size+1) 31 #[.int .i64 a.start,.slice A3 n3 c3,.slice A4 n4 c4]:=by rw [hW0];exact (Blk.new (w.alloc _) _ _ (w.heap.size+1) (by simp)).alloc _
   have bz:Blk W0 (w.heap.size+1+1) 36 #[.int .i64 k.1,.slice A5 n5 c5]:=by rw [hW0];exact Blk.new ((w.alloc _).alloc _) _ _ (w.heap.size+1+1) (by simp)
   have x0:W0.cell? ⟨w.heap.size,0,none⟩=some (.slice A1 n1 c1):=by exact bx.cell 0
   have x1:W0.cell? ⟨w.heap.size,1,none⟩=some (.slice A2 n2 c2):=by exact bx.cell 1
   have y0:W0.cell? ⟨w.heap.size+1,0,none⟩=some (.int .i64 a.start):=by exact by_.cell 0
   have y1:W0.cell? ⟨w.heap.size+1,1,none⟩=some (.slice A3 n3 c3):=by exact by_.cell 1
   have y2:W0.cell? ⟨w.heap.size+1,2,none⟩=some (.slice A4 n4 c4):=by exact by_.cell 2
   have z0:W0.cell? ⟨w.heap.size+1+1,0,none⟩=some (.int .i64 k.1):=by exact bz.cell 0
   have z1:W0.cell? ⟨w.heap.size+1+1,1,none⟩=some (.slice A5 n5 c5):=by exact bz.cell 1
   clear hW0 bx by_ bz
   refine (HWE.out W0 hb0).mono ?_
   rintro e w1 ⟨rfl,hb1⟩
   have hb2:=below_trans hb0 hb1
   have x0:=kcell hb1 x0
   have x1:=kcell hb1 x1
   have y0:=kcell hb1 y0
   have y1:=kcell hb1 y1
   have y2:=kcell hb1 y2
   have z0:=kcell hb1 z0
   have z1:=kcell hb1 z1
   cases h2:(we==y) with
   | false =>
     have hfin:R=false:=by rw [HR.out,h2];rfl
     subst hfin
     clear HR
     go_wp2_with fail
     go_ret
     exact ⟨rfl,hb2⟩
   | true =>
     rw [h2,Bool.true_and] at HR
     go_wp2_with fail
     refine (HMW.out w1 hb2).mono ?_
     rintro e w3 ⟨rfl,hb3⟩
     go_wp2_with fail
     go_ret
     exact ⟨by rw [HR.out];rfl,below_trans hb2 hb3⟩
end Go.Proofs.YtcnenpjaoalmeaaGreat
namespace Go.Proofs.YtcnenpjaoalmeaaGreat
open Go.ChangeShapes Go.WideShapes Go.ChangeAt Go.RowKit
theorem eqSt (a:Int) (b:Bool) (c:Int) (d:Bool) (w:World):(Op.equalIn 10000 74 (.agg #[.int .i64 a,.bool b]) (.agg #[.int .i64 c,.bool d])).run Tryz.prog w=.ok (a==c && b==d) w:=by
 have u3:=Tryz.underlying3
 have a3:=Tryz.isAgg3
 have z3:=Tryz.sizeOf3
 have u4:=Tryz.underlying4
 have a4:=Tryz.isAgg4
 have z4:=Tryz.sizeOf4
 have hS:Tryz.prog.underlying 74=some (.struct (Tryz.prog.fieldsOf 74)):=by kernel_rfl
 have hp:Tryz.prog.stoodInHeld 74=false:=by kernel_rfl
 rw [show (10000:Nat)=9999+1 from rfl,run_equalIn_agg w 9999 74 _ _ hS hp]
 simp only [Program.fieldsOf,Tryz.underlying74]
 go_simp
 by_cases h1:a=c <;> by_cases h2:b=d <;> simp [h1,h2]
theorem eqlSt (u v:St) (w:World):(binOp .eql 74 (.agg #[.int .i64 u.1,.bool u.2]) (.agg #[.int .i64 v.1,.bool v.2])).run Tryz.prog w=.ok (.bool (decide (u=v))) w:=by
 rw [run_eql_struct,eqSt]
 obtain ⟨a,b⟩:=u
 obtain ⟨c,d⟩:=v
 by_cases h1:a=c <;> by_cases h2:b=d <;> simp [h1,h2]
end Go.Proofs.YtcnenpjaoalmeaaGreat
namespace Go.Proofs.YtcnenpjaoalmeaaGreat
open Go.ChangeShapes Go.WideShapes Go.ChangeAt Go.RowKit Go.Maps
attribute [local go_sem] ext_cell ext_frozen ext_lt ext_lt1 ext_lt2 ext_lt3 ltn2 ltn3 ltn13 lts1 lts2 lts3
theorem rankSh_yes {g:Gr} {a:Au} {x y:Int} {k:Wk} {L:Nat} (h:shortLen g a x y=(L:Int)) (hl:k.2.length=L) (hw:isWit g a x y k=true):rankSh g a x y k=(rankTo g a y k L L:Nat):=by
 rw [rankSh,if_pos,hl]
 rw [hw,h,hl];simp
theorem rankSh_no {g:Gr} {a:Au} {x y:Int} {k:Wk} (h:shortLen g a x y < 0 ∨ ¬ (k.2.length:Int)=shortLen g a x y ∨ isWit g a x y k=false):rankSh g a x y k=-1:=by
 rw [rankSh,if_neg]
 simp only [Bool.and_eq_true,decide_eq_true_eq]
 rintro ⟨⟨h1,h2⟩,h3⟩
 rcases h with h | h | h
 · omega
 · exact h h2
 · rw [h] at h3;cases h3
set_option maxHeartbeats 8000000 in
set_option maxRecDepth 100000 in
theorem implRankShortest (vg va vk:Value) (g:Gr) (a:Au) (x y:Int) (k:Wk) (w:World) (hgv:GrV 0 w.heap.size w vg g) (hav:AuV 0 w.heap.size w va a) (hkv:WkV 0 w.heap.size w vk k) :
 Calls Tryz.prog 21 #[vg,va,.int .i64 x,.int .i64 y,vk] w fun e w'=>e=.returned (.int .i64 (rankSh g a x y k))/\Below w.heap.size w w':=by
 have hgv0:=hgv
 have hav0:=hav
 have hkv0:=hkv
 obtain ⟨A1,n1,c1,A2,n2,c2,rfl⟩:=hgv.shape
 obtain ⟨A3,n3,c3,A4,n4,c4,rfl⟩:=hav.shape
 obtain ⟨A5,c5,rfl,hl5,hm5,hC5⟩:=hkv.form
 have hb0:Below w.heap.size w (((w.alloc (.cells #[.slice A1 n1 c1,.slice A2 n2 c2] 27)).alloc (.cells #[.int .i64 a.start,.slice A3 n3 c3,.slice A4 n4 c4] 31)).alloc (.cells #[.int .i64 k.1,.slice A5 k.2.length c5] 36)):=(((Below.refl _ _).alloc (Nat.le_refl _) _).alloc (by simp) _).alloc (by simp;omega) _
 have hbG:=((Blk.new w 27 #[.slice A1 n1 c1,.slice A2 n2 c2] w.heap.size rfl).alloc (.cells #[.int .i64 a.start,.slice A3 n3 c3,.slice A4 n4 c4] 31)).alloc (.cells #[.int .i64 k.1,.slice A5 k.2.length c5] 36)
 have hbA:=(Blk.new (w.alloc (.cells #[.slice A1 n1 c1,.slice A2 n2 c2] 27)) 31 #[.int .i64 a.start,.slice A3 n3 c3,.slice A4 n4 c4] (w.heap.size+1) (by simp)).alloc (.cells #[.int .i64 k.1,.slice A5 k.2.length c5] 36)
 have hbK:=Blk.new ((w.alloc (.cells #[.slice A1 n1 c1,.slice A2 n2 c2] 27)).alloc (.cells #[.int .i64 a.start,.slice A3 n3 c3,.slice A4 n4 c4] 31)) 36 #[.int .i64 k.1,.slice A5 k.2.length c5] (w.heap.size+1+1) (by simp)
 have HBG:=Hd_ hbG
 have HBA:=Hd_ hbA
 have HBK:=Hd_ hbK
 have HGV:=Hd_ hgv0
 have HAV:=Hd_ hav0
 have HKV:=Hd_ hkv0
 have HC5:=Hd_ hC5
 have HB0:=Hd_ hb0
 have HSL:=Hd_ (fun (W:World) (hW:Below w.heap.size w W)=>implShortestLength _ _ g a x y W (HGV.out.keep hW) (HAV.out.keep hW))
 have HIW:=Hd_ (fun (W:World) (hW:Below w.heap.size w W)=>implIsWitness _ _ _ g a x y k W (HGV.out.keep hW) (HAV.out.keep hW) (HKV.out.keep hW))
 obtain ⟨R,hR⟩:∃ R,R=rankSh g a x y k:=⟨_,rfl⟩
 rw [<- hR]
 clear hgv hav hkv hgv0 hav0 hkv0 hb0 hbG hbA hbK hC5
 by_cases hneg:shortLen g a x y < 0
 · have HF:=Hd_ (show R=-1 by rw [hR];exact rankSh_no (.inl hneg))
   generalize shortLen g a x y=SL at *
   clear hR
   go_enter Tryz.func21,Tryz.ntmps21
   go_wp2_with fail
   refine (HSL.out _ HB0.out).mono ?_
   rintro e w1 ⟨rfl,hb1⟩
   have hb2:=below_trans HB0.out hb1
   go_wp2_with fail
   go_ret
   exact ⟨by rw [HF.out];rfl,hb2⟩
 · by_cases hlen:(k.2.length:Int)=shortLen g a x y
   · cases hw:isWit g a x y k with
     | false =>
       have HF:=Hd_ (show R=-1 by rw [hR];exact rankSh_no (.inr (.inr hw)))
       rw [hw] at HIW
       rw [<- hlen] at HSL
       have hneg1:¬ (k.2.length:Int) < 0:=by omega
       clear hR hneg hlen hw
       go_enter Tryz.func21,Tryz.ntmps21
       go_wp2_with fail
       refine (HSL.out _ HB0.out).mono ?_
       rintro e w1 ⟨rfl,hb1⟩
       have hb2:=below_trans HB0.out hb1
       have x0:w1.cell? ⟨w.heap.size,0,none⟩=some (.slice A1 n1 c1):=(HBG.out.keep hb1).cell 0
       have x1:w1.cell? ⟨w.heap.size,1,none⟩=some (.slice A2 n2 c2):=(HBG.out.keep hb1).cell 1
       have y0:w1.cell? ⟨w.heap.size+1,0,none⟩=some (.int .i64 a.start):=(HBA.out.keep hb1).cell 0
       have y1:w1.cell? ⟨w.heap.size+1,1,none⟩=some (.slice A3 n3 c3):=(HBA.out.keep hb1).cell 1
       have y2:w1.cell? ⟨w.heap.size+1,2,none⟩=some (.slice A4 n4 c4):=(HBA.out.keep hb1).cell 2
       have z0:w1.cell? ⟨w.heap.size+1+1,0,none⟩=some (.int .i64 k.1):=(HBK.out.keep hb1).cell 0
       have z1:w1.cell? ⟨w.heap.size+1+1,1,none⟩=some (.slice A5 k.2.length c5):=(HBK.out.keep hb1).cell 1
       clear hb1
       go_wp2_with fail
       refine (HIW.out _ hb2).mono ?_
       rintro e w2 ⟨rfl,hb3⟩
       go_wp2_with fail
       go_ret
       exact ⟨by rw [HF.out];rfl,below_trans hb2 hb3⟩
     | true =>
       rw [hw] at HIW
       have hlt:=shortLen_lt g a x y
       obtain ⟨⟨hx0,hx1⟩,⟨hy0,hy1⟩,hgo,ha⟩:=cntOk_iff.1 (shortLen_ok (show 0<=shortLen g a x y by omega))
       obtain ⟨L,hL⟩:∃ L,L=k.2.length:=⟨_,rfl⟩
       have HF:=Hd_ (show R=(rankTo g a y k L L:Nat) by rw [hR];exact rankSh_yes (by rw [hL];exact hlen.symm) hL.symm hw)
       rw [<- hlen,<- hL] at HSL hlt
       rw [<- hL] at HB0 HBG HBA HBK HIW ⊢
       have HWA:=Hd_ (fun i (hi:i < L)=>wit_arc hw (show i < k.2.length by rw [<- hL];exact hi))
       have hwo:=(isWit_parts hw).2.1
       have HNL:=Hd_ (fun i (hi:i<=L)=>(nodeAt_lt hwo (show i<=k.2.length by rw [<- hL];exact hi)).2)
       have HGO:=Hd_ hgo
       have HA:=Hd_ ha
       have HSO:=Hd_ (startOk ha)
       have hn5:=(grOk_iff.1 hgo).n5
       obtain ⟨x,rfl⟩:=Int.eq_ofNat_of_zero_le hx0
       have hk0:nodeAt g k 0=x:=by
        have h1:=(isWit_parts hw).1
        have h2:=(nodeAt_lt hwo (Nat.zero_le _)).1
        rw [show (nodesL g k)[0]?=some k.1 from rfl] at h2
        injection h2 with h2
        omega
       have HK0:=Hd_ hk0
       have HL:=Hd_ hL
       have hxl:x < g.vals.length:=by omega
       have hln:¬ (L:Int) < 0:=by omega
       have hll:((L:Int) != (L:Int))=false:=by simp
       clear hneg hlen hw hgo ha hx0 hx1 hy0 hy1 hR hwo hk0 hL
       go_enter Tryz.func21,Tryz.ntmps21
       go_wp2_with fail
       refine (HSL.out _ HB0.out).mono ?_
       rintro e w1 ⟨rfl,hb1⟩
       have hb2:=below_trans HB0.out hb1
       have x0:w1.cell? ⟨w.heap.size,0,none⟩=some (.slice A1 n1 c1):=(HBG.out.keep hb1).cell 0
       have x1:w1.cell? ⟨w.heap.size,1,none⟩=some (.slice A2 n2 c2):=(HBG.out.keep hb1).cell 1
       have y0:w1.cell? ⟨w.heap.size+1,0,none⟩=some (.int .i64 a.start):=(HBA.out.keep hb1).cell 0
       have y1:w1.cell? ⟨w.heap.size+1,1,none⟩=some (.slice A3 n3 c3):=(HBA.out.keep hb1).cell 1
       have y2:w1.cell? ⟨w.heap.size+1,2,none⟩=some (.slice A4 n4 c4):=(HBA.out.keep hb1).cell 2
       have z0:w1.cell? ⟨w.heap.size+1+1,0,none⟩=some (.int .i64 k.1):=(HBK.out.keep hb1).cell 0
       have z1:w1.cell? ⟨w.heap.size+1+1,1,none⟩=some (.slice A5 L c5):=(HBK.out.keep hb1).cell 1
       have HBG1:=Hd_ (HBG.out.keep hb1)
       have HBA1:=Hd_ (HBA.out.keep hb1)
       have HBK1:=Hd_ (HBK.out.keep hb1)
       clear hb1
       go_wp2_with fail
       refine (HIW.out _ hb2).mono ?_
       rintro e w2 ⟨rfl,hb3⟩
       have HB4:=Hd_ (below_trans hb2 hb3)
       have hb4:=below_trans hb2 hb3
       clear x0 x1 y0 y1 y2 z0 z1
       have x0:w2.cell? ⟨w.heap.size,0,none⟩=some (.slice A1 n1 c1):=(HBG1.out.keep hb3).cell 0
       have x1:w2.cell? ⟨w.heap.size,1,none⟩=some (.slice A2 n2 c2):=(HBG1.out.keep hb3).cell 1
       have y0:w2.cell? ⟨w.heap.size+1,0,none⟩=some (.int .i64 a.start):=(HBA1.out.keep hb3).cell 0
       have y1:w2.cell? ⟨w.heap.size+1,1,none⟩=some (.slice A3 n3 c3):=(HBA1.out.keep hb3).cell 1
       have y2:w2.cell? ⟨w.heap.size+1,2,none⟩=some (.slice A4 n4 c4):=(HBA1.out.keep hb3).cell 2
       have z0:w2.cell? ⟨w.heap.size+1+1,0,none⟩=some (.int .i64 k.1):=(HBK1.out.keep hb3).cell 0
       have z1:w2.cell? ⟨w.heap.size+1+1,1,none⟩=some (.slice A5 L c5):=(HBK1.out.keep hb3).cell 1
       have HBK2:=Hd_ (HBK1.out.keep hb3)
       clear hb2 hb3
       go_wp2_with fail
       refine (newCounter_any _ _ g a y _ (HGV.out.keep hb4) (HAV.out.keep hb4) HGO.out HA.out).mono ?_
       rintro e w3 ⟨bC,bM,rfl,hbM,hctr,hmem,hb5⟩
       have hwM:w.heap.size<=bM:=Nat.le_trans hb4.size hbM
       have lbMw:=hmem.lt
       have HB5:=Hd_ (below_trans hb4 hb5)
       have HBK3:=Hd_ (HBK2.out.keep hb5)
       have HC3:=Hd_ hctr
       have HM3:=Hd_ hmem
       clear hb4 hb5 x0 x1 y0 y1 y2 z0 z1 hctr hmem
       go_wp2_with fail
       refine (start_any g a y HA.out bC bM x L _ HC3.out (by omega) (by omega)).mono ?_
       rintro e w4 ⟨rfl,hb6⟩
       have hbQ:=(Below.refl w4.heap.size w4).alloc (Nat.le_refl _) (.cells #[.int .i64 (x:Int),.int .i64 (bit a.start.toNat:Nat),.int .i64 (L:Int)] 62)
       have HBQ:=Hd_ (Blk.new w4 62 #[.int .i64 (x:Int),.int .i64 (bit a.start.toNat:Nat),.int .i64 (L:Int)] w4.heap.size rfl)
       have hb7:=below_trans hb6 hbQ
       have HC4:=Hd_ (HC3.out.keep hb6)
       have HM4:=Hd_ (HM3.out.keep hb7)
       have HB7:=Hd_ (below_trans HB5.out hb6)
       have HO4:=Hd_ (Only.of_below hbQ bM (bM+1))
       have HBK4:=Hd_ (HBK3.out.keep hb7)
       have hs6:=hb6.size
       have z1:(w4.alloc (.cells #[.int .i64 (x:Int),.int .i64 (bit a.start.toNat:Nat),.int .i64 (L:Int)] 62)).cell? ⟨w.heap.size+1+1,1,none⟩=some (.slice A5 L c5):=HBK4.out.cell 1
       have lk4:=HBK4.out.lt
       have hbK3:=HBK3.out.lt
       clear hb6 hbQ hb7
       obtain ⟨bP,hbP⟩:∃ bP,bP=w4.heap.size:=⟨_,rfl⟩
       go_wp2_with fail
       rw [<- hbP] at HBQ ⊢
       obtain ⟨w5,hw5⟩:∃ w5,w5=w4.alloc (.cells #[.int .i64 (x:Int),.int .i64 (bit a.start.toNat:Nat),.int .i64 (L:Int)] 62):=⟨_,rfl⟩
       rw [<- hw5] at HBQ HM4 HO4 HBK4 lk4 z1 ⊢
       have hPge:w4.heap.size<=bP:=by omega
       have hPw:w.heap.size+1+1 < bP:=by omega
       clear hw5 z1 hbP
       go_loopw [14,54] (fun rr ii wr=>∃ (d:Nat) (M:List Plc),d<=L/\rr=.int .i64 (rankTo g a y k L d:Nat)/\ii=.int .i64 (d:Int)/\Blk wr bP 62 #[.int .i64 (nodeAt g k d:Int),.int .i64 (setAt g a k d:Int),.int .i64 ((L - d:Nat):Int)]/\Only bM (bM+1) w4 wr/\Mem g a y wr bM M) (fun _ ii _=>L - (intOf ii).toNat)
       case atStart=>exact ⟨0,[],Nat.zero_le _,rfl,rfl,by rw [HK0.out];exact HBQ.out,HO4.out,HM4.out⟩
       case round =>
        clear HBQ HM4 HO4 HBK4
        obtain ⟨d,M,hd,rfl,rfl,hbp,hon4,hme⟩:=hrel
        have hct:=HC4.out.only hon4
        have hbl:=HB7.out.trans (hon4.below hwM HB7.out.size)
        have HON4:=Hd_ hon4
        by_cases hlt:d < L
        · have hdi:(d:Int) < (L:Int):=by omega
          obtain ⟨⟨sid,sinv⟩,hks,⟨p0,hp0,hp0s⟩,hps⟩:=HWA.out d hlt
          obtain ⟨b5,o5,rfl,hb5,s0,s1⟩:=HC5.out.st hks
          simp only at s0 s1
          have s0:=kcell hbl s0
          have s1:=kcell hbl s1
          have hxd:=HNL.out d hd
          have hsd:=setAt_lt HA.out k d (g:=g)
          have hs4:=lt12 HA.out hsd
          obtain ⟨f,hf⟩:∃ f,L - d=f+1:=⟨L - d - 1,by omega⟩
          have hrk:rankTo g a y k L (d+1)=overK (cwAt g a y f (nodeAt g k d) (setAt g a k d)) (arcsOf g (nodeAt g k d:Int)) (sid,sinv) (rankTo g a y k L d):=by
           rw [rankTo,show L - (d+1)=f by omega,List.getD_eq_getElem?_getD,hks];rfl
          have hr6:=rankTo_le g a y k L d
          have HRK:=Hd_ hrk
          have HPS:=Hd_ hps
          have HEX:=Hd_ (show ∃ p ∈ arcsOf g (nodeAt g k d:Int),p.1=((sid,sinv):St) from ⟨p0,hp0,hp0s⟩)
          have HSD:=Hd_ hsd
          obtain ⟨x',hx'⟩:∃ x',x'=nodeAt g k d:=⟨_,rfl⟩
          obtain ⟨s',hs'⟩:∃ s',s'=setAt g a k d:=⟨_,rfl⟩
          obtain ⟨r0,hr0⟩:∃ r0,r0=rankTo g a y k L d:=⟨_,rfl⟩
          have HR0:=Hd_ hr0
          rw [<- hx',<- hs',<- hr0] at HRK
          rw [<- hx',<- hs'] at HPS hbp
          rw [<- hx'] at HEX hxd
          rw [<- hs'] at HSD hs4
          rw [<- hr0] at hr6 ⊢
          have HN1:=Hd_ (show L - (d+1)=f by omega)
          have HN2:=Hd_ (HNL.out (d+1) hlt)
          have HNX:=Hd_ (fun (l:Nat) (t sid:Int) (sinv:Bool) (W:World) (hW:Ctr g a y W bC bM) (hl:l < 9)=>next_any g a y HGO.out HA.out bC bM x' s' f l t sid sinv W hW hxd HSD.out (by omega) hl)
          rw [<- hf] at HNX
          have e0:wr.cell? ⟨bP,0,none⟩=some (.int .i64 (x':Int)):=hbp.cell 0
          have e1:wr.cell? ⟨bP,1,none⟩=some (.int .i64 (s':Int)):=hbp.cell 1
          have e2:wr.cell? ⟨bP,2,none⟩=some (.int .i64 ((L - d:Nat):Int)):=hbp.cell 2
          obtain ⟨LD,hLD⟩:∃ LD,LD=L - d:=⟨_,rfl⟩
          rw [<- hLD] at HNX e2 hf hbp
          have HLD:=Hd_ hLD
          have hfl:f < 60:=by omega
          clear hf
          obtain ⟨B,lo,hi,A1,A2,A3,A4,A6,c1,c2,c3,c4,c6,hbk,hgv,hav,hlv,h5,h6,h7,h8,h9⟩:=hct
          have hctr:Ctr g a y wr bC bM:=⟨B,lo,hi,A1,A2,A3,A4,A6,c1,c2,c3,c4,c6,hbk,hgv,hav,hlv,h5,h6,h7,h8,h9⟩
          have HC1:=Hd_ hctr
          have z6:wr.cell? ⟨bC,6,none⟩=some (.slice A6 g.vals.length c6):=hbk.cell 6
          have lC:=hbk.lt
          obtain ⟨b6,o6,A7,c7,q1,q2,q3,d5,q5,q6,q7,-⟩:=hlv.row h7 (i:=x') (xs:=arcsOf g (x':Int)) (by simp [hxd])
          subst q1
          have hb6:b6 < wr.heap.size:=by omega
          have hal:=arcs_len (grOk_iff.1 HGO.out) (x':Int)
          have hxx:(x':Int) < (g.vals.length:Int):=by omega
          have HI7:=Hd_ q7
          have hb5w:b5 < wr.heap.size:=World.block_lt_of_cell? _ _ s0
          have lP:=hbp.lt
          have HBP:=Hd_ hbp
          have HMM:=Hd_ hme
          have HBL:=Hd_ hbl
          have hszr:=hbl.size
          have lM:=hme.lt
          obtain ⟨wo,hwo⟩:∃ wo:World,wo=wr:=⟨_,rfl⟩
          rw [<- hwo] at HON4 HC1 HI7 HBP HMM HBL s0 s1 e0 e1 e2 z6 d5 lC hb6 hb5w lP lM h7 hszr ⊢
          clear hwo hbk hgv hav hlv h8 hbp hbl hme hctr hon4 hks hp0 hp0s hps hrk hsd hx' hs' hr0 hLD
          have lP1:bP < wo.heap.size+1:=by omega
          have lC1:bC < wo.heap.size+1:=by omega
          have lb61:b6 < wo.heap.size+1:=by omega
          have HBSt:=Hd_ (Blk.new wo 74 #[.int .i64 sid,.bool sinv] wo.heap.size rfl)
          have HBN:=Hd_ ((Below.refl wo.heap.size wo).alloc (Nat.le_refl _) (.cells #[.int .i64 sid,.bool sinv] 74))
          go_upto_region 10 with fail
          refine wp_region_ext_lit (by kernel_rfl) (by kernel_rfl) ?_
          repeat (go_big_quiet_step (fail))
          refine wpQuiet_nil ?_
          rintro _ ⟨u2,rfl⟩
          have hbU:=ext_below (wo.alloc (.cells #[.int .i64 sid,.bool sinv] 74)) u2
          have HBS6:=Hd_ (HBSt.out.keep hbU)
          have HB6:=Hd_ (below_trans HBN.out hbU)
          obtain ⟨w6,hw6⟩:∃ w6,w6=ext (wo.alloc (.cells #[.int .i64 sid,.bool sinv] 74)) u2:=⟨_,rfl⟩
          rw [<- hw6] at HBS6 HB6 ⊢
          have hs6w:=HB6.out.size
          have lS6:=HBS6.out.lt
          clear hw6 hbU HBSt HBN e0 e1 e2 s0 s1 z6 d5
          go_wp2_with fail
          go_loopw [14,67] (fun rr ii wi=>∃ (i:Nat) (M2:List Plc),i<=(arcsOf g (x':Int)).length/\rr=.int .i64 (passK (cwAt g a y f x' s') ((arcsOf g (x':Int)).take i) r0:Nat)/\ii=.int .i64 (i:Int)/\(∀ j q,j < i->(arcsOf g (x':Int))[j]?=some q->q.1 ≠ ((sid,sinv):St))/\Only bM (bM+1) w6 wi/\Mem g a y wi bM M2) (fun _ ii _=>(arcsOf g (x':Int)).length - (intOf ii).toNat)
          case atStart=>exact ⟨0,M,Nat.zero_le _,rfl,rfl,fun j q hj=>by omega,Only.refl _ _ _,HMM.out.keep HB6.out⟩
          case round =>
           obtain ⟨i,M2,hi,rfl,rfl,hno,hon,hmm⟩:=hrel
           by_cases hli:i < (arcsOf g (x':Int)).length
           · have hyi:(arcsOf g (x':Int))[i]?=some (arcsOf g (x':Int))[i]:=List.getElem?_eq_getElem hli
             have hym:=List.getElem_mem hli
             generalize (arcsOf g (x':Int))[i]=p at hyi hym
             have hyr:=arc_range (grOk_iff.1 HGO.out) hym
             have HPP:=Hd_ (HPS.out p hym)
             have HOV:=Hd_ (fun (h:p.1=((sid,sinv):St))=>overK_here (k:=cwAt g a y f x' s') (r:=r0) hyi h hno)
             have HNP:=Hd_ (fun (h:p.1 ≠ ((sid,sinv):St)) j q (hj:j < i+1) (hq:(arcsOf g (x':Int))[j]?=some q)=>show q.1 ≠ ((sid,sinv):St) from by
              rcases Nat.lt_or_ge j i with h1 | h1
              · exact hno j q h1 hq
              · obtain rfl:j=i:=by omega
                rw [hyi] at hq
                injection hq with hq
                rw [<- hq];exact h)
             have HSC:=Hd_ (passK_succ (k:=cwAt g a y f x' s') (r:=r0) hyi)
             have hple:=passK_le (cwAt g a y f x' s') ((arcsOf g (x':Int)).take i) r0 hr6
             obtain ⟨⟨sid2,sinv2⟩,l,t⟩:=p
             simp only at hyr
             obtain ⟨l,rfl⟩:=Int.eq_ofNat_of_zero_le hyr.1.1
             obtain ⟨t,rfl⟩:=Int.eq_ofNat_of_zero_le hyr.2.1
             obtain ⟨b7,o7,rfl,hb7l,hb7,k0,k1,k2,k3⟩:=HI7.out.arc hyi
             simp only at k0 k1 k2 k3
             have hb7M:b7 < bM ∨ bM+1<=b7:=by omega
             have hb7o:b7 < w6.heap.size:=by omega
             have k0:=ocell hon (kcell HB6.out k0) hb7o hb7M
             have k1:=ocell hon (kcell HB6.out k1) hb7o hb7M
             have k2:=ocell hon (kcell HB6.out k2) hb7o hb7M
             have k3:=ocell hon (kcell HB6.out k3) hb7o hb7M
             have hszi:=hon.size
             have hbpi:=(HBP.out.keep HB6.out).only hon (by omega)
             have e0:wr.cell? ⟨bP,0,none⟩=some (.int .i64 (x':Int)):=hbpi.cell 0
             have e1:wr.cell? ⟨bP,1,none⟩=some (.int .i64 (s':Int)):=hbpi.cell 1
             have e2:wr.cell? ⟨bP,2,none⟩=some (.int .i64 (LD:Int)):=hbpi.cell 2
             have HBPI:=Hd_ hbpi
             have hbsi:=HBS6.out.only hon (by omega)
             have HBSI:=Hd_ hbsi
             have lSi:=hbsi.lt
             have lPi:=hbpi.lt
             have hKA:cwAt g a y f x' s' ((sid2,sinv2),(l:Int),(t:Int))=cw g a y f t (aft a s' (valAt g x') l):=by rw [cwAt];simp
             rw [hKA] at HSC
             simp only [Int.toNat_natCast] at HPP
             have hAF:=aft_lt HA.out s' (valAt g x') l
             have hcl2:=cw_le g a y f t (aft a s' (valAt g x') l)
             have HNC:=Hd_ (fun (W:World) (hW:Ctr g a y W bC bM)=>HNX.out l (t:Int) sid2 sinv2 W hW (by omega))
             have HRC:=Hd_ (fun (W:World) (h1:Ctr g a y W bC bM) (h2:Mem g a y W bM M2)=>count_any g a y HGO.out HA.out bC bM f t (aft a s' (valAt g x') l) M2 W h1 h2 (by omega) hAF (by omega))
             obtain ⟨CC,hCC⟩:∃ CC,CC=cw g a y f t (aft a s' (valAt g x') l):=⟨_,rfl⟩
             rw [<- hCC] at hcl2 HRC HSC
             generalize aft a s' (valAt g x') l=AF at *
             have hii:(i:Int) < ((arcsOf g (x':Int)).length:Int):=by omega
             have HON2:=Hd_ hon
             have HMM2:=Hd_ hmm
             have hAF4:AF < 4096:=lt12 HA.out hAF
             obtain ⟨bb,hbb⟩:∃ bb,bb=decide (((sid2,sinv2):St)=(sid,sinv)):=⟨_,rfl⟩
             have HBB:=Hd_ hbb
             have HEQ:=Hd_ (fun w=>eqlSt (sid2,sinv2) (sid,sinv) w)
             simp only at HEQ
             rw [<- hbb] at HEQ
             have hmw:=hmm.lt
             clear hyi hym hno hCC hon hmm hKA hbpi hbsi hbb hAF
             generalize passK (cwAt g a y f x' s') ((arcsOf g (x':Int)).take i) r0=m1 at *
             have hbE:Below wr.heap.size wr (wr.alloc (.cells #[.int .i64 sid2,.bool sinv2,.int .i64 (l:Int),.int .i64 (t:Int)] 89)):=(Below.refl _ _).alloc (Nat.le_refl _) _
             have a0:(wr.alloc (.cells #[.int .i64 sid2,.bool sinv2,.int .i64 (l:Int),.int .i64 (t:Int)] 89)).cell? ⟨wr.heap.size,0,none⟩=some (.int .i64 sid2):=by simp
             have a1:(wr.alloc (.cells #[.int .i64 sid2,.bool sinv2,.int .i64 (l:Int),.int .i64 (t:Int)] 89)).cell? ⟨wr.heap.size,1,none⟩=some (.bool sinv2):=by simp
             go_wp2_with fail
             refine (HNC.out _ (((HC1.out.keep HB6.out).only HON2.out).keep hbE)).mono ?_
             rintro en w3 ⟨rfl,hb3⟩
             have hbQ:Below w3.heap.size w3 (w3.alloc (.cells #[.int .i64 (t:Int),.int .i64 (AF:Int),.int .i64 (f:Int)] 62)):=(Below.refl _ _).alloc (Nat.le_refl _) _
             have hbEQ:=below_trans hbE (below_trans hb3 hbQ)
             have hb3Q:=below_trans hb3 hbQ
             have hsE:wr.heap.size < w3.heap.size:=by have:=hb3.size;simp at this;omega
             have q0:(w3.alloc (.cells #[.int .i64 (t:Int),.int .i64 (AF:Int),.int .i64 (f:Int)] 62)).cell? ⟨w3.heap.size,0,none⟩=some (.int .i64 (t:Int)):=by simp
             have q1:(w3.alloc (.cells #[.int .i64 (t:Int),.int .i64 (AF:Int),.int .i64 (f:Int)] 62)).cell? ⟨w3.heap.size,1,none⟩=some (.int .i64 (AF:Int)):=by simp
             have q2:(w3.alloc (.cells #[.int .i64 (t:Int),.int .i64 (AF:Int),.int .i64 (f:Int)] 62)).cell? ⟨w3.heap.size,2,none⟩=some (.int .i64 (f:Int)):=by simp
             have lQ:w3.heap.size < (w3.alloc (.cells #[.int .i64 (t:Int),.int .i64 (AF:Int),.int .i64 (f:Int)] 62)).heap.size:=by simp
             have a0:=kcell hb3Q a0
             have a1:=kcell hb3Q a1
             have HCq:=Hd_ (((HC1.out.keep HB6.out).only HON2.out).keep hbEQ)
             have HMq:=Hd_ (HMM2.out.keep hbEQ)
             have HOq:=Hd_ (HON2.out.trans (Only.of_below hbEQ bM (bM+1)))
             have HBPq:=Hd_ (HBPI.out.keep hbEQ)
             have hbsq:=HBSI.out.keep hbEQ
             have t0:(w3.alloc (.cells #[.int .i64 (t:Int),.int .i64 (AF:Int),.int .i64 (f:Int)] 62)).cell? ⟨wo.heap.size,0,none⟩=some (.int .i64 sid):=hbsq.cell 0
             have t1:(w3.alloc (.cells #[.int .i64 (t:Int),.int .i64 (AF:Int),.int .i64 (f:Int)] 62)).cell? ⟨wo.heap.size,1,none⟩=some (.bool sinv):=hbsq.cell 1
             have hsEq:wr.heap.size < (w3.alloc (.cells #[.int .i64 (t:Int),.int .i64 (AF:Int),.int .i64 (f:Int)] 62)).heap.size:=by omega
             clear hb3 hbQ hbEQ hb3Q hbE k0 k1 k2 k3 e0 e1 e2 hbsq
             cases bb with
             | true =>
               have heq:=HEQ.out
               have hse:((sid2,sinv2):St)=(sid,sinv):=of_decide_eq_true HBB.out.symm
               have HRE:=Hd_ (HOV.out hse)
               have HPE:=Hd_ (HPP.out hse)
               have hbp:=HBPq.out
               have z0:(w3.alloc (.cells #[.int .i64 (t:Int),.int .i64 (AF:Int),.int .i64 (f:Int)] 62)).cell? ⟨bP,0,none⟩=some (.int .i64 (x':Int)):=hbp.cell 0
               have z1:(w3.alloc (.cells #[.int .i64 (t:Int),.int .i64 (AF:Int),.int .i64 (f:Int)] 62)).cell? ⟨bP,1,none⟩=some (.int .i64 (s':Int)):=hbp.cell 1
               have z2:(w3.alloc (.cells #[.int .i64 (t:Int),.int .i64 (AF:Int),.int .i64 (f:Int)] 62)).cell? ⟨bP,2,none⟩=some (.int .i64 (LD:Int)):=hbp.cell 2
               have f0:=hbp.frozen 0
               have f1:=hbp.frozen 1
               have f2:=hbp.frozen 2
               have l8:=hbp.lt
               have HB8:=Hd_ (hbp.set3 (.int .i64 (t:Int)) (.int .i64 (AF:Int)) (.int .i64 (f:Int)))
               have HO8:=Hd_ (only_set3 (HON4.out.trans ((Only.of_below HB6.out bM (bM+1)).trans HOq.out)) (show w4.heap.size<=bP by omega) (.int .i64 (t:Int)) (.int .i64 (AF:Int)) (.int .i64 (f:Int)))
               have HM8:=Hd_ (HMq.out.at_ (set3_block (w3.alloc (.cells #[.int .i64 (t:Int),.int .i64 (AF:Int),.int .i64 (f:Int)] 62)) bP (.int .i64 (t:Int)) (.int .i64 (AF:Int)) (.int .i64 (f:Int)) bM (by omega)))
               have HRK1:=Hd_ (HRK.out.trans HRE.out)
               clear hbp
               go_wp2_with fail
               go_roundw
               case rel=>exact ⟨d+1,M2,hlt,by rw [HRK1.out],by go_num,by rw [<- HPE.out.1,<- HPE.out.2.1,HN1.out];exact HB8.out,HO8.out,HM8.out⟩
               case measure=>simp [intOf];omega
             | false =>
               have heq:=HEQ.out
               have hse:((sid2,sinv2):St) ≠ (sid,sinv):=of_decide_eq_false HBB.out.symm
               have HNQ:=Hd_ (HNP.out hse)
               go_wp2_with fail
               refine (HRC.out _ HCq.out HMq.out).mono ?_
               rintro en w4 ⟨rfl,hon4,M4,hm4,hmo4⟩
               have HO4:=Hd_ (HOq.out.trans hon4)
               have HM4:=Hd_ hm4
               clear hon4 hm4 hmo4 t0 t1 a0 a1 q0 q1 q2 heq
               go_wp2_with fail
               go_roundw
               case rel=>exact ⟨i+1,M4,by omega,by rw [HSC.out];exact congrArg (Value.int IntKind.i64) (by first | omega | (split <;> omega)),by go_num,HNQ.out,HO4.out,HM4.out⟩
               case measure=>simp [intOf];omega
           · obtain rfl:i=(arcsOf g (x':Int)).length:=by omega
             obtain ⟨p,hp,hps⟩:=HEX.out
             obtain ⟨j,hj,he⟩:=List.getElem_of_mem hp
             exact absurd hps (hno j p hj (by rw [List.getElem?_eq_getElem hj,he]))
        · obtain rfl:d=L:=by omega
          have HBL:=Hd_ hbl
          clear hbp hct hme hbl hon4
          go_wp2_with fail
          go_ret
          exact ⟨by rw [HF.out];rfl,HBL.out⟩
   · have HF:=Hd_ (show R=-1 by rw [hR];exact rankSh_no (.inr (.inl hlen)))
     generalize shortLen g a x y=SL at *
     have hlen1:((k.2.length:Int) != SL)=true:=by simpa using hlen
     clear hR
     go_enter Tryz.func21,Tryz.ntmps21
     go_wp2_with fail
     refine (HSL.out _ HB0.out).mono ?_
     rintro e w1 ⟨rfl,hb1⟩
     have hb2:=below_trans HB0.out hb1
     have x0:w1.cell? ⟨w.heap.size,0,none⟩=some (.slice A1 n1 c1):=(HBG.out.keep hb1).cell 0
     have x1:w1.cell? ⟨w.heap.size,1,none⟩=some (.slice A2 n2 c2):=(HBG.out.keep hb1).cell 1
     have y0:w1.cell? ⟨w.heap.size+1,0,none⟩=some (.int .i64 a.start):=(HBA.out.keep hb1).cell 0
     have y1:w1.cell? ⟨w.heap.size+1,1,none⟩=some (.slice A3 n3 c3):=(HBA.out.keep hb1).cell 1
     have y2:w1.cell? ⟨w.heap.size+1,2,none⟩=some (.slice A4 n4 c4):=(HBA.out.keep hb1).cell 2
     have z0:w1.cell? ⟨w.heap.size+1+1,0,none⟩=some (.int .i64 k.1):=(HBK.out.keep hb1).cell 0
     have z1:w1.cell? ⟨w.heap.size+1+1,1,none⟩=some (.slice A5 k.2.length c5):=(HBK.out.keep hb1).cell 1
     clear hb1
     go_wp2_with fail
     go_ret
     exact ⟨by rw [HF.out];rfl,hb2⟩
end Go.Proofs.YtcnenpjaoalmeaaGreat
namespace Go.Proofs.YtcnenpjaoalmeaaGreat
open Go.ChangeShapes Go.WideShapes Go.ChangeAt Go.RowKit
attribute [local go_sem] ext_cell ext_frozen ext_lt ext_lt1 ext_lt2 ext_lt3 ltn2 ltn3 ltn13 lts1 lts2 lts3
theorem rankShS_yes {g:Gr} {a:Au} {x y:Int} {k:Wk} {L:Nat} (h:shortLen g a x y=(L:Int)) (hl:k.2.length=L) (hw:isWit g a x y k=true):rankSh g a x y k=(rankTo g a y k L L:Nat):=by
 rw [rankSh,if_pos,hl]
 rw [hw,h,hl];simp
theorem rankShS_no {g:Gr} {a:Au} {x y:Int} {k:Wk} (h:shortLen g a x y < 0 ∨ ¬ (k.2.length:Int)=shortLen g a x y ∨ isWit g a x y k=false):rankSh g a x y k=-1:=by
 rw [rankSh,if_neg]
 simp only [Bool.and_eq_true,decide_eq_true_eq]
 rintro ⟨⟨h1,h2⟩,h3⟩
 rcases h with h | h | h
 · omega
 · exact h h2
 · rw [h] at h3;cases h3
/-- the row of a witness' node: where its step stands, and what is passed over before -/
theorem rankRow {g:Gr} {a:Au} {x0 y:Int} {k:Wk} {k0:Key} {n d i r:Nat} (hw:isWit g a x0 y k=true) (hd:d < k.2.length) (hn:d < n) (hr:r<=1000000) (hk:(layN g a k0 d)[i]?=some (nodeAt g k d,setAt g a k d)) :
 ∃ st j i2,k.2[d]?=some st/\(layT g a k0 d i)[j]?=some (st,i2)/\(∀ j' q,j' < j->(layT g a k0 d i)[j']?=some q->q.1 ≠ st)/\passK (fun e:St × Nat=>layC g a y k0 n (d+1) e.2) ((layT g a k0 d i).take j) r=overK (cwAt g a y (n - (d+1)) (nodeAt g k d) (setAt g a k d)) (arcsOf g (nodeAt g k d:Int)) st r/\(layN g a k0 (d+1))[i2]?=some (nodeAt g k (d+1),setAt g a k (d+1)):=by
 obtain ⟨s,hs,hex,hps⟩:=wit_arc hw hd
 obtain ⟨j,i2,p,e1,e2,e3,e4,e5,e6⟩:=(layT_row hk).over (C:=layC g a y k0 n (d+1)) (y:=y) (f:=n - (d+1)) (fun j q hq=>layC_at hq) (st:=s)
  (fun p hp he=>by have h:=hps p hp he;rw [h.2.1];exact h.2.2) hex r hr
 have h:=hps p e4 e5
 rw [h.1,h.2.1,Int.toNat_natCast] at e6
 exact ⟨s,j,i2,hs,e1,e2,e3,e6⟩
theorem first_uniq {T:List (St × Nat)} {st:St} {j j0 i2:Nat} {e:St × Nat} (h:T[j]?=some e) (he:e.1=st) (hno:∀ r q,r < j->T[r]?=some q->q.1 ≠ st) (h0:T[j0]?=some (st,i2)) (hno0:∀ r q,r < j0->T[r]?=some q->q.1 ≠ st):j=j0/\e.2=i2:=by
 have hj:j=j0:=by
  rcases Nat.lt_trichotomy j j0 with h1 | h1 | h1
  · exact absurd he (hno0 j e h1 h)
  · exact h1
  · exact absurd rfl (hno j0 _ h1 h0)
 subst hj
 rw [h] at h0
 injection h0 with h0
 exact ⟨rfl,by rw [h0]⟩
set_option maxHeartbeats 8000000 in
set_option maxRecDepth 100000 in
theorem specRankShortest (vg va vk:Value) (g:Gr) (a:Au) (x y:Int) (k:Wk) (w:World) (hgv:GrV 0 w.heap.size w vg g) (hav:AuV 0 w.heap.size w va a) (hkv:WkV 0 w.heap.size w vk k) :
 Calls Tryz.prog 30 #[vg,va,.int .i64 x,.int .i64 y,vk] w fun e w'=>e=.returned (.int .i64 (rankSh g a x y k))/\Below w.heap.size w w':=by
 have hgv0:=hgv
 have hav0:=hav
 have hkv0:=hkv
 obtain ⟨A1,n1,c1,A2,n2,c2,rfl⟩:=hgv.shape
 obtain ⟨A3,n3,c3,A4,n4,c4,rfl⟩:=hav.shape
 obtain ⟨A5,c5,rfl,hl5,hm5,hC5⟩:=hkv.form
 have hb0:Below w.heap.size w (((w.alloc (.cells #[.slice A1 n1 c1,.slice A2 n2 c2] 27)).alloc (.cells #[.int .i64 a.start,.slice A3 n3 c3,.slice A4 n4 c4] 31)).alloc (.cells #[.int .i64 k.1,.slice A5 k.2.length c5] 36)):=(((Below.refl _ _).alloc (Nat.le_refl _) _).alloc (by simp) _).alloc (by simp;omega) _
 have hbG:=((Blk.new w 27 #[.slice A1 n1 c1,.slice A2 n2 c2] w.heap.size rfl).alloc (.cells #[.int .i64 a.start,.slice A3 n3 c3,.slice A4 n4 c4] 31)).alloc (.cells #[.int .i64 k.1,.slice A5 k.2.length c5] 36)
 have hbA:=(Blk.new (w.alloc (.cells #[.slice A1 n1 c1,.slice A2 n2 c2] 27)) 31 #[.int .i64 a.start,.slice A3 n3 c3,.slice A4 n4 c4] (w.heap.size+1) (by simp)).alloc (.cells #[.int .i64 k.1,.slice A5 k.2.length c5] 36)
 have hbK:=Blk.new ((w.alloc (.cells #[.slice A1 n1 c1,.slice A2 n2 c2] 27)).alloc (.cells #[.int .i64 a.start,.slice A3 n3 c3,.slice A4 n4 c4] 31)) 36 #[.int .i64 k.1,.slice A5 k.2.length c5] (w.heap.size+1+1) (by simp)
 have HBG:=Hd_ hbG
 have HBA:=Hd_ hbA
 have HBK:=Hd_ hbK
 have HGV:=Hd_ hgv0
 have HAV:=Hd_ hav0
 have HKV:=Hd_ hkv0
 have HC5:=Hd_ hC5
 have HB0:=Hd_ hb0
 have HSL:=Hd_ (fun (W:World) (hW:Below w.heap.size w W)=>specShortestLength _ _ g a x y W (HGV.out.keep hW) (HAV.out.keep hW))
 have HIW:=Hd_ (fun (W:World) (hW:Below w.heap.size w W)=>specIsWitness _ _ _ g a x y k W (HGV.out.keep hW) (HAV.out.keep hW) (HKV.out.keep hW))
 obtain ⟨R,hR⟩:∃ R,R=rankSh g a x y k:=⟨_,rfl⟩
 rw [<- hR]
 clear hgv hav hkv hgv0 hav0 hkv0 hb0 hbG hbA hbK hC5
 by_cases hneg:shortLen g a x y < 0
 · have HF:=Hd_ (show R=-1 by rw [hR];exact rankShS_no (.inl hneg))
   generalize shortLen g a x y=SL at *
   clear hR
   go_enter Tryz.func30,Tryz.ntmps30
   go_wp2_with fail
   refine (HSL.out _ HB0.out).mono ?_
   rintro e w1 ⟨rfl,hb1⟩
   have hb2:=below_trans HB0.out hb1
   go_wp2_with fail
   go_ret
   exact ⟨by rw [HF.out];rfl,hb2⟩
 · by_cases hlen:(k.2.length:Int)=shortLen g a x y
   · cases hw:isWit g a x y k with
     | false =>
       have HF:=Hd_ (show R=-1 by rw [hR];exact rankShS_no (.inr (.inr hw)))
       rw [hw] at HIW
       rw [<- hlen] at HSL
       have hneg1:¬ (k.2.length:Int) < 0:=by omega
       clear hR hneg hlen hw
       go_enter Tryz.func30,Tryz.ntmps30
       go_wp2_with fail
       refine (HSL.out _ HB0.out).mono ?_
       rintro e w1 ⟨rfl,hb1⟩
       have hb2:=below_trans HB0.out hb1
       have x0:w1.cell? ⟨w.heap.size,0,none⟩=some (.slice A1 n1 c1):=(HBG.out.keep hb1).cell 0
       have x1:w1.cell? ⟨w.heap.size,1,none⟩=some (.slice A2 n2 c2):=(HBG.out.keep hb1).cell 1
       have y0:w1.cell? ⟨w.heap.size+1,0,none⟩=some (.int .i64 a.start):=(HBA.out.keep hb1).cell 0
       have y1:w1.cell? ⟨w.heap.size+1,1,none⟩=some (.slice A3 n3 c3):=(HBA.out.keep hb1).cell 1
       have y2:w1.cell? ⟨w.heap.size+1,2,none⟩=some (.slice A4 n4 c4):=(HBA.out.keep hb1).cell 2
       have z0:w1.cell? ⟨w.heap.size+1+1,0,none⟩=some (.int .i64 k.1):=(HBK.out.keep hb1).cell 0
       have z1:w1.cell? ⟨w.heap.size+1+1,1,none⟩=some (.slice A5 k.2.length c5):=(HBK.out.keep hb1).cell 1
       clear hb1
       go_wp2_with fail
       refine (HIW.out _ hb2).mono ?_
       rintro e w2 ⟨rfl,hb3⟩
       go_wp2_with fail
       go_ret
       exact ⟨by rw [HF.out];rfl,below_trans hb2 hb3⟩
     | true =>
       rw [hw] at HIW
       have hlt:=shortLen_lt g a x y
       obtain ⟨⟨hx0,hx1⟩,⟨hy0,hy1⟩,hgo,ha⟩:=cntOk_iff.1 (shortLen_ok (show 0<=shortLen g a x y by omega))
       obtain ⟨L,hL⟩:∃ L,L=k.2.length:=⟨_,rfl⟩
       have HF:=Hd_ (show R=(rankTo g a y k L L:Nat) by rw [hR];exact rankShS_yes (by rw [hL];exact hlen.symm) hL.symm hw)
       rw [<- hlen,<- hL] at HSL hlt
       rw [<- hL] at HB0 HBG HBA HBK HIW ⊢
       have HRW:=Hd_ (fun (k0:Key) d i r (hd:d < L) (hr:r<=1000000) (hk:(layN g a k0 d)[i]?=some (nodeAt g k d,setAt g a k d))=>rankRow (n:=L) hw (show d < k.2.length by rw [<- hL];exact hd) hd hr hk)
       have hwo:=(isWit_parts hw).2.1
       have HGO:=Hd_ hgo
       have HA:=Hd_ ha
       obtain ⟨x,rfl⟩:=Int.eq_ofNat_of_zero_le hx0
       have hk0:nodeAt g k 0=x:=by
        have h1:=(isWit_parts hw).1
        have h2:=(nodeAt_lt hwo (Nat.zero_le _)).1
        rw [show (nodesL g k)[0]?=some k.1 from rfl] at h2
        injection h2 with h2
        omega
       have HK0:=Hd_ (show ((x,bit a.start.toNat):Key)=(nodeAt g k 0,setAt g a k 0) by rw [hk0];rfl)
       have hxl:x < g.vals.length:=by omega
       have HLO:=Hd_ (fun d=>(layN_ok (grOk_iff.1 hgo) ha (show ((x,bit a.start.toNat):Key).1 < g.vals.length/\((x,bit a.start.toNat):Key).2 < 2 ^ a.accept.length from ⟨hxl,startOk ha⟩) d).len (grOk_iff.1 hgo) ha)
       have hln:¬ (L:Int) < 0:=by omega
       have hll:((L:Int) != (L:Int))=false:=by simp
       clear hneg hlen hw hgo ha hx0 hx1 hy0 hy1 hR hwo hk0 hL
       go_enter Tryz.func30,Tryz.ntmps30
       go_wp2_with fail
       refine (HSL.out _ HB0.out).mono ?_
       rintro e w1 ⟨rfl,hb1⟩
       have hb2:=below_trans HB0.out hb1
       have x0:w1.cell? ⟨w.heap.size,0,none⟩=some (.slice A1 n1 c1):=(HBG.out.keep hb1).cell 0
       have x1:w1.cell? ⟨w.heap.size,1,none⟩=some (.slice A2 n2 c2):=(HBG.out.keep hb1).cell 1
       have y0:w1.cell? ⟨w.heap.size+1,0,none⟩=some (.int .i64 a.start):=(HBA.out.keep hb1).cell 0
       have y1:w1.cell? ⟨w.heap.size+1,1,none⟩=some (.slice A3 n3 c3):=(HBA.out.keep hb1).cell 1
       have y2:w1.cell? ⟨w.heap.size+1,2,none⟩=some (.slice A4 n4 c4):=(HBA.out.keep hb1).cell 2
       have z0:w1.cell? ⟨w.heap.size+1+1,0,none⟩=some (.int .i64 k.1):=(HBK.out.keep hb1).cell 0
       have z1:w1.cell? ⟨w.heap.size+1+1,1,none⟩=some (.slice A5 L c5):=(HBK.out.keep hb1).cell 1
       have HBG1:=Hd_ (HBG.out.keep hb1)
       have HBA1:=Hd_ (HBA.out.keep hb1)
       have HBK1:=Hd_ (HBK.out.keep hb1)
       clear hb1
       go_wp2_with fail
       refine (HIW.out _ hb2).mono ?_
       rintro e w2 ⟨rfl,hb3⟩
       have hb4:=below_trans hb2 hb3
       clear x0 x1 y0 y1 y2 z0 z1
       have x0:w2.cell? ⟨w.heap.size,0,none⟩=some (.slice A1 n1 c1):=(HBG1.out.keep hb3).cell 0
       have x1:w2.cell? ⟨w.heap.size,1,none⟩=some (.slice A2 n2 c2):=(HBG1.out.keep hb3).cell 1
       have y0:w2.cell? ⟨w.heap.size+1,0,none⟩=some (.int .i64 a.start):=(HBA1.out.keep hb3).cell 0
       have y1:w2.cell? ⟨w.heap.size+1,1,none⟩=some (.slice A3 n3 c3):=(HBA1.out.keep hb3).cell 1
       have y2:w2.cell? ⟨w.heap.size+1,2,none⟩=some (.slice A4 n4 c4):=(HBA1.out.keep hb3).cell 2
       have z0:w2.cell? ⟨w.heap.size+1+1,0,none⟩=some (.int .i64 k.1):=(HBK1.out.keep hb3).cell 0
       have z1:w2.cell? ⟨w.heap.size+1+1,1,none⟩=some (.slice A5 L c5):=(HBK1.out.keep hb3).cell 1
       have HBK2:=Hd_ (HBK1.out.keep hb3)
       clear hb2 hb3
       go_wp2_with fail
       refine (l19Layers_any _ _ g a x y L _ (HGV.out.keep hb4) (HAV.out.keep hb4) HGO.out HA.out hxl (by omega)).mono ?_
       rintro e w3 ⟨v3,rfl,hlv,hb5⟩
       obtain ⟨bL,oL,cL,rfl,lb,hrows⟩:=hlv.rows
       have HROWS:=Hd_ hrows
       have HB5:=Hd_ (below_trans hb4 hb5)
       have HBK3:=Hd_ (HBK2.out.keep hb5)
       have lk3:=HBK3.out.lt
       have hs3:=HB5.out.size
       clear hb4 hb5 x0 x1 y0 y1 y2 z0 z1 hlv hrows
       go_wp2_with fail
       go_loopw [13,14,15] (fun aa rr dd wr=>∃ (d i:Nat),aa=.int .i64 (i:Int)/\rr=.int .i64 (rankTo g a y k L d:Nat)/\dd=.int .i64 (d:Int)/\d<=L/\(layN g a (x,bit a.start.toNat) d)[i]?=some (nodeAt g k d,setAt g a k d)/\Below w3.heap.size w3 wr) (fun _ _ dd _=>L - (intOf dd).toNat)
       case atStart=>exact ⟨0,0,rfl,rfl,rfl,Nat.zero_le _,by rw [<- HK0.out];rfl,Below.refl _ _⟩
       case round =>
        obtain ⟨d,i,rfl,rfl,rfl,hd,hk,hbel⟩:=hrel
        have hszw:=hbel.size
        by_cases hdn:d < L
        · have hr6:=rankTo_le g a y k L d
          obtain ⟨⟨sid,sinv⟩,j0,i2,hks,hT0,hno0,hpass,hk2⟩:=HRW.out _ d i _ hdn hr6 hk
          have hrk:rankTo g a y k L (d+1)=overK (cwAt g a y (L - (d+1)) (nodeAt g k d) (setAt g a k d)) (arcsOf g (nodeAt g k d:Int)) (sid,sinv) (rankTo g a y k L d):=by
           rw [rankTo,List.getD_eq_getElem?_getD,hks];rfl
          rw [<- hrk] at hpass
          obtain ⟨b5,o5,rfl,hb5,s0,s1⟩:=HC5.out.st hks
          simp only at s0 s1
          have hbelw:=HB5.out.trans (hbel.mono hs3)
          have S0:=Hd_ (kcell hbelw s0)
          have S1:=Hd_ (kcell hbelw s1)
          obtain ⟨gd,cd,zs,h0,hld⟩:=HROWS.out d hd
          obtain ⟨gd1,cd1,zs1,h1,hl1⟩:=HROWS.out (d+1) hdn
          obtain ⟨z,hz,hz1,hz2,hz3,hz4,d0,d1,d2,d3,d4⟩:=hld.get hk
          rw [layTn_lt hdn] at hz4
          have hTin:=(layT_row hk).to_lt
          have hTl:=Nat.le_trans (layT_row hk).len (arcs_len (grOk_iff.1 HGO.out) _)
          obtain ⟨F,hF⟩:∃ F:Nat->Nat,F=layC g a y (x,bit a.start.toNat) L (d+1):=⟨_,rfl⟩
          obtain ⟨TT,hTT⟩:∃ TT,TT=layT g a (x,bit a.start.toNat) d i:=⟨_,rfl⟩
          rw [<- hF] at hpass hl1
          rw [<- hTT] at hpass hT0 hno0 hz4 hTin hTl
          have hFle:∀ j,F j<=1000000:=fun j=>by rw [hF];exact layC_le ..
          have hosv:=hz4.1
          have hotv:=hz4.2
          have hil:=(List.getElem?_eq_some_iff.1 hk).1
          have hl20:=HLO.out d
          have hl21:=HLO.out (d+1)
          obtain ⟨L0,hL0⟩:∃ L0,L0=(layN g a (x,bit a.start.toNat) d).length:=⟨_,rfl⟩
          obtain ⟨L1,hL1⟩:∃ L1,L1=(layN g a (x,bit a.start.toNat) (d+1)).length:=⟨_,rfl⟩
          rw [<- hL0] at h0 hil hl20
          rw [<- hL1] at h1 hTin hl21
          have HL1:=Hd_ hl1
          have HL1E:=Hd_ hL1
          have HK2:=Hd_ hk2
          have HTIN:=Hd_ hTin
          have HFLE:=Hd_ hFle
          have HT0:=Hd_ hT0
          have HNO0:=Hd_ hno0
          obtain ⟨r0,hr0⟩:∃ r0,r0=rankTo g a y k L d:=⟨_,rfl⟩
          obtain ⟨RD1,hRD1⟩:∃ RD1,RD1=rankTo g a y k L (d+1):=⟨_,rfl⟩
          have HRD1:=Hd_ hRD1
          rw [<- hr0] at hpass hr6 ⊢
          rw [<- hRD1] at hpass
          have HPASS:=Hd_ hpass
          clear hz hz1 hz2 hz3 hz4 hl1 hL0 hL1 hF hTT hT0 hno0 hpass hk2 hTin hFle hk hr0 hRD1 hrk hks s0 s1 hbelw
          obtain ⟨z0,z1,z2,sv,tv⟩:=z
          simp only at d3 d4 hosv hotv
          obtain ⟨As,cs,rfl,hls,hms,hCs⟩:=hosv.form cSt_len
          obtain ⟨At,ct,rfl,hlt1,hmt,hCt⟩:=hotv.form cN_len
          rw [List.length_map] at hls hosv hlt1 hotv d3 d4
          have HCS:=Hd_ hCs
          have HCT:=Hd_ hCt
          have hgd:=hld.lt
          have h0:=kcell hbel h0
          have d0:=kcell hbel d0
          have d1:=kcell hbel d1
          have d2:=kcell hbel d2
          have d3:=kcell hbel d3
          have d4:=kcell hbel d4
          have HH1:=Hd_ h1
          have HBKR:=Hd_ (HBK3.out.keep hbel)
          clear hCs hCt hosv hotv hld h1
          have hd1:(d:Int) < (L:Int)+1:=by omega
          have hdn2:(d:Int) < (L:Int):=by omega
          have hii:(i:Int) < (L0:Int):=by omega
          obtain ⟨KX,hKX⟩:∃ KX,KX=nodeAt g k d:=⟨_,rfl⟩
          obtain ⟨KS,hKS⟩:∃ KS,KS=setAt g a k d:=⟨_,rfl⟩
          rw [<- hKX] at d0
          rw [<- hKS] at d1
          obtain ⟨CZ,hCZ⟩:∃ CZ,CZ=layC g a y (x,bit a.start.toNat) L d i:=⟨_,rfl⟩
          rw [<- hCZ] at d2
          obtain ⟨wo,hwo⟩:∃ wo:World,wo=wr:=⟨_,rfl⟩
          rw [<- hwo] at hbel hszw h0 d0 d1 d2 d3 d4 HBKR S0 S1 ⊢
          have HBEL:=Hd_ hbel
          clear hwo hbel hKX hKS hCZ
          go_wp2_with fail
          have NODE:True:=trivial
          obtain ⟨wz,hwz⟩:∃ wz,wz=wo.alloc (.cells #[.int .i64 (KX:Int),.int .i64 (KS:Int),.int .i64 (CZ:Int),.slice As TT.length cs,.slice At TT.length ct] 69):=⟨_,rfl⟩
          have hbz:Blk wz wo.heap.size 69 #[.int .i64 (KX:Int),.int .i64 (KS:Int),.int .i64 (CZ:Int),.slice As TT.length cs,.slice At TT.length ct]:=by rw [hwz];exact Blk.new _ _ _ _ rfl
          have hbY:Below wo.heap.size wo wz:=by rw [hwz];exact (Below.refl _ _).alloc (Nat.le_refl _) _
          rw [<- hwz]
          have HBZ:=Hd_ hbz
          have HBY:=Hd_ hbY
          have hszz:=hbz.lt
          clear hwz hbz hbY h0 d0 d1 d2 d3 d4
          go_loopw [13,14,17,18] (fun aa rr bb kk wi=>∃ (j a1 r1:Nat) (b:Bool),aa=.int .i64 (a1:Int)/\rr=.int .i64 (r1:Int)/\bb=.bool b/\kk=.int .i64 (j:Int)/\j<=TT.length/\r1<=1000000 /\
           Blk wi wo.heap.size 69 #[.int .i64 (KX:Int),.int .i64 (KS:Int),.int .i64 (CZ:Int),.slice As TT.length cs,.slice At TT.length ct]/\Below wo.heap.size wo wi /\
           (b=false->a1=i/\r1=passK (fun e:St × Nat=>F e.2) (TT.take j) r0/\∀ r q,r < j->TT[r]?=some q->q.1 ≠ ((sid,sinv):St)) /\
           (b=true->r1=RD1/\a1=i2)) (fun _ _ _ kk _=>TT.length - (intOf kk).toNat)
          case atStart=>exact ⟨0,i,r0,false,rfl,rfl,rfl,rfl,Nat.zero_le _,hr6,HBZ.out,HBY.out,fun _=>⟨rfl,rfl,fun r q hr=>by omega⟩,fun h=>by cases h⟩
          case round =>
           clear HBZ HBY
           obtain ⟨j,a1,r1,b,rfl,rfl,rfl,rfl,hj,hr1,hbz,hby,hno,hyes⟩:=hrel
           have c4:wr.cell? ⟨wo.heap.size,4,none⟩=some (.slice At TT.length ct):=hbz.cell 4
           have HBZ:=Hd_ hbz
           have HBY:=Hd_ hby
           cases b with
           | true =>
             obtain ⟨rfl,rfl⟩:=hyes rfl
             clear hno hyes hbz hby
             by_cases hlj:j < TT.length
             · have hjj:(j:Int) < (TT.length:Int):=by omega
               go_wp2_with fail
               go_roundw
               case rel=>exact ⟨d+1,a1,rfl,by rw [<- HRD1.out],by go_num,by omega,HK2.out,HBEL.out.trans (HBY.out.mono hszw)⟩
               case measure=>simp [intOf];omega
             · have hjj:¬ (j:Int) < (TT.length:Int):=by omega
               go_wp2_with fail
               go_roundw
               case rel=>exact ⟨d+1,a1,rfl,by rw [<- HRD1.out],by go_num,by omega,HK2.out,HBEL.out.trans (HBY.out.mono hszw)⟩
               case measure=>simp [intOf];omega
           | false =>
             obtain ⟨rfl,hr1e,hnn⟩:=hno rfl
             clear hyes hno
             have hno:=hnn
             clear hnn
             by_cases hlj:j < TT.length
             · have hej:TT[j]?=some TT[j]:=List.getElem?_eq_getElem hlj
               have hin:=HTIN.out _ (List.getElem_mem hlj)
               generalize TT[j]=e at hej hin
               have HFU:=Hd_ (fun (h:e.1=((sid,sinv):St))=>first_uniq hej h hno HT0.out HNO0.out)
               have HPS:=Hd_ (passK_succ (k:=fun e:St × Nat=>F e.2) (r:=r0) hej)
               have HNP:=Hd_ (fun (h:e.1 ≠ ((sid,sinv):St)) r q (hr:r < j+1) (hq:TT[r]?=some q)=>show q.1 ≠ ((sid,sinv):St) from by
                rcases Nat.lt_or_ge r j with h1 | h1
                · exact hno r q h1 hq
                · obtain rfl:r=j:=by omega
                  rw [hej] at hq
                  injection hq with hq
                  rw [<- hq];exact h)
               obtain ⟨⟨sid2,sinv2⟩,e2⟩:=e
               simp only at hin
               obtain ⟨b8,o8,rfl,hb8,t0⟩:=HCT.out.nat (i:=j) (x:=e2) (by rw [List.getElem?_map,hej];rfl)
               obtain ⟨b9,o9,rfl,hb9,u0,u1⟩:=HCS.out.st (i:=j) (e:=(sid2,sinv2)) (by rw [List.getElem?_map,hej];rfl)
               have hk1:(layN g a (x,bit a.start.toNat) (d+1))[e2]?=some (layN g a (x,bit a.start.toNat) (d+1))[e2]:=List.getElem?_eq_getElem (by rw [<- HL1E.out];exact hin)
               obtain ⟨zq,-,-,-,-,-,-,-,q2,-,-⟩:=HL1.out.get hk1
               have hbelr:=HBEL.out.trans (hby.mono hszw)
               have t0:=kcell hbelr t0
               have u0:=kcell hbelr u0
               have u1:=kcell hbelr u1
               have q2:=kcell hbelr q2
               have h1:=kcell hbelr HH1.out
               have s0:=kcell hby S0.out
               have s1:=kcell hby S1.out
               have hbkr:=HBKR.out.keep hby
               have z1:wr.cell? ⟨w.heap.size+1+1,1,none⟩=some (.slice (some ⟨b5,o5,none⟩) L c5):=hbkr.cell 1
               have c3:wr.cell? ⟨wo.heap.size,3,none⟩=some (.slice (some ⟨b9,o9,none⟩) TT.length cs):=hbz.cell 3
               have hC1:=HFLE.out e2
               obtain ⟨D1,hD1⟩:∃ D1,D1=d+1:=⟨_,rfl⟩
               rw [<- hD1] at h1
               have hq1:(D1:Int) < (L:Int)+1:=by omega
               have hqz:(d:Int)+1=(D1:Int):=by omega
               have hjj:(j:Int) < (TT.length:Int):=by omega
               have hee:(e2:Int) < (L1:Int):=by omega
               obtain ⟨C1,hC1e⟩:∃ C1,C1=F e2:=⟨_,rfl⟩
               have HC1:=Hd_ hC1e
               rw [<- hC1e] at q2 hC1
               have HPS2:=Hd_ (show passK (fun e:St × Nat=>F e.2) (TT.take (j+1)) r0=min 1000000 (r1+C1) by rw [HPS.out,hr1e,hC1e])
               have HRRI:=Hd_ (fun (h:j=j0)=>show r1=RD1 by rw [hr1e,h];exact HPASS.out)
               obtain ⟨bb,hbb⟩:∃ bb,bb=decide (((sid2,sinv2):St)=(sid,sinv)):=⟨_,rfl⟩
               have HBB:=Hd_ hbb
               have HEQ:=Hd_ (fun w=>eqlSt (sid2,sinv2) (sid,sinv) w)
               simp only at HEQ
               rw [<- hbb] at HEQ
               clear hno hej hk1 hC1e hr1e hbb hbz HPS hin
               obtain ⟨wq,hwq⟩:∃ wq:World,wq=wr:=⟨_,rfl⟩
               rw [<- hwq] at HBZ HBY hby hbelr hbkr c3 c4 t0 s0 s1 u0 u1 q2 h1 z1 ⊢
               clear hwq hbelr hbkr hby
               have lq1:bL < wq.heap.size:=World.block_lt_of_cell? _ _ h1
               have lq2:wo.heap.size < wq.heap.size:=World.block_lt_of_cell? _ _ c4
               have lq3:b8 < wq.heap.size:=World.block_lt_of_cell? _ _ t0
               have lq4:gd1 < wq.heap.size:=World.block_lt_of_cell? _ _ q2
               have lq5:b9 < wq.heap.size:=World.block_lt_of_cell? _ _ u0
               have lq6:b5 < wq.heap.size:=World.block_lt_of_cell? _ _ s0
               have lq7:w.heap.size+1+1 < wq.heap.size:=World.block_lt_of_cell? _ _ z1
               have qw:IntKind.i64.wrap ((d:Int)+1)=(D1:Int):=by rw [IntWalk.i64_in _ (by omega),hqz]
               have qs:IntKind.i64.wrap ((r1:Int)+(C1:Int))=(r1:Int)+(C1:Int):=IntWalk.i64_in _ (by omega)
               have HQW:=Hd_ qw
               have HQS:=Hd_ qs
               clear hD1 hqz qw qs
               cases bb with
               | true =>
                 have heq:=HEQ.out
                 have hse:((sid2,sinv2):St)=(sid,sinv):=of_decide_eq_true HBB.out.symm
                 have HFE:=Hd_ (HFU.out hse)
                 have HRR:=Hd_ (HRRI.out HFE.out.1)
                 go_upto_region 15 with fail
                 refine wp_region_ext_lit (by kernel_rfl) (by kernel_rfl) ?_
                 repeat (go_big_quiet_step (fail))
                 refine wpQuiet_nil ?_
                 rintro _ ⟨u2,rfl⟩
                 have hbU:=ext_below wq u2
                 go_wp2_with fail
                 go_roundw
                 case rel=>exact ⟨j+1,e2,r1,true,rfl,rfl,rfl,by go_num,by omega,hr1,HBZ.out.keep hbU,HBY.out.trans (hbU.mono (Nat.le_of_lt lq2)),(fun h=>by cases h),fun _=>⟨HRR.out,HFE.out.2⟩⟩
                 case measure=>simp [intOf];omega
               | false =>
                 have heq:=HEQ.out
                 have hse:((sid2,sinv2):St) ≠ (sid,sinv):=of_decide_eq_false HBB.out.symm
                 have HNQ:=Hd_ (HNP.out hse)
                 go_upto_region 15 with fail
                 refine wp_region_ext_lit (by kernel_rfl) (by kernel_rfl) ?_
                 repeat (go_big_quiet_step (fail))
                 refine wpQuiet_nil ?_
                 rintro _ ⟨u2,rfl⟩
                 have hbU:=ext_below wq u2
                 have qw:=HQW.out
                 have qs:=HQS.out
                 go_upto_region 18 with fail
                 refine wp_region_ext_lit (by kernel_rfl) (by kernel_rfl) ?_
                 repeat (go_big_quiet_step (fail))
                 refine wpQuiet_nil ?_
                 rintro _ ⟨u3,rfl⟩
                 have hbV:=below_trans hbU (ext_below (ext wq u2) u3)
                 have hmi:(min 1000000 ((r1:Int)+(C1:Int)))=((min 1000000 (r1+C1):Nat):Int):=by omega
                 have hmi2:(if (r1:Int)+(C1:Int) < 1000000 then (r1:Int)+(C1:Int) else 1000000)=((min 1000000 (r1+C1):Nat):Int):=by split <;> omega
                 first | rw [hmi] | rw [hmi2] | skip
                 clear hmi hmi2 qw qs
                 go_wp2_with fail
                 go_roundw
                 case rel=>exact ⟨j+1,a1,min 1000000 (r1+C1),false,rfl,rfl,rfl,by go_num,by omega,Nat.min_le_left _ _,HBZ.out.keep hbV,HBY.out.trans (hbV.mono (Nat.le_of_lt lq2)),fun _=>⟨rfl,HPS2.out.symm,fun r q hr hq=>HNQ.out r q hr hq⟩,fun h=>by cases h⟩
                 case measure=>simp [intOf];omega
             · obtain rfl:j=TT.length:=by omega
               exact absurd rfl (hno j0 _ (List.getElem?_eq_some_iff.1 HT0.out).1 HT0.out)
        · obtain rfl:d=L:=by omega
          have HBL:=Hd_ (HB5.out.trans (hbel.mono hs3))
          have hdd:¬ (d:Int) < (d:Int):=by omega
          clear hk hbel
          go_wp2_with fail
          go_ret
          exact ⟨by rw [HF.out];rfl,HBL.out⟩
   · have HF:=Hd_ (show R=-1 by rw [hR];exact rankShS_no (.inr (.inl hlen)))
     generalize shortLen g a x y=SL at *
     have hlen1:((k.2.length:Int) != SL)=true:=by simpa using hlen
     clear hR
     go_enter Tryz.func30,Tryz.ntmps30
     go_wp2_with fail
     refine (HSL.out _ HB0.out).mono ?_
     rintro e w1 ⟨rfl,hb1⟩
     have hb2:=below_trans HB0.out hb1
     have x0:w1.cell? ⟨w.heap.size,0,none⟩=some (.slice A1 n1 c1):=(HBG.out.keep hb1).cell 0
     have x1:w1.cell? ⟨w.heap.size,1,none⟩=some (.slice A2 n2 c2):=(HBG.out.keep hb1).cell 1
     have y0:w1.cell? ⟨w.heap.size+1,0,none⟩=some (.int .i64 a.start):=(HBA.out.keep hb1).cell 0
     have y1:w1.cell? ⟨w.heap.size+1,1,none⟩=some (.slice A3 n3 c3):=(HBA.out.keep hb1).cell 1
     have y2:w1.cell? ⟨w.heap.size+1,2,none⟩=some (.slice A4 n4 c4):=(HBA.out.keep hb1).cell 2
     have z0:w1.cell? ⟨w.heap.size+1+1,0,none⟩=some (.int .i64 k.1):=(HBK.out.keep hb1).cell 0
     have z1:w1.cell? ⟨w.heap.size+1+1,1,none⟩=some (.slice A5 k.2.length c5):=(HBK.out.keep hb1).cell 1
     clear hb1
     go_wp2_with fail
     go_ret
     exact ⟨by rw [HF.out];rfl,hb2⟩
set_option maxHeartbeats 1000000 in
theorem l5Step_any (a b:St) (w:World) :
 Calls Tryz.prog 45 #[.agg #[.int .i64 a.1,.bool a.2],.agg #[.int .i64 b.1,.bool b.2]] w fun e w'=>e=.returned (.int .i64 (cmpSt a b))/\Below w.heap.size w w':=by
 obtain ⟨a1,a2⟩:=a
 obtain ⟨b1,b2⟩:=b
 have hb0:Below w.heap.size w ((w.alloc (.cells #[.int .i64 a1,.bool a2] 74)).alloc (.cells #[.int .i64 b1,.bool b2] 74)):=((Below.refl _ _).alloc (Nat.le_refl _) _).alloc (by simp) _
 simp only
 by_cases h1:a1 < b1
 · have hres:cmpSt (a1,a2) (b1,b2)=-1:=if_pos h1
   rw [hres]
   clear hres
   go_enter Tryz.func45,Tryz.ntmps45
   go_wp2
   go_ret
   exact ⟨rfl,hb0⟩
 by_cases h2:b1 < a1
 · have hres:cmpSt (a1,a2) (b1,b2)=1:=by rw [cmpSt,if_neg h1,if_pos h2]
   rw [hres]
   clear hres
   go_enter Tryz.func45,Tryz.ntmps45
   go_wp2
   go_ret
   exact ⟨rfl,hb0⟩
 have hres:cmpSt (a1,a2) (b1,b2)=if a2=b2 then 0 else if b2=true then -1 else 1:=by rw [cmpSt,if_neg h1,if_neg h2]
 rw [hres]
 clear hres
 cases a2 <;> cases b2 <;> simp only [if_true,if_false,reduceCtorEq] <;> (go_enter Tryz.func45,Tryz.ntmps45;go_wp2;go_ret;exact ⟨rfl,hb0⟩)
set_option maxHeartbeats 2000000 in
theorem specCompareWalks (v1 v2:Value) (k j:Wk) (w:World) (hv1:WkV 0 w.heap.size w v1 k) (hv2:WkV 0 w.heap.size w v2 j) :
 Calls Tryz.prog 11 #[v1,v2] w fun e w'=>e=.returned (.int .i64 (cmpWk k j))/\Below w.heap.size w w':=by
 obtain ⟨ss1,rfl,hs1⟩:=hv1
 obtain ⟨ss2,rfl,hs2⟩:=hv2
 obtain ⟨x,A⟩:=k
 obtain ⟨y,B⟩:=j
 simp only at hs1 hs2 ⊢
 obtain ⟨A1,c1,rfl,hl1,hm1,hx1⟩:=hs1
 obtain ⟨A2,c2,rfl,hl2,hm2,hx2⟩:=hs2
 unfold maxLen at hm1 hm2
 have hb0:Below w.heap.size w ((w.alloc (.cells #[.int .i64 x,.slice A1 A.length c1] 36)).alloc (.cells #[.int .i64 y,.slice A2 B.length c2] 36)):=((Below.refl _ _).alloc (Nat.le_refl _) _).alloc (by simp) _
 by_cases h1:A.length < B.length
 · have hres:cmpWk (x,A) (y,B)=-1:=if_pos h1
   rw [hres]
   clear hres hx1 hx2
   go_enter Tryz.func11,Tryz.ntmps11
   go_wp2
   go_ret
   exact ⟨rfl,hb0⟩
 by_cases h2:B.length < A.length
 · have hres:cmpWk (x,A) (y,B)=1:=by rw [cmpWk,if_neg h1,if_pos h2]
   rw [hres]
   clear hres hx1 hx2
   go_enter Tryz.func11,Tryz.ntmps11
   go_wp2
   go_ret
   exact ⟨rfl,hb0⟩
 by_cases h3:x < y
 · have hres:cmpWk (x,A) (y,B)=-1:=by rw [cmpWk,if_neg h1,if_neg h2,if_pos h3]
   rw [hres]
   clear hres hx1 hx2
   go_enter Tryz.func11,Tryz.ntmps11
   go_wp2
   go_ret
   exact ⟨rfl,hb0⟩
 by_cases h4:y < x
 · have hres:cmpWk (x,A) (y,B)=1:=by rw [cmpWk,if_neg h1,if_neg h2,if_neg h3,if_pos h4]
   rw [hres]
   clear hres hx1 hx2
   go_enter Tryz.func11,Tryz.ntmps11
   go_wp2
   go_ret
   exact ⟨rfl,hb0⟩
 have hres:cmpWk (x,A) (y,B)=cmpSts (A.drop 0) (B.drop 0):=by rw [cmpWk,if_neg h1,if_neg h2,if_neg h3,if_neg h4];rfl
 obtain ⟨R,hR⟩:∃ R,R=cmpWk (x,A) (y,B):=⟨_,rfl⟩
 rw [<- hR] at hres ⊢
 have hlen:A.length=B.length:=by omega
 have HLEN:=Hd_ hlen
 clear hR hlen
 have HX1:=Hd_ hx1
 have HX2:=Hd_ hx2
 clear hx1 hx2
 go_enter Tryz.func11,Tryz.ntmps11
 go_wp2
 obtain ⟨W0,hW0⟩:∃ W0:World,W0=((w.alloc (.cells #[.int .i64 x,.slice A1 A.length c1] 36)).alloc (.cells #[.int .i64 y,.slice A2 B.length c2] 36)):=⟨_,rfl⟩
 have b1:Blk W0 w.heap.size 36 #[.int .i64 x,.slice A1 A.length c1]:=by rw [hW0];exact (Blk.new w _ _ w.heap.size rfl).alloc _
 have b2:Blk W0 (w.heap.size+1) 36 #[.int .i64 y,.slice A2 B.length c2]:=by rw [hW0];exact Blk.new (w.alloc _) _ _ (w.heap.size+1) (by simp)
 have x1:W0.cell? ⟨w.heap.size,1,none⟩=some (.slice A1 A.length c1):=b1.cell 1
 have x2:W0.cell? ⟨w.heap.size+1,1,none⟩=some (.slice A2 B.length c2):=b2.cell 1
 have l1:=b1.lt
 have l2:=b2.lt
 rw [<- hW0] at hb0 ⊢
 have hs:=hb0.size
 have HCK:=Hd_ (fun (b o:Nat) (hb:b < w.heap.size)=>hb0.cell (p:=⟨b,o,none⟩) hb)
 clear b1 b2 hW0
 have HB0:=Hd_ hb0
 have HH1:=Hd_ h1
 have HH2:=Hd_ h2
 clear hb0 h1 h2 h3 h4
 have HRES:=Hd_ hres
 clear hres
 go_loopw [5] (fun i wr=>∃ (t:Nat) (u:World),t<=A.length/\i=.int .i64 t/\wr=ext W0 u/\R=cmpSts (A.drop t) (B.drop t)) (fun i _=>A.length - (intOf i).toNat)
 case atStart=>exact ⟨0,W0,Nat.zero_le _,rfl,ext_self W0,HRES.out⟩
 case round =>
  obtain ⟨t,u,ht,rfl,rfl,hr⟩:=hrel
  by_cases hlt:t < A.length
  · have hta:A[t]?=some A[t]:=List.getElem?_eq_getElem hlt
    have htB:t < B.length:=by have:=HLEN.out;omega
    have htb:B[t]?=some B[t]:=List.getElem?_eq_getElem htB
    obtain ⟨q1,o1,rfl,-,hq1,hc1⟩:=HX1.out t _ hta
    obtain ⟨q2,o2,rfl,-,hq2,hc2⟩:=HX2.out t _ htb
    rw [cmpSts_drop hta htb] at hr
    generalize A[t]=sa at hr hc1
    generalize B[t]=sb at hr hc2
    have c10:=(HCK.out _ _ hq1).trans (hc1 0 _ rfl)
    have c11:=(HCK.out _ _ hq1).trans (hc1 1 _ rfl)
    have c20:=(HCK.out _ _ hq2).trans (hc2 0 _ rfl)
    have c21:=(HCK.out _ _ hq2).trans (hc2 1 _ rfl)
    simp only [Nat.add_zero] at c10 c20
    clear hc1 hc2 hta htb
    have hq1:=Nat.lt_of_lt_of_le hq1 hs
    have hq2:=Nat.lt_of_lt_of_le hq2 hs
    have HL:=Hd_ (fun (W:World)=>l5Step_any sa sb W)
    generalize cmpSt sa sb=z at hr HL
    have HR:=Hd_ hr
    clear hr
    by_cases hz:z=0
    · subst hz
      go_wp2
      refine wp_region_ext_lit (by kernel_rfl) (by kernel_rfl) ?_
      repeat (go_big_quiet_step ((go_at_call 45;exact Calls.ext_of (HL.out _))))
      refine wpQuiet_nil ?_
      rintro _ ⟨u2,rfl⟩
      go_wp2
      go_roundw
      case rel =>
       obtain ⟨y',hy⟩:=ext_ext W0 u u2
       exact ⟨t+1,y',by omega,by go_num,hy,by have:=HR.out;simpa using this⟩
      case measure=>simp [intOf];omega
    · have hq:(z != 0)=true:=by simp [hz]
      have hres:R=z:=by have:=HR.out;rw [if_neg hz] at this;exact this
      have HZ:=Hd_ hres
      clear hres hz
      go_wp2
      refine wp_region_ext_lit (by kernel_rfl) (by kernel_rfl) ?_
      repeat (go_big_quiet_step ((go_at_call 45;exact Calls.ext_of (HL.out _))))
      refine wpQuiet_nil ?_
      rintro _ ⟨u2,rfl⟩
      go_wp2
      go_ret
      obtain ⟨y',hy⟩:=ext_ext W0 u u2
      exact ⟨by rw [HZ.out];rfl,by rw [hy];exact below_trans HB0.out (ext_below _ _)⟩
  · obtain rfl:t=A.length:=by omega
    have hres:R=0:=by rw [hr,List.drop_eq_nil_of_le (Nat.le_refl _)];rfl
    have HZ:=Hd_ hres
    clear hres hr
    go_wp2
    go_ret
    exact ⟨by rw [HZ.out];rfl,below_trans HB0.out (ext_below _ _)⟩
end Go.Proofs.YtcnenpjaoalmeaaGreat
namespace Go.Proofs.YtcnenpjaoalmeaaGreat
theorem seat_mayEnter:Tryz.pinned.checked.prog.mayEnter=true:=by kernel_rfl
theorem seat_lifts:Tryz.pinned.checked.prog.liftsFinal=false:=by kernel_rfl
theorem seat_laidOut:laidOutB Tryz.pinned.checked.prog=true:=by kernel_rfl
theorem seat_mapsRowed:mapsRowed Tryz.pinned.checked.prog=true:=by kernel_rfl
end Go.Proofs.YtcnenpjaoalmeaaGreat
