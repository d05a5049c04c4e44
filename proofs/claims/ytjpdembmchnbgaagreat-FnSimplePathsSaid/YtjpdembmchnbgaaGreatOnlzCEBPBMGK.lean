/- Parts of the proof, joined into one text: AlongI, WalkI, Trail, Simp, Simple, DsbM, WitA, SrqT, SrchP, SrqP, CntI. -/
import Derived.Test.YtjpdembmchnbgaaGreatOnlzLOBKOOKG
import Derived.Test.YtjpdembmchnbgaaGreatOnlzENOPMGAL
import Derived.Test.YtjpdembmchnbgaaGreatOnlzNLACFOPA
import Derived.Test.YtjpdembmchnbgaaGreatOnlzNELCFPNN
import Derived.Test.YtjpdembmchnbgaaGreatOnlzLCDAIEIJ
import Derived.Test.YtjpdembmchnbgaaGreatOnlzHMCPMHPL
import Derived.Test.YtjpdembmchnbgaaGreatOnlzLJJOBLAE
set_option linter.unusedVariables false
set_option linter.unusedSimpArgs false
namespace Go.Proofs.YtjpdembmchnbgaaGreat
open Go.ChangeShapes Go.WideShapes Go.ChangeAt Go.RowKit
attribute [local go_sem] ext_cell ext_frozen ext_lt ext_lt1 ext_lt2 ext_lt3 ltn2 ltn3 ltn13 lts1 lts2 lts3
set_option maxHeartbeats 1000000 in
theorem implStepLetter (v:Value) (g:Gr) (s:St) (w:World) (hv:GrV 0 w.heap.size w v g) :
 Calls Tryz.prog 172 #[v,.agg #[.int .i64 s.1,.bool s.2]] w fun en w'=>en=.returned (.int .i64 (stepLetter g s))/\Below w.heap.size w w':=by
 have hv0:=hv
 obtain ⟨A1,n1,c1,A2,n2,c2,rfl⟩:=hv.shape
 clear hv
 obtain ⟨id,inv⟩:=s
 have hb0:Below w.heap.size w ((w.alloc (.cells #[.slice A1 n1 c1,.slice A2 n2 c2] 27)).alloc (.cells #[.int .i64 id,.bool inv] 81)):=((Below.refl _ _).alloc (Nat.le_refl _) _).alloc (by simp) _
 have hc:=fun W (hW:Below w.heap.size w W)=>implStepEdge _ g (id,inv) W (hv0.keep hW)
 simp only at hc ⊢
 have HC:=Hd_ hc
 clear hc
 cases hs:stepEd g id with
 | none =>
   have hres:stepLetter g (id,inv)=-1:=by rw [stepLetter];simp [hs]
   have HR:=Hd_ hres
   rw [hs] at HC
   clear hres hs
   go_enter Tryz.func172,Tryz.ntmps172
   go_wp2_with fail
   refine (HC.out _ hb0).mono ?_
   rintro en w1 ⟨e,rfl,-,hb1⟩
   have hb2:=below_trans hb0 hb1
   clear hb0 hb1
   go_wp2_with fail
   go_ret
   exact ⟨ret_int HR.out.symm,hb2.alloc hb2.size _⟩
 | some e =>
   rw [hs] at HC
   have hres:stepLetter g (id,inv)=arcLetter inv e:=stepLetter_of (s:=(id,inv)) hs
   obtain ⟨hg,hm,-⟩:=stepEd_ok hs
   have hl:=(hg.edges e hm).2.2.2
   have HR:=Hd_ hres
   clear hres hs hg hm
   go_enter Tryz.func172,Tryz.ntmps172
   go_wp2_with fail
   refine (HC.out _ hb0).mono ?_
   rintro en w1 ⟨e1,rfl,he1,hb1⟩
   obtain rfl:=he1 e rfl
   have b1:=(Blk.new (w.alloc _) _ _ (w.heap.size+1) (by simp)).keep hb1
   have y1:w1.cell? ⟨w.heap.size+1,1,none⟩=some _:=b1.cell 1
   have hlt:=b1.lt
   have hb2:=below_trans hb0 hb1
   have hb3:=hb2.alloc hb2.size (.cells #[.int .i64 e.1,.int .i64 e.2.1,.int .i64 e.2.2.1,.int .i64 e.2.2.2] 138)
   clear hb0 hb1 he1 b1
   go_wp2_with fail
   refine (reads_any e inv _ hl.1 hl.2).mono ?_
   rintro en w2 ⟨rfl,hb4⟩
   go_wp2_with fail
   go_ret
   exact ⟨ret_int HR.out.symm,below_trans hb3 hb4⟩
theorem flatN_at {xs:List Nat} {t:Nat} {x:Nat} (h:xs[t]?=some x):(xs.flatMap cN)[t]?=some (.int .i64 (x:Int)):=by
 have:=flat_at cN_len h 0 _ rfl
 simpa using this
set_option maxHeartbeats 8000000 in
set_option maxRecDepth 100000 in
theorem along_any (vg va vk:Value) (g:Gr) (a:Au) (k:Wk) (w:World) (hgv:GrV 0 w.heap.size w vg g) (hav:AuV 0 w.heap.size w va a) (hkv:WkV 0 w.heap.size w vk k) :
 Calls Tryz.prog 148 #[vg,va,vk] w fun e w'=>∃ v1 v2,e=.returned (.tuple #[v1,v2,.bool (walkOk g k && auOk a)])/\Own w.heap.size w'.heap.size w' 3 cN 1 v1 (alongS g a k)/\Own w.heap.size w'.heap.size w' 3 cI 1 v2 (alongN g a k)/\Below w.heap.size w w':=by
 have hgv0:=hgv
 have hav0:=hav
 have hkv0:=hkv
 obtain ⟨A1,c1,A2,c2,rfl,hl1,hm1,hl2,hm2,hC1,-⟩:=hgv.form
 obtain ⟨A3,n3,c3,A4,n4,c4,rfl⟩:=hav.shape
 obtain ⟨A5,c5,rfl,hl5,hm5,hC5⟩:=hkv.form
 have hb0:Below w.heap.size w (((w.alloc (.cells #[.slice A1 g.vals.length c1,.slice A2 g.edges.length c2] 27)).alloc (.cells #[.int .i64 a.start,.slice A3 n3 c3,.slice A4 n4 c4] 31)).alloc (.cells #[.int .i64 k.1,.slice A5 k.2.length c5] 39)):=(((Below.refl _ _).alloc (Nat.le_refl _) _).alloc (by simp) _).alloc (by simp;omega) _
 obtain ⟨RS,hRS⟩:∃ RS,RS=alongS g a k:=⟨_,rfl⟩
 obtain ⟨RN,hRN⟩:∃ RN,RN=alongN g a k:=⟨_,rfl⟩
 obtain ⟨ok,hok⟩:∃ ok,ok=(walkOk g k && auOk a):=⟨_,rfl⟩
 rw [<- hRS,<- hRN,<- hok]
 have HOK:=Hd_ hok
 have HRS:=Hd_ hRS
 have HRN:=Hd_ hRN
 have HGV:=Hd_ hgv0
 have HAV:=Hd_ hav0
 have HKV:=Hd_ hkv0
 have HC1:=Hd_ hC1
 have HC5:=Hd_ hC5
 clear hgv hav hkv hgv0 hav0 hkv0 hC1 hC5 hRS hRN hok
 go_enter Tryz.func148,Tryz.ntmps148
 go_wp2_with fail
 obtain ⟨W0,hW0⟩:∃ W0,W0=(((w.alloc (.cells #[.slice A1 g.vals.length c1,.slice A2 g.edges.length c2] 27)).alloc (.cells #[.int .i64 a.start,.slice A3 n3 c3,.slice A4 n4 c4] 31)).alloc (.cells #[.int .i64 k.1,.slice A5 k.2.length c5] 39)):=⟨_,rfl⟩
 rw [<- hW0] at hb0 ⊢
 have bx:Blk W0 w.heap.size 27 #[.slice A1 g.vals.length c1,.slice A2 g.edges.length c2]:=by rw [hW0];exact ((Blk.new w _ _ w.heap.size rfl).alloc _).alloc _
 have by_:Blk W0 (w.heap.size+1) 31 #[.int .i64 a.start,.slice A3 n3 c3,.slice A4 n4 c4]:=by rw [hW0];exact (Blk.new (w.alloc _) _ _ (w.heap.size+1) (by simp)).alloc _
 have bz:Blk W0 (w.heap.size+1+1) 39 #[.int .i64 k.1,.slice A5 k.2.length c5]:=by rw [hW0];exact Blk.new ((w.alloc _).alloc _) _ _ (w.heap.size+1+1) (by simp)
 have x0:W0.cell? ⟨w.heap.size,0,none⟩=some (.slice A1 g.vals.length c1):=by exact bx.cell 0
 have x1:W0.cell? ⟨w.heap.size,1,none⟩=some (.slice A2 g.edges.length c2):=by exact bx.cell 1
 have y0:W0.cell? ⟨w.heap.size+1,0,none⟩=some (.int .i64 a.start):=by exact by_.cell 0
 have y1:W0.cell? ⟨w.heap.size+1,1,none⟩=some (.slice A3 n3 c3):=by exact by_.cell 1
 have y2:W0.cell? ⟨w.heap.size+1,2,none⟩=some (.slice A4 n4 c4):=by exact by_.cell 2
 have z0:W0.cell? ⟨w.heap.size+1+1,0,none⟩=some (.int .i64 k.1):=by exact bz.cell 0
 have z1:W0.cell? ⟨w.heap.size+1+1,1,none⟩=some (.slice A5 k.2.length c5):=by exact bz.cell 1
 have hs0:w.heap.size+1+1+1=W0.heap.size:=by rw [hW0];simp
 have l0:w.heap.size+1+1 < W0.heap.size:=by omega
 clear hW0 hs0 bx by_ bz
 have hnod:=implNodes _ _ g k W0 (HGV.out.keep hb0) (HKV.out.keep hb0)
 have HNOD:=Hd_ hnod
 clear hnod
 cases hw:walkOk g k with
 | false =>
   rw [hw] at HNOD
   have hfS:RS=[]:=by rw [HRS.out,alongS,hw];rfl
   have hfN:RN=[]:=by rw [HRN.out,alongN,hw];rfl
   have hfK:ok=false:=by rw [HOK.out,hw];rfl
   subst hfS hfN hfK
   refine HNOD.out.mono ?_
   rintro e w1 ⟨v1,rfl,ho1,hb1⟩
   obtain ⟨A6,c6,rfl,-,-,-⟩:=ho1.form cI_len
   clear hw HRS HRN HOK
   go_wp2_with fail
   go_ret3
   exact ⟨_,_,rfl,Own.nil _ _ _ _ _ _,Own.nil _ _ _ _ _ _,below_trans hb0 hb1⟩
 | true =>
   rw [hw] at HNOD
   cases ha:auOk a with
   | false =>
     have hfS:RS=[]:=by rw [HRS.out,alongS,hw,ha];rfl
     have hfN:RN=[]:=by rw [HRN.out,alongN,hw,ha];rfl
     have hfK:ok=false:=by rw [HOK.out,hw,ha];rfl
     subst hfS hfN hfK
     have HA:=Hd_ ha
     clear hw HRS HRN ha HOK
     refine HNOD.out.mono ?_
     rintro e w1 ⟨v1,rfl,ho1,hb1⟩
     obtain ⟨A6,c6,rfl,-,-,-⟩:=ho1.form cI_len
     have hb2:=below_trans hb0 hb1
     have y0:=kcell hb1 y0
     have y1:=kcell hb1 y1
     have y2:=kcell hb1 y2
     have l0:=Nat.lt_of_lt_of_le l0 hb1.size
     go_wp2_with fail
     refine (implValidAutomaton _ a _ (HAV.out.keep hb2)).mono ?_
     rw [HA.out]
     rintro e w2 ⟨rfl,hb3⟩
     go_wp2_with fail
     go_ret3
     exact ⟨_,_,rfl,Own.nil _ _ _ _ _ _,Own.nil _ _ _ _ _ _,below_trans hb2 hb3⟩
   | true =>
     have hfS:RS=setsL g a k (k.2.length+1):=by rw [HRS.out,alongS,hw,ha];rfl
     have hfN:RN=nodesL g k:=by rw [HRN.out,alongN,hw,ha];rfl
     have HFS:=Hd_ hfS
     have HFN:=Hd_ hfN
     have HW:=Hd_ hw
     have HA:=Hd_ ha
     have hfK:ok=true:=by rw [HOK.out,hw,ha];rfl
     subst hfK
     clear hw HRS HRN ha hfS hfN HOK
     refine HNOD.out.mono ?_
     rintro e w1 ⟨v1,rfl,ho1,hb1⟩
     rw [nodesOut_yes HW.out] at ho1
     obtain ⟨A6,c6,rfl,hl6,hm6,-⟩:=ho1.form cI_len
     have hb2:=below_trans hb0 hb1
     have x0:=kcell hb1 x0
     have x1:=kcell hb1 x1
     have y0:=kcell hb1 y0
     have y1:=kcell hb1 y1
     have y2:=kcell hb1 y2
     have z0:=kcell hb1 z0
     have z1:=kcell hb1 z1
     have l0:=Nat.lt_of_lt_of_le l0 hb1.size
     have HO1:=Hd_ ho1
     clear ho1 HNOD
     rw [nodesL_len] at hl6 ⊢
     go_wp2_with fail
     refine (implValidAutomaton _ a _ (HAV.out.keep hb2)).mono ?_
     rw [HA.out]
     rintro e w2 ⟨rfl,hb3⟩
     have hbw:=below_trans hb2 hb3
     have x0:=kcell hb3 x0
     have x1:=kcell hb3 x1
     have y0:=kcell hb3 y0
     have y1:=kcell hb3 y1
     have y2:=kcell hb3 y2
     have z0:=kcell hb3 z0
     have z1:=kcell hb3 z1
     have l0:=Nat.lt_of_lt_of_le l0 hb3.size
     obtain ⟨⟨hn1,hn12⟩,⟨hst0,hst1⟩,-,-⟩:=auOk_iff.1 HA.out
     obtain ⟨s,hs⟩:∃ s:Nat,a.start=(s:Int):=⟨a.start.toNat,by omega⟩
     rw [hs] at y0 HAV
     have hsn:s < a.accept.length:=by omega
     have e1:=shl_bit (s:=s) (by omega)
     have hS1:setsL g a k (0+1)=[bit s]:=by simp [setsL,setAt,hs]
     have HS1:=Hd_ hS1
     have hr1:=ownsRow_below (HO1.out.1) hb3 (Nat.le_refl _)
     rw [nodesL_len] at hr1
     obtain ⟨gN,cN',hvN,-,hgN,-,-⟩:=own_some hr1 (by omega)
     injection hvN with e2 _ e3
     subst e2
     subst e3
     have HR1:=Hd_ hr1
     have HB3:=Hd_ hb3
     have hs3:=hb3.size
     have hs2:=hb2.size
     have hg3:=(walkOk_parts HW.out).2.2.1
     have HGO:=Hd_ (walkOk_parts HW.out).1
     clear hs hst0 hst1 hS1 hr1 hb3 hb1 hb0 HO1
     go_wp2_with fail
     go_loopw [11,34] (fun ss ii wr=>∃ i:Nat,i<=k.2.length/\ii=.int .i64 (i:Int)/\wr.ownsRow w2.heap.size 3 1 ss (setsL g a k (i+1)).length ((setsL g a k (i+1)).flatMap cN)/\Below w2.heap.size w2 wr) (fun _ ii _=>k.2.length - (intOf ii).toNat)
     case atStart=>exact ⟨0,Nat.zero_le _,rfl,by rw [HS1.out];exact World.ownsRow_lit w2 #[.int .i64 (bit s:Int)] 1 (Nat.le_refl _) (by decide) rfl,(Below.refl _ _).alloc (Nat.le_refl _) _⟩
     case round =>
      clear HS1 e1
      obtain ⟨i,hi,rfl,hrow,hbel⟩:=hrel
      have hbw2:=below_trans hbw hbel
      have x0:=kcell hbel x0
      have x1:=kcell hbel x1
      have y0:=kcell hbel y0
      have y1:=kcell hbel y1
      have y2:=kcell hbel y2
      have z0:=kcell hbel z0
      have z1:=kcell hbel z1
      have l0:=Nat.lt_of_lt_of_le l0 hbel.size
      have hsz:=hbel.size
      have HROW:=Hd_ hrow
      have HBW2:=Hd_ hbw2
      clear hrow hbw2
      by_cases hlt:i < k.2.length
      · obtain ⟨st,e,hst,he,ht,hl,hsl,hl6⟩:=walk_step HW.out hlt
        obtain ⟨sid,sinv⟩:=st
        obtain ⟨b5,o5,rfl,hb5,p0,p1⟩:=HC5.out.st hst
        have p0:=kcell hbel (kcell hbw p0)
        have p1:=kcell hbel (kcell hbw p1)
        obtain ⟨hna,hnl⟩:=nodeAt_lt HW.out hi
        have q0:=kcell hbel ((World.ownsRow.cellAt HR1.out i (by omega)).trans (flatI_at hna))
        have hvi:g.vals[nodeAt g k i]?=some g.vals[nodeAt g k i]:=List.getElem?_eq_getElem hnl
        have hvr:=HGO.out.vals _ (List.getElem_mem hnl)
        generalize g.vals[nodeAt g k i]=vx at hvi hvr
        obtain ⟨vx,rfl⟩:=Int.eq_ofNat_of_zero_le hvr.1
        have hva:=valAt_of hvi
        rw [Int.toNat_natCast] at hva
        obtain ⟨b1,o1,rfl,hb1,d1⟩:=HC1.out.int hvi
        have d1:=kcell hbel (kcell hbw d1)
        have hrow:=HROW.out
        rw [setsL_len] at hrow
        obtain ⟨gS,cS,rfl,hgS,hgS2,-,-⟩:=own_some hrow (by omega)
        have s0:=(World.ownsRow.cellAt hrow i (by omega)).trans (flatN_at (setsL_at (g:=g) (a:=a) (k:=k) (show i < i+1 by omega)))
        have HSA:=Hd_ (show setAt g a k (i+1)=aft a (setAt g a k i) vx (letAt g k i) by rw [<- hva];rfl)
        have HSN:=Hd_ (setsL_snoc g a k (i+1))
        have hsla:=setAt_lt HA.out k i (g:=g)
        have hsla4:=lt12 HA.out hsla
        have hsal:=setsL_len g a k (i+1)
        have HLET:=Hd_ (show ∀ W,Below w.heap.size w W->Calls Tryz.prog 172 #[.agg #[.slice (some ⟨b1,o1,none⟩) g.vals.length c1,.slice A2 g.edges.length c2],.agg #[.int .i64 sid,.bool sinv]] W fun e w'=>e=.returned (.int .i64 (letAt g k i:Int))/\Below W.heap.size W w' from fun W hW=>by
         have h:=implStepLetter _ g (sid,sinv) W (HGV.out.keep hW)
         rwa [hsl] at h)
        have HSL:=Hd_ hsla
        generalize letAt g k i=LI at *
        generalize setAt g a k i=SI at *
        generalize nodeAt g k i=NI at *
        generalize setsL g a k (i+1)=SX at *
        have hki:(i:Int) < (k.2.length:Int):=by omega
        have hni:(NI:Int) < (g.vals.length:Int):=by omega
        have hki1:(i:Int) < ((k.2.length:Int)+1):=by omega
        clear hst he ht hl hsl hna hvi hva hrow hsla
        go_wp2_with fail
        have hbA:Below wr.heap.size wr (wr.alloc (.cells #[.int .i64 sid,.bool sinv] 81)):=(Below.refl _ _).alloc (Nat.le_refl _) _
        have t0:(wr.alloc (.cells #[.int .i64 sid,.bool sinv] 81)).cell? ⟨wr.heap.size,0,none⟩=some (.int .i64 sid):=by simp
        have t1:(wr.alloc (.cells #[.int .i64 sid,.bool sinv] 81)).cell? ⟨wr.heap.size,1,none⟩=some (.bool sinv):=by simp
        have x0:=kcell hbA x0
        have x1:=kcell hbA x1
        have y0:=kcell hbA y0
        have y1:=kcell hbA y1
        have y2:=kcell hbA y2
        have q0:=kcell hbA q0
        have d1:=kcell hbA d1
        have s0:=kcell hbA s0
        have HRA:=Hd_ (ownsRow_below HROW.out hbA (Nat.le_refl _))
        have hsA:=hbA.size
        generalize wr.alloc (.cells #[.int .i64 sid,.bool sinv] 81)=wA at *
        have hii1:(i:Int) < (i:Int)+1:=by omega
        have hbAd:=below_trans hbA ((Below.refl wA.heap.size wA).drew)
        refine F_start 19 (fun w'=>w'.cell? ⟨w.heap.size,0,none⟩=some (.slice (some ⟨b1,o1,none⟩) g.vals.length c1)/\w'.cell? ⟨w.heap.size,1,none⟩=some (.slice A2 g.edges.length c2)/\w'.cell? ⟨w.heap.size+1,0,none⟩=some (.int .i64 (s:Int))/\w'.cell? ⟨w.heap.size+1,1,none⟩=some (.slice A3 n3 c3)/\w'.cell? ⟨w.heap.size+1,2,none⟩=some (.slice A4 n4 c4)/\w'.cell? ⟨gN,i,none⟩=some (.int .i64 (NI:Int))/\w'.cell? ⟨b1,o1+NI,none⟩=some (.int .i64 (vx:Int))/\w'.cell? ⟨gS,i,none⟩=some (.int .i64 (SI:Int))/\w'.cell? ⟨wr.heap.size,0,none⟩=some (.int .i64 sid)/\w'.cell? ⟨wr.heap.size,1,none⟩=some (.bool sinv)) (by kernel_rfl) (by exact ⟨x0,x1,y0,y1,y2,q0,d1,s0,t0,t1⟩) (fun hS inv=>?_)
        refine F_tk 0 inv ?_
        try simp only [tA,tB,tC,Act.put,tE,tF,tG]
        clear inv;intro inv
        refine F_tk 1 inv ?_
        try simp only [tA,tB,tC,Act.put,tE,tF,tG]
        clear inv;intro inv
        refine F_tk 2 inv ?_
        try simp only [tA,tB,tC,Act.put,tE,tF,tG]
        clear inv;intro inv
        refine F_tk 3 inv ?_
        try simp only [tA,tB,tC,Act.put,tE,tF,tG]
        clear inv;intro inv
        refine F_tk 4 inv ?_
        try simp only [tA,tB,tC,Act.put,tE,tF,tG]
        clear inv;intro inv
        refine F_tk 5 inv ?_
        try simp only [tA,tB,tC,Act.put,tE,tF,tG]
        clear inv;intro inv
        refine F_tk 6 inv ?_
        try simp only [tA,tB,tC,Act.put,tE,tF,tG]
        clear inv;intro inv
        refine F_tk 7 inv ?_
        try simp only [tA,tB,tC,Act.put,tE,tF,tG]
        clear inv;intro inv
        refine F_tk 8 inv ?_
        try simp only [tA,tB,tC,Act.put,tE,tF,tG]
        clear inv;intro inv
        refine F_tk 9 inv ?_
        try simp only [tA,tB,tC,Act.put,tE,tF,tG]
        clear inv;intro inv
        refine F_tk 10 inv ?_
        try simp only [tA,tB,tC,Act.put,tE,tF,tG]
        clear inv;intro inv
        refine F_tk 11 inv ?_
        try simp only [tA,tB,tC,Act.put,tE,tF,tG]
        clear inv;intro inv
        refine F_tk 12 inv ?_
        try simp only [tA,tB,tC,Act.put,tE,tF,tG]
        clear inv;intro inv
        refine F_tk 13 inv ?_
        try simp only [tA,tB,tC,Act.put,tE,tF,tG]
        clear inv;intro inv
        refine F_tk 14 inv ?_
        try simp only [tA,tB,tC,Act.put,tE,tF,tG]
        clear inv;intro inv
        refine F_tk 15 inv ?_
        try simp only [tA,tB,tC,Act.put,tE,tF,tG]
        clear inv;intro inv
        refine F_o1 16 inv ?_;intro K hK
        try simp only [tA,tB,tC]
        go_simp
        refine (HLET.out _ (below_trans HBW2.out hbAd)).mono ?_
        rintro e wL ⟨rfl,hbL⟩
        refine hK.out _ _ (kB10 hbL hS) (fun _ _=>?_)
        try simp only [tA,tB,tC,Act.put,tE,tF,tG]
        clear hK K inv hS;rename_i hS inv
        refine F_o1 17 inv ?_;intro K hK
        try simp only [tA,tB,tC]
        go_simp
        refine (after_any _ a SI vx LI _ (HAV.out.keep (below_trans HBW2.out (below_trans hbAd hbL))) HA.out HSL.out (by omega) (by omega)).mono ?_
        rintro e wT ⟨rfl,hbT⟩
        have hbAT:=below_trans ((Below.refl wA.heap.size wA).drew) (below_trans hbL hbT)
        have HRT:=Hd_ (ownsRow_below HRA.out hbAT (Nat.le_refl _))
        have hsT:=hbAT.size
        refine hK.out _ _ (kB10 hbT hS) (fun _ _=>?_)
        try simp only [tA,tB,tC,Act.put,tE,tF,tG]
        clear hK K inv hS;rename_i hS inv
        refine F_o1 18 inv ?_;intro K hK
        try simp only [tA,tB,tC]
        go_simp
        refine hK.out _ _ (kA10 _ hS) (fun _ _=>?_)
        try simp only [tA,tB,tC,Act.put,tE,tF,tG]
        clear hK K inv hS;rename_i hS inv
        refine F_tail (i:=19) (by kernel_rfl) rfl rfl (by omega) (fun K hK=>?_)
        try simp only [tA,tB,tC]
        refine op_append1 cN elInt rfl _ _ (by rfl) w2.heap.size _ SX (aft a SI vx LI) 1 _ (by rfl) (by have h:=HRT.out.alloc (.cells #[.int .i64 (aft a SI vx LI:Int)] 3);rw [hsal] at h ⊢;exact h) (by first | rfl | simp) (heap_alloc_new _ _) rfl (cN_one _) (by omega) (by omega) (by simp;omega) ?_
        intro g2 cp2 w3 hown3 hgr3 hat3 hlt3
        have HW3:=Hd_ hown3
        have HG3:=Hd_ hgr3
        clear hown3 hgr3 hat3
        refine hK.out _ _ ?_
        try simp only [tA,tB,tC,Act.put,tE,tF,tG]
        clear hK K
        try clear inv hS
        refine F_l1 20 ?_;intro K hK
        go_simp
        refine hK _ _ ?_
        clear hK K
        go_wp2_with fail
        go_roundw
        case rel=>exact ⟨i+1,by omega,by go_num,by rw [HSN.out,HSA.out];have h:=HW3.out;rw [hsal] at h;exact h,(((hbel.trans (hbA.mono hsz)).trans (hbAT.mono (by omega))).alloc (by omega) _).trans (own_below (HRT.out.alloc _) (by simp;omega) HG3.out)⟩
        case measure=>simp [intOf];omega
      · obtain rfl:i=k.2.length:=by omega
        have hrow:=HROW.out
        rw [setsL_len] at hrow
        obtain ⟨gS,cS,rfl,hgS,hgS2,-,-⟩:=own_some hrow (by omega)
        have hoS:=Own.of_row (xs:=setsL g a k (k.2.length+1)) (ownsRow_mono (b:=w.heap.size) HROW.out (by omega)) (by rw [setsL_len]) rfl
        rw [<- HFS.out] at hoS
        have hoN:=Own.of_row (xs:=nodesL g k) (ownsRow_mono (b:=w.heap.size) (ownsRow_below HR1.out hbel (Nat.le_refl _)) (by omega)) (nodesL_len g k) rfl
        rw [<- HFN.out] at hoN
        have HOS:=Hd_ hoS
        have HON:=Hd_ hoN
        clear hrow hoS hoN
        go_wp2_with fail
        go_ret3
        exact ⟨_,_,rfl,HOS.out,HON.out,HBW2.out⟩
set_option maxHeartbeats 4000000 in
set_option maxRecDepth 100000 in
theorem implMatchesWalk (vg va vk:Value) (g:Gr) (a:Au) (k:Wk) (w:World) (hgv:GrV 0 w.heap.size w vg g) (hav:AuV 0 w.heap.size w va a) (hkv:WkV 0 w.heap.size w vk k) :
 Calls Tryz.prog 103 #[vg,va,vk] w fun e w'=>e=.returned (.bool (matchB g a k))/\Below w.heap.size w w':=by
 have hgv0:=hgv
 have hav0:=hav
 have hkv0:=hkv
 obtain ⟨A1,c1,A2,c2,rfl,hl1,hm1,hl2,hm2,hC1,-⟩:=hgv.form
 obtain ⟨A3,n3,c3,A4,n4,c4,rfl⟩:=hav.shape
 obtain ⟨A5,n5,c5,rfl⟩:=hkv.shape
 have hb0:Below w.heap.size w (((w.alloc (.cells #[.slice A1 g.vals.length c1,.slice A2 g.edges.length c2] 27)).alloc (.cells #[.int .i64 a.start,.slice A3 n3 c3,.slice A4 n4 c4] 31)).alloc (.cells #[.int .i64 k.1,.slice A5 n5 c5] 39)):=(((Below.refl _ _).alloc (Nat.le_refl _) _).alloc (by simp) _).alloc (by simp;omega) _
 have hal:=along_any _ _ _ g a k _ (hgv0.keep hb0) (hav0.keep hb0) (hkv0.keep hb0)
 obtain ⟨R,hR⟩:∃ R,R=matchB g a k:=⟨_,rfl⟩
 rw [<- hR]
 have HAL:=Hd_ hal
 have HR:=Hd_ hR
 have HGV:=Hd_ hgv0
 have HAV:=Hd_ hav0
 have HC1:=Hd_ hC1
 clear hgv hav hkv hgv0 hav0 hkv0 hC1 hR hal
 cases hok:walkOk g k && auOk a with
 | false =>
   rw [hok] at HAL
   have hfin:R=false:=by rw [HR.out,matchB,hok];rfl
   subst hfin
   clear HR hok
   go_enter Tryz.func103,Tryz.ntmps103
   go_wp2_with fail
   refine HAL.out.mono ?_
   rintro e w1 ⟨v1,v2,rfl,ho1,ho2,hb1⟩
   obtain ⟨A6,n6,c6,rfl⟩:=ho1.shape
   obtain ⟨A7,n7,c7,rfl⟩:=ho2.shape
   go_wp2_with fail
   refine wp_region_ext_lit (by kernel_rfl) (by kernel_rfl) ?_
   repeat (go_big_quiet_step (fail))
   refine wpQuiet_nil ?_
   rintro _ ⟨u2,rfl⟩
   go_wp2_with fail
   go_ret
   exact ⟨rfl,below_trans (below_trans hb0 hb1) (ext_below _ _)⟩
 | true =>
   rw [hok] at HAL
   have hfin:R=acc a (setAt g a k k.2.length) (valAt g (nodeAt g k k.2.length)):=by rw [HR.out,matchB,hok];simp
   have hS:alongS g a k=setsL g a k (k.2.length+1):=by rw [alongS,hok];rfl
   have hN:alongN g a k=nodesL g k:=by rw [alongN,hok];rfl
   rw [hS,hN] at HAL
   simp only [Bool.and_eq_true] at hok
   obtain ⟨hw,ha⟩:=hok
   have hl60:=(walkOk_parts hw).2.2.1
   have hgo:=(walkOk_parts hw).1
   obtain ⟨hna,hnl⟩:=nodeAt_lt hw (Nat.le_refl _)
   have hvi:g.vals[nodeAt g k k.2.length]?=some g.vals[nodeAt g k k.2.length]:=List.getElem?_eq_getElem hnl
   have hvr:=hgo.vals _ (List.getElem_mem hnl)
   generalize g.vals[nodeAt g k k.2.length]=vx at hvi hvr
   obtain ⟨vx,rfl⟩:=Int.eq_ofNat_of_zero_le hvr.1
   have hva:=valAt_of hvi
   rw [Int.toNat_natCast] at hva
   rw [hva] at hfin
   obtain ⟨b1,o1,rfl,hb1w,d1⟩:=HC1.out.int hvi
   have hsla:=setAt_lt ha k k.2.length (g:=g)
   have hs1:=setsL_at (g:=g) (a:=a) (k:=k) (show k.2.length < k.2.length+1 by omega)
   generalize setAt g a k k.2.length=SI at *
   generalize nodeAt g k k.2.length=NI at *
   have hni:(NI:Int) < (g.vals.length:Int):=by omega
   have HF:=Hd_ hfin
   have HW:=Hd_ hw
   have HA:=Hd_ ha
   have HS1:=Hd_ hs1
   have HNA:=Hd_ hna
   have HSL:=Hd_ hsla
   clear HR hfin hS hN hw ha hvi hva hgo hs1 hna hsla
   go_enter Tryz.func103,Tryz.ntmps103
   go_wp2_with fail
   obtain ⟨W0,hW0⟩:∃ W0,W0=(((w.alloc (.cells #[.slice (some ⟨b1,o1,none⟩) g.vals.length c1,.slice A2 g.edges.length c2] 27)).alloc (.cells #[.int .i64 a.start,.slice A3 n3 c3,.slice A4 n4 c4] 31)).alloc (.cells #[.int .i64 k.1,.slice A5 n5 c5] 39)):=⟨_,rfl⟩
   rw [<- hW0] at hb0 HAL ⊢
   have bx:Blk W0 w.heap.size 27 #[.slice (some ⟨b1,o1,none⟩) g.vals.length c1,.slice A2 g.edges.length c2]:=by rw [hW0];exact ((Blk.new w _ _ w.heap.size rfl).alloc _).alloc _
   have by_:Blk W0 (w.heap.size+1) 31 #[.int .i64 a.start,.slice A3 n3 c3,.slice A4 n4 c4]:=by rw [hW0];exact (Blk.new (w.alloc _) _ _ (w.heap.size+1) (by simp)).alloc _
   have x0:W0.cell? ⟨w.heap.size,0,none⟩=some (.slice (some ⟨b1,o1,none⟩) g.vals.length c1):=by exact bx.cell 0
   have x1:W0.cell? ⟨w.heap.size,1,none⟩=some (.slice A2 g.edges.length c2):=by exact bx.cell 1
   have y0:W0.cell? ⟨w.heap.size+1,0,none⟩=some (.int .i64 a.start):=by exact by_.cell 0
   have y1:W0.cell? ⟨w.heap.size+1,1,none⟩=some (.slice A3 n3 c3):=by exact by_.cell 1
   have y2:W0.cell? ⟨w.heap.size+1,2,none⟩=some (.slice A4 n4 c4):=by exact by_.cell 2
   have l0:=by_.lt
   have l00:=bx.lt
   have d1:=kcell hb0 d1
   have l1:b1 < W0.heap.size:=Nat.lt_of_lt_of_le hb1w hb0.size
   clear hW0 bx by_
   refine HAL.out.mono ?_
   rintro e w1 ⟨v1,v2,rfl,ho1,ho2,hb1⟩
   have x0:=kcell hb1 x0
   have x1:=kcell hb1 x1
   have y0:=kcell hb1 y0
   have y1:=kcell hb1 y1
   have y2:=kcell hb1 y2
   have d1:=kcell hb1 d1
   have hs1:=hb1.size
   have l0:=Nat.lt_of_lt_of_le l0 hs1
   have l00:=Nat.lt_of_lt_of_le l00 hs1
   have l1:=Nat.lt_of_lt_of_le l1 hs1
   have r1:=ho1.1
   have r2:=ho2.1
   rw [setsL_len] at r1
   rw [nodesL_len] at r2
   obtain ⟨gS,cS,rfl,-,hgS,-,-⟩:=own_some r1 (by omega)
   obtain ⟨gN,cN',rfl,-,hgN,-,-⟩:=own_some r2 (by omega)
   have s0:=(World.ownsRow.cellAt r1 k.2.length (by omega)).trans (flatN_at HS1.out)
   have q0:=(World.ownsRow.cellAt r2 k.2.length (by omega)).trans (flatI_at HNA.out)
   have hbw:=below_trans hb0 hb1
   have HBW:=Hd_ hbw
   have m1:((k.2.length:Int)+1) - 1=(k.2.length:Int):=by omega
   clear r1 r2 ho1 ho2 hb0 hb1 hbw
   go_wp2_with fail
   refine wp_region_ext_lit (by kernel_rfl) (by kernel_rfl) ?_
   repeat (go_big_quiet_step ((go_at_call 99;exact Calls.ext_of (acceptsAt_any _ a SI vx _ (HAV.out.keep (below_trans HBW.out (ext_below _ _))) HA.out HSL.out (by omega)))))
   refine wpQuiet_nil ?_
   rintro _ ⟨u2,rfl⟩
   go_wp2_with fail
   go_ret
   exact ⟨by rw [HF.out];rfl,below_trans HBW.out (ext_below _ _)⟩
set_option maxHeartbeats 4000000 in
theorem implIsWitness (vg va vk:Value) (g:Gr) (a:Au) (x y:Int) (k:Wk) (w:World) (hgv:GrV 0 w.heap.size w vg g) (hav:AuV 0 w.heap.size w va a) (hkv:WkV 0 w.heap.size w vk k) :
 Calls Tryz.prog 56 #[vg,va,.int .i64 x,.int .i64 y,vk] w fun e w'=>e=.returned (.bool (isWit g a x y k))/\Below w.heap.size w w':=by
 have hgv0:=hgv
 have hav0:=hav
 have hkv0:=hkv
 obtain ⟨A1,n1,c1,A2,n2,c2,rfl⟩:=hgv.shape
 obtain ⟨A3,n3,c3,A4,n4,c4,rfl⟩:=hav.shape
 obtain ⟨A5,n5,c5,rfl⟩:=hkv.shape
 have hb0:Below w.heap.size w (((w.alloc (.cells #[.slice A1 n1 c1,.slice A2 n2 c2] 27)).alloc (.cells #[.int .i64 a.start,.slice A3 n3 c3,.slice A4 n4 c4] 31)).alloc (.cells #[.int .i64 k.1,.slice A5 n5 c5] 39)):=(((Below.refl _ _).alloc (Nat.le_refl _) _).alloc (by simp) _).alloc (by simp;omega) _
 obtain ⟨R,hR⟩:∃ R,R=isWit g a x y k:=⟨_,rfl⟩
 rw [<- hR]
 have HR:=Hd_ (hR.trans (show isWit g a x y k=((k.1==x && walkEnd g k==y) && matchB g a k) from rfl))
 have HGV:=Hd_ hgv0
 have HAV:=Hd_ hav0
 have HKV:=Hd_ hkv0
 clear hgv hav hkv hgv0 hav0 hkv0 hR
 have HMW:=Hd_ (fun (W:World) (hW:Below w.heap.size w W)=>implMatchesWalk _ _ _ g a k W (HGV.out.keep hW) (HAV.out.keep hW) (HKV.out.keep hW))
 have HWE:=Hd_ (fun (W:World) (hW:Below w.heap.size w W)=>implWalkEnd _ _ g k W (HGV.out.keep hW) (HKV.out.keep hW))
 go_enter Tryz.func56,Tryz.ntmps56
 generalize matchB g a k=mb at HR HMW
 generalize walkEnd g k=we at HR HWE
 cases h1:(k.1==x) with
 | false =>
   have hfin:R=false:=by rw [HR.out,h1];rfl
   subst hfin
   clear HR
   go_wp2_with fail
   go_ret
   exact ⟨rfl,hb0⟩
 | true =>
   rw [h1,Bool.true_and] at HR
   go_wp2_with fail
   obtain ⟨W0,hW0⟩:∃ W0,W0=(((w.alloc (.cells #[.slice A1 n1 c1,.slice A2 n2 c2] 27)).alloc (.cells #[.int .i64 a.start,.slice A3 n3 c3,.slice A4 n4 c4] 31)).alloc (.cells #[.int .i64 k.1,.slice A5 n5 c5] 39)):=⟨_,rfl⟩
   rw [<- hW0] at hb0 ⊢
   have bx:Blk W0 w.heap.size 27 #[.slice A1 n1 c1,.slice A2 n2 c2]:=by rw [hW0];exact ((Blk.new w _ _ w.heap.size rfl).alloc _).alloc _
   have by_:Blk W0 (w.heap.size+1) 31 #[.int .i64 a.start,.slice A3 n3 c3,.slice A4 n4 c4]:=by rw [hW0];exact (Blk.new (w.alloc _) _ _ (w.heap.size+1) (by simp)).alloc _
   have bz:Blk W0 (w.heap.size+1+1) 39 #[.int .i64 k.1,.slice A5 n5 c5]:=by rw [hW0];exact Blk.new ((w.alloc _).alloc _) _ _ (w.heap.size+1+1) (by simp)
   have x0:W0.cell? ⟨w.heap.size,0,none⟩=some (.slice A1 n1 c1):=by exact bx.cell 0
   have x1:W0.cell? ⟨w.heap.size,1,none⟩=some (.slice A2 n2 c2):=by exact bx.cell 1
   have y0:W0.cell? ⟨w.heap.size+1,0,none⟩=some (.int .i64 a.start):=by exact by_.cell 0
   have y1:W0.cell? ⟨w.heap.size+1,1,none⟩=some (.slice A3 n3 c3):=by exact by_.cell 1
   have y2:W0.cell? ⟨w.heap.size+1,2,none⟩=some (.slice A4 n4 c4):=by exact by_.cell 2
   have z0:W0.cell? ⟨w.heap.size+1+1,0,none⟩=some (.int .i64 k.1):=by exact bz.cell 0
   have z1:W0.cell? ⟨w.heap.size+1+1,1,none⟩=some (.slice A5 n5 c5):=by exact bz.cell 1
   clear hW0 bx by_ bz
   refine (HWE.out W0 hb0).mono ?_
   rintro e w1 ⟨rfl,hb1⟩
   have hb2:=below_trans hb0 hb1
   have x0:=kcell hb1 x0
   have x1:=kcell hb1 x1
   have y0:=kcell hb1 y0
   have y1:=kcell hb1 y1
   have y2:=kcell hb1 y2
   have z0:=kcell hb1 z0
   have z1:=kcell hb1 z1
   cases h2:(we==y) with
   | false =>
     have hfin:R=false:=by rw [HR.out,h2];rfl
     subst hfin
     clear HR
     go_wp2_with fail
     go_ret
     exact ⟨rfl,hb2⟩
   | true =>
     rw [h2,Bool.true_and] at HR
     go_wp2_with fail
     refine (HMW.out w1 hb2).mono ?_
     rintro e w3 ⟨rfl,hb3⟩
     go_wp2_with fail
     go_ret
     exact ⟨by rw [HR.out];rfl,below_trans hb2 hb3⟩
theorem implIsWalk (v1 v2:Value) (g:Gr) (k:Wk) (w:World) (hv1:GrV 0 w.heap.size w v1 g) (hv2:WkV 0 w.heap.size w v2 k) :
 Calls Tryz.prog 77 #[v1,v2] w fun en w'=>en=.returned (.bool (walkOk g k))/\Below w.heap.size w w':=by
 have hv0:=hv1
 have hv3:=hv2
 obtain ⟨A1,n1,c1,A2,n2,c2,rfl⟩:=hv1.shape
 obtain ⟨A3,n3,c3,rfl⟩:=hv2.shape
 clear hv1 hv2
 have hb0:Below w.heap.size w ((w.alloc (.cells #[.slice A1 n1 c1,.slice A2 n2 c2] 27)).alloc (.cells #[.int .i64 k.1,.slice A3 n3 c3] 39)):=((Below.refl _ _).alloc (Nat.le_refl _) _).alloc (by simp) _
 have hc:=implNodes _ _ g k _ (hv0.keep hb0) (hv3.keep hb0)
 have HC:=Hd_ hc
 clear hc
 generalize walkOk g k=bb at HC
 go_enter Tryz.func77,Tryz.ntmps77
 go_wp2_with fail
 refine HC.out.mono ?_
 rintro e w1 ⟨v,rfl,-,hb1⟩
 go_wp2_with fail
 go_ret
 exact ⟨rfl,below_trans hb0 hb1⟩
/-- step i repeats the edge of an earlier one -/
def dupAt (l:List St) (i:Nat):Bool:=(l.take i).any fun t=>t.1==(l.getD i (0,false)).1
def trailOk (l:List St):Bool:=(List.range l.length).all fun i=>!dupAt l i
def isTrail (g:Gr) (k:Wk):Bool:=trailOk k.2 && walkOk g k
theorem dupAt_of {l:List St} {i:Nat} {s:St} (h:l[i]?=some s):dupAt l i=true ↔ ∃ t ∈ l.take i,t.1=s.1:=by
 simp [dupAt,List.getD,h,List.any_eq_true]
theorem trailOk_no {l:List St} {i:Nat} (hi:i < l.length) (h:dupAt l i=true):trailOk l=false:=range_all_false hi (by simp [h])
theorem trailOk_yes {l:List St} (h:∀ i,i < l.length->dupAt l i=false):trailOk l=true:=List.all_eq_true.2 fun i hi=>by rw [h i (List.mem_range.1 hi)];rfl
theorem SlE.take {α:Type} {w:World} {E:α->List Value} {k:Nat} {A:Option Addr} {c:Nat} {xs:List α} (h:SlE w E k (.slice A xs.length c) xs) {i:Nat} (hi:i<=xs.length):SlE w E k (.slice A i c) (xs.take i):=by
 obtain ⟨A',c',hv,hl,hm,hx⟩:=h
 injection hv with h1 _ h3
 subst h1 h3
 have hlt:(xs.take i).length=i:=by rw [List.length_take];omega
 refine ⟨A,c,by rw [hlt],by omega,hm,fun j x hj=>hx j x ?_⟩
 rw [List.getElem?_take] at hj
 split at hj
 · exact hj
 · cases hj
/-- slices.IndexFunc over steps, at IsTrail's closure -/
theorem indexFuncStep (k0:Value) (v:Value) (xs:List St) (p:St->Prop) (w:World) (hv:SlE w cSt 2 v xs)
 (hF:∀ x ∈ xs,∀ W:World,Below w.heap.size w W->Calls Tryz.prog 76 #[.agg #[.int .i64 x.1,.bool x.2],k0] W fun e W'=>∃ b,e=.returned (.bool b)/\(b=true ↔ p x)/\Below W.heap.size W W') :
 Calls Tryz.prog 126 #[v,.func (Fn.func 76) #[] #[k0]] w fun e w'=>∃ r:Int,e=.returned (.int .i64 r)/\Below w.heap.size w w' /\
  ((r=-1/\∀ x ∈ xs,¬ p x) ∨ ∃ (i:Nat) (x:St),r=i/\xs[i]?=some x/\p x/\∀ y ∈ xs.take i,¬ p y):=by
 obtain ⟨A,c,rfl,hl,hm,hx⟩:=hv
 unfold maxLen at hm
 have HF:=Hd_ hF
 have HX:=Hd_ hx
 clear hF hx
 go_enter Tryz.func126,Tryz.ntmps126
 go_wp2_with fail
 go_loopw [8] (fun ii wr=>∃ (i:Nat) (u:World),i<=xs.length/\ii=.int .i64 i/\(∀ y ∈ xs.take i,¬ p y)/\wr=ext w u) (fun ii _=>xs.length - (intOf ii).toNat)
 case atStart=>exact ⟨0,w,Nat.zero_le _,rfl,by simp,ext_self w⟩
 case round =>
  obtain ⟨i,u,hi,rfl,hno,rfl⟩:=hrel
  have HN:=Hd_ hno
  clear hno
  by_cases hlt:i < xs.length
  · have hxi:xs[i]?=some xs[i]:=List.getElem?_eq_getElem hlt
    generalize xs[i]=x at hxi
    obtain ⟨b,o,rfl,-,hb,hc⟩:=HX.out i x hxi
    have c0:=hc 0 _ rfl
    have c1':=hc 1 _ rfl
    simp only [Nat.add_zero] at c0
    have HXI:=Hd_ hxi
    clear hc hxi
    go_wp2_with fail
    refine (HF.out x (List.mem_of_getElem? HXI.out) _ (ext_below w u)).mono ?_
    rintro e w1 ⟨bb,rfl,hbb,hb1⟩
    have HBB:=Hd_ hbb
    clear hbb
    cases bb with
    | true =>
      go_wp2_with fail
      go_ret
      exact ⟨_,rfl,below_trans (ext_below w u) hb1,.inr ⟨i,x,rfl,HXI.out,HBB.out.1 (by first | rfl | trivial),HN.out⟩⟩
    | false =>
      go_wp2_with fail
      go_roundw
      case rel =>
       obtain ⟨z,hz⟩:=ext_of (below_trans (ext_below w u) hb1)
       refine ⟨i+1,z,by omega,by go_num,fun y hy=>?_,hz⟩
       rw [take_snoc HXI.out] at hy
       rcases List.mem_append.1 hy with hy | hy
       · exact HN.out y hy
       · have:y=x:=by simpa using hy
         subst this
         exact fun h=>by have:=HBB.out.2 h;cases this
      case measure=>simp [intOf];omega
  · obtain rfl:i=xs.length:=by omega
    go_wp2_with fail
    go_ret
    exact ⟨_,rfl,ext_below w u,.inl ⟨rfl,fun x hx=>HN.out x (by rw [List.take_length];exact hx)⟩⟩
theorem containsFuncStep (k0:Value) (v:Value) (xs:List St) (p:St->Prop) (w:World) (hv:SlE w cSt 2 v xs)
 (hF:∀ x ∈ xs,∀ W:World,Below w.heap.size w W->Calls Tryz.prog 76 #[.agg #[.int .i64 x.1,.bool x.2],k0] W fun e W'=>∃ b,e=.returned (.bool b)/\(b=true ↔ p x)/\Below W.heap.size W W') :
 Calls Tryz.prog 75 #[v,.func (Fn.func 76) #[] #[k0]] w fun e w'=>∃ b,e=.returned (.bool b)/\Below w.heap.size w w'/\(b=true ↔ ∃ x ∈ xs,p x):=by
 have h:=indexFuncStep k0 v xs p w hv hF
 have H:=Hd_ h
 clear h hF hv
 go_enter Tryz.func75,Tryz.ntmps75
 go_wp2_with fail
 refine H.out.mono ?_
 rintro e w1 ⟨r,rfl,hb,hr⟩
 have HR:=Hd_ hr
 clear hr
 go_wp2_with fail
 go_ret
 refine ⟨_,rfl,hb,?_⟩
 rcases HR.out with ⟨rfl,h⟩ | ⟨i,x,rfl,hx,hp,_⟩
 · simp only [decide_eq_true_eq]
   exact ⟨fun h0=>by omega,fun ⟨x,hx,hp⟩=>absurd hp (h x hx)⟩
 · simp only [decide_eq_true_eq]
   exact ⟨fun _=>⟨x,List.mem_of_getElem? hx,hp⟩,fun _=>by omega⟩
theorem isTrailClosure (x:St) (b0:Nat) (sid:Int) (W:World) (y0:W.cell? ⟨b0,0,none⟩=some (.int .i64 sid)) (hlt:b0 < W.heap.size) :
 Calls Tryz.prog 76 #[.agg #[.int .i64 x.1,.bool x.2],.pointer (some ⟨b0,0,none⟩)] W fun e W'=>e=.returned (.bool (x.1==sid))/\Below W.heap.size W W':=by
 obtain ⟨tid,tinv⟩:=x
 go_enter Tryz.func76,Tryz.ntmps76
 go_wp2_with fail
 go_ret
 exact ⟨rfl,(Below.refl _ _).alloc (Nat.le_refl _) _⟩
set_option maxHeartbeats 4000000 in
theorem implIsTrail (v1 v2:Value) (g:Gr) (k:Wk) (w:World) (hv1:GrV 0 w.heap.size w v1 g) (hv2:WkV 0 w.heap.size w v2 k) :
 Calls Tryz.prog 24 #[v1,v2] w fun en w'=>en=.returned (.bool (isTrail g k))/\Below w.heap.size w w':=by
 have hv0:=hv1
 have hv3:=hv2
 obtain ⟨A1,n1,c1,A2,n2,c2,rfl⟩:=hv1.shape
 obtain ⟨ss,rfl,hss⟩:=hv2
 have hss0:=hss
 obtain ⟨A3,c3,rfl,hl3,hm3,hC3⟩:=SlE.form hss
 have hb0:Below w.heap.size w ((w.alloc (.cells #[.slice A1 n1 c1,.slice A2 n2 c2] 27)).alloc (.cells #[.int .i64 k.1,.slice A3 k.2.length c3] 39)):=((Below.refl _ _).alloc (Nat.le_refl _) _).alloc (by simp) _
 obtain ⟨R,hR⟩:∃ R,R=isTrail g k:=⟨_,rfl⟩
 rw [<- hR]
 have HR:=Hd_ hR
 have HGV:=Hd_ hv0
 have HKV:=Hd_ hv3
 have HSS:=Hd_ hss0
 have HC3:=Hd_ hC3
 clear hv1 hss hv0 hv3 hss0 hC3 hR
 go_enter Tryz.func24,Tryz.ntmps24
 go_wp2_with fail
 obtain ⟨W0,hW0⟩:∃ W0,W0=((w.alloc (.cells #[.slice A1 n1 c1,.slice A2 n2 c2] 27)).alloc (.cells #[.int .i64 k.1,.slice A3 k.2.length c3] 39)):=⟨_,rfl⟩
 rw [<- hW0] at hb0 ⊢
 have bx:Blk W0 w.heap.size 27 #[.slice A1 n1 c1,.slice A2 n2 c2]:=by rw [hW0];exact (Blk.new w _ _ w.heap.size rfl).alloc _
 have bz:Blk W0 (w.heap.size+1) 39 #[.int .i64 k.1,.slice A3 k.2.length c3]:=by rw [hW0];exact Blk.new (w.alloc _) _ _ (w.heap.size+1) (by simp)
 have x0:W0.cell? ⟨w.heap.size,0,none⟩=some (.slice A1 n1 c1):=by exact bx.cell 0
 have x1:W0.cell? ⟨w.heap.size,1,none⟩=some (.slice A2 n2 c2):=by exact bx.cell 1
 have z0:W0.cell? ⟨w.heap.size+1,0,none⟩=some (.int .i64 k.1):=by exact bz.cell 0
 have z1:W0.cell? ⟨w.heap.size+1,1,none⟩=some (.slice A3 k.2.length c3):=by exact bz.cell 1
 have l1:=bz.lt
 have l0:=bx.lt
 clear hW0 bx bz
 go_loopw [10] (fun ii wr=>∃ (i:Nat) (u:World),i<=k.2.length/\ii=.int .i64 (i:Int)/\(∀ j,j < i->dupAt k.2 j=false)/\wr=ext W0 u) (fun ii _=>k.2.length - (intOf ii).toNat)
 case atStart=>exact ⟨0,W0,Nat.zero_le _,rfl,by intro j hj;omega,ext_self _⟩
 case round =>
  obtain ⟨i,u,hi,rfl,hno,rfl⟩:=hrel
  have HNO:=Hd_ hno
  clear hno
  have hbE:=below_trans hb0 (ext_below W0 u)
  by_cases hlt:i < k.2.length
  · have hki:k.2[i]?=some k.2[i]:=List.getElem?_eq_getElem hlt
    generalize k.2[i]=s at hki
    obtain ⟨sid,sinv⟩:=s
    obtain ⟨b5,o5,rfl,hb5,p0,p1⟩:=HC3.out.st hki
    have p0:=kcell hbE p0
    have p1:=kcell hbE p1
    have HD:=Hd_ (dupAt_of hki)
    have hii:(i:Int) < (k.2.length:Int):=by omega
    have hi0:(0:Int)<=(i:Int):=by omega
    have hic:(i:Int)<=(c3:Int):=by omega
    clear hki
    have hba:Below (ext W0 u).heap.size (ext W0 u) ((ext W0 u).alloc (.cells #[.int .i64 sid,.bool sinv] 81)):=(Below.refl _ _).alloc (Nat.le_refl _) _
    have hbs:=Blk.new (ext W0 u) 81 #[.int .i64 sid,.bool sinv] (ext W0 u).heap.size rfl
    have hct:=containsFuncStep (.pointer (some ⟨(ext W0 u).heap.size,0,none⟩)) _ _ (fun t=>t.1=sid) ((ext W0 u).alloc (.cells #[.int .i64 sid,.bool sinv] 81)) ((SlE.keep HSS.out (below_trans hbE hba)).take hi) (fun t ht W hW =>
     (isTrailClosure t _ sid W ((hbs.keep hW).cell 0) (hbs.keep hW).lt).mono fun e W' ⟨he,hb⟩=>⟨_,he,by simp,hb⟩)
    have HCT:=Hd_ hct
    clear hct hbs
    go_wp2_with fail
    refine HCT.out.mono ?_
    rintro e w1 ⟨bb,rfl,hb1,hbb⟩
    have hbf:=below_trans (ext_below W0 u) (below_trans hba hb1)
    have HBB:=Hd_ (hbb.trans HD.out.symm)
    clear hbb
    cases bb with
    | true =>
      have hfin:R=false:=by rw [HR.out,isTrail,trailOk_no hlt (HBB.out.1 rfl)];rfl
      subst hfin
      clear HR
      go_wp2_with fail
      go_ret
      exact ⟨rfl,below_trans hb0 hbf⟩
    | false =>
      have hnd:dupAt k.2 i=false:=by
       cases h:dupAt k.2 i with
       | false=>rfl
       | true=>have:=HBB.out.2 h;cases this
      have HND:=Hd_ hnd
      obtain ⟨z,hz⟩:=ext_of hbf
      subst hz
      clear hnd
      go_wp2_with fail
      go_roundw
      case rel=>exact ⟨i+1,z,by omega,by go_num,fun j hj=>by rcases Nat.lt_or_ge j i with h | h;(exact HNO.out j h);(obtain rfl:j=i:=(by omega);exact HND.out),rfl⟩
      case measure=>simp [intOf];omega
  · obtain rfl:i=k.2.length:=by omega
    have hiw:=implIsWalk _ _ g k (ext W0 u) (HGV.out.keep hbE) (HKV.out.keep hbE)
    have hfin:R=walkOk g k:=by rw [HR.out,isTrail,trailOk_yes HNO.out];rfl
    rw [<- hfin] at hiw
    have HIW:=Hd_ hiw
    clear hiw hfin
    go_wp2_with fail
    refine HIW.out.mono ?_
    rintro e w1 ⟨rfl,hb1⟩
    go_wp2_with fail
    go_ret
    exact ⟨rfl,below_trans hbE hb1⟩
def isSimple (g:Gr) (k:Wk):Bool:=walkOk g k && decide ((ascL (nodesL g k)).length=(nodesL g k).length)
theorem nodup_sub:∀ (s l:List Int),s.Nodup->(∀ x ∈ s,x ∈ l)->s.length<=l.length
 | [],_,_,_=>Nat.zero_le _
 | x :: s,l,hn,h=>by
   obtain ⟨h1,h2⟩:=List.nodup_cons.1 hn
   have hx:=h x (by simp)
   have:=nodup_sub s (l.erase x) h2 (fun y hy=>by
    have hne:y ≠ x:=fun e=>h1 (e ▸ hy)
    exact (List.mem_erase_of_ne hne).2 (h y (List.mem_cons_of_mem _ hy)))
   rw [List.length_erase_of_mem hx] at this
   have hp:=List.length_pos_of_mem hx
   rw [List.length_cons]
   omega
theorem ascL_nodup (l:List Int):(ascL l).Nodup:=(ascL_spec l).1.imp fun h=>by omega
theorem ascL_len_yes {l:List Int} (h:l.Nodup):(ascL l).length=l.length :=
 Nat.le_antisymm (nodup_sub _ _ (ascL_nodup l) fun x hx=>((ascL_spec l).2 x).1 hx) (nodup_sub _ _ h fun x hx=>((ascL_spec l).2 x).2 hx)
theorem ascL_len_no {l:List Int} {i:Nat} {x:Int} (hi:l[i]?=some x) (h:x ∈ l.take i):¬ (ascL l).length=l.length:=by
 have hil:=(List.getElem?_eq_some_iff.1 hi).1
 have:=nodup_sub _ (l.take i ++ l.drop (i+1)) (ascL_nodup l) fun y hy=>by
  have hm:=((ascL_spec l).2 y).1 hy
  rw [<- List.take_append_drop i l,List.drop_eq_getElem_cons hil] at hm
  rcases List.mem_append.1 hm with h1 | h1
  · exact List.mem_append_left _ h1
  · rcases List.mem_cons.1 h1 with h1 | h1
    · have:y=x:=by rw [List.getElem?_eq_getElem hil] at hi;injection hi with hi;rw [h1,hi]
      subst this
      exact List.mem_append_left _ h
    · exact List.mem_append_right _ h1
 rw [List.length_append,List.length_take,List.length_drop] at this
 omega
def seenM (l:List Int) (i:Nat):Nat:=(l.take i).foldl (fun m x=>ins m x.toNat) 0
theorem seenM_succ {l:List Int} {i:Nat} {x:Int} (h:l[i]?=some x):seenM l (i+1)=ins (seenM l i) x.toNat:=foldl_take h 0
theorem foldl_ins_test (l:List Int) (m t:Nat):(l.foldl (fun m x=>ins m x.toNat) m).testBit t=(m.testBit t || l.any (fun x=>decide (x.toNat=t))):=by
 induction l generalizing m with
 | nil=>simp
 | cons x l ih=>rw [List.foldl_cons,ih,ins_test,List.any_cons,Bool.or_assoc]
theorem seenM_test (l:List Int) (i t:Nat):(seenM l i).testBit t=true ↔ ∃ x ∈ l.take i,x.toNat=t:=by
 rw [seenM,foldl_ins_test]
 simp
theorem seenM_lt {l:List Int} {n:Nat} (h:∀ x ∈ l,x.toNat < n) (i:Nat):seenM l i < 2 ^ n:=by
 unfold seenM
 have:∀ (r:List Int) (m:Nat),(∀ x ∈ r,x.toNat < n)->m < 2 ^ n->r.foldl (fun m x=>ins m x.toNat) m < 2 ^ n:=by
  intro r
  induction r with
  | nil=>intro m _ hm;exact hm
  | cons x r ih=>intro m hr hm;exact ih _ (fun y hy=>hr y (List.mem_cons_of_mem _ hy)) (ins_lt hm (hr x (by simp)))
 exact this _ _ (fun x hx=>h x (List.mem_of_mem_take hx)) (Nat.two_pow_pos _)
set_option maxHeartbeats 2000000 in
theorem implIsSimple (v1 v2:Value) (g:Gr) (k:Wk) (w:World) (hv1:GrV 0 w.heap.size w v1 g) (hv2:WkV 0 w.heap.size w v2 k) :
 Calls Tryz.prog 82 #[v1,v2] w fun en w'=>en=.returned (.bool (isSimple g k))/\Below w.heap.size w w':=by
 have hv0:=hv1
 have hv3:=hv2
 obtain ⟨A1,n1,c1,A2,n2,c2,rfl⟩:=hv1.shape
 obtain ⟨A3,n3,c3,rfl⟩:=hv2.shape
 clear hv1 hv2
 have hb0:Below w.heap.size w ((w.alloc (.cells #[.slice A1 n1 c1,.slice A2 n2 c2] 27)).alloc (.cells #[.int .i64 k.1,.slice A3 n3 c3] 39)):=((Below.refl _ _).alloc (Nat.le_refl _) _).alloc (by simp) _
 have hc:=implNodes _ _ g k _ (hv0.keep hb0) (hv3.keep hb0)
 have HC:=Hd_ hc
 clear hc
 obtain ⟨R,hR⟩:∃ R,R=isSimple g k:=⟨_,rfl⟩
 rw [<- hR]
 cases hw:walkOk g k with
 | false =>
   rw [hw] at HC
   have hfin:R=false:=by rw [hR,isSimple,hw];rfl
   subst hfin
   clear hR hw
   go_enter Tryz.func82,Tryz.ntmps82
   go_wp2_with fail
   refine HC.out.mono ?_
   rintro e w1 ⟨v,rfl,ho,hb1⟩
   obtain ⟨A6,c6,rfl,-,-,-⟩:=ho.form cI_len
   go_wp2_with fail
   go_ret
   exact ⟨rfl,below_trans hb0 hb1⟩
 | true =>
   rw [hw] at HC
   have hfin:R=decide ((ascL (nodesL g k)).length=(nodesL g k).length):=by rw [hR,isSimple,hw];rfl
   have HF:=Hd_ hfin
   have HW:=Hd_ hw
   have hl60:=(walkOk_parts hw).2.2.1
   clear hR hw hfin
   go_enter Tryz.func82,Tryz.ntmps82
   go_wp2_with fail
   refine HC.out.mono ?_
   rintro e w1 ⟨v,rfl,ho,hb1⟩
   rw [nodesOut_yes HW.out] at ho
   have hsl:=(ho.sl cI_len).all (Nat.le_refl _)
   have hlen:(nodesL g k).length<=61:=by rw [nodesL_len];omega
   obtain ⟨A6,c6,rfl,-,-,-⟩:=ho.form cI_len
   have has:=ascending_any _ _ _ hsl (by omega)
   have HAS:=Hd_ has
   clear has hsl ho HC
   generalize nodesL g k=L at *
   go_wp2_with fail
   refine HAS.out.mono ?_
   rintro e w2 ⟨v2,rfl,ho2,hb2⟩
   obtain ⟨A7,c7,rfl,-,-,-⟩:=ho2.form cI_len
   clear HAS ho2
   generalize ascL L=M at *
   have hml:((M.length:Int)==(L.length:Int))=decide (M.length=L.length):=by rw [Bool.eq_iff_iff];simp;omega
   have HML:=Hd_ hml
   clear hml
   go_wp2_with fail
   go_ret
   exact ⟨by rw [HF.out,<- HML.out];rfl,below_trans hb0 (below_trans hb1 hb2)⟩
set_option maxHeartbeats 2000000 in
theorem specIsSimple (v1 v2:Value) (g:Gr) (k:Wk) (w:World) (hv1:GrV 0 w.heap.size w v1 g) (hv2:WkV 0 w.heap.size w v2 k) :
 Calls Tryz.prog 31 #[v1,v2] w fun en w'=>en=.returned (.bool (isSimple g k))/\Below w.heap.size w w':=by
 have hv0:=hv1
 have hv3:=hv2
 obtain ⟨A1,n1,c1,A2,n2,c2,rfl⟩:=hv1.shape
 obtain ⟨A3,n3,c3,rfl⟩:=hv2.shape
 clear hv1 hv2
 have hb0:Below w.heap.size w ((w.alloc (.cells #[.slice A1 n1 c1,.slice A2 n2 c2] 27)).alloc (.cells #[.int .i64 k.1,.slice A3 n3 c3] 39)):=((Below.refl _ _).alloc (Nat.le_refl _) _).alloc (by simp) _
 have hc:=specNodes _ _ g k _ (hv0.keep hb0) (hv3.keep hb0)
 have HC:=Hd_ hc
 clear hc
 obtain ⟨R,hR⟩:∃ R,R=isSimple g k:=⟨_,rfl⟩
 rw [<- hR]
 have HR:=Hd_ hR
 have hrange:∀ x ∈ nodesOut g k,0<=x/\x.toNat < 5:=fun x hx=>by
  cases hw:walkOk g k with
  | false=>rw [nodesOut_no hw] at hx;cases hx
  | true =>
    rw [nodesOut_yes hw] at hx
    obtain ⟨i,hi,rfl⟩:=List.mem_iff_getElem.1 hx
    rw [nodesL_len] at hi
    obtain ⟨h1,h2⟩:=nodeAt_lt hw (show i<=k.2.length by omega)
    rw [List.getElem?_eq_getElem (by rw [nodesL_len];exact hi)] at h1
    injection h1 with h1
    have:=(walkOk_parts hw).1.n5
    rw [h1]
    omega
 have hno:walkOk g k=false->nodesOut g k=[]:=nodesOut_no
 have hyes:walkOk g k=true->R=decide ((ascL (nodesOut g k)).length=(nodesOut g k).length):=fun hw=>by rw [hR,isSimple,hw,nodesOut_yes hw];rfl
 have hlen:(nodesOut g k).length<=61:=by
  cases hw:walkOk g k with
  | false=>rw [nodesOut_no hw];simp
  | true=>rw [nodesOut_yes hw,nodesL_len];have:=(walkOk_parts hw).2.2.1;omega
 have hRno:walkOk g k=false->R=false:=fun hw=>by rw [hR,isSimple,hw];rfl
 have HNO:=Hd_ hno
 have HYES:=Hd_ hyes
 have HRNO:=Hd_ hRno
 have HRG:=Hd_ hrange
 have hml:=seenM_lt (n:=5) (fun x hx=>(hrange x hx).2)
 have HMLT:=Hd_ hml
 clear hR hno hyes hRno hrange hml
 generalize nodesOut g k=L at *
 generalize walkOk g k=ok at *
 go_enter Tryz.func31,Tryz.ntmps31
 go_wp2_with fail
 refine HC.out.mono ?_
 rintro e w1 ⟨v,rfl,ho,hb1⟩
 obtain ⟨A6,c6,rfl,hl6,hm6,hC6⟩:=ho.form cI_len
 have hbw:=below_trans hb0 hb1
 have HC6:=Hd_ hC6
 clear hC6 ho
 go_wp2_with fail
 go_loop [7,8] (fun mm ii=>∃ i:Nat,i<=L.length/\ii=.int .i64 (i:Int)/\mm=.int .i64 (seenM L i:Nat)/\(L.take i).Nodup) (fun _ ii=>L.length - (intOf ii).toNat)
 case atStart=>exact ⟨0,Nat.zero_le _,rfl,rfl,by simp⟩
 case round =>
  obtain ⟨i,hi,rfl,rfl,hnd⟩:=hrel
  have HND:=Hd_ hnd
  clear hnd
  by_cases hlt:i < L.length
  · have hxi:L[i]?=some L[i]:=List.getElem?_eq_getElem hlt
    have hxr:=HRG.out _ (List.getElem_mem hlt)
    generalize L[i]=x at hxi hxr
    obtain ⟨x,rfl⟩:=Int.eq_ofNat_of_zero_le hxr.1
    obtain ⟨b6,o6,rfl,hb6,d6⟩:=HC6.out.int hxi
    have hmlt:=HMLT.out i
    have HT:=Hd_ (seenM_test L i x)
    have HS:=Hd_ (seenM_succ hxi)
    have HX:=Hd_ hxi
    have HTS:=Hd_ (take_snoc hxi)
    have hx5:x < 5:=by omega
    clear hxi
    rw [Int.toNat_natCast] at HS
    generalize seenM L i=m at *
    have hii:(i:Int) < (L.length:Int):=by omega
    cases hb:m.testBit x with
    | true =>
      have b1t:=bit_on (by omega) (by omega) hb
      have hfin:R=false:=by
       cases ok with
       | false=>exact HRNO.out rfl
       | true =>
         rw [HYES.out rfl]
         obtain ⟨y,hy,hyx⟩:=HT.out.1 hb
         have hyr:=HRG.out y (List.mem_of_mem_take hy)
         have:y=(x:Int):=by omega
         subst this
         exact decide_eq_false (ascL_len_no HX.out hy)
      subst hfin
      clear HRNO HYES hb HR
      go_wp2_with fail
      go_ret
      exact ⟨rfl,hbw⟩
    | false =>
      have b1f:=bit_off (by omega) (by omega) hb
      have hnd2:(L.take (i+1)).Nodup:=by
       rw [HTS.out]
       refine List.nodup_append.2 ⟨HND.out,by simp,fun y hy z hz e=>?_⟩
       rw [List.mem_singleton] at hz
       subst hz
       subst e
       have:=HT.out.2 ⟨_,hy,rfl⟩
       rw [hb] at this
       cases this
      have HN2:=Hd_ hnd2
      have e1':=shl_bit (s:=x) (by omega)
      have e2':=or_ins (m:=m) (s:=x) (by omega) (by omega)
      clear hnd2 hb
      go_wp2_with fail
      go_round
      case rel=>exact ⟨i+1,by omega,by go_num,by rw [HS.out],HN2.out⟩
      case measure=>simp [intOf];omega
  · obtain rfl:i=L.length:=by omega
    have hfin:R=ok:=by
     cases ok with
     | false=>exact HRNO.out rfl
     | true =>
       rw [HYES.out rfl]
       have:=HND.out
       rw [List.take_length] at this
       exact decide_eq_true (ascL_len_yes this)
    subst hfin
    clear HRNO HYES HNO HR
    go_wp2_with fail
    go_ret
    exact ⟨rfl,hbw⟩
def isSimpleWit (g:Gr) (a:Au) (x y:Int) (k:Wk):Bool:=isWit g a x y k && isSimple g k
set_option maxHeartbeats 4000000 in
theorem implIsSimpleWitness (vg va vk:Value) (g:Gr) (a:Au) (x y:Int) (k:Wk) (w:World) (hgv:GrV 0 w.heap.size w vg g) (hav:AuV 0 w.heap.size w va a) (hkv:WkV 0 w.heap.size w vk k) :
 Calls Tryz.prog 30 #[vg,va,.int .i64 x,.int .i64 y,vk] w fun e w'=>e=.returned (.bool (isSimpleWit g a x y k))/\Below w.heap.size w w':=by
 have hgv0:=hgv
 have hav0:=hav
 have hkv0:=hkv
 obtain ⟨A1,n1,c1,A2,n2,c2,rfl⟩:=hgv.shape
 obtain ⟨A3,n3,c3,A4,n4,c4,rfl⟩:=hav.shape
 obtain ⟨A5,n5,c5,rfl⟩:=hkv.shape
 have hb0:Below w.heap.size w (((w.alloc (.cells #[.slice A1 n1 c1,.slice A2 n2 c2] 27)).alloc (.cells #[.int .i64 a.start,.slice A3 n3 c3,.slice A4 n4 c4] 31)).alloc (.cells #[.int .i64 k.1,.slice A5 n5 c5] 39)):=(((Below.refl _ _).alloc (Nat.le_refl _) _).alloc (by simp) _).alloc (by simp;omega) _
 obtain ⟨R,hR⟩:∃ R,R=isSimpleWit g a x y k:=⟨_,rfl⟩
 rw [<- hR]
 have HR:=Hd_ (hR.trans (show isSimpleWit g a x y k=(isWit g a x y k && isSimple g k) from rfl))
 have HGV:=Hd_ hgv0
 have HAV:=Hd_ hav0
 have HKV:=Hd_ hkv0
 clear hgv hav hkv hgv0 hav0 hkv0 hR
 have HIW:=Hd_ (fun (W:World) (hW:Below w.heap.size w W)=>implIsWitness _ _ _ g a x y k W (HGV.out.keep hW) (HAV.out.keep hW) (HKV.out.keep hW))
 have HIT:=Hd_ (fun (W:World) (hW:Below w.heap.size w W)=>implIsSimple _ _ g k W (HGV.out.keep hW) (HKV.out.keep hW))
 go_enter Tryz.func30,Tryz.ntmps30
 go_wp2_with fail
 obtain ⟨W0,hW0⟩:∃ W0,W0=(((w.alloc (.cells #[.slice A1 n1 c1,.slice A2 n2 c2] 27)).alloc (.cells #[.int .i64 a.start,.slice A3 n3 c3,.slice A4 n4 c4] 31)).alloc (.cells #[.int .i64 k.1,.slice A5 n5 c5] 39)):=⟨_,rfl⟩
 rw [<- hW0] at hb0 ⊢
 have bx:Blk W0 w.heap.size 27 #[.slice A1 n1 c1,.slice A2 n2 c2]:=by rw [hW0];exact ((Blk.new w _ _ w.heap.size rfl).alloc _).alloc _
 have bz:Blk W0 (w.heap.size+1+1) 39 #[.int .i64 k.1,.slice A5 n5 c5]:=by rw [hW0];exact Blk.new ((w.alloc _).alloc _) _ _ (w.heap.size+1+1) (by simp)
 have x0:W0.cell? ⟨w.heap.size,0,none⟩=some (.slice A1 n1 c1):=bx.cell 0
 have x1:W0.cell? ⟨w.heap.size,1,none⟩=some (.slice A2 n2 c2):=bx.cell 1
 have z0:W0.cell? ⟨w.heap.size+1+1,0,none⟩=some (.int .i64 k.1):=bz.cell 0
 have z1:W0.cell? ⟨w.heap.size+1+1,1,none⟩=some (.slice A5 n5 c5):=bz.cell 1
 clear hW0 bx bz
 refine (HIW.out W0 hb0).mono ?_
 rintro e w1 ⟨rfl,hb1⟩
 have hb2:=below_trans hb0 hb1
 have x0:=kcell hb1 x0
 have x1:=kcell hb1 x1
 have z0:=kcell hb1 z0
 have z1:=kcell hb1 z1
 cases h0:isWit g a x y k with
 | false =>
   have hfin:R=false:=by rw [HR.out,h0];rfl
   subst hfin
   clear HR
   go_wp2_with fail
   go_ret
   exact ⟨rfl,hb2⟩
 | true =>
   rw [h0,Bool.true_and] at HR
   go_wp2_with fail
   refine (HIT.out w1 hb2).mono ?_
   rintro e w3 ⟨rfl,hb3⟩
   go_wp2_with fail
   go_ret
   exact ⟨by rw [HR.out];rfl,below_trans hb2 hb3⟩
end Go.Proofs.YtjpdembmchnbgaaGreat
namespace Go.Proofs.YtjpdembmchnbgaaGreat
open Go.ChangeShapes Go.WideShapes Go.ChangeAt Go.RowKit
theorem trailOk_iff {L:List St}:trailOk L=true ↔ (L.map (·.1)).Nodup:=by
 rw [trailOk,List.all_eq_true]
 constructor
 · intro h
   rw [List.nodup_iff_pairwise_ne,List.pairwise_iff_getElem]
   intro i j hi hj hij e
   rw [List.length_map] at hi hj
   have hjs:L[j]?=some L[j]:=List.getElem?_eq_getElem hj
   have h1:=h j (List.mem_range.2 hj)
   have h2:dupAt L j=true:=(dupAt_of hjs).2 ⟨L[i],List.mem_take_iff_getElem.2 ⟨i,by omega,rfl⟩,by simpa using e⟩
   rw [h2] at h1
   cases h1
 · intro h i hi
   have hi:=List.mem_range.1 hi
   have his:L[i]?=some L[i]:=List.getElem?_eq_getElem hi
   cases hd:dupAt L i with
   | false=>rfl
   | true =>
     obtain ⟨t,ht,e⟩:=(dupAt_of his).1 hd
     obtain ⟨j,hj,rfl⟩:=List.mem_take_iff_getElem.1 ht
     rw [List.nodup_iff_pairwise_ne,List.pairwise_iff_getElem] at h
     exact absurd (by rw [List.getElem_map,List.getElem_map];exact e) (h j i (by rw [List.length_map];omega) (by rw [List.length_map];omega) (by omega))
theorem isTrail_iff {g:Gr} {k:Wk} (h:walkOk g k=true):isTrail g k=true ↔ trailN k:=by
 rw [isTrail,h,Bool.and_true,trailOk_iff];rfl
theorem isSimple_iff {g:Gr} {k:Wk} (h:walkOk g k=true):isSimple g k=true ↔ simpleN g k:=by
 rw [isSimple,h,Bool.true_and,decide_eq_true_eq,simpleN]
 constructor
 · intro hl
   rw [List.nodup_iff_pairwise_ne,List.pairwise_iff_getElem]
   intro i j hi hj hij e
   exact ascL_len_no (i:=j) (x:=(nodesL g k)[j]) (List.getElem?_eq_getElem hj) (e ▸ List.mem_take_iff_getElem.2 ⟨i,by omega,rfl⟩) hl
 · exact fun hn=>ascL_len_yes hn
theorem simples_found {g:Gr} {a:Au} {x y B:Int} {w:Wk} (h:srchL g a x y B true=(w,1)):0 < cntSimple g a x y/\isSimpleWit g a x y w=true/\isSimple g w=true/\isTrail g w=true:=by
 obtain ⟨h1,h2⟩:=found_wit h
 have h3:=(isWit_parts h1).2.1
 obtain ⟨h4,h5⟩:=found_simple h
 have h6:=(isSimple_iff h3).2 h4
 exact ⟨found_count h,by rw [isSimpleWit,h1,h6];rfl,h6,(isTrail_iff h3).2 h5⟩
section
variable {f:Nat->Nat->Int} {x n i j:Nat} {st:Option (List Pr)} {L:List Pr}
end
theorem Blk.set2 {w:World} {g:Nat} {t:TypeId} {c0 c1:Value} (h:Blk w g t #[c0,c1]) (d0 d1:Value):Blk ((w.setCell ⟨g,0,none⟩ d0).setCell ⟨g,1,none⟩ d1) g t #[d0,d1]:=by
 have h2:=(h.set_ 0 d0).set_ 1 d1
 simpa using h2
theorem Only.set2 (w:World) (g:Nat) (d0 d1:Value):Only g (g+1) w ((w.setCell ⟨g,0,none⟩ d0).setCell ⟨g,1,none⟩ d1):=((Only.refl _ _ _).setCell (p:=⟨g,0,none⟩) (.inl ⟨Nat.le_refl _,Nat.lt_succ_self _⟩) d0).setCell (p:=⟨g,1,none⟩) (.inl ⟨Nat.le_refl _,Nat.lt_succ_self _⟩) d1
end Go.Proofs.YtjpdembmchnbgaaGreat
namespace Go.Proofs.YtjpdembmchnbgaaGreat
open Go.ChangeShapes Go.WideShapes Go.ChangeAt Go.RowKit
attribute [local go_sem] ext_cell ext_frozen ext_lt ext_lt1 ext_lt2 ext_lt3 ltn2 ltn3 ltn13 lts1 lts2 lts3
theorem contains_any (v:Value) (us:List Int) (x:Int) (w:World) (hv:SlE w cI 1 v us) (hn:us.length<=1000000) :
 Calls Tryz.prog 122 #[v,.int .i64 x] w fun e w'=>e=.returned (.bool (us.contains x))/\w'=w:=by
 obtain ⟨A,c,rfl,-,-,h⟩:=SlE.form hv
 cases us with
 | nil=>exact Tryz.slices_Contains_int_empty A c x w
 | cons u us =>
   obtain ⟨b,o,rfl,-,-⟩:=h.int (i:=0) (x:=u) rfl
   have hct:=Tryz.slices_Contains_int b o (u :: us).length c (u :: us) x w (Nat.le_refl _) (by omega) (fun j hj=>(SlC.intA h (getD_of hj)).2)
   rw [List.take_length] at hct
   exact hct
set_option maxHeartbeats 8000000 in
set_option maxRecDepth 100000 in
theorem countSimple_any (g:Gr) (a:Au) (y:Int) (hgo:grOk g=true) (ha:auOk a=true) (f:Nat):∀ (x s used:Nat) (us:List Int) (vg va lv uv:Value) (w:World),GrV 0 w.heap.size w vg g->AuV 0 w.heap.size w va a ->
 SSE 0 w.heap.size w cA 4 lv ((List.range g.vals.length).map fun (x:Nat)=>arcsOf g (x:Int))->SlE w cI 1 uv us->(∀ t:Nat,used.testBit t=us.contains (t:Int))->us.length+f<=33->x < g.vals.length->s < 2 ^ a.accept.length->used < 32->32<=used+f ->
 Calls Tryz.prog 79 #[vg,va,lv,.int .i64 (x:Int),.int .i64 (s:Int),.int .i64 y,uv] w fun e w'=>e=.returned (.int .i64 (cnt g a y f x s used))/\Below w.heap.size w w':=by
 induction f with
 | zero=>intro x s used us vg va lv uv w _ _ _ _ _ _ _ _ h1 h2;omega
 | succ f ih =>
   intro x s used us vg va lv uv w hgv hav hlv huv hus hul hx hs hu huf
   have HIH:=Hd_ ih
   have hgv0:=hgv
   have hav0:=hav
   obtain ⟨A1,c1,A2,c2,rfl,hl1,hm1,hl2,hm2,hC1,-⟩:=hgv.form
   obtain ⟨A3,c3,A4,c4,rfl,hl3,hm3,hl4,hm4,-⟩:=hav.form ha
   have hlv0:=hlv
   have huv0:=huv
   obtain ⟨A5,c5,hv5,hl5,hm5⟩:=hlv.shape
   have hlen5:((List.range g.vals.length).map fun (x:Nat)=>arcsOf g (x:Int)).length=g.vals.length:=by simp
   rw [hlen5] at hv5 hl5
   subst hv5
   obtain ⟨A6,c6,rfl,hl6,hm6,-⟩:=SlE.form huv
   obtain ⟨b5,o5,A7,c7,rfl,-,hb5,d5,hl7,hm7,hI7,-⟩:=hlv.row (Nat.le_refl _) (i:=x) (xs:=arcsOf g (x:Int)) (by simp [hx])
   have hxi:g.vals[x]?=some g.vals[x]:=List.getElem?_eq_getElem hx
   have hvr:=(grOk_iff.1 hgo).vals _ (List.getElem_mem hx)
   generalize g.vals[x]=vx at hxi hvr
   obtain ⟨vx,rfl⟩:=Int.eq_ofNat_of_zero_le hvr.1
   have hva:=valAt_of hxi
   rw [Int.toNat_natCast] at hva
   obtain ⟨b1,o1,rfl,hbb1,dv⟩:=hC1.int hxi
   have hxx:(x:Int) < (g.vals.length:Int):=by omega
   have hb0:Below w.heap.size w ((w.alloc (.cells #[.slice (some ⟨b1,o1,none⟩) g.vals.length c1,.slice A2 g.edges.length c2] 27)).alloc (.cells #[.int .i64 a.start,.slice A3 a.accept.length c3,.slice A4 a.accept.length c4] 31)):=((Below.refl _ _).alloc (Nat.le_refl _) _).alloc (by simp) _
   have HGV:=Hd_ hgv0
   have HAV:=Hd_ hav0
   have HLV:=Hd_ hlv0
   have HUV:=Hd_ huv0
   have HUS:=Hd_ hus
   have HGO:=Hd_ hgo
   have HA:=Hd_ ha
   have HS:=Hd_ hs
   have HI7:=Hd_ hI7
   have hs4:=lt12 ha hs
   have hn5:=(grOk_iff.1 hgo).n5
   have hAL:=arcs_len (grOk_iff.1 hgo) (x:Int)
   have HEND:=Hd_ (fun (W:World) (hW:Below w.heap.size w W)=>acceptsAt_any _ a s vx W (hav0.keep hW) ha hs (by omega))
   have HVA:=Hd_ hva
   obtain ⟨R,hR⟩:∃ R,R=cnt g a y (f+1) x s used:=⟨_,rfl⟩
   rw [<- hR]
   have HR:=Hd_ (hR.trans (cntTo_all g a y f x s used).symm)
   clear hgv hav hgv0 hav0 hlv hlv0 huv huv0 hus hgo ha hR hs ih hC1 hI7 hxi hva hlen5
   go_enter Tryz.func79,Tryz.ntmps79
   go_upto_region 2 with fail
   obtain ⟨W0,hW0⟩:∃ W0,W0=((w.alloc (.cells #[.slice (some ⟨b1,o1,none⟩) g.vals.length c1,.slice A2 g.edges.length c2] 27)).alloc (.cells #[.int .i64 a.start,.slice A3 a.accept.length c3,.slice A4 a.accept.length c4] 31)):=⟨_,rfl⟩
   rw [<- hW0] at hb0 ⊢
   have x0:W0.cell? ⟨w.heap.size,0,none⟩=some (.slice (some ⟨b1,o1,none⟩) g.vals.length c1):=by rw [hW0];simp
   have x1:W0.cell? ⟨w.heap.size,1,none⟩=some (.slice A2 g.edges.length c2):=by rw [hW0];simp
   have y0:W0.cell? ⟨w.heap.size+1,0,none⟩=some (.int .i64 a.start):=by rw [hW0];simp
   have y1:W0.cell? ⟨w.heap.size+1,1,none⟩=some (.slice A3 a.accept.length c3):=by rw [hW0];simp
   have y2:W0.cell? ⟨w.heap.size+1,2,none⟩=some (.slice A4 a.accept.length c4):=by rw [hW0];simp
   have hs0:w.heap.size+1+1=W0.heap.size:=by rw [hW0];simp
   try rw [hs0]
   have l0:w.heap.size+1 < W0.heap.size:=by omega
   have l00:w.heap.size < W0.heap.size:=by omega
   clear hW0 hs0
   have dv:=kcell hb0 dv
   have d5:=kcell hb0 d5
   have hb5:=Nat.lt_of_lt_of_le hb5 hb0.size
   have hbb1:=Nat.lt_of_lt_of_le hbb1 hb0.size
   obtain ⟨BB,hBB⟩:∃ BB,BB=(decide ((x:Int)=y) && acc a s vx):=⟨_,rfl⟩
   have HBB:=Hd_ hBB
   clear hBB
   go_cut [31] (fun b wx=>∃ u,b=.bool BB/\wx=ext W0 u)
   case first =>
    by_cases hxy:(x:Int)=y
    · have hd:decide ((x:Int)=y)=true:=decide_eq_true hxy
      have hd2:((x:Int)==y)=true:=by simp [hxy]
      have HBT:=Hd_ (HBB.out.trans (by rw [hd,Bool.true_and]))
      generalize acc a s vx=bb at *
      clear hxy HBB
      refine wp_region_ext_lit (by kernel_rfl) (by kernel_rfl) ?_
      repeat (go_big_quiet_step ((go_at_call 99;exact Calls.ext_of (HEND.out _ (below_trans hb0 (ext_below _ _))))))
      refine wpQuiet_nil ?_
      rintro _ ⟨u2,rfl⟩
      go_wp2_with fail
      go_meet
      exact ⟨u2,by rw [HBT.out],rfl⟩
    · have hd:decide ((x:Int)=y)=false:=decide_eq_false hxy
      have hd2:((x:Int)==y)=false:=by simp [hxy]
      have HBT:=Hd_ (HBB.out.trans (by rw [hd,Bool.false_and]))
      clear hxy HBB
      refine wp_region_ext_lit (by kernel_rfl) (by kernel_rfl) ?_
      repeat (go_big_quiet_step (fail))
      refine wpQuiet_nil ?_
      rintro _ ⟨u2,rfl⟩
      go_wp2_with fail
      go_meet
      exact ⟨u2,by rw [HBT.out],rfl⟩
   case rest =>
    obtain ⟨u,rfl,rfl⟩:=hcut
    have HC0:=Hd_ (show cnt0 g a y x s=if BB=true then 1 else 0 by rw [HBB.out,<- HVA.out];rfl)
    clear HBB
    go_upto_if 31 with fail
    go_cut [15] (fun n wx=>n=.int .i64 (cnt0 g a y x s)/\wx=ext W0 u)
    case first =>
     generalize cnt0 g a y x s=n0 at *
     cases BB with
     | true =>
       go_wp2_with fail
       go_meet
       exact ⟨by rw [HC0.out];rfl,rfl⟩
     | false =>
       go_wp2_with fail
       go_meet
       exact ⟨by rw [HC0.out];rfl,rfl⟩
    case rest =>
     obtain ⟨rfl,rfl⟩:=hcut
     have hN0:cnt0 g a y x s=cntTo g a y f x s used 0:=rfl
     have HN0:=Hd_ hN0
     clear hN0
     generalize cnt0 g a y x s=n0 at *
     clear HC0 HEND
     go_wp2_with fail
     go_loopw [15,37] (fun nn ii wr=>∃ (i:Nat) (u:World),i<=(arcsOf g (x:Int)).length/\ii=.int .i64 (i:Int)/\nn=.int .i64 (cntTo g a y f x s used i)/\wr=ext W0 u) (fun _ ii _=>(arcsOf g (x:Int)).length - (intOf ii).toNat)
     case atStart=>exact ⟨0,u,Nat.zero_le _,rfl,by rw [HN0.out],rfl⟩
     case round =>
      clear HN0 u
      obtain ⟨i,u,hi,rfl,rfl,rfl⟩:=hrel
      by_cases hlt:i < (arcsOf g (x:Int)).length
      · have hyi:(arcsOf g (x:Int))[i]?=some (arcsOf g (x:Int))[i]:=List.getElem?_eq_getElem hlt
        have hyr:=arc_range (grOk_iff.1 HGO.out) (List.getElem_mem hlt)
        generalize (arcsOf g (x:Int))[i]=p at hyi hyr
        have HTS:=Hd_ (cntTo_succ (a:=a) (y:=y) (f:=f) (s:=s) (used:=used) hyi)
        generalize cntTo g a y f x s used i=m1 at *
        obtain ⟨⟨sid,sinv⟩,l,t⟩:=p
        simp only at hyr
        obtain ⟨l,rfl⟩:=Int.eq_ofNat_of_zero_le hyr.1.1
        obtain ⟨t,rfl⟩:=Int.eq_ofNat_of_zero_le hyr.2.1
        obtain ⟨b7,o7,rfl,-,hb7,z0,z1,z2,z3⟩:=HI7.out.arc hyi
        simp only at z0 z1 z2 z3
        have z0:=kcell hb0 z0
        have z1:=kcell hb0 z1
        have z2:=kcell hb0 z2
        have z3:=kcell hb0 z3
        have hb7:=Nat.lt_of_lt_of_le hb7 hb0.size
        have hM:=aft_lt HA.out s vx l
        have hm4:=lt12 HA.out hM
        have HAF:=Hd_ (fun (W:World) (hW:Below w.heap.size w W)=>after_any _ a s vx l W (HAV.out.keep hW) HA.out HS.out (by omega) (by omega))
        have hmv:aft a s (valAt g x) ((l:Int)).toNat=aft a s vx l:=by rw [HVA.out,Int.toNat_natCast]
        have HCN:=Hd_ (fun h=>cntC_no (g:=g) (a:=a) (rec:=cnt g a y f) (x:=x) (s:=s) (used:=used) (t:=t) (n:=m1) (p:=((sid,sinv),(l:Int),(t:Int))) rfl hmv h)
        have HCY:=Hd_ (fun h h2=>cntC_yes (g:=g) (a:=a) (rec:=cnt g a y f) (x:=x) (s:=s) (used:=used) (t:=t) (n:=m1) (p:=((sid,sinv),(l:Int),(t:Int))) rfl hmv h h2)
        clear hmv
        generalize aft a s vx l=M at *
        have HM:=Hd_ hM
        have HUT:=Hd_ (HUS.out t)
        have hii:(i:Int) < ((arcsOf g (x:Int)).length:Int):=by omega
        clear hyi hM
        have hbu:=below_trans hb0 (ext_below W0 u)
        go_wp2_with fail
        have e2:((ext W0 u).alloc (.cells #[.int .i64 sid,.bool sinv,.int .i64 (l:Int),.int .i64 (t:Int)] 88)).cell? ⟨(ext W0 u).heap.size,2,none⟩=some (.int .i64 (l:Int)):=by simp
        have e3:((ext W0 u).alloc (.cells #[.int .i64 sid,.bool sinv,.int .i64 (l:Int),.int .i64 (t:Int)] 88)).cell? ⟨(ext W0 u).heap.size,3,none⟩=some (.int .i64 (t:Int)):=by simp
        have hbE:=(Below.refl (ext W0 u).heap.size (ext W0 u)).alloc (Nat.le_refl _) (.cells #[.int .i64 sid,.bool sinv,.int .i64 (l:Int),.int .i64 (t:Int)] 88)
        have hsE:(ext W0 u).heap.size < ((ext W0 u).alloc (.cells #[.int .i64 sid,.bool sinv,.int .i64 (l:Int),.int .i64 (t:Int)] 88)).heap.size:=by simp
        generalize (ext W0 u).alloc (.cells #[.int .i64 sid,.bool sinv,.int .i64 (l:Int),.int .i64 (t:Int)] 88)=wE at *
        have hbWE:=below_trans (ext_below W0 u) hbE
        have hbw:=below_trans hb0 hbWE
        have x0:=kcell hbWE x0
        have x1:=kcell hbWE x1
        have y0:=kcell hbWE y0
        have y1:=kcell hbWE y1
        have y2:=kcell hbWE y2
        have dv:=kcell hbWE dv
        have l0:=Nat.lt_of_lt_of_le l0 hbWE.size
        have l00:=Nat.lt_of_lt_of_le l00 hbWE.size
        have hbb1:=Nat.lt_of_lt_of_le hbb1 hbWE.size
        generalize (ext W0 u).heap.size=eb at *
        have HBW:=Hd_ hbw
        clear z0 z1 z2 z3 hbu hbE hbw
        refine wp_region_ext_lit (by kernel_rfl) (by kernel_rfl) ?_
        repeat (go_big_quiet_step ((go_at_call 104;exact Calls.ext_of (HAF.out _ (below_trans HBW.out (ext_below _ _))))))
        refine wpQuiet_nil ?_
        rintro _ ⟨u2,rfl⟩
        by_cases hm0:M=0
        · have HE:=Hd_ (show m1=cntTo g a y f x s used (i+1) by rw [HTS.out,HCN.out (.inl hm0)])
          clear HM HAF HCN HCY HTS HUT
          subst hm0
          obtain ⟨u4,hu4⟩:=ext_of (below_trans hbWE (ext_below wE u2))
          go_wp2_with fail
          go_roundw
          case rel=>exact ⟨i+1,u4,by omega,by go_num,by rw [<- HE.out],rfl⟩
          case measure=>simp [intOf];omega
        · have hmi:((M:Int) != 0)=true:=by simp;omega
          have hct:=contains_any _ us (t:Int) (ext wE u2) (SlE.keep HUV.out (below_trans HBW.out (ext_below _ _))) (by omega)
          rw [<- HUT.out] at hct
          have HCT:=Hd_ hct
          clear hct
          cases hb:used.testBit t with
          | true =>
            rw [hb] at HCT
            have HE:=Hd_ (show m1=cntTo g a y f x s used (i+1) by rw [HTS.out,HCN.out (.inr hb)])
            clear HM HAF HCN HCY HTS HUT hb
            obtain ⟨u4,hu4⟩:=ext_of (below_trans hbWE (ext_below wE u2))
            have HU4:=Hd_ hu4
            clear hu4
            go_wp2_with fail
            refine HCT.out.mono ?_
            rintro en w9 ⟨rfl,rfl⟩
            go_wp2_with fail
            go_roundw
            case rel=>exact ⟨i+1,u4,by omega,by go_num,by rw [<- HE.out],HU4.out⟩
            case measure=>simp [intOf];omega
          | false =>
            rw [hb] at HCT
            have HE:=Hd_ (show wrap64 (m1+cnt g a y f t M (ins used t))=cntTo g a y f x s used (i+1) by rw [HTS.out,HCY.out hm0 hb])
            have hgt:=ins_gt hb
            have hlt5:ins used t < 32:=ins_lt (n:=5) hu (by omega)
            have hus2:∀ t2:Nat,(ins used t).testBit t2=(us ++ [(t:Int)]).contains (t2:Int):=fun t2=>by
             rw [ins_test,HUS.out t2]
             by_cases e:t=t2
             · subst e;simp
             · have e':¬ (t2:Int)=(t:Int):=by omega
               simp [e,e']
            have HREC:=Hd_ (fun (lv uv:Value) (W:World) (hW:Below w.heap.size w W) h1 h2=>HIH.out t M (ins used t) (us ++ [(t:Int)]) _ _ lv uv W (HGV.out.keep hW) (HAV.out.keep hW) h1 h2 hus2 (by simp;omega) (by omega) HM.out hlt5 (by omega))
            have hbE2:=ext_below wE u2
            have hbX:=below_trans hbWE hbE2
            have hbw:=below_trans HBW.out hbE2
            have x0:=kcell hbE2 x0
            have x1:=kcell hbE2 x1
            have y0:=kcell hbE2 y0
            have y1:=kcell hbE2 y1
            have y2:=kcell hbE2 y2
            have e3:=kcell hbE2 e3
            have l0:=Nat.lt_of_lt_of_le l0 hbE2.size
            have l00:=Nat.lt_of_lt_of_le l00 hbE2.size
            have hsE:=Nat.lt_of_lt_of_le hsE hbE2.size
            have HBX:=Hd_ hbX
            have HBw:=Hd_ hbw
            generalize ins used t=U at *
            generalize cnt g a y f t M U=C at *
            generalize ext wE u2=wX at *
            obtain ⟨SS,hSS⟩:∃ SS,SS=wrap64 (m1+C):=⟨_,rfl⟩
            rw [<- hSS] at HE
            have Q1:=Hd_ (show IntKind.i64.wrap (m1+C)=SS by rw [hSS];exact IntWalk.i64_left _)
            have Q2:=Hd_ hSS.symm
            clear hSS
            clear HM HAF HCN HCY HTS HUT hb HIH hus2 hgt hlt5 hbE2 hbX hbw
            go_wp2_with fail
            refine HCT.out.mono ?_
            rintro en w9 ⟨rfl,rfl⟩
            go_wp2_with fail
            have hbD:=below_trans HBw.out ((Below.refl w9.heap.size w9).drew)
            refine F_start 16 (fun w'=>w'.cell? ⟨w.heap.size,0,none⟩=some (.slice (some ⟨b1,o1,none⟩) g.vals.length c1)/\w'.cell? ⟨w.heap.size,1,none⟩=some (.slice A2 g.edges.length c2)/\w'.cell? ⟨w.heap.size+1,0,none⟩=some (.int .i64 a.start)/\w'.cell? ⟨w.heap.size+1,1,none⟩=some (.slice A3 a.accept.length c3)/\w'.cell? ⟨w.heap.size+1,2,none⟩=some (.slice A4 a.accept.length c4)/\w'.cell? ⟨eb,3,none⟩=some (.int .i64 (t:Int))) (by kernel_rfl) (by exact ⟨x0,x1,y0,y1,y2,e3⟩) (fun hS inv=>?_)
            refine F_tk 0 inv ?_
            try simp only [tA,tB,tC,Act.put,tE,tF,tG]
            clear inv;intro inv
            refine F_tk 1 inv ?_
            try simp only [tA,tB,tC,Act.put,tE,tF,tG]
            clear inv;intro inv
            refine F_tk 2 inv ?_
            try simp only [tA,tB,tC,Act.put,tE,tF,tG]
            clear inv;intro inv
            refine F_tk 3 inv ?_
            try simp only [tA,tB,tC,Act.put,tE,tF,tG]
            clear inv;intro inv
            refine F_tk 4 inv ?_
            try simp only [tA,tB,tC,Act.put,tE,tF,tG]
            clear inv;intro inv
            refine F_tk 5 inv ?_
            try simp only [tA,tB,tC,Act.put,tE,tF,tG]
            clear inv;intro inv
            refine F_tk 6 inv ?_
            try simp only [tA,tB,tC,Act.put,tE,tF,tG]
            clear inv;intro inv
            refine F_tk 7 inv ?_
            try simp only [tA,tB,tC,Act.put,tE,tF,tG]
            clear inv;intro inv
            refine F_tk 8 inv ?_
            try simp only [tA,tB,tC,Act.put,tE,tF,tG]
            clear inv;intro inv
            refine F_tk 10 inv ?_
            try simp only [tA,tB,tC,Act.put,tE,tF,tG]
            clear inv;intro inv
            refine F_tk 11 inv ?_
            try simp only [tA,tB,tC,Act.put,tE,tF,tG]
            clear inv;intro inv
            have hS0:=hS
            refine F_two (i:=9) (j:=12) (by kernel_rfl) rfl rfl rfl rfl (by omega) inv (fun K hK=>?_) (fun K hK=>?_)
            all_goals (try simp only [tA,tB,tC])
            · go_simp
              refine (copyInts_any _ us _ (SlE.keep (w':=w9.drew) HUV.out hbD) (by omega)).mono ?_
              rintro en wA ⟨vA,rfl,hoA,hbA⟩
              have hbDA:=below_trans hbD hbA
              have HOA:=Hd_ hoA.1
              have hsA:=hbA.size
              clear hoA
              refine hK.out _ _ (kB6 hbA hS) (fun _ _=>?_)
              try simp only [tA,tB,tC,Act.put,tE,tF,tG]
              clear hK K inv hS;rename_i hS inv
              refine F_o1 12 inv ?_;intro K hK
              try simp only [tA,tB,tC]
              go_simp
              refine hK.out _ _ (kA6 _ hS) (fun _ _=>?_)
              try simp only [tA,tB,tC,Act.put,tE,tF,tG]
              clear hK K inv hS;rename_i hS inv
              refine F_o1 13 inv ?_;intro K hK
              try simp only [tA,tB,tC]
              refine op_append1 cI elInt rfl _ _ (by rfl) w9.drew.heap.size _ us (t:Int) 1 _ (by rfl) (HOA.out.alloc _) (by first | rfl | simp) (heap_alloc_new _ _) rfl (cI_one _) (by omega) (by omega) (Nat.le_trans hsA (by simp)) ?_
              intro g2 cp2 w3 hown3 hgr3 hat3 hlt3
              have hbT:=(hbA.alloc hsA (.cells #[.int .i64 (t:Int)] 3)).trans (own_below (HOA.out.alloc (.cells #[.int .i64 (t:Int)] 3)) (Nat.le_trans hsA (by simp)) hgr3)
              have HOW:=Hd_ hown3
              have hbDT:=below_trans hbD hbT
              clear hown3 hgr3 hat3
              refine hK.out _ _ (kB6 hbT hS0) (fun _ _=>?_)
              try simp only [tA,tB,tC,Act.put,tE,tF,tG]
              clear hK K inv hS;rename_i hS inv
              refine F_o1 14 inv ?_;intro K hK
              try simp only [tA,tB,tC]
              go_simp
              have hsl:=((Own.of_row (xs:=us ++ [(t:Int)]) HOW.out (by simp) rfl).sl cI_len).all (Nat.le_refl _)
              refine (HREC.out _ _ _ hbDT (HLV.out.keep hbDT) (by simpa using hsl)).mono ?_
              rintro en wC ⟨rfl,hbC⟩
              obtain ⟨u4,hu4⟩:=ext_of (below_trans HBX.out (below_trans ((Below.refl w9.heap.size w9).drew) (below_trans hbT hbC)))
              refine hK.out _ _ (kB6 hbC hS) (fun _ _=>?_)
              try simp only [tA,tB,tC,Act.put,tE,tF,tG]
              clear hK K inv hS;rename_i hS inv
              have q1:=Q1.out
              have q2:=Q2.out
              refine F_tk 15 inv ?_
              try simp only [tA,tB,tC,Act.put,tE,tF,tG]
              clear inv;intro inv
              refine F_l1 16 ?_;intro K hK
              go_simp
              refine hK _ _ ?_
              clear hK K inv hS
              clear q1 q2
              go_wp2_with fail
              go_roundw
              case rel=>exact ⟨i+1,u4,by omega,by go_num,by rw [<- HE.out],rfl⟩
              case measure=>simp [intOf];omega
            · go_simp
              have hbL:Below w9.drew.heap.size w9.drew (w9.drew.alloc (.cells #[.int .i64 (t:Int)] 3)):=(Below.refl _ _).alloc (Nat.le_refl _) _
              have hsL:w9.drew.heap.size < (w9.drew.alloc (.cells #[.int .i64 (t:Int)] 3)).heap.size:=by simp
              refine hK.out _ _ (kB6 hbL hS) (fun _ _=>?_)
              try simp only [tA,tB,tC,Act.put,tE,tF,tG]
              clear hK K inv hS;rename_i hS inv
              refine F_o1 9 inv ?_;intro K hK
              try simp only [tA,tB,tC]
              go_simp
              refine (copyInts_any _ us _ (SlE.keep (w':=w9.drew.alloc (.cells #[.int .i64 (t:Int)] 3)) HUV.out (below_trans hbD hbL)) (by omega)).mono ?_
              rintro en wA ⟨vA,rfl,hoA,hbA⟩
              have HOA:=Hd_ hoA.1
              have hsA:=hbA.size
              have hlit:wA.heap[w9.drew.heap.size]?=some (.cells #[.int .i64 (t:Int)] 3 (0,0)):=(hbA.block _ hsL).trans (heap_alloc_new _ _)
              have HLIT:=Hd_ hlit
              clear hoA hlit
              refine hK.out _ _ (kB6 hbA hS) (fun _ _=>?_)
              try simp only [tA,tB,tC,Act.put,tE,tF,tG]
              clear hK K inv hS;rename_i hS inv
              refine F_o1 13 inv ?_;intro K hK
              try simp only [tA,tB,tC]
              refine op_append1 cI elInt rfl _ _ (by rfl) _ _ us (t:Int) 1 _ (by rfl) HOA.out (by first | rfl | simp) HLIT.out rfl (cI_one _) (by omega) (by omega) hsA ?_
              intro g2 cp2 w3 hown3 hgr3 hat3 hlt3
              have hbT:=below_trans hbL (hbA.trans (own_below HOA.out hsA hgr3))
              have HOW:=Hd_ hown3
              have hbDT:=below_trans hbD hbT
              clear hown3 hgr3 hat3
              refine hK.out _ _ (kB6 hbT hS0) (fun _ _=>?_)
              try simp only [tA,tB,tC,Act.put,tE,tF,tG]
              clear hK K inv hS;rename_i hS inv
              refine F_o1 14 inv ?_;intro K hK
              try simp only [tA,tB,tC]
              go_simp
              have hsl:=((Own.of_row (xs:=us ++ [(t:Int)]) HOW.out (by simp) rfl).sl cI_len).all (Nat.le_refl _)
              refine (HREC.out _ _ _ hbDT (HLV.out.keep hbDT) (by simpa using hsl)).mono ?_
              rintro en wC ⟨rfl,hbC⟩
              obtain ⟨u4,hu4⟩:=ext_of (below_trans HBX.out (below_trans ((Below.refl w9.heap.size w9).drew) (below_trans hbT hbC)))
              refine hK.out _ _ (kB6 hbC hS) (fun _ _=>?_)
              try simp only [tA,tB,tC,Act.put,tE,tF,tG]
              clear hK K inv hS;rename_i hS inv
              have q1:=Q1.out
              have q2:=Q2.out
              refine F_tk 15 inv ?_
              try simp only [tA,tB,tC,Act.put,tE,tF,tG]
              clear inv;intro inv
              refine F_l1 16 ?_;intro K hK
              go_simp
              refine hK _ _ ?_
              clear hK K inv hS
              clear q1 q2
              go_wp2_with fail
              go_roundw
              case rel=>exact ⟨i+1,u4,by omega,by go_num,by rw [<- HE.out],rfl⟩
              case measure=>simp [intOf];omega
      · obtain rfl:i=(arcsOf g (x:Int)).length:=by omega
        rw [<- HR.out]
        go_wp2_with fail
        go_ret
        exact ⟨rfl,below_trans hb0 (ext_below _ _)⟩
end Go.Proofs.YtjpdembmchnbgaaGreat
