/- 'laws.FnAmbiguity' returns true for every list of bytes, without any condition: an ambiguous word has two runs, and in an unambiguous automaton no word has more than one. -/
import Derived.Test.YthnapjodmndlaaaOnlzALIKEGPF
import Derived.Test.YthnapjodmndlaaaOnlzDNHGMCJG
import Derived.Test.YthnapjodmndlaaaOnlzAFGOAFAH
import Derived.Test.YthnapjodmndlaaaOnlzKOIOMEMI
import Derived.Test.YthnapjodmndlaaaOnlzDPOMHOLA
set_option linter.unusedVariables false
set_option linter.unusedSimpArgs false
namespace Go.Proofs.Ythnapjodmndlaaa.fnAmbiguity
open Go.ChangeShapes Go.WideShapes Go.ChangeAt Go.RowKit
attribute [local go_sem] ext_cell ext_frozen ext_lt ext_lt1 ext_lt2 ext_lt3 ltn2 ltn3 ltn13 lts1 lts2 lts3
set_option maxRecDepth 100000 in
set_option maxHeartbeats 16000000 in
theorem walk (w:World) (v0:Value) (bs:List Int) (hv0:SlI 0 w.heap.size w cU 1 v0 bs) :
 Calls Try.prog 5 #[v0] w fun e w'=>e=.returned (.bool true)/\Below w.heap.size w w':=by
 have HV:=Hd_ hv0
 obtain ⟨A0,c0,rfl,hl0,hm0,-⟩:=hv0
 by_cases hbig:1048576 < bs.length
 · go_enter Try.func5,Try.ntmps5
   go_wp2_with fail
   refine (big_yes _ _ _ _ hbig (by omega)).mono ?_
   rintro e w' ⟨rfl,rfl⟩
   go_wp2_with fail
   go_ret
   exact ⟨rfl,Below.refl _ _⟩
 go_enter Try.func5,Try.ntmps5
 go_wp2_with fail
 refine (big_no _ _ _ _ hbig).mono ?_
 rintro e w' ⟨rfl,rfl⟩
 clear hbig hl0 hm0
 go_wp2_with fail
 refine (drawAmbiguousWord_any _ bs _ HV.out).mono ?_
 rintro e w1 ⟨vp,p,rfl,hpz,hb1⟩
 obtain ⟨vl,vf,rfl,h1,h2⟩:=hpz
 obtain ⟨A1,n1,c1,rfl⟩:=h1.shape
 obtain ⟨A2,n2,c2,rfl⟩:=h2.shape
 obtain ⟨q,hq⟩:∃ q,q=w1.heap.size:=⟨_,rfl⟩
 have hal:=(Below.refl w1.heap.size w1).alloc (Nat.le_refl _) (.cells #[.slice A1 n1 c1,.int .i64 p.first,.int .i64 p.last,.slice A2 n2 c2,.bool p.nul] 27)
 obtain ⟨W,hW⟩:∃ W,W=w1.alloc (.cells #[.slice A1 n1 c1,.int .i64 p.first,.int .i64 p.last,.slice A2 n2 c2,.bool p.nul] 27):=⟨_,rfl⟩
 have hbq:Blk W q 27 #[.slice A1 n1 c1,.int .i64 p.first,.int .i64 p.last,.slice A2 n2 c2,.bool p.nul]:=by rw [hW];exact Blk.new w1 _ _ _ hq
 rw [<- hW] at hal
 have HP:=Hd_ (PzV.keep (show PzV 0 w1.heap.size w1 (.agg #[.slice A1 n1 c1,.int .i64 p.first,.int .i64 p.last,.slice A2 n2 c2,.bool p.nul]) p from ⟨_,_,rfl,h1,h2⟩) hal)
 have HB:=Hd_ (below_trans hb1 hal)
 have HV:=Hd_ (SlE.keep (SlE.keep HV.out hb1) hal)
 have x0:W.cell? ⟨q,0,none⟩=some (.slice A1 n1 c1):=hbq.cell 0
 have x1:W.cell? ⟨q,1,none⟩=some (.int .i64 p.first):=hbq.cell 1
 have x2:W.cell? ⟨q,2,none⟩=some (.int .i64 p.last):=hbq.cell 2
 have x3:W.cell? ⟨q,3,none⟩=some (.slice A2 n2 c2):=hbq.cell 3
 have x4:W.cell? ⟨q,4,none⟩=some (.bool p.nul):=hbq.cell 4
 have hlq:=hbq.lt
 clear h1 h2 hb1 hal hbq
 go_upto_region 4 with fail
 rw [<- hq,<- hW]
 clear hW hq
 obtain ⟨t,ht⟩:∃ t,t=(ambT p).2:=⟨_,rfl⟩
 have HT:=Hd_ ht
 go_wp2_with fail
 refine (implAmb _ p _ HP.out).mono ?_
 rintro e w2 ⟨vo,rfl,how,hb2⟩
 rw [<- ht]
 obtain ⟨A5,n5,c5,rfl⟩:=how.shape
 have HO:=Hd_ ((how.sl cI_len).mono (Nat.zero_le _) (Nat.le_refl _))
 replace x0:=kcell hb2 x0
 replace x1:=kcell hb2 x1
 replace x2:=kcell hb2 x2
 replace x3:=kcell hb2 x3
 replace x4:=kcell hb2 x4
 replace hlq:=Nat.lt_of_lt_of_le hlq (Below.size hb2)
 have HP:=Hd_ (HP.out.keep hb2)
 have HV:=Hd_ (SlE.keep HV.out hb2)
 have HB:=Hd_ (below_trans HB.out hb2)
 clear hb2 how
 go_wp2_with fail
 refine (specAmb _ p _ HP.out).mono ?_
 rintro e w3 ⟨vo3,rfl,how,hb3⟩
 rw [<- ht]
 obtain ⟨A6,n6,c6,rfl⟩:=how.shape
 have HO6:=Hd_ ((how.sl cI_len).mono (Nat.zero_le _) (Nat.le_refl _))
 have HO:=Hd_ (SlE.keep HO.out hb3)
 replace x0:=kcell hb3 x0
 replace x1:=kcell hb3 x1
 replace x2:=kcell hb3 x2
 replace x3:=kcell hb3 x3
 replace x4:=kcell hb3 x4
 replace hlq:=Nat.lt_of_lt_of_le hlq (Below.size hb3)
 have HP:=Hd_ (HP.out.keep hb3)
 have HV:=Hd_ (SlE.keep HV.out hb3)
 have HB:=Hd_ (below_trans HB.out hb3)
 clear hb3 how ht
 obtain ⟨k,hk⟩:∃ k,k=pzOk p:=⟨_,rfl⟩
 have HK:=Hd_ hk
 have HUT:=Hd_ (show unamT p=(k && !t) by rw [hk,HT.out];rfl)
 have HSI:=Hd_ (fun W (h:Below w3.heap.size w3 W)=>sameInts_same _ _ (ambO p) W (SlE.keep HO.out h) (SlE.keep HO6.out h))
 have HIU:=Hd_ (fun W (b:Bool) (h:Below w3.heap.size w3 W) (hb:b=unamT p)=>show Calls Try.prog 9 #[.agg #[.slice A1 n1 c1,.int .i64 p.first,.int .i64 p.last,.slice A2 n2 c2,.bool p.nul]] W fun e w'=>e=.returned (.bool b)/\Below W.heap.size W w' by rw [hb];exact implUnam _ p W (HP.out.keep h))
 have HSV:=Hd_ (fun W (b:Bool) (h:Below w3.heap.size w3 W) (hb:b=pzOk p)=>show Calls Try.prog 20 #[.agg #[.slice A1 n1 c1,.int .i64 p.first,.int .i64 p.last,.slice A2 n2 c2,.bool p.nul]] W fun e w'=>e=.returned (.bool b)/\Below W.heap.size W w' by rw [hb];exact specValidPos _ p W (HP.out.keep h))
 clear hk
 cases t with
 | false =>
   have HR1:=Hd_ (runs_one HT.out.symm)
   cases k with
   | false =>
     go_wp2_with fail
     refine wp_region_ext_lit (by kernel_rfl) (by kernel_rfl) ?_
     repeat (go_big_quiet_step ((first | (go_at_call 19;exact Calls.ext_of (HSI.out _ (ext_below _ _))) | (go_at_call 9;exact Calls.ext_of (HIU.out _ (false) (ext_below _ _) (by rw [HUT.out];rfl))) | (go_at_call 20;exact Calls.ext_of (HSV.out _ _ (ext_below _ _) HK.out)))))
     refine wpQuiet_nil ?_
     rintro _ ⟨u2,rfl⟩
     have hbx:=ext_below w3 u2
     have HO:=Hd_ (SlE.keep HO.out hbx)
     replace x0:=kcell hbx x0
     replace x1:=kcell hbx x1
     replace x2:=kcell hbx x2
     replace x3:=kcell hbx x3
     replace x4:=kcell hbx x4
     replace hlq:=Nat.lt_of_lt_of_le hlq (Below.size hbx)
     have HP:=Hd_ (HP.out.keep hbx)
     have HV:=Hd_ (SlE.keep HV.out hbx)
     have HB:=Hd_ (below_trans HB.out hbx)
     clear hbx HSI HIU HSV HO6
     generalize ext w3 u2=w4 at *
     go_wp2_with fail
     refine (drawCountRuns_any _ bs _ HV.out).mono ?_
     rintro e w6 ⟨vq,vu,p6,u,rfl,hp6,hu6,hb6⟩
     obtain ⟨vl6,vf6,rfl,g1,g2⟩:=hp6
     obtain ⟨D1,m1,e1,rfl⟩:=g1.shape
     obtain ⟨D2,m2,e2,rfl⟩:=g2.shape
     obtain ⟨D5,m5,e5,rfl⟩:=hu6.shape
     have hal6:=(Below.refl w6.heap.size w6).alloc (Nat.le_refl _) (.cells #[.slice D1 m1 e1,.int .i64 p6.first,.int .i64 p6.last,.slice D2 m2 e2,.bool p6.nul] 27)
     have HU6:=Hd_ (SlE.keep (hu6.mono (Nat.zero_le _) (Nat.le_refl _)) hal6)
     have hb7:=below_trans hb6 hal6
     clear g1 g2 hu6 hb6 hal6
     replace x0:=kcell hb7 x0
     replace x1:=kcell hb7 x1
     replace x2:=kcell hb7 x2
     replace x3:=kcell hb7 x3
     replace x4:=kcell hb7 x4
     replace hlq:=Nat.lt_of_lt_of_le hlq (Below.size hb7)
     have HP:=Hd_ (HP.out.keep hb7)
     have HV:=Hd_ (SlE.keep HV.out hb7)
     have HB:=Hd_ (below_trans HB.out hb7)
     clear hb7
     go_wp2_with fail
     refine (implCount _ _ p u _ HP.out HU6.out).mono ?_
     rintro e w7 ⟨rfl,hb7⟩
     have hn1:=HR1.out u
     obtain ⟨m,hm⟩:∃ m,m=cntRuns p u:=⟨_,rfl⟩
     rw [<- hm] at hn1 ⊢
     clear hm
     have hmd:decide ((m:Int)<=1)=true:=decide_eq_true (by omega)
     have HBF:=Hd_ (below_trans HB.out hb7)
     clear hb7 x0 x1 x2 x3 x4 hlq
     go_wp2_with fail
     go_ret
     exact ⟨rfl,HBF.out⟩
   | true =>
     go_wp2_with fail
     refine wp_region_ext_lit (by kernel_rfl) (by kernel_rfl) ?_
     repeat (go_big_quiet_step ((first | (go_at_call 19;exact Calls.ext_of (HSI.out _ (ext_below _ _))) | (go_at_call 9;exact Calls.ext_of (HIU.out _ (true) (ext_below _ _) (by rw [HUT.out];rfl))) | (go_at_call 20;exact Calls.ext_of (HSV.out _ _ (ext_below _ _) HK.out)))))
     refine wpQuiet_nil ?_
     rintro _ ⟨u2,rfl⟩
     have hbx:=ext_below w3 u2
     have HO:=Hd_ (SlE.keep HO.out hbx)
     replace x0:=kcell hbx x0
     replace x1:=kcell hbx x1
     replace x2:=kcell hbx x2
     replace x3:=kcell hbx x3
     replace x4:=kcell hbx x4
     replace hlq:=Nat.lt_of_lt_of_le hlq (Below.size hbx)
     have HP:=Hd_ (HP.out.keep hbx)
     have HV:=Hd_ (SlE.keep HV.out hbx)
     have HB:=Hd_ (below_trans HB.out hbx)
     clear hbx HSI HIU HSV HO6
     generalize ext w3 u2=w4 at *
     go_wp2_with fail
     refine (drawCountRuns_any _ bs _ HV.out).mono ?_
     rintro e w6 ⟨vq,vu,p6,u,rfl,hp6,hu6,hb6⟩
     obtain ⟨vl6,vf6,rfl,g1,g2⟩:=hp6
     obtain ⟨D1,m1,e1,rfl⟩:=g1.shape
     obtain ⟨D2,m2,e2,rfl⟩:=g2.shape
     obtain ⟨D5,m5,e5,rfl⟩:=hu6.shape
     have hal6:=(Below.refl w6.heap.size w6).alloc (Nat.le_refl _) (.cells #[.slice D1 m1 e1,.int .i64 p6.first,.int .i64 p6.last,.slice D2 m2 e2,.bool p6.nul] 27)
     have HU6:=Hd_ (SlE.keep (hu6.mono (Nat.zero_le _) (Nat.le_refl _)) hal6)
     have hb7:=below_trans hb6 hal6
     clear g1 g2 hu6 hb6 hal6
     replace x0:=kcell hb7 x0
     replace x1:=kcell hb7 x1
     replace x2:=kcell hb7 x2
     replace x3:=kcell hb7 x3
     replace x4:=kcell hb7 x4
     replace hlq:=Nat.lt_of_lt_of_le hlq (Below.size hb7)
     have HP:=Hd_ (HP.out.keep hb7)
     have HV:=Hd_ (SlE.keep HV.out hb7)
     have HB:=Hd_ (below_trans HB.out hb7)
     clear hb7
     go_wp2_with fail
     refine (implCount _ _ p u _ HP.out HU6.out).mono ?_
     rintro e w7 ⟨rfl,hb7⟩
     have hn1:=HR1.out u
     obtain ⟨m,hm⟩:∃ m,m=cntRuns p u:=⟨_,rfl⟩
     rw [<- hm] at hn1 ⊢
     clear hm
     have hmd:decide ((m:Int)<=1)=true:=decide_eq_true (by omega)
     have HBF:=Hd_ (below_trans HB.out hb7)
     clear hb7 x0 x1 x2 x3 x4 hlq
     go_wp2_with fail
     go_ret
     exact ⟨rfl,HBF.out⟩
 | true =>
   have HR2:=Hd_ (runs_two HT.out.symm)
   cases k with
   | false =>
     go_wp2_with fail
     refine wp_region_ext_lit (by kernel_rfl) (by kernel_rfl) ?_
     repeat (go_big_quiet_step ((first | (go_at_call 19;exact Calls.ext_of (HSI.out _ (ext_below _ _))) | (go_at_call 9;exact Calls.ext_of (HIU.out _ (false) (ext_below _ _) (by rw [HUT.out];rfl))) | (go_at_call 20;exact Calls.ext_of (HSV.out _ _ (ext_below _ _) HK.out)))))
     refine wpQuiet_nil ?_
     rintro _ ⟨u2,rfl⟩
     have hbx:=ext_below w3 u2
     have HO:=Hd_ (SlE.keep HO.out hbx)
     replace x0:=kcell hbx x0
     replace x1:=kcell hbx x1
     replace x2:=kcell hbx x2
     replace x3:=kcell hbx x3
     replace x4:=kcell hbx x4
     replace hlq:=Nat.lt_of_lt_of_le hlq (Below.size hbx)
     have HP:=Hd_ (HP.out.keep hbx)
     have HV:=Hd_ (SlE.keep HV.out hbx)
     have HB:=Hd_ (below_trans HB.out hbx)
     clear hbx HSI HIU HSV HO6
     generalize ext w3 u2=w4 at *
     go_wp2_with fail
     refine (specIsWord _ (ambO p) _ HO.out).mono ?_
     rintro e w5 ⟨rfl,hw5⟩
     rw [hw5]
     clear hw5
     cases hwd:wordOk (ambO p) with
     | false =>
       clear hwd HR2
       go_wp2_with fail
       refine (drawCountRuns_any _ bs _ HV.out).mono ?_
       rintro e w6 ⟨vq,vu,p6,u,rfl,hp6,hu6,hb6⟩
       obtain ⟨vl6,vf6,rfl,g1,g2⟩:=hp6
       obtain ⟨D1,m1,e1,rfl⟩:=g1.shape
       obtain ⟨D2,m2,e2,rfl⟩:=g2.shape
       obtain ⟨D5,m5,e5,rfl⟩:=hu6.shape
       have hal6:=(Below.refl w6.heap.size w6).alloc (Nat.le_refl _) (.cells #[.slice D1 m1 e1,.int .i64 p6.first,.int .i64 p6.last,.slice D2 m2 e2,.bool p6.nul] 27)
       have HU6:=Hd_ (SlE.keep (hu6.mono (Nat.zero_le _) (Nat.le_refl _)) hal6)
       have hb7:=below_trans hb6 hal6
       clear g1 g2 hu6 hb6 hal6
       replace x0:=kcell hb7 x0
       replace x1:=kcell hb7 x1
       replace x2:=kcell hb7 x2
       replace x3:=kcell hb7 x3
       replace x4:=kcell hb7 x4
       replace hlq:=Nat.lt_of_lt_of_le hlq (Below.size hb7)
       have HP:=Hd_ (HP.out.keep hb7)
       have HV:=Hd_ (SlE.keep HV.out hb7)
       have HB:=Hd_ (below_trans HB.out hb7)
       clear hb7
       go_wp2_with fail
       go_ret
       exact ⟨rfl,HB.out⟩
     | true =>
       have hn2:=HR2.out hwd
       clear hwd HR2
       go_wp2_with fail
       refine (implCount _ _ p (ambO p) _ HP.out HO.out).mono ?_
       rintro e w5 ⟨rfl,hb5⟩
       obtain ⟨m,hm⟩:∃ m,m=cntRuns p (ambO p):=⟨_,rfl⟩
       rw [<- hm] at hn2 ⊢
       clear hm
       have hmd:decide ((m:Int) < 2)=false:=decide_eq_false (by omega)
       replace x0:=kcell hb5 x0
       replace x1:=kcell hb5 x1
       replace x2:=kcell hb5 x2
       replace x3:=kcell hb5 x3
       replace x4:=kcell hb5 x4
       replace hlq:=Nat.lt_of_lt_of_le hlq (Below.size hb5)
       have HP:=Hd_ (HP.out.keep hb5)
       have HV:=Hd_ (SlE.keep HV.out hb5)
       have HB:=Hd_ (below_trans HB.out hb5)
       clear hb5
       go_wp2_with fail
       refine (drawCountRuns_any _ bs _ HV.out).mono ?_
       rintro e w6 ⟨vq,vu,p6,u,rfl,hp6,hu6,hb6⟩
       obtain ⟨vl6,vf6,rfl,g1,g2⟩:=hp6
       obtain ⟨D1,m1,e1,rfl⟩:=g1.shape
       obtain ⟨D2,m2,e2,rfl⟩:=g2.shape
       obtain ⟨D5,m5,e5,rfl⟩:=hu6.shape
       have hal6:=(Below.refl w6.heap.size w6).alloc (Nat.le_refl _) (.cells #[.slice D1 m1 e1,.int .i64 p6.first,.int .i64 p6.last,.slice D2 m2 e2,.bool p6.nul] 27)
       have HU6:=Hd_ (SlE.keep (hu6.mono (Nat.zero_le _) (Nat.le_refl _)) hal6)
       have hb7:=below_trans hb6 hal6
       clear g1 g2 hu6 hb6 hal6
       replace x0:=kcell hb7 x0
       replace x1:=kcell hb7 x1
       replace x2:=kcell hb7 x2
       replace x3:=kcell hb7 x3
       replace x4:=kcell hb7 x4
       replace hlq:=Nat.lt_of_lt_of_le hlq (Below.size hb7)
       have HP:=Hd_ (HP.out.keep hb7)
       have HV:=Hd_ (SlE.keep HV.out hb7)
       have HB:=Hd_ (below_trans HB.out hb7)
       clear hb7
       go_wp2_with fail
       go_ret
       exact ⟨rfl,HB.out⟩
   | true =>
     go_wp2_with fail
     refine wp_region_ext_lit (by kernel_rfl) (by kernel_rfl) ?_
     repeat (go_big_quiet_step ((first | (go_at_call 19;exact Calls.ext_of (HSI.out _ (ext_below _ _))) | (go_at_call 9;exact Calls.ext_of (HIU.out _ (false) (ext_below _ _) (by rw [HUT.out];rfl))) | (go_at_call 20;exact Calls.ext_of (HSV.out _ _ (ext_below _ _) HK.out)))))
     refine wpQuiet_nil ?_
     rintro _ ⟨u2,rfl⟩
     have hbx:=ext_below w3 u2
     have HO:=Hd_ (SlE.keep HO.out hbx)
     replace x0:=kcell hbx x0
     replace x1:=kcell hbx x1
     replace x2:=kcell hbx x2
     replace x3:=kcell hbx x3
     replace x4:=kcell hbx x4
     replace hlq:=Nat.lt_of_lt_of_le hlq (Below.size hbx)
     have HP:=Hd_ (HP.out.keep hbx)
     have HV:=Hd_ (SlE.keep HV.out hbx)
     have HB:=Hd_ (below_trans HB.out hbx)
     clear hbx HSI HIU HSV HO6
     generalize ext w3 u2=w4 at *
     go_wp2_with fail
     refine (specIsWord _ (ambO p) _ HO.out).mono ?_
     rintro e w5 ⟨rfl,hw5⟩
     rw [hw5]
     clear hw5
     cases hwd:wordOk (ambO p) with
     | false =>
       clear hwd HR2
       go_wp2_with fail
       refine (drawCountRuns_any _ bs _ HV.out).mono ?_
       rintro e w6 ⟨vq,vu,p6,u,rfl,hp6,hu6,hb6⟩
       obtain ⟨vl6,vf6,rfl,g1,g2⟩:=hp6
       obtain ⟨D1,m1,e1,rfl⟩:=g1.shape
       obtain ⟨D2,m2,e2,rfl⟩:=g2.shape
       obtain ⟨D5,m5,e5,rfl⟩:=hu6.shape
       have hal6:=(Below.refl w6.heap.size w6).alloc (Nat.le_refl _) (.cells #[.slice D1 m1 e1,.int .i64 p6.first,.int .i64 p6.last,.slice D2 m2 e2,.bool p6.nul] 27)
       have HU6:=Hd_ (SlE.keep (hu6.mono (Nat.zero_le _) (Nat.le_refl _)) hal6)
       have hb7:=below_trans hb6 hal6
       clear g1 g2 hu6 hb6 hal6
       replace x0:=kcell hb7 x0
       replace x1:=kcell hb7 x1
       replace x2:=kcell hb7 x2
       replace x3:=kcell hb7 x3
       replace x4:=kcell hb7 x4
       replace hlq:=Nat.lt_of_lt_of_le hlq (Below.size hb7)
       have HP:=Hd_ (HP.out.keep hb7)
       have HV:=Hd_ (SlE.keep HV.out hb7)
       have HB:=Hd_ (below_trans HB.out hb7)
       clear hb7
       go_wp2_with fail
       go_ret
       exact ⟨rfl,HB.out⟩
     | true =>
       have hn2:=HR2.out hwd
       clear hwd HR2
       go_wp2_with fail
       refine (implCount _ _ p (ambO p) _ HP.out HO.out).mono ?_
       rintro e w5 ⟨rfl,hb5⟩
       obtain ⟨m,hm⟩:∃ m,m=cntRuns p (ambO p):=⟨_,rfl⟩
       rw [<- hm] at hn2 ⊢
       clear hm
       have hmd:decide ((m:Int) < 2)=false:=decide_eq_false (by omega)
       replace x0:=kcell hb5 x0
       replace x1:=kcell hb5 x1
       replace x2:=kcell hb5 x2
       replace x3:=kcell hb5 x3
       replace x4:=kcell hb5 x4
       replace hlq:=Nat.lt_of_lt_of_le hlq (Below.size hb5)
       have HP:=Hd_ (HP.out.keep hb5)
       have HV:=Hd_ (SlE.keep HV.out hb5)
       have HB:=Hd_ (below_trans HB.out hb5)
       clear hb5
       go_wp2_with fail
       refine (drawCountRuns_any _ bs _ HV.out).mono ?_
       rintro e w6 ⟨vq,vu,p6,u,rfl,hp6,hu6,hb6⟩
       obtain ⟨vl6,vf6,rfl,g1,g2⟩:=hp6
       obtain ⟨D1,m1,e1,rfl⟩:=g1.shape
       obtain ⟨D2,m2,e2,rfl⟩:=g2.shape
       obtain ⟨D5,m5,e5,rfl⟩:=hu6.shape
       have hal6:=(Below.refl w6.heap.size w6).alloc (Nat.le_refl _) (.cells #[.slice D1 m1 e1,.int .i64 p6.first,.int .i64 p6.last,.slice D2 m2 e2,.bool p6.nul] 27)
       have HU6:=Hd_ (SlE.keep (hu6.mono (Nat.zero_le _) (Nat.le_refl _)) hal6)
       have hb7:=below_trans hb6 hal6
       clear g1 g2 hu6 hb6 hal6
       replace x0:=kcell hb7 x0
       replace x1:=kcell hb7 x1
       replace x2:=kcell hb7 x2
       replace x3:=kcell hb7 x3
       replace x4:=kcell hb7 x4
       replace hlq:=Nat.lt_of_lt_of_le hlq (Below.size hb7)
       have HP:=Hd_ (HP.out.keep hb7)
       have HV:=Hd_ (SlE.keep HV.out hb7)
       have HB:=Hd_ (below_trans HB.out hb7)
       clear hb7
       go_wp2_with fail
       go_ret
       exact ⟨rfl,HB.out⟩
end Go.Proofs.Ythnapjodmndlaaa.fnAmbiguity
namespace Go.Proofs.Ythnapjodmndlaaa.fnAmbiguity
open Go.ChangeShapes Go.WideShapes Go.ChangeAt Go.RowKit
theorem own:ownKnob Try.prog.godebug=none:=by kernel_rfl
theorem laidOut:laidOutB Try.prog=true:=by kernel_rfl
set_option maxRecDepth 100000 in
theorem lifted (os:Os) (started:os.Started) (H:Type) (enc:TypeId × Value->H) :
 ReturnsInHanded {} Try.checked os 5 .any (Rows.fnAmbiguitySpec.pre6 enc Try.prog Try.f5 Rows.fnAmbiguityRow.domain false) (Rows.fnAmbiguitySpec.post enc Try.prog Try.f5 false true false false):=by
 refine returnsInHanded_of_change (C:=Try.checked) own started (by kernel_rfl) Try.func5
  (ChangeSpec.witness6 (enc:=enc) (C:=Try.checked) false ⟨#[],#[.slice none 0 0],[]⟩ 8 (by kernel_rfl) (by kernel_rfl) (by kernel_rfl) (by kernel_rfl)) ?_
 intro W base args ds gs before hval0 hW hcnd _
 have hval:∀ (j:Nat) t v,Try.f5.params[j]?=some t->args[j]?=some v->Value.okWide Try.prog W .any base t v:=hval0
 have hW':=hW
 obtain ⟨p,q,hA0,hV,rfl,hfz,hnd⟩:=hW
 have hA:DataW.TrodAll enc Try.prog W 0 (fun _=>true) true Try.f5.params.toList args.toList ds p:=hA0
 rw [Try.params5] at hA hval
 obtain ⟨v0,vs0,d0,ds0,p0,q0,hargs,rfl,rfl,h0,r0⟩:=trodAll_cons hA
 obtain ⟨rfl,rfl,rfl⟩:=trodAll_nil r0
 obtain rfl:args=#[v0]:=by cases args;simp_all
 obtain ⟨rfl,rfl⟩:=trodVars_none hV
 obtain ⟨a0,w0⟩:=openBytes (hval 0 36 v0 rfl rfl) h0
 refine (walk W v0 a0 w0).mono fun e W' ⟨he,hb⟩=>?_
 subst he
 exact ⟨_,rfl,law_post laidOut (by kernel_rfl) rfl Try.underlying4 rfl rfl hW' hb⟩
theorem unf:Try.pinned.checked.prog.unfollowed 5=true:=by kernel_rfl
theorem inpl:Try.pinned.checked.prog.inPlace 5=[]:=by kernel_rfl
theorem vnam:Try.pinned.checked.prog.varsNamed 5=[]:=by kernel_rfl
theorem rec_:Try.pinned.checked.prog.recurses 5=true:=by rw [Program.recurses,unf,Bool.true_or]
theorem over:Rows.fnAmbiguityRow.holds Try.pinned (OpenSpec.ofChange Rows.fnAmbiguitySpec) :=
 OpenClaim.holds_of_wide 5 Try.f5 rfl rfl rfl rfl rfl rfl rfl ⟨rfl,rfl,rfl,rfl,rfl⟩ rfl rfl rfl rfl rfl (by kernel_rfl) Try.func5 (by unfold joinedFacts;rw [seat_mayEnter,seat_lifts,seat_laidOut,seat_mapsRowed,unf,rec_,inpl,vnam];kernel_rfl)
  (of_decide_eq_true (by kernel_rfl)) (by unfold Func.isWrapper;first | (rw [if_pos (by decide +kernel)];kernel_rfl) | (rw [if_neg (by decide +kernel)];exact ⟨rfl,rfl⟩))
  (fun os started H enc _=>lifted os started H enc)
theorem proved:Rows.FnAmbiguitySaid:=over
end Go.Proofs.Ythnapjodmndlaaa.fnAmbiguity
