/- 'laws.FnWalkOrder' returns true for every list of bytes, without any condition: the matching walks are numbered in ascending order, from the least witness on, and each of them matches. -/
import Derived.Test.YtcnenpjaoalmeaaGreatOnlzNBNNNJPC
import Derived.Test.YtcnenpjaoalmeaaGreatOnlzCEJNACFF
import Derived.Test.YtcnenpjaoalmeaaGreatOnlzFOFJKPLB
import Derived.Test.YtcnenpjaoalmeaaGreatOnlzDNICBJNH
import Derived.Deep.DeepCutAuto
set_option linter.unusedVariables false
set_option linter.unusedSimpArgs false
namespace Go.Proofs.YtcnenpjaoalmeaaGreat.fnWalkOrder
open Go.ChangeShapes Go.WideShapes Go.ChangeAt Go.RowKit
attribute [local go_sem] ext_cell ext_frozen ext_lt ext_lt1 ext_lt2 ext_lt3 ltn2 ltn3 ltn13 lts1 lts2 lts3
set_option maxRecDepth 100000 in
set_option maxHeartbeats 16000000 in
theorem walk (w:World) (v0:Value) (bs:List Int) (hv0:SlI 0 w.heap.size w cU 1 v0 bs) :
 Calls Tryz.prog 3 #[v0] w fun e w'=>e=.returned (.bool true)/\Below w.heap.size w w':=by
 have HV:=Hd_ hv0
 obtain ⟨A0,c0,rfl,hl0,hm0,-⟩:=hv0
 by_cases hbig:1048576 < bs.length
 · go_enter Tryz.func3,Tryz.ntmps3
   go_wp2_with fail
   refine (big_yes _ _ _ _ hbig (by omega)).mono ?_
   rintro e w' ⟨rfl,rfl⟩
   go_wp2_with fail
   go_ret
   exact ⟨rfl,Below.refl _ _⟩
 go_enter Tryz.func3,Tryz.ntmps3
 go_wp2_with fail
 refine (big_no _ _ _ _ hbig).mono ?_
 rintro e w' ⟨rfl,rfl⟩
 clear hbig hl0 hm0
 go_wp2_with fail
 refine (drawNthWalk_any _ bs _ HV.out).mono ?_
 rintro e w1 ⟨vg,va,g,a,x,y,n,rfl,hgv,-,hav,hb1⟩
 obtain ⟨A1,n1,c1,A2,n2,c2,rfl⟩:=hgv.shape
 obtain ⟨A3,n3,c3,A4,n4,c4,rfl⟩:=hav.shape
 have hal:=((Below.refl w1.heap.size w1).alloc (Nat.le_refl _) (.cells #[.slice A1 n1 c1,.slice A2 n2 c2] 27)).alloc (by simp) (.cells #[.int .i64 a.start,.slice A3 n3 c3,.slice A4 n4 c4] 31)
 have bg:=(Blk.new w1 27 #[.slice A1 n1 c1,.slice A2 n2 c2] _ rfl).alloc (.cells #[.int .i64 a.start,.slice A3 n3 c3,.slice A4 n4 c4] 31)
 have ba:=Blk.new (w1.alloc (.cells #[.slice A1 n1 c1,.slice A2 n2 c2] 27)) 31 #[.int .i64 a.start,.slice A3 n3 c3,.slice A4 n4 c4] (w1.heap.size+1) (by simp)
 have HGV:=Hd_ (hgv.keep hal)
 have HAV:=Hd_ (hav.keep hal)
 have HB:=Hd_ (below_trans hb1 hal)
 clear hal hgv hav hb1 HV
 go_upto_region 4 with fail
 generalize ((w1.alloc (.cells #[.slice A1 n1 c1,.slice A2 n2 c2] 27)).alloc (.cells #[.int .i64 a.start,.slice A3 n3 c3,.slice A4 n4 c4] 31))=W at *
 have x0:W.cell? ⟨w1.heap.size,0,none⟩=some (.slice A1 n1 c1):=by exact bg.cell 0
 have x1:W.cell? ⟨w1.heap.size,1,none⟩=some (.slice A2 n2 c2):=by exact bg.cell 1
 have y0:W.cell? ⟨w1.heap.size+1,0,none⟩=some (.int .i64 a.start):=by exact ba.cell 0
 have y1:W.cell? ⟨w1.heap.size+1,1,none⟩=some (.slice A3 n3 c3):=by exact ba.cell 1
 have y2:W.cell? ⟨w1.heap.size+1,2,none⟩=some (.slice A4 n4 c4):=by exact ba.cell 2
 clear bg ba
 obtain ⟨R,hR⟩:∃ R,R=nthWalk g a x y n:=⟨_,rfl⟩
 have HI:=Hd_ (hR ▸ implNthWalk _ _ g a x y n W HGV.out HAV.out)
 go_wp2_with fail
 refine HI.out.mono ?_
 rintro e w2 ⟨vw,rfl,hkw,hb2⟩
 obtain ⟨k,is⟩:=R
 have HR:=Hd_ hR.symm
 clear hR HI
 simp only at hkw ⊢
 have hkv:=hkw.view.mono (Nat.zero_le _) (Nat.le_refl _)
 obtain ⟨A5,c5,rfl,hl5,hm5,-⟩:=hkv.form
 obtain ⟨N,hN⟩:∃ N,N=k.2.length:=⟨_,rfl⟩
 rw [<- hN] at hkv hl5 ⊢
 have HN:=Hd_ hN
 have hal:=(Below.refl w2.heap.size w2).alloc (Nat.le_refl _) (.cells #[.int .i64 k.1,.slice A5 N c5] 36)
 have bw:=Blk.new w2 36 #[.int .i64 k.1,.slice A5 N c5] _ rfl
 have hbx:=below_trans hb2 hal
 have x0:=kcell hbx x0
 have x1:=kcell hbx x1
 have y0:=kcell hbx y0
 have y1:=kcell hbx y1
 have y2:=kcell hbx y2
 have HGV:=Hd_ (HGV.out.keep hbx)
 have HAV:=Hd_ (HAV.out.keep hbx)
 have HKV:=Hd_ (hkv.keep hal)
 have HB:=Hd_ (below_trans HB.out hbx)
 clear hkw hkv hal hbx hb2 hN
 go_upto_region 5 with fail
 obtain ⟨wq,hwq⟩:∃ wq,wq=w2.heap.size:=⟨_,rfl⟩
 rw [<- hwq] at bw ⊢
 generalize (w2.alloc (.cells #[.int .i64 k.1,.slice A5 N c5] 36))=W2 at *
 clear hwq
 have k0:W2.cell? ⟨wq,0,none⟩=some (.int .i64 k.1):=by exact bw.cell 0
 have k1:W2.cell? ⟨wq,1,none⟩=some (.slice A5 N c5):=by exact bw.cell 1
 clear bw
 have HI:=Hd_ (HR.out ▸ specNthWalk _ _ g a x y n W2 HGV.out HAV.out)
 go_wp2_with fail
 refine HI.out.mono ?_
 rintro e w3 ⟨vv,rfl,hkw,hb3⟩
 clear HI
 simp only at hkw ⊢
 have hkv:=hkw.view.mono (Nat.zero_le _) (Nat.le_refl _)
 obtain ⟨A6,c6,rfl,hl6,hm6,-⟩:=hkv.form
 have hn6:=HN.out
 rw [<- hn6] at hkv hl6 ⊢
 have hal:=(Below.refl w3.heap.size w3).alloc (Nat.le_refl _) (.cells #[.int .i64 k.1,.slice A6 N c6] 36)
 have bw:=Blk.new w3 36 #[.int .i64 k.1,.slice A6 N c6] _ rfl
 have hbx:=below_trans hb3 hal
 have HKV2:=Hd_ (hkv.keep hal)
 have x0:=kcell hbx x0
 have x1:=kcell hbx x1
 have y0:=kcell hbx y0
 have y1:=kcell hbx y1
 have y2:=kcell hbx y2
 have k0:=kcell hbx k0
 have k1:=kcell hbx k1
 have HGV:=Hd_ (HGV.out.keep hbx)
 have HAV:=Hd_ (HAV.out.keep hbx)
 have HKV:=Hd_ (HKV.out.keep hbx)
 have HB:=Hd_ (below_trans HB.out hbx)
 clear hkw hkv hal hbx hb3 hn6
 go_upto_region 6 with fail
 obtain ⟨vq,hvq⟩:∃ vq,vq=w3.heap.size:=⟨_,rfl⟩
 rw [<- hvq] at bw ⊢
 generalize (w3.alloc (.cells #[.int .i64 k.1,.slice A6 N c6] 36))=W3 at *
 clear hvq
 have j0:W3.cell? ⟨vq,0,none⟩=some (.int .i64 k.1):=by exact bw.cell 0
 have j1:W3.cell? ⟨vq,1,none⟩=some (.slice A6 N c6):=by exact bw.cell 1
 clear bw
 have hbb:(is != is)=false:=by simp
 have HC:=Hd_ (show Calls Tryz.prog 11 #[.agg #[.int .i64 k.1,.slice A5 N c5],.agg #[.int .i64 k.1,.slice A6 N c6]] W3 fun e w'=>e=.returned (.int .i64 0)/\Below W3.heap.size W3 w' by
  have h:=specCompareWalks _ _ k k W3 HKV.out HKV2.out
  rwa [cmpWk_self] at h)
 go_wp2_with fail
 refine HC.out.mono ?_
 rintro e w4 ⟨rfl,hb4⟩
 clear HC hbb
 have x0:=kcell hb4 x0
 have x1:=kcell hb4 x1
 have y0:=kcell hb4 y0
 have y1:=kcell hb4 y1
 have y2:=kcell hb4 y2
 have k0:=kcell hb4 k0
 have k1:=kcell hb4 k1
 have HGV:=Hd_ (HGV.out.keep hb4)
 have HAV:=Hd_ (HAV.out.keep hb4)
 have HKV:=Hd_ (HKV.out.keep hb4)
 have HB:=Hd_ (below_trans HB.out hb4)
 clear hb4 HKV2 j0 j1
 cases is with
 | false =>
   have hk0:=nthWalk_none (by rw [HR.out])
   rw [HR.out] at hk0
   have hN0:N=0:=by rw [HN.out];simp only at hk0;rw [hk0];rfl
   subst hN0
   clear hk0
   go_wp2_with fail
   go_ret
   exact ⟨rfl,HB.out⟩
 | true =>
   have hwp:=walk_parts2 HR.out
   have hwit:=nthWalk_wit HR.out
   rw [<- HN.out] at hwit
   have HIW:=Hd_ (fun W (hgv:GrV 0 W.heap.size W (.agg #[.slice A1 n1 c1,.slice A2 n2 c2]) g) (hav:AuV 0 W.heap.size W (.agg #[.int .i64 a.start,.slice A3 n3 c3,.slice A4 n4 c4]) a) (hkv:WkV 0 W.heap.size W (.agg #[.int .i64 k.1,.slice A5 N c5]) k)=>show Calls Tryz.prog 13 #[.agg #[.slice A1 n1 c1,.slice A2 n2 c2],.agg #[.int .i64 a.start,.slice A3 n3 c3,.slice A4 n4 c4],.int .i64 x,.int .i64 y,.agg #[.int .i64 k.1,.slice A5 N c5]] W fun e w'=>e=.returned (.bool true)/\Below W.heap.size W w' by
    have h:=implIsWitness _ _ _ g a x y k W hgv hav hkv
    rwa [hwit.1] at h)
   have HCD:=Hd_ (show decide (cntWalks g a x y (N:Int) > 0)=true by simpa using hwit.2)
   by_cases hn0:0 < n
   · have HPV:=Hd_ (nthWalk_prev HR.out hn0)
     have hn9:n<=999999:=hwp.2.1.2
     have q9:IntKind.i64.wrap (n - 1)=n - 1:=IntWalk.i64_in _ (by omega)
     have hd0:decide (n > 0)=true:=by simpa using hn0
     clear hwp hwit
     obtain ⟨u,hu,hcmp⟩:=HPV.out
     have HI:=Hd_ (fun W (hgv:GrV 0 W.heap.size W (.agg #[.slice A1 n1 c1,.slice A2 n2 c2]) g) (hav:AuV 0 W.heap.size W (.agg #[.int .i64 a.start,.slice A3 n3 c3,.slice A4 n4 c4]) a)=>hu ▸ implNthWalk _ _ g a x y (n - 1) W hgv hav)
     have hdc:decide (cmpWk u k >= 0)=false:=by simp;omega
     clear hu hcmp HPV
     go_wp2_with fail
     refine (HI.out _ HGV.out HAV.out).mono ?_
     rintro e w5 ⟨vu,rfl,hku,hb5⟩
     simp only at hku ⊢
     have hkv:=hku.view.mono (Nat.zero_le _) (Nat.le_refl _)
     obtain ⟨A7,n7,c7,rfl⟩:=hkv.shape
     have hal:=(Below.refl w5.heap.size w5).alloc (Nat.le_refl _) (.cells #[.int .i64 u.1,.slice A7 n7 c7] 36)
     have bw:=Blk.new w5 36 #[.int .i64 u.1,.slice A7 n7 c7] _ rfl
     have hbx:=below_trans hb5 hal
     have HKU:=Hd_ (hkv.keep hal)
     have x0:=kcell hbx x0
     have x1:=kcell hbx x1
     have y0:=kcell hbx y0
     have y1:=kcell hbx y1
     have y2:=kcell hbx y2
     have k0:=kcell hbx k0
     have k1:=kcell hbx k1
     have HGV:=Hd_ (HGV.out.keep hbx)
     have HAV:=Hd_ (HAV.out.keep hbx)
     have HKV:=Hd_ (HKV.out.keep hbx)
     have HB:=Hd_ (below_trans HB.out hbx)
     clear hku hkv hal hbx hb5 HI
     go_upto_region 12 with fail
     obtain ⟨uq,huq⟩:∃ uq,uq=w5.heap.size:=⟨_,rfl⟩
     rw [<- huq] at bw ⊢
     generalize (w5.alloc (.cells #[.int .i64 u.1,.slice A7 n7 c7] 36))=W5 at *
     clear huq
     have j0:W5.cell? ⟨uq,0,none⟩=some (.int .i64 u.1):=by exact bw.cell 0
     have j1:W5.cell? ⟨uq,1,none⟩=some (.slice A7 n7 c7):=by exact bw.cell 1
     clear bw
     go_wp2_with fail
     refine (specCompareWalks _ _ u k _ HKU.out HKV.out).mono ?_
     rintro e w6 ⟨rfl,hb6⟩
     have x0:=kcell hb6 x0
     have x1:=kcell hb6 x1
     have y0:=kcell hb6 y0
     have y1:=kcell hb6 y1
     have y2:=kcell hb6 y2
     have k0:=kcell hb6 k0
     have k1:=kcell hb6 k1
     have HGV:=Hd_ (HGV.out.keep hb6)
     have HAV:=Hd_ (HAV.out.keep hb6)
     have HKV:=Hd_ (HKV.out.keep hb6)
     have HB:=Hd_ (below_trans HB.out hb6)
     clear hb6 HKU j0 j1
     go_wp2_with fail
     refine (HIW.out _ HGV.out HAV.out HKV.out).mono ?_
     rintro e w20 ⟨rfl,hb20⟩
     have x0:=kcell hb20 x0
     have x1:=kcell hb20 x1
     have y0:=kcell hb20 y0
     have y1:=kcell hb20 y1
     have y2:=kcell hb20 y2
     have k0:=kcell hb20 k0
     have k1:=kcell hb20 k1
     have HGV:=Hd_ (HGV.out.keep hb20)
     have HAV:=Hd_ (HAV.out.keep hb20)
     have HKV:=Hd_ (HKV.out.keep hb20)
     have HB:=Hd_ (below_trans HB.out hb20)
     clear hb20
     go_wp2_with fail
     refine (implCountWalks _ _ g a x y (N:Int) _ HGV.out HAV.out).mono ?_
     rintro e w21 ⟨rfl,hb21⟩
     have HB:=Hd_ (below_trans HB.out hb21)
     clear hb21
     have hcd:=HCD.out
     go_wp2_with fail
     go_ret
     exact ⟨rfl,HB.out⟩
   · have hn00:n=0:=by omega
     subst hn00
     have hls:lstShort g a x y=(k,true):=by rw [<- nthWalk_zero hwp.1];exact HR.out
     clear hwp hwit
     have HI:=Hd_ (fun W (hgv:GrV 0 W.heap.size W (.agg #[.slice A1 n1 c1,.slice A2 n2 c2]) g) (hav:AuV 0 W.heap.size W (.agg #[.int .i64 a.start,.slice A3 n3 c3,.slice A4 n4 c4]) a)=>hls ▸ specLeastWitness _ _ g a x y W hgv hav)
     clear hls
     go_wp2_with fail
     refine (HI.out _ HGV.out HAV.out).mono ?_
     rintro e w5 ⟨vu,rfl,hku,hb5⟩
     simp only at hku ⊢
     have hkv:=hku.view.mono (Nat.zero_le _) (Nat.le_refl _)
     obtain ⟨A7,n7,c7,rfl⟩:=hkv.shape
     have hal:=(Below.refl w5.heap.size w5).alloc (Nat.le_refl _) (.cells #[.int .i64 k.1,.slice A7 n7 c7] 36)
     have bw:=Blk.new w5 36 #[.int .i64 k.1,.slice A7 n7 c7] _ rfl
     have hbx:=below_trans hb5 hal
     have HKU:=Hd_ (hkv.keep hal)
     have x0:=kcell hbx x0
     have x1:=kcell hbx x1
     have y0:=kcell hbx y0
     have y1:=kcell hbx y1
     have y2:=kcell hbx y2
     have k0:=kcell hbx k0
     have k1:=kcell hbx k1
     have HGV:=Hd_ (HGV.out.keep hbx)
     have HAV:=Hd_ (HAV.out.keep hbx)
     have HKV:=Hd_ (HKV.out.keep hbx)
     have HB:=Hd_ (below_trans HB.out hbx)
     clear hku hkv hal hbx hb5 HI
     go_upto_region 15 with fail
     obtain ⟨uq,huq⟩:∃ uq,uq=w5.heap.size:=⟨_,rfl⟩
     rw [<- huq] at bw ⊢
     generalize (w5.alloc (.cells #[.int .i64 k.1,.slice A7 n7 c7] 36))=W5 at *
     clear huq
     have j0:W5.cell? ⟨uq,0,none⟩=some (.int .i64 k.1):=by exact bw.cell 0
     have j1:W5.cell? ⟨uq,1,none⟩=some (.slice A7 n7 c7):=by exact bw.cell 1
     clear bw
     have HC:=Hd_ (show Calls Tryz.prog 11 #[.agg #[.int .i64 k.1,.slice A7 n7 c7],.agg #[.int .i64 k.1,.slice A5 N c5]] W5 fun e w'=>e=.returned (.int .i64 0)/\Below W5.heap.size W5 w' by
      have h:=specCompareWalks _ _ k k W5 HKU.out HKV.out
      rwa [cmpWk_self] at h)
     go_wp2_with fail
     refine HC.out.mono ?_
     rintro e w6 ⟨rfl,hb6⟩
     have x0:=kcell hb6 x0
     have x1:=kcell hb6 x1
     have y0:=kcell hb6 y0
     have y1:=kcell hb6 y1
     have y2:=kcell hb6 y2
     have k0:=kcell hb6 k0
     have k1:=kcell hb6 k1
     have HGV:=Hd_ (HGV.out.keep hb6)
     have HAV:=Hd_ (HAV.out.keep hb6)
     have HKV:=Hd_ (HKV.out.keep hb6)
     have HB:=Hd_ (below_trans HB.out hb6)
     clear hb6 HKU j0 j1 HC
     go_wp2_with fail
     refine (HIW.out _ HGV.out HAV.out HKV.out).mono ?_
     rintro e w20 ⟨rfl,hb20⟩
     have x0:=kcell hb20 x0
     have x1:=kcell hb20 x1
     have y0:=kcell hb20 y0
     have y1:=kcell hb20 y1
     have y2:=kcell hb20 y2
     have k0:=kcell hb20 k0
     have k1:=kcell hb20 k1
     have HGV:=Hd_ (HGV.out.keep hb20)
     have HAV:=Hd_ (HAV.out.keep hb20)
     have HKV:=Hd_ (HKV.out.keep hb20)
     have HB:=Hd_ (below_trans HB.out hb20)
     clear hb20
     go_wp2_with fail
     refine (implCountWalks _ _ g a x y (N:Int) _ HGV.out HAV.out).mono ?_
     rintro e w21 ⟨rfl,hb21⟩
     have HB:=Hd_ (below_trans HB.out hb21)
     clear hb21
     have hcd:=HCD.out
     go_wp2_with fail
     go_ret
     exact ⟨rfl,HB.out⟩
end Go.Proofs.YtcnenpjaoalmeaaGreat.fnWalkOrder
namespace Go.Proofs.YtcnenpjaoalmeaaGreat.fnWalkOrder
open Go.ChangeShapes Go.WideShapes Go.ChangeAt Go.RowKit
theorem own:ownKnob Tryz.prog.godebug=none:=by kernel_rfl
theorem laidOut:laidOutB Tryz.prog=true:=by kernel_rfl
set_option maxRecDepth 100000 in
theorem lifted (os:Os) (started:os.Started) (H:Type) (enc:TypeId × Value->H) :
 ReturnsInHanded {} Tryz.checked os 3 .any (Rows.fnWalkOrderSpec.pre6 enc Tryz.prog Tryz.f3 Rows.fnWalkOrderRow.domain false) (Rows.fnWalkOrderSpec.post enc Tryz.prog Tryz.f3 false true false false):=by
 refine returnsInHanded_of_change (C:=Tryz.checked) own started (by kernel_rfl) Tryz.func3
  (ChangeSpec.witness6 (enc:=enc) (C:=Tryz.checked) false ⟨#[],#[.slice none 0 0],[]⟩ 8 (by kernel_rfl) (by kernel_rfl) (by kernel_rfl) (by kernel_rfl)) ?_
 intro W base args ds gs before hval0 hW hcnd _
 have hval:∀ (j:Nat) t v,Tryz.f3.params[j]?=some t->args[j]?=some v->Value.okWide Tryz.prog W .any base t v:=hval0
 have hW':=hW
 obtain ⟨p,q,hA0,hV,rfl,hfz,hnd⟩:=hW
 have hA:DataW.TrodAll enc Tryz.prog W 0 (fun _=>true) true Tryz.f3.params.toList args.toList ds p:=hA0
 rw [Tryz.params3] at hA hval
 obtain ⟨v0,vs0,d0,ds0,p0,q0,hargs,rfl,rfl,h0,r0⟩:=trodAll_cons hA
 obtain ⟨rfl,rfl,rfl⟩:=trodAll_nil r0
 obtain rfl:args=#[v0]:=by cases args;simp_all
 obtain ⟨rfl,rfl⟩:=trodVars_none hV
 obtain ⟨a0,w0⟩:=openBytes (hval 0 22 v0 rfl rfl) h0
 refine (walk W v0 a0 w0).mono fun e W' ⟨he,hb⟩=>?_
 subst he
 exact ⟨_,rfl,law_post laidOut (by kernel_rfl) rfl Tryz.underlying4 rfl rfl hW' hb⟩
theorem unf:Tryz.pinned.checked.prog.unfollowed 3=true:=by kernel_rfl
theorem inpl:Tryz.pinned.checked.prog.inPlace 3=[]:=by kernel_rfl
theorem vnam:Tryz.pinned.checked.prog.varsNamed 3=[]:=by kernel_rfl
theorem rec_:Tryz.pinned.checked.prog.recurses 3=true:=by rw [Program.recurses,unf,Bool.true_or]
theorem over:Rows.fnWalkOrderRow.holds Tryz.pinned (OpenSpec.ofChange Rows.fnWalkOrderSpec) :=
 OpenClaim.holds_of_wide 3 Tryz.f3 rfl rfl rfl rfl rfl rfl rfl ⟨rfl,rfl,rfl,rfl,rfl⟩ rfl rfl rfl rfl rfl (by kernel_rfl) Tryz.func3 (by unfold joinedFacts;rw [seat_mayEnter,seat_lifts,seat_laidOut,seat_mapsRowed,unf,rec_,inpl,vnam];kernel_rfl)
  (of_decide_eq_true (by kernel_rfl)) (by unfold Func.isWrapper;first | (rw [if_pos (by decide +kernel)];kernel_rfl) | (rw [if_neg (by decide +kernel)];exact ⟨rfl,rfl⟩))
  (fun os started H enc _=>lifted os started H enc)
theorem proved:Rows.FnWalkOrderSaid:=over
end Go.Proofs.YtcnenpjaoalmeaaGreat.fnWalkOrder
