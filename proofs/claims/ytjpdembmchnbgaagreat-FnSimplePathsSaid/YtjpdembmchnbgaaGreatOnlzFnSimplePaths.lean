/- 'laws.FnSimplePaths' returns true for every list of bytes, without any condition: a simple path that is found is a witness without a repeated node, and one is found if and only if the number of simple paths is positive. -/
import Derived.Test.YtjpdembmchnbgaaGreatOnlzALPFPLEE
import Derived.Test.YtjpdembmchnbgaaGreatOnlzLOBKOOKG
import Derived.Test.YtjpdembmchnbgaaGreatOnlzCEBPBMGK
import Derived.Test.YtjpdembmchnbgaaGreatOnlzKNJDBEIA
import Derived.Test.YtjpdembmchnbgaaGreatOnlzNEKLANKE
import Derived.Deep.DeepCutAuto
set_option linter.unusedVariables false
set_option linter.unusedSimpArgs false
namespace Go.Proofs.YtjpdembmchnbgaaGreat.fnSimplePaths
open Go.ChangeShapes Go.WideShapes Go.ChangeAt Go.RowKit
attribute [local go_sem] ext_cell ext_frozen ext_lt ext_lt1 ext_lt2 ext_lt3 ltn2 ltn3 ltn13 lts1 lts2 lts3
set_option maxRecDepth 100000 in
set_option maxHeartbeats 16000000 in
theorem walk (w:World) (v0:Value) (bs:List Int) (hv0:SlI 0 w.heap.size w cU 1 v0 bs) :
 Calls Tryz.prog 5 #[v0] w fun e w'=>e=.returned (.bool true)/\Below w.heap.size w w':=by
 have HV:=Hd_ hv0
 obtain ⟨A0,c0,rfl,hl0,hm0,-⟩:=hv0
 by_cases hbig:1048576 < bs.length
 · go_enter Tryz.func5,Tryz.ntmps5
   go_wp2_with fail
   refine (big_yes _ _ _ _ hbig (by omega)).mono ?_
   rintro e w' ⟨rfl,rfl⟩
   go_wp2_with fail
   go_ret
   exact ⟨rfl,Below.refl _ _⟩
 go_enter Tryz.func5,Tryz.ntmps5
 go_wp2_with fail
 refine (big_no _ _ _ _ hbig).mono ?_
 rintro e w' ⟨rfl,rfl⟩
 clear hbig hl0 hm0
 go_wp2_with fail
 refine (drawSearchSimplePath_any _ bs _ HV.out).mono ?_
 rintro e w1 ⟨vg,va,g,a,x,y,B,rfl,hgv,-,hav,hb1⟩
 obtain ⟨A1,n1,c1,A2,n2,c2,rfl⟩:=hgv.shape
 obtain ⟨A3,n3,c3,A4,n4,c4,rfl⟩:=hav.shape
 have hal:=((Below.refl w1.heap.size w1).alloc (Nat.le_refl _) (.cells #[.slice A1 n1 c1,.slice A2 n2 c2] 27)).alloc (by simp) (.cells #[.int .i64 a.start,.slice A3 n3 c3,.slice A4 n4 c4] 31)
 have bg:=(Blk.new w1 27 #[.slice A1 n1 c1,.slice A2 n2 c2] _ rfl).alloc (.cells #[.int .i64 a.start,.slice A3 n3 c3,.slice A4 n4 c4] 31)
 have ba:=Blk.new (w1.alloc (.cells #[.slice A1 n1 c1,.slice A2 n2 c2] 27)) 31 #[.int .i64 a.start,.slice A3 n3 c3,.slice A4 n4 c4] (w1.heap.size+1) (by simp)
 have HGV:=Hd_ (hgv.keep hal)
 have HAV:=Hd_ (hav.keep hal)
 have HB:=Hd_ (below_trans hb1 hal)
 clear hal hgv hav hb1 HV
 go_upto_region 4 with fail
 generalize ((w1.alloc (.cells #[.slice A1 n1 c1,.slice A2 n2 c2] 27)).alloc (.cells #[.int .i64 a.start,.slice A3 n3 c3,.slice A4 n4 c4] 31))=W at *
 have x0:W.cell? ⟨w1.heap.size,0,none⟩=some (.slice A1 n1 c1):=by exact bg.cell 0
 have x1:W.cell? ⟨w1.heap.size,1,none⟩=some (.slice A2 n2 c2):=by exact bg.cell 1
 have y0:W.cell? ⟨w1.heap.size+1,0,none⟩=some (.int .i64 a.start):=by exact ba.cell 0
 have y1:W.cell? ⟨w1.heap.size+1,1,none⟩=some (.slice A3 n3 c3):=by exact ba.cell 1
 have y2:W.cell? ⟨w1.heap.size+1,2,none⟩=some (.slice A4 n4 c4):=by exact ba.cell 2
 clear bg ba
 obtain ⟨k,cd,hk⟩:∃ k cd,srchL g a x y B true=(k,cd):=⟨_,_,rfl⟩
 have HK:=Hd_ hk
 have HI:=Hd_ (hk ▸ implSearchSimplePath _ _ g a x y B W HGV.out HAV.out)
 go_wp2_with fail
 refine HI.out.mono ?_
 rintro e w2 ⟨vw,rfl,hkw,hb2⟩
 clear HI
 simp only at hkw ⊢
 have hkv:=hkw.view.mono (Nat.zero_le _) (Nat.le_refl _)
 obtain ⟨A5,c5,rfl,hl5,hm5,-⟩:=hkv.form
 obtain ⟨N,hN⟩:∃ N,N=k.2.length:=⟨_,rfl⟩
 rw [<- hN] at hkv hl5 ⊢
 have HN:=Hd_ hN
 have hal:=(Below.refl w2.heap.size w2).alloc (Nat.le_refl _) (.cells #[.int .i64 k.1,.slice A5 N c5] 39)
 have bw:=Blk.new w2 39 #[.int .i64 k.1,.slice A5 N c5] _ rfl
 have hbx:=below_trans hb2 hal
 have x0:=kcell hbx x0
 have x1:=kcell hbx x1
 have y0:=kcell hbx y0
 have y1:=kcell hbx y1
 have y2:=kcell hbx y2
 have HGV:=Hd_ (HGV.out.keep hbx)
 have HAV:=Hd_ (HAV.out.keep hbx)
 have HKV:=Hd_ (hkv.keep hal)
 have HB:=Hd_ (below_trans HB.out hbx)
 clear hkw hkv hal hbx hb2 hN
 go_upto_region 5 with fail
 obtain ⟨wq,hwq⟩:∃ wq,wq=w2.heap.size:=⟨_,rfl⟩
 rw [<- hwq] at bw ⊢
 generalize (w2.alloc (.cells #[.int .i64 k.1,.slice A5 N c5] 39))=W2 at *
 clear hwq
 have k0:W2.cell? ⟨wq,0,none⟩=some (.int .i64 k.1):=by exact bw.cell 0
 have k1:W2.cell? ⟨wq,1,none⟩=some (.slice A5 N c5):=by exact bw.cell 1
 clear bw
 have HI:=Hd_ (hk ▸ specSearchSimplePath _ _ g a x y B W2 HGV.out HAV.out)
 clear hk
 go_wp2_with fail
 refine HI.out.mono ?_
 rintro e w3 ⟨vv,rfl,hkw,hb3⟩
 clear HI
 simp only at hkw ⊢
 have hkv:=hkw.view.mono (Nat.zero_le _) (Nat.le_refl _)
 obtain ⟨A6,n6,c6,rfl⟩:=hkv.shape
 have hal:=(Below.refl w3.heap.size w3).alloc (Nat.le_refl _) (.cells #[.int .i64 k.1,.slice A6 n6 c6] 39)
 have bw:=Blk.new w3 39 #[.int .i64 k.1,.slice A6 n6 c6] _ rfl
 have hbx:=below_trans hb3 hal
 have HKV2:=Hd_ (hkv.keep hal)
 have x0:=kcell hbx x0
 have x1:=kcell hbx x1
 have y0:=kcell hbx y0
 have y1:=kcell hbx y1
 have y2:=kcell hbx y2
 have k0:=kcell hbx k0
 have k1:=kcell hbx k1
 have HGV:=Hd_ (HGV.out.keep hbx)
 have HAV:=Hd_ (HAV.out.keep hbx)
 have HKV:=Hd_ (HKV.out.keep hbx)
 have HB:=Hd_ (below_trans HB.out hbx)
 clear hkw hkv hal hbx hb3
 go_upto_region 6 with fail
 obtain ⟨vq,hvq⟩:∃ vq,vq=w3.heap.size:=⟨_,rfl⟩
 rw [<- hvq] at bw ⊢
 generalize (w3.alloc (.cells #[.int .i64 k.1,.slice A6 n6 c6] 39))=W3 at *
 clear hvq
 have j0:W3.cell? ⟨vq,0,none⟩=some (.int .i64 k.1):=by exact bw.cell 0
 have j1:W3.cell? ⟨vq,1,none⟩=some (.slice A6 n6 c6):=by exact bw.cell 1
 clear bw
 obtain ⟨C,hC⟩:∃ C,cntSimple g a x y=C:=⟨_,rfl⟩
 have HCC:=Hd_ hC
 have HI:=Hd_ (hC ▸ implCountSimplePaths _ _ g a x y W3 HGV.out HAV.out)
 go_wp2_with fail
 refine HI.out.mono ?_
 rintro e w4 ⟨rfl,hb4⟩
 have HKV2:=Hd_ (HKV2.out.keep hb4)
 have j0:=kcell hb4 j0
 have j1:=kcell hb4 j1
 have x0:=kcell hb4 x0
 have x1:=kcell hb4 x1
 have y0:=kcell hb4 y0
 have y1:=kcell hb4 y1
 have y2:=kcell hb4 y2
 have k0:=kcell hb4 k0
 have k1:=kcell hb4 k1
 have HGV:=Hd_ (HGV.out.keep hb4)
 have HAV:=Hd_ (HAV.out.keep hb4)
 have HKV:=Hd_ (HKV.out.keep hb4)
 have HB:=Hd_ (below_trans HB.out hb4)
 clear hb4 HI
 have HC:=Hd_ (show Calls Tryz.prog 14 #[.agg #[.int .i64 k.1,.slice A5 N c5],.agg #[.int .i64 k.1,.slice A6 n6 c6]] w4 fun e w'=>e=.returned (.int .i64 0)/\Below w4.heap.size w4 w' by
  have h:=specCompareWalks _ _ k k w4 HKV.out HKV2.out
  rwa [cmpWk_self] at h)
 have HI:=Hd_ (fun W (hgv:GrV 0 W.heap.size W (.agg #[.slice A1 n1 c1,.slice A2 n2 c2]) g) (hav:AuV 0 W.heap.size W (.agg #[.int .i64 a.start,.slice A3 n3 c3,.slice A4 n4 c4]) a)=>hC ▸ specCountSimple _ _ g a x y W hgv hav)
 clear hC
 have hcc:(cd != cd)=false:=by simp
 have hcz:(C != C)=false:=by simp
 go_wp2_with fail
 refine HC.out.mono ?_
 rintro e w5 ⟨rfl,hb5⟩
 have x0:=kcell hb5 x0
 have x1:=kcell hb5 x1
 have y0:=kcell hb5 y0
 have y1:=kcell hb5 y1
 have y2:=kcell hb5 y2
 have k0:=kcell hb5 k0
 have k1:=kcell hb5 k1
 have HGV:=Hd_ (HGV.out.keep hb5)
 have HAV:=Hd_ (HAV.out.keep hb5)
 have HKV:=Hd_ (HKV.out.keep hb5)
 have HB:=Hd_ (below_trans HB.out hb5)
 clear hb5 HKV2 j0 j1 HC
 go_wp2_with fail
 refine (HI.out _ HGV.out HAV.out).mono ?_
 rintro e w6 ⟨rfl,hb6⟩
 have x0:=kcell hb6 x0
 have x1:=kcell hb6 x1
 have y0:=kcell hb6 y0
 have y1:=kcell hb6 y1
 have y2:=kcell hb6 y2
 have k0:=kcell hb6 k0
 have k1:=kcell hb6 k1
 have HGV:=Hd_ (HGV.out.keep hb6)
 have HAV:=Hd_ (HAV.out.keep hb6)
 have HKV:=Hd_ (HKV.out.keep hb6)
 have HB:=Hd_ (below_trans HB.out hb6)
 clear hb6 HI
 by_cases hc1:cd=1
 · subst hc1
   obtain ⟨t0,t1,t2,t3⟩:=simples_found HK.out
   have h0:0 < C:=by rw [<- HCC.out];exact t0
   have HT:=Hd_ (fun W (hgv:GrV 0 W.heap.size W (.agg #[.slice A1 n1 c1,.slice A2 n2 c2]) g) (hav:AuV 0 W.heap.size W (.agg #[.int .i64 a.start,.slice A3 n3 c3,.slice A4 n4 c4]) a) (hkv:WkV 0 W.heap.size W (.agg #[.int .i64 k.1,.slice A5 N c5]) k)=>t1 ▸ implIsSimpleWitness _ _ _ g a x y k W hgv hav hkv)
   have HS:=Hd_ (fun W (hgv:GrV 0 W.heap.size W (.agg #[.slice A1 n1 c1,.slice A2 n2 c2]) g) (hkv:WkV 0 W.heap.size W (.agg #[.int .i64 k.1,.slice A5 N c5]) k)=>t2 ▸ specIsSimple _ _ g k W hgv hkv)
   have HH:=Hd_ (fun W (hgv:GrV 0 W.heap.size W (.agg #[.slice A1 n1 c1,.slice A2 n2 c2]) g) (hkv:WkV 0 W.heap.size W (.agg #[.int .i64 k.1,.slice A5 N c5]) k)=>t3 ▸ implIsTrail _ _ g k W hgv hkv)
   clear t0 t1 t2 t3
   go_wp2_with fail
   refine (HT.out _ HGV.out HAV.out HKV.out).mono ?_
   rintro e w7 ⟨rfl,hb7⟩
   have x0:=kcell hb7 x0
   have x1:=kcell hb7 x1
   have y0:=kcell hb7 y0
   have y1:=kcell hb7 y1
   have y2:=kcell hb7 y2
   have k0:=kcell hb7 k0
   have k1:=kcell hb7 k1
   have HGV:=Hd_ (HGV.out.keep hb7)
   have HAV:=Hd_ (HAV.out.keep hb7)
   have HKV:=Hd_ (HKV.out.keep hb7)
   have HB:=Hd_ (below_trans HB.out hb7)
   clear hb7
   go_wp2_with fail
   refine (HS.out _ HGV.out HKV.out).mono ?_
   rintro e w8 ⟨rfl,hb8⟩
   have x0:=kcell hb8 x0
   have x1:=kcell hb8 x1
   have y0:=kcell hb8 y0
   have y1:=kcell hb8 y1
   have y2:=kcell hb8 y2
   have k0:=kcell hb8 k0
   have k1:=kcell hb8 k1
   have HGV:=Hd_ (HGV.out.keep hb8)
   have HAV:=Hd_ (HAV.out.keep hb8)
   have HKV:=Hd_ (HKV.out.keep hb8)
   have HB:=Hd_ (below_trans HB.out hb8)
   clear hb8
   go_wp2_with fail
   refine (HH.out _ HGV.out HKV.out).mono ?_
   rintro e w9 ⟨rfl,hb9⟩
   have HB:=Hd_ (below_trans HB.out hb9)
   go_wp2_with fail
   go_ret
   exact ⟨rfl,HB.out⟩
 · have hk0:k.2=[]:=by
    have h:=srchL_cases g a x y B true
    rw [HK.out] at h
    exact h.resolve_left hc1
   have hN0:N=0:=by rw [HN.out,hk0];rfl
   subst hN0
   have hce:(cd==1)=false:=by simpa using hc1
   clear hk0
   by_cases hc2:cd=2
   · subst hc2
     have h0:C=0:=by rw [<- HCC.out];exact none_count (B:=B) (by rw [HK.out])
     subst h0
     go_wp2_with fail
     go_ret
     exact ⟨rfl,HB.out⟩
   · have hcf:(cd==2)=false:=by simpa using hc2
     go_wp2_with fail
     go_ret
     exact ⟨rfl,HB.out⟩
end Go.Proofs.YtjpdembmchnbgaaGreat.fnSimplePaths
namespace Go.Proofs.YtjpdembmchnbgaaGreat.fnSimplePaths
open Go.ChangeShapes Go.WideShapes Go.ChangeAt Go.RowKit
theorem own:ownKnob Tryz.prog.godebug=none:=by kernel_rfl
theorem laidOut:laidOutB Tryz.prog=true:=by kernel_rfl
set_option maxRecDepth 100000 in
theorem lifted (os:Os) (started:os.Started) (H:Type) (enc:TypeId × Value->H) :
 ReturnsInHanded {} Tryz.checked os 5 .any (Rows.fnSimplePathsSpec.pre6 enc Tryz.prog Tryz.f5 Rows.fnSimplePathsRow.domain false) (Rows.fnSimplePathsSpec.post enc Tryz.prog Tryz.f5 false true false false):=by
 refine returnsInHanded_of_change (C:=Tryz.checked) own started (by kernel_rfl) Tryz.func5
  (ChangeSpec.witness6 (enc:=enc) (C:=Tryz.checked) false ⟨#[],#[.slice none 0 0],[]⟩ 8 (by kernel_rfl) (by kernel_rfl) (by kernel_rfl) (by kernel_rfl)) ?_
 intro W base args ds gs before hval0 hW hcnd _
 have hval:∀ (j:Nat) t v,Tryz.f5.params[j]?=some t->args[j]?=some v->Value.okWide Tryz.prog W .any base t v:=hval0
 have hW':=hW
 obtain ⟨p,q,hA0,hV,rfl,hfz,hnd⟩:=hW
 have hA:DataW.TrodAll enc Tryz.prog W 0 (fun _=>true) true Tryz.f5.params.toList args.toList ds p:=hA0
 rw [Tryz.params5] at hA hval
 obtain ⟨v0,vs0,d0,ds0,p0,q0,hargs,rfl,rfl,h0,r0⟩:=trodAll_cons hA
 obtain ⟨rfl,rfl,rfl⟩:=trodAll_nil r0
 obtain rfl:args=#[v0]:=by cases args;simp_all
 obtain ⟨rfl,rfl⟩:=trodVars_none hV
 obtain ⟨a0,w0⟩:=openBytes (hval 0 22 v0 rfl rfl) h0
 refine (walk W v0 a0 w0).mono fun e W' ⟨he,hb⟩=>?_
 subst he
 exact ⟨_,rfl,law_post laidOut (by kernel_rfl) rfl Tryz.underlying4 rfl rfl hW' hb⟩
theorem unf:Tryz.pinned.checked.prog.unfollowed 5=true:=by kernel_rfl
theorem inpl:Tryz.pinned.checked.prog.inPlace 5=[]:=by kernel_rfl
theorem vnam:Tryz.pinned.checked.prog.varsNamed 5=[]:=by kernel_rfl
theorem rec_:Tryz.pinned.checked.prog.recurses 5=true:=by rw [Program.recurses,unf,Bool.true_or]
theorem over:Rows.fnSimplePathsRow.holds Tryz.pinned (OpenSpec.ofChange Rows.fnSimplePathsSpec) :=
 OpenClaim.holds_of_wide 5 Tryz.f5 rfl rfl rfl rfl rfl rfl rfl ⟨rfl,rfl,rfl,rfl,rfl⟩ rfl rfl rfl rfl rfl (by kernel_rfl) Tryz.func5 (by unfold joinedFacts;rw [seat_mayEnter,seat_lifts,seat_laidOut,seat_mapsRowed,unf,rec_,inpl,vnam];kernel_rfl)
  (of_decide_eq_true (by kernel_rfl)) (by unfold Func.isWrapper;first | (rw [if_pos (by decide +kernel)];kernel_rfl) | (rw [if_neg (by decide +kernel)];exact ⟨rfl,rfl⟩))
  (fun os started H enc _=>lifted os started H enc)
theorem proved:Rows.FnSimplePathsSaid:=over
end Go.Proofs.YtjpdembmchnbgaaGreat.fnSimplePaths
