/- 'laws.FnSemantics' returns true for every list of bytes, without any condition: every answer by a simple path is an answer by a trail, and every answer by a trail is an answer by a walk. -/
import Derived.Test.YtjpdembmchnbgaaGreatOnlzOBDJDCGC
import Derived.Test.YtjpdembmchnbgaaGreatOnlzGFEEKDAD
import Derived.Test.YtjpdembmchnbgaaGreatOnlzKIILKLCH
import Derived.Test.YtjpdembmchnbgaaGreatOnlzPKFIIJKL
import Derived.Test.YtjpdembmchnbgaaGreatOnlzGEECBBKP
import Derived.Deep.DeepCutAuto
set_option linter.unusedVariables false
set_option linter.unusedSimpArgs false
namespace Go.Proofs.YtjpdembmchnbgaaGreat.fnSemantics
open Go.ChangeShapes Go.WideShapes Go.ChangeAt Go.RowKit
attribute [local go_sem] ext_cell ext_frozen ext_lt ext_lt1 ext_lt2 ext_lt3 ltn2 ltn3 ltn13 lts1 lts2 lts3
theorem sub_nil {a b:List Pr} (h:∀ p ∈ a,p ∈ b):true=decide (subL a b=[]):=by
 have:a.filter (fun p=>!inP b p)=[]:=List.filter_eq_nil_iff.2 fun p hp=>by simp [inP,h p hp]
 rw [subL,this]
 rfl
set_option maxRecDepth 100000 in
set_option maxHeartbeats 16000000 in
theorem walk (w:World) (v0:Value) (bs:List Int) (hv0:SlI 0 w.heap.size w cU 1 v0 bs) :
 Calls Tryz.prog 6 #[v0] w fun e w'=>e=.returned (.bool true)/\Below w.heap.size w w':=by
 have HV:=Hd_ hv0
 obtain ⟨A0,c0,rfl,hl0,hm0,-⟩:=hv0
 by_cases hbig:1048576 < bs.length
 · go_enter Tryz.func6,Tryz.ntmps6
   go_wp2_with fail
   refine (big_yes _ _ _ _ hbig (by omega)).mono ?_
   rintro e w' ⟨rfl,rfl⟩
   go_wp2_with fail
   go_ret
   exact ⟨rfl,Below.refl _ _⟩
 go_enter Tryz.func6,Tryz.ntmps6
 go_wp2_with fail
 refine (big_no _ _ _ _ hbig).mono ?_
 rintro e w' ⟨rfl,rfl⟩
 clear hbig hl0 hm0
 go_wp2_with fail
 refine (drawTrailAnswers_any _ bs _ HV.out).mono ?_
 rintro e w1 ⟨vg,va,g,a,B,rfl,hgv,-,hav,hb1⟩
 obtain ⟨A1,n1,c1,A2,n2,c2,rfl⟩:=hgv.shape
 obtain ⟨A3,n3,c3,A4,n4,c4,rfl⟩:=hav.shape
 have hal:=((Below.refl w1.heap.size w1).alloc (Nat.le_refl _) (.cells #[.slice A1 n1 c1,.slice A2 n2 c2] 27)).alloc (by simp) (.cells #[.int .i64 a.start,.slice A3 n3 c3,.slice A4 n4 c4] 31)
 have bg:=(Blk.new w1 27 #[.slice A1 n1 c1,.slice A2 n2 c2] _ rfl).alloc (.cells #[.int .i64 a.start,.slice A3 n3 c3,.slice A4 n4 c4] 31)
 have ba:=Blk.new (w1.alloc (.cells #[.slice A1 n1 c1,.slice A2 n2 c2] 27)) 31 #[.int .i64 a.start,.slice A3 n3 c3,.slice A4 n4 c4] (w1.heap.size+1) (by simp)
 have HGV:=Hd_ (hgv.keep hal)
 have HAV:=Hd_ (hav.keep hal)
 have HB:=Hd_ (below_trans hb1 hal)
 clear hal hgv hav hb1
 go_upto_region 4 with fail
 generalize ((w1.alloc (.cells #[.slice A1 n1 c1,.slice A2 n2 c2] 27)).alloc (.cells #[.int .i64 a.start,.slice A3 n3 c3,.slice A4 n4 c4] 31))=W at *
 have x0:W.cell? ⟨w1.heap.size,0,none⟩=some (.slice A1 n1 c1):=by exact bg.cell 0
 have x1:W.cell? ⟨w1.heap.size,1,none⟩=some (.slice A2 n2 c2):=by exact bg.cell 1
 have y0:W.cell? ⟨w1.heap.size+1,0,none⟩=some (.int .i64 a.start):=by exact ba.cell 0
 have y1:W.cell? ⟨w1.heap.size+1,1,none⟩=some (.slice A3 n3 c3):=by exact ba.cell 1
 have y2:W.cell? ⟨w1.heap.size+1,2,none⟩=some (.slice A4 n4 c4):=by exact ba.cell 2
 clear bg ba
 go_wp2_with fail
 refine (implTrailAnswers _ _ g a B _ HGV.out HAV.out).mono ?_
 rintro e w2 ⟨vt,rfl,hov,hbz⟩
 have x0:=kcell hbz x0
 have x1:=kcell hbz x1
 have y0:=kcell hbz y0
 have y1:=kcell hbz y1
 have y2:=kcell hbz y2
 have HGV:=Hd_ (HGV.out.keep hbz)
 have HAV:=Hd_ (HAV.out.keep hbz)
 have HB:=Hd_ (below_trans HB.out hbz)
 have HT:=Hd_ ((hov.sl cPr_len).mono (Nat.zero_le _) (Nat.le_refl _))
 clear hov
 clear hbz
 go_wp2_with fail
 refine (specTrailAnswers _ _ g a B _ HGV.out HAV.out).mono ?_
 rintro e w3 ⟨vt2,rfl,hov,hbz⟩
 have x0:=kcell hbz x0
 have x1:=kcell hbz x1
 have y0:=kcell hbz y0
 have y1:=kcell hbz y1
 have y2:=kcell hbz y2
 have HGV:=Hd_ (HGV.out.keep hbz)
 have HAV:=Hd_ (HAV.out.keep hbz)
 have HB:=Hd_ (below_trans HB.out hbz)
 have HT2:=Hd_ ((hov.sl cPr_len).mono (Nat.zero_le _) (Nat.le_refl _))
 clear hov
 have HT:=Hd_ (SlE.keep HT.out hbz)
 clear hbz
 go_wp2_with fail
 refine (implSimplePathAnswers _ _ g a B _ HGV.out HAV.out).mono ?_
 rintro e w4 ⟨vs,rfl,hov,hbz⟩
 have x0:=kcell hbz x0
 have x1:=kcell hbz x1
 have y0:=kcell hbz y0
 have y1:=kcell hbz y1
 have y2:=kcell hbz y2
 have HGV:=Hd_ (HGV.out.keep hbz)
 have HAV:=Hd_ (HAV.out.keep hbz)
 have HB:=Hd_ (below_trans HB.out hbz)
 have HS:=Hd_ ((hov.sl cPr_len).mono (Nat.zero_le _) (Nat.le_refl _))
 clear hov
 have HT:=Hd_ (SlE.keep HT.out hbz)
 have HT2:=Hd_ (SlE.keep HT2.out hbz)
 clear hbz
 go_wp2_with fail
 refine (specSimplePathAnswers _ _ g a B _ HGV.out HAV.out).mono ?_
 rintro e w5 ⟨vs2,rfl,hov,hbz⟩
 have x0:=kcell hbz x0
 have x1:=kcell hbz x1
 have y0:=kcell hbz y0
 have y1:=kcell hbz y1
 have y2:=kcell hbz y2
 have HGV:=Hd_ (HGV.out.keep hbz)
 have HAV:=Hd_ (HAV.out.keep hbz)
 have HB:=Hd_ (below_trans HB.out hbz)
 have HS2:=Hd_ ((hov.sl cPr_len).mono (Nat.zero_le _) (Nat.le_refl _))
 clear hov
 have HT:=Hd_ (SlE.keep HT.out hbz)
 have HT2:=Hd_ (SlE.keep HT2.out hbz)
 have HS:=Hd_ (SlE.keep HS.out hbz)
 clear hbz
 obtain ⟨T,hT⟩:∃ T,srchA g a B false=T:=⟨_,rfl⟩
 obtain ⟨S,hS⟩:∃ S,srchA g a B true=S:=⟨_,rfl⟩
 have HTL:=Hd_ (hT ▸ srchA_get g a B false)
 have HSL:=Hd_ (hS ▸ srchA_get g a B true)
 rw [hT] at HT HT2 ⊢
 rw [hS] at HS HS2 ⊢
 have HTT:=Hd_ hT
 have HSS:=Hd_ hS
 clear hT hS
 obtain ⟨L,hL⟩:∃ L,L=T.getD []:=⟨_,rfl⟩
 obtain ⟨M,hM⟩:∃ M,M=S.getD []:=⟨_,rfl⟩
 rw [<- hL] at HT HT2 HTL
 rw [<- hM] at HS HS2 HSL
 obtain ⟨one,ho⟩:∃ one,one=T.isSome:=⟨_,rfl⟩
 obtain ⟨two,ht⟩:∃ two,two=S.isSome:=⟨_,rfl⟩
 rw [<- ho,<- ht]
 have HPA:=Hd_ (show one=true->∀ p ∈ L,p ∈ allL g a from fun h=>by
  rw [ho,Option.isSome_iff_exists] at h
  obtain ⟨L',rfl⟩:=h
  rw [hL]
  exact trails_all HTT.out)
 have HPS:=Hd_ (show one=true->two=true->∀ p ∈ M,p ∈ L from fun h k=>by
  rw [ho,Option.isSome_iff_exists] at h
  rw [ht,Option.isSome_iff_exists] at k
  obtain ⟨L',rfl⟩:=h
  obtain ⟨M',rfl⟩:=k
  rw [hL,hM]
  exact simples_trails HSS.out HTT.out)
 clear hL hM ho ht HTT HSS
 have hoo:(one != one)=false:=by simp
 have htt:(two != two)=false:=by simp
 go_wp2_with fail
 refine (specEqualPairs_same _ _ _ _ HT.out HT2.out).mono ?_
 rintro e w6 ⟨rfl,hb6⟩
 have HT:=Hd_ (SlE.keep HT.out hb6)
 have HS:=Hd_ (SlE.keep HS.out hb6)
 have HS2:=Hd_ (SlE.keep HS2.out hb6)
 have x0:=kcell hb6 x0
 have x1:=kcell hb6 x1
 have y0:=kcell hb6 y0
 have y1:=kcell hb6 y1
 have y2:=kcell hb6 y2
 have HGV:=Hd_ (HGV.out.keep hb6)
 have HAV:=Hd_ (HAV.out.keep hb6)
 have HB:=Hd_ (below_trans HB.out hb6)
 clear hb6 HT2
 go_wp2_with fail
 refine (specEqualPairs_same _ _ _ _ HS.out HS2.out).mono ?_
 rintro e w7 ⟨rfl,hb7⟩
 have HT:=Hd_ (SlE.keep HT.out hb7)
 have HS:=Hd_ (SlE.keep HS.out hb7)
 have x0:=kcell hb7 x0
 have x1:=kcell hb7 x1
 have y0:=kcell hb7 y0
 have y1:=kcell hb7 y1
 have y2:=kcell hb7 y2
 have HGV:=Hd_ (HGV.out.keep hb7)
 have HAV:=Hd_ (HAV.out.keep hb7)
 have HB:=Hd_ (below_trans HB.out hb7)
 clear hb7 HS2
 go_upto_region 10 with fail
 go_cut [98] (fun s98 wx=>s98=.bool false/\Below w7.heap.size w7 wx)
 case first =>
  cases one with
  | false =>
    go_wp2_with fail
    go_meet
    exact ⟨rfl,Below.refl _ _⟩
  | true =>
    have HPA1:=Hd_ (HPA.out rfl)
    have HPS1:=Hd_ (HPS.out rfl)
    clear HPA HPS
    go_wp2_with fail
    refine (specAllAnswers _ _ g a _ HGV.out HAV.out).mono ?_
    rintro e w8 ⟨vl,rfl,hol,hb8⟩
    have HL8:=Hd_ ((hol.sl cPr_len).mono (Nat.zero_le _) (Nat.le_refl _))
    have HT:=Hd_ (SlE.keep HT.out hb8)
    have HS:=Hd_ (SlE.keep HS.out hb8)
    have HBB:=Hd_ hb8
    clear hol hb8
    go_wp2_with fail
    refine (lawPart_any _ _ _ _ _ HT.out HL8.out (Nat.le_trans HTL.out (by omega)) true (sub_nil HPA1.out)).mono ?_
    rintro e w9 ⟨rfl,hb9⟩
    have HT:=Hd_ (SlE.keep HT.out hb9)
    have HS:=Hd_ (SlE.keep HS.out hb9)
    have HBB:=Hd_ (below_trans HBB.out hb9)
    clear hb9 HL8
    cases two with
    | false =>
      go_wp2_with fail
      go_meet
      exact ⟨rfl,HBB.out⟩
    | true =>
      have HPS2:=Hd_ (HPS1.out rfl)
      clear HPS1
      go_wp2_with fail
      refine (lawPart_any _ _ _ _ _ HS.out HT.out (Nat.le_trans HSL.out (by omega)) true (sub_nil HPS2.out)).mono ?_
      rintro e w10 ⟨rfl,hb10⟩
      have HBB:=Hd_ (below_trans HBB.out hb10)
      go_wp2_with fail
      go_meet
      exact ⟨rfl,HBB.out⟩
 case rest =>
  obtain ⟨rfl,hbc⟩:=hcut
  have HB:=Hd_ (below_trans HB.out hbc)
  have HV:=Hd_ (SlE.keep HV.out HB.out)
  clear hbc HGV HAV HT HS HPA HPS HTL HSL x0 x1 y0 y1 y2 hoo htt
  go_wp2_with fail
  refine (drawSemanticsGap_any _ bs _ HV.out).mono ?_
  rintro e u1 ⟨vg,va,g,a,rfl,hgv,-,hav,hb1⟩
  obtain ⟨A1,n1,c1,A2,n2,c2,rfl⟩:=hgv.shape
  obtain ⟨A3,n3,c3,A4,n4,c4,rfl⟩:=hav.shape
  have hal:=((Below.refl u1.heap.size u1).alloc (Nat.le_refl _) (.cells #[.slice A1 n1 c1,.slice A2 n2 c2] 27)).alloc (by simp) (.cells #[.int .i64 a.start,.slice A3 n3 c3,.slice A4 n4 c4] 31)
  have bg:=(Blk.new u1 27 #[.slice A1 n1 c1,.slice A2 n2 c2] _ rfl).alloc (.cells #[.int .i64 a.start,.slice A3 n3 c3,.slice A4 n4 c4] 31)
  have ba:=Blk.new (u1.alloc (.cells #[.slice A1 n1 c1,.slice A2 n2 c2] 27)) 31 #[.int .i64 a.start,.slice A3 n3 c3,.slice A4 n4 c4] (u1.heap.size+1) (by simp)
  have HGV:=Hd_ (hgv.keep hal)
  have HAV:=Hd_ (hav.keep hal)
  have HB:=Hd_ (below_trans HB.out (below_trans hb1 hal))
  clear hal hgv hav hb1 HV
  go_upto_region 13 with fail
  generalize ((u1.alloc (.cells #[.slice A1 n1 c1,.slice A2 n2 c2] 27)).alloc (.cells #[.int .i64 a.start,.slice A3 n3 c3,.slice A4 n4 c4] 31))=U at *
  have x0:U.cell? ⟨u1.heap.size,0,none⟩=some (.slice A1 n1 c1):=by exact bg.cell 0
  have x1:U.cell? ⟨u1.heap.size,1,none⟩=some (.slice A2 n2 c2):=by exact bg.cell 1
  have y0:U.cell? ⟨u1.heap.size+1,0,none⟩=some (.int .i64 a.start):=by exact ba.cell 0
  have y1:U.cell? ⟨u1.heap.size+1,1,none⟩=some (.slice A3 n3 c3):=by exact ba.cell 1
  have y2:U.cell? ⟨u1.heap.size+1,2,none⟩=some (.slice A4 n4 c4):=by exact ba.cell 2
  clear bg ba
  go_wp2_with fail
  refine (implSemanticsGap _ _ g a _ HGV.out HAV.out).mono ?_
  rintro e u2 ⟨p0,p1,rfl,⟨m,hm0,hm1,hp0,hp1⟩,hb2⟩
  have HX:=Hd_ ((hp0.sl cPr_len).mono (lo':=0) (Nat.zero_le _) hm1)
  have HY:=Hd_ ((hp1.sl cPr_len).mono (lo':=0) (Nat.zero_le _) (Nat.le_refl _))
  have x0:=kcell hb2 x0
  have x1:=kcell hb2 x1
  have y0:=kcell hb2 y0
  have y1:=kcell hb2 y1
  have y2:=kcell hb2 y2
  have HGV:=Hd_ (HGV.out.keep hb2)
  have HAV:=Hd_ (HAV.out.keep hb2)
  have HB:=Hd_ (below_trans HB.out hb2)
  clear hp0 hp1 hm0 hm1 hb2
  go_wp2_with fail
  refine (specSemanticsGap _ _ g a _ HGV.out HAV.out).mono ?_
  rintro e u3 ⟨q0,q1,rfl,⟨m,hm0,hm1,hp0,hp1⟩,hb3⟩
  have HX:=Hd_ (SlE.keep HX.out hb3)
  have HY:=Hd_ (SlE.keep HY.out hb3)
  have HX2:=Hd_ ((hp0.sl cPr_len).mono (lo':=0) (Nat.zero_le _) hm1)
  have HY2:=Hd_ ((hp1.sl cPr_len).mono (lo':=0) (Nat.zero_le _) (Nat.le_refl _))
  have HB:=Hd_ (below_trans HB.out hb3)
  clear hp0 hp1 hm0 hm1 hb3 x0 x1 y0 y1 y2 HGV HAV
  obtain ⟨is,his⟩:∃ is,is=gapOk g a:=⟨_,rfl⟩
  rw [<- his]
  clear his
  have hii:(is==is)=true:=by simp
  go_wp2_with fail
  refine (specEqualPairs_same _ _ _ _ HX.out HX2.out).mono ?_
  rintro e u4 ⟨rfl,hb4⟩
  have HY:=Hd_ (SlE.keep HY.out hb4)
  have HY2:=Hd_ (SlE.keep HY2.out hb4)
  have HB:=Hd_ (below_trans HB.out hb4)
  clear hb4
  go_wp2_with fail
  refine (specEqualPairs_same _ _ _ _ HY.out HY2.out).mono ?_
  rintro e u5 ⟨rfl,hb5⟩
  have HB:=Hd_ (below_trans HB.out hb5)
  clear hb5
  go_wp2_with fail
  go_ret
  exact ⟨rfl,HB.out⟩
end Go.Proofs.YtjpdembmchnbgaaGreat.fnSemantics
namespace Go.Proofs.YtjpdembmchnbgaaGreat.fnSemantics
open Go.ChangeShapes Go.WideShapes Go.ChangeAt Go.RowKit
theorem own:ownKnob Tryz.prog.godebug=none:=by kernel_rfl
theorem laidOut:laidOutB Tryz.prog=true:=by kernel_rfl
set_option maxRecDepth 100000 in
theorem lifted (os:Os) (started:os.Started) (H:Type) (enc:TypeId × Value->H) :
 ReturnsInHanded {} Tryz.checked os 6 .any (Rows.fnSemanticsSpec.pre6 enc Tryz.prog Tryz.f6 Rows.fnSemanticsRow.domain false) (Rows.fnSemanticsSpec.post enc Tryz.prog Tryz.f6 false true false false):=by
 refine returnsInHanded_of_change (C:=Tryz.checked) own started (by kernel_rfl) Tryz.func6
  (ChangeSpec.witness6 (enc:=enc) (C:=Tryz.checked) false ⟨#[],#[.slice none 0 0],[]⟩ 8 (by kernel_rfl) (by kernel_rfl) (by kernel_rfl) (by kernel_rfl)) ?_
 intro W base args ds gs before hval0 hW hcnd _
 have hval:∀ (j:Nat) t v,Tryz.f6.params[j]?=some t->args[j]?=some v->Value.okWide Tryz.prog W .any base t v:=hval0
 have hW':=hW
 obtain ⟨p,q,hA0,hV,rfl,hfz,hnd⟩:=hW
 have hA:DataW.TrodAll enc Tryz.prog W 0 (fun _=>true) true Tryz.f6.params.toList args.toList ds p:=hA0
 rw [Tryz.params6] at hA hval
 obtain ⟨v0,vs0,d0,ds0,p0,q0,hargs,rfl,rfl,h0,r0⟩:=trodAll_cons hA
 obtain ⟨rfl,rfl,rfl⟩:=trodAll_nil r0
 obtain rfl:args=#[v0]:=by cases args;simp_all
 obtain ⟨rfl,rfl⟩:=trodVars_none hV
 obtain ⟨a0,w0⟩:=openBytes (hval 0 22 v0 rfl rfl) h0
 refine (walk W v0 a0 w0).mono fun e W' ⟨he,hb⟩=>?_
 subst he
 exact ⟨_,rfl,law_post laidOut (by kernel_rfl) rfl Tryz.underlying4 rfl rfl hW' hb⟩
theorem unf:Tryz.pinned.checked.prog.unfollowed 6=true:=by kernel_rfl
theorem inpl:Tryz.pinned.checked.prog.inPlace 6=[]:=by kernel_rfl
theorem vnam:Tryz.pinned.checked.prog.varsNamed 6=[]:=by kernel_rfl
theorem rec_:Tryz.pinned.checked.prog.recurses 6=true:=by rw [Program.recurses,unf,Bool.true_or]
theorem over:Rows.fnSemanticsRow.holds Tryz.pinned (OpenSpec.ofChange Rows.fnSemanticsSpec) :=
 OpenClaim.holds_of_wide 6 Tryz.f6 rfl rfl rfl rfl rfl rfl rfl ⟨rfl,rfl,rfl,rfl,rfl⟩ rfl rfl rfl rfl rfl (by kernel_rfl) Tryz.func6 (by unfold joinedFacts;rw [seat_mayEnter,seat_lifts,seat_laidOut,seat_mapsRowed,unf,rec_,inpl,vnam];kernel_rfl)
  (of_decide_eq_true (by kernel_rfl)) (by unfold Func.isWrapper;first | (rw [if_pos (by decide +kernel)];kernel_rfl) | (rw [if_neg (by decide +kernel)];exact ⟨rfl,rfl⟩))
  (fun os started H enc _=>lifted os started H enc)
theorem proved:Rows.FnSemanticsSaid:=over
end Go.Proofs.YtjpdembmchnbgaaGreat.fnSemantics
