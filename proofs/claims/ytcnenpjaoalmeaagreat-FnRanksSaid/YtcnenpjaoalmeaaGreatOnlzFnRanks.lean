/- 'laws.FnRanks' returns true for every list of bytes, without any condition: RankShortest and NthShortest are inverse to each other. -/
import Derived.Test.YtcnenpjaoalmeaaGreatOnlzNBNNNJPC
import Derived.Test.YtcnenpjaoalmeaaGreatOnlzLFBGJJGP
import Derived.Test.YtcnenpjaoalmeaaGreatOnlzNIJFIFNF
import Derived.Test.YtcnenpjaoalmeaaGreatOnlzCGFFICDN
import Derived.Test.YtcnenpjaoalmeaaGreatOnlzACPBJODD
import Derived.Deep.DeepCutAuto
set_option linter.unusedVariables false
set_option linter.unusedSimpArgs false
namespace Go.Proofs.YtcnenpjaoalmeaaGreat.fnRanks
open Go.ChangeShapes Go.WideShapes Go.ChangeAt Go.RowKit
attribute [local go_sem] ext_cell ext_frozen ext_lt ext_lt1 ext_lt2 ext_lt3 ltn2 ltn3 ltn13 lts1 lts2 lts3
theorem short_snd (g:Gr) (a:Au) (x y n:Int):(nthShort g a x y n).2=nthSh g a x y n:=by
 unfold nthShort
 cases nthSh g a x y n <;> rfl
set_option maxRecDepth 100000 in
set_option maxHeartbeats 16000000 in
theorem walk (w:World) (v0:Value) (bs:List Int) (hv0:SlI 0 w.heap.size w cU 1 v0 bs) :
 Calls Tryz.prog 6 #[v0] w fun e w'=>e=.returned (.bool true)/\Below w.heap.size w w':=by
 have HV:=Hd_ hv0
 obtain ⟨A0,c0,rfl,hl0,hm0,-⟩:=hv0
 by_cases hbig:1048576 < bs.length
 · go_enter Tryz.func6,Tryz.ntmps6
   go_wp2_with fail
   refine (big_yes _ _ _ _ hbig (by omega)).mono ?_
   rintro e w' ⟨rfl,rfl⟩
   go_wp2_with fail
   go_ret
   exact ⟨rfl,Below.refl _ _⟩
 go_enter Tryz.func6,Tryz.ntmps6
 go_wp2_with fail
 refine (big_no _ _ _ _ hbig).mono ?_
 rintro e w' ⟨rfl,rfl⟩
 clear hbig hl0 hm0
 go_wp2_with fail
 refine (drawRankShortest_any _ bs _ HV.out).mono ?_
 rintro e w1 ⟨vg,va,vk,g,a,x,y,k,rfl,hgv,hav,hkv,hb1⟩
 obtain ⟨A1,n1,c1,A2,n2,c2,rfl⟩:=hgv.shape
 obtain ⟨A3,n3,c3,A4,n4,c4,rfl⟩:=hav.shape
 obtain ⟨A5,N,c5,rfl⟩:=hkv.shape
 have hgv:=hgv.mono (Nat.zero_le _) (Nat.le_refl _)
 have hav:=hav.mono (Nat.zero_le _) (Nat.le_refl _)
 have hkv:=hkv.mono (Nat.zero_le _) (Nat.le_refl _)
 have hal:=(((Below.refl w1.heap.size w1).alloc (Nat.le_refl _) (.cells #[.slice A1 n1 c1,.slice A2 n2 c2] 27)).alloc (by simp) (.cells #[.int .i64 a.start,.slice A3 n3 c3,.slice A4 n4 c4] 31)).alloc (by simp;omega) (.cells #[.int .i64 k.1,.slice A5 N c5] 36)
 have bg:=((Blk.new w1 27 #[.slice A1 n1 c1,.slice A2 n2 c2] _ rfl).alloc (.cells #[.int .i64 a.start,.slice A3 n3 c3,.slice A4 n4 c4] 31)).alloc (.cells #[.int .i64 k.1,.slice A5 N c5] 36)
 have ba:=(Blk.new (w1.alloc (.cells #[.slice A1 n1 c1,.slice A2 n2 c2] 27)) 31 #[.int .i64 a.start,.slice A3 n3 c3,.slice A4 n4 c4] (w1.heap.size+1) (by simp)).alloc (.cells #[.int .i64 k.1,.slice A5 N c5] 36)
 have bw:=Blk.new ((w1.alloc (.cells #[.slice A1 n1 c1,.slice A2 n2 c2] 27)).alloc (.cells #[.int .i64 a.start,.slice A3 n3 c3,.slice A4 n4 c4] 31)) 36 #[.int .i64 k.1,.slice A5 N c5] (w1.heap.size+1+1) (by simp)
 have HGV:=Hd_ (hgv.keep hal)
 have HAV:=Hd_ (hav.keep hal)
 have HKV:=Hd_ (hkv.keep hal)
 have HB:=Hd_ (below_trans hb1 hal)
 clear hal hgv hav hkv hb1
 go_upto_region 4 with fail
 generalize (((w1.alloc (.cells #[.slice A1 n1 c1,.slice A2 n2 c2] 27)).alloc (.cells #[.int .i64 a.start,.slice A3 n3 c3,.slice A4 n4 c4] 31)).alloc (.cells #[.int .i64 k.1,.slice A5 N c5] 36))=W at *
 have x0:W.cell? ⟨w1.heap.size,0,none⟩=some (.slice A1 n1 c1):=by exact bg.cell 0
 have x1:W.cell? ⟨w1.heap.size,1,none⟩=some (.slice A2 n2 c2):=by exact bg.cell 1
 have y0:W.cell? ⟨w1.heap.size+1,0,none⟩=some (.int .i64 a.start):=by exact ba.cell 0
 have y1:W.cell? ⟨w1.heap.size+1,1,none⟩=some (.slice A3 n3 c3):=by exact ba.cell 1
 have y2:W.cell? ⟨w1.heap.size+1,2,none⟩=some (.slice A4 n4 c4):=by exact ba.cell 2
 have k0:W.cell? ⟨w1.heap.size+1+1,0,none⟩=some (.int .i64 k.1):=by exact bw.cell 0
 have k1:W.cell? ⟨w1.heap.size+1+1,1,none⟩=some (.slice A5 N c5):=by exact bw.cell 1
 clear bg ba bw
 go_wp2_with fail
 refine (implRankShortest _ _ _ g a x y k _ HGV.out HAV.out HKV.out).mono ?_
 rintro e w2 ⟨rfl,hb2⟩
 have x0:=kcell hb2 x0
 have x1:=kcell hb2 x1
 have y0:=kcell hb2 y0
 have y1:=kcell hb2 y1
 have y2:=kcell hb2 y2
 have k0:=kcell hb2 k0
 have k1:=kcell hb2 k1
 have HGV:=Hd_ (HGV.out.keep hb2)
 have HAV:=Hd_ (HAV.out.keep hb2)
 have HKV:=Hd_ (HKV.out.keep hb2)
 have HB:=Hd_ (below_trans HB.out hb2)
 clear hb2
 go_wp2_with fail
 refine (specRankShortest _ _ _ g a x y k _ HGV.out HAV.out HKV.out).mono ?_
 rintro e w3 ⟨rfl,hb3⟩
 have x0:=kcell hb3 x0
 have x1:=kcell hb3 x1
 have y0:=kcell hb3 y0
 have y1:=kcell hb3 y1
 have y2:=kcell hb3 y2
 have k0:=kcell hb3 k0
 have k1:=kcell hb3 k1
 have HGV:=Hd_ (HGV.out.keep hb3)
 have HAV:=Hd_ (HAV.out.keep hb3)
 have HKV:=Hd_ (HKV.out.keep hb3)
 have HB:=Hd_ (below_trans HB.out hb3)
 clear hb3
 obtain ⟨R,hR⟩:∃ R,R=rankSh g a x y k:=⟨_,rfl⟩
 rw [<- hR]
 have HR:=Hd_ hR
 clear hR
 have hrr:(R != R)=false:=by simp
 go_upto_region 7 with fail
 clear hrr
 go_cut [49] (fun s49 wx=>s49=.bool (decide (0<=R/\R < 1000000))/\wx=w3)
 case first =>
  by_cases h1:0<=R
  · have e1:decide (R >= 0)=true:=by simpa using h1
    by_cases h2:R < 1000000
    · have e2:decide (R < 1000000)=true:=by simpa using h2
      go_wp2_with fail
      go_meet
      exact ⟨by simp;omega,rfl⟩
    · have e2:decide (R < 1000000)=false:=by simpa using h2
      go_wp2_with fail
      go_meet
      exact ⟨by simp;omega,rfl⟩
  · have e1:decide (R >= 0)=false:=by simp;omega
    go_wp2_with fail
    go_meet
    exact ⟨by simp;omega,rfl⟩
 case rest =>
 obtain ⟨rfl,hwc⟩:=hcut
 rw [hwc]
 clear hwc
 obtain ⟨Q,hQ⟩:∃ Q,Q=decide (0<=R/\R < 1000000):=⟨_,rfl⟩
 rw [<- hQ]
 have HQ:=Hd_ hQ
 clear hQ
 go_upto_if 49 with fail
 go_cut [10] (fun s10 wx=>Below w3.heap.size w3 wx)
 case first =>
  cases Q with
  | false =>
    go_wp2_with fail
    go_meet
    exact Below.refl _ _
  | true =>
   have h12:0<=R/\R < 1000000:=by simpa using HQ.out.symm
   have h1:=h12.1
   have h2:=h12.2
   clear h12
   have hnr:nthShort g a x y R=(k,true):=by rw [HR.out];exact nth_rankSh (by rw [<- HR.out];exact h1) (by rw [<- HR.out];exact h2)
   have HI:=Hd_ (fun W (hgv:GrV 0 W.heap.size W (.agg #[.slice A1 n1 c1,.slice A2 n2 c2]) g) (hav:AuV 0 W.heap.size W (.agg #[.int .i64 a.start,.slice A3 n3 c3,.slice A4 n4 c4]) a)=>hnr ▸ implNthShortest _ _ g a x y R W hgv hav)
   clear hnr
   go_wp2_with fail
   refine (HI.out _ HGV.out HAV.out).mono ?_
   rintro e w4 ⟨vv,rfl,hku,hb4⟩
   simp only at hku ⊢
   have hkv:=hku.view.mono (Nat.zero_le _) (Nat.le_refl _)
   obtain ⟨A7,n7,c7,rfl⟩:=hkv.shape
   have hal:=(Below.refl w4.heap.size w4).alloc (Nat.le_refl _) (.cells #[.int .i64 k.1,.slice A7 n7 c7] 36)
   have bw:=Blk.new w4 36 #[.int .i64 k.1,.slice A7 n7 c7] _ rfl
   have hbx:=below_trans hb4 hal
   have HBX:=Hd_ hbx
   have HKU:=Hd_ (hkv.keep hal)
   have x0:=kcell hbx x0
   have x1:=kcell hbx x1
   have y0:=kcell hbx y0
   have y1:=kcell hbx y1
   have y2:=kcell hbx y2
   have k0:=kcell hbx k0
   have k1:=kcell hbx k1
   have HGV:=Hd_ (HGV.out.keep hbx)
   have HAV:=Hd_ (HAV.out.keep hbx)
   have HKV:=Hd_ (HKV.out.keep hbx)
   have HB:=Hd_ (below_trans HB.out hbx)
   clear hku hkv hal hbx hb4 HI
   go_upto_region 9 with fail
   obtain ⟨uq,huq⟩:∃ uq,uq=w4.heap.size:=⟨_,rfl⟩
   rw [<- huq] at bw ⊢
   generalize (w4.alloc (.cells #[.int .i64 k.1,.slice A7 n7 c7] 36))=W4 at *
   clear huq
   have j0:W4.cell? ⟨uq,0,none⟩=some (.int .i64 k.1):=by exact bw.cell 0
   have j1:W4.cell? ⟨uq,1,none⟩=some (.slice A7 n7 c7):=by exact bw.cell 1
   clear bw
   have HC:=Hd_ (show Calls Tryz.prog 11 #[.agg #[.int .i64 k.1,.slice A7 n7 c7],.agg #[.int .i64 k.1,.slice A5 N c5]] W4 fun e w'=>e=.returned (.int .i64 0)/\Below W4.heap.size W4 w' by
    have h:=specCompareWalks _ _ k k W4 HKU.out HKV.out
    rwa [cmpWk_self] at h)
   go_wp2_with fail
   refine HC.out.mono ?_
   rintro e w5 ⟨rfl,hb5⟩
   have HBY:=Hd_ (below_trans HBX.out hb5)
   clear hb5 HKU HC
   go_wp2_with fail
   go_meet
   exact HBY.out
 case rest =>
  have HB:=Hd_ (below_trans HB.out hcut)
  have HV:=Hd_ (SlE.keep HV.out HB.out)
  clear hcut HGV HAV HKV x0 x1 y0 y1 y2 k0 k1 HR
  go_wp2_with fail
  refine (drawNthShortest_any _ bs _ HV.out).mono ?_
  rintro e w5 ⟨vg2,va2,g2,a2,x2,y2,n,rfl,hgv,-,hav,hb5⟩
  obtain ⟨B1,m1,d1,B2,m2,d2,rfl⟩:=hgv.shape
  obtain ⟨B3,m3,d3,B4,m4,d4,rfl⟩:=hav.shape
  have hal:=((Below.refl w5.heap.size w5).alloc (Nat.le_refl _) (.cells #[.slice B1 m1 d1,.slice B2 m2 d2] 27)).alloc (by simp) (.cells #[.int .i64 a2.start,.slice B3 m3 d3,.slice B4 m4 d4] 31)
  have bg:=(Blk.new w5 27 #[.slice B1 m1 d1,.slice B2 m2 d2] _ rfl).alloc (.cells #[.int .i64 a2.start,.slice B3 m3 d3,.slice B4 m4 d4] 31)
  have ba:=Blk.new (w5.alloc (.cells #[.slice B1 m1 d1,.slice B2 m2 d2] 27)) 31 #[.int .i64 a2.start,.slice B3 m3 d3,.slice B4 m4 d4] (w5.heap.size+1) (by simp)
  have HGV:=Hd_ (hgv.keep hal)
  have HAV:=Hd_ (hav.keep hal)
  have HB:=Hd_ (below_trans HB.out (below_trans hb5 hal))
  clear hal hgv hav hb5 HV
  go_upto_region 12 with fail
  generalize ((w5.alloc (.cells #[.slice B1 m1 d1,.slice B2 m2 d2] 27)).alloc (.cells #[.int .i64 a2.start,.slice B3 m3 d3,.slice B4 m4 d4] 31))=W5 at *
  have x0:W5.cell? ⟨w5.heap.size,0,none⟩=some (.slice B1 m1 d1):=by exact bg.cell 0
  have x1:W5.cell? ⟨w5.heap.size,1,none⟩=some (.slice B2 m2 d2):=by exact bg.cell 1
  have y0:W5.cell? ⟨w5.heap.size+1,0,none⟩=some (.int .i64 a2.start):=ba.cell 0
  have y1:W5.cell? ⟨w5.heap.size+1,1,none⟩=some (.slice B3 m3 d3):=ba.cell 1
  have yz:W5.cell? ⟨w5.heap.size+1,2,none⟩=some (.slice B4 m4 d4):=ba.cell 2
  clear bg ba
  obtain ⟨P,hP⟩:∃ P,P=nthShort g2 a2 x2 y2 n:=⟨_,rfl⟩
  have HI:=Hd_ (hP ▸ implNthShortest _ _ g2 a2 x2 y2 n W5 HGV.out HAV.out)
  go_wp2_with fail
  refine HI.out.mono ?_
  rintro e w6 ⟨vv,rfl,hku,hb6⟩
  obtain ⟨k2,is⟩:=P
  have HP:=Hd_ hP.symm
  clear hP HI
  simp only at hku ⊢
  have hkv:=hku.view.mono (Nat.zero_le _) (Nat.le_refl _)
  obtain ⟨A7,n7,c7,rfl⟩:=hkv.shape
  have hal:=(Below.refl w6.heap.size w6).alloc (Nat.le_refl _) (.cells #[.int .i64 k2.1,.slice A7 n7 c7] 36)
  have bw:=Blk.new w6 36 #[.int .i64 k2.1,.slice A7 n7 c7] _ rfl
  have hbx:=below_trans hb6 hal
  have HKV:=Hd_ (hkv.keep hal)
  have x0:=kcell hbx x0
  have x1:=kcell hbx x1
  have y0:=kcell hbx y0
  have y1:=kcell hbx y1
  have yz:=kcell hbx yz
  have HGV:=Hd_ (HGV.out.keep hbx)
  have HAV:=Hd_ (HAV.out.keep hbx)
  have HB:=Hd_ (below_trans HB.out hbx)
  clear hku hkv hal hbx hb6
  go_upto_region 13 with fail
  obtain ⟨vq,hvq⟩:∃ vq,vq=w6.heap.size:=⟨_,rfl⟩
  rw [<- hvq] at bw ⊢
  generalize (w6.alloc (.cells #[.int .i64 k2.1,.slice A7 n7 c7] 36))=W6 at *
  clear hvq
  have k0:W6.cell? ⟨vq,0,none⟩=some (.int .i64 k2.1):=by exact bw.cell 0
  have k1:W6.cell? ⟨vq,1,none⟩=some (.slice A7 n7 c7):=by exact bw.cell 1
  clear bw
  have HI:=Hd_ (HP.out ▸ specNthShortest _ _ g2 a2 x2 y2 n W6 HGV.out HAV.out)
  go_wp2_with fail
  refine HI.out.mono ?_
  rintro e w7 ⟨vu,rfl,hku,hb7⟩
  clear HI
  simp only at hku ⊢
  have hkv:=hku.view.mono (Nat.zero_le _) (Nat.le_refl _)
  obtain ⟨A8,n8,c8,rfl⟩:=hkv.shape
  have hal:=(Below.refl w7.heap.size w7).alloc (Nat.le_refl _) (.cells #[.int .i64 k2.1,.slice A8 n8 c8] 36)
  have bw:=Blk.new w7 36 #[.int .i64 k2.1,.slice A8 n8 c8] _ rfl
  have hbx:=below_trans hb7 hal
  have HKU:=Hd_ (hkv.keep hal)
  have HKV:=Hd_ (HKV.out.keep hbx)
  have x0:=kcell hbx x0
  have x1:=kcell hbx x1
  have y0:=kcell hbx y0
  have y1:=kcell hbx y1
  have yz:=kcell hbx yz
  have k0:=kcell hbx k0
  have k1:=kcell hbx k1
  have HGV:=Hd_ (HGV.out.keep hbx)
  have HAV:=Hd_ (HAV.out.keep hbx)
  have HB:=Hd_ (below_trans HB.out hbx)
  clear hku hkv hal hbx hb7
  go_upto_region 14 with fail
  obtain ⟨uq,huq⟩:∃ uq,uq=w7.heap.size:=⟨_,rfl⟩
  rw [<- huq] at bw ⊢
  generalize (w7.alloc (.cells #[.int .i64 k2.1,.slice A8 n8 c8] 36))=W7 at *
  clear huq
  have j0:W7.cell? ⟨uq,0,none⟩=some (.int .i64 k2.1):=by exact bw.cell 0
  have j1:W7.cell? ⟨uq,1,none⟩=some (.slice A8 n8 c8):=by exact bw.cell 1
  clear bw
  have hbb:(is==is)=true:=by simp
  have HC:=Hd_ (show Calls Tryz.prog 11 #[.agg #[.int .i64 k2.1,.slice A8 n8 c8],.agg #[.int .i64 k2.1,.slice A7 n7 c7]] W7 fun e w'=>e=.returned (.int .i64 0)/\Below W7.heap.size W7 w' by
   have h:=specCompareWalks _ _ k2 k2 W7 HKU.out HKV.out
   rwa [cmpWk_self] at h)
  go_wp2_with fail
  refine HC.out.mono ?_
  rintro e w8 ⟨rfl,hb8⟩
  have x0:=kcell hb8 x0
  have x1:=kcell hb8 x1
  have y0:=kcell hb8 y0
  have y1:=kcell hb8 y1
  have yz:=kcell hb8 yz
  have k0:=kcell hb8 k0
  have k1:=kcell hb8 k1
  have HGV:=Hd_ (HGV.out.keep hb8)
  have HAV:=Hd_ (HAV.out.keep hb8)
  have HKV:=Hd_ (HKV.out.keep hb8)
  have HB:=Hd_ (below_trans HB.out hb8)
  clear hb8 HKU HC j0 j1 hbb
  cases is with
  | false =>
    go_wp2_with fail
    go_ret
    exact ⟨rfl,HB.out⟩
  | true =>
    have hsh:nthSh g2 a2 x2 y2 n=true:=by rw [<- short_snd,HP.out]
    have hrk:=rank_nthShort hsh
    rw [HP.out] at hrk
    have HRK:=Hd_ (hrk ▸ implRankShortest _ _ _ g2 a2 x2 y2 k2 _ HGV.out HAV.out HKV.out)
    clear hsh hrk
    go_wp2_with fail
    refine HRK.out.mono ?_
    rintro e w9 ⟨rfl,hb9⟩
    have HB:=Hd_ (below_trans HB.out hb9)
    clear hb9 HRK
    have hnn:(n==n)=true:=by simp
    go_wp2_with fail
    go_ret
    exact ⟨rfl,HB.out⟩
end Go.Proofs.YtcnenpjaoalmeaaGreat.fnRanks
namespace Go.Proofs.YtcnenpjaoalmeaaGreat.fnRanks
open Go.ChangeShapes Go.WideShapes Go.ChangeAt Go.RowKit
theorem own:ownKnob Tryz.prog.godebug=none:=by kernel_rfl
theorem laidOut:laidOutB Tryz.prog=true:=by kernel_rfl
set_option maxRecDepth 100000 in
theorem lifted (os:Os) (started:os.Started) (H:Type) (enc:TypeId × Value->H) :
 ReturnsInHanded {} Tryz.checked os 6 .any (Rows.fnRanksSpec.pre6 enc Tryz.prog Tryz.f6 Rows.fnRanksRow.domain false) (Rows.fnRanksSpec.post enc Tryz.prog Tryz.f6 false true false false):=by
 refine returnsInHanded_of_change (C:=Tryz.checked) own started (by kernel_rfl) Tryz.func6
  (ChangeSpec.witness6 (enc:=enc) (C:=Tryz.checked) false ⟨#[],#[.slice none 0 0],[]⟩ 8 (by kernel_rfl) (by kernel_rfl) (by kernel_rfl) (by kernel_rfl)) ?_
 intro W base args ds gs before hval0 hW hcnd _
 have hval:∀ (j:Nat) t v,Tryz.f6.params[j]?=some t->args[j]?=some v->Value.okWide Tryz.prog W .any base t v:=hval0
 have hW':=hW
 obtain ⟨p,q,hA0,hV,rfl,hfz,hnd⟩:=hW
 have hA:DataW.TrodAll enc Tryz.prog W 0 (fun _=>true) true Tryz.f6.params.toList args.toList ds p:=hA0
 rw [Tryz.params6] at hA hval
 obtain ⟨v0,vs0,d0,ds0,p0,q0,hargs,rfl,rfl,h0,r0⟩:=trodAll_cons hA
 obtain ⟨rfl,rfl,rfl⟩:=trodAll_nil r0
 obtain rfl:args=#[v0]:=by cases args;simp_all
 obtain ⟨rfl,rfl⟩:=trodVars_none hV
 obtain ⟨a0,w0⟩:=openBytes (hval 0 22 v0 rfl rfl) h0
 refine (walk W v0 a0 w0).mono fun e W' ⟨he,hb⟩=>?_
 subst he
 exact ⟨_,rfl,law_post laidOut (by kernel_rfl) rfl Tryz.underlying4 rfl rfl hW' hb⟩
theorem unf:Tryz.pinned.checked.prog.unfollowed 6=true:=by kernel_rfl
theorem inpl:Tryz.pinned.checked.prog.inPlace 6=[]:=by kernel_rfl
theorem vnam:Tryz.pinned.checked.prog.varsNamed 6=[]:=by kernel_rfl
theorem rec_:Tryz.pinned.checked.prog.recurses 6=true:=by rw [Program.recurses,unf,Bool.true_or]
theorem over:Rows.fnRanksRow.holds Tryz.pinned (OpenSpec.ofChange Rows.fnRanksSpec) :=
 OpenClaim.holds_of_wide 6 Tryz.f6 rfl rfl rfl rfl rfl rfl rfl ⟨rfl,rfl,rfl,rfl,rfl⟩ rfl rfl rfl rfl rfl (by kernel_rfl) Tryz.func6 (by unfold joinedFacts;rw [seat_mayEnter,seat_lifts,seat_laidOut,seat_mapsRowed,unf,rec_,inpl,vnam];kernel_rfl)
  (of_decide_eq_true (by kernel_rfl)) (by unfold Func.isWrapper;first | (rw [if_pos (by decide +kernel)];kernel_rfl) | (rw [if_neg (by decide +kernel)];exact ⟨rfl,rfl⟩))
  (fun os started H enc _=>lifted os started H enc)
theorem proved:Rows.FnRanksSaid:=over
end Go.Proofs.YtcnenpjaoalmeaaGreat.fnRanks
