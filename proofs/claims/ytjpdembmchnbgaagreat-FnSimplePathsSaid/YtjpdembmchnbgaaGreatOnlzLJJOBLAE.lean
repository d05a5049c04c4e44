/- Parts of the proof, joined into one text: BackS, RankS, AnsM, AnsS. -/
import Derived.Test.YtjpdembmchnbgaaGreatOnlzLIMBOPHA
import Derived.Test.YtjpdembmchnbgaaGreatOnlzNELCFPNN
import Derived.Test.YtjpdembmchnbgaaGreatOnlzPDGEJABA
import Derived.Deep.LoopGhost
import Derived.Lib.Slices
set_option linter.unusedVariables false
set_option linter.unusedSimpArgs false
namespace Go.Proofs.YtjpdembmchnbgaaGreat
open Go.ChangeShapes Go.WideShapes Go.ChangeAt Go.RowKit
attribute [local go_sem] ext_cell ext_frozen ext_lt ext_lt1 ext_lt2 ext_lt3 ltn2 ltn3 ltn13 lts1 lts2 lts3
/-- the rows of the product's steps, vertex by vertex -/
def psI (g:Gr) (a:Au) (i:Nat):List PS:=prodSteps g a (i / a.accept.length) (i % a.accept.length)
theorem psI_next (g:Gr) (a:Au) (i:Nat):nextI g a i=(psI g a i).map (psV a.accept.length):=(psV_next g a _ _).symm
theorem SlI.ps {lo hi:Nat} {w:World} {A:Option Addr} {n c:Nat} {xs:List PS} (h:SlI lo hi w cPS 4 (.slice A n c) xs) {i:Nat} {x:PS} (hx:xs[i]?=some x) :
 ∃ b o,A=some ⟨b,o,none⟩/\lo<=b/\b < hi/\w.cell? ⟨b,o+i * 4+2,none⟩=some (.int .i64 x.2.1)/\w.cell? ⟨b,o+i * 4+3,none⟩=some (.int .i64 x.2.2):=by
 obtain ⟨A',c',hv,_,_,h3⟩:=h
 injection hv with h1 _ _
 subst h1
 obtain ⟨b,o,e,g1,g2,hc⟩:=h3 i x hx
 exact ⟨b,o,e,g1,g2,hc 2 _ rfl,hc 3 _ rfl⟩
theorem elPSS:ElemOk Tryz.prog 132 133 (.slice none 0 0) 1 24:=⟨Tryz.underlying132,by kernel_rfl,rfl,by omega⟩
def psL (g:Gr) (a:Au) (k:Nat):List (List PS):=(List.range k).map (psI g a)
theorem psL_len (g:Gr) (a:Au) (k:Nat):(psL g a k).length=k:=by simp [psL]
theorem psL_snoc (g:Gr) (a:Au) (k:Nat):psL g a (k+1)=psL g a k ++ [psI g a k]:=by simp [psL,List.range_succ]
theorem psL_at {g:Gr} {a:Au} {k i:Nat} (h:i < k):(psL g a k)[i]?=some (psI g a i):=by simp [psL,h]
set_option maxHeartbeats 8000000 in
set_option maxRecDepth 100000 in
theorem l14Back_any (vg va:Value) (g:Gr) (a:Au) (y:Nat) (w:World) (hgv:GrV 0 w.heap.size w vg g) (hav:AuV 0 w.heap.size w va a) (hgo:grOk g=true) (ha:auOk a=true) (hy:y < g.vals.length) :
 Calls Tryz.prog 60 #[vg,va,.int .i64 (y:Int)] w fun e w'=>∃ v',e=.returned v'/\Own w.heap.size w'.heap.size w' 3 cI 1 v' (distTo g a (y:Int))/\Below w.heap.size w w':=by
 have hg:=grOk_iff.1 hgo
 have hav0:=hav
 have hgv0:=hgv
 obtain ⟨A1,c1,A2,c2,rfl,hl1,hm1,hl2,hm2,-,-⟩:=hgv.form
 obtain ⟨A3,c3,A4,c4,rfl,hl3,hm3,hl4,hm4,-⟩:=hav.form ha
 have hn5:=hg.n5
 have he12:=hg.e12
 have hn12:=(auOk_iff.1 ha).1.2
 have hn1:=(auOk_iff.1 ha).1.1
 have hN60:g.vals.length * a.accept.length<=60:=Nat.mul_le_mul hn5 hn12
 have HGO:=Hd_ hgo
 have HAO:=Hd_ ha
 have HAV:=Hd_ hav0
 have HGV:=Hd_ hgv0
 have hb0:Below w.heap.size w ((w.alloc (.cells #[.slice A1 g.vals.length c1,.slice A2 g.edges.length c2] 27)).alloc (.cells #[.int .i64 a.start,.slice A3 a.accept.length c3,.slice A4 a.accept.length c4] 31)):=((Below.refl _ _).alloc (Nat.le_refl _) _).alloc (by simp) _
 obtain ⟨R,hR⟩:∃ R,R=distTo g a (y:Int):=⟨_,rfl⟩
 rw [<- hR]
 have HR:=Hd_ hR
 clear hgv hav ha hg hgo hav0 hgv0 hR
 go_enter Tryz.func60,Tryz.ntmps60
 go_wp2_with fail
 obtain ⟨W0,hW0⟩:∃ W0,W0=((w.alloc (.cells #[.slice A1 g.vals.length c1,.slice A2 g.edges.length c2] 27)).alloc (.cells #[.int .i64 a.start,.slice A3 a.accept.length c3,.slice A4 a.accept.length c4] 31)):=⟨_,rfl⟩
 rw [<- hW0] at hb0 ⊢
 have x0:W0.cell? ⟨w.heap.size,0,none⟩=some (.slice A1 g.vals.length c1):=by rw [hW0];simp
 have x1:W0.cell? ⟨w.heap.size,1,none⟩=some (.slice A2 g.edges.length c2):=by rw [hW0];simp
 have y0:W0.cell? ⟨w.heap.size+1,0,none⟩=some (.int .i64 a.start):=by rw [hW0];simp
 have y1:W0.cell? ⟨w.heap.size+1,1,none⟩=some (.slice A3 a.accept.length c3):=by rw [hW0];simp
 have y2:W0.cell? ⟨w.heap.size+1,2,none⟩=some (.slice A4 a.accept.length c4):=by rw [hW0];simp
 have hs0:w.heap.size+1+1=W0.heap.size:=by rw [hW0];simp
 rw [hs0]
 have l0:w.heap.size+1 < W0.heap.size:=by omega
 have l00:w.heap.size < W0.heap.size:=by omega
 clear hW0 hs0
 obtain ⟨N,hN⟩:∃ N,N=g.vals.length * a.accept.length:=⟨_,rfl⟩
 rw [<- hN] at hN60
 have m0:IntKind.i64.wrap ((g.vals.length:Int) * (a.accept.length:Int))=(N:Int):=by rw [IntWalk.i64_in _ (by rw [<- Int.natCast_mul,<- hN];omega)];rw [hN,Int.natCast_mul]
 have m0':(g.vals.length:Int) * (a.accept.length:Int)=(N:Int):=by rw [hN,Int.natCast_mul]
 have HN:=Hd_ hN
 clear hN
 go_loopw [8,9,10] (fun dd kk _ wr=>∃ k:Nat,k<=N/\kk=.int .i64 (k:Int)/\wr.ownsRow W0.heap.size 3 1 dd (iniL g a y k).length ((iniL g a y k).flatMap cI)/\Below W0.heap.size W0 wr) (fun _ kk _ _=>N - (intOf kk).toNat)
 case atStart=>exact ⟨0,Nat.zero_le _,rfl,World.ownsRow_lit W0 #[] 0 (Nat.le_refl _) (by decide) rfl,(Below.refl _ _).alloc (Nat.le_refl _) _⟩
 case round =>
  obtain ⟨k,hk,rfl,hrow,hbel⟩:=hrel
  have HROW:=Hd_ hrow
  have x0:=kcell hbel x0
  have x1:=kcell hbel x1
  have y0:=kcell hbel y0
  have y1:=kcell hbel y1
  have y2:=kcell hbel y2
  have hsz:=hbel.size
  have l0:=Nat.lt_of_lt_of_le l0 hsz
  have l00:=Nat.lt_of_lt_of_le l00 hsz
  have hbw:=below_trans hb0 hbel
  have HBW:=Hd_ hbw
  clear hrow hbw
  by_cases hlt:k < N
  · have hgp:g.vals.length * a.accept.length=N:=HN.out.symm
    have hnp:0 < a.accept.length:=by rcases Nat.eq_zero_or_pos a.accept.length with h | h;(rw [h,Nat.mul_zero] at hgp;omega);exact h
    obtain ⟨X,hX⟩:∃ X,X=k / a.accept.length:=⟨_,rfl⟩
    obtain ⟨S,hS⟩:∃ S,S=k % a.accept.length:=⟨_,rfl⟩
    have hXl:X < g.vals.length:=by rw [hX];exact Nat.div_lt_of_lt_mul (by rw [Nat.mul_comm,hgp];exact hlt)
    have hSl:S < a.accept.length:=by rw [hS];exact Nat.mod_lt _ hnp
    have t1:(k:Int).tdiv (a.accept.length:Int)=(X:Int):=by rw [hX];rfl
    have t2:(k:Int).tmod (a.accept.length:Int)=(S:Int):=by rw [hS];rfl
    have hn0:((a.accept.length:Int)==0)=false:=by simp only [beq_eq_false_iff_ne,ne_eq];omega
    have hki:(k:Int) < (N:Int):=by omega
    have HINI:=Hd_ (show ini g a y k=if (X==y && accC a (valAt g y) S)=true then 0 else -1 by rw [hX,hS];rfl)
    clear hX hS hgp
    have HSN:=Hd_ (iniL_snoc g a y k)
    have hil:(iniL g a y k).length<=60:=by rw [iniL_len];omega
    generalize iniL g a y k=D at *
    have HACC:=Hd_ (show ∀ W,Below w.heap.size w W->Calls Tryz.prog 107 #[.agg #[.slice A1 g.vals.length c1,.slice A2 g.edges.length c2],.agg #[.int .i64 a.start,.slice A3 a.accept.length c3,.slice A4 a.accept.length c4],.int .i64 (X:Int),.int .i64 (S:Int)] W fun e w'=>e=.returned (.bool (accC a (valAt g X) S))/\Below W.heap.size W w' from fun W hW=>l14Accepts_any _ _ g a X S W (HGV.out.keep hW) (HAV.out.keep hW) (grOk_iff.1 HGO.out) HAO.out hXl hSl)
    by_cases hxy:X=y
    · have k1:((X:Int)==(y:Int))=true:=by rw [hxy];simp
      have HXY:=Hd_ hxy
      clear hxy
      go_wp2_with fail
      refine wp_region_ext_lit (by kernel_rfl) (by kernel_rfl) ?_
      repeat (go_big_quiet_step ((go_at_call 107;exact Calls.ext_of (HACC.out _ (below_trans HBW.out (ext_below _ _))))))
      refine wpQuiet_nil ?_
      rintro _ ⟨u2,rfl⟩
      have hbu:=ext_below wr u2
      have HR2:=Hd_ (ownsRow_below HROW.out hbu (Nat.le_refl _))
      have hz2:W0.heap.size<=(ext wr u2).heap.size:=Nat.le_trans hsz hbu.size
      have hbel2:=hbel.trans (hbu.mono hsz)
      generalize ext wr u2=wx at *
      cases hacc:accC a (valAt g X) S with
      | true =>
        have HV:=Hd_ (show ini g a y k=0 by rw [HINI.out,<- HXY.out,hacc];simp)
        clear hacc
        go_wp2_with (at_builtin;(refine wpList_append1 cI elInt rfl _ _ rfl W0.heap.size _ (D) (0) _ 1 _ (by rfl) (HR2.out) (by rfl) rfl rfl rfl (cI_one _) (by omega) (by omega) (by omega) ?_);intro v' w4 hrow' hb4 _ _)
        go_roundw
        case rel=>exact ⟨k+1,by omega,by go_num,by rw [HSN.out,HV.out];exact hrow',hbel2.trans hb4⟩
        case measure=>simp [intOf];omega
      | false =>
        have HV:=Hd_ (show ini g a y k=-1 by rw [HINI.out,<- HXY.out,hacc];simp)
        clear hacc
        go_wp2_with (at_builtin;(refine wpList_append1 cI elInt rfl _ _ rfl W0.heap.size _ (D) (-1) _ 1 _ (by rfl) (HR2.out) (by rfl) rfl rfl rfl (cI_one _) (by omega) (by omega) (by omega) ?_);intro v' w4 hrow' hb4 _ _)
        go_roundw
        case rel=>exact ⟨k+1,by omega,by go_num,by rw [HSN.out,HV.out];exact hrow',hbel2.trans hb4⟩
        case measure=>simp [intOf];omega
    · have k1:((X:Int)==(y:Int))=false:=by simp only [beq_eq_false_iff_ne,ne_eq];omega
      have HV:=Hd_ (show ini g a y k=-1 by rw [HINI.out,beq_eq_false_iff_ne.2 hxy];simp)
      clear hxy
      go_wp2_with fail
      refine wp_region_ext_lit (by kernel_rfl) (by kernel_rfl) ?_
      repeat (go_big_quiet_step ((go_at_call 107;exact Calls.ext_of (HACC.out _ (below_trans HBW.out (ext_below _ _))))))
      refine wpQuiet_nil ?_
      rintro _ ⟨u2,rfl⟩
      have hbu:=ext_below wr u2
      have HR2:=Hd_ (ownsRow_below HROW.out hbu (Nat.le_refl _))
      have hz2:W0.heap.size<=(ext wr u2).heap.size:=Nat.le_trans hsz hbu.size
      have hbel2:=hbel.trans (hbu.mono hsz)
      generalize ext wr u2=wx at *
      go_wp2_with (at_builtin;(refine wpList_append1 cI elInt rfl _ _ rfl W0.heap.size _ (D) (-1) _ 1 _ (by rfl) (HR2.out) (by rfl) rfl rfl rfl (cI_one _) (by omega) (by omega) (by omega) ?_);intro v' w4 hrow' hb4 _ _)
      go_roundw
      case rel=>exact ⟨k+1,by omega,by go_num,by rw [HSN.out,HV.out];exact hrow',hbel2.trans hb4⟩
      case measure=>simp [intOf];omega
  · obtain rfl:k=N:=by omega
    clear hlt hk
    obtain ⟨wo,rfl⟩:∃ wo:World,wo=wr:=⟨_,rfl⟩
    obtain ⟨AD,cD,rfl,hlD,hmD,-⟩:=(Own.of_row (xs:=iniL g a y k) HROW.out rfl rfl).form cI_len
    rw [iniL_len] at hlD ⊢
    go_wp2_with fail
    go_loopw [11,12] (fun nn ii wr=>∃ (i:Nat) (us:List Value),i<=k/\ii=.int .i64 (i:Int)/\NS wo.heap.size wr 133 136 cPS 4 nn us (psL g a i)/\Below wo.heap.size wo wr) (fun _ ii _=>k - (intOf ii).toNat)
    case atStart=>exact ⟨0,[],Nat.zero_le _,rfl,NS.start (World.ownsRow_lit wo #[] 0 (Nat.le_refl _) (by decide) rfl),(Below.refl _ _).alloc (Nat.le_refl _) _⟩
    case round =>
     obtain ⟨i,us,hi,rfl,hns,hb2⟩:=hrel
     have hbw2:=below_trans HBW.out hb2
     have x0:=kcell hb2 x0
     have x1:=kcell hb2 x1
     have y0:=kcell hb2 y0
     have y1:=kcell hb2 y1
     have y2:=kcell hb2 y2
     have hs2:=hb2.size
     have HNS:=Hd_ hns
     have HBW2:=Hd_ hbw2
     clear hns hbw2
     by_cases hlt:i < k
     · have hgp:g.vals.length * a.accept.length=k:=HN.out.symm
       have hnp:0 < a.accept.length:=by rcases Nat.eq_zero_or_pos a.accept.length with h | h;(rw [h,Nat.mul_zero] at hgp;omega);exact h
       obtain ⟨X,hX⟩:∃ X,X=i / a.accept.length:=⟨_,rfl⟩
       obtain ⟨S,hS⟩:∃ S,S=i % a.accept.length:=⟨_,rfl⟩
       have hXl:X < g.vals.length:=by rw [hX];exact Nat.div_lt_of_lt_mul (by rw [Nat.mul_comm,hgp];exact hlt)
       have hSl:S < a.accept.length:=by rw [hS];exact Nat.mod_lt _ hnp
       have t1:(i:Int).tdiv (a.accept.length:Int)=(X:Int):=by rw [hX];rfl
       have t2:(i:Int).tmod (a.accept.length:Int)=(S:Int):=by rw [hS];rfl
       have hn0:((a.accept.length:Int)==0)=false:=by simp only [beq_eq_false_iff_ne,ne_eq];omega
       have HPX:=Hd_ (show psL g a (i+1)=psL g a i ++ [prodSteps g a X S] by rw [psL_snoc,hX,hS];rfl)
       have hpl:=psL_len g a i
       clear hX hS hgp
       generalize psL g a i=PL at *
       have N0:=Ne.symm (α:=Option Nat) (mt (HNS.out.own.lt w.heap.size) (by omega))
       have N1:=Ne.symm (α:=Option Nat) (mt (HNS.out.own.lt (w.heap.size+1)) (by omega))
       have HN0:=Hd_ N0
       have HN1:=Hd_ N1
       have hae:a.accept ≠ []:=by intro h;rw [h] at hnp;simp at hnp
       have q1:IntKind.i64.wrap (X:Int)=(X:Int):=IntWalk.i64_in _ (by omega)
       have q2:IntKind.i64.wrap (S:Int)=(S:Int):=IntWalk.i64_in _ (by omega)
       clear N0 N1
       go_wp2_with fail
       refine F_start 12 (fun w'=>w'.cell? ⟨w.heap.size,0,none⟩=some (.slice A1 g.vals.length c1)/\w'.cell? ⟨w.heap.size,1,none⟩=some (.slice A2 g.edges.length c2)/\w'.cell? ⟨w.heap.size+1,0,none⟩=some (.int .i64 a.start)/\w'.cell? ⟨w.heap.size+1,1,none⟩=some (.slice A3 a.accept.length c3)/\w'.cell? ⟨w.heap.size+1,2,none⟩=some (.slice A4 a.accept.length c4)) (by kernel_rfl) (by exact ⟨x0,x1,y0,y1,y2⟩) (fun hS inv=>?_)
       refine F_tk 0 inv ?_
       try simp only [tA,tB,tC,Act.put,tE,tF,tG]
       clear inv;intro inv
       refine F_tk 1 inv ?_
       try simp only [tA,tB,tC,Act.put,tE,tF,tG]
       clear inv;intro inv
       refine F_tk 2 inv ?_
       try simp only [tA,tB,tC,Act.put,tE,tF,tG]
       clear inv;intro inv
       refine F_tk 3 inv ?_
       try simp only [tA,tB,tC,Act.put,tE,tF,tG]
       clear inv;intro inv
       refine F_tk 4 inv ?_
       try simp only [tA,tB,tC,Act.put,tE,tF,tG]
       clear inv;intro inv
       refine F_tk 5 inv ?_
       try simp only [tA,tB,tC,Act.put,tE,tF,tG]
       clear inv;intro inv
       refine F_tk 6 inv ?_
       try simp only [tA,tB,tC,Act.put,tE,tF,tG]
       clear inv;intro inv
       refine F_tk 7 inv ?_
       try simp only [tA,tB,tC,Act.put,tE,tF,tG]
       clear inv;intro inv
       refine F_tk 8 inv ?_
       try simp only [tA,tB,tC,Act.put,tE,tF,tG]
       clear inv;intro inv
       refine F_o1 9 inv ?_;intro K hK
       try simp only [tA,tB,tC]
       go_simp
       refine (l14Steps_any _ _ g a X S _ (HGV.out.keep (below_trans HBW2.out ((Below.refl wr.heap.size wr).drew))) (HAV.out.keep (below_trans HBW2.out ((Below.refl wr.heap.size wr).drew))) HGO.out HAO.out hXl hSl).mono ?_
       rintro e wT ⟨vT,rfl,hoT,hbT⟩
       have HR1:=Hd_ ((HNS.out.below (Below.refl wr.heap.size wr).drew).below hbT)
       have HOT:=Hd_ (hoT.1)
       have hzT:wr.heap.size<=wT.heap.size:=hbT.size
       have HBT:=Hd_ (below_trans ((Below.refl wr.heap.size wr).drew) hbT)
       obtain ⟨AT,nT,cT,rfl⟩:=hoT.shape
       refine hK.out _ _ (kB5 hbT hS) (fun _ _=>?_)
       try simp only [tA,tB,tC,Act.put,tE,tF,tG]
       clear hK K inv hS;rename_i hS inv
       refine F_o1 10 inv ?_;intro K hK
       try simp only [tA,tB,tC]
       go_simp
       refine hK.out _ _ (kA5 _ hS) (fun _ _=>?_)
       try simp only [tA,tB,tC,Act.put,tE,tF,tG]
       clear hK K inv hS;rename_i hS inv
       refine F_o1 11 inv ?_;intro K hK
       try simp only [tA,tB,tC]
       have hus:=HNS.out.len
       refine op_append1 cV elPSS rfl _ _ (by rfl) wo.heap.size _ us (.slice AT nT cT) 1 _ (by rfl) (HR1.out.own.alloc _) (by first | rfl | simp) (heap_alloc_new _ _) rfl (by intro u hu;simp only [cV,List.mem_cons,List.not_mem_nil,or_false] at hu;subst hu;rfl) (by omega) (by omega) (by simp;omega) ?_
       intro g2 cp2 w3 hown3 hgr3 hat3 hlt3
       have HW3:=Hd_ hown3
       have HG3:=Hd_ hgr3
       have HA3:=Hd_ hat3
       clear hown3 hgr3 hat3
       refine hK.out _ _ (kG5 HG3.out HN0.out HN0.out HN1.out HN1.out HN1.out hS) (fun _ _=>?_)
       try simp only [tA,tB,tC,Act.put,tE,tF,tG]
       clear hK K inv hS;rename_i hS inv
       refine F_l1 12 ?_;intro K hK
       go_simp
       refine hK _ _ ?_
       clear hK K inv hS
       clear q1 q2
       go_wp2_with fail
       go_roundw
       case rel=>exact ⟨i+1,us ++ [.slice AT nT cT],by omega,by go_num,by rw [HPX.out];exact (HR1.out.below ((Below.refl _ _).alloc (Nat.le_refl _) _)).push (ownsRow_mono (HOT.out.alloc _) hs2) (fun b hb hm=>by have h1:=(HNS.out.lt b hm).2;have h2:=(HOT.out.lt b hb).1;have h3:wr.drew.heap.size=wr.heap.size:=rfl;omega) HG3.out (by have h:=HW3.out;rwa [show us.length+1=i+1 by omega] at h) (fun g hg=>by cases hg;exact HA3.out),((hb2.trans (HBT.out.mono hs2)).alloc (by omega) _).trans (own_below (HR1.out.own.alloc _) (by simp;omega) HG3.out)⟩
       case measure=>simp [intOf];omega
     · obtain rfl:i=k:=by omega
       obtain ⟨N,hNi⟩:∃ N,N=i:=⟨_,rfl⟩
       subst hNi
       obtain ⟨w3,rfl⟩:∃ w3:World,w3=wr:=⟨_,rfl⟩
       have hgn1:=(grOk_iff.1 HGO.out).n1
       have hN1:1<=N:=by have h:=HN.out;rw [h];exact Nat.mul_pos hgn1 hn1
       have hrow:=ownsRow_below HROW.out hb2 (Nat.le_refl _)
       rw [iniL_len] at hrow
       obtain ⟨gD,cD',hvD,hgD,-,-,-⟩:=own_some hrow (by omega)
       injection hvD with e1 _ e3
       subst e1
       subst e3
       have hgDo:gD < wo.heap.size:=(HROW.out.lt gD rfl).2
       have hini:=SW.ini (ini_SwO (g:=g) (y:=y) (N:=N) hn1 (nextI g a))
       have hnN:∀ i k,i < N->k ∈ nextI g a i->k < N:=fun i k _ hk=>by rw [HN.out];exact nextV_lt (grOk_iff.1 HGO.out) HAO.out hk
       obtain ⟨gN,cN',AN,cN2,rfl,-,hgN3,-,-,-,-⟩:=HNS.out.row cPS_len (psL_at (show 0 < N by omega))
       have hgNo:wo.heap.size<=gN:=(HNS.out.own.lt gN rfl).1
       rw [psL_len]
       have HROW3:=Hd_ hrow
       have HINI:=Hd_ hini
       have HNN:=Hd_ hnN
       clear HROW hrow hini hnN m0 m0' HBW hbel hb2 hi
       go_wp2_with fail
       go_loopw [13,14] (fun cc dd wr=>∃ (d e:Nat) (D:List Int) (ch:Bool),d=e+1/\cc=.bool ch/\dd=.int .i64 (d:Int)/\e<=N+1/\SW (nextI g a) (fun i=>i ∈ goalsL g a y) N e D ch/\wr.ownsRow W0.heap.size 3 1 (.slice (some ⟨gD,0,none⟩) N cD) N (D.flatMap cI)/\Only gD (gD+1) w3 wr) (fun _ dd _=>N+3 - (intOf dd).toNat)
       case atStart=>exact ⟨1,0,_,true,rfl,rfl,rfl,by omega,HINI.out,HROW3.out,Only.refl _ _ _⟩
       case round =>
        clear HINI HROW3
        obtain ⟨d,e,D,ch,hde,rfl,rfl,heN,hsw,hrow,hon⟩:=hrel
        have HSW:=Hd_ hsw
        have HROW:=Hd_ hrow
        clear hsw hrow
        cases ch with
        | false =>
          have hD:D=distTo g a (y:Int):=sweep_eq HGO.out HAO.out hy (by rw [<- HN.out];exact HSW.out.1) (by rw [<- HN.out];exact HSW.out.2.2 rfl)
          rw [<- HR.out] at hD
          have hown:=Own.of_row (xs:=D) (ownsRow_mono HROW.out hb0.size) HSW.out.1 rfl
          rw [hD] at hown
          have HO:=Hd_ hown
          have hfin:Below w.heap.size w wr:=HBW2.out.trans (hon.below (by have:=hb0.size;omega) HBW2.out.size)
          clear hD hown
          go_wp2_with fail
          go_ret
          exact ⟨_,rfl,HO.out,hfin⟩
        | true =>
          obtain ⟨hsi,hci⟩:=HSW.out.enter
          have heN2:=hci.le
          have HSI:=Hd_ hsi
          have HCI:=Hd_ hci
          have HDE:=Hd_ hde
          have hd1:1<=d:=by omega
          have hdN:d<=N+1:=by omega
          clear hsi hci hde HSW
          go_wp2_with fail
          go_loopw [13,15] (fun cc ii wr=>∃ (i:Nat) (D:List Int) (ch:Bool),i<=N/\cc=.bool ch/\ii=.int .i64 (i:Int)/\SwI (nextI g a) (fun i=>i ∈ goalsL g a y) N D e i ch/\CI e N D ch/\wr.ownsRow W0.heap.size 3 1 (.slice (some ⟨gD,0,none⟩) N cD) N (D.flatMap cI)/\Only gD (gD+1) w3 wr) (fun _ ii _=>N - (intOf ii).toNat)
          case atStart=>exact ⟨0,D,false,Nat.zero_le _,rfl,rfl,HSI.out,HCI.out,HROW.out,hon⟩
          case round =>
           clear HSI HCI HROW hon
           obtain ⟨i,D0,ch0,hi,rfl,rfl,hsi,hci,hrow,hon⟩:=hrel
           have HSI:=Hd_ hsi
           have HCI:=Hd_ hci
           have HROW:=Hd_ hrow
           clear hsi hci hrow
           by_cases hlt:i < N
           · obtain ⟨A7,c7,hc7,hl7,hm7,hs7⟩:=HNS.out.at cPS_len rfl (psL_at hlt)
             have hlp:(psI g a i).length<=288:=prodSteps_len (grOk_iff.1 HGO.out) a _ _
             have hnl:(nextI g a i).length=(psI g a i).length:=by rw [psI_next,List.length_map]
             have HNL:=Hd_ hnl
             have HS7:=Hd_ hs7
             have HC7:=Hd_ hc7
             clear hnl hs7 hc7
             go_wp2_with fail
             go_loopw [13,16] (fun cc kk wr=>∃ (k:Nat) (D:List Int) (ch:Bool),k<=(psI g a i).length/\cc=.bool ch/\kk=.int .i64 (k:Int)/\KI (nextI g a) D0 ch0 e i k D ch/\wr.ownsRow W0.heap.size 3 1 (.slice (some ⟨gD,0,none⟩) N cD) N (D.flatMap cI)/\Only gD (gD+1) w3 wr) (fun _ kk _=>(psI g a i).length - (intOf kk).toNat)
             case atStart=>exact ⟨0,D0,ch0,Nat.zero_le _,rfl,rfl,KI.start,HROW.out,hon⟩
             case round =>
              clear HROW hon
              obtain ⟨k,D,ch,hk,rfl,rfl,hki,hrow,hon⟩:=hrel
              have hDl:D.length=N:=hki.len.trans HSI.out.1
              have c7w:=ocell hon HC7.out hgN3 (.inr (by omega))
              have hDc:=(World.ownsRow.cellAt hrow i (by omega)).trans (flatI_at (getD_of (k:=i) (by omega)))
              obtain ⟨xi,hxi⟩:∃ xi,xi=D.getD i 0:=⟨_,rfl⟩
              rw [<- hxi] at hDc
              have hcn:=hki.cnt HCI.out (by rw [HSI.out.1];exact hlt)
              have HKI:=Hd_ hki
              have HROW:=Hd_ hrow
              have HXI:=Hd_ hxi
              have HDL:=Hd_ hDl
              have HCN:=Hd_ hcn
              have hii:(i:Int) < (N:Int):=by omega
              clear hki hrow hxi hDl hcn
              by_cases hlk:k < (psI g a i).length
              · by_cases hneg:xi < 0
                · have hpk:(psI g a i)[k]?=some (psI g a i)[k]:=List.getElem?_eq_getElem hlk
                  have hpr:=prodSteps_range (grOk_iff.1 HGO.out) HAO.out (List.getElem_mem hlk)
                  generalize (psI g a i)[k]=p at hpk hpr
                  have hnk:(nextI g a i)[k]?=some (psV a.accept.length p):=by rw [psI_next,List.getElem?_map,hpk];rfl
                  have hvN:=HNN.out i _ hlt (List.mem_of_getElem? hnk)
                  obtain ⟨b7,o7,rfl,hb70,hb71,r2,r3⟩:=HS7.out.ps hpk
                  have r2:=ocell hon r2 hb71 (.inr (by omega))
                  have r3:=ocell hon r3 hb71 (.inr (by omega))
                  obtain ⟨pst,z,q⟩:=p
                  simp only at r2 r3 hpr
                  obtain ⟨⟨hz0,hz1⟩,hq0,hq1⟩:=hpr
                  obtain ⟨z,rfl⟩:=Int.eq_ofNat_of_zero_le hz0
                  obtain ⟨q,rfl⟩:=Int.eq_ofNat_of_zero_le hq0
                  obtain ⟨vv,hvv⟩:∃ vv,vv=psV a.accept.length (pst,(z:Int),(q:Int)):=⟨_,rfl⟩
                  have hvv2:vv=z * a.accept.length+q:=by rw [hvv];simp [psV]
                  rw [<- hvv] at hnk hvN
                  obtain ⟨zn,hzn⟩:∃ zn,zn=z * a.accept.length:=⟨_,rfl⟩
                  rw [<- hzn] at hvv2
                  have m1':(z:Int) * (a.accept.length:Int)=(zn:Int):=by rw [hzn,Int.natCast_mul]
                  have m2':(zn:Int)+(q:Int)=(vv:Int):=by omega
                  have m1:IntKind.i64.wrap ((z:Int) * (a.accept.length:Int))=(zn:Int):=by rw [m1'];exact IntWalk.i64_in _ (by omega)
                  have m2:IntKind.i64.wrap ((zn:Int)+(q:Int))=(vv:Int):=by rw [m2'];exact IntWalk.i64_in _ (by omega)
                  have hvc:=(World.ownsRow.cellAt HROW.out vv (by omega)).trans (flatI_at (getD_of (k:=vv) (by have:=HDL.out;omega)))
                  obtain ⟨dv,hdv⟩:∃ dv,dv=D.getD vv 0:=⟨_,rfl⟩
                  rw [<- hdv] at hvc
                  have HDV:=Hd_ hdv
                  have HNK:=Hd_ hnk
                  have m3':(d:Int) - 1=(e:Int):=by have:=HDE.out;omega
                  have m3:IntKind.i64.wrap ((d:Int) - 1)=(e:Int):=by rw [m3'];exact IntWalk.i64_in _ (by omega)
                  have hkk:(k:Int) < ((psI g a i).length:Int):=by omega
                  have hvi:(vv:Int) < (N:Int):=by omega
                  clear hvv hvv2 hzn hdv hnk hpk hvN
                  go_wp2_with fail
                  go_quiet (fail)
                  have hdi:i < D0.length:=by rw [HSI.out.1];exact hlt
                  by_cases hdd:dv=(e:Int)
                  · have k1:(dv==(e:Int))=true:=by rw [hdd];simp
                    have hit:=HKI.out.hit hdi (by rw [<- HXI.out];exact hneg) HNK.out (by rw [<- HDV.out];exact hdd)
                    rw [show (e:Int)+1=(d:Int) by have:=HDE.out;omega] at hit
                    have hkf:=World.ownsRow.frozenAt HROW.out i
                    have hrow2:=(World.ownsRow.stored HROW.out i (.int .i64 (d:Int))).1
                    rw [flatI_set] at hrow2
                    have hon2:=hon.setCell (p:=⟨gD,i,none⟩) (.inl ⟨Nat.le_refl _,Nat.lt_succ_self _⟩) (.int .i64 (d:Int))
                    have HIT:=Hd_ hit
                    have HR2:=Hd_ hrow2
                    have HON2:=Hd_ hon2
                    clear hit hrow2 hon2 hdd m1 m2 m3 m1' m2' m3'
                    go_wp2_with fail
                    go_roundw
                    case rel=>exact ⟨k+1,_,true,by omega,rfl,by go_num,HIT.out,HR2.out,HON2.out.drewN _⟩
                    case measure=>simp [intOf];omega
                  · have k1:(dv==(e:Int))=false:=by simpa using hdd
                    have hit:=HKI.out.miss hdi (by rw [<- HXI.out];exact hneg) HNK.out (by rw [<- HDV.out];exact hdd)
                    have HIT:=Hd_ hit
                    clear hit hdd m1 m2 m3 m1' m2' m3'
                    go_wp2_with fail
                    go_roundw
                    case rel=>exact ⟨k+1,D,ch,by omega,rfl,by go_num,HIT.out,HROW.out,hon.drewN _⟩
                    case measure=>simp [intOf];omega
                · have hfin:=HKI.out.fin HSI.out hlt (.inr (by rw [<- HXI.out];exact hneg)) HNN.out
                  have HF:=Hd_ hfin
                  clear hfin
                  go_wp2_with fail
                  go_roundw
                  case rel=>exact ⟨i+1,D,ch,by omega,rfl,by go_num,HF.out,HCN.out,HROW.out,hon⟩
                  case measure=>simp [intOf];omega
              · have hfin:=HKI.out.fin HSI.out hlt (.inl (by have:=HNL.out;omega)) HNN.out
                obtain rfl:k=(psI g a i).length:=by omega
                have HF:=Hd_ hfin
                clear hfin
                go_wp2_with fail
                go_roundw
                case rel=>exact ⟨i+1,D,ch,by omega,rfl,by go_num,HF.out,HCN.out,HROW.out,hon⟩
                case measure=>simp [intOf];omega
           · obtain rfl:N=i:=by omega
             have hsw:=SW.leave HSI.out HCI.out HNN.out
             have HSW:=Hd_ hsw
             clear hsw
             go_wp2_with fail
             go_roundw
             case rel=>exact ⟨d+1,e+1,D0,ch0,by have:=HDE.out;omega,rfl,by go_num,by omega,HSW.out,HROW.out,hon⟩
             case measure=>simp [intOf];omega
def distFrom (g:Gr) (a:Au) (x:Int):List Int :=
 if (wi x 0 ((g.vals.length:Int) - 1) && (grOk g && auOk a))=true then spreadR (g.vals.length * a.accept.length) (nextI g a) [x.toNat * a.accept.length+a.start.toNat] else []
theorem distFrom_len {g:Gr} {a:Au} {x:Int} (h:(wi x 0 ((g.vals.length:Int) - 1) && (grOk g && auOk a))=true):(distFrom g a x).length=g.vals.length * a.accept.length:=by rw [distFrom,if_pos h,spreadR_len]
theorem flatN_atR {xs:List Nat} {t:Nat} {x:Nat} (h:xs[t]?=some x):(xs.flatMap cN)[t]?=some (.int .i64 (x:Int)):=by
 have:=flat_at cN_len h 0 _ rfl
 simpa using this
theorem SlI.grown {α:Type} {lo hi:Nat} {w w':World} {E:α->List Value} {k:Nat} {v:Value} {xs:List α} (h:SlI lo hi w E k v xs) {row:Option Nat} (hg:w.grownBy w' row) (hh:hi<=w.heap.size) (hn:∀ b,row=some b->b < lo ∨ hi<=b):SlI lo hi w' E k v xs :=
 h.keep_ fun b o h1 h2=>World.cell?_of_block (w:=w) (hg.block b (by omega) (fun e=>by have:=hn b e.symm;omega))
theorem ownsRow_far {w:World} {base k n:Nat} {e:TypeId} {v:Value} {cs:List Value} (h:w.ownsRow base e k v n cs) {p:Addr} (hp:p.block < base) (u:Value):(w.setCell p u).ownsRow base e k v n cs :=
 ownsRow_block h fun g hg=>Below.heap_setCell _ _ _ _ (by have:=(h.lt g hg).1;omega)
set_option maxHeartbeats 8000000 in
set_option maxRecDepth 100000 in
theorem l14Ranks_any (vg va:Value) (g:Gr) (a:Au) (x:Nat) (w:World) (hgv:GrV 0 w.heap.size w vg g) (hav:AuV 0 w.heap.size w va a) (hgo:grOk g=true) (ha:auOk a=true) (hx:x < g.vals.length) :
 Calls Tryz.prog 137 #[vg,va,.int .i64 (x:Int)] w fun e w'=>∃ v',e=.returned v'/\Own w.heap.size w'.heap.size w' 3 cI 1 v' (distFrom g a (x:Int))/\Below w.heap.size w w':=by
 have hg:=grOk_iff.1 hgo
 have hav0:=hav
 have hgv0:=hgv
 obtain ⟨A1,c1,A2,c2,rfl,hl1,hm1,hl2,hm2,-,-⟩:=hgv.form
 obtain ⟨A3,c3,A4,c4,rfl,hl3,hm3,hl4,hm4,-⟩:=hav.form ha
 have hn5:=hg.n5
 have hgn1:=hg.n1
 obtain ⟨⟨hn1,hn12⟩,⟨hst0,hst1⟩,-,-⟩:=auOk_iff.1 ha
 obtain ⟨N,hN⟩:∃ N,N=g.vals.length * a.accept.length:=⟨_,rfl⟩
 have hN60:N<=60:=by rw [hN];exact Nat.mul_le_mul hn5 hn12
 obtain ⟨s,hs⟩:∃ s:Nat,a.start=(s:Int):=⟨a.start.toNat,by omega⟩
 obtain ⟨xn,hxn⟩:∃ xn,xn=x * a.accept.length:=⟨_,rfl⟩
 have hxn2:xn+a.accept.length<=N:=by rw [hxn,hN];have:=Nat.mul_le_mul_right a.accept.length (show x+1<=g.vals.length by omega);rw [Nat.succ_mul] at this;exact this
 obtain ⟨S0,hS0⟩:∃ S0,S0=xn+s:=⟨_,rfl⟩
 have hS0N:S0 < N:=by omega
 have m0':(g.vals.length:Int) * (a.accept.length:Int)=(N:Int):=by rw [hN,Int.natCast_mul]
 have m0:IntKind.i64.wrap ((g.vals.length:Int) * (a.accept.length:Int))=(N:Int):=by rw [m0'];exact IntWalk.i64_in _ (by omega)
 have m1':(x:Int) * (a.accept.length:Int)=(xn:Int):=by rw [hxn,Int.natCast_mul]
 have m1:IntKind.i64.wrap ((x:Int) * (a.accept.length:Int))=(xn:Int):=by rw [m1'];exact IntWalk.i64_in _ (by omega)
 have m2':(xn:Int)+(s:Int)=(S0:Int):=by omega
 have m2:IntKind.i64.wrap ((xn:Int)+(s:Int))=(S0:Int):=by rw [m2'];exact IntWalk.i64_in _ (by omega)
 obtain ⟨R,hR⟩:∃ R,R=distFrom g a (x:Int):=⟨_,rfl⟩
 have hR2:R=bfs (nextI g a) (1+N) (srcD N [S0]) [S0]:=by
  rw [hR,distFrom,if_pos (by simp only [Bool.and_eq_true,wi_iff];exact ⟨by omega,hgo,ha⟩),Int.toNat_natCast,<- hxn,<- hN,hs,Int.toNat_natCast,<- hS0];rfl
 rw [<- hR]
 have hnN:∀ i k,i < N->k ∈ nextI g a i->k < N:=fun i k _ hk=>by rw [hN];exact nextV_lt hg ha hk
 have hini:=srcD_bfsI (N:=N) (fs:=[S0]) (by intro i hi;rw [List.mem_singleton] at hi;omega)
 have hsrc:srcD N [S0]=(List.replicate N (-1)).set S0 0:=rfl
 have HGO:=Hd_ hgo
 have HAO:=Hd_ ha
 have HAV:=Hd_ hav0
 have HGV:=Hd_ hgv0
 have HR:=Hd_ hR2
 have HN:=Hd_ hN
 have HNN:=Hd_ hnN
 have HINI:=Hd_ hini
 have HSRC:=Hd_ hsrc
 rw [hs] at HAV ⊢
 have hb0:Below w.heap.size w ((w.alloc (.cells #[.slice A1 g.vals.length c1,.slice A2 g.edges.length c2] 27)).alloc (.cells #[.int .i64 (s:Int),.slice A3 a.accept.length c3,.slice A4 a.accept.length c4] 31)):=((Below.refl _ _).alloc (Nat.le_refl _) _).alloc (by simp) _
 clear hgv hav ha hg hgo hav0 hgv0 hR hR2 hN hnN hini hsrc hxn hS0 hs hst0 hst1
 go_enter Tryz.func137,Tryz.ntmps137
 go_wp2_with fail
 obtain ⟨W0,hW0⟩:∃ W0,W0=((w.alloc (.cells #[.slice A1 g.vals.length c1,.slice A2 g.edges.length c2] 27)).alloc (.cells #[.int .i64 (s:Int),.slice A3 a.accept.length c3,.slice A4 a.accept.length c4] 31)):=⟨_,rfl⟩
 rw [<- hW0] at hb0 ⊢
 have x0:W0.cell? ⟨w.heap.size,0,none⟩=some (.slice A1 g.vals.length c1):=by rw [hW0];simp
 have x1:W0.cell? ⟨w.heap.size,1,none⟩=some (.slice A2 g.edges.length c2):=by rw [hW0];simp
 have y0:W0.cell? ⟨w.heap.size+1,0,none⟩=some (.int .i64 (s:Int)):=by rw [hW0];simp
 have y1:W0.cell? ⟨w.heap.size+1,1,none⟩=some (.slice A3 a.accept.length c3):=by rw [hW0];simp
 have y2:W0.cell? ⟨w.heap.size+1,2,none⟩=some (.slice A4 a.accept.length c4):=by rw [hW0];simp
 have hs0:w.heap.size+1+1=W0.heap.size:=by rw [hW0];simp
 rw [hs0]
 have l0:w.heap.size+1 < W0.heap.size:=by omega
 have l00:w.heap.size < W0.heap.size:=by omega
 clear hW0 hs0
 go_loopw [8,9] (fun dd kk wr=>∃ k:Nat,k<=N/\kk=.int .i64 (k:Int)/\wr.ownsRow W0.heap.size 3 1 dd (List.replicate k (-1:Int)).length ((List.replicate k (-1:Int)).flatMap cI)/\Below W0.heap.size W0 wr) (fun _ kk _=>N - (intOf kk).toNat)
 case atStart=>exact ⟨0,Nat.zero_le _,rfl,World.ownsRow_lit W0 #[] 0 (Nat.le_refl _) (by decide) rfl,(Below.refl _ _).alloc (Nat.le_refl _) _⟩
 case round =>
  obtain ⟨k,hk,rfl,hrow,hbel⟩:=hrel
  have HROW:=Hd_ hrow
  have x0:=kcell hbel x0
  have x1:=kcell hbel x1
  have y0:=kcell hbel y0
  have y1:=kcell hbel y1
  have y2:=kcell hbel y2
  have hsz:=hbel.size
  have l0:=Nat.lt_of_lt_of_le l0 hsz
  have l00:=Nat.lt_of_lt_of_le l00 hsz
  have hbw:=below_trans hb0 hbel
  have HBW:=Hd_ hbw
  clear hrow hbw
  by_cases hlt:k < N
  · have HSN:=Hd_ (show List.replicate (k+1) (-1:Int)=List.replicate k (-1) ++ [-1] from List.replicate_succ')
    have hil:(List.replicate k (-1:Int)).length<=60:=by rw [List.length_replicate];omega
    have hki:(k:Int) < (N:Int):=by omega
    generalize List.replicate k (-1:Int)=D at *
    go_wp2_with (at_builtin;(refine wpList_append1 cI elInt rfl _ _ rfl W0.heap.size _ (D) (-1) _ 1 _ (by rfl) (HROW.out) (by rfl) rfl rfl rfl (cI_one _) (by omega) (by omega) (by omega) ?_);intro v' w4 hrow' hb4 _ _)
    go_roundw
    case rel=>exact ⟨k+1,by omega,by go_num,by rw [HSN.out];exact hrow',hbel.trans hb4⟩
    case measure=>simp [intOf];omega
  · obtain rfl:k=N:=by omega
    clear hlt hk
    obtain ⟨wo,rfl⟩:∃ wo:World,wo=wr:=⟨_,rfl⟩
    have hrow:=HROW.out
    rw [List.length_replicate] at hrow
    obtain ⟨gD,cD,rfl,hgD,hgDo,-,-⟩:=own_some hrow (by omega)
    have hDc:=World.ownsRow.cellAt hrow S0 (by omega)
    rw [flatI_at (x:=-1) (by rw [List.getElem?_replicate,if_pos hS0N])] at hDc
    have hDf:=World.ownsRow.frozenAt hrow S0
    have hrow2:=(World.ownsRow.stored hrow S0 (.int .i64 0)).1
    rw [flatI_set,<- HSRC.out] at hrow2
    have HR2:=Hd_ hrow2
    have hS0i:(S0:Int) < (k:Int):=by omega
    clear hrow hrow2 HROW HSRC
    go_wp2_with fail
    obtain ⟨N,hNk⟩:∃ N,N=k:=⟨_,rfl⟩
    subst hNk
    have hwo:=HBW.out.size
    have hb1:=hb0.size
    clear hDc hDf m0 m0' m1 m1' m2 m2'
    go_loopg [10,11] (1+N) (fun f qv ii wr=>∃ (i:Nat) (D:List Int) (Q:List Nat),i<=Q.length/\i+f=1+N/\ii=.int .i64 (i:Int)/\BfsI N (1+N) f D (Q.drop i)/\bfs (nextI g a) f D (Q.drop i)=R/\wr.ownsRow W0.heap.size 3 1 (.slice (some ⟨gD,0,none⟩) N cD) N (D.flatMap cI) /\
     wr.ownsRow wo.heap.size 3 1 qv Q.length (Q.flatMap cN)/\Only gD (gD+1) wo wr)
    case atStart=>exact ⟨0,srcD N [S0],[S0],Nat.zero_le _,by omega,rfl,HINI.out,HR.out.symm,HR2.out.alloc _,by (have h:=World.ownsRow_lit (base:=wo.heap.size) (e:=3) (size:=1) (wo.setCell ⟨gD,S0,none⟩ (.int .i64 0)) #[.int .i64 (S0:Int)] 1 (by simp) (by decide) rfl);rw [World.size_setCell] at h;exact h,((Only.refl gD (gD+1) wo).setCell (p:=⟨gD,S0,none⟩) (.inl ⟨Nat.le_refl _,Nat.lt_succ_self _⟩) _).alloc _⟩
    case round =>
     clear HR2 HINI hbel
     obtain ⟨i,D,Q,hi,hif,rfl,hI,hB,hrow,hq,hon⟩:=hrel
     have HI:=Hd_ hI
     have HB:=Hd_ hB
     have HROW:=Hd_ hrow
     have HQ:=Hd_ hq
     have x0:=ocell hon x0 l00 (.inl (by omega))
     have x1:=ocell hon x1 l00 (.inl (by omega))
     have y0:=ocell hon y0 l0 (.inl (by omega))
     have y1:=ocell hon y1 l0 (.inl (by omega))
     have y2:=ocell hon y2 l0 (.inl (by omega))
     have hbw:=HBW.out.trans (hon.below (by omega) hwo)
     have HBWR:=Hd_ hbw
     have hsz2:=hon.size
     clear hI hB hrow hq hbw
     by_cases hlt:i < Q.length
     · have hdr:Q.drop i=Q[i] :: Q.drop (i+1):=List.drop_eq_getElem_cons hlt
       have hqi:Q[i]?=some Q[i]:=List.getElem?_eq_getElem hlt
       generalize Q[i]=h at hdr hqi
       rw [hdr] at HI HB
       obtain ⟨f,rfl⟩:∃ f,gk=f+1:=⟨gk - 1,by have:=HI.out.fuel;rw [List.length_cons] at this;omega⟩
       obtain ⟨hhN,hh0⟩:=HI.out.queue h (by simp)
       have hql:Q.length<=61:=by
        have h1:=HI.out.fuel
        rw [<- hdr,List.length_drop] at h1
        omega
       obtain ⟨gQ,cQ,rfl,hgQ,hgQw,-,-⟩:=own_some HQ.out (by omega)
       have hqc:=(World.ownsRow.cellAt HQ.out i (by omega)).trans (flatN_atR hqi)
       have qc:=hqc
       have hgp:g.vals.length * a.accept.length=N:=HN.out.symm
       obtain ⟨X,hX⟩:∃ X,X=h / a.accept.length:=⟨_,rfl⟩
       obtain ⟨S,hS⟩:∃ S,S=h % a.accept.length:=⟨_,rfl⟩
       have hXl:X < g.vals.length:=by rw [hX];exact Nat.div_lt_of_lt_mul (by rw [Nat.mul_comm,hgp];exact hhN)
       have hSl:S < a.accept.length:=by rw [hS];exact Nat.mod_lt _ hn1
       have t1:(h:Int).tdiv (a.accept.length:Int)=(X:Int):=by rw [hX];rfl
       have t2:(h:Int).tmod (a.accept.length:Int)=(S:Int):=by rw [hS];rfl
       have hn0:((a.accept.length:Int)==0)=false:=by simp only [beq_eq_false_iff_ne,ne_eq];omega
       have hae:a.accept ≠ []:=by intro h;rw [h] at hn1;simp at hn1
       have HPX:=Hd_ (show prodSteps g a X S=psI g a h by rw [hX,hS];rfl)
       have q1:IntKind.i64.wrap (X:Int)=(X:Int):=IntWalk.i64_in _ (by omega)
       have q2:IntKind.i64.wrap (S:Int)=(S:Int):=IntWalk.i64_in _ (by omega)
       have hii:(i:Int) < (Q.length:Int):=by omega
       have HQI:=Hd_ hqi
       have HDR:=Hd_ hdr
       clear hX hS hgp hdr hqi
       go_wp2_with fail
       refine F_start 15 (fun w'=>w'.cell? ⟨w.heap.size,0,none⟩=some (.slice A1 g.vals.length c1)/\w'.cell? ⟨w.heap.size,1,none⟩=some (.slice A2 g.edges.length c2)/\w'.cell? ⟨w.heap.size+1,0,none⟩=some (.int .i64 (s:Int))/\w'.cell? ⟨w.heap.size+1,1,none⟩=some (.slice A3 a.accept.length c3)/\w'.cell? ⟨w.heap.size+1,2,none⟩=some (.slice A4 a.accept.length c4)/\w'.cell? ⟨gQ,i,none⟩=some (.int .i64 (h:Int))) (by kernel_rfl) (by exact ⟨x0,x1,y0,y1,y2,qc⟩) (fun hS inv=>?_)
       refine F_tk 0 inv ?_
       try simp only [tA,tB,tC,Act.put,tE,tF,tG]
       clear inv;intro inv
       refine F_tk 1 inv ?_
       try simp only [tA,tB,tC,Act.put,tE,tF,tG]
       clear inv;intro inv
       refine F_tk 2 inv ?_
       try simp only [tA,tB,tC,Act.put,tE,tF,tG]
       clear inv;intro inv
       refine F_tk 3 inv ?_
       try simp only [tA,tB,tC,Act.put,tE,tF,tG]
       clear inv;intro inv
       refine F_tk 4 inv ?_
       try simp only [tA,tB,tC,Act.put,tE,tF,tG]
       clear inv;intro inv
       refine F_tk 5 inv ?_
       try simp only [tA,tB,tC,Act.put,tE,tF,tG]
       clear inv;intro inv
       refine F_tk 6 inv ?_
       try simp only [tA,tB,tC,Act.put,tE,tF,tG]
       clear inv;intro inv
       refine F_tk 7 inv ?_
       try simp only [tA,tB,tC,Act.put,tE,tF,tG]
       clear inv;intro inv
       refine F_tk 8 inv ?_
       try simp only [tA,tB,tC,Act.put,tE,tF,tG]
       clear inv;intro inv
       refine F_tk 9 inv ?_
       try simp only [tA,tB,tC,Act.put,tE,tF,tG]
       clear inv;intro inv
       refine F_tk 10 inv ?_
       try simp only [tA,tB,tC,Act.put,tE,tF,tG]
       clear inv;intro inv
       refine F_tk 11 inv ?_
       try simp only [tA,tB,tC,Act.put,tE,tF,tG]
       clear inv;intro inv
       refine F_tk 12 inv ?_
       try simp only [tA,tB,tC,Act.put,tE,tF,tG]
       clear inv;intro inv
       refine F_tk 13 inv ?_
       try simp only [tA,tB,tC,Act.put,tE,tF,tG]
       clear inv;intro inv
       refine F_o1 14 inv ?_;intro K hK
       try simp only [tA,tB,tC]
       go_simp
       refine (l14Steps_any _ _ g a X S _ (HGV.out.keep (below_trans HBWR.out ((Below.refl wr.heap.size wr).drew))) (HAV.out.keep (below_trans HBWR.out ((Below.refl wr.heap.size wr).drew))) HGO.out HAO.out hXl hSl).mono ?_
       rintro e wT ⟨vT,rfl,hoT,hbT⟩
       refine hK.out _ _ (kB6 hbT hS) (fun _ _=>?_)
       try simp only [tA,tB,tC,Act.put,tE,tF,tG]
       clear hK K inv hS;rename_i hS inv
       refine F_l1 15 ?_;intro K hK
       go_simp
       refine hK _ _ ?_
       clear hK K inv hS
       have hbWT:=below_trans ((Below.refl wr.heap.size wr).drew) hbT
       have hsT:=hbWT.size
       have hrT:=ownsRow_below HROW.out hbWT (Nat.le_refl _)
       have hqT:=ownsRow_below HQ.out hbWT (Nat.le_refl _)
       have honT:=hon.trans (Only.of_below hbWT gD (gD+1))
       have hslT:SlI wr.heap.size wT.heap.size wT cPS 4 vT (psI g a h):=by have h:=hoT.sl cPS_len;rw [HPX.out] at h;exact h
       have hlp:(psI g a h).length<=288:=prodSteps_len (grOk_iff.1 HGO.out) a _ _
       have hnl:(nextI g a h).length=(psI g a h).length:=by rw [psI_next,List.length_map]
       obtain ⟨A7,c7,rfl,hl7,hm7,-⟩:=SlE.form (hslT.mono (Nat.zero_le _) (Nat.le_refl _))
       obtain ⟨dd,hdd⟩:∃ dd,dd=D.getD h 0:=⟨_,rfl⟩
       have htop:=HI.out.top h
       rw [<- hdd] at htop hh0
       have HDD:=Hd_ hdd
       have HPOP:=Hd_ HI.out.pop
       have HROWT:=Hd_ hrT
       have HQT:=Hd_ hqT
       have HONT:=Hd_ honT
       have HSL:=Hd_ hslT
       have HNL:=Hd_ hnl
       have HBR:=Hd_ (show relax (dd+1) (nextI g a h) D (Q.drop (i+1))=relax (dd+1) (nextI g a h) D (Q.drop (i+1)) from rfl)
       obtain ⟨w5,rfl⟩:∃ w5:World,w5=wr:=⟨_,rfl⟩
       clear hrT hqT honT hslT hnl hdd hon q1 q2 t1 t2 hoT hqc qc
       go_wp2_with fail
       go_loopw [10,13] (fun qv jj wr=>∃ (j:Nat) (D':List Int) (Q':List Nat),j<=(psI g a h).length/\jj=.int .i64 (j:Int)/\i < Q'.length/\Q'[i]?=some h/\BfsI N (1+N) f D' (Q'.drop (i+1))/\D'.getD h 0=dd /\
        relax (dd+1) ((nextI g a h).drop j) D' (Q'.drop (i+1))=relax (dd+1) (nextI g a h) D (Q.drop (i+1))/\wr.ownsRow W0.heap.size 3 1 (.slice (some ⟨gD,0,none⟩) N cD) N (D'.flatMap cI)/\wr.ownsRow wo.heap.size 3 1 qv Q'.length (Q'.flatMap cN) /\
        Only gD (gD+1) wo wr/\SlI w5.heap.size wT.heap.size wr cPS 4 (.slice A7 (psI g a h).length c7) (psI g a h)/\(∀ b,qv.ownBlock=some b->b < w5.heap.size ∨ wT.heap.size<=b)/\wT.heap.size<=wr.heap.size) (fun _ jj _=>(psI g a h).length - (intOf jj).toNat)
       case atStart=>exact ⟨0,D,Q,Nat.zero_le _,rfl,hlt,HQI.out,HPOP.out,HDD.out.symm,by rw [List.drop_zero],HROWT.out,HQT.out,HONT.out,HSL.out,fun b hb=>.inl (HQ.out.lt b hb).2,Nat.le_refl _⟩
       case round =>
        clear HROWT HQT HONT HSL HPOP
        obtain ⟨j,D',Q',hj,rfl,hiQ,hqi',hI2,hDh,hrx,hrow,hq,hon,hsl,hqb,hsz3⟩:=hrel
        have HQI':=Hd_ hqi'
        have HI2:=Hd_ hI2
        have HDH:=Hd_ hDh
        have HRX:=Hd_ hrx
        have HROW':=Hd_ hrow
        have HQ':=Hd_ hq
        have HSL:=Hd_ hsl
        have HQB:=Hd_ hqb
        have HON:=Hd_ hon
        clear hqi' hI2 hDh hrx hrow hq hsl hqb hon
        by_cases hlj:j < (psI g a h).length
        · have hpk:(psI g a h)[j]?=some (psI g a h)[j]:=List.getElem?_eq_getElem hlj
          have hpr:=prodSteps_range (grOk_iff.1 HGO.out) HAO.out (List.getElem_mem hlj)
          generalize (psI g a h)[j]=p at hpk hpr
          have hnk:(nextI g a h)[j]?=some (psV a.accept.length p):=by rw [psI_next,List.getElem?_map,hpk];rfl
          have hvN:=HNN.out h _ hhN (List.mem_of_getElem? hnk)
          obtain ⟨b7,o7,rfl,hb70,hb71,r2,r3⟩:=HSL.out.ps hpk
          obtain ⟨pst,z,q⟩:=p
          simp only at r2 r3 hpr
          obtain ⟨⟨hz0,hz1⟩,hq0,hq1⟩:=hpr
          obtain ⟨z,rfl⟩:=Int.eq_ofNat_of_zero_le hz0
          obtain ⟨q,rfl⟩:=Int.eq_ofNat_of_zero_le hq0
          obtain ⟨vv,hvv⟩:∃ vv,vv=psV a.accept.length (pst,(z:Int),(q:Int)):=⟨_,rfl⟩
          have hvv2:vv=z * a.accept.length+q:=by rw [hvv];simp [psV]
          rw [<- hvv] at hnk hvN
          have hdrj:(nextI g a h).drop j=vv :: (nextI g a h).drop (j+1):=by
           obtain ⟨hjl,hjv⟩:=List.getElem?_eq_some_iff.1 hnk
           rw [List.drop_eq_getElem_cons hjl,hjv]
          obtain ⟨zn,hzn⟩:∃ zn,zn=z * a.accept.length:=⟨_,rfl⟩
          rw [<- hzn] at hvv2
          have m1':(z:Int) * (a.accept.length:Int)=(zn:Int):=by rw [hzn,Int.natCast_mul]
          have m2':(zn:Int)+(q:Int)=(vv:Int):=by omega
          have m1:IntKind.i64.wrap ((z:Int) * (a.accept.length:Int))=(zn:Int):=by rw [m1'];exact IntWalk.i64_in _ (by omega)
          have m2:IntKind.i64.wrap ((zn:Int)+(q:Int))=(vv:Int):=by rw [m2'];exact IntWalk.i64_in _ (by omega)
          have HDJ:=Hd_ hdrj
          have hjj:(j:Int) < ((psI g a h).length:Int):=by omega
          have hvi:(vv:Int) < (N:Int):=by omega
          have hb7w:b7 < wr.heap.size:=by omega
          clear hvv hvv2 hzn hnk hpk hdrj
          go_wp2_with fail
          refine wp_region_ext_lit (by kernel_rfl) (by kernel_rfl) ?_
          repeat (go_big_quiet_step (fail))
          refine wpQuiet_nil ?_
          rintro _ ⟨u2,rfl⟩
          have hbu:=ext_below wr u2
          have hsu:=hbu.size
          have hrow3:=ownsRow_below HROW'.out hbu (Nat.le_refl _)
          have hq3:=ownsRow_below HQ'.out hbu (Nat.le_refl _)
          have hon3:=HON.out.trans (Only.of_below hbu gD (gD+1))
          have hsl3:=HSL.out.below hbu (by omega)
          clear m1 m1' m2 m2' r2 r3
          generalize ext wr u2=wx at *
          have hlD:D'.length=N:=HI2.out.len
          have hvl:vv < D'.length:=by omega
          have hvc:=(World.ownsRow.cellAt hrow3 vv (by omega)).trans (flatI_at (getD_of hvl))
          have hvf:=World.ownsRow.frozenAt hrow3 vv
          have HQ3:=Hd_ hq3
          have HON3:=Hd_ hon3
          have HSL3:=Hd_ hsl3
          have HROW3:=Hd_ hrow3
          have hQl:Q'.length<=61:=by
           have h1:=HI2.out.fuel
           rw [List.length_drop] at h1
           omega
          clear hrow3 hq3 hon3 hsl3
          by_cases hneg:D'.getD vv 0 < 0
          · have hhl:h < D'.length:=by omega
            have hhc:=(World.ownsRow.cellAt HROW3.out h (by omega)).trans (flatI_at (getD_of hhl))
            rw [HDH.out] at hhc
            obtain ⟨gQ',cQ',rfl,hgQ',hgQw',-,-⟩:=own_some HQ3.out (by omega)
            have hqc':=(World.ownsRow.cellAt HQ3.out i (by omega)).trans (flatN_atR HQI'.out)
            have hnew:=HI2.out.new hvN hneg (d:=dd+1) (by omega) (by omega)
            have hrow4:=(World.ownsRow.stored HROW3.out vv (.int .i64 (dd+1))).1
            rw [flatI_set] at hrow4
            have hq4:=ownsRow_far HQ3.out (p:=⟨gD,vv,none⟩) (show gD < wo.heap.size from hgDo) (.int .i64 (dd+1))
            have hon4:=HON3.out.setCell (p:=⟨gD,vv,none⟩) (.inl ⟨Nat.le_refl _,Nat.lt_succ_self _⟩) (.int .i64 (dd+1))
            have hsl4:=HSL3.out.only ((Only.refl gD (gD+1) wx).setCell (p:=⟨gD,vv,none⟩) (.inl ⟨Nat.le_refl _,Nat.lt_succ_self _⟩) (.int .i64 (dd+1))) (by omega) (.inr (by omega))
            have hrx2:relax (dd+1) ((nextI g a h).drop (j+1)) (D'.set vv (dd+1)) (Q'.drop (i+1) ++ [vv])=relax (dd+1) (nextI g a h) D (Q.drop (i+1)):=by rw [<- HRX.out,HDJ.out,relax_mid _ _ _ _ _ hneg]
            have hDh2:(D'.set vv (dd+1)).getD h 0=dd:=by
             rw [getD_set' hvl,if_neg (by intro e;subst e;rw [HDH.out] at hneg;omega)];exact HDH.out
            have hdrp:(Q' ++ [vv]).drop (i+1)=Q'.drop (i+1) ++ [vv]:=List.drop_append_of_le_length (by omega)
            rw [<- hdrp] at hnew hrx2
            have HNEW:=Hd_ hnew
            have HR4:=Hd_ hrow4
            have HQ4:=Hd_ hq4
            have HON4:=Hd_ hon4
            have HSL4:=Hd_ hsl4
            have HRX2:=Hd_ hrx2
            have HDH2:=Hd_ hDh2
            have hsx:(wx.setCell ⟨gD,vv,none⟩ (.int .i64 (dd+1))).heap.size=wx.heap.size:=by simp
            generalize D'.getD vv 0=xv at hvc hneg
            have hii2:(i:Int) < (Q'.length:Int):=by omega
            have hhi:(h:Int) < (N:Int):=by omega
            clear hnew hrow4 hq4 hon4 hsl4 hrx2 hDh2 hdrp
            go_wp2_with (at_builtin;(refine wpList_append1 cN elInt rfl _ _ rfl wo.heap.size _ Q' vv _ 1 _ (by rfl) HQ4.out (by rfl) (by simp) rfl rfl (cN_one _) (by omega) (by omega) (by simp;omega) ?_);intro v' w4 hrow' hb4 hat4 hgr4)
            go_roundw
            case rel =>
             have hs4:=hgr4.size
             have hs5:((wx.setCell ⟨gD,vv,none⟩ (.int .i64 (dd+1))).alloc (.cells #[.int .i64 (vv:Int)] 3)).heap.size=wx.heap.size+1:=by simp
             rw [hs5] at hs4
             refine ⟨j+1,_,Q' ++ [vv],by omega,by go_num,by simp;omega,by rw [List.getElem?_append_left hiQ];exact HQI'.out,HNEW.out,HDH2.out,HRX2.out,ownsRow_below' HR4.out hb4 hgDo,hrow',(HON4.out.alloc _).grown hgr4 (fun b hb=>.inr (by cases hb;exact hgQ')),(HSL4.out.below ((Below.refl _ _).alloc (Nat.le_refl _) _) (by rw [hsx];omega)).grown hgr4 (by rw [hs5];omega) (fun b hb=>HQB.out b hb),fun b hb=>?_,by omega⟩
             rcases hat4 with h1 | ⟨g1,h1,h2⟩
             · exact HQB.out b (by rw [<- h1];exact hb)
             · rw [h1] at hb
               injection hb with hb
               rw [hsx] at h2
               exact .inr (by omega)
            case measure=>simp [intOf];omega
          · have hrx2:relax (dd+1) ((nextI g a h).drop (j+1)) D' (Q'.drop (i+1))=relax (dd+1) (nextI g a h) D (Q.drop (i+1)):=by rw [<- HRX.out,HDJ.out,relax_old _ _ _ _ _ hneg]
            have HRX2:=Hd_ hrx2
            generalize D'.getD vv 0=xv at hvc hneg
            clear hrx2
            go_wp2_with fail
            go_roundw
            case rel=>exact ⟨j+1,D',Q',by omega,by go_num,hiQ,HQI'.out,HI2.out,HDH.out,HRX2.out,HROW3.out,HQ3.out,HON3.out,HSL3.out,HQB.out,by omega⟩
            case measure=>simp [intOf];omega
        · obtain rfl:j=(psI g a h).length:=by omega
          have hrx2:=HRX.out
          rw [<- HNL.out,List.drop_length,relax] at hrx2
          have hBF:bfs (nextI g a) f D' (Q'.drop (i+1))=R:=by
           rw [<- HB.out,bfs,<- HDD.out,<- hrx2]
          have HBF:=Hd_ hBF
          clear hrx2 hBF
          go_wp2_with fail
          go_roundg f
          case measure=>exact Nat.lt_succ_self _
          case rel=>exact ⟨i+1,D',Q',by omega,by omega,by go_num,HI2.out,HBF.out,HROW'.out,HQ'.out,HON.out⟩
     · obtain rfl:i=Q.length:=by omega
       rw [List.drop_length] at HB HI
       have hD:D=R:=by rw [<- HB.out,bfs_nil]
       have hown:=Own.of_row (xs:=D) (ownsRow_mono HROW.out hb1) HI.out.len rfl
       rw [hD] at hown
       have HO:=Hd_ hown
       obtain ⟨A9,c9,rfl,-,-,-⟩:=(Own.of_row (xs:=Q) HQ.out rfl rfl).form cN_len
       clear hD hown
       go_wp2_with fail
       go_ret
       exact ⟨_,rfl,HO.out,HBWR.out⟩
end Go.Proofs.YtjpdembmchnbgaaGreat
namespace Go.Proofs.YtjpdembmchnbgaaGreat
/-- vertex i is reached and accepts -/
def okV (g:Gr) (a:Au) (D:List Int) (i:Nat):Bool:=decide (0<=D.getD i 0) && accC a (valAt g (i / a.accept.length)) (i % a.accept.length)
def ansM (g:Gr) (a:Au) (D:List Int) (k:Nat):Nat:=((List.range k).filter (okV g a D)).foldl (fun m i=>ins m (i / a.accept.length)) 0
theorem ansM_yes {g:Gr} {a:Au} {D:List Int} {k:Nat} (h:okV g a D k=true):ansM g a D (k+1)=ins (ansM g a D k) (k / a.accept.length):=by
 simp [ansM,List.range_succ,List.filter_append,h]
theorem ansM_no {g:Gr} {a:Au} {D:List Int} {k:Nat} (h:okV g a D k=false):ansM g a D (k+1)=ansM g a D k:=by
 simp [ansM,List.range_succ,List.filter_append,h]
theorem foldl_ins_nat (f:Nat->Nat) (l:List Nat) (m t:Nat):(l.foldl (fun m i=>ins m (f i)) m).testBit t=(m.testBit t || l.any (fun i=>decide (f i=t))):=by
 induction l generalizing m with
 | nil=>simp
 | cons x l ih=>rw [List.foldl_cons,ih,ins_test,List.any_cons,Bool.or_assoc]
theorem ansM_test (g:Gr) (a:Au) (D:List Int) (k t:Nat):(ansM g a D k).testBit t=true ↔ ∃ i,i < k/\okV g a D i=true/\i / a.accept.length=t:=by
 unfold ansM
 rw [foldl_ins_nat]
 simp only [Nat.zero_testBit,Bool.false_or,List.any_eq_true,List.mem_filter,List.mem_range,decide_eq_true_eq]
 constructor
 · rintro ⟨i,⟨h1,h2⟩,h3⟩;exact ⟨i,h1,h2,h3⟩
 · rintro ⟨i,h1,h2,h3⟩;exact ⟨i,⟨h1,h2⟩,h3⟩
theorem ansM_lt {g:Gr} {a:Au} {D:List Int} {k n:Nat} (h:k<=n * a.accept.length):ansM g a D k < 2 ^ n:=by
 refine Nat.lt_pow_two_of_testBit _ fun t ht=>?_
 cases hb:(ansM g a D k).testBit t with
 | false=>rfl
 | true =>
   obtain ⟨i,hi,_,rfl⟩:=(ansM_test ..).1 hb
   have:i / a.accept.length < n:=Nat.div_lt_of_lt_mul (by rw [Nat.mul_comm];omega)
   omega
/-- the answers from x, in ascending order -/
def ansL (g:Gr) (a:Au) (x:Int):List Int :=
 if (wi x 0 ((g.vals.length:Int) - 1) && (grOk g && auOk a))=true then memI 30 (ansM g a (distFrom g a x) (g.vals.length * a.accept.length)) else []
theorem ansL_len (g:Gr) (a:Au) (x:Int):(ansL g a x).length<=30:=by
 unfold ansL
 split
 · unfold memI;rw [List.length_map];exact mem_len _ _
 · simp
section
open Go.ChangeShapes Go.WideShapes Go.ChangeAt Go.RowKit
theorem SlI.intI {lo hi:Nat} {w:World} {A:Option Addr} {n c:Nat} {xs:List Int} (h:SlI lo hi w cI 1 (.slice A n c) xs) {i:Nat} {x:Int} (hx:xs[i]?=some x) :
 ∃ b o,A=some ⟨b,o,none⟩/\lo<=b/\b < hi/\w.cell? ⟨b,o+i,none⟩=some (.int .i64 x):=by
 obtain ⟨A',c',hv,_,_,h3⟩:=h
 injection hv with h1 _ _
 subst h1
 obtain ⟨b,o,e,g1,g2,hc⟩:=h3 i x hx
 exact ⟨b,o,e,g1,g2,by simpa using hc 0 _ rfl⟩
end
end Go.Proofs.YtjpdembmchnbgaaGreat
namespace Go.Proofs.YtjpdembmchnbgaaGreat
open Go.ChangeShapes Go.WideShapes Go.ChangeAt Go.RowKit
attribute [local go_sem] ext_cell ext_frozen ext_lt ext_lt1 ext_lt2 ext_lt3 ltn2 ltn3 ltn13 lts1 lts2 lts3
set_option maxHeartbeats 2000000 in
theorem l4Set_any (m:Nat) (w:World) (hm:m < 2 ^ 60) :
 Calls Tryz.prog 138 #[.int .i64 (m:Int)] w fun e w'=>∃ v',e=.returned v'/\Own w.heap.size w'.heap.size w' 3 cI 1 v' (memI 30 m)/\Below w.heap.size w w':=by
 obtain ⟨R,hR⟩:∃ R,R=memI 30 m:=⟨_,rfl⟩
 rw [<- hR]
 have HR:=Hd_ hR
 clear hR
 go_enter Tryz.func138,Tryz.ntmps138
 go_wp2_with fail
 go_loopw [3,4] (fun oo ii wr=>∃ i:Nat,i<=30/\ii=.int .i64 (i:Int)/\wr.ownsRow w.heap.size 3 1 oo (memI i m).length ((memI i m).flatMap cI)/\Below w.heap.size w wr) (fun _ ii _=>30 - (intOf ii).toNat)
 case atStart=>exact ⟨0,Nat.zero_le _,rfl,World.ownsRow_lit w #[] 0 (Nat.le_refl _) (by decide) rfl,(Below.refl _ _).alloc (Nat.le_refl _) _⟩
 case round =>
  obtain ⟨i,hi,rfl,hrow,hbel⟩:=hrel
  have HROW:=Hd_ hrow
  have hml:(memI i m).length<=30:=by unfold memI;rw [List.length_map];have:=mem_len i m;omega
  have hsz:=hbel.size
  clear hrow
  by_cases hlt:i < 30
  · have hii:(i:Int) < 30:=by omega
    cases hb:m.testBit i with
    | false =>
      have b1f:=bit_off (by omega) (by omega) hb
      have HM:=Hd_ (show memI (i+1) m=memI i m by unfold memI;rw [mem_no hb])
      clear hb
      go_wp2_with fail
      go_roundw
      case rel=>exact ⟨i+1,by omega,by go_num,by rw [HM.out];exact HROW.out,hbel⟩
      case measure=>simp [intOf];omega
    | true =>
      have b1t:=bit_on (by omega) (by omega) hb
      have HM:=Hd_ (show memI (i+1) m=memI i m ++ [(i:Int)] by unfold memI;rw [mem_yes hb,List.map_append];rfl)
      clear hb
      generalize memI i m=L at *
      go_wp2_with (at_builtin;(refine wpList_append1 cI elInt rfl _ _ rfl w.heap.size _ (L) ((i:Int)) _ 1 _ (by rfl) (HROW.out) (by rfl) rfl rfl rfl (cI_one _) (by omega) (by omega) (by omega) ?_);intro v' w4 hrow' hb4 _ _)
      go_roundw
      case rel=>exact ⟨i+1,by omega,by go_num,by rw [HM.out];exact hrow',hbel.trans hb4⟩
      case measure=>simp [intOf];omega
  · obtain rfl:i=30:=by omega
    have hown:=Own.of_row (xs:=memI 30 m) HROW.out rfl rfl
    rw [<- HR.out] at hown
    have HO:=Hd_ hown
    obtain ⟨A6,c6,rfl,-,-,-⟩:=(Own.of_row (xs:=memI 30 m) HROW.out rfl rfl).form cI_len
    clear hown
    go_wp2_with fail
    go_ret
    exact ⟨_,rfl,HO.out,hbel⟩
set_option maxHeartbeats 4000000 in
set_option maxRecDepth 100000 in
theorem l15From_any (vg va:Value) (g:Gr) (a:Au) (x:Nat) (w:World) (hgv:GrV 0 w.heap.size w vg g) (hav:AuV 0 w.heap.size w va a) (hgo:grOk g=true) (ha:auOk a=true) (hx:x < g.vals.length) :
 Calls Tryz.prog 92 #[vg,va,.int .i64 (x:Int)] w fun e w'=>∃ v',e=.returned v'/\Own w.heap.size w'.heap.size w' 3 cI 1 v' (ansL g a (x:Int))/\Below w.heap.size w w':=by
 have hgv0:=hgv
 have hav0:=hav
 obtain ⟨A1,n1,c1,A2,n2,c2,rfl⟩:=hgv.shape
 obtain ⟨A3,c3,A4,c4,rfl,hl3,hm3,hl4,hm4,-⟩:=hav.form ha
 have hg:=grOk_iff.1 hgo
 have hn5:=hg.n5
 have hn12:=(auOk_iff.1 ha).1.2
 have hn1:=(auOk_iff.1 ha).1.1
 have hok:(wi (x:Int) 0 ((g.vals.length:Int) - 1) && (grOk g && auOk a))=true:=by simp only [Bool.and_eq_true,wi_iff];exact ⟨by omega,hgo,ha⟩
 obtain ⟨N,hN⟩:∃ N,N=g.vals.length * a.accept.length:=⟨_,rfl⟩
 have hN60:N<=60:=by rw [hN];exact Nat.mul_le_mul hn5 hn12
 have hdl:(distFrom g a (x:Int)).length=N:=by rw [distFrom_len hok,hN]
 obtain ⟨R,hR⟩:∃ R,R=ansL g a (x:Int):=⟨_,rfl⟩
 have hR2:R=memI 30 (ansM g a (distFrom g a (x:Int)) N):=by rw [hR,ansL,if_pos hok,hN]
 rw [<- hR]
 have HR:=Hd_ hR2
 have HN:=Hd_ hN
 have HGO:=Hd_ hg
 have HAO:=Hd_ ha
 have HAV:=Hd_ hav0
 have HGV:=Hd_ hgv0
 have HGB:=Hd_ hgo
 have hb0:Below w.heap.size w ((w.alloc (.cells #[.slice A1 n1 c1,.slice A2 n2 c2] 27)).alloc (.cells #[.int .i64 a.start,.slice A3 a.accept.length c3,.slice A4 a.accept.length c4] 31)):=((Below.refl _ _).alloc (Nat.le_refl _) _).alloc (by simp) _
 clear hgv hav ha hg hgo hav0 hgv0 hR hR2 hok hN
 go_enter Tryz.func92,Tryz.ntmps92
 go_wp2_with fail
 obtain ⟨W0,hW0⟩:∃ W0,W0=((w.alloc (.cells #[.slice A1 n1 c1,.slice A2 n2 c2] 27)).alloc (.cells #[.int .i64 a.start,.slice A3 a.accept.length c3,.slice A4 a.accept.length c4] 31)):=⟨_,rfl⟩
 rw [<- hW0] at hb0 ⊢
 have x0:W0.cell? ⟨w.heap.size,0,none⟩=some (.slice A1 n1 c1):=by rw [hW0];simp
 have x1:W0.cell? ⟨w.heap.size,1,none⟩=some (.slice A2 n2 c2):=by rw [hW0];simp
 have y0:W0.cell? ⟨w.heap.size+1,0,none⟩=some (.int .i64 a.start):=by rw [hW0];simp
 have y1:W0.cell? ⟨w.heap.size+1,1,none⟩=some (.slice A3 a.accept.length c3):=by rw [hW0];simp
 have y2:W0.cell? ⟨w.heap.size+1,2,none⟩=some (.slice A4 a.accept.length c4):=by rw [hW0];simp
 have hs0:w.heap.size+1+1=W0.heap.size:=by rw [hW0];simp
 try rw [hs0]
 have l0:w.heap.size+1 < W0.heap.size:=by omega
 have l00:w.heap.size < W0.heap.size:=by omega
 clear hW0 hs0
 refine (l14Ranks_any _ _ g a x W0 (HGV.out.keep hb0) (HAV.out.keep hb0) HGB.out HAO.out hx).mono ?_
 rintro e w1 ⟨v1,rfl,ho1,hb1⟩
 have hb2:=below_trans hb0 hb1
 have x0:=kcell hb1 x0
 have x1:=kcell hb1 x1
 have y0:=kcell hb1 y0
 have y1:=kcell hb1 y1
 have y2:=kcell hb1 y2
 have hs1:=hb1.size
 have l0:=Nat.lt_of_lt_of_le l0 hs1
 have l00:=Nat.lt_of_lt_of_le l00 hs1
 generalize distFrom g a (x:Int)=D at *
 obtain ⟨A6,c6,rfl,hl6,hm6,hC6⟩:=ho1.form cI_len
 have HC6:=Hd_ hC6
 rw [hdl] at hl6 ⊢
 have HDL:=Hd_ hdl
 clear hC6 ho1 hb1 hb0 hdl
 go_wp2_with fail
 go_loopw [9,10] (fun mm ii wr=>∃ (i:Nat) (u:World),i<=N/\ii=.int .i64 (i:Int)/\mm=.int .i64 (ansM g a D i:Nat)/\wr=ext w1 u) (fun _ ii _=>N - (intOf ii).toNat)
 case atStart=>exact ⟨0,w1,Nat.zero_le _,rfl,rfl,ext_self _⟩
 case round =>
  obtain ⟨i,u,hi,rfl,rfl,rfl⟩:=hrel
  have hbE:=below_trans hb2 (ext_below w1 u)
  by_cases hlt:i < N
  · have hgp:g.vals.length * a.accept.length=N:=HN.out.symm
    obtain ⟨X,hX⟩:∃ X,X=i / a.accept.length:=⟨_,rfl⟩
    obtain ⟨S,hS⟩:∃ S,S=i % a.accept.length:=⟨_,rfl⟩
    have hXl:X < g.vals.length:=by rw [hX];exact Nat.div_lt_of_lt_mul (by rw [Nat.mul_comm,hgp];exact hlt)
    have hSl:S < a.accept.length:=by rw [hS];exact Nat.mod_lt _ hn1
    have hml:ansM g a D i < 2 ^ g.vals.length:=ansM_lt (by rw [hgp];omega)
    have hml32:ansM g a D i < 32:=Nat.lt_of_lt_of_le hml (Nat.pow_le_pow_right (by omega) hn5)
    have t1:(i:Int).tdiv (a.accept.length:Int)=(X:Int):=by rw [hX];rfl
    have t2:(i:Int).tmod (a.accept.length:Int)=(S:Int):=by rw [hS];rfl
    have hn0:((a.accept.length:Int)==0)=false:=by simp only [beq_eq_false_iff_ne,ne_eq];omega
    have hae:a.accept ≠ []:=by intro h;rw [h] at hn1;simp at hn1
    have hdi:=getD_of (D:=D) (k:=i) (by have:=HDL.out;omega)
    obtain ⟨b6,o6,rfl,hb6,d6⟩:=HC6.out.int hdi
    have hii:(i:Int) < (N:Int):=by omega
    have HOK:=Hd_ (show okV g a D i=(decide (0<=D.getD i 0) && accC a (valAt g X) S) by rw [hX,hS];rfl)
    have HY:=Hd_ (fun h:okV g a D i=true=>(ansM_yes h).trans (by rw [<- hX]:ins (ansM g a D i) (i / a.accept.length)=ins (ansM g a D i) X))
    have HNo:=Hd_ (fun h:okV g a D i=false=>ansM_no h)
    clear hX hS hgp hdi
    generalize D.getD i 0=d at *
    have HACC:=Hd_ (fun (W:World) (hW:Below w.heap.size w W)=>l14Accepts_any _ _ g a X S W (HGV.out.keep hW) (HAV.out.keep hW) HGO.out HAO.out hXl hSl)
    by_cases hd:0<=d
    · have hd0:decide (d >= 0)=true:=by simpa using hd
      rw [show decide (0<=d)=true by simpa using hd,Bool.true_and] at HOK
      go_wp2_with fail
      refine wp_region_ext_lit (by kernel_rfl) (by kernel_rfl) ?_
      repeat (go_big_quiet_step ((go_at_call 107;exact Calls.ext_of (HACC.out _ (below_trans hbE (ext_below _ _))))))
      refine wpQuiet_nil ?_
      rintro _ ⟨u2,rfl⟩
      obtain ⟨u4,hu4⟩:=ext_of (below_trans (ext_below w1 u) (ext_below (ext w1 u) u2))
      rw [hu4]
      cases hc:accC a (valAt g X) S with
      | true =>
        have HM:=Hd_ (HY.out (by rw [HOK.out,hc]))
        have e1:=shl_bit (s:=X) (by omega)
        generalize ansM g a D i=M at *
        have e2:=or_ins (m:=M) (s:=X) (by omega) (by omega)
        clear hc
        go_wp2_with fail
        go_roundw
        case rel=>exact ⟨i+1,u4,by omega,by go_num,by rw [HM.out],rfl⟩
        case measure=>simp [intOf];omega
      | false =>
        have HM:=Hd_ (HNo.out (by rw [HOK.out,hc]))
        clear hc
        go_wp2_with fail
        go_roundw
        case rel=>exact ⟨i+1,u4,by omega,by go_num,by rw [HM.out],rfl⟩
        case measure=>simp [intOf];omega
    · have hd0:decide (d >= 0)=false:=by simpa using hd
      have HM:=Hd_ (HNo.out (by rw [HOK.out,show decide (0<=d)=false by simpa using hd];rfl))
      go_wp2_with fail
      refine wp_region_ext_lit (by kernel_rfl) (by kernel_rfl) ?_
      repeat (go_big_quiet_step (fail))
      refine wpQuiet_nil ?_
      rintro _ ⟨u2,rfl⟩
      obtain ⟨u4,hu4⟩:=ext_of (below_trans (ext_below w1 u) (ext_below (ext w1 u) u2))
      rw [hu4]
      go_wp2_with fail
      go_roundw
      case rel=>exact ⟨i+1,u4,by omega,by go_num,by rw [HM.out],rfl⟩
      case measure=>simp [intOf];omega
  · obtain rfl:i=N:=by omega
    have hml:ansM g a D i < 2 ^ g.vals.length:=ansM_lt (by rw [<- HN.out];exact Nat.le_refl _)
    have hml32:ansM g a D i < 2 ^ 60:=Nat.lt_of_lt_of_le hml (Nat.pow_le_pow_right (by omega) (by omega))
    have hset:=l4Set_any (ansM g a D i) (ext w1 u) hml32
    rw [<- HR.out] at hset
    have HS:=Hd_ hset
    clear hset hml hml32
    go_wp2_with fail
    refine HS.out.mono ?_
    rintro e w9 ⟨v9,rfl,ho9,hb9⟩
    obtain ⟨A9,c9,rfl,-,-,-⟩:=ho9.form cI_len
    have HO:=Hd_ (ho9.mono hbE.size (Nat.le_refl _))
    clear ho9
    go_wp2_with fail
    go_ret
    exact ⟨_,rfl,HO.out,below_trans hbE hb9⟩
set_option maxHeartbeats 1000000 in
theorem l11Find_any (v:Value) (xs:List Int) (y:Int) (w:World) (hv:SlE w cI 1 v xs) :
 Calls Tryz.prog 73 #[v,.int .i64 y] w fun e w'=>e=.returned (.int .i64 (Lib.idxOf xs y))/\w'=w:=by
 obtain ⟨A,c,rfl,hl,hm,hC⟩:=SlE.form hv
 have HC:=Hd_ hC
 obtain ⟨R,hR⟩:∃ R,R=Lib.idxOf xs y:=⟨_,rfl⟩
 rw [<- hR]
 have HR:=Hd_ hR
 clear hv hC hR
 go_enter Tryz.func73,Tryz.ntmps73
 go_wp2_with fail
 go_loop [5] (fun ii=>∃ i:Nat,i<=xs.length/\ii=.int .i64 (i:Int)/\∀ j,j < i->xs.getD j 0 ≠ y) (fun ii=>xs.length - (intOf ii).toNat)
 case atStart=>exact ⟨0,Nat.zero_le _,rfl,by intro j hj;omega⟩
 case round =>
  obtain ⟨i,hi,rfl,hno⟩:=hrel
  have HNO:=Hd_ hno
  clear hno
  by_cases hlt:i < xs.length
  · have hxi:=getD_of (D:=xs) hlt
    obtain ⟨b,o,rfl,hb,d⟩:=HC.out.int hxi
    have hii:(i:Int) < (xs.length:Int):=by omega
    obtain ⟨x,hx⟩:∃ x,x=xs.getD i 0:=⟨_,rfl⟩
    rw [<- hx] at d
    have HX:=Hd_ hx
    clear hxi hx
    by_cases hxy:x=y
    · have hfin:R=(i:Int):=by
       have h:=Lib.idxOf_hit xs xs.length i y hlt (Nat.le_refl _) (by rw [<- HX.out];exact hxy) HNO.out
       rw [List.take_length] at h
       rw [HR.out,h]
      have HF:=Hd_ hfin
      have k1:(x==y)=true:=by simpa using hxy
      clear hfin hxy
      go_wp2_with fail
      go_ret
      exact ⟨by rw [HF.out];rfl,rfl⟩
    · have k1:(x==y)=false:=by simpa using hxy
      have HXY:=Hd_ hxy
      clear hxy
      go_wp2_with fail
      go_round
      case rel=>exact ⟨i+1,by omega,by go_num,fun j hj=>by rcases Nat.lt_or_ge j i with h | h;(exact HNO.out j h);(obtain rfl:j=i:=(by omega);rw [<- HX.out];exact HXY.out)⟩
      case measure=>simp [intOf];omega
  · obtain rfl:i=xs.length:=by omega
    have hfin:R=-1:=by
     have h:=Lib.idxOf_miss xs xs.length y HNO.out
     rw [List.take_length] at h
     rw [HR.out,h]
    have HF:=Hd_ hfin
    clear hfin
    go_wp2_with fail
    go_ret
    exact ⟨by rw [HF.out];rfl,rfl⟩
end Go.Proofs.YtjpdembmchnbgaaGreat
