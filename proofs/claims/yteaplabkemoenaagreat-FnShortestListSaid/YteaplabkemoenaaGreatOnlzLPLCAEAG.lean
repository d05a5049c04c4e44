/- Parts of the proof, joined into one text: RankS, AnsM, AnsS, SbsD, StrD, MakE. -/
import Derived.Test.YteaplabkemoenaaGreatOnlzNELIBLED
import Derived.Test.YteaplabkemoenaaGreatOnlzKIKFHLPI
import Derived.Deep.LoopGhost
import Derived.Test.YteaplabkemoenaaGreatOnlzAIFFPHMF
import Derived.Lib.Slices
import Derived.Test.YteaplabkemoenaaGreatOnlzENJGEJFE
import Derived.RegionTactic
import Derived.BigRegion
set_option linter.unusedVariables false
set_option linter.unusedSimpArgs false
namespace Go.Proofs.YteaplabkemoenaaGreat
open Go.ChangeShapes Go.WideShapes Go.ChangeAt Go.RowKit
attribute [local go_sem] ext_cell ext_frozen ext_lt ext_lt1 ext_lt2 ext_lt3 ltn2 ltn3 ltn13 lts1 lts2 lts3
def distFrom (g:Gr) (a:Au) (x:Int):List Int :=
 if (wi x 0 ((g.vals.length:Int) - 1) && (grOk g && auOk a))=true then spreadR (g.vals.length * a.accept.length) (nextI g a) [x.toNat * a.accept.length+a.start.toNat] else []
theorem distFrom_len {g:Gr} {a:Au} {x:Int} (h:(wi x 0 ((g.vals.length:Int) - 1) && (grOk g && auOk a))=true):(distFrom g a x).length=g.vals.length * a.accept.length:=by rw [distFrom,if_pos h,spreadR_len]
theorem flatN_atR {xs:List Nat} {t:Nat} {x:Nat} (h:xs[t]?=some x):(xs.flatMap cN)[t]?=some (.int .i64 (x:Int)):=by
 have:=flat_at cN_len h 0 _ rfl
 simpa using this
theorem SlI.grown {α:Type} {lo hi:Nat} {w w':World} {E:α->List Value} {k:Nat} {v:Value} {xs:List α} (h:SlI lo hi w E k v xs) {row:Option Nat} (hg:w.grownBy w' row) (hh:hi<=w.heap.size) (hn:∀ b,row=some b->b < lo ∨ hi<=b):SlI lo hi w' E k v xs :=
 h.keep_ fun b o h1 h2=>World.cell?_of_block (w:=w) (hg.block b (by omega) (fun e=>by have:=hn b e.symm;omega))
theorem ownsRow_far {w:World} {base k n:Nat} {e:TypeId} {v:Value} {cs:List Value} (h:w.ownsRow base e k v n cs) {p:Addr} (hp:p.block < base) (u:Value):(w.setCell p u).ownsRow base e k v n cs :=
 ownsRow_block h fun g hg=>Below.heap_setCell _ _ _ _ (by have:=(h.lt g hg).1;omega)
set_option maxHeartbeats 8000000 in
set_option maxRecDepth 100000 in
theorem l14Ranks_any (vg va:Value) (g:Gr) (a:Au) (x:Nat) (w:World) (hgv:GrV 0 w.heap.size w vg g) (hav:AuV 0 w.heap.size w va a) (hgo:grOk g=true) (ha:auOk a=true) (hx:x < g.vals.length) :
 Calls Tryz.prog 87 #[vg,va,.int .i64 (x:Int)] w fun e w'=>∃ v',e=.returned v'/\Own w.heap.size w'.heap.size w' 3 cI 1 v' (distFrom g a (x:Int))/\Below w.heap.size w w':=by
 have hg:=grOk_iff.1 hgo
 have hav0:=hav
 have hgv0:=hgv
 obtain ⟨A1,c1,A2,c2,rfl,hl1,hm1,hl2,hm2,-,-⟩:=hgv.form
 obtain ⟨A3,c3,A4,c4,rfl,hl3,hm3,hl4,hm4,-⟩:=hav.form ha
 have hn5:=hg.n5
 have hgn1:=hg.n1
 obtain ⟨⟨hn1,hn12⟩,⟨hst0,hst1⟩,-,-⟩:=auOk_iff.1 ha
 obtain ⟨N,hN⟩:∃ N,N=g.vals.length * a.accept.length:=⟨_,rfl⟩
 have hN60:N<=60:=by rw [hN];exact Nat.mul_le_mul hn5 hn12
 obtain ⟨s,hs⟩:∃ s:Nat,a.start=(s:Int):=⟨a.start.toNat,by omega⟩
 obtain ⟨xn,hxn⟩:∃ xn,xn=x * a.accept.length:=⟨_,rfl⟩
 have hxn2:xn+a.accept.length<=N:=by rw [hxn,hN];have:=Nat.mul_le_mul_right a.accept.length (show x+1<=g.vals.length by omega);rw [Nat.succ_mul] at this;exact this
 obtain ⟨S0,hS0⟩:∃ S0,S0=xn+s:=⟨_,rfl⟩
 have hS0N:S0 < N:=by omega
 have m0':(g.vals.length:Int) * (a.accept.length:Int)=(N:Int):=by rw [hN,Int.natCast_mul]
 have m0:IntKind.i64.wrap ((g.vals.length:Int) * (a.accept.length:Int))=(N:Int):=by rw [m0'];exact IntWalk.i64_in _ (by omega)
 have m1':(x:Int) * (a.accept.length:Int)=(xn:Int):=by rw [hxn,Int.natCast_mul]
 have m1:IntKind.i64.wrap ((x:Int) * (a.accept.length:Int))=(xn:Int):=by rw [m1'];exact IntWalk.i64_in _ (by omega)
 have m2':(xn:Int)+(s:Int)=(S0:Int):=by omega
 have m2:IntKind.i64.wrap ((xn:Int)+(s:Int))=(S0:Int):=by rw [m2'];exact IntWalk.i64_in _ (by omega)
 obtain ⟨R,hR⟩:∃ R,R=distFrom g a (x:Int):=⟨_,rfl⟩
 have hR2:R=bfs (nextI g a) (1+N) (srcD N [S0]) [S0]:=by
  rw [hR,distFrom,if_pos (by simp only [Bool.and_eq_true,wi_iff];exact ⟨by omega,hgo,ha⟩),Int.toNat_natCast,<- hxn,<- hN,hs,Int.toNat_natCast,<- hS0];rfl
 rw [<- hR]
 have hnN:∀ i k,i < N->k ∈ nextI g a i->k < N:=fun i k _ hk=>by rw [hN];exact nextV_lt hg ha hk
 have hini:=srcD_bfsI (N:=N) (fs:=[S0]) (by intro i hi;rw [List.mem_singleton] at hi;omega)
 have hsrc:srcD N [S0]=(List.replicate N (-1)).set S0 0:=rfl
 have HGO:=Hd_ hgo
 have HAO:=Hd_ ha
 have HAV:=Hd_ hav0
 have HGV:=Hd_ hgv0
 have HR:=Hd_ hR2
 have HN:=Hd_ hN
 have HNN:=Hd_ hnN
 have HINI:=Hd_ hini
 have HSRC:=Hd_ hsrc
 rw [hs] at HAV ⊢
 have hb0:Below w.heap.size w ((w.alloc (.cells #[.slice A1 g.vals.length c1,.slice A2 g.edges.length c2] 27)).alloc (.cells #[.int .i64 (s:Int),.slice A3 a.accept.length c3,.slice A4 a.accept.length c4] 31)):=((Below.refl _ _).alloc (Nat.le_refl _) _).alloc (by simp) _
 clear hgv hav ha hg hgo hav0 hgv0 hR hR2 hN hnN hini hsrc hxn hS0 hs hst0 hst1
 go_enter Tryz.func87,Tryz.ntmps87
 go_wp2_with fail
 obtain ⟨W0,hW0⟩:∃ W0,W0=((w.alloc (.cells #[.slice A1 g.vals.length c1,.slice A2 g.edges.length c2] 27)).alloc (.cells #[.int .i64 (s:Int),.slice A3 a.accept.length c3,.slice A4 a.accept.length c4] 31)):=⟨_,rfl⟩
 rw [<- hW0] at hb0 ⊢
 have x0:W0.cell? ⟨w.heap.size,0,none⟩=some (.slice A1 g.vals.length c1):=by rw [hW0];simp
 have x1:W0.cell? ⟨w.heap.size,1,none⟩=some (.slice A2 g.edges.length c2):=by rw [hW0];simp
 have y0:W0.cell? ⟨w.heap.size+1,0,none⟩=some (.int .i64 (s:Int)):=by rw [hW0];simp
 have y1:W0.cell? ⟨w.heap.size+1,1,none⟩=some (.slice A3 a.accept.length c3):=by rw [hW0];simp
 have y2:W0.cell? ⟨w.heap.size+1,2,none⟩=some (.slice A4 a.accept.length c4):=by rw [hW0];simp
 have hs0:w.heap.size+1+1=W0.heap.size:=by rw [hW0];simp
 rw [hs0]
 have l0:w.heap.size+1 < W0.heap.size:=by omega
 have l00:w.heap.size < W0.heap.size:=by omega
 clear hW0 hs0
 go_loopw [8,9] (fun dd kk wr=>∃ k:Nat,k<=N/\kk=.int .i64 (k:Int)/\wr.ownsRow W0.heap.size 3 1 dd (List.replicate k (-1:Int)).length ((List.replicate k (-1:Int)).flatMap cI)/\Below W0.heap.size W0 wr) (fun _ kk _=>N - (intOf kk).toNat)
 case atStart=>exact ⟨0,Nat.zero_le _,rfl,World.ownsRow_lit W0 #[] 0 (Nat.le_refl _) (by decide) rfl,(Below.refl _ _).alloc (Nat.le_refl _) _⟩
 case round =>
  obtain ⟨k,hk,rfl,hrow,hbel⟩:=hrel
  have HROW:=Hd_ hrow
  have x0:=kcell hbel x0
  have x1:=kcell hbel x1
  have y0:=kcell hbel y0
  have y1:=kcell hbel y1
  have y2:=kcell hbel y2
  have hsz:=hbel.size
  have l0:=Nat.lt_of_lt_of_le l0 hsz
  have l00:=Nat.lt_of_lt_of_le l00 hsz
  have hbw:=below_trans hb0 hbel
  have HBW:=Hd_ hbw
  clear hrow hbw
  by_cases hlt:k < N
  · have HSN:=Hd_ (show List.replicate (k+1) (-1:Int)=List.replicate k (-1) ++ [-1] from List.replicate_succ')
    have hil:(List.replicate k (-1:Int)).length<=60:=by rw [List.length_replicate];omega
    have hki:(k:Int) < (N:Int):=by omega
    generalize List.replicate k (-1:Int)=D at *
    go_wp2_with (at_builtin;(refine wpList_append1 cI elInt rfl _ _ rfl W0.heap.size _ (D) (-1) _ 1 _ (by rfl) (HROW.out) (by rfl) rfl rfl rfl (cI_one _) (by omega) (by omega) (by omega) ?_);intro v' w4 hrow' hb4 _ _)
    go_roundw
    case rel=>exact ⟨k+1,by omega,by go_num,by rw [HSN.out];exact hrow',hbel.trans hb4⟩
    case measure=>simp [intOf];omega
  · obtain rfl:k=N:=by omega
    clear hlt hk
    obtain ⟨wo,rfl⟩:∃ wo:World,wo=wr:=⟨_,rfl⟩
    have hrow:=HROW.out
    rw [List.length_replicate] at hrow
    obtain ⟨gD,cD,rfl,hgD,hgDo,-,-⟩:=own_some hrow (by omega)
    have hDc:=World.ownsRow.cellAt hrow S0 (by omega)
    rw [flatI_at (x:=-1) (by rw [List.getElem?_replicate,if_pos hS0N])] at hDc
    have hDf:=World.ownsRow.frozenAt hrow S0
    have hrow2:=(World.ownsRow.stored hrow S0 (.int .i64 0)).1
    rw [flatI_set,<- HSRC.out] at hrow2
    have HR2:=Hd_ hrow2
    have hS0i:(S0:Int) < (k:Int):=by omega
    clear hrow hrow2 HROW HSRC
    go_wp2_with fail
    obtain ⟨N,hNk⟩:∃ N,N=k:=⟨_,rfl⟩
    subst hNk
    have hwo:=HBW.out.size
    have hb1:=hb0.size
    clear hDc hDf m0 m0' m1 m1' m2 m2'
    go_loopg [10,11] (1+N) (fun f qv ii wr=>∃ (i:Nat) (D:List Int) (Q:List Nat),i<=Q.length/\i+f=1+N/\ii=.int .i64 (i:Int)/\BfsI N (1+N) f D (Q.drop i)/\bfs (nextI g a) f D (Q.drop i)=R/\wr.ownsRow W0.heap.size 3 1 (.slice (some ⟨gD,0,none⟩) N cD) N (D.flatMap cI) /\
     wr.ownsRow wo.heap.size 3 1 qv Q.length (Q.flatMap cN)/\Only gD (gD+1) wo wr)
    case atStart=>exact ⟨0,srcD N [S0],[S0],Nat.zero_le _,by omega,rfl,HINI.out,HR.out.symm,HR2.out.alloc _,by (have h:=World.ownsRow_lit (base:=wo.heap.size) (e:=3) (size:=1) (wo.setCell ⟨gD,S0,none⟩ (.int .i64 0)) #[.int .i64 (S0:Int)] 1 (by simp) (by decide) rfl);rw [World.size_setCell] at h;exact h,((Only.refl gD (gD+1) wo).setCell (p:=⟨gD,S0,none⟩) (.inl ⟨Nat.le_refl _,Nat.lt_succ_self _⟩) _).alloc _⟩
    case round =>
     clear HR2 HINI hbel
     obtain ⟨i,D,Q,hi,hif,rfl,hI,hB,hrow,hq,hon⟩:=hrel
     have HI:=Hd_ hI
     have HB:=Hd_ hB
     have HROW:=Hd_ hrow
     have HQ:=Hd_ hq
     have x0:=ocell hon x0 l00 (.inl (by omega))
     have x1:=ocell hon x1 l00 (.inl (by omega))
     have y0:=ocell hon y0 l0 (.inl (by omega))
     have y1:=ocell hon y1 l0 (.inl (by omega))
     have y2:=ocell hon y2 l0 (.inl (by omega))
     have hbw:=HBW.out.trans (hon.below (by omega) hwo)
     have HBWR:=Hd_ hbw
     have hsz2:=hon.size
     clear hI hB hrow hq hbw
     by_cases hlt:i < Q.length
     · have hdr:Q.drop i=Q[i] :: Q.drop (i+1):=List.drop_eq_getElem_cons hlt
       have hqi:Q[i]?=some Q[i]:=List.getElem?_eq_getElem hlt
       generalize Q[i]=h at hdr hqi
       rw [hdr] at HI HB
       obtain ⟨f,rfl⟩:∃ f,gk=f+1:=⟨gk - 1,by have:=HI.out.fuel;rw [List.length_cons] at this;omega⟩
       obtain ⟨hhN,hh0⟩:=HI.out.queue h (by simp)
       have hql:Q.length<=61:=by
        have h1:=HI.out.fuel
        rw [<- hdr,List.length_drop] at h1
        omega
       obtain ⟨gQ,cQ,rfl,hgQ,hgQw,-,-⟩:=own_some HQ.out (by omega)
       have hqc:=(World.ownsRow.cellAt HQ.out i (by omega)).trans (flatN_atR hqi)
       have qc:=hqc
       have hgp:g.vals.length * a.accept.length=N:=HN.out.symm
       obtain ⟨X,hX⟩:∃ X,X=h / a.accept.length:=⟨_,rfl⟩
       obtain ⟨S,hS⟩:∃ S,S=h % a.accept.length:=⟨_,rfl⟩
       have hXl:X < g.vals.length:=by rw [hX];exact Nat.div_lt_of_lt_mul (by rw [Nat.mul_comm,hgp];exact hhN)
       have hSl:S < a.accept.length:=by rw [hS];exact Nat.mod_lt _ hn1
       have t1:(h:Int).tdiv (a.accept.length:Int)=(X:Int):=by rw [hX];rfl
       have t2:(h:Int).tmod (a.accept.length:Int)=(S:Int):=by rw [hS];rfl
       have hn0:((a.accept.length:Int)==0)=false:=by simp only [beq_eq_false_iff_ne,ne_eq];omega
       have hae:a.accept ≠ []:=by intro h;rw [h] at hn1;simp at hn1
       have HPX:=Hd_ (show prodSteps g a X S=psI g a h by rw [hX,hS];rfl)
       have q1:IntKind.i64.wrap (X:Int)=(X:Int):=IntWalk.i64_in _ (by omega)
       have q2:IntKind.i64.wrap (S:Int)=(S:Int):=IntWalk.i64_in _ (by omega)
       have hii:(i:Int) < (Q.length:Int):=by omega
       have HQI:=Hd_ hqi
       have HDR:=Hd_ hdr
       clear hX hS hgp hdr hqi
       go_wp2_with fail
       refine F_start 15 (fun w'=>w'.cell? ⟨w.heap.size,0,none⟩=some (.slice A1 g.vals.length c1)/\w'.cell? ⟨w.heap.size,1,none⟩=some (.slice A2 g.edges.length c2)/\w'.cell? ⟨w.heap.size+1,0,none⟩=some (.int .i64 (s:Int))/\w'.cell? ⟨w.heap.size+1,1,none⟩=some (.slice A3 a.accept.length c3)/\w'.cell? ⟨w.heap.size+1,2,none⟩=some (.slice A4 a.accept.length c4)/\w'.cell? ⟨gQ,i,none⟩=some (.int .i64 (h:Int))) (by kernel_rfl) (by exact ⟨x0,x1,y0,y1,y2,qc⟩) (fun hS inv=>?_)
       refine F_tk 0 inv ?_
       try simp only [tA,tB,tC,Act.put,tE,tF,tG]
       clear inv;intro inv
       refine F_tk 1 inv ?_
       try simp only [tA,tB,tC,Act.put,tE,tF,tG]
       clear inv;intro inv
       refine F_tk 2 inv ?_
       try simp only [tA,tB,tC,Act.put,tE,tF,tG]
       clear inv;intro inv
       refine F_tk 3 inv ?_
       try simp only [tA,tB,tC,Act.put,tE,tF,tG]
       clear inv;intro inv
       refine F_tk 4 inv ?_
       try simp only [tA,tB,tC,Act.put,tE,tF,tG]
       clear inv;intro inv
       refine F_tk 5 inv ?_
       try simp only [tA,tB,tC,Act.put,tE,tF,tG]
       clear inv;intro inv
       refine F_tk 6 inv ?_
       try simp only [tA,tB,tC,Act.put,tE,tF,tG]
       clear inv;intro inv
       refine F_tk 7 inv ?_
       try simp only [tA,tB,tC,Act.put,tE,tF,tG]
       clear inv;intro inv
       refine F_tk 8 inv ?_
       try simp only [tA,tB,tC,Act.put,tE,tF,tG]
       clear inv;intro inv
       refine F_tk 9 inv ?_
       try simp only [tA,tB,tC,Act.put,tE,tF,tG]
       clear inv;intro inv
       refine F_tk 10 inv ?_
       try simp only [tA,tB,tC,Act.put,tE,tF,tG]
       clear inv;intro inv
       refine F_tk 11 inv ?_
       try simp only [tA,tB,tC,Act.put,tE,tF,tG]
       clear inv;intro inv
       refine F_tk 12 inv ?_
       try simp only [tA,tB,tC,Act.put,tE,tF,tG]
       clear inv;intro inv
       refine F_tk 13 inv ?_
       try simp only [tA,tB,tC,Act.put,tE,tF,tG]
       clear inv;intro inv
       refine F_o1 14 inv ?_;intro K hK
       try simp only [tA,tB,tC]
       go_simp
       refine (l14Steps_any _ _ g a X S _ (HGV.out.keep (below_trans HBWR.out ((Below.refl wr.heap.size wr).drew))) (HAV.out.keep (below_trans HBWR.out ((Below.refl wr.heap.size wr).drew))) HGO.out HAO.out hXl hSl).mono ?_
       rintro e wT ⟨vT,rfl,hoT,hbT⟩
       refine hK.out _ _ (kB6 hbT hS) (fun _ _=>?_)
       try simp only [tA,tB,tC,Act.put,tE,tF,tG]
       clear hK K inv hS;rename_i hS inv
       refine F_l1 15 ?_;intro K hK
       go_simp
       refine hK _ _ ?_
       clear hK K inv hS
       have hbWT:=below_trans ((Below.refl wr.heap.size wr).drew) hbT
       have hsT:=hbWT.size
       have hrT:=ownsRow_below HROW.out hbWT (Nat.le_refl _)
       have hqT:=ownsRow_below HQ.out hbWT (Nat.le_refl _)
       have honT:=hon.trans (Only.of_below hbWT gD (gD+1))
       have hslT:SlI wr.heap.size wT.heap.size wT cPS 4 vT (psI g a h):=by have h:=hoT.sl cPS_len;rw [HPX.out] at h;exact h
       have hlp:(psI g a h).length<=288:=prodSteps_len (grOk_iff.1 HGO.out) a _ _
       have hnl:(nextI g a h).length=(psI g a h).length:=by rw [psI_next,List.length_map]
       obtain ⟨A7,c7,rfl,hl7,hm7,-⟩:=SlE.form (hslT.mono (Nat.zero_le _) (Nat.le_refl _))
       obtain ⟨dd,hdd⟩:∃ dd,dd=D.getD h 0:=⟨_,rfl⟩
       have htop:=HI.out.top h
       rw [<- hdd] at htop hh0
       have HDD:=Hd_ hdd
       have HPOP:=Hd_ HI.out.pop
       have HROWT:=Hd_ hrT
       have HQT:=Hd_ hqT
       have HONT:=Hd_ honT
       have HSL:=Hd_ hslT
       have HNL:=Hd_ hnl
       have HBR:=Hd_ (show relax (dd+1) (nextI g a h) D (Q.drop (i+1))=relax (dd+1) (nextI g a h) D (Q.drop (i+1)) from rfl)
       obtain ⟨w5,rfl⟩:∃ w5:World,w5=wr:=⟨_,rfl⟩
       clear hrT hqT honT hslT hnl hdd hon q1 q2 t1 t2 hoT hqc qc
       go_wp2_with fail
       go_loopw [10,13] (fun qv jj wr=>∃ (j:Nat) (D':List Int) (Q':List Nat),j<=(psI g a h).length/\jj=.int .i64 (j:Int)/\i < Q'.length/\Q'[i]?=some h/\BfsI N (1+N) f D' (Q'.drop (i+1))/\D'.getD h 0=dd /\
        relax (dd+1) ((nextI g a h).drop j) D' (Q'.drop (i+1))=relax (dd+1) (nextI g a h) D (Q.drop (i+1))/\wr.ownsRow W0.heap.size 3 1 (.slice (some ⟨gD,0,none⟩) N cD) N (D'.flatMap cI)/\wr.ownsRow wo.heap.size 3 1 qv Q'.length (Q'.flatMap cN) /\
        Only gD (gD+1) wo wr/\SlI w5.heap.size wT.heap.size wr cPS 4 (.slice A7 (psI g a h).length c7) (psI g a h)/\(∀ b,qv.ownBlock=some b->b < w5.heap.size ∨ wT.heap.size<=b)/\wT.heap.size<=wr.heap.size) (fun _ jj _=>(psI g a h).length - (intOf jj).toNat)
       case atStart=>exact ⟨0,D,Q,Nat.zero_le _,rfl,hlt,HQI.out,HPOP.out,HDD.out.symm,by rw [List.drop_zero],HROWT.out,HQT.out,HONT.out,HSL.out,fun b hb=>.inl (HQ.out.lt b hb).2,Nat.le_refl _⟩
       case round =>
        clear HROWT HQT HONT HSL HPOP
        obtain ⟨j,D',Q',hj,rfl,hiQ,hqi',hI2,hDh,hrx,hrow,hq,hon,hsl,hqb,hsz3⟩:=hrel
        have HQI':=Hd_ hqi'
        have HI2:=Hd_ hI2
        have HDH:=Hd_ hDh
        have HRX:=Hd_ hrx
        have HROW':=Hd_ hrow
        have HQ':=Hd_ hq
        have HSL:=Hd_ hsl
        have HQB:=Hd_ hqb
        have HON:=Hd_ hon
        clear hqi' hI2 hDh hrx hrow hq hsl hqb hon
        by_cases hlj:j < (psI g a h).length
        · have hpk:(psI g a h)[j]?=some (psI g a h)[j]:=List.getElem?_eq_getElem hlj
          have hpr:=prodSteps_range (grOk_iff.1 HGO.out) HAO.out (List.getElem_mem hlj)
          generalize (psI g a h)[j]=p at hpk hpr
          have hnk:(nextI g a h)[j]?=some (psV a.accept.length p):=by rw [psI_next,List.getElem?_map,hpk];rfl
          have hvN:=HNN.out h _ hhN (List.mem_of_getElem? hnk)
          obtain ⟨b7,o7,rfl,hb70,hb71,r2,r3⟩:=HSL.out.ps hpk
          obtain ⟨pst,z,q⟩:=p
          simp only at r2 r3 hpr
          obtain ⟨⟨hz0,hz1⟩,hq0,hq1⟩:=hpr
          obtain ⟨z,rfl⟩:=Int.eq_ofNat_of_zero_le hz0
          obtain ⟨q,rfl⟩:=Int.eq_ofNat_of_zero_le hq0
          obtain ⟨vv,hvv⟩:∃ vv,vv=psV a.accept.length (pst,(z:Int),(q:Int)):=⟨_,rfl⟩
          have hvv2:vv=z * a.accept.length+q:=by rw [hvv];simp [psV]
          rw [<- hvv] at hnk hvN
          have hdrj:(nextI g a h).drop j=vv :: (nextI g a h).drop (j+1):=by
           obtain ⟨hjl,hjv⟩:=List.getElem?_eq_some_iff.1 hnk
           rw [List.drop_eq_getElem_cons hjl,hjv]
          obtain ⟨zn,hzn⟩:∃ zn,zn=z * a.accept.length:=⟨_,rfl⟩
          rw [<- hzn] at hvv2
          have m1':(z:Int) * (a.accept.length:Int)=(zn:Int):=by rw [hzn,Int.natCast_mul]
          have m2':(zn:Int)+(q:Int)=(vv:Int):=by omega
          have m1:IntKind.i64.wrap ((z:Int) * (a.accept.length:Int))=(zn:Int):=by rw [m1'];exact IntWalk.i64_in _ (by omega)
          have m2:IntKind.i64.wrap ((zn:Int)+(q:Int))=(vv:Int):=by rw [m2'];exact IntWalk.i64_in _ (by omega)
          have HDJ:=Hd_ hdrj
          have hjj:(j:Int) < ((psI g a h).length:Int):=by omega
          have hvi:(vv:Int) < (N:Int):=by omega
          have hb7w:b7 < wr.heap.size:=by omega
          clear hvv hvv2 hzn hnk hpk hdrj
          go_wp2_with fail
          refine wp_region_ext_lit (by kernel_rfl) (by kernel_rfl) ?_
          repeat (go_big_quiet_step (fail))
          refine wpQuiet_nil ?_
          rintro _ ⟨u2,rfl⟩
          have hbu:=ext_below wr u2
          have hsu:=hbu.size
          have hrow3:=ownsRow_below HROW'.out hbu (Nat.le_refl _)
          have hq3:=ownsRow_below HQ'.out hbu (Nat.le_refl _)
          have hon3:=HON.out.trans (Only.of_below hbu gD (gD+1))
          have hsl3:=HSL.out.below hbu (by omega)
          clear m1 m1' m2 m2' r2 r3
          generalize ext wr u2=wx at *
          have hlD:D'.length=N:=HI2.out.len
          have hvl:vv < D'.length:=by omega
          have hvc:=(World.ownsRow.cellAt hrow3 vv (by omega)).trans (flatI_at (getD_of hvl))
          have hvf:=World.ownsRow.frozenAt hrow3 vv
          have HQ3:=Hd_ hq3
          have HON3:=Hd_ hon3
          have HSL3:=Hd_ hsl3
          have HROW3:=Hd_ hrow3
          have hQl:Q'.length<=61:=by
           have h1:=HI2.out.fuel
           rw [List.length_drop] at h1
           omega
          clear hrow3 hq3 hon3 hsl3
          by_cases hneg:D'.getD vv 0 < 0
          · have hhl:h < D'.length:=by omega
            have hhc:=(World.ownsRow.cellAt HROW3.out h (by omega)).trans (flatI_at (getD_of hhl))
            rw [HDH.out] at hhc
            obtain ⟨gQ',cQ',rfl,hgQ',hgQw',-,-⟩:=own_some HQ3.out (by omega)
            have hqc':=(World.ownsRow.cellAt HQ3.out i (by omega)).trans (flatN_atR HQI'.out)
            have hnew:=HI2.out.new hvN hneg (d:=dd+1) (by omega) (by omega)
            have hrow4:=(World.ownsRow.stored HROW3.out vv (.int .i64 (dd+1))).1
            rw [flatI_set] at hrow4
            have hq4:=ownsRow_far HQ3.out (p:=⟨gD,vv,none⟩) (show gD < wo.heap.size from hgDo) (.int .i64 (dd+1))
            have hon4:=HON3.out.setCell (p:=⟨gD,vv,none⟩) (.inl ⟨Nat.le_refl _,Nat.lt_succ_self _⟩) (.int .i64 (dd+1))
            have hsl4:=HSL3.out.only ((Only.refl gD (gD+1) wx).setCell (p:=⟨gD,vv,none⟩) (.inl ⟨Nat.le_refl _,Nat.lt_succ_self _⟩) (.int .i64 (dd+1))) (by omega) (.inr (by omega))
            have hrx2:relax (dd+1) ((nextI g a h).drop (j+1)) (D'.set vv (dd+1)) (Q'.drop (i+1) ++ [vv])=relax (dd+1) (nextI g a h) D (Q.drop (i+1)):=by rw [<- HRX.out,HDJ.out,relax_mid _ _ _ _ _ hneg]
            have hDh2:(D'.set vv (dd+1)).getD h 0=dd:=by
             rw [getD_set' hvl,if_neg (by intro e;subst e;rw [HDH.out] at hneg;omega)];exact HDH.out
            have hdrp:(Q' ++ [vv]).drop (i+1)=Q'.drop (i+1) ++ [vv]:=List.drop_append_of_le_length (by omega)
            rw [<- hdrp] at hnew hrx2
            have HNEW:=Hd_ hnew
            have HR4:=Hd_ hrow4
            have HQ4:=Hd_ hq4
            have HON4:=Hd_ hon4
            have HSL4:=Hd_ hsl4
            have HRX2:=Hd_ hrx2
            have HDH2:=Hd_ hDh2
            have hsx:(wx.setCell ⟨gD,vv,none⟩ (.int .i64 (dd+1))).heap.size=wx.heap.size:=by simp
            generalize D'.getD vv 0=xv at hvc hneg
            have hii2:(i:Int) < (Q'.length:Int):=by omega
            have hhi:(h:Int) < (N:Int):=by omega
            clear hnew hrow4 hq4 hon4 hsl4 hrx2 hDh2 hdrp
            go_wp2_with (at_builtin;(refine wpList_append1 cN elInt rfl _ _ rfl wo.heap.size _ Q' vv _ 1 _ (by rfl) HQ4.out (by rfl) (by simp) rfl rfl (cN_one _) (by omega) (by omega) (by simp;omega) ?_);intro v' w4 hrow' hb4 hat4 hgr4)
            go_roundw
            case rel =>
             have hs4:=hgr4.size
             have hs5:((wx.setCell ⟨gD,vv,none⟩ (.int .i64 (dd+1))).alloc (.cells #[.int .i64 (vv:Int)] 3)).heap.size=wx.heap.size+1:=by simp
             rw [hs5] at hs4
             refine ⟨j+1,_,Q' ++ [vv],by omega,by go_num,by simp;omega,by rw [List.getElem?_append_left hiQ];exact HQI'.out,HNEW.out,HDH2.out,HRX2.out,ownsRow_below' HR4.out hb4 hgDo,hrow',(HON4.out.alloc _).grown hgr4 (fun b hb=>.inr (by cases hb;exact hgQ')),(HSL4.out.below ((Below.refl _ _).alloc (Nat.le_refl _) _) (by rw [hsx];omega)).grown hgr4 (by rw [hs5];omega) (fun b hb=>HQB.out b hb),fun b hb=>?_,by omega⟩
             rcases hat4 with h1 | ⟨g1,h1,h2⟩
             · exact HQB.out b (by rw [<- h1];exact hb)
             · rw [h1] at hb
               injection hb with hb
               rw [hsx] at h2
               exact .inr (by omega)
            case measure=>simp [intOf];omega
          · have hrx2:relax (dd+1) ((nextI g a h).drop (j+1)) D' (Q'.drop (i+1))=relax (dd+1) (nextI g a h) D (Q.drop (i+1)):=by rw [<- HRX.out,HDJ.out,relax_old _ _ _ _ _ hneg]
            have HRX2:=Hd_ hrx2
            generalize D'.getD vv 0=xv at hvc hneg
            clear hrx2
            go_wp2_with fail
            go_roundw
            case rel=>exact ⟨j+1,D',Q',by omega,by go_num,hiQ,HQI'.out,HI2.out,HDH.out,HRX2.out,HROW3.out,HQ3.out,HON3.out,HSL3.out,HQB.out,by omega⟩
            case measure=>simp [intOf];omega
        · obtain rfl:j=(psI g a h).length:=by omega
          have hrx2:=HRX.out
          rw [<- HNL.out,List.drop_length,relax] at hrx2
          have hBF:bfs (nextI g a) f D' (Q'.drop (i+1))=R:=by
           rw [<- HB.out,bfs,<- HDD.out,<- hrx2]
          have HBF:=Hd_ hBF
          clear hrx2 hBF
          go_wp2_with fail
          go_roundg f
          case measure=>exact Nat.lt_succ_self _
          case rel=>exact ⟨i+1,D',Q',by omega,by omega,by go_num,HI2.out,HBF.out,HROW'.out,HQ'.out,HON.out⟩
     · obtain rfl:i=Q.length:=by omega
       rw [List.drop_length] at HB HI
       have hD:D=R:=by rw [<- HB.out,bfs_nil]
       have hown:=Own.of_row (xs:=D) (ownsRow_mono HROW.out hb1) HI.out.len rfl
       rw [hD] at hown
       have HO:=Hd_ hown
       obtain ⟨A9,c9,rfl,-,-,-⟩:=(Own.of_row (xs:=Q) HQ.out rfl rfl).form cN_len
       clear hD hown
       go_wp2_with fail
       go_ret
       exact ⟨_,rfl,HO.out,HBWR.out⟩
end Go.Proofs.YteaplabkemoenaaGreat
namespace Go.Proofs.YteaplabkemoenaaGreat
/-- vertex i is reached and accepts -/
def okV (g:Gr) (a:Au) (D:List Int) (i:Nat):Bool:=decide (0<=D.getD i 0) && accC a (valAt g (i / a.accept.length)) (i % a.accept.length)
def ansM (g:Gr) (a:Au) (D:List Int) (k:Nat):Nat:=((List.range k).filter (okV g a D)).foldl (fun m i=>ins m (i / a.accept.length)) 0
theorem ansM_yes {g:Gr} {a:Au} {D:List Int} {k:Nat} (h:okV g a D k=true):ansM g a D (k+1)=ins (ansM g a D k) (k / a.accept.length):=by
 simp [ansM,List.range_succ,List.filter_append,h]
theorem ansM_no {g:Gr} {a:Au} {D:List Int} {k:Nat} (h:okV g a D k=false):ansM g a D (k+1)=ansM g a D k:=by
 simp [ansM,List.range_succ,List.filter_append,h]
theorem foldl_ins_nat (f:Nat->Nat) (l:List Nat) (m t:Nat):(l.foldl (fun m i=>ins m (f i)) m).testBit t=(m.testBit t || l.any (fun i=>decide (f i=t))):=by
 induction l generalizing m with
 | nil=>simp
 | cons x l ih=>rw [List.foldl_cons,ih,ins_test,List.any_cons,Bool.or_assoc]
theorem ansM_test (g:Gr) (a:Au) (D:List Int) (k t:Nat):(ansM g a D k).testBit t=true ↔ ∃ i,i < k/\okV g a D i=true/\i / a.accept.length=t:=by
 unfold ansM
 rw [foldl_ins_nat]
 simp only [Nat.zero_testBit,Bool.false_or,List.any_eq_true,List.mem_filter,List.mem_range,decide_eq_true_eq]
 constructor
 · rintro ⟨i,⟨h1,h2⟩,h3⟩;exact ⟨i,h1,h2,h3⟩
 · rintro ⟨i,h1,h2,h3⟩;exact ⟨i,⟨h1,h2⟩,h3⟩
theorem ansM_lt {g:Gr} {a:Au} {D:List Int} {k n:Nat} (h:k<=n * a.accept.length):ansM g a D k < 2 ^ n:=by
 refine Nat.lt_pow_two_of_testBit _ fun t ht=>?_
 cases hb:(ansM g a D k).testBit t with
 | false=>rfl
 | true =>
   obtain ⟨i,hi,_,rfl⟩:=(ansM_test ..).1 hb
   have:i / a.accept.length < n:=Nat.div_lt_of_lt_mul (by rw [Nat.mul_comm];omega)
   omega
/-- the answers from x, in ascending order -/
def ansL (g:Gr) (a:Au) (x:Int):List Int :=
 if (wi x 0 ((g.vals.length:Int) - 1) && (grOk g && auOk a))=true then memI 30 (ansM g a (distFrom g a x) (g.vals.length * a.accept.length)) else []
theorem ansL_len (g:Gr) (a:Au) (x:Int):(ansL g a x).length<=30:=by
 unfold ansL
 split
 · unfold memI;rw [List.length_map];exact mem_len _ _
 · simp
section
open Go.ChangeShapes Go.WideShapes Go.ChangeAt Go.RowKit
theorem SlI.intI {lo hi:Nat} {w:World} {A:Option Addr} {n c:Nat} {xs:List Int} (h:SlI lo hi w cI 1 (.slice A n c) xs) {i:Nat} {x:Int} (hx:xs[i]?=some x) :
 ∃ b o,A=some ⟨b,o,none⟩/\lo<=b/\b < hi/\w.cell? ⟨b,o+i,none⟩=some (.int .i64 x):=by
 obtain ⟨A',c',hv,_,_,h3⟩:=h
 injection hv with h1 _ _
 subst h1
 obtain ⟨b,o,e,g1,g2,hc⟩:=h3 i x hx
 exact ⟨b,o,e,g1,g2,by simpa using hc 0 _ rfl⟩
end
end Go.Proofs.YteaplabkemoenaaGreat
namespace Go.Proofs.YteaplabkemoenaaGreat
open Go.ChangeShapes Go.WideShapes Go.ChangeAt Go.RowKit
attribute [local go_sem] ext_cell ext_frozen ext_lt ext_lt1 ext_lt2 ext_lt3 ltn2 ltn3 ltn13 lts1 lts2 lts3
set_option maxHeartbeats 2000000 in
theorem l4Set_any (m:Nat) (w:World) (hm:m < 2 ^ 60) :
 Calls Tryz.prog 88 #[.int .i64 (m:Int)] w fun e w'=>∃ v',e=.returned v'/\Own w.heap.size w'.heap.size w' 3 cI 1 v' (memI 30 m)/\Below w.heap.size w w':=by
 obtain ⟨R,hR⟩:∃ R,R=memI 30 m:=⟨_,rfl⟩
 rw [<- hR]
 have HR:=Hd_ hR
 clear hR
 go_enter Tryz.func88,Tryz.ntmps88
 go_wp2_with fail
 go_loopw [3,4] (fun oo ii wr=>∃ i:Nat,i<=30/\ii=.int .i64 (i:Int)/\wr.ownsRow w.heap.size 3 1 oo (memI i m).length ((memI i m).flatMap cI)/\Below w.heap.size w wr) (fun _ ii _=>30 - (intOf ii).toNat)
 case atStart=>exact ⟨0,Nat.zero_le _,rfl,World.ownsRow_lit w #[] 0 (Nat.le_refl _) (by decide) rfl,(Below.refl _ _).alloc (Nat.le_refl _) _⟩
 case round =>
  obtain ⟨i,hi,rfl,hrow,hbel⟩:=hrel
  have HROW:=Hd_ hrow
  have hml:(memI i m).length<=30:=by unfold memI;rw [List.length_map];have:=mem_len i m;omega
  have hsz:=hbel.size
  clear hrow
  by_cases hlt:i < 30
  · have hii:(i:Int) < 30:=by omega
    cases hb:m.testBit i with
    | false =>
      have b1f:=bit_off (by omega) (by omega) hb
      have HM:=Hd_ (show memI (i+1) m=memI i m by unfold memI;rw [mem_no hb])
      clear hb
      go_wp2_with fail
      go_roundw
      case rel=>exact ⟨i+1,by omega,by go_num,by rw [HM.out];exact HROW.out,hbel⟩
      case measure=>simp [intOf];omega
    | true =>
      have b1t:=bit_on (by omega) (by omega) hb
      have HM:=Hd_ (show memI (i+1) m=memI i m ++ [(i:Int)] by unfold memI;rw [mem_yes hb,List.map_append];rfl)
      clear hb
      generalize memI i m=L at *
      go_wp2_with (at_builtin;(refine wpList_append1 cI elInt rfl _ _ rfl w.heap.size _ (L) ((i:Int)) _ 1 _ (by rfl) (HROW.out) (by rfl) rfl rfl rfl (cI_one _) (by omega) (by omega) (by omega) ?_);intro v' w4 hrow' hb4 _ _)
      go_roundw
      case rel=>exact ⟨i+1,by omega,by go_num,by rw [HM.out];exact hrow',hbel.trans hb4⟩
      case measure=>simp [intOf];omega
  · obtain rfl:i=30:=by omega
    have hown:=Own.of_row (xs:=memI 30 m) HROW.out rfl rfl
    rw [<- HR.out] at hown
    have HO:=Hd_ hown
    obtain ⟨A6,c6,rfl,-,-,-⟩:=(Own.of_row (xs:=memI 30 m) HROW.out rfl rfl).form cI_len
    clear hown
    go_wp2_with fail
    go_ret
    exact ⟨_,rfl,HO.out,hbel⟩
set_option maxHeartbeats 4000000 in
set_option maxRecDepth 100000 in
theorem l15From_any (vg va:Value) (g:Gr) (a:Au) (x:Nat) (w:World) (hgv:GrV 0 w.heap.size w vg g) (hav:AuV 0 w.heap.size w va a) (hgo:grOk g=true) (ha:auOk a=true) (hx:x < g.vals.length) :
 Calls Tryz.prog 66 #[vg,va,.int .i64 (x:Int)] w fun e w'=>∃ v',e=.returned v'/\Own w.heap.size w'.heap.size w' 3 cI 1 v' (ansL g a (x:Int))/\Below w.heap.size w w':=by
 have hgv0:=hgv
 have hav0:=hav
 obtain ⟨A1,n1,c1,A2,n2,c2,rfl⟩:=hgv.shape
 obtain ⟨A3,c3,A4,c4,rfl,hl3,hm3,hl4,hm4,-⟩:=hav.form ha
 have hg:=grOk_iff.1 hgo
 have hn5:=hg.n5
 have hn12:=(auOk_iff.1 ha).1.2
 have hn1:=(auOk_iff.1 ha).1.1
 have hok:(wi (x:Int) 0 ((g.vals.length:Int) - 1) && (grOk g && auOk a))=true:=by simp only [Bool.and_eq_true,wi_iff];exact ⟨by omega,hgo,ha⟩
 obtain ⟨N,hN⟩:∃ N,N=g.vals.length * a.accept.length:=⟨_,rfl⟩
 have hN60:N<=60:=by rw [hN];exact Nat.mul_le_mul hn5 hn12
 have hdl:(distFrom g a (x:Int)).length=N:=by rw [distFrom_len hok,hN]
 obtain ⟨R,hR⟩:∃ R,R=ansL g a (x:Int):=⟨_,rfl⟩
 have hR2:R=memI 30 (ansM g a (distFrom g a (x:Int)) N):=by rw [hR,ansL,if_pos hok,hN]
 rw [<- hR]
 have HR:=Hd_ hR2
 have HN:=Hd_ hN
 have HGO:=Hd_ hg
 have HAO:=Hd_ ha
 have HAV:=Hd_ hav0
 have HGV:=Hd_ hgv0
 have HGB:=Hd_ hgo
 have hb0:Below w.heap.size w ((w.alloc (.cells #[.slice A1 n1 c1,.slice A2 n2 c2] 27)).alloc (.cells #[.int .i64 a.start,.slice A3 a.accept.length c3,.slice A4 a.accept.length c4] 31)):=((Below.refl _ _).alloc (Nat.le_refl _) _).alloc (by simp) _
 clear hgv hav ha hg hgo hav0 hgv0 hR hR2 hok hN
 go_enter Tryz.func66,Tryz.ntmps66
 go_wp2_with fail
 obtain ⟨W0,hW0⟩:∃ W0,W0=((w.alloc (.cells #[.slice A1 n1 c1,.slice A2 n2 c2] 27)).alloc (.cells #[.int .i64 a.start,.slice A3 a.accept.length c3,.slice A4 a.accept.length c4] 31)):=⟨_,rfl⟩
 rw [<- hW0] at hb0 ⊢
 have x0:W0.cell? ⟨w.heap.size,0,none⟩=some (.slice A1 n1 c1):=by rw [hW0];simp
 have x1:W0.cell? ⟨w.heap.size,1,none⟩=some (.slice A2 n2 c2):=by rw [hW0];simp
 have y0:W0.cell? ⟨w.heap.size+1,0,none⟩=some (.int .i64 a.start):=by rw [hW0];simp
 have y1:W0.cell? ⟨w.heap.size+1,1,none⟩=some (.slice A3 a.accept.length c3):=by rw [hW0];simp
 have y2:W0.cell? ⟨w.heap.size+1,2,none⟩=some (.slice A4 a.accept.length c4):=by rw [hW0];simp
 have hs0:w.heap.size+1+1=W0.heap.size:=by rw [hW0];simp
 try rw [hs0]
 have l0:w.heap.size+1 < W0.heap.size:=by omega
 have l00:w.heap.size < W0.heap.size:=by omega
 clear hW0 hs0
 refine (l14Ranks_any _ _ g a x W0 (HGV.out.keep hb0) (HAV.out.keep hb0) HGB.out HAO.out hx).mono ?_
 rintro e w1 ⟨v1,rfl,ho1,hb1⟩
 have hb2:=below_trans hb0 hb1
 have x0:=kcell hb1 x0
 have x1:=kcell hb1 x1
 have y0:=kcell hb1 y0
 have y1:=kcell hb1 y1
 have y2:=kcell hb1 y2
 have hs1:=hb1.size
 have l0:=Nat.lt_of_lt_of_le l0 hs1
 have l00:=Nat.lt_of_lt_of_le l00 hs1
 generalize distFrom g a (x:Int)=D at *
 obtain ⟨A6,c6,rfl,hl6,hm6,hC6⟩:=ho1.form cI_len
 have HC6:=Hd_ hC6
 rw [hdl] at hl6 ⊢
 have HDL:=Hd_ hdl
 clear hC6 ho1 hb1 hb0 hdl
 go_wp2_with fail
 go_loopw [9,10] (fun mm ii wr=>∃ (i:Nat) (u:World),i<=N/\ii=.int .i64 (i:Int)/\mm=.int .i64 (ansM g a D i:Nat)/\wr=ext w1 u) (fun _ ii _=>N - (intOf ii).toNat)
 case atStart=>exact ⟨0,w1,Nat.zero_le _,rfl,rfl,ext_self _⟩
 case round =>
  obtain ⟨i,u,hi,rfl,rfl,rfl⟩:=hrel
  have hbE:=below_trans hb2 (ext_below w1 u)
  by_cases hlt:i < N
  · have hgp:g.vals.length * a.accept.length=N:=HN.out.symm
    obtain ⟨X,hX⟩:∃ X,X=i / a.accept.length:=⟨_,rfl⟩
    obtain ⟨S,hS⟩:∃ S,S=i % a.accept.length:=⟨_,rfl⟩
    have hXl:X < g.vals.length:=by rw [hX];exact Nat.div_lt_of_lt_mul (by rw [Nat.mul_comm,hgp];exact hlt)
    have hSl:S < a.accept.length:=by rw [hS];exact Nat.mod_lt _ hn1
    have hml:ansM g a D i < 2 ^ g.vals.length:=ansM_lt (by rw [hgp];omega)
    have hml32:ansM g a D i < 32:=Nat.lt_of_lt_of_le hml (Nat.pow_le_pow_right (by omega) hn5)
    have t1:(i:Int).tdiv (a.accept.length:Int)=(X:Int):=by rw [hX];rfl
    have t2:(i:Int).tmod (a.accept.length:Int)=(S:Int):=by rw [hS];rfl
    have hn0:((a.accept.length:Int)==0)=false:=by simp only [beq_eq_false_iff_ne,ne_eq];omega
    have hae:a.accept ≠ []:=by intro h;rw [h] at hn1;simp at hn1
    have hdi:=getD_of (D:=D) (k:=i) (by have:=HDL.out;omega)
    obtain ⟨b6,o6,rfl,hb6,d6⟩:=HC6.out.int hdi
    have hii:(i:Int) < (N:Int):=by omega
    have HOK:=Hd_ (show okV g a D i=(decide (0<=D.getD i 0) && accC a (valAt g X) S) by rw [hX,hS];rfl)
    have HY:=Hd_ (fun h:okV g a D i=true=>(ansM_yes h).trans (by rw [<- hX]:ins (ansM g a D i) (i / a.accept.length)=ins (ansM g a D i) X))
    have HNo:=Hd_ (fun h:okV g a D i=false=>ansM_no h)
    clear hX hS hgp hdi
    generalize D.getD i 0=d at *
    have HACC:=Hd_ (fun (W:World) (hW:Below w.heap.size w W)=>l14Accepts_any _ _ g a X S W (HGV.out.keep hW) (HAV.out.keep hW) HGO.out HAO.out hXl hSl)
    by_cases hd:0<=d
    · have hd0:decide (d >= 0)=true:=by simpa using hd
      rw [show decide (0<=d)=true by simpa using hd,Bool.true_and] at HOK
      go_wp2_with fail
      refine wp_region_ext_lit (by kernel_rfl) (by kernel_rfl) ?_
      repeat (go_big_quiet_step ((go_at_call 56;exact Calls.ext_of (HACC.out _ (below_trans hbE (ext_below _ _))))))
      refine wpQuiet_nil ?_
      rintro _ ⟨u2,rfl⟩
      obtain ⟨u4,hu4⟩:=ext_of (below_trans (ext_below w1 u) (ext_below (ext w1 u) u2))
      rw [hu4]
      cases hc:accC a (valAt g X) S with
      | true =>
        have HM:=Hd_ (HY.out (by rw [HOK.out,hc]))
        have e1:=shl_bit (s:=X) (by omega)
        generalize ansM g a D i=M at *
        have e2:=or_ins (m:=M) (s:=X) (by omega) (by omega)
        clear hc
        go_wp2_with fail
        go_roundw
        case rel=>exact ⟨i+1,u4,by omega,by go_num,by rw [HM.out],rfl⟩
        case measure=>simp [intOf];omega
      | false =>
        have HM:=Hd_ (HNo.out (by rw [HOK.out,hc]))
        clear hc
        go_wp2_with fail
        go_roundw
        case rel=>exact ⟨i+1,u4,by omega,by go_num,by rw [HM.out],rfl⟩
        case measure=>simp [intOf];omega
    · have hd0:decide (d >= 0)=false:=by simpa using hd
      have HM:=Hd_ (HNo.out (by rw [HOK.out,show decide (0<=d)=false by simpa using hd];rfl))
      go_wp2_with fail
      refine wp_region_ext_lit (by kernel_rfl) (by kernel_rfl) ?_
      repeat (go_big_quiet_step (fail))
      refine wpQuiet_nil ?_
      rintro _ ⟨u2,rfl⟩
      obtain ⟨u4,hu4⟩:=ext_of (below_trans (ext_below w1 u) (ext_below (ext w1 u) u2))
      rw [hu4]
      go_wp2_with fail
      go_roundw
      case rel=>exact ⟨i+1,u4,by omega,by go_num,by rw [HM.out],rfl⟩
      case measure=>simp [intOf];omega
  · obtain rfl:i=N:=by omega
    have hml:ansM g a D i < 2 ^ g.vals.length:=ansM_lt (by rw [<- HN.out];exact Nat.le_refl _)
    have hml32:ansM g a D i < 2 ^ 60:=Nat.lt_of_lt_of_le hml (Nat.pow_le_pow_right (by omega) (by omega))
    have hset:=l4Set_any (ansM g a D i) (ext w1 u) hml32
    rw [<- HR.out] at hset
    have HS:=Hd_ hset
    clear hset hml hml32
    go_wp2_with fail
    refine HS.out.mono ?_
    rintro e w9 ⟨v9,rfl,ho9,hb9⟩
    obtain ⟨A9,c9,rfl,-,-,-⟩:=ho9.form cI_len
    have HO:=Hd_ (ho9.mono hbE.size (Nat.le_refl _))
    clear ho9
    go_wp2_with fail
    go_ret
    exact ⟨_,rfl,HO.out,below_trans hbE hb9⟩
set_option maxHeartbeats 1000000 in
theorem l11Find_any (v:Value) (xs:List Int) (y:Int) (w:World) (hv:SlE w cI 1 v xs) :
 Calls Tryz.prog 101 #[v,.int .i64 y] w fun e w'=>e=.returned (.int .i64 (Lib.idxOf xs y))/\w'=w:=by
 obtain ⟨A,c,rfl,hl,hm,hC⟩:=SlE.form hv
 have HC:=Hd_ hC
 obtain ⟨R,hR⟩:∃ R,R=Lib.idxOf xs y:=⟨_,rfl⟩
 rw [<- hR]
 have HR:=Hd_ hR
 clear hv hC hR
 go_enter Tryz.func101,Tryz.ntmps101
 go_wp2_with fail
 go_loop [5] (fun ii=>∃ i:Nat,i<=xs.length/\ii=.int .i64 (i:Int)/\∀ j,j < i->xs.getD j 0 ≠ y) (fun ii=>xs.length - (intOf ii).toNat)
 case atStart=>exact ⟨0,Nat.zero_le _,rfl,by intro j hj;omega⟩
 case round =>
  obtain ⟨i,hi,rfl,hno⟩:=hrel
  have HNO:=Hd_ hno
  clear hno
  by_cases hlt:i < xs.length
  · have hxi:=getD_of (D:=xs) hlt
    obtain ⟨b,o,rfl,hb,d⟩:=HC.out.int hxi
    have hii:(i:Int) < (xs.length:Int):=by omega
    obtain ⟨x,hx⟩:∃ x,x=xs.getD i 0:=⟨_,rfl⟩
    rw [<- hx] at d
    have HX:=Hd_ hx
    clear hxi hx
    by_cases hxy:x=y
    · have hfin:R=(i:Int):=by
       have h:=Lib.idxOf_hit xs xs.length i y hlt (Nat.le_refl _) (by rw [<- HX.out];exact hxy) HNO.out
       rw [List.take_length] at h
       rw [HR.out,h]
      have HF:=Hd_ hfin
      have k1:(x==y)=true:=by simpa using hxy
      clear hfin hxy
      go_wp2_with fail
      go_ret
      exact ⟨by rw [HF.out];rfl,rfl⟩
    · have k1:(x==y)=false:=by simpa using hxy
      have HXY:=Hd_ hxy
      clear hxy
      go_wp2_with fail
      go_round
      case rel=>exact ⟨i+1,by omega,by go_num,fun j hj=>by rcases Nat.lt_or_ge j i with h | h;(exact HNO.out j h);(obtain rfl:j=i:=(by omega);rw [<- HX.out];exact HXY.out)⟩
      case measure=>simp [intOf];omega
  · obtain rfl:i=xs.length:=by omega
    have hfin:R=-1:=by
     have h:=Lib.idxOf_miss xs xs.length y HNO.out
     rw [List.take_length] at h
     rw [HR.out,h]
    have HF:=Hd_ hfin
    clear hfin
    go_wp2_with fail
    go_ret
    exact ⟨by rw [HF.out];rfl,rfl⟩
theorem AsR.grown {l h r q:Nat} {w0 w w':World} {st:Int} {ac nx:Value} {us:List Value} {acc:List Bool} {nxt:List (List Int)} {row:Option Nat} (a:AsR l h r q w0 w st ac nx us acc nxt) (hg:w.grownBy w' row) (hn:∀ b,row=some b->q < b/\b ∉ blks (nx :: us)/\ac.ownBlock ≠ some b):AsR l h r q w0 w' st ac nx us acc nxt:=by
 have hd:=a.ord
 have hb:Below (q+1) w w':=⟨hg.os,hg.tape,hg.output,hg.size,fun n hn'=>hg.block n (by have:=a.blk.lt;omega) (fun e=>by have:=(hn n e.symm).1;omega)⟩
 have hs:=a.frm.size
 exact ⟨a.res.below hb (by omega),a.blk.below hb (by omega),⟨ownsRow_block a.au.acc fun g hk=>hg.block g (a.au.acc.lt g hk).2 (fun e=>(hn g e.symm).2.2 hk),a.au.nxt.blocks fun g hm=>hg.block g (a.au.nxt.lt g hm).2 (fun e=>(hn g e.symm).2.1 hm),a.au.apart⟩,a.frm.andBelow hb (by omega),hd⟩
theorem AsR.off {r q:Nat} {w0 w:World} {st:Int} {ac nx:Value} {us:List Value} {acc:List Bool} {nxt:List (List Int)} (a:AsR 0 0 r q w0 w st ac nx us acc nxt):Below w0.heap.size w0 (((w.setCell ⟨r,0,none⟩ (.int .i64 0)).setCell ⟨r,1,none⟩ (.slice none 0 0)).setCell ⟨r,2,none⟩ (.slice none 0 0)):=by
 have hd:=a.ord
 have hb:Below w0.heap.size w0 w:=⟨a.frm.os,a.frm.tape,a.frm.output,a.frm.size,fun n hn=>a.frm.block n hn (.inr (Nat.zero_le _))⟩
 exact ((hb.setCell (p:=⟨r,0,none⟩) (by simp only;omega) _).setCell (p:=⟨r,1,none⟩) (by simp only;omega) _).setCell (p:=⟨r,2,none⟩) (by simp only;omega) _
/-- the sets' list, the positions' box and the automaton under way -/
structure SbR (w0 w:World) (q:Nat) (ps:Array Value) (sv:Value) (S:List Int) (ac nx:Value) (us:List Value) (acc:List Bool) (nxt:List (List Int)):Prop where
 aut:AsR 0 0 (w0.heap.size+1) q w0 w 0 ac nx us acc nxt
 box:Blk w w0.heap.size 129 ps
 sets:w.ownsRow (q+1) 3 1 sv S.length (S.flatMap cI)
 far:∀ b,sv.ownBlock=some b->b ∉ blks (nx :: us)/\ac.ownBlock ≠ some b
section
variable {w0 w w':World} {q:Nat} {ps:Array Value} {sv:Value} {S:List Int} {ac nx:Value} {us:List Value} {acc:List Bool} {nxt:List (List Int)}
theorem SbR.below (h:SbR w0 w q ps sv S ac nx us acc nxt) (hb:Below w.heap.size w w'):SbR w0 w' q ps sv S ac nx us acc nxt :=
 ⟨h.aut.below hb,h.box.keep hb,ownsRow_below h.sets hb (Nat.le_refl _),h.far⟩
/-- a row elsewhere grows -/
theorem SbR.row {u:Option Nat} (h:SbR w0 w q ps sv S ac nx us acc nxt) (hg:w.grownBy w' u) (hn:∀ b,u=some b->q < b/\b ∉ blks (nx :: us)/\ac.ownBlock ≠ some b/\sv.ownBlock ≠ some b):SbR w0 w' q ps sv S ac nx us acc nxt:=by
 have hd:=h.aut.ord
 exact ⟨h.aut.grown hg fun b e=>⟨(hn b e).1,(hn b e).2.1,(hn b e).2.2.1⟩,(hg.block _ h.box.lt (fun e=>by have:=(hn _ e.symm).1;omega)).trans h.box,ownsRow_block h.sets fun g hk=>hg.block g (h.sets.lt g hk).2 (fun e=>(hn g e.symm).2.2.2 hk),h.far⟩
/-- one set more -/
theorem SbR.push {g n c:Nat} {S':List Int} (h:SbR w0 w q ps sv S ac nx us acc nxt) (hr:w'.ownsRow (q+1) 3 1 (.slice (some ⟨g,0,none⟩) n c) S'.length (S'.flatMap cI)) (hg:w.grownBy w' sv.ownBlock) (hat:sv.ownBlock=some g ∨ w.heap.size<=g):SbR w0 w' q ps (.slice (some ⟨g,0,none⟩) n c) S' ac nx us acc nxt:=by
 have hd:=h.aut.ord
 refine ⟨h.aut.grown hg fun b e=>⟨by have:=(h.sets.lt b e).1;omega,h.far b e⟩,(hg.block _ h.box.lt (fun e=>by have:=(h.sets.lt _ e.symm).1;omega)).trans h.box,hr,fun b hb=>?_⟩
 cases hb
 rcases hat with h1 | h1
 · exact h.far g h1
 · exact ⟨fun hm=>by have:=(h.aut.au.nxt.lt g hm).2;omega,fun e=>by have:=(h.aut.au.acc.lt g e).2;omega⟩
end
def SubOut (w:World) (e:Ending) (w':World):Prop :=
 ∃ A1 n1 c1 A2 n2 c2 st is,e=.returned (.tuple #[.agg #[.int .i64 st,.slice A1 n1 c1,.slice A2 n2 c2],.bool is])/\(is=true->∃ us acc nxt,AuR w.heap.size w' (.slice A1 n1 c1) (.slice A2 n2 c2) us acc nxt/\(acc.length=nxt.length/\0 < nxt.length/\nxt.length<=100/\∀ row ∈ nxt,row.length=9))/\Below w.heap.size w w'
set_option maxHeartbeats 16000000 in
theorem l11Subsets_any (v:Value) (L F:List Int) (w:World) (hv:PosV 0 w.heap.size w v L F) :
 Calls Tryz.prog 86 #[v,.int .i64 12] w (SubOut w):=by
 have HV:=Hd_ hv
 obtain ⟨ls,fs,fi,la,nu,rfl,h1,h2,-⟩:=hv
 obtain ⟨A1,n1,c1,rfl⟩:=h1.shape
 obtain ⟨A2,n2,c2,rfl⟩:=h2.shape
 clear h1 h2
 have hb0:=((((Below.refl w.heap.size w).alloc (Nat.le_refl _) (.cells #[.slice A1 n1 c1,.int .i64 fi,.int .i64 la,.slice A2 n2 c2,.bool nu] 129)).alloc (by simp) (.cells #[.int .i64 0,.slice none 0 0,.slice none 0 0] 31)).alloc (by simp;omega) (.cells #[.int .i64 0,.slice none 0 0,.slice none 0 0] 31)).alloc (by simp;omega) (.cells #[.int .i64 1] 3)
 have b0:=(((Blk.new w 129 #[.slice A1 n1 c1,.int .i64 fi,.int .i64 la,.slice A2 n2 c2,.bool nu] _ rfl).alloc (.cells #[.int .i64 0,.slice none 0 0,.slice none 0 0] 31)).alloc (.cells #[.int .i64 0,.slice none 0 0,.slice none 0 0] 31)).alloc (.cells #[.int .i64 1] 3)
 have b1:=((Blk.new (w.alloc (.cells #[.slice A1 n1 c1,.int .i64 fi,.int .i64 la,.slice A2 n2 c2,.bool nu] 129)) 31 #[.int .i64 0,.slice none 0 0,.slice none 0 0] (w.heap.size+1) (by simp)).alloc (.cells #[.int .i64 0,.slice none 0 0,.slice none 0 0] 31)).alloc (.cells #[.int .i64 1] 3)
 have b2:=(Blk.new ((w.alloc (.cells #[.slice A1 n1 c1,.int .i64 fi,.int .i64 la,.slice A2 n2 c2,.bool nu] 129)).alloc (.cells #[.int .i64 0,.slice none 0 0,.slice none 0 0] 31)) 31 #[.int .i64 0,.slice none 0 0,.slice none 0 0] (w.heap.size+1+1) (by simp)).alloc (.cells #[.int .i64 1] 3)
 have hrl:=World.ownsRow_lit (base:=w.heap.size+1+1+1) (e:=3) (size:=1) (((w.alloc (.cells #[.slice A1 n1 c1,.int .i64 fi,.int .i64 la,.slice A2 n2 c2,.bool nu] 129)).alloc (.cells #[.int .i64 0,.slice none 0 0,.slice none 0 0] 31)).alloc (.cells #[.int .i64 0,.slice none 0 0,.slice none 0 0] 31)) #[.int .i64 1] 1 (by simp) (by decide) rfl
 rw [show (((w.alloc (.cells #[.slice A1 n1 c1,.int .i64 fi,.int .i64 la,.slice A2 n2 c2,.bool nu] 129)).alloc (.cells #[.int .i64 0,.slice none 0 0,.slice none 0 0] 31)).alloc (.cells #[.int .i64 0,.slice none 0 0,.slice none 0 0] 31)).heap.size=w.heap.size+1+1+1 by simp] at hrl
 go_enter Tryz.func86,Tryz.ntmps86
 go_upto_region 3 with fail
 generalize ((((w.alloc (.cells #[.slice A1 n1 c1,.int .i64 fi,.int .i64 la,.slice A2 n2 c2,.bool nu] 129)).alloc (.cells #[.int .i64 0,.slice none 0 0,.slice none 0 0] 31)).alloc (.cells #[.int .i64 0,.slice none 0 0,.slice none 0 0] 31)).alloc (.cells #[.int .i64 1] 3))=W0 at *
 have HS0:=Hd_ (show SbR w W0 (w.heap.size+1+1) #[.slice A1 n1 c1,.int .i64 fi,.int .i64 la,.slice A2 n2 c2,.bool nu] _ [1] (.slice none 0 0) (.slice none 0 0) [] [] [] from
  ⟨⟨b1,b2,AuR.start _ _,Only.of_below hb0 _ _,by omega⟩,b0,hrl,fun b hb=>⟨by intro hm;obtain ⟨i,u,hi,hu⟩:=mem_blks.1 hm;cases i with | zero=>(simp only [List.getElem?_cons_zero,Option.some.injEq] at hi;subst hi;cases hu) | succ i=>simp at hi,by intro e;cases e⟩⟩)
 clear hb0 b0 b1 b2 hrl
 go_wp2_with fail
 go_loopw [7,8,9,10,11,12] (fun vv ss _ _ _ _ wr=>∃ (s:Nat) (S:List Int) (sv ac nx:Value) (us:List Value) (acc:List Bool) (nxt:List (List Int)),s<=S.length/\1<=S.length/\S.length<=12/\ss=.int .i64 (s:Int)/\vv=sv/\acc.length=s/\nxt.length=s/\(∀ row ∈ nxt,row.length=9)/\SbR w wr (w.heap.size+1+1) #[.slice A1 n1 c1,.int .i64 fi,.int .i64 la,.slice A2 n2 c2,.bool nu] sv S ac nx us acc nxt) (fun _ ss _ _ _ _ _=>14 - (intOf ss).toNat)
 case atStart=>exact ⟨0,[1],_,_,_,[],[],[],by simp,by simp,by simp,rfl,rfl,rfl,rfl,by simp,HS0.out⟩
 case round =>
  obtain ⟨s,S,sv,ac,nx,us,acc,nxt,hsS,hS1,hS12,rfl,rfl,hla,hln,h9,hS⟩:=hrel
  have HS:=Hd_ hS
  have HLA:=Hd_ hla
  have HLN:=Hd_ hln
  have H9:=Hd_ h9
  obtain ⟨A3,c3,rfl,-,-,-⟩:=ownSh hS.aut.au.acc
  obtain ⟨A4,c4,rfl,-,-,-⟩:=ownSh hS.aut.au.nxt.own
  obtain ⟨A5,c5,rfl,-,-,-⟩:=ownSh hS.sets
  clear hS hla hln h9 HS0
  by_cases hlt:s < S.length
  · have hsi:(s:Int) < (S.length:Int):=by omega
    obtain ⟨W,rfl⟩:∃ W:World,W=wr:=⟨_,rfl⟩
    have hal:=(Below.refl W.heap.size W).alloc (Nat.le_refl _) (.cells #[] 3)
    have HRL:=Hd_ (World.ownsRow_lit (base:=W.heap.size) (e:=3) (size:=1) W #[] 0 (Nat.le_refl _) (by decide) rfl)
    have HS1:=Hd_ (HS.out.below hal)
    have HAB:=Hd_ (fun k hk=>(HS.out.aut.au.acc.lt k hk).2)
    have HNB:=Hd_ (fun k hk=>(HS.out.aut.au.nxt.lt k hk).2)
    have HSB:=Hd_ (fun k hk=>(HS.out.sets.lt k hk).2)
    have hqW:=HS.out.aut.blk.lt
    have HVW:=Hd_ (fun (W':World) (hW:Only 0 0 w W')=>(HV.out.only hW (Nat.le_refl _) (.inr (Nat.zero_le _))).mono (Nat.zero_le _) hW.size)
    clear hal
    go_wp2_with fail
    go_loopw [7,9,10,11,12] (fun vv uu kk _ _ wx=>∃ (k:Nat) (R S2:List Int) (sv:Value),k<=9/\kk=.int .i64 (k:Int)/\vv=sv/\R.length=k/\S.length<=S2.length/\S2.length<=S.length+k/\W.heap.size<=wx.heap.size/\wx.ownsRow W.heap.size 3 1 uu R.length (R.flatMap cI)/\(∀ b,uu.ownBlock=some b->sv.ownBlock ≠ some b)/\SbR w wx (w.heap.size+1+1) #[.slice A1 n1 c1,.int .i64 fi,.int .i64 la,.slice A2 n2 c2,.bool nu] sv S2 (.slice A3 acc.length c3) (.slice A4 us.length c4) us acc nxt) (fun _ _ kk _ _ _=>9 - (intOf kk).toNat)
    case atStart=>exact ⟨0,[],S,_,by omega,rfl,rfl,rfl,Nat.le_refl _,by omega,by simp,HRL.out,fun b hb e=>by cases hb;exact absurd (HSB.out _ e) (Nat.lt_irrefl _),HS1.out⟩
    case round =>
     obtain ⟨k,R,S2,sv,hk,rfl,rfl,hR,hS2a,hS2b,hlenW,hrow,hdis,hSb⟩:=hrel
     have HR:=Hd_ hR
     have HROW:=Hd_ hrow
     have HDIS:=Hd_ hdis
     have HSb:=Hd_ hSb
     obtain ⟨A6,c6,rfl,-,-,-⟩:=ownSh hrow
     obtain ⟨A7,c7,rfl,hsc1,hsc2,hA7⟩:=ownSh hSb.sets
     obtain ⟨g7,rfl⟩:=hA7 (by omega)
     have hs2:s < S2.length:=by omega
     have hs2i:(s:Int) < (S2.length:Int):=by omega
     obtain ⟨z,hz⟩:∃ z,S2[s]?=some z:=⟨_,List.getElem?_eq_getElem hs2⟩
     have e0:=World.ownsRow.cellAt hSb.sets s (by omega)
     rw [show (S2.flatMap cI)[s]?=some (.int .i64 z) by have:=flat_at (E:=cI) (k:=1) cI_len hz 0 _ rfl;simpa using this] at e0
     have x0:wr.cell? ⟨w.heap.size,0,none⟩=some (.slice A1 n1 c1):=hSb.box.cell 0
     have x1:wr.cell? ⟨w.heap.size,1,none⟩=some (.int .i64 fi):=hSb.box.cell 1
     have x2:wr.cell? ⟨w.heap.size,2,none⟩=some (.int .i64 la):=hSb.box.cell 2
     have x3:wr.cell? ⟨w.heap.size,3,none⟩=some (.slice A2 n2 c2):=hSb.box.cell 3
     have x4:wr.cell? ⟨w.heap.size,4,none⟩=some (.bool nu):=hSb.box.cell 4
     have hRl:R.length<=9:=by omega
     have HROWs:=Hd_ hlenW
     have HZ:=Hd_ (show (S2.flatMap cI)[s]?=some (.int .i64 z) by have:=flat_at (E:=cI) (k:=1) cI_len hz 0 _ rfl;simpa using this)
     clear hR hrow hdis hSb HRL HS1 hz
     by_cases hk9:k < 9
     · have hki:(k:Int) < 9:=by omega
       go_wp2_with fail
       refine F_start 7 (fun w'=>w'.cell? ⟨w.heap.size,0,none⟩=some (.slice A1 n1 c1)/\w'.cell? ⟨w.heap.size,1,none⟩=some (.int .i64 fi)/\w'.cell? ⟨w.heap.size,2,none⟩=some (.int .i64 la)/\w'.cell? ⟨w.heap.size,3,none⟩=some (.slice A2 n2 c2)/\w'.cell? ⟨w.heap.size,4,none⟩=some (.bool nu)/\w'.cell? ⟨g7,s,none⟩=some (.int .i64 z)) (by kernel_rfl) (by exact ⟨x0,x1,x2,x3,x4,e0⟩) (fun hS inv=>?_)
       refine F_tk 0 inv ?_
       try simp only [tA,tB,tC,Act.put,tE,tF,tG]
       clear inv;intro inv
       refine F_tk 1 inv ?_
       try simp only [tA,tB,tC,Act.put,tE,tF,tG]
       clear inv;intro inv
       refine F_tk 2 inv ?_
       try simp only [tA,tB,tC,Act.put,tE,tF,tG]
       clear inv;intro inv
       refine F_tk 3 inv ?_
       try simp only [tA,tB,tC,Act.put,tE,tF,tG]
       clear inv;intro inv
       refine F_tk 4 inv ?_
       try simp only [tA,tB,tC,Act.put,tE,tF,tG]
       clear inv;intro inv
       refine F_tk 5 inv ?_
       try simp only [tA,tB,tC,Act.put,tE,tF,tG]
       clear inv;intro inv
       have hbd:Below wr.heap.size wr wr.drew:=(Below.refl _ _).drew
       refine F_o1 6 inv ?_;intro K hK
       try simp only [tA,tB,tC]
       go_simp
       refine (l10After_any _ L F z (k:Int) _ (HVW.out _ (HSb.out.aut.frm.trans (Only.of_below hbd 0 0)))).mono ?_
       rintro e w3 ⟨x,rfl,hb3⟩
       have hp3:=below_trans hbd hb3
       refine hK.out _ _ (kB6 hb3 hS) (fun _ _=>?_)
       try simp only [tA,tB,tC,Act.put,tE,tF,tG]
       clear hK K inv hS;rename_i hS inv
       refine F_l1 7 ?_;intro K hK
       go_simp
       refine hK _ _ ?_
       clear hK K inv hS
       have HS3:=Hd_ (HSb.out.below hp3)
       have HR3:=Hd_ (ownsRow_below HROW.out hp3 (Nat.le_refl _))
       have hW3:W.heap.size<=w3.heap.size:=Nat.le_trans HROWs.out hp3.size
       clear hb3 hp3 hbd x0 x1 x2 x3 x4 e0 HSb HROW
       by_cases hx0:x=0
       · subst hx0
         go_wp2_with (at_builtin;(refine wpList_append2 cI elInt rfl _ _ (by rfl) W.heap.size _ R ((-1)) 1 _ (by rfl) (HR3.out.alloc _) (by rfl) (heap_alloc_new _ _) rfl (cI_one _) (by omega) (by omega) (by simp;omega) ?_);intro g8 cp8 w8 hown8 hgr8 hat8 hlt8;have hal:=(Below.refl w3.heap.size w3).alloc (Nat.le_refl _) (.cells #[.int .i64 ((-1))] 3);have HS8:=Hd_ ((HS3.out.below hal).row hgr8 (fun k hk=>⟨by have:=(HR3.out.lt k hk).1;omega,fun hm=>by have h1:=(HR3.out.lt k hk).1;have h2:=HNB.out k hm;omega,fun e=>by have h1:=(HR3.out.lt k hk).1;have h2:=HAB.out k e;omega,HDIS.out k hk⟩));have HD8:=Hd_ (show ∀ k,(Value.slice (some ⟨g8,0,none⟩) (R.length+1) cp8).ownBlock=some k->_ ≠ some k from fun k hk=>by cases hk;exact hat8.elim (fun e=>HDIS.out g8 e) (fun e e2=>by have:=(HS3.out.sets.lt g8 e2).2;simp at e;omega));have HR8:=Hd_ hown8;have hW8:W.heap.size<=w8.heap.size:=Nat.le_trans (by omega) (Nat.le_trans (show w3.heap.size<=_ from hal.size) hgr8.size);clear hown8 hgr8 hat8 hal)
         go_roundw
         case rel=>exact ⟨k+1,R ++ [(-1)],_,_,by omega,by go_num,rfl,by simp [HR.out],by omega,by omega,hW8,HR8.out,HD8.out,HS8.out⟩
         case measure=>simp [intOf];omega
       · have hxx:(x != 0)=true:=by simpa using hx0
         clear hx0
         go_wp2_with fail
         refine (l11Find_any _ S2 x _ (((Own.of_row (xs:=S2) HS3.out.sets rfl rfl).sl cI_len).mono (Nat.zero_le _) (Nat.le_refl _))).mono ?_
         rintro e w' ⟨rfl,hw'⟩
         rw [hw']
         clear hw'
         generalize Lib.idxOf S2 x=idx
         by_cases hix:idx < 0
         · go_upto_region 17 with (at_builtin;(refine wpList_append2 cI elInt rfl _ _ (by rfl) (w.heap.size+1+1+1) _ S2 x 1 _ (by rfl) (HS3.out.sets.alloc _) (by rfl) (heap_alloc_new _ _) rfl (cI_one _) (by omega) (by omega) (by simp;omega) ?_);intro g5 cp5 w5 hown5 hgr5 hat5 hlt5;have hal:=(Below.refl w3.heap.size w3).alloc (Nat.le_refl _) (.cells #[.int .i64 x] 3);have HS5:=Hd_ ((HS3.out.below hal).push hown5 hgr5 hat5);have HR5:=Hd_ (ownsRow_block (ownsRow_below HR3.out hal (Nat.le_refl _)) (fun b hb=>hgr5.block b (by have:=(HR3.out.lt b hb).2;simp;omega) (fun e=>HDIS.out b hb e.symm)));have HD5:=Hd_ (show ∀ b,(Value.slice A6 R.length c6).ownBlock=some b->(Value.slice (some ⟨g5,0,none⟩) (S2.length+1) cp5).ownBlock ≠ some b from fun b hb e=>by cases e;exact hat5.elim (fun e=>HDIS.out g5 hb e) (fun e=>by have:=(HR3.out.lt g5 hb).2;simp at e;omega));have hW5:W.heap.size<=w5.heap.size:=Nat.le_trans hW3 (Nat.le_trans (by simp) hgr5.size);clear hown5 hgr5 hat5 hal)
           go_wp2_with (at_builtin;(refine wpList_append2 cI elInt rfl _ _ (by rfl) W.heap.size _ R ((S2.length:Int)) 1 _ (by rfl) (HR5.out.alloc _) (by rfl) (heap_alloc_new _ _) rfl (cI_one _) (by omega) (by omega) (by simp;omega) ?_);intro g8 cp8 w8 hown8 hgr8 hat8 hlt8;have hal:=(Below.refl w5.heap.size w5).alloc (Nat.le_refl _) (.cells #[.int .i64 ((S2.length:Int))] 3);have HS8:=Hd_ ((HS5.out.below hal).row hgr8 (fun k hk=>⟨by have:=(HR5.out.lt k hk).1;omega,fun hm=>by have h1:=(HR5.out.lt k hk).1;have h2:=HNB.out k hm;omega,fun e=>by have h1:=(HR5.out.lt k hk).1;have h2:=HAB.out k e;omega,HD5.out k hk⟩));have HD8:=Hd_ (show ∀ k,(Value.slice (some ⟨g8,0,none⟩) (R.length+1) cp8).ownBlock=some k->_ ≠ some k from fun k hk=>by cases hk;exact hat8.elim (fun e=>HD5.out g8 e) (fun e e2=>by have:=(HS5.out.sets.lt g8 e2).2;simp at e;omega));have HR8:=Hd_ hown8;have hW8:W.heap.size<=w8.heap.size:=Nat.le_trans (by omega) (Nat.le_trans (show w5.heap.size<=_ from hal.size) hgr8.size);clear hown8 hgr8 hat8 hal)
           go_roundw
           case rel=>exact ⟨k+1,R ++ [(S2.length:Int)],_,_,by omega,by go_num,rfl,by simp [HR.out],by (simp;omega),by (simp;omega),hW8,HR8.out,HD8.out,HS8.out⟩
           case measure=>simp [intOf];omega
         · skip
           go_wp2_with (at_builtin;(refine wpList_append2 cI elInt rfl _ _ (by rfl) W.heap.size _ R (idx) 1 _ (by rfl) (HR3.out.alloc _) (by rfl) (heap_alloc_new _ _) rfl (cI_one _) (by omega) (by omega) (by simp;omega) ?_);intro g8 cp8 w8 hown8 hgr8 hat8 hlt8;have hal:=(Below.refl w3.heap.size w3).alloc (Nat.le_refl _) (.cells #[.int .i64 (idx)] 3);have HS8:=Hd_ ((HS3.out.below hal).row hgr8 (fun k hk=>⟨by have:=(HR3.out.lt k hk).1;omega,fun hm=>by have h1:=(HR3.out.lt k hk).1;have h2:=HNB.out k hm;omega,fun e=>by have h1:=(HR3.out.lt k hk).1;have h2:=HAB.out k e;omega,HDIS.out k hk⟩));have HD8:=Hd_ (show ∀ k,(Value.slice (some ⟨g8,0,none⟩) (R.length+1) cp8).ownBlock=some k->_ ≠ some k from fun k hk=>by cases hk;exact hat8.elim (fun e=>HDIS.out g8 e) (fun e e2=>by have:=(HS3.out.sets.lt g8 e2).2;simp at e;omega));have HR8:=Hd_ hown8;have hW8:W.heap.size<=w8.heap.size:=Nat.le_trans (by omega) (Nat.le_trans (show w3.heap.size<=_ from hal.size) hgr8.size);clear hown8 hgr8 hat8 hal)
           go_roundw
           case rel=>exact ⟨k+1,R ++ [idx],_,_,by omega,by go_num,rfl,by simp [HR.out],by omega,by omega,hW8,HR8.out,HD8.out,HS8.out⟩
           case measure=>simp [intOf];omega
     · have hki:¬ (k:Int) < 9:=by omega
       by_cases h12:12 < S2.length
       · have h12i:12 < (S2.length:Int):=by omega
         have z0:wr.cell? ⟨w.heap.size+1,0,none⟩=some (.int .i64 0):=HSb.out.aut.res.cell 0
         have z1:wr.cell? ⟨w.heap.size+1,1,none⟩=some (.slice none 0 0):=HSb.out.aut.res.cell 1
         have z2:wr.cell? ⟨w.heap.size+1,2,none⟩=some (.slice none 0 0):=HSb.out.aut.res.cell 2
         have v0:=HSb.out.aut.res.frozen 0
         have v1:=HSb.out.aut.res.frozen 1
         have v2:=HSb.out.aut.res.frozen 2
         have hlr:=HSb.out.aut.res.lt
         go_wp2_with fail
         exact bodyPost_ret (v:=.tuple #[.agg #[.int .i64 0,.slice none 0 0,.slice none 0 0],.bool false]) (by simp [results,Tryz.results86,go_sem,z0,z1,z2,v0,v1,v2,hlr]) rfl ⟨_,_,_,_,_,_,_,_,rfl,(fun h=>by cases h),HSb.out.aut.off⟩
       · have h12i:¬ 12 < (S2.length:Int):=by omega
         have y1:wr.cell? ⟨w.heap.size+1+1,1,none⟩=some (.slice A3 acc.length c3):=HSb.out.aut.blk.cell 1
         go_wp2_with fail
         refine F_start 11 (fun w'=>w'.cell? ⟨w.heap.size,0,none⟩=some (.slice A1 n1 c1)/\w'.cell? ⟨w.heap.size,1,none⟩=some (.int .i64 fi)/\w'.cell? ⟨w.heap.size,2,none⟩=some (.int .i64 la)/\w'.cell? ⟨w.heap.size,3,none⟩=some (.slice A2 n2 c2)/\w'.cell? ⟨w.heap.size,4,none⟩=some (.bool nu)/\w'.cell? ⟨g7,s,none⟩=some (.int .i64 z)/\w'.cell? ⟨w.heap.size+1+1,1,none⟩=some (.slice A3 acc.length c3)) (by kernel_rfl) (by exact ⟨x0,x1,x2,x3,x4,e0,y1⟩) (fun hS inv=>?_)
         refine F_tk 0 inv ?_
         try simp only [tA,tB,tC,Act.put,tE,tF,tG]
         clear inv;intro inv
         refine F_tk 1 inv ?_
         try simp only [tA,tB,tC,Act.put,tE,tF,tG]
         clear inv;intro inv
         refine F_tk 2 inv ?_
         try simp only [tA,tB,tC,Act.put,tE,tF,tG]
         clear inv;intro inv
         refine F_tk 3 inv ?_
         try simp only [tA,tB,tC,Act.put,tE,tF,tG]
         clear inv;intro inv
         refine F_tk 4 inv ?_
         try simp only [tA,tB,tC,Act.put,tE,tF,tG]
         clear inv;intro inv
         refine F_tk 5 inv ?_
         try simp only [tA,tB,tC,Act.put,tE,tF,tG]
         clear inv;intro inv
         refine F_tk 6 inv ?_
         try simp only [tA,tB,tC,Act.put,tE,tF,tG]
         clear inv;intro inv
         have hbd:Below wr.heap.size wr wr.drew:=(Below.refl _ _).drew
         refine F_o1 7 inv ?_;intro K hK
         try simp only [tA,tB,tC]
         go_simp
         refine (l10Accepts_any _ L F z _ (HVW.out _ (HSb.out.aut.frm.trans (Only.of_below hbd 0 0)))).mono ?_
         rintro e w3 ⟨x,rfl,hb3⟩
         have hp3:=below_trans hbd hb3
         refine hK.out _ _ (kB7 hb3 hS) (fun _ _=>?_)
         try simp only [tA,tB,tC,Act.put,tE,tF,tG]
         clear hK K inv hS;rename_i hS inv
         have HS3:=Hd_ (HSb.out.below hp3)
         have HR3:=Hd_ (ownsRow_below HROW.out hp3 (Nat.le_refl _))
         clear hb3 hp3 hbd x0 x1 x2 x3 x4 e0 y1 HSb HROW
         refine F_o1 8 inv ?_;intro K hK
         try simp only [tA,tB,tC]
         go_simp
         have hal:=(Below.refl w3.heap.size w3).alloc (Nat.le_refl _) (.cells #[.bool x] 4)
         have HS4:=Hd_ (HS3.out.below hal)
         have HR4:=Hd_ (ownsRow_below HR3.out hal (Nat.le_refl _))
         refine hK.out _ _ (kB7 hal hS) (fun _ _=>?_)
         try simp only [tA,tB,tC,Act.put,tE,tF,tG]
         clear hK K inv hS;rename_i hS inv
         clear hal HS3 HR3
         refine F_o1 9 inv ?_;intro K hK
         try simp only [tA,tB,tC]
         refine op_append1 cB elBool rfl _ _ (by rfl) (w.heap.size+1+1+1) _ acc x 1 _ (by rfl) HS4.out.aut.au.acc (by first | rfl | simp) (heap_alloc_new _ _) rfl (cB_one _) (by have:=HLA.out;omega) (by omega) (by have:=HS4.out.aut.blk.lt;omega) ?_
         intro g2 cp2 w9 hown3 hgr3 hat3 hlt3
         have HP:=Hd_ (HS4.out.aut.pushA hown3 hgr3 hat3)
         have HSE9:=Hd_ (ownsRow_block HS4.out.sets (fun b hb=>hgr3.block b (HS4.out.sets.lt b hb).2 (fun e=>(HS4.out.far b hb).2 e.symm)))
         have HBX9:=Hd_ (show Blk w9 w.heap.size _ _ from (hgr3.block _ HS4.out.box.lt (fun e=>by have:=(HS4.out.aut.au.acc.lt _ e.symm).1;omega)).trans HS4.out.box)
         have HR9:=Hd_ (ownsRow_block HR4.out (fun b hb=>hgr3.block b (HR4.out.lt b hb).2 (fun e=>by have h1:=(HR4.out.lt b hb).1;have h2:=HAB.out b e.symm;omega)))
         have HG9:=Hd_ (show ∀ b,(Value.slice A6 R.length c6).ownBlock=some b->(Value.slice (some ⟨g2,0,none⟩) (acc.length+1) cp2).ownBlock ≠ some b from fun b hb e=>by cases e;exact hat3.elim (fun e=>by have h1:=(HR4.out.lt g2 hb).1;have h2:=HAB.out g2 e;omega) (fun e=>by have:=(HR4.out.lt g2 hb).2;omega))
         have hlt7:=(HS4.out.sets.lt g7 rfl).2
         have HK9:=Hd_ (show (Value.slice (some ⟨g2,0,none⟩) (acc.length+1) cp2).ownBlock ≠ (Value.slice (some ⟨g7,0,none⟩) S2.length c7).ownBlock from fun e=>by
          have e2:some g2=some g7:=e
          rcases hat3 with h1 | h1
          · exact (HS4.out.far g7 rfl).2 (h1.trans e2)
          · injection e2 with e2
            omega)
         clear hlt7
         clear hown3 hgr3 hat3
         have hse9:=World.ownsRow.cellAt HSE9.out s (by omega)
         have hq9:(S2.flatMap cI)[s]?=some (.int .i64 z):=HZ.out
         refine hK.out _ _ (⟨HBX9.out.cell 0,HBX9.out.cell 1,HBX9.out.cell 2,HBX9.out.cell 3,HBX9.out.cell 4,hse9.trans hq9,HP.out.1.cell 1⟩) (fun _ _=>?_)
         try simp only [tA,tB,tC,Act.put,tE,tF,tG]
         clear hK K inv hS;rename_i hS inv
         clear hse9 hq9
         refine F_tk 10 inv ?_
         try simp only [tA,tB,tC,Act.put,tE,tF,tG]
         clear inv;intro inv
         have f0:=HP.out.1.frozen 1
         have lp:=HP.out.1.lt
         refine F_l1 11 ?_;intro K hK
         go_simp
         refine hK _ _ ?_
         clear hK K inv hS
         have HQ:=Hd_ HP.out.2
         have hoq:=(Only.refl (w.heap.size+1+1) (w.heap.size+1+1+1) w9).setCell (p:=⟨w.heap.size+1+1,1,none⟩) (.inl ⟨Nat.le_refl _,Nat.lt_succ_self _⟩) (.slice (some ⟨g2,0,none⟩) (acc.length+1) cp2)
         have HSEq:=Hd_ (own_only HSE9.out hoq (Nat.le_refl _))
         have HRq:=Hd_ (own_only HR9.out hoq (by omega))
         have HBXq:=Hd_ (HBX9.out.only hoq (.inl (by omega)))
         generalize w9.setCell ⟨w.heap.size+1+1,1,none⟩ (.slice (some ⟨g2,0,none⟩) (acc.length+1) cp2)=w10 at *
         have HFAR:=Hd_ HS4.out.far
         clear HP f0 lp hoq HSE9 HR9 HBX9 HS4 HR4
         have x2:w10.cell? ⟨w.heap.size+1+1,2,none⟩=some (.slice A4 us.length c4):=HQ.out.blk.cell 2
         have hul:us.length<=20:=by have h1:=HQ.out.au.nxt.len;have h2:=HLN.out;omega
         have HUF:=Hd_ (show ∀ k,(Value.slice A6 R.length c6).ownBlock=some k->k ∉ blks (Value.slice A4 us.length c4 :: us)/\(Value.slice (some ⟨g2,0,none⟩) (acc.length+1) cp2).ownBlock ≠ some k from
          fun k hk=>⟨fun hm=>by have h1:=(HRq.out.lt k hk).1;have h2:=HNB.out k hm;omega,HG9.out k hk⟩)
         have lq2:=HQ.out.blk.lt
         go_wp2_with (at_builtin;(refine wpList_append2 cV elSS rfl _ _ (by rfl) (w.heap.size+1+1+1) _ us (Value.slice A6 R.length c6) 1 _ (by rfl) (HQ.out.au.nxt.own.alloc _) (by rfl) (heap_alloc_new _ _) rfl (fun u hu=>by simp only [cV,List.mem_cons,List.not_mem_nil,or_false] at hu;subst hu;rfl) (by omega) (by omega) (by simp;omega) ?_);intro g4 cp4 w11 hown4 hgr4 hat4 hlt4;have hal:=(Below.refl w10.heap.size w10).alloc (Nat.le_refl _) (.cells #[Value.slice A6 R.length c6] 24);have HP:=Hd_ ((HQ.out.below hal).pushN (ownsRow_mono (ownsRow_below HRq.out hal (Nat.le_refl _)) (by omega)) HUF.out hown4 hgr4 hat4);have HSE11:=Hd_ (ownsRow_block (ownsRow_below HSEq.out hal (Nat.le_refl _)) (fun b hb=>hgr4.block b (by have:=(HSEq.out.lt b hb).2;simp;omega) (fun e=>(HFAR.out b hb).1 (mem_blks.2 ⟨0,_,rfl,e.symm⟩))));have hob:=own_below (HQ.out.au.nxt.own.alloc (.cells #[Value.slice A6 R.length c6] 24)) (by simp;omega) hgr4;have HBX11:=Hd_ ((HBXq.out.keep hal).below hob (by omega));have HAT:=Hd_ hat4;have f2:=HP.out.1.frozen 2;have y2:w11.cell? ⟨w.heap.size+1+1,2,none⟩=some (.slice A4 us.length c4):=HP.out.1.cell 2;have lp:=HP.out.1.lt;clear hown4 hgr4 hat4 hal hob)
         have hoq:=(Only.refl (w.heap.size+1+1) (w.heap.size+1+1+1) w11).setCell (p:=⟨w.heap.size+1+1,2,none⟩) (.inl ⟨Nat.le_refl _,Nat.lt_succ_self _⟩) (.slice (some ⟨g4,0,none⟩) (us.length+1) cp4)
         have hfar:∀ b,(Value.slice (some ⟨g7,0,none⟩) S2.length c7).ownBlock=some b->b ∉ blks (Value.slice (some ⟨g4,0,none⟩) (us.length+1) cp4 :: (us ++ [Value.slice A6 R.length c6]))/\(Value.slice (some ⟨g2,0,none⟩) (acc.length+1) cp2).ownBlock ≠ some b:=by
          intro b hb
          refine ⟨fun hm=>?_,fun e=>HK9.out (by rw [e,hb])⟩
          obtain ⟨i,u,hi,hu⟩:=mem_blks.1 hm
          cases i with
          | zero =>
            simp only [List.getElem?_cons_zero,Option.some.injEq] at hi
            subst hi
            cases hu
            rcases HAT.out with h1 | h1
            · exact (HFAR.out _ hb).1 (mem_blks.2 ⟨0,_,rfl,h1⟩)
            · have h2:=(HSEq.out.lt _ hb).2
              have h3:w10.heap.size < _:=Nat.lt_of_lt_of_le (by simp) h1
              exact absurd (Nat.lt_trans h3 h2) (Nat.lt_irrefl _)
          | succ i =>
            rw [List.getElem?_cons_succ] at hi
            rcases Nat.lt_or_ge i us.length with hl | hl
            · rw [List.getElem?_append_left hl] at hi
              exact (HFAR.out b hb).1 (mem_blks.2 ⟨i+1,u,by simpa using hi,hu⟩)
            · rw [List.getElem?_append_right hl,List.getElem?_singleton] at hi
              split at hi
              · injection hi with hi
                subst hi
                exact HDIS.out b hu hb
              · cases hi
         have HFIN:=Hd_ (show SbR w _ (w.heap.size+1+1) #[.slice A1 n1 c1,.int .i64 fi,.int .i64 la,.slice A2 n2 c2,.bool nu] (.slice (some ⟨g7,0,none⟩) S2.length c7) S2 _ _ _ _ _ from ⟨HP.out.2,HBX11.out.only hoq (.inl (by omega)),own_only HSE11.out hoq (Nat.le_refl _),hfar⟩)
         clear HP f2 y2 lp x2 hoq hfar
         go_roundw
         case rel =>
          refine ⟨s+1,S2,_,_,_,us ++ [_],acc ++ [x],nxt ++ [R],by omega,by omega,by omega,by go_num,rfl,by simp [HLA.out],by simp [HLN.out],?_,HFIN.out⟩
          intro row hm
          rcases List.mem_append.1 hm with h | h
          · exact H9.out row h
          · rw [List.mem_singleton] at h
            rw [h,HR.out]
            omega
         case measure=>simp [intOf];omega
  · have hsi:¬ (s:Int) < (S.length:Int):=by omega
    have x0:wr.cell? ⟨w.heap.size+1+1,0,none⟩=some (.int .i64 0):=HS.out.aut.blk.cell 0
    have x1:wr.cell? ⟨w.heap.size+1+1,1,none⟩=some (.slice A3 acc.length c3):=HS.out.aut.blk.cell 1
    have x2:wr.cell? ⟨w.heap.size+1+1,2,none⟩=some (.slice A4 us.length c4):=HS.out.aut.blk.cell 2
    have z0:wr.cell? ⟨w.heap.size+1,0,none⟩=some (.int .i64 0):=HS.out.aut.res.cell 0
    have z1:wr.cell? ⟨w.heap.size+1,1,none⟩=some (.slice none 0 0):=HS.out.aut.res.cell 1
    have z2:wr.cell? ⟨w.heap.size+1,2,none⟩=some (.slice none 0 0):=HS.out.aut.res.cell 2
    have v0:=HS.out.aut.res.frozen 0
    have v1:=HS.out.aut.res.frozen 1
    have v2:=HS.out.aut.res.frozen 2
    have hlr:=HS.out.aut.res.lt
    go_wp2_with fail
    have HD:=HS.out.aut.done
    have hbl:Below w.heap.size w (put3 wr (w.heap.size+1) (.int .i64 0) (.slice A3 acc.length c3) (.slice A4 us.length c4)):=⟨HD.2.os,HD.2.tape,HD.2.output,HD.2.size,fun n hn=>HD.2.block n hn (.inr (Nat.zero_le _))⟩
    exact bodyPost_ret (v:=.tuple #[.agg #[.int .i64 0,.slice A3 acc.length c3,.slice A4 us.length c4],.bool true]) (by simp [results,Tryz.results86,go_sem,z0,z1,z2,v0,v1,v2,hlr]) rfl ⟨_,_,_,_,_,_,_,_,rfl,(fun _=>⟨us,acc,nxt,HD.1,by have h1:=HLA.out;have h2:=HLN.out;omega,by have h2:=HLN.out;omega,by have h2:=HLN.out;omega,H9.out⟩),hbl⟩
set_option maxHeartbeats 4000000 in
theorem formatLetter_any (n:Int) (w:World) :
 Calls Tryz.prog 129 #[.int .i64 n] w fun e w'=>∃ s,e=.returned (.string s)/\Below w.heap.size w w':=by
 by_cases hw:wi n 0 8=true
 · have h1:=wi_iff.1 hw
   have hc:n=0 ∨ n=1 ∨ n=2 ∨ n=3 ∨ n=4 ∨ n=5 ∨ n=6 ∨ n=7 ∨ n=8:=by omega
   clear h1
   rcases hc with rfl | rfl | rfl | rfl | rfl | rfl | rfl | rfl | rfl
   all_goals
    go_enter Tryz.func129,Tryz.ntmps129
    go_wp2_with (refine (l2Letter_any _ _).mono ?_;rintro e w' ⟨rfl,rfl⟩)
    go_ret
    exact ⟨_,rfl,(Below.refl _ _).alloc (Nat.le_refl _) _⟩
 · have hw0:wi n 0 8=false:=by simpa using hw
   clear hw
   go_enter Tryz.func129,Tryz.ntmps129
   go_wp2_with (refine (l2Letter_any _ _).mono ?_;rintro e w' ⟨rfl,rfl⟩)
   go_ret
   exact ⟨_,rfl,Below.refl _ _⟩
def LetOut (w:World) (e:Ending) (w':World):Prop:=∃ (n:Int) (b:Bool),e=.returned (.tuple #[.int .i64 n,.bool b])/\Below w.heap.size w w'
set_option maxHeartbeats 4000000 in
theorem parseLetter_any (s:ByteArray) (w:World) :
 Calls Tryz.prog 128 #[.string s] w (LetOut w):=by
 go_enter Tryz.func128,Tryz.ntmps128
 go_wp2
 go_loopw [4] (fun ii wr=>∃ i:Nat,i<=9/\ii=.int .i64 (i:Int)/\Below w.heap.size w wr) (fun ii _=>9 - (intOf ii).toNat)
 case atStart=>exact ⟨0,by omega,rfl,Below.refl _ _⟩
 case round =>
  obtain ⟨i,hi,rfl,hb⟩:=hrel
  have HB:=Hd_ hb
  clear hb
  by_cases hlt:i < 9
  · have hi9:(i:Int) < 9:=by omega
    go_wp2_with fail
    refine (formatLetter_any _ _).mono ?_
    rintro e w2 ⟨x,rfl,hb2⟩
    have HB2:=Hd_ (HB.out.trans (hb2.mono HB.out.size))
    clear hb2
    cases hx:(x.toList==s.toList)
    · go_wp2_with fail
      go_roundw
      case rel=>exact ⟨i+1,by omega,by go_num,HB2.out⟩
      case measure=>simp [intOf];omega
    · go_wp2_with fail
      go_ret2
      exact ⟨_,_,rfl,HB2.out⟩
  · have hi9:¬ (i:Int) < 9:=by omega
    go_wp2_with fail
    go_ret2
    exact ⟨_,_,rfl,HB.out⟩
set_option maxHeartbeats 4000000 in
theorem l8Token_any (k:Int) (w:World) (hk:k=1 ∨ k=2 ∨ k=4 ∨ k=5 ∨ k=6) :
 Calls Tryz.prog 127 #[.agg #[.int .i64 k,.int .i64 0,.int .i64 0,.int .i64 0]] w fun e w'=>∃ s,e=.returned (.string s)/\Below w.heap.size w w':=by
 rcases hk with rfl | rfl | rfl | rfl | rfl
 all_goals
  go_enter Tryz.func127,Tryz.ntmps127
  go_wp2
  go_ret
  exact ⟨_,rfl,(Below.refl _ _).alloc (Nat.le_refl _) _⟩
theorem _root_.Go.RowKit.Below.set4 {w0 w:World} (h:Below w0.heap.size w0 w) (a b c d:Value) :
 Below w0.heap.size w0 ((((w.setCell ⟨w0.heap.size,0,none⟩ a).setCell ⟨w0.heap.size,1,none⟩ b).setCell ⟨w0.heap.size,2,none⟩ c).setCell ⟨w0.heap.size,3,none⟩ d) :=
 (((h.setCell (p:=⟨_,_,none⟩) (Nat.le_refl _) _).setCell (p:=⟨_,_,none⟩) (Nat.le_refl _) _).setCell (p:=⟨_,_,none⟩) (Nat.le_refl _) _).setCell (p:=⟨_,_,none⟩) (Nat.le_refl _) _
set_option maxHeartbeats 8000000 in
theorem l8Read_any (s:ByteArray) (w:World) (hs:s.size<=maxLen) :
 Calls Tryz.prog 122 #[.string s] w fun e w'=>∃ t:Tok,e=.returned (.agg #[.int .i64 t.1,.int .i64 t.2.1,.int .i64 t.2.2.1,.int .i64 t.2.2.2])/\Below w.heap.size w w':=by
 unfold maxLen at hs
 have hb0:=(Below.refl w.heap.size w).alloc (Nat.le_refl _) (.cells #[.int .i64 0,.int .i64 0,.int .i64 0,.int .i64 0] 147)
 have bk:=Blk.new w 147 #[.int .i64 0,.int .i64 0,.int .i64 0,.int .i64 0] _ rfl
 go_enter Tryz.func122,Tryz.ntmps122
 go_wp2
 go_loopw [3] (fun ii wr=>∃ i:Nat,1<=i/\i<=7/\ii=.int .i64 (i:Int)/\Below w.heap.size w wr/\Blk wr w.heap.size 147 #[.int .i64 0,.int .i64 0,.int .i64 0,.int .i64 0]) (fun ii _=>9 - (intOf ii).toNat)
 case atStart=>exact ⟨1,by omega,by omega,rfl,hb0,bk⟩
 case round =>
  obtain ⟨i,hi1,hi7,rfl,hb,hbk⟩:=hrel
  have HB:=Hd_ hb
  have HBK:=Hd_ hbk
  clear hb hbk hb0 bk
  by_cases hlt:i < 7
  · have hi6:(i:Int)<=6:=by omega
    by_cases h3:i=3
    · subst h3
      go_wp2_with fail
      go_roundw
      case rel=>exact ⟨4,by omega,by omega,rfl,HB.out,HBK.out⟩
      case measure=>simp [intOf]
    · have q3:((i:Int) != 3)=true:=by simp;omega
      have hk:(i:Int)=1 ∨ (i:Int)=2 ∨ (i:Int)=4 ∨ (i:Int)=5 ∨ (i:Int)=6:=by omega
      have HK:=Hd_ hk
      clear hk h3
      go_wp2_with fail
      refine (l8Token_any _ _ HK.out).mono ?_
      rintro e w2 ⟨x,rfl,hb2⟩
      have HB2:=Hd_ (HB.out.trans (hb2.mono HB.out.size))
      have hbk2:=HBK.out.keep hb2
      clear hb2
      cases hx:(x.toList==s.toList)
      · have HBK2:=Hd_ hbk2
        clear hbk2
        go_wp2_with fail
        go_roundw
        case rel=>exact ⟨i+1,by omega,by omega,by go_num,HB2.out,HBK2.out⟩
        case measure=>simp [intOf];omega
      · have hii:True:=trivial
        have z0:w2.cell? ⟨w.heap.size,0,none⟩=some (.int .i64 0):=hbk2.cell 0
        have z1:w2.cell? ⟨w.heap.size,1,none⟩=some (.int .i64 0):=hbk2.cell 1
        have z2:w2.cell? ⟨w.heap.size,2,none⟩=some (.int .i64 0):=hbk2.cell 2
        have z3:w2.cell? ⟨w.heap.size,3,none⟩=some (.int .i64 0):=hbk2.cell 3
        have v0:=hbk2.frozen 0
        have v1:=hbk2.frozen 1
        have v2:=hbk2.frozen 2
        have v3:=hbk2.frozen 3
        have hlr:=hbk2.lt
        clear hbk2
        go_wp2_with fail
        refine bodyPost_ret (v:=.agg #[.int .i64 i,.int .i64 0,.int .i64 0,.int .i64 0]) (by simp [results,Tryz.results122,go_sem,z0,z1,z2,z3,v0,v1,v2,v3,hlr]) rfl ⟨((i:Int),0,0,0),rfl,HB2.out.set4 _ _ _ _⟩
  · have hi6:¬ (i:Int)<=6:=by omega
    go_wp2_with fail
    refine (parseLetter_any s _).mono ?_
    rintro e w2 ⟨n,is,rfl,hb2⟩
    have HB2:=Hd_ (HB.out.trans (hb2.mono HB.out.size))
    have hbk2:=HBK.out.keep hb2
    clear hb2
    have z0:w2.cell? ⟨w.heap.size,0,none⟩=some (.int .i64 0):=hbk2.cell 0
    have z1:w2.cell? ⟨w.heap.size,1,none⟩=some (.int .i64 0):=hbk2.cell 1
    have z2:w2.cell? ⟨w.heap.size,2,none⟩=some (.int .i64 0):=hbk2.cell 2
    have z3:w2.cell? ⟨w.heap.size,3,none⟩=some (.int .i64 0):=hbk2.cell 3
    have v0:=hbk2.frozen 0
    have v1:=hbk2.frozen 1
    have v2:=hbk2.frozen 2
    have v3:=hbk2.frozen 3
    have hlr:=hbk2.lt
    clear hbk2
    cases is
    · by_cases h5:s.size=5
      · have HS5:=Hd_ h5
        have h5d:((s.size:Int)==5)=true:=by simp;omega
        have hb0:0 < s.size:=by omega
        have hb1:(1:Int) < (s.size:Int):=by omega
        have hb2:(2:Int) < (s.size:Int):=by omega
        have hb3:(3:Int) < (s.size:Int):=by omega
        have hb4:(4:Int) < (s.size:Int):=by omega
        clear h5
        go_wp2_with fail
        rotate_left
        · exact bodyPost_ret (v:=.agg #[.int .i64 0,.int .i64 0,.int .i64 0,.int .i64 0]) (by simp [results,Tryz.results122,go_sem,z0,z1,z2,z3,v0,v1,v2,v3,hlr]) rfl ⟨(0,0,0,0),rfl,HB2.out.set4 _ _ _ _⟩
        · exact bodyPost_ret (v:=.agg #[.int .i64 0,.int .i64 0,.int .i64 0,.int .i64 0]) (by simp [results,Tryz.results122,go_sem,z0,z1,z2,z3,v0,v1,v2,v3,hlr]) rfl ⟨(0,0,0,0),rfl,HB2.out.set4 _ _ _ _⟩
        · exact bodyPost_ret (v:=.agg #[.int .i64 0,.int .i64 0,.int .i64 0,.int .i64 0]) (by simp [results,Tryz.results122,go_sem,z0,z1,z2,z3,v0,v1,v2,v3,hlr]) rfl ⟨(0,0,0,0),rfl,HB2.out.set4 _ _ _ _⟩
        go_region
        go_wp2_with fail
        exact bodyPost_ret (v:=.agg #[.int .i64 7,.int .i64 0,.int .i64 (wrap64 (wrap64 ((s[1]'(by omega)).toNat:Int) - 48)),.int .i64 (wrap64 (wrap64 ((s[3]'(by omega)).toNat:Int) - 48))]) (by simp [results,Tryz.results122,go_sem,z0,z1,z2,z3,v0,v1,v2,v3,hlr]) rfl ⟨(7,0,_,_),rfl,(HB2.out.set4 _ _ _ _).drew⟩
      · have h5d:((s.size:Int)==5)=false:=by simp;omega
        go_wp2_with fail
        refine bodyPost_ret (v:=.agg #[.int .i64 0,.int .i64 0,.int .i64 0,.int .i64 0]) (by simp [results,Tryz.results122,go_sem,z0,z1,z2,z3,v0,v1,v2,v3,hlr]) rfl ⟨(0,0,0,0),rfl,HB2.out.set4 _ _ _ _⟩
    · go_wp2_with fail
      refine bodyPost_ret (v:=.agg #[.int .i64 3,.int .i64 n,.int .i64 0,.int .i64 0]) (by simp [results,Tryz.results122,go_sem,z0,z1,z2,z3,v0,v1,v2,v3,hlr]) rfl ⟨(3,n,0,0),rfl,HB2.out.set4 _ _ _ _⟩
theorem tk_done {b r:Nat} {w0 w:World} {v:Value} {l:List Tok} (h:TkV (r+1) w.heap.size w v l) (hc:Cur w b) (ho:Only b (b+1) w0 w) (hr:w0.heap.size=r) (hb:b < r) (u:Value) :
 TkV w0.heap.size (w.setCell ⟨r,0,none⟩ u).heap.size (w.setCell ⟨r,0,none⟩ u) v l/\Cur (w.setCell ⟨r,0,none⟩ u) b/\Only b (b+1) w0 (w.setCell ⟨r,0,none⟩ u):=by
 have hs:=(Only.refl r (r+1) w).setCell (p:=⟨r,0,none⟩) (.inl ⟨Nat.le_refl _,Nat.lt_succ_self _⟩) u
 exact ⟨(h.only hs (Nat.le_refl _) (.inr (Nat.le_refl _))).mono (by omega) hs.size,hc.only hs (by omega),ho.setCell (p:=⟨r,0,none⟩) (.inr (by simp only;omega)) _⟩
set_option maxHeartbeats 8000000 in
theorem l8Make_any (b:Nat):∀ (d:Nat) (w:World),Cur w b->d<=3 ->
 Calls Tryz.prog 99 #[.pointer (some ⟨b,0,none⟩),.int .i64 (d:Int)] w fun e w'=>∃ v l,e=.returned v/\TkV w.heap.size w'.heap.size w' v l/\l.length+1<=2 ^ (d+1)/\Cur w' b/\Only b (b+1) w w':=by
 intro d
 induction d with
 | zero =>
   intro w hc _
   have hlt:=hc.lt
   have hb0:=(Below.refl w.heap.size w).alloc (Nat.le_refl _) (.cells #[.slice none 0 0] 134)
   have hbr:=Blk.new w 134 #[.slice none 0 0] _ rfl
   go_enter Tryz.func99,Tryz.ntmps99
   go_wp2_with fail
   refine (l1Once_any b 12 _ (hc.keep hb0)).mono ?_
   rintro e w1 ⟨r,rfl,hc1,ho1⟩
   have hbr1:=hbr.only ho1 (.inr (by omega))
   have hl1:=hbr1.lt
   have HO1:=Hd_ ((Only.of_below hb0 b (b+1)).trans ho1)
   clear hbr ho1 hb0
   cases r
   · have HSL:=Hd_ (litD_sl w1 3 #[.int .i64 0,.int .i64 0,.int .i64 2,.int .i64 2,.int .i64 1,.int .i64 4,.int .i64 3,.int .i64 6,.int .i64 7] [0,0,2,2,1,4,3,6,7] 9 (b+1) (by omega) (by decide) rfl rfl rfl)
     have HAL:=Hd_ ((Below.refl w1.heap.size w1).alloc (Nat.le_refl _) (.cells #[.int .i64 0,.int .i64 0,.int .i64 2,.int .i64 2,.int .i64 1,.int .i64 4,.int .i64 3,.int .i64 6,.int .i64 7] 3))
     go_wp2_with fail
     refine (l1PickInt_any b _ _ _ (hc1.keep HAL.out) (by decide) HSL.out).mono ?_
     rintro e w2 ⟨k,rfl,-,hc2,ho2⟩
     have hbr2:=(hbr1.keep HAL.out).only ho2 (.inr (by omega))
     have HO2:=Hd_ (HO1.out.trans ((Only.of_below HAL.out b (b+1)).trans ho2))
     have hl2:=hbr2.lt
     clear ho2 hbr1 hc1 HSL HAL
     go_wp2_with fail
     refine (letterExpr_any k _).mono ?_
     rintro e w3 ⟨v,rfl,ht,hb3⟩
     have HB3:=Hd_ (hbr2.keep hb3)
     have HO3:=Hd_ (HO2.out.trans (Only.of_below hb3 b (b+1)))
     have HC3:=Hd_ (hc2.keep hb3)
     have HT3:=Hd_ (ht.view.mono (lo':=w.heap.size+1) (by omega) (Nat.le_refl _))
     clear hbr2 hb3 hc2 ht
     obtain ⟨sx,rfl,hox⟩:=HT3.out
     obtain ⟨AX,nx,cx,rfl⟩:=hox.shape
     have bx:=HB3.out
     have z0:w3.cell? ⟨w.heap.size,0,none⟩=some (.slice none 0 0):=bx.cell 0
     have v0:=bx.frozen 0
     have hlr:=bx.lt
     clear bx hox
     go_wp2_with fail
     have HD:=tk_done HT3.out HC3.out HO3.out rfl hlt (.slice AX nx cx)
     refine bodyPost_ret (v:=.agg #[.slice AX nx cx]) (by simp [results,Tryz.results99,go_sem,z0,v0,hlr]) rfl ⟨_,_,rfl,HD.1,by simp,HD.2.1,HD.2.2⟩
   · have HSL:=Hd_ (litD_sl w1 3 #[.int .i64 1,.int .i64 2] [1,2] 2 (b+1) (by omega) (by decide) rfl rfl rfl)
     have HAL:=Hd_ ((Below.refl w1.heap.size w1).alloc (Nat.le_refl _) (.cells #[.int .i64 1,.int .i64 2] 3))
     go_wp2_with fail
     refine (l1PickInt_any b _ _ _ (hc1.keep HAL.out) (by decide) HSL.out).mono ?_
     rintro e w2 ⟨k,rfl,-,hc2,ho2⟩
     have hbr2:=(hbr1.keep HAL.out).only ho2 (.inr (by omega))
     have HO2:=Hd_ (HO1.out.trans ((Only.of_below HAL.out b (b+1)).trans ho2))
     have hl2:=hbr2.lt
     clear ho2 hbr1 hc1 HSL HAL
     go_wp2_with fail
     refine (l8Leaf_any k _).mono ?_
     rintro e w3 ⟨v,rfl,ht,hb3⟩
     have HB3:=Hd_ (hbr2.keep hb3)
     have HO3:=Hd_ (HO2.out.trans (Only.of_below hb3 b (b+1)))
     have HC3:=Hd_ (hc2.keep hb3)
     have HT3:=Hd_ (ht.view.mono (lo':=w.heap.size+1) (by omega) (Nat.le_refl _))
     clear hbr2 hb3 hc2 ht
     obtain ⟨sx,rfl,hox⟩:=HT3.out
     obtain ⟨AX,nx,cx,rfl⟩:=hox.shape
     have bx:=HB3.out
     have z0:w3.cell? ⟨w.heap.size,0,none⟩=some (.slice none 0 0):=bx.cell 0
     have v0:=bx.frozen 0
     have hlr:=bx.lt
     clear bx hox
     go_wp2_with fail
     have HD:=tk_done HT3.out HC3.out HO3.out rfl hlt (.slice AX nx cx)
     refine bodyPost_ret (v:=.agg #[.slice AX nx cx]) (by simp [results,Tryz.results99,go_sem,z0,v0,hlr]) rfl ⟨_,_,rfl,HD.1,by simp,HD.2.1,HD.2.2⟩
 | succ d ih =>
   intro w hc hd3
   have hlt:=hc.lt
   have hpw:(2:Nat) ^ (d+1+1)=2 * 2 ^ (d+1):=by rw [Nat.pow_succ];omega
   have hp8:(2:Nat) ^ (d+1)<=8:=Nat.le_trans (Nat.pow_le_pow_right (by decide) (show d+1<=3 by omega)) (by decide)
   have hb0:=(Below.refl w.heap.size w).alloc (Nat.le_refl _) (.cells #[.slice none 0 0] 134)
   have hbr:=Blk.new w 134 #[.slice none 0 0] _ rfl
   have hds:((d:Int)+1==0)=false:=by simp;omega
   rw [hpw]
   generalize (2:Nat) ^ (d+1)=P at *
   clear hpw
   go_enter Tryz.func99,Tryz.ntmps99
   go_wp2_with fail
   refine (l1Below_any b 6 _ (hc.keep hb0)).mono ?_
   rintro e w1 ⟨t,rfl,-,hc1,ho1⟩
   have hbr1:=hbr.only ho1 (.inr (by omega))
   have hl1:=hbr1.lt
   have HB1:=Hd_ hbr1
   have HC1:=Hd_ hc1
   have HO1:=Hd_ ((Only.of_below hb0 b (b+1)).trans ho1)
   clear hbr ho1 hb0 hds hbr1 hc1 hc
   by_cases ht0:t=0
   · subst ht0
     go_wp2_with fail
     refine (ih _ HC1.out (by omega)).mono ?_
     rintro e w2 ⟨v2,l2,rfl,h2,hn2,hc2,ho2⟩
     have HB2:=Hd_ (HB1.out.only ho2 (.inr (by omega)))
     have HO2:=Hd_ (HO1.out.trans ho2)
     have H2:=Hd_ h2
     have HC2:=Hd_ hc2
     have hz2:=ho2.size
     clear h2 hc2 ho2
     go_wp2_with fail
     refine (ih _ HC2.out (by omega)).mono ?_
     rintro e w3 ⟨v3,l3,rfl,h3,hn3,hc3,ho3⟩
     have HB3:=Hd_ (HB2.out.only ho3 (.inr (by omega)))
     have HO3:=Hd_ (HO2.out.trans ho3)
     have H23:=Hd_ (((H2.out.only ho3 (Nat.le_refl _) (.inr (by omega))).mono (Nat.zero_le _) ho3.size))
     have H3:=Hd_ (h3.mono (Nat.zero_le _) (Nat.le_refl _))
     have HC3:=Hd_ hc3
     have hz3:=ho3.size
     clear h3 hc3 ho3 H2
     go_wp2_with fail
     refine (l8Join_any _ _ l2 l3 (4,0,0,0) _ H23.out H3.out (by omega) (by omega)).mono ?_
     rintro e w4 ⟨v4,rfl,h4,hb4⟩
     have HB4:=Hd_ (HB3.out.keep hb4)
     have HO4:=Hd_ (HO3.out.trans (Only.of_below hb4 b (b+1)))
     have HC4:=Hd_ (HC3.out.keep hb4)
     have H4:=Hd_ (h4.view.mono (lo':=w.heap.size+1) (by omega) (Nat.le_refl _))
     clear h4 hb4
     obtain ⟨sx,rfl,hox⟩:=H4.out
     obtain ⟨AX,nx,cx,rfl⟩:=hox.shape
     have bx:=HB4.out
     have z0:w4.cell? ⟨w.heap.size,0,none⟩=some (.slice none 0 0):=bx.cell 0
     have v0:=bx.frozen 0
     have hlr:=bx.lt
     clear bx hox
     go_wp2_with fail
     have HD:=tk_done H4.out HC4.out HO4.out rfl hlt (.slice AX nx cx)
     refine bodyPost_ret (v:=.agg #[.slice AX nx cx]) (by simp [results,Tryz.results99,go_sem,z0,v0,hlr]) rfl ⟨_,_,rfl,HD.1,by simp;omega,HD.2.1,HD.2.2⟩
   have hd0:(t==0)=false:=by simpa using ht0
   by_cases ht1:t=1
   · subst ht1
     go_wp2_with fail
     refine (ih _ HC1.out (by omega)).mono ?_
     rintro e w2 ⟨v2,l2,rfl,h2,hn2,hc2,ho2⟩
     have HB2:=Hd_ (HB1.out.only ho2 (.inr (by omega)))
     have HO2:=Hd_ (HO1.out.trans ho2)
     have H2:=Hd_ h2
     have HC2:=Hd_ hc2
     have hz2:=ho2.size
     clear h2 hc2 ho2
     go_wp2_with fail
     refine (ih _ HC2.out (by omega)).mono ?_
     rintro e w3 ⟨v3,l3,rfl,h3,hn3,hc3,ho3⟩
     have HB3:=Hd_ (HB2.out.only ho3 (.inr (by omega)))
     have HO3:=Hd_ (HO2.out.trans ho3)
     have H23:=Hd_ (((H2.out.only ho3 (Nat.le_refl _) (.inr (by omega))).mono (Nat.zero_le _) ho3.size))
     have H3:=Hd_ (h3.mono (Nat.zero_le _) (Nat.le_refl _))
     have HC3:=Hd_ hc3
     have hz3:=ho3.size
     clear h3 hc3 ho3 H2
     go_wp2_with fail
     refine (l8Join_any _ _ l2 l3 (4,0,0,0) _ H23.out H3.out (by omega) (by omega)).mono ?_
     rintro e w4 ⟨v4,rfl,h4,hb4⟩
     have HB4:=Hd_ (HB3.out.keep hb4)
     have HO4:=Hd_ (HO3.out.trans (Only.of_below hb4 b (b+1)))
     have HC4:=Hd_ (HC3.out.keep hb4)
     have H4:=Hd_ (h4.view.mono (lo':=w.heap.size+1) (by omega) (Nat.le_refl _))
     clear h4 hb4
     obtain ⟨sx,rfl,hox⟩:=H4.out
     obtain ⟨AX,nx,cx,rfl⟩:=hox.shape
     have bx:=HB4.out
     have z0:w4.cell? ⟨w.heap.size,0,none⟩=some (.slice none 0 0):=bx.cell 0
     have v0:=bx.frozen 0
     have hlr:=bx.lt
     clear bx hox
     go_wp2_with fail
     have HD:=tk_done H4.out HC4.out HO4.out rfl hlt (.slice AX nx cx)
     refine bodyPost_ret (v:=.agg #[.slice AX nx cx]) (by simp [results,Tryz.results99,go_sem,z0,v0,hlr]) rfl ⟨_,_,rfl,HD.1,by simp;omega,HD.2.1,HD.2.2⟩
   have hd1:(t==1)=false:=by simpa using ht1
   by_cases ht2:t=2
   · subst ht2
     go_wp2_with fail
     refine (ih _ HC1.out (by omega)).mono ?_
     rintro e w2 ⟨v2,l2,rfl,h2,hn2,hc2,ho2⟩
     have HB2:=Hd_ (HB1.out.only ho2 (.inr (by omega)))
     have HO2:=Hd_ (HO1.out.trans ho2)
     have H2:=Hd_ h2
     have HC2:=Hd_ hc2
     have hz2:=ho2.size
     clear h2 hc2 ho2
     go_wp2_with fail
     refine (ih _ HC2.out (by omega)).mono ?_
     rintro e w3 ⟨v3,l3,rfl,h3,hn3,hc3,ho3⟩
     have HB3:=Hd_ (HB2.out.only ho3 (.inr (by omega)))
     have HO3:=Hd_ (HO2.out.trans ho3)
     have H23:=Hd_ (((H2.out.only ho3 (Nat.le_refl _) (.inr (by omega))).mono (Nat.zero_le _) ho3.size))
     have H3:=Hd_ (h3.mono (Nat.zero_le _) (Nat.le_refl _))
     have HC3:=Hd_ hc3
     have hz3:=ho3.size
     clear h3 hc3 ho3 H2
     go_wp2_with fail
     refine (l8Join_any _ _ l2 l3 (5,0,0,0) _ H23.out H3.out (by omega) (by omega)).mono ?_
     rintro e w4 ⟨v4,rfl,h4,hb4⟩
     have HB4:=Hd_ (HB3.out.keep hb4)
     have HO4:=Hd_ (HO3.out.trans (Only.of_below hb4 b (b+1)))
     have HC4:=Hd_ (HC3.out.keep hb4)
     have H4:=Hd_ (h4.view.mono (lo':=w.heap.size+1) (by omega) (Nat.le_refl _))
     clear h4 hb4
     obtain ⟨sx,rfl,hox⟩:=H4.out
     obtain ⟨AX,nx,cx,rfl⟩:=hox.shape
     have bx:=HB4.out
     have z0:w4.cell? ⟨w.heap.size,0,none⟩=some (.slice none 0 0):=bx.cell 0
     have v0:=bx.frozen 0
     have hlr:=bx.lt
     clear bx hox
     go_wp2_with fail
     have HD:=tk_done H4.out HC4.out HO4.out rfl hlt (.slice AX nx cx)
     refine bodyPost_ret (v:=.agg #[.slice AX nx cx]) (by simp [results,Tryz.results99,go_sem,z0,v0,hlr]) rfl ⟨_,_,rfl,HD.1,by simp;omega,HD.2.1,HD.2.2⟩
   have hd2:(t==2)=false:=by simpa using ht2
   by_cases ht3:t=3
   · subst ht3
     go_wp2_with fail
     refine (ih _ HC1.out (by omega)).mono ?_
     rintro e w2 ⟨v2,l2,rfl,h2,hn2,hc2,ho2⟩
     have HB2:=Hd_ (HB1.out.only ho2 (.inr (by omega)))
     have HO2:=Hd_ (HO1.out.trans ho2)
     have H2:=Hd_ h2
     have HC2:=Hd_ hc2
     have hz2:=ho2.size
     clear h2 hc2 ho2
     go_wp2_with fail
     refine (ih _ HC2.out (by omega)).mono ?_
     rintro e w3 ⟨v3,l3,rfl,h3,hn3,hc3,ho3⟩
     have HB3:=Hd_ (HB2.out.only ho3 (.inr (by omega)))
     have HO3:=Hd_ (HO2.out.trans ho3)
     have H23:=Hd_ (((H2.out.only ho3 (Nat.le_refl _) (.inr (by omega))).mono (Nat.zero_le _) ho3.size))
     have H3:=Hd_ (h3.mono (Nat.zero_le _) (Nat.le_refl _))
     have HC3:=Hd_ hc3
     have hz3:=ho3.size
     clear h3 hc3 ho3 H2
     go_wp2_with fail
     refine (l8Join_any _ _ l2 l3 (5,0,0,0) _ H23.out H3.out (by omega) (by omega)).mono ?_
     rintro e w4 ⟨v4,rfl,h4,hb4⟩
     have HB4:=Hd_ (HB3.out.keep hb4)
     have HO4:=Hd_ (HO3.out.trans (Only.of_below hb4 b (b+1)))
     have HC4:=Hd_ (HC3.out.keep hb4)
     have H4:=Hd_ (h4.view.mono (lo':=w.heap.size+1) (by omega) (Nat.le_refl _))
     clear h4 hb4
     obtain ⟨sx,rfl,hox⟩:=H4.out
     obtain ⟨AX,nx,cx,rfl⟩:=hox.shape
     have bx:=HB4.out
     have z0:w4.cell? ⟨w.heap.size,0,none⟩=some (.slice none 0 0):=bx.cell 0
     have v0:=bx.frozen 0
     have hlr:=bx.lt
     clear bx hox
     go_wp2_with fail
     have HD:=tk_done H4.out HC4.out HO4.out rfl hlt (.slice AX nx cx)
     refine bodyPost_ret (v:=.agg #[.slice AX nx cx]) (by simp [results,Tryz.results99,go_sem,z0,v0,hlr]) rfl ⟨_,_,rfl,HD.1,by simp;omega,HD.2.1,HD.2.2⟩
   have hdd3:(t==3)=false:=by simpa using ht3
   by_cases ht4:t=4
   · subst ht4
     go_wp2_with fail
     refine (ih _ HC1.out (by omega)).mono ?_
     rintro e w2 ⟨v2,l2,rfl,h2,hn2,hc2,ho2⟩
     have HB2:=Hd_ (HB1.out.only ho2 (.inr (by omega)))
     have HO2:=Hd_ (HO1.out.trans ho2)
     have H2:=Hd_ (h2.mono (Nat.zero_le _) (Nat.le_refl _))
     have HC2:=Hd_ hc2
     have hz2:=ho2.size
     clear h2 hc2 ho2
     go_wp2_with fail
     refine (l8Join_any _ _ l2 [] (6,0,0,0) _ H2.out (TkV.nil _ _ _) (by omega) (by simp)).mono ?_
     rintro e w4 ⟨v4,rfl,h4,hb4⟩
     have HB4:=Hd_ (HB2.out.keep hb4)
     have HO4:=Hd_ (HO2.out.trans (Only.of_below hb4 b (b+1)))
     have HC4:=Hd_ (HC2.out.keep hb4)
     have H4:=Hd_ (h4.view.mono (lo':=w.heap.size+1) (by omega) (Nat.le_refl _))
     clear h4 hb4
     obtain ⟨sx,rfl,hox⟩:=H4.out
     obtain ⟨AX,nx,cx,rfl⟩:=hox.shape
     have bx:=HB4.out
     have z0:w4.cell? ⟨w.heap.size,0,none⟩=some (.slice none 0 0):=bx.cell 0
     have v0:=bx.frozen 0
     have hlr:=bx.lt
     clear bx hox
     go_wp2_with fail
     have HD:=tk_done H4.out HC4.out HO4.out rfl hlt (.slice AX nx cx)
     refine bodyPost_ret (v:=.agg #[.slice AX nx cx]) (by simp [results,Tryz.results99,go_sem,z0,v0,hlr]) rfl ⟨_,_,rfl,HD.1,by simp;omega,HD.2.1,HD.2.2⟩
   have hd4:(t==4)=false:=by simpa using ht4
   clear ht0 ht1 ht2 ht3 ht4
   go_wp2_with fail
   refine (l1Below_any b 3 _ HC1.out).mono ?_
   rintro e w5 ⟨h,rfl,⟨hh0,-,hh1⟩,hc5,ho5⟩
   have hh1:=hh1 (by omega)
   have HB5:=Hd_ (HB1.out.only ho5 (.inr (by omega)))
   have HO5:=Hd_ (HO1.out.trans ho5)
   have HC5:=Hd_ hc5
   have hz5:=ho5.size
   clear hc5 ho5 hd0 hd1 hd2 hdd3 hd4
   go_wp2_with fail
   refine (ih _ HC5.out (by omega)).mono ?_
   rintro e w2 ⟨v2,l2,rfl,h2,hn2,hc2,ho2⟩
   have HB2:=Hd_ (HB5.out.only ho2 (.inr (by omega)))
   have HO2:=Hd_ (HO5.out.trans ho2)
   have H2:=Hd_ h2
   have HC2:=Hd_ hc2
   have hz2:=ho2.size
   clear h2 hc2 ho2
   go_wp2_with fail
   refine (l1Below_any b _ _ HC2.out).mono ?_
   rintro e w3 ⟨lo,rfl,-,hc3,ho3⟩
   have HB3:=Hd_ (HB2.out.only ho3 (.inr (by omega)))
   have HO3:=Hd_ (HO2.out.trans ho3)
   have H23:=Hd_ (((H2.out.only ho3 (Nat.le_refl _) (.inr (by omega))).mono (Nat.zero_le _) ho3.size))
   have HC3:=Hd_ hc3
   have hz3:=ho3.size
   clear hc3 ho3 H2
   go_wp2_with fail
   refine (l8Join_any _ _ l2 [] (7,0,lo,1+h) _ H23.out (TkV.nil _ _ _) (by omega) (by simp)).mono ?_
   rintro e w4 ⟨v4,rfl,h4,hb4⟩
   have HB4:=Hd_ (HB3.out.keep hb4)
   have HO4:=Hd_ (HO3.out.trans (Only.of_below hb4 b (b+1)))
   have HC4:=Hd_ (HC3.out.keep hb4)
   have H4:=Hd_ (h4.view.mono (lo':=w.heap.size+1) (by omega) (Nat.le_refl _))
   clear h4 hb4
   obtain ⟨sx,rfl,hox⟩:=H4.out
   obtain ⟨AX,nx,cx,rfl⟩:=hox.shape
   have bx:=HB4.out
   have z0:w4.cell? ⟨w.heap.size,0,none⟩=some (.slice none 0 0):=bx.cell 0
   have v0:=bx.frozen 0
   have hlr:=bx.lt
   clear bx hox
   go_wp2_with fail
   have HD:=tk_done H4.out HC4.out HO4.out rfl hlt (.slice AX nx cx)
   refine bodyPost_ret (v:=.agg #[.slice AX nx cx]) (by simp [results,Tryz.results99,go_sem,z0,v0,hlr]) rfl ⟨_,_,rfl,HD.1,by simp;omega,HD.2.1,HD.2.2⟩
end Go.Proofs.YteaplabkemoenaaGreat
