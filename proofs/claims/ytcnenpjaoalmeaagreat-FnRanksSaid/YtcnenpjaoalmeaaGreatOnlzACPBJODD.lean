/- Parts of the proof, joined into one text: NthS, WalksI, NthSS. -/
import Derived.Test.YtcnenpjaoalmeaaGreatOnlzRNBKAKGD
import Derived.Test.YtcnenpjaoalmeaaGreatOnlzLFBGJJGP
import Derived.Test.YtcnenpjaoalmeaaGreatOnlzIELAFJOL
import Derived.Test.YtcnenpjaoalmeaaGreatOnlzPFBPAMGP
import Derived.Test.YtcnenpjaoalmeaaGreatOnlzAMFEKBDB
set_option linter.unusedVariables false
set_option linter.unusedSimpArgs false
namespace Go.Proofs.YtcnenpjaoalmeaaGreat
open Go.ChangeShapes Go.WideShapes Go.ChangeAt Go.RowKit
attribute [local go_sem] ext_cell ext_frozen ext_lt ext_lt1 ext_lt2 ext_lt3 ltn2 ltn3 ltn13 lts1 lts2 lts3
theorem RowR.pickF {g:Gr} {a:Au} {y:Int} {f x s:Nat} {N:List Key} {C:Nat->Nat} (hC:∀ i k,N[i]?=some k->C i=cw g a y f k.1 k.2) {l:List Arc} {T:List (St × Nat)} (h:RowR g a x s N l T) :
 ∀ n,(Go.Proofs.YtcnenpjaoalmeaaGreat.pick (fun e:St × Nat=>C e.2) T n=none/\Go.Proofs.YtcnenpjaoalmeaaGreat.pick (cwAt g a y f x s) l n=none) ∨
   ∃ p i n',Go.Proofs.YtcnenpjaoalmeaaGreat.pick (fun e:St × Nat=>C e.2) T n=some ((p.1,i),n')/\Go.Proofs.YtcnenpjaoalmeaaGreat.pick (cwAt g a y f x s) l n=some (p,n')/\N[i]?=some (p.2.2.toNat,aft a s (valAt g x) p.2.1.toNat)/\p ∈ l:=by
 induction h with
 | nil=>intro n;exact .inl ⟨rfl,rfl⟩
 | @skip p0 l0 T0 h1 _ ih =>
   intro n
   have hz:¬ n < cwAt g a y f x s p0:=by rw [cwAt,h1,cw_none];omega
   have hz2:n - cwAt g a y f x s p0=n:=by rw [cwAt,h1,cw_none];omega
   rcases ih n with ⟨e1,e2⟩ | ⟨p,i,n',e1,e2,e3,e4⟩
   · exact .inl ⟨e1,by rw [Go.Proofs.YtcnenpjaoalmeaaGreat.pick,if_neg hz,hz2,e2]⟩
   · exact .inr ⟨p,i,n',e1,by rw [Go.Proofs.YtcnenpjaoalmeaaGreat.pick,if_neg hz,hz2,e2],e3,List.mem_cons_of_mem _ e4⟩
 | @take p l T i h1 h2 _ ih =>
   intro n
   have hc:C i=cwAt g a y f x s p:=hC _ _ h2
   by_cases hn:n < cwAt g a y f x s p
   · exact .inr ⟨p,i,n,by rw [Go.Proofs.YtcnenpjaoalmeaaGreat.pick,if_pos (by rw [hc];exact hn)],by rw [Go.Proofs.YtcnenpjaoalmeaaGreat.pick,if_pos hn],h2,List.mem_cons_self ..⟩
   · rcases ih (n - cwAt g a y f x s p) with ⟨e1,e2⟩ | ⟨p',i',n',e1,e2,e3,e4⟩
     · exact .inl ⟨by rw [Go.Proofs.YtcnenpjaoalmeaaGreat.pick,if_neg (by rw [hc];exact hn)];simp only [hc];exact e1,by rw [Go.Proofs.YtcnenpjaoalmeaaGreat.pick,if_neg hn,e2]⟩
     · exact .inr ⟨p',i',n',by rw [Go.Proofs.YtcnenpjaoalmeaaGreat.pick,if_neg (by rw [hc];exact hn)];simp only [hc];exact e1,by rw [Go.Proofs.YtcnenpjaoalmeaaGreat.pick,if_neg hn,e2],e3,List.mem_cons_of_mem _ e4⟩
theorem LaysV.rows {g:Gr} {a:Au} {y:Int} {k0:Key} {n lo:Nat} {w:World} {v:Value} (h:LaysV g a y k0 n lo w v):∃ (b o c:Nat),v=.slice (some ⟨b,o,none⟩) (n+1) c/\b < w.heap.size/\∀ d,d<=n->∃ (gd cd:Nat) (zs:List Zr),w.cell? ⟨b,o+d,none⟩=some (.slice (some ⟨gd,0,none⟩) (layN g a k0 d).length cd)/\LayV lo w.heap.size w gd cd (layN g a k0 d) (layC g a y k0 n d) (layTn g a k0 n d) zs:=by
 obtain ⟨A,c,rfl,-,-,h⟩:=h
 obtain ⟨b,o,gd,cd,zs,rfl,hb,-,-⟩:=h 0 (Nat.zero_le _)
 refine ⟨b,o,c,rfl,hb,fun d hd=>?_⟩
 obtain ⟨b',o',gd',cd',zs',he,-,hc',hl'⟩:=h d hd
 injection he with he
 injection he with e1 e2
 subst e1 e2
 exact ⟨gd',cd',zs',hc',hl'⟩
/-- the row of a key: what is picked there, and what follows -/
theorem nthRow {g:Gr} {a:Au} {y:Int} {k0:Key} {n d i m:Nat} {k:Key} (hk:(layN g a k0 d)[i]?=some k) (hd:d < n) (hm:m < cw g a y (n - d) k.1 k.2) :
 ∃ st i2 m2 k2,pick (fun e:St × Nat=>layC g a y k0 n (d+1) e.2) (layT g a k0 d i) m=some ((st,i2),m2)/\(layN g a k0 (d+1))[i2]?=some k2/\m2 < cw g a y (n - (d+1)) k2.1 k2.2/\nthL g a y (n - d) k.1 k.2 m=st :: nthL g a y (n - (d+1)) k2.1 k2.2 m2:=by
 obtain ⟨f,hf⟩:∃ f,n - d=f+1:=⟨n - d - 1,by omega⟩
 have hf2:n - (d+1)=f:=by omega
 rw [hf] at hm ⊢
 rw [hf2]
 obtain ⟨p,m2,e1,e2,e3⟩:=pick_cw hm
 rcases (layT_row hk).pickF (C:=layC g a y k0 n (d+1)) (y:=y) (f:=f) (fun j q hq=>by rw [layC_at hq,hf2]) m with ⟨h1,h2⟩ | ⟨p',i2,m',h1,h2,h3,h4⟩
 · rw [e1] at h2;cases h2
 · rw [e1] at h2
   injection h2 with h2
   injection h2 with h2 h5
   subst h2 h5
   exact ⟨p.1,i2,m2,_,h1,h3,e2,nthL_succ e1⟩
set_option maxHeartbeats 8000000 in
set_option maxRecDepth 100000 in
theorem l19Nth_any (g:Gr) (a:Au) (y:Int) (k0:Key) (n lo:Nat) (v:Value) (x m:Int) (w:World) (hl:LaysV g a y k0 n lo w v) (hgo:grOk g=true) (ha:auOk a=true) (hk0:k0.1 < g.vals.length/\k0.2 < 2 ^ a.accept.length) (hn:n<=60) :
 Calls Tryz.prog 44 #[v,.int .i64 x,.int .i64 m] w fun e w'=>∃ v',e=.returned (.tuple #[v',.bool (wi m 0 ((cw g a y n k0.1 k0.2:Nat) - 1))])/\WkO w.heap.size w'.heap.size w' v' (if wi m 0 ((cw g a y n k0.1 k0.2:Nat) - 1)=true then (x,nthL g a y n k0.1 k0.2 m.toNat) else (0,[]))/\Below w.heap.size w w':=by
 obtain ⟨bL,oL,cL,rfl,lb,hrows⟩:=hl.rows
 have HLO:=Hd_ (fun d=>(layN_ok (grOk_iff.1 hgo) ha hk0 d).len (grOk_iff.1 hgo) ha)
 obtain ⟨g0,cd0,zs0,r0,hl0⟩:=hrows 0 (Nat.zero_le _)
 obtain ⟨z,-,-,-,-,-,-,-,r2,-,-⟩:=hl0.get (i:=0) (k:=k0) rfl
 rw [layC_at (i:=0) (k:=k0) rfl,Nat.sub_zero] at r2
 have lg:=hl0.lt
 replace r0:w.cell? ⟨bL,oL,none⟩=some (.slice (some ⟨g0,0,none⟩) 1 cd0):=by simpa [layN] using r0
 replace r2:w.cell? ⟨g0,2,none⟩=some (.int .i64 (cw g a y n k0.1 k0.2:Nat)):=by simpa using r2
 obtain ⟨C,hC⟩:∃ C,C=cw g a y n k0.1 k0.2:=⟨_,rfl⟩
 have hcle:C<=1000000:=by rw [hC];exact cw_le ..
 rw [<- hC] at r2 ⊢
 have HC:=Hd_ hC
 have HROWS:=Hd_ hrows
 have HIN:=Hd_ (fun W=>l1In_any m 0 ((C:Int) - 1) W)
 have hb0:Below w.heap.size w (w.alloc (.cells #[.int .i64 0,.slice none 0 0] 36)):=(Below.refl _ _).alloc (Nat.le_refl _) _
 have hbR:=Blk.new w 36 #[.int .i64 0,.slice none 0 0] w.heap.size rfl
 have HB0:=Hd_ hb0
 have HBR:=Hd_ hbR
 have hn1:(0:Int) < (n:Int)+1:=by omega
 obtain ⟨B,hB⟩:∃ B,B=wi m 0 ((C:Int) - 1):=⟨_,rfl⟩
 obtain ⟨RR,hRR⟩:∃ RR:Wk,RR=if B=true then (x,nthL g a y n k0.1 k0.2 m.toNat) else (0,[]):=⟨_,rfl⟩
 rw [<- hB] at HIN ⊢
 rw [<- hRR]
 have HGO:=Hd_ hgo
 clear hl hl0 hrows hgo ha hk0 hC hb0 hbR
 cases B with
 | false =>
   have HF:=Hd_ (show RR=(0,[]) from hRR)
   clear hRR hB
   have qc:IntKind.i64.wrap ((C:Int) - 1)=(C:Int) - 1:=IntWalk.i64_in _ (by omega)
   go_enter Tryz.func44,Tryz.ntmps44
   go_wp2_with fail
   clear qc
   refine (HIN.out _).mono ?_
   rintro e w9 ⟨rfl,hw9⟩
   rw [hw9]
   clear hw9
   have bR:=HBR.out
   have q0:=bR.cell 0
   have q1:=bR.cell 1
   have fr0:=bR.frozen 0
   have fr1:=bR.frozen 1
   have lr:=bR.lt
   clear bR
   go_wp2_with fail
   refine bodyPost_ret (v:=.tuple #[.agg #[.int .i64 0,.slice none 0 0],.bool false]) (by simp [results,Tryz.results44,go_sem,q0,q1]) rfl ⟨_,rfl,?_,HB0.out⟩
   rw [HF.out]
   exact ⟨_,rfl,Own.nil _ _ _ _ _ _⟩
 | true =>
   have hwi:=wi_iff.1 hB.symm
   obtain ⟨m,rfl⟩:=Int.eq_ofNat_of_zero_le hwi.1
   have hm:m < C:=by omega
   obtain ⟨SS,hSS⟩:∃ SS,SS=nthL g a y n k0.1 k0.2 m:=⟨_,rfl⟩
   have HF:=Hd_ (show RR=(x,SS) from by rw [hRR,if_pos rfl,hSS,Int.toNat_natCast])
   have HSS:=Hd_ hSS
   have HM:=Hd_ (show m < cw g a y n k0.1 k0.2 by rw [<- HC.out];exact hm)
   clear hRR hB hSS hwi
   have qc:IntKind.i64.wrap ((C:Int) - 1)=(C:Int) - 1:=IntWalk.i64_in _ (by omega)
   go_enter Tryz.func44,Tryz.ntmps44
   go_wp2_with fail
   clear qc
   refine (HIN.out _).mono ?_
   rintro e w9 ⟨rfl,hw9⟩
   rw [hw9]
   clear hw9
   go_wp2_with fail
   clear r0 r2
   have HB1:=Hd_ (HB0.out.alloc (by simp) (.cells #[.int .i64 x,.slice none 0 0] 36))
   have HBR1:=Hd_ (HBR.out.alloc (.cells #[.int .i64 x,.slice none 0 0] 36))
   have HBW1:=Hd_ (Blk.new (w.alloc (.cells #[.int .i64 0,.slice none 0 0] 36)) 36 #[.int .i64 x,.slice none 0 0] (w.heap.size+1) (by simp))
   go_wp2_with fail
   go_loopw [2,9,10] (fun nn aa dd wr=>∃ (d i n':Nat) (k:Key) (O:List St) (oo:Value),nn=.int .i64 (n':Int)/\aa=.int .i64 (i:Int)/\dd=.int .i64 (d:Int)/\d<=n/\(layN g a k0 d)[i]?=some k/\n' < cw g a y (n - d) k.1 k.2/\O ++ nthL g a y (n - d) k.1 k.2 n'=SS/\O.length=d /\
    Blk wr w.heap.size 36 #[.int .i64 0,.slice none 0 0]/\Blk wr (w.heap.size+1) 36 #[.int .i64 x,oo]/\wr.ownsRow (w.heap.size+1+1) 74 2 oo O.length (O.flatMap cSt)/\Below w.heap.size w wr) (fun _ _ dd _=>n - (intOf dd).toNat)
   case atStart=>exact ⟨0,0,m,k0,[],_,rfl,rfl,rfl,Nat.zero_le _,rfl,HM.out,HSS.out.symm,rfl,HBR1.out,HBW1.out,World.ownsRow_nil _ _ _ _,HB1.out⟩
   case round =>
    clear HB0 HBR HB1 HBR1 HBW1
    obtain ⟨d,i,n',k,O,oo,rfl,rfl,rfl,hd,hk,hn',hO,hOl,hbr,hbw,hrow,hbel⟩:=hrel
    have lw0:=hbr.lt
    have lw1:=hbw.lt
    have hszw:=hbel.size
    by_cases hdn:d < n
    · obtain ⟨st,i2,n2,k2,hp,hk2,hn2,hO2⟩:=nthRow hk hdn hn'
      obtain ⟨gd,cd,zs,h0,hld⟩:=HROWS.out d hd
      obtain ⟨gd1,cd1,zs1,h1,hl1⟩:=HROWS.out (d+1) hdn
      obtain ⟨z,hz,hz1,hz2,hz3,hz4,d0,d1,d2,d3,d4⟩:=hld.get hk
      rw [layTn_lt hdn] at hz4
      have hTin:=(layT_row hk).to_lt
      have hTl:=Nat.le_trans (layT_row hk).len (arcs_len (grOk_iff.1 HGO.out) _)
      obtain ⟨F,hF⟩:∃ F:Nat->Nat,F=layC g a y k0 n (d+1):=⟨_,rfl⟩
      obtain ⟨TT,hTT⟩:∃ TT,TT=layT g a k0 d i:=⟨_,rfl⟩
      rw [<- hF] at hp hl1
      rw [<- hTT] at hp hz4 hTin hTl
      have hFle:∀ j,F j<=1000000:=fun j=>by rw [hF];exact layC_le ..
      have hn'l:n'<=1000000:=by have:=cw_le g a y (n - d) k.1 k.2;omega
      have hosv:=hz4.1
      have hotv:=hz4.2
      have hil:=(List.getElem?_eq_some_iff.1 hk).1
      have hl20:=HLO.out d
      have hl21:=HLO.out (d+1)
      obtain ⟨L0,hL0⟩:∃ L0,L0=(layN g a k0 d).length:=⟨_,rfl⟩
      obtain ⟨L1,hL1⟩:∃ L1,L1=(layN g a k0 (d+1)).length:=⟨_,rfl⟩
      rw [<- hL0] at h0 hil hl20
      rw [<- hL1] at h1 hTin hl21
      have HL1:=Hd_ hl1
      have HL1E:=Hd_ hL1
      have HO2:=Hd_ (show (O ++ [st]) ++ nthL g a y (n - (d+1)) k2.1 k2.2 n2=SS by rw [<- hO,hO2,List.append_assoc];rfl)
      have HK2:=Hd_ hk2
      have HN2:=Hd_ hn2
      have HP:=Hd_ hp
      have HTIN:=Hd_ hTin
      have HFLE:=Hd_ hFle
      clear hz hz1 hz2 hz3 hz4 hl1 hL0 hL1 hF hTT hp hk2 hn2 hO2 hTin hFle hk hO hn'
      obtain ⟨z0,z1,z2,sv,tv⟩:=z
      simp only at d3 d4 hosv hotv
      obtain ⟨As,cs,rfl,hls,hms,hCs⟩:=hosv.form cSt_len
      obtain ⟨At,ct,rfl,hlt1,hmt,hCt⟩:=hotv.form cN_len
      rw [List.length_map] at hls hosv hlt1 hotv d3 d4
      have HCS:=Hd_ hCs
      have HCT:=Hd_ hCt
      have hgd:=hld.lt
      have h0:=kcell hbel h0
      have d0:=kcell hbel d0
      have d1:=kcell hbel d1
      have d2:=kcell hbel d2
      have d3:=kcell hbel d3
      have d4:=kcell hbel d4
      have HH1:=Hd_ h1
      clear hCs hCt hosv hotv hld h1
      have hd1:(d:Int) < (n:Int)+1:=by omega
      have hdn2:(d:Int) < (n:Int):=by omega
      have hii:(i:Int) < (L0:Int):=by omega
      obtain ⟨wo,hwo⟩:∃ wo:World,wo=wr:=⟨_,rfl⟩
      rw [<- hwo] at hbr hbw hrow hbel lw0 lw1 hszw h0 d0 d1 d2 d3 d4 ⊢
      clear hwo
      have HBR:=Hd_ hbr
      have HBW:=Hd_ hbw
      have HROW:=Hd_ hrow
      have HBEL:=Hd_ hbel
      clear hbr hbw hrow hbel
      go_wp2_with fail
      obtain ⟨wz,hwz⟩:∃ wz,wz=wo.alloc (.cells #[.int .i64 (k.1:Int),.int .i64 (k.2:Int),.int .i64 (layC g a y k0 n d i:Int),.slice As TT.length cs,.slice At TT.length ct] 69):=⟨_,rfl⟩
      have hbz:Blk wz wo.heap.size 69 #[.int .i64 (k.1:Int),.int .i64 (k.2:Int),.int .i64 (layC g a y k0 n d i:Int),.slice As TT.length cs,.slice At TT.length ct]:=by rw [hwz];exact Blk.new _ _ _ _ rfl
      have hbY:Below wo.heap.size wo wz:=by rw [hwz];exact (Below.refl _ _).alloc (Nat.le_refl _) _
      rw [<- hwz]
      have hrl:=HROW.out.lt
      have HRL:=Hd_ hrl
      have HBZ:=Hd_ hbz
      have HBY:=Hd_ hbY
      have hszz:=hbz.lt
      clear hwz hbz hbY hrl h0 d0 d1 d2 d3 d4
      go_loopw [2,9,12,13] (fun nn aa bb kk wi=>∃ (j m1 a1:Nat) (b:Bool) (O1:List St) (o1:Value),nn=.int .i64 (m1:Int)/\aa=.int .i64 (a1:Int)/\bb=.bool b/\kk=.int .i64 (j:Int)/\j<=TT.length /\
       Blk wi wo.heap.size 69 #[.int .i64 (k.1:Int),.int .i64 (k.2:Int),.int .i64 (layC g a y k0 n d i:Int),.slice As TT.length cs,.slice At TT.length ct]/\Blk wi w.heap.size 36 #[.int .i64 0,.slice none 0 0]/\Blk wi (w.heap.size+1) 36 #[.int .i64 x,o1]/\wi.ownsRow (w.heap.size+1+1) 74 2 o1 O1.length (O1.flatMap cSt)/\Below w.heap.size w wi /\
       (b=false->O1=O/\a1=i/\o1=oo/\m1=leftN (fun e:St × Nat=>F e.2) (TT.take j) n'/\∀ r q,r < j->TT[r]?=some q->¬ leftN (fun e:St × Nat=>F e.2) (TT.take r) n' < F q.2) /\
       (b=true->m1=n2/\a1=i2/\O1=O ++ [st])) (fun _ _ _ kk _=>TT.length - (intOf kk).toNat)
      case atStart=>exact ⟨0,n',i,false,O,oo,rfl,rfl,rfl,rfl,Nat.zero_le _,HBZ.out,HBR.out.keep HBY.out,HBW.out.keep HBY.out,ownsRow_block HROW.out (fun b hb=>HBY.out.block b (HRL.out b hb).2),HBEL.out.trans (HBY.out.mono hszw),fun _=>⟨rfl,rfl,rfl,rfl,fun r q hr=>by omega⟩,fun h=>by cases h⟩
      case round =>
       clear HBR HBW HBZ HBY HBEL HROW
       obtain ⟨j,m1,a1,b,O1,o1,rfl,rfl,rfl,rfl,hj,hbz,hbr,hbw,hrow,hbel,hno,hyes⟩:=hrel
       have c4:wr.cell? ⟨wo.heap.size,4,none⟩=some (.slice At TT.length ct):=hbz.cell 4
       have HBZ:=Hd_ hbz
       have HBR:=Hd_ hbr
       have HBW:=Hd_ hbw
       have HROW:=Hd_ hrow
       have HBEL:=Hd_ hbel
       cases b with
       | true =>
         obtain ⟨rfl,rfl,rfl⟩:=hyes rfl
         clear hno hyes hbz hbr hbw hrow hbel
         by_cases hlj:j < TT.length
         · have hjj:(j:Int) < (TT.length:Int):=by omega
           go_wp2_with fail
           go_roundw
           case rel=>exact ⟨d+1,a1,m1,k2,O ++ [st],o1,rfl,rfl,by go_num,by omega,HK2.out,HN2.out,HO2.out,by simp;omega,HBR.out,HBW.out,HROW.out,HBEL.out⟩
           case measure=>simp [intOf];omega
         · have hjj:¬ (j:Int) < (TT.length:Int):=by omega
           go_wp2_with fail
           go_roundw
           case rel=>exact ⟨d+1,a1,m1,k2,O ++ [st],o1,rfl,rfl,by go_num,by omega,HK2.out,HN2.out,HO2.out,by simp;omega,HBR.out,HBW.out,HROW.out,HBEL.out⟩
           case measure=>simp [intOf];omega
       | false =>
         have hno2:=hno rfl
         clear hno
         obtain ⟨rfl,rfl,rfl,rfl,hno⟩:=hno2
         by_cases hlj:j < TT.length
         · have hej:TT[j]?=some TT[j]:=List.getElem?_eq_getElem hlj
           have hin:=HTIN.out _ (List.getElem_mem hlj)
           generalize TT[j]=e at hej hin
           obtain ⟨⟨sid,sinv⟩,e2⟩:=e
           simp only at hin
           obtain ⟨b8,o8,rfl,hb8,t0⟩:=HCT.out.nat (i:=j) (x:=e2) (by rw [List.getElem?_map,hej];rfl)
           obtain ⟨b9,o9,rfl,hb9,s0,s1⟩:=HCS.out.st (i:=j) (e:=(sid,sinv)) (by rw [List.getElem?_map,hej];rfl)
           have hk1:(layN g a k0 (d+1))[e2]?=some (layN g a k0 (d+1))[e2]:=List.getElem?_eq_getElem (by rw [<- HL1E.out];exact hin)
           obtain ⟨zq,-,-,-,-,-,-,-,r2,-,-⟩:=HL1.out.get hk1
           have t0:=kcell hbel t0
           have s0:=kcell hbel s0
           have s1:=kcell hbel s1
           have r2:=kcell hbel r2
           have h1:=kcell hbel HH1.out
           have hC1:=HFLE.out e2
           have HPH:=Hd_ (fun h=>(HP.out.symm.trans (pick_here (k:=fun e:St × Nat=>F e.2) hej hno h)))
           have HLS:=Hd_ (leftN_succ (k:=fun e:St × Nat=>F e.2) (n:=n') hej)
           have hll:=leftN_le (fun e:St × Nat=>F e.2) (TT.take j) n'
           have HNO:=Hd_ (fun (h:¬ leftN (fun e:St × Nat=>F e.2) (TT.take j) n' < F e2) r q (hr:r < j+1) (hq:TT[r]?=some q)=>show ¬ leftN (fun e:St × Nat=>F e.2) (TT.take r) n' < F q.2 from by
            rcases Nat.lt_or_ge r j with h1 | h1
            · exact hno r q h1 hq
            · obtain rfl:r=j:=by omega
              rw [hej] at hq
              injection hq with hq
              rw [<- hq];exact h)
           obtain ⟨D1,hD1⟩:∃ D1,D1=d+1:=⟨_,rfl⟩
           rw [<- hD1] at h1
           have hq1:(D1:Int) < (n:Int)+1:=by omega
           have hqz:(d:Int)+1=(D1:Int):=by omega
           have hjj:(j:Int) < (TT.length:Int):=by omega
           have hee:(e2:Int) < (L1:Int):=by omega
           obtain ⟨M1,hM1⟩:∃ M1,M1=leftN (fun e:St × Nat=>F e.2) (TT.take j) n':=⟨_,rfl⟩
           rw [<- hM1] at HPH HLS HNO hll ⊢
           have HM1:=Hd_ hM1
           obtain ⟨C1,hC1e⟩:∃ C1,C1=F e2:=⟨_,rfl⟩
           have HC1:=Hd_ hC1e
           rw [<- hC1e] at r2 hC1 HNO
           have HLS2:=Hd_ (show leftN (fun e:St × Nat=>F e.2) (TT.take (j+1)) n'=M1 - C1 by rw [HLS.out,hC1e])
           have HPH2:=Hd_ (fun (h:M1 < C1)=>HPH.out (by show M1 < F e2;rw [<- hC1e];exact h))
           clear hno hej hk1 hyes hM1 hC1e HLS HPH
           obtain ⟨wq,hwq⟩:∃ wq:World,wq=wr:=⟨_,rfl⟩
           rw [<- hwq] at HBZ HBR HBW HROW HBEL hbz hbr hbw hrow hbel c4 t0 s0 s1 r2 h1 ⊢
           clear hwq
           have lq1:bL < wq.heap.size:=World.block_lt_of_cell? _ _ h1
           have lq2:wo.heap.size < wq.heap.size:=World.block_lt_of_cell? _ _ c4
           have lq3:b8 < wq.heap.size:=World.block_lt_of_cell? _ _ t0
           have lq4:gd1 < wq.heap.size:=World.block_lt_of_cell? _ _ r2
           have qw:IntKind.i64.wrap ((d:Int)+1)=(D1:Int):=by rw [IntWalk.i64_in _ (by omega),hqz]
           clear hD1 hqz
           go_upto_region 13 with fail
           refine wp_region_ext_lit (by kernel_rfl) (by kernel_rfl) ?_
           repeat (go_big_quiet_step (fail))
           refine wpQuiet_nil ?_
           rintro _ ⟨u2,rfl⟩
           clear qw
           have hbU:=ext_below wq u2
           by_cases hpk:M1 < C1
           · have hpki:(M1:Int) < (C1:Int):=by omega
             have hpe:=HPH2.out hpk
             injection hpe with hpe
             injection hpe with hp1 hp2
             injection hp1 with hp3 hp4
             obtain ⟨A9,n9,c9,ho1⟩:=(Own.of_row (xs:=O1) hrow rfl rfl).shape
             subst ho1
             have hrl:∀ b,(Value.slice A9 n9 c9).ownBlock=some b->w.heap.size+1+1<=b/\b < wo.heap.size:=HRL.out
             have v1:wq.cell? ⟨w.heap.size+1,1,none⟩=some (.slice A9 n9 c9):=hbw.cell 1
             have c3:wq.cell? ⟨wo.heap.size,3,none⟩=some (.slice (some ⟨b9,o9,none⟩) TT.length cs):=hbz.cell 3
             obtain ⟨wx,hwx⟩:∃ wx,wx=ext wq u2:=⟨_,rfl⟩
             rw [<- hwx] at hbU ⊢
             have v1:=kcell hbU v1
             have c3:=kcell hbU c3
             have c4:=kcell hbU c4
             have t0:=kcell hbU t0
             have s0:=kcell hbU s0
             have s1:=kcell hbU s1
             have HBZ:=Hd_ (hbz.keep hbU)
             have HBR:=Hd_ (hbr.keep hbU)
             have HBW:=Hd_ (hbw.keep hbU)
             have HROW:=Hd_ (ownsRow_block hrow (fun b hb=>hbU.block b (hrow.lt b hb).2))
             have HBEL:=Hd_ (below_trans hbel hbU)
             have HT0:=Hd_ t0
             have HR2:=Hd_ hrl
             have hsx:=hbU.size
             have hOl60:O1.length<=60:=by omega
             clear hwx hbz hbr hbw hrow hbel hbU t0 r2 h1 c4 hrl hOl
             go_upto_region 15 with fail
             refine F_start 10 (fun w'=>w'.cell? ⟨w.heap.size+1,1,none⟩=some (.slice A9 n9 c9)/\w'.cell? ⟨wo.heap.size,3,none⟩=some (.slice (some ⟨b9,o9,none⟩) TT.length cs)/\w'.cell? ⟨b9,o9+j * 2,none⟩=some (.int .i64 sid)/\w'.cell? ⟨b9,o9+j * 2+1,none⟩=some (.bool sinv)) (by kernel_rfl) (by exact ⟨v1,c3,s0,s1⟩) (fun hS inv=>?_)
             refine F_tk 0 inv ?_
             try simp only [tA,tB,tC,Act.put,tE,tF,tG]
             clear inv;intro inv
             refine F_tk 1 inv ?_
             try simp only [tA,tB,tC,Act.put,tE,tF,tG]
             clear inv;intro inv
             refine F_tk 2 inv ?_
             try simp only [tA,tB,tC,Act.put,tE,tF,tG]
             clear inv;intro inv
             refine F_tk 3 inv ?_
             try simp only [tA,tB,tC,Act.put,tE,tF,tG]
             clear inv;intro inv
             refine F_tk 4 inv ?_
             try simp only [tA,tB,tC,Act.put,tE,tF,tG]
             clear inv;intro inv
             refine F_tk 5 inv ?_
             try simp only [tA,tB,tC,Act.put,tE,tF,tG]
             clear inv;intro inv
             refine F_tk 6 inv ?_
             try simp only [tA,tB,tC,Act.put,tE,tF,tG]
             clear inv;intro inv
             refine F_o1 7 inv ?_;intro K hK
             try simp only [tA,tB,tC]
             go_simp
             refine hK.out _ _ (kA4 _ hS) (fun _ _=>?_)
             try simp only [tA,tB,tC,Act.put,tE,tF,tG]
             clear hK K inv hS;rename_i hS inv
             refine F_o1 8 inv ?_;intro K hK
             try simp only [tA,tB,tC]
             refine op_append1 cSt elStL rfl _ _ (by rfl) (w.heap.size+1+1) (.slice A9 n9 c9) O1 (sid,sinv) 1 _ (by rfl) (show ((wx.alloc (.cells #[.int .i64 sid,.bool sinv] 74)).drew).ownsRow (w.heap.size+1+1) 74 2 (.slice A9 n9 c9) O1.length (O1.flatMap cSt) from HROW.out.alloc _) (by first | rfl | simp) (heap_alloc_new _ _) rfl (cSt_one _) (by omega) (by omega) (by simp;omega) ?_
             intro g2 cp2 w3 hown3 hgr3 hat3 hlt3
             have hrl:=HR2.out
             have g3:∀ b,b < wx.heap.size->(Value.slice A9 n9 c9).ownBlock ≠ some b->w3.heap[b]?=wx.heap[b]?:=fun b hb hn=>(hgr3.block b (by simp;omega) (fun e=>hn e.symm)).trans (Below.heap_alloc wx _ b hb)
             have hs3:wx.heap.size < w3.heap.size:=by have:=hgr3.size;simp at this;omega
             have nz:(Value.slice A9 n9 c9).ownBlock ≠ some wo.heap.size:=fun e=>by have:=hrl _ e;omega
             have nr:(Value.slice A9 n9 c9).ownBlock ≠ some w.heap.size:=fun e=>by have:=hrl _ e;omega
             have nw:(Value.slice A9 n9 c9).ownBlock ≠ some (w.heap.size+1):=fun e=>by have:=hrl _ e;omega
             have n8:(Value.slice A9 n9 c9).ownBlock ≠ some b8:=fun e=>by have:=hrl _ e;omega
             have hbz3:=(g3 wo.heap.size (by omega) nz).trans HBZ.out
             have hbr3:=(g3 w.heap.size (by omega) nr).trans HBR.out
             have hbw3:Blk w3 (w.heap.size+1) 36 #[.int .i64 x,.slice A9 n9 c9]:=(g3 (w.heap.size+1) (by omega) nw).trans HBW.out
             have v1':w3.cell? ⟨w.heap.size+1,1,none⟩=some (.slice A9 n9 c9):=hbw3.cell 1
             have f1':=hbw3.frozen 1
             have l1':=hbw3.lt
             refine hK.out _ _ (⟨hgr3.cell hS.1 (fun e=>by have:=hrl _ e.symm;simp only at this;omega),hgr3.cell hS.2.1 (fun e=>by have:=hrl _ e.symm;simp only at this;omega),hgr3.cell hS.2.2.1 (fun e=>by have:=hrl _ e.symm;simp only at this;omega),hgr3.cell hS.2.2.2 (fun e=>by have:=hrl _ e.symm;simp only at this;omega)⟩) (fun _ _=>?_)
             try simp only [tA,tB,tC,Act.put,tE,tF,tG]
             clear hK K inv hS;rename_i hS inv
             refine F_tk 9 inv ?_
             try simp only [tA,tB,tC,Act.put,tE,tF,tG]
             clear inv;intro inv
             refine F_l1 10 ?_;intro K hK
             go_simp
             refine hK _ _ ?_
             clear hK K inv hS
             obtain ⟨w4,hw4⟩:∃ w4,w4=w3.setCell ⟨w.heap.size+1,1,none⟩ (.slice (some ⟨g2,0,none⟩) (O1.length+1) cp2):=⟨_,rfl⟩
             have hs4w:w3.heap.size=w4.heap.size:=by rw [hw4];simp [World.setCell]
             have g4:∀ b,b < w3.heap.size->b ≠ w.heap.size+1->w4.heap[b]?=w3.heap[b]?:=fun b hb hne=>by rw [hw4];exact Below.heap_setCell w3 ⟨w.heap.size+1,1,none⟩ _ b hne
             have hbz4:Blk w4 wo.heap.size 69 #[.int .i64 (k.1:Int),.int .i64 (k.2:Int),.int .i64 (layC g a y k0 n d a1:Int),.slice (some ⟨b9,o9,none⟩) TT.length cs,.slice (some ⟨b8,o8,none⟩) TT.length ct]:=(g4 _ (by omega) (by omega)).trans hbz3
             have hbr4:Blk w4 w.heap.size 36 #[.int .i64 0,.slice none 0 0]:=(g4 _ (by omega) (by omega)).trans hbr3
             have hbw4:Blk w4 (w.heap.size+1) 36 #[.int .i64 x,.slice (some ⟨g2,0,none⟩) (O1.length+1) cp2]:=by
              have h:=hbw3.set_ 1 (.slice (some ⟨g2,0,none⟩) (O1.length+1) cp2)
              rw [<- hw4] at h
              simpa using h
             have hg2:g2 ≠ w.heap.size+1:=by
              rcases hat3 with h | h
              · have:=hrl g2 h;omega
              · simp at h;omega
             have hrow4:=ownsRow_block (w':=w4) hown3 (fun b hb=>by
              have he:g2=b:=by simpa [Value.ownBlock] using hb
              exact g4 b (by omega) (by rw [<- he];exact hg2))
             have hbl4:Below w.heap.size w w4:=by
              rw [hw4]
              have h1:Below w.heap.size w ((wx.alloc (.cells #[.int .i64 sid,.bool sinv] 74)).drew):=(HBEL.out.alloc (by omega) _).drew
              exact (h1.grown hgr3 (by simp;omega) (fun b hb=>by have:=hrl b hb;omega)).setCell (by simp only;omega) _
             have t4:w4.cell? ⟨b8,o8+j,none⟩=some (.int .i64 (e2:Int)):=(World.cell?_of_block (a:=⟨b8,o8+j,none⟩) ((g4 b8 (by omega) (by omega)).trans (g3 b8 (by omega) n8))).trans HT0.out
             have c4:w4.cell? ⟨wo.heap.size,4,none⟩=some (.slice (some ⟨b8,o8,none⟩) TT.length ct):=hbz4.cell 4
             have HBZ4:=Hd_ hbz4
             have HBR4:=Hd_ hbr4
             have HBW4:=Hd_ hbw4
             have HROW4:=Hd_ hrow4
             have HBL4:=Hd_ hbl4
             have HPS:=Hd_ (And.intro hp2.symm (And.intro hp4.symm hp3))
             rw [<- hw4]
             clear hw4 hbz4 hbr4 hbw4 hrow4 hbl4 g4 g3 hbz3 hbr3 hbw3 v1' f1' l1' hown3 hgr3 hat3 hlt3 hrl nz nr nw n8 hp2 hp4 hp3 v1 c3 s0 s1
             go_wp2_with fail
             go_roundw
             case rel=>exact ⟨j+1,M1,e2,true,O1 ++ [(sid,sinv)],_,rfl,rfl,rfl,by go_num,by omega,HBZ4.out,HBR4.out,HBW4.out,HROW4.out,HBL4.out,(fun h=>by cases h),fun _=>⟨HPS.out.1,HPS.out.2.1,by rw [HPS.out.2.2]⟩⟩
             case measure=>simp [intOf];omega
           · have hpki:¬ (M1:Int) < (C1:Int):=by omega
             have HNO2:=Hd_ (HNO.out hpk)
             have hsub:(M1:Int) - (C1:Int)=((M1 - C1:Nat):Int):=by omega
             have qs:IntKind.i64.wrap ((M1:Int) - (C1:Int))=((M1 - C1:Nat):Int):=by rw [IntWalk.i64_in _ (by omega)];omega
             clear hbz hbr hbw hrow hbel t0 s0 s1 r2 h1 c4
             go_wp2_with fail
             clear qs
             go_roundw
             case rel =>
              exact ⟨j+1,M1 - C1,a1,false,O1,o1,by first | rfl | rw [hsub],rfl,rfl,by go_num,by omega,HBZ.out.keep hbU,HBR.out.keep hbU,HBW.out.keep hbU,ownsRow_block HROW.out (fun b hb=>hbU.block b (HROW.out.lt b hb).2),below_trans HBEL.out hbU,fun _=>⟨rfl,rfl,rfl,HLS2.out.symm,fun r q hr hq=>HNO2.out r q hr hq⟩,fun h=>by cases h⟩
             case measure=>simp [intOf];omega
         · obtain rfl:j=TT.length:=by omega
           have hx:=pick_end (k:=fun e:St × Nat=>F e.2) (n:=n') hno
           rw [HP.out] at hx
           cases hx
    · obtain rfl:d=n:=by omega
      rw [Nat.sub_self] at hO
      have hOe:O=SS:=by rw [<- hO];simp [nthL]
      have hown:=Own.of_row (xs:=O) hrow rfl rfl
      rw [hOe] at hown
      obtain ⟨A9,n9,c9,rfl⟩:=hown.shape
      have HOW:=Hd_ hown
      have w0:wr.cell? ⟨w.heap.size+1,0,none⟩=some (.int .i64 x):=hbw.cell 0
      have w1:wr.cell? ⟨w.heap.size+1,1,none⟩=some (.slice A9 n9 c9):=hbw.cell 1
      have q0:((wr.setCell ⟨w.heap.size,0,none⟩ (.int .i64 x)).setCell ⟨w.heap.size,1,none⟩ (.slice A9 n9 c9)).cell? ⟨w.heap.size,0,none⟩=some (.int .i64 x):=by simpa using ((hbr.set_ 0 (.int .i64 x)).set_ 1 (.slice A9 n9 c9)).cell 0
      have q1:((wr.setCell ⟨w.heap.size,0,none⟩ (.int .i64 x)).setCell ⟨w.heap.size,1,none⟩ (.slice A9 n9 c9)).cell? ⟨w.heap.size,1,none⟩=some (.slice A9 n9 c9):=by simpa using ((hbr.set_ 0 (.int .i64 x)).set_ 1 (.slice A9 n9 c9)).cell 1
      have fr0:=hbr.frozen 0
      have fr1:=hbr.frozen 1
      have q2:(wr.setCell ⟨w.heap.size,0,none⟩ (.int .i64 x)).cell? ⟨w.heap.size,0,none⟩=some (.int .i64 x):=by simpa using (hbr.set_ 0 (.int .i64 x)).cell 0
      have HQ:=Hd_ (And.intro q0 (And.intro q1 q2))
      clear q0 q1 q2
      have q0:wr.cell? ⟨w.heap.size,0,none⟩=some (.int .i64 0):=hbr.cell 0
      have q1:wr.cell? ⟨w.heap.size,1,none⟩=some (.slice none 0 0):=hbr.cell 1
      have HBEL:=Hd_ hbel
      have hbn:∀ b,b ≠ w.heap.size->((wr.setCell ⟨w.heap.size,0,none⟩ (.int .i64 x)).setCell ⟨w.heap.size,1,none⟩ (.slice A9 n9 c9)).heap[b]?=wr.heap[b]?:=fun b hb=>by rw [Below.heap_setCell _ _ _ _ hb,Below.heap_setCell _ _ _ _ hb]
      have HBN:=Hd_ hbn
      have hdd:¬ (d:Int) < (d:Int):=by omega
      clear hO hOe hown hbr hbw hrow hbel hbn hk hn'
      go_wp2_with fail
      have HBS:=Hd_ ((HBEL.out.setCell (p:=⟨w.heap.size,0,none⟩) (by simp only;omega) (.int .i64 x)).setCell (p:=⟨w.heap.size,1,none⟩) (by simp only;omega) (.slice A9 n9 c9))
      obtain ⟨hq0,hq1,hq2⟩:=HQ.out
      have hwes:((wr.setCell ⟨w.heap.size,0,none⟩ (.int .i64 x)).setCell ⟨w.heap.size,1,none⟩ (.slice A9 n9 c9)).heap.size=wr.heap.size:=by simp [World.setCell]
      refine bodyPost_ret (v:=.tuple #[.agg #[.int .i64 x,.slice A9 n9 c9],.bool true]) (by simp [results,Tryz.results44,go_sem,hq0,hq1,hq2]) rfl ⟨_,rfl,?_,HBS.out⟩
      rw [HF.out]
      exact ⟨_,rfl,(HOW.out.blocks (fun b hb=>HBN.out b (by have:=HOW.out.lt b hb;omega))).mono (by omega) (by omega)⟩
end Go.Proofs.YtcnenpjaoalmeaaGreat
namespace Go.Proofs.YtcnenpjaoalmeaaGreat
open Go.ChangeShapes Go.WideShapes Go.ChangeAt Go.RowKit Go.Maps
attribute [local go_sem] ext_cell ext_frozen ext_lt ext_lt1 ext_lt2 ext_lt3 ltn2 ltn3 ltn13 lts1 lts2 lts3
theorem startOk {a:Au} (ha:auOk a=true):bit a.start.toNat < 2 ^ a.accept.length:=by
 obtain ⟨⟨_,hn⟩,⟨h0,h1⟩,-,-⟩:=auOk_iff.1 ha
 exact bit_lt (by omega)
theorem Left.below {g:Gr} {a:Au} {y:Int} {f:Nat} {M:List Plc} {bM:Nat} {w w':World} (h:Left g a y f M bM w w') {B:Nat} (hB:B<=bM) (hs:B<=w.heap.size):Below B w w':=h.1.below hB hs
set_option maxHeartbeats 8000000 in
set_option maxRecDepth 100000 in
theorem implNthShortest (vg va:Value) (g:Gr) (a:Au) (x y n:Int) (w:World) (hgv:GrV 0 w.heap.size w vg g) (hav:AuV 0 w.heap.size w va a) :
 Calls Tryz.prog 20 #[vg,va,.int .i64 x,.int .i64 y,.int .i64 n] w fun e w'=>∃ v',e=.returned (.tuple #[v',.bool (nthShort g a x y n).2])/\WkO w.heap.size w'.heap.size w' v' (nthShort g a x y n).1/\Below w.heap.size w w':=by
 have hgv0:=hgv
 have hav0:=hav
 obtain ⟨A1,n1,c1,A2,n2,c2,rfl⟩:=hgv.shape
 obtain ⟨A3,n3,c3,A4,n4,c4,rfl⟩:=hav.shape
 have hb0:Below w.heap.size w (((w.alloc (.cells #[.slice A1 n1 c1,.slice A2 n2 c2] 27)).alloc (.cells #[.int .i64 a.start,.slice A3 n3 c3,.slice A4 n4 c4] 31)).alloc (.cells #[.int .i64 0,.slice none 0 0] 36)):=(((Below.refl _ _).alloc (Nat.le_refl _) _).alloc (by simp) _).alloc (by simp;omega) _
 have hbG:=((Blk.new w 27 #[.slice A1 n1 c1,.slice A2 n2 c2] w.heap.size rfl).alloc (.cells #[.int .i64 a.start,.slice A3 n3 c3,.slice A4 n4 c4] 31)).alloc (.cells #[.int .i64 0,.slice none 0 0] 36)
 have hbA:=(Blk.new (w.alloc (.cells #[.slice A1 n1 c1,.slice A2 n2 c2] 27)) 31 #[.int .i64 a.start,.slice A3 n3 c3,.slice A4 n4 c4] (w.heap.size+1) (by simp)).alloc (.cells #[.int .i64 0,.slice none 0 0] 36)
 have hbR:=Blk.new ((w.alloc (.cells #[.slice A1 n1 c1,.slice A2 n2 c2] 27)).alloc (.cells #[.int .i64 a.start,.slice A3 n3 c3,.slice A4 n4 c4] 31)) 36 #[.int .i64 0,.slice none 0 0] (w.heap.size+1+1) (by simp)
 have HBG:=Hd_ hbG
 have HBA:=Hd_ hbA
 have HBR:=Hd_ hbR
 have HGV:=Hd_ hgv0
 have HAV:=Hd_ hav0
 have HB0:=Hd_ hb0
 have HSL:=Hd_ (fun (W:World) (hW:Below w.heap.size w W)=>implShortestLength _ _ g a x y W (HGV.out.keep hW) (HAV.out.keep hW))
 clear hgv hav hgv0 hav0 hb0 hbG hbA hbR
 obtain ⟨R,hR⟩:∃ R,R=nthShort g a x y n:=⟨_,rfl⟩
 rw [<- hR]
 by_cases hneg:shortLen g a x y < 0
 · have HF:=Hd_ (show R=((0,[]),false) by rw [hR,nthShort,if_neg];rw [nthSh,decide_eq_false (by omega)];simp)
   generalize shortLen g a x y=SL at *
   clear hR
   go_enter Tryz.func20,Tryz.ntmps20
   go_wp2_with fail
   refine (HSL.out _ HB0.out).mono ?_
   rintro e w1 ⟨rfl,hb1⟩
   have hb2:=below_trans HB0.out hb1
   have bR:=HBR.out.keep hb1
   have r0:w1.cell? ⟨w.heap.size+1+1,0,none⟩=some (.int .i64 0):=bR.cell 0
   have r1:w1.cell? ⟨w.heap.size+1+1,1,none⟩=some (.slice none 0 0):=bR.cell 1
   have fr0:=bR.frozen 0
   have fr1:=bR.frozen 1
   have lr:=bR.lt
   clear bR
   clear hb1
   go_wp2_with fail
   refine bodyPost_ret (v:=.tuple #[.agg #[.int .i64 0,.slice none 0 0],.bool false]) (by simp [results,Tryz.results20,go_sem,r0,r1]) rfl ⟨_,by rw [HF.out],?_,(hb2.setCell (p:=⟨w.heap.size+1+1,0,none⟩) (by simp only;omega) _).setCell (p:=⟨w.heap.size+1+1,1,none⟩) (by simp only;omega) _⟩
   rw [HF.out]
   exact ⟨_,rfl,Own.nil _ _ _ _ _ _⟩
 · have hco:=shortLen_ok (show 0<=shortLen g a x y by omega)
   obtain ⟨⟨hx0,hx1⟩,⟨hy0,hy1⟩,hgo,ha⟩:=cntOk_iff.1 hco
   have hlt:=shortLen_lt g a x y
   obtain ⟨L,hL⟩:=Int.eq_ofNat_of_zero_le (show 0<=shortLen g a x y by omega)
   rw [hL] at HSL hlt hneg
   obtain ⟨x,rfl⟩:=Int.eq_ofNat_of_zero_le hx0
   have HGO:=Hd_ hgo
   have HA:=Hd_ ha
   have HSO:=Hd_ (startOk ha)
   have hn5:=(grOk_iff.1 hgo).n5
   have hxl:x < g.vals.length:=by omega
   have hln:¬ (L:Int) < 0:=by omega
   have hcle:=cw_le g a y L x (bit a.start.toNat)
   obtain ⟨C,hC⟩:∃ C,C=cw g a y L x (bit a.start.toNat):=⟨_,rfl⟩
   have hsh:nthSh g a (x:Int) y n=wi n 0 ((C:Int) - 1):=by rw [nthSh,decide_eq_true (by omega),Bool.true_and,hL,Int.toNat_natCast,hC];rfl
   rw [<- hC] at hcle
   have HC:=Hd_ hC
   have HW:=Hd_ (fun W=>within_any n 0 ((C:Int) - 1) W)
   have hgv2:=HGV
   cases hwn:wi n 0 ((C:Int) - 1) with
   | false =>
     have HF:=Hd_ (show R=((0,[]),false) by rw [hR,nthShort,if_neg];rw [hsh,hwn];simp)
     rw [hwn] at HW
     clear hco hgo ha hL hneg hx0 hx1 hy0 hy1 hR hC hsh hwn
     go_enter Tryz.func20,Tryz.ntmps20
     go_wp2_with fail
     refine (HSL.out _ HB0.out).mono ?_
     rintro e w1 ⟨rfl,hb1⟩
     have hb2:=below_trans HB0.out hb1
     have bG:=HBG.out.keep hb1
     have bA:=HBA.out.keep hb1
     have x0:w1.cell? ⟨w.heap.size,0,none⟩=some (.slice A1 n1 c1):=bG.cell 0
     have x1:w1.cell? ⟨w.heap.size,1,none⟩=some (.slice A2 n2 c2):=bG.cell 1
     have y0:w1.cell? ⟨w.heap.size+1,0,none⟩=some (.int .i64 a.start):=bA.cell 0
     have y1:w1.cell? ⟨w.heap.size+1,1,none⟩=some (.slice A3 n3 c3):=bA.cell 1
     have y2:w1.cell? ⟨w.heap.size+1,2,none⟩=some (.slice A4 n4 c4):=bA.cell 2
     clear bG bA
     have HR1:=Hd_ (HBR.out.keep hb1)
     clear hb1
     go_wp2_with fail
     refine (newCounter_any _ _ g a y _ (HGV.out.keep hb2) (HAV.out.keep hb2) HGO.out HA.out).mono ?_
     rintro e w2 ⟨bC,bM,rfl,hbM,hctr,hmem,hb3⟩
     have hb4:=below_trans hb2 hb3
     have hwM:w.heap.size<=bM:=Nat.le_trans hb2.size hbM
     have hsz3:=hb3.size
     have lbMw:=hmem.lt
     have HR2:=Hd_ (HR1.out.keep hb3)
     clear hb3 x0 x1 y0 y1 y2
     go_wp2_with fail
     refine (start_any g a y HA.out bC bM x L _ hctr (by omega) (by omega)).mono ?_
     rintro e w3 ⟨rfl,hb5⟩
     have hbQ:=(Below.refl w3.heap.size w3).alloc (Nat.le_refl _) (.cells #[.int .i64 (x:Int),.int .i64 (bit a.start.toNat:Nat),.int .i64 (L:Int)] 62)
     have hb6:=below_trans hb5 hbQ
     go_wp2_with fail
     refine (count_any g a y HGO.out HA.out bC bM L x _ [] _ (hctr.keep hb6) (hmem.keep hb6) hxl HSO.out (by omega)).mono ?_
     rintro e w4 ⟨rfl,hleft⟩
     rw [<- HC.out]
     have hb7:=below_trans hb4 hb6
     have hb8:=hb7.trans (hleft.below hwM hb7.size)
     have hR4:=(HR2.out.keep hb6).only hleft.1 (.inl (by have:=HR1.out.lt;omega))
     have bR:=hR4
     have r0:w4.cell? ⟨w.heap.size+1+1,0,none⟩=some (.int .i64 0):=bR.cell 0
     have r1:w4.cell? ⟨w.heap.size+1+1,1,none⟩=some (.slice none 0 0):=bR.cell 1
     have fr0:=bR.frozen 0
     have fr1:=bR.frozen 1
     have lr:=bR.lt
     clear bR
     clear hleft hb5 hbQ hb6 hR4
     go_wp2_with fail
     refine (HW.out _).mono ?_
     rintro e w9 ⟨rfl,hw9⟩
     rw [hw9]
     clear hw9
     go_wp2_with fail
     refine bodyPost_ret (v:=.tuple #[.agg #[.int .i64 0,.slice none 0 0],.bool false]) (by simp [results,Tryz.results20,go_sem,r0,r1]) rfl ⟨_,by rw [HF.out],?_,(hb8.setCell (p:=⟨w.heap.size+1+1,0,none⟩) (by simp only;omega) _).setCell (p:=⟨w.heap.size+1+1,1,none⟩) (by simp only;omega) _⟩
     rw [HF.out]
     exact ⟨_,rfl,Own.nil _ _ _ _ _ _⟩
   | true =>
     have hwi:=wi_iff.1 hwn
     obtain ⟨n,rfl⟩:=Int.eq_ofNat_of_zero_le hwi.1
     have HF:=Hd_ (show R=(((x:Int),nthL g a y L x (bit a.start.toNat) n),true) by rw [hR,nthShort,if_pos (by rw [hsh,hwn]),hL];rfl)
     have HNN:=Hd_ (show n < cw g a y L x (bit a.start.toNat) by rw [<- hC];omega)
     rw [hwn] at HW
     clear hco hgo ha hL hneg hx0 hx1 hy0 hy1 hR hC hsh hwn hwi
     go_enter Tryz.func20,Tryz.ntmps20
     go_wp2_with fail
     refine (HSL.out _ HB0.out).mono ?_
     rintro e w1 ⟨rfl,hb1⟩
     have hb2:=below_trans HB0.out hb1
     have bG:=HBG.out.keep hb1
     have bA:=HBA.out.keep hb1
     have x0:w1.cell? ⟨w.heap.size,0,none⟩=some (.slice A1 n1 c1):=bG.cell 0
     have x1:w1.cell? ⟨w.heap.size,1,none⟩=some (.slice A2 n2 c2):=bG.cell 1
     have y0:w1.cell? ⟨w.heap.size+1,0,none⟩=some (.int .i64 a.start):=bA.cell 0
     have y1:w1.cell? ⟨w.heap.size+1,1,none⟩=some (.slice A3 n3 c3):=bA.cell 1
     have y2:w1.cell? ⟨w.heap.size+1,2,none⟩=some (.slice A4 n4 c4):=bA.cell 2
     clear bG bA
     have HR1:=Hd_ (HBR.out.keep hb1)
     clear hb1
     go_wp2_with fail
     refine (newCounter_any _ _ g a y _ (HGV.out.keep hb2) (HAV.out.keep hb2) HGO.out HA.out).mono ?_
     rintro e w2 ⟨bC,bM,rfl,hbM,hctr,hmem,hb3⟩
     have hb4:=below_trans hb2 hb3
     have hwM:w.heap.size<=bM:=Nat.le_trans hb2.size hbM
     have hsz3:=hb3.size
     have lbMw:=hmem.lt
     have HR2:=Hd_ (HR1.out.keep hb3)
     clear hb3 x0 x1 y0 y1 y2
     go_wp2_with fail
     refine (start_any g a y HA.out bC bM x L _ hctr (by omega) (by omega)).mono ?_
     rintro e w3 ⟨rfl,hb5⟩
     have hbQ:=(Below.refl w3.heap.size w3).alloc (Nat.le_refl _) (.cells #[.int .i64 (x:Int),.int .i64 (bit a.start.toNat:Nat),.int .i64 (L:Int)] 62)
     have bQ:=Blk.new w3 62 #[.int .i64 (x:Int),.int .i64 (bit a.start.toNat:Nat),.int .i64 (L:Int)] w3.heap.size rfl
     have hb6:=below_trans hb5 hbQ
     go_wp2_with fail
     refine (count_any g a y HGO.out HA.out bC bM L x _ [] _ (hctr.keep hb6) (hmem.keep hb6) hxl HSO.out (by omega)).mono ?_
     rintro e w4 ⟨rfl,hleft⟩
     rw [<- HC.out]
     have hb7:=below_trans hb4 hb6
     have hb8:=hb7.trans (hleft.below hwM hb7.size)
     have hR4:=(HR2.out.keep hb6).only hleft.1 (.inl (by have:=HR1.out.lt;omega))
     have bQ4:=bQ.only hleft.1 (.inr (by have:=hb5.size;omega))
     have q0:w4.cell? ⟨w3.heap.size,0,none⟩=some (.int .i64 (x:Int)):=bQ4.cell 0
     have q1:w4.cell? ⟨w3.heap.size,1,none⟩=some (.int .i64 (bit a.start.toNat:Nat)):=bQ4.cell 1
     have q2:w4.cell? ⟨w3.heap.size,2,none⟩=some (.int .i64 (L:Int)):=bQ4.cell 2
     have lQ:=bQ4.lt
     obtain ⟨hon4,M4,hm4,-⟩:=hleft
     have HCT4:=Hd_ ((hctr.keep hb6).only hon4)
     have HM4:=Hd_ hm4
     have HR4:=Hd_ hR4
     clear hb5 hbQ hb6 hR4 bQ bQ4 hm4 hon4
     go_wp2_with fail
     refine (HW.out _).mono ?_
     rintro e w9 ⟨rfl,hw9⟩
     rw [hw9]
     clear hw9
     go_wp2_with fail
     refine (nth_any g a y HGO.out HA.out bC bM L x _ n M4 w4 HCT4.out HM4.out hxl HSO.out (by omega) HNN.out).mono ?_
     rintro e w5 ⟨v5,rfl,ho5,hon5,M5,hm5⟩
     have hb9:=hb8.trans (hon5.below hwM hb8.size)
     have hR5:=HR4.out.only hon5 (.inl (by have:=HR1.out.lt;omega))
     have bR:=hR5
     have r0:w5.cell? ⟨w.heap.size+1+1,0,none⟩=some (.int .i64 0):=bR.cell 0
     have r1:w5.cell? ⟨w.heap.size+1+1,1,none⟩=some (.slice none 0 0):=bR.cell 1
     have fr0:=bR.frozen 0
     have fr1:=bR.frozen 1
     have lr:=bR.lt
     clear bR
     obtain ⟨A9,n9,c9,rfl⟩:=ho5.shape
     have hsz4:=hb8.size
     have lr4:=HR4.out.lt
     have hon3:=((Only.refl (w.heap.size+1+1) (w.heap.size+1+1+1) w5).setCell (p:=⟨w.heap.size+1+1,0,none⟩) (.inl ⟨Nat.le_refl _,Nat.lt_succ_self _⟩) (.int .i64 (x:Int))).setCell (p:=⟨w.heap.size+1+1,1,none⟩) (.inl ⟨Nat.le_refl _,Nat.lt_succ_self _⟩) (.slice A9 n9 c9)
     have HO5:=Hd_ ((ho5.only hon3 (.inr (by omega))).mono (show w.heap.size<=w4.heap.size by omega) hon3.size)
     have HB5:=Hd_ (hb9.trans (hon3.below (show w.heap.size<=w.heap.size+1+1 by omega) hb9.size))
     clear ho5 hon5 hm5 hR5 hon3 q0 q1 q2
     go_wp2_with fail
     refine bodyPost_ret (v:=.tuple #[.agg #[.int .i64 (x:Int),.slice A9 n9 c9],.bool true]) (by simp [results,Tryz.results20,go_sem,r0,r1]) rfl ⟨_,by rw [HF.out],?_,HB5.out⟩
     rw [HF.out]
     exact ⟨_,rfl,HO5.out⟩
end Go.Proofs.YtcnenpjaoalmeaaGreat
namespace Go.Proofs.YtcnenpjaoalmeaaGreat
open Go.ChangeShapes Go.WideShapes Go.ChangeAt Go.RowKit
attribute [local go_sem] ext_cell ext_frozen ext_lt ext_lt1 ext_lt2 ext_lt3 ltn2 ltn3 ltn13 lts1 lts2 lts3
set_option maxHeartbeats 8000000 in
set_option maxRecDepth 100000 in
theorem specNthShortest (vg va:Value) (g:Gr) (a:Au) (x y n:Int) (w:World) (hgv:GrV 0 w.heap.size w vg g) (hav:AuV 0 w.heap.size w va a) :
 Calls Tryz.prog 32 #[vg,va,.int .i64 x,.int .i64 y,.int .i64 n] w fun e w'=>∃ v',e=.returned (.tuple #[v',.bool (nthShort g a x y n).2])/\WkO w.heap.size w'.heap.size w' v' (nthShort g a x y n).1/\Below w.heap.size w w':=by
 have hgv0:=hgv
 have hav0:=hav
 obtain ⟨A1,n1,c1,A2,n2,c2,rfl⟩:=hgv.shape
 obtain ⟨A3,n3,c3,A4,n4,c4,rfl⟩:=hav.shape
 have hb0:Below w.heap.size w (((w.alloc (.cells #[.slice A1 n1 c1,.slice A2 n2 c2] 27)).alloc (.cells #[.int .i64 a.start,.slice A3 n3 c3,.slice A4 n4 c4] 31)).alloc (.cells #[.int .i64 0,.slice none 0 0] 36)):=(((Below.refl _ _).alloc (Nat.le_refl _) _).alloc (by simp) _).alloc (by simp;omega) _
 have hbG:=((Blk.new w 27 #[.slice A1 n1 c1,.slice A2 n2 c2] w.heap.size rfl).alloc (.cells #[.int .i64 a.start,.slice A3 n3 c3,.slice A4 n4 c4] 31)).alloc (.cells #[.int .i64 0,.slice none 0 0] 36)
 have hbA:=(Blk.new (w.alloc (.cells #[.slice A1 n1 c1,.slice A2 n2 c2] 27)) 31 #[.int .i64 a.start,.slice A3 n3 c3,.slice A4 n4 c4] (w.heap.size+1) (by simp)).alloc (.cells #[.int .i64 0,.slice none 0 0] 36)
 have hbR:=Blk.new ((w.alloc (.cells #[.slice A1 n1 c1,.slice A2 n2 c2] 27)).alloc (.cells #[.int .i64 a.start,.slice A3 n3 c3,.slice A4 n4 c4] 31)) 36 #[.int .i64 0,.slice none 0 0] (w.heap.size+1+1) (by simp)
 have HBG:=Hd_ hbG
 have HBA:=Hd_ hbA
 have HBR:=Hd_ hbR
 have HGV:=Hd_ hgv0
 have HAV:=Hd_ hav0
 have HB0:=Hd_ hb0
 have HSL:=Hd_ (fun (W:World) (hW:Below w.heap.size w W)=>specShortestLength _ _ g a x y W (HGV.out.keep hW) (HAV.out.keep hW))
 clear hgv hav hgv0 hav0 hb0 hbG hbA hbR
 obtain ⟨R,hR⟩:∃ R,R=nthShort g a x y n:=⟨_,rfl⟩
 rw [<- hR]
 by_cases hneg:shortLen g a x y < 0
 · have HF:=Hd_ (show R=((0,[]),false) by rw [hR,nthShort,if_neg];rw [nthSh,decide_eq_false (by omega)];simp)
   generalize shortLen g a x y=SL at *
   clear hR
   go_enter Tryz.func32,Tryz.ntmps32
   go_wp2_with fail
   refine (HSL.out _ HB0.out).mono ?_
   rintro e w1 ⟨rfl,hb1⟩
   have hb2:=below_trans HB0.out hb1
   have bR:=HBR.out.keep hb1
   have r0:w1.cell? ⟨w.heap.size+1+1,0,none⟩=some (.int .i64 0):=bR.cell 0
   have r1:w1.cell? ⟨w.heap.size+1+1,1,none⟩=some (.slice none 0 0):=bR.cell 1
   have fr0:=bR.frozen 0
   have fr1:=bR.frozen 1
   have lr:=bR.lt
   clear bR
   clear hb1
   go_wp2_with fail
   refine bodyPost_ret (v:=.tuple #[.agg #[.int .i64 0,.slice none 0 0],.bool false]) (by simp [results,Tryz.results32,go_sem,r0,r1]) rfl ⟨_,by rw [HF.out],?_,(hb2.setCell (p:=⟨w.heap.size+1+1,0,none⟩) (by simp only;omega) _).setCell (p:=⟨w.heap.size+1+1,1,none⟩) (by simp only;omega) _⟩
   rw [HF.out]
   exact ⟨_,rfl,Own.nil _ _ _ _ _ _⟩
 · have hco:=shortLen_ok (show 0<=shortLen g a x y by omega)
   obtain ⟨⟨hx0,hx1⟩,⟨hy0,hy1⟩,hgo,ha⟩:=cntOk_iff.1 hco
   have hlt:=shortLen_lt g a x y
   obtain ⟨L,hL⟩:=Int.eq_ofNat_of_zero_le (show 0<=shortLen g a x y by omega)
   rw [hL] at HSL hlt hneg
   obtain ⟨x,rfl⟩:=Int.eq_ofNat_of_zero_le hx0
   have HGO:=Hd_ hgo
   have HA:=Hd_ ha
   have HSO:=Hd_ (startOk ha)
   have hxl:x < g.vals.length:=by omega
   have hln:¬ (L:Int) < 0:=by omega
   have hR1:R.2=wi n 0 ((cw g a y L x (bit a.start.toNat):Nat) - 1):=by
    have hsh:nthSh g a (x:Int) y n=wi n 0 ((cw g a y L x (bit a.start.toNat):Nat) - 1):=by rw [nthSh,decide_eq_true (by omega),Bool.true_and,hL,Int.toNat_natCast];rfl
    rw [hR,nthShort,hsh]
    split <;> simp_all
   have hR2:R.1=if wi n 0 ((cw g a y L x (bit a.start.toNat):Nat) - 1)=true then ((x:Int),nthL g a y L x (bit a.start.toNat) n.toNat) else (0,[]):=by
    have hsh:nthSh g a (x:Int) y n=wi n 0 ((cw g a y L x (bit a.start.toNat):Nat) - 1):=by rw [nthSh,decide_eq_true (by omega),Bool.true_and,hL,Int.toNat_natCast];rfl
    rw [hR,nthShort,hsh]
    split
    · rw [hL];rfl
    · rfl
   have HNT:=Hd_ (fun (W:World) (v:Value) (lo:Nat) (h:LaysV g a y (x,bit a.start.toNat) L lo W v)=>l19Nth_any g a y (x,bit a.start.toNat) L lo v x n W h hgo ha ⟨hxl,startOk ha⟩ (by omega))
   simp only at HNT
   rw [<- hR1] at hR2 HNT
   rw [<- hR2] at HNT
   clear hco hgo ha hL hneg hx0 hx1 hy0 hy1 hR hR1 hR2
   go_enter Tryz.func32,Tryz.ntmps32
   go_wp2_with fail
   refine (HSL.out _ HB0.out).mono ?_
   rintro e w1 ⟨rfl,hb1⟩
   have hb2:=below_trans HB0.out hb1
   have bG:=HBG.out.keep hb1
   have bA:=HBA.out.keep hb1
   have x0:w1.cell? ⟨w.heap.size,0,none⟩=some (.slice A1 n1 c1):=bG.cell 0
   have x1:w1.cell? ⟨w.heap.size,1,none⟩=some (.slice A2 n2 c2):=bG.cell 1
   have y0:w1.cell? ⟨w.heap.size+1,0,none⟩=some (.int .i64 a.start):=bA.cell 0
   have y1:w1.cell? ⟨w.heap.size+1,1,none⟩=some (.slice A3 n3 c3):=bA.cell 1
   have y2:w1.cell? ⟨w.heap.size+1,2,none⟩=some (.slice A4 n4 c4):=bA.cell 2
   clear bG bA
   have HBR1:=Hd_ (HBR.out.keep hb1)
   clear hb1
   go_wp2_with fail
   refine (l19Layers_any _ _ g a x y L _ (HGV.out.keep hb2) (HAV.out.keep hb2) HGO.out HA.out hxl (by omega)).mono ?_
   rintro e w2 ⟨v2,rfl,hlv,hb3⟩
   have HB3:=Hd_ (below_trans hb2 hb3)
   have HBR2:=Hd_ (HBR1.out.keep hb3)
   have HLV:=Hd_ hlv
   clear hlv hb2 hb3
   go_wp2_with fail
   refine (HNT.out _ _ _ HLV.out).mono ?_
   rintro e w3 ⟨v3,rfl,⟨ss,rfl,hss⟩,hb4⟩
   obtain ⟨A9,n9,c9,rfl⟩:=hss.shape
   have HB5:=Hd_ (below_trans HB3.out hb4)
   have bR:=(HBR2.out.keep hb4).alloc (.cells #[.int .i64 R.1.1,.slice A9 n9 c9] 36)
   have hbD:=(below_trans HB3.out hb4).alloc (below_trans HB3.out hb4).size (.cells #[.int .i64 R.1.1,.slice A9 n9 c9] 36)
   have bV:=Blk.new w3 36 #[.int .i64 R.1.1,.slice A9 n9 c9] w3.heap.size rfl
   have hwsz:=w2.heap.size
   have HSSD:=Hd_ (hss.mono (lo':=w.heap.size) HB3.out.size (Nat.le_refl _))
   go_upto_region 5 with fail
   obtain ⟨wd,hwd⟩:∃ wd,wd=w3.alloc (.cells #[.int .i64 R.1.1,.slice A9 n9 c9] 36):=⟨_,rfl⟩
   rw [<- hwd] at bR bV hbD ⊢
   have hwb:∀ b,b < w3.heap.size->wd.heap[b]?=w3.heap[b]?:=fun b hb=>by rw [hwd];exact Below.heap_alloc _ _ _ hb
   have hws:w3.heap.size<=wd.heap.size:=by rw [hwd];simp
   clear hwd
   have lr2:=HBR2.out.lt
   have HOW:=Hd_ hss
   have e0:wd.cell? ⟨w.heap.size+1+1,0,none⟩=some (.int .i64 0):=bR.cell 0
   have e1:wd.cell? ⟨w.heap.size+1+1,1,none⟩=some (.slice none 0 0):=bR.cell 1
   have t0:wd.cell? ⟨w3.heap.size,0,none⟩=some (.int .i64 R.1.1):=bV.cell 0
   have t1:wd.cell? ⟨w3.heap.size,1,none⟩=some (.slice A9 n9 c9):=bV.cell 1
   have fr0:=bR.frozen 0
   have fr1:=bR.frozen 1
   have lr:=bR.lt
   have q0:((wd.setCell ⟨w.heap.size+1+1,0,none⟩ (.int .i64 R.1.1)).setCell ⟨w.heap.size+1+1,1,none⟩ (.slice A9 n9 c9)).cell? ⟨w.heap.size+1+1,0,none⟩=some (.int .i64 R.1.1):=by simpa using ((bR.set_ 0 (.int .i64 R.1.1)).set_ 1 (.slice A9 n9 c9)).cell 0
   have q1:((wd.setCell ⟨w.heap.size+1+1,0,none⟩ (.int .i64 R.1.1)).setCell ⟨w.heap.size+1+1,1,none⟩ (.slice A9 n9 c9)).cell? ⟨w.heap.size+1+1,1,none⟩=some (.slice A9 n9 c9):=by simpa using ((bR.set_ 0 (.int .i64 R.1.1)).set_ 1 (.slice A9 n9 c9)).cell 1
   have q2:(wd.setCell ⟨w.heap.size+1+1,0,none⟩ (.int .i64 R.1.1)).cell? ⟨w.heap.size+1+1,0,none⟩=some (.int .i64 R.1.1):=by simpa using (bR.set_ 0 (.int .i64 R.1.1)).cell 0
   have hwe:((wd.setCell ⟨w.heap.size+1+1,0,none⟩ (.int .i64 R.1.1)).setCell ⟨w.heap.size+1+1,1,none⟩ (.slice A9 n9 c9)).heap.size=wd.heap.size:=by simp [World.setCell]
   have hbn:∀ b,b < w3.heap.size->b ≠ w.heap.size+1+1->((wd.setCell ⟨w.heap.size+1+1,0,none⟩ (.int .i64 R.1.1)).setCell ⟨w.heap.size+1+1,1,none⟩ (.slice A9 n9 c9)).heap[b]?=w3.heap[b]?:=fun b hb hne=>by rw [Below.heap_setCell _ _ _ _ hne,Below.heap_setCell _ _ _ _ hne,hwb b hb]
   have HQ:=Hd_ (And.intro q0 (And.intro q1 (And.intro q2 (And.intro hwe hbn))))
   have HBE:=Hd_ ((hbD.setCell (p:=⟨w.heap.size+1+1,0,none⟩) (by simp only;omega) (.int .i64 R.1.1)).setCell (p:=⟨w.heap.size+1+1,1,none⟩) (by simp only;omega) (.slice A9 n9 c9))
   clear q0 q1 q2 hwe hbn bR bV hbD hwb hss
   go_wp2_with fail
   obtain ⟨q0,q1,q2,hwe,hbn⟩:=HQ.out
   refine bodyPost_ret (v:=.tuple #[.agg #[.int .i64 R.1.1,.slice A9 n9 c9],.bool R.2]) (by simp [results,Tryz.results32,go_sem,q0,q1,q2]) rfl ⟨_,rfl,?_,HBE.out⟩
   exact ⟨_,rfl,(HOW.out.blocks (fun b hb=>hbn b (HOW.out.lt b hb).2.2 (by have:=HOW.out.lt b hb;omega))).mono (by have:=HB3.out.size;omega) (by omega)⟩
end Go.Proofs.YtcnenpjaoalmeaaGreat
