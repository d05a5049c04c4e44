/- Parts of the proof, joined into one text: KeepS, LstS, AlongI, EqSt, RnkI, CmpW, HeldG, Rec, Seat. -/
import Derived.Test.YteaplabkemoenaaGreatOnlzOOJCFDDE
import Derived.Test.YteaplabkemoenaaGreatOnlzAIFFPHMF
import Derived.Test.YteaplabkemoenaaGreatOnlzGFGPLLBC
import Derived.Test.YteaplabkemoenaaGreatOnlzPICOOABE
import Derived.Test.YteaplabkemoenaaGreatOnlzFJCGBBIC
import Derived.Test.YteaplabkemoenaaGreatOnlzNELIBLED
import Derived.Test.YteaplabkemoenaaGreatOnlzJGIJMECD
import Derived.Test.YteaplabkemoenaaGreatOnlzCLALGGOF
import Derived.JoinedOf
import Derived.Test.YteaplabkemoenaaGreatRows
set_option linter.unusedVariables false
set_option linter.unusedSimpArgs false
namespace Go.Proofs.YteaplabkemoenaaGreat
open Go.ChangeShapes Go.WideShapes Go.ChangeAt Go.RowKit
attribute [local go_sem] ext_cell ext_frozen ext_lt ext_lt1 ext_lt2 ext_lt3 ltn2 ltn3 ltn13 lts1 lts2 lts3
theorem keepTo_yes {D:List Int} {n x set f q:Nat} (h:set.testBit q=true) (h2:D.getD (x * n+q) 0=(f:Int)):keepTo D n x set f (q+1)=ins (keepTo D n x set f q) q:=by rw [keepTo,if_pos (by rw [h,h2,beq_self_eq_true];rfl)]
theorem keepTo_no {D:List Int} {n x set f q:Nat} (h:set.testBit q=false ∨ D.getD (x * n+q) 0 ≠ (f:Int)):keepTo D n x set f (q+1)=keepTo D n x set f q:=by
 rw [keepTo,if_neg]
 rw [Bool.and_eq_true,beq_iff_eq]
 rintro ⟨h1,h2⟩
 rcases h with h | h
 · rw [h] at h1;cases h1
 · exact h h2
set_option maxHeartbeats 4000000 in
set_option maxRecDepth 100000 in
theorem l18Keep_any (v:Value) (D:List Int) (n x set f:Nat) (w:World) (hv:SlE w cI 1 v D) (hDl:x * n+n<=D.length) (hD:D.length<=60) (hn:n<=12) (hset:set < 4096) (hf:f<=60) :
 Calls Tryz.prog 35 #[v,.int .i64 (n:Int),.int .i64 (x:Int),.int .i64 (set:Int),.int .i64 (f:Int)] w fun e w'=>e=.returned (.int .i64 (keepTo D n x set f n:Nat))/\Below w.heap.size w w':=by
 obtain ⟨A1,c1,rfl,hl1,hm1,hC1⟩:=hv.form
 obtain ⟨P,hP⟩:∃ P,P=x * n:=⟨_,rfl⟩
 have hPl:P+n<=D.length:=by rw [hP];exact hDl
 have m1':(x:Int) * (n:Int)=(P:Int):=by rw [hP,Int.natCast_mul]
 have m1:IntKind.i64.wrap ((x:Int) * (n:Int))=(P:Int):=by rw [m1'];exact IntWalk.i64_in _ (by omega)
 have HC1:=Hd_ hC1
 have HP:=Hd_ hP
 have HM1:=Hd_ m1
 have HM1':=Hd_ m1'
 clear hv hC1 hDl hP m1 m1'
 go_enter Tryz.func35,Tryz.ntmps35
 go_wp2_with fail
 go_loopw [11,12] (fun mm qq wr=>∃ (q:Nat) (u:World),q<=n/\qq=.int .i64 (q:Int)/\mm=.int .i64 (keepTo D n x set f q:Nat)/\wr=ext w u) (fun _ qq _=>n - (intOf qq).toNat)
 case atStart=>exact ⟨0,w,Nat.zero_le _,rfl,rfl,ext_self _⟩
 case round =>
  obtain ⟨q,u,hq,rfl,rfl,rfl⟩:=hrel
  by_cases hlq:q < n
  · have hqi:(q:Int) < (n:Int):=by omega
    cases hb:set.testBit q with
    | false =>
      have e3':=bit_off (by omega) (by omega) hb
      have HR:=Hd_ (show keepTo D n x set f q=keepTo D n x set f (q+1) from (keepTo_no (.inl hb)).symm)
      clear hb
      go_wp2_with fail
      go_roundw
      case rel=>exact ⟨q+1,u,by omega,by go_num,by rw [<- HR.out],rfl⟩
      case measure=>simp [intOf];omega
    | true =>
      have e3':=bit_on (by omega) (by omega) hb
      have hdi:=getD_of (D:=D) (k:=P+q) (by omega)
      obtain ⟨b6,o6,rfl,hb6,d6⟩:=HC1.out.int hdi
      have hY:=fun h=>keepTo_yes (D:=D) (n:=n) (x:=x) (f:=f) hb h
      have hN:=fun h=>keepTo_no (D:=D) (n:=n) (x:=x) (set:=set) (f:=f) (q:=q) (.inr h)
      rw [<- HP.out] at hY hN
      have HY:=Hd_ hY
      have HN:=Hd_ hN
      have hkl:=keepTo_lt D n x set f q
      have hkl2:keepTo D n x set f q < 4096:=Nat.lt_of_lt_of_le hkl (Nat.pow_le_pow_right (by omega) (show q<=12 by omega))
      have m1:=HM1.out
      have hpq:(P:Int)+(q:Int)=((P+q:Nat):Int):=by omega
      have m2:IntKind.i64.wrap ((P:Int)+(q:Int))=((P+q:Nat):Int):=by rw [hpq];exact IntWalk.i64_in _ (by omega)
      have hpd:((P+q:Nat):Int) < (D.length:Int):=by omega
      clear hb hY hN hdi hkl
      generalize D.getD (P+q) 0=dv at *
      obtain ⟨J,hJ⟩:∃ J,J=P+q:=⟨_,rfl⟩
      rw [<- hJ] at d6 m2 hpd hpq
      clear hJ
      by_cases hd:dv=(f:Int)
      · have HR:=Hd_ (HY.out hd)
        have e1:=shl_bit (s:=q) (by omega)
        generalize keepTo D n x set f q=M at *
        have e2:=or_ins (m:=M) (s:=q) (by omega) (by omega)
        have hde:(dv==(f:Int))=true:=by simpa using hd
        clear hd
        go_wp2_with fail
        go_roundw
        case rel=>exact ⟨q+1,u,by omega,by go_num,by rw [HR.out],rfl⟩
        case measure=>simp [intOf];omega
      · have HR:=Hd_ (HN.out hd)
        have hde:(dv==(f:Int))=false:=by simpa using hd
        generalize keepTo D n x set f q=M at *
        clear hd
        go_wp2_with fail
        go_roundw
        case rel=>exact ⟨q+1,u,by omega,by go_num,by rw [HR.out],rfl⟩
        case measure=>simp [intOf];omega
  · obtain rfl:q=n:=by omega
    go_wp2_with fail
    go_ret
    exact ⟨rfl,ext_below w u⟩
theorem elStW:ElemOk Tryz.prog 37 66 (.agg #[.int .i64 0,.bool false]) 2 16:=⟨Tryz.underlying37,by kernel_rfl,rfl,by omega⟩
theorem own_blocksW {lo hi k:Nat} {w w':World} {e:TypeId} {v:Value} {α:Type} {E:α->List Value} {xs:List α} (h:Own lo hi w e E k v xs) (hb:∀ g,v.ownBlock=some g->w'.heap[g]?=w.heap[g]?):Own lo hi w' e E k v xs:=⟨ownsRow_block h.1 hb,h.2⟩
theorem lwL_hit {g:Gr} {a:Au} {D:List Int} {f x s j:Nat} {p:Arc} (h:(arcsOf g (x:Int))[j]?=some p) (hno:∀ r q,r < j->(arcsOf g (x:Int))[r]?=some q->keepA g a D f x s q=0) (hp:keepA g a D f x s p ≠ 0) :
 lwL g a D (f+1) x s=p.1 :: lwL g a D f p.2.2.toNat (keepA g a D f x s p):=by
 have hj:=(List.getElem?_eq_some_iff.1 h).1
 have:(arcsOf g (x:Int)).find? (fun p=>decide (keepA g a D f x s p ≠ 0))=some p:=by
  rw [List.find?_eq_some_iff_getElem]
  refine ⟨by simpa using hp,j,hj,(List.getElem?_eq_some_iff.1 h).2,fun r hr=>?_⟩
  have:=hno r _ hr (List.getElem?_eq_getElem (by omega))
  simp [this]
 rw [lwL,this]
theorem lwL_miss {g:Gr} {a:Au} {D:List Int} {f x s:Nat} (hno:∀ r q,r < (arcsOf g (x:Int)).length->(arcsOf g (x:Int))[r]?=some q->keepA g a D f x s q=0):lwL g a D (f+1) x s=lwL g a D f x s:=by
 have:(arcsOf g (x:Int)).find? (fun p=>decide (keepA g a D f x s p ≠ 0))=none:=by
  rw [List.find?_eq_none]
  intro p hp
  obtain ⟨r,hr,he⟩:=List.getElem_of_mem hp
  have:=hno r p hr (by rw [List.getElem?_eq_getElem hr,he])
  simp [this]
 rw [lwL,this]
set_option maxHeartbeats 8000000 in
set_option maxRecDepth 100000 in
theorem specLeastWitness (vg va:Value) (g:Gr) (a:Au) (x y:Int) (w:World) (hgv:GrV 0 w.heap.size w vg g) (hav:AuV 0 w.heap.size w va a) :
 Calls Tryz.prog 14 #[vg,va,.int .i64 x,.int .i64 y] w fun e w'=>∃ v',e=.returned (.tuple #[v',.bool (lstShort g a x y).2])/\WkO w.heap.size w'.heap.size w' v' (lstShort g a x y).1/\Below w.heap.size w w':=by
 have hgv0:=hgv
 have hav0:=hav
 obtain ⟨A1,n1,c1,A2,n2,c2,rfl⟩:=hgv.shape
 obtain ⟨A3,n3,c3,A4,n4,c4,rfl⟩:=hav.shape
 have hb0:Below w.heap.size w (((w.alloc (.cells #[.slice A1 n1 c1,.slice A2 n2 c2] 27)).alloc (.cells #[.int .i64 a.start,.slice A3 n3 c3,.slice A4 n4 c4] 31)).alloc (.cells #[.int .i64 0,.slice none 0 0] 39)):=(((Below.refl _ _).alloc (Nat.le_refl _) _).alloc (by simp) _).alloc (by simp;omega) _
 have hbG:=((Blk.new w 27 #[.slice A1 n1 c1,.slice A2 n2 c2] w.heap.size rfl).alloc (.cells #[.int .i64 a.start,.slice A3 n3 c3,.slice A4 n4 c4] 31)).alloc (.cells #[.int .i64 0,.slice none 0 0] 39)
 have hbA:=(Blk.new (w.alloc (.cells #[.slice A1 n1 c1,.slice A2 n2 c2] 27)) 31 #[.int .i64 a.start,.slice A3 n3 c3,.slice A4 n4 c4] (w.heap.size+1) (by simp)).alloc (.cells #[.int .i64 0,.slice none 0 0] 39)
 have hbR:=Blk.new ((w.alloc (.cells #[.slice A1 n1 c1,.slice A2 n2 c2] 27)).alloc (.cells #[.int .i64 a.start,.slice A3 n3 c3,.slice A4 n4 c4] 31)) 39 #[.int .i64 0,.slice none 0 0] (w.heap.size+1+1) (by simp)
 have HBG:=Hd_ hbG
 have HBA:=Hd_ hbA
 have HBR:=Hd_ hbR
 have HGV:=Hd_ hgv0
 have HAV:=Hd_ hav0
 have HB0:=Hd_ hb0
 have HSL:=Hd_ (fun (W:World) (hW:Below w.heap.size w W)=>specShortestLength _ _ g a x y W (HGV.out.keep hW) (HAV.out.keep hW))
 clear hgv hav hgv0 hav0 hb0 hbG hbA hbR
 obtain ⟨R,hR⟩:∃ R,R=lstShort g a x y:=⟨_,rfl⟩
 rw [<- hR]
 by_cases hneg:shortLen g a x y < 0
 · have HF:=Hd_ (show R=((0,[]),false) by rw [hR,lstShort,if_pos hneg])
   generalize shortLen g a x y=SL at *
   clear hR
   go_enter Tryz.func14,Tryz.ntmps14
   go_wp2_with fail
   refine (HSL.out _ HB0.out).mono ?_
   rintro e w1 ⟨rfl,hb1⟩
   have hb2:=below_trans HB0.out hb1
   have bR:=HBR.out.keep hb1
   have r0:w1.cell? ⟨w.heap.size+1+1,0,none⟩=some (.int .i64 0):=bR.cell 0
   have r1:w1.cell? ⟨w.heap.size+1+1,1,none⟩=some (.slice none 0 0):=bR.cell 1
   have fr0:=bR.frozen 0
   have fr1:=bR.frozen 1
   have lr:=bR.lt
   clear bR
   clear hb1
   go_wp2_with fail
   refine bodyPost_ret (v:=.tuple #[.agg #[.int .i64 0,.slice none 0 0],.bool false]) (by simp [results,Tryz.results14,go_sem,r0,r1]) rfl ⟨_,by rw [HF.out],?_,(hb2.setCell (p:=⟨w.heap.size+1+1,0,none⟩) (by simp only;omega) _).setCell (p:=⟨w.heap.size+1+1,1,none⟩) (by simp only;omega) _⟩
   rw [HF.out]
   exact ⟨_,rfl,Own.nil _ _ _ _ _ _⟩
 · have hco:=shortLen_ok (show 0<=shortLen g a x y by omega)
   obtain ⟨⟨hx0,hx1⟩,⟨hy0,hy1⟩,hgo,ha⟩:=cntOk_iff.1 hco
   have hlt:=shortLen_lt g a x y
   obtain ⟨L,hL⟩:=Int.eq_ofNat_of_zero_le (show 0<=shortLen g a x y by omega)
   rw [hL] at HSL hlt
   obtain ⟨x,rfl⟩:=Int.eq_ofNat_of_zero_le hx0
   obtain ⟨y,rfl⟩:=Int.eq_ofNat_of_zero_le hy0
   have hxl:x < g.vals.length:=by omega
   have hyl:y < g.vals.length:=by omega
   have hst0:=(auOk_iff.1 ha).2.1
   have hn12:=(auOk_iff.1 ha).1.2
   have hn5:=(grOk_iff.1 hgo).n5
   have hdl:=distTo_len (g:=g) (a:=a) (y:=(y:Int)) (by simp only [Bool.and_eq_true];exact ⟨by rw [wi_iff];omega,hgo,ha⟩)
   have hBK:=fun (W:World) (hW:Below w.heap.size w W)=>l14Back_any _ _ g a y W (HGV.out.keep hW) (HAV.out.keep hW) hgo ha hyl
   obtain ⟨D,hD⟩:∃ D,D=distTo g a (y:Int):=⟨_,rfl⟩
   obtain ⟨SS,hSS⟩:∃ SS,SS=lwL g a D L x (bit a.start.toNat):=⟨_,rfl⟩
   have HF:=Hd_ (show R=(((x:Int),SS),true) by rw [hR,lstShort,if_neg hneg,hL,hSS,hD,Int.toNat_natCast,Int.toNat_natCast])
   rw [<- hD] at hdl hBK
   have hd60:D.length<=60:=by rw [hdl];exact Nat.mul_le_mul hn5 hn12
   have HDL:=Hd_ hdl
   have HBK:=Hd_ hBK
   have HGO:=Hd_ hgo
   have HA:=Hd_ ha
   have HSS:=Hd_ hSS
   have hn3:n3=a.accept.length:=by
    obtain ⟨A3',c3',A4',c4',he,-⟩:=HAV.out.form ha
    injection he with he
    simp at he
    exact he.1.2.1
   have HS0:=Hd_ (show bit a.start.toNat < 2 ^ a.accept.length from bit_lt (by omega))
   obtain ⟨s0,hs0⟩:=Int.eq_ofNat_of_zero_le hst0.1
   have hs12:s0 < 12:=by omega
   have e1:=shl_bit (s:=s0) (by omega)
   have e2:wrap64 (2 ^ min s0 64)=(bit s0:Int):=by rw [Nat.min_eq_left (by omega)];exact e1
   have hst:a.start.toNat=s0:=by omega
   rw [hst] at HSS HS0
   have HE2:=Hd_ e2
   have HE1:=Hd_ e1
   have HS00:=Hd_ hs0
   subst hn3
   clear hneg hco hgo ha hx0 hx1 hy0 hy1 hL hD hSS hR hdl hBK hst hst0 e1 e2 hs0
   have HBX:=Hd_ (show Blk _ (w.heap.size+1) 31 #[.int .i64 a.start,.slice A3 a.accept.length c3,.slice A4 n4 c4] from HBA.out)
   have hln:¬ (L:Int) < 0:=by omega
   go_enter Tryz.func14,Tryz.ntmps14
   go_wp2_with fail
   refine (HSL.out _ HB0.out).mono ?_
   rintro e w1 ⟨rfl,hb1⟩
   have hb2:=below_trans HB0.out hb1
   have x0:w1.cell? ⟨w.heap.size,0,none⟩=some (.slice A1 n1 c1):=(HBG.out.keep hb1).cell 0
   have x1:w1.cell? ⟨w.heap.size,1,none⟩=some (.slice A2 n2 c2):=(HBG.out.keep hb1).cell 1
   have y0:w1.cell? ⟨w.heap.size+1,0,none⟩=some (.int .i64 a.start):=(HBA.out.keep hb1).cell 0
   have y1:w1.cell? ⟨w.heap.size+1,1,none⟩=some (.slice A3 a.accept.length c3):=(HBA.out.keep hb1).cell 1
   have y2:w1.cell? ⟨w.heap.size+1,2,none⟩=some (.slice A4 n4 c4):=(HBA.out.keep hb1).cell 2
   have HBG1:=Hd_ (HBG.out.keep hb1)
   have HBA1:=Hd_ (HBA.out.keep hb1)
   have HBR1:=Hd_ (HBR.out.keep hb1)
   clear hb1 HBX
   go_wp2_with fail
   refine (HBK.out _ hb2).mono ?_
   rintro e w2 ⟨vB,rfl,hoB,hb3⟩
   have hb4:=below_trans hb2 hb3
   have HOB:=Hd_ (hoB.sl cI_len)
   obtain ⟨A6,n6,c6,rfl⟩:=hoB.shape
   have HBG2:=Hd_ (HBG1.out.keep hb3)
   have HBA2:=Hd_ (HBA1.out.keep hb3)
   have HBR2:=Hd_ (HBR1.out.keep hb3)
   have HB4:=Hd_ hb4
   have y0:w2.cell? ⟨w.heap.size+1,0,none⟩=some (.int .i64 (s0:Int)):=by rw [<- HS00.out];exact HBA2.out.cell 0
   have hbs:=hb4.size
   clear hb2 hb3 hb4 hoB x0 x1 y1 y2
   have ly:=HBA2.out.lt
   have lr:=HBR2.out.lt
   have HBW2:=Hd_ (Blk.new w2 39 #[.int .i64 (x:Int),.slice none 0 0] w2.heap.size rfl)
   have HBN2:=Hd_ ((Below.refl w2.heap.size w2).alloc (Nat.le_refl _) (.cells #[.int .i64 (x:Int),.slice none 0 0] 39))
   have e1:=HE1.out
   go_wp2_with fail
   try rw [HE2.out]
   try rw [HE1.out]
   obtain ⟨bW,hbW⟩:∃ bW,bW=w2.heap.size:=⟨_,rfl⟩
   rw [<- hbW] at HBW2 HBN2 ly lr hbs ⊢
   have HBWe:=Hd_ hbW
   clear hbW e1 y0
   go_loopw [10,14,15] (fun ll nn ss wr=>∃ (f x' s':Nat) (O:List St) (oo:Value),ll=.int .i64 (f:Int)/\nn=.int .i64 (x':Int)/\ss=.int .i64 (s':Int)/\x' < g.vals.length/\s' < 2 ^ a.accept.length/\O ++ lwL g a D f x' s'=SS/\O.length+f<=L /\
    Blk wr bW 39 #[.int .i64 (x:Int),oo]/\wr.ownsRow (bW+1) 66 2 oo O.length (O.flatMap cSt)/\Below bW w2 wr) (fun ll _ _ _=>(intOf ll).toNat)
   case atStart=>exact ⟨L,x,bit s0,[],_,rfl,rfl,rfl,hxl,HS0.out,HSS.out.symm,by simp,HBW2.out,World.ownsRow_nil _ _ _ _,HBN2.out⟩
   case round =>
    obtain ⟨f1,x',s',O,oo,rfl,rfl,rfl,hxl',hs',hO,hOl,hbw,hrow,hbel⟩:=hrel
    have hsz:=hbel.size
    rw [<- HBWe.out] at hsz
    have lw:=hbw.lt
    have hbelW:=HB4.out.trans (hbel.mono (show w.heap.size<=bW by omega))
    cases f1 with
    | zero =>
      have hOe:O=SS:=by rw [<- hO];simp [lwL]
      have hown:=Own.of_row (xs:=O) hrow rfl rfl
      rw [hOe] at hown
      obtain ⟨A9,n9,c9,rfl⟩:=hown.shape
      have HOW:=Hd_ hown
      have hbr:=HBR2.out.keep (HBWe.out ▸ hbel)
      have w0:wr.cell? ⟨bW,0,none⟩=some (.int .i64 (x:Int)):=hbw.cell 0
      have w1:wr.cell? ⟨bW,1,none⟩=some (.slice A9 n9 c9):=hbw.cell 1
      have q0:((wr.setCell ⟨w.heap.size+1+1,0,none⟩ (.int .i64 (x:Int))).setCell ⟨w.heap.size+1+1,1,none⟩ (.slice A9 n9 c9)).cell? ⟨w.heap.size+1+1,0,none⟩=some (.int .i64 (x:Int)):=by simpa using ((hbr.set_ 0 (.int .i64 (x:Int))).set_ 1 (.slice A9 n9 c9)).cell 0
      have q1:((wr.setCell ⟨w.heap.size+1+1,0,none⟩ (.int .i64 (x:Int))).setCell ⟨w.heap.size+1+1,1,none⟩ (.slice A9 n9 c9)).cell? ⟨w.heap.size+1+1,1,none⟩=some (.slice A9 n9 c9):=by simpa using ((hbr.set_ 0 (.int .i64 (x:Int))).set_ 1 (.slice A9 n9 c9)).cell 1
      have fr0:=hbr.frozen 0
      have fr1:=hbr.frozen 1
      have q2:(wr.setCell ⟨w.heap.size+1+1,0,none⟩ (.int .i64 (x:Int))).cell? ⟨w.heap.size+1+1,0,none⟩=some (.int .i64 (x:Int)):=by simpa using (hbr.set_ 0 (.int .i64 (x:Int))).cell 0
      have HQ:=Hd_ (And.intro q0 (And.intro q1 q2))
      clear q0 q1 q2
      have q0:wr.cell? ⟨w.heap.size+1+1,0,none⟩=some (.int .i64 0):=hbr.cell 0
      have q1:wr.cell? ⟨w.heap.size+1+1,1,none⟩=some (.slice none 0 0):=hbr.cell 1
      have lrr:=hbr.lt
      have HBEL:=Hd_ hbelW
      have hbn:∀ b,b ≠ w.heap.size+1+1->((wr.setCell ⟨w.heap.size+1+1,0,none⟩ (.int .i64 (x:Int))).setCell ⟨w.heap.size+1+1,1,none⟩ (.slice A9 n9 c9)).heap[b]?=wr.heap[b]?:=fun b hb=>by rw [Below.heap_setCell _ _ _ _ hb,Below.heap_setCell _ _ _ _ hb]
      have HBN:=Hd_ hbn
      clear hO hOe hown hbr hbw hrow hbel hbelW hbn hs'
      go_wp2_with fail
      have HBS:=Hd_ ((HBEL.out.setCell (p:=⟨w.heap.size+1+1,0,none⟩) (by simp only;omega) (.int .i64 (x:Int))).setCell (p:=⟨w.heap.size+1+1,1,none⟩) (by simp only;omega) (.slice A9 n9 c9))
      obtain ⟨hq0,hq1,hq2⟩:=HQ.out
      have hwes:((wr.setCell ⟨w.heap.size+1+1,0,none⟩ (.int .i64 (x:Int))).setCell ⟨w.heap.size+1+1,1,none⟩ (.slice A9 n9 c9)).heap.size=wr.heap.size:=by simp [World.setCell]
      refine bodyPost_ret (v:=.tuple #[.agg #[.int .i64 (x:Int),.slice A9 n9 c9],.bool true]) (by simp [results,Tryz.results14,go_sem,hq0,hq1,hq2]) rfl ⟨_,by rw [HF.out],?_,HBS.out⟩
      rw [HF.out]
      exact ⟨_,rfl,(own_blocksW HOW.out (fun b hb=>HBN.out b (by have:=HOW.out.lt b hb;omega))).mono (by omega) (by omega)⟩
    | succ f =>
      have hbW2:=HBWe.out
      have hkeepW:=(HBWe.out ▸ hbel:Below w2.heap.size w2 wr)
      have x0:wr.cell? ⟨w.heap.size,0,none⟩=some (.slice A1 n1 c1):=(HBG2.out.keep hkeepW).cell 0
      have x1:wr.cell? ⟨w.heap.size,1,none⟩=some (.slice A2 n2 c2):=(HBG2.out.keep hkeepW).cell 1
      have y0:wr.cell? ⟨w.heap.size+1,0,none⟩=some (.int .i64 a.start):=(HBA2.out.keep hkeepW).cell 0
      have y1:wr.cell? ⟨w.heap.size+1,1,none⟩=some (.slice A3 a.accept.length c3):=(HBA2.out.keep hkeepW).cell 1
      have y2:wr.cell? ⟨w.heap.size+1,2,none⟩=some (.slice A4 n4 c4):=(HBA2.out.keep hkeepW).cell 2
      have qf:((f+1:Nat):Int) - 1=(f:Int):=by omega
      have qf2:IntKind.i64.wrap (((f+1:Nat):Int) - 1)=(f:Int):=by rw [qf];exact IntWalk.i64_in _ (by omega)
      have qf3:(0:Int) < ((f+1:Nat):Int):=by omega
      obtain ⟨F1,hF1⟩:∃ F1,F1=f+1:=⟨_,rfl⟩
      rw [<- hF1] at qf qf2 qf3 hO hOl ⊢
      have hF1a:f+1<=F1:=by omega
      have HF1:=Hd_ hF1
      have HBW:=Hd_ hbw
      have HROW:=Hd_ hrow
      have HBEL:=Hd_ hbel
      have HBELW:=Hd_ hbelW
      have HO:=Hd_ hO
      have HS':=Hd_ hs'
      clear hbw hrow hbel hbelW hO hkeepW hbW2 hF1 hs'
      go_wp2_with fail
      clear qf2
      refine (l4From_any _ g x' _ (HGV.out.keep HBELW.out) (grOk_iff.1 HGO.out).e12).mono ?_
      rintro e w5 ⟨v5,rfl,ho5,hb5⟩
      obtain ⟨A5,n5,c5,rfl⟩:=ho5.shape
      have hn5e:n5=(arcsOf g (x':Int)).length:=by
       obtain ⟨_,_,he,-⟩:=ho5.sl cSt_len
       injection he with _ he _
       rw [he,List.length_map]
      rw [hn5e] at ho5 ⊢
      have HO5:=Hd_ (ho5.sl cSt_len)
      have HRL:=Hd_ (fun b (hb:oo.ownBlock=some b)=>HROW.out.lt b hb)
      have HBW5:=Hd_ (HBW.out.keep hb5)
      have HROW5:=Hd_ (ownsRow_block HROW.out (fun b hb=>hb5.block b (HROW.out.lt b hb).2))
      have HBEL5:=Hd_ (HBEL.out.trans (hb5.mono hsz))
      have hs5:=hb5.size
      clear ho5 hn5e hb5 x0 x1 y0 y1 y2 HBW HROW HBEL
      have HAL:=Hd_ (arcs_len (grOk_iff.1 HGO.out) (x':Int))
      go_wp2_with fail
      go_loopw [14,15,17,18] (fun nn ss bb ii wi=>∃ (j x1 s1:Nat) (b:Bool) (O1:List St) (o1:Value),nn=.int .i64 (x1:Int)/\ss=.int .i64 (s1:Int)/\bb=.bool b/\ii=.int .i64 (j:Int)/\j<=(arcsOf g (x':Int)).length /\
       Blk wi bW 39 #[.int .i64 (x:Int),o1]/\wi.ownsRow (bW+1) 66 2 o1 O1.length (O1.flatMap cSt)/\Below bW w2 wi /\
       (b=false->x1=x'/\s1=s'/\O1=O/\o1=oo/\Below w5.heap.size w5 wi/\∀ r q,r < j->(arcsOf g (x':Int))[r]?=some q->keepA g a D f x' s' q=0) /\
       (b=true->x1 < g.vals.length/\s1 < 2 ^ a.accept.length/\O1 ++ lwL g a D f x1 s1=SS/\O1.length+f<=L)) (fun _ _ _ ii _=>(arcsOf g (x':Int)).length - (intOf ii).toNat)
      case atStart=>exact ⟨0,x',s',false,O,oo,rfl,rfl,rfl,rfl,Nat.zero_le _,HBW5.out,HROW5.out,HBEL5.out,fun _=>⟨rfl,rfl,rfl,rfl,Below.refl _ _,fun r q hr=>by omega⟩,fun h=>by cases h⟩
      case round =>
       clear HBW5 HROW5 HBEL5
       obtain ⟨j,x1,s1,b,O1,o1,rfl,rfl,rfl,rfl,hj,hbw,hrow,hbel,hno,hyes⟩:=hrel
       cases b with
       | true =>
         have hy:=hyes rfl
         have HY:=Hd_ hy
         have HBW:=Hd_ hbw
         have HROW:=Hd_ hrow
         have HBEL:=Hd_ hbel
         clear hno hyes hy hbw hrow hbel
         by_cases hlj:j < (arcsOf g (x':Int)).length
         · have hjj:(j:Int) < ((arcsOf g (x':Int)).length:Int):=by omega
           go_wp2_with fail
           go_roundw
           case rel=>exact ⟨f,x1,s1,O1,o1,rfl,rfl,rfl,HY.out.1,HY.out.2.1,HY.out.2.2.1,HY.out.2.2.2,HBW.out,HROW.out,HBEL.out⟩
           case measure=>have:=HF1.out;simp [intOf];omega
         · have hjj:¬ (j:Int) < ((arcsOf g (x':Int)).length:Int):=by omega
           go_wp2_with fail
           go_roundw
           case rel=>exact ⟨f,x1,s1,O1,o1,rfl,rfl,rfl,HY.out.1,HY.out.2.1,HY.out.2.2.1,HY.out.2.2.2,HBW.out,HROW.out,HBEL.out⟩
           case measure=>have:=HF1.out;simp [intOf];omega
       | false =>
         obtain ⟨rfl,rfl,rfl,rfl,hb5w,hmiss⟩:=hno rfl
         clear hyes hno
         by_cases hlj:j < (arcsOf g (x1:Int)).length
         · have hyi:(arcsOf g (x1:Int))[j]?=some (arcsOf g (x1:Int))[j]:=List.getElem?_eq_getElem hlj
           have hym:=List.getElem_mem hlj
           generalize (arcsOf g (x1:Int))[j]=p at hyi hym
           have hyr:=arc_range (grOk_iff.1 HGO.out) hym
           obtain ⟨e,he,hel,het⟩:=arc_stepEd HGO.out hym
           have HMISS:=Hd_ hmiss
           have HHIT:=Hd_ (fun h=>lwL_hit (a:=a) (D:=D) (f:=f) (s:=s1) hyi hmiss h)
           have HNEXT:=Hd_ (fun (h:keepA g a D f x1 s1 p=0) r q (hr:r < j+1) (hq:(arcsOf g (x1:Int))[r]?=some q)=>show keepA g a D f x1 s1 q=0 from by
            rcases Nat.lt_or_ge r j with h1 | h1
            · exact hmiss r q h1 hq
            · obtain rfl:r=j:=by omega
              rw [hyi] at hq
              injection hq with hq
              rw [<- hq];exact h)
           obtain ⟨⟨sid,sinv⟩,l,t⟩:=p
           simp only at hyr he hel het
           obtain ⟨l,rfl⟩:=Int.eq_ofNat_of_zero_le hyr.1.1
           obtain ⟨t,rfl⟩:=Int.eq_ofNat_of_zero_le hyr.2.1
           have htl:t < g.vals.length:=by omega
           have HNX:=Hd_ (fun (W:World) (hW:Below w.heap.size w W)=>by
            have h:=l18Next_any _ _ g a x1 s1 (sid,sinv) e l W (HGV.out.keep hW) (HAV.out.keep hW) HGO.out HA.out hxl' HS'.out he hel
            rw [het] at h
            exact h)
           have hMl:=aft_lt HA.out s1 (valAt g x1) l
           have hM4:=lt12 HA.out hMl
           have hKA:keepA g a D f x1 s1 ((sid,sinv),(l:Int),(t:Int))=keepTo D a.accept.length t (aft a s1 (valAt g x1) l) f a.accept.length:=by rw [keepA,keepK];simp
           have hKlt:keepA g a D f x1 s1 ((sid,sinv),(l:Int),(t:Int)) < 2 ^ a.accept.length:=by rw [hKA];exact keepTo_lt ..
           have HKE:=Hd_ hKA
           have HKLT:=Hd_ hKlt
           have hK4:=lt12 HA.out hKlt
           obtain ⟨KP,hKP⟩:∃ KP,KP=keepA g a D f x1 s1 ((sid,sinv),(l:Int),(t:Int)):=⟨_,rfl⟩
           rw [<- hKP] at HKE HKLT hK4 HHIT HNEXT
           simp only [Int.toNat_natCast] at HHIT
           have hsl:=HO5.out.below hb5w (Nat.le_refl _)
           obtain ⟨b8,o8,rfl,hb8,e0,e1⟩:=hsl.stI (i:=j) (x:=(sid,sinv)) (by rw [List.getElem?_map,hyi];rfl)
           simp only at e0 e1
           have hkeepW:=(HBWe.out ▸ hbel:Below w2.heap.size w2 wr)
           have u0:wr.cell? ⟨w.heap.size,0,none⟩=some (.slice A1 n1 c1):=(HBG2.out.keep hkeepW).cell 0
           have u1:wr.cell? ⟨w.heap.size,1,none⟩=some (.slice A2 n2 c2):=(HBG2.out.keep hkeepW).cell 1
           have v0:wr.cell? ⟨w.heap.size+1,0,none⟩=some (.int .i64 a.start):=(HBA2.out.keep hkeepW).cell 0
           have v1:wr.cell? ⟨w.heap.size+1,1,none⟩=some (.slice A3 a.accept.length c3):=(HBA2.out.keep hkeepW).cell 1
           have v2:wr.cell? ⟨w.heap.size+1,2,none⟩=some (.slice A4 n4 c4):=(HBA2.out.keep hkeepW).cell 2
           have HBW:=Hd_ hbw
           have HROW:=Hd_ hrow
           have HBEL:=Hd_ hbel
           have HB5W:=Hd_ hb5w
           have HBLW:=Hd_ (HB4.out.trans (hbel.mono (show w.heap.size<=bW by omega)))
           have HDW:=Hd_ ((HOB.out.below hkeepW (Nat.le_refl _)).all (HBWe.out ▸ hbel.size:w2.heap.size<=wr.heap.size))
           have hjj:(j:Int) < ((arcsOf g (x1:Int)).length:Int):=by omega
           have hsw:=hb5w.size
           have hb8w:b8 < wr.heap.size:=World.block_lt_of_cell? _ _ e0
           have lw0:w.heap.size < wr.heap.size:=World.block_lt_of_cell? _ _ u0
           have lw1:w.heap.size+1 < wr.heap.size:=World.block_lt_of_cell? _ _ v0
           have hlw:=hbw.lt
           obtain ⟨wq,hwq⟩:∃ wq:World,wq=wr:=⟨_,rfl⟩
           rw [<- hwq] at HBW HROW HBEL HB5W HBLW HDW u0 u1 v0 v1 v2 e0 e1 hsw hb8w lw0 lw1 hlw ⊢
           clear hwq hbw hrow hbel hb5w hsl hyi hym hmiss he hel het hKA hKlt hKP hkeepW hMl
           go_upto_region 16 with fail
           refine wp_region_ext_lit (by kernel_rfl) (by kernel_rfl) ?_
           repeat (go_big_quiet_step ((go_at_call 34;exact Calls.ext_of (HNX.out _ (below_trans HBLW.out (ext_below _ _))))))
           refine wpQuiet_nil ?_
           rintro _ ⟨u2,rfl⟩
           have hbU:=ext_below wq u2
           have HBU:=Hd_ hbU
           have hal:=arcs_len (grOk_iff.1 HGO.out) (x1:Int)
           have hj24:j<=24:=by omega
           have hmn:t * a.accept.length+a.accept.length<=D.length:=by
            rw [HDL.out,<- Nat.succ_mul]
            exact Nat.mul_le_mul_right _ htl
           have HKC:=Hd_ (fun (W:World) (hW:SlE W cI 1 (.slice A6 n6 c6) D)=>l18Keep_any _ D a.accept.length t (aft a s1 (valAt g x1) l) f W hW hmn hd60 hn12 hM4 (by omega))
           rw [<- HKE.out] at HKC
           generalize aft a s1 (valAt g x1) l=MM at *
           clear hmn hbU
           go_wp2_with fail
           refine (HKC.out _ (HDW.out.keep HBU.out)).mono ?_
           rintro e w7 ⟨rfl,hb7⟩
           have hbx:=below_trans HBU.out hb7
           by_cases hz:KP=0
           · have HNZ:=Hd_ (HNEXT.out hz)
             subst hz
             have HBX:=Hd_ hbx
             clear hbx hb7
             go_wp2_with fail
             go_roundw
             case rel=>exact ⟨j+1,x1,s1,false,O1,o1,rfl,rfl,rfl,by go_num,by omega,HBW.out.keep HBX.out,ownsRow_block HROW.out (fun b hb=>HBX.out.block b (HROW.out.lt b hb).2),HBEL.out.trans (HBX.out.mono (Nat.le_of_lt hlw)),fun _=>⟨rfl,rfl,rfl,rfl,HB5W.out.trans (HBX.out.mono hsw),HNZ.out⟩,fun h=>by cases h⟩
             case measure=>simp [intOf];omega
           · have hzb:(KP:Int) ≠ 0:=by omega
             have hzn:((KP:Int) != 0)=true:=by simpa using hz
             have HH:=Hd_ (HHIT.out hz)
             obtain ⟨A9,n9,c9,ho1⟩:=(Own.of_row (xs:=O1) HROW.out rfl rfl).shape
             subst ho1
             have v1:wq.cell? ⟨bW,1,none⟩=some (.slice A9 n9 c9):=HBW.out.cell 1
             have v1:=kcell hbx v1
             have s0:=kcell hbx e0
             have s1c:=kcell hbx e1
             have HBWX:=Hd_ (HBW.out.keep hbx)
             have HROWX:=Hd_ (ownsRow_block HROW.out (fun b hb=>hbx.block b (HROW.out.lt b hb).2))
             have HBELX:=Hd_ (HBEL.out.trans (hbx.mono (Nat.le_of_lt hlw)))
             have hsx:=hbx.size
             have hO60:O1.length<=60:=by omega
             have hrl:=HRL.out
             have lWx:bW < w7.heap.size:=by omega
             have hHRL:∀ b,(Value.slice A9 n9 c9).ownBlock=some b->bW+1<=b/\b < wq.heap.size:=fun b hb=>⟨(hrl b hb).1,by have:=(HROW.out.lt b hb).2;omega⟩
             have HR2:=Hd_ hHRL
             clear hbx hb7 e0 e1 u0 u1 v0 v2 hHRL hrl
             go_upto_region 19 with fail
             refine F_start 9 (fun w'=>w'.cell? ⟨bW,1,none⟩=some (.slice A9 n9 c9)/\w'.cell? ⟨b8,o8+j * 2,none⟩=some (.int .i64 sid)/\w'.cell? ⟨b8,o8+j * 2+1,none⟩=some (.bool sinv)) (by kernel_rfl) (by exact ⟨v1,s0,s1c⟩) (fun hS inv=>?_)
             refine F_tk 0 inv ?_
             try simp only [tA,tB,tC,Act.put,tE,tF,tG]
             clear inv;intro inv
             refine F_tk 1 inv ?_
             try simp only [tA,tB,tC,Act.put,tE,tF,tG]
             clear inv;intro inv
             refine F_tk 2 inv ?_
             try simp only [tA,tB,tC,Act.put,tE,tF,tG]
             clear inv;intro inv
             refine F_tk 3 inv ?_
             try simp only [tA,tB,tC,Act.put,tE,tF,tG]
             clear inv;intro inv
             refine F_tk 4 inv ?_
             try simp only [tA,tB,tC,Act.put,tE,tF,tG]
             clear inv;intro inv
             refine F_tk 5 inv ?_
             try simp only [tA,tB,tC,Act.put,tE,tF,tG]
             clear inv;intro inv
             refine F_o1 6 inv ?_;intro K hK
             try simp only [tA,tB,tC]
             go_simp
             refine hK.out _ _ (kA3 _ hS) (fun _ _=>?_)
             try simp only [tA,tB,tC,Act.put,tE,tF,tG]
             clear hK K inv hS;rename_i hS inv
             refine F_o1 7 inv ?_;intro K hK
             try simp only [tA,tB,tC]
             refine op_append1 cSt elStW rfl _ _ (by rfl) (bW+1) (.slice A9 n9 c9) O1 (sid,sinv) 1 _ (by rfl) (show ((w7.alloc (.cells #[.int .i64 sid,.bool sinv] 66)).drew).ownsRow (bW+1) 66 2 (.slice A9 n9 c9) O1.length (O1.flatMap cSt) from HROWX.out.alloc _) (by first | rfl | simp) (heap_alloc_new _ _) rfl (cSt_one _) (by omega) (by omega) (by simp;omega) ?_
             intro g2 cp2 w3 hown3 hgr3 hat3 hlt3
             have hrl:=HR2.out
             have g3:∀ b,b < w7.heap.size->(Value.slice A9 n9 c9).ownBlock ≠ some b->w3.heap[b]?=w7.heap[b]?:=fun b hb hn=>(hgr3.block b (by simp;omega) (fun e=>hn e.symm)).trans (Below.heap_alloc w7 _ b hb)
             have hs3:w7.heap.size < w3.heap.size:=by have:=hgr3.size;simp at this;omega
             have nw:(Value.slice A9 n9 c9).ownBlock ≠ some bW:=fun e=>by have:=hrl _ e;omega
             have n8:(Value.slice A9 n9 c9).ownBlock ≠ some b8:=fun e=>by have:=HRL.out _ e;omega
             have hbw3:Blk w3 bW 39 #[.int .i64 (x:Int),.slice A9 n9 c9]:=(g3 bW (by omega) nw).trans HBWX.out
             have v1':w3.cell? ⟨bW,1,none⟩=some (.slice A9 n9 c9):=hbw3.cell 1
             have f1':=hbw3.frozen 1
             have l1':=hbw3.lt
             refine hK.out _ _ (⟨hgr3.cell hS.1 (fun e=>by have:=hrl _ e.symm;simp only at this;omega),hgr3.cell hS.2.1 (fun e=>by have:=HRL.out _ e.symm;simp only at this;omega),hgr3.cell hS.2.2 (fun e=>by have:=HRL.out _ e.symm;simp only at this;omega)⟩) (fun _ _=>?_)
             try simp only [tA,tB,tC,Act.put,tE,tF,tG]
             clear hK K inv hS;rename_i hS inv
             refine F_tk 8 inv ?_
             try simp only [tA,tB,tC,Act.put,tE,tF,tG]
             clear inv;intro inv
             refine F_l1 9 ?_;intro K hK
             go_simp
             refine hK _ _ ?_
             clear hK K inv hS
             obtain ⟨w4,hw4⟩:∃ w4,w4=w3.setCell ⟨bW,1,none⟩ (.slice (some ⟨g2,0,none⟩) (O1.length+1) cp2):=⟨_,rfl⟩
             have hs4w:w3.heap.size=w4.heap.size:=by rw [hw4];simp [World.setCell]
             have g4:∀ b,b < w3.heap.size->b ≠ bW->w4.heap[b]?=w3.heap[b]?:=fun b hb hne=>by rw [hw4];exact Below.heap_setCell w3 ⟨bW,1,none⟩ _ b hne
             have hbw4:Blk w4 bW 39 #[.int .i64 (x:Int),.slice (some ⟨g2,0,none⟩) (O1.length+1) cp2]:=by
              have h:=hbw3.set_ 1 (.slice (some ⟨g2,0,none⟩) (O1.length+1) cp2)
              rw [<- hw4] at h
              simpa using h
             have hg2:g2 ≠ bW:=by
              rcases hat3 with h | h
              · have:=hrl g2 h;omega
              · simp at h;omega
             have hrow4:=ownsRow_block (w':=w4) hown3 (fun b hb=>by
              have he:g2=b:=by simpa [Value.ownBlock] using hb
              exact g4 b (by omega) (by rw [<- he];exact hg2))
             have hbl4:Below bW w2 w4:=by
              rw [hw4]
              have h1:Below bW w2 ((w7.alloc (.cells #[.int .i64 sid,.bool sinv] 66)).drew):=(HBELX.out.alloc (by omega) _).drew
              exact (h1.grown hgr3 (by simp;omega) (fun b hb=>by have:=hrl b hb;omega)).setCell (by simp only;omega) _
             have HBW4:=Hd_ hbw4
             have HROW4:=Hd_ hrow4
             have HBL4:=Hd_ hbl4
             rw [<- hw4]
             clear hw4 hbw4 hrow4 hbl4 g4 g3 hbw3 v1' f1' l1' hown3 hgr3 hat3 hlt3 hrl nw n8 v1 s0 s1c
             go_wp2_with fail
             go_roundw
             case rel =>
              refine ⟨j+1,t,KP,true,O1 ++ [(sid,sinv)],_,rfl,rfl,rfl,by go_num,by omega,HBW4.out,HROW4.out,HBL4.out,(fun h=>by cases h),fun _=>⟨htl,HKLT.out,?_,by simp;omega⟩⟩
              have h:=HO.out
              rw [HF1.out,HH.out] at h
              rw [List.append_assoc];exact h
             case measure=>simp [intOf];omega
         · obtain rfl:j=(arcsOf g (x1:Int)).length:=by omega
           have HM:=Hd_ (lwL_miss hmiss)
           have HBW:=Hd_ hbw
           have HROW:=Hd_ hrow
           have HBEL:=Hd_ hbel
           have hjj:¬ ((arcsOf g (x1:Int)).length:Int) < ((arcsOf g (x1:Int)).length:Int):=by omega
           clear hbw hrow hbel hb5w hmiss
           go_wp2_with fail
           go_roundw
           case rel=>exact ⟨f,x1,s1,O1,o1,rfl,rfl,rfl,hxl',HS'.out,by rw [<- HM.out,<- HF1.out];exact HO.out,by omega,HBW.out,HROW.out,HBEL.out⟩
           case measure=>have:=HF1.out;simp [intOf];omega
set_option maxHeartbeats 1000000 in
theorem implStepLetter (v:Value) (g:Gr) (s:St) (w:World) (hv:GrV 0 w.heap.size w v g) :
 Calls Tryz.prog 94 #[v,.agg #[.int .i64 s.1,.bool s.2]] w fun en w'=>en=.returned (.int .i64 (stepLetter g s))/\Below w.heap.size w w':=by
 have hv0:=hv
 obtain ⟨A1,n1,c1,A2,n2,c2,rfl⟩:=hv.shape
 clear hv
 obtain ⟨id,inv⟩:=s
 have hb0:Below w.heap.size w ((w.alloc (.cells #[.slice A1 n1 c1,.slice A2 n2 c2] 27)).alloc (.cells #[.int .i64 id,.bool inv] 66)):=((Below.refl _ _).alloc (Nat.le_refl _) _).alloc (by simp) _
 have hc:=fun W (hW:Below w.heap.size w W)=>implStepEdge _ g (id,inv) W (hv0.keep hW)
 simp only at hc ⊢
 have HC:=Hd_ hc
 clear hc
 cases hs:stepEd g id with
 | none =>
   have hres:stepLetter g (id,inv)=-1:=by rw [stepLetter];simp [hs]
   have HR:=Hd_ hres
   rw [hs] at HC
   clear hres hs
   go_enter Tryz.func94,Tryz.ntmps94
   go_wp2_with fail
   refine (HC.out _ hb0).mono ?_
   rintro en w1 ⟨e,rfl,-,hb1⟩
   have hb2:=below_trans hb0 hb1
   clear hb0 hb1
   go_wp2_with fail
   go_ret
   exact ⟨ret_int HR.out.symm,hb2.alloc hb2.size _⟩
 | some e =>
   rw [hs] at HC
   have hres:stepLetter g (id,inv)=arcLetter inv e:=stepLetter_of (s:=(id,inv)) hs
   obtain ⟨hg,hm,-⟩:=stepEd_ok hs
   have hl:=(hg.edges e hm).2.2.2
   have HR:=Hd_ hres
   clear hres hs hg hm
   go_enter Tryz.func94,Tryz.ntmps94
   go_wp2_with fail
   refine (HC.out _ hb0).mono ?_
   rintro en w1 ⟨e1,rfl,he1,hb1⟩
   obtain rfl:=he1 e rfl
   have b1:=(Blk.new (w.alloc _) _ _ (w.heap.size+1) (by simp)).keep hb1
   have y1:w1.cell? ⟨w.heap.size+1,1,none⟩=some _:=b1.cell 1
   have hlt:=b1.lt
   have hb2:=below_trans hb0 hb1
   have hb3:=hb2.alloc hb2.size (.cells #[.int .i64 e.1,.int .i64 e.2.1,.int .i64 e.2.2.1,.int .i64 e.2.2.2] 110)
   clear hb0 hb1 he1 b1
   go_wp2_with fail
   refine (reads_any e inv _ hl.1 hl.2).mono ?_
   rintro en w2 ⟨rfl,hb4⟩
   go_wp2_with fail
   go_ret
   exact ⟨ret_int HR.out.symm,below_trans hb3 hb4⟩
theorem flatN_at {xs:List Nat} {t:Nat} {x:Nat} (h:xs[t]?=some x):(xs.flatMap cN)[t]?=some (.int .i64 (x:Int)):=by
 have:=flat_at cN_len h 0 _ rfl
 simpa using this
set_option maxHeartbeats 8000000 in
set_option maxRecDepth 100000 in
theorem along_any (vg va vk:Value) (g:Gr) (a:Au) (k:Wk) (w:World) (hgv:GrV 0 w.heap.size w vg g) (hav:AuV 0 w.heap.size w va a) (hkv:WkV 0 w.heap.size w vk k) :
 Calls Tryz.prog 80 #[vg,va,vk] w fun e w'=>∃ v1 v2,e=.returned (.tuple #[v1,v2,.bool (walkOk g k && auOk a)])/\Own w.heap.size w'.heap.size w' 3 cN 1 v1 (alongS g a k)/\Own w.heap.size w'.heap.size w' 3 cI 1 v2 (alongN g a k)/\Below w.heap.size w w':=by
 have hgv0:=hgv
 have hav0:=hav
 have hkv0:=hkv
 obtain ⟨A1,c1,A2,c2,rfl,hl1,hm1,hl2,hm2,hC1,-⟩:=hgv.form
 obtain ⟨A3,n3,c3,A4,n4,c4,rfl⟩:=hav.shape
 obtain ⟨A5,c5,rfl,hl5,hm5,hC5⟩:=hkv.form
 have hb0:Below w.heap.size w (((w.alloc (.cells #[.slice A1 g.vals.length c1,.slice A2 g.edges.length c2] 27)).alloc (.cells #[.int .i64 a.start,.slice A3 n3 c3,.slice A4 n4 c4] 31)).alloc (.cells #[.int .i64 k.1,.slice A5 k.2.length c5] 39)):=(((Below.refl _ _).alloc (Nat.le_refl _) _).alloc (by simp) _).alloc (by simp;omega) _
 obtain ⟨RS,hRS⟩:∃ RS,RS=alongS g a k:=⟨_,rfl⟩
 obtain ⟨RN,hRN⟩:∃ RN,RN=alongN g a k:=⟨_,rfl⟩
 obtain ⟨ok,hok⟩:∃ ok,ok=(walkOk g k && auOk a):=⟨_,rfl⟩
 rw [<- hRS,<- hRN,<- hok]
 have HOK:=Hd_ hok
 have HRS:=Hd_ hRS
 have HRN:=Hd_ hRN
 have HGV:=Hd_ hgv0
 have HAV:=Hd_ hav0
 have HKV:=Hd_ hkv0
 have HC1:=Hd_ hC1
 have HC5:=Hd_ hC5
 clear hgv hav hkv hgv0 hav0 hkv0 hC1 hC5 hRS hRN hok
 go_enter Tryz.func80,Tryz.ntmps80
 go_wp2_with fail
 obtain ⟨W0,hW0⟩:∃ W0,W0=(((w.alloc (.cells #[.slice A1 g.vals.length c1,.slice A2 g.edges.length c2] 27)).alloc (.cells #[.int .i64 a.start,.slice A3 n3 c3,.slice A4 n4 c4] 31)).alloc (.cells #[.int .i64 k.1,.slice A5 k.2.length c5] 39)):=⟨_,rfl⟩
 rw [<- hW0] at hb0 ⊢
 have bx:Blk W0 w.heap.size 27 #[.slice A1 g.vals.length c1,.slice A2 g.edges.length c2]:=by rw [hW0];exact ((Blk.new w _ _ w.heap.size rfl).alloc _).alloc _
 have by_:Blk W0 (w.heap.size+1) 31 #[.int .i64 a.start,.slice A3 n3 c3,.slice A4 n4 c4]:=by rw [hW0];exact (Blk.new (w.alloc _) _ _ (w.heap.size+1) (by simp)).alloc _
 have bz:Blk W0 (w.heap.size+1+1) 39 #[.int .i64 k.1,.slice A5 k.2.length c5]:=by rw [hW0];exact Blk.new ((w.alloc _).alloc _) _ _ (w.heap.size+1+1) (by simp)
 have x0:W0.cell? ⟨w.heap.size,0,none⟩=some (.slice A1 g.vals.length c1):=by exact bx.cell 0
 have x1:W0.cell? ⟨w.heap.size,1,none⟩=some (.slice A2 g.edges.length c2):=by exact bx.cell 1
 have y0:W0.cell? ⟨w.heap.size+1,0,none⟩=some (.int .i64 a.start):=by exact by_.cell 0
 have y1:W0.cell? ⟨w.heap.size+1,1,none⟩=some (.slice A3 n3 c3):=by exact by_.cell 1
 have y2:W0.cell? ⟨w.heap.size+1,2,none⟩=some (.slice A4 n4 c4):=by exact by_.cell 2
 have z0:W0.cell? ⟨w.heap.size+1+1,0,none⟩=some (.int .i64 k.1):=by exact bz.cell 0
 have z1:W0.cell? ⟨w.heap.size+1+1,1,none⟩=some (.slice A5 k.2.length c5):=by exact bz.cell 1
 have hs0:w.heap.size+1+1+1=W0.heap.size:=by rw [hW0];simp
 have l0:w.heap.size+1+1 < W0.heap.size:=by omega
 clear hW0 hs0 bx by_ bz
 have hnod:=implNodes _ _ g k W0 (HGV.out.keep hb0) (HKV.out.keep hb0)
 have HNOD:=Hd_ hnod
 clear hnod
 cases hw:walkOk g k with
 | false =>
   rw [hw] at HNOD
   have hfS:RS=[]:=by rw [HRS.out,alongS,hw];rfl
   have hfN:RN=[]:=by rw [HRN.out,alongN,hw];rfl
   have hfK:ok=false:=by rw [HOK.out,hw];rfl
   subst hfS hfN hfK
   refine HNOD.out.mono ?_
   rintro e w1 ⟨v1,rfl,ho1,hb1⟩
   obtain ⟨A6,c6,rfl,-,-,-⟩:=ho1.form cI_len
   clear hw HRS HRN HOK
   go_wp2_with fail
   go_ret3
   exact ⟨_,_,rfl,Own.nil _ _ _ _ _ _,Own.nil _ _ _ _ _ _,below_trans hb0 hb1⟩
 | true =>
   rw [hw] at HNOD
   cases ha:auOk a with
   | false =>
     have hfS:RS=[]:=by rw [HRS.out,alongS,hw,ha];rfl
     have hfN:RN=[]:=by rw [HRN.out,alongN,hw,ha];rfl
     have hfK:ok=false:=by rw [HOK.out,hw,ha];rfl
     subst hfS hfN hfK
     have HA:=Hd_ ha
     clear hw HRS HRN ha HOK
     refine HNOD.out.mono ?_
     rintro e w1 ⟨v1,rfl,ho1,hb1⟩
     obtain ⟨A6,c6,rfl,-,-,-⟩:=ho1.form cI_len
     have hb2:=below_trans hb0 hb1
     have y0:=kcell hb1 y0
     have y1:=kcell hb1 y1
     have y2:=kcell hb1 y2
     have l0:=Nat.lt_of_lt_of_le l0 hb1.size
     go_wp2_with fail
     refine (implValidAutomaton _ a _ (HAV.out.keep hb2)).mono ?_
     rw [HA.out]
     rintro e w2 ⟨rfl,hb3⟩
     go_wp2_with fail
     go_ret3
     exact ⟨_,_,rfl,Own.nil _ _ _ _ _ _,Own.nil _ _ _ _ _ _,below_trans hb2 hb3⟩
   | true =>
     have hfS:RS=setsL g a k (k.2.length+1):=by rw [HRS.out,alongS,hw,ha];rfl
     have hfN:RN=nodesL g k:=by rw [HRN.out,alongN,hw,ha];rfl
     have HFS:=Hd_ hfS
     have HFN:=Hd_ hfN
     have HW:=Hd_ hw
     have HA:=Hd_ ha
     have hfK:ok=true:=by rw [HOK.out,hw,ha];rfl
     subst hfK
     clear hw HRS HRN ha hfS hfN HOK
     refine HNOD.out.mono ?_
     rintro e w1 ⟨v1,rfl,ho1,hb1⟩
     rw [nodesOut_yes HW.out] at ho1
     obtain ⟨A6,c6,rfl,hl6,hm6,-⟩:=ho1.form cI_len
     have hb2:=below_trans hb0 hb1
     have x0:=kcell hb1 x0
     have x1:=kcell hb1 x1
     have y0:=kcell hb1 y0
     have y1:=kcell hb1 y1
     have y2:=kcell hb1 y2
     have z0:=kcell hb1 z0
     have z1:=kcell hb1 z1
     have l0:=Nat.lt_of_lt_of_le l0 hb1.size
     have HO1:=Hd_ ho1
     clear ho1 HNOD
     rw [nodesL_len] at hl6 ⊢
     go_wp2_with fail
     refine (implValidAutomaton _ a _ (HAV.out.keep hb2)).mono ?_
     rw [HA.out]
     rintro e w2 ⟨rfl,hb3⟩
     have hbw:=below_trans hb2 hb3
     have x0:=kcell hb3 x0
     have x1:=kcell hb3 x1
     have y0:=kcell hb3 y0
     have y1:=kcell hb3 y1
     have y2:=kcell hb3 y2
     have z0:=kcell hb3 z0
     have z1:=kcell hb3 z1
     have l0:=Nat.lt_of_lt_of_le l0 hb3.size
     obtain ⟨⟨hn1,hn12⟩,⟨hst0,hst1⟩,-,-⟩:=auOk_iff.1 HA.out
     obtain ⟨s,hs⟩:∃ s:Nat,a.start=(s:Int):=⟨a.start.toNat,by omega⟩
     rw [hs] at y0 HAV
     have hsn:s < a.accept.length:=by omega
     have e1:=shl_bit (s:=s) (by omega)
     have hS1:setsL g a k (0+1)=[bit s]:=by simp [setsL,setAt,hs]
     have HS1:=Hd_ hS1
     have hr1:=ownsRow_below (HO1.out.1) hb3 (Nat.le_refl _)
     rw [nodesL_len] at hr1
     obtain ⟨gN,cN',hvN,-,hgN,-,-⟩:=own_some hr1 (by omega)
     injection hvN with e2 _ e3
     subst e2
     subst e3
     have HR1:=Hd_ hr1
     have HB3:=Hd_ hb3
     have hs3:=hb3.size
     have hs2:=hb2.size
     have hg3:=(walkOk_parts HW.out).2.2.1
     have HGO:=Hd_ (walkOk_parts HW.out).1
     clear hs hst0 hst1 hS1 hr1 hb3 hb1 hb0 HO1
     go_wp2_with fail
     go_loopw [11,34] (fun ss ii wr=>∃ i:Nat,i<=k.2.length/\ii=.int .i64 (i:Int)/\wr.ownsRow w2.heap.size 3 1 ss (setsL g a k (i+1)).length ((setsL g a k (i+1)).flatMap cN)/\Below w2.heap.size w2 wr) (fun _ ii _=>k.2.length - (intOf ii).toNat)
     case atStart=>exact ⟨0,Nat.zero_le _,rfl,by rw [HS1.out];exact World.ownsRow_lit w2 #[.int .i64 (bit s:Int)] 1 (Nat.le_refl _) (by decide) rfl,(Below.refl _ _).alloc (Nat.le_refl _) _⟩
     case round =>
      clear HS1 e1
      obtain ⟨i,hi,rfl,hrow,hbel⟩:=hrel
      have hbw2:=below_trans hbw hbel
      have x0:=kcell hbel x0
      have x1:=kcell hbel x1
      have y0:=kcell hbel y0
      have y1:=kcell hbel y1
      have y2:=kcell hbel y2
      have z0:=kcell hbel z0
      have z1:=kcell hbel z1
      have l0:=Nat.lt_of_lt_of_le l0 hbel.size
      have hsz:=hbel.size
      have HROW:=Hd_ hrow
      have HBW2:=Hd_ hbw2
      clear hrow hbw2
      by_cases hlt:i < k.2.length
      · obtain ⟨st,e,hst,he,ht,hl,hsl,hl6⟩:=walk_step HW.out hlt
        obtain ⟨sid,sinv⟩:=st
        obtain ⟨b5,o5,rfl,hb5,p0,p1⟩:=HC5.out.st hst
        have p0:=kcell hbel (kcell hbw p0)
        have p1:=kcell hbel (kcell hbw p1)
        obtain ⟨hna,hnl⟩:=nodeAt_lt HW.out hi
        have q0:=kcell hbel ((World.ownsRow.cellAt HR1.out i (by omega)).trans (flatI_at hna))
        have hvi:g.vals[nodeAt g k i]?=some g.vals[nodeAt g k i]:=List.getElem?_eq_getElem hnl
        have hvr:=HGO.out.vals _ (List.getElem_mem hnl)
        generalize g.vals[nodeAt g k i]=vx at hvi hvr
        obtain ⟨vx,rfl⟩:=Int.eq_ofNat_of_zero_le hvr.1
        have hva:=valAt_of hvi
        rw [Int.toNat_natCast] at hva
        obtain ⟨b1,o1,rfl,hb1,d1⟩:=HC1.out.int hvi
        have d1:=kcell hbel (kcell hbw d1)
        have hrow:=HROW.out
        rw [setsL_len] at hrow
        obtain ⟨gS,cS,rfl,hgS,hgS2,-,-⟩:=own_some hrow (by omega)
        have s0:=(World.ownsRow.cellAt hrow i (by omega)).trans (flatN_at (setsL_at (g:=g) (a:=a) (k:=k) (show i < i+1 by omega)))
        have HSA:=Hd_ (show setAt g a k (i+1)=aft a (setAt g a k i) vx (letAt g k i) by rw [<- hva];rfl)
        have HSN:=Hd_ (setsL_snoc g a k (i+1))
        have hsla:=setAt_lt HA.out k i (g:=g)
        have hsla4:=lt12 HA.out hsla
        have hsal:=setsL_len g a k (i+1)
        have HLET:=Hd_ (show ∀ W,Below w.heap.size w W->Calls Tryz.prog 94 #[.agg #[.slice (some ⟨b1,o1,none⟩) g.vals.length c1,.slice A2 g.edges.length c2],.agg #[.int .i64 sid,.bool sinv]] W fun e w'=>e=.returned (.int .i64 (letAt g k i:Int))/\Below W.heap.size W w' from fun W hW=>by
         have h:=implStepLetter _ g (sid,sinv) W (HGV.out.keep hW)
         rwa [hsl] at h)
        have HSL:=Hd_ hsla
        generalize letAt g k i=LI at *
        generalize setAt g a k i=SI at *
        generalize nodeAt g k i=NI at *
        generalize setsL g a k (i+1)=SX at *
        have hki:(i:Int) < (k.2.length:Int):=by omega
        have hni:(NI:Int) < (g.vals.length:Int):=by omega
        have hki1:(i:Int) < ((k.2.length:Int)+1):=by omega
        clear hst he ht hl hsl hna hvi hva hrow hsla
        go_wp2_with fail
        have hbA:Below wr.heap.size wr (wr.alloc (.cells #[.int .i64 sid,.bool sinv] 66)):=(Below.refl _ _).alloc (Nat.le_refl _) _
        have t0:(wr.alloc (.cells #[.int .i64 sid,.bool sinv] 66)).cell? ⟨wr.heap.size,0,none⟩=some (.int .i64 sid):=by simp
        have t1:(wr.alloc (.cells #[.int .i64 sid,.bool sinv] 66)).cell? ⟨wr.heap.size,1,none⟩=some (.bool sinv):=by simp
        have x0:=kcell hbA x0
        have x1:=kcell hbA x1
        have y0:=kcell hbA y0
        have y1:=kcell hbA y1
        have y2:=kcell hbA y2
        have q0:=kcell hbA q0
        have d1:=kcell hbA d1
        have s0:=kcell hbA s0
        have HRA:=Hd_ (ownsRow_below HROW.out hbA (Nat.le_refl _))
        have hsA:=hbA.size
        generalize wr.alloc (.cells #[.int .i64 sid,.bool sinv] 66)=wA at *
        have hii1:(i:Int) < (i:Int)+1:=by omega
        have hbAd:=below_trans hbA ((Below.refl wA.heap.size wA).drew)
        refine F_start 19 (fun w'=>w'.cell? ⟨w.heap.size,0,none⟩=some (.slice (some ⟨b1,o1,none⟩) g.vals.length c1)/\w'.cell? ⟨w.heap.size,1,none⟩=some (.slice A2 g.edges.length c2)/\w'.cell? ⟨w.heap.size+1,0,none⟩=some (.int .i64 (s:Int))/\w'.cell? ⟨w.heap.size+1,1,none⟩=some (.slice A3 n3 c3)/\w'.cell? ⟨w.heap.size+1,2,none⟩=some (.slice A4 n4 c4)/\w'.cell? ⟨gN,i,none⟩=some (.int .i64 (NI:Int))/\w'.cell? ⟨b1,o1+NI,none⟩=some (.int .i64 (vx:Int))/\w'.cell? ⟨gS,i,none⟩=some (.int .i64 (SI:Int))/\w'.cell? ⟨wr.heap.size,0,none⟩=some (.int .i64 sid)/\w'.cell? ⟨wr.heap.size,1,none⟩=some (.bool sinv)) (by kernel_rfl) (by exact ⟨x0,x1,y0,y1,y2,q0,d1,s0,t0,t1⟩) (fun hS inv=>?_)
        refine F_tk 0 inv ?_
        try simp only [tA,tB,tC,Act.put,tE,tF,tG]
        clear inv;intro inv
        refine F_tk 1 inv ?_
        try simp only [tA,tB,tC,Act.put,tE,tF,tG]
        clear inv;intro inv
        refine F_tk 2 inv ?_
        try simp only [tA,tB,tC,Act.put,tE,tF,tG]
        clear inv;intro inv
        refine F_tk 3 inv ?_
        try simp only [tA,tB,tC,Act.put,tE,tF,tG]
        clear inv;intro inv
        refine F_tk 4 inv ?_
        try simp only [tA,tB,tC,Act.put,tE,tF,tG]
        clear inv;intro inv
        refine F_tk 5 inv ?_
        try simp only [tA,tB,tC,Act.put,tE,tF,tG]
        clear inv;intro inv
        refine F_tk 6 inv ?_
        try simp only [tA,tB,tC,Act.put,tE,tF,tG]
        clear inv;intro inv
        refine F_tk 7 inv ?_
        try simp only [tA,tB,tC,Act.put,tE,tF,tG]
        clear inv;intro inv
        refine F_tk 8 inv ?_
        try simp only [tA,tB,tC,Act.put,tE,tF,tG]
        clear inv;intro inv
        refine F_tk 9 inv ?_
        try simp only [tA,tB,tC,Act.put,tE,tF,tG]
        clear inv;intro inv
        refine F_tk 10 inv ?_
        try simp only [tA,tB,tC,Act.put,tE,tF,tG]
        clear inv;intro inv
        refine F_tk 11 inv ?_
        try simp only [tA,tB,tC,Act.put,tE,tF,tG]
        clear inv;intro inv
        refine F_tk 12 inv ?_
        try simp only [tA,tB,tC,Act.put,tE,tF,tG]
        clear inv;intro inv
        refine F_tk 13 inv ?_
        try simp only [tA,tB,tC,Act.put,tE,tF,tG]
        clear inv;intro inv
        refine F_tk 14 inv ?_
        try simp only [tA,tB,tC,Act.put,tE,tF,tG]
        clear inv;intro inv
        refine F_tk 15 inv ?_
        try simp only [tA,tB,tC,Act.put,tE,tF,tG]
        clear inv;intro inv
        refine F_o1 16 inv ?_;intro K hK
        try simp only [tA,tB,tC]
        go_simp
        refine (HLET.out _ (below_trans HBW2.out hbAd)).mono ?_
        rintro e wL ⟨rfl,hbL⟩
        refine hK.out _ _ (kB10 hbL hS) (fun _ _=>?_)
        try simp only [tA,tB,tC,Act.put,tE,tF,tG]
        clear hK K inv hS;rename_i hS inv
        refine F_o1 17 inv ?_;intro K hK
        try simp only [tA,tB,tC]
        go_simp
        refine (after_any _ a SI vx LI _ (HAV.out.keep (below_trans HBW2.out (below_trans hbAd hbL))) HA.out HSL.out (by omega) (by omega)).mono ?_
        rintro e wT ⟨rfl,hbT⟩
        have hbAT:=below_trans ((Below.refl wA.heap.size wA).drew) (below_trans hbL hbT)
        have HRT:=Hd_ (ownsRow_below HRA.out hbAT (Nat.le_refl _))
        have hsT:=hbAT.size
        refine hK.out _ _ (kB10 hbT hS) (fun _ _=>?_)
        try simp only [tA,tB,tC,Act.put,tE,tF,tG]
        clear hK K inv hS;rename_i hS inv
        refine F_o1 18 inv ?_;intro K hK
        try simp only [tA,tB,tC]
        go_simp
        refine hK.out _ _ (kA10 _ hS) (fun _ _=>?_)
        try simp only [tA,tB,tC,Act.put,tE,tF,tG]
        clear hK K inv hS;rename_i hS inv
        refine F_tail (i:=19) (by kernel_rfl) rfl rfl (by omega) (fun K hK=>?_)
        try simp only [tA,tB,tC]
        refine op_append1 cN elInt rfl _ _ (by rfl) w2.heap.size _ SX (aft a SI vx LI) 1 _ (by rfl) (by have h:=HRT.out.alloc (.cells #[.int .i64 (aft a SI vx LI:Int)] 3);rw [hsal] at h ⊢;exact h) (by first | rfl | simp) (heap_alloc_new _ _) rfl (cN_one _) (by omega) (by omega) (by simp;omega) ?_
        intro g2 cp2 w3 hown3 hgr3 hat3 hlt3
        have HW3:=Hd_ hown3
        have HG3:=Hd_ hgr3
        clear hown3 hgr3 hat3
        refine hK.out _ _ ?_
        try simp only [tA,tB,tC,Act.put,tE,tF,tG]
        clear hK K
        try clear inv hS
        refine F_l1 20 ?_;intro K hK
        go_simp
        refine hK _ _ ?_
        clear hK K
        go_wp2_with fail
        go_roundw
        case rel=>exact ⟨i+1,by omega,by go_num,by rw [HSN.out,HSA.out];have h:=HW3.out;rw [hsal] at h;exact h,(((hbel.trans (hbA.mono hsz)).trans (hbAT.mono (by omega))).alloc (by omega) _).trans (own_below (HRT.out.alloc _) (by simp;omega) HG3.out)⟩
        case measure=>simp [intOf];omega
      · obtain rfl:i=k.2.length:=by omega
        have hrow:=HROW.out
        rw [setsL_len] at hrow
        obtain ⟨gS,cS,rfl,hgS,hgS2,-,-⟩:=own_some hrow (by omega)
        have hoS:=Own.of_row (xs:=setsL g a k (k.2.length+1)) (ownsRow_mono (b:=w.heap.size) HROW.out (by omega)) (by rw [setsL_len]) rfl
        rw [<- HFS.out] at hoS
        have hoN:=Own.of_row (xs:=nodesL g k) (ownsRow_mono (b:=w.heap.size) (ownsRow_below HR1.out hbel (Nat.le_refl _)) (by omega)) (nodesL_len g k) rfl
        rw [<- HFN.out] at hoN
        have HOS:=Hd_ hoS
        have HON:=Hd_ hoN
        clear hrow hoS hoN
        go_wp2_with fail
        go_ret3
        exact ⟨_,_,rfl,HOS.out,HON.out,HBW2.out⟩
set_option maxHeartbeats 4000000 in
set_option maxRecDepth 100000 in
theorem implMatchesWalk (vg va vk:Value) (g:Gr) (a:Au) (k:Wk) (w:World) (hgv:GrV 0 w.heap.size w vg g) (hav:AuV 0 w.heap.size w va a) (hkv:WkV 0 w.heap.size w vk k) :
 Calls Tryz.prog 50 #[vg,va,vk] w fun e w'=>e=.returned (.bool (matchB g a k))/\Below w.heap.size w w':=by
 have hgv0:=hgv
 have hav0:=hav
 have hkv0:=hkv
 obtain ⟨A1,c1,A2,c2,rfl,hl1,hm1,hl2,hm2,hC1,-⟩:=hgv.form
 obtain ⟨A3,n3,c3,A4,n4,c4,rfl⟩:=hav.shape
 obtain ⟨A5,n5,c5,rfl⟩:=hkv.shape
 have hb0:Below w.heap.size w (((w.alloc (.cells #[.slice A1 g.vals.length c1,.slice A2 g.edges.length c2] 27)).alloc (.cells #[.int .i64 a.start,.slice A3 n3 c3,.slice A4 n4 c4] 31)).alloc (.cells #[.int .i64 k.1,.slice A5 n5 c5] 39)):=(((Below.refl _ _).alloc (Nat.le_refl _) _).alloc (by simp) _).alloc (by simp;omega) _
 have hal:=along_any _ _ _ g a k _ (hgv0.keep hb0) (hav0.keep hb0) (hkv0.keep hb0)
 obtain ⟨R,hR⟩:∃ R,R=matchB g a k:=⟨_,rfl⟩
 rw [<- hR]
 have HAL:=Hd_ hal
 have HR:=Hd_ hR
 have HGV:=Hd_ hgv0
 have HAV:=Hd_ hav0
 have HC1:=Hd_ hC1
 clear hgv hav hkv hgv0 hav0 hkv0 hC1 hR hal
 cases hok:walkOk g k && auOk a with
 | false =>
   rw [hok] at HAL
   have hfin:R=false:=by rw [HR.out,matchB,hok];rfl
   subst hfin
   clear HR hok
   go_enter Tryz.func50,Tryz.ntmps50
   go_wp2_with fail
   refine HAL.out.mono ?_
   rintro e w1 ⟨v1,v2,rfl,ho1,ho2,hb1⟩
   obtain ⟨A6,n6,c6,rfl⟩:=ho1.shape
   obtain ⟨A7,n7,c7,rfl⟩:=ho2.shape
   go_wp2_with fail
   refine wp_region_ext_lit (by kernel_rfl) (by kernel_rfl) ?_
   repeat (go_big_quiet_step (fail))
   refine wpQuiet_nil ?_
   rintro _ ⟨u2,rfl⟩
   go_wp2_with fail
   go_ret
   exact ⟨rfl,below_trans (below_trans hb0 hb1) (ext_below _ _)⟩
 | true =>
   rw [hok] at HAL
   have hfin:R=acc a (setAt g a k k.2.length) (valAt g (nodeAt g k k.2.length)):=by rw [HR.out,matchB,hok];simp
   have hS:alongS g a k=setsL g a k (k.2.length+1):=by rw [alongS,hok];rfl
   have hN:alongN g a k=nodesL g k:=by rw [alongN,hok];rfl
   rw [hS,hN] at HAL
   simp only [Bool.and_eq_true] at hok
   obtain ⟨hw,ha⟩:=hok
   have hl60:=(walkOk_parts hw).2.2.1
   have hgo:=(walkOk_parts hw).1
   obtain ⟨hna,hnl⟩:=nodeAt_lt hw (Nat.le_refl _)
   have hvi:g.vals[nodeAt g k k.2.length]?=some g.vals[nodeAt g k k.2.length]:=List.getElem?_eq_getElem hnl
   have hvr:=hgo.vals _ (List.getElem_mem hnl)
   generalize g.vals[nodeAt g k k.2.length]=vx at hvi hvr
   obtain ⟨vx,rfl⟩:=Int.eq_ofNat_of_zero_le hvr.1
   have hva:=valAt_of hvi
   rw [Int.toNat_natCast] at hva
   rw [hva] at hfin
   obtain ⟨b1,o1,rfl,hb1w,d1⟩:=HC1.out.int hvi
   have hsla:=setAt_lt ha k k.2.length (g:=g)
   have hs1:=setsL_at (g:=g) (a:=a) (k:=k) (show k.2.length < k.2.length+1 by omega)
   generalize setAt g a k k.2.length=SI at *
   generalize nodeAt g k k.2.length=NI at *
   have hni:(NI:Int) < (g.vals.length:Int):=by omega
   have HF:=Hd_ hfin
   have HW:=Hd_ hw
   have HA:=Hd_ ha
   have HS1:=Hd_ hs1
   have HNA:=Hd_ hna
   have HSL:=Hd_ hsla
   clear HR hfin hS hN hw ha hvi hva hgo hs1 hna hsla
   go_enter Tryz.func50,Tryz.ntmps50
   go_wp2_with fail
   obtain ⟨W0,hW0⟩:∃ W0,W0=(((w.alloc (.cells #[.slice (some ⟨b1,o1,none⟩) g.vals.length c1,.slice A2 g.edges.length c2] 27)).alloc (.cells #[.int .i64 a.start,.slice A3 n3 c3,.slice A4 n4 c4] 31)).alloc (.cells #[.int .i64 k.1,.slice A5 n5 c5] 39)):=⟨_,rfl⟩
   rw [<- hW0] at hb0 HAL ⊢
   have bx:Blk W0 w.heap.size 27 #[.slice (some ⟨b1,o1,none⟩) g.vals.length c1,.slice A2 g.edges.length c2]:=by rw [hW0];exact ((Blk.new w _ _ w.heap.size rfl).alloc _).alloc _
   have by_:Blk W0 (w.heap.size+1) 31 #[.int .i64 a.start,.slice A3 n3 c3,.slice A4 n4 c4]:=by rw [hW0];exact (Blk.new (w.alloc _) _ _ (w.heap.size+1) (by simp)).alloc _
   have x0:W0.cell? ⟨w.heap.size,0,none⟩=some (.slice (some ⟨b1,o1,none⟩) g.vals.length c1):=by exact bx.cell 0
   have x1:W0.cell? ⟨w.heap.size,1,none⟩=some (.slice A2 g.edges.length c2):=by exact bx.cell 1
   have y0:W0.cell? ⟨w.heap.size+1,0,none⟩=some (.int .i64 a.start):=by exact by_.cell 0
   have y1:W0.cell? ⟨w.heap.size+1,1,none⟩=some (.slice A3 n3 c3):=by exact by_.cell 1
   have y2:W0.cell? ⟨w.heap.size+1,2,none⟩=some (.slice A4 n4 c4):=by exact by_.cell 2
   have l0:=by_.lt
   have l00:=bx.lt
   have d1:=kcell hb0 d1
   have l1:b1 < W0.heap.size:=Nat.lt_of_lt_of_le hb1w hb0.size
   clear hW0 bx by_
   refine HAL.out.mono ?_
   rintro e w1 ⟨v1,v2,rfl,ho1,ho2,hb1⟩
   have x0:=kcell hb1 x0
   have x1:=kcell hb1 x1
   have y0:=kcell hb1 y0
   have y1:=kcell hb1 y1
   have y2:=kcell hb1 y2
   have d1:=kcell hb1 d1
   have hs1:=hb1.size
   have l0:=Nat.lt_of_lt_of_le l0 hs1
   have l00:=Nat.lt_of_lt_of_le l00 hs1
   have l1:=Nat.lt_of_lt_of_le l1 hs1
   have r1:=ho1.1
   have r2:=ho2.1
   rw [setsL_len] at r1
   rw [nodesL_len] at r2
   obtain ⟨gS,cS,rfl,-,hgS,-,-⟩:=own_some r1 (by omega)
   obtain ⟨gN,cN',rfl,-,hgN,-,-⟩:=own_some r2 (by omega)
   have s0:=(World.ownsRow.cellAt r1 k.2.length (by omega)).trans (flatN_at HS1.out)
   have q0:=(World.ownsRow.cellAt r2 k.2.length (by omega)).trans (flatI_at HNA.out)
   have hbw:=below_trans hb0 hb1
   have HBW:=Hd_ hbw
   have m1:((k.2.length:Int)+1) - 1=(k.2.length:Int):=by omega
   clear r1 r2 ho1 ho2 hb0 hb1 hbw
   go_wp2_with fail
   refine wp_region_ext_lit (by kernel_rfl) (by kernel_rfl) ?_
   repeat (go_big_quiet_step ((go_at_call 45;exact Calls.ext_of (acceptsAt_any _ a SI vx _ (HAV.out.keep (below_trans HBW.out (ext_below _ _))) HA.out HSL.out (by omega)))))
   refine wpQuiet_nil ?_
   rintro _ ⟨u2,rfl⟩
   go_wp2_with fail
   go_ret
   exact ⟨by rw [HF.out];rfl,below_trans HBW.out (ext_below _ _)⟩
set_option maxHeartbeats 4000000 in
theorem implIsWitness (vg va vk:Value) (g:Gr) (a:Au) (x y:Int) (k:Wk) (w:World) (hgv:GrV 0 w.heap.size w vg g) (hav:AuV 0 w.heap.size w va a) (hkv:WkV 0 w.heap.size w vk k) :
 Calls Tryz.prog 28 #[vg,va,.int .i64 x,.int .i64 y,vk] w fun e w'=>e=.returned (.bool (isWit g a x y k))/\Below w.heap.size w w':=by
 have hgv0:=hgv
 have hav0:=hav
 have hkv0:=hkv
 obtain ⟨A1,n1,c1,A2,n2,c2,rfl⟩:=hgv.shape
 obtain ⟨A3,n3,c3,A4,n4,c4,rfl⟩:=hav.shape
 obtain ⟨A5,n5,c5,rfl⟩:=hkv.shape
 have hb0:Below w.heap.size w (((w.alloc (.cells #[.slice A1 n1 c1,.slice A2 n2 c2] 27)).alloc (.cells #[.int .i64 a.start,.slice A3 n3 c3,.slice A4 n4 c4] 31)).alloc (.cells #[.int .i64 k.1,.slice A5 n5 c5] 39)):=(((Below.refl _ _).alloc (Nat.le_refl _) _).alloc (by simp) _).alloc (by simp;omega) _
 obtain ⟨R,hR⟩:∃ R,R=isWit g a x y k:=⟨_,rfl⟩
 rw [<- hR]
 have HR:=Hd_ (hR.trans (show isWit g a x y k=((k.1==x && walkEnd g k==y) && matchB g a k) from rfl))
 have HGV:=Hd_ hgv0
 have HAV:=Hd_ hav0
 have HKV:=Hd_ hkv0
 clear hgv hav hkv hgv0 hav0 hkv0 hR
 have HMW:=Hd_ (fun (W:World) (hW:Below w.heap.size w W)=>implMatchesWalk _ _ _ g a k W (HGV.out.keep hW) (HAV.out.keep hW) (HKV.out.keep hW))
 have HWE:=Hd_ (fun (W:World) (hW:Below w.heap.size w W)=>implWalkEnd _ _ g k W (HGV.out.keep hW) (HKV.out.keep hW))
 go_enter Tryz.func28,Tryz.ntmps28
 generalize matchB g a k=mb at HR HMW
 generalize walkEnd g k=we at HR HWE
 cases h1:(k.1==x) with
 | false =>
   have hfin:R=false:=by rw [HR.out,h1];rfl
   subst hfin
   clear HR
   go_wp2_with fail
   go_ret
   exact ⟨rfl,hb0⟩
 | true =>
   rw [h1,Bool.true_and] at HR
   go_wp2_with fail
   obtain ⟨W0,hW0⟩:∃ W0,W0=(((w.alloc (.cells #[.slice A1 n1 c1,.slice A2 n2 c2] 27)).alloc (.cells #[.int .i64 a.start,.slice A3 n3 c3,.slice A4 n4 c4] 31)).alloc (.cells #[.int .i64 k.1,.slice A5 n5 c5] 39)):=⟨_,rfl⟩
   rw [<- hW0] at hb0 ⊢
   have bx:Blk W0 w.heap.size 27 #[.slice A1 n1 c1,.slice A2 n2 c2]:=by rw [hW0];exact ((Blk.new w _ _ w.heap.size rfl).alloc _).alloc _
   have by_:Blk W0 (w.heap.size+1) 31 #[.int .i64 a.start,.slice A3 n3 c3,.slice A4 n4 c4]:=by rw [hW0];exact (Blk.new (w.alloc _) _ _ (w.heap.size+1) (by simp)).alloc _
   have bz:Blk W0 (w.heap.size+1+1) 39 #[.int .i64 k.1,.slice A5 n5 c5]:=by rw [hW0];exact Blk.new ((w.alloc _).alloc _) _ _ (w.heap.size+1+1) (by simp)
   have x0:W0.cell? ⟨w.heap.size,0,none⟩=some (.slice A1 n1 c1):=by exact bx.cell 0
   have x1:W0.cell? ⟨w.heap.size,1,none⟩=some (.slice A2 n2 c2):=by exact bx.cell 1
   have y0:W0.cell? ⟨w.heap.size+1,0,none⟩=some (.int .i64 a.start):=by exact by_.cell 0
   have y1:W0.cell? ⟨w.heap.size+1,1,none⟩=some (.slice A3 n3 c3):=by exact by_.cell 1
   have y2:W0.cell? ⟨w.heap.size+1,2,none⟩=some (.slice A4 n4 c4):=by exact by_.cell 2
   have z0:W0.cell? ⟨w.heap.size+1+1,0,none⟩=some (.int .i64 k.1):=by exact bz.cell 0
   have z1:W0.cell? ⟨w.heap.size+1+1,1,none⟩=some (.slice A5 n5 c5):=by exact bz.cell 1
   clear hW0 bx by_ bz
   refine (HWE.out W0 hb0).mono ?_
   rintro e w1 ⟨rfl,hb1⟩
   have hb2:=below_trans hb0 hb1
   have x0:=kcell hb1 x0
   have x1:=kcell hb1 x1
   have y0:=kcell hb1 y0
   have y1:=kcell hb1 y1
   have y2:=kcell hb1 y2
   have z0:=kcell hb1 z0
   have z1:=kcell hb1 z1
   cases h2:(we==y) with
   | false =>
     have hfin:R=false:=by rw [HR.out,h2];rfl
     subst hfin
     clear HR
     go_wp2_with fail
     go_ret
     exact ⟨rfl,hb2⟩
   | true =>
     rw [h2,Bool.true_and] at HR
     go_wp2_with fail
     refine (HMW.out w1 hb2).mono ?_
     rintro e w3 ⟨rfl,hb3⟩
     go_wp2_with fail
     go_ret
     exact ⟨by rw [HR.out];rfl,below_trans hb2 hb3⟩
end Go.Proofs.YteaplabkemoenaaGreat
namespace Go.Proofs.YteaplabkemoenaaGreat
open Go.ChangeShapes Go.WideShapes Go.ChangeAt Go.RowKit
theorem eqSt (a:Int) (b:Bool) (c:Int) (d:Bool) (w:World):(Op.equalIn 10000 66 (.agg #[.int .i64 a,.bool b]) (.agg #[.int .i64 c,.bool d])).run Tryz.prog w=.ok (a==c && b==d) w:=by
 have u3:=Tryz.underlying3
 have a3:=Tryz.isAgg3
 have z3:=Tryz.sizeOf3
 have u4:=Tryz.underlying4
 have a4:=Tryz.isAgg4
 have z4:=Tryz.sizeOf4
 have hS:Tryz.prog.underlying 66=some (.struct (Tryz.prog.fieldsOf 66)):=by kernel_rfl
 have hp:Tryz.prog.stoodInHeld 66=false:=by kernel_rfl
 rw [show (10000:Nat)=9999+1 from rfl,run_equalIn_agg w 9999 66 _ _ hS hp]
 simp only [Program.fieldsOf,Tryz.underlying66]
 go_simp
 by_cases h1:a=c <;> by_cases h2:b=d <;> simp [h1,h2]
theorem eqlSt (u v:St) (w:World):(binOp .eql 66 (.agg #[.int .i64 u.1,.bool u.2]) (.agg #[.int .i64 v.1,.bool v.2])).run Tryz.prog w=.ok (.bool (decide (u=v))) w:=by
 rw [run_eql_struct,eqSt]
 obtain ⟨a,b⟩:=u
 obtain ⟨c,d⟩:=v
 by_cases h1:a=c <;> by_cases h2:b=d <;> simp [h1,h2]
end Go.Proofs.YteaplabkemoenaaGreat
namespace Go.Proofs.YteaplabkemoenaaGreat
open Go.ChangeShapes Go.WideShapes Go.ChangeAt Go.RowKit Go.Maps
attribute [local go_sem] ext_cell ext_frozen ext_lt ext_lt1 ext_lt2 ext_lt3 ltn2 ltn3 ltn13 lts1 lts2 lts3
theorem rankSh_yes {g:Gr} {a:Au} {x y:Int} {k:Wk} {L:Nat} (h:shortLen g a x y=(L:Int)) (hl:k.2.length=L) (hw:isWit g a x y k=true):rankSh g a x y k=(rankTo g a y k L L:Nat):=by
 rw [rankSh,if_pos,hl]
 rw [hw,h,hl];simp
theorem rankSh_no {g:Gr} {a:Au} {x y:Int} {k:Wk} (h:shortLen g a x y < 0 ∨ ¬ (k.2.length:Int)=shortLen g a x y ∨ isWit g a x y k=false):rankSh g a x y k=-1:=by
 rw [rankSh,if_neg]
 simp only [Bool.and_eq_true,decide_eq_true_eq]
 rintro ⟨⟨h1,h2⟩,h3⟩
 rcases h with h | h | h
 · omega
 · exact h h2
 · rw [h] at h3;cases h3
set_option maxHeartbeats 8000000 in
set_option maxRecDepth 100000 in
theorem implRankShortest (vg va vk:Value) (g:Gr) (a:Au) (x y:Int) (k:Wk) (w:World) (hgv:GrV 0 w.heap.size w vg g) (hav:AuV 0 w.heap.size w va a) (hkv:WkV 0 w.heap.size w vk k) :
 Calls Tryz.prog 12 #[vg,va,.int .i64 x,.int .i64 y,vk] w fun e w'=>e=.returned (.int .i64 (rankSh g a x y k))/\Below w.heap.size w w':=by
 have hgv0:=hgv
 have hav0:=hav
 have hkv0:=hkv
 obtain ⟨A1,n1,c1,A2,n2,c2,rfl⟩:=hgv.shape
 obtain ⟨A3,n3,c3,A4,n4,c4,rfl⟩:=hav.shape
 obtain ⟨A5,c5,rfl,hl5,hm5,hC5⟩:=hkv.form
 have hb0:Below w.heap.size w (((w.alloc (.cells #[.slice A1 n1 c1,.slice A2 n2 c2] 27)).alloc (.cells #[.int .i64 a.start,.slice A3 n3 c3,.slice A4 n4 c4] 31)).alloc (.cells #[.int .i64 k.1,.slice A5 k.2.length c5] 39)):=(((Below.refl _ _).alloc (Nat.le_refl _) _).alloc (by simp) _).alloc (by simp;omega) _
 have hbG:=((Blk.new w 27 #[.slice A1 n1 c1,.slice A2 n2 c2] w.heap.size rfl).alloc (.cells #[.int .i64 a.start,.slice A3 n3 c3,.slice A4 n4 c4] 31)).alloc (.cells #[.int .i64 k.1,.slice A5 k.2.length c5] 39)
 have hbA:=(Blk.new (w.alloc (.cells #[.slice A1 n1 c1,.slice A2 n2 c2] 27)) 31 #[.int .i64 a.start,.slice A3 n3 c3,.slice A4 n4 c4] (w.heap.size+1) (by simp)).alloc (.cells #[.int .i64 k.1,.slice A5 k.2.length c5] 39)
 have hbK:=Blk.new ((w.alloc (.cells #[.slice A1 n1 c1,.slice A2 n2 c2] 27)).alloc (.cells #[.int .i64 a.start,.slice A3 n3 c3,.slice A4 n4 c4] 31)) 39 #[.int .i64 k.1,.slice A5 k.2.length c5] (w.heap.size+1+1) (by simp)
 have HBG:=Hd_ hbG
 have HBA:=Hd_ hbA
 have HBK:=Hd_ hbK
 have HGV:=Hd_ hgv0
 have HAV:=Hd_ hav0
 have HKV:=Hd_ hkv0
 have HC5:=Hd_ hC5
 have HB0:=Hd_ hb0
 have HSL:=Hd_ (fun (W:World) (hW:Below w.heap.size w W)=>implShortestLength _ _ g a x y W (HGV.out.keep hW) (HAV.out.keep hW))
 have HIW:=Hd_ (fun (W:World) (hW:Below w.heap.size w W)=>implIsWitness _ _ _ g a x y k W (HGV.out.keep hW) (HAV.out.keep hW) (HKV.out.keep hW))
 obtain ⟨R,hR⟩:∃ R,R=rankSh g a x y k:=⟨_,rfl⟩
 rw [<- hR]
 clear hgv hav hkv hgv0 hav0 hkv0 hb0 hbG hbA hbK hC5
 by_cases hneg:shortLen g a x y < 0
 · have HF:=Hd_ (show R=-1 by rw [hR];exact rankSh_no (.inl hneg))
   generalize shortLen g a x y=SL at *
   clear hR
   go_enter Tryz.func12,Tryz.ntmps12
   go_wp2_with fail
   refine (HSL.out _ HB0.out).mono ?_
   rintro e w1 ⟨rfl,hb1⟩
   have hb2:=below_trans HB0.out hb1
   go_wp2_with fail
   go_ret
   exact ⟨by rw [HF.out];rfl,hb2⟩
 · by_cases hlen:(k.2.length:Int)=shortLen g a x y
   · cases hw:isWit g a x y k with
     | false =>
       have HF:=Hd_ (show R=-1 by rw [hR];exact rankSh_no (.inr (.inr hw)))
       rw [hw] at HIW
       rw [<- hlen] at HSL
       have hneg1:¬ (k.2.length:Int) < 0:=by omega
       clear hR hneg hlen hw
       go_enter Tryz.func12,Tryz.ntmps12
       go_wp2_with fail
       refine (HSL.out _ HB0.out).mono ?_
       rintro e w1 ⟨rfl,hb1⟩
       have hb2:=below_trans HB0.out hb1
       have x0:w1.cell? ⟨w.heap.size,0,none⟩=some (.slice A1 n1 c1):=(HBG.out.keep hb1).cell 0
       have x1:w1.cell? ⟨w.heap.size,1,none⟩=some (.slice A2 n2 c2):=(HBG.out.keep hb1).cell 1
       have y0:w1.cell? ⟨w.heap.size+1,0,none⟩=some (.int .i64 a.start):=(HBA.out.keep hb1).cell 0
       have y1:w1.cell? ⟨w.heap.size+1,1,none⟩=some (.slice A3 n3 c3):=(HBA.out.keep hb1).cell 1
       have y2:w1.cell? ⟨w.heap.size+1,2,none⟩=some (.slice A4 n4 c4):=(HBA.out.keep hb1).cell 2
       have z0:w1.cell? ⟨w.heap.size+1+1,0,none⟩=some (.int .i64 k.1):=(HBK.out.keep hb1).cell 0
       have z1:w1.cell? ⟨w.heap.size+1+1,1,none⟩=some (.slice A5 k.2.length c5):=(HBK.out.keep hb1).cell 1
       clear hb1
       go_wp2_with fail
       refine (HIW.out _ hb2).mono ?_
       rintro e w2 ⟨rfl,hb3⟩
       go_wp2_with fail
       go_ret
       exact ⟨by rw [HF.out];rfl,below_trans hb2 hb3⟩
     | true =>
       rw [hw] at HIW
       have hlt:=shortLen_lt g a x y
       obtain ⟨⟨hx0,hx1⟩,⟨hy0,hy1⟩,hgo,ha⟩:=cntOk_iff.1 (shortLen_ok (show 0<=shortLen g a x y by omega))
       obtain ⟨L,hL⟩:∃ L,L=k.2.length:=⟨_,rfl⟩
       have HF:=Hd_ (show R=(rankTo g a y k L L:Nat) by rw [hR];exact rankSh_yes (by rw [hL];exact hlen.symm) hL.symm hw)
       rw [<- hlen,<- hL] at HSL hlt
       rw [<- hL] at HB0 HBG HBA HBK HIW ⊢
       have HWA:=Hd_ (fun i (hi:i < L)=>wit_arc hw (show i < k.2.length by rw [<- hL];exact hi))
       have hwo:=(isWit_parts hw).2.1
       have HNL:=Hd_ (fun i (hi:i<=L)=>(nodeAt_lt hwo (show i<=k.2.length by rw [<- hL];exact hi)).2)
       have HGO:=Hd_ hgo
       have HA:=Hd_ ha
       have HSO:=Hd_ (startOk ha)
       have hn5:=(grOk_iff.1 hgo).n5
       obtain ⟨x,rfl⟩:=Int.eq_ofNat_of_zero_le hx0
       have hk0:nodeAt g k 0=x:=by
        have h1:=(isWit_parts hw).1
        have h2:=(nodeAt_lt hwo (Nat.zero_le _)).1
        rw [show (nodesL g k)[0]?=some k.1 from rfl] at h2
        injection h2 with h2
        omega
       have HK0:=Hd_ hk0
       have HL:=Hd_ hL
       have hxl:x < g.vals.length:=by omega
       have hln:¬ (L:Int) < 0:=by omega
       have hll:((L:Int) != (L:Int))=false:=by simp
       clear hneg hlen hw hgo ha hx0 hx1 hy0 hy1 hR hwo hk0 hL
       go_enter Tryz.func12,Tryz.ntmps12
       go_wp2_with fail
       refine (HSL.out _ HB0.out).mono ?_
       rintro e w1 ⟨rfl,hb1⟩
       have hb2:=below_trans HB0.out hb1
       have x0:w1.cell? ⟨w.heap.size,0,none⟩=some (.slice A1 n1 c1):=(HBG.out.keep hb1).cell 0
       have x1:w1.cell? ⟨w.heap.size,1,none⟩=some (.slice A2 n2 c2):=(HBG.out.keep hb1).cell 1
       have y0:w1.cell? ⟨w.heap.size+1,0,none⟩=some (.int .i64 a.start):=(HBA.out.keep hb1).cell 0
       have y1:w1.cell? ⟨w.heap.size+1,1,none⟩=some (.slice A3 n3 c3):=(HBA.out.keep hb1).cell 1
       have y2:w1.cell? ⟨w.heap.size+1,2,none⟩=some (.slice A4 n4 c4):=(HBA.out.keep hb1).cell 2
       have z0:w1.cell? ⟨w.heap.size+1+1,0,none⟩=some (.int .i64 k.1):=(HBK.out.keep hb1).cell 0
       have z1:w1.cell? ⟨w.heap.size+1+1,1,none⟩=some (.slice A5 L c5):=(HBK.out.keep hb1).cell 1
       have HBG1:=Hd_ (HBG.out.keep hb1)
       have HBA1:=Hd_ (HBA.out.keep hb1)
       have HBK1:=Hd_ (HBK.out.keep hb1)
       clear hb1
       go_wp2_with fail
       refine (HIW.out _ hb2).mono ?_
       rintro e w2 ⟨rfl,hb3⟩
       have HB4:=Hd_ (below_trans hb2 hb3)
       have hb4:=below_trans hb2 hb3
       clear x0 x1 y0 y1 y2 z0 z1
       have x0:w2.cell? ⟨w.heap.size,0,none⟩=some (.slice A1 n1 c1):=(HBG1.out.keep hb3).cell 0
       have x1:w2.cell? ⟨w.heap.size,1,none⟩=some (.slice A2 n2 c2):=(HBG1.out.keep hb3).cell 1
       have y0:w2.cell? ⟨w.heap.size+1,0,none⟩=some (.int .i64 a.start):=(HBA1.out.keep hb3).cell 0
       have y1:w2.cell? ⟨w.heap.size+1,1,none⟩=some (.slice A3 n3 c3):=(HBA1.out.keep hb3).cell 1
       have y2:w2.cell? ⟨w.heap.size+1,2,none⟩=some (.slice A4 n4 c4):=(HBA1.out.keep hb3).cell 2
       have z0:w2.cell? ⟨w.heap.size+1+1,0,none⟩=some (.int .i64 k.1):=(HBK1.out.keep hb3).cell 0
       have z1:w2.cell? ⟨w.heap.size+1+1,1,none⟩=some (.slice A5 L c5):=(HBK1.out.keep hb3).cell 1
       have HBK2:=Hd_ (HBK1.out.keep hb3)
       clear hb2 hb3
       go_wp2_with fail
       refine (newCounter_any _ _ g a y _ (HGV.out.keep hb4) (HAV.out.keep hb4) HGO.out HA.out).mono ?_
       rintro e w3 ⟨bC,bM,rfl,hbM,hctr,hmem,hb5⟩
       have hwM:w.heap.size<=bM:=Nat.le_trans hb4.size hbM
       have lbMw:=hmem.lt
       have HB5:=Hd_ (below_trans hb4 hb5)
       have HBK3:=Hd_ (HBK2.out.keep hb5)
       have HC3:=Hd_ hctr
       have HM3:=Hd_ hmem
       clear hb4 hb5 x0 x1 y0 y1 y2 z0 z1 hctr hmem
       go_wp2_with fail
       refine (start_any g a y HA.out bC bM x L _ HC3.out (by omega) (by omega)).mono ?_
       rintro e w4 ⟨rfl,hb6⟩
       have hbQ:=(Below.refl w4.heap.size w4).alloc (Nat.le_refl _) (.cells #[.int .i64 (x:Int),.int .i64 (bit a.start.toNat:Nat),.int .i64 (L:Int)] 55)
       have HBQ:=Hd_ (Blk.new w4 55 #[.int .i64 (x:Int),.int .i64 (bit a.start.toNat:Nat),.int .i64 (L:Int)] w4.heap.size rfl)
       have hb7:=below_trans hb6 hbQ
       have HC4:=Hd_ (HC3.out.keep hb6)
       have HM4:=Hd_ (HM3.out.keep hb7)
       have HB7:=Hd_ (below_trans HB5.out hb6)
       have HO4:=Hd_ (Only.of_below hbQ bM (bM+1))
       have HBK4:=Hd_ (HBK3.out.keep hb7)
       have hs6:=hb6.size
       have z1:(w4.alloc (.cells #[.int .i64 (x:Int),.int .i64 (bit a.start.toNat:Nat),.int .i64 (L:Int)] 55)).cell? ⟨w.heap.size+1+1,1,none⟩=some (.slice A5 L c5):=HBK4.out.cell 1
       have lk4:=HBK4.out.lt
       have hbK3:=HBK3.out.lt
       clear hb6 hbQ hb7
       obtain ⟨bP,hbP⟩:∃ bP,bP=w4.heap.size:=⟨_,rfl⟩
       go_wp2_with fail
       rw [<- hbP] at HBQ ⊢
       obtain ⟨w5,hw5⟩:∃ w5,w5=w4.alloc (.cells #[.int .i64 (x:Int),.int .i64 (bit a.start.toNat:Nat),.int .i64 (L:Int)] 55):=⟨_,rfl⟩
       rw [<- hw5] at HBQ HM4 HO4 HBK4 lk4 z1 ⊢
       have hPge:w4.heap.size<=bP:=by omega
       have hPw:w.heap.size+1+1 < bP:=by omega
       clear hw5 z1 hbP
       go_loopw [14,54] (fun rr ii wr=>∃ (d:Nat) (M:List Plc),d<=L/\rr=.int .i64 (rankTo g a y k L d:Nat)/\ii=.int .i64 (d:Int)/\Blk wr bP 55 #[.int .i64 (nodeAt g k d:Int),.int .i64 (setAt g a k d:Int),.int .i64 ((L - d:Nat):Int)]/\Only bM (bM+1) w4 wr/\Mem g a y wr bM M) (fun _ ii _=>L - (intOf ii).toNat)
       case atStart=>exact ⟨0,[],Nat.zero_le _,rfl,rfl,by rw [HK0.out];exact HBQ.out,HO4.out,HM4.out⟩
       case round =>
        clear HBQ HM4 HO4 HBK4
        obtain ⟨d,M,hd,rfl,rfl,hbp,hon4,hme⟩:=hrel
        have hct:=HC4.out.only hon4
        have hbl:=HB7.out.trans (hon4.below hwM HB7.out.size)
        have HON4:=Hd_ hon4
        by_cases hlt:d < L
        · have hdi:(d:Int) < (L:Int):=by omega
          obtain ⟨⟨sid,sinv⟩,hks,⟨p0,hp0,hp0s⟩,hps⟩:=HWA.out d hlt
          obtain ⟨b5,o5,rfl,hb5,s0,s1⟩:=HC5.out.st hks
          simp only at s0 s1
          have s0:=kcell hbl s0
          have s1:=kcell hbl s1
          have hxd:=HNL.out d hd
          have hsd:=setAt_lt HA.out k d (g:=g)
          have hs4:=lt12 HA.out hsd
          obtain ⟨f,hf⟩:∃ f,L - d=f+1:=⟨L - d - 1,by omega⟩
          have hrk:rankTo g a y k L (d+1)=overK (cwAt g a y f (nodeAt g k d) (setAt g a k d)) (arcsOf g (nodeAt g k d:Int)) (sid,sinv) (rankTo g a y k L d):=by
           rw [rankTo,show L - (d+1)=f by omega,List.getD_eq_getElem?_getD,hks];rfl
          have hr6:=rankTo_le g a y k L d
          have HRK:=Hd_ hrk
          have HPS:=Hd_ hps
          have HEX:=Hd_ (show ∃ p ∈ arcsOf g (nodeAt g k d:Int),p.1=((sid,sinv):St) from ⟨p0,hp0,hp0s⟩)
          have HSD:=Hd_ hsd
          obtain ⟨x',hx'⟩:∃ x',x'=nodeAt g k d:=⟨_,rfl⟩
          obtain ⟨s',hs'⟩:∃ s',s'=setAt g a k d:=⟨_,rfl⟩
          obtain ⟨r0,hr0⟩:∃ r0,r0=rankTo g a y k L d:=⟨_,rfl⟩
          have HR0:=Hd_ hr0
          rw [<- hx',<- hs',<- hr0] at HRK
          rw [<- hx',<- hs'] at HPS hbp
          rw [<- hx'] at HEX hxd
          rw [<- hs'] at HSD hs4
          rw [<- hr0] at hr6 ⊢
          have HN1:=Hd_ (show L - (d+1)=f by omega)
          have HN2:=Hd_ (HNL.out (d+1) hlt)
          have HNX:=Hd_ (fun (l:Nat) (t sid:Int) (sinv:Bool) (W:World) (hW:Ctr g a y W bC bM) (hl:l < 9)=>next_any g a y HGO.out HA.out bC bM x' s' f l t sid sinv W hW hxd HSD.out (by omega) hl)
          rw [<- hf] at HNX
          have e0:wr.cell? ⟨bP,0,none⟩=some (.int .i64 (x':Int)):=hbp.cell 0
          have e1:wr.cell? ⟨bP,1,none⟩=some (.int .i64 (s':Int)):=hbp.cell 1
          have e2:wr.cell? ⟨bP,2,none⟩=some (.int .i64 ((L - d:Nat):Int)):=hbp.cell 2
          obtain ⟨LD,hLD⟩:∃ LD,LD=L - d:=⟨_,rfl⟩
          rw [<- hLD] at HNX e2 hf hbp
          have HLD:=Hd_ hLD
          have hfl:f < 60:=by omega
          clear hf
          obtain ⟨B,lo,hi,A1,A2,A3,A4,A6,c1,c2,c3,c4,c6,hbk,hgv,hav,hlv,h5,h6,h7,h8,h9⟩:=hct
          have hctr:Ctr g a y wr bC bM:=⟨B,lo,hi,A1,A2,A3,A4,A6,c1,c2,c3,c4,c6,hbk,hgv,hav,hlv,h5,h6,h7,h8,h9⟩
          have HC1:=Hd_ hctr
          have z6:wr.cell? ⟨bC,6,none⟩=some (.slice A6 g.vals.length c6):=hbk.cell 6
          have lC:=hbk.lt
          obtain ⟨b6,o6,A7,c7,q1,q2,q3,d5,q5,q6,q7,-⟩:=hlv.row h7 (i:=x') (xs:=arcsOf g (x':Int)) (by simp [hxd])
          subst q1
          have hb6:b6 < wr.heap.size:=by omega
          have hal:=arcs_len (grOk_iff.1 HGO.out) (x':Int)
          have hxx:(x':Int) < (g.vals.length:Int):=by omega
          have HI7:=Hd_ q7
          have hb5w:b5 < wr.heap.size:=World.block_lt_of_cell? _ _ s0
          have lP:=hbp.lt
          have HBP:=Hd_ hbp
          have HMM:=Hd_ hme
          have HBL:=Hd_ hbl
          have hszr:=hbl.size
          have lM:=hme.lt
          obtain ⟨wo,hwo⟩:∃ wo:World,wo=wr:=⟨_,rfl⟩
          rw [<- hwo] at HON4 HC1 HI7 HBP HMM HBL s0 s1 e0 e1 e2 z6 d5 lC hb6 hb5w lP lM h7 hszr ⊢
          clear hwo hbk hgv hav hlv h8 hbp hbl hme hctr hon4 hks hp0 hp0s hps hrk hsd hx' hs' hr0 hLD
          have lP1:bP < wo.heap.size+1:=by omega
          have lC1:bC < wo.heap.size+1:=by omega
          have lb61:b6 < wo.heap.size+1:=by omega
          have HBSt:=Hd_ (Blk.new wo 66 #[.int .i64 sid,.bool sinv] wo.heap.size rfl)
          have HBN:=Hd_ ((Below.refl wo.heap.size wo).alloc (Nat.le_refl _) (.cells #[.int .i64 sid,.bool sinv] 66))
          go_upto_region 10 with fail
          refine wp_region_ext_lit (by kernel_rfl) (by kernel_rfl) ?_
          repeat (go_big_quiet_step (fail))
          refine wpQuiet_nil ?_
          rintro _ ⟨u2,rfl⟩
          have hbU:=ext_below (wo.alloc (.cells #[.int .i64 sid,.bool sinv] 66)) u2
          have HBS6:=Hd_ (HBSt.out.keep hbU)
          have HB6:=Hd_ (below_trans HBN.out hbU)
          obtain ⟨w6,hw6⟩:∃ w6,w6=ext (wo.alloc (.cells #[.int .i64 sid,.bool sinv] 66)) u2:=⟨_,rfl⟩
          rw [<- hw6] at HBS6 HB6 ⊢
          have hs6w:=HB6.out.size
          have lS6:=HBS6.out.lt
          clear hw6 hbU HBSt HBN e0 e1 e2 s0 s1 z6 d5
          go_wp2_with fail
          go_loopw [14,67] (fun rr ii wi=>∃ (i:Nat) (M2:List Plc),i<=(arcsOf g (x':Int)).length/\rr=.int .i64 (passK (cwAt g a y f x' s') ((arcsOf g (x':Int)).take i) r0:Nat)/\ii=.int .i64 (i:Int)/\(∀ j q,j < i->(arcsOf g (x':Int))[j]?=some q->q.1 ≠ ((sid,sinv):St))/\Only bM (bM+1) w6 wi/\Mem g a y wi bM M2) (fun _ ii _=>(arcsOf g (x':Int)).length - (intOf ii).toNat)
          case atStart=>exact ⟨0,M,Nat.zero_le _,rfl,rfl,fun j q hj=>by omega,Only.refl _ _ _,HMM.out.keep HB6.out⟩
          case round =>
           obtain ⟨i,M2,hi,rfl,rfl,hno,hon,hmm⟩:=hrel
           by_cases hli:i < (arcsOf g (x':Int)).length
           · have hyi:(arcsOf g (x':Int))[i]?=some (arcsOf g (x':Int))[i]:=List.getElem?_eq_getElem hli
             have hym:=List.getElem_mem hli
             generalize (arcsOf g (x':Int))[i]=p at hyi hym
             have hyr:=arc_range (grOk_iff.1 HGO.out) hym
             have HPP:=Hd_ (HPS.out p hym)
             have HOV:=Hd_ (fun (h:p.1=((sid,sinv):St))=>overK_here (k:=cwAt g a y f x' s') (r:=r0) hyi h hno)
             have HNP:=Hd_ (fun (h:p.1 ≠ ((sid,sinv):St)) j q (hj:j < i+1) (hq:(arcsOf g (x':Int))[j]?=some q)=>show q.1 ≠ ((sid,sinv):St) from by
              rcases Nat.lt_or_ge j i with h1 | h1
              · exact hno j q h1 hq
              · obtain rfl:j=i:=by omega
                rw [hyi] at hq
                injection hq with hq
                rw [<- hq];exact h)
             have HSC:=Hd_ (passK_succ (k:=cwAt g a y f x' s') (r:=r0) hyi)
             have hple:=passK_le (cwAt g a y f x' s') ((arcsOf g (x':Int)).take i) r0 hr6
             obtain ⟨⟨sid2,sinv2⟩,l,t⟩:=p
             simp only at hyr
             obtain ⟨l,rfl⟩:=Int.eq_ofNat_of_zero_le hyr.1.1
             obtain ⟨t,rfl⟩:=Int.eq_ofNat_of_zero_le hyr.2.1
             obtain ⟨b7,o7,rfl,hb7l,hb7,k0,k1,k2,k3⟩:=HI7.out.arc hyi
             simp only at k0 k1 k2 k3
             have hb7M:b7 < bM ∨ bM+1<=b7:=by omega
             have hb7o:b7 < w6.heap.size:=by omega
             have k0:=ocell hon (kcell HB6.out k0) hb7o hb7M
             have k1:=ocell hon (kcell HB6.out k1) hb7o hb7M
             have k2:=ocell hon (kcell HB6.out k2) hb7o hb7M
             have k3:=ocell hon (kcell HB6.out k3) hb7o hb7M
             have hszi:=hon.size
             have hbpi:=(HBP.out.keep HB6.out).only hon (by omega)
             have e0:wr.cell? ⟨bP,0,none⟩=some (.int .i64 (x':Int)):=hbpi.cell 0
             have e1:wr.cell? ⟨bP,1,none⟩=some (.int .i64 (s':Int)):=hbpi.cell 1
             have e2:wr.cell? ⟨bP,2,none⟩=some (.int .i64 (LD:Int)):=hbpi.cell 2
             have HBPI:=Hd_ hbpi
             have hbsi:=HBS6.out.only hon (by omega)
             have HBSI:=Hd_ hbsi
             have lSi:=hbsi.lt
             have lPi:=hbpi.lt
             have hKA:cwAt g a y f x' s' ((sid2,sinv2),(l:Int),(t:Int))=cw g a y f t (aft a s' (valAt g x') l):=by rw [cwAt];simp
             rw [hKA] at HSC
             simp only [Int.toNat_natCast] at HPP
             have hAF:=aft_lt HA.out s' (valAt g x') l
             have hcl2:=cw_le g a y f t (aft a s' (valAt g x') l)
             have HNC:=Hd_ (fun (W:World) (hW:Ctr g a y W bC bM)=>HNX.out l (t:Int) sid2 sinv2 W hW (by omega))
             have HRC:=Hd_ (fun (W:World) (h1:Ctr g a y W bC bM) (h2:Mem g a y W bM M2)=>count_any g a y HGO.out HA.out bC bM f t (aft a s' (valAt g x') l) M2 W h1 h2 (by omega) hAF (by omega))
             obtain ⟨CC,hCC⟩:∃ CC,CC=cw g a y f t (aft a s' (valAt g x') l):=⟨_,rfl⟩
             rw [<- hCC] at hcl2 HRC HSC
             generalize aft a s' (valAt g x') l=AF at *
             have hii:(i:Int) < ((arcsOf g (x':Int)).length:Int):=by omega
             have HON2:=Hd_ hon
             have HMM2:=Hd_ hmm
             have hAF4:AF < 4096:=lt12 HA.out hAF
             obtain ⟨bb,hbb⟩:∃ bb,bb=decide (((sid2,sinv2):St)=(sid,sinv)):=⟨_,rfl⟩
             have HBB:=Hd_ hbb
             have HEQ:=Hd_ (fun w=>eqlSt (sid2,sinv2) (sid,sinv) w)
             simp only at HEQ
             rw [<- hbb] at HEQ
             have hmw:=hmm.lt
             clear hyi hym hno hCC hon hmm hKA hbpi hbsi hbb hAF
             generalize passK (cwAt g a y f x' s') ((arcsOf g (x':Int)).take i) r0=m1 at *
             have hbE:Below wr.heap.size wr (wr.alloc (.cells #[.int .i64 sid2,.bool sinv2,.int .i64 (l:Int),.int .i64 (t:Int)] 73)):=(Below.refl _ _).alloc (Nat.le_refl _) _
             have a0:(wr.alloc (.cells #[.int .i64 sid2,.bool sinv2,.int .i64 (l:Int),.int .i64 (t:Int)] 73)).cell? ⟨wr.heap.size,0,none⟩=some (.int .i64 sid2):=by simp
             have a1:(wr.alloc (.cells #[.int .i64 sid2,.bool sinv2,.int .i64 (l:Int),.int .i64 (t:Int)] 73)).cell? ⟨wr.heap.size,1,none⟩=some (.bool sinv2):=by simp
             go_wp2_with fail
             refine (HNC.out _ (((HC1.out.keep HB6.out).only HON2.out).keep hbE)).mono ?_
             rintro en w3 ⟨rfl,hb3⟩
             have hbQ:Below w3.heap.size w3 (w3.alloc (.cells #[.int .i64 (t:Int),.int .i64 (AF:Int),.int .i64 (f:Int)] 55)):=(Below.refl _ _).alloc (Nat.le_refl _) _
             have hbEQ:=below_trans hbE (below_trans hb3 hbQ)
             have hb3Q:=below_trans hb3 hbQ
             have hsE:wr.heap.size < w3.heap.size:=by have:=hb3.size;simp at this;omega
             have q0:(w3.alloc (.cells #[.int .i64 (t:Int),.int .i64 (AF:Int),.int .i64 (f:Int)] 55)).cell? ⟨w3.heap.size,0,none⟩=some (.int .i64 (t:Int)):=by simp
             have q1:(w3.alloc (.cells #[.int .i64 (t:Int),.int .i64 (AF:Int),.int .i64 (f:Int)] 55)).cell? ⟨w3.heap.size,1,none⟩=some (.int .i64 (AF:Int)):=by simp
             have q2:(w3.alloc (.cells #[.int .i64 (t:Int),.int .i64 (AF:Int),.int .i64 (f:Int)] 55)).cell? ⟨w3.heap.size,2,none⟩=some (.int .i64 (f:Int)):=by simp
             have lQ:w3.heap.size < (w3.alloc (.cells #[.int .i64 (t:Int),.int .i64 (AF:Int),.int .i64 (f:Int)] 55)).heap.size:=by simp
             have a0:=kcell hb3Q a0
             have a1:=kcell hb3Q a1
             have HCq:=Hd_ (((HC1.out.keep HB6.out).only HON2.out).keep hbEQ)
             have HMq:=Hd_ (HMM2.out.keep hbEQ)
             have HOq:=Hd_ (HON2.out.trans (Only.of_below hbEQ bM (bM+1)))
             have HBPq:=Hd_ (HBPI.out.keep hbEQ)
             have hbsq:=HBSI.out.keep hbEQ
             have t0:(w3.alloc (.cells #[.int .i64 (t:Int),.int .i64 (AF:Int),.int .i64 (f:Int)] 55)).cell? ⟨wo.heap.size,0,none⟩=some (.int .i64 sid):=hbsq.cell 0
             have t1:(w3.alloc (.cells #[.int .i64 (t:Int),.int .i64 (AF:Int),.int .i64 (f:Int)] 55)).cell? ⟨wo.heap.size,1,none⟩=some (.bool sinv):=hbsq.cell 1
             have hsEq:wr.heap.size < (w3.alloc (.cells #[.int .i64 (t:Int),.int .i64 (AF:Int),.int .i64 (f:Int)] 55)).heap.size:=by omega
             clear hb3 hbQ hbEQ hb3Q hbE k0 k1 k2 k3 e0 e1 e2 hbsq
             cases bb with
             | true =>
               have heq:=HEQ.out
               have hse:((sid2,sinv2):St)=(sid,sinv):=of_decide_eq_true HBB.out.symm
               have HRE:=Hd_ (HOV.out hse)
               have HPE:=Hd_ (HPP.out hse)
               have hbp:=HBPq.out
               have z0:(w3.alloc (.cells #[.int .i64 (t:Int),.int .i64 (AF:Int),.int .i64 (f:Int)] 55)).cell? ⟨bP,0,none⟩=some (.int .i64 (x':Int)):=hbp.cell 0
               have z1:(w3.alloc (.cells #[.int .i64 (t:Int),.int .i64 (AF:Int),.int .i64 (f:Int)] 55)).cell? ⟨bP,1,none⟩=some (.int .i64 (s':Int)):=hbp.cell 1
               have z2:(w3.alloc (.cells #[.int .i64 (t:Int),.int .i64 (AF:Int),.int .i64 (f:Int)] 55)).cell? ⟨bP,2,none⟩=some (.int .i64 (LD:Int)):=hbp.cell 2
               have f0:=hbp.frozen 0
               have f1:=hbp.frozen 1
               have f2:=hbp.frozen 2
               have l8:=hbp.lt
               have HB8:=Hd_ (hbp.set3 (.int .i64 (t:Int)) (.int .i64 (AF:Int)) (.int .i64 (f:Int)))
               have HO8:=Hd_ (only_set3 (HON4.out.trans ((Only.of_below HB6.out bM (bM+1)).trans HOq.out)) (show w4.heap.size<=bP by omega) (.int .i64 (t:Int)) (.int .i64 (AF:Int)) (.int .i64 (f:Int)))
               have HM8:=Hd_ (HMq.out.at_ (set3_block (w3.alloc (.cells #[.int .i64 (t:Int),.int .i64 (AF:Int),.int .i64 (f:Int)] 55)) bP (.int .i64 (t:Int)) (.int .i64 (AF:Int)) (.int .i64 (f:Int)) bM (by omega)))
               have HRK1:=Hd_ (HRK.out.trans HRE.out)
               clear hbp
               go_wp2_with fail
               go_roundw
               case rel=>exact ⟨d+1,M2,hlt,by rw [HRK1.out],by go_num,by rw [<- HPE.out.1,<- HPE.out.2.1,HN1.out];exact HB8.out,HO8.out,HM8.out⟩
               case measure=>simp [intOf];omega
             | false =>
               have heq:=HEQ.out
               have hse:((sid2,sinv2):St) ≠ (sid,sinv):=of_decide_eq_false HBB.out.symm
               have HNQ:=Hd_ (HNP.out hse)
               go_wp2_with fail
               refine (HRC.out _ HCq.out HMq.out).mono ?_
               rintro en w4 ⟨rfl,hon4,M4,hm4,hmo4⟩
               have HO4:=Hd_ (HOq.out.trans hon4)
               have HM4:=Hd_ hm4
               clear hon4 hm4 hmo4 t0 t1 a0 a1 q0 q1 q2 heq
               go_wp2_with fail
               go_roundw
               case rel=>exact ⟨i+1,M4,by omega,by rw [HSC.out];exact congrArg (Value.int IntKind.i64) (by first | omega | (split <;> omega)),by go_num,HNQ.out,HO4.out,HM4.out⟩
               case measure=>simp [intOf];omega
           · obtain rfl:i=(arcsOf g (x':Int)).length:=by omega
             obtain ⟨p,hp,hps⟩:=HEX.out
             obtain ⟨j,hj,he⟩:=List.getElem_of_mem hp
             exact absurd hps (hno j p hj (by rw [List.getElem?_eq_getElem hj,he]))
        · obtain rfl:d=L:=by omega
          have HBL:=Hd_ hbl
          clear hbp hct hme hbl hon4
          go_wp2_with fail
          go_ret
          exact ⟨by rw [HF.out];rfl,HBL.out⟩
   · have HF:=Hd_ (show R=-1 by rw [hR];exact rankSh_no (.inr (.inl hlen)))
     generalize shortLen g a x y=SL at *
     have hlen1:((k.2.length:Int) != SL)=true:=by simpa using hlen
     clear hR
     go_enter Tryz.func12,Tryz.ntmps12
     go_wp2_with fail
     refine (HSL.out _ HB0.out).mono ?_
     rintro e w1 ⟨rfl,hb1⟩
     have hb2:=below_trans HB0.out hb1
     have x0:w1.cell? ⟨w.heap.size,0,none⟩=some (.slice A1 n1 c1):=(HBG.out.keep hb1).cell 0
     have x1:w1.cell? ⟨w.heap.size,1,none⟩=some (.slice A2 n2 c2):=(HBG.out.keep hb1).cell 1
     have y0:w1.cell? ⟨w.heap.size+1,0,none⟩=some (.int .i64 a.start):=(HBA.out.keep hb1).cell 0
     have y1:w1.cell? ⟨w.heap.size+1,1,none⟩=some (.slice A3 n3 c3):=(HBA.out.keep hb1).cell 1
     have y2:w1.cell? ⟨w.heap.size+1,2,none⟩=some (.slice A4 n4 c4):=(HBA.out.keep hb1).cell 2
     have z0:w1.cell? ⟨w.heap.size+1+1,0,none⟩=some (.int .i64 k.1):=(HBK.out.keep hb1).cell 0
     have z1:w1.cell? ⟨w.heap.size+1+1,1,none⟩=some (.slice A5 k.2.length c5):=(HBK.out.keep hb1).cell 1
     clear hb1
     go_wp2_with fail
     go_ret
     exact ⟨by rw [HF.out];rfl,hb2⟩
end Go.Proofs.YteaplabkemoenaaGreat
namespace Go.Proofs.YteaplabkemoenaaGreat
open Go.ChangeShapes Go.WideShapes Go.ChangeAt Go.RowKit
attribute [local go_sem] ext_cell ext_frozen ext_lt ext_lt1 ext_lt2 ext_lt3 ltn2 ltn3 ltn13 lts1 lts2 lts3
set_option maxHeartbeats 1000000 in
theorem l5Step_any (a b:St) (w:World) :
 Calls Tryz.prog 27 #[.agg #[.int .i64 a.1,.bool a.2],.agg #[.int .i64 b.1,.bool b.2]] w fun e w'=>e=.returned (.int .i64 (cmpSt a b))/\Below w.heap.size w w':=by
 obtain ⟨a1,a2⟩:=a
 obtain ⟨b1,b2⟩:=b
 have hb0:Below w.heap.size w ((w.alloc (.cells #[.int .i64 a1,.bool a2] 66)).alloc (.cells #[.int .i64 b1,.bool b2] 66)):=((Below.refl _ _).alloc (Nat.le_refl _) _).alloc (by simp) _
 simp only
 by_cases h1:a1 < b1
 · have hres:cmpSt (a1,a2) (b1,b2)=-1:=if_pos h1
   rw [hres]
   clear hres
   go_enter Tryz.func27,Tryz.ntmps27
   go_wp2
   go_ret
   exact ⟨rfl,hb0⟩
 by_cases h2:b1 < a1
 · have hres:cmpSt (a1,a2) (b1,b2)=1:=by rw [cmpSt,if_neg h1,if_pos h2]
   rw [hres]
   clear hres
   go_enter Tryz.func27,Tryz.ntmps27
   go_wp2
   go_ret
   exact ⟨rfl,hb0⟩
 have hres:cmpSt (a1,a2) (b1,b2)=if a2=b2 then 0 else if b2=true then -1 else 1:=by rw [cmpSt,if_neg h1,if_neg h2]
 rw [hres]
 clear hres
 cases a2 <;> cases b2 <;> simp only [if_true,if_false,reduceCtorEq] <;> (go_enter Tryz.func27,Tryz.ntmps27;go_wp2;go_ret;exact ⟨rfl,hb0⟩)
set_option maxHeartbeats 2000000 in
theorem specCompareWalks (v1 v2:Value) (k j:Wk) (w:World) (hv1:WkV 0 w.heap.size w v1 k) (hv2:WkV 0 w.heap.size w v2 j) :
 Calls Tryz.prog 11 #[v1,v2] w fun e w'=>e=.returned (.int .i64 (cmpWk k j))/\Below w.heap.size w w':=by
 obtain ⟨ss1,rfl,hs1⟩:=hv1
 obtain ⟨ss2,rfl,hs2⟩:=hv2
 obtain ⟨x,A⟩:=k
 obtain ⟨y,B⟩:=j
 simp only at hs1 hs2 ⊢
 obtain ⟨A1,c1,rfl,hl1,hm1,hx1⟩:=hs1
 obtain ⟨A2,c2,rfl,hl2,hm2,hx2⟩:=hs2
 unfold maxLen at hm1 hm2
 have hb0:Below w.heap.size w ((w.alloc (.cells #[.int .i64 x,.slice A1 A.length c1] 39)).alloc (.cells #[.int .i64 y,.slice A2 B.length c2] 39)):=((Below.refl _ _).alloc (Nat.le_refl _) _).alloc (by simp) _
 by_cases h1:A.length < B.length
 · have hres:cmpWk (x,A) (y,B)=-1:=if_pos h1
   rw [hres]
   clear hres hx1 hx2
   go_enter Tryz.func11,Tryz.ntmps11
   go_wp2
   go_ret
   exact ⟨rfl,hb0⟩
 by_cases h2:B.length < A.length
 · have hres:cmpWk (x,A) (y,B)=1:=by rw [cmpWk,if_neg h1,if_pos h2]
   rw [hres]
   clear hres hx1 hx2
   go_enter Tryz.func11,Tryz.ntmps11
   go_wp2
   go_ret
   exact ⟨rfl,hb0⟩
 by_cases h3:x < y
 · have hres:cmpWk (x,A) (y,B)=-1:=by rw [cmpWk,if_neg h1,if_neg h2,if_pos h3]
   rw [hres]
   clear hres hx1 hx2
   go_enter Tryz.func11,Tryz.ntmps11
   go_wp2
   go_ret
   exact ⟨rfl,hb0⟩
 by_cases h4:y < x
 · have hres:cmpWk (x,A) (y,B)=1:=by rw [cmpWk,if_neg h1,if_neg h2,if_neg h3,if_pos h4]
   rw [hres]
   clear hres hx1 hx2
   go_enter Tryz.func11,Tryz.ntmps11
   go_wp2
   go_ret
   exact ⟨rfl,hb0⟩
 have hres:cmpWk (x,A) (y,B)=cmpSts (A.drop 0) (B.drop 0):=by rw [cmpWk,if_neg h1,if_neg h2,if_neg h3,if_neg h4];rfl
 obtain ⟨R,hR⟩:∃ R,R=cmpWk (x,A) (y,B):=⟨_,rfl⟩
 rw [<- hR] at hres ⊢
 have hlen:A.length=B.length:=by omega
 have HLEN:=Hd_ hlen
 clear hR hlen
 have HX1:=Hd_ hx1
 have HX2:=Hd_ hx2
 clear hx1 hx2
 go_enter Tryz.func11,Tryz.ntmps11
 go_wp2
 obtain ⟨W0,hW0⟩:∃ W0:World,W0=((w.alloc (.cells #[.int .i64 x,.slice A1 A.length c1] 39)).alloc (.cells #[.int .i64 y,.slice A2 B.length c2] 39)):=⟨_,rfl⟩
 have b1:Blk W0 w.heap.size 39 #[.int .i64 x,.slice A1 A.length c1]:=by rw [hW0];exact (Blk.new w _ _ w.heap.size rfl).alloc _
 have b2:Blk W0 (w.heap.size+1) 39 #[.int .i64 y,.slice A2 B.length c2]:=by rw [hW0];exact Blk.new (w.alloc _) _ _ (w.heap.size+1) (by simp)
 have x1:W0.cell? ⟨w.heap.size,1,none⟩=some (.slice A1 A.length c1):=b1.cell 1
 have x2:W0.cell? ⟨w.heap.size+1,1,none⟩=some (.slice A2 B.length c2):=b2.cell 1
 have l1:=b1.lt
 have l2:=b2.lt
 rw [<- hW0] at hb0 ⊢
 have hs:=hb0.size
 have HCK:=Hd_ (fun (b o:Nat) (hb:b < w.heap.size)=>hb0.cell (p:=⟨b,o,none⟩) hb)
 clear b1 b2 hW0
 have HB0:=Hd_ hb0
 have HH1:=Hd_ h1
 have HH2:=Hd_ h2
 clear hb0 h1 h2 h3 h4
 have HRES:=Hd_ hres
 clear hres
 go_loopw [5] (fun i wr=>∃ (t:Nat) (u:World),t<=A.length/\i=.int .i64 t/\wr=ext W0 u/\R=cmpSts (A.drop t) (B.drop t)) (fun i _=>A.length - (intOf i).toNat)
 case atStart=>exact ⟨0,W0,Nat.zero_le _,rfl,ext_self W0,HRES.out⟩
 case round =>
  obtain ⟨t,u,ht,rfl,rfl,hr⟩:=hrel
  by_cases hlt:t < A.length
  · have hta:A[t]?=some A[t]:=List.getElem?_eq_getElem hlt
    have htB:t < B.length:=by have:=HLEN.out;omega
    have htb:B[t]?=some B[t]:=List.getElem?_eq_getElem htB
    obtain ⟨q1,o1,rfl,-,hq1,hc1⟩:=HX1.out t _ hta
    obtain ⟨q2,o2,rfl,-,hq2,hc2⟩:=HX2.out t _ htb
    rw [cmpSts_drop hta htb] at hr
    generalize A[t]=sa at hr hc1
    generalize B[t]=sb at hr hc2
    have c10:=(HCK.out _ _ hq1).trans (hc1 0 _ rfl)
    have c11:=(HCK.out _ _ hq1).trans (hc1 1 _ rfl)
    have c20:=(HCK.out _ _ hq2).trans (hc2 0 _ rfl)
    have c21:=(HCK.out _ _ hq2).trans (hc2 1 _ rfl)
    simp only [Nat.add_zero] at c10 c20
    clear hc1 hc2 hta htb
    have hq1:=Nat.lt_of_lt_of_le hq1 hs
    have hq2:=Nat.lt_of_lt_of_le hq2 hs
    have HL:=Hd_ (fun (W:World)=>l5Step_any sa sb W)
    generalize cmpSt sa sb=z at hr HL
    have HR:=Hd_ hr
    clear hr
    by_cases hz:z=0
    · subst hz
      go_wp2
      refine wp_region_ext_lit (by kernel_rfl) (by kernel_rfl) ?_
      repeat (go_big_quiet_step ((go_at_call 27;exact Calls.ext_of (HL.out _))))
      refine wpQuiet_nil ?_
      rintro _ ⟨u2,rfl⟩
      go_wp2
      go_roundw
      case rel =>
       obtain ⟨y',hy⟩:=ext_ext W0 u u2
       exact ⟨t+1,y',by omega,by go_num,hy,by have:=HR.out;simpa using this⟩
      case measure=>simp [intOf];omega
    · have hq:(z != 0)=true:=by simp [hz]
      have hres:R=z:=by have:=HR.out;rw [if_neg hz] at this;exact this
      have HZ:=Hd_ hres
      clear hres hz
      go_wp2
      refine wp_region_ext_lit (by kernel_rfl) (by kernel_rfl) ?_
      repeat (go_big_quiet_step ((go_at_call 27;exact Calls.ext_of (HL.out _))))
      refine wpQuiet_nil ?_
      rintro _ ⟨u2,rfl⟩
      go_wp2
      go_ret
      obtain ⟨y',hy⟩:=ext_ext W0 u u2
      exact ⟨by rw [HZ.out];rfl,by rw [hy];exact below_trans HB0.out (ext_below _ _)⟩
  · obtain rfl:t=A.length:=by omega
    have hres:R=0:=by rw [hr,List.drop_eq_nil_of_le (Nat.le_refl _)];rfl
    have HZ:=Hd_ hres
    clear hres hr
    go_wp2
    go_ret
    exact ⟨by rw [HZ.out];rfl,below_trans HB0.out (ext_below _ _)⟩
end Go.Proofs.YteaplabkemoenaaGreat
namespace Go.Proofs.YteaplabkemoenaaGreat
open Go.RowKit
/-- the only one that may come up: an operation below n whose guard is met -/
theorem F_oneH {P:Program} {ops:Array Oper} {Q:Exit->Act->World->Prop} {md:Region.Mode} {S:World->Prop} {n:Nat} {i:Nat} {oi:Oper} {f:Nat} {listed:Array Bool} {a:Act} {w:World} (hr:Region.ready md ops listed=[i]) (hi:ops[i]?=some oi) (hw:Region.wanted oi (yielded ops a.tmps)=true) (hin:i < n) (inv:HeadInv md ops n listed)
 (h:∀ K:Act->World->Prop,Shut (∀ a' w',S w'->(S w'->HeadInv md ops n (listed.setIfInBounds i true)->wpAnyF P md ops Q S n f (listed.setIfInBounds i true) a' w')->K a' w')->Oper.wp P oi a w K Q):wpAnyF P md ops Q S n (f+1) listed a w:=by
 refine ⟨fun h0=>(by rw [hr] at h0;cases h0),fun j hj=>?_⟩
 have hj2:=hj
 rw [hr] at hj2
 obtain rfl:j=i:=by simpa using hj2
 unfold wpOp
 simp only [hi,hw,if_true]
 exact .inl (h _ (fun a' w' hS hF=>⟨fun _=>hS,hF hS (inv.set hj hin)⟩))
/-- the only one that may come up: an operation below n whose guard is not met -/
theorem F_oneN {P:Program} {ops:Array Oper} {Q:Exit->Act->World->Prop} {md:Region.Mode} {S:World->Prop} {n:Nat} {i:Nat} {oi:Oper} {f:Nat} {listed:Array Bool} {a:Act} {w:World} (hr:Region.ready md ops listed=[i]) (hi:ops[i]?=some oi) (hw:Region.wanted oi (yielded ops a.tmps)=false) (hin:i < n) (inv:HeadInv md ops n listed) (hS:S w)
 (h:HeadInv md ops n (listed.setIfInBounds i true)->wpAnyF P md ops Q S n f (listed.setIfInBounds i true) (a.put oi.dst undef) w):wpAnyF P md ops Q S n (f+1) listed a w:=by
 refine ⟨fun h0=>(by rw [hr] at h0;cases h0),fun j hj=>?_⟩
 have hj2:=hj
 rw [hr] at hj2
 obtain rfl:j=i:=by simpa using hj2
 unfold wpOp
 simp only [hi,hw]
 exact ⟨fun _=>hS,h (inv.set hj hin)⟩
end Go.Proofs.YteaplabkemoenaaGreat
namespace Go.Proofs.YteaplabkemoenaaGreat
theorem seat_mayEnter:Tryz.pinned.checked.prog.mayEnter=true:=by kernel_rfl
theorem seat_lifts:Tryz.pinned.checked.prog.liftsFinal=false:=by kernel_rfl
theorem seat_laidOut:laidOutB Tryz.pinned.checked.prog=true:=by kernel_rfl
theorem seat_mapsRowed:mapsRowed Tryz.pinned.checked.prog=true:=by kernel_rfl
end Go.Proofs.YteaplabkemoenaaGreat
