/- Parts of the proof, joined into one text: SrchS. -/
import Derived.Test.YtjpdembmchnbgaaGreatOnlzGFEEKDAD
import Derived.Test.YtjpdembmchnbgaaGreatOnlzBFEGODDE
import Derived.Test.YtjpdembmchnbgaaGreatOnlzADEMAGKM
import Derived.Test.YtjpdembmchnbgaaGreatOnlzFDEBOKAL
import Derived.Test.YtjpdembmchnbgaaGreatOnlzBGBMJIIM
set_option linter.unusedVariables false
set_option linter.unusedSimpArgs false
namespace Go.Proofs.YtjpdembmchnbgaaGreat
open Go.ChangeShapes Go.WideShapes Go.ChangeAt Go.RowKit
attribute [local go_sem] ext_cell ext_frozen ext_lt ext_lt1 ext_lt2 ext_lt3 ltn2 ltn3 ltn13 lts1 lts2 lts3
theorem prod_lt2 {x n q m:Nat} (hx:x < n) (hq:q < m):x * m+q < n * m:=by
 have h1:(x+1) * m<=n * m:=Nat.mul_le_mul_right m (by omega)
 rw [Nat.succ_mul] at h1
 omega
def bitA (g:Gr) (sm:Bool) (p:Arc):Nat:=if sm then p.2.2.toNat else (edgeIdx g p.1.1).toNat
/-- the bits tell the keys -/
def URel (g:Gr) (sm:Bool) (used:Nat) (us:List Int):Prop:=∀ (x:Int) (p:Arc),p ∈ arcsOf g x->used.testBit (bitA g sm p)=us.contains (keyA sm p)
theorem bitA_lt {g:Gr} (hg:GrOk g) (sm:Bool) {x:Int} {p:Arc} (hp:p ∈ arcsOf g x):bitA g sm p < 12:=by
 have hn5:=hg.n5
 have he12:=hg.e12
 obtain ⟨i,e,hi,hie,-,-,-,-⟩:=arc_edge hg hp
 have hr:=arc_range hg hp
 have:=(List.getElem?_eq_some_iff.1 hie).1
 unfold bitA
 cases sm with
 | true=>simp only [if_true];omega
 | false=>simp only [if_false,Bool.false_eq_true];omega
theorem bitA_inj {g:Gr} (hg:GrOk g) (sm:Bool) {x x':Int} {p q:Arc} (hp:p ∈ arcsOf g x) (hq:q ∈ arcsOf g x'):bitA g sm p=bitA g sm q ↔ keyA sm p=keyA sm q:=by
 have hr:=arc_range hg hp
 have hr2:=arc_range hg hq
 obtain ⟨i,e,hi,hie,-,-,hid,-⟩:=arc_edge hg hp
 obtain ⟨j,e2,hj,hje,-,-,hjd,-⟩:=arc_edge hg hq
 unfold bitA keyA
 cases sm with
 | true=>simp only [if_true];omega
 | false =>
   simp only [if_false,Bool.false_eq_true]
   constructor
   · intro h
     have:i=j:=by omega
     subst this
     rw [hie] at hje
     injection hje with hje
     rw [<- hid,<- hjd,hje]
   · intro h
     rw [h]
theorem URel.ins {g:Gr} (hg:GrOk g) {sm:Bool} {used:Nat} {us:List Int} (h:URel g sm used us) {x:Int} {p:Arc} (hp:p ∈ arcsOf g x):URel g sm (ins used (bitA g sm p)) (us ++ [keyA sm p]):=by
 intro x' q hq
 rw [ins_test,h x' q hq]
 have hi:=bitA_inj hg sm hp hq
 by_cases e:bitA g sm p=bitA g sm q
 · have e2:=hi.1 e
   simp [e,e2]
 · have e2:¬ keyA sm q=keyA sm p:=fun h2=>e (hi.2 h2.symm)
   simp [e,e2]
theorem URel.none (g:Gr):URel g false 0 []:=by intro x p _;simp
theorem URel.one {g:Gr} (hg:GrOk g) (x:Nat):URel g true (bit x) [(x:Int)]:=by
 intro x' p hp
 have hr:=arc_range hg hp
 rw [bit_test]
 unfold bitA keyA
 simp only [if_true]
 by_cases e:x=p.2.2.toNat
 · have:(x:Int)=p.2.2:=by omega
   simp [e,this]
   omega
 · have:¬ p.2.2=(x:Int):=by omega
   simp [e,this]
theorem and_pow (m k:Nat):m &&& 2 ^ k=if m.testBit k then 2 ^ k else 0:=by
 apply Nat.eq_of_testBit_eq
 intro j
 rw [Nat.testBit_and,Nat.testBit_two_pow]
 by_cases e:k=j
 · subst e
   cases h:m.testBit k <;> simp
 · cases h:m.testBit k <;> simp [e,Nat.testBit_two_pow]
theorem and_on {m k:Nat} (hm:m < 2 ^ 62) (hk:k < 62) (h:m.testBit k=true):bits .and .i64 (m:Int) (bit k:Int)=(bit k:Int):=by
 rw [i64_and_nat m (bit k) hm (bit_lt hk),bit,and_pow,h];simp
theorem and_off {m k:Nat} (hm:m < 2 ^ 62) (hk:k < 62) (h:m.testBit k=false):bits .and .i64 (m:Int) (bit k:Int)=0:=by
 rw [i64_and_nat m (bit k) hm (bit_lt hk),bit,and_pow,h];simp
theorem bit_pos (k:Nat):0 < bit k:=Nat.two_pow_pos k
set_option maxHeartbeats 4000000 in
set_option maxRecDepth 100000 in
theorem l20Hope_any (D:List Int) (n m:Nat) (w:World) (bS:Nat) (A3 A6:Option Addr) (c3 c6:Nat) (z3:w.cell? ⟨bS,3,none⟩=some (.slice A3 m c3)) (z6:w.cell? ⟨bS,6,none⟩=some (.slice A6 D.length c6)) (hdv:SlE w cI 1 (.slice A6 D.length c6) D) (hD:D.length=n * m)
 (hn:n<=5) (hm:m<=12) (x s lf:Nat) (hx:x < n) (hs:s < 2 ^ m) (hlf:lf<=60) (hbS:bS < w.heap.size) :
 Calls Tryz.prog 124 #[.pointer (some ⟨bS,0,none⟩),.int .i64 (x:Int),.int .i64 (s:Int),.int .i64 (lf:Int)] w fun e w'=>e=.returned (.bool (hope D m x s lf))/\w'=w:=by
 have hs4:s < 4096:=Nat.lt_of_lt_of_le hs (Nat.pow_le_pow_right (by omega) hm:2 ^ m<=2 ^ 12)
 obtain ⟨R,hR⟩:∃ R,R=hope D m x s lf:=⟨_,rfl⟩
 rw [<- hR]
 have HR:=Hd_ (hR.trans (show hope D m x s lf=(mem m s).any (hopeC D m x lf) by rw [hope,mem_stop hs hm]))
 have HDV:=Hd_ hdv
 have HD:=Hd_ hD
 have hDl:D.length<=60:=by rw [hD];exact Nat.le_trans (Nat.mul_le_mul hn hm) (by omega)
 clear hR hdv hD hs
 go_enter Tryz.func124,Tryz.ntmps124
 go_wp2_with fail
 go_loopw [10] (fun qq wr=>∃ q:Nat,q<=m/\qq=.int .i64 (q:Int)/\(mem q s).any (hopeC D m x lf)=false/\wr=w) (fun qq _=>m - (intOf qq).toNat)
 case atStart=>exact ⟨0,Nat.zero_le _,rfl,rfl,rfl⟩
 case round =>
  obtain ⟨q,hq,rfl,hno,hw⟩:=hrel
  rw [hw]
  clear hw
  have HNO:=Hd_ hno
  clear hno
  by_cases hlq:q < m
  · have hqi:(q:Int) < (m:Int):=by omega
    have hixl:x * m+q < D.length:=by rw [HD.out];exact prod_lt2 hx hlq
    have hget:=getD_of hixl
    obtain ⟨b6,o6,rfl,-,hb6,d6⟩:=HDV.out.intI hget
    obtain ⟨xn,hxn⟩:∃ xn,xn=x * m:=⟨_,rfl⟩
    have HH:=Hd_ (show hopeC D m x lf q=wi (D.getD (xn+q) 0) 0 (lf:Int) by rw [hxn];rfl)
    rw [<- hxn] at hixl hget d6
    obtain ⟨ix,hix⟩:∃ ix,ix=xn+q:=⟨_,rfl⟩
    have q1:IntKind.i64.wrap ((x:Int) * (m:Int))=(xn:Int):=by rw [IntWalk.i64_in _ (by rw [<- Int.natCast_mul,<- hxn];omega),hxn,Int.natCast_mul]
    have q1':(x:Int) * (m:Int)=(xn:Int):=by rw [hxn,Int.natCast_mul]
    have q2:IntKind.i64.wrap ((xn:Int)+(q:Int))=(ix:Int):=by rw [IntWalk.i64_in _ (by omega)];omega
    have q2':(xn:Int)+(q:Int)=(ix:Int):=by omega
    have q5:IntKind.i64.wrap (xn:Int)=(xn:Int):=IntWalk.i64_in _ (by omega)
    have q6:IntKind.i64.wrap (ix:Int)=(ix:Int):=IntWalk.i64_in _ (by omega)
    rw [<- hix] at hixl hget d6 HH
    have hixi:(ix:Int) < (D.length:Int):=by omega
    have hix0:(0:Int)<=(ix:Int):=by omega
    generalize D.getD ix 0=dv at *
    clear hget hxn hix
    cases hb:s.testBit q with
    | false =>
      have e3':=bit_off (by omega) (by omega) hb
      have HM:=Hd_ (mem_no hb)
      clear hb
      go_wp2_with fail
      go_roundw
      case rel=>exact ⟨q+1,by omega,by go_num,by rw [HM.out];exact HNO.out,trivial⟩
      case measure=>simp [intOf];omega
    | true =>
      have e3':=bit_on (by omega) (by omega) hb
      have HM:=Hd_ (mem_yes hb)
      have HB:=Hd_ hb
      clear hb
      by_cases h0:0<=dv
      · have k0:decide (dv >= 0)=true:=by simp;omega
        by_cases h1:dv<=(lf:Int)
        · have k1:decide (dv<=(lf:Int))=true:=by simp;omega
          have hfin:R=true:=by rw [HR.out];exact List.any_eq_true.2 ⟨q,mem_mem.2 ⟨hlq,HB.out⟩,by rw [HH.out,wi_iff.2 ⟨h0,h1⟩]⟩
          subst hfin
          clear HR h0 h1
          go_wp2_with fail
          go_ret
          exact ⟨rfl,rfl⟩
        · have k1:decide (dv<=(lf:Int))=false:=by simp;omega
          have HC:=Hd_ (show hopeC D m x lf q=false by rw [HH.out];cases hv:wi dv 0 (lf:Int) with | false=>rfl | true=>exact absurd (wi_iff.1 hv).2 h1)
          clear HR h0 h1
          go_wp2_with fail
          go_roundw
          case rel=>exact ⟨q+1,by omega,by go_num,by rw [HM.out,List.any_append,HNO.out];simp only [List.any_cons,List.any_nil,Bool.or_false,Bool.false_or];exact HC.out,trivial⟩
          case measure=>simp [intOf];omega
      · have k0:decide (dv >= 0)=false:=by simp;omega
        have HC:=Hd_ (show hopeC D m x lf q=false by rw [HH.out];cases hv:wi dv 0 (lf:Int) with | false=>rfl | true=>exact absurd (wi_iff.1 hv).1 h0)
        clear HR h0
        go_wp2_with fail
        go_roundw
        case rel=>exact ⟨q+1,by omega,by go_num,by rw [HM.out,List.any_append,HNO.out];simp only [List.any_cons,List.any_nil,Bool.or_false,Bool.false_or];exact HC.out,trivial⟩
        case measure=>simp [intOf];omega
  · obtain rfl:q=m:=by omega
    have hfin:R=false:=by rw [HR.out];exact HNO.out
    subst hfin
    clear HR
    go_wp2_with fail
    go_ret
    exact ⟨rfl,rfl⟩
set_option maxHeartbeats 16000000 in
set_option maxRecDepth 100000 in
theorem l20Go_any (g:Gr) (a:Au) (y:Int) (B:Nat) (D:List Int) (sm:Bool) (hgo:grOk g=true) (ha:auOk a=true) (bS dl dh:Nat) (W0:World) (A1 A2 A3 A4 A6:Option Addr) (c1 c2 c3 c4 c6:Nat)
 (hgv:GrV 0 bS W0 (.agg #[.slice A1 g.vals.length c1,.slice A2 g.edges.length c2]) g) (hav:AuV 0 bS W0 (.agg #[.int .i64 a.start,.slice A3 a.accept.length c3,.slice A4 a.accept.length c4]) a) (hdv:SlI dl dh W0 cI 1 (.slice A6 D.length c6) D) (hdl:bS < dl ∨ dh<=bS) (hdh:dh<=W0.heap.size) (hD:D.length=g.vals.length * a.accept.length) (hB:B<=20000) (hbS:bS < W0.heap.size) :
 ∀ (lf x s used:Nat) (us:List Int) (c:Nat) (sv:Value) (L:List St) (w:World),Only bS (bS+1) W0 w->Blk w bS 150 #[.slice A1 g.vals.length c1,.slice A2 g.edges.length c2,.int .i64 a.start,.slice A3 a.accept.length c3,.slice A4 a.accept.length c4,.int .i64 y,.slice A6 D.length c6,.bool sm,.int .i64 (B:Int),.int .i64 (c:Int),sv]->w.ownsRow W0.heap.size 81 2 sv L.length (L.flatMap cSt)->URel g sm used us->x < g.vals.length->s < 2 ^ a.accept.length->used < 4096->c<=B->L.length+lf<=60 ->
 Calls Tryz.prog 125 #[.pointer (some ⟨bS,0,none⟩),.int .i64 (x:Int),.int .i64 (s:Int),.int .i64 (used:Int),.int .i64 (lf:Int)] w fun e w'=>e=.returned (.bool (visit g a y B D sm lf x s us c).1.isSome)/\∃ sv',Blk w' bS 150 #[.slice A1 g.vals.length c1,.slice A2 g.edges.length c2,.int .i64 a.start,.slice A3 a.accept.length c3,.slice A4 a.accept.length c4,.int .i64 y,.slice A6 D.length c6,.bool sm,.int .i64 (B:Int),.int .i64 ((visit g a y B D sm lf x s us c).2:Int),sv'] /\
  w'.ownsRow W0.heap.size 81 2 sv' (L ++ (visit g a y B D sm lf x s us c).1.getD []).length ((L ++ (visit g a y B D sm lf x s us c).1.getD []).flatMap cSt)/\(∀ n,sv'.ownBlock=some n->sv.ownBlock=some n ∨ w.heap.size<=n)/\Srw bS sv.ownBlock w w':=by
 intro lf
 induction lf with
 | zero =>
   intro x s used us c sv L w hon hbk hrow hur hx hs hu hc hul
   by_cases hBc:B<=c
   · rw [visit_out hBc]
     have z8:w.cell? ⟨bS,8,none⟩=some (.int .i64 (B:Int)):=hbk.cell 8
     have z9:w.cell? ⟨bS,9,none⟩=some (.int .i64 (c:Int)):=hbk.cell 9
     have hcb:decide ((c:Int) >= (B:Int))=true:=by simp;omega
     have lT:=hbk.lt
     have HBK:=Hd_ hbk
     have HROW:=Hd_ hrow
     clear hgv hav hdv hD hgo ha hon hbk hrow hur
     go_enter Tryz.func125,Tryz.ntmps125
     go_wp2_with fail
     refine wp_region_ext_lit (by kernel_rfl) (by kernel_rfl) ?_
     repeat (go_big_quiet_step (fail))
     refine wpQuiet_nil ?_
     rintro _ ⟨u,rfl⟩
     go_wp2_with fail
     go_ret
     exact ⟨rfl,sv,HBK.out.keep (ext_below _ _),by simpa using ownsRow_below HROW.out (ext_below _ u) (Nat.le_refl _),fun n hn=>.inl hn,Srw.of_below (ext_below _ _) (Nat.le_refl _) _ _⟩
   · rw [visit_zeroV (by omega),endV_some,endV_get,endV_two]
     obtain ⟨BB,hBB⟩:∃ BB,BB=(decide ((x:Int)=y) && acc a s (valAt g x)):=⟨_,rfl⟩
     rw [<- hBB]
     have HBB0:=Hd_ hBB
     clear hBB
     obtain ⟨C1,hC1⟩:∃ C1,C1=c+1:=⟨_,rfl⟩
     rw [<- hC1]
     have hC1a:c+1<=C1:=by omega
     have hC1b:C1<=c+1:=by omega
     clear hC1
     have z8:w.cell? ⟨bS,8,none⟩=some (.int .i64 (B:Int)):=hbk.cell 8
     have z9:w.cell? ⟨bS,9,none⟩=some (.int .i64 (c:Int)):=hbk.cell 9
     have hcb:decide ((c:Int) >= (B:Int))=false:=by simp;omega
     have lT:=hbk.lt
     have fz9:=hbk.frozen 9
     have HBK:=Hd_ hbk
     have HON:=Hd_ hon
     have HROWw:=Hd_ hrow
     have qc:IntKind.i64.wrap ((c:Int)+1)=(C1:Int):=by rw [IntWalk.i64_in _ (by omega)];omega
     clear hon hbk hrow
     go_enter Tryz.func125,Tryz.ntmps125
     go_wp2_with fail
     refine wp_region_ext_lit (by kernel_rfl) (by kernel_rfl) ?_
     repeat (go_big_quiet_step (fail))
     refine wpQuiet_nil ?_
     rintro _ ⟨u,rfl⟩
     go_upto_region 4 with fail
     have hbk1:=(HBK.out.keep (ext_below w u)).set_ 9 (.int .i64 (C1:Int))
     have hsr1:Srw bS sv.ownBlock w ((ext w u).setCell ⟨bS,9,none⟩ (.int .i64 (C1:Int))):=(Srw.of_below (ext_below w u) (Nat.le_refl _) bS sv.ownBlock).trans (Srw.set bS sv.ownBlock _ _ _) (fun n hn=>.inl hn)
     have hrow1:((ext w u).setCell ⟨bS,9,none⟩ (.int .i64 (C1:Int))).ownsRow W0.heap.size 81 2 sv L.length (L.flatMap cSt):=ownsRow_block (ownsRow_below HROWw.out (ext_below w u) (Nat.le_refl _)) (fun n hn=>Below.heap_setCell _ ⟨bS,9,none⟩ _ n (by have:=(HROWw.out.lt n hn).1;simp only;omega))
     have hon1:Only bS (bS+1) w ((ext w u).setCell ⟨bS,9,none⟩ (.int .i64 (C1:Int))):=(Only.of_below (ext_below w u) bS (bS+1)).setCell (p:=⟨bS,9,none⟩) (.inl ⟨Nat.le_refl _,Nat.lt_succ_self _⟩) _
     generalize (ext w u).setCell ⟨bS,9,none⟩ (.int .i64 (C1:Int))=W1 at *
     have HBK1:=Hd_ hbk1
     have HSR1:=Hd_ hsr1
     have HROW1:=Hd_ hrow1
     have HON1:=Hd_ (HON.out.trans hon1)
     have hsW1:=hsr1.size
     have lT:=hbk1.lt
     have hWW:=HON1.out.size
     have hWs2:=HON.out.size
     clear hbk1 hsr1 hrow1 hon1 z8 z9 hcb qc fz9 HBK
     have hBB:=HBB0.out
     clear HBB0
     have hxx:(x:Int) < (g.vals.length:Int):=by omega
     have z0:W1.cell? ⟨bS,0,none⟩=some (.slice A1 g.vals.length c1):=HBK1.out.cell 0
     have z1:W1.cell? ⟨bS,1,none⟩=some (.slice A2 g.edges.length c2):=HBK1.out.cell 1
     have z2:W1.cell? ⟨bS,2,none⟩=some (.int .i64 a.start):=HBK1.out.cell 2
     have z3:W1.cell? ⟨bS,3,none⟩=some (.slice A3 a.accept.length c3):=HBK1.out.cell 3
     have z4:W1.cell? ⟨bS,4,none⟩=some (.slice A4 a.accept.length c4):=HBK1.out.cell 4
     have z5:W1.cell? ⟨bS,5,none⟩=some (.int .i64 y):=HBK1.out.cell 5
     have HEND:=Hd_ (fun (W:World) (hW:Below W1.heap.size W1 W)=>l18Ends_any _ _ g a x s W (((hgv.only HON1.out (by omega) (.inl (Nat.le_refl _))).all (by omega)).keep hW) (((hav.only HON1.out (by omega) (.inl (Nat.le_refl _))).all (by omega)).keep hW) hgo ha hx hs)
     clear hgv hav hdv hD hgo ha
     by_cases hxy:(x:Int)=y
     · have hd:decide ((x:Int)=y)=true:=decide_eq_true hxy
       have hd2:((x:Int)==y)=true:=by simp [hxy]
       rw [hd,Bool.true_and] at hBB
       generalize acc a s (valAt g x)=bb at *
       have HBB:=Hd_ hBB
       clear hxy hBB
       go_wp2_with fail
       refine wp_region_ext_lit (by kernel_rfl) (by kernel_rfl) ?_
       repeat (go_big_quiet_step ((go_at_call 101;exact Calls.ext_of (HEND.out _ (ext_below _ _)))))
       refine wpQuiet_nil ?_
       rintro _ ⟨u2,rfl⟩
       go_wp2_with fail
       go_ret
       rw [HBB.out]
       exact ⟨rfl,sv,HBK1.out.keep (ext_below _ _),by rw [List.append_nil];exact ownsRow_below HROW1.out (ext_below _ _) (Nat.le_refl _),fun n hn=>.inl hn,HSR1.out.trans (Srw.of_below (ext_below _ _) (Nat.le_refl _) bS sv.ownBlock) (fun n hn=>.inl hn)⟩
     · have hd:decide ((x:Int)=y)=false:=decide_eq_false hxy
       have hd2:((x:Int)==y)=false:=by simp [hxy]
       rw [hd,Bool.false_and] at hBB
       have HBB:=Hd_ hBB
       clear hxy hBB
       go_wp2_with fail
       refine wp_region_ext_lit (by kernel_rfl) (by kernel_rfl) ?_
       repeat (go_big_quiet_step (fail))
       refine wpQuiet_nil ?_
       rintro _ ⟨u2,rfl⟩
       go_wp2_with fail
       go_ret
       rw [HBB.out]
       exact ⟨rfl,sv,HBK1.out.keep (ext_below _ _),by rw [List.append_nil];exact ownsRow_below HROW1.out (ext_below _ _) (Nat.le_refl _),fun n hn=>.inl hn,HSR1.out.trans (Srw.of_below (ext_below _ _) (Nat.le_refl _) bS sv.ownBlock) (fun n hn=>.inl hn)⟩
 | succ lf ih =>
   intro x s used us c sv L w hon hbk hrow hur hx hs hu hc hul
   by_cases hBc:B<=c
   · rw [visit_out hBc]
     have z8:w.cell? ⟨bS,8,none⟩=some (.int .i64 (B:Int)):=hbk.cell 8
     have z9:w.cell? ⟨bS,9,none⟩=some (.int .i64 (c:Int)):=hbk.cell 9
     have hcb:decide ((c:Int) >= (B:Int))=true:=by simp;omega
     have lT:=hbk.lt
     have HBK:=Hd_ hbk
     have HROW:=Hd_ hrow
     clear hgv hav hdv hD hgo ha hon hbk hrow hur
     go_enter Tryz.func125,Tryz.ntmps125
     go_wp2_with fail
     refine wp_region_ext_lit (by kernel_rfl) (by kernel_rfl) ?_
     repeat (go_big_quiet_step (fail))
     refine wpQuiet_nil ?_
     rintro _ ⟨u,rfl⟩
     go_wp2_with fail
     go_ret
     exact ⟨rfl,sv,HBK.out.keep (ext_below _ _),by simpa using ownsRow_below HROW.out (ext_below _ u) (Nat.le_refl _),fun n hn=>.inl hn,Srw.of_below (ext_below _ _) (Nat.le_refl _) _ _⟩
   · rw [visit_succ (by omega)]
     obtain ⟨L1,hL1⟩:∃ L1,L1=lf+1:=⟨_,rfl⟩
     rw [<- hL1]
     obtain ⟨C1,hC1⟩:∃ C1,C1=c+1:=⟨_,rfl⟩
     rw [<- hC1]
     obtain ⟨R,hR⟩:∃ R,R=visF g a y B D sm lf x s us 0 C1:=⟨_,rfl⟩
     rw [<- hR]
     have hL1a:lf+1<=L1:=by omega
     have hL1b:L1<=lf+1:=by omega
     have hC1a:c+1<=C1:=by omega
     have hC1b:C1<=c+1:=by omega
     clear hL1 hC1
     have HR0:=Hd_ hR.symm
     clear hR
     have hul2:L.length+1+lf<=60:=by omega
     have z8:w.cell? ⟨bS,8,none⟩=some (.int .i64 (B:Int)):=hbk.cell 8
     have z9:w.cell? ⟨bS,9,none⟩=some (.int .i64 (c:Int)):=hbk.cell 9
     have hcb:decide ((c:Int) >= (B:Int))=false:=by simp;omega
     have lT:=hbk.lt
     have fz9:=hbk.frozen 9
     have HBK:=Hd_ hbk
     have HON:=Hd_ hon
     have HROWw:=Hd_ hrow
     have qc:IntKind.i64.wrap ((c:Int)+1)=(C1:Int):=by rw [IntWalk.i64_in _ (by omega)];omega
     clear hon hbk hrow
     go_enter Tryz.func125,Tryz.ntmps125
     go_wp2_with fail
     refine wp_region_ext_lit (by kernel_rfl) (by kernel_rfl) ?_
     repeat (go_big_quiet_step (fail))
     refine wpQuiet_nil ?_
     rintro _ ⟨u,rfl⟩
     go_upto_region 4 with fail
     have hbk1:=(HBK.out.keep (ext_below w u)).set_ 9 (.int .i64 (C1:Int))
     have hsr1:Srw bS sv.ownBlock w ((ext w u).setCell ⟨bS,9,none⟩ (.int .i64 (C1:Int))):=(Srw.of_below (ext_below w u) (Nat.le_refl _) bS sv.ownBlock).trans (Srw.set bS sv.ownBlock _ _ _) (fun n hn=>.inl hn)
     have hrow1:((ext w u).setCell ⟨bS,9,none⟩ (.int .i64 (C1:Int))).ownsRow W0.heap.size 81 2 sv L.length (L.flatMap cSt):=ownsRow_block (ownsRow_below HROWw.out (ext_below w u) (Nat.le_refl _)) (fun n hn=>Below.heap_setCell _ ⟨bS,9,none⟩ _ n (by have:=(HROWw.out.lt n hn).1;simp only;omega))
     have hon1:Only bS (bS+1) w ((ext w u).setCell ⟨bS,9,none⟩ (.int .i64 (C1:Int))):=(Only.of_below (ext_below w u) bS (bS+1)).setCell (p:=⟨bS,9,none⟩) (.inl ⟨Nat.le_refl _,Nat.lt_succ_self _⟩) _
     generalize (ext w u).setCell ⟨bS,9,none⟩ (.int .i64 (C1:Int))=W1 at *
     have HBK1:=Hd_ hbk1
     have HSR1:=Hd_ hsr1
     have HROW1:=Hd_ hrow1
     have HON1:=Hd_ (HON.out.trans hon1)
     have hsW1:=hsr1.size
     have lT:=hbk1.lt
     have hWW:=HON1.out.size
     have hWs2:=HON.out.size
     clear hbk1 hsr1 hrow1 hon1 z8 z9 hcb qc fz9 HBK
     have hl0:((L1:Int)==0)=false:=by simp;omega
     have hl1:decide ((L1:Int)=0)=false:=by simp;omega
     have ql:IntKind.i64.wrap ((L1:Int) - 1)=(lf:Int):=by rw [IntWalk.i64_in _ (by omega)];omega
     have hgr:=grOk_iff.1 hgo
     have hn5:=hgr.n5
     have he12:=hgr.e12
     have hn12:=(auOk_iff.1 ha).1.2
     have hal:=arcs_len hgr (x:Int)
     have hDl:D.length<=60:=by rw [hD];exact Nat.le_trans (Nat.mul_le_mul hn5 hn12) (by omega)
     have HGV:=Hd_ (fun (W:World) (hW:Only bS (bS+1) W0 W)=>(hgv.only hW (by omega) (.inl (Nat.le_refl _))).all (Nat.le_trans (Nat.le_of_lt hbS) hW.size))
     have HAV:=Hd_ (fun (W:World) (hW:Only bS (bS+1) W0 W)=>(hav.only hW (by omega) (.inl (Nat.le_refl _))).all (Nat.le_trans (Nat.le_of_lt hbS) hW.size))
     have HDV:=Hd_ (fun (W:World) (hW:Only bS (bS+1) W0 W)=>(SlI.only hdv hW hdh (by omega)).all (Nat.le_trans hdh hW.size))
     have HD:=Hd_ hD
     have HGO:=Hd_ hgo
     have HA:=Hd_ ha
     have HS:=Hd_ hs
     have HREC:=Hd_ ih
     have HUR:=Hd_ hur
     have z0:W1.cell? ⟨bS,0,none⟩=some (.slice A1 g.vals.length c1):=HBK1.out.cell 0
     have z1:W1.cell? ⟨bS,1,none⟩=some (.slice A2 g.edges.length c2):=HBK1.out.cell 1
     have HFROM:=Hd_ (l4From_any _ g (x:Int) W1 (HGV.out W1 HON1.out) he12)
     clear hgv hav hdv hD hgo ha hs ih hur hgr
     go_wp2_with fail
     refine HFROM.out.mono ?_
     rintro e W2 ⟨vl,rfl,hol,hbl⟩
     have HBK2:=Hd_ (HBK1.out.keep hbl)
     have HON2:=Hd_ (HON1.out.trans (Only.of_below hbl bS (bS+1)))
     have HROW2:=Hd_ (ownsRow_below HROW1.out hbl (Nat.le_refl _))
     have HSR2:=Hd_ (HSR1.out.trans (Srw.of_below hbl (Nat.le_refl _) bS sv.ownBlock) (fun n hn=>.inl hn))
     have hs2:=hbl.size
     have hlen5:((arcsOf g (x:Int)).map (·.1)).length=(arcsOf g (x:Int)).length:=by simp
     obtain ⟨A5,c5,hv5,hl5,hm5,-⟩:=hol.form cSt_len
     rw [hlen5] at hv5 hl5
     subst hv5
     have HOL:=Hd_ (hol.sl cSt_len)
     have hr0:=HROW1.out.lt
     have HR0W:=Hd_ (fun n (hn:sv.ownBlock=some n)=>(HROWw.out.lt n hn))
     clear hol hbl hlen5 HBK1 HROW1 HSR1 HFROM z0 z1 hr0
     go_wp2_with fail
     go_loopw [12] (fun ii wr=>∃ (i c':Nat) (sv':Value),i<=(arcsOf g (x:Int)).length/\c'<=B/\ii=.int .i64 (i:Int)/\visF g a y B D sm lf x s us i c'=R/\Srw bS sv.ownBlock W2 wr/\Blk wr bS 150 #[.slice A1 g.vals.length c1,.slice A2 g.edges.length c2,.int .i64 a.start,.slice A3 a.accept.length c3,.slice A4 a.accept.length c4,.int .i64 y,.slice A6 D.length c6,.bool sm,.int .i64 (B:Int),.int .i64 (c':Int),sv'] /\
      wr.ownsRow W0.heap.size 81 2 sv' L.length (L.flatMap cSt)/\(∀ n,sv'.ownBlock=some n->sv.ownBlock=some n ∨ W2.heap.size<=n)) (fun ii _=>(arcsOf g (x:Int)).length - (intOf ii).toNat)
     case atStart=>exact ⟨0,C1,sv,Nat.zero_le _,by omega,rfl,HR0.out,Srw.refl _ _ _,HBK2.out,HROW2.out,fun n hn=>.inl hn⟩
     case round =>
      clear HR0 HBK2 HROW2 hl0 hl1
      obtain ⟨i,c',sv',hi,hcB,rfl,hR,hsr,hbk,hrow,hob⟩:=hrel
      have HR:=Hd_ hR
      have HSR:=Hd_ hsr
      have HBK:=Hd_ hbk
      have HROW:=Hd_ hrow
      have HOB:=Hd_ hob
      have hsz:=hsr.size
      have lSr:=hbk.lt
      have hsvlo:∀ n,sv.ownBlock=some n->W0.heap.size<=n/\n < w.heap.size:=HR0W.out
      have honr:Only bS (bS+1) W0 wr:=hsr.only (fun n hn=>(hsvlo n hn).1) HON2.out
      have HONR:=Hd_ honr
      clear hR hbk hrow hob
      by_cases hlt:i < (arcsOf g (x:Int)).length
      · have hyi:(arcsOf g (x:Int))[i]?=some (arcsOf g (x:Int))[i]:=List.getElem?_eq_getElem hlt
        have hmem:=List.getElem_mem hlt
        have hyr:=arc_range (grOk_iff.1 HGO.out) hmem
        obtain ⟨e,he,hl,ht⟩:=arc_stepEd HGO.out hmem
        have hK12:=bitA_lt (grOk_iff.1 HGO.out) sm hmem
        obtain ⟨ix,_,hixe,hixg,-,-,-,-⟩:=arc_edge (grOk_iff.1 HGO.out) hmem
        have hix12:ix < 12:=by have:=(List.getElem?_eq_some_iff.1 hixg).1;omega
        have HUT:=Hd_ (HUR.out (x:Int) _ hmem)
        have HUI:=Hd_ (HUR.out.ins (grOk_iff.1 HGO.out) hmem)
        have HKD:=Hd_ (show ∀ p:Arc,bitA g sm p=if sm then p.2.2.toNat else (edgeIdx g p.1.1).toNat from fun p=>rfl)
        clear hmem hixg
        generalize (arcsOf g (x:Int))[i]=p at hyi hyr he hl ht hK12 hixe HUT HUI
        have hli:((arcsOf g (x:Int)).map (·.1))[i]?=some p.1:=by rw [List.getElem?_map,hyi];rfl
        obtain ⟨b5,o5,rfl,⟨hb5l,hb5⟩,k0,k1⟩:=HOL.out.stI hli
        have hb5n:sv.ownBlock ≠ some b5:=fun e=>by have:=(hsvlo b5 e).2;omega
        have d0:=hsr.cell k0 hb5 (by omega) hb5n
        have d1:=hsr.cell k1 hb5 (by omega) hb5n
        clear k0 k1
        have hb5w:b5 < wr.heap.size:=by omega
        obtain ⟨⟨sid,sinv⟩,l,t⟩:=p
        simp only at hyr he hl ht d0 d1 hixe
        obtain ⟨l,rfl⟩:=Int.eq_ofNat_of_zero_le hyr.1.1
        obtain ⟨t,rfl⟩:=Int.eq_ofNat_of_zero_le hyr.2.1
        have hM:=aft_lt HA.out s (valAt g x) l
        have hm4:=lt12 HA.out hM
        have hmv:aft a s (valAt g x) ((l:Int)).toNat=aft a s (valAt g x) l:=by rw [Int.toNat_natCast]
        obtain ⟨K,hKe⟩:∃ K,K=bitA g sm ((sid,sinv),(l:Int),(t:Int)):=⟨_,rfl⟩
        have HKT:=Hd_ (fun (h:sm=true)=>show K=t by rw [hKe,HKD.out,h];simp)
        have HKF:=Hd_ (fun (h:sm=false)=>show K=ix by rw [hKe,HKD.out,h];simp only [Bool.false_eq_true,if_false];rw [hixe];simp)
        obtain ⟨key,hkey⟩:∃ key,key=keyA sm ((sid,sinv),(l:Int),(t:Int)):=⟨_,rfl⟩
        rw [<- hKe] at hK12 HUT HUI
        rw [<- hkey] at HUT HUI
        have HVS:=Hd_ (fun h=>visF_skip2 (y:=y) (B:=B) (D:=D) (sm:=sm) (lf:=lf) (us:=us) (c:=c') (t:=t) (k:=key) hyi rfl hmv hkey.symm h)
        have HVY:=Hd_ (fun r c2 h h2=>visF_yes2 (y:=y) (B:=B) (D:=D) (sm:=sm) (lf:=lf) (us:=us) (c:=c') (t:=t) (k:=key) (r:=r) (c':=c2) hyi rfl hmv hkey.symm h h2)
        have HVN:=Hd_ (fun c2 h h2=>visF_no2 (y:=y) (B:=B) (D:=D) (sm:=sm) (lf:=lf) (us:=us) (c:=c') (t:=t) (k:=key) (c':=c2) hyi rfl hmv hkey.symm h h2)
        have HNX:=Hd_ (fun (W:World) (hW:Only bS (bS+1) W0 W)=>by
         have h:=l18Next_any _ _ g a x s (sid,sinv) e l W (HGV.out W hW) (HAV.out W hW) HGO.out HA.out hx HS.out he hl
         rw [ht] at h
         exact h)
        have HEI:=Hd_ (fun (W:World) (hW:Only bS (bS+1) W0 W)=>by
         have h:=specEdgeIndex _ g sid W (HGV.out W hW)
         rw [hixe] at h
         exact h)
        have hii:(i:Int) < ((arcsOf g (x:Int)).length:Int):=by omega
        have HM:=Hd_ hM
        clear hyi hli he hl ht hmv hM hKe hkey hixe HUR HKD
        generalize aft a s (valAt g x) l=M at *
        have z0:wr.cell? ⟨bS,0,none⟩=some (.slice A1 g.vals.length c1):=HBK.out.cell 0
        have z1:wr.cell? ⟨bS,1,none⟩=some (.slice A2 g.edges.length c2):=HBK.out.cell 1
        have z2:wr.cell? ⟨bS,2,none⟩=some (.int .i64 a.start):=HBK.out.cell 2
        have z3:wr.cell? ⟨bS,3,none⟩=some (.slice A3 a.accept.length c3):=HBK.out.cell 3
        have z4:wr.cell? ⟨bS,4,none⟩=some (.slice A4 a.accept.length c4):=HBK.out.cell 4
        have z7:wr.cell? ⟨bS,7,none⟩=some (.bool sm):=HBK.out.cell 7
        clear hsr honr
        go_wp2_with fail
        refine wp_region_ext_lit (by kernel_rfl) (by kernel_rfl) ?_
        repeat (go_big_quiet_step ((go_at_call 62;exact Calls.ext_of (HNX.out _ (HONR.out.trans (Only.of_below (ext_below _ _) bS (bS+1)))))))
        refine wpQuiet_nil ?_
        rintro _ ⟨u2,rfl⟩
        have s1:=shl_bit (s:=ix) (by omega)
        have s2:=shl_bit2 (s:=ix) (by omega)
        have s3:=shl_bit3 (s:=ix) (by omega)
        go_wp2_with fail
        refine wp_region_ext_lit (by kernel_rfl) (by kernel_rfl) ?_
        repeat (go_big_quiet_step ((go_at_call 109;exact Calls.ext_of (HEI.out _ (HONR.out.trans ((Only.of_below (ext_below _ _) bS (bS+1)).trans (Only.of_below (ext_below _ _) bS (bS+1))))))))
        refine wpQuiet_nil ?_
        rintro _ ⟨u3,rfl⟩
        have hbX:=below_trans (ext_below wr u2) (ext_below (ext wr u2) u3)
        have hbkX:=HBK.out.keep hbX
        have hrowX:=ownsRow_below HROW.out hbX (Nat.le_refl _)
        have z7:=kcell hbX z7
        have d0:=kcell hbX d0
        have d1:=kcell hbX d1
        have hsX:=hbX.size
        have HSRX:=Hd_ (HSR.out.trans (Srw.of_below hbX (Nat.le_refl _) bS sv.ownBlock) (fun n hn=>.inl hn))
        have HONX:=Hd_ (HONR.out.trans (Only.of_below hbX bS (bS+1)))
        generalize ext (ext wr u2) u3=wX at *
        have HBKX:=Hd_ hbkX
        have HROWX:=Hd_ hrowX
        have lTX:=hbkX.lt
        clear hbX hbkX hrowX z0 z1 z2 z3 z4 HBK HROW HNX HEI HSR
        go_upto_if 98 with fail
        go_cut [15] from 60 to 153 (fun b wx=>b=.int .i64 (bit K:Int)/\wx=wX)
        case first =>
         have t1:=shl_bit (s:=t) (by omega)
         have t2:=shl_bit2 (s:=t) (by omega)
         have t3:=shl_bit3 (s:=t) (by omega)
         cases hsm:sm with
         | true =>
           go_wp2_with fail
           go_meet
           exact ⟨by rw [HKT.out hsm],rfl⟩
         | false =>
           go_wp2_with fail
           go_meet
           exact ⟨by rw [HKF.out hsm],rfl⟩
        case rest =>
         obtain ⟨rfl,hwc⟩:=hcut
         rw [hwc]
         clear hwc
         clear s1 s2 s3 z7
         by_cases hm0:M=0
         · have HE:=Hd_ ((HVS.out (by simp [hm0])).symm.trans HR.out)
           clear HVS HVY HVN HM
           subst hm0
           go_wp2_with fail
           go_roundw
           case rel=>exact ⟨i+1,c',sv',by omega,hcB,by go_num,HE.out,HSRX.out,HBKX.out,HROWX.out,HOB.out⟩
           case measure=>simp [intOf];omega
         · have hmi:((M:Int)==0)=false:=by simp;omega
           have hmi2:decide ((M:Int)=0)=false:=by simp;omega
           cases hb:used.testBit K with
           | true =>
             have k1:=and_on (m:=used) (by omega) (show K < 62 by omega) hb
             have k2:((bit K:Int) != 0)=true:=by have:=bit_pos K;simp;omega
             have hcn:=HUT.out.symm.trans hb
             have HE:=Hd_ ((HVS.out (by rw [hcn];simp)).symm.trans HR.out)
             clear HVS HVY HVN HM hcn hb
             go_wp2_with fail
             go_roundw
             case rel=>exact ⟨i+1,c',sv',by omega,hcB,by go_num,HE.out,HSRX.out,HBKX.out,HROWX.out,HOB.out⟩
             case measure=>simp [intOf];omega
           | false =>
             have k1:=and_off (m:=used) (by omega) (show K < 62 by omega) hb
             have hcn:=HUT.out.symm.trans hb
             have HHP:=Hd_ (l20Hope_any D g.vals.length a.accept.length wX bS A3 A6 c3 c6 (HBKX.out.cell 3) (HBKX.out.cell 6) (HDV.out wX HONX.out) HD.out hn5 hn12 t M lf (by omega) HM.out (by omega) lTX)
             cases hhp:hope D a.accept.length t M lf with
             | false =>
               rw [hhp] at HHP
               have HE:=Hd_ ((HVS.out (by rw [hhp];simp)).symm.trans HR.out)
               clear HVS HVY HVN HM hcn hb hhp
               go_wp2_with fail
               refine HHP.out.mono ?_
               rintro en w9 ⟨rfl,hw9⟩
               rw [hw9]
               clear hw9
               go_wp2_with fail
               go_roundw
               case rel=>exact ⟨i+1,c',sv',by omega,hcB,by go_num,HE.out,HSRX.out,HBKX.out,HROWX.out,HOB.out⟩
               case measure=>simp [intOf];omega
             | true =>
               rw [hhp] at HHP
               have hvl:=visit_le (g:=g) (a:=a) (y:=y) (B:=B) (D:=D) (sm:=sm) lf t M (us ++ [key]) c' hcB
               have hins:ins used K < 4096:=ins_lt (n:=12) hu hK12
               have ko:=or_ins (m:=used) (s:=K) (by omega) (by omega)
               have HRC:=Hd_ (fun (sv5:Value) (W:World) h1 h2 h3=>HREC.out t M (ins used K) (us ++ [key]) c' sv5 (L ++ [(sid,sinv)]) W h1 h2 h3 HUI.out (by omega) HM.out hins hcB (by rw [List.length_append,List.length_singleton];omega))
               generalize visit g a y B D sm lf t M (us ++ [key]) c'=V at *
               obtain ⟨o,r2⟩:=V
               simp only at hvl
               have HVY2:=Hd_ (fun r (h:o=some r)=>(HVY.out r r2 (by rw [hcn,hhp];simp [hm0]) (by rw [h])).symm.trans HR.out)
               have HVN2:=Hd_ (fun (h:o=none)=>(HVN.out r2 (by rw [hcn,hhp];simp [hm0]) (by rw [h])).symm.trans HR.out)
               have hsv2:∀ n,sv'.ownBlock=some n->W0.heap.size<=n/\n ≠ b5:=fun n hn=>⟨(HROWX.out.lt n hn).1,by
                rcases HOB.out n hn with h | h
                · have:=(hsvlo n h).2;omega
                · omega⟩
               have HSV2:=Hd_ hsv2
               clear HVS HVY HVN HM hcn hb hhp HREC HUI HUT hsv2 hsvlo
               go_wp2_with fail
               refine HHP.out.mono ?_
               rintro en w9 ⟨rfl,hw9⟩
               rw [hw9]
               clear hw9
               go_wp2_with fail
               have hxD:=(Below.refl wX.heap.size wX).drew
               have z10:wX.cell? ⟨bS,10,none⟩=some (sv'):=by exact HBKX.out.cell 10
               refine F_start 13 (fun w'=>w'.cell? ⟨bS,10,none⟩=some (sv')/\w'.cell? ⟨b5,o5+i * 2,none⟩=some (.int .i64 sid)/\w'.cell? ⟨b5,o5+i * 2+1,none⟩=some (.bool sinv)) (by kernel_rfl) (by exact ⟨z10,d0,d1⟩) (fun hS inv=>?_)
               refine F_tk 0 inv ?_
               try simp only [tA,tB,tC,Act.put,tE,tF,tG]
               clear inv;intro inv
               refine F_tk 1 inv ?_
               try simp only [tA,tB,tC,Act.put,tE,tF,tG]
               clear inv;intro inv
               refine F_tk 2 inv ?_
               try simp only [tA,tB,tC,Act.put,tE,tF,tG]
               clear inv;intro inv
               refine F_tk 3 inv ?_
               try simp only [tA,tB,tC,Act.put,tE,tF,tG]
               clear inv;intro inv
               refine F_tk 4 inv ?_
               try simp only [tA,tB,tC,Act.put,tE,tF,tG]
               clear inv;intro inv
               refine F_tk 5 inv ?_
               try simp only [tA,tB,tC,Act.put,tE,tF,tG]
               clear inv;intro inv
               refine F_tk 6 inv ?_
               try simp only [tA,tB,tC,Act.put,tE,tF,tG]
               clear inv;intro inv
               refine F_tk 7 inv ?_
               try simp only [tA,tB,tC,Act.put,tE,tF,tG]
               clear inv;intro inv
               refine F_tk 8 inv ?_
               try simp only [tA,tB,tC,Act.put,tE,tF,tG]
               clear inv;intro inv
               refine F_o1 9 inv ?_;intro K hK
               try simp only [tA,tB,tC]
               go_simp
               refine hK.out _ _ (kA3 _ hS) (fun _ _=>?_)
               try simp only [tA,tB,tC,Act.put,tE,tF,tG]
               clear hK K inv hS;rename_i hS inv
               have hrowL:(wX.alloc (.cells #[.int .i64 sid,.bool sinv] 81)).drew.ownsRow W0.heap.size 81 2 sv' L.length (L.flatMap cSt):=World.ownsRow.alloc (w:=wX) HROWX.out (.cells #[.int .i64 sid,.bool sinv] 81)
               have hlitL:(wX.alloc (.cells #[.int .i64 sid,.bool sinv] 81)).drew.heap[wX.heap.size]?=some (.cells #[.int .i64 sid,.bool sinv] 81 (0,0)):=heap_alloc_new wX (.cells #[.int .i64 sid,.bool sinv] 81)
               have hbL:Below wX.heap.size wX (wX.alloc (.cells #[.int .i64 sid,.bool sinv] 81)).drew:=((Below.refl _ _).alloc (Nat.le_refl _) _).drew
               have hsA:wX.heap.size < (wX.alloc (.cells #[.int .i64 sid,.bool sinv] 81)).drew.heap.size:=by simp
               generalize (wX.alloc (.cells #[.int .i64 sid,.bool sinv] 81)).drew=wL at *
               have hsWX:=HONX.out.size
               refine F_o1 10 inv ?_;intro K hK
               try simp only [tA,tB,tC]
               refine op_append1 cSt elStep rfl _ _ (by rfl) W0.heap.size sv' L (sid,sinv) 1 _ (by rfl) hrowL (by first | rfl | simp) hlitL rfl (cSt_one _) (by omega) (by omega) (by omega) ?_
               intro g2 cp2 w3 hown3 hgr3 hat3 hlt3
               have hsr3:Srw bS sv'.ownBlock wX w3:=(Srw.of_below hbL (Nat.le_refl _) bS sv'.ownBlock).trans (Srw.of_grown hgr3 (fun n hn=>.inl hn) bS) (fun n hn=>.inl hn)
               have hbk3:Blk w3 bS 150 #[.slice A1 g.vals.length c1,.slice A2 g.edges.length c2,.int .i64 a.start,.slice A3 a.accept.length c3,.slice A4 a.accept.length c4,.int .i64 y,.slice A6 D.length c6,.bool sm,.int .i64 (B:Int),.int .i64 (c':Int),sv']:=(hgr3.block bS (by omega) (fun e=>by have:=(HSV2.out bS e.symm).1;omega)).trans (HBKX.out.keep hbL)
               have hgat:sv'.ownBlock=some g2 ∨ wX.heap.size<=g2:=hat3.imp id (fun h=>by omega)
               have hg2:W0.heap.size<=g2:=by
                rcases hgat with h | h
                · exact (HSV2.out g2 h).1
                · have:=HONX.out.size;omega
               have z10:w3.cell? ⟨bS,10,none⟩=some sv':=hbk3.cell 10
               have fz10:=hbk3.frozen 10
               have lT3:=hbk3.lt
               have hd5:sv'.ownBlock ≠ some b5:=fun e=>(HSV2.out b5 e).2 rfl
               have d0:=hsr3.cell d0 (by omega) (by omega) hd5
               have d1:=hsr3.cell d1 (by omega) (by omega) hd5
               have HOW3:=Hd_ hown3
               have HSR3:=Hd_ hsr3
               have HBK3:=Hd_ hbk3
               have HGAT:=Hd_ hgat
               clear hown3 hgr3 hat3 hsr3 hbk3 hgat hd5 hrowL hlitL hbL hxD
               refine hK.out _ _ (⟨z10,d0,d1⟩) (fun _ _=>?_)
               try simp only [tA,tB,tC,Act.put,tE,tF,tG]
               clear hK K inv hS;rename_i hS inv
               refine F_tk 11 inv ?_
               try simp only [tA,tB,tC,Act.put,tE,tF,tG]
               clear inv;intro inv
               refine F_tk 12 inv ?_
               try simp only [tA,tB,tC,Act.put,tE,tF,tG]
               clear inv;intro inv
               refine F_l1 13 ?_;intro K hK
               go_simp
               refine hK _ _ ?_
               clear hK K inv hS
               have hbk5:=HBK3.out.set_ 10 (.slice (some ⟨g2,0,none⟩) (L.length+1) cp2)
               have hrow5:(w3.setCell ⟨bS,10,none⟩ (.slice (some ⟨g2,0,none⟩) (L.length+1) cp2)).ownsRow W0.heap.size 81 2 (.slice (some ⟨g2,0,none⟩) (L.length+1) cp2) (L ++ [(sid,sinv)]).length ((L ++ [(sid,sinv)]).flatMap cSt) :=
                ownsRow_block HOW3.out (fun n hn=>Below.heap_setCell _ ⟨bS,10,none⟩ _ n (by cases hn;simp only;omega))
               have hsr5:=HSR3.out.trans (Srw.set bS sv'.ownBlock w3 10 (.slice (some ⟨g2,0,none⟩) (L.length+1) cp2)) (fun n hn=>.inl hn)
               generalize w3.setCell ⟨bS,10,none⟩ (.slice (some ⟨g2,0,none⟩) (L.length+1) cp2)=W5 at *
               have hon5:Only bS (bS+1) W0 W5:=hsr5.only (fun n hn=>(HSV2.out n hn).1) HONX.out
               have HC5:=Hd_ (HRC.out _ W5 hon5 hbk5 hrow5)
               have HSR5:=Hd_ hsr5
               have hs5:=hsr5.size
               clear hbk5 hrow5 hsr5 hon5 z10 fz10 lT3 d0 d1 HOW3 HSR3 HBK3 hlt3 hsA
               go_wp2_with fail
               refine HC5.out.mono ?_
               rintro en W6 ⟨rfl,sv6,hbk6,hrow6,hob6,hsr6⟩
               have hob7:∀ n,sv6.ownBlock=some n->sv.ownBlock=some n ∨ W2.heap.size<=n:=fun n hn=>by
                rcases hob6 n hn with h | h
                · cases h
                  rcases HGAT.out with h | h
                  · exact HOB.out _ h
                  · exact .inr (show W2.heap.size<=g2 by omega)
                · exact .inr (by omega)
               have hsr7:Srw bS sv.ownBlock W2 W6:=(HSRX.out.trans HSR5.out HOB.out).trans hsr6 (fun n hn=>by
                cases hn
                rcases HGAT.out with h | h
                · exact HOB.out _ h
                · exact .inr (show W2.heap.size<=g2 by omega))
               have HBK6:=Hd_ hbk6
               have HOB7:=Hd_ hob7
               have HSR7:=Hd_ hsr7
               have hs6:=hsr7.size
               cases o with
               | some r =>
                 have HE:=Hd_ (HVY2.out r rfl)
                 have HROW6:=Hd_ (show W6.ownsRow W0.heap.size 81 2 sv6 (L ++ (sid,sinv) :: r).length ((L ++ (sid,sinv) :: r).flatMap cSt) by
                  rw [Option.getD_some,List.append_assoc] at hrow6
                  exact hrow6)
                 clear hbk6 hrow6 hob6 hsr6 hob7 hsr7
                 go_wp2_with fail
                 go_ret
                 rw [<- HE.out]
                 exact ⟨rfl,sv6,HBK6.out,HROW6.out,fun n hn=>(HOB7.out n hn).imp id (fun h=>by omega),HSR2.out.trans HSR7.out (fun n hn=>.inl hn)⟩
               | none =>
                 have HE:=Hd_ (HVN2.out rfl)
                 have hlen6:(L ++ [(sid,sinv)]).length=L.length+1:=by simp
                 rw [Option.getD_none,List.append_nil,hlen6] at hrow6
                 obtain ⟨g6,c6x,rfl,hg6,hg6w,hcl6,hcm6⟩:=own_some hrow6 (by omega)
                 obtain ⟨n6,hn6⟩:∃ n6,n6=L.length+1:=⟨_,rfl⟩
                 have htk:=ownsRow_take hrow6 (m:=L.length) (by omega)
                 have hfl:((L ++ [(sid,sinv)]).flatMap cSt).take (L.length * 2)=L.flatMap cSt:=by
                  rw [List.flatMap_append]
                  exact List.take_left' (flatStep_len L)
                 rw [hfl] at htk
                 rw [<- hn6] at HBK6
                 have z10:W6.cell? ⟨bS,10,none⟩=some (.slice (some ⟨g6,0,none⟩) n6 c6x):=HBK6.out.cell 10
                 have fz10:=HBK6.out.frozen 10
                 have lT6:=HBK6.out.lt
                 have qn:IntKind.i64.wrap ((n6:Int) - 1)=(L.length:Int):=by rw [IntWalk.i64_in _ (by omega)];omega
                 have hc6:(L.length:Int)<=(c6x:Int):=by omega
                 have HTK:=Hd_ htk
                 clear hbk6 hrow6 hob6 hsr6 hob7 hsr7 hlen6 hfl htk hn6
                 go_wp2_with fail
                 refine F_start 14 (fun w'=>w'.cell? ⟨bS,10,none⟩=some (.slice (some ⟨g6,0,none⟩) n6 c6x)) (by kernel_rfl) (by exact z10) (fun hS inv=>?_)
                 refine F_tk 0 inv ?_
                 try simp only [tA,tB,tC,Act.put,tE,tF,tG]
                 clear inv;intro inv
                 refine F_tk 1 inv ?_
                 try simp only [tA,tB,tC,Act.put,tE,tF,tG]
                 clear inv;intro inv
                 refine F_tk 2 inv ?_
                 try simp only [tA,tB,tC,Act.put,tE,tF,tG]
                 clear inv;intro inv
                 refine F_tk 3 inv ?_
                 try simp only [tA,tB,tC,Act.put,tE,tF,tG]
                 clear inv;intro inv
                 refine F_tk 4 inv ?_
                 try simp only [tA,tB,tC,Act.put,tE,tF,tG]
                 clear inv;intro inv
                 refine F_tk 5 inv ?_
                 try simp only [tA,tB,tC,Act.put,tE,tF,tG]
                 clear inv;intro inv
                 refine F_tk 6 inv ?_
                 try simp only [tA,tB,tC,Act.put,tE,tF,tG]
                 clear inv;intro inv
                 refine F_tk 7 inv ?_
                 try simp only [tA,tB,tC,Act.put,tE,tF,tG]
                 clear inv;intro inv
                 refine F_tk 8 inv ?_
                 try simp only [tA,tB,tC,Act.put,tE,tF,tG]
                 clear inv;intro inv
                 refine F_tk 9 inv ?_
                 try simp only [tA,tB,tC,Act.put,tE,tF,tG]
                 clear inv;intro inv
                 refine F_tk 10 inv ?_
                 try simp only [tA,tB,tC,Act.put,tE,tF,tG]
                 clear inv;intro inv
                 refine F_tk 11 inv ?_
                 try simp only [tA,tB,tC,Act.put,tE,tF,tG]
                 clear inv;intro inv
                 refine F_tk 12 inv ?_
                 try simp only [tA,tB,tC,Act.put,tE,tF,tG]
                 clear inv;intro inv
                 refine F_tk 13 inv ?_
                 try simp only [tA,tB,tC,Act.put,tE,tF,tG]
                 clear inv;intro inv
                 refine F_l1 14 ?_;intro K hK
                 go_simp
                 refine hK _ _ ?_
                 clear hK K inv hS
                 have hbk8:Blk (W6.setCell ⟨bS,10,none⟩ (.slice (some ⟨g6,0,none⟩) L.length c6x)).drew bS 150 #[.slice A1 g.vals.length c1,.slice A2 g.edges.length c2,.int .i64 a.start,.slice A3 a.accept.length c3,.slice A4 a.accept.length c4,.int .i64 y,.slice A6 D.length c6,.bool sm,.int .i64 (B:Int),.int .i64 (r2:Int),(.slice (some ⟨g6,0,none⟩) L.length c6x)]:=HBK6.out.set_ 10 (.slice (some ⟨g6,0,none⟩) L.length c6x)
                 have hrow8:(W6.setCell ⟨bS,10,none⟩ (.slice (some ⟨g6,0,none⟩) L.length c6x)).drew.ownsRow W0.heap.size 81 2 (.slice (some ⟨g6,0,none⟩) L.length c6x) L.length (L.flatMap cSt) :=
                  ownsRow_block (w:=W6) (w':=W6.setCell ⟨bS,10,none⟩ (.slice (some ⟨g6,0,none⟩) L.length c6x)) HTK.out (fun n hn=>Below.heap_setCell _ ⟨bS,10,none⟩ _ n (by cases hn;simp only;omega))
                 have hsr8:Srw bS sv.ownBlock W2 (W6.setCell ⟨bS,10,none⟩ (.slice (some ⟨g6,0,none⟩) L.length c6x)).drew:=(HSR7.out.trans (Srw.set bS sv.ownBlock W6 10 (.slice (some ⟨g6,0,none⟩) L.length c6x)) (fun n hn=>.inl hn)).trans (Srw.of_below ((Below.refl _ (W6.setCell ⟨bS,10,none⟩ (.slice (some ⟨g6,0,none⟩) L.length c6x))).drew) (Nat.le_refl _) bS sv.ownBlock) (fun n hn=>.inl hn)
                 generalize (W6.setCell ⟨bS,10,none⟩ (.slice (some ⟨g6,0,none⟩) L.length c6x)).drew=W8 at *
                 have HBK8:=Hd_ hbk8
                 have HROW8:=Hd_ hrow8
                 have HSR8:=Hd_ hsr8
                 clear hbk8 hrow8 hsr8 qn z10 fz10
                 go_wp2_with fail
                 go_roundw
                 case rel=>exact ⟨i+1,r2,_,by omega,hvl.1,by go_num,HE.out,HSR8.out,HBK8.out,HROW8.out,HOB7.out⟩
                 case measure=>simp [intOf];omega
      · obtain rfl:i=(arcsOf g (x:Int)).length:=by omega
        have hRe:R=(none,c'):=by rw [<- HR.out,visF_end]
        have HRE:=Hd_ hRe
        clear HR hRe hsr honr hsvlo
        go_wp2_with fail
        go_ret
        rw [HRE.out]
        exact ⟨rfl,sv',HBK.out,by simpa using HROW.out,fun n hn=>(HOB.out n hn).imp id (fun h=>by omega),HSR2.out.trans HSR.out (fun n hn=>.inl hn)⟩
end Go.Proofs.YtjpdembmchnbgaaGreat
