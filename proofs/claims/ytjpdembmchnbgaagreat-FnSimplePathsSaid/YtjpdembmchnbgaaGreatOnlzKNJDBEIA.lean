/- Parts of the proof, joined into one text: SrchI, HelpWalk, SrchJ, Srw, CutM. -/
import Derived.Test.YtjpdembmchnbgaaGreatOnlzLCDAIEIJ
import Derived.Test.YtjpdembmchnbgaaGreatOnlzCEBPBMGK
import Derived.Test.YtjpdembmchnbgaaGreatOnlzLJJOBLAE
import Derived.Test.YtjpdembmchnbgaaGreatOnlzLIMBOPHA
import Derived.Test.YtjpdembmchnbgaaGreatOnlzHMCPMHPL
import Derived.Test.YtjpdembmchnbgaaGreatOnlzNELCFPNN
import Derived.Lib.Slices
import Derived.Test.YtjpdembmchnbgaaGreatOnlzLOBKOOKG
set_option linter.unusedVariables false
set_option linter.unusedSimpArgs false
namespace Go.Proofs.YtjpdembmchnbgaaGreat
open Go.ChangeShapes Go.WideShapes Go.ChangeAt Go.RowKit
attribute [local go_sem] ext_cell ext_frozen ext_lt ext_lt1 ext_lt2 ext_lt3 ltn2 ltn3 ltn13 lts1 lts2 lts3
theorem any_takeS {α:Type} {l:List α} {f:α->Bool} {i:Nat} {x:α} (h:l[i]?=some x) (hn:(l.take i).any f=false) (hx:f x=false):(l.take (i+1)).any f=false:=by
 rw [take_snoc h,List.any_append,hn];simpa using hx
theorem any_yes {α:Type} {l:List α} {f:α->Bool} {i:Nat} {x:α} (h:l[i]?=some x) (hx:f x=true):l.any f=true:=List.any_eq_true.2 ⟨x,List.mem_of_getElem? h,hx⟩
theorem prod_lt {x n q m:Nat} (hx:x < n) (hq:q < m):x * m+q < n * m:=by
 have h1:(x+1) * m<=n * m:=Nat.mul_le_mul_right m (by omega)
 rw [Nat.succ_mul] at h1
 omega
theorem set_lt {s m q:Nat} (hs:s < 2 ^ m) (hq:s.testBit q=true):q < m:=by
 rcases Nat.lt_or_ge q m with h | h
 · exact h
 · have:=Nat.testBit_lt_two_pow (Nat.lt_of_lt_of_le hs (Nat.pow_le_pow_right (by omega) h))
   rw [hq] at this;cases this
set_option maxHeartbeats 4000000 in
set_option maxRecDepth 100000 in
theorem promising_any (g:Gr) (a:Au) (y:Int) (B:Nat) (D:List Int) (hgo:grOk g=true) (ha:auOk a=true) (bT:Nat) (W0:World) (A1 A2 A3 A4 A5 A6:Option Addr) (c1 c2 c3 c4 c5 c6:Nat)
 (hgv:GrV 0 bT W0 (.agg #[.slice A1 g.vals.length c1,.slice A2 g.edges.length c2]) g) (hav:AuV 0 bT W0 (.agg #[.int .i64 a.start,.slice A3 a.accept.length c3,.slice A4 a.accept.length c4]) a) (hlv:SSE 0 bT W0 cA 4 (.slice A5 g.vals.length c5) ((List.range g.vals.length).map fun (x:Nat)=>arcsOf g (x:Int))) (hdv:SlI 0 bT W0 cI 1 (.slice A6 D.length c6) D) (hD:D.length=g.vals.length * a.accept.length) (hB:B<=20000) (hbT:bT < W0.heap.size) (x s lf c:Nat) (w:World) (hon:Only bT (bT+1) W0 w) (hbk:Blk w bT 102 #[.slice A1 g.vals.length c1,.slice A2 g.edges.length c2,.int .i64 a.start,.slice A3 a.accept.length c3,.slice A4 a.accept.length c4,.int .i64 y,.slice A5 g.vals.length c5,.slice A6 D.length c6,.int .i64 (B:Int),.int .i64 (c:Int)]) (hx:x < g.vals.length) (hs:s < 2 ^ a.accept.length) (hlf:lf<=60) :
 Calls Tryz.prog 69 #[.pointer (some ⟨bT,0,none⟩),.int .i64 (x:Int),.int .i64 (s:Int),.int .i64 (lf:Int)] w fun e w'=>e=.returned (.bool (hope D a.accept.length x s lf))/\Below w.heap.size w w':=by
 have hs4:=lt12 ha hs
 have hn12:=(auOk_iff.1 ha).1.2
 have hn5:=(grOk_iff.1 hgo).n5
 have z3:w.cell? ⟨bT,3,none⟩=some (.slice A3 a.accept.length c3):=hbk.cell 3
 have z7:w.cell? ⟨bT,7,none⟩=some (.slice A6 D.length c6):=hbk.cell 7
 have lT:=hbk.lt
 obtain ⟨R,hR⟩:∃ R,R=hope D a.accept.length x s lf:=⟨_,rfl⟩
 rw [<- hR]
 have HR:=Hd_ (hR.trans (show hope D a.accept.length x s lf=(mem 12 s).any (hopeC D a.accept.length x lf) from rfl))
 have HS:=Hd_ hs
 have HDV:=Hd_ hdv
 have HON:=Hd_ hon
 have HD:=Hd_ hD
 have hDl:D.length<=60:=by rw [hD];exact Nat.le_trans (Nat.mul_le_mul hn5 hn12) (by omega)
 clear hgv hav hlv hdv hR hs hon hD hbk hgo ha
 go_enter Tryz.func69,Tryz.ntmps69
 go_wp2_with fail
 refine (members_any s _ hs4).mono ?_
 rintro e w1 ⟨v1,rfl,ho,hb1⟩
 obtain ⟨A8,c8,rfl,hl8,hm8,hC8⟩:=ho.form cN_len
 have hml:=mem_len 12 s
 have HC8:=Hd_ hC8
 have z3:=kcell hb1 z3
 have z7:=kcell hb1 z7
 have HO1:=Hd_ (HON.out.trans (Only.of_below hb1 bT (bT+1)))
 have HB1:=Hd_ hb1
 have lT:=Nat.lt_of_lt_of_le lT hb1.size
 have hsW:=HO1.out.size
 clear ho hC8 hb1 HON
 go_wp2_with fail
 go_loopw [14] (fun ii wr=>∃ (i:Nat) (u:World),i<=(mem 12 s).length/\ii=.int .i64 (i:Int)/\((mem 12 s).take i).any (hopeC D a.accept.length x lf)=false/\wr=ext w1 u) (fun ii _=>(mem 12 s).length - (intOf ii).toNat)
 case atStart=>exact ⟨0,w1,Nat.zero_le _,rfl,rfl,ext_self _⟩
 case round =>
  obtain ⟨i,u,hi,rfl,hno,rfl⟩:=hrel
  have HNO:=Hd_ hno
  clear hno
  by_cases hlt:i < (mem 12 s).length
  · have hqi:(mem 12 s)[i]?=some (mem 12 s)[i]:=List.getElem?_eq_getElem hlt
    have hqm:=mem_mem.1 (List.getElem_mem hlt)
    generalize (mem 12 s)[i]=q at hqi hqm
    have hql:=set_lt HS.out hqm.2
    obtain ⟨b8,o8,rfl,hb8,d8⟩:=HC8.out.nat hqi
    have hixl:x * a.accept.length+q < D.length:=by rw [HD.out];exact prod_lt hx hql
    have hget:=getD_of hixl
    obtain ⟨b6,o6,rfl,-,hb6,d6⟩:=HDV.out.intI hget
    have d6:=ocell HO1.out d6 (by omega) (.inl (by omega))
    have hb6w:b6 < w1.heap.size:=by omega
    obtain ⟨xn,hxn⟩:∃ xn,xn=x * a.accept.length:=⟨_,rfl⟩
    have HH:=Hd_ (show hopeC D a.accept.length x lf q=wi (D.getD (xn+q) 0) 0 (lf:Int) by rw [hxn];rfl)
    rw [<- hxn] at hixl hget d6
    obtain ⟨ix,hix⟩:∃ ix,ix=xn+q:=⟨_,rfl⟩
    have q1:IntKind.i64.wrap ((x:Int) * (a.accept.length:Int))=(xn:Int):=by rw [IntWalk.i64_in _ (by rw [<- Int.natCast_mul,<- hxn];omega),hxn,Int.natCast_mul]
    have q1':(x:Int) * (a.accept.length:Int)=(xn:Int):=by rw [hxn,Int.natCast_mul]
    have q2:IntKind.i64.wrap ((xn:Int)+(q:Int))=(ix:Int):=by rw [IntWalk.i64_in _ (by omega)];omega
    have q2':(xn:Int)+(q:Int)=(ix:Int):=by omega
    have q5:IntKind.i64.wrap (xn:Int)=(xn:Int):=IntWalk.i64_in _ (by omega)
    have q6:IntKind.i64.wrap (ix:Int)=(ix:Int):=IntWalk.i64_in _ (by omega)
    rw [<- hix] at hixl hget d6 HH
    have hixi:(ix:Int) < (D.length:Int):=by omega
    have hix0:(0:Int)<=(ix:Int):=by omega
    have hii:(i:Int) < ((mem 12 s).length:Int):=by omega
    generalize D.getD ix 0=dv at *
    have HW:=Hd_ within_any
    clear hget hqm hxn hix
    cases hv:wi dv 0 (lf:Int) with
    | true =>
      have hfin:R=true:=by rw [HR.out];exact any_yes hqi (by rw [HH.out,hv])
      subst hfin
      clear HR HH hqi
      go_wp2_with fail
      refine wp_region_ext_lit (by kernel_rfl) (by kernel_rfl) ?_
      repeat (go_big_quiet_step ((go_at_call 45;exact Calls.ext_of ((HW.out _ _ _ _).mono fun e w' h=>⟨by rw [h.1,hv],by rw [h.2];exact Below.refl _ _⟩))))
      refine wpQuiet_nil ?_
      rintro _ ⟨u2,rfl⟩
      go_wp2_with fail
      go_ret
      exact ⟨rfl,below_trans HB1.out (below_trans (ext_below _ _) (ext_below _ _))⟩
    | false =>
      have HM:=Hd_ (any_takeS hqi HNO.out (by rw [HH.out,hv]))
      clear HR HH hqi HNO
      go_wp2_with fail
      refine wp_region_ext_lit (by kernel_rfl) (by kernel_rfl) ?_
      repeat (go_big_quiet_step ((go_at_call 45;exact Calls.ext_of ((HW.out _ _ _ _).mono fun e w' h=>⟨by rw [h.1,hv],by rw [h.2];exact Below.refl _ _⟩))))
      refine wpQuiet_nil ?_
      rintro _ ⟨u2,rfl⟩
      obtain ⟨u4,hu4⟩:=ext_of (below_trans (ext_below w1 u) (ext_below (ext w1 u) u2))
      rw [hu4]
      go_wp2_with fail
      go_roundw
      case rel=>exact ⟨i+1,u4,by omega,by go_num,HM.out,rfl⟩
      case measure=>simp [intOf];omega
  · obtain rfl:i=(mem 12 s).length:=by omega
    rw [List.take_length] at HNO
    have hfin:R=false:=by rw [HR.out];exact HNO.out
    subst hfin
    clear HR
    go_wp2_with fail
    go_ret
    exact ⟨rfl,below_trans HB1.out (ext_below _ _)⟩
set_option maxHeartbeats 16000000 in
set_option maxRecDepth 100000 in
theorem simpleVisit_any (g:Gr) (a:Au) (y:Int) (B:Nat) (D:List Int) (hgo:grOk g=true) (ha:auOk a=true) (bT:Nat) (W0:World) (A1 A2 A3 A4 A5 A6:Option Addr) (c1 c2 c3 c4 c5 c6:Nat)
 (hgv:GrV 0 bT W0 (.agg #[.slice A1 g.vals.length c1,.slice A2 g.edges.length c2]) g) (hav:AuV 0 bT W0 (.agg #[.int .i64 a.start,.slice A3 a.accept.length c3,.slice A4 a.accept.length c4]) a) (hlv:SSE 0 bT W0 cA 4 (.slice A5 g.vals.length c5) ((List.range g.vals.length).map fun (x:Nat)=>arcsOf g (x:Int))) (hdv:SlI 0 bT W0 cI 1 (.slice A6 D.length c6) D) (hD:D.length=g.vals.length * a.accept.length) (hB:B<=20000) (hbT:bT < W0.heap.size):∀ (lf x s:Nat) (us:List Int) (c:Nat) (uv:Value) (w:World),Only bT (bT+1) W0 w->Blk w bT 102 #[.slice A1 g.vals.length c1,.slice A2 g.edges.length c2,.int .i64 a.start,.slice A3 a.accept.length c3,.slice A4 a.accept.length c4,.int .i64 y,.slice A5 g.vals.length c5,.slice A6 D.length c6,.int .i64 (B:Int),.int .i64 (c:Int)]->SlI (bT+1) w.heap.size w cI 1 uv us->x < g.vals.length->s < 2 ^ a.accept.length->c<=B->us.length+lf<=60 ->
 Calls Tryz.prog 78 #[.pointer (some ⟨bT,0,none⟩),.int .i64 (x:Int),.int .i64 (s:Int),uv,.int .i64 (lf:Int)] w fun e w'=>∃ v',e=.returned (.tuple #[v',.bool (visit g a y B D true lf x s us c).1.isSome])/\Own w.heap.size w'.heap.size w' 81 cSt 2 v' ((visit g a y B D true lf x s us c).1.getD []) /\
  Blk w' bT 102 #[.slice A1 g.vals.length c1,.slice A2 g.edges.length c2,.int .i64 a.start,.slice A3 a.accept.length c3,.slice A4 a.accept.length c4,.int .i64 y,.slice A5 g.vals.length c5,.slice A6 D.length c6,.int .i64 (B:Int),.int .i64 ((visit g a y B D true lf x s us c).2:Int)]/\Only bT (bT+1) w w':=by
 intro lf
 induction lf with
 | zero =>
   intro x s us c uv w hon hbk huv hx hs hc hul
   have hb:w.heap.size<=w.heap.size:=Nat.le_refl _
   by_cases hBc:B<=c
   · rw [visit_out hBc]
     have z8:w.cell? ⟨bT,8,none⟩=some (.int .i64 (B:Int)):=hbk.cell 8
     have z9:w.cell? ⟨bT,9,none⟩=some (.int .i64 (c:Int)):=hbk.cell 9
     have hcb:decide ((c:Int) >= (B:Int))=true:=by simp;omega
     have lT:=hbk.lt
     have HBK:=Hd_ hbk
     clear hgv hav hlv hdv hD hgo ha hon hbk huv
     go_enter Tryz.func78,Tryz.ntmps78
     go_wp2_with fail
     refine wp_region_ext_lit (by kernel_rfl) (by kernel_rfl) ?_
     repeat (go_big_quiet_step (fail))
     refine wpQuiet_nil ?_
     rintro _ ⟨u,rfl⟩
     go_wp2_with fail
     go_ret2
     exact ⟨_,rfl,Own.nil _ _ _ _ _ _,HBK.out.keep (ext_below _ _),Only.of_below (ext_below _ _) _ _⟩
   · rw [visit_zeroV (by omega),endV_some,endV_get,endV_two]
     obtain ⟨BB,hBB⟩:∃ BB,BB=(decide ((x:Int)=y) && acc a s (valAt g x)):=⟨_,rfl⟩
     rw [<- hBB]
     have HBB0:=Hd_ hBB
     clear hBB
     obtain ⟨C1,hC1⟩:∃ C1,C1=c+1:=⟨_,rfl⟩
     rw [<- hC1]
     have hC1a:c+1<=C1:=by omega
     have hC1b:C1<=c+1:=by omega
     clear hC1
     have z8:w.cell? ⟨bT,8,none⟩=some (.int .i64 (B:Int)):=hbk.cell 8
     have z9:w.cell? ⟨bT,9,none⟩=some (.int .i64 (c:Int)):=hbk.cell 9
     have hcb:decide ((c:Int) >= (B:Int))=false:=by simp;omega
     have lT:=hbk.lt
     have fz9:=hbk.frozen 9
     have HBK:=Hd_ hbk
     have HON:=Hd_ hon
     have HUV:=Hd_ huv
     have qc:IntKind.i64.wrap ((c:Int)+1)=(C1:Int):=by rw [IntWalk.i64_in _ (by omega)];omega
     clear hon hbk huv
     go_enter Tryz.func78,Tryz.ntmps78
     go_wp2_with fail
     refine wp_region_ext_lit (by kernel_rfl) (by kernel_rfl) ?_
     repeat (go_big_quiet_step (fail))
     refine wpQuiet_nil ?_
     rintro _ ⟨u,rfl⟩
     go_upto_region 4 with fail
     have hbk1:=(HBK.out.keep (ext_below w u)).set_ 9 (.int .i64 (C1:Int))
     have honl:Only bT (bT+1) w ((ext w u).setCell ⟨bT,9,none⟩ (.int .i64 (C1:Int))):=(Only.of_below (ext_below w u) bT (bT+1)).setCell (p:=⟨bT,9,none⟩) (.inl ⟨Nat.le_refl _,Nat.lt_succ_self _⟩) _
     generalize (ext w u).setCell ⟨bT,9,none⟩ (.int .i64 (C1:Int))=W1 at *
     have HBK1:=Hd_ hbk1
     have HONL:=Hd_ honl
     have HON1:=Hd_ (HON.out.trans honl)
     have hsW1:=honl.size
     have lT:=hbk1.lt
     have hWW:=HON1.out.size
     clear hbk1 honl z8 z9 hcb qc fz9 HBK
     have hva:∃ vx:Nat,g.vals[x]?=some (vx:Int)/\valAt g x=vx/\vx<=2:=by
      have hxi:g.vals[x]?=some g.vals[x]:=List.getElem?_eq_getElem hx
      have hvr:=(grOk_iff.1 hgo).vals _ (List.getElem_mem hx)
      obtain ⟨vx,hvx⟩:=Int.eq_ofNat_of_zero_le hvr.1
      refine ⟨vx,by rw [hxi,hvx],?_,by omega⟩
      have:=valAt_of hxi
      rw [this,hvx,Int.toNat_natCast]
     obtain ⟨vx,hxi,hva,hvx⟩:=hva
     obtain ⟨vs,es,hag,h1,-⟩:=hgv
     injection hag with hag
     simp at hag
     obtain ⟨rfl,rfl⟩:=hag
     obtain ⟨b1,o1,rfl,-,hb1,dv⟩:=h1.intI hxi
     have dv:=ocell HON1.out dv (by omega) (.inl hb1)
     have hb1w:b1 < W1.heap.size:=by omega
     have hxx:(x:Int) < (g.vals.length:Int):=by omega
     have z0:W1.cell? ⟨bT,0,none⟩=some (.slice (some ⟨b1,o1,none⟩) g.vals.length c1):=HBK1.out.cell 0
     have z2:W1.cell? ⟨bT,2,none⟩=some (.int .i64 a.start):=HBK1.out.cell 2
     have z3:W1.cell? ⟨bT,3,none⟩=some (.slice A3 a.accept.length c3):=HBK1.out.cell 3
     have z4:W1.cell? ⟨bT,4,none⟩=some (.slice A4 a.accept.length c4):=HBK1.out.cell 4
     have z5:W1.cell? ⟨bT,5,none⟩=some (.int .i64 y):=HBK1.out.cell 5
     have HAV:=Hd_ hav
     have HEND:=Hd_ (fun (W:World) (hW:Below W1.heap.size W1 W)=>acceptsAt_any _ a s vx W (((hav.only HON1.out (by omega) (.inl (Nat.le_refl _))).all (by omega)).keep hW) ha hs hvx)
     have hBB:=HBB0.out
     rw [hva] at hBB
     clear HBB0
     clear hxi hva h1 hav hlv hdv hD hgo ha
     by_cases hxy:(x:Int)=y
     · have hd:decide ((x:Int)=y)=true:=decide_eq_true hxy
       have hd2:((x:Int)==y)=true:=by simp [hxy]
       rw [hd,Bool.true_and] at hBB
       generalize acc a s vx=bb at *
       have HBB:=Hd_ hBB
       clear hxy hBB
       go_wp2_with fail
       refine wp_region_ext_lit (by kernel_rfl) (by kernel_rfl) ?_
       repeat (go_big_quiet_step ((go_at_call 99;exact Calls.ext_of (HEND.out _ (ext_below _ _)))))
       refine wpQuiet_nil ?_
       rintro _ ⟨u2,rfl⟩
       go_wp2_with fail
       go_ret2
       rw [HBB.out]
       exact ⟨_,rfl,Own.nil _ _ _ _ _ _,HBK1.out.keep (ext_below _ _),HONL.out.trans (Only.of_below (ext_below _ _) _ _)⟩
     · have hd:decide ((x:Int)=y)=false:=decide_eq_false hxy
       have hd2:((x:Int)==y)=false:=by simp [hxy]
       rw [hd,Bool.false_and] at hBB
       have HBB:=Hd_ hBB
       clear hxy hBB
       go_wp2_with fail
       refine wp_region_ext_lit (by kernel_rfl) (by kernel_rfl) ?_
       repeat (go_big_quiet_step (fail))
       refine wpQuiet_nil ?_
       rintro _ ⟨u2,rfl⟩
       go_wp2_with fail
       go_ret2
       rw [HBB.out]
       exact ⟨_,rfl,Own.nil _ _ _ _ _ _,HBK1.out.keep (ext_below _ _),HONL.out.trans (Only.of_below (ext_below _ _) _ _)⟩
 | succ lf ih =>
   intro x s us c uv w hon hbk huv hx hs hc hul
   by_cases hBc:B<=c
   · rw [visit_out hBc]
     have z8:w.cell? ⟨bT,8,none⟩=some (.int .i64 (B:Int)):=hbk.cell 8
     have z9:w.cell? ⟨bT,9,none⟩=some (.int .i64 (c:Int)):=hbk.cell 9
     have hcb:decide ((c:Int) >= (B:Int))=true:=by simp;omega
     have lT:=hbk.lt
     have HBK:=Hd_ hbk
     clear hgv hav hlv hdv hD hgo ha hon hbk huv
     go_enter Tryz.func78,Tryz.ntmps78
     go_wp2_with fail
     refine wp_region_ext_lit (by kernel_rfl) (by kernel_rfl) ?_
     repeat (go_big_quiet_step (fail))
     refine wpQuiet_nil ?_
     rintro _ ⟨u,rfl⟩
     go_wp2_with fail
     go_ret2
     exact ⟨_,rfl,Own.nil _ _ _ _ _ _,HBK.out.keep (ext_below _ _),Only.of_below (ext_below _ _) _ _⟩
   · rw [visit_succ (by omega)]
     obtain ⟨L1,hL1⟩:∃ L1,L1=lf+1:=⟨_,rfl⟩
     rw [<- hL1]
     obtain ⟨C1,hC1⟩:∃ C1,C1=c+1:=⟨_,rfl⟩
     rw [<- hC1]
     obtain ⟨R,hR⟩:∃ R,R=visF g a y B D true lf x s us 0 C1:=⟨_,rfl⟩
     rw [<- hR]
     have hL1a:lf+1<=L1:=by omega
     have hL1b:L1<=lf+1:=by omega
     have hC1a:c+1<=C1:=by omega
     have hC1b:C1<=c+1:=by omega
     clear hL1 hC1
     have z8:w.cell? ⟨bT,8,none⟩=some (.int .i64 (B:Int)):=hbk.cell 8
     have z9:w.cell? ⟨bT,9,none⟩=some (.int .i64 (c:Int)):=hbk.cell 9
     have hcb:decide ((c:Int) >= (B:Int))=false:=by simp;omega
     have lT:=hbk.lt
     have fz9:=hbk.frozen 9
     have HBK:=Hd_ hbk
     have HON:=Hd_ hon
     have HUV:=Hd_ huv
     have qc:IntKind.i64.wrap ((c:Int)+1)=(C1:Int):=by rw [IntWalk.i64_in _ (by omega)];omega
     clear hon hbk huv
     go_enter Tryz.func78,Tryz.ntmps78
     go_wp2_with fail
     refine wp_region_ext_lit (by kernel_rfl) (by kernel_rfl) ?_
     repeat (go_big_quiet_step (fail))
     refine wpQuiet_nil ?_
     rintro _ ⟨u,rfl⟩
     go_upto_region 4 with fail
     have hbk1:=(HBK.out.keep (ext_below w u)).set_ 9 (.int .i64 (C1:Int))
     have honl:Only bT (bT+1) w ((ext w u).setCell ⟨bT,9,none⟩ (.int .i64 (C1:Int))):=(Only.of_below (ext_below w u) bT (bT+1)).setCell (p:=⟨bT,9,none⟩) (.inl ⟨Nat.le_refl _,Nat.lt_succ_self _⟩) _
     generalize (ext w u).setCell ⟨bT,9,none⟩ (.int .i64 (C1:Int))=W1 at *
     have HBK1:=Hd_ hbk1
     have HONL:=Hd_ honl
     have HON1:=Hd_ (HON.out.trans honl)
     have hsW1:=honl.size
     have lT:=hbk1.lt
     have hWW:=HON1.out.size
     clear hbk1 honl z8 z9 hcb qc fz9 HBK
     have hl0:((L1:Int)==0)=false:=by simp;omega
     have hl1:decide ((L1:Int)=0)=false:=by simp;omega
     have ql:IntKind.i64.wrap ((L1:Int) - 1)=(lf:Int):=by rw [IntWalk.i64_in _ (by omega)];omega
     have hgv0:=hgv
     have hva:∃ vx:Nat,g.vals[x]?=some (vx:Int)/\valAt g x=vx/\vx<=2:=by
      have hxi:g.vals[x]?=some g.vals[x]:=List.getElem?_eq_getElem hx
      have hvr:=(grOk_iff.1 hgo).vals _ (List.getElem_mem hx)
      obtain ⟨vx,hvx⟩:=Int.eq_ofNat_of_zero_le hvr.1
      refine ⟨vx,by rw [hxi,hvx],?_,by omega⟩
      have:=valAt_of hxi
      rw [this,hvx,Int.toNat_natCast]
     obtain ⟨vx,hxi,hva,hvx⟩:=hva
     obtain ⟨vs,es,hag,h1,-⟩:=hgv
     injection hag with hag
     simp at hag
     obtain ⟨rfl,rfl⟩:=hag
     obtain ⟨b1,o1,rfl,-,hb1,dv⟩:=h1.intI hxi
     have dv:=ocell HON1.out dv (by omega) (.inl hb1)
     have hal:=arcs_len (grOk_iff.1 hgo) (x:Int)
     obtain ⟨b5,o5,A7,c7,rfl,-,hb5,d5,hl7,hm7,hI7,-⟩:=hlv.row (by omega) (i:=x) (xs:=arcsOf g (x:Int)) (by simp [hx])
     have d5:=ocell HON1.out d5 (by omega) (.inl hb5)
     have hb1w:b1 < W1.heap.size:=by omega
     have hb5w:b5 < W1.heap.size:=by omega
     have hxx:(x:Int) < (g.vals.length:Int):=by omega
     have z6:W1.cell? ⟨bT,6,none⟩=some (.slice (some ⟨b5,o5,none⟩) g.vals.length c5):=HBK1.out.cell 6
     have HI7:=Hd_ hI7
     have HREC:=Hd_ ih
     have HPR:=Hd_ (fun x s lf c w=>promising_any g a y B D hgo ha bT W0 _ A2 A3 A4 _ A6 c1 c2 c3 c4 c5 c6 hgv0 hav hlv hdv hD hB hbT x s lf c w)
     have HAF:=Hd_ (fun (l:Nat) (hl:l < 9) (W:World) (hW:Only bT (bT+1) W0 W)=>after_any _ a s vx l W ((hav.only hW (by omega) (.inl (Nat.le_refl _))).all (Nat.le_trans (Nat.le_of_lt hbT) hW.size)) ha hs hvx hl)
     have HGO:=Hd_ hgo
     have HA:=Hd_ ha
     have HR0:=Hd_ hR.symm
     have hn5:=(grOk_iff.1 hgo).n5
     clear hR hgv0 h1 hav hlv hdv hD hgo ha ih hI7 hs hxi
     go_wp2_with fail
     go_loopw [65] (fun ii wr=>∃ i c':Nat,i<=(arcsOf g (x:Int)).length/\c'<=B/\ii=.int .i64 (i:Int)/\visF g a y B D true lf x s us i c'=R/\Only bT (bT+1) W1 wr/\Blk wr bT 102 #[.slice (some ⟨b1,o1,none⟩) g.vals.length c1,.slice A2 g.edges.length c2,.int .i64 a.start,.slice A3 a.accept.length c3,.slice A4 a.accept.length c4,.int .i64 y,.slice (some ⟨b5,o5,none⟩) g.vals.length c5,.slice A6 D.length c6,.int .i64 (B:Int),.int .i64 (c':Int)]) (fun ii _=>(arcsOf g (x:Int)).length - (intOf ii).toNat)
     case atStart=>exact ⟨0,C1,Nat.zero_le _,by omega,rfl,HR0.out,Only.refl _ _ _,HBK1.out⟩
     case round =>
      clear HR0 HBK1 z6 d5 hl0 hl1
      obtain ⟨i,c',hi,hcB,rfl,hR,hon,hbk⟩:=hrel
      have HR:=Hd_ hR
      have HON:=Hd_ hon
      have HBK:=Hd_ hbk
      have hsz:=hon.size
      have lTr:=hbk.lt
      clear hR hon hbk
      by_cases hlt:i < (arcsOf g (x:Int)).length
      · have hyi:(arcsOf g (x:Int))[i]?=some (arcsOf g (x:Int))[i]:=List.getElem?_eq_getElem hlt
        have hyr:=arc_range (grOk_iff.1 HGO.out) (List.getElem_mem hlt)
        generalize (arcsOf g (x:Int))[i]=p at hyi hyr
        obtain ⟨⟨sid,sinv⟩,l,t⟩:=p
        simp only at hyr
        obtain ⟨l,rfl⟩:=Int.eq_ofNat_of_zero_le hyr.1.1
        obtain ⟨t,rfl⟩:=Int.eq_ofNat_of_zero_le hyr.2.1
        obtain ⟨b7,o7,rfl,-,hb7,k0,k1,k2,k3⟩:=HI7.out.arc hyi
        simp only at k0 k1 k2 k3
        have honW:=HON1.out.trans HON.out
        have k0:=ocell honW k0 (by omega) (.inl hb7)
        have k1:=ocell honW k1 (by omega) (.inl hb7)
        have k2:=ocell honW k2 (by omega) (.inl hb7)
        have k3:=ocell honW k3 (by omega) (.inl hb7)
        have hb7w:b7 < wr.heap.size:=by omega
        have hM:=aft_lt HA.out s vx l
        have hm4:=lt12 HA.out hM
        have hmv:aft a s (valAt g x) ((l:Int)).toNat=aft a s vx l:=by rw [hva,Int.toNat_natCast]
        have HVS:=Hd_ (fun h=>visF_skip2 (y:=y) (B:=B) (D:=D) (sm:=true) (lf:=lf) (us:=us) (c:=c') (t:=t) (k:=(t:Int)) hyi rfl hmv rfl h)
        have HVY:=Hd_ (fun r c2 h h2=>visF_yes2 (y:=y) (B:=B) (D:=D) (sm:=true) (lf:=lf) (us:=us) (c:=c') (t:=t) (k:=(t:Int)) (r:=r) (c':=c2) hyi rfl hmv rfl h h2)
        have HVN:=Hd_ (fun c2 h h2=>visF_no2 (y:=y) (B:=B) (D:=D) (sm:=true) (lf:=lf) (us:=us) (c:=c') (t:=t) (k:=(t:Int)) (c':=c2) hyi rfl hmv rfl h h2)
        have HAL:=Hd_ (HAF.out l (by omega))
        have hii:(i:Int) < ((arcsOf g (x:Int)).length:Int):=by omega
        have HM:=Hd_ hM
        clear hyi hmv hM honW
        generalize aft a s vx l=M at *
        go_wp2_with fail
        have e0:(wr.alloc (.cells #[.int .i64 sid,.bool sinv,.int .i64 (l:Int),.int .i64 (t:Int)] 88)).cell? ⟨wr.heap.size,0,none⟩=some (.int .i64 sid):=by simp
        have e1:(wr.alloc (.cells #[.int .i64 sid,.bool sinv,.int .i64 (l:Int),.int .i64 (t:Int)] 88)).cell? ⟨wr.heap.size,1,none⟩=some (.bool sinv):=by simp
        have e2:(wr.alloc (.cells #[.int .i64 sid,.bool sinv,.int .i64 (l:Int),.int .i64 (t:Int)] 88)).cell? ⟨wr.heap.size,2,none⟩=some (.int .i64 (l:Int)):=by simp
        have e3:(wr.alloc (.cells #[.int .i64 sid,.bool sinv,.int .i64 (l:Int),.int .i64 (t:Int)] 88)).cell? ⟨wr.heap.size,3,none⟩=some (.int .i64 (t:Int)):=by simp
        have hbE:=(Below.refl wr.heap.size wr).alloc (Nat.le_refl _) (.cells #[.int .i64 sid,.bool sinv,.int .i64 (l:Int),.int .i64 (t:Int)] 88)
        have hsE:wr.heap.size < (wr.alloc (.cells #[.int .i64 sid,.bool sinv,.int .i64 (l:Int),.int .i64 (t:Int)] 88)).heap.size:=by simp
        generalize wr.alloc (.cells #[.int .i64 sid,.bool sinv,.int .i64 (l:Int),.int .i64 (t:Int)] 88)=wE at *
        have hbkE:=HBK.out.keep hbE
        have honE:=HON.out.trans (Only.of_below hbE bT (bT+1))
        have z0:wE.cell? ⟨bT,0,none⟩=some (.slice (some ⟨b1,o1,none⟩) g.vals.length c1):=hbkE.cell 0
        have z2:wE.cell? ⟨bT,2,none⟩=some (.int .i64 a.start):=hbkE.cell 2
        have z3:wE.cell? ⟨bT,3,none⟩=some (.slice A3 a.accept.length c3):=hbkE.cell 3
        have z4:wE.cell? ⟨bT,4,none⟩=some (.slice A4 a.accept.length c4):=hbkE.cell 4
        have lTE:=hbkE.lt
        have dv:=ocell honE dv (by omega) (.inl hb1)
        have hb1E:b1 < wE.heap.size:=by omega
        have HBKE:=Hd_ hbkE
        have HONE:=Hd_ honE
        have hebT:bT < wr.heap.size:=by omega
        generalize wr.heap.size=eb at *
        clear k0 k1 k2 k3 hbE hbkE honE
        refine wp_region_ext_lit (by kernel_rfl) (by kernel_rfl) ?_
        repeat (go_big_quiet_step ((go_at_call 104;exact Calls.ext_of (HAL.out _ (HON1.out.trans (HONE.out.trans (Only.of_below (ext_below _ _) bT (bT+1))))))))
        refine wpQuiet_nil ?_
        rintro _ ⟨u2,rfl⟩
        have hbE2:=ext_below wE u2
        have honX:=HONE.out.trans (Only.of_below hbE2 bT (bT+1))
        have hbkX:=HBKE.out.keep hbE2
        have e0:=kcell hbE2 e0
        have e1:=kcell hbE2 e1
        have e2:=kcell hbE2 e2
        have e3:=kcell hbE2 e3
        have hsX:=hbE2.size
        have HONX:=Hd_ honX
        have HBKX:=Hd_ hbkX
        have lTX:=hbkX.lt
        generalize ext wE u2=wX at *
        clear hbE2 honX hbkX z0 z2 z3 z4 dv HONE HBKE HAL
        by_cases hm0:M=0
        · have HE:=Hd_ ((HVS.out (by simp [hm0])).symm.trans HR.out)
          clear HVS HVY HVN HM
          subst hm0
          go_wp2_with fail
          go_roundw
          case rel=>exact ⟨i+1,c',by omega,hcB,by go_num,HE.out,HONX.out,HBKX.out⟩
          case measure=>simp [intOf];omega
        · have hmi:((M:Int)==0)=false:=by simp;omega
          have hmi2:decide ((M:Int)=0)=false:=by simp;omega
          have huX:=((HUV.out.only (HONL.out.trans HONX.out) (Nat.le_refl _) (.inr (Nat.le_refl _))).mono (lo':=bT+1) (Nat.le_refl _) (show w.heap.size<=wX.heap.size by omega))
          have HUX:=Hd_ huX
          have hct:=contains_any _ us (t:Int) wX (huX.mono (Nat.zero_le _) (Nat.le_refl _)) (by omega)
          have HCT:=Hd_ hct
          clear hct huX
          cases hcn:us.contains (t:Int) with
          | true =>
            rw [hcn] at HCT
            have HE:=Hd_ ((HVS.out (by rw [hcn];simp)).symm.trans HR.out)
            clear HVS HVY HVN HM hcn
            go_wp2_with fail
            refine HCT.out.mono ?_
            rintro en w9 ⟨rfl,hw9⟩
            rw [hw9]
            clear hw9
            go_wp2_with fail
            go_roundw
            case rel=>exact ⟨i+1,c',by omega,hcB,by go_num,HE.out,HONX.out,HBKX.out⟩
            case measure=>simp [intOf];omega
          | false =>
            rw [hcn] at HCT
            have HPX:=Hd_ (HPR.out t M lf c' wX (HON1.out.trans HONX.out) HBKX.out (by omega) HM.out (by omega))
            cases hhp:hope D a.accept.length t M lf with
            | false =>
              rw [hhp] at HPX
              have HE:=Hd_ ((HVS.out (by rw [hhp];simp)).symm.trans HR.out)
              clear HVS HVY HVN HM hcn hhp
              go_wp2_with fail
              refine HCT.out.mono ?_
              rintro en w9 ⟨rfl,hw9⟩
              rw [hw9]
              clear hw9
              go_wp2_with fail
              refine HPX.out.mono ?_
              rintro en w9 ⟨rfl,hb9⟩
              have HO9:=Hd_ (HONX.out.trans (Only.of_below hb9 bT (bT+1)))
              have HBK9:=Hd_ (HBKX.out.keep hb9)
              clear hb9
              go_wp2_with fail
              go_roundw
              case rel=>exact ⟨i+1,c',by omega,hcB,by go_num,HE.out,HO9.out,HBK9.out⟩
              case measure=>simp [intOf];omega
            | true =>
              rw [hhp] at HPX
              have hvl:=visit_le (g:=g) (a:=a) (y:=y) (B:=B) (D:=D) (sm:=true) lf t M (us ++ [(t:Int)]) c' hcB
              have HRC:=Hd_ (fun (uvN:Value) (W:World) h1 h2 h3=>HREC.out t M (us ++ [(t:Int)]) c' uvN W h1 h2 h3 (by omega) HM.out hcB (by simp;omega))
              have hvn:=visit_len (g:=g) (a:=a) (y:=y) (B:=B) (D:=D) (sm:=true) lf t M (us ++ [(t:Int)]) c'
              generalize hV:visit g a y B D true lf t M (us ++ [(t:Int)]) c'=V at *
              obtain ⟨o,c2⟩:=V
              simp only at hvl hvn
              have HRL:=Hd_ (fun r (h:o=some r)=>hvn r h)
              clear hvn
              have HVY2:=Hd_ (fun r (h:o=some r)=>(HVY.out r c2 (by rw [hcn,hhp];simp [hm0]) (by rw [h])).symm.trans HR.out)
              have HVN2:=Hd_ (fun (h:o=none)=>(HVN.out c2 (by rw [hcn,hhp];simp [hm0]) (by rw [h])).symm.trans HR.out)
              clear HVS HVY HVN HM hcn hhp hV HREC HPR HAF
              go_wp2_with fail
              refine HCT.out.mono ?_
              rintro en w9 ⟨rfl,hw9⟩
              rw [hw9]
              clear hw9
              go_wp2_with fail
              refine HPX.out.mono ?_
              rintro en w9 ⟨rfl,hb9⟩
              have hon9:=HONX.out.trans (Only.of_below hb9 bT (bT+1))
              have hbk9:=HBKX.out.keep hb9
              have hu9:=(HUX.out.below hb9 (Nat.le_refl _)).mono (Nat.le_refl _) hb9.size
              have HU9:=Hd_ (hu9.mono (Nat.zero_le _) (Nat.le_refl _))
              have hs9:=hb9.size
              have HO9:=Hd_ hon9
              have HBK9:=Hd_ hbk9
              have lT9:=hbk9.lt
              have e0:=kcell hb9 e0
              have e1:=kcell hb9 e1
              have e3:=kcell hb9 e3
              have heb9:eb < w9.heap.size:=by omega
              clear hon9 hbk9 hu9 hb9 HUX HBKX HONX HCT HPX e2
              go_wp2_with fail
              have hbD:=(Below.refl w9.heap.size w9).drew
              refine F_start 17 (fun w'=>w'.cell? ⟨eb,0,none⟩=some (.int .i64 sid)/\w'.cell? ⟨eb,1,none⟩=some (.bool sinv)/\w'.cell? ⟨eb,3,none⟩=some (.int .i64 (t:Int))) (by kernel_rfl) (by exact ⟨e0,e1,e3⟩) (fun hS inv=>?_)
              refine F_tk 0 inv ?_
              try simp only [tA,tB,tC,Act.put,tE,tF,tG]
              clear inv;intro inv
              refine F_tk 1 inv ?_
              try simp only [tA,tB,tC,Act.put,tE,tF,tG]
              clear inv;intro inv
              refine F_tk 2 inv ?_
              try simp only [tA,tB,tC,Act.put,tE,tF,tG]
              clear inv;intro inv
              refine F_tk 3 inv ?_
              try simp only [tA,tB,tC,Act.put,tE,tF,tG]
              clear inv;intro inv
              refine F_tk 4 inv ?_
              try simp only [tA,tB,tC,Act.put,tE,tF,tG]
              clear inv;intro inv
              refine F_tk 6 inv ?_
              try simp only [tA,tB,tC,Act.put,tE,tF,tG]
              clear inv;intro inv
              refine F_tk 7 inv ?_
              try simp only [tA,tB,tC,Act.put,tE,tF,tG]
              clear inv;intro inv
              refine F_tk 10 inv ?_
              try simp only [tA,tB,tC,Act.put,tE,tF,tG]
              clear inv;intro inv
              refine F_tk 11 inv ?_
              try simp only [tA,tB,tC,Act.put,tE,tF,tG]
              clear inv;intro inv
              have hS0:=hS
              refine F_two (i:=5) (j:=8) (by kernel_rfl) rfl rfl rfl rfl (by omega) inv (fun K hK=>?_) (fun K hK=>?_)
              all_goals (try simp only [tA,tB,tC])
              · go_simp
                refine (copyInts_any _ us _ (SlE.keep (w':=w9.drew) HU9.out hbD) (by omega)).mono ?_
                rintro en wA ⟨vA,rfl,hoA,hbA⟩
                have HOA:=Hd_ hoA.1
                have hsA:=hbA.size
                clear hoA
                refine hK.out _ _ (kB3 hbA hS) (fun _ _=>?_)
                try simp only [tA,tB,tC,Act.put,tE,tF,tG]
                clear hK K inv hS;rename_i hS inv
                refine F_o1 8 inv ?_;intro K hK
                try simp only [tA,tB,tC]
                go_simp
                refine hK.out _ _ (kA3 _ hS) (fun _ _=>?_)
                try simp only [tA,tB,tC,Act.put,tE,tF,tG]
                clear hK K inv hS;rename_i hS inv
                refine F_o1 9 inv ?_;intro K hK
                try simp only [tA,tB,tC]
                refine op_append1 cI elInt rfl _ _ (by rfl) w9.drew.heap.size _ us (t:Int) 1 _ (by rfl) (HOA.out.alloc _) (by first | rfl | simp) (heap_alloc_new _ _) rfl (cI_one _) (by omega) (by omega) (Nat.le_trans hsA (by simp)) ?_
                intro g2 cp2 w3 hown3 hgr3 hat3 hlt3
                have hbY:=(hbA.alloc hsA (.cells #[.int .i64 (t:Int)] 3)).trans (own_below (HOA.out.alloc (.cells #[.int .i64 (t:Int)] 3)) (Nat.le_trans hsA (by simp)) hgr3)
                have HOW:=Hd_ hown3
                clear hown3 hgr3 hat3
                refine hK.out _ _ (kB3 hbY hS0) (fun _ _=>?_)
                try simp only [tA,tB,tC,Act.put,tE,tF,tG]
                clear hK K inv hS;rename_i hS inv
                have hb3:=below_trans hbD hbY
                have hs3:w9.heap.size<=w3.heap.size:=hb3.size
                have hon3:=HO9.out.trans (Only.of_below hb3 bT (bT+1))
                have hbk3:=HBK9.out.keep hb3
                have hsl:=(((Own.of_row (xs:=us ++ [(t:Int)]) HOW.out (by simp) rfl).sl cI_len).mono (lo':=bT+1) (show bT+1<=w9.heap.size by omega) (Nat.le_refl _))
                refine F_o1 12 inv ?_;intro K hK
                try simp only [tA,tB,tC]
                go_simp
                refine (HRC.out _ w3 (HON1.out.trans hon3) hbk3 (by simpa using hsl)).mono ?_
                rintro en wC ⟨vC,rfl,hoC,hbkC,honC⟩
                have heb3:eb < w3.heap.size:=by omega
                refine hK.out _ _ (⟨ocell honC hS.1 heb3 (.inr (by omega)),ocell honC hS.2.1 heb3 (.inr (by omega)),ocell honC hS.2.2 heb3 (.inr (by omega))⟩) (fun _ _=>?_)
                try simp only [tA,tB,tC,Act.put,tE,tF,tG]
                clear hK K inv hS;rename_i hS inv
                have HS:=Hd_ hS
                have HOC:=Hd_ hoC
                have HBKC:=Hd_ hbkC
                have HONC:=Hd_ (hon3.trans honC)
                have hsC:=honC.size
                have lebC:eb < wC.heap.size:=by omega
                refine F_tk 13 inv ?_
                try simp only [tA,tB,tC,Act.put,tE,tF,tG]
                clear inv;intro inv
                refine F_tk 14 inv ?_
                try simp only [tA,tB,tC,Act.put,tE,tF,tG]
                clear inv;intro inv
                refine F_tk 15 inv ?_
                try simp only [tA,tB,tC,Act.put,tE,tF,tG]
                clear inv;intro inv
                refine F_tk 16 inv ?_
                try simp only [tA,tB,tC,Act.put,tE,tF,tG]
                clear inv;intro inv
                refine F_l1 17 ?_;intro K hK
                go_simp
                refine hK _ _ ?_
                clear hK K inv hS
                cases o with
                | none =>
                  have HE:=Hd_ (HVN2.out rfl)
                  go_wp2_with fail
                  go_roundw
                  case rel=>exact ⟨i+1,c2,by omega,hvl.1,by go_num,HE.out,HONC.out,HBKC.out⟩
                  case measure=>simp [intOf];omega
                | some r =>
                  have HE:=Hd_ (HVY2.out r rfl)
                  have e0:=HS.out.1
                  have e1:=HS.out.2.1
                  have hal2:Below wC.heap.size wC (wC.alloc (.cells #[.int .i64 sid,.bool sinv] 81)):=(Below.refl _ _).alloc (Nat.le_refl _) _
                  have hv2:=SlE.keep ((hoC.sl cSt_len).all (Nat.le_refl _)) hal2
                  have HV2:=Hd_ hv2
                  have hlt2:=World.ownsRow_lit (base:=wC.heap.size) (e:=81) (size:=2) wC #[.int .i64 sid,.bool sinv] 1 (Nat.le_refl _) (by decide) rfl
                  have HLT2:=Hd_ hlt2
                  have hrl:r.length<=60:=by
                   have:=HRL.out r rfl
                   omega
                  have HAL2:=Hd_ hal2
                  clear hv2 hlt2 hoC hal2
                  go_wp2_with (at_builtin;(refine wpList_appendL cSt elStep cSt_len cSt_one rfl _ _ rfl wC.heap.size _ [(sid,sinv)] r (by rfl) HLT2.out 0 _ _ (by rfl) HV2.out (by simp;omega) (by omega) (by simp) ?_);intro v5 w5 hrow5 hgr5 hat5)
                  have hb5x:=HAL2.out.trans (own_below HLT2.out (by simp) hgr5)
                  have HB5:=Hd_ hb5x
                  have HO5:=Hd_ (Own.of_row (xs:=[(sid,sinv)] ++ r) hrow5 rfl rfl)
                  clear hrow5 hgr5 hat5 hb5x
                  go_wp2_with fail
                  go_ret2
                  rw [<- HE.out]
                  exact ⟨_,rfl,HO5.out.mono (by omega) (Nat.le_refl _),HBKC.out.keep HB5.out,HONL.out.trans (HONC.out.trans (Only.of_below HB5.out _ _))⟩
              · go_simp
                have hbL:Below w9.drew.heap.size w9.drew (w9.drew.alloc (.cells #[.int .i64 (t:Int)] 3)):=(Below.refl _ _).alloc (Nat.le_refl _) _
                have hsL:w9.drew.heap.size < (w9.drew.alloc (.cells #[.int .i64 (t:Int)] 3)).heap.size:=by simp
                refine hK.out _ _ (kB3 hbL hS) (fun _ _=>?_)
                try simp only [tA,tB,tC,Act.put,tE,tF,tG]
                clear hK K inv hS;rename_i hS inv
                refine F_o1 5 inv ?_;intro K hK
                try simp only [tA,tB,tC]
                go_simp
                refine (copyInts_any _ us _ (SlE.keep (w':=w9.drew.alloc (.cells #[.int .i64 (t:Int)] 3)) HU9.out (below_trans hbD hbL)) (by omega)).mono ?_
                rintro en wA ⟨vA,rfl,hoA,hbA⟩
                have HOA:=Hd_ hoA.1
                have hsA:=hbA.size
                have hlit:wA.heap[w9.drew.heap.size]?=some (.cells #[.int .i64 (t:Int)] 3 (0,0)):=(hbA.block _ hsL).trans (heap_alloc_new _ _)
                have HLIT:=Hd_ hlit
                clear hoA hlit
                refine hK.out _ _ (kB3 hbA hS) (fun _ _=>?_)
                try simp only [tA,tB,tC,Act.put,tE,tF,tG]
                clear hK K inv hS;rename_i hS inv
                refine F_o1 9 inv ?_;intro K hK
                try simp only [tA,tB,tC]
                refine op_append1 cI elInt rfl _ _ (by rfl) _ _ us (t:Int) 1 _ (by rfl) HOA.out (by first | rfl | simp) HLIT.out rfl (cI_one _) (by omega) (by omega) hsA ?_
                intro g2 cp2 w3 hown3 hgr3 hat3 hlt3
                have hbY:=below_trans hbL (hbA.trans (own_below HOA.out hsA hgr3))
                have HOW:=Hd_ (ownsRow_mono hown3 (Nat.le_of_lt hsL))
                clear hown3 hgr3 hat3
                refine hK.out _ _ (kB3 hbY hS0) (fun _ _=>?_)
                try simp only [tA,tB,tC,Act.put,tE,tF,tG]
                clear hK K inv hS;rename_i hS inv
                have hb3:=below_trans hbD hbY
                have hs3:w9.heap.size<=w3.heap.size:=hb3.size
                have hon3:=HO9.out.trans (Only.of_below hb3 bT (bT+1))
                have hbk3:=HBK9.out.keep hb3
                have hsl:=(((Own.of_row (xs:=us ++ [(t:Int)]) HOW.out (by simp) rfl).sl cI_len).mono (lo':=bT+1) (show bT+1<=w9.heap.size by omega) (Nat.le_refl _))
                refine F_o1 12 inv ?_;intro K hK
                try simp only [tA,tB,tC]
                go_simp
                refine (HRC.out _ w3 (HON1.out.trans hon3) hbk3 (by simpa using hsl)).mono ?_
                rintro en wC ⟨vC,rfl,hoC,hbkC,honC⟩
                have heb3:eb < w3.heap.size:=by omega
                refine hK.out _ _ (⟨ocell honC hS.1 heb3 (.inr (by omega)),ocell honC hS.2.1 heb3 (.inr (by omega)),ocell honC hS.2.2 heb3 (.inr (by omega))⟩) (fun _ _=>?_)
                try simp only [tA,tB,tC,Act.put,tE,tF,tG]
                clear hK K inv hS;rename_i hS inv
                have HS:=Hd_ hS
                have HOC:=Hd_ hoC
                have HBKC:=Hd_ hbkC
                have HONC:=Hd_ (hon3.trans honC)
                have hsC:=honC.size
                have lebC:eb < wC.heap.size:=by omega
                refine F_tk 13 inv ?_
                try simp only [tA,tB,tC,Act.put,tE,tF,tG]
                clear inv;intro inv
                refine F_tk 14 inv ?_
                try simp only [tA,tB,tC,Act.put,tE,tF,tG]
                clear inv;intro inv
                refine F_tk 15 inv ?_
                try simp only [tA,tB,tC,Act.put,tE,tF,tG]
                clear inv;intro inv
                refine F_tk 16 inv ?_
                try simp only [tA,tB,tC,Act.put,tE,tF,tG]
                clear inv;intro inv
                refine F_l1 17 ?_;intro K hK
                go_simp
                refine hK _ _ ?_
                clear hK K inv hS
                cases o with
                | none =>
                  have HE:=Hd_ (HVN2.out rfl)
                  go_wp2_with fail
                  go_roundw
                  case rel=>exact ⟨i+1,c2,by omega,hvl.1,by go_num,HE.out,HONC.out,HBKC.out⟩
                  case measure=>simp [intOf];omega
                | some r =>
                  have HE:=Hd_ (HVY2.out r rfl)
                  have e0:=HS.out.1
                  have e1:=HS.out.2.1
                  have hal2:Below wC.heap.size wC (wC.alloc (.cells #[.int .i64 sid,.bool sinv] 81)):=(Below.refl _ _).alloc (Nat.le_refl _) _
                  have hv2:=SlE.keep ((hoC.sl cSt_len).all (Nat.le_refl _)) hal2
                  have HV2:=Hd_ hv2
                  have hlt2:=World.ownsRow_lit (base:=wC.heap.size) (e:=81) (size:=2) wC #[.int .i64 sid,.bool sinv] 1 (Nat.le_refl _) (by decide) rfl
                  have HLT2:=Hd_ hlt2
                  have hrl:r.length<=60:=by
                   have:=HRL.out r rfl
                   omega
                  have HAL2:=Hd_ hal2
                  clear hv2 hlt2 hoC hal2
                  go_wp2_with (at_builtin;(refine wpList_appendL cSt elStep cSt_len cSt_one rfl _ _ rfl wC.heap.size _ [(sid,sinv)] r (by rfl) HLT2.out 0 _ _ (by rfl) HV2.out (by simp;omega) (by omega) (by simp) ?_);intro v5 w5 hrow5 hgr5 hat5)
                  have hb5x:=HAL2.out.trans (own_below HLT2.out (by simp) hgr5)
                  have HB5:=Hd_ hb5x
                  have HO5:=Hd_ (Own.of_row (xs:=[(sid,sinv)] ++ r) hrow5 rfl rfl)
                  clear hrow5 hgr5 hat5 hb5x
                  go_wp2_with fail
                  go_ret2
                  rw [<- HE.out]
                  exact ⟨_,rfl,HO5.out.mono (by omega) (Nat.le_refl _),HBKC.out.keep HB5.out,HONL.out.trans (HONC.out.trans (Only.of_below HB5.out _ _))⟩
      · obtain rfl:i=(arcsOf g (x:Int)).length:=by omega
        have hRe:R=(none,c'):=by rw [<- HR.out,visF_end]
        have HRE:=Hd_ hRe
        have HOF:=Hd_ (HONL.out.trans HON.out)
        clear HR hRe
        go_wp2_with fail
        go_ret2
        rw [HRE.out]
        exact ⟨_,rfl,Own.nil _ _ _ _ _ _,HBK.out,HOF.out⟩
def WkO (lo hi:Nat) (w:World) (v:Value) (k:Wk):Prop :=
 ∃ ss,v=.agg #[.int .i64 k.1,ss]/\Own lo hi w 81 cSt 2 ss k.2
theorem WkO.view {lo hi:Nat} {w:World} {v:Value} {k:Wk} (h:WkO lo hi w v k):WkV lo hi w v k:=by
 obtain ⟨ss,rfl,h1⟩:=h
 exact ⟨ss,rfl,h1.sl cSt_len⟩
theorem WkO.below {lo hi:Nat} {w w':World} {v:Value} {k:Wk} (h:WkO lo hi w v k) {B:Nat} (hb:Below B w w') (hB:hi<=B):WkO lo hi w' v k:=by
 obtain ⟨ss,rfl,h1⟩:=h
 exact ⟨ss,rfl,h1.below hb hB⟩
theorem WkO.only {lo hi:Nat} {w w':World} {v:Value} {k:Wk} (h:WkO lo hi w v k) {l r:Nat} (hb:Only l r w w') (ho:hi<=l ∨ r<=lo):WkO lo hi w' v k:=by
 obtain ⟨ss,rfl,h1⟩:=h
 exact ⟨ss,rfl,h1.only hb ho⟩
theorem WkO.mono {lo hi:Nat} {w:World} {v:Value} {k:Wk} (h:WkO lo hi w v k) {lo' hi':Nat} (h1:lo'<=lo) (h2:hi<=hi'):WkO lo' hi' w v k:=by
 obtain ⟨ss,rfl,g1⟩:=h
 exact ⟨ss,rfl,g1.mono h1 h2⟩
/-- what a search's calls ask of the world behind its box -/
theorem visit_hyp {g:Gr} {a:Au} {D:List Int} {w wF W1:World} {bT:Nat} {vg va v dv:Value} {xss:List (List Arc)} (hT:bT=wF.heap.size) (hbn:Below wF.heap.size wF W1) (hb:Below w.heap.size w wF) (hgv:GrV 0 w.heap.size w vg g) (hav:AuV 0 w.heap.size w va a)
 (hsa:SSE 0 wF.heap.size wF cA 4 v xss) (hd:SlE wF cI 1 dv D):GrV 0 bT W1 vg g/\AuV 0 bT W1 va a/\SSE 0 bT W1 cA 4 v xss/\SlI 0 bT W1 cI 1 dv D:=by
 subst hT
 exact ⟨(hgv.keep hb).below hbn (Nat.le_refl _),(hav.keep hb).below hbn (Nat.le_refl _),hsa.below hbn (Nat.le_refl _),SlI.below hd hbn (Nat.le_refl _)⟩
set_option maxHeartbeats 16000000 in
set_option maxRecDepth 100000 in
theorem implSearchSimplePath (vg va:Value) (g:Gr) (a:Au) (x y BI:Int) (w:World) (hgv:GrV 0 w.heap.size w vg g) (hav:AuV 0 w.heap.size w va a) :
 Calls Tryz.prog 26 #[vg,va,.int .i64 x,.int .i64 y,.int .i64 BI] w fun e w'=>∃ v',e=.returned (.tuple #[v',.int .i64 (srchL g a x y BI true).2])/\WkO w.heap.size w'.heap.size w' v' (srchL g a x y BI true).1/\Below w.heap.size w w':=by
 have hgv0:=hgv
 have hav0:=hav
 obtain ⟨A1,c1,A2,c2,rfl,hl1,hm1,hl2,hm2,-,-⟩:=hgv.form
 obtain ⟨R,hR⟩:∃ R,R=srchL g a x y BI true:=⟨_,rfl⟩
 rw [<- hR]
 cases hbo2:([x,y].all (fun s=>wi s 0 ((g.vals.length:Int) - 1)) && (grOk g && auOk a)) with
 | false =>
   have hc:cntOk g a x y=false:=by simpa [cntOk,Bool.and_assoc] using hbo2
   have hfin:R=((0,[]),0):=by rw [hR,srchL,if_neg];rw [srchOk,hc];simp
   obtain ⟨ac,nx,rfl,hac,hnx⟩:=hav
   obtain ⟨A3,c3,rfl,-,-,-⟩:=SlE.form hac
   obtain ⟨A4,n4,c4,rfl⟩:=hnx.shape
   have hb0:Below w.heap.size w (((w.alloc (.cells #[.slice A1 g.vals.length c1,.slice A2 g.edges.length c2] 27)).alloc (.cells #[.int .i64 a.start,.slice A3 a.accept.length c3,.slice A4 n4 c4] 31)).alloc (.cells #[.int .i64 0,.slice none 0 0] 39)):=(((Below.refl _ _).alloc (Nat.le_refl _) _).alloc (by simp) _).alloc (by simp;omega) _
   have hb1:=hb0.alloc hb0.size (.cells #[.int .i64 x,.int .i64 y] 3)
   have hst:SlE ((((w.alloc (.cells #[.slice A1 g.vals.length c1,.slice A2 g.edges.length c2] 27)).alloc (.cells #[.int .i64 a.start,.slice A3 a.accept.length c3,.slice A4 n4 c4] 31)).alloc (.cells #[.int .i64 0,.slice none 0 0] 39)).alloc (.cells #[.int .i64 x,.int .i64 y] 3)) cI 1 (.slice (some ⟨w.heap.size+1+1+1,0,none⟩) 2 2) [x,y]:=by
    have h:=lit_sl (((w.alloc (.cells #[.slice A1 g.vals.length c1,.slice A2 g.edges.length c2] 27)).alloc (.cells #[.int .i64 a.start,.slice A3 a.accept.length c3,.slice A4 n4 c4] 31)).alloc (.cells #[.int .i64 0,.slice none 0 0] 39)) 3 [x,y] (by unfold maxLen;simp)
    simpa using h
   have HBO:=Hd_ (bothOk_any _ _ _ g a [x,y] _ (hgv0.keep hb1) (hav0.keep hb1) hst)
   have HB1:=Hd_ hb1
   have hbR:=(Blk.new ((w.alloc (.cells #[.slice A1 g.vals.length c1,.slice A2 g.edges.length c2] 27)).alloc (.cells #[.int .i64 a.start,.slice A3 a.accept.length c3,.slice A4 n4 c4] 31)) 39 #[.int .i64 0,.slice none 0 0] (w.heap.size+1+1) (by simp)).alloc (.cells #[.int .i64 x,.int .i64 y] 3)
   have hbG:=(((Blk.new w 27 #[.slice A1 g.vals.length c1,.slice A2 g.edges.length c2] w.heap.size rfl).alloc (.cells #[.int .i64 a.start,.slice A3 a.accept.length c3,.slice A4 n4 c4] 31)).alloc (.cells #[.int .i64 0,.slice none 0 0] 39)).alloc (.cells #[.int .i64 x,.int .i64 y] 3)
   have hbA:=((Blk.new (w.alloc (.cells #[.slice A1 g.vals.length c1,.slice A2 g.edges.length c2] 27)) 31 #[.int .i64 a.start,.slice A3 a.accept.length c3,.slice A4 n4 c4] (w.heap.size+1) (by simp)).alloc (.cells #[.int .i64 0,.slice none 0 0] 39)).alloc (.cells #[.int .i64 x,.int .i64 y] 3)
   have HBR:=Hd_ hbR
   have HBG:=Hd_ hbG
   have HBA:=Hd_ hbA
   clear hb0 hb1 hst hbR hbG hbA
   rw [hbo2] at HBO
   have HF:=Hd_ hfin
   clear hgv hac hnx hgv0 hav0 hbo2 hc hfin hR
   go_enter Tryz.func26,Tryz.ntmps26
   go_wp2_with fail
   refine HBO.out.mono ?_
   rintro e w1 ⟨rfl,hb2⟩
   have bR:=HBR.out.keep hb2
   have z0:w1.cell? ⟨w.heap.size+1+1,0,none⟩=some (.int .i64 0):=bR.cell 0
   have z1:w1.cell? ⟨w.heap.size+1+1,1,none⟩=some (.slice none 0 0):=bR.cell 1
   have fz0:=bR.frozen 0
   have fz1:=bR.frozen 1
   have lz:=bR.lt
   have HBV:=Hd_ (below_trans HB1.out hb2)
   clear bR HBR HBG HBA
   go_wp2_with fail
   refine bodyPost_ret (v:=.tuple #[.agg #[.int .i64 0,.slice none 0 0],.int .i64 0]) (by simp [results,Tryz.results26,go_sem,z0,z1]) rfl ⟨_,by rw [HF.out],?_,(HBV.out.setCell (p:=⟨w.heap.size+1+1,0,none⟩) (by simp only;omega) _).setCell (p:=⟨w.heap.size+1+1,1,none⟩) (by simp only;omega) _⟩
   rw [HF.out]
   exact ⟨_,rfl,Own.nil _ _ _ _ _ _⟩
 | true =>
   simp only [List.all_cons,List.all_nil,Bool.and_true] at hbo2
   have hbo3:=hbo2
   simp only [Bool.and_eq_true] at hbo3
   obtain ⟨⟨hx,hy⟩,hgo,hao⟩:=hbo3
   have hck:cntOk g a x y=true:=by rw [cntOk,hx,hy,hgo,hao];rfl
   obtain ⟨A3,c3,A4,c4,rfl,-,-,-,-,-⟩:=hav.form hao
   cases hwB:wi BI 1 20000 with
   | false =>
     have hfin:R=((0,[]),0):=by rw [hR,srchL,if_neg];rw [srchOk,hwB];simp
     have hb0:Below w.heap.size w (((w.alloc (.cells #[.slice A1 g.vals.length c1,.slice A2 g.edges.length c2] 27)).alloc (.cells #[.int .i64 a.start,.slice A3 a.accept.length c3,.slice A4 a.accept.length c4] 31)).alloc (.cells #[.int .i64 0,.slice none 0 0] 39)):=(((Below.refl _ _).alloc (Nat.le_refl _) _).alloc (by simp) _).alloc (by simp;omega) _
     have hb1:=hb0.alloc hb0.size (.cells #[.int .i64 x,.int .i64 y] 3)
     have hst:SlE ((((w.alloc (.cells #[.slice A1 g.vals.length c1,.slice A2 g.edges.length c2] 27)).alloc (.cells #[.int .i64 a.start,.slice A3 a.accept.length c3,.slice A4 a.accept.length c4] 31)).alloc (.cells #[.int .i64 0,.slice none 0 0] 39)).alloc (.cells #[.int .i64 x,.int .i64 y] 3)) cI 1 (.slice (some ⟨w.heap.size+1+1+1,0,none⟩) 2 2) [x,y]:=by
      have h:=lit_sl (((w.alloc (.cells #[.slice A1 g.vals.length c1,.slice A2 g.edges.length c2] 27)).alloc (.cells #[.int .i64 a.start,.slice A3 a.accept.length c3,.slice A4 a.accept.length c4] 31)).alloc (.cells #[.int .i64 0,.slice none 0 0] 39)) 3 [x,y] (by unfold maxLen;simp)
      simpa using h
     have HBO:=Hd_ (bothOk_any _ _ _ g a [x,y] _ (hgv0.keep hb1) (hav0.keep hb1) hst)
     have HB1:=Hd_ hb1
     have hbR:=(Blk.new ((w.alloc (.cells #[.slice A1 g.vals.length c1,.slice A2 g.edges.length c2] 27)).alloc (.cells #[.int .i64 a.start,.slice A3 a.accept.length c3,.slice A4 a.accept.length c4] 31)) 39 #[.int .i64 0,.slice none 0 0] (w.heap.size+1+1) (by simp)).alloc (.cells #[.int .i64 x,.int .i64 y] 3)
     have hbG:=(((Blk.new w 27 #[.slice A1 g.vals.length c1,.slice A2 g.edges.length c2] w.heap.size rfl).alloc (.cells #[.int .i64 a.start,.slice A3 a.accept.length c3,.slice A4 a.accept.length c4] 31)).alloc (.cells #[.int .i64 0,.slice none 0 0] 39)).alloc (.cells #[.int .i64 x,.int .i64 y] 3)
     have hbA:=((Blk.new (w.alloc (.cells #[.slice A1 g.vals.length c1,.slice A2 g.edges.length c2] 27)) 31 #[.int .i64 a.start,.slice A3 a.accept.length c3,.slice A4 a.accept.length c4] (w.heap.size+1) (by simp)).alloc (.cells #[.int .i64 0,.slice none 0 0] 39)).alloc (.cells #[.int .i64 x,.int .i64 y] 3)
     have HBR:=Hd_ hbR
     have HBG:=Hd_ hbG
     have HBA:=Hd_ hbA
     clear hb0 hb1 hst hbR hbG hbA
     simp only [List.all_cons,List.all_nil,Bool.and_true] at HBO
     rw [hbo2] at HBO
     have HF:=Hd_ hfin
     have HW:=Hd_ (fun W=>within_any BI 1 20000 W)
     rw [hwB] at HW
     clear hgv hav hgv0 hav0 hbo2 hck hfin hR hx hy hgo hao hwB
     go_enter Tryz.func26,Tryz.ntmps26
     go_wp2_with fail
     refine HBO.out.mono ?_
     rintro e w1 ⟨rfl,hb2⟩
     go_wp2_with fail
     refine (HW.out _).mono ?_
     rintro e w9 ⟨rfl,hw9⟩
     rw [hw9]
     clear hw9
     have bR:=HBR.out.keep hb2
     have z0:w1.cell? ⟨w.heap.size+1+1,0,none⟩=some (.int .i64 0):=bR.cell 0
     have z1:w1.cell? ⟨w.heap.size+1+1,1,none⟩=some (.slice none 0 0):=bR.cell 1
     have fz0:=bR.frozen 0
     have fz1:=bR.frozen 1
     have lz:=bR.lt
     have HBV:=Hd_ (below_trans HB1.out hb2)
     clear bR HBR HBG HBA
     go_wp2_with fail
     refine bodyPost_ret (v:=.tuple #[.agg #[.int .i64 0,.slice none 0 0],.int .i64 0]) (by simp [results,Tryz.results26,go_sem,z0,z1]) rfl ⟨_,by rw [HF.out],?_,(HBV.out.setCell (p:=⟨w.heap.size+1+1,0,none⟩) (by simp only;omega) _).setCell (p:=⟨w.heap.size+1+1,1,none⟩) (by simp only;omega) _⟩
     rw [HF.out]
     exact ⟨_,rfl,Own.nil _ _ _ _ _ _⟩
   | true =>
     rw [wi_iff] at hx hy
     have hwB2:=wi_iff.1 hwB
     have hgo2:=grOk_iff.1 hgo
     obtain ⟨x,rfl⟩:=Int.eq_ofNat_of_zero_le hx.1
     obtain ⟨B,rfl⟩:=Int.eq_ofNat_of_zero_le (show 0<=BI by omega)
     have hxl:x < g.vals.length:=by omega
     have hn5:=hgo2.n5
     have he12:=hgo2.e12
     obtain ⟨⟨hm1',hm12⟩,⟨hst0,hst1⟩,-,-⟩:=auOk_iff.1 hao
     obtain ⟨s,hs⟩:∃ s:Nat,a.start=(s:Int):=⟨a.start.toNat,by omega⟩
     have hsl:s < a.accept.length:=by omega
     have hfin:R=srchF g a y B (distTo g a y) true x (bit s) (srchU true x) (srchN g true) 0 0:=by
      rw [hR,srchL,if_pos (by rw [srchOk,hck,hwB];rfl),hs];rfl
     have hb0:Below w.heap.size w (((w.alloc (.cells #[.slice A1 g.vals.length c1,.slice A2 g.edges.length c2] 27)).alloc (.cells #[.int .i64 a.start,.slice A3 a.accept.length c3,.slice A4 a.accept.length c4] 31)).alloc (.cells #[.int .i64 0,.slice none 0 0] 39)):=(((Below.refl _ _).alloc (Nat.le_refl _) _).alloc (by simp) _).alloc (by simp;omega) _
     have hb1:=hb0.alloc hb0.size (.cells #[.int .i64 (x:Int),.int .i64 y] 3)
     have hst:SlE ((((w.alloc (.cells #[.slice A1 g.vals.length c1,.slice A2 g.edges.length c2] 27)).alloc (.cells #[.int .i64 a.start,.slice A3 a.accept.length c3,.slice A4 a.accept.length c4] 31)).alloc (.cells #[.int .i64 0,.slice none 0 0] 39)).alloc (.cells #[.int .i64 (x:Int),.int .i64 y] 3)) cI 1 (.slice (some ⟨w.heap.size+1+1+1,0,none⟩) 2 2) [(x:Int),y]:=by
      have h:=lit_sl (((w.alloc (.cells #[.slice A1 g.vals.length c1,.slice A2 g.edges.length c2] 27)).alloc (.cells #[.int .i64 a.start,.slice A3 a.accept.length c3,.slice A4 a.accept.length c4] 31)).alloc (.cells #[.int .i64 0,.slice none 0 0] 39)) 3 [(x:Int),y] (by unfold maxLen;simp)
      simpa using h
     have HBO:=Hd_ (bothOk_any _ _ _ g a [(x:Int),y] _ (hgv0.keep hb1) (hav0.keep hb1) hst)
     have HB1:=Hd_ hb1
     have hbR:=(Blk.new ((w.alloc (.cells #[.slice A1 g.vals.length c1,.slice A2 g.edges.length c2] 27)).alloc (.cells #[.int .i64 a.start,.slice A3 a.accept.length c3,.slice A4 a.accept.length c4] 31)) 39 #[.int .i64 0,.slice none 0 0] (w.heap.size+1+1) (by simp)).alloc (.cells #[.int .i64 (x:Int),.int .i64 y] 3)
     have hbG:=(((Blk.new w 27 #[.slice A1 g.vals.length c1,.slice A2 g.edges.length c2] w.heap.size rfl).alloc (.cells #[.int .i64 a.start,.slice A3 a.accept.length c3,.slice A4 a.accept.length c4] 31)).alloc (.cells #[.int .i64 0,.slice none 0 0] 39)).alloc (.cells #[.int .i64 (x:Int),.int .i64 y] 3)
     have hbA:=((Blk.new (w.alloc (.cells #[.slice A1 g.vals.length c1,.slice A2 g.edges.length c2] 27)) 31 #[.int .i64 a.start,.slice A3 a.accept.length c3,.slice A4 a.accept.length c4] (w.heap.size+1) (by simp)).alloc (.cells #[.int .i64 0,.slice none 0 0] 39)).alloc (.cells #[.int .i64 (x:Int),.int .i64 y] 3)
     have HBR:=Hd_ hbR
     have HBG:=Hd_ hbG
     have HBA:=Hd_ hbA
     clear hb0 hb1 hst hbR hbG hbA
     simp only [List.all_cons,List.all_nil,Bool.and_true] at HBO
     rw [hbo2] at HBO
     have HW:=Hd_ (fun W=>within_any (B:Int) 1 20000 W)
     rw [hwB] at HW
     have HF:=Hd_ hfin
     have HGV:=Hd_ hgv0
     have HAV:=Hd_ hav0
     have HGO:=Hd_ hgo
     have HAO:=Hd_ hao
     have HDL:=Hd_ (distTo_len (g:=g) (a:=a) (y:=y) (by rw [wi_iff.2 hy,hgo,hao];rfl))
     have hbs:=bit_lt hsl
     have HBS:=Hd_ hbs
     have e1:=Hd_ (shl_bit (s:=s) (by omega))
     have e2:=Hd_ (shl_bit2 (s:=s) (by omega))
     have e3:=Hd_ (shl_bit3 (s:=s) (by omega))
     have hB1:1<=B:=by omega
     have hB2:B<=20000:=by omega
     have HST:=Hd_ hs
     clear hgv hav hgv0 hav0 hbo2 hck hfin hR hx hy hgo hao hwB hgo2 hst0 hst1 hbs hwB2 hs
     go_enter Tryz.func26,Tryz.ntmps26
     go_wp2_with fail
     refine HBO.out.mono ?_
     rintro e w1 ⟨rfl,hb2⟩
     have hb3:=below_trans HB1.out hb2
     have bR:=HBR.out.keep hb2
     have bG:=HBG.out.keep hb2
     have bA:=HBA.out.keep hb2
     have x0:w1.cell? ⟨w.heap.size,0,none⟩=some (.slice A1 g.vals.length c1):=by exact bG.cell 0
     have x1:w1.cell? ⟨w.heap.size,1,none⟩=some (.slice A2 g.edges.length c2):=by exact bG.cell 1
     have y0:w1.cell? ⟨w.heap.size+1,0,none⟩=some (.int .i64 a.start):=by exact bA.cell 0
     have y1:w1.cell? ⟨w.heap.size+1,1,none⟩=some (.slice A3 a.accept.length c3):=by exact bA.cell 1
     have y2:w1.cell? ⟨w.heap.size+1,2,none⟩=some (.slice A4 a.accept.length c4):=by exact bA.cell 2
     have HBR1:=Hd_ bR
     have HBW:=Hd_ hb3
     have lR:=bR.lt
     clear bG bA bR hb2 HBO HB1 HBR HBG HBA hb3
     go_wp2_with fail
     refine (HW.out _).mono ?_
     rintro e w9 ⟨rfl,hw9⟩
     rw [hw9]
     clear hw9 HW
     go_wp2_with fail
     have hb3:=HBW.out
     refine F_start 12 (fun w'=>w'.cell? ⟨w.heap.size,0,none⟩=some (.slice A1 g.vals.length c1)/\w'.cell? ⟨w.heap.size,1,none⟩=some (.slice A2 g.edges.length c2)/\w'.cell? ⟨w.heap.size+1,0,none⟩=some (.int .i64 a.start)/\w'.cell? ⟨w.heap.size+1,1,none⟩=some (.slice A3 a.accept.length c3)/\w'.cell? ⟨w.heap.size+1,2,none⟩=some (.slice A4 a.accept.length c4)) (by kernel_rfl) (by exact ⟨x0,x1,y0,y1,y2⟩) (fun hS inv=>?_)
     refine F_tk 0 inv ?_
     try simp only [tA,tB,tC,Act.put,tE,tF,tG]
     clear inv;intro inv
     refine F_tk 1 inv ?_
     try simp only [tA,tB,tC,Act.put,tE,tF,tG]
     clear inv;intro inv
     refine F_tk 2 inv ?_
     try simp only [tA,tB,tC,Act.put,tE,tF,tG]
     clear inv;intro inv
     refine F_tk 3 inv ?_
     try simp only [tA,tB,tC,Act.put,tE,tF,tG]
     clear inv;intro inv
     refine F_tk 5 inv ?_
     try simp only [tA,tB,tC,Act.put,tE,tF,tG]
     clear inv;intro inv
     refine F_tk 6 inv ?_
     try simp only [tA,tB,tC,Act.put,tE,tF,tG]
     clear inv;intro inv
     refine F_tk 7 inv ?_
     try simp only [tA,tB,tC,Act.put,tE,tF,tG]
     clear inv;intro inv
     refine F_tk 9 inv ?_
     try simp only [tA,tB,tC,Act.put,tE,tF,tG]
     clear inv;intro inv
     refine F_o1 4 inv ?_;intro K hK
     try simp only [tA,tB,tC]
     go_simp
     refine (arcs_any _ g _ (GrV.keep (w':=w1.drew) HGV.out hb3.drew) (grOk_iff.1 HGO.out)).mono ?_
     rintro e wA ⟨vA,rfl,hsA,hbA⟩
     refine hK.out _ _ (kB5 hbA hS) (fun _ _=>?_)
     try simp only [tA,tB,tC,Act.put,tE,tF,tG]
     clear hK K inv hS;rename_i hS inv
     refine F_o1 8 inv ?_;intro K hK
     try simp only [tA,tB,tC]
     go_simp
     have hbz:=below_trans hb3.drew hbA
     refine (implDistancesTo _ _ g a y _ (HGV.out.keep hbz) (HAV.out.keep hbz)).mono ?_
     rintro e wF ⟨vD,rfl,hoD,hbD⟩
     refine hK.out _ _ (kB5 hbD hS) (fun _ _=>?_)
     try simp only [tA,tB,tC,Act.put,tE,tF,tG]
     clear hK K inv hS;rename_i hS inv
     have HSA:=Hd_ (SSE.keep (hsA.mono (Nat.zero_le _) (Nat.le_refl _)) hbD)
     have HOD:=Hd_ ((hoD.sl cI_len).all (Nat.le_refl _))
     have HBF:=Hd_ (below_trans hbz hbD)
     have HBR2:=Hd_ (((HBR1.out.drew).keep hbA).keep hbD)
     clear hsA hbA hoD hbD hbz
     have HS5:=Hd_ hS
     obtain ⟨A5,c5,hv5,hl5,hm5⟩:=HSA.out.shape
     have hlen5:((List.range g.vals.length).map fun (x:Nat)=>arcsOf g (x:Int)).length=g.vals.length:=by simp
     rw [hlen5] at hv5 hl5
     subst hv5
     obtain ⟨A6,c6,hv6,hl6,hm6,-⟩:=SlE.form HOD.out
     subst hv6
     refine F_tk 10 inv ?_
     try simp only [tA,tB,tC,Act.put,tE,tF,tG]
     clear inv;intro inv
     refine F_o1 11 inv ?_;intro K hK
     try simp only [tA,tB,tC]
     go_simp
     have hbk:Blk (wF.alloc (.cells #[.slice A1 g.vals.length c1,.slice A2 g.edges.length c2,.int .i64 a.start,.slice A3 a.accept.length c3,.slice A4 a.accept.length c4,.int .i64 y,.slice A5 g.vals.length c5,.slice A6 (distTo g a y).length c6,.int .i64 (B:Int),.int .i64 (((0:Nat)):Int)] 102)) wF.heap.size 102 #[.slice A1 g.vals.length c1,.slice A2 g.edges.length c2,.int .i64 a.start,.slice A3 a.accept.length c3,.slice A4 a.accept.length c4,.int .i64 y,.slice A5 g.vals.length c5,.slice A6 (distTo g a y).length c6,.int .i64 (B:Int),.int .i64 (((0:Nat)):Int)]:=Blk.new _ _ _ _ rfl
     refine hK.out _ _ (kA5 _ hS) (fun _ _=>?_)
     try simp only [tA,tB,tC,Act.put,tE,tF,tG]
     clear hK K inv hS;rename_i hS inv
     refine F_l1 12 ?_;intro K hK
     go_simp
     refine hK _ _ ?_
     clear hK K inv hS
     have hbn:=(Below.refl wF.heap.size wF).alloc (Nat.le_refl _) (.cells #[.slice A1 g.vals.length c1,.slice A2 g.edges.length c2,.int .i64 a.start,.slice A3 a.accept.length c3,.slice A4 a.accept.length c4,.int .i64 y,.slice A5 g.vals.length c5,.slice A6 (distTo g a y).length c6,.int .i64 (B:Int),.int .i64 (((0:Nat)):Int)] 102)
     have hsn:wF.heap.size < (wF.alloc (.cells #[.slice A1 g.vals.length c1,.slice A2 g.edges.length c2,.int .i64 a.start,.slice A3 a.accept.length c3,.slice A4 a.accept.length c4,.int .i64 y,.slice A5 g.vals.length c5,.slice A6 (distTo g a y).length c6,.int .i64 (B:Int),.int .i64 (((0:Nat)):Int)] 102)).heap.size:=by simp
     have hzero:((0:Nat):Int)=0:=rfl
     rw [hzero] at hbk hbn hsn
     obtain ⟨bT,hbT⟩:∃ bT,bT=wF.heap.size:=⟨_,rfl⟩
     obtain ⟨W1,hW1⟩:∃ W1,W1=wF.alloc (.cells #[.slice A1 g.vals.length c1,.slice A2 g.edges.length c2,.int .i64 a.start,.slice A3 a.accept.length c3,.slice A4 a.accept.length c4,.int .i64 y,.slice A5 g.vals.length c5,.slice A6 (distTo g a y).length c6,.int .i64 (B:Int),.int .i64 (0:Int)] 102):=⟨_,rfl⟩
     rw [<- hW1] at hbk hbn hsn
     rw [<- hbT] at hbk hsn
     have HNAME:=Hd_ (And.intro hW1 hbT)
     have hsF:=HBF.out.size
     have HHV:=Hd_ (visit_hyp (v:=.slice A5 g.vals.length c5) (dv:=.slice A6 (distTo g a y).length c6) hbT hbn HBF.out HGV.out HAV.out HSA.out HOD.out)
     have HPR:=Hd_ (fun x s lf c w=>promising_any g a y B (distTo g a y) HGO.out HAO.out bT W1 A1 A2 A3 A4 A5 A6 c1 c2 c3 c4 c5 c6 HHV.out.1 HHV.out.2.1 HHV.out.2.2.1 HHV.out.2.2.2 HDL.out hB2 hsn x s lf c w)
     have HVI:=Hd_ (simpleVisit_any g a y B (distTo g a y) HGO.out HAO.out bT W1 A1 A2 A3 A4 A5 A6 c1 c2 c3 c4 c5 c6 HHV.out.1 HHV.out.2.1 HHV.out.2.2.1 HHV.out.2.2.2 HDL.out hB2 hsn)
     have HBK:=Hd_ (show Blk W1 bT 102 #[.slice A1 g.vals.length c1,.slice A2 g.edges.length c2,.int .i64 a.start,.slice A3 a.accept.length c3,.slice A4 a.accept.length c4,.int .i64 y,.slice A5 g.vals.length c5,.slice A6 (distTo g a y).length c6,.int .i64 (B:Int),.int .i64 (((0:Nat)):Int)] from hbk)
     have HBR3:=Hd_ (HBR2.out.keep hbn)
     obtain ⟨x0,x1,y0,y1,y2⟩:=HS5.out
     have x0:=kcell hbn x0
     have x1:=kcell hbn x1
     have y0:=kcell hbn y0
     have y1:=kcell hbn y1
     have y2:=kcell hbn y2
     have hwT:w.heap.size+1+1 < bT:=by have:=HBR2.out.lt;omega
     have HB1:=Hd_ (below_trans HBF.out hbn)
     go_wp2_with fail
     rw [<- HNAME.out.1]
     try rw [<- HNAME.out.2]
     have x0:=x0
     have HSRF:=Hd_ HF.out.symm
     clear hW1 hbk hbn HSA HOD HBF HBR1 HBR2 HNAME HHV HF HS5 hbT
     have lW0:w.heap.size < W1.heap.size:=by omega
     have lW1:w.heap.size+1 < W1.heap.size:=by omega
     go_loopw [13] (fun ii wr=>∃ lf c k:Nat,lf+k=g.vals.length/\c<=B/\ii=.int .i64 (lf:Int)/\srchF g a y B (distTo g a y) true x (bit s) [(x:Int)] k lf c=R/\Only bT (bT+1) W1 wr/\Blk wr bT 102 #[.slice A1 g.vals.length c1,.slice A2 g.edges.length c2,.int .i64 a.start,.slice A3 a.accept.length c3,.slice A4 a.accept.length c4,.int .i64 y,.slice A5 g.vals.length c5,.slice A6 (distTo g a y).length c6,.int .i64 (B:Int),.int .i64 (c:Int)]) (fun ii _=>g.vals.length - (intOf ii).toNat)
     case atStart=>exact ⟨0,0,g.vals.length,by omega,by omega,rfl,HSRF.out,Only.refl _ _ _,HBK.out⟩
     case round =>
      clear HSRF HBK
      obtain ⟨lf,c,k,hlk,hcB,rfl,hR,hon,hbk⟩:=hrel
      have HR:=Hd_ hR
      have HON:=Hd_ hon
      have HBK:=Hd_ hbk
      have hsz:=hon.size
      have x0:=ocell hon x0 lW0 (.inl (by omega))
      have x1:=ocell hon x1 lW0 (.inl (by omega))
      have y0:=ocell hon y0 lW1 (.inl (by omega))
      have lr0:w.heap.size < wr.heap.size:=by omega
      have lr1:w.heap.size+1 < wr.heap.size:=by omega
      clear hR hon hbk
      by_cases hlt:lf < g.vals.length
      · have hle:(lf:Int) < (g.vals.length:Int):=by omega
        obtain ⟨k,rfl⟩:∃ k',k=k'+1:=⟨k - 1,by omega⟩
        have HPX:=Hd_ (HPR.out x (bit s) lf c wr HON.out HBK.out hxl HBS.out (by omega))
        have s1:=e1.out
        have s2:=e2.out
        have s3:=e3.out
        rw [HST.out] at y0
        cases hhp:hope (distTo g a y) a.accept.length x (bit s) lf with
        | false =>
          rw [hhp] at HPX
          have HE:=Hd_ ((srchF_no hhp).symm.trans HR.out)
          clear HR hhp
          go_wp2_with fail
          refine HPX.out.mono ?_
          rintro e w5 ⟨rfl,hb5⟩
          have HO5:=Hd_ (HON.out.trans (Only.of_below hb5 bT (bT+1)))
          have HBK5:=Hd_ (HBK.out.keep hb5)
          clear hb5
          go_wp2_with fail
          go_roundw
          case rel=>exact ⟨lf+1,c,k,by omega,hcB,by go_num,HE.out,HO5.out,HBK5.out⟩
          case measure=>simp [intOf];omega
        | true =>
          rw [hhp] at HPX
          have hvl:=visit_le (g:=g) (a:=a) (y:=y) (B:=B) (D:=distTo g a y) (sm:=true) lf x (bit s) [(x:Int)] c hcB
          have hvn:=visit_len (g:=g) (a:=a) (y:=y) (B:=B) (D:=distTo g a y) (sm:=true) lf x (bit s) [(x:Int)] c
          have HVX:=Hd_ (fun (uv:Value) (W:World) h1 h2 h3=>HVI.out lf x (bit s) [(x:Int)] c uv W h1 h2 h3 hxl HBS.out hcB (by simp;omega))
          have HY:=Hd_ (fun r c' h=>(srchF_yes (k:=k) (r:=r) (c':=c') hhp h).symm.trans HR.out)
          have HO:=Hd_ (fun c' h h2=>(srchF_out (k:=k) (c':=c') hhp h h2).symm.trans HR.out)
          have HN:=Hd_ (fun c' h h2=>(srchF_on (k:=k) (c':=c') hhp h h2).symm.trans HR.out)
          generalize visit g a y B (distTo g a y) true lf x (bit s) [(x:Int)] c=V at *
          obtain ⟨o,c2⟩:=V
          simp only at hvl hvn
          clear HR hhp
          go_wp2_with fail
          refine HPX.out.mono ?_
          rintro e wP ⟨rfl,hbP⟩
          have HONP:=Hd_ (HON.out.trans (Only.of_below hbP bT (bT+1)))
          have HBKP:=Hd_ (HBK.out.keep hbP)
          have hsP:=hbP.size
          have x0:=kcell hbP x0
          have x1:=kcell hbP x1
          have y0:=kcell hbP y0
          have lp0:w.heap.size < wP.heap.size:=by omega
          have lp1:w.heap.size+1 < wP.heap.size:=by omega
          clear hbP HPX
          have hu:=(lit_sl wP 3 [(x:Int)] (by unfold maxLen;simp))
          have hu1:SlI (bT+1) (wP.alloc (.cells #[.int .i64 (x:Int)] 3)).heap.size (wP.alloc (.cells #[.int .i64 (x:Int)] 3)) cI 1 (.slice (some ⟨wP.heap.size,0,none⟩) 1 1) [(x:Int)]:=by
           have h:=Own.of_row (xs:=[(x:Int)]) (E:=cI) (World.ownsRow_lit (base:=wP.heap.size) (e:=3) (size:=1) wP #[.int .i64 (x:Int)] 1 (Nat.le_refl _) (by decide) rfl) rfl rfl
           exact (h.sl cI_len).mono (show bT+1<=wP.heap.size by omega) (Nat.le_refl _)
          have hsq:wP.heap.size < (wP.alloc (.cells #[.int .i64 (x:Int)] 3)).heap.size:=by simp
          have hon2:=HONP.out.alloc (.cells #[.int .i64 (x:Int)] 3)
          have hbk2:=HBKP.out.alloc (.cells #[.int .i64 (x:Int)] 3)
          have HVC:=Hd_ (HVX.out _ _ hon2 hbk2 hu1)
          have HON2:=Hd_ hon2
          clear hon2 hbk2 hu1
          go_wp2_with fail
          refine HVC.out.mono ?_
          rintro e wV ⟨vV,rfl,hoV,hbkV,honV⟩
          have honT:=HON2.out.trans honV
          have hszV:=honT.size
          have HONT:=Hd_ honT
          have HOV:=Hd_ hoV
          have HBKV:=Hd_ hbkV
          have lTV:=hbkV.lt
          have q9:wV.cell? ⟨bT,9,none⟩=some (.int .i64 (c2:Int)):=hbkV.cell 9
          have hbR:Blk wV (w.heap.size+1+1) 39 #[.int .i64 0,.slice none 0 0]:=HBR3.out.only honT (.inl hwT)
          have z0:wV.cell? ⟨w.heap.size+1+1,0,none⟩=some (.int .i64 0):=hbR.cell 0
          have z1:wV.cell? ⟨w.heap.size+1+1,1,none⟩=some (.slice none 0 0):=hbR.cell 1
          have fz0:=hbR.frozen 0
          have fz1:=hbR.frozen 1
          have lz:=hbR.lt
          have HBV:=Hd_ (HB1.out.trans (honT.below (B:=w.heap.size) (by omega) HB1.out.size))
          obtain ⟨A9,n9,c9,rfl⟩:=hoV.shape
          clear honT hoV hbkV honV hbR
          cases o with
          | some r =>
            have HE:=Hd_ (HY.out r c2 rfl)
            clear HY HO HN
            go_wp2_with fail
            have hon3:=((Only.refl (w.heap.size+1+1) (w.heap.size+1+1+1) wV).setCell (p:=⟨w.heap.size+1+1,0,none⟩) (.inl ⟨Nat.le_refl _,Nat.lt_succ_self _⟩) (.int .i64 (x:Int))).setCell (p:=⟨w.heap.size+1+1,1,none⟩) (.inl ⟨Nat.le_refl _,Nat.lt_succ_self _⟩) (.slice A9 n9 c9)
            refine bodyPost_ret (v:=.tuple #[.agg #[.int .i64 (x:Int),.slice A9 n9 c9],.int .i64 1]) (by simp [results,Tryz.results26,go_sem,z0,z1]) rfl ⟨_,by rw [<- HE.out],?_,HBV.out.trans (hon3.below (by omega) (by omega))⟩
            rw [<- HE.out]
            exact ⟨_,rfl,(HOV.out.only hon3 (.inr (by omega))).mono (by omega) (by simp [World.setCell])⟩
          | none =>
            by_cases hcc:B<=c2
            · have HE:=Hd_ (HO.out c2 rfl hcc)
              have hcb:decide ((c2:Int) >= (B:Int))=true:=by simp;omega
              clear HY HO HN
              go_wp2_with fail
              refine bodyPost_ret (v:=.tuple #[.agg #[.int .i64 0,.slice none 0 0],.int .i64 3]) (by simp [results,Tryz.results26,go_sem,z0,z1]) rfl ⟨_,by rw [<- HE.out],?_,(HBV.out.setCell (p:=⟨w.heap.size+1+1,0,none⟩) (by simp only;omega) _).setCell (p:=⟨w.heap.size+1+1,1,none⟩) (by simp only;omega) _⟩
              rw [<- HE.out]
              exact ⟨_,rfl,Own.nil _ _ _ _ _ _⟩
            · have HE:=Hd_ (HN.out c2 rfl hcc)
              have hcb:decide ((c2:Int) >= (B:Int))=false:=by simp;omega
              clear HY HO HN
              go_wp2_with fail
              go_roundw
              case rel=>exact ⟨lf+1,c2,k,by omega,hvl.1,by go_num,HE.out,HONT.out,HBKV.out⟩
              case measure=>simp [intOf];omega
      · obtain rfl:k=0:=by omega
        have HE:=Hd_ ((show srchF g a y B (distTo g a y) true x (bit s) [(x:Int)] 0 lf c=((0,[]),2) from rfl).symm.trans HR.out)
        have hbR:Blk wr (w.heap.size+1+1) 39 #[.int .i64 0,.slice none 0 0]:=HBR3.out.only HON.out (.inl hwT)
        have z0:wr.cell? ⟨w.heap.size+1+1,0,none⟩=some (.int .i64 0):=hbR.cell 0
        have z1:wr.cell? ⟨w.heap.size+1+1,1,none⟩=some (.slice none 0 0):=hbR.cell 1
        have fz0:=hbR.frozen 0
        have fz1:=hbR.frozen 1
        have lz:=hbR.lt
        have HBV:=Hd_ (HB1.out.trans (HON.out.below (B:=w.heap.size) (by omega) HB1.out.size))
        clear HR hbR
        go_wp2_with fail
        refine bodyPost_ret (v:=.tuple #[.agg #[.int .i64 0,.slice none 0 0],.int .i64 2]) (by simp [results,Tryz.results26,go_sem,z0,z1]) rfl ⟨_,by rw [<- HE.out],?_,(HBV.out.setCell (p:=⟨w.heap.size+1+1,0,none⟩) (by simp only;omega) _).setCell (p:=⟨w.heap.size+1+1,1,none⟩) (by simp only;omega) _⟩
        rw [<- HE.out]
        exact ⟨_,rfl,Own.nil _ _ _ _ _ _⟩
end Go.Proofs.YtjpdembmchnbgaaGreat
namespace Go.Proofs.YtjpdembmchnbgaaGreat
open Go.ChangeShapes Go.WideShapes Go.ChangeAt Go.RowKit
structure Srw (bS:Nat) (r:Option Nat) (w w':World):Prop where
 os:w'.os=w.os
 tape:w'.tape=w.tape
 output:w'.output=w.output
 size:w.heap.size<=w'.heap.size
 block:∀ n,n < w.heap.size->n ≠ bS->r ≠ some n->w'.heap[n]?=w.heap[n]?
section
variable {bS:Nat} {r r1:Option Nat} {w w1 w2 w':World}
theorem Srw.refl (bS:Nat) (r:Option Nat) (w:World):Srw bS r w w:=⟨rfl,rfl,rfl,Nat.le_refl _,fun _ _ _ _=>rfl⟩
theorem Srw.trans (h:Srw bS r w w1) (h2:Srw bS r1 w1 w2) (hr:∀ n,r1=some n->r=some n ∨ w.heap.size<=n):Srw bS r w w2 :=
 ⟨h2.os.trans h.os,h2.tape.trans h.tape,h2.output.trans h.output,Nat.le_trans h.size h2.size,fun n hn h3 h4 =>
  (h2.block n (Nat.lt_of_lt_of_le hn h.size) h3 (fun e=>by rcases hr n e with h5 | h5;exact h4 h5;omega)).trans (h.block n hn h3 h4)⟩
theorem Srw.of_below {B:Nat} (h:Below B w w') (hB:w.heap.size<=B) (bS:Nat) (r:Option Nat):Srw bS r w w':=⟨h.os,h.tape,h.output,h.size,fun n hn _ _=>h.block n (by omega)⟩
theorem Srw.set (bS:Nat) (r:Option Nat) (w:World) (i:Nat) (u:Value):Srw bS r w (w.setCell ⟨bS,i,none⟩ u) :=
 ⟨rfl,rfl,rfl,by simp [World.setCell],fun n _ h3 _=>Below.heap_setCell w ⟨bS,i,none⟩ u n h3⟩
theorem Srw.of_grown (h:w.grownBy w' r1) (hr:∀ n,r1=some n->r=some n ∨ w.heap.size<=n) (bS:Nat):Srw bS r w w' :=
 ⟨h.os,h.tape,h.output,h.size,fun n hn _ h4=>h.block n hn (fun e=>by rcases hr n e.symm with h5 | h5;exact h4 h5;omega)⟩
theorem Srw.below (h:Srw bS r w w') {B:Nat} (h1:B<=bS) (h2:∀ n,r=some n->B<=n) (h3:B<=w.heap.size):Below B w w' :=
 ⟨h.os,h.tape,h.output,h.size,fun n hn=>h.block n (by omega) (by omega) (fun e=>by have:=h2 n e;omega)⟩
theorem Srw.sl {α:Type} {E:α->List Value} {lo hi k:Nat} {v:Value} {xs:List α} (h:SlI lo hi w E k v xs) (hs:Srw bS r w w') (hh:hi<=w.heap.size) (h1:bS < lo ∨ hi<=bS) (h2:∀ n,r=some n->n < lo ∨ hi<=n):SlI lo hi w' E k v xs :=
 h.keep_ fun b o h3 h4=>World.cell?_of_block (hs.block b (by omega) (by omega) (fun e=>by have:=h2 b e;omega))
theorem Srw.only {W0:World} (h:Srw bS r w w') (h1:∀ n,r=some n->W0.heap.size<=n):Only bS (bS+1) W0 w->Only bS (bS+1) W0 w':=fun h0 =>
 ⟨h.os.trans h0.os,h.tape.trans h0.tape,h.output.trans h0.output,Nat.le_trans h0.size h.size,fun n hn ho=>(h.block n (Nat.lt_of_lt_of_le hn h0.size) (by omega) (fun e=>by have:=h1 n e;omega)).trans (h0.block n hn ho)⟩
theorem Srw.cell {b o:Nat} {v:Value} (hs:Srw bS r w w') (hc:w.cell? ⟨b,o,none⟩=some v) (hb:b < w.heap.size) (h1:b ≠ bS) (h2:r ≠ some b):w'.cell? ⟨b,o,none⟩=some v :=
 (World.cell?_of_block (a:=⟨b,o,none⟩) (hs.block b hb h1 h2)).trans hc
theorem SlI.stI {lo hi:Nat} {w:World} {A:Option Addr} {n c:Nat} {xs:List St} (h:SlI lo hi w cSt 2 (.slice A n c) xs) {i:Nat} {x:St} (hx:xs[i]?=some x) :
 ∃ b o,A=some ⟨b,o,none⟩/\(lo<=b/\b < hi)/\w.cell? ⟨b,o+i * 2,none⟩=some (.int .i64 x.1)/\w.cell? ⟨b,o+i * 2+1,none⟩=some (.bool x.2):=by
 obtain ⟨A',c',hv,_,_,h3⟩:=h
 injection hv with h1 _ _
 subst h1
 obtain ⟨b,o,e,g1,g2,hc⟩:=h3 i x hx
 exact ⟨b,o,e,⟨g1,g2⟩,by simpa using hc 0 _ rfl,hc 1 _ rfl⟩
end
end Go.Proofs.YtjpdembmchnbgaaGreat
namespace Go.Proofs.YtjpdembmchnbgaaGreat
end Go.Proofs.YtjpdembmchnbgaaGreat
