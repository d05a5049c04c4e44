/- Parts of the proof, joined into one text: SrchI, HelpWalk. -/
import Derived.Test.YtjpdembmchnbgaaGreatOnlzGFEEKDAD
import Derived.Test.YtjpdembmchnbgaaGreatOnlzKIILKLCH
import Derived.Test.YtjpdembmchnbgaaGreatOnlzADEMAGKM
import Derived.Test.YtjpdembmchnbgaaGreatOnlzFDEBOKAL
set_option linter.unusedVariables false
set_option linter.unusedSimpArgs false
namespace Go.Proofs.YtjpdembmchnbgaaGreat
open Go.ChangeShapes Go.WideShapes Go.ChangeAt Go.RowKit
attribute [local go_sem] ext_cell ext_frozen ext_lt ext_lt1 ext_lt2 ext_lt3 ltn2 ltn3 ltn13 lts1 lts2 lts3
theorem any_takeS {α:Type} {l:List α} {f:α->Bool} {i:Nat} {x:α} (h:l[i]?=some x) (hn:(l.take i).any f=false) (hx:f x=false):(l.take (i+1)).any f=false:=by
 rw [take_snoc h,List.any_append,hn];simpa using hx
theorem any_yes {α:Type} {l:List α} {f:α->Bool} {i:Nat} {x:α} (h:l[i]?=some x) (hx:f x=true):l.any f=true:=List.any_eq_true.2 ⟨x,List.mem_of_getElem? h,hx⟩
theorem prod_lt {x n q m:Nat} (hx:x < n) (hq:q < m):x * m+q < n * m:=by
 have h1:(x+1) * m<=n * m:=Nat.mul_le_mul_right m (by omega)
 rw [Nat.succ_mul] at h1
 omega
theorem set_lt {s m q:Nat} (hs:s < 2 ^ m) (hq:s.testBit q=true):q < m:=by
 rcases Nat.lt_or_ge q m with h | h
 · exact h
 · have:=Nat.testBit_lt_two_pow (Nat.lt_of_lt_of_le hs (Nat.pow_le_pow_right (by omega) h))
   rw [hq] at this;cases this
set_option maxHeartbeats 4000000 in
set_option maxRecDepth 100000 in
theorem promising_any (g:Gr) (a:Au) (y:Int) (B:Nat) (D:List Int) (hgo:grOk g=true) (ha:auOk a=true) (bT:Nat) (W0:World) (A1 A2 A3 A4 A5 A6:Option Addr) (c1 c2 c3 c4 c5 c6:Nat)
 (hgv:GrV 0 bT W0 (.agg #[.slice A1 g.vals.length c1,.slice A2 g.edges.length c2]) g) (hav:AuV 0 bT W0 (.agg #[.int .i64 a.start,.slice A3 a.accept.length c3,.slice A4 a.accept.length c4]) a) (hlv:SSE 0 bT W0 cA 4 (.slice A5 g.vals.length c5) ((List.range g.vals.length).map fun (x:Nat)=>arcsOf g (x:Int))) (hdv:SlI 0 bT W0 cI 1 (.slice A6 D.length c6) D) (hD:D.length=g.vals.length * a.accept.length) (hB:B<=20000) (hbT:bT < W0.heap.size) (x s lf c:Nat) (w:World) (hon:Only bT (bT+1) W0 w) (hbk:Blk w bT 102 #[.slice A1 g.vals.length c1,.slice A2 g.edges.length c2,.int .i64 a.start,.slice A3 a.accept.length c3,.slice A4 a.accept.length c4,.int .i64 y,.slice A5 g.vals.length c5,.slice A6 D.length c6,.int .i64 (B:Int),.int .i64 (c:Int)]) (hx:x < g.vals.length) (hs:s < 2 ^ a.accept.length) (hlf:lf<=60) :
 Calls Tryz.prog 69 #[.pointer (some ⟨bT,0,none⟩),.int .i64 (x:Int),.int .i64 (s:Int),.int .i64 (lf:Int)] w fun e w'=>e=.returned (.bool (hope D a.accept.length x s lf))/\Below w.heap.size w w':=by
 have hs4:=lt12 ha hs
 have hn12:=(auOk_iff.1 ha).1.2
 have hn5:=(grOk_iff.1 hgo).n5
 have z3:w.cell? ⟨bT,3,none⟩=some (.slice A3 a.accept.length c3):=hbk.cell 3
 have z7:w.cell? ⟨bT,7,none⟩=some (.slice A6 D.length c6):=hbk.cell 7
 have lT:=hbk.lt
 obtain ⟨R,hR⟩:∃ R,R=hope D a.accept.length x s lf:=⟨_,rfl⟩
 rw [<- hR]
 have HR:=Hd_ (hR.trans (show hope D a.accept.length x s lf=(mem 12 s).any (hopeC D a.accept.length x lf) from rfl))
 have HS:=Hd_ hs
 have HDV:=Hd_ hdv
 have HON:=Hd_ hon
 have HD:=Hd_ hD
 have hDl:D.length<=60:=by rw [hD];exact Nat.le_trans (Nat.mul_le_mul hn5 hn12) (by omega)
 clear hgv hav hlv hdv hR hs hon hD hbk hgo ha
 go_enter Tryz.func69,Tryz.ntmps69
 go_wp2_with fail
 refine (members_any s _ hs4).mono ?_
 rintro e w1 ⟨v1,rfl,ho,hb1⟩
 obtain ⟨A8,c8,rfl,hl8,hm8,hC8⟩:=ho.form cN_len
 have hml:=mem_len 12 s
 have HC8:=Hd_ hC8
 have z3:=kcell hb1 z3
 have z7:=kcell hb1 z7
 have HO1:=Hd_ (HON.out.trans (Only.of_below hb1 bT (bT+1)))
 have HB1:=Hd_ hb1
 have lT:=Nat.lt_of_lt_of_le lT hb1.size
 have hsW:=HO1.out.size
 clear ho hC8 hb1 HON
 go_wp2_with fail
 go_loopw [14] (fun ii wr=>∃ (i:Nat) (u:World),i<=(mem 12 s).length/\ii=.int .i64 (i:Int)/\((mem 12 s).take i).any (hopeC D a.accept.length x lf)=false/\wr=ext w1 u) (fun ii _=>(mem 12 s).length - (intOf ii).toNat)
 case atStart=>exact ⟨0,w1,Nat.zero_le _,rfl,rfl,ext_self _⟩
 case round =>
  obtain ⟨i,u,hi,rfl,hno,rfl⟩:=hrel
  have HNO:=Hd_ hno
  clear hno
  by_cases hlt:i < (mem 12 s).length
  · have hqi:(mem 12 s)[i]?=some (mem 12 s)[i]:=List.getElem?_eq_getElem hlt
    have hqm:=mem_mem.1 (List.getElem_mem hlt)
    generalize (mem 12 s)[i]=q at hqi hqm
    have hql:=set_lt HS.out hqm.2
    obtain ⟨b8,o8,rfl,hb8,d8⟩:=HC8.out.nat hqi
    have hixl:x * a.accept.length+q < D.length:=by rw [HD.out];exact prod_lt hx hql
    have hget:=getD_of hixl
    obtain ⟨b6,o6,rfl,-,hb6,d6⟩:=HDV.out.intI hget
    have d6:=ocell HO1.out d6 (by omega) (.inl (by omega))
    have hb6w:b6 < w1.heap.size:=by omega
    obtain ⟨xn,hxn⟩:∃ xn,xn=x * a.accept.length:=⟨_,rfl⟩
    have HH:=Hd_ (show hopeC D a.accept.length x lf q=wi (D.getD (xn+q) 0) 0 (lf:Int) by rw [hxn];rfl)
    rw [<- hxn] at hixl hget d6
    obtain ⟨ix,hix⟩:∃ ix,ix=xn+q:=⟨_,rfl⟩
    have q1:IntKind.i64.wrap ((x:Int) * (a.accept.length:Int))=(xn:Int):=by rw [IntWalk.i64_in _ (by rw [<- Int.natCast_mul,<- hxn];omega),hxn,Int.natCast_mul]
    have q1':(x:Int) * (a.accept.length:Int)=(xn:Int):=by rw [hxn,Int.natCast_mul]
    have q2:IntKind.i64.wrap ((xn:Int)+(q:Int))=(ix:Int):=by rw [IntWalk.i64_in _ (by omega)];omega
    have q2':(xn:Int)+(q:Int)=(ix:Int):=by omega
    have q5:IntKind.i64.wrap (xn:Int)=(xn:Int):=IntWalk.i64_in _ (by omega)
    have q6:IntKind.i64.wrap (ix:Int)=(ix:Int):=IntWalk.i64_in _ (by omega)
    rw [<- hix] at hixl hget d6 HH
    have hixi:(ix:Int) < (D.length:Int):=by omega
    have hix0:(0:Int)<=(ix:Int):=by omega
    have hii:(i:Int) < ((mem 12 s).length:Int):=by omega
    generalize D.getD ix 0=dv at *
    have HW:=Hd_ within_any
    clear hget hqm hxn hix
    cases hv:wi dv 0 (lf:Int) with
    | true =>
      have hfin:R=true:=by rw [HR.out];exact any_yes hqi (by rw [HH.out,hv])
      subst hfin
      clear HR HH hqi
      go_wp2_with fail
      refine wp_region_ext_lit (by kernel_rfl) (by kernel_rfl) ?_
      repeat (go_big_quiet_step ((go_at_call 45;exact Calls.ext_of ((HW.out _ _ _ _).mono fun e w' h=>⟨by rw [h.1,hv],by rw [h.2];exact Below.refl _ _⟩))))
      refine wpQuiet_nil ?_
      rintro _ ⟨u2,rfl⟩
      go_wp2_with fail
      go_ret
      exact ⟨rfl,below_trans HB1.out (below_trans (ext_below _ _) (ext_below _ _))⟩
    | false =>
      have HM:=Hd_ (any_takeS hqi HNO.out (by rw [HH.out,hv]))
      clear HR HH hqi HNO
      go_wp2_with fail
      refine wp_region_ext_lit (by kernel_rfl) (by kernel_rfl) ?_
      repeat (go_big_quiet_step ((go_at_call 45;exact Calls.ext_of ((HW.out _ _ _ _).mono fun e w' h=>⟨by rw [h.1,hv],by rw [h.2];exact Below.refl _ _⟩))))
      refine wpQuiet_nil ?_
      rintro _ ⟨u2,rfl⟩
      obtain ⟨u4,hu4⟩:=ext_of (below_trans (ext_below w1 u) (ext_below (ext w1 u) u2))
      rw [hu4]
      go_wp2_with fail
      go_roundw
      case rel=>exact ⟨i+1,u4,by omega,by go_num,HM.out,rfl⟩
      case measure=>simp [intOf];omega
  · obtain rfl:i=(mem 12 s).length:=by omega
    rw [List.take_length] at HNO
    have hfin:R=false:=by rw [HR.out];exact HNO.out
    subst hfin
    clear HR
    go_wp2_with fail
    go_ret
    exact ⟨rfl,below_trans HB1.out (ext_below _ _)⟩
set_option maxHeartbeats 16000000 in
set_option maxRecDepth 100000 in
theorem visit_any (g:Gr) (a:Au) (y:Int) (B:Nat) (D:List Int) (hgo:grOk g=true) (ha:auOk a=true) (bT:Nat) (W0:World) (A1 A2 A3 A4 A5 A6:Option Addr) (c1 c2 c3 c4 c5 c6:Nat)
 (hgv:GrV 0 bT W0 (.agg #[.slice A1 g.vals.length c1,.slice A2 g.edges.length c2]) g) (hav:AuV 0 bT W0 (.agg #[.int .i64 a.start,.slice A3 a.accept.length c3,.slice A4 a.accept.length c4]) a) (hlv:SSE 0 bT W0 cA 4 (.slice A5 g.vals.length c5) ((List.range g.vals.length).map fun (x:Nat)=>arcsOf g (x:Int))) (hdv:SlI 0 bT W0 cI 1 (.slice A6 D.length c6) D) (hD:D.length=g.vals.length * a.accept.length) (hB:B<=20000) (hbT:bT < W0.heap.size):∀ (lf x s:Nat) (us:List Int) (c:Nat) (uv:Value) (w:World),Only bT (bT+1) W0 w->Blk w bT 102 #[.slice A1 g.vals.length c1,.slice A2 g.edges.length c2,.int .i64 a.start,.slice A3 a.accept.length c3,.slice A4 a.accept.length c4,.int .i64 y,.slice A5 g.vals.length c5,.slice A6 D.length c6,.int .i64 (B:Int),.int .i64 (c:Int)]->SlI (bT+1) w.heap.size w cI 1 uv us->x < g.vals.length->s < 2 ^ a.accept.length->c<=B->us.length+lf<=60 ->
 Calls Tryz.prog 70 #[.pointer (some ⟨bT,0,none⟩),.int .i64 (x:Int),.int .i64 (s:Int),uv,.int .i64 (lf:Int)] w fun e w'=>∃ v',e=.returned (.tuple #[v',.bool (visit g a y B D false lf x s us c).1.isSome])/\Own w.heap.size w'.heap.size w' 81 cSt 2 v' ((visit g a y B D false lf x s us c).1.getD []) /\
  Blk w' bT 102 #[.slice A1 g.vals.length c1,.slice A2 g.edges.length c2,.int .i64 a.start,.slice A3 a.accept.length c3,.slice A4 a.accept.length c4,.int .i64 y,.slice A5 g.vals.length c5,.slice A6 D.length c6,.int .i64 (B:Int),.int .i64 ((visit g a y B D false lf x s us c).2:Int)]/\Only bT (bT+1) w w':=by
 intro lf
 induction lf with
 | zero =>
   intro x s us c uv w hon hbk huv hx hs hc hul
   have hb:w.heap.size<=w.heap.size:=Nat.le_refl _
   by_cases hBc:B<=c
   · rw [visit_out hBc]
     have z8:w.cell? ⟨bT,8,none⟩=some (.int .i64 (B:Int)):=hbk.cell 8
     have z9:w.cell? ⟨bT,9,none⟩=some (.int .i64 (c:Int)):=hbk.cell 9
     have hcb:decide ((c:Int) >= (B:Int))=true:=by simp;omega
     have lT:=hbk.lt
     have HBK:=Hd_ hbk
     clear hgv hav hlv hdv hD hgo ha hon hbk huv
     go_enter Tryz.func70,Tryz.ntmps70
     go_wp2_with fail
     refine wp_region_ext_lit (by kernel_rfl) (by kernel_rfl) ?_
     repeat (go_big_quiet_step (fail))
     refine wpQuiet_nil ?_
     rintro _ ⟨u,rfl⟩
     go_wp2_with fail
     go_ret2
     exact ⟨_,rfl,Own.nil _ _ _ _ _ _,HBK.out.keep (ext_below _ _),Only.of_below (ext_below _ _) _ _⟩
   · rw [visit_zeroV (by omega),endV_some,endV_get,endV_two]
     obtain ⟨BB,hBB⟩:∃ BB,BB=(decide ((x:Int)=y) && acc a s (valAt g x)):=⟨_,rfl⟩
     rw [<- hBB]
     have HBB0:=Hd_ hBB
     clear hBB
     obtain ⟨C1,hC1⟩:∃ C1,C1=c+1:=⟨_,rfl⟩
     rw [<- hC1]
     have hC1a:c+1<=C1:=by omega
     have hC1b:C1<=c+1:=by omega
     clear hC1
     have z8:w.cell? ⟨bT,8,none⟩=some (.int .i64 (B:Int)):=hbk.cell 8
     have z9:w.cell? ⟨bT,9,none⟩=some (.int .i64 (c:Int)):=hbk.cell 9
     have hcb:decide ((c:Int) >= (B:Int))=false:=by simp;omega
     have lT:=hbk.lt
     have fz9:=hbk.frozen 9
     have HBK:=Hd_ hbk
     have HON:=Hd_ hon
     have HUV:=Hd_ huv
     have qc:IntKind.i64.wrap ((c:Int)+1)=(C1:Int):=by rw [IntWalk.i64_in _ (by omega)];omega
     clear hon hbk huv
     go_enter Tryz.func70,Tryz.ntmps70
     go_wp2_with fail
     refine wp_region_ext_lit (by kernel_rfl) (by kernel_rfl) ?_
     repeat (go_big_quiet_step (fail))
     refine wpQuiet_nil ?_
     rintro _ ⟨u,rfl⟩
     go_upto_region 4 with fail
     have hbk1:=(HBK.out.keep (ext_below w u)).set_ 9 (.int .i64 (C1:Int))
     have honl:Only bT (bT+1) w ((ext w u).setCell ⟨bT,9,none⟩ (.int .i64 (C1:Int))):=(Only.of_below (ext_below w u) bT (bT+1)).setCell (p:=⟨bT,9,none⟩) (.inl ⟨Nat.le_refl _,Nat.lt_succ_self _⟩) _
     generalize (ext w u).setCell ⟨bT,9,none⟩ (.int .i64 (C1:Int))=W1 at *
     have HBK1:=Hd_ hbk1
     have HONL:=Hd_ honl
     have HON1:=Hd_ (HON.out.trans honl)
     have hsW1:=honl.size
     have lT:=hbk1.lt
     have hWW:=HON1.out.size
     clear hbk1 honl z8 z9 hcb qc fz9 HBK
     have hva:∃ vx:Nat,g.vals[x]?=some (vx:Int)/\valAt g x=vx/\vx<=2:=by
      have hxi:g.vals[x]?=some g.vals[x]:=List.getElem?_eq_getElem hx
      have hvr:=(grOk_iff.1 hgo).vals _ (List.getElem_mem hx)
      obtain ⟨vx,hvx⟩:=Int.eq_ofNat_of_zero_le hvr.1
      refine ⟨vx,by rw [hxi,hvx],?_,by omega⟩
      have:=valAt_of hxi
      rw [this,hvx,Int.toNat_natCast]
     obtain ⟨vx,hxi,hva,hvx⟩:=hva
     obtain ⟨vs,es,hag,h1,-⟩:=hgv
     injection hag with hag
     simp at hag
     obtain ⟨rfl,rfl⟩:=hag
     obtain ⟨b1,o1,rfl,-,hb1,dv⟩:=h1.intI hxi
     have dv:=ocell HON1.out dv (by omega) (.inl hb1)
     have hb1w:b1 < W1.heap.size:=by omega
     have hxx:(x:Int) < (g.vals.length:Int):=by omega
     have z0:W1.cell? ⟨bT,0,none⟩=some (.slice (some ⟨b1,o1,none⟩) g.vals.length c1):=HBK1.out.cell 0
     have z2:W1.cell? ⟨bT,2,none⟩=some (.int .i64 a.start):=HBK1.out.cell 2
     have z3:W1.cell? ⟨bT,3,none⟩=some (.slice A3 a.accept.length c3):=HBK1.out.cell 3
     have z4:W1.cell? ⟨bT,4,none⟩=some (.slice A4 a.accept.length c4):=HBK1.out.cell 4
     have z5:W1.cell? ⟨bT,5,none⟩=some (.int .i64 y):=HBK1.out.cell 5
     have HAV:=Hd_ hav
     have HEND:=Hd_ (fun (W:World) (hW:Below W1.heap.size W1 W)=>acceptsAt_any _ a s vx W (((hav.only HON1.out (by omega) (.inl (Nat.le_refl _))).all (by omega)).keep hW) ha hs hvx)
     have hBB:=HBB0.out
     rw [hva] at hBB
     clear HBB0
     clear hxi hva h1 hav hlv hdv hD hgo ha
     by_cases hxy:(x:Int)=y
     · have hd:decide ((x:Int)=y)=true:=decide_eq_true hxy
       have hd2:((x:Int)==y)=true:=by simp [hxy]
       rw [hd,Bool.true_and] at hBB
       generalize acc a s vx=bb at *
       have HBB:=Hd_ hBB
       clear hxy hBB
       go_wp2_with fail
       refine wp_region_ext_lit (by kernel_rfl) (by kernel_rfl) ?_
       repeat (go_big_quiet_step ((go_at_call 99;exact Calls.ext_of (HEND.out _ (ext_below _ _)))))
       refine wpQuiet_nil ?_
       rintro _ ⟨u2,rfl⟩
       go_wp2_with fail
       go_ret2
       rw [HBB.out]
       exact ⟨_,rfl,Own.nil _ _ _ _ _ _,HBK1.out.keep (ext_below _ _),HONL.out.trans (Only.of_below (ext_below _ _) _ _)⟩
     · have hd:decide ((x:Int)=y)=false:=decide_eq_false hxy
       have hd2:((x:Int)==y)=false:=by simp [hxy]
       rw [hd,Bool.false_and] at hBB
       have HBB:=Hd_ hBB
       clear hxy hBB
       go_wp2_with fail
       refine wp_region_ext_lit (by kernel_rfl) (by kernel_rfl) ?_
       repeat (go_big_quiet_step (fail))
       refine wpQuiet_nil ?_
       rintro _ ⟨u2,rfl⟩
       go_wp2_with fail
       go_ret2
       rw [HBB.out]
       exact ⟨_,rfl,Own.nil _ _ _ _ _ _,HBK1.out.keep (ext_below _ _),HONL.out.trans (Only.of_below (ext_below _ _) _ _)⟩
 | succ lf ih =>
   intro x s us c uv w hon hbk huv hx hs hc hul
   by_cases hBc:B<=c
   · rw [visit_out hBc]
     have z8:w.cell? ⟨bT,8,none⟩=some (.int .i64 (B:Int)):=hbk.cell 8
     have z9:w.cell? ⟨bT,9,none⟩=some (.int .i64 (c:Int)):=hbk.cell 9
     have hcb:decide ((c:Int) >= (B:Int))=true:=by simp;omega
     have lT:=hbk.lt
     have HBK:=Hd_ hbk
     clear hgv hav hlv hdv hD hgo ha hon hbk huv
     go_enter Tryz.func70,Tryz.ntmps70
     go_wp2_with fail
     refine wp_region_ext_lit (by kernel_rfl) (by kernel_rfl) ?_
     repeat (go_big_quiet_step (fail))
     refine wpQuiet_nil ?_
     rintro _ ⟨u,rfl⟩
     go_wp2_with fail
     go_ret2
     exact ⟨_,rfl,Own.nil _ _ _ _ _ _,HBK.out.keep (ext_below _ _),Only.of_below (ext_below _ _) _ _⟩
   · rw [visit_succ (by omega)]
     obtain ⟨L1,hL1⟩:∃ L1,L1=lf+1:=⟨_,rfl⟩
     rw [<- hL1]
     obtain ⟨C1,hC1⟩:∃ C1,C1=c+1:=⟨_,rfl⟩
     rw [<- hC1]
     obtain ⟨R,hR⟩:∃ R,R=visF g a y B D false lf x s us 0 C1:=⟨_,rfl⟩
     rw [<- hR]
     have hL1a:lf+1<=L1:=by omega
     have hL1b:L1<=lf+1:=by omega
     have hC1a:c+1<=C1:=by omega
     have hC1b:C1<=c+1:=by omega
     clear hL1 hC1
     have z8:w.cell? ⟨bT,8,none⟩=some (.int .i64 (B:Int)):=hbk.cell 8
     have z9:w.cell? ⟨bT,9,none⟩=some (.int .i64 (c:Int)):=hbk.cell 9
     have hcb:decide ((c:Int) >= (B:Int))=false:=by simp;omega
     have lT:=hbk.lt
     have fz9:=hbk.frozen 9
     have HBK:=Hd_ hbk
     have HON:=Hd_ hon
     have HUV:=Hd_ huv
     have qc:IntKind.i64.wrap ((c:Int)+1)=(C1:Int):=by rw [IntWalk.i64_in _ (by omega)];omega
     clear hon hbk huv
     go_enter Tryz.func70,Tryz.ntmps70
     go_wp2_with fail
     refine wp_region_ext_lit (by kernel_rfl) (by kernel_rfl) ?_
     repeat (go_big_quiet_step (fail))
     refine wpQuiet_nil ?_
     rintro _ ⟨u,rfl⟩
     go_upto_region 4 with fail
     have hbk1:=(HBK.out.keep (ext_below w u)).set_ 9 (.int .i64 (C1:Int))
     have honl:Only bT (bT+1) w ((ext w u).setCell ⟨bT,9,none⟩ (.int .i64 (C1:Int))):=(Only.of_below (ext_below w u) bT (bT+1)).setCell (p:=⟨bT,9,none⟩) (.inl ⟨Nat.le_refl _,Nat.lt_succ_self _⟩) _
     generalize (ext w u).setCell ⟨bT,9,none⟩ (.int .i64 (C1:Int))=W1 at *
     have HBK1:=Hd_ hbk1
     have HONL:=Hd_ honl
     have HON1:=Hd_ (HON.out.trans honl)
     have hsW1:=honl.size
     have lT:=hbk1.lt
     have hWW:=HON1.out.size
     clear hbk1 honl z8 z9 hcb qc fz9 HBK
     have hl0:((L1:Int)==0)=false:=by simp;omega
     have hl1:decide ((L1:Int)=0)=false:=by simp;omega
     have ql:IntKind.i64.wrap ((L1:Int) - 1)=(lf:Int):=by rw [IntWalk.i64_in _ (by omega)];omega
     have hgv0:=hgv
     have hva:∃ vx:Nat,g.vals[x]?=some (vx:Int)/\valAt g x=vx/\vx<=2:=by
      have hxi:g.vals[x]?=some g.vals[x]:=List.getElem?_eq_getElem hx
      have hvr:=(grOk_iff.1 hgo).vals _ (List.getElem_mem hx)
      obtain ⟨vx,hvx⟩:=Int.eq_ofNat_of_zero_le hvr.1
      refine ⟨vx,by rw [hxi,hvx],?_,by omega⟩
      have:=valAt_of hxi
      rw [this,hvx,Int.toNat_natCast]
     obtain ⟨vx,hxi,hva,hvx⟩:=hva
     obtain ⟨vs,es,hag,h1,-⟩:=hgv
     injection hag with hag
     simp at hag
     obtain ⟨rfl,rfl⟩:=hag
     obtain ⟨b1,o1,rfl,-,hb1,dv⟩:=h1.intI hxi
     have dv:=ocell HON1.out dv (by omega) (.inl hb1)
     have hal:=arcs_len (grOk_iff.1 hgo) (x:Int)
     obtain ⟨b5,o5,A7,c7,rfl,-,hb5,d5,hl7,hm7,hI7,-⟩:=hlv.row (by omega) (i:=x) (xs:=arcsOf g (x:Int)) (by simp [hx])
     have d5:=ocell HON1.out d5 (by omega) (.inl hb5)
     have hb1w:b1 < W1.heap.size:=by omega
     have hb5w:b5 < W1.heap.size:=by omega
     have hxx:(x:Int) < (g.vals.length:Int):=by omega
     have z6:W1.cell? ⟨bT,6,none⟩=some (.slice (some ⟨b5,o5,none⟩) g.vals.length c5):=HBK1.out.cell 6
     have HI7:=Hd_ hI7
     have HREC:=Hd_ ih
     have HPR:=Hd_ (fun x s lf c w=>promising_any g a y B D hgo ha bT W0 _ A2 A3 A4 _ A6 c1 c2 c3 c4 c5 c6 hgv0 hav hlv hdv hD hB hbT x s lf c w)
     have HAF:=Hd_ (fun (l:Nat) (hl:l < 9) (W:World) (hW:Only bT (bT+1) W0 W)=>after_any _ a s vx l W ((hav.only hW (by omega) (.inl (Nat.le_refl _))).all (Nat.le_trans (Nat.le_of_lt hbT) hW.size)) ha hs hvx hl)
     have HGO:=Hd_ hgo
     have HA:=Hd_ ha
     have HR0:=Hd_ hR.symm
     have hn5:=(grOk_iff.1 hgo).n5
     clear hR hgv0 h1 hav hlv hdv hD hgo ha ih hI7 hs hxi
     go_wp2_with fail
     go_loopw [65] (fun ii wr=>∃ i c':Nat,i<=(arcsOf g (x:Int)).length/\c'<=B/\ii=.int .i64 (i:Int)/\visF g a y B D false lf x s us i c'=R/\Only bT (bT+1) W1 wr/\Blk wr bT 102 #[.slice (some ⟨b1,o1,none⟩) g.vals.length c1,.slice A2 g.edges.length c2,.int .i64 a.start,.slice A3 a.accept.length c3,.slice A4 a.accept.length c4,.int .i64 y,.slice (some ⟨b5,o5,none⟩) g.vals.length c5,.slice A6 D.length c6,.int .i64 (B:Int),.int .i64 (c':Int)]) (fun ii _=>(arcsOf g (x:Int)).length - (intOf ii).toNat)
     case atStart=>exact ⟨0,C1,Nat.zero_le _,by omega,rfl,HR0.out,Only.refl _ _ _,HBK1.out⟩
     case round =>
      clear HR0 HBK1 z6 d5 hl0 hl1
      obtain ⟨i,c',hi,hcB,rfl,hR,hon,hbk⟩:=hrel
      have HR:=Hd_ hR
      have HON:=Hd_ hon
      have HBK:=Hd_ hbk
      have hsz:=hon.size
      have lTr:=hbk.lt
      clear hR hon hbk
      by_cases hlt:i < (arcsOf g (x:Int)).length
      · have hyi:(arcsOf g (x:Int))[i]?=some (arcsOf g (x:Int))[i]:=List.getElem?_eq_getElem hlt
        have hyr:=arc_range (grOk_iff.1 HGO.out) (List.getElem_mem hlt)
        generalize (arcsOf g (x:Int))[i]=p at hyi hyr
        obtain ⟨⟨sid,sinv⟩,l,t⟩:=p
        simp only at hyr
        obtain ⟨l,rfl⟩:=Int.eq_ofNat_of_zero_le hyr.1.1
        obtain ⟨t,rfl⟩:=Int.eq_ofNat_of_zero_le hyr.2.1
        obtain ⟨b7,o7,rfl,-,hb7,k0,k1,k2,k3⟩:=HI7.out.arc hyi
        simp only at k0 k1 k2 k3
        have honW:=HON1.out.trans HON.out
        have k0:=ocell honW k0 (by omega) (.inl hb7)
        have k1:=ocell honW k1 (by omega) (.inl hb7)
        have k2:=ocell honW k2 (by omega) (.inl hb7)
        have k3:=ocell honW k3 (by omega) (.inl hb7)
        have hb7w:b7 < wr.heap.size:=by omega
        have hM:=aft_lt HA.out s vx l
        have hm4:=lt12 HA.out hM
        have hmv:aft a s (valAt g x) ((l:Int)).toNat=aft a s vx l:=by rw [hva,Int.toNat_natCast]
        have HVS:=Hd_ (fun h=>visF_skip2 (y:=y) (B:=B) (D:=D) (sm:=false) (lf:=lf) (us:=us) (c:=c') (t:=t) (k:=sid) hyi rfl hmv rfl h)
        have HVY:=Hd_ (fun r c2 h h2=>visF_yes2 (y:=y) (B:=B) (D:=D) (sm:=false) (lf:=lf) (us:=us) (c:=c') (t:=t) (k:=sid) (r:=r) (c':=c2) hyi rfl hmv rfl h h2)
        have HVN:=Hd_ (fun c2 h h2=>visF_no2 (y:=y) (B:=B) (D:=D) (sm:=false) (lf:=lf) (us:=us) (c:=c') (t:=t) (k:=sid) (c':=c2) hyi rfl hmv rfl h h2)
        have HAL:=Hd_ (HAF.out l (by omega))
        have hii:(i:Int) < ((arcsOf g (x:Int)).length:Int):=by omega
        have HM:=Hd_ hM
        clear hyi hmv hM honW
        generalize aft a s vx l=M at *
        go_wp2_with fail
        have e0:(wr.alloc (.cells #[.int .i64 sid,.bool sinv,.int .i64 (l:Int),.int .i64 (t:Int)] 88)).cell? ⟨wr.heap.size,0,none⟩=some (.int .i64 sid):=by simp
        have e1:(wr.alloc (.cells #[.int .i64 sid,.bool sinv,.int .i64 (l:Int),.int .i64 (t:Int)] 88)).cell? ⟨wr.heap.size,1,none⟩=some (.bool sinv):=by simp
        have e2:(wr.alloc (.cells #[.int .i64 sid,.bool sinv,.int .i64 (l:Int),.int .i64 (t:Int)] 88)).cell? ⟨wr.heap.size,2,none⟩=some (.int .i64 (l:Int)):=by simp
        have e3:(wr.alloc (.cells #[.int .i64 sid,.bool sinv,.int .i64 (l:Int),.int .i64 (t:Int)] 88)).cell? ⟨wr.heap.size,3,none⟩=some (.int .i64 (t:Int)):=by simp
        have hbE:=(Below.refl wr.heap.size wr).alloc (Nat.le_refl _) (.cells #[.int .i64 sid,.bool sinv,.int .i64 (l:Int),.int .i64 (t:Int)] 88)
        have hsE:wr.heap.size < (wr.alloc (.cells #[.int .i64 sid,.bool sinv,.int .i64 (l:Int),.int .i64 (t:Int)] 88)).heap.size:=by simp
        generalize wr.alloc (.cells #[.int .i64 sid,.bool sinv,.int .i64 (l:Int),.int .i64 (t:Int)] 88)=wE at *
        have hbkE:=HBK.out.keep hbE
        have honE:=HON.out.trans (Only.of_below hbE bT (bT+1))
        have z0:wE.cell? ⟨bT,0,none⟩=some (.slice (some ⟨b1,o1,none⟩) g.vals.length c1):=hbkE.cell 0
        have z2:wE.cell? ⟨bT,2,none⟩=some (.int .i64 a.start):=hbkE.cell 2
        have z3:wE.cell? ⟨bT,3,none⟩=some (.slice A3 a.accept.length c3):=hbkE.cell 3
        have z4:wE.cell? ⟨bT,4,none⟩=some (.slice A4 a.accept.length c4):=hbkE.cell 4
        have lTE:=hbkE.lt
        have dv:=ocell honE dv (by omega) (.inl hb1)
        have hb1E:b1 < wE.heap.size:=by omega
        have HBKE:=Hd_ hbkE
        have HONE:=Hd_ honE
        have hebT:bT < wr.heap.size:=by omega
        generalize wr.heap.size=eb at *
        clear k0 k1 k2 k3 hbE hbkE honE
        refine wp_region_ext_lit (by kernel_rfl) (by kernel_rfl) ?_
        repeat (go_big_quiet_step ((go_at_call 104;exact Calls.ext_of (HAL.out _ (HON1.out.trans (HONE.out.trans (Only.of_below (ext_below _ _) bT (bT+1))))))))
        refine wpQuiet_nil ?_
        rintro _ ⟨u2,rfl⟩
        have hbE2:=ext_below wE u2
        have honX:=HONE.out.trans (Only.of_below hbE2 bT (bT+1))
        have hbkX:=HBKE.out.keep hbE2
        have e0:=kcell hbE2 e0
        have e1:=kcell hbE2 e1
        have e2:=kcell hbE2 e2
        have e3:=kcell hbE2 e3
        have hsX:=hbE2.size
        have HONX:=Hd_ honX
        have HBKX:=Hd_ hbkX
        have lTX:=hbkX.lt
        generalize ext wE u2=wX at *
        clear hbE2 honX hbkX z0 z2 z3 z4 dv HONE HBKE HAL
        by_cases hm0:M=0
        · have HE:=Hd_ ((HVS.out (by simp [hm0])).symm.trans HR.out)
          clear HVS HVY HVN HM
          subst hm0
          go_wp2_with fail
          go_roundw
          case rel=>exact ⟨i+1,c',by omega,hcB,by go_num,HE.out,HONX.out,HBKX.out⟩
          case measure=>simp [intOf];omega
        · have hmi:((M:Int)==0)=false:=by simp;omega
          have hmi2:decide ((M:Int)=0)=false:=by simp;omega
          have huX:=((HUV.out.only (HONL.out.trans HONX.out) (Nat.le_refl _) (.inr (Nat.le_refl _))).mono (lo':=bT+1) (Nat.le_refl _) (show w.heap.size<=wX.heap.size by omega))
          have HUX:=Hd_ huX
          have hct:=contains_any _ us sid wX (huX.mono (Nat.zero_le _) (Nat.le_refl _)) (by omega)
          have HCT:=Hd_ hct
          clear hct huX
          cases hcn:us.contains sid with
          | true =>
            rw [hcn] at HCT
            have HE:=Hd_ ((HVS.out (by rw [hcn];simp)).symm.trans HR.out)
            clear HVS HVY HVN HM hcn
            go_wp2_with fail
            refine HCT.out.mono ?_
            rintro en w9 ⟨rfl,hw9⟩
            rw [hw9]
            clear hw9
            go_wp2_with fail
            go_roundw
            case rel=>exact ⟨i+1,c',by omega,hcB,by go_num,HE.out,HONX.out,HBKX.out⟩
            case measure=>simp [intOf];omega
          | false =>
            rw [hcn] at HCT
            have HPX:=Hd_ (HPR.out t M lf c' wX (HON1.out.trans HONX.out) HBKX.out (by omega) HM.out (by omega))
            cases hhp:hope D a.accept.length t M lf with
            | false =>
              rw [hhp] at HPX
              have HE:=Hd_ ((HVS.out (by rw [hhp];simp)).symm.trans HR.out)
              clear HVS HVY HVN HM hcn hhp
              go_wp2_with fail
              refine HCT.out.mono ?_
              rintro en w9 ⟨rfl,hw9⟩
              rw [hw9]
              clear hw9
              go_wp2_with fail
              refine HPX.out.mono ?_
              rintro en w9 ⟨rfl,hb9⟩
              have HO9:=Hd_ (HONX.out.trans (Only.of_below hb9 bT (bT+1)))
              have HBK9:=Hd_ (HBKX.out.keep hb9)
              clear hb9
              go_wp2_with fail
              go_roundw
              case rel=>exact ⟨i+1,c',by omega,hcB,by go_num,HE.out,HO9.out,HBK9.out⟩
              case measure=>simp [intOf];omega
            | true =>
              rw [hhp] at HPX
              have hvl:=visit_le (g:=g) (a:=a) (y:=y) (B:=B) (D:=D) (sm:=false) lf t M (us ++ [sid]) c' hcB
              have HRC:=Hd_ (fun (uvN:Value) (W:World) h1 h2 h3=>HREC.out t M (us ++ [sid]) c' uvN W h1 h2 h3 (by omega) HM.out hcB (by simp;omega))
              have hvn:=visit_len (g:=g) (a:=a) (y:=y) (B:=B) (D:=D) (sm:=false) lf t M (us ++ [sid]) c'
              generalize hV:visit g a y B D false lf t M (us ++ [sid]) c'=V at *
              obtain ⟨o,c2⟩:=V
              simp only at hvl hvn
              have HRL:=Hd_ (fun r (h:o=some r)=>hvn r h)
              clear hvn
              have HVY2:=Hd_ (fun r (h:o=some r)=>(HVY.out r c2 (by rw [hcn,hhp];simp [hm0]) (by rw [h])).symm.trans HR.out)
              have HVN2:=Hd_ (fun (h:o=none)=>(HVN.out c2 (by rw [hcn,hhp];simp [hm0]) (by rw [h])).symm.trans HR.out)
              clear HVS HVY HVN HM hcn hhp hV HREC HPR HAF
              go_wp2_with fail
              refine HCT.out.mono ?_
              rintro en w9 ⟨rfl,hw9⟩
              rw [hw9]
              clear hw9
              go_wp2_with fail
              refine HPX.out.mono ?_
              rintro en w9 ⟨rfl,hb9⟩
              have hon9:=HONX.out.trans (Only.of_below hb9 bT (bT+1))
              have hbk9:=HBKX.out.keep hb9
              have hu9:=(HUX.out.below hb9 (Nat.le_refl _)).mono (Nat.le_refl _) hb9.size
              have HU9:=Hd_ (hu9.mono (Nat.zero_le _) (Nat.le_refl _))
              have hs9:=hb9.size
              have HO9:=Hd_ hon9
              have HBK9:=Hd_ hbk9
              have lT9:=hbk9.lt
              have e0:=kcell hb9 e0
              have e1:=kcell hb9 e1
              have e3:=kcell hb9 e3
              have heb9:eb < w9.heap.size:=by omega
              clear hon9 hbk9 hu9 hb9 HUX HBKX HONX HCT HPX e2
              go_wp2_with fail
              have hbD:=(Below.refl w9.heap.size w9).drew
              refine F_start 18 (fun w'=>w'.cell? ⟨eb,0,none⟩=some (.int .i64 sid)/\w'.cell? ⟨eb,1,none⟩=some (.bool sinv)/\w'.cell? ⟨eb,3,none⟩=some (.int .i64 (t:Int))) (by kernel_rfl) (by exact ⟨e0,e1,e3⟩) (fun hS inv=>?_)
              refine F_tk 0 inv ?_
              try simp only [tA,tB,tC,Act.put,tE,tF,tG]
              clear inv;intro inv
              refine F_tk 1 inv ?_
              try simp only [tA,tB,tC,Act.put,tE,tF,tG]
              clear inv;intro inv
              refine F_tk 2 inv ?_
              try simp only [tA,tB,tC,Act.put,tE,tF,tG]
              clear inv;intro inv
              refine F_tk 3 inv ?_
              try simp only [tA,tB,tC,Act.put,tE,tF,tG]
              clear inv;intro inv
              refine F_tk 4 inv ?_
              try simp only [tA,tB,tC,Act.put,tE,tF,tG]
              clear inv;intro inv
              refine F_tk 6 inv ?_
              try simp only [tA,tB,tC,Act.put,tE,tF,tG]
              clear inv;intro inv
              refine F_tk 7 inv ?_
              try simp only [tA,tB,tC,Act.put,tE,tF,tG]
              clear inv;intro inv
              refine F_tk 8 inv ?_
              try simp only [tA,tB,tC,Act.put,tE,tF,tG]
              clear inv;intro inv
              refine F_tk 11 inv ?_
              try simp only [tA,tB,tC,Act.put,tE,tF,tG]
              clear inv;intro inv
              refine F_tk 12 inv ?_
              try simp only [tA,tB,tC,Act.put,tE,tF,tG]
              clear inv;intro inv
              have hS0:=hS
              refine F_two (i:=5) (j:=9) (by kernel_rfl) rfl rfl rfl rfl (by omega) inv (fun K hK=>?_) (fun K hK=>?_)
              all_goals (try simp only [tA,tB,tC])
              · go_simp
                refine (copyInts_any _ us _ (SlE.keep (w':=w9.drew) HU9.out hbD) (by omega)).mono ?_
                rintro en wA ⟨vA,rfl,hoA,hbA⟩
                have HOA:=Hd_ hoA.1
                have hsA:=hbA.size
                clear hoA
                refine hK.out _ _ (kB3 hbA hS) (fun _ _=>?_)
                try simp only [tA,tB,tC,Act.put,tE,tF,tG]
                clear hK K inv hS;rename_i hS inv
                refine F_o1 9 inv ?_;intro K hK
                try simp only [tA,tB,tC]
                go_simp
                refine hK.out _ _ (kA3 _ hS) (fun _ _=>?_)
                try simp only [tA,tB,tC,Act.put,tE,tF,tG]
                clear hK K inv hS;rename_i hS inv
                refine F_o1 10 inv ?_;intro K hK
                try simp only [tA,tB,tC]
                refine op_append1 cI elInt rfl _ _ (by rfl) w9.drew.heap.size _ us sid 1 _ (by rfl) (HOA.out.alloc _) (by first | rfl | simp) (heap_alloc_new _ _) rfl (cI_one _) (by omega) (by omega) (Nat.le_trans hsA (by simp)) ?_
                intro g2 cp2 w3 hown3 hgr3 hat3 hlt3
                have hbY:=(hbA.alloc hsA (.cells #[.int .i64 sid] 3)).trans (own_below (HOA.out.alloc (.cells #[.int .i64 sid] 3)) (Nat.le_trans hsA (by simp)) hgr3)
                have HOW:=Hd_ hown3
                clear hown3 hgr3 hat3
                refine hK.out _ _ (kB3 hbY hS0) (fun _ _=>?_)
                try simp only [tA,tB,tC,Act.put,tE,tF,tG]
                clear hK K inv hS;rename_i hS inv
                have hb3:=below_trans hbD hbY
                have hs3:w9.heap.size<=w3.heap.size:=hb3.size
                have hon3:=HO9.out.trans (Only.of_below hb3 bT (bT+1))
                have hbk3:=HBK9.out.keep hb3
                have hsl:=(((Own.of_row (xs:=us ++ [sid]) HOW.out (by simp) rfl).sl cI_len).mono (lo':=bT+1) (show bT+1<=w9.heap.size by omega) (Nat.le_refl _))
                refine F_o1 13 inv ?_;intro K hK
                try simp only [tA,tB,tC]
                go_simp
                refine (HRC.out _ w3 (HON1.out.trans hon3) hbk3 (by simpa using hsl)).mono ?_
                rintro en wC ⟨vC,rfl,hoC,hbkC,honC⟩
                have heb3:eb < w3.heap.size:=by omega
                refine hK.out _ _ (⟨ocell honC hS.1 heb3 (.inr (by omega)),ocell honC hS.2.1 heb3 (.inr (by omega)),ocell honC hS.2.2 heb3 (.inr (by omega))⟩) (fun _ _=>?_)
                try simp only [tA,tB,tC,Act.put,tE,tF,tG]
                clear hK K inv hS;rename_i hS inv
                have HS:=Hd_ hS
                have HOC:=Hd_ hoC
                have HBKC:=Hd_ hbkC
                have HONC:=Hd_ (hon3.trans honC)
                have hsC:=honC.size
                have lebC:eb < wC.heap.size:=by omega
                refine F_tk 14 inv ?_
                try simp only [tA,tB,tC,Act.put,tE,tF,tG]
                clear inv;intro inv
                refine F_tk 15 inv ?_
                try simp only [tA,tB,tC,Act.put,tE,tF,tG]
                clear inv;intro inv
                refine F_tk 16 inv ?_
                try simp only [tA,tB,tC,Act.put,tE,tF,tG]
                clear inv;intro inv
                refine F_tk 17 inv ?_
                try simp only [tA,tB,tC,Act.put,tE,tF,tG]
                clear inv;intro inv
                refine F_l1 18 ?_;intro K hK
                go_simp
                refine hK _ _ ?_
                clear hK K inv hS
                cases o with
                | none =>
                  have HE:=Hd_ (HVN2.out rfl)
                  go_wp2_with fail
                  go_roundw
                  case rel=>exact ⟨i+1,c2,by omega,hvl.1,by go_num,HE.out,HONC.out,HBKC.out⟩
                  case measure=>simp [intOf];omega
                | some r =>
                  have HE:=Hd_ (HVY2.out r rfl)
                  have e0:=HS.out.1
                  have e1:=HS.out.2.1
                  have hal2:Below wC.heap.size wC (wC.alloc (.cells #[.int .i64 sid,.bool sinv] 81)):=(Below.refl _ _).alloc (Nat.le_refl _) _
                  have hv2:=SlE.keep ((hoC.sl cSt_len).all (Nat.le_refl _)) hal2
                  have HV2:=Hd_ hv2
                  have hlt2:=World.ownsRow_lit (base:=wC.heap.size) (e:=81) (size:=2) wC #[.int .i64 sid,.bool sinv] 1 (Nat.le_refl _) (by decide) rfl
                  have HLT2:=Hd_ hlt2
                  have hrl:r.length<=60:=by
                   have:=HRL.out r rfl
                   omega
                  have HAL2:=Hd_ hal2
                  clear hv2 hlt2 hoC hal2
                  go_wp2_with (at_builtin;(refine wpList_appendL cSt elStep cSt_len cSt_one rfl _ _ rfl wC.heap.size _ [(sid,sinv)] r (by rfl) HLT2.out 0 _ _ (by rfl) HV2.out (by simp;omega) (by omega) (by simp) ?_);intro v5 w5 hrow5 hgr5 hat5)
                  have hb5x:=HAL2.out.trans (own_below HLT2.out (by simp) hgr5)
                  have HB5:=Hd_ hb5x
                  have HO5:=Hd_ (Own.of_row (xs:=[(sid,sinv)] ++ r) hrow5 rfl rfl)
                  clear hrow5 hgr5 hat5 hb5x
                  go_wp2_with fail
                  go_ret2
                  rw [<- HE.out]
                  exact ⟨_,rfl,HO5.out.mono (by omega) (Nat.le_refl _),HBKC.out.keep HB5.out,HONL.out.trans (HONC.out.trans (Only.of_below HB5.out _ _))⟩
              · go_simp
                have hbL:Below w9.drew.heap.size w9.drew (w9.drew.alloc (.cells #[.int .i64 sid] 3)):=(Below.refl _ _).alloc (Nat.le_refl _) _
                have hsL:w9.drew.heap.size < (w9.drew.alloc (.cells #[.int .i64 sid] 3)).heap.size:=by simp
                refine hK.out _ _ (kB3 hbL hS) (fun _ _=>?_)
                try simp only [tA,tB,tC,Act.put,tE,tF,tG]
                clear hK K inv hS;rename_i hS inv
                refine F_o1 5 inv ?_;intro K hK
                try simp only [tA,tB,tC]
                go_simp
                refine (copyInts_any _ us _ (SlE.keep (w':=w9.drew.alloc (.cells #[.int .i64 sid] 3)) HU9.out (below_trans hbD hbL)) (by omega)).mono ?_
                rintro en wA ⟨vA,rfl,hoA,hbA⟩
                have HOA:=Hd_ hoA.1
                have hsA:=hbA.size
                have hlit:wA.heap[w9.drew.heap.size]?=some (.cells #[.int .i64 sid] 3 (0,0)):=(hbA.block _ hsL).trans (heap_alloc_new _ _)
                have HLIT:=Hd_ hlit
                clear hoA hlit
                refine hK.out _ _ (kB3 hbA hS) (fun _ _=>?_)
                try simp only [tA,tB,tC,Act.put,tE,tF,tG]
                clear hK K inv hS;rename_i hS inv
                refine F_o1 10 inv ?_;intro K hK
                try simp only [tA,tB,tC]
                refine op_append1 cI elInt rfl _ _ (by rfl) _ _ us sid 1 _ (by rfl) HOA.out (by first | rfl | simp) HLIT.out rfl (cI_one _) (by omega) (by omega) hsA ?_
                intro g2 cp2 w3 hown3 hgr3 hat3 hlt3
                have hbY:=below_trans hbL (hbA.trans (own_below HOA.out hsA hgr3))
                have HOW:=Hd_ (ownsRow_mono hown3 (Nat.le_of_lt hsL))
                clear hown3 hgr3 hat3
                refine hK.out _ _ (kB3 hbY hS0) (fun _ _=>?_)
                try simp only [tA,tB,tC,Act.put,tE,tF,tG]
                clear hK K inv hS;rename_i hS inv
                have hb3:=below_trans hbD hbY
                have hs3:w9.heap.size<=w3.heap.size:=hb3.size
                have hon3:=HO9.out.trans (Only.of_below hb3 bT (bT+1))
                have hbk3:=HBK9.out.keep hb3
                have hsl:=(((Own.of_row (xs:=us ++ [sid]) HOW.out (by simp) rfl).sl cI_len).mono (lo':=bT+1) (show bT+1<=w9.heap.size by omega) (Nat.le_refl _))
                refine F_o1 13 inv ?_;intro K hK
                try simp only [tA,tB,tC]
                go_simp
                refine (HRC.out _ w3 (HON1.out.trans hon3) hbk3 (by simpa using hsl)).mono ?_
                rintro en wC ⟨vC,rfl,hoC,hbkC,honC⟩
                have heb3:eb < w3.heap.size:=by omega
                refine hK.out _ _ (⟨ocell honC hS.1 heb3 (.inr (by omega)),ocell honC hS.2.1 heb3 (.inr (by omega)),ocell honC hS.2.2 heb3 (.inr (by omega))⟩) (fun _ _=>?_)
                try simp only [tA,tB,tC,Act.put,tE,tF,tG]
                clear hK K inv hS;rename_i hS inv
                have HS:=Hd_ hS
                have HOC:=Hd_ hoC
                have HBKC:=Hd_ hbkC
                have HONC:=Hd_ (hon3.trans honC)
                have hsC:=honC.size
                have lebC:eb < wC.heap.size:=by omega
                refine F_tk 14 inv ?_
                try simp only [tA,tB,tC,Act.put,tE,tF,tG]
                clear inv;intro inv
                refine F_tk 15 inv ?_
                try simp only [tA,tB,tC,Act.put,tE,tF,tG]
                clear inv;intro inv
                refine F_tk 16 inv ?_
                try simp only [tA,tB,tC,Act.put,tE,tF,tG]
                clear inv;intro inv
                refine F_tk 17 inv ?_
                try simp only [tA,tB,tC,Act.put,tE,tF,tG]
                clear inv;intro inv
                refine F_l1 18 ?_;intro K hK
                go_simp
                refine hK _ _ ?_
                clear hK K inv hS
                cases o with
                | none =>
                  have HE:=Hd_ (HVN2.out rfl)
                  go_wp2_with fail
                  go_roundw
                  case rel=>exact ⟨i+1,c2,by omega,hvl.1,by go_num,HE.out,HONC.out,HBKC.out⟩
                  case measure=>simp [intOf];omega
                | some r =>
                  have HE:=Hd_ (HVY2.out r rfl)
                  have e0:=HS.out.1
                  have e1:=HS.out.2.1
                  have hal2:Below wC.heap.size wC (wC.alloc (.cells #[.int .i64 sid,.bool sinv] 81)):=(Below.refl _ _).alloc (Nat.le_refl _) _
                  have hv2:=SlE.keep ((hoC.sl cSt_len).all (Nat.le_refl _)) hal2
                  have HV2:=Hd_ hv2
                  have hlt2:=World.ownsRow_lit (base:=wC.heap.size) (e:=81) (size:=2) wC #[.int .i64 sid,.bool sinv] 1 (Nat.le_refl _) (by decide) rfl
                  have HLT2:=Hd_ hlt2
                  have hrl:r.length<=60:=by
                   have:=HRL.out r rfl
                   omega
                  have HAL2:=Hd_ hal2
                  clear hv2 hlt2 hoC hal2
                  go_wp2_with (at_builtin;(refine wpList_appendL cSt elStep cSt_len cSt_one rfl _ _ rfl wC.heap.size _ [(sid,sinv)] r (by rfl) HLT2.out 0 _ _ (by rfl) HV2.out (by simp;omega) (by omega) (by simp) ?_);intro v5 w5 hrow5 hgr5 hat5)
                  have hb5x:=HAL2.out.trans (own_below HLT2.out (by simp) hgr5)
                  have HB5:=Hd_ hb5x
                  have HO5:=Hd_ (Own.of_row (xs:=[(sid,sinv)] ++ r) hrow5 rfl rfl)
                  clear hrow5 hgr5 hat5 hb5x
                  go_wp2_with fail
                  go_ret2
                  rw [<- HE.out]
                  exact ⟨_,rfl,HO5.out.mono (by omega) (Nat.le_refl _),HBKC.out.keep HB5.out,HONL.out.trans (HONC.out.trans (Only.of_below HB5.out _ _))⟩
      · obtain rfl:i=(arcsOf g (x:Int)).length:=by omega
        have hRe:R=(none,c'):=by rw [<- HR.out,visF_end]
        have HRE:=Hd_ hRe
        have HOF:=Hd_ (HONL.out.trans HON.out)
        clear HR hRe
        go_wp2_with fail
        go_ret2
        rw [HRE.out]
        exact ⟨_,rfl,Own.nil _ _ _ _ _ _,HBK.out,HOF.out⟩
set_option maxHeartbeats 16000000 in
set_option maxRecDepth 100000 in
theorem simpleVisit_any (g:Gr) (a:Au) (y:Int) (B:Nat) (D:List Int) (hgo:grOk g=true) (ha:auOk a=true) (bT:Nat) (W0:World) (A1 A2 A3 A4 A5 A6:Option Addr) (c1 c2 c3 c4 c5 c6:Nat)
 (hgv:GrV 0 bT W0 (.agg #[.slice A1 g.vals.length c1,.slice A2 g.edges.length c2]) g) (hav:AuV 0 bT W0 (.agg #[.int .i64 a.start,.slice A3 a.accept.length c3,.slice A4 a.accept.length c4]) a) (hlv:SSE 0 bT W0 cA 4 (.slice A5 g.vals.length c5) ((List.range g.vals.length).map fun (x:Nat)=>arcsOf g (x:Int))) (hdv:SlI 0 bT W0 cI 1 (.slice A6 D.length c6) D) (hD:D.length=g.vals.length * a.accept.length) (hB:B<=20000) (hbT:bT < W0.heap.size):∀ (lf x s:Nat) (us:List Int) (c:Nat) (uv:Value) (w:World),Only bT (bT+1) W0 w->Blk w bT 102 #[.slice A1 g.vals.length c1,.slice A2 g.edges.length c2,.int .i64 a.start,.slice A3 a.accept.length c3,.slice A4 a.accept.length c4,.int .i64 y,.slice A5 g.vals.length c5,.slice A6 D.length c6,.int .i64 (B:Int),.int .i64 (c:Int)]->SlI (bT+1) w.heap.size w cI 1 uv us->x < g.vals.length->s < 2 ^ a.accept.length->c<=B->us.length+lf<=60 ->
 Calls Tryz.prog 78 #[.pointer (some ⟨bT,0,none⟩),.int .i64 (x:Int),.int .i64 (s:Int),uv,.int .i64 (lf:Int)] w fun e w'=>∃ v',e=.returned (.tuple #[v',.bool (visit g a y B D true lf x s us c).1.isSome])/\Own w.heap.size w'.heap.size w' 81 cSt 2 v' ((visit g a y B D true lf x s us c).1.getD []) /\
  Blk w' bT 102 #[.slice A1 g.vals.length c1,.slice A2 g.edges.length c2,.int .i64 a.start,.slice A3 a.accept.length c3,.slice A4 a.accept.length c4,.int .i64 y,.slice A5 g.vals.length c5,.slice A6 D.length c6,.int .i64 (B:Int),.int .i64 ((visit g a y B D true lf x s us c).2:Int)]/\Only bT (bT+1) w w':=by
 intro lf
 induction lf with
 | zero =>
   intro x s us c uv w hon hbk huv hx hs hc hul
   have hb:w.heap.size<=w.heap.size:=Nat.le_refl _
   by_cases hBc:B<=c
   · rw [visit_out hBc]
     have z8:w.cell? ⟨bT,8,none⟩=some (.int .i64 (B:Int)):=hbk.cell 8
     have z9:w.cell? ⟨bT,9,none⟩=some (.int .i64 (c:Int)):=hbk.cell 9
     have hcb:decide ((c:Int) >= (B:Int))=true:=by simp;omega
     have lT:=hbk.lt
     have HBK:=Hd_ hbk
     clear hgv hav hlv hdv hD hgo ha hon hbk huv
     go_enter Tryz.func78,Tryz.ntmps78
     go_wp2_with fail
     refine wp_region_ext_lit (by kernel_rfl) (by kernel_rfl) ?_
     repeat (go_big_quiet_step (fail))
     refine wpQuiet_nil ?_
     rintro _ ⟨u,rfl⟩
     go_wp2_with fail
     go_ret2
     exact ⟨_,rfl,Own.nil _ _ _ _ _ _,HBK.out.keep (ext_below _ _),Only.of_below (ext_below _ _) _ _⟩
   · rw [visit_zeroV (by omega),endV_some,endV_get,endV_two]
     obtain ⟨BB,hBB⟩:∃ BB,BB=(decide ((x:Int)=y) && acc a s (valAt g x)):=⟨_,rfl⟩
     rw [<- hBB]
     have HBB0:=Hd_ hBB
     clear hBB
     obtain ⟨C1,hC1⟩:∃ C1,C1=c+1:=⟨_,rfl⟩
     rw [<- hC1]
     have hC1a:c+1<=C1:=by omega
     have hC1b:C1<=c+1:=by omega
     clear hC1
     have z8:w.cell? ⟨bT,8,none⟩=some (.int .i64 (B:Int)):=hbk.cell 8
     have z9:w.cell? ⟨bT,9,none⟩=some (.int .i64 (c:Int)):=hbk.cell 9
     have hcb:decide ((c:Int) >= (B:Int))=false:=by simp;omega
     have lT:=hbk.lt
     have fz9:=hbk.frozen 9
     have HBK:=Hd_ hbk
     have HON:=Hd_ hon
     have HUV:=Hd_ huv
     have qc:IntKind.i64.wrap ((c:Int)+1)=(C1:Int):=by rw [IntWalk.i64_in _ (by omega)];omega
     clear hon hbk huv
     go_enter Tryz.func78,Tryz.ntmps78
     go_wp2_with fail
     refine wp_region_ext_lit (by kernel_rfl) (by kernel_rfl) ?_
     repeat (go_big_quiet_step (fail))
     refine wpQuiet_nil ?_
     rintro _ ⟨u,rfl⟩
     go_upto_region 4 with fail
     have hbk1:=(HBK.out.keep (ext_below w u)).set_ 9 (.int .i64 (C1:Int))
     have honl:Only bT (bT+1) w ((ext w u).setCell ⟨bT,9,none⟩ (.int .i64 (C1:Int))):=(Only.of_below (ext_below w u) bT (bT+1)).setCell (p:=⟨bT,9,none⟩) (.inl ⟨Nat.le_refl _,Nat.lt_succ_self _⟩) _
     generalize (ext w u).setCell ⟨bT,9,none⟩ (.int .i64 (C1:Int))=W1 at *
     have HBK1:=Hd_ hbk1
     have HONL:=Hd_ honl
     have HON1:=Hd_ (HON.out.trans honl)
     have hsW1:=honl.size
     have lT:=hbk1.lt
     have hWW:=HON1.out.size
     clear hbk1 honl z8 z9 hcb qc fz9 HBK
     have hva:∃ vx:Nat,g.vals[x]?=some (vx:Int)/\valAt g x=vx/\vx<=2:=by
      have hxi:g.vals[x]?=some g.vals[x]:=List.getElem?_eq_getElem hx
      have hvr:=(grOk_iff.1 hgo).vals _ (List.getElem_mem hx)
      obtain ⟨vx,hvx⟩:=Int.eq_ofNat_of_zero_le hvr.1
      refine ⟨vx,by rw [hxi,hvx],?_,by omega⟩
      have:=valAt_of hxi
      rw [this,hvx,Int.toNat_natCast]
     obtain ⟨vx,hxi,hva,hvx⟩:=hva
     obtain ⟨vs,es,hag,h1,-⟩:=hgv
     injection hag with hag
     simp at hag
     obtain ⟨rfl,rfl⟩:=hag
     obtain ⟨b1,o1,rfl,-,hb1,dv⟩:=h1.intI hxi
     have dv:=ocell HON1.out dv (by omega) (.inl hb1)
     have hb1w:b1 < W1.heap.size:=by omega
     have hxx:(x:Int) < (g.vals.length:Int):=by omega
     have z0:W1.cell? ⟨bT,0,none⟩=some (.slice (some ⟨b1,o1,none⟩) g.vals.length c1):=HBK1.out.cell 0
     have z2:W1.cell? ⟨bT,2,none⟩=some (.int .i64 a.start):=HBK1.out.cell 2
     have z3:W1.cell? ⟨bT,3,none⟩=some (.slice A3 a.accept.length c3):=HBK1.out.cell 3
     have z4:W1.cell? ⟨bT,4,none⟩=some (.slice A4 a.accept.length c4):=HBK1.out.cell 4
     have z5:W1.cell? ⟨bT,5,none⟩=some (.int .i64 y):=HBK1.out.cell 5
     have HAV:=Hd_ hav
     have HEND:=Hd_ (fun (W:World) (hW:Below W1.heap.size W1 W)=>acceptsAt_any _ a s vx W (((hav.only HON1.out (by omega) (.inl (Nat.le_refl _))).all (by omega)).keep hW) ha hs hvx)
     have hBB:=HBB0.out
     rw [hva] at hBB
     clear HBB0
     clear hxi hva h1 hav hlv hdv hD hgo ha
     by_cases hxy:(x:Int)=y
     · have hd:decide ((x:Int)=y)=true:=decide_eq_true hxy
       have hd2:((x:Int)==y)=true:=by simp [hxy]
       rw [hd,Bool.true_and] at hBB
       generalize acc a s vx=bb at *
       have HBB:=Hd_ hBB
       clear hxy hBB
       go_wp2_with fail
       refine wp_region_ext_lit (by kernel_rfl) (by kernel_rfl) ?_
       repeat (go_big_quiet_step ((go_at_call 99;exact Calls.ext_of (HEND.out _ (ext_below _ _)))))
       refine wpQuiet_nil ?_
       rintro _ ⟨u2,rfl⟩
       go_wp2_with fail
       go_ret2
       rw [HBB.out]
       exact ⟨_,rfl,Own.nil _ _ _ _ _ _,HBK1.out.keep (ext_below _ _),HONL.out.trans (Only.of_below (ext_below _ _) _ _)⟩
     · have hd:decide ((x:Int)=y)=false:=decide_eq_false hxy
       have hd2:((x:Int)==y)=false:=by simp [hxy]
       rw [hd,Bool.false_and] at hBB
       have HBB:=Hd_ hBB
       clear hxy hBB
       go_wp2_with fail
       refine wp_region_ext_lit (by kernel_rfl) (by kernel_rfl) ?_
       repeat (go_big_quiet_step (fail))
       refine wpQuiet_nil ?_
       rintro _ ⟨u2,rfl⟩
       go_wp2_with fail
       go_ret2
       rw [HBB.out]
       exact ⟨_,rfl,Own.nil _ _ _ _ _ _,HBK1.out.keep (ext_below _ _),HONL.out.trans (Only.of_below (ext_below _ _) _ _)⟩
 | succ lf ih =>
   intro x s us c uv w hon hbk huv hx hs hc hul
   by_cases hBc:B<=c
   · rw [visit_out hBc]
     have z8:w.cell? ⟨bT,8,none⟩=some (.int .i64 (B:Int)):=hbk.cell 8
     have z9:w.cell? ⟨bT,9,none⟩=some (.int .i64 (c:Int)):=hbk.cell 9
     have hcb:decide ((c:Int) >= (B:Int))=true:=by simp;omega
     have lT:=hbk.lt
     have HBK:=Hd_ hbk
     clear hgv hav hlv hdv hD hgo ha hon hbk huv
     go_enter Tryz.func78,Tryz.ntmps78
     go_wp2_with fail
     refine wp_region_ext_lit (by kernel_rfl) (by kernel_rfl) ?_
     repeat (go_big_quiet_step (fail))
     refine wpQuiet_nil ?_
     rintro _ ⟨u,rfl⟩
     go_wp2_with fail
     go_ret2
     exact ⟨_,rfl,Own.nil _ _ _ _ _ _,HBK.out.keep (ext_below _ _),Only.of_below (ext_below _ _) _ _⟩
   · rw [visit_succ (by omega)]
     obtain ⟨L1,hL1⟩:∃ L1,L1=lf+1:=⟨_,rfl⟩
     rw [<- hL1]
     obtain ⟨C1,hC1⟩:∃ C1,C1=c+1:=⟨_,rfl⟩
     rw [<- hC1]
     obtain ⟨R,hR⟩:∃ R,R=visF g a y B D true lf x s us 0 C1:=⟨_,rfl⟩
     rw [<- hR]
     have hL1a:lf+1<=L1:=by omega
     have hL1b:L1<=lf+1:=by omega
     have hC1a:c+1<=C1:=by omega
     have hC1b:C1<=c+1:=by omega
     clear hL1 hC1
     have z8:w.cell? ⟨bT,8,none⟩=some (.int .i64 (B:Int)):=hbk.cell 8
     have z9:w.cell? ⟨bT,9,none⟩=some (.int .i64 (c:Int)):=hbk.cell 9
     have hcb:decide ((c:Int) >= (B:Int))=false:=by simp;omega
     have lT:=hbk.lt
     have fz9:=hbk.frozen 9
     have HBK:=Hd_ hbk
     have HON:=Hd_ hon
     have HUV:=Hd_ huv
     have qc:IntKind.i64.wrap ((c:Int)+1)=(C1:Int):=by rw [IntWalk.i64_in _ (by omega)];omega
     clear hon hbk huv
     go_enter Tryz.func78,Tryz.ntmps78
     go_wp2_with fail
     refine wp_region_ext_lit (by kernel_rfl) (by kernel_rfl) ?_
     repeat (go_big_quiet_step (fail))
     refine wpQuiet_nil ?_
     rintro _ ⟨u,rfl⟩
     go_upto_region 4 with fail
     have hbk1:=(HBK.out.keep (ext_below w u)).set_ 9 (.int .i64 (C1:Int))
     have honl:Only bT (bT+1) w ((ext w u).setCell ⟨bT,9,none⟩ (.int .i64 (C1:Int))):=(Only.of_below (ext_below w u) bT (bT+1)).setCell (p:=⟨bT,9,none⟩) (.inl ⟨Nat.le_refl _,Nat.lt_succ_self _⟩) _
     generalize (ext w u).setCell ⟨bT,9,none⟩ (.int .i64 (C1:Int))=W1 at *
     have HBK1:=Hd_ hbk1
     have HONL:=Hd_ honl
     have HON1:=Hd_ (HON.out.trans honl)
     have hsW1:=honl.size
     have lT:=hbk1.lt
     have hWW:=HON1.out.size
     clear hbk1 honl z8 z9 hcb qc fz9 HBK
     have hl0:((L1:Int)==0)=false:=by simp;omega
     have hl1:decide ((L1:Int)=0)=false:=by simp;omega
     have ql:IntKind.i64.wrap ((L1:Int) - 1)=(lf:Int):=by rw [IntWalk.i64_in _ (by omega)];omega
     have hgv0:=hgv
     have hva:∃ vx:Nat,g.vals[x]?=some (vx:Int)/\valAt g x=vx/\vx<=2:=by
      have hxi:g.vals[x]?=some g.vals[x]:=List.getElem?_eq_getElem hx
      have hvr:=(grOk_iff.1 hgo).vals _ (List.getElem_mem hx)
      obtain ⟨vx,hvx⟩:=Int.eq_ofNat_of_zero_le hvr.1
      refine ⟨vx,by rw [hxi,hvx],?_,by omega⟩
      have:=valAt_of hxi
      rw [this,hvx,Int.toNat_natCast]
     obtain ⟨vx,hxi,hva,hvx⟩:=hva
     obtain ⟨vs,es,hag,h1,-⟩:=hgv
     injection hag with hag
     simp at hag
     obtain ⟨rfl,rfl⟩:=hag
     obtain ⟨b1,o1,rfl,-,hb1,dv⟩:=h1.intI hxi
     have dv:=ocell HON1.out dv (by omega) (.inl hb1)
     have hal:=arcs_len (grOk_iff.1 hgo) (x:Int)
     obtain ⟨b5,o5,A7,c7,rfl,-,hb5,d5,hl7,hm7,hI7,-⟩:=hlv.row (by omega) (i:=x) (xs:=arcsOf g (x:Int)) (by simp [hx])
     have d5:=ocell HON1.out d5 (by omega) (.inl hb5)
     have hb1w:b1 < W1.heap.size:=by omega
     have hb5w:b5 < W1.heap.size:=by omega
     have hxx:(x:Int) < (g.vals.length:Int):=by omega
     have z6:W1.cell? ⟨bT,6,none⟩=some (.slice (some ⟨b5,o5,none⟩) g.vals.length c5):=HBK1.out.cell 6
     have HI7:=Hd_ hI7
     have HREC:=Hd_ ih
     have HPR:=Hd_ (fun x s lf c w=>promising_any g a y B D hgo ha bT W0 _ A2 A3 A4 _ A6 c1 c2 c3 c4 c5 c6 hgv0 hav hlv hdv hD hB hbT x s lf c w)
     have HAF:=Hd_ (fun (l:Nat) (hl:l < 9) (W:World) (hW:Only bT (bT+1) W0 W)=>after_any _ a s vx l W ((hav.only hW (by omega) (.inl (Nat.le_refl _))).all (Nat.le_trans (Nat.le_of_lt hbT) hW.size)) ha hs hvx hl)
     have HGO:=Hd_ hgo
     have HA:=Hd_ ha
     have HR0:=Hd_ hR.symm
     have hn5:=(grOk_iff.1 hgo).n5
     clear hR hgv0 h1 hav hlv hdv hD hgo ha ih hI7 hs hxi
     go_wp2_with fail
     go_loopw [65] (fun ii wr=>∃ i c':Nat,i<=(arcsOf g (x:Int)).length/\c'<=B/\ii=.int .i64 (i:Int)/\visF g a y B D true lf x s us i c'=R/\Only bT (bT+1) W1 wr/\Blk wr bT 102 #[.slice (some ⟨b1,o1,none⟩) g.vals.length c1,.slice A2 g.edges.length c2,.int .i64 a.start,.slice A3 a.accept.length c3,.slice A4 a.accept.length c4,.int .i64 y,.slice (some ⟨b5,o5,none⟩) g.vals.length c5,.slice A6 D.length c6,.int .i64 (B:Int),.int .i64 (c':Int)]) (fun ii _=>(arcsOf g (x:Int)).length - (intOf ii).toNat)
     case atStart=>exact ⟨0,C1,Nat.zero_le _,by omega,rfl,HR0.out,Only.refl _ _ _,HBK1.out⟩
     case round =>
      clear HR0 HBK1 z6 d5 hl0 hl1
      obtain ⟨i,c',hi,hcB,rfl,hR,hon,hbk⟩:=hrel
      have HR:=Hd_ hR
      have HON:=Hd_ hon
      have HBK:=Hd_ hbk
      have hsz:=hon.size
      have lTr:=hbk.lt
      clear hR hon hbk
      by_cases hlt:i < (arcsOf g (x:Int)).length
      · have hyi:(arcsOf g (x:Int))[i]?=some (arcsOf g (x:Int))[i]:=List.getElem?_eq_getElem hlt
        have hyr:=arc_range (grOk_iff.1 HGO.out) (List.getElem_mem hlt)
        generalize (arcsOf g (x:Int))[i]=p at hyi hyr
        obtain ⟨⟨sid,sinv⟩,l,t⟩:=p
        simp only at hyr
        obtain ⟨l,rfl⟩:=Int.eq_ofNat_of_zero_le hyr.1.1
        obtain ⟨t,rfl⟩:=Int.eq_ofNat_of_zero_le hyr.2.1
        obtain ⟨b7,o7,rfl,-,hb7,k0,k1,k2,k3⟩:=HI7.out.arc hyi
        simp only at k0 k1 k2 k3
        have honW:=HON1.out.trans HON.out
        have k0:=ocell honW k0 (by omega) (.inl hb7)
        have k1:=ocell honW k1 (by omega) (.inl hb7)
        have k2:=ocell honW k2 (by omega) (.inl hb7)
        have k3:=ocell honW k3 (by omega) (.inl hb7)
        have hb7w:b7 < wr.heap.size:=by omega
        have hM:=aft_lt HA.out s vx l
        have hm4:=lt12 HA.out hM
        have hmv:aft a s (valAt g x) ((l:Int)).toNat=aft a s vx l:=by rw [hva,Int.toNat_natCast]
        have HVS:=Hd_ (fun h=>visF_skip2 (y:=y) (B:=B) (D:=D) (sm:=true) (lf:=lf) (us:=us) (c:=c') (t:=t) (k:=(t:Int)) hyi rfl hmv rfl h)
        have HVY:=Hd_ (fun r c2 h h2=>visF_yes2 (y:=y) (B:=B) (D:=D) (sm:=true) (lf:=lf) (us:=us) (c:=c') (t:=t) (k:=(t:Int)) (r:=r) (c':=c2) hyi rfl hmv rfl h h2)
        have HVN:=Hd_ (fun c2 h h2=>visF_no2 (y:=y) (B:=B) (D:=D) (sm:=true) (lf:=lf) (us:=us) (c:=c') (t:=t) (k:=(t:Int)) (c':=c2) hyi rfl hmv rfl h h2)
        have HAL:=Hd_ (HAF.out l (by omega))
        have hii:(i:Int) < ((arcsOf g (x:Int)).length:Int):=by omega
        have HM:=Hd_ hM
        clear hyi hmv hM honW
        generalize aft a s vx l=M at *
        go_wp2_with fail
        have e0:(wr.alloc (.cells #[.int .i64 sid,.bool sinv,.int .i64 (l:Int),.int .i64 (t:Int)] 88)).cell? ⟨wr.heap.size,0,none⟩=some (.int .i64 sid):=by simp
        have e1:(wr.alloc (.cells #[.int .i64 sid,.bool sinv,.int .i64 (l:Int),.int .i64 (t:Int)] 88)).cell? ⟨wr.heap.size,1,none⟩=some (.bool sinv):=by simp
        have e2:(wr.alloc (.cells #[.int .i64 sid,.bool sinv,.int .i64 (l:Int),.int .i64 (t:Int)] 88)).cell? ⟨wr.heap.size,2,none⟩=some (.int .i64 (l:Int)):=by simp
        have e3:(wr.alloc (.cells #[.int .i64 sid,.bool sinv,.int .i64 (l:Int),.int .i64 (t:Int)] 88)).cell? ⟨wr.heap.size,3,none⟩=some (.int .i64 (t:Int)):=by simp
        have hbE:=(Below.refl wr.heap.size wr).alloc (Nat.le_refl _) (.cells #[.int .i64 sid,.bool sinv,.int .i64 (l:Int),.int .i64 (t:Int)] 88)
        have hsE:wr.heap.size < (wr.alloc (.cells #[.int .i64 sid,.bool sinv,.int .i64 (l:Int),.int .i64 (t:Int)] 88)).heap.size:=by simp
        generalize wr.alloc (.cells #[.int .i64 sid,.bool sinv,.int .i64 (l:Int),.int .i64 (t:Int)] 88)=wE at *
        have hbkE:=HBK.out.keep hbE
        have honE:=HON.out.trans (Only.of_below hbE bT (bT+1))
        have z0:wE.cell? ⟨bT,0,none⟩=some (.slice (some ⟨b1,o1,none⟩) g.vals.length c1):=hbkE.cell 0
        have z2:wE.cell? ⟨bT,2,none⟩=some (.int .i64 a.start):=hbkE.cell 2
        have z3:wE.cell? ⟨bT,3,none⟩=some (.slice A3 a.accept.length c3):=hbkE.cell 3
        have z4:wE.cell? ⟨bT,4,none⟩=some (.slice A4 a.accept.length c4):=hbkE.cell 4
        have lTE:=hbkE.lt
        have dv:=ocell honE dv (by omega) (.inl hb1)
        have hb1E:b1 < wE.heap.size:=by omega
        have HBKE:=Hd_ hbkE
        have HONE:=Hd_ honE
        have hebT:bT < wr.heap.size:=by omega
        generalize wr.heap.size=eb at *
        clear k0 k1 k2 k3 hbE hbkE honE
        refine wp_region_ext_lit (by kernel_rfl) (by kernel_rfl) ?_
        repeat (go_big_quiet_step ((go_at_call 104;exact Calls.ext_of (HAL.out _ (HON1.out.trans (HONE.out.trans (Only.of_below (ext_below _ _) bT (bT+1))))))))
        refine wpQuiet_nil ?_
        rintro _ ⟨u2,rfl⟩
        have hbE2:=ext_below wE u2
        have honX:=HONE.out.trans (Only.of_below hbE2 bT (bT+1))
        have hbkX:=HBKE.out.keep hbE2
        have e0:=kcell hbE2 e0
        have e1:=kcell hbE2 e1
        have e2:=kcell hbE2 e2
        have e3:=kcell hbE2 e3
        have hsX:=hbE2.size
        have HONX:=Hd_ honX
        have HBKX:=Hd_ hbkX
        have lTX:=hbkX.lt
        generalize ext wE u2=wX at *
        clear hbE2 honX hbkX z0 z2 z3 z4 dv HONE HBKE HAL
        by_cases hm0:M=0
        · have HE:=Hd_ ((HVS.out (by simp [hm0])).symm.trans HR.out)
          clear HVS HVY HVN HM
          subst hm0
          go_wp2_with fail
          go_roundw
          case rel=>exact ⟨i+1,c',by omega,hcB,by go_num,HE.out,HONX.out,HBKX.out⟩
          case measure=>simp [intOf];omega
        · have hmi:((M:Int)==0)=false:=by simp;omega
          have hmi2:decide ((M:Int)=0)=false:=by simp;omega
          have huX:=((HUV.out.only (HONL.out.trans HONX.out) (Nat.le_refl _) (.inr (Nat.le_refl _))).mono (lo':=bT+1) (Nat.le_refl _) (show w.heap.size<=wX.heap.size by omega))
          have HUX:=Hd_ huX
          have hct:=contains_any _ us (t:Int) wX (huX.mono (Nat.zero_le _) (Nat.le_refl _)) (by omega)
          have HCT:=Hd_ hct
          clear hct huX
          cases hcn:us.contains (t:Int) with
          | true =>
            rw [hcn] at HCT
            have HE:=Hd_ ((HVS.out (by rw [hcn];simp)).symm.trans HR.out)
            clear HVS HVY HVN HM hcn
            go_wp2_with fail
            refine HCT.out.mono ?_
            rintro en w9 ⟨rfl,hw9⟩
            rw [hw9]
            clear hw9
            go_wp2_with fail
            go_roundw
            case rel=>exact ⟨i+1,c',by omega,hcB,by go_num,HE.out,HONX.out,HBKX.out⟩
            case measure=>simp [intOf];omega
          | false =>
            rw [hcn] at HCT
            have HPX:=Hd_ (HPR.out t M lf c' wX (HON1.out.trans HONX.out) HBKX.out (by omega) HM.out (by omega))
            cases hhp:hope D a.accept.length t M lf with
            | false =>
              rw [hhp] at HPX
              have HE:=Hd_ ((HVS.out (by rw [hhp];simp)).symm.trans HR.out)
              clear HVS HVY HVN HM hcn hhp
              go_wp2_with fail
              refine HCT.out.mono ?_
              rintro en w9 ⟨rfl,hw9⟩
              rw [hw9]
              clear hw9
              go_wp2_with fail
              refine HPX.out.mono ?_
              rintro en w9 ⟨rfl,hb9⟩
              have HO9:=Hd_ (HONX.out.trans (Only.of_below hb9 bT (bT+1)))
              have HBK9:=Hd_ (HBKX.out.keep hb9)
              clear hb9
              go_wp2_with fail
              go_roundw
              case rel=>exact ⟨i+1,c',by omega,hcB,by go_num,HE.out,HO9.out,HBK9.out⟩
              case measure=>simp [intOf];omega
            | true =>
              rw [hhp] at HPX
              have hvl:=visit_le (g:=g) (a:=a) (y:=y) (B:=B) (D:=D) (sm:=true) lf t M (us ++ [(t:Int)]) c' hcB
              have HRC:=Hd_ (fun (uvN:Value) (W:World) h1 h2 h3=>HREC.out t M (us ++ [(t:Int)]) c' uvN W h1 h2 h3 (by omega) HM.out hcB (by simp;omega))
              have hvn:=visit_len (g:=g) (a:=a) (y:=y) (B:=B) (D:=D) (sm:=true) lf t M (us ++ [(t:Int)]) c'
              generalize hV:visit g a y B D true lf t M (us ++ [(t:Int)]) c'=V at *
              obtain ⟨o,c2⟩:=V
              simp only at hvl hvn
              have HRL:=Hd_ (fun r (h:o=some r)=>hvn r h)
              clear hvn
              have HVY2:=Hd_ (fun r (h:o=some r)=>(HVY.out r c2 (by rw [hcn,hhp];simp [hm0]) (by rw [h])).symm.trans HR.out)
              have HVN2:=Hd_ (fun (h:o=none)=>(HVN.out c2 (by rw [hcn,hhp];simp [hm0]) (by rw [h])).symm.trans HR.out)
              clear HVS HVY HVN HM hcn hhp hV HREC HPR HAF
              go_wp2_with fail
              refine HCT.out.mono ?_
              rintro en w9 ⟨rfl,hw9⟩
              rw [hw9]
              clear hw9
              go_wp2_with fail
              refine HPX.out.mono ?_
              rintro en w9 ⟨rfl,hb9⟩
              have hon9:=HONX.out.trans (Only.of_below hb9 bT (bT+1))
              have hbk9:=HBKX.out.keep hb9
              have hu9:=(HUX.out.below hb9 (Nat.le_refl _)).mono (Nat.le_refl _) hb9.size
              have HU9:=Hd_ (hu9.mono (Nat.zero_le _) (Nat.le_refl _))
              have hs9:=hb9.size
              have HO9:=Hd_ hon9
              have HBK9:=Hd_ hbk9
              have lT9:=hbk9.lt
              have e0:=kcell hb9 e0
              have e1:=kcell hb9 e1
              have e3:=kcell hb9 e3
              have heb9:eb < w9.heap.size:=by omega
              clear hon9 hbk9 hu9 hb9 HUX HBKX HONX HCT HPX e2
              go_wp2_with fail
              have hbD:=(Below.refl w9.heap.size w9).drew
              refine F_start 17 (fun w'=>w'.cell? ⟨eb,0,none⟩=some (.int .i64 sid)/\w'.cell? ⟨eb,1,none⟩=some (.bool sinv)/\w'.cell? ⟨eb,3,none⟩=some (.int .i64 (t:Int))) (by kernel_rfl) (by exact ⟨e0,e1,e3⟩) (fun hS inv=>?_)
              refine F_tk 0 inv ?_
              try simp only [tA,tB,tC,Act.put,tE,tF,tG]
              clear inv;intro inv
              refine F_tk 1 inv ?_
              try simp only [tA,tB,tC,Act.put,tE,tF,tG]
              clear inv;intro inv
              refine F_tk 2 inv ?_
              try simp only [tA,tB,tC,Act.put,tE,tF,tG]
              clear inv;intro inv
              refine F_tk 3 inv ?_
              try simp only [tA,tB,tC,Act.put,tE,tF,tG]
              clear inv;intro inv
              refine F_tk 4 inv ?_
              try simp only [tA,tB,tC,Act.put,tE,tF,tG]
              clear inv;intro inv
              refine F_tk 6 inv ?_
              try simp only [tA,tB,tC,Act.put,tE,tF,tG]
              clear inv;intro inv
              refine F_tk 7 inv ?_
              try simp only [tA,tB,tC,Act.put,tE,tF,tG]
              clear inv;intro inv
              refine F_tk 10 inv ?_
              try simp only [tA,tB,tC,Act.put,tE,tF,tG]
              clear inv;intro inv
              refine F_tk 11 inv ?_
              try simp only [tA,tB,tC,Act.put,tE,tF,tG]
              clear inv;intro inv
              have hS0:=hS
              refine F_two (i:=5) (j:=8) (by kernel_rfl) rfl rfl rfl rfl (by omega) inv (fun K hK=>?_) (fun K hK=>?_)
              all_goals (try simp only [tA,tB,tC])
              · go_simp
                refine (copyInts_any _ us _ (SlE.keep (w':=w9.drew) HU9.out hbD) (by omega)).mono ?_
                rintro en wA ⟨vA,rfl,hoA,hbA⟩
                have HOA:=Hd_ hoA.1
                have hsA:=hbA.size
                clear hoA
                refine hK.out _ _ (kB3 hbA hS) (fun _ _=>?_)
                try simp only [tA,tB,tC,Act.put,tE,tF,tG]
                clear hK K inv hS;rename_i hS inv
                refine F_o1 8 inv ?_;intro K hK
                try simp only [tA,tB,tC]
                go_simp
                refine hK.out _ _ (kA3 _ hS) (fun _ _=>?_)
                try simp only [tA,tB,tC,Act.put,tE,tF,tG]
                clear hK K inv hS;rename_i hS inv
                refine F_o1 9 inv ?_;intro K hK
                try simp only [tA,tB,tC]
                refine op_append1 cI elInt rfl _ _ (by rfl) w9.drew.heap.size _ us (t:Int) 1 _ (by rfl) (HOA.out.alloc _) (by first | rfl | simp) (heap_alloc_new _ _) rfl (cI_one _) (by omega) (by omega) (Nat.le_trans hsA (by simp)) ?_
                intro g2 cp2 w3 hown3 hgr3 hat3 hlt3
                have hbY:=(hbA.alloc hsA (.cells #[.int .i64 (t:Int)] 3)).trans (own_below (HOA.out.alloc (.cells #[.int .i64 (t:Int)] 3)) (Nat.le_trans hsA (by simp)) hgr3)
                have HOW:=Hd_ hown3
                clear hown3 hgr3 hat3
                refine hK.out _ _ (kB3 hbY hS0) (fun _ _=>?_)
                try simp only [tA,tB,tC,Act.put,tE,tF,tG]
                clear hK K inv hS;rename_i hS inv
                have hb3:=below_trans hbD hbY
                have hs3:w9.heap.size<=w3.heap.size:=hb3.size
                have hon3:=HO9.out.trans (Only.of_below hb3 bT (bT+1))
                have hbk3:=HBK9.out.keep hb3
                have hsl:=(((Own.of_row (xs:=us ++ [(t:Int)]) HOW.out (by simp) rfl).sl cI_len).mono (lo':=bT+1) (show bT+1<=w9.heap.size by omega) (Nat.le_refl _))
                refine F_o1 12 inv ?_;intro K hK
                try simp only [tA,tB,tC]
                go_simp
                refine (HRC.out _ w3 (HON1.out.trans hon3) hbk3 (by simpa using hsl)).mono ?_
                rintro en wC ⟨vC,rfl,hoC,hbkC,honC⟩
                have heb3:eb < w3.heap.size:=by omega
                refine hK.out _ _ (⟨ocell honC hS.1 heb3 (.inr (by omega)),ocell honC hS.2.1 heb3 (.inr (by omega)),ocell honC hS.2.2 heb3 (.inr (by omega))⟩) (fun _ _=>?_)
                try simp only [tA,tB,tC,Act.put,tE,tF,tG]
                clear hK K inv hS;rename_i hS inv
                have HS:=Hd_ hS
                have HOC:=Hd_ hoC
                have HBKC:=Hd_ hbkC
                have HONC:=Hd_ (hon3.trans honC)
                have hsC:=honC.size
                have lebC:eb < wC.heap.size:=by omega
                refine F_tk 13 inv ?_
                try simp only [tA,tB,tC,Act.put,tE,tF,tG]
                clear inv;intro inv
                refine F_tk 14 inv ?_
                try simp only [tA,tB,tC,Act.put,tE,tF,tG]
                clear inv;intro inv
                refine F_tk 15 inv ?_
                try simp only [tA,tB,tC,Act.put,tE,tF,tG]
                clear inv;intro inv
                refine F_tk 16 inv ?_
                try simp only [tA,tB,tC,Act.put,tE,tF,tG]
                clear inv;intro inv
                refine F_l1 17 ?_;intro K hK
                go_simp
                refine hK _ _ ?_
                clear hK K inv hS
                cases o with
                | none =>
                  have HE:=Hd_ (HVN2.out rfl)
                  go_wp2_with fail
                  go_roundw
                  case rel=>exact ⟨i+1,c2,by omega,hvl.1,by go_num,HE.out,HONC.out,HBKC.out⟩
                  case measure=>simp [intOf];omega
                | some r =>
                  have HE:=Hd_ (HVY2.out r rfl)
                  have e0:=HS.out.1
                  have e1:=HS.out.2.1
                  have hal2:Below wC.heap.size wC (wC.alloc (.cells #[.int .i64 sid,.bool sinv] 81)):=(Below.refl _ _).alloc (Nat.le_refl _) _
                  have hv2:=SlE.keep ((hoC.sl cSt_len).all (Nat.le_refl _)) hal2
                  have HV2:=Hd_ hv2
                  have hlt2:=World.ownsRow_lit (base:=wC.heap.size) (e:=81) (size:=2) wC #[.int .i64 sid,.bool sinv] 1 (Nat.le_refl _) (by decide) rfl
                  have HLT2:=Hd_ hlt2
                  have hrl:r.length<=60:=by
                   have:=HRL.out r rfl
                   omega
                  have HAL2:=Hd_ hal2
                  clear hv2 hlt2 hoC hal2
                  go_wp2_with (at_builtin;(refine wpList_appendL cSt elStep cSt_len cSt_one rfl _ _ rfl wC.heap.size _ [(sid,sinv)] r (by rfl) HLT2.out 0 _ _ (by rfl) HV2.out (by simp;omega) (by omega) (by simp) ?_);intro v5 w5 hrow5 hgr5 hat5)
                  have hb5x:=HAL2.out.trans (own_below HLT2.out (by simp) hgr5)
                  have HB5:=Hd_ hb5x
                  have HO5:=Hd_ (Own.of_row (xs:=[(sid,sinv)] ++ r) hrow5 rfl rfl)
                  clear hrow5 hgr5 hat5 hb5x
                  go_wp2_with fail
                  go_ret2
                  rw [<- HE.out]
                  exact ⟨_,rfl,HO5.out.mono (by omega) (Nat.le_refl _),HBKC.out.keep HB5.out,HONL.out.trans (HONC.out.trans (Only.of_below HB5.out _ _))⟩
              · go_simp
                have hbL:Below w9.drew.heap.size w9.drew (w9.drew.alloc (.cells #[.int .i64 (t:Int)] 3)):=(Below.refl _ _).alloc (Nat.le_refl _) _
                have hsL:w9.drew.heap.size < (w9.drew.alloc (.cells #[.int .i64 (t:Int)] 3)).heap.size:=by simp
                refine hK.out _ _ (kB3 hbL hS) (fun _ _=>?_)
                try simp only [tA,tB,tC,Act.put,tE,tF,tG]
                clear hK K inv hS;rename_i hS inv
                refine F_o1 5 inv ?_;intro K hK
                try simp only [tA,tB,tC]
                go_simp
                refine (copyInts_any _ us _ (SlE.keep (w':=w9.drew.alloc (.cells #[.int .i64 (t:Int)] 3)) HU9.out (below_trans hbD hbL)) (by omega)).mono ?_
                rintro en wA ⟨vA,rfl,hoA,hbA⟩
                have HOA:=Hd_ hoA.1
                have hsA:=hbA.size
                have hlit:wA.heap[w9.drew.heap.size]?=some (.cells #[.int .i64 (t:Int)] 3 (0,0)):=(hbA.block _ hsL).trans (heap_alloc_new _ _)
                have HLIT:=Hd_ hlit
                clear hoA hlit
                refine hK.out _ _ (kB3 hbA hS) (fun _ _=>?_)
                try simp only [tA,tB,tC,Act.put,tE,tF,tG]
                clear hK K inv hS;rename_i hS inv
                refine F_o1 9 inv ?_;intro K hK
                try simp only [tA,tB,tC]
                refine op_append1 cI elInt rfl _ _ (by rfl) _ _ us (t:Int) 1 _ (by rfl) HOA.out (by first | rfl | simp) HLIT.out rfl (cI_one _) (by omega) (by omega) hsA ?_
                intro g2 cp2 w3 hown3 hgr3 hat3 hlt3
                have hbY:=below_trans hbL (hbA.trans (own_below HOA.out hsA hgr3))
                have HOW:=Hd_ (ownsRow_mono hown3 (Nat.le_of_lt hsL))
                clear hown3 hgr3 hat3
                refine hK.out _ _ (kB3 hbY hS0) (fun _ _=>?_)
                try simp only [tA,tB,tC,Act.put,tE,tF,tG]
                clear hK K inv hS;rename_i hS inv
                have hb3:=below_trans hbD hbY
                have hs3:w9.heap.size<=w3.heap.size:=hb3.size
                have hon3:=HO9.out.trans (Only.of_below hb3 bT (bT+1))
                have hbk3:=HBK9.out.keep hb3
                have hsl:=(((Own.of_row (xs:=us ++ [(t:Int)]) HOW.out (by simp) rfl).sl cI_len).mono (lo':=bT+1) (show bT+1<=w9.heap.size by omega) (Nat.le_refl _))
                refine F_o1 12 inv ?_;intro K hK
                try simp only [tA,tB,tC]
                go_simp
                refine (HRC.out _ w3 (HON1.out.trans hon3) hbk3 (by simpa using hsl)).mono ?_
                rintro en wC ⟨vC,rfl,hoC,hbkC,honC⟩
                have heb3:eb < w3.heap.size:=by omega
                refine hK.out _ _ (⟨ocell honC hS.1 heb3 (.inr (by omega)),ocell honC hS.2.1 heb3 (.inr (by omega)),ocell honC hS.2.2 heb3 (.inr (by omega))⟩) (fun _ _=>?_)
                try simp only [tA,tB,tC,Act.put,tE,tF,tG]
                clear hK K inv hS;rename_i hS inv
                have HS:=Hd_ hS
                have HOC:=Hd_ hoC
                have HBKC:=Hd_ hbkC
                have HONC:=Hd_ (hon3.trans honC)
                have hsC:=honC.size
                have lebC:eb < wC.heap.size:=by omega
                refine F_tk 13 inv ?_
                try simp only [tA,tB,tC,Act.put,tE,tF,tG]
                clear inv;intro inv
                refine F_tk 14 inv ?_
                try simp only [tA,tB,tC,Act.put,tE,tF,tG]
                clear inv;intro inv
                refine F_tk 15 inv ?_
                try simp only [tA,tB,tC,Act.put,tE,tF,tG]
                clear inv;intro inv
                refine F_tk 16 inv ?_
                try simp only [tA,tB,tC,Act.put,tE,tF,tG]
                clear inv;intro inv
                refine F_l1 17 ?_;intro K hK
                go_simp
                refine hK _ _ ?_
                clear hK K inv hS
                cases o with
                | none =>
                  have HE:=Hd_ (HVN2.out rfl)
                  go_wp2_with fail
                  go_roundw
                  case rel=>exact ⟨i+1,c2,by omega,hvl.1,by go_num,HE.out,HONC.out,HBKC.out⟩
                  case measure=>simp [intOf];omega
                | some r =>
                  have HE:=Hd_ (HVY2.out r rfl)
                  have e0:=HS.out.1
                  have e1:=HS.out.2.1
                  have hal2:Below wC.heap.size wC (wC.alloc (.cells #[.int .i64 sid,.bool sinv] 81)):=(Below.refl _ _).alloc (Nat.le_refl _) _
                  have hv2:=SlE.keep ((hoC.sl cSt_len).all (Nat.le_refl _)) hal2
                  have HV2:=Hd_ hv2
                  have hlt2:=World.ownsRow_lit (base:=wC.heap.size) (e:=81) (size:=2) wC #[.int .i64 sid,.bool sinv] 1 (Nat.le_refl _) (by decide) rfl
                  have HLT2:=Hd_ hlt2
                  have hrl:r.length<=60:=by
                   have:=HRL.out r rfl
                   omega
                  have HAL2:=Hd_ hal2
                  clear hv2 hlt2 hoC hal2
                  go_wp2_with (at_builtin;(refine wpList_appendL cSt elStep cSt_len cSt_one rfl _ _ rfl wC.heap.size _ [(sid,sinv)] r (by rfl) HLT2.out 0 _ _ (by rfl) HV2.out (by simp;omega) (by omega) (by simp) ?_);intro v5 w5 hrow5 hgr5 hat5)
                  have hb5x:=HAL2.out.trans (own_below HLT2.out (by simp) hgr5)
                  have HB5:=Hd_ hb5x
                  have HO5:=Hd_ (Own.of_row (xs:=[(sid,sinv)] ++ r) hrow5 rfl rfl)
                  clear hrow5 hgr5 hat5 hb5x
                  go_wp2_with fail
                  go_ret2
                  rw [<- HE.out]
                  exact ⟨_,rfl,HO5.out.mono (by omega) (Nat.le_refl _),HBKC.out.keep HB5.out,HONL.out.trans (HONC.out.trans (Only.of_below HB5.out _ _))⟩
      · obtain rfl:i=(arcsOf g (x:Int)).length:=by omega
        have hRe:R=(none,c'):=by rw [<- HR.out,visF_end]
        have HRE:=Hd_ hRe
        have HOF:=Hd_ (HONL.out.trans HON.out)
        clear HR hRe
        go_wp2_with fail
        go_ret2
        rw [HRE.out]
        exact ⟨_,rfl,Own.nil _ _ _ _ _ _,HBK.out,HOF.out⟩
def WkO (lo hi:Nat) (w:World) (v:Value) (k:Wk):Prop :=
 ∃ ss,v=.agg #[.int .i64 k.1,ss]/\Own lo hi w 81 cSt 2 ss k.2
theorem WkO.view {lo hi:Nat} {w:World} {v:Value} {k:Wk} (h:WkO lo hi w v k):WkV lo hi w v k:=by
 obtain ⟨ss,rfl,h1⟩:=h
 exact ⟨ss,rfl,h1.sl cSt_len⟩
theorem WkO.below {lo hi:Nat} {w w':World} {v:Value} {k:Wk} (h:WkO lo hi w v k) {B:Nat} (hb:Below B w w') (hB:hi<=B):WkO lo hi w' v k:=by
 obtain ⟨ss,rfl,h1⟩:=h
 exact ⟨ss,rfl,h1.below hb hB⟩
theorem WkO.only {lo hi:Nat} {w w':World} {v:Value} {k:Wk} (h:WkO lo hi w v k) {l r:Nat} (hb:Only l r w w') (ho:hi<=l ∨ r<=lo):WkO lo hi w' v k:=by
 obtain ⟨ss,rfl,h1⟩:=h
 exact ⟨ss,rfl,h1.only hb ho⟩
theorem WkO.mono {lo hi:Nat} {w:World} {v:Value} {k:Wk} (h:WkO lo hi w v k) {lo' hi':Nat} (h1:lo'<=lo) (h2:hi<=hi'):WkO lo' hi' w v k:=by
 obtain ⟨ss,rfl,g1⟩:=h
 exact ⟨ss,rfl,g1.mono h1 h2⟩
end Go.Proofs.YtjpdembmchnbgaaGreat
