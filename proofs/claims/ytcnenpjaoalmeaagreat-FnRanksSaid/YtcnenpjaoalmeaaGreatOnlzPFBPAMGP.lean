/- Parts of the proof, joined into one text: GraphI, BothI, ArcM, ProdI, NextI, TurnI, Shelf. -/
import Derived.Test.YtcnenpjaoalmeaaGreatOnlzOFLKAIBE
import Derived.Test.YtcnenpjaoalmeaaGreatOnlzFMIHCKLL
import Derived.Test.YtcnenpjaoalmeaaGreatOnlzAPJMGHGH
import Derived.Shelf.Bits.Mul64
import Derived.Test.YtcnenpjaoalmeaaGreatProg
set_option linter.unusedVariables false
set_option linter.unusedSimpArgs false
namespace Go.Proofs.YtcnenpjaoalmeaaGreat
open Go.ChangeShapes Go.WideShapes Go.ChangeAt Go.RowKit
attribute [local go_sem] ext_cell ext_frozen ext_lt ext_lt1 ext_lt2 ext_lt3 ltn2 ltn3 ltn13 lts1 lts2 lts3
set_option maxHeartbeats 1000000 in
theorem edgeOk_any (e:Ed) (n:Nat) (w:World) (hn:n<=9223372036854775807) :
 Calls Tryz.prog 106 #[.agg #[.int .i64 e.1,.int .i64 e.2.1,.int .i64 e.2.2.1,.int .i64 e.2.2.2],.int .i64 (n:Int)] w fun en w'=>en=.returned (.bool (edOk n e))/\Below w.heap.size w w':=by
 obtain ⟨a,b,c,d⟩:=e
 have HW:=Hd_ within_any
 unfold edOk
 simp only
 have hb0:Below w.heap.size w (w.alloc (.cells #[.int .i64 a,.int .i64 b,.int .i64 c,.int .i64 d] 114)):=(Below.refl _ _).alloc (Nat.le_refl _) _
 cases g1:wi a 1 99 with
 | false =>
   have HZ:=Hd_ g1
   go_enter Tryz.func106,Tryz.ntmps106
   go_wp2_with (go_at_call 37;refine (HW.out _ _ _ _).mono ?_;rintro e w' ⟨rfl,rfl⟩)
   go_ret
   exact ⟨rfl,hb0⟩
 | true =>
   cases g2:wi b 0 ((n:Int) - 1) with
   | false =>
     go_enter Tryz.func106,Tryz.ntmps106
     go_wp2_with (go_at_call 37;refine (HW.out _ _ _ _).mono ?_;rintro e w' ⟨rfl,rfl⟩)
     go_ret
     exact ⟨rfl,hb0⟩
   | true =>
     cases g3:wi c 0 ((n:Int) - 1) with
     | false =>
       go_enter Tryz.func106,Tryz.ntmps106
       go_wp2_with (go_at_call 37;refine (HW.out _ _ _ _).mono ?_;rintro e w' ⟨rfl,rfl⟩)
       go_ret
       exact ⟨rfl,hb0⟩
     | true =>
       go_enter Tryz.func106,Tryz.ntmps106
       go_wp2_with (go_at_call 37;refine (HW.out _ _ _ _).mono ?_;rintro e w' ⟨rfl,rfl⟩)
       go_ret
       exact ⟨rfl,hb0⟩
set_option maxHeartbeats 2000000 in
theorem implValidGraph (v:Value) (g:Gr) (w:World) (hv:GrV 0 w.heap.size w v g) :
 Calls Tryz.prog 81 #[v] w fun e w'=>e=.returned (.bool (grOk g))/\Below w.heap.size w w':=by
 obtain ⟨vs,es,rfl,⟨A1,c1,rfl,hl1,hm1,hx1⟩,⟨A2,c2,rfl,hl2,hm2,hx2⟩⟩:=hv
 unfold maxLen at hm1 hm2
 have hb0:Below w.heap.size w (w.alloc (.cells #[.slice A1 g.vals.length c1,.slice A2 g.edges.length c2] 27)):=(Below.refl _ _).alloc (Nat.le_refl _) _
 have HW:=Hd_ within_any
 have HX1:=Hd_ hx1
 have HX2:=Hd_ hx2
 clear hx1 hx2
 go_enter Tryz.func81,Tryz.ntmps81
 go_wp2_with fail
 go_loop [14] (fun ii=>∃ i:Nat,i<=g.vals.length/\ii=.int .i64 i/\(g.vals.take i).all (fun v=>wi v 0 2)=true) (fun ii=>g.vals.length - (intOf ii).toNat)
 case atStart=>exact ⟨0,Nat.zero_le _,rfl,rfl⟩
 case round =>
  obtain ⟨i,hi,rfl,hall⟩:=hrel
  have HA:=Hd_ hall
  clear hall
  by_cases hlt:i < g.vals.length
  · have hxi:g.vals[i]?=some g.vals[i]:=List.getElem?_eq_getElem hlt
    obtain ⟨b,o,rfl,-,hb1,hc⟩:=HX1.out i _ hxi
    generalize g.vals[i]=x at hc hxi
    have c0:=hc 0 _ rfl
    simp only [Nat.mul_one,Nat.add_zero] at c0
    have HX:=Hd_ hxi
    clear hc hxi
    cases g4:wi x 0 2 with
    | true =>
      have G4:=Hd_ g4
      go_wp2_with (go_at_call 37;refine (HW.out _ _ _ _).mono ?_;rintro e w' ⟨rfl,rfl⟩)
      go_round
      case rel=>exact ⟨i+1,by omega,by go_num,all_take_succ HX.out HA.out G4.out⟩
      case measure=>simp [intOf];omega
    | false =>
      have hfin:grOk g=false:=by
       rw [grOk,all_false_of HX.out g4]
       rfl
      have HF:=Hd_ hfin
      clear hfin
      go_wp2_with (go_at_call 37;refine (HW.out _ _ _ _).mono ?_;rintro e w' ⟨rfl,rfl⟩)
      go_ret
      exact ⟨by rw [HF.out];rfl,hb0⟩
  · obtain rfl:i=g.vals.length:=by omega
    have hallv:g.vals.all (fun v=>wi v 0 2)=true:=by have:=HA.out;rwa [List.take_length] at this
    have HV:=Hd_ hallv
    clear hallv HA
    go_wp2_with fail
    go_loopw [25] (fun ii wr=>∃ (i:Nat) (u:World),i<=g.edges.length/\ii=.int .i64 i/\(List.range i).all (edAt g.vals.length g.edges)=true/\wr=ext (w.alloc (.cells #[.slice A1 g.vals.length c1,.slice A2 g.edges.length c2] 27)) u) (fun ii _=>g.edges.length - (intOf ii).toNat)
    case atStart=>exact ⟨0,_,Nat.zero_le _,rfl,rfl,ext_self _⟩
    case round =>
     obtain ⟨i,u,hi,rfl,hall,rfl⟩:=hrel
     have HA:=Hd_ hall
     clear hall
     by_cases hlt:i < g.edges.length
     · have hxi:g.edges[i]?=some g.edges[i]:=List.getElem?_eq_getElem hlt
       obtain ⟨b,o',rfl,-,hb1,hc⟩:=HX2.out i _ hxi
       generalize g.edges[i]=x at hc hxi
       have c0:=hc 0 _ rfl
       have c1':=hc 1 _ rfl
       have c2':=hc 2 _ rfl
       have c3:=hc 3 _ rfl
       simp only [Nat.add_zero] at c0
       have HX:=Hd_ hxi
       have hlen:g.vals.length<=9223372036854775807:=by omega
       clear hc hxi
       have hgr:grOk g=((List.range g.edges.length).all (edAt g.vals.length g.edges) && wi g.vals.length 1 5 && decide (g.edges.length<=12)):=by
        rw [grOk,HV.out];rfl
       have HGR:=Hd_ hgr
       clear hgr
       cases g4:edOk g.vals.length x with
       | false =>
         have hfin:grOk g=false:=by
          rw [HGR.out,range_all_false hlt (by rw [edAt,HX.out];simp [g4])]
          rfl
         have HF:=Hd_ hfin
         clear hfin
         go_wp2_with fail
         refine wp_region_ext_lit (by kernel_rfl) (by kernel_rfl) ?_
         repeat (go_big_quiet_step ((go_at_call 106;exact Calls.ext_of (edgeOk_any x g.vals.length _ hlen))))
         refine wpQuiet_nil ?_
         rintro _ ⟨u2,rfl⟩
         go_wp2_with fail
         go_ret
         exact ⟨by rw [HF.out];rfl,below_trans hb0 (below_trans (ext_below _ _) (below_trans ((Below.refl _ _).alloc (Nat.le_refl _) _) (ext_below _ _)))⟩
       | true =>
         have G4:=Hd_ g4
         have hbx:∀ o u2,∃ z,ext ((ext (w.alloc (.cells #[.slice A1 g.vals.length c1,.slice (some ⟨b,o',none⟩) g.edges.length c2] 27)) u).alloc o) u2=ext (w.alloc (.cells #[.slice A1 g.vals.length c1,.slice (some ⟨b,o',none⟩) g.edges.length c2] 27)) z :=
          fun o u2=>ext_of (below_trans (ext_below _ _) (below_trans ((Below.refl _ _).alloc (Nat.le_refl _) _) (ext_below _ _)))
         by_cases hi0:i=0
         · subst hi0
           have hat:edAt g.vals.length g.edges 0=true:=by rw [edAt,HX.out];simp [G4.out]
           have HAT:=Hd_ hat
           clear hat
           simp only [Nat.zero_mul,Nat.add_zero,Nat.zero_add] at c0 c1' c2' c3
           go_wp2_with fail
           refine wp_region_ext_lit (by kernel_rfl) (by kernel_rfl) ?_
           repeat (go_big_quiet_step ((go_at_call 106;exact Calls.ext_of (edgeOk_any x g.vals.length _ hlen))))
           refine wpQuiet_nil ?_
           rintro _ ⟨u2,rfl⟩
           go_wp2_with fail
           go_roundw
           case rel =>
            obtain ⟨z,hz⟩:=hbx _ u2
            exact ⟨1,z,by omega,by go_num,range_all_succ HA.out HAT.out,hz⟩
           case measure=>simp [intOf];omega
         · have hi1:0 < i:=by omega
           have hxj:g.edges[i - 1]?=some g.edges[i - 1]:=List.getElem?_eq_getElem (by omega)
           obtain ⟨b9,o9,ho9,-,-,hcj⟩:=HX2.out (i - 1) _ hxj
           obtain ⟨rfl,rfl⟩:b=b9/\o'=o9:=by injection ho9 with h1;injection h1 with h1 h2;exact ⟨h1,h2⟩
           generalize g.edges[i - 1]=p at hcj hxj
           have hb1':b < w.heap.size+1:=by omega
           have p0:=hcj 0 _ rfl
           simp only [Nat.add_zero] at p0
           have HXJ:=Hd_ hxj
           have hi00:((i:Int) > 0):=by omega
           clear hcj hxj ho9
           by_cases hlt2:p.1 < x.1
           · have hat:edAt g.vals.length g.edges i=true:=by rw [edAt,HX.out];simp [G4.out,HXJ.out,hlt2]
             have hge:decide (p.1 >= x.1)=false:=by simp;omega
             have HAT:=Hd_ hat
             clear hat
             go_wp2_with fail
             have q1:IntKind.i64.wrap ((i:Int) - 1)=(i:Int) - 1:=IntWalk.i64_in _ (by omega)
             have q2:0<=(i:Int) - 1:=by omega
             have q3:(i:Int) - 1 < (g.edges.length:Int):=by omega
             have q4:((i:Int) - 1).toNat=i - 1:=by omega
             refine wp_region_ext_lit (by kernel_rfl) (by kernel_rfl) ?_
             repeat (go_big_quiet_step ((go_at_call 106;exact Calls.ext_of (edgeOk_any x g.vals.length _ hlen))))
             refine wpQuiet_nil ?_
             rintro _ ⟨u2,rfl⟩
             clear q1 q2 q3 q4
             go_wp2_with fail
             go_roundw
             case rel =>
              obtain ⟨z,hz⟩:=hbx _ u2
              exact ⟨i+1,z,by omega,by go_num,range_all_succ HA.out HAT.out,hz⟩
             case measure=>simp [intOf];omega
           · have hfin:grOk g=false:=by
              rw [HGR.out,range_all_false hlt (by rw [edAt,HX.out];simp [G4.out,HXJ.out,hi0];omega)]
              rfl
             have hge:decide (p.1 >= x.1)=true:=by simp;omega
             have HF:=Hd_ hfin
             clear hfin
             go_wp2_with fail
             have q1:IntKind.i64.wrap ((i:Int) - 1)=(i:Int) - 1:=IntWalk.i64_in _ (by omega)
             have q2:0<=(i:Int) - 1:=by omega
             have q3:(i:Int) - 1 < (g.edges.length:Int):=by omega
             have q4:((i:Int) - 1).toNat=i - 1:=by omega
             refine wp_region_ext_lit (by kernel_rfl) (by kernel_rfl) ?_
             repeat (go_big_quiet_step ((go_at_call 106;exact Calls.ext_of (edgeOk_any x g.vals.length _ hlen))))
             refine wpQuiet_nil ?_
             rintro _ ⟨u2,rfl⟩
             clear q1 q2 q3 q4
             go_wp2_with fail
             go_ret
             exact ⟨by rw [HF.out];rfl,below_trans hb0 (below_trans (ext_below _ _) (below_trans ((Below.refl _ _).alloc (Nat.le_refl _) _) (ext_below _ _)))⟩
     · obtain rfl:i=g.edges.length:=by omega
       have hgr:grOk g=(wi g.vals.length 1 5 && decide (g.edges.length<=12)):=by
        rw [grOk,HV.out,HA.out];rfl
       have HGR:=Hd_ hgr
       clear hgr HA HV
       cases g5:wi g.vals.length 1 5 with
       | false =>
         rw [g5] at HGR
         go_wp2_with (go_at_call 37;refine (HW.out _ _ _ _).mono ?_;rintro e w' ⟨rfl,rfl⟩)
         go_ret
         exact ⟨by rw [HGR.out];rfl,below_trans hb0 (ext_below _ _)⟩
       | true =>
         rw [g5] at HGR
         have HG5:=Hd_ g5
         by_cases g6:g.edges.length<=12
         · have g6':decide ((g.edges.length:Int)<=12)=true:=by simp;omega
           have hfin:grOk g=true:=by rw [HGR.out];simp [g6]
           have HF:=Hd_ hfin
           clear hfin HGR
           go_wp2_with (go_at_call 37;refine (HW.out _ _ _ _).mono ?_;rintro e w' ⟨rfl,rfl⟩)
           go_ret
           exact ⟨by rw [HF.out];rfl,below_trans hb0 (ext_below _ _)⟩
         · have g6':decide ((g.edges.length:Int)<=12)=false:=by simp;omega
           have hfin:grOk g=false:=by rw [HGR.out];simp [g6]
           have HF:=Hd_ hfin
           clear hfin HGR
           go_wp2_with (go_at_call 37;refine (HW.out _ _ _ _).mono ?_;rintro e w' ⟨rfl,rfl⟩)
           go_ret
           exact ⟨by rw [HF.out];rfl,below_trans hb0 (ext_below _ _)⟩
/-- slices.IndexFunc over edges, at EdgeIndex's closure -/
theorem indexFuncEdge (k0:Value) (v:Value) (xs:List Ed) (p:Ed->Prop) (w:World) (hv:SlE w cEd 4 v xs)
 (hF:∀ x ∈ xs,∀ W:World,Below w.heap.size w W->Calls Tryz.prog 142 #[.agg #[.int .i64 x.1,.int .i64 x.2.1,.int .i64 x.2.2.1,.int .i64 x.2.2.2],k0] W fun e W'=>∃ b,e=.returned (.bool b)/\(b=true ↔ p x)/\Below W.heap.size W W') :
 Calls Tryz.prog 141 #[v,.func (Fn.func 142) #[] #[k0]] w fun e w'=>∃ r:Int,e=.returned (.int .i64 r)/\Below w.heap.size w w' /\
  ((r=-1/\∀ x ∈ xs,¬ p x) ∨ ∃ (i:Nat) (x:Ed),r=i/\xs[i]?=some x/\p x/\∀ y ∈ xs.take i,¬ p y):=by
 obtain ⟨A,c,rfl,hl,hm,hx⟩:=hv
 unfold maxLen at hm
 have HF:=Hd_ hF
 have HX:=Hd_ hx
 clear hF hx
 go_enter Tryz.func141,Tryz.ntmps141
 go_wp2_with fail
 go_loopw [8] (fun ii wr=>∃ (i:Nat) (u:World),i<=xs.length/\ii=.int .i64 i/\(∀ y ∈ xs.take i,¬ p y)/\wr=ext w u) (fun ii _=>xs.length - (intOf ii).toNat)
 case atStart=>exact ⟨0,w,Nat.zero_le _,rfl,by simp,ext_self w⟩
 case round =>
  obtain ⟨i,u,hi,rfl,hno,rfl⟩:=hrel
  have HN:=Hd_ hno
  clear hno
  by_cases hlt:i < xs.length
  · have hxi:xs[i]?=some xs[i]:=List.getElem?_eq_getElem hlt
    generalize xs[i]=x at hxi
    obtain ⟨b,o,rfl,-,hb,hc⟩:=HX.out i x hxi
    have c0:=hc 0 _ rfl
    have c1':=hc 1 _ rfl
    have c2':=hc 2 _ rfl
    have c3:=hc 3 _ rfl
    simp only [Nat.add_zero] at c0
    have HXI:=Hd_ hxi
    clear hc hxi
    go_wp2_with fail
    refine (HF.out x (List.mem_of_getElem? HXI.out) _ (ext_below w u)).mono ?_
    rintro e w1 ⟨bb,rfl,hbb,hb1⟩
    have HBB:=Hd_ hbb
    clear hbb
    cases bb with
    | true =>
      go_wp2_with fail
      go_ret
      exact ⟨_,rfl,below_trans (ext_below w u) hb1,.inr ⟨i,x,rfl,HXI.out,HBB.out.1 (by first | rfl | trivial),HN.out⟩⟩
    | false =>
      go_wp2_with fail
      go_roundw
      case rel =>
       obtain ⟨z,hz⟩:=ext_of (below_trans (ext_below w u) hb1)
       refine ⟨i+1,z,by omega,by go_num,fun y hy=>?_,hz⟩
       rw [take_snoc HXI.out] at hy
       rcases List.mem_append.1 hy with hy | hy
       · exact HN.out y hy
       · have:y=x:=by simpa using hy
         subst this
         exact fun h=>by have:=HBB.out.2 h;cases this
      case measure=>simp [intOf];omega
  · obtain rfl:i=xs.length:=by omega
    go_wp2_with fail
    go_ret
    exact ⟨_,rfl,ext_below w u,.inl ⟨rfl,fun x hx=>HN.out x (by rw [List.take_length];exact hx)⟩⟩
set_option maxHeartbeats 1000000 in
theorem implEdgeIndex (v:Value) (g:Gr) (id:Int) (w:World) (hv:GrV 0 w.heap.size w v g) :
 Calls Tryz.prog 128 #[v,.int .i64 id] w fun e w'=>e=.returned (.int .i64 (edgeIdx g id))/\Below w.heap.size w w':=by
 obtain ⟨vs,es,rfl,-,hes⟩:=hv
 have hb0:Below w.heap.size w ((w.alloc (.cells #[vs,es] 27)).alloc (.cells #[.int .i64 id] 3)):=((Below.refl _ _).alloc (Nat.le_refl _) _).alloc (by simp) _
 have b1:=Blk.new (w.alloc (.cells #[vs,es] 27)) 3 #[.int .i64 id] (w.heap.size+1) (by simp)
 go_enter Tryz.func128,Tryz.ntmps128
 go_wp2_with fail
 refine (indexFuncEdge _ es g.edges (fun e=>e.1=id) _ (SlE.keep hes hb0) (fun x hx W hW=>?_)).mono ?_
 · have b1':=b1.keep hW
   have y0:W.cell? ⟨w.heap.size+1,0,none⟩=some _:=b1'.cell 0
   have hlt:=b1'.lt
   clear hb0 b1 b1' hW
   obtain ⟨x1,x2,x3,x4⟩:=x
   go_enter Tryz.func142,Tryz.ntmps142
   go_wp2_with fail
   go_ret
   refine ⟨_,rfl,by simp,(Below.refl _ _).alloc (Nat.le_refl _) _⟩
 · rintro e w1 ⟨r,rfl,hb1,hr⟩
   have hfin:edgeIdx g id=r:=by
    rcases hr with ⟨rfl,h⟩ | ⟨i,x,rfl,hx,hp,hno⟩
    · exact edgeIdx_none h
    · exact edgeIdx_some hx hp hno
   subst hfin
   clear hr
   go_wp2_with fail
   go_ret
   exact ⟨rfl,below_trans hb0 hb1⟩
set_option maxHeartbeats 1000000 in
theorem bothOk_any (vg va lv:Value) (g:Gr) (a:Au) (ss:List Int) (w:World) (hg:GrV 0 w.heap.size w vg g) (ha:AuV 0 w.heap.size w va a) (hl:SlE w cI 1 lv ss) :
 Calls Tryz.prog 52 #[vg,va,lv] w fun e w'=>e=.returned (.bool (ss.all (fun s=>wi s 0 ((g.vals.length:Int) - 1)) && (grOk g && auOk a)))/\Below w.heap.size w w':=by
 have hg0:=hg
 have ha0:=ha
 obtain ⟨A1,c1,A2,c2,rfl,hl1,hm1,-,-,-,-⟩:=hg.form
 obtain ⟨A3,n3,c3,A4,n4,c4,rfl⟩:=ha.shape
 obtain ⟨A5,c5,rfl,hl5,hm5,hC5⟩:=hl.form
 have HG:=Hd_ hg0
 have HA:=Hd_ ha0
 have HC5:=Hd_ hC5
 have HW:=Hd_ within_any
 have hb0:Below w.heap.size w ((w.alloc (.cells #[.slice A1 g.vals.length c1,.slice A2 g.edges.length c2] 27)).alloc (.cells #[.int .i64 a.start,.slice A3 n3 c3,.slice A4 n4 c4] 31)):=((Below.refl _ _).alloc (Nat.le_refl _) _).alloc (by simp) _
 clear hg ha hl hg0 ha0 hC5
 go_enter Tryz.func52,Tryz.ntmps52
 go_wp2_with fail
 go_loop [11] (fun ii=>∃ i:Nat,i<=ss.length/\ii=.int .i64 i/\(ss.take i).all (fun s=>wi s 0 ((g.vals.length:Int) - 1))=true) (fun ii=>ss.length - (intOf ii).toNat)
 case atStart=>exact ⟨0,Nat.zero_le _,rfl,rfl⟩
 case round =>
  obtain ⟨i,hi,rfl,hall⟩:=hrel
  have HALL:=Hd_ hall
  clear hall
  by_cases hlt:i < ss.length
  · have hxi:ss[i]?=some ss[i]:=List.getElem?_eq_getElem hlt
    generalize ss[i]=s at hxi
    obtain ⟨b,o,rfl,hb1,c0⟩:=HC5.out.int hxi
    have HX:=Hd_ hxi
    clear hxi
    by_cases g4:wi s 0 ((g.vals.length:Int) - 1)=true
    · go_wp2_with (go_at_call 37;refine (HW.out _ _ _ _).mono ?_;rintro e w' ⟨rfl,rfl⟩)
      go_round
      case rel=>exact ⟨i+1,by omega,by go_num,all_take_succ HX.out HALL.out g4⟩
      case measure=>simp [intOf];omega
    · simp only [Bool.not_eq_true] at g4
      have hfin:ss.all (fun s=>wi s 0 ((g.vals.length:Int) - 1))=false:=all_false_of HX.out g4
      have HF:=Hd_ hfin
      clear hfin
      go_wp2_with (go_at_call 37;refine (HW.out _ _ _ _).mono ?_;rintro e w' ⟨rfl,rfl⟩)
      go_ret
      exact ⟨by rw [HF.out];rfl,hb0⟩
  · obtain rfl:i=ss.length:=by omega
    have hfin:ss.all (fun s=>wi s 0 ((g.vals.length:Int) - 1))=true:=by have:=HALL.out;rwa [List.take_length] at this
    have HF:=Hd_ hfin
    clear hfin
    go_wp2_with fail
    refine (implValidGraph _ g _ (HG.out.keep hb0)).mono ?_
    rintro e w1 ⟨he,hb1⟩
    obtain ⟨u1,rfl⟩:=ext_of hb1
    have hb2:=below_trans hb0 hb1
    clear hb1
    subst he
    cases hgo:grOk g with
    | false =>
      have HGO:=Hd_ hgo
      clear hgo
      go_wp2_with fail
      go_ret
      exact ⟨by rw [HF.out,HGO.out];rfl,hb2⟩
    | true =>
      have HGO:=Hd_ hgo
      clear hgo
      go_wp2_with fail
      refine (implValidAutomaton _ a _ (HA.out.keep hb2)).mono ?_
      rintro e w2 ⟨rfl,hb3⟩
      go_wp2_with fail
      go_ret
      exact ⟨by rw [HF.out,HGO.out];rfl,below_trans hb2 hb3⟩
end Go.Proofs.YtcnenpjaoalmeaaGreat
namespace Go.Proofs.YtcnenpjaoalmeaaGreat
/-- the arcs of all nodes by the first i edges -/
def rowsTo (g:Gr) (i:Nat):List (List Arc):=(List.range g.vals.length).map fun (x:Nat)=>(g.edges.take i).flatMap (arcE (x:Int))
theorem rowsTo_at {g:Gr} {i x:Nat} (h:x < g.vals.length):(rowsTo g i)[x]?=some ((g.edges.take i).flatMap (arcE (x:Int))):=by simp [rowsTo,h]
theorem rowsTo_len (g:Gr) (i:Nat):(rowsTo g i).length=g.vals.length:=by simp [rowsTo]
theorem rowsTo_zero (g:Gr):rowsTo g 0=List.replicate g.vals.length []:=by
 apply List.ext_getElem?
 intro x
 simp only [rowsTo,List.take_zero,List.flatMap_nil,List.getElem?_map,List.getElem?_replicate,List.getElem?_range]
 by_cases h:x < g.vals.length
 · simp [h]
 · simp [h]
def rowFrom (g:Gr) (i:Nat) (e:Ed):List (List Arc):=(rowsTo g i).set e.2.1.toNat ((g.edges.take i).flatMap (arcE e.2.1) ++ [((e.1,false),arcLetter false e,e.2.2.1)])
def rowBack (g:Gr) (i:Nat) (e:Ed):List Arc:=(g.edges.take i).flatMap (arcE e.2.2.1) ++ if e.2.1=e.2.2.1 then [((e.1,false),arcLetter false e,e.2.2.1)] else []
theorem rowFrom_at {g:Gr} {i:Nat} {e:Ed} (h0:0<=e.2.1) (hn:e.2.1<=(g.vals.length:Int) - 1) (h1:0<=e.2.2.1) (h2:e.2.2.1<=(g.vals.length:Int) - 1):(rowFrom g i e)[e.2.2.1.toNat]?=some (rowBack g i e):=by
 unfold rowFrom rowBack
 rw [List.getElem?_set]
 by_cases h:e.2.1=e.2.2.1
 · rw [if_pos (by rw [h]),if_pos (by rw [rowsTo_len];omega),if_pos h,h]
 · rw [if_neg (by omega),if_neg h,rowsTo_at (by omega),Int.toNat_of_nonneg h1];simp
theorem rowsTo_push {g:Gr} {i:Nat} {e:Ed} (he:g.edges[i]?=some e) (h0:0<=e.2.1) (hn:e.2.1<=(g.vals.length:Int) - 1) (h1:0<=e.2.2.1) (h2:e.2.2.1<=(g.vals.length:Int) - 1) :
 (rowFrom g i e).set e.2.2.1.toNat (rowBack g i e ++ [((e.1,true),arcLetter true e,e.2.1)])=rowsTo g (i+1):=by
 apply List.ext_getElem?
 intro x
 by_cases hx:x < g.vals.length
 · rw [rowsTo_at hx,flat_take he,List.getElem?_set]
   unfold rowFrom rowBack
   rw [List.length_set,rowsTo_len]
   by_cases hb:e.2.2.1=(x:Int)
   · rw [if_pos (by omega),if_pos (by omega)]
     congr 1
     rw [hb,List.append_assoc]
     congr 1
     unfold arcE arcLetter
     by_cases hf:e.2.1=(x:Int)
     · simp [hf,hb]
     · simp [hf,hb]
   · rw [if_neg (by omega),List.getElem?_set,rowsTo_len]
     by_cases hf:e.2.1=(x:Int)
     · rw [if_pos (by omega),if_pos (by omega)]
       congr 1
       rw [hf]
       congr 1
       unfold arcE arcLetter
       simp [hf,hb]
     · rw [if_neg (by omega),rowsTo_at hx]
       congr 1
       unfold arcE
       simp [hf,hb]
 · rw [List.getElem?_eq_none (by rw [List.length_set,rowFrom,List.length_set,rowsTo_len];omega),List.getElem?_eq_none (by rw [rowsTo_len];omega)]
theorem rowsTo_all (g:Gr):rowsTo g g.edges.length=(List.range g.vals.length).map fun (x:Nat)=>arcsOf g (x:Int):=by
 unfold rowsTo arcsOf
 rw [List.take_length]
end Go.Proofs.YtcnenpjaoalmeaaGreat
namespace Go.Proofs.YtcnenpjaoalmeaaGreat
open Go.ChangeShapes Go.WideShapes Go.ChangeAt Go.RowKit
attribute [local go_sem] ext_cell ext_frozen ext_lt ext_lt1 ext_lt2 ext_lt3 ltn2 ltn3 ltn13 lts1 lts2 lts3
/-- an arc as four cells -/
def cA (y:Arc):List Value:=[.int .i64 y.1.1,.bool y.1.2,.int .i64 y.2.1,.int .i64 y.2.2]
theorem cA_len (y:Arc):(cA y).length=4:=rfl
theorem cA_one (y:Arc):∀ u ∈ cA y,u.oneCell'=true:=by intro u hu;simp only [cA,List.mem_cons,List.not_mem_nil,or_false] at hu;rcases hu with rfl | rfl | rfl | rfl <;> rfl
theorem reads_any (e:Ed) (b:Bool) (w:World) (h0:0<=e.2.2.2) (h2:e.2.2.2<=2) :
 Calls Tryz.prog 99 #[.agg #[.int .i64 e.1,.int .i64 e.2.1,.int .i64 e.2.2.1,.int .i64 e.2.2.2],.bool b] w fun en w'=>en=.returned (.int .i64 (arcLetter b e))/\Below w.heap.size w w':=by
 obtain ⟨a,f,t,l⟩:=e
 simp only at h0 h2 ⊢
 cases b
 all_goals
  go_enter Tryz.func99,Tryz.ntmps99
  go_wp2_with fail
  go_ret
  exact ⟨rfl,(Below.refl _ _).alloc (Nat.le_refl _) _⟩
theorem elArc:ElemOk Tryz.prog 83 89 (.agg #[.int .i64 0,.bool false,.int .i64 0,.int .i64 0]) 4 32:=⟨Tryz.underlying83,by kernel_rfl,rfl,by omega⟩
theorem elArcs:ElemOk Tryz.prog 84 83 (.slice none 0 0) 1 24:=⟨Tryz.underlying84,by kernel_rfl,rfl,by omega⟩
set_option maxHeartbeats 4000000 in
set_option maxRecDepth 100000 in
theorem arcs_any (v:Value) (g:Gr) (w:World) (hv:GrV 0 w.heap.size w v g) (hg:GrOk g) :
 Calls Tryz.prog 69 #[v] w fun e w'=>∃ v',e=.returned v'/\SSE w.heap.size w'.heap.size w' cA 4 v' ((List.range g.vals.length).map fun (x:Nat)=>arcsOf g (x:Int))/\Below w.heap.size w w':=by
 obtain ⟨A1,c1,A2,c2,rfl,hl1,hm1,hl2,hm2,hC1,hC2⟩:=hv.form
 have hn5:=hg.n5
 have he12:=hg.e12
 have HG:=Hd_ hg
 have HC2:=Hd_ hC2
 clear hC1 hC2 hv hg
 obtain ⟨R,hR⟩:∃ R,R=(List.range g.vals.length).map fun (x:Nat)=>arcsOf g (x:Int):=⟨_,rfl⟩
 rw [<- hR]
 have HR:=Hd_ hR
 clear hR
 go_enter Tryz.func69,Tryz.ntmps69
 go_wp2_with (at_make;refine wpList_makeE (P:=Tryz.prog) cV (.slice none 0 0) elArcs rfl rfl rfl _ _ rfl (w.heap.size+1) g.vals.length _ (by rfl) (by rfl) rfl (by omega) (by unfold maxLen;omega) (by simp) ?_;intro w1 hrow1 hbel1
              have b0:=(Blk.new w _ _ w.heap.size rfl).below hbel1 (by simp)
              have hb1:Below w.heap.size w w1:=((Below.refl _ _).alloc (Nat.le_refl _) _).trans (hbel1.mono (by simp))
              simp only [World.size_alloc] at hrow1 ⊢
              have hr1:=Rws.made (base:=w.heap.size+1) (α:=Arc) (E:=cA) (k:=4) (rT:=89) hrow1
              have HR1:=Hd_ hr1
              have x0:w1.cell? ⟨w.heap.size,0,none⟩=some (.slice A1 g.vals.length c1):=b0.cell 0
              have x1:w1.cell? ⟨w.heap.size,1,none⟩=some (.slice A2 g.edges.length c2):=b0.cell 1
              clear hbel1 hrow1 b0 hr1)
 generalize hgb:w.heap.size+1=gb at *
 have hgw:w.heap.size < gb:=by omega
 clear hgb
 go_loopw [13] (fun ii wr=>∃ (i:Nat) (hs:List Value),i<=g.edges.length/\ii=.int .i64 (i:Int)/\Rws wr gb 83 89 cA 4 gb hs (rowsTo g i)/\Below w.heap.size w wr) (fun ii _=>g.edges.length - (intOf ii).toNat)
 case atStart=>exact ⟨0,_,Nat.zero_le _,rfl,by rw [rowsTo_zero];exact HR1.out,hb1⟩
 case round =>
  obtain ⟨i,hs,hi,rfl,hrow,hbel⟩:=hrel
  clear hb1 HR1 x0 x1
  by_cases hlt:i < g.edges.length
  · have hei:g.edges[i]?=some g.edges[i]:=List.getElem?_eq_getElem hlt
    have hge:=HG.out.edges _ (List.getElem_mem hlt)
    generalize g.edges[i]=e at hei hge
    obtain ⟨-,⟨hf0,hf1⟩,⟨ht0,ht1⟩,hl0,hl2⟩:=hge
    obtain ⟨b,o,rfl,hb,q0,q1,q2,q3⟩:=HC2.out.ed hei
    have d0:=bcell hbel q0 hb
    have d1:=bcell hbel q1 hb
    have d2:=bcell hbel q2 hb
    have d3:=bcell hbel q3 hb
    have hbw:=Nat.lt_of_lt_of_le hb hbel.size
    have HEI:=Hd_ hei
    clear hei q0 q1 q2 q3
    have hgl:=hrow.gLt
    have hfh:e.2.1.toNat < hs.length:=by rw [hrow.len,rowsTo_len];omega
    have hhf:hs[e.2.1.toNat]?=some hs[e.2.1.toNat]:=List.getElem?_eq_getElem hfh
    generalize hs[e.2.1.toNat]=hv1 at hhf
    have hx1:=rowsTo_at (g:=g) (i:=i) (x:=e.2.1.toNat) (by omega)
    rw [Int.toNat_of_nonneg hf0] at hx1
    obtain ⟨eid,ef,et,el⟩:=e
    simp only at *
    have hfn:ef.toNat < g.vals.length:=by omega
    obtain ⟨ef,rfl⟩:=Int.eq_ofNat_of_zero_le hf0
    obtain ⟨et,rfl⟩:=Int.eq_ofNat_of_zero_le ht0
    simp only [Int.toNat_natCast] at *
    have hfi:(ef:Int) < (g.vals.length:Int):=by omega
    have hti:(et:Int) < (g.vals.length:Int):=by omega
    have hcf:=hrow.cell hhf
    have hff:=hrow.frozen ef
    have HROW:=Hd_ hrow
    have HX1:=Hd_ hx1
    have HHF:=Hd_ hhf
    have hfar:=hrow.far _ _ hhf
    have HFAR:=Hd_ hfar
    have hgs:=hgl.2
    have hlv:hs.length=g.vals.length:=by rw [hrow.len,rowsTo_len]
    have hgv:gb < wr.heap.size:=hgl.2
    have hsz:=hbel.size
    clear hrow hx1 hhf hfar hgl hfh hlv
    go_wp2_with fail
    have e0:(wr.alloc (.cells #[.int .i64 eid,.int .i64 (ef:Int),.int .i64 (et:Int),.int .i64 el] 114)).cell? ⟨wr.heap.size,0,none⟩=some (.int .i64 eid):=by simp
    have e1:(wr.alloc (.cells #[.int .i64 eid,.int .i64 (ef:Int),.int .i64 (et:Int),.int .i64 el] 114)).cell? ⟨wr.heap.size,1,none⟩=some (.int .i64 (ef:Int)):=by simp
    have e2:(wr.alloc (.cells #[.int .i64 eid,.int .i64 (ef:Int),.int .i64 (et:Int),.int .i64 el] 114)).cell? ⟨wr.heap.size,2,none⟩=some (.int .i64 (et:Int)):=by simp
    have e3:(wr.alloc (.cells #[.int .i64 eid,.int .i64 (ef:Int),.int .i64 (et:Int),.int .i64 el] 114)).cell? ⟨wr.heap.size,3,none⟩=some (.int .i64 el):=by simp
    generalize hW:(wr.alloc (.cells #[.int .i64 eid,.int .i64 (ef:Int),.int .i64 (et:Int),.int .i64 el] 114))=wE
    rw [hW] at e0 e1 e2 e3
    have hbE:Below wr.heap.size wr wE:=by rw [<- hW];exact (Below.refl _ _).alloc (Nat.le_refl _) _
    have hcE:wE.cell? ⟨gb,ef,none⟩=some hv1:=bcell hbE hcf hgs
    have hfE:wE.frozen? ⟨gb,ef,none⟩=false:=by rw [hbE.frozen (p:=⟨gb,ef,none⟩) hgs];exact hff
    have hsE:wr.heap.size < wE.heap.size:=by rw [<- hW];simp
    have hgE:gb < wE.heap.size:=by omega
    have hgE1:wr.heap.size ≠ gb:=by omega
    have HRE:=Hd_ (HROW.out.below hbE)
    have HBE:=Hd_ (hbel.trans (hbE.mono hsz))
    have hne1:some wr.heap.size ≠ hv1.ownBlock:=fun h=>by have:=((HROW.out.row ef hv1 _ HHF.out HX1.out).lt _ h.symm).2;omega
    have hne2:some gb ≠ hv1.ownBlock:=Ne.symm HFAR.out
    have hneR0:∀ (j:Nat) (h:Value),hs[j]?=some h->some wr.heap.size ≠ h.ownBlock:=fun j h hj e9=>by
     have hjx:j < (rowsTo g i).length:=by rw [<- HROW.out.len];exact (List.getElem?_eq_some_iff.1 hj).1
     have:=((HROW.out.row j h _ hj (List.getElem?_eq_getElem hjx)).lt _ e9.symm).2
     omega
    have HNER:=Hd_ hneR0
    clear hneR0
    have HRO:=Hd_ (HRE.out.row ef hv1 _ HHF.out HX1.out)
    have hrl:((g.edges.take i).flatMap (arcE (ef:Int))).length<=24:=by
     have h1:=flat_len (arcE_len (ef:Int)) (g.edges.take i)
     rw [List.length_take] at h1
     omega
    clear hW hbE hcf hff HROW hbel
    obtain ⟨row1,hrow1⟩:∃ row1,row1=(g.edges.take i).flatMap (arcE (ef:Int)):=⟨_,rfl⟩
    rw [<- hrow1] at hrl HRO HX1
    have HROW1:=Hd_ hrow1
    clear hrow1
    refine F_start 19 (fun w'=>w'.cell? ⟨wr.heap.size,0,none⟩=some (.int .i64 eid)/\w'.cell? ⟨wr.heap.size,1,none⟩=some (.int .i64 (ef:Int))/\w'.cell? ⟨wr.heap.size,2,none⟩=some (.int .i64 (et:Int))/\w'.cell? ⟨wr.heap.size,3,none⟩=some (.int .i64 el)/\w'.cell? ⟨gb,ef,none⟩=some hv1) (by kernel_rfl) (by exact ⟨e0,e1,e2,e3,hcE⟩) (fun hS inv=>?_)
    refine F_tk 0 inv ?_
    try simp only [tA,tB,tC,Act.put,tE,tF,tG]
    clear inv;intro inv
    refine F_tk 1 inv ?_
    try simp only [tA,tB,tC,Act.put,tE,tF,tG]
    clear inv;intro inv
    refine F_tk 2 inv ?_
    try simp only [tA,tB,tC,Act.put,tE,tF,tG]
    clear inv;intro inv
    refine F_tk 3 inv ?_
    try simp only [tA,tB,tC,Act.put,tE,tF,tG]
    clear inv;intro inv
    refine F_tk 4 inv ?_
    try simp only [tA,tB,tC,Act.put,tE,tF,tG]
    clear inv;intro inv
    refine F_tk 5 inv ?_
    try simp only [tA,tB,tC,Act.put,tE,tF,tG]
    clear inv;intro inv
    refine F_tk 6 inv ?_
    try simp only [tA,tB,tC,Act.put,tE,tF,tG]
    clear inv;intro inv
    refine F_tk 7 inv ?_
    try simp only [tA,tB,tC,Act.put,tE,tF,tG]
    clear inv;intro inv
    refine F_tk 8 inv ?_
    try simp only [tA,tB,tC,Act.put,tE,tF,tG]
    clear inv;intro inv
    refine F_tk 9 inv ?_
    try simp only [tA,tB,tC,Act.put,tE,tF,tG]
    clear inv;intro inv
    refine F_tk 10 inv ?_
    try simp only [tA,tB,tC,Act.put,tE,tF,tG]
    clear inv;intro inv
    refine F_tk 11 inv ?_
    try simp only [tA,tB,tC,Act.put,tE,tF,tG]
    clear inv;intro inv
    refine F_tk 13 inv ?_
    try simp only [tA,tB,tC,Act.put,tE,tF,tG]
    clear inv;intro inv
    refine F_tk 14 inv ?_
    try simp only [tA,tB,tC,Act.put,tE,tF,tG]
    clear inv;intro inv
    refine F_o1 12 inv ?_;intro K hK
    try simp only [tA,tB,tC]
    go_simp
    refine (reads_any (eid,(ef:Int),(et:Int),el) false _ hl0 hl2).mono ?_
    rintro en wR ⟨rfl,hbR⟩
    have hbR:=below_trans (Below.refl wE.heap.size wE).drew hbR
    have hcR:=kcell hbR hcE
    have hfR:=kfb hbR hcE hfE
    have hsR:=hbR.size
    have HRX:=Hd_ (ownsRow_below HRO.out hbR (Nat.le_refl _))
    refine hK.out _ _ (kB5 hbR ⟨e0,e1,e2,e3,hcE⟩) (fun _ _=>?_)
    try simp only [tA,tB,tC,Act.put,tE,tF,tG]
    clear hK K inv hS;rename_i hS inv
    refine F_tk 15 inv ?_
    try simp only [tA,tB,tC,Act.put,tE,tF,tG]
    clear inv;intro inv
    refine F_o1 16 inv ?_;intro K hK
    try simp only [tA,tB,tC]
    go_simp
    refine hK.out _ _ (kA5 _ hS) (fun _ _=>?_)
    try simp only [tA,tB,tC,Act.put,tE,tF,tG]
    clear hK K inv hS;rename_i hS inv
    refine F_o1 17 inv ?_;intro K hK
    try simp only [tA,tB,tC]
    refine op_append1 cA elArc rfl _ _ (by rfl) gb hv1 row1 ((eid,false),arcLetter false (eid,(ef:Int),(et:Int),el),(et:Int)) 1 _ (by rfl) (HRX.out.alloc _) (by rfl) (heap_alloc_new _ _) rfl (cA_one _) (by omega) (by omega) (by simp;omega) ?_
    intro g2 cp2 w3 hown3 hgr3 hat3 hlt3
    have HO3:=Hd_ hown3
    have HG3:=Hd_ hgr3
    have HA3:=Hd_ hat3
    clear hown3 hgr3 hat3
    refine hK.out _ _ (kG5 HG3.out hne1 hne1 hne1 hne1 hne2 hS) (fun _ _=>?_)
    try simp only [tA,tB,tC,Act.put,tE,tF,tG]
    clear hK K inv hS;rename_i hS inv
    refine F_tk 18 inv ?_
    try simp only [tA,tB,tC,Act.put,tE,tF,tG]
    clear inv;intro inv
    have hcz:=HG3.out.cell (kcell ((Below.refl _ _).alloc (Nat.le_refl _) _) hcR) hne2
    have hfz:=kfg HG3.out (p:=⟨gb,ef,none⟩) hne2 (kcell ((Below.refl _ _).alloc (Nat.le_refl _) _) hcR) (kfb ((Below.refl _ _).alloc (Nat.le_refl _) _) hcR hfR)
    refine F_l1 19 ?_;intro K hK
    go_simp
    refine hK _ _ ?_
    clear hK K inv hS
    have hbA:Below wE.heap.size wE (wR.alloc (.cells #[.int .i64 eid,.bool false,.int .i64 (arcLetter false (eid,(ef:Int),(et:Int),el)),.int .i64 (et:Int)] 89)):=hbR.alloc hsR _
    have hrF:=Rws.push (HRE.out.below hbA) HHF.out HX1.out HO3.out HG3.out rfl HA3.out
    have hbF:Below w.heap.size w (w3.setCell ⟨gb,ef,none⟩ (.slice (some ⟨g2,0,none⟩) (row1.length+1) cp2)) :=
     ((HBE.out.trans (hbA.mono HBE.out.size)).grown HG3.out (Nat.le_trans HBE.out.size hbA.size) (fun b hb=>by have:=(HRX.out.lt b hb).1;omega)).setCell (by simp only;omega) _
    have f0:=(World.cell?_setCell_far w3 ⟨gb,ef,none⟩ ⟨wr.heap.size,0,none⟩ (.slice (some ⟨g2,0,none⟩) (row1.length+1) cp2) (Ne.symm hgE1)).trans (HG3.out.cell (kcell hbA e0) hne1)
    have f1:=(World.cell?_setCell_far w3 ⟨gb,ef,none⟩ ⟨wr.heap.size,1,none⟩ (.slice (some ⟨g2,0,none⟩) (row1.length+1) cp2) (Ne.symm hgE1)).trans (HG3.out.cell (kcell hbA e1) hne1)
    have f2:=(World.cell?_setCell_far w3 ⟨gb,ef,none⟩ ⟨wr.heap.size,2,none⟩ (.slice (some ⟨g2,0,none⟩) (row1.length+1) cp2) (Ne.symm hgE1)).trans (HG3.out.cell (kcell hbA e2) hne1)
    have f3:=(World.cell?_setCell_far w3 ⟨gb,ef,none⟩ ⟨wr.heap.size,3,none⟩ (.slice (some ⟨g2,0,none⟩) (row1.length+1) cp2) (Ne.symm hgE1)).trans (HG3.out.cell (kcell hbA e3) hne1)
    have hg23:some wr.heap.size ≠ (Value.slice (some ⟨g2,0,none⟩) (row1.length+1) cp2).ownBlock:=by
     simp only [Value.ownBlock,ne_eq,Option.some.injEq]
     intro e9;subst e9
     rcases HA3.out with h9 | h9
     · exact hne1 h9.symm
     · have:=hbA.size;omega
    rw [show (rowsTo g i).set ef (row1 ++ [((eid,false),arcLetter false (eid,(ef:Int),(et:Int),el),(et:Int))])=rowFrom g i (eid,(ef:Int),(et:Int),el) by rw [HROW1.out];rfl] at hrF
    generalize (w3.setCell ⟨gb,ef,none⟩ (.slice (some ⟨g2,0,none⟩) (row1.length+1) cp2))=wF at *
    have hethF:et < (hs.set ef (.slice (some ⟨g2,0,none⟩) (row1.length+1) cp2)).length:=by rw [List.length_set,HRE.out.len,rowsTo_len];omega
    have hhb:(hs.set ef (.slice (some ⟨g2,0,none⟩) (row1.length+1) cp2))[et]?=some (hs.set ef (.slice (some ⟨g2,0,none⟩) (row1.length+1) cp2))[et]:=List.getElem?_eq_getElem hethF
    generalize (hs.set ef (.slice (some ⟨g2,0,none⟩) (row1.length+1) cp2))[et]=hv2 at hhb
    have hx2:(rowFrom g i (eid,(ef:Int),(et:Int),el))[et]?=some (rowBack g i (eid,(ef:Int),(et:Int),el)):=by have:=rowFrom_at (g:=g) (i:=i) (e:=(eid,(ef:Int),(et:Int),el)) (by simp only;omega) (by simp only;omega) (by simp only;omega) (by simp only;omega);simpa using this
    have hne3:some wr.heap.size ≠ hv2.ownBlock:=by
     rw [List.getElem?_set] at hhb
     split at hhb
     · split at hhb
       · injection hhb with hhb;rw [<- hhb];exact hg23
       · cases hhb
     · exact HNER.out et hv2 hhb
    have hne4:some gb ≠ hv2.ownBlock:=Ne.symm (hrF.far _ _ hhb)
    have hcF:=hrF.cell hhb
    have hfF:=hrF.frozen et
    have hgF:=hrF.gLt.2
    have HRO2:=Hd_ (hrF.row et hv2 _ hhb hx2)
    have hlq:wr.heap.size < wF.heap.size:=World.block_lt_of_cell? wF _ f0
    have hrl2:(rowBack g i (eid,(ef:Int),(et:Int),el)).length<=25:=by
     have h1:=flat_len (arcE_len (et:Int)) (g.edges.take i)
     rw [List.length_take] at h1
     unfold rowBack
     rw [List.length_append]
     split
     · simp only [List.length_singleton];omega
     · simp only [List.length_nil];omega
    have HHB:=Hd_ hhb
    have HX2:=Hd_ hx2
    have HRF:=Hd_ hrF
    have HBF:=Hd_ hbF
    clear hhb hx2 hrF hbF hbA hethF
    obtain ⟨row2,hrow2⟩:∃ row2,row2=rowBack g i (eid,(ef:Int),(et:Int),el):=⟨_,rfl⟩
    rw [<- hrow2] at hrl2 HRO2 HX2
    have HROW2:=Hd_ hrow2
    clear hrow2 hcz hfz hbR hcR hfR hsR HRX HO3 HG3 HA3 e0 e1 e2 e3 hcE hfE hsE hgE HRE HBE hne1 hne2 HRO hrl HNER hg23 hlt3
    go_wp2_with fail
    refine F_start 19 (fun w'=>w'.cell? ⟨wr.heap.size,0,none⟩=some (.int .i64 eid)/\w'.cell? ⟨wr.heap.size,1,none⟩=some (.int .i64 (ef:Int))/\w'.cell? ⟨wr.heap.size,2,none⟩=some (.int .i64 (et:Int))/\w'.cell? ⟨wr.heap.size,3,none⟩=some (.int .i64 el)/\w'.cell? ⟨gb,et,none⟩=some hv2) (by kernel_rfl) (by exact ⟨f0,f1,f2,f3,hcF⟩) (fun hS inv=>?_)
    refine F_tk 0 inv ?_
    try simp only [tA,tB,tC,Act.put,tE,tF,tG]
    clear inv;intro inv
    refine F_tk 1 inv ?_
    try simp only [tA,tB,tC,Act.put,tE,tF,tG]
    clear inv;intro inv
    refine F_tk 2 inv ?_
    try simp only [tA,tB,tC,Act.put,tE,tF,tG]
    clear inv;intro inv
    refine F_tk 3 inv ?_
    try simp only [tA,tB,tC,Act.put,tE,tF,tG]
    clear inv;intro inv
    refine F_tk 4 inv ?_
    try simp only [tA,tB,tC,Act.put,tE,tF,tG]
    clear inv;intro inv
    refine F_tk 5 inv ?_
    try simp only [tA,tB,tC,Act.put,tE,tF,tG]
    clear inv;intro inv
    refine F_tk 6 inv ?_
    try simp only [tA,tB,tC,Act.put,tE,tF,tG]
    clear inv;intro inv
    refine F_tk 7 inv ?_
    try simp only [tA,tB,tC,Act.put,tE,tF,tG]
    clear inv;intro inv
    refine F_tk 8 inv ?_
    try simp only [tA,tB,tC,Act.put,tE,tF,tG]
    clear inv;intro inv
    refine F_tk 9 inv ?_
    try simp only [tA,tB,tC,Act.put,tE,tF,tG]
    clear inv;intro inv
    refine F_tk 10 inv ?_
    try simp only [tA,tB,tC,Act.put,tE,tF,tG]
    clear inv;intro inv
    refine F_tk 11 inv ?_
    try simp only [tA,tB,tC,Act.put,tE,tF,tG]
    clear inv;intro inv
    refine F_tk 13 inv ?_
    try simp only [tA,tB,tC,Act.put,tE,tF,tG]
    clear inv;intro inv
    refine F_tk 14 inv ?_
    try simp only [tA,tB,tC,Act.put,tE,tF,tG]
    clear inv;intro inv
    refine F_o1 12 inv ?_;intro K hK
    try simp only [tA,tB,tC]
    go_simp
    refine (reads_any (eid,(ef:Int),(et:Int),el) true _ hl0 hl2).mono ?_
    rintro en wS ⟨rfl,hbR⟩
    have hbR:=below_trans (Below.refl wF.heap.size wF).drew hbR
    have hcR:=kcell hbR hcF
    have hfR:=kfb hbR hcF hfF
    have hsR:=hbR.size
    have HRX:=Hd_ (ownsRow_below HRO2.out hbR (Nat.le_refl _))
    refine hK.out _ _ (kB5 hbR ⟨f0,f1,f2,f3,hcF⟩) (fun _ _=>?_)
    try simp only [tA,tB,tC,Act.put,tE,tF,tG]
    clear hK K inv hS;rename_i hS inv
    refine F_tk 15 inv ?_
    try simp only [tA,tB,tC,Act.put,tE,tF,tG]
    clear inv;intro inv
    refine F_o1 16 inv ?_;intro K hK
    try simp only [tA,tB,tC]
    go_simp
    refine hK.out _ _ (kA5 _ hS) (fun _ _=>?_)
    try simp only [tA,tB,tC,Act.put,tE,tF,tG]
    clear hK K inv hS;rename_i hS inv
    refine F_o1 17 inv ?_;intro K hK
    try simp only [tA,tB,tC]
    refine op_append1 cA elArc rfl _ _ (by rfl) gb hv2 row2 ((eid,true),arcLetter true (eid,(ef:Int),(et:Int),el),(ef:Int)) 1 _ (by rfl) (HRX.out.alloc _) (by rfl) (heap_alloc_new _ _) rfl (cA_one _) (by omega) (by omega) (by simp;omega) ?_
    intro g3 cp3 w4 hown3 hgr3 hat3 hlt3
    have HO3:=Hd_ hown3
    have HG3:=Hd_ hgr3
    have HA3:=Hd_ hat3
    clear hown3 hgr3 hat3
    refine hK.out _ _ (kG5 HG3.out hne3 hne3 hne3 hne3 hne4 hS) (fun _ _=>?_)
    try simp only [tA,tB,tC,Act.put,tE,tF,tG]
    clear hK K inv hS;rename_i hS inv
    refine F_tk 18 inv ?_
    try simp only [tA,tB,tC,Act.put,tE,tF,tG]
    clear inv;intro inv
    have hcz:=HG3.out.cell (kcell ((Below.refl _ _).alloc (Nat.le_refl _) _) hcR) hne4
    have hfz:=kfg HG3.out (p:=⟨gb,et,none⟩) hne4 (kcell ((Below.refl _ _).alloc (Nat.le_refl _) _) hcR) (kfb ((Below.refl _ _).alloc (Nat.le_refl _) _) hcR hfR)
    refine F_l1 19 ?_;intro K hK
    go_simp
    refine hK _ _ ?_
    clear hK K inv hS
    have hbA:Below wF.heap.size wF (wS.alloc (.cells #[.int .i64 eid,.bool true,.int .i64 (arcLetter true (eid,(ef:Int),(et:Int),el)),.int .i64 (ef:Int)] 89)):=hbR.alloc hsR _
    have hrG:=Rws.push (HRF.out.below hbA) HHB.out HX2.out HO3.out HG3.out rfl HA3.out
    have hbG:Below w.heap.size w (w4.setCell ⟨gb,et,none⟩ (.slice (some ⟨g3,0,none⟩) (row2.length+1) cp3)) :=
     ((HBF.out.trans (hbA.mono HBF.out.size)).grown HG3.out (Nat.le_trans HBF.out.size hbA.size) (fun b hb=>by have:=(HRX.out.lt b hb).1;omega)).setCell (by simp only;omega) _
    have hpush:=rowsTo_push (g:=g) HEI.out (by simp only;omega) (by simp only;omega) (by simp only;omega) (by simp only;omega)
    simp only [Int.toNat_natCast] at hpush
    rw [HROW2.out,hpush] at hrG
    have HRG:=Hd_ hrG
    have HBG:=Hd_ hbG
    clear hrG hbG hbA hpush hcz hfz hbR hcR hfR
    rw [<- HROW2.out] at HRG
    go_wp2_with fail
    go_roundw
    case rel=>exact ⟨i+1,_,by omega,by go_num,HRG.out,HBG.out⟩
    case measure=>simp [intOf];omega
  · obtain rfl:i=g.edges.length:=by omega
    have hs1:=hrow.sse cA_len (lo:=w.heap.size) (by omega) (by omega)
    have hln:hs.length=g.vals.length:=by rw [hrow.len,rowsTo_len]
    rw [rowsTo_all,hln] at hs1
    have HS1:=Hd_ hs1
    clear hrow hs1 hln
    go_wp2_with fail
    go_ret
    exact ⟨_,rfl,by rw [HR.out];exact HS1.out,hbel⟩
theorem SlI.arc {lo hi:Nat} {w:World} {A:Option Addr} {n c:Nat} {xs:List Arc} (h:SlI lo hi w cA 4 (.slice A n c) xs) {i:Nat} {y:Arc} (hx:xs[i]?=some y) :
 ∃ b o,A=some ⟨b,o,none⟩/\lo<=b/\b < hi/\w.cell? ⟨b,o+i * 4,none⟩=some (.int .i64 y.1.1)/\w.cell? ⟨b,o+i * 4+1,none⟩=some (.bool y.1.2)/\w.cell? ⟨b,o+i * 4+2,none⟩=some (.int .i64 y.2.1)/\w.cell? ⟨b,o+i * 4+3,none⟩=some (.int .i64 y.2.2):=by
 obtain ⟨A',c',hv,_,_,h3⟩:=h
 injection hv with h1 _ _
 subst h1
 obtain ⟨b,o,e,g1,g2,hc⟩:=h3 i y hx
 exact ⟨b,o,e,g1,g2,by simpa using hc 0 _ rfl,hc 1 _ rfl,hc 2 _ rfl,hc 3 _ rfl⟩
theorem elInts:ElemOk Tryz.prog 29 24 (.slice none 0 0) 1 24:=⟨Tryz.underlying29,by kernel_rfl,rfl,by omega⟩
set_option maxHeartbeats 8000000 in
set_option maxRecDepth 100000 in
theorem nextVertices_any (vg va:Value) (g:Gr) (a:Au) (w:World) (hgv:GrV 0 w.heap.size w vg g) (hav:AuV 0 w.heap.size w va a) (hg:GrOk g) (ha:auOk a=true) :
 Calls Tryz.prog 90 #[vg,va] w fun e w'=>∃ v',e=.returned v'/\SSE w.heap.size w'.heap.size w' cN 1 v' ((List.range (g.vals.length * a.accept.length)).map (nextI g a))/\Below w.heap.size w w':=by
 have hgv0:=hgv
 have hav0:=hav
 obtain ⟨A1,c1,A2,c2,rfl,hl1,hm1,hl2,hm2,hC1,-⟩:=hgv.form
 obtain ⟨A3,c3,A4,c4,rfl,hl3,hm3,hl4,hm4,-⟩:=hav.form ha
 have hn5:=hg.n5
 have hn12:=(auOk_iff.1 ha).1.2
 have hn1:=(auOk_iff.1 ha).1.1
 have HGO:=Hd_ hg
 have HAO:=Hd_ ha
 have HGV:=Hd_ hgv0
 have HAV:=Hd_ hav0
 have HC1:=Hd_ hC1
 clear hgv hav hgv0 hav0 hg ha hC1
 obtain ⟨R,hR⟩:∃ R,R=(List.range (g.vals.length * a.accept.length)).map (nextI g a):=⟨_,rfl⟩
 rw [<- hR]
 have HR:=Hd_ hR
 clear hR
 have hNm:g.vals.length * a.accept.length<=60:=by have:=Nat.mul_le_mul hn5 hn12;omega
 obtain ⟨N,hN⟩:∃ N,N=g.vals.length * a.accept.length:=⟨_,rfl⟩
 rw [<- hN] at hNm
 have q0:IntKind.i64.wrap ((a.accept.length:Int) * (g.vals.length:Int))=(N:Int):=by rw [IntWalk.i64_in _ (by rw [Int.mul_comm,<- Int.natCast_mul,<- hN];omega)];rw [hN,Int.natCast_mul,Int.mul_comm]
 have q0':(a.accept.length:Int) * (g.vals.length:Int)=(N:Int):=by rw [hN,Int.natCast_mul,Int.mul_comm]
 have HN:=Hd_ hN
 clear hN
 have hb0:Below w.heap.size w ((w.alloc (.cells #[.slice A1 g.vals.length c1,.slice A2 g.edges.length c2] 27)).alloc (.cells #[.int .i64 a.start,.slice A3 a.accept.length c3,.slice A4 a.accept.length c4] 31)):=((Below.refl _ _).alloc (Nat.le_refl _) _).alloc (by simp) _
 go_enter Tryz.func90,Tryz.ntmps90
 go_wp2_with (at_make;refine wpList_makeE (P:=Tryz.prog) cV (.slice none 0 0) elInts rfl rfl rfl _ _ rfl (w.heap.size+1+1) N (N:Int) (by first | rfl | simp [q0']) (by first | rfl | simp [q0']) rfl (by omega) (by unfold maxLen;omega) (by simp) ?_;intro w1 hrow1 hbel1
              have b0:=((Blk.new w 27 #[.slice A1 g.vals.length c1,.slice A2 g.edges.length c2] w.heap.size rfl).alloc (.cells #[.int .i64 a.start,.slice A3 a.accept.length c3,.slice A4 a.accept.length c4] 31)).below hbel1 (by simp <;> omega)
              have b1:=(Blk.new (w.alloc (.cells #[.slice A1 g.vals.length c1,.slice A2 g.edges.length c2] 27)) 31 #[.int .i64 a.start,.slice A3 a.accept.length c3,.slice A4 a.accept.length c4] (w.heap.size+1) (by simp)).below hbel1 (by simp <;> omega)
              have hb1:Below w.heap.size w w1:=hb0.trans (hbel1.mono (by simp <;> omega))
              simp only [World.size_alloc] at hrow1 ⊢
              have HROW1:=Hd_ hrow1
              have x0:w1.cell? ⟨w.heap.size,0,none⟩=some (.slice A1 g.vals.length c1):=b0.cell 0
              have x1:w1.cell? ⟨w.heap.size,1,none⟩=some (.slice A2 g.edges.length c2):=b0.cell 1
              have y0:w1.cell? ⟨w.heap.size+1,0,none⟩=some (.int .i64 a.start):=b1.cell 0
              have y1:w1.cell? ⟨w.heap.size+1,1,none⟩=some (.slice A3 a.accept.length c3):=b1.cell 1
              have y2:w1.cell? ⟨w.heap.size+1,2,none⟩=some (.slice A4 a.accept.length c4):=b1.cell 2
              clear hbel1 hrow1 b0 b1)
 refine (arcs_any _ g _ (HGV.out.keep hb1) HGO.out).mono ?_
 rintro e w2 ⟨v2,rfl,hsse,hb2⟩
 have hrw:=Rws.made (base:=w2.heap.size) (α:=Nat) (E:=cN) (k:=1) (rT:=3) (ownsRow_below HROW1.out hb2 (Nat.le_refl _))
 rw [<- fill_zero N (nextI g a)] at hrw
 have x0:=kcell hb2 x0
 have x1:=kcell hb2 x1
 have y0:=kcell hb2 y0
 have y1:=kcell hb2 y1
 have y2:=kcell hb2 y2
 have hgl:=hrw.gLt.2
 have hg1:w.heap.size+1+1 < w1.heap.size:=(HROW1.out.lt _ rfl).2
 obtain ⟨A5,c5,hv5,hl5,hm5⟩:=hsse.shape
 have hlen5:((List.range g.vals.length).map fun (x:Nat)=>arcsOf g (x:Int)).length=g.vals.length:=by simp
 rw [hlen5] at hv5 hl5
 subst hv5
 have hbw:=below_trans hb1 hb2
 have HRW:=Hd_ hrw
 have HSSE:=Hd_ hsse
 have hg9:w.heap.size+1 < w2.heap.size:=by omega
 clear hrw hsse hlen5 hb1 hb2
 generalize hgb:w.heap.size+1+1=gb at *
 have hgw:w.heap.size+1 < gb:=by omega
 clear hgb
 go_wp2_with fail
 go_loopw [26] (fun xx wr=>∃ (x:Nat) (hs:List Value),x<=g.vals.length/\xx=.int .i64 (x:Int)/\Rws wr w2.heap.size 24 3 cN 1 gb hs (fillTo N (nextI g a) (x * a.accept.length) [])/\Only gb (gb+1) w2 wr) (fun xx _=>g.vals.length - (intOf xx).toNat)
 case atStart=>exact ⟨0,_,Nat.zero_le _,rfl,by rw [Nat.zero_mul];exact HRW.out,Only.refl _ _ _⟩
 case round =>
  obtain ⟨x,hs,hx,rfl,hrw,hon⟩:=hrel
  have HRW:=Hd_ hrw
  clear hrw
  by_cases hlt:x < g.vals.length
  · obtain ⟨xn,hxn⟩:∃ xn,xn=x * a.accept.length:=⟨_,rfl⟩
    have hxn2:xn+a.accept.length<=N:=by rw [hxn,HN.out];have:=Nat.mul_le_mul_right a.accept.length (show x+1<=g.vals.length by omega);rw [Nat.succ_mul] at this;exact this
    rw [<- hxn] at HRW
    have q1:IntKind.i64.wrap ((x:Int) * (a.accept.length:Int))=(xn:Int):=by rw [IntWalk.i64_in _ (by rw [<- Int.natCast_mul,<- hxn];omega),hxn,Int.natCast_mul]
    have q1':(x:Int) * (a.accept.length:Int)=(xn:Int):=by rw [hxn,Int.natCast_mul]
    have HXN:=Hd_ hxn
    clear hxn
    obtain ⟨b5,o5,A6,c6,rfl,hlo5,hb5,d5,hl6,hm6,hI6,-⟩:=HSSE.out.row (Nat.le_refl _) (i:=x) (xs:=arcsOf g (x:Int)) (by simp [hlt])
    have d5:=ocell hon d5 hb5 (.inr (by omega))
    have hxi:g.vals[x]?=some g.vals[x]:=List.getElem?_eq_getElem hlt
    have hvr:=HGO.out.vals _ (List.getElem_mem hlt)
    generalize g.vals[x]=vx at hxi hvr
    obtain ⟨vx,rfl⟩:=Int.eq_ofNat_of_zero_le hvr.1
    have hva:=valAt_of hxi
    rw [Int.toNat_natCast] at hva
    obtain ⟨b1,o1,rfl,hbb1,dv⟩:=HC1.out.int hxi
    have dv2:=kcell hbw dv
    have hAL:=arcs_len HGO.out (x:Int)
    have HVA:=Hd_ hva
    have HI6:=Hd_ hI6
    clear hva hI6 hxi dv
    go_wp2_with fail
    go_loopw [9] (fun ss wr=>∃ (s:Nat) (hs:List Value),s<=a.accept.length/\ss=.int .i64 (s:Int)/\Rws wr w2.heap.size 24 3 cN 1 gb hs (fillTo N (nextI g a) (xn+s) [])/\Only gb (gb+1) w2 wr) (fun ss _=>a.accept.length - (intOf ss).toNat)
    case atStart=>exact ⟨0,_,Nat.zero_le _,rfl,HRW.out,hon⟩
    case round =>
     clear d5 hon HRW
     obtain ⟨s,hs,hs1,rfl,hrw,hon⟩:=hrel
     have HRW:=Hd_ hrw
     clear hrw
     by_cases hlt2:s < a.accept.length
     · have hs12:s < 12:=by omega
       have hix:xn+s < N:=by omega
       have q2:IntKind.i64.wrap ((xn:Int)+(s:Int))=(xn:Int)+(s:Int):=IntWalk.i64_in _ (by omega)
       have q2a:(0:Int)<=(xn:Int)+(s:Int):=by omega
       have q2b:(xn:Int)+(s:Int) < (N:Int):=by omega
       have q2c:((xn:Int)+(s:Int)).toNat=xn+s:=by omega
       go_wp2_with fail
       go_loopw [38] (fun jj wr=>∃ (j:Nat) (hs:List Value),j<=(arcsOf g (x:Int)).length/\jj=.int .i64 (j:Int)/\Rws wr w2.heap.size 24 3 cN 1 gb hs (fillTo N (nextI g a) (xn+s) (((arcsOf g (x:Int)).take j).flatMap (nextA g a x s)))/\Only gb (gb+1) w2 wr) (fun jj _=>(arcsOf g (x:Int)).length - (intOf jj).toNat)
       case atStart=>exact ⟨0,_,Nat.zero_le _,rfl,HRW.out,hon⟩
       case round =>
        clear hon HRW
        obtain ⟨j,hs,hj,rfl,hrw,hon⟩:=hrel
        have HRW:=Hd_ hrw
        clear hrw
        by_cases hlt3:j < (arcsOf g (x:Int)).length
        · have hyj:(arcsOf g (x:Int))[j]?=some (arcsOf g (x:Int))[j]:=List.getElem?_eq_getElem hlt3
          have hyr:=arc_range HGO.out (List.getElem_mem hlt3)
          generalize (arcsOf g (x:Int))[j]=y at hyj hyr
          obtain ⟨⟨yid,yinv⟩,yl,yt⟩:=y
          simp only at hyr
          obtain ⟨⟨hyl0,hyl5⟩,hyt0,hyt1⟩:=hyr
          obtain ⟨yl,rfl⟩:=Int.eq_ofNat_of_zero_le hyl0
          obtain ⟨yt,rfl⟩:=Int.eq_ofNat_of_zero_le hyt0
          obtain ⟨b6,o6,rfl,hlo6,hb6,z0,z1,z2,z3⟩:=HI6.out.arc hyj
          have z0:=ocell hon z0 hb6 (.inr (by omega))
          have z1:=ocell hon z1 hb6 (.inr (by omega))
          have z2:=ocell hon z2 hb6 (.inr (by omega))
          have z3:=ocell hon z3 hb6 (.inr (by omega))
          have HYJ:=Hd_ hyj
          clear hyj
          go_wp2_with fail
          have e2:(wr.alloc (.cells #[.int .i64 yid,.bool yinv,.int .i64 (yl:Int),.int .i64 (yt:Int)] 89)).cell? ⟨wr.heap.size,2,none⟩=some (.int .i64 (yl:Int)):=by simp
          have e3:(wr.alloc (.cells #[.int .i64 yid,.bool yinv,.int .i64 (yl:Int),.int .i64 (yt:Int)] 89)).cell? ⟨wr.heap.size,3,none⟩=some (.int .i64 (yt:Int)):=by simp
          generalize hW:(wr.alloc (.cells #[.int .i64 yid,.bool yinv,.int .i64 (yl:Int),.int .i64 (yt:Int)] 89))=wE at e2 e3 ⊢
          have hbE:Below wr.heap.size wr wE:=by rw [<- hW];exact (Below.refl _ _).alloc (Nat.le_refl _) _
          have hsE:wr.heap.size < wE.heap.size:=by rw [<- hW];simp
          have hsW:=hon.size
          have yE0:=kcell hbE (ocell hon y0 hg9 (.inl (by omega)))
          have yE1:=kcell hbE (ocell hon y1 hg9 (.inl (by omega)))
          have yE2:=kcell hbE (ocell hon y2 hg9 (.inl (by omega)))
          have xE0:=kcell hbE (ocell hon x0 (by omega) (.inl (by omega)))
          have dE:=kcell hbE (ocell hon dv2 (Nat.lt_of_lt_of_le hbb1 (by omega)) (.inl (by omega)))
          have hbwE:Below w.heap.size w wE:=below_trans (hbw.trans (hon.below (by omega) (by omega))) hbE
          have HRE:=Hd_ (HRW.out.below hbE)
          have HBWE:=Hd_ hbwE
          have HNB:=Hd_ (show ∀ (i:Nat) (hv:Value),hs[i]?=some hv->∀ b,hv.ownBlock=some b->b < wr.heap.size from fun i hv hi b hb=>by
           have hjx:i < (fillTo N (nextI g a) (xn+s) (((arcsOf g (x:Int)).take j).flatMap (nextA g a x s))).length:=by rw [<- HRW.out.len];exact (List.getElem?_eq_some_iff.1 hi).1
           exact ((HRW.out.row i hv _ hi (List.getElem?_eq_getElem hjx)).lt _ hb).2)
          have hfl:=aft_lt HAO.out (bit s) vx yl
          have hfl4:=lt12 HAO.out hfl
          have s1:=shl_bit (s:=s) (by omega)
          have s2:=shl_bit2 (s:=s) (by omega)
          have s3:=shl_bit3 (s:=s) (by omega)
          have HFL:=Hd_ hfl
          clear hW z0 z1 z2 z3 HRW hbwE hfl
          go_region_held3 (fun w'=>w'.cell? ⟨w.heap.size+1,0,none⟩=some (.int .i64 a.start)/\w'.cell? ⟨w.heap.size+1,1,none⟩=some (.slice A3 a.accept.length c3)/\w'.cell? ⟨w.heap.size+1,2,none⟩=some (.slice A4 a.accept.length c4)/\w'.cell? ⟨w.heap.size,0,none⟩=some (.slice (some ⟨b1,o1,none⟩) g.vals.length c1)/\w'.cell? ⟨b1,o1+x,none⟩=some (.int .i64 (vx:Int))/\w'.cell? ⟨wr.heap.size,2,none⟩=some (.int .i64 (yl:Int)))
           (first | (exact ⟨yE0,yE1,yE2,xE0,dE,e2⟩) | (exact kB6 hbA (by assumption)) | (exact kB6 hbM (by assumption)))
           (first | (go_at_call 83;refine (after_any _ a (bit s) vx yl _ (AuV.keep (w':=wE.drew) HAV.out HBWE.out.drew) HAO.out (bit_lt hlt2) (by omega) (by omega)).mono ?_;rintro e wA ⟨rfl,hbA⟩) | (go_at_call 100;refine (members_any (aft a (bit s) vx yl) _ hfl4).mono ?_;rintro e wM ⟨vM,rfl,hoM,hbM⟩;obtain ⟨A7,c7,rfl,hl7,hm7,-⟩:=hoM.form cN_len))
          have hbX:Below wE.heap.size wE wM:=below_trans (below_trans (Below.refl wE.heap.size wE).drew hbA) hbM
          have hM:=hoM.form cN_len
          have hoI:=hoM.sl cN_len
          rename_i hh
          have e3M:=kcell hbX e3
          have hsM:=hbX.size
          have hmA:wE.heap.size<=wA.heap.size:=hbA.size
          have HRM:=Hd_ (HRE.out.below hbX)
          have HONM:=Hd_ (((hon.trans (Only.of_below hbE gb (gb+1))).trans (Only.of_below hbX gb (gb+1))))
          have HOI:=Hd_ (hoI.mono hmA (Nat.le_refl _))
          have hml7:=mem_len 12 (aft a (bit s) vx yl)
          have HNA:=Hd_ (show nextA g a x s ((yid,yinv),(yl:Int),(yt:Int))=(mem 12 (aft a (bit s) vx yl)).map fun t=>yt * a.accept.length+t by rw [nextA,HVA.out];simp)
          have hytn:yt * a.accept.length+a.accept.length<=N:=by rw [HN.out];have:=Nat.mul_le_mul_right a.accept.length (show yt+1<=g.vals.length by omega);rw [Nat.succ_mul] at this;exact this
          obtain ⟨yn,hyn⟩:∃ yn,yn=yt * a.accept.length:=⟨_,rfl⟩
          rw [<- hyn] at hytn HNA
          have q3:IntKind.i64.wrap ((yt:Int) * (a.accept.length:Int))=(yn:Int):=by rw [IntWalk.i64_in _ (by rw [<- Int.natCast_mul,<- hyn];omega),hyn,Int.natCast_mul]
          have q3':(yt:Int) * (a.accept.length:Int)=(yn:Int):=by rw [hyn,Int.natCast_mul]
          obtain ⟨ms,hms⟩:∃ ms,ms=mem 12 (aft a (bit s) vx yl):=⟨_,rfl⟩
          have hmsn:∀ t ∈ ms,t < a.accept.length:=fun t ht=>by rw [hms] at ht;exact bit_in HFL.out (mem_mem.1 ht).2
          rw [<- hms] at HOI HNA hml7 hl7
          have HMS:=Hd_ hmsn
          obtain ⟨cur,hcur⟩:∃ cur,cur=((arcsOf g (x:Int)).take j).flatMap (nextA g a x s):=⟨_,rfl⟩
          have hcl:cur.length<=288:=by
           have h1:∀ y,(nextA g a x s y).length<=12:=fun y=>by rw [nextA,List.length_map];exact mem_len _ _
           have h2:=flat_len h1 ((arcsOf g (x:Int)).take j)
           rw [List.length_take] at h2
           rw [hcur];omega
          rw [<- hcur] at HRM
          have hix2:∀ hv,hs[xn+s]?=some hv->∀ b,hv.ownBlock=some b->b < wr.heap.size ∨ wM.heap.size<=b:=fun hv hi b hb=>by
           have hr:=HRE.out.row (xn+s) hv _ hi (fill_cur (cur:=((arcsOf g (x:Int)).take j).flatMap (nextA g a x s)) hix)
           exact .inl (HNB.out _ _ hi _ hb)
          have HIX:=Hd_ hix2
          have HCUR:=Hd_ hcur
          rw [<- hms]
          have HMQ:=Hd_ hms
          have hgr:=hon.size
          clear hbA hbM hoM hh hM hoI hbX hon hbE HRE HBWE yE0 yE1 yE2 xE0 dE e2 e3 s1 s2 s3 hyn hms hcur hix2 hfl4 hmsn
          go_wp2_with fail
          obtain ⟨wo,rfl⟩:∃ wo:World,wo=wr:=⟨_,rfl⟩
          go_loopw [55] (fun kk w'=>∃ (k:Nat) (hs:List Value),k<=ms.length/\kk=.int .i64 (k:Int)/\Rws w' w2.heap.size 24 3 cN 1 gb hs (fillTo N (nextI g a) (xn+s) (cur ++ (ms.take k).map (fun t=>yn+t)))/\Only gb (gb+1) w2 w'/\Only 0 wo.heap.size wM w' /\
           (∀ hv,hs[xn+s]?=some hv->∀ b,hv.ownBlock=some b->b < wo.heap.size ∨ wM.heap.size<=b)) (fun kk _=>ms.length - (intOf kk).toNat)
          case atStart=>exact ⟨0,_,Nat.zero_le _,rfl,by simpa using HRM.out,HONM.out,Only.refl _ _ _,HIX.out⟩
          case round =>
           clear HRM HONM HIX
           obtain ⟨k,hs,hk,rfl,hrw,hon,hon2,hix2⟩:=hrel
           have HRW:=Hd_ hrw
           have HIX:=Hd_ hix2
           clear hrw hix2
           by_cases hlt4:k < ms.length
           · have hti:ms[k]?=some ms[k]:=List.getElem?_eq_getElem hlt4
             have htn:=HMS.out _ (List.getElem_mem hlt4)
             generalize ms[k]=t at hti htn
             obtain ⟨b7,o7,rfl,hlo7,hb7,d7⟩:=(HOI.out.only hon2 (Nat.le_refl _) (.inr (Nat.le_of_lt hsE))).nat hti
             have hb7w:=Nat.lt_of_lt_of_le hb7 hon2.size
             have f3:=ocell hon2 e3M (Nat.lt_of_lt_of_le hsE hsM) (.inr (Nat.le_refl _))
             have hil:xn+s < hs.length:=by rw [HRW.out.len,fill_len];exact hix
             have hhi:hs[xn+s]?=some hs[xn+s]:=List.getElem?_eq_getElem hil
             generalize hs[xn+s]=hv at hhi
             have hcv:=HRW.out.cell hhi
             have hfv:=HRW.out.frozen (xn+s)
             have hro:=HRW.out.row (xn+s) hv _ hhi (fill_cur hix)
             have hgw2:=HRW.out.gLt.2
             have hne1:some gb ≠ hv.ownBlock:=Ne.symm (HRW.out.far _ _ hhi)
             have hne2:some wo.heap.size ≠ hv.ownBlock:=fun e9=>by
              have:=HIX.out hv hhi _ e9.symm
              omega
             have hneg:wo.heap.size ≠ gb:=by omega
             obtain ⟨row,hrow⟩:∃ row,row=cur ++ (ms.take k).map (fun t=>yn+t):=⟨_,rfl⟩
             have hrl:row.length<=300:=by rw [hrow,List.length_append,List.length_map,List.length_take];omega
             rw [<- hrow] at hro
             have HRO:=Hd_ hro
             have HROW:=Hd_ hrow
             have HTI:=Hd_ hti
             have HHI:=Hd_ hhi
             have HNE1:=Hd_ hne1
             have HNE2:=Hd_ hne2
             have q4:IntKind.i64.wrap ((yn:Int)+(t:Int))=(yn:Int)+(t:Int):=IntWalk.i64_in _ (by omega)
             have hsw2:=hon.size
             have q5:IntKind.i64.wrap (xn:Int)=(xn:Int):=IntWalk.i64_in _ (by omega)
             have q6:IntKind.i64.wrap (yn:Int)=(yn:Int):=IntWalk.i64_in _ (by omega)
             clear hro hrow hti hhi hne1 hne2
             go_wp2_with fail
             refine F_start 23 (fun w'=>w'.cell? ⟨gb,xn+s,none⟩=some hv/\w'.cell? ⟨wo.heap.size,3,none⟩=some (.int .i64 (yt:Int))) (by kernel_rfl) (by exact ⟨hcv,f3⟩) (fun hS inv=>?_)
             refine F_tk 0 inv ?_
             try simp only [tA,tB,tC,Act.put,tE,tF,tG]
             clear inv;intro inv
             refine F_tk 1 inv ?_
             try simp only [tA,tB,tC,Act.put,tE,tF,tG]
             clear inv;intro inv
             refine F_tk 2 inv ?_
             try simp only [tA,tB,tC,Act.put,tE,tF,tG]
             clear inv;intro inv
             refine F_tk 3 inv ?_
             try simp only [tA,tB,tC,Act.put,tE,tF,tG]
             clear inv;intro inv
             refine F_tk 4 inv ?_
             try simp only [tA,tB,tC,Act.put,tE,tF,tG]
             clear inv;intro inv
             refine F_tk 5 inv ?_
             try simp only [tA,tB,tC,Act.put,tE,tF,tG]
             clear inv;intro inv
             refine F_tk 6 inv ?_
             try simp only [tA,tB,tC,Act.put,tE,tF,tG]
             clear inv;intro inv
             refine F_tk 7 inv ?_
             try simp only [tA,tB,tC,Act.put,tE,tF,tG]
             clear inv;intro inv
             refine F_tk 8 inv ?_
             try simp only [tA,tB,tC,Act.put,tE,tF,tG]
             clear inv;intro inv
             refine F_tk 9 inv ?_
             try simp only [tA,tB,tC,Act.put,tE,tF,tG]
             clear inv;intro inv
             refine F_tk 10 inv ?_
             try simp only [tA,tB,tC,Act.put,tE,tF,tG]
             clear inv;intro inv
             refine F_tk 11 inv ?_
             try simp only [tA,tB,tC,Act.put,tE,tF,tG]
             clear inv;intro inv
             refine F_tk 12 inv ?_
             try simp only [tA,tB,tC,Act.put,tE,tF,tG]
             clear inv;intro inv
             refine F_tk 13 inv ?_
             try simp only [tA,tB,tC,Act.put,tE,tF,tG]
             clear inv;intro inv
             refine F_tk 14 inv ?_
             try simp only [tA,tB,tC,Act.put,tE,tF,tG]
             clear inv;intro inv
             refine F_tk 15 inv ?_
             try simp only [tA,tB,tC,Act.put,tE,tF,tG]
             clear inv;intro inv
             refine F_tk 16 inv ?_
             try simp only [tA,tB,tC,Act.put,tE,tF,tG]
             clear inv;intro inv
             refine F_tk 17 inv ?_
             try simp only [tA,tB,tC,Act.put,tE,tF,tG]
             clear inv;intro inv
             refine F_tk 18 inv ?_
             try simp only [tA,tB,tC,Act.put,tE,tF,tG]
             clear inv;intro inv
             refine F_tk 19 inv ?_
             try simp only [tA,tB,tC,Act.put,tE,tF,tG]
             clear inv;intro inv
             refine F_o1 20 inv ?_;intro K hK
             try simp only [tA,tB,tC]
             go_simp
             refine hK.out _ _ (kA2 _ hS) (fun _ _=>?_)
             try simp only [tA,tB,tC,Act.put,tE,tF,tG]
             clear hK K inv hS;rename_i hS inv
             refine F_o1 21 inv ?_;intro K hK
             try simp only [tA,tB,tC]
             refine op_append1 cN elInt rfl _ _ (by rfl) w2.heap.size hv row (yn+t) 1 _ (by rfl) (HRO.out.alloc _) (by first | rfl | simp) (heap_alloc_new _ _) rfl (cN_one _) (by omega) (by omega) (by simp;omega) ?_
             intro g2 cp2 w3 hown3 hgr3 hat3 hlt3
             have HO3:=Hd_ hown3
             have HG3:=Hd_ hgr3
             have HA3:=Hd_ hat3
             clear hown3 hgr3 hat3
             refine hK.out _ _ (kG2 HG3.out HNE1.out HNE2.out hS) (fun _ _=>?_)
             try simp only [tA,tB,tC,Act.put,tE,tF,tG]
             clear hK K inv hS;rename_i hS inv
             refine F_tk 22 inv ?_
             try simp only [tA,tB,tC,Act.put,tE,tF,tG]
             clear inv;intro inv
             have hcz:=HG3.out.cell (kcell ((Below.refl _ _).alloc (Nat.le_refl _) _) hcv) HNE1.out
             have hfz:=kfg HG3.out (p:=⟨gb,xn+s,none⟩) HNE1.out (kcell ((Below.refl _ _).alloc (Nat.le_refl _) _) hcv) (kfb ((Below.refl _ _).alloc (Nat.le_refl _) _) hcv hfv)
             refine F_l1 23 ?_;intro K hK
             go_simp
             refine hK _ _ ?_
             clear hK K inv hS
             have hrF:=Rws.push (HRW.out.below (w':=wr.drew.alloc (.cells #[.int .i64 ((yn:Int)+(t:Int))] 3)) ((Below.refl _ _).drew.alloc (Nat.le_refl _) _)) HHI.out (by rw [<- HROW.out];exact fill_cur hix) HO3.out HG3.out rfl HA3.out
             rw [fill_push _ hix] at hrF
             have hpF:row ++ [yn+t]=cur ++ (ms.take (k+1)).map (fun t=>yn+t):=by rw [HROW.out,take_snoc HTI.out,List.map_append,List.append_assoc];rfl
             rw [hpF] at hrF
             have hon3:=Only.pushed (lo:=gb) (hi:=gb+1) (u:=.slice (some ⟨g2,0,none⟩) (row.length+1) cp2) (i:=xn+s) (g:=gb) ((hon.drew).alloc (.cells #[.int .i64 ((yn:Int)+(t:Int))] 3)) HG3.out (fun b hb=>.inr (HRO.out.lt b hb).1) (.inl ⟨Nat.le_refl _,Nat.lt_succ_self _⟩)
             have hon4:=Only.pushed (lo:=0) (hi:=wo.heap.size) (u:=.slice (some ⟨g2,0,none⟩) (row.length+1) cp2) (i:=xn+s) (g:=gb) ((hon2.drew).alloc (.cells #[.int .i64 ((yn:Int)+(t:Int))] 3)) HG3.out (fun b hb=>(HIX.out hv HHI.out b hb).imp (fun h=>⟨Nat.zero_le _,h⟩) id) (.inl ⟨Nat.zero_le _,by omega⟩)
             have hixF:∀ hv',(hs.set (xn+s) (.slice (some ⟨g2,0,none⟩) (row.length+1) cp2))[xn+s]?=some hv'->∀ b,hv'.ownBlock=some b->b < wo.heap.size ∨ wM.heap.size<=b:=fun hv' hi b hb=>by
              rw [List.getElem?_set,if_pos rfl,if_pos hil] at hi
              injection hi with hi
              subst hi
              injection hb with hb
              subst hb
              rcases HA3.out with h9 | h9
              · exact HIX.out hv HHI.out _ h9
              · have:=hon2.size
                simp at h9
                exact .inr (show wM.heap.size<=g2 by omega)
             have HRF:=Hd_ hrF
             have HO5:=Hd_ hon3
             have HO6:=Hd_ hon4
             have HIXF:=Hd_ hixF
             clear hrF hpF hon3 hon4 hixF hcz hfz
             go_wp2_with fail
             go_roundw
             case rel=>exact ⟨k+1,_,by omega,by go_num,HRF.out,HO5.out,HO6.out,HIXF.out⟩
             case measure=>simp [intOf];omega
           · obtain rfl:k=ms.length:=by omega
             have hall:cur ++ (ms.take ms.length).map (fun t=>yn+t)=((arcsOf g (x:Int)).take (j+1)).flatMap (nextA g a x s):=by rw [List.take_length,flat_take HYJ.out,<- HCUR.out,HNA.out]
             rw [hall] at HRW
             clear hall
             go_wp2_with fail
             go_roundw
             case rel=>exact ⟨j+1,_,by omega,by go_num,HRW.out,hon⟩
             case measure=>simp [intOf];omega
        · obtain rfl:j=(arcsOf g (x:Int)).length:=by omega
          have hall:((arcsOf g (x:Int)).take (arcsOf g (x:Int)).length).flatMap (nextA g a x s)=nextI g a (xn+s):=by rw [List.take_length,HXN.out,nextI_at hlt2];rfl
          rw [hall,fill_next] at HRW
          clear hall
          go_wp2_with fail
          go_roundw
          case rel=>exact ⟨s+1,_,by omega,by go_num,HRW.out,hon⟩
          case measure=>simp [intOf];omega
     · obtain rfl:s=a.accept.length:=by omega
       have hall:xn+a.accept.length=(x+1) * a.accept.length:=by rw [HXN.out,Nat.succ_mul]
       rw [hall] at HRW
       clear hall
       go_wp2_with fail
       go_roundw
       case rel=>exact ⟨x+1,_,by omega,by go_num,HRW.out,hon⟩
       case measure=>simp [intOf];omega
  · obtain rfl:x=g.vals.length:=by omega
    have hs1:=HRW.out
    rw [<- HN.out,fill_all] at hs1
    have hln:hs.length=N:=by rw [hs1.len];simp
    have hs2:=hs1.sse cN_len (lo:=w.heap.size) (by omega) (by omega)
    rw [hln] at hs2
    have HS2:=Hd_ hs2
    have HBF:=Hd_ (hbw.trans (hon.below (B:=w.heap.size) (by omega) (by omega)))
    clear hs1 hs2 hln
    go_wp2_with fail
    go_ret
    exact ⟨_,rfl,by rw [HR.out,<- HN.out];exact HS2.out,HBF.out⟩
theorem elIntsT:ElemOk Tryz.prog 29 24 (.slice none 0 0) 1 24:=⟨Tryz.underlying29,by kernel_rfl,rfl,by omega⟩
theorem turn_row_len {N i k M:Nat} {next:Nat->List Nat} {cur row:List Nat} (h:k < N) (hr:(turnTo N next i cur)[k]?=some row) (hn:∀ m,m < i->(next m).length<=M) (hc:cur.length<=M):row.length<=(i+1) * M:=by
 rw [turn_at h] at hr
 injection hr with hr
 rw [<- hr,List.length_append]
 have h1:∀ (l:List Nat) (f:Nat->Option Nat),(l.filterMap f).length<=l.length:=fun l f=>List.length_filterMap_le f l
 have h2:∀ j,j<=i->((List.range j).flatMap fun m=>(next m).filterMap fun x=>if x=k then some m else none).length<=j * M:=by
  intro j
  induction j with
  | zero=>intro _;simp
  | succ j ih =>
    intro hj
    rw [List.range_succ,List.flatMap_append,List.length_append,Nat.succ_mul]
    have h3:=ih (by omega)
    have h4:=h1 (next j) (fun x=>if x=k then some j else none)
    have h5:=hn j (by omega)
    simp only [List.flatMap_cons,List.flatMap_nil,List.append_nil]
    omega
 have h6:=h2 i (Nat.le_refl _)
 have h7:=h1 cur (fun x=>if x=k then some i else none)
 rw [Nat.succ_mul]
 omega
set_option maxHeartbeats 4000000 in
set_option maxRecDepth 100000 in
theorem turned_any (v:Value) (N:Nat) (next:Nat->List Nat) (w:World) (hv:SSE 0 w.heap.size w cN 1 v ((List.range N).map next)) (hN:N<=60) (hnext:∀ i,i < N->(next i).length<=288/\∀ k ∈ next i,k < N) :
 Calls Tryz.prog 89 #[v] w fun e w'=>∃ v',e=.returned v'/\SSE w.heap.size w'.heap.size w' cN 1 v' ((List.range N).map (turnL N next))/\Below w.heap.size w w':=by
 obtain ⟨A5,c5,hv5,hl5,hm5⟩:=hv.shape
 have hlen5:((List.range N).map next).length=N:=by simp
 rw [hlen5] at hv5 hl5
 subst hv5
 have HV:=Hd_ hv
 have HNX:=Hd_ hnext
 clear hv hnext hlen5
 obtain ⟨R,hR⟩:∃ R,R=(List.range N).map (turnL N next):=⟨_,rfl⟩
 rw [<- hR]
 have HR:=Hd_ hR
 clear hR
 go_enter Tryz.func89,Tryz.ntmps89
 go_wp2_with (at_make;refine wpList_makeE (P:=Tryz.prog) cV (.slice none 0 0) elIntsT rfl rfl rfl _ _ rfl w.heap.size N _ (by rfl) (by rfl) rfl (by omega) (by unfold maxLen;omega) (by simp) ?_;intro w1 hrow1 hbel1
              have hrw:=Rws.made (base:=w.heap.size) (α:=Nat) (E:=cN) (k:=1) (rT:=3) hrow1
              rw [<- turn_zero N next] at hrw
              have HRW:=Hd_ hrw
              have hg1:=hrw.gLt.2
              clear hrow1 hrw)
 generalize hgb:w.heap.size=gb at *
 have HGB:=Hd_ hgb
 clear hgb
 go_loopw [13] (fun ii wr=>∃ (i:Nat) (hs:List Value),i<=N/\ii=.int .i64 (i:Int)/\Rws wr gb 24 3 cN 1 gb hs (turnTo N next i [])/\Below gb w wr) (fun ii _=>N - (intOf ii).toNat)
 case atStart=>exact ⟨0,_,Nat.zero_le _,rfl,HRW.out,hbel1⟩
 case round =>
  clear HRW hbel1
  obtain ⟨i,hs,hi,rfl,hrw,hbel⟩:=hrel
  have HRW:=Hd_ hrw
  clear hrw
  by_cases hlt:i < N
  · obtain ⟨b5,o5,A6,c6,rfl,-,hb5,d5,hl6,hm6,hI6,-⟩:=HV.out.row (by rw [HGB.out];exact Nat.le_refl _) (i:=i) (xs:=next i) (by simp [hlt])
    have d5:=(hbel.cell (p:=⟨b5,o5+i,none⟩) hb5).trans d5
    have hni:=HNX.out i hlt
    have HI6:=Hd_ hI6
    obtain ⟨hnl,hnk⟩:=hni
    have HNK:=Hd_ hnk
    clear hI6 hnk
    go_wp2_with fail
    go_loopw [20] (fun jj wr=>∃ (j:Nat) (hs:List Value),j<=(next i).length/\jj=.int .i64 (j:Int)/\Rws wr gb 24 3 cN 1 gb hs (turnTo N next i ((next i).take j))/\Below gb w wr) (fun jj _=>(next i).length - (intOf jj).toNat)
    case atStart=>exact ⟨0,_,Nat.zero_le _,rfl,HRW.out,hbel⟩
    case round =>
     clear d5 HRW hbel
     obtain ⟨j,hs,hj,rfl,hrw,hbel⟩:=hrel
     have HRW:=Hd_ hrw
     clear hrw
     by_cases hlt2:j < (next i).length
     · have hki:(next i)[j]?=some (next i)[j]:=List.getElem?_eq_getElem hlt2
       have hkn:=HNK.out _ (List.getElem_mem hlt2)
       generalize (next i)[j]=k at hki hkn
       obtain ⟨b7,o7,rfl,-,hb7,d7⟩:=HI6.out.nat hki
       have d7:=(hbel.cell (p:=⟨b7,o7+j,none⟩) hb7).trans d7
       have hb7w:=Nat.lt_trans hb7 HRW.out.gLt.2
       have hil:k < hs.length:=by rw [HRW.out.len,turn_len];exact hkn
       have hhi:hs[k]?=some hs[k]:=List.getElem?_eq_getElem hil
       generalize hs[k]=hv at hhi
       have hcv:=HRW.out.cell hhi
       have hfv:=HRW.out.frozen k
       have hxr:k < (turnTo N next i ((next i).take j)).length:=by rw [turn_len];exact hkn
       have hxk:(turnTo N next i ((next i).take j))[k]?=some (turnTo N next i ((next i).take j))[k]:=List.getElem?_eq_getElem hxr
       generalize (turnTo N next i ((next i).take j))[k]=row at hxk
       have hrl:row.length<=100000:=by
        have h1:=turn_row_len hkn hxk (M:=288) (fun m hm=>(HNX.out m (by omega)).1) (by rw [List.length_take];omega)
        have h2:=Nat.mul_le_mul_right 288 (show i+1<=60 by omega)
        omega
       have hro:=HRW.out.row k hv row hhi hxk
       have hgw:=HRW.out.gLt.2
       have hne1:some gb ≠ hv.ownBlock:=Ne.symm (HRW.out.far _ _ hhi)
       have HRO:=Hd_ hro
       have HHI:=Hd_ hhi
       have HXK:=Hd_ hxk
       have HKI:=Hd_ hki
       have HNE1:=Hd_ hne1
       clear hro hhi hxk hki hne1
       have hkN:(k:Int) < (N:Int):=by omega
       have hsw:=hbel.size
       rw [HGB.out] at hsw
       go_wp2_with (at_builtin;(refine wpList_append2 cN elInt rfl _ _ rfl gb hv row i 1 _ (by rfl) (HRO.out.alloc _) (by rfl) (heap_alloc_new _ _) rfl (cN_one _) (by omega) (by omega) (by simp;omega) ?_);intro g2 cp2 w3 hown3 hgr3 hat3 hlt3
                    have hcz:=hgr3.cell (kcell ((Below.refl _ _).alloc (Nat.le_refl _) _) hcv) HNE1.out
                    have hfz:=kfg hgr3 (p:=⟨gb,k,none⟩) HNE1.out (kcell ((Below.refl _ _).alloc (Nat.le_refl _) _) hcv) (kfb ((Below.refl _ _).alloc (Nat.le_refl _) _) hcv hfv)
                    have HO3:=Hd_ hown3
                    have HG3:=Hd_ hgr3
                    have HA3:=Hd_ hat3
                    clear hown3 hgr3 hat3)
       have hrF:=Rws.push (HRW.out.below (w':=wr.alloc (.cells #[.int .i64 (i:Int)] 3)) ((Below.refl _ _).alloc (Nat.le_refl _) _)) HHI.out HXK.out HO3.out HG3.out rfl HA3.out
       rw [turn_push hkn HXK.out,<- take_snoc HKI.out] at hrF
       have hbF:Below gb w (w3.setCell ⟨gb,k,none⟩ (.slice (some ⟨g2,0,none⟩) (row.length+1) cp2)) :=
        ((hbel.alloc (by omega) _).grown HG3.out (by simp;omega) (fun b hb=>(HRO.out.lt b hb).1)).setCell (Nat.le_refl _) _
       have HRF:=Hd_ hrF
       have HBF:=Hd_ hbF
       clear hrF hbF hcz hfz
       go_roundw
       case rel=>exact ⟨j+1,_,by omega,by go_num,HRF.out,HBF.out⟩
       case measure=>simp [intOf];omega
     · obtain rfl:j=(next i).length:=by omega
       have hall:turnTo N next i ((next i).take (next i).length)=turnTo N next (i+1) []:=by rw [List.take_length,turn_next]
       rw [hall] at HRW
       clear hall
       go_wp2_with fail
       go_roundw
       case rel=>exact ⟨i+1,_,by omega,by go_num,HRW.out,hbel⟩
       case measure=>simp [intOf];omega
  · obtain rfl:i=N:=by omega
    have hs1:=HRW.out
    rw [turn_all] at hs1
    have hln:hs.length=i:=by rw [hs1.len];simp
    have hs2:=hs1.sse cN_len (lo:=gb) (Nat.le_refl _) (Nat.le_refl _)
    rw [hln] at hs2
    have HS2:=Hd_ hs2
    clear hs1 hs2 hln
    go_wp2_with fail
    go_ret
    exact ⟨_,rfl,by rw [HR.out,HGB.out];exact HS2.out,by rw [HGB.out];exact hbel⟩
end Go.Proofs.YtcnenpjaoalmeaaGreat
/-
 DERIVED: THE SHELF's CONTRACTS AT THIS DUMP,IN PLAIN WORDS (tools/lay-plain.mjs out of 'TryzShelf.lean',which tools/lay-shelf.mjs wrote): THE SAME DECLARATIONS UNDER THE SAME NAMES: 'import','namespace','open','def','theorem' AND NOTHING ELSE: no command of the shelf's: FOR A HAND-IN. Each laying: the table of numbers ('.._ren') and one theorem,a field a fact of the dump's own or the kernel's comparison;each contract: ONE APPLICATION.
-/
namespace Go.Proofs
open Go.Shelf
def Tryz.lays212_ren:Go.Shelf.Ren:=⟨fun | 212=>120 | 263=>129 | 264=>130 | n=>n,fun | 46=>135 | 51=>167 | 146=>168 | 53=>170 | 148=>171 | n=>n,fun | n=>n⟩
theorem Tryz.lays212:Go.Proofs.Lays.n212 Tryz.prog Tryz.lays212_ren:={
 mixed:=by kernel_rfl
 f212:=Tryz.func120.trans (congrArg some (by kernel_rfl))
 f263:=Tryz.func129.trans (congrArg some (by kernel_rfl))
 f264:=Tryz.func130.trans (congrArg some (by kernel_rfl))
 t46:=Tryz.underlying135
 a46:=Tryz.isAgg135
 z46:=Tryz.sizeOf135
 v46:=Tryz.zeroValue135
 t51:=Tryz.underlying167
 a51:=Tryz.isAgg167
 z51:=Tryz.sizeOf167
 v51:=Tryz.zeroValue167
 t53:=Tryz.underlying170
 a53:=Tryz.isAgg170
 z53:=Tryz.sizeOf170
 v53:=Tryz.zeroValue170
 t146:=Tryz.underlying168
 a146:=Tryz.isAgg168
 z146:=Tryz.sizeOf168
 v146:=Tryz.zeroValue168
 t148:=Tryz.underlying171
 a148:=Tryz.isAgg171
 z148:=Tryz.sizeOf171
 v148:=Tryz.zeroValue171 }
open Go.RowKit Go.Lib in
/-- math/bits.Mul: "Mul returns the full-width product of x and y": on a machine of 64 bits: Mul64's. (LAID: no walk: one application.) -/
theorem Tryz.bits_Mul (x y:Nat) (hx:x < 18446744073709551616) (hy:y < 18446744073709551616) (w:World) :
 Calls Tryz.prog 120 #[.int .u64 x,.int .u64 y] w fun e w'=>e=.returned (.tuple #[.int .u64 ((x * y / 18446744073709551616:Nat):Int),.int .u64 ((x * y % 18446744073709551616:Nat):Int)])/\w'=w:=Any.bits_Mul Tryz.lays212 x y hx hy w
end Go.Proofs
