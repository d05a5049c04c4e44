/- Parts of the proof, joined into one text: PutS, Cur, HelpInt, HelpBool, HelpSS, LawKit, Drw, DrwG, PrsD, DrwN, DrwA, PrsE, FmtP, ShelfP, PKey, Reslice. -/
import Derived.Laws.StructEq
import Derived.Test.YtloeghbhoflabaaDoorOnlzNIAMCFMI
import Derived.Deep.Cut
import Derived.RegionTactic
import Derived.BigRegion
import Derived.Lib.SplitLaws
import Derived.Lib.Join
import Derived.Lib.ItoaNum
import Derived.Shelf.SlGeneric
import Derived.Shelf.SlSortCmp.WholeK
import Derived.Ground.SlsfProg
import Derived.Test.YtloeghbhoflabaaDoorProg
set_option linter.unusedVariables false
set_option linter.unusedSimpArgs false
namespace Go.Proofs.YtloeghbhoflabaaDoor
open Go.ChangeShapes Go.WideShapes Go.ChangeAt Go.RowKit
attribute [local go_sem] ext_cell ext_frozen ext_lt ext_lt1 ext_lt2 ext_lt3 ltn2 ltn3 ltn13 lts1 lts2 lts3
section
variable {P:Program} {w:World}
/-- append of a whole list: as an operation by itself -/
theorem op_appendL {α:Type} (E:α->List Value) {o:Oper} {a:Act} {K:Act->World->Prop} {Q:Exit->Act->World->Prop} {t e:TypeId} {z:Value} {k bytes:Nat} (el:ElemOk P t e z k bytes) (hE:∀ x,(E x).length=k) (h1:∀ x,∀ u ∈ E x,u.oneCell'=true)
 (s y:Operand) (ho:o.op=.call { callee:=.builtin .append,args:=#[s,y],argTypes:=#[t,t] })
 (base:Nat) (v:Value) (xs ys:List α) (hs:a.eval s=v) (hown:w.ownsRow base e k v xs.length (xs.flatMap E)) (lo hi:Nat) (yv:Value) (hyv:a.eval y=yv) (hy:SlI lo hi w E k yv ys) (hbytes:(xs.length+ys.length) * bytes<=140737488355328) (hb0:0 < bytes) (hbase:base<=w.heap.size)
 (h:∀ v' w',w'.ownsRow base e k v' (xs ++ ys).length ((xs ++ ys).flatMap E)->w.grownBy w' v.ownBlock->(v'.ownBlock=v.ownBlock ∨ v'.ownBlock=some w.heap.size)->K (a.put o.dst v') w'):Oper.wp P o a w K Q:=by
 obtain ⟨v',w',hr,h2,h3,h5⟩:=run_appendL E el hE h1 base v xs ys hown lo hi yv hy hbytes hb0 hbase o.type
 unfold Oper.wp execOp
 simp only [ho,resolve,invoke,builtin,Sem.run_bind,Sem.run_pure,Result.andThen_ok,List.map_toArray,List.map_cons,List.map_nil,hs,hyv,hr]
 exact h v' w' h2 h3 h5
end
theorem SlI.takeP {α:Type} {lo hi:Nat} {w:World} {E:α->List Value} {k b o n c:Nat} {xs:List α} (h:SlI lo hi w E k (.slice (some ⟨b,o,none⟩) n c) xs) {m:Nat} (hm:m<=xs.length):SlI lo hi w E k (.slice (some ⟨b,o,none⟩) m c) (xs.take m):=by
 obtain ⟨A',c',hv,hl,hc,hx⟩:=h
 injection hv with h1 h2 h3
 subst h1 h3
 have hlt:(xs.take m).length=m:=by rw [List.length_take];omega
 refine ⟨_,c,by rw [hlt],by omega,hc,fun j x hj=>hx j x ?_⟩
 rw [List.getElem?_take] at hj
 split at hj
 · exact hj
 · cases hj
theorem SlI.dropP {α:Type} {lo hi:Nat} {w:World} {E:α->List Value} {k b o n c:Nat} {xs:List α} (h:SlI lo hi w E k (.slice (some ⟨b,o,none⟩) n c) xs) {m:Nat} (hm:m<=xs.length):SlI lo hi w E k (.slice (some ⟨b,o+m * k,none⟩) (n - m) (c - m)) (xs.drop m):=by
 obtain ⟨A',c',hv,hl,hc,hx⟩:=h
 injection hv with h1 h2 h3
 subst h1 h2 h3
 have hlt:(xs.drop m).length=xs.length - m:=by rw [List.length_drop]
 refine ⟨_,c - m,by rw [hlt],by omega,by omega,fun j x hj=>?_⟩
 rw [List.getElem?_drop] at hj
 obtain ⟨b',o',hA,h1,h2,h3⟩:=hx (m+j) x hj
 injection hA with hA
 injection hA with e1 e2
 subst e1 e2
 refine ⟨b,o+m * k,rfl,h1,h2,fun i u hu=>?_⟩
 rw [<- h3 i u hu,Nat.add_mul]
 congr 2
 omega
theorem row_cap {W:World} {base k n g c:Nat} {e:TypeId} {cs:List Value} (h:W.ownsRow base e k (.slice (some ⟨g,0,none⟩) n c) n cs):n<=c/\c<=9223372036854775807:=by
 obtain ⟨_,hs⟩:=h
 rcases hs with ⟨h1,_⟩ | ⟨g',cap',cur,hv,hg,hh,hnc,hcm,_⟩
 · cases h1
 · simp only [Value.slice.injEq,Option.some.injEq,Addr.mk.injEq,and_true,true_and] at hv
   obtain ⟨rfl,rfl⟩:=hv
   exact ⟨hnc,hcm⟩
theorem SlI.prP {lo hi:Nat} {w:World} {b o n c:Nat} {xs:List Pr} (h:SlI lo hi w cPr 2 (.slice (some ⟨b,o,none⟩) n c) xs) {i:Nat} {x:Pr} (hx:xs[i]?=some x) :
 (lo<=b/\b < hi)/\w.cell? ⟨b,o+i * 2,none⟩=some (.int .i64 x.1)/\w.cell? ⟨b,o+i * 2+1,none⟩=some (.int .i64 x.2):=by
 obtain ⟨A',c',hv,_,_,h3⟩:=h
 simp only [Value.slice.injEq] at hv
 obtain ⟨b',o',hA,g1,g2,hc⟩:=h3 i x hx
 rw [<- hv.1] at hA
 simp only [Option.some.injEq,Addr.mk.injEq,and_true] at hA
 obtain ⟨rfl,rfl⟩:=hA
 exact ⟨⟨g1,g2⟩,by simpa using hc 0 _ rfl,hc 1 _ rfl⟩
theorem SlI.prA {lo hi:Nat} {w:World} {A:Option Addr} {n c:Nat} {xs:List Pr} (h:SlI lo hi w cPr 2 (.slice A n c) xs) {i:Nat} {x:Pr} (hx:xs[i]?=some x) :
 ∃ b o,A=some ⟨b,o,none⟩/\(lo<=b/\b < hi)/\w.cell? ⟨b,o+i * 2,none⟩=some (.int .i64 x.1)/\w.cell? ⟨b,o+i * 2+1,none⟩=some (.int .i64 x.2):=by
 obtain ⟨A',c',hv,_,_,h3⟩:=h
 simp only [Value.slice.injEq] at hv
 obtain ⟨b',o',hA,g1,g2,hc⟩:=h3 i x hx
 exact ⟨b',o',hv.1.trans hA,⟨g1,g2⟩,by simpa using hc 0 _ rfl,hc 1 _ rfl⟩
theorem SlI.dropQ {lo hi B:Nat} {w w':World} {g c:Nat} {l:List Pr} (h:SlI lo hi w cPr 2 (.slice (some ⟨g,0,none⟩) l.length c) l) (hb:Below B w w') (hB:hi<=B) {k:Nat} (hk:k<=l.length) (hc:l.length<=c) :
 SlI lo hi w' cPr 2 (.slice (if c=k then some ⟨g,0,none⟩ else some ⟨g,k * 2,none⟩) (l.length - k) (c - k)) (l.drop k):=by
 split
 · have hn:l.drop k=[]:=List.drop_eq_nil_of_le (by omega)
   have hcm:c - k<=maxLen:=by unfold maxLen;omega
   rw [hn]
   refine ⟨some ⟨g,0,none⟩,c - k,?_,by simp,hcm,fun i x hx=>by simp at hx⟩
   simp;omega
 · simpa using (h.below hb hB).dropP (m:=k) hk
theorem eqPr (a b c d:Int) (w:World):(Op.equalIn 10000 30 (.agg #[.int .i64 a,.int .i64 b]) (.agg #[.int .i64 c,.int .i64 d])).run Tryd.prog w=.ok (a==c && b==d) w:=by
 have u3:=Tryd.underlying3
 have a3:=Tryd.isAgg3
 have z3:=Tryd.sizeOf3
 have hS:Tryd.prog.underlying 30=some (.struct (Tryd.prog.fieldsOf 30)):=by kernel_rfl
 have hp:Tryd.prog.stoodInHeld 30=false:=by kernel_rfl
 rw [show (10000:Nat)=9999+1 from rfl,run_equalIn_agg w 9999 30 _ _ hS hp]
 simp only [Program.fieldsOf,Tryd.underlying30]
 go_simp
 by_cases h1:a=c <;> by_cases h2:b=d <;> simp [h1,h2]
theorem guardPr:Tryd.prog.eqGuardType Tryd.prog.depth 30=false:=by kernel_rfl
attribute [local go_sem] guardPr
theorem eqlPr (a b c d:Int) (w:World):(binOp .eql 30 (.agg #[.int .i64 a,.int .i64 b]) (.agg #[.int .i64 c,.int .i64 d])).run Tryd.prog w=.ok (.bool (decide ((a,b)=(c,d)))) w:=by
 rw [run_eql_struct,eqPr]
 by_cases h1:a=c <;> by_cases h2:b=d <;> simp [h1,h2]
/-- a set of pairs in a row of the call's own, never nil -/
def SetR (lo:Nat) (w:World) (v:Value) (l:List Pr):Prop:=∃ g c,v=.slice (some ⟨g,0,none⟩) l.length c/\w.ownsRow lo 30 2 v l.length (l.flatMap cPr)
theorem SetR.below {lo:Nat} {w w':World} {v:Value} {l:List Pr} (h:SetR lo w v l) (hb:Below w.heap.size w w'):SetR lo w' v l:=by
 obtain ⟨g,c,rfl,h⟩:=h
 exact ⟨g,c,rfl,ownsRow_below h hb (Nat.le_refl _)⟩
theorem SetR.mono {lo lo':Nat} {w:World} {v:Value} {l:List Pr} (h:SetR lo w v l) (hl:lo'<=lo):SetR lo' w v l:=by
 obtain ⟨g,c,rfl,h⟩:=h
 exact ⟨g,c,rfl,ownsRow_mono h hl⟩
theorem SetR.own {lo:Nat} {w:World} {v:Value} {l:List Pr} (h:SetR lo w v l):Own lo w.heap.size w 30 cPr 2 v l:=by
 obtain ⟨g,c,rfl,h⟩:=h
 exact Own.of_row h rfl rfl
theorem SetR.lit (w:World) (lo:Nat) (h:lo<=w.heap.size):SetR lo (w.alloc (.cells #[] 30)) (.slice (some ⟨w.heap.size,0,none⟩) 0 0) [] :=
 ⟨_,_,rfl,World.ownsRow_lit (base:=lo) (e:=30) (size:=2) w #[] 0 h (by decide) rfl⟩
set_option maxHeartbeats 1000000 in
theorem l15Less_any (p q:Pr) (w:World) :
 Calls Tryd.prog 29 #[.agg #[.int .i64 p.1,.int .i64 p.2],.agg #[.int .i64 q.1,.int .i64 q.2]] w fun e w'=>e=.returned (.bool (ltP p q))/\Below w.heap.size w w':=by
 obtain ⟨p1,p2⟩:=p
 obtain ⟨q1,q2⟩:=q
 have hb:Below w.heap.size w ((w.alloc (.cells #[.int .i64 p1,.int .i64 p2] 30)).alloc (.cells #[.int .i64 q1,.int .i64 q2] 30)):=((Below.refl _ _).alloc (Nat.le_refl _) _).alloc (by simp) _
 simp only
 by_cases h1:p1 < q1
 · have k1:decide (p1 < q1)=true:=by simpa using h1
   have hl:ltP (p1,p2) (q1,q2)=true:=by rw [ltP_iff];exact .inl h1
   rw [hl]
   clear h1 hl
   go_enter Tryd.func29,Tryd.ntmps29
   go_wp2_with fail
   go_ret
   exact ⟨rfl,hb⟩
 · have k1:decide (p1 < q1)=false:=by simpa using h1
   by_cases h2:p1=q1
   · have k2:(p1==q1)=true:=by simpa using h2
     by_cases h3:p2 < q2
     · have k3:decide (p2 < q2)=true:=by simpa using h3
       have hl:ltP (p1,p2) (q1,q2)=true:=by rw [ltP_iff];exact .inr ⟨h2,h3⟩
       rw [hl]
       clear h1 h2 h3 hl
       go_enter Tryd.func29,Tryd.ntmps29
       go_wp2_with fail
       go_ret
       exact ⟨rfl,hb⟩
     · have k3:decide (p2 < q2)=false:=by simpa using h3
       have hl:ltP (p1,p2) (q1,q2)=false:=by rw [ltP_no];simp only;omega
       rw [hl]
       clear h1 h2 h3 hl
       go_enter Tryd.func29,Tryd.ntmps29
       go_wp2_with fail
       go_ret
       exact ⟨rfl,hb⟩
   · have k2:(p1==q1)=false:=by simpa using h2
     have hl:ltP (p1,p2) (q1,q2)=false:=by rw [ltP_no];simp only;omega
     rw [hl]
     clear h1 h2 hl
     go_enter Tryd.func29,Tryd.ntmps29
     go_wp2_with fail
     go_ret
     exact ⟨rfl,hb⟩
set_option maxHeartbeats 4000000 in
set_option maxRecDepth 100000 in
theorem l15Put_any (v:Value) (lo:Nat) (l:List Pr) (p:Pr) (w:World) (hv:SetR lo w v l) (hlo:lo<=w.heap.size) (hn:l.length<=1099511627776) :
 Calls Tryd.prog 23 #[v,.agg #[.int .i64 p.1,.int .i64 p.2]] w fun e w'=>∃ v',e=.returned v'/\SetR lo w' v' (putP l p)/\Below w.heap.size w w':=by
 obtain ⟨g,c,rfl,hrow⟩:=hv
 obtain ⟨hg1,hg2⟩:=hrow.lt g rfl
 have hsl:=(Own.of_row (xs:=l) hrow rfl rfl).sl cPr_len
 obtain ⟨hlc,hcm⟩:=row_cap hrow
 obtain ⟨W0,hW0⟩:∃ W0,W0=w.alloc (.cells #[.int .i64 p.1,.int .i64 p.2] 30):=⟨_,rfl⟩
 have hb0:Below w.heap.size w W0:=by rw [hW0];exact (Below.refl _ _).alloc (Nat.le_refl _) _
 have x0:W0.cell? ⟨w.heap.size,0,none⟩=some (.int .i64 p.1):=by rw [hW0];simp
 have x1:W0.cell? ⟨w.heap.size,1,none⟩=some (.int .i64 p.2):=by rw [hW0];simp
 have l0:w.heap.size < W0.heap.size:=by rw [hW0];simp
 have HROW:=Hd_ (ownsRow_below hrow hb0 (Nat.le_refl _))
 have HSL:=Hd_ (hsl.below hb0 (Nat.le_refl _))
 obtain ⟨R,hR⟩:∃ R,R=putP l p:=⟨_,rfl⟩
 rw [<- hR]
 have HR:=Hd_ hR
 clear hR hrow hsl
 go_enter Tryd.func23,Tryd.ntmps23
 go_wp2_with fail
 rw [<- hW0]
 clear hW0
 go_loopw [5] (fun kk wr=>∃ (k:Nat) (u:World),k<=l.length/\kk=.int .i64 (k:Int)/\(∀ i x,i < k->l[i]?=some x->ltP x p=true)/\wr=ext W0 u) (fun kk _=>l.length - (intOf kk).toNat)
 case atStart=>exact ⟨0,W0,Nat.zero_le _,rfl,(fun i x hi=>absurd hi (Nat.not_lt_zero _)),ext_self W0⟩
 case round =>
  obtain ⟨k,u,hk,rfl,hall,rfl⟩:=hrel
  have HALL:=Hd_ hall
  clear hall
  by_cases hlt:k < l.length
  · have hxk:l[k]?=some l[k]:=List.getElem?_eq_getElem hlt
    generalize l[k]=x at hxk
    obtain ⟨xa,xb⟩:=x
    obtain ⟨-,d0,d1⟩:=HSL.out.prP hxk
    simp only [Nat.zero_add] at d0 d1
    have hbw:g < W0.heap.size:=by omega
    have hkk:(k:Int) < (l.length:Int):=by omega
    have HXK:=Hd_ hxk
    have HLT:=Hd_ (show ∀ b,ltP (xa,xb) p=b->ltP (xa,xb) p=b from fun _ h=>h)
    have HL:=Hd_ (fun (W:World)=>l15Less_any (xa,xb) p W)
    clear hxk
    cases hbb:ltP (xa,xb) p with
    | true =>
      rw [hbb] at HL
      have HBB:=Hd_ hbb
      clear hbb HLT
      go_wp2_with fail
      refine wp_region_ext_lit (by kernel_rfl) (by kernel_rfl) ?_
      repeat (go_big_quiet_step ((go_at_call 29;exact Calls.ext_of (HL.out _))))
      refine wpQuiet_nil ?_
      rintro _ ⟨u2,rfl⟩
      obtain ⟨u4,hu4⟩:=ext_ext W0 u u2
      have HU4:=Hd_ hu4
      clear hu4
      go_wp2_with fail
      go_roundw
      case rel =>
       refine ⟨k+1,u4,by omega,by go_num,fun i y hi hy=>?_,HU4.out⟩
       rcases Nat.lt_or_ge i k with h | h
       · exact HALL.out i y h hy
       · obtain rfl:i=k:=by omega
         rw [HXK.out] at hy
         injection hy with hy
         subst hy
         exact HBB.out
      case measure=>simp [intOf];omega
    | false =>
      rw [hbb] at HL
      have hput:=putP_at (l:=l) (p:=p) (k:=k) (by omega) HALL.out (fun y hy=>by rw [HXK.out] at hy;injection hy with hy;subst hy;exact hbb)
      rw [HXK.out] at hput
      have HPUT0:=Hd_ (HR.out.trans hput)
      clear hbb HLT hput HALL HR
      go_wp2_with fail
      refine wp_region_ext_lit (by kernel_rfl) (by kernel_rfl) ?_
      repeat (go_big_quiet_step ((go_at_call 29;exact Calls.ext_of (HL.out _))))
      refine wpQuiet_nil ?_
      rintro _ ⟨u2,rfl⟩
      obtain ⟨u4,hu4⟩:=ext_ext W0 u u2
      rw [hu4]
      clear hu4
      have HEQ:=Hd_ (fun (w:World)=>eqlPr xa xb p.1 p.2 w)
      obtain ⟨bb,hb2⟩:∃ bb,bb=decide ((xa,xb)=(p.1,p.2)):=⟨_,rfl⟩
      rw [<- hb2] at HEQ
      have HB2:=Hd_ hb2
      have heq:=HEQ.out
      clear hb2
      go_wp2_with fail
      refine wp_region_ext_lit (by kernel_rfl) (by kernel_rfl) ?_
      repeat (go_big_quiet_step (fail))
      refine wpQuiet_nil ?_
      rintro _ ⟨u3,rfl⟩
      cases bb with
      | true =>
        have hfin:R=l:=by
         rw [HPUT0.out,if_pos]
         have:=HB2.out
         simp only [Eq.comm (a:=true),decide_eq_true_eq] at this
         rw [this]
        have HF:=Hd_ hfin
        have hb9:Below w.heap.size w (ext (ext W0 u4) u3):=below_trans hb0 (below_trans (ext_below _ _) (ext_below _ _))
        have HR9:=Hd_ (ownsRow_below HROW.out (below_trans (ext_below W0 u4) (ext_below _ u3)) (Nat.le_refl _))
        clear hfin
        go_wp2_with fail
        go_ret
        exact ⟨_,rfl,by rw [HF.out];exact ⟨g,c,rfl,HR9.out⟩,hb9⟩
      | false =>
        have HPUT:=Hd_ (show R=l.take k ++ [p] ++ l.drop k by
         rw [HPUT0.out,if_neg]
         have:=HB2.out
         simp only [Eq.comm (a:=false),decide_eq_false_iff_not] at this
         intro h
         injection h with h
         exact this h)
        clear HPUT0 HB2 HEQ heq
        obtain ⟨W6,hW6⟩:∃ W6,W6=(ext (ext W0 u4) u3):=⟨_,rfl⟩
        have hb6:Below W0.heap.size W0 W6:=by rw [hW6];exact (below_trans (ext_below _ _) (ext_below _ _))
        rw [<- hW6]
        clear hW6
        have x0:=kcell hb6 x0
        have x1:=kcell hb6 x1
        have l6:=Nat.lt_of_lt_of_le l0 hb6.size
        have HSD:=Hd_ (show SlI lo w.heap.size W6.drew cPr 2 (.slice (some ⟨g,0,none⟩) l.length c) l from HSL.out.below hb6.drew (by omega))
        have HBW6:=Hd_ (show Below w.heap.size w W6.drew from (below_trans hb0 hb6).drew)
        have hwW6:w.heap.size<=W6.drew.heap.size:=HBW6.out.size
        have hloW:lo<=W6.drew.heap.size:=by omega
        have hkl:(k:Int)<=(l.length:Int):=by omega
        have hkc:(k:Int)<=(c:Int):=by omega
        have htl:(l.take k).length<=l.length:=by rw [List.length_take];omega
        have hdl:(l.drop k).length<=l.length:=by rw [List.length_drop];omega
        have htd:(l.take k ++ [p]).length<=l.length+1:=by rw [List.length_append];simp only [List.length_cons,List.length_nil];omega
        have HRL:=Hd_ (show R.length ≠ 0 by rw [HPUT.out];simp)
        clear HSL HROW hb0 hb6
        go_wp2_with fail
        have hS1:=HSD.out
        clear hS1
        refine F_start 12 (fun w'=>w'.cell? ⟨w.heap.size,0,none⟩=some (.int .i64 p.1)/\w'.cell? ⟨w.heap.size,1,none⟩=some (.int .i64 p.2)) (by kernel_rfl) (by exact ⟨x0,x1⟩) (fun hS inv=>?_)
        refine F_tk 1 inv ?_
        try simp only [tA,tB,tC,Act.put,tE,tF,tG]
        clear inv;intro inv
        refine F_tk 2 inv ?_
        try simp only [tA,tB,tC,Act.put,tE,tF,tG]
        clear inv;intro inv
        refine F_tk 3 inv ?_
        try simp only [tA,tB,tC,Act.put,tE,tF,tG]
        clear inv;intro inv
        refine F_tk 5 inv ?_
        try simp only [tA,tB,tC,Act.put,tE,tF,tG]
        clear inv;intro inv
        refine F_tk 8 inv ?_
        try simp only [tA,tB,tC,Act.put,tE,tF,tG]
        clear inv;intro inv
        refine F_tk 9 inv ?_
        try simp only [tA,tB,tC,Act.put,tE,tF,tG]
        clear inv;intro inv
        refine F_tk 10 inv ?_
        try simp only [tA,tB,tC,Act.put,tE,tF,tG]
        clear inv;intro inv
        have hS0:=hS
        refine F_two (i:=0) (j:=6) (by kernel_rfl) rfl rfl rfl rfl (by omega) inv (fun K hK=>?_) (fun K hK=>?_)
        all_goals (try simp only [tA,tB,tC])
        · go_simp
          have hba:=(Below.refl W6.drew.heap.size W6.drew).alloc (Nat.le_refl _) (.cells #[] 30)
          have hrow:=World.ownsRow_lit (base:=W6.drew.heap.size) (e:=30) (size:=2) W6.drew #[] 0 (Nat.le_refl _) (by decide) rfl
          have hsa:=hba.size
          have HRL0:=Hd_ hrow
          have HTK:=Hd_ ((HSD.out.below hba hwW6).takeP (m:=k) (by omega))
          clear hrow
          refine hK.out _ _ (kB2 hba hS0) (fun _ _=>?_)
          try simp only [tA,tB,tC,Act.put,tE,tF,tG]
          clear hK K inv hS;rename_i hS inv
          refine F_two (i:=4) (j:=6) (by kernel_rfl) rfl rfl rfl rfl (by omega) inv (fun K hK=>?_) (fun K hK=>?_)
          all_goals (try simp only [tA,tB,tC])
          · refine op_appendL cPr elPair cPr_len cPr_one _ _ (by rfl) W6.drew.heap.size _ [] (l.take k) (by rfl) HRL0.out lo w.heap.size _ (by rfl) HTK.out (by simp;omega) (by omega) hsa ?_
            intro va wa hra hga hata
            simp only [List.nil_append] at hra
            have hbb:=hba.trans (own_below HRL0.out hsa hga)
            have hbx:=hbb.alloc hbb.size (.cells #[.int .i64 p.1,.int .i64 p.2] 30)
            have hbxs:=hbx.size
            have HV:=Hd_ (hra.alloc (.cells #[.int .i64 p.1,.int .i64 p.2] 30))
            obtain ⟨H1,hH1⟩:∃ H1,H1=wa.heap.size:=⟨_,rfl⟩
            have HLIT:=Hd_ (show (wa.alloc (.cells #[.int .i64 p.1,.int .i64 p.2] 30)).heap[H1]?=some (.cells (cPr p).toArray 30 (0,0)) by rw [hH1];exact heap_alloc_new _ _)
            clear hra hga hata
            refine hK.out _ _ (kB2 hbb hS0) (fun _ _=>?_)
            try simp only [tA,tB,tC,Act.put,tE,tF,tG]
            clear hK K inv hS;rename_i hS inv
            refine F_o1 6 inv ?_;intro K hK
            try simp only [tA,tB,tC]
            go_simp
            rw [<- hH1]
            refine hK.out _ _ (kB2 hbx hS0) (fun _ _=>?_)
            try simp only [tA,tB,tC,Act.put,tE,tF,tG]
            clear hK K inv hS;rename_i hS inv
            clear hH1
            refine F_o1 7 inv ?_;intro K hK
            try simp only [tA,tB,tC]
            refine op_append1 cPr elPair rfl _ _ (by rfl) W6.drew.heap.size va (l.take k) p _ H1 (by rfl) HV.out (by rfl) HLIT.out rfl (cPr_one _) (by omega) (by omega) hbxs ?_
            intro g2 cp2 w3 hown3 hgr3 hat3 hlt3
            have hb3:=hbx.trans (own_below HV.out hbxs hgr3)
            have HOW3:=Hd_ hown3
            have hs3:=hb3.size
            have HSD3:=Hd_ (HSD.out.dropQ (k:=k) hb3 hwW6 (by omega) hlc)
            clear hown3 hgr3 hat3
            refine hK.out _ _ (kB2 hb3 hS0) (fun _ _=>?_)
            try simp only [tA,tB,tC,Act.put,tE,tF,tG]
            clear hK K inv hS;rename_i hS inv
            refine F_o1 11 inv ?_;intro K hK
            try simp only [tA,tB,tC]
            refine op_appendL cPr elPair cPr_len cPr_one _ _ (by rfl) W6.drew.heap.size (.slice (some ⟨g2,0,none⟩) ((l.take k).length+1) cp2) (l.take k ++ [p]) (l.drop k) (by rfl) HOW3.out lo w.heap.size (.slice (if c=k then some ⟨g,0,none⟩ else some ⟨g,k * 2,none⟩) (l.length - k) (c - k)) (by rfl) HSD3.out (by omega) (by omega) hs3 ?_
            intro v5 w5 hown5 hgr5 hat5
            have hb5:=hb3.trans (own_below (base:=W6.drew.heap.size) HOW3.out hs3 hgr5)
            rw [show l.take k ++ [p] ++ l.drop k=R from HPUT.out.symm] at hown5
            obtain ⟨g5,c5,rfl,-,-,-,-⟩:=own_some hown5 (by have:=HRL.out;omega)
            have HSET:=Hd_ (show SetR lo w5 (.slice (some ⟨g5,0,none⟩) R.length c5) R from ⟨g5,c5,rfl,ownsRow_mono hown5 hloW⟩)
            have HBF:=Hd_ (below_trans HBW6.out hb5)
            clear hown5 hgr5 hat5
            refine hK.out _ _ (kB2 hb5 hS0) (fun _ _=>?_)
            try simp only [tA,tB,tC,Act.put,tE,tF,tG]
            clear hK K inv hS;rename_i hS inv
            refine F_l1 12 ?_;intro K hK
            go_simp
            refine hK _ _ ?_
            clear hK K inv hS
            go_wp2_with fail
            all_goals go_ret
            all_goals exact ⟨_,rfl,HSET.out,HBF.out⟩
          · go_simp
            obtain ⟨H1,hH1⟩:∃ H1,H1=W6.heap.size+1:=⟨_,rfl⟩
            have hbx0:=hba.alloc hsa (.cells #[.int .i64 p.1,.int .i64 p.2] 30)
            have HRL1:=Hd_ (HRL0.out.alloc (.cells #[.int .i64 p.1,.int .i64 p.2] 30))
            have HTK1:=Hd_ ((HSD.out.below hbx0 hwW6).takeP (m:=k) (by omega))
            have hs0x:=hbx0.size
            have HLT0:=Hd_ (show ((W6.drew.alloc (.cells #[] 30)).alloc (.cells #[.int .i64 p.1,.int .i64 p.2] 30)).heap[H1]?=some (.cells (cPr p).toArray 30 (0,0)) by
             have h:=heap_alloc_new (W6.drew.alloc (.cells #[] 30)) (.cells #[.int .i64 p.1,.int .i64 p.2] 30)
             rw [show (W6.drew.alloc (.cells #[] 30)).heap.size=H1 by rw [hH1];simp] at h
             exact h)
            have hH1l:H1 < ((W6.drew.alloc (.cells #[] 30)).alloc (.cells #[.int .i64 p.1,.int .i64 p.2] 30)).heap.size:=by rw [hH1];simp
            rw [<- hH1]
            have hH1n:H1 ≠ W6.drew.heap.size:=by rw [hH1];simp
            have HH1n:=Hd_ hH1n
            have HH1l:=Hd_ hH1l
            clear hH1 hH1n hH1l
            refine hK.out _ _ (kB2 hbx0 hS0) (fun _ _=>?_)
            try simp only [tA,tB,tC,Act.put,tE,tF,tG]
            clear hK K inv hS;rename_i hS inv
            refine F_o1 4 inv ?_;intro K hK
            try simp only [tA,tB,tC]
            refine op_appendL cPr elPair cPr_len cPr_one _ _ (by rfl) W6.drew.heap.size _ [] (l.take k) (by rfl) HRL1.out lo w.heap.size _ (by rfl) HTK1.out (by simp;omega) (by omega) hs0x ?_
            intro va wa hra hga hata
            simp only [List.nil_append] at hra
            have hbx:=hbx0.trans (own_below HRL1.out hs0x hga)
            have hbxs:=hbx.size
            have HV:=Hd_ hra
            have HLIT:=Hd_ ((hga.block H1 HH1l.out (fun e=>by injection e with e;exact HH1n.out e)).trans HLT0.out)
            clear hra hga hata
            refine hK.out _ _ (kB2 hbx hS0) (fun _ _=>?_)
            try simp only [tA,tB,tC,Act.put,tE,tF,tG]
            clear hK K inv hS;rename_i hS inv
            refine F_o1 7 inv ?_;intro K hK
            try simp only [tA,tB,tC]
            refine op_append1 cPr elPair rfl _ _ (by rfl) W6.drew.heap.size va (l.take k) p _ H1 (by rfl) HV.out (by rfl) HLIT.out rfl (cPr_one _) (by omega) (by omega) hbxs ?_
            intro g2 cp2 w3 hown3 hgr3 hat3 hlt3
            have hb3:=hbx.trans (own_below HV.out hbxs hgr3)
            have HOW3:=Hd_ hown3
            have hs3:=hb3.size
            have HSD3:=Hd_ (HSD.out.dropQ (k:=k) hb3 hwW6 (by omega) hlc)
            clear hown3 hgr3 hat3
            refine hK.out _ _ (kB2 hb3 hS0) (fun _ _=>?_)
            try simp only [tA,tB,tC,Act.put,tE,tF,tG]
            clear hK K inv hS;rename_i hS inv
            refine F_o1 11 inv ?_;intro K hK
            try simp only [tA,tB,tC]
            refine op_appendL cPr elPair cPr_len cPr_one _ _ (by rfl) W6.drew.heap.size (.slice (some ⟨g2,0,none⟩) ((l.take k).length+1) cp2) (l.take k ++ [p]) (l.drop k) (by rfl) HOW3.out lo w.heap.size (.slice (if c=k then some ⟨g,0,none⟩ else some ⟨g,k * 2,none⟩) (l.length - k) (c - k)) (by rfl) HSD3.out (by omega) (by omega) hs3 ?_
            intro v5 w5 hown5 hgr5 hat5
            have hb5:=hb3.trans (own_below (base:=W6.drew.heap.size) HOW3.out hs3 hgr5)
            rw [show l.take k ++ [p] ++ l.drop k=R from HPUT.out.symm] at hown5
            obtain ⟨g5,c5,rfl,-,-,-,-⟩:=own_some hown5 (by have:=HRL.out;omega)
            have HSET:=Hd_ (show SetR lo w5 (.slice (some ⟨g5,0,none⟩) R.length c5) R from ⟨g5,c5,rfl,ownsRow_mono hown5 hloW⟩)
            have HBF:=Hd_ (below_trans HBW6.out hb5)
            clear hown5 hgr5 hat5
            refine hK.out _ _ (kB2 hb5 hS0) (fun _ _=>?_)
            try simp only [tA,tB,tC,Act.put,tE,tF,tG]
            clear hK K inv hS;rename_i hS inv
            refine F_l1 12 ?_;intro K hK
            go_simp
            refine hK _ _ ?_
            clear hK K inv hS
            go_wp2_with fail
            all_goals go_ret
            all_goals exact ⟨_,rfl,HSET.out,HBF.out⟩
        · go_simp
          obtain ⟨H1,hH1⟩:∃ H1,H1=W6.heap.size:=⟨_,rfl⟩
          have hba:=(Below.refl W6.drew.heap.size W6.drew).alloc (Nat.le_refl _) (.cells #[.int .i64 p.1,.int .i64 p.2] 30)
          have hsa:=hba.size
          have hH1l:H1 < (W6.drew.alloc (.cells #[.int .i64 p.1,.int .i64 p.2] 30)).heap.size:=by rw [hH1];simp
          have HLT0:=Hd_ (show (W6.drew.alloc (.cells #[.int .i64 p.1,.int .i64 p.2] 30)).heap[H1]?=some (.cells (cPr p).toArray 30 (0,0)) by rw [hH1];exact heap_alloc_new _ _)
          refine hK.out _ _ (kB2 hba hS0) (fun _ _=>?_)
          try simp only [tA,tB,tC,Act.put,tE,tF,tG]
          clear hK K inv hS;rename_i hS inv
          refine F_o1 0 inv ?_;intro K hK
          try simp only [tA,tB,tC]
          go_simp
          have hbx0:=hba.alloc hsa (.cells #[] 30)
          have hrl:=World.ownsRow_lit (base:=W6.drew.heap.size) (e:=30) (size:=2) (W6.drew.alloc (.cells #[.int .i64 p.1,.int .i64 p.2] 30)) #[] 0 hsa (by decide) rfl
          rw [show (W6.drew.alloc (.cells #[.int .i64 p.1,.int .i64 p.2] 30)).heap.size=H1+1 by rw [hH1];simp] at hrl
          have HRL1:=Hd_ hrl
          clear hrl
          have HTK1:=Hd_ ((HSD.out.below hbx0 hwW6).takeP (m:=k) (by omega))
          have hs0x:=hbx0.size
          have HLT1:=Hd_ ((Below.heap_alloc _ (.cells #[] 30) H1 hH1l).trans HLT0.out)
          have HH1l:=Hd_ (Nat.lt_of_lt_of_le hH1l (show (W6.drew.alloc (.cells #[.int .i64 p.1,.int .i64 p.2] 30)).heap.size<=((W6.drew.alloc (.cells #[.int .i64 p.1,.int .i64 p.2] 30)).alloc (.cells #[] 30)).heap.size by simp))
          have HH1n:=Hd_ (show H1 ≠ H1+1 by omega)
          rw [<- hH1]
          clear hH1 hH1l
          refine hK.out _ _ (kB2 hbx0 hS0) (fun _ _=>?_)
          try simp only [tA,tB,tC,Act.put,tE,tF,tG]
          clear hK K inv hS;rename_i hS inv
          refine F_o1 4 inv ?_;intro K hK
          try simp only [tA,tB,tC]
          refine op_appendL cPr elPair cPr_len cPr_one _ _ (by rfl) W6.drew.heap.size _ [] (l.take k) (by rfl) HRL1.out lo w.heap.size _ (by rfl) HTK1.out (by simp;omega) (by omega) hs0x ?_
          intro va wa hra hga hata
          simp only [List.nil_append] at hra
          have hbx:=hbx0.trans (own_below HRL1.out hs0x hga)
          have hbxs:=hbx.size
          have HV:=Hd_ hra
          have HLIT:=Hd_ ((hga.block H1 HH1l.out (fun e=>by injection e with e;exact HH1n.out e)).trans HLT1.out)
          clear hra hga hata
          refine hK.out _ _ (kB2 hbx hS0) (fun _ _=>?_)
          try simp only [tA,tB,tC,Act.put,tE,tF,tG]
          clear hK K inv hS;rename_i hS inv
          refine F_o1 7 inv ?_;intro K hK
          try simp only [tA,tB,tC]
          refine op_append1 cPr elPair rfl _ _ (by rfl) W6.drew.heap.size va (l.take k) p _ H1 (by rfl) HV.out (by rfl) HLIT.out rfl (cPr_one _) (by omega) (by omega) hbxs ?_
          intro g2 cp2 w3 hown3 hgr3 hat3 hlt3
          have hb3:=hbx.trans (own_below HV.out hbxs hgr3)
          have HOW3:=Hd_ hown3
          have hs3:=hb3.size
          have HSD3:=Hd_ (HSD.out.dropQ (k:=k) hb3 hwW6 (by omega) hlc)
          clear hown3 hgr3 hat3
          refine hK.out _ _ (kB2 hb3 hS0) (fun _ _=>?_)
          try simp only [tA,tB,tC,Act.put,tE,tF,tG]
          clear hK K inv hS;rename_i hS inv
          refine F_o1 11 inv ?_;intro K hK
          try simp only [tA,tB,tC]
          refine op_appendL cPr elPair cPr_len cPr_one _ _ (by rfl) W6.drew.heap.size (.slice (some ⟨g2,0,none⟩) ((l.take k).length+1) cp2) (l.take k ++ [p]) (l.drop k) (by rfl) HOW3.out lo w.heap.size (.slice (if c=k then some ⟨g,0,none⟩ else some ⟨g,k * 2,none⟩) (l.length - k) (c - k)) (by rfl) HSD3.out (by omega) (by omega) hs3 ?_
          intro v5 w5 hown5 hgr5 hat5
          have hb5:=hb3.trans (own_below (base:=W6.drew.heap.size) HOW3.out hs3 hgr5)
          rw [show l.take k ++ [p] ++ l.drop k=R from HPUT.out.symm] at hown5
          obtain ⟨g5,c5,rfl,-,-,-,-⟩:=own_some hown5 (by have:=HRL.out;omega)
          have HSET:=Hd_ (show SetR lo w5 (.slice (some ⟨g5,0,none⟩) R.length c5) R from ⟨g5,c5,rfl,ownsRow_mono hown5 hloW⟩)
          have HBF:=Hd_ (below_trans HBW6.out hb5)
          clear hown5 hgr5 hat5
          refine hK.out _ _ (kB2 hb5 hS0) (fun _ _=>?_)
          try simp only [tA,tB,tC,Act.put,tE,tF,tG]
          clear hK K inv hS;rename_i hS inv
          refine F_l1 12 ?_;intro K hK
          go_simp
          refine hK _ _ ?_
          clear hK K inv hS
          go_wp2_with fail
          all_goals go_ret
          all_goals exact ⟨_,rfl,HSET.out,HBF.out⟩
  · have hkl0:k=l.length:=by omega
    have hput:=putP_at (l:=l) (p:=p) (k:=k) (by omega) HALL.out (fun y hy=>by rw [hkl0,List.getElem?_eq_none (Nat.le_refl _)] at hy;cases hy)
    rw [show l[k]?=none by rw [hkl0,List.getElem?_eq_none (Nat.le_refl _)],if_neg (by simp)] at hput
    have HPUT:=Hd_ (show R=l.take k ++ [p] ++ l.drop k from HR.out.trans hput)
    have hdk:decide ((k:Int) < (l.length:Int))=false:=by simp;omega
    clear hput HALL HR hkl0
    go_wp2_with fail
    refine wp_region_ext_lit (by kernel_rfl) (by kernel_rfl) ?_
    repeat (go_big_quiet_step (fail))
    refine wpQuiet_nil ?_
    rintro _ ⟨u2,rfl⟩
    obtain ⟨u4,hu4⟩:=ext_ext W0 u u2
    rw [hu4]
    clear hu4
    go_wp2_with fail
    refine wp_region_ext_lit (by kernel_rfl) (by kernel_rfl) ?_
    repeat (go_big_quiet_step (fail))
    refine wpQuiet_nil ?_
    rintro _ ⟨u3,rfl⟩
    clear hdk
    obtain ⟨W6,hW6⟩:∃ W6,W6=(ext (ext W0 u4) u3):=⟨_,rfl⟩
    have hb6:Below W0.heap.size W0 W6:=by rw [hW6];exact (below_trans (ext_below _ _) (ext_below _ _))
    rw [<- hW6]
    clear hW6
    have x0:=kcell hb6 x0
    have x1:=kcell hb6 x1
    have l6:=Nat.lt_of_lt_of_le l0 hb6.size
    have HSD:=Hd_ (show SlI lo w.heap.size W6.drew cPr 2 (.slice (some ⟨g,0,none⟩) l.length c) l from HSL.out.below hb6.drew (by omega))
    have HBW6:=Hd_ (show Below w.heap.size w W6.drew from (below_trans hb0 hb6).drew)
    have hwW6:w.heap.size<=W6.drew.heap.size:=HBW6.out.size
    have hloW:lo<=W6.drew.heap.size:=by omega
    have hkl:(k:Int)<=(l.length:Int):=by omega
    have hkc:(k:Int)<=(c:Int):=by omega
    have htl:(l.take k).length<=l.length:=by rw [List.length_take];omega
    have hdl:(l.drop k).length<=l.length:=by rw [List.length_drop];omega
    have htd:(l.take k ++ [p]).length<=l.length+1:=by rw [List.length_append];simp only [List.length_cons,List.length_nil];omega
    have HRL:=Hd_ (show R.length ≠ 0 by rw [HPUT.out];simp)
    clear HSL HROW hb0 hb6
    go_wp2_with fail
    have hS1:=HSD.out
    clear hS1
    refine F_start 12 (fun w'=>w'.cell? ⟨w.heap.size,0,none⟩=some (.int .i64 p.1)/\w'.cell? ⟨w.heap.size,1,none⟩=some (.int .i64 p.2)) (by kernel_rfl) (by exact ⟨x0,x1⟩) (fun hS inv=>?_)
    refine F_tk 1 inv ?_
    try simp only [tA,tB,tC,Act.put,tE,tF,tG]
    clear inv;intro inv
    refine F_tk 2 inv ?_
    try simp only [tA,tB,tC,Act.put,tE,tF,tG]
    clear inv;intro inv
    refine F_tk 3 inv ?_
    try simp only [tA,tB,tC,Act.put,tE,tF,tG]
    clear inv;intro inv
    refine F_tk 5 inv ?_
    try simp only [tA,tB,tC,Act.put,tE,tF,tG]
    clear inv;intro inv
    refine F_tk 8 inv ?_
    try simp only [tA,tB,tC,Act.put,tE,tF,tG]
    clear inv;intro inv
    refine F_tk 9 inv ?_
    try simp only [tA,tB,tC,Act.put,tE,tF,tG]
    clear inv;intro inv
    refine F_tk 10 inv ?_
    try simp only [tA,tB,tC,Act.put,tE,tF,tG]
    clear inv;intro inv
    have hS0:=hS
    refine F_two (i:=0) (j:=6) (by kernel_rfl) rfl rfl rfl rfl (by omega) inv (fun K hK=>?_) (fun K hK=>?_)
    all_goals (try simp only [tA,tB,tC])
    · go_simp
      have hba:=(Below.refl W6.drew.heap.size W6.drew).alloc (Nat.le_refl _) (.cells #[] 30)
      have hrow:=World.ownsRow_lit (base:=W6.drew.heap.size) (e:=30) (size:=2) W6.drew #[] 0 (Nat.le_refl _) (by decide) rfl
      have hsa:=hba.size
      have HRL0:=Hd_ hrow
      have HTK:=Hd_ ((HSD.out.below hba hwW6).takeP (m:=k) (by omega))
      clear hrow
      refine hK.out _ _ (kB2 hba hS0) (fun _ _=>?_)
      try simp only [tA,tB,tC,Act.put,tE,tF,tG]
      clear hK K inv hS;rename_i hS inv
      refine F_two (i:=4) (j:=6) (by kernel_rfl) rfl rfl rfl rfl (by omega) inv (fun K hK=>?_) (fun K hK=>?_)
      all_goals (try simp only [tA,tB,tC])
      · refine op_appendL cPr elPair cPr_len cPr_one _ _ (by rfl) W6.drew.heap.size _ [] (l.take k) (by rfl) HRL0.out lo w.heap.size _ (by rfl) HTK.out (by simp;omega) (by omega) hsa ?_
        intro va wa hra hga hata
        simp only [List.nil_append] at hra
        have hbb:=hba.trans (own_below HRL0.out hsa hga)
        have hbx:=hbb.alloc hbb.size (.cells #[.int .i64 p.1,.int .i64 p.2] 30)
        have hbxs:=hbx.size
        have HV:=Hd_ (hra.alloc (.cells #[.int .i64 p.1,.int .i64 p.2] 30))
        obtain ⟨H1,hH1⟩:∃ H1,H1=wa.heap.size:=⟨_,rfl⟩
        have HLIT:=Hd_ (show (wa.alloc (.cells #[.int .i64 p.1,.int .i64 p.2] 30)).heap[H1]?=some (.cells (cPr p).toArray 30 (0,0)) by rw [hH1];exact heap_alloc_new _ _)
        clear hra hga hata
        refine hK.out _ _ (kB2 hbb hS0) (fun _ _=>?_)
        try simp only [tA,tB,tC,Act.put,tE,tF,tG]
        clear hK K inv hS;rename_i hS inv
        refine F_o1 6 inv ?_;intro K hK
        try simp only [tA,tB,tC]
        go_simp
        rw [<- hH1]
        refine hK.out _ _ (kB2 hbx hS0) (fun _ _=>?_)
        try simp only [tA,tB,tC,Act.put,tE,tF,tG]
        clear hK K inv hS;rename_i hS inv
        clear hH1
        refine F_o1 7 inv ?_;intro K hK
        try simp only [tA,tB,tC]
        refine op_append1 cPr elPair rfl _ _ (by rfl) W6.drew.heap.size va (l.take k) p _ H1 (by rfl) HV.out (by rfl) HLIT.out rfl (cPr_one _) (by omega) (by omega) hbxs ?_
        intro g2 cp2 w3 hown3 hgr3 hat3 hlt3
        have hb3:=hbx.trans (own_below HV.out hbxs hgr3)
        have HOW3:=Hd_ hown3
        have hs3:=hb3.size
        have HSD3:=Hd_ (HSD.out.dropQ (k:=k) hb3 hwW6 (by omega) hlc)
        clear hown3 hgr3 hat3
        refine hK.out _ _ (kB2 hb3 hS0) (fun _ _=>?_)
        try simp only [tA,tB,tC,Act.put,tE,tF,tG]
        clear hK K inv hS;rename_i hS inv
        refine F_o1 11 inv ?_;intro K hK
        try simp only [tA,tB,tC]
        refine op_appendL cPr elPair cPr_len cPr_one _ _ (by rfl) W6.drew.heap.size (.slice (some ⟨g2,0,none⟩) ((l.take k).length+1) cp2) (l.take k ++ [p]) (l.drop k) (by rfl) HOW3.out lo w.heap.size (.slice (if c=k then some ⟨g,0,none⟩ else some ⟨g,k * 2,none⟩) (l.length - k) (c - k)) (by rfl) HSD3.out (by omega) (by omega) hs3 ?_
        intro v5 w5 hown5 hgr5 hat5
        have hb5:=hb3.trans (own_below (base:=W6.drew.heap.size) HOW3.out hs3 hgr5)
        rw [show l.take k ++ [p] ++ l.drop k=R from HPUT.out.symm] at hown5
        obtain ⟨g5,c5,rfl,-,-,-,-⟩:=own_some hown5 (by have:=HRL.out;omega)
        have HSET:=Hd_ (show SetR lo w5 (.slice (some ⟨g5,0,none⟩) R.length c5) R from ⟨g5,c5,rfl,ownsRow_mono hown5 hloW⟩)
        have HBF:=Hd_ (below_trans HBW6.out hb5)
        clear hown5 hgr5 hat5
        refine hK.out _ _ (kB2 hb5 hS0) (fun _ _=>?_)
        try simp only [tA,tB,tC,Act.put,tE,tF,tG]
        clear hK K inv hS;rename_i hS inv
        refine F_l1 12 ?_;intro K hK
        go_simp
        refine hK _ _ ?_
        clear hK K inv hS
        go_wp2_with fail
        all_goals go_ret
        all_goals exact ⟨_,rfl,HSET.out,HBF.out⟩
      · go_simp
        obtain ⟨H1,hH1⟩:∃ H1,H1=W6.heap.size+1:=⟨_,rfl⟩
        have hbx0:=hba.alloc hsa (.cells #[.int .i64 p.1,.int .i64 p.2] 30)
        have HRL1:=Hd_ (HRL0.out.alloc (.cells #[.int .i64 p.1,.int .i64 p.2] 30))
        have HTK1:=Hd_ ((HSD.out.below hbx0 hwW6).takeP (m:=k) (by omega))
        have hs0x:=hbx0.size
        have HLT0:=Hd_ (show ((W6.drew.alloc (.cells #[] 30)).alloc (.cells #[.int .i64 p.1,.int .i64 p.2] 30)).heap[H1]?=some (.cells (cPr p).toArray 30 (0,0)) by
         have h:=heap_alloc_new (W6.drew.alloc (.cells #[] 30)) (.cells #[.int .i64 p.1,.int .i64 p.2] 30)
         rw [show (W6.drew.alloc (.cells #[] 30)).heap.size=H1 by rw [hH1];simp] at h
         exact h)
        have hH1l:H1 < ((W6.drew.alloc (.cells #[] 30)).alloc (.cells #[.int .i64 p.1,.int .i64 p.2] 30)).heap.size:=by rw [hH1];simp
        rw [<- hH1]
        have hH1n:H1 ≠ W6.drew.heap.size:=by rw [hH1];simp
        have HH1n:=Hd_ hH1n
        have HH1l:=Hd_ hH1l
        clear hH1 hH1n hH1l
        refine hK.out _ _ (kB2 hbx0 hS0) (fun _ _=>?_)
        try simp only [tA,tB,tC,Act.put,tE,tF,tG]
        clear hK K inv hS;rename_i hS inv
        refine F_o1 4 inv ?_;intro K hK
        try simp only [tA,tB,tC]
        refine op_appendL cPr elPair cPr_len cPr_one _ _ (by rfl) W6.drew.heap.size _ [] (l.take k) (by rfl) HRL1.out lo w.heap.size _ (by rfl) HTK1.out (by simp;omega) (by omega) hs0x ?_
        intro va wa hra hga hata
        simp only [List.nil_append] at hra
        have hbx:=hbx0.trans (own_below HRL1.out hs0x hga)
        have hbxs:=hbx.size
        have HV:=Hd_ hra
        have HLIT:=Hd_ ((hga.block H1 HH1l.out (fun e=>by injection e with e;exact HH1n.out e)).trans HLT0.out)
        clear hra hga hata
        refine hK.out _ _ (kB2 hbx hS0) (fun _ _=>?_)
        try simp only [tA,tB,tC,Act.put,tE,tF,tG]
        clear hK K inv hS;rename_i hS inv
        refine F_o1 7 inv ?_;intro K hK
        try simp only [tA,tB,tC]
        refine op_append1 cPr elPair rfl _ _ (by rfl) W6.drew.heap.size va (l.take k) p _ H1 (by rfl) HV.out (by rfl) HLIT.out rfl (cPr_one _) (by omega) (by omega) hbxs ?_
        intro g2 cp2 w3 hown3 hgr3 hat3 hlt3
        have hb3:=hbx.trans (own_below HV.out hbxs hgr3)
        have HOW3:=Hd_ hown3
        have hs3:=hb3.size
        have HSD3:=Hd_ (HSD.out.dropQ (k:=k) hb3 hwW6 (by omega) hlc)
        clear hown3 hgr3 hat3
        refine hK.out _ _ (kB2 hb3 hS0) (fun _ _=>?_)
        try simp only [tA,tB,tC,Act.put,tE,tF,tG]
        clear hK K inv hS;rename_i hS inv
        refine F_o1 11 inv ?_;intro K hK
        try simp only [tA,tB,tC]
        refine op_appendL cPr elPair cPr_len cPr_one _ _ (by rfl) W6.drew.heap.size (.slice (some ⟨g2,0,none⟩) ((l.take k).length+1) cp2) (l.take k ++ [p]) (l.drop k) (by rfl) HOW3.out lo w.heap.size (.slice (if c=k then some ⟨g,0,none⟩ else some ⟨g,k * 2,none⟩) (l.length - k) (c - k)) (by rfl) HSD3.out (by omega) (by omega) hs3 ?_
        intro v5 w5 hown5 hgr5 hat5
        have hb5:=hb3.trans (own_below (base:=W6.drew.heap.size) HOW3.out hs3 hgr5)
        rw [show l.take k ++ [p] ++ l.drop k=R from HPUT.out.symm] at hown5
        obtain ⟨g5,c5,rfl,-,-,-,-⟩:=own_some hown5 (by have:=HRL.out;omega)
        have HSET:=Hd_ (show SetR lo w5 (.slice (some ⟨g5,0,none⟩) R.length c5) R from ⟨g5,c5,rfl,ownsRow_mono hown5 hloW⟩)
        have HBF:=Hd_ (below_trans HBW6.out hb5)
        clear hown5 hgr5 hat5
        refine hK.out _ _ (kB2 hb5 hS0) (fun _ _=>?_)
        try simp only [tA,tB,tC,Act.put,tE,tF,tG]
        clear hK K inv hS;rename_i hS inv
        refine F_l1 12 ?_;intro K hK
        go_simp
        refine hK _ _ ?_
        clear hK K inv hS
        go_wp2_with fail
        all_goals go_ret
        all_goals exact ⟨_,rfl,HSET.out,HBF.out⟩
    · go_simp
      obtain ⟨H1,hH1⟩:∃ H1,H1=W6.heap.size:=⟨_,rfl⟩
      have hba:=(Below.refl W6.drew.heap.size W6.drew).alloc (Nat.le_refl _) (.cells #[.int .i64 p.1,.int .i64 p.2] 30)
      have hsa:=hba.size
      have hH1l:H1 < (W6.drew.alloc (.cells #[.int .i64 p.1,.int .i64 p.2] 30)).heap.size:=by rw [hH1];simp
      have HLT0:=Hd_ (show (W6.drew.alloc (.cells #[.int .i64 p.1,.int .i64 p.2] 30)).heap[H1]?=some (.cells (cPr p).toArray 30 (0,0)) by rw [hH1];exact heap_alloc_new _ _)
      refine hK.out _ _ (kB2 hba hS0) (fun _ _=>?_)
      try simp only [tA,tB,tC,Act.put,tE,tF,tG]
      clear hK K inv hS;rename_i hS inv
      refine F_o1 0 inv ?_;intro K hK
      try simp only [tA,tB,tC]
      go_simp
      have hbx0:=hba.alloc hsa (.cells #[] 30)
      have hrl:=World.ownsRow_lit (base:=W6.drew.heap.size) (e:=30) (size:=2) (W6.drew.alloc (.cells #[.int .i64 p.1,.int .i64 p.2] 30)) #[] 0 hsa (by decide) rfl
      rw [show (W6.drew.alloc (.cells #[.int .i64 p.1,.int .i64 p.2] 30)).heap.size=H1+1 by rw [hH1];simp] at hrl
      have HRL1:=Hd_ hrl
      clear hrl
      have HTK1:=Hd_ ((HSD.out.below hbx0 hwW6).takeP (m:=k) (by omega))
      have hs0x:=hbx0.size
      have HLT1:=Hd_ ((Below.heap_alloc _ (.cells #[] 30) H1 hH1l).trans HLT0.out)
      have HH1l:=Hd_ (Nat.lt_of_lt_of_le hH1l (show (W6.drew.alloc (.cells #[.int .i64 p.1,.int .i64 p.2] 30)).heap.size<=((W6.drew.alloc (.cells #[.int .i64 p.1,.int .i64 p.2] 30)).alloc (.cells #[] 30)).heap.size by simp))
      have HH1n:=Hd_ (show H1 ≠ H1+1 by omega)
      rw [<- hH1]
      clear hH1 hH1l
      refine hK.out _ _ (kB2 hbx0 hS0) (fun _ _=>?_)
      try simp only [tA,tB,tC,Act.put,tE,tF,tG]
      clear hK K inv hS;rename_i hS inv
      refine F_o1 4 inv ?_;intro K hK
      try simp only [tA,tB,tC]
      refine op_appendL cPr elPair cPr_len cPr_one _ _ (by rfl) W6.drew.heap.size _ [] (l.take k) (by rfl) HRL1.out lo w.heap.size _ (by rfl) HTK1.out (by simp;omega) (by omega) hs0x ?_
      intro va wa hra hga hata
      simp only [List.nil_append] at hra
      have hbx:=hbx0.trans (own_below HRL1.out hs0x hga)
      have hbxs:=hbx.size
      have HV:=Hd_ hra
      have HLIT:=Hd_ ((hga.block H1 HH1l.out (fun e=>by injection e with e;exact HH1n.out e)).trans HLT1.out)
      clear hra hga hata
      refine hK.out _ _ (kB2 hbx hS0) (fun _ _=>?_)
      try simp only [tA,tB,tC,Act.put,tE,tF,tG]
      clear hK K inv hS;rename_i hS inv
      refine F_o1 7 inv ?_;intro K hK
      try simp only [tA,tB,tC]
      refine op_append1 cPr elPair rfl _ _ (by rfl) W6.drew.heap.size va (l.take k) p _ H1 (by rfl) HV.out (by rfl) HLIT.out rfl (cPr_one _) (by omega) (by omega) hbxs ?_
      intro g2 cp2 w3 hown3 hgr3 hat3 hlt3
      have hb3:=hbx.trans (own_below HV.out hbxs hgr3)
      have HOW3:=Hd_ hown3
      have hs3:=hb3.size
      have HSD3:=Hd_ (HSD.out.dropQ (k:=k) hb3 hwW6 (by omega) hlc)
      clear hown3 hgr3 hat3
      refine hK.out _ _ (kB2 hb3 hS0) (fun _ _=>?_)
      try simp only [tA,tB,tC,Act.put,tE,tF,tG]
      clear hK K inv hS;rename_i hS inv
      refine F_o1 11 inv ?_;intro K hK
      try simp only [tA,tB,tC]
      refine op_appendL cPr elPair cPr_len cPr_one _ _ (by rfl) W6.drew.heap.size (.slice (some ⟨g2,0,none⟩) ((l.take k).length+1) cp2) (l.take k ++ [p]) (l.drop k) (by rfl) HOW3.out lo w.heap.size (.slice (if c=k then some ⟨g,0,none⟩ else some ⟨g,k * 2,none⟩) (l.length - k) (c - k)) (by rfl) HSD3.out (by omega) (by omega) hs3 ?_
      intro v5 w5 hown5 hgr5 hat5
      have hb5:=hb3.trans (own_below (base:=W6.drew.heap.size) HOW3.out hs3 hgr5)
      rw [show l.take k ++ [p] ++ l.drop k=R from HPUT.out.symm] at hown5
      obtain ⟨g5,c5,rfl,-,-,-,-⟩:=own_some hown5 (by have:=HRL.out;omega)
      have HSET:=Hd_ (show SetR lo w5 (.slice (some ⟨g5,0,none⟩) R.length c5) R from ⟨g5,c5,rfl,ownsRow_mono hown5 hloW⟩)
      have HBF:=Hd_ (below_trans HBW6.out hb5)
      clear hown5 hgr5 hat5
      refine hK.out _ _ (kB2 hb5 hS0) (fun _ _=>?_)
      try simp only [tA,tB,tC,Act.put,tE,tF,tG]
      clear hK K inv hS;rename_i hS inv
      refine F_l1 12 ?_;intro K hK
      go_simp
      refine hK _ _ ?_
      clear hK K inv hS
      go_wp2_with fail
      all_goals go_ret
      all_goals exact ⟨_,rfl,HSET.out,HBF.out⟩
theorem and_le (x:Int) (m:Nat) (hm:m < 2 ^ 63):0<=bits .and .i64 x (m:Int)/\bits .and .i64 x (m:Int)<=m:=by
 have h2:(BitVec.ofInt 64 (m:Int)).toNat=m:=by
  rw [BitVec.ofInt_natCast,BitVec.toNat_ofNat];exact Nat.mod_eq_of_lt (by omega)
 have h3:(BitVec.ofInt 64 x &&& BitVec.ofInt 64 (m:Int)).toNat<=m:=by
  rw [BitVec.toNat_and,h2];exact Nat.and_le_right
 have h4:bits .and .i64 x (m:Int)=IntKind.i64.wrap ((BitVec.ofInt 64 x &&& BitVec.ofInt 64 (m:Int)).toNat:Int):=rfl
 rw [h4]
 generalize (BitVec.ofInt 64 x &&& BitVec.ofInt 64 (m:Int)).toNat=z at h3 ⊢
 rw [IntKind.wrap_i64]
 omega
theorem emod_le {a n m:Int} (ha:0<=a) (hn:0 < n) (hm:a<=m):a % n<=m:=by
 have h1:=Int.mul_ediv_add_emod a n
 have h2:0<=n * (a / n):=Int.mul_nonneg (by omega) (Int.ediv_nonneg ha (by omega))
 omega
theorem and255 (x:Int):0<=bits .and .i64 x 255/\bits .and .i64 x 255<=255:=and_le x 255 (by decide)
/-- the cursor in block b: the code's bytes lie below it; its place is not below nought -/
def Cur (w:World) (b:Nat):Prop :=
 ∃ (A:Option Addr) (bs:List Int) (c:Nat) (i h:Int),Blk w b 51 #[.slice A bs.length c,.int .i64 i,.int .i64 h]/\SlI 0 b w cU 1 (.slice A bs.length c) bs/\0<=i/\i<=bs.length
theorem Cur.lt {w:World} {b:Nat} (h:Cur w b):b < w.heap.size:=by
 obtain ⟨A,bs,c,i,g,h1,-⟩:=h
 exact h1.lt
theorem Cur.only {w w':World} {b l r:Nat} (h:Cur w b) (ho:Only l r w w') (hl:b < l):Cur w' b:=by
 obtain ⟨A,bs,c,i,g,h1,h2,h3⟩:=h
 exact ⟨A,bs,c,i,g,h1.only ho (.inl hl),h2.only ho (Nat.le_of_lt h1.lt) (.inl (Nat.le_of_lt hl)),h3⟩
theorem Cur.keep {w w':World} {b:Nat} (h:Cur w b) (hb:Below w.heap.size w w'):Cur w' b:=h.only (Only.of_below hb w.heap.size w.heap.size) h.lt
set_option maxHeartbeats 2000000 in
theorem l1Byte_any (b:Nat) (w:World) (hc:Cur w b) :
 Calls Tryd.prog 46 #[.pointer (some ⟨b,0,none⟩)] w fun e w'=>∃ r:Int,e=.returned (.int .i64 r)/\(0<=r/\r<=255)/\Cur w' b/\Only b (b+1) w w':=by
 obtain ⟨A,bs,c,i,h,hblk,hsl,hi0,hi1⟩:=hc
 have hlt:=hblk.lt
 have x0:w.cell? ⟨b,0,none⟩=some (.slice A bs.length c):=hblk.cell 0
 have x1:w.cell? ⟨b,1,none⟩=some (.int .i64 i):=hblk.cell 1
 have x2:w.cell? ⟨b,2,none⟩=some (.int .i64 h):=hblk.cell 2
 have y1:=hblk.frozen 1
 have y2:=hblk.frozen 2
 go_enter Tryd.func46,Tryd.ntmps46
 go_upto_region 2 with fail
 generalize wrap64 (wrap64 (h * 6364136223846793005)+1442695040888963407)=h'
 have hbk1:=hblk.set_ 2 (.int .i64 h')
 have ho1:Only b (b+1) w (w.setCell ⟨b,2,none⟩ (.int .i64 h')):=(Only.refl b (b+1) w).setCell (p:=⟨b,2,none⟩) (.inl ⟨Nat.le_refl _,Nat.lt_succ_self _⟩) _
 generalize w.setCell ⟨b,2,none⟩ (.int .i64 h')=W1 at *
 replace hsl:=hsl.only ho1 (Nat.le_of_lt hlt) (.inl (Nat.le_refl _))
 replace hlt:=hbk1.lt
 replace x0:W1.cell? ⟨b,0,none⟩=some (.slice A bs.length c):=hbk1.cell 0
 replace x1:W1.cell? ⟨b,1,none⟩=some (.int .i64 i):=hbk1.cell 1
 replace x2:W1.cell? ⟨b,2,none⟩=some (.int .i64 h'):=hbk1.cell 2
 replace y1:=hbk1.frozen 1
 replace y2:=hbk1.frozen 2
 have HSL:=Hd_ hsl
 refine wp_region_ext_lit (by kernel_rfl) (by kernel_rfl) ?_
 repeat (go_big_quiet_step (fail))
 refine wpQuiet_nil ?_
 rintro _ ⟨u,rfl⟩
 obtain ⟨hr0,hr1⟩:=and255 (bits .xor .i64 (h' / 8589934592) (h' / 35184372088832))
 generalize bits .and .i64 (bits .xor .i64 (h' / 8589934592) (h' / 35184372088832)) 255=x at *
 obtain ⟨n,rfl⟩:=Int.eq_ofNat_of_zero_le hi0
 have HBK:=Hd_ hbk1
 have HON:=Hd_ ho1
 by_cases hin:n < bs.length
 · have hxi:bs[n]?=some bs[n]:=List.getElem?_eq_getElem hin
   obtain ⟨A',c',hv,hl,hm,hx⟩:=hsl
   injection hv with hv1 hv2 hv3
   subst hv1 hv3
   obtain ⟨q,o,rfl,-,hq,hcc⟩:=hx n _ hxi
   generalize bs[n]=y at hcc
   have c0:=hcc 0 _ rfl
   simp only [Nat.add_zero,Nat.mul_one] at c0
   have hqW:=Nat.lt_trans hq hlt
   clear hx hcc hxi hbk1 ho1
   unfold maxLen at hm
   go_wp2_with fail
   refine wp_region_ext_lit (by kernel_rfl) (by kernel_rfl) ?_
   repeat (go_big_quiet_step (fail))
   refine wpQuiet_nil ?_
   rintro _ ⟨u2,rfl⟩
   obtain ⟨u4,hu4⟩:=ext_ext W1 u u2
   rw [hu4]
   go_wp2_with fail
   refine wp_region_ext_lit (by kernel_rfl) (by kernel_rfl) ?_
   repeat (go_big_quiet_step (fail))
   refine wpQuiet_nil ?_
   rintro _ ⟨u3,rfl⟩
   obtain ⟨u5,hu5⟩:=ext_ext W1 u4 u3
   rw [hu5]
   go_wp2_with fail
   go_ret
   have hob:Only b (b+1) (ext W1 u5) ((ext W1 u5).setCell ⟨b,1,none⟩ (.int .i64 ((n:Int)+1))):=(Only.refl b (b+1) _).setCell (p:=⟨b,1,none⟩) (.inl ⟨Nat.le_refl _,Nat.lt_succ_self _⟩) _
   have hoc:=(Only.of_below (ext_below W1 u5) b (b+1)).trans hob
   exact ⟨_,rfl,and255 _,⟨_,bs,c,(n:Int)+1,h',(HBK.out.keep (ext_below W1 u5)).set_ 1 _,HSL.out.only hoc (Nat.le_of_lt hlt) (.inl (Nat.le_refl _)),by omega,by omega⟩,HON.out.trans hoc⟩
 · clear hsl hbk1 ho1
   go_wp2_with fail
   refine wp_region_ext_lit (by kernel_rfl) (by kernel_rfl) ?_
   repeat (go_big_quiet_step (fail))
   refine wpQuiet_nil ?_
   rintro _ ⟨u2,rfl⟩
   obtain ⟨u4,hu4⟩:=ext_ext W1 u u2
   rw [hu4]
   go_wp2_with fail
   go_ret
   have hoc:=Only.of_below (ext_below W1 u4) b (b+1)
   exact ⟨_,rfl,⟨hr0,hr1⟩,⟨A,bs,c,n,h',HBK.out.keep (ext_below W1 u4),HSL.out.only hoc (Nat.le_of_lt hlt) (.inl (Nat.le_refl _)),by omega,by omega⟩,HON.out.trans hoc⟩
set_option maxHeartbeats 2000000 in
theorem l1Below_any (b:Nat) (n:Int) (w:World) (hc:Cur w b) :
 Calls Tryd.prog 35 #[.pointer (some ⟨b,0,none⟩),.int .i64 n] w fun e w'=>∃ r:Int,e=.returned (.int .i64 r)/\(0<=r/\r<=4294967295/\(0 < n->r < n))/\Cur w' b/\Only b (b+1) w w':=by
 by_cases h0:n<=0
 · go_enter Tryd.func35,Tryd.ntmps35
   go_wp2
   go_ret
   exact ⟨_,rfl,by omega,hc,Only.refl _ _ _⟩
 by_cases h1:n<=256
 · go_enter Tryd.func35,Tryd.ntmps35
   go_wp2_with (refine (l1Byte_any b _ hc).mono ?_;rintro e w1 ⟨r,rfl,⟨hr0,hr1⟩,hc1,ho1⟩)
   go_ret
   exact ⟨_,rfl,⟨Int.emod_nonneg _ (by omega),by have:=Int.emod_lt_of_pos r (show 0 < n by omega);omega,fun h=>Int.emod_lt_of_pos _ h⟩,hc1,ho1⟩
 · go_enter Tryd.func35,Tryd.ntmps35
   go_wp2_with fail
   refine (l1Byte_any b _ hc).mono ?_;rintro e w1 ⟨r1,rfl,⟨hr10,hr11⟩,hc1,ho1⟩
   go_wp2_with fail
   refine (l1Byte_any b _ hc1).mono ?_;rintro e w2 ⟨r2,rfl,⟨hr20,hr21⟩,hc2,ho2⟩
   go_wp2_with fail
   refine (l1Byte_any b _ hc2).mono ?_;rintro e w3 ⟨r3,rfl,⟨hr30,hr31⟩,hc3,ho3⟩
   go_wp2_with fail
   refine (l1Byte_any b _ hc3).mono ?_;rintro e w4 ⟨r4,rfl,⟨hr40,hr41⟩,hc4,ho4⟩
   go_wp2_with fail
   go_ret
   exact ⟨_,rfl,⟨Int.emod_nonneg _ (by omega),emod_le (by omega) (by omega) (by omega),fun h=>Int.emod_lt_of_pos _ h⟩,hc4,((ho1.trans ho2).trans ho3).trans ho4⟩
set_option maxHeartbeats 1000000 in
theorem l1Once_any (b:Nat) (n:Int) (w:World) (hc:Cur w b) :
 Calls Tryd.prog 33 #[.pointer (some ⟨b,0,none⟩),.int .i64 n] w fun e w'=>∃ r:Bool,e=.returned (.bool r)/\Cur w' b/\Only b (b+1) w w':=by
 go_enter Tryd.func33,Tryd.ntmps33
 go_wp2_with fail
 refine (l1Below_any b n _ hc).mono ?_;rintro e w1 ⟨r,rfl,-,hc1,ho1⟩
 go_wp2_with fail
 go_ret
 exact ⟨_,rfl,hc1,ho1⟩
set_option maxHeartbeats 1000000 in
theorem l1PickInt_any (b:Nat) (v:Value) (xs:List Int) (w:World) (hc:Cur w b) (hne:0 < xs.length) (hv:SlI (b+1) w.heap.size w cI 1 v xs) :
 Calls Tryd.prog 34 #[.pointer (some ⟨b,0,none⟩),v] w fun e w'=>∃ r:Int,e=.returned (.int .i64 r)/\r ∈ xs/\Cur w' b/\Only b (b+1) w w':=by
 obtain ⟨A,c,rfl,hl,hm,hx⟩:=hv
 unfold maxLen at hm
 have HX:=Hd_ hx
 clear hx
 go_enter Tryd.func34,Tryd.ntmps34
 go_wp2_with fail
 refine (l1Below_any b _ _ hc).mono ?_;rintro e w1 ⟨r,rfl,⟨h0,-,h1⟩,hc1,ho1⟩
 have h1:=h1 (by omega)
 obtain ⟨i,rfl⟩:=Int.eq_ofNat_of_zero_le h0
 have hi:i < xs.length:=by omega
 have hxi:xs[i]?=some xs[i]:=List.getElem?_eq_getElem hi
 have hmem:=List.getElem_mem hi
 obtain ⟨q,o,rfl,hq0,hq1,hcc⟩:=HX.out i _ hxi
 generalize xs[i]=y at hcc hmem
 have c0:=(ho1.cell (p:=⟨q,o+i * 1+0,none⟩) hq1 (.inr hq0)).trans (hcc 0 _ rfl)
 simp only [Nat.add_zero,Nat.mul_one] at c0
 clear hcc hxi
 go_wp2_with fail
 go_ret
 exact ⟨_,rfl,hmem,hc1,ho1⟩
/-- rows of the call's own, one behind the other in memory -/
def RowsO (w:World):Nat->Nat->List Value->List (List Int)->Prop
 | lo,hi,[],[]=>lo<=hi
 | lo,hi,u :: us,xs :: xss=>∃ mid,lo<=mid/\Own lo mid w 3 cI 1 u xs/\RowsO w mid hi us xss
 | _,_,_,_=>False
theorem RowsO.le {w:World}:∀ {us:List Value} {xss:List (List Int)} {lo hi:Nat},RowsO w lo hi us xss->lo<=hi
 | [],[],_,_,h=>h
 | _ :: _,_ :: _,_,_,⟨mid,h1,_,h3⟩=>Nat.le_trans h1 (RowsO.le h3)
 | [],_ :: _,_,_,h=>h.elim
 | _ :: _,[],_,_,h=>h.elim
theorem RowsO.len {w:World}:∀ {us:List Value} {xss:List (List Int)} {lo hi:Nat},RowsO w lo hi us xss->us.length=xss.length
 | [],[],_,_,_=>rfl
 | _ :: _,_ :: _,_,_,⟨_,_,_,h3⟩=>by simp [RowsO.len h3]
 | [],_ :: _,_,_,h=>h.elim
 | _ :: _,[],_,_,h=>h.elim
theorem RowsO.below {w w':World} {B:Nat} (hb:Below B w w'):∀ {us:List Value} {xss:List (List Int)} {lo hi:Nat},RowsO w lo hi us xss->hi<=B->RowsO w' lo hi us xss
 | [],[],_,_,h,_=>h
 | _ :: _,_ :: _,_,_,⟨mid,h1,h2,h3⟩,hB=>⟨mid,h1,h2.below hb (Nat.le_trans (RowsO.le h3) hB),RowsO.below hb h3 hB⟩
 | [],_ :: _,_,_,h,_=>h.elim
 | _ :: _,[],_,_,h,_=>h.elim
theorem RowsO.only {w w':World} {l r:Nat} (hb:Only l r w w'):∀ {us:List Value} {xss:List (List Int)} {lo hi:Nat},RowsO w lo hi us xss->(hi<=l ∨ r<=lo)->RowsO w' lo hi us xss
 | [],[],_,_,h,_=>h
 | _ :: _,_ :: _,lo,hi,⟨mid,h1,h2,h3⟩,ho=>⟨mid,h1,h2.only hb (by have:=RowsO.le h3;omega),RowsO.only hb h3 (by omega)⟩
 | [],_ :: _,_,_,h,_=>h.elim
 | _ :: _,[],_,_,h,_=>h.elim
theorem RowsO.mono {w:World}:∀ {us:List Value} {xss:List (List Int)} {lo hi lo' hi':Nat},RowsO w lo hi us xss->lo'<=lo->hi<=hi'->RowsO w lo' hi' us xss
 | [],[],_,_,_,_,h,h1,h2=>by simp only [RowsO] at h ⊢;omega
 | _ :: _,_ :: _,_,_,_,_,⟨mid,h1,h2,h3⟩,g1,g2=>⟨mid,by omega,h2.mono g1 (Nat.le_refl _),RowsO.mono h3 (Nat.le_refl _) g2⟩
 | [],_ :: _,_,_,_,_,h,_,_=>h.elim
 | _ :: _,[],_,_,_,_,h,_,_=>h.elim
theorem RowsO.at_ {w:World}:∀ {us:List Value} {xss:List (List Int)} {lo hi:Nat},RowsO w lo hi us xss->∀ (i:Nat) (u:Value) (xs:List Int),us[i]?=some u->xss[i]?=some xs->SlI lo hi w cI 1 u xs
 | [],[],_,_,_,_,_,_,h,_=>by simp at h
 | _ :: _,_ :: _,_,_,⟨mid,h1,h2,h3⟩,i,u,xs,hu,hx=>by
   cases i with
   | zero =>
     simp only [List.getElem?_cons_zero,Option.some.injEq] at hu hx
     subst hu hx
     exact (h2.sl cI_len).mono (Nat.le_refl _) (RowsO.le h3)
   | succ i=>exact (RowsO.at_ h3 i u xs (by simpa using hu) (by simpa using hx)).mono h1 (Nat.le_refl _)
 | [],_ :: _,_,_,h,_,_,_,_,_=>h.elim
 | _ :: _,[],_,_,h,_,_,_,_,_=>h.elim
def SSO (lo hi:Nat) (w:World) (v:Value) (xss:List (List Int)):Prop :=
 ∃ us mid,Own lo mid w 54 cV 1 v us/\RowsO w mid hi us xss/\lo<=mid
theorem SSO.view {lo hi:Nat} {w:World} {v:Value} {xss:List (List Int)} (h:SSO lo hi w v xss):SSV lo hi w v xss:=by
 obtain ⟨us,mid,h1,h2,h3⟩:=h
 exact ⟨us,(h1.sl cV_len).mono (Nat.le_refl _) h2.le,h2.len,fun i u xs hu hx=>(h2.at_ i u xs hu hx).mono h3 (Nat.le_refl _)⟩
theorem SSO.below {lo hi:Nat} {w w':World} {v:Value} {xss:List (List Int)} (h:SSO lo hi w v xss) {B:Nat} (hb:Below B w w') (hB:hi<=B):SSO lo hi w' v xss:=by
 obtain ⟨us,mid,h1,h2,h3⟩:=h
 exact ⟨us,mid,h1.below hb (Nat.le_trans h2.le hB),h2.below hb hB,h3⟩
theorem SSO.only {lo hi:Nat} {w w':World} {v:Value} {xss:List (List Int)} (h:SSO lo hi w v xss) {l r:Nat} (hb:Only l r w w') (ho:hi<=l ∨ r<=lo):SSO lo hi w' v xss:=by
 obtain ⟨us,mid,h1,h2,h3⟩:=h
 have:=h2.le
 exact ⟨us,mid,h1.only hb (by omega),h2.only hb (by omega),h3⟩
theorem SSO.mono {lo hi:Nat} {w:World} {v:Value} {xss:List (List Int)} (h:SSO lo hi w v xss) {lo' hi':Nat} (g1:lo'<=lo) (g2:hi<=hi'):SSO lo' hi' w v xss:=by
 obtain ⟨us,mid,h1,h2,h3⟩:=h
 exact ⟨us,mid,h1.mono g1 (Nat.le_refl _),h2.mono (Nat.le_refl _) g2,by omega⟩
def AuO (lo hi:Nat) (w:World) (v:Value) (a:Au):Prop :=
 ∃ ac nx mid,v=.agg #[.int .i64 a.start,ac,nx]/\Own lo mid w 4 cB 1 ac a.accept/\SSO mid hi w nx a.next/\lo<=mid/\mid<=hi
theorem AuO.view {lo hi:Nat} {w:World} {v:Value} {a:Au} (h:AuO lo hi w v a):AuV lo hi w v a:=by
 obtain ⟨ac,nx,mid,rfl,h1,h2,h3,h4⟩:=h
 exact ⟨ac,nx,rfl,(h1.sl cB_len).mono (Nat.le_refl _) h4,h2.view.mono h3 (Nat.le_refl _)⟩
theorem AuO.below {lo hi:Nat} {w w':World} {v:Value} {a:Au} (h:AuO lo hi w v a) {B:Nat} (hb:Below B w w') (hB:hi<=B):AuO lo hi w' v a:=by
 obtain ⟨ac,nx,mid,rfl,h1,h2,h3,h4⟩:=h
 exact ⟨ac,nx,mid,rfl,h1.below hb (by omega),h2.below hb hB,h3,h4⟩
theorem AuO.only {lo hi:Nat} {w w':World} {v:Value} {a:Au} (h:AuO lo hi w v a) {l r:Nat} (hb:Only l r w w') (ho:hi<=l ∨ r<=lo):AuO lo hi w' v a:=by
 obtain ⟨ac,nx,mid,rfl,h1,h2,h3,h4⟩:=h
 exact ⟨ac,nx,mid,rfl,h1.only hb (by omega),h2.only hb (by omega),h3,h4⟩
/-- rows of rows whose blocks all lie from lo to hi -/
def NSO (lo hi:Nat) (w:World) (v:Value) (xss:List (List Int)):Prop :=
 ∃ us,NS lo w 54 3 cI 1 v us xss/\∀ b ∈ blks (v :: us),b < hi
section
variable {lo hi:Nat} {w w':World} {v:Value} {xss:List (List Int)}
theorem NSO.of {us:List Value} (h:NS lo w 54 3 cI 1 v us xss):NSO lo w.heap.size w v xss:=⟨us,h,fun b hb=>(h.lt b hb).2⟩
theorem NSO.view (h:NSO lo hi w v xss):SSV lo hi w v xss:=by
 obtain ⟨us,h,hl⟩:=h
 refine ⟨us,Own.sl ⟨h.own,fun g hg=>hl g (mem_blks.2 ⟨0,v,rfl,hg⟩)⟩ cV_len,h.len,fun i u xs hu hx=>?_⟩
 exact Own.sl ⟨h.rows i u xs hu hx,fun g hg=>hl g (mem_blks.2 ⟨i+1,u,by simpa using hu,hg⟩)⟩ cI_len
theorem NSO.below (h:NSO lo hi w v xss) {B:Nat} (hb:Below B w w') (hB:hi<=B):NSO lo hi w' v xss:=by
 obtain ⟨us,h,hl⟩:=h
 exact ⟨us,h.blocks fun b hm=>hb.block b (by have:=hl b hm;omega),hl⟩
theorem NSO.only (h:NSO lo hi w v xss) {l r:Nat} (hb:Only l r w w') (ho:hi<=l ∨ r<=lo):NSO lo hi w' v xss:=by
 obtain ⟨us,h,hl⟩:=h
 exact ⟨us,h.blocks fun b hm=>hb.block b (h.lt b hm).2 (by have:=hl b hm;have:=(h.lt b hm).1;omega),hl⟩
theorem NSO.mono (h:NSO lo hi w v xss) {lo' hi':Nat} (h1:lo'<=lo) (h2:hi<=hi'):NSO lo' hi' w v xss:=by
 obtain ⟨us,h,hl⟩:=h
 exact ⟨us,h.mono h1,fun b hb=>by have:=hl b hb;omega⟩
end
theorem own_only {lo k n l r:Nat} {e:TypeId} {v:Value} {cs:List Value} {w w':World} (h:w.ownsRow lo e k v n cs) (ho:Only l r w w') (hr:r<=lo):w'.ownsRow lo e k v n cs :=
 ownsRow_block h fun g hg=>ho.block g (h.lt g hg).2 (.inr (Nat.le_trans hr (h.lt g hg).1))
theorem Cur.below {w w':World} {b B:Nat} (h:Cur w b) (hb:Below B w w') (hB:b < B):Cur w' b:=by
 obtain ⟨A,bs,c,i,g,h1,h2,h3⟩:=h
 exact ⟨A,bs,c,i,g,h1.below hb hB,h2.below hb (Nat.le_of_lt hB),h3⟩
theorem Cur.set {w:World} {b:Nat} {p:Addr} (h:Cur w b) (hp:b < p.block) (u:Value):Cur (w.setCell p u) b :=
 h.only ((Only.refl p.block (p.block+1) w).setCell (.inl ⟨Nat.le_refl _,Nat.lt_succ_self _⟩) u) hp
theorem Only.andBelow {l r B:Nat} {w a c:World} (h:Only l r w a) (hb:Below B a c) (hB:w.heap.size<=B):Only l r w c :=
 ⟨hb.os.trans h.os,hb.tape.trans h.tape,hb.output.trans h.output,Nat.le_trans h.size hb.size,fun n h1 h2=>(hb.block n (Nat.lt_of_lt_of_le h1 hB)).trans (h.block n h1 h2)⟩
theorem Blk.put2 {w:World} {g:Nat} {t:TypeId} {c0 c1:Value} (h:Blk w g t #[c0,c1]) (d0 d1:Value):Blk ((w.setCell ⟨g,0,none⟩ d0).setCell ⟨g,1,none⟩ d1) g t #[d0,d1]:=by
 have:=(h.set_ 0 d0).set_ 1 d1
 simpa using this
theorem Only.put2 (w:World) (g:Nat) (d0 d1:Value):Only g (g+1) w ((w.setCell ⟨g,0,none⟩ d0).setCell ⟨g,1,none⟩ d1):=((Only.refl _ _ _).setCell (p:=⟨g,0,none⟩) (.inl ⟨Nat.le_refl _,Nat.lt_succ_self _⟩) d0).setCell (p:=⟨g,1,none⟩) (.inl ⟨Nat.le_refl _,Nat.lt_succ_self _⟩) d1
set_option maxHeartbeats 1000000 in
theorem l1New_any (v:Value) (bs:List Int) (w:World) (hv:SlI 0 w.heap.size w cU 1 v bs) :
 Calls Tryd.prog 16 #[v] w fun e w'=>∃ b,e=.returned (.pointer (some ⟨b,0,none⟩))/\w.heap.size<=b/\Cur w' b/\Below w.heap.size w w':=by
 have HV:=Hd_ hv
 obtain ⟨A,c,rfl,hl,hm,hx⟩:=hv
 unfold maxLen at hm
 have HX:=Hd_ hx
 clear hx
 go_enter Tryd.func16,Tryd.ntmps16
 go_wp2
 go_loop [3,4] (fun hh ii=>∃ (i:Nat) (h:Int),i<=bs.length/\hh=.int .i64 h/\ii=.int .i64 i) (fun _ ii=>bs.length - (intOf ii).toNat)
 case atStart=>exact ⟨0,_,Nat.zero_le _,rfl,rfl⟩
 case round =>
  obtain ⟨i,h,hi,rfl,rfl⟩:=hrel
  by_cases hlt:i < bs.length
  · have hxi:bs[i]?=some bs[i]:=List.getElem?_eq_getElem hlt
    obtain ⟨q,o,rfl,-,hq,hcc⟩:=HX.out i _ hxi
    generalize bs[i]=y at hcc
    have c0:=hcc 0 _ rfl
    simp only [Nat.add_zero,Nat.mul_one] at c0
    clear hcc hxi
    by_cases h4:(i:Int) < 4000
    · go_wp2
      go_round
      case rel=>exact ⟨i+1,_,by omega,rfl,by go_num⟩
      case measure=>simp [intOf];omega
    · go_wp2
      go_ret
      refine ⟨_,rfl,Nat.le_refl _,⟨_,bs,c,0,h,Blk.new w _ _ _ rfl,?_,by omega,by omega⟩,(Below.refl _ _).alloc (Nat.le_refl _) _⟩
      exact HV.out.below ((Below.refl _ _).alloc (Nat.le_refl _) _) (Nat.le_refl _)
  · go_wp2
    go_ret
    refine ⟨_,rfl,Nat.le_refl _,⟨_,bs,c,0,h,Blk.new w _ _ _ rfl,?_,by omega,by omega⟩,(Below.refl _ _).alloc (Nat.le_refl _) _⟩
    exact HV.out.below ((Below.refl _ _).alloc (Nat.le_refl _) _) (Nat.le_refl _)
theorem litD_sl (W:World) (e:TypeId) (cs:Array Value) (xs:List Int) (n lo:Nat) (hlo:lo<=W.heap.size) (hn:n<=maxLen) (h1:xs.length=n) (h2:xs.flatMap cI=cs.toList) (h3:cs.size=n * 1) :
 SlI lo (W.alloc (.cells cs e)).heap.size (W.alloc (.cells cs e)) cI 1 (.slice (some ⟨W.heap.size,0,none⟩) n n) xs :=
 (Own.of_row (xs:=xs) (E:=cI) (World.ownsRow_lit (base:=lo) (e:=e) (size:=1) W cs n hlo hn h3) h1 h2).sl cI_len
def PrsOut (b k:Nat) (w:World) (e:Ending) (w':World):Prop:=∃ v l,e=.returned v/\(Own w.heap.size w'.heap.size w' 30 cPr 2 v l/\l.length<=k/\Cur w' b/\Only b (b+1) w w')
theorem SetR.only {lo a c:Nat} {w w':World} {v:Value} {l:List Pr} (h:SetR lo w v l) (ho:Only a c w w') (hc:c<=lo):SetR lo w' v l:=by
 obtain ⟨g,cp,rfl,h⟩:=h
 exact ⟨g,cp,rfl,own_only h ho hc⟩
set_option maxHeartbeats 2000000 in
theorem l15Pairs_any (b:Nat) (w:World) (hc:Cur w b) :
 Calls Tryd.prog 32 #[.pointer (some ⟨b,0,none⟩)] w (PrsOut b 6 w):=by
 have hlt:=hc.lt
 have hal:=(Below.refl w.heap.size w).alloc (Nat.le_refl _) (.cells #[] 30)
 have HS:=Hd_ (SetR.lit w w.heap.size (Nat.le_refl _))
 have HC:=Hd_ (hc.keep hal)
 have HO:=Hd_ (Only.of_below hal b (b+1))
 clear hal hc
 go_enter Tryd.func32,Tryd.ntmps32
 go_wp2_with fail
 refine (l1Below_any b 7 _ HC.out).mono ?_
 rintro e w1 ⟨n,rfl,⟨hn0,-,hn1⟩,hc1,ho1⟩
 have hn1:=hn1 (by omega)
 obtain ⟨n,rfl⟩:=Int.eq_ofNat_of_zero_le hn0
 have HS1:=Hd_ (HS.out.only ho1 (by omega))
 have HO1:=Hd_ (HO.out.trans ho1)
 have HC1:=Hd_ hc1
 have hn6:n<=6:=by omega
 clear ho1 hc1 HS HC HO hn0 hn1
 go_wp2_with fail
 go_loopw [3,4] (fun ll kk wr=>∃ (k:Nat) (L:List Pr),kk=.int .i64 (k:Int)/\L.length+k<=6/\SetR w.heap.size wr ll L/\Cur wr b/\Only b (b+1) w wr) (fun _ kk _=>(intOf kk).toNat)
 case atStart=>exact ⟨n,[],rfl,by simpa using hn6,HS1.out,HC1.out,HO1.out⟩
 case round =>
  obtain ⟨k,L,rfl,hL,hs,hc,ho⟩:=hrel
  have HSR:=Hd_ hs
  have HCR:=Hd_ hc
  have HOR:=Hd_ ho
  clear hs hc ho HS1 HC1 HO1
  by_cases hk:0 < k
  · have hki:(0:Int) < (k:Int):=by omega
    go_wp2_with fail
    refine (l1Below_any b 5 _ HCR.out).mono ?_
    rintro e w2 ⟨x,rfl,-,hc2,ho2⟩
    have HS2:=Hd_ (HSR.out.only ho2 (by omega))
    have HO2:=Hd_ (HOR.out.trans ho2)
    clear ho2 HSR HCR HOR
    go_wp2_with fail
    refine (l1Below_any b 5 _ hc2).mono ?_
    rintro e w3 ⟨y,rfl,-,hc3,ho3⟩
    have HS3:=Hd_ (HS2.out.only ho3 (by omega))
    have HO3:=Hd_ (HO2.out.trans ho3)
    have HC3:=Hd_ hc3
    clear ho3 hc3 hc2 HS2 HO2
    have hsz:w.heap.size<=w3.heap.size:=HO3.out.size
    go_wp2_with fail
    refine (l15Put_any _ w.heap.size L (x,y) _ HS3.out hsz (by omega)).mono ?_
    rintro e w4 ⟨v4,rfl,hs4,hb4⟩
    have HS4:=Hd_ hs4
    have HO4:=Hd_ (HO3.out.trans (Only.of_below hb4 b (b+1)))
    have HC4:=Hd_ (HC3.out.keep hb4)
    have hpl:=putP_len L (x,y)
    clear hs4 hb4 HS3 HO3 HC3
    go_wp2_with fail
    go_roundw
    case rel=>exact ⟨k - 1,putP L (x,y),by congr 1;omega,by omega,HS4.out,HC4.out,HO4.out⟩
    case measure=>simp [intOf];omega
  · obtain rfl:k=0:=by omega
    obtain ⟨g,c,rfl,hrow⟩:=HSR.out
    have HOW:=Hd_ (show Own w.heap.size wr.heap.size wr 30 cPr 2 (.slice (some ⟨g,0,none⟩) L.length c) L from Own.of_row hrow rfl rfl)
    clear hrow
    go_wp2_with fail
    go_ret
    exact ⟨_,L,rfl,HOW.out,by omega,HCR.out,HOR.out⟩
set_option maxHeartbeats 2000000 in
theorem l15Any_any (b:Nat) (w:World) (hc:Cur w b) :
 Calls Tryd.prog 17 #[.pointer (some ⟨b,0,none⟩)] w (PrsOut b 7 w):=by
 have hlt:=hc.lt
 go_enter Tryd.func17,Tryd.ntmps17
 go_wp2_with fail
 refine (l15Pairs_any b _ hc).mono ?_
 rintro e w1 ⟨v,L,rfl,how,hL,hc1,ho1⟩
 have HOW:=Hd_ how
 have HO1:=Hd_ ho1
 obtain ⟨A,n,c,rfl⟩:=how.shape
 have hs1:=ho1.size
 clear how ho1 hc
 go_wp2_with fail
 refine (l1Once_any b 12 _ hc1).mono ?_
 rintro e w2 ⟨t,rfl,hc2,ho2⟩
 have HOW2:=Hd_ (HOW.out.only ho2 (.inr (by omega)))
 have HO2:=Hd_ (HO1.out.trans ho2)
 have hs2:=ho2.size
 clear ho2 HOW HO1 hc1
 cases t
 · have HR:=Hd_ (HOW2.out.mono (Nat.le_refl _) hs2)
   go_wp2_with fail
   go_ret
   exact ⟨_,L,rfl,HR.out,by omega,hc2,HO2.out⟩
 · have HSL:=Hd_ (litD_sl w2 3 #[.int .i64 0,.int .i64 5,.int .i64 (-1)] [0,5,-1] 3 (b+1) (by omega) (by decide) rfl rfl rfl)
   have hal:=(Below.refl w2.heap.size w2).alloc (Nat.le_refl _) (.cells #[.int .i64 0,.int .i64 5,.int .i64 (-1)] 3)
   have HC3:=Hd_ (hc2.keep hal)
   have HOW3:=Hd_ (HOW2.out.below hal hs2)
   have HO3:=Hd_ (HO2.out.trans (Only.of_below hal b (b+1)))
   have hs3:=hal.size
   clear hal hc2 HOW2 HO2
   go_wp2_with fail
   refine (l1PickInt_any b _ _ _ HC3.out (by decide) HSL.out).mono ?_
   rintro e w3 ⟨x,rfl,-,hc4,ho4⟩
   have HOW4:=Hd_ (HOW3.out.only ho4 (.inr (by omega)))
   have HO4:=Hd_ (HO3.out.trans ho4)
   have hs4:=ho4.size
   clear ho4 HOW3 HO3 HC3 HSL
   go_wp2_with fail
   refine (l1Below_any b 6 _ hc4).mono ?_
   rintro e w5 ⟨y,rfl,-,hc5,ho5⟩
   have hs5:=ho5.size
   have HOW5:=Hd_ ((HOW4.out.only ho5 (.inr (by omega))).1)
   have HO5:=Hd_ (HO4.out.trans ho5)
   have HC5:=Hd_ hc5
   have hsz:w.heap.size<=w5.heap.size:=HO5.out.size
   clear ho5 HOW4 HO4 hc4 hc5
   go_wp2_with (at_builtin;(refine wpList_append2 cPr elPair rfl _ _ (by rfl) w.heap.size _ L (x,y) 1 _ (by rfl) (HOW5.out.alloc _) (by rfl) (heap_alloc_new _ _) rfl (cPr_one _) (by omega) (by omega) (by simp;omega) ?_);intro g2 cp2 w9 hown9 hgr9 hat9 hlt9)
   have hal:=(Below.refl w5.heap.size w5).alloc (Nat.le_refl _) (.cells #[.int .i64 x,.int .i64 y] 30)
   have hob:=own_below (HOW5.out.alloc (.cells #[.int .i64 x,.int .i64 y] 30)) (by simp;omega) hgr9
   have HO9:=Hd_ ((HO5.out.trans (Only.of_below hal b (b+1))).andBelow hob (Nat.le_refl _))
   have HC9:=Hd_ ((HC5.out.keep hal).below hob hlt)
   have HR:=Hd_ (show Own w.heap.size w9.heap.size w9 30 cPr 2 (.slice (some ⟨g2,0,none⟩) (L.length+1) cp2) (L ++ [(x,y)]) from Own.of_row hown9 rfl rfl)
   clear hown9 hgr9 hat9 hlt9 hal hob
   go_wp2_with fail
   go_ret
   exact ⟨_,L ++ [(x,y)],rfl,HR.out,by simp;omega,HC9.out,HO9.out⟩
def TwoPr (w:World) (e:Ending) (w':World):Prop:=∃ va vb a b,e=.returned (.tuple #[va,vb])/\(SlE w' cPr 2 va a/\a.length<=7/\SlE w' cPr 2 vb b/\b.length<=7/\Below w.heap.size w w')
set_option maxHeartbeats 2000000 in
theorem drawMerge_any (v:Value) (bs:List Int) (w:World) (hv:SlI 0 w.heap.size w cU 1 v bs) :
 Calls Tryd.prog 5 #[v] w (TwoPr w):=by
 have HV:=Hd_ hv
 obtain ⟨A,n,c,rfl⟩:=hv.shape
 clear hv
 go_enter Tryd.func5,Tryd.ntmps5
 go_wp2_with fail
 refine (l1New_any _ bs _ HV.out).mono ?_
 rintro e w1 ⟨b,rfl,hbl,hc1,hbw⟩
 have HB1:=Hd_ hbw
 have hlt:=hc1.lt
 clear hbw HV
 go_wp2_with fail
 refine (l15Any_any b _ hc1).mono ?_
 rintro e w2 ⟨va,a,rfl,how,hLw2,hcw2,how2⟩
 have hzw2:=how2.size
 have Hva:=Hd_ ((how.sl cPr_len))
 have HOw2:=Hd_ how2
 clear how how2
 obtain ⟨A1,n1,c1,rfl⟩:=Hva.out.shape
 go_wp2_with fail
 refine (l15Any_any b _ hcw2).mono ?_
 rintro e w3 ⟨vb,d,rfl,how,hLw3,hcw3,how3⟩
 have hzw3:=how3.size
 have Hvb:=Hd_ ((how.sl cPr_len))
 have HOw3:=Hd_ how3
 clear how how3
 obtain ⟨A2,n2,c2,rfl⟩:=Hvb.out.shape
 have HA:=Hd_ ((Hva.out.only HOw3.out (Nat.le_refl _) (.inr (by omega))).mono (lo':=0) (Nat.zero_le _) hzw3)
 have HD:=Hd_ (Hvb.out.mono (lo':=0) (Nat.zero_le _) (Nat.le_refl _))
 have HB:=Hd_ (HB1.out.trans ((HOw2.out.trans HOw3.out).below (B:=w.heap.size) hbl HB1.out.size))
 go_wp2_with fail
 go_ret2
 exact ⟨_,_,a,d,rfl,HA.out,hLw2,HD.out,hLw3,HB.out⟩
end Go.Proofs.YtloeghbhoflabaaDoor
namespace Go.Proofs.YtloeghbhoflabaaDoor
theorem index_past1 {c:UInt8} (t:List UInt8):∀ {x:List UInt8},c ∉ x->Lib.index (x ++ c :: t) [c]=(x.length:Nat)
 | [],_=>by rw [List.nil_append,Lib.index];simp [List.isPrefixOf]
 | b :: x,h=>by
   have hb:c ≠ b:=fun e=>h (by simp [e])
   have hx:c ∉ x:=fun e=>h (List.mem_cons_of_mem _ e)
   have hp:([c]:List UInt8).isPrefixOf (b :: (x ++ c :: t))=false:=by simp [List.isPrefixOf,hb]
   rw [List.cons_append,Lib.index,hp,index_past1 t hx]
   have hm:¬ ((x.length:Int)==-1)=true:=fun e=>by have:=beq_iff_eq.1 e;omega
   simp [hm]
theorem join_two (x y:List UInt8) (r:List (List UInt8)) (c:UInt8):Lib.join (x :: y :: r) [c]=x ++ c :: Lib.join (y :: r) [c]:=by
 rw [Lib.join_cons,Lib.join_cons]
 simp [Lib.joinTail]
theorem splitK_join {c:UInt8}:∀ (r:List (List UInt8)) (x:List UInt8),c ∉ x->(∀ y ∈ r,c ∉ y)->Lib.splitK [c] 0 r.length (Lib.join (x :: r) [c])=x :: r
 | [],x,_,_=>by rw [Lib.join_one];rfl
 | y :: r,x,hx,hr=>by
   have ih:=splitK_join r y (hr y (by simp)) fun z hz=>hr z (List.mem_cons_of_mem _ hz)
   rw [join_two,List.length_cons,Lib.splitK,index_past1 _ hx]
   have hm:¬ (((x.length:Nat):Int)==-1)=true:=fun e=>by have:=beq_iff_eq.1 e;omega
   rw [if_neg hm]
   have e1:(x ++ c :: Lib.join (y :: r) [c]).take (((x.length:Nat):Int).toNat+0)=x:=by simp
   have e2:(x ++ c :: Lib.join (y :: r) [c]).drop (((x.length:Nat):Int).toNat+[c].length)=Lib.join (y :: r) [c]:=by
    have:(x ++ c :: Lib.join (y :: r) [c])=(x ++ [c]) ++ Lib.join (y :: r) [c]:=by simp
    rw [this,List.drop_left' (by simp)]
   rw [e1,e2,ih]
theorem count_join {c:UInt8}:∀ (r:List (List UInt8)) (x:List UInt8),c ∉ x->(∀ y ∈ r,c ∉ y)->Lib.count (Lib.join (x :: r) [c]) [c]=r.length
 | [],x,hx,_=>by rw [Lib.join_one,Lib.count_one];exact List.count_eq_zero.2 hx
 | y :: r,x,hx,hr=>by
   have ih:=count_join r y (hr y (by simp)) fun z hz=>hr z (List.mem_cons_of_mem _ hz)
   rw [Lib.count_one] at ih ⊢
   rw [join_two,List.count_append,List.count_eq_zero.2 hx,List.count_cons_self,ih,List.length_cons]
   omega
theorem split_join {c:UInt8} (r:List (List UInt8)) (x:List UInt8) (hx:c ∉ x) (hr:∀ y ∈ r,c ∉ y):Lib.splitK [c] 0 (Lib.count (Lib.join (x :: r) [c]) [c]) (Lib.join (x :: r) [c])=x :: r:=by
 rw [count_join r x hx hr]
 exact splitK_join r x hx hr
/-- the piece of a pair -/
def pdig (n:Int):ByteArray:=⟨(Lib.decDigits n.toNat).toArray⟩
def ptx (p:Pr):ByteArray:=pdig p.1 ++ pdig p.2
def okP (p:Pr):Prop:=(0<=p.1/\p.1<=4)/\(0<=p.2/\p.2<=4)
theorem five {P:Int->Prop} (h0:P 0) (h1:P 1) (h2:P 2) (h3:P 3) (h4:P 4) {n:Int} (hn:0<=n/\n<=4):P n:=by
 have:n=0 ∨ n=1 ∨ n=2 ∨ n=3 ∨ n=4:=by omega
 rcases this with rfl | rfl | rfl | rfl | rfl <;> assumption
theorem pdig_list {n:Int} (h:0<=n/\n<=4):(pdig n).data.toList=[UInt8.ofNat (48+n.toNat)]:=by
 rw [pdig,Lib.decDigits,dif_pos (by omega)]
theorem ptx_list {p:Pr} (h:okP p):(ptx p).data.toList=[UInt8.ofNat (48+p.1.toNat),UInt8.ofNat (48+p.2.toNat)]:=by
 rw [ptx,ByteArray.data_append,Array.toList_append,pdig_list h.1,pdig_list h.2]
 rfl
theorem dig_ne {n:Int} (h:0<=n/\n<=4):(32:UInt8) ≠ UInt8.ofNat (48+n.toNat):=five (P:=fun n=>(32:UInt8) ≠ UInt8.ofNat (48+n.toNat)) (by decide) (by decide) (by decide) (by decide) (by decide) h
theorem dig_val {n:Int} (h:0<=n/\n<=4):((UInt8.ofNat (48+n.toNat)).toNat:Int)=48+n:=five (P:=fun n=>((UInt8.ofNat (48+n.toNat)).toNat:Int)=48+n) (by decide) (by decide) (by decide) (by decide) (by decide) h
theorem ptx_blank {p:Pr} (h:okP p):(32:UInt8) ∉ (ptx p).data.toList:=by
 rw [ptx_list h]
 simp only [List.mem_cons,List.not_mem_nil,or_false,not_or]
 exact ⟨dig_ne h.1,dig_ne h.2⟩
/-- the text of a list of pairs that is not empty -/
def ftx (l:List Pr):ByteArray:=⟨(Lib.join (l.map fun p=>(ptx p).data.toList) [32]).toArray⟩
theorem ftx_split {l:List Pr} (hl:l ≠ []) (h:∀ p ∈ l,okP p):Lib.splitB ⟨#[32]⟩ 0 (Lib.countB (ftx l) ⟨#[32]⟩) (ftx l)=l.map ptx:=by
 have e:=Lib.splitB_data ⟨#[32]⟩ 0 (Lib.countB (ftx l) ⟨#[32]⟩) (ftx l)
 cases l with
 | nil=>exact absurd rfl hl
 | cons p r =>
   have hs:Lib.splitK [32] 0 (Lib.count (Lib.join ((p :: r).map fun p=>(ptx p).data.toList) [32]) [32]) (Lib.join ((p :: r).map fun p=>(ptx p).data.toList) [32])=(p :: r).map fun p=>(ptx p).data.toList :=
    split_join _ _ (ptx_blank (h p (by simp))) fun y hy=>by
     obtain ⟨q,hq,rfl⟩:=List.mem_map.1 hy
     exact ptx_blank (h q (List.mem_cons_of_mem _ hq))
   have e2:(Lib.splitB ⟨#[32]⟩ 0 (Lib.countB (ftx (p :: r)) ⟨#[32]⟩) (ftx (p :: r))).map (·.data.toList)=((p :: r).map ptx).map (·.data.toList):=by
    rw [e,List.map_map]
    exact hs
   refine List.map_inj_right (fun a b hab=>?_) |>.1 e2
   exact ByteArray.ext (Array.toList_inj.1 hab)
theorem ftx_cons (p:Pr) (r:List Pr) (h:okP p):∃ t,(ftx (p :: r)).data.toList=UInt8.ofNat (48+p.1.toNat) :: t:=by
 unfold ftx
 rw [List.map_cons,Lib.join_cons,ptx_list h]
 exact ⟨_,rfl⟩
theorem dig_n {n:Int} (h:0<=n/\n<=4):UInt8.ofNat (48+n.toNat) ≠ (110:UInt8):=five (P:=fun n=>UInt8.ofNat (48+n.toNat) ≠ (110:UInt8)) (by decide) (by decide) (by decide) (by decide) (by decide) h
/-- a text of pairs is not 'none' -/
theorem ftx_none {l:List Pr} (hl:l ≠ []) (h:∀ p ∈ l,okP p):ftx l ≠ ⟨#[110,111,110,101]⟩:=by
 cases l with
 | nil=>exact absurd rfl hl
 | cons p r =>
   obtain ⟨t,ht⟩:=ftx_cons p r (h p (by simp))
   intro e
   rw [e] at ht
   simp only [List.cons.injEq] at ht
   exact dig_n (h p (by simp)).1 ht.1.symm
theorem ftx_len {l:List Pr} (h:∀ p ∈ l,okP p):(ftx l).size<=3 * l.length:=by
 cases l with
 | nil=>decide
 | cons p r =>
   have key:∀ r:List Pr,(∀ p ∈ r,okP p)->(Lib.joinTail [32] (r.map fun p=>(ptx p).data.toList)).length=3 * r.length:=by
    intro r
    induction r with
    | nil=>intro _;rfl
    | cons q r ih =>
      intro hq
      have e:=ih fun z hz=>hq z (List.mem_cons_of_mem _ hz)
      have e1:=ptx_list (hq q (by simp))
      simp only [Lib.joinTail,List.map_cons,List.flatten_cons,List.length_append,List.length_cons,List.length_nil] at e ⊢
      rw [e1,e]
      simp
      omega
   have hr:=key r fun z hz=>h z (List.mem_cons_of_mem _ hz)
   unfold ftx
   rw [List.map_cons,Lib.join_cons,ptx_list (h p (by simp))]
   simp only [ByteArray.size,List.size_toArray,List.length_append,List.length_cons,List.length_nil]
   omega
end Go.Proofs.YtloeghbhoflabaaDoor
/-
 DERIVED: THE SHELF's CONTRACTS AT THIS DUMP,IN PLAIN WORDS (tools/lay-plain.mjs out of 'TrydShelfP.lean',which tools/lay-shelf.mjs wrote): THE SAME DECLARATIONS UNDER THE SAME NAMES: 'import','namespace','open','def','theorem' AND NOTHING ELSE: no command of the shelf's: FOR A HAND-IN. Each laying: the table of numbers ('.._ren') and one theorem,a field a fact of the dump's own or the kernel's comparison;each contract: ONE APPLICATION.
-/
namespace Go.Proofs
open Go.Shelf
def Tryd.laysSF_ren:Go.Shelf.Ren:=⟨fun | 6=>36 | 15=>48 | 14=>47 | 28=>63 | 29=>64 | 20=>55 | 21=>56 | 22=>57 | 23=>58 | 24=>59 | 25=>60 | 26=>61 | 27=>62 | 46=>72 | 47=>73 | 48=>74 | 49=>75 | 50=>76 | 57=>86 | n=>n,fun | 22=>24 | 24=>30 | 25=>49 | 3=>3 | 39=>73 | 0=>0 | 53=>86 | 55=>88 | 4=>4 | 46=>79 | 45=>78 | 50=>83 | 5=>5 | 9=>9 | 66=>97 | 70=>101 | 76=>108 | 77=>109 | n=>n,fun | n=>n⟩
theorem Tryd.laysSF:Go.Proofs.SlLaysF0.n6 Tryd.prog Tryd.laysSF_ren:={
 mixed:=by kernel_rfl
 f6:=⟨Tryd.f36.name,by decide,Tryd.func36.trans (congrArg some (by kernel_rfl))⟩
 f14:=⟨Tryd.f47.name,by decide,Tryd.func47.trans (congrArg some (by kernel_rfl))⟩
 f15:=Tryd.func48.trans (congrArg some (by kernel_rfl))
 f20:=⟨Tryd.f55.name,by decide,Tryd.func55.trans (congrArg some (by kernel_rfl))⟩
 f21:=⟨Tryd.f56.name,by decide,Tryd.func56.trans (congrArg some (by kernel_rfl))⟩
 f22:=⟨Tryd.f57.name,by decide,Tryd.func57.trans (congrArg some (by kernel_rfl))⟩
 f23:=⟨Tryd.f58.name,by decide,Tryd.func58.trans (congrArg some (by kernel_rfl))⟩
 f24:=⟨Tryd.f59.name,by decide,Tryd.func59.trans (congrArg some (by kernel_rfl))⟩
 f25:=⟨Tryd.f60.name,by decide,Tryd.func60.trans (congrArg some (by kernel_rfl))⟩
 f26:=⟨Tryd.f61.name,by decide,Tryd.func61.trans (congrArg some (by kernel_rfl))⟩
 f27:=⟨Tryd.f62.name,by decide,Tryd.func62.trans (congrArg some (by kernel_rfl))⟩
 f28:=Tryd.func63.trans (congrArg some (by kernel_rfl))
 f29:=Tryd.func64.trans (congrArg some (by kernel_rfl))
 f46:=⟨Tryd.f72.name,by decide,Tryd.func72.trans (congrArg some (by kernel_rfl))⟩
 f47:=Tryd.func73.trans (congrArg some (by kernel_rfl))
 f48:=Tryd.func74.trans (congrArg some (by kernel_rfl))
 f49:=⟨Tryd.f75.name,by decide,Tryd.func75.trans (congrArg some (by kernel_rfl))⟩
 f50:=⟨Tryd.f76.name,by decide,Tryd.func76.trans (congrArg some (by kernel_rfl))⟩
 f57:=⟨Tryd.f86.name,by decide,Tryd.func86.trans (congrArg some (by kernel_rfl))⟩
 t0:=Tryd.underlying0
 a0:=Tryd.isAgg0
 z0:=Tryd.sizeOf0
 v0:=Tryd.zeroValue0
 t3:=Tryd.underlying3
 a3:=Tryd.isAgg3
 z3:=Tryd.sizeOf3
 v3:=Tryd.zeroValue3
 t4:=Tryd.underlying4
 a4:=Tryd.isAgg4
 z4:=Tryd.sizeOf4
 v4:=Tryd.zeroValue4
 t5:=Tryd.underlying5
 a5:=Tryd.isAgg5
 z5:=Tryd.sizeOf5
 v5:=Tryd.zeroValue5
 t9:=Tryd.underlying9
 a9:=Tryd.isAgg9
 z9:=Tryd.sizeOf9
 v9:=Tryd.zeroValue9
 t22:=Tryd.underlying24
 a22:=Tryd.isAgg24
 z22:=Tryd.sizeOf24
 v22:=Tryd.zeroValue24
 t25:=Tryd.underlying49
 a25:=Tryd.isAgg49
 z25:=Tryd.sizeOf49
 v25:=Tryd.zeroValue49
 t39:=Tryd.underlying73
 a39:=Tryd.isAgg73
 z39:=Tryd.sizeOf73
 v39:=Tryd.zeroValue73
 t45:=Tryd.underlying78
 a45:=Tryd.isAgg78
 z45:=Tryd.sizeOf78
 v45:=Tryd.zeroValue78
 t46:=Tryd.underlying79
 a46:=Tryd.isAgg79
 z46:=Tryd.sizeOf79
 v46:=Tryd.zeroValue79
 t50:=Tryd.underlying83
 a50:=Tryd.isAgg83
 z50:=Tryd.sizeOf83
 v50:=Tryd.zeroValue83
 t53:=Tryd.underlying86
 a53:=Tryd.isAgg86
 z53:=Tryd.sizeOf86
 v53:=Tryd.zeroValue86
 t55:=Tryd.underlying88
 a55:=Tryd.isAgg88
 z55:=Tryd.sizeOf88
 v55:=Tryd.zeroValue88
 t66:=Tryd.underlying97
 a66:=Tryd.isAgg97
 z66:=Tryd.sizeOf97
 v66:=Tryd.zeroValue97
 t70:=Tryd.underlying101
 a70:=Tryd.isAgg101
 z70:=Tryd.sizeOf101
 v70:=Tryd.zeroValue101
 t76:=Tryd.underlying108
 a76:=Tryd.isAgg108
 z76:=Tryd.sizeOf108
 v76:=Tryd.zeroValue108
 t77:=Tryd.underlying109
 a77:=Tryd.isAgg109
 z77:=Tryd.sizeOf109
 v77:=Tryd.zeroValue109 }
end Go.Proofs
namespace Go.Proofs.YtloeghbhoflabaaDoor
open Go.ChangeShapes Go.WideShapes Go.ChangeAt Go.RowKit Go.Sort
theorem konly_ahead (lo hi:Nat) (w:World) (n:Nat):Only lo hi w (Sort.ahead w n):=⟨rfl,rfl,rfl,Nat.le_refl _,fun _ _ _=>rfl⟩
theorem konly_grow (lo hi:Nat) (w:World) (os:Array Obj):Only lo hi w (grow w os):=⟨rfl,rfl,rfl,by simp [grow],fun n hn _=>by simp [grow,Array.getElem?_append,hn]⟩
theorem konly_put {α:Type} [Inhabited α] (enc:α->Value) (w:World) (g off:Nat) (d:Array α):Only g (g+1) w (putRow enc w g off d) :=
 ⟨rfl,rfl,rfl,by simp [putRow,mapBlock],fun n hn ho=>by simp only [putRow,mapBlock,Array.getElem?_modify];rw [if_neg (by omega)]⟩
theorem row_putF {w:World} {base g n cap k:Nat} {e:TypeId} {cs:List Value} (h:w.ownsRow base e k (.slice (some ⟨g,0,none⟩) n cap) n cs) {F:Array Value} (hF:F.size=n * k) :
 (putRow id w g 0 F).ownsRow base e k (.slice (some ⟨g,0,none⟩) n cap) n F.toList:=by
 obtain ⟨hl,hs⟩:=h
 refine ⟨by simp [hF],?_⟩
 rcases hs with ⟨h1,_⟩ | ⟨g',cap',cur,hv,hg,hh,hnc,hcm,hsz,htk⟩
 · cases h1
 · simp only [Value.slice.injEq,Option.some.injEq,Addr.mk.injEq,and_true,true_and] at hv
   obtain ⟨rfl,rfl⟩:=hv
   have hcs:n * k<=cur.size:=by rw [hsz];exact Nat.mul_le_mul_right k hnc
   refine .inr ⟨g,cap,putCells id 0 F cur,rfl,hg,?_,hnc,hcm,by simp [putCells,hsz],?_⟩
   · simp [putRow,mapBlock,Array.getElem?_modify,hh,onCells]
   · apply List.ext_getElem?
     intro j
     rw [List.getElem?_take]
     by_cases hk:j < n * k
     · rw [if_pos hk]
       have hkc:j < cur.size:=by omega
       have hkd:j < F.size:=by omega
       simp [putCells,hkc,hkd,getElem!_pos]
     · rw [if_neg hk,List.getElem?_eq_none (by simp;omega)]
theorem flatK_list (ds:List Pr):(flatK cPr 2 ds.toArray).toList=ds.flatMap cPr:=by
 apply List.ext_getElem?
 intro t
 by_cases ht:t < ds.length * 2
 · have hi:t / 2 < ds.length:=by omega
   have hx:ds[t / 2]?=some ds[t / 2]:=List.getElem?_eq_getElem hi
   have hj:t % 2 < (cPr ds[t / 2]).length:=by rw [cPr_len];omega
   have h1:=flat_at cPr_len hx (t % 2) _ (List.getElem?_eq_getElem hj)
   rw [show t / 2 * 2+t % 2=t by omega] at h1
   rw [h1,Array.getElem?_toList,Array.getElem?_eq_getElem (by simpa using ht)]
   congr 1
   have h2:=get_flatK cPr 2 ds.toArray t (by simpa using ht)
   rw [getElem!_pos _ _ (by simpa using ht)] at h2
   rw [h2,getElem!_pos ds.toArray _ (by simpa using hi),getElem!_pos _ _ (by simpa using hj)]
   simp
 · rw [List.getElem?_eq_none (by simp;omega),List.getElem?_eq_none]
   have:(ds.flatMap cPr).length=ds.length * 2:=by
    clear ht
    induction ds with
    | nil=>rfl
    | cons d ds ih=>rw [List.flatMap_cons,List.length_append,ih,cPr_len,List.length_cons];omega
   omega
theorem holds_ownK {w:World} {base g n cap:Nat} {e:TypeId} {zs:List Pr} (h:w.ownsRow base e 2 (.slice (some ⟨g,0,none⟩) n cap) n (zs.flatMap cPr)) (hz:zs.length=n):HoldsK cPr 2 w g 0 zs.toArray:=by
 intro j hj
 have hj':j < zs.length * 2:=by simpa using hj
 refine ⟨?_,by rw [Nat.zero_add];exact World.ownsRow.frozenAt h j⟩
 rw [Nat.zero_add,World.ownsRow.cellAt h j (by omega),<- flatK_list,Array.getElem?_toList,Array.getElem?_eq_getElem hj,getElem!_pos _ j hj]
 rfl
end Go.Proofs.YtloeghbhoflabaaDoor
namespace Go.Proofs.YtloeghbhoflabaaDoor
open Go.ChangeShapes Go.WideShapes Go.ChangeAt Go.RowKit
theorem ownsRow_take {W:World} {base k n m g cap:Nat} {e:TypeId} {cs:List Value} (h:W.ownsRow base e k (.slice (some ⟨g,0,none⟩) n cap) n cs) (hm:m<=n):W.ownsRow base e k (.slice (some ⟨g,0,none⟩) m cap) m (cs.take (m * k)):=by
 obtain ⟨hl,hs⟩:=h
 have hmk:m * k<=n * k:=Nat.mul_le_mul_right k hm
 refine ⟨by rw [List.length_take,hl];omega,?_⟩
 rcases hs with ⟨h1,_⟩ | ⟨g',cap',cur,hv,hg,hh,hnc,hcm,hsz,htk⟩
 · cases h1
 · simp only [Value.slice.injEq,Option.some.injEq,Addr.mk.injEq,and_true,true_and] at hv
   obtain ⟨rfl,rfl⟩:=hv
   refine .inr ⟨g,cap,cur,rfl,hg,hh,by omega,hcm,hsz,?_⟩
   rw [<- htk,List.take_take]
   congr 1
   omega
end Go.Proofs.YtloeghbhoflabaaDoor
