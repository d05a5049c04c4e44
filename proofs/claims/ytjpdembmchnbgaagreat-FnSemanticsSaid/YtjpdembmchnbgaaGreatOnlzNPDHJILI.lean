/- Parts of the proof, joined into one text: PutS, SubS, GapM, ShelfP, PKey, PairI, RelS, RelI. -/
import Derived.Laws.StructEq
import Derived.Test.YtjpdembmchnbgaaGreatOnlzPKFIIJKL
import Derived.Test.YtjpdembmchnbgaaGreatOnlzBJPCHMFC
import Derived.Test.YtjpdembmchnbgaaGreatOnlzBGBMJIIM
import Derived.Test.YtjpdembmchnbgaaGreatOnlzOBDJDCGC
import Derived.Shelf.SlGeneric
import Derived.Shelf.SlSortCmp.WholeK
import Derived.Ground.SlsfProg
import Derived.Test.YtjpdembmchnbgaaGreatProg
import Derived.Lib.SliceRun
set_option linter.unusedVariables false
set_option linter.unusedSimpArgs false
namespace Go.Proofs.YtjpdembmchnbgaaGreat
open Go.ChangeShapes Go.WideShapes Go.ChangeAt Go.RowKit
attribute [local go_sem] ext_cell ext_frozen ext_lt ext_lt1 ext_lt2 ext_lt3 ltn2 ltn3 ltn13 lts1 lts2 lts3
section
variable {P:Program} {w:World}
/-- append of a whole list: as an operation by itself -/
theorem op_appendL {α:Type} (E:α->List Value) {o:Oper} {a:Act} {K:Act->World->Prop} {Q:Exit->Act->World->Prop} {t e:TypeId} {z:Value} {k bytes:Nat} (el:ElemOk P t e z k bytes) (hE:∀ x,(E x).length=k) (h1:∀ x,∀ u ∈ E x,u.oneCell'=true)
 (s y:Operand) (ho:o.op=.call { callee:=.builtin .append,args:=#[s,y],argTypes:=#[t,t] })
 (base:Nat) (v:Value) (xs ys:List α) (hs:a.eval s=v) (hown:w.ownsRow base e k v xs.length (xs.flatMap E)) (lo hi:Nat) (yv:Value) (hyv:a.eval y=yv) (hy:SlI lo hi w E k yv ys) (hbytes:(xs.length+ys.length) * bytes<=140737488355328) (hb0:0 < bytes) (hbase:base<=w.heap.size)
 (h:∀ v' w',w'.ownsRow base e k v' (xs ++ ys).length ((xs ++ ys).flatMap E)->w.grownBy w' v.ownBlock->(v'.ownBlock=v.ownBlock ∨ v'.ownBlock=some w.heap.size)->K (a.put o.dst v') w'):Oper.wp P o a w K Q:=by
 obtain ⟨v',w',hr,h2,h3,h5⟩:=run_appendL E el hE h1 base v xs ys hown lo hi yv hy hbytes hb0 hbase o.type
 unfold Oper.wp execOp
 simp only [ho,resolve,invoke,builtin,Sem.run_bind,Sem.run_pure,Result.andThen_ok,List.map_toArray,List.map_cons,List.map_nil,hs,hyv,hr]
 exact h v' w' h2 h3 h5
end
theorem SlI.takeP {α:Type} {lo hi:Nat} {w:World} {E:α->List Value} {k b o n c:Nat} {xs:List α} (h:SlI lo hi w E k (.slice (some ⟨b,o,none⟩) n c) xs) {m:Nat} (hm:m<=xs.length):SlI lo hi w E k (.slice (some ⟨b,o,none⟩) m c) (xs.take m):=by
 obtain ⟨A',c',hv,hl,hc,hx⟩:=h
 injection hv with h1 h2 h3
 subst h1 h3
 have hlt:(xs.take m).length=m:=by rw [List.length_take];omega
 refine ⟨_,c,by rw [hlt],by omega,hc,fun j x hj=>hx j x ?_⟩
 rw [List.getElem?_take] at hj
 split at hj
 · exact hj
 · cases hj
theorem SlI.dropP {α:Type} {lo hi:Nat} {w:World} {E:α->List Value} {k b o n c:Nat} {xs:List α} (h:SlI lo hi w E k (.slice (some ⟨b,o,none⟩) n c) xs) {m:Nat} (hm:m<=xs.length):SlI lo hi w E k (.slice (some ⟨b,o+m * k,none⟩) (n - m) (c - m)) (xs.drop m):=by
 obtain ⟨A',c',hv,hl,hc,hx⟩:=h
 injection hv with h1 h2 h3
 subst h1 h2 h3
 have hlt:(xs.drop m).length=xs.length - m:=by rw [List.length_drop]
 refine ⟨_,c - m,by rw [hlt],by omega,by omega,fun j x hj=>?_⟩
 rw [List.getElem?_drop] at hj
 obtain ⟨b',o',hA,h1,h2,h3⟩:=hx (m+j) x hj
 injection hA with hA
 injection hA with e1 e2
 subst e1 e2
 refine ⟨b,o+m * k,rfl,h1,h2,fun i u hu=>?_⟩
 rw [<- h3 i u hu,Nat.add_mul]
 congr 2
 omega
theorem row_cap {W:World} {base k n g c:Nat} {e:TypeId} {cs:List Value} (h:W.ownsRow base e k (.slice (some ⟨g,0,none⟩) n c) n cs):n<=c/\c<=9223372036854775807:=by
 obtain ⟨_,hs⟩:=h
 rcases hs with ⟨h1,_⟩ | ⟨g',cap',cur,hv,hg,hh,hnc,hcm,_⟩
 · cases h1
 · simp only [Value.slice.injEq,Option.some.injEq,Addr.mk.injEq,and_true,true_and] at hv
   obtain ⟨rfl,rfl⟩:=hv
   exact ⟨hnc,hcm⟩
theorem SlI.prP {lo hi:Nat} {w:World} {b o n c:Nat} {xs:List Pr} (h:SlI lo hi w cPr 2 (.slice (some ⟨b,o,none⟩) n c) xs) {i:Nat} {x:Pr} (hx:xs[i]?=some x) :
 (lo<=b/\b < hi)/\w.cell? ⟨b,o+i * 2,none⟩=some (.int .i64 x.1)/\w.cell? ⟨b,o+i * 2+1,none⟩=some (.int .i64 x.2):=by
 obtain ⟨A',c',hv,_,_,h3⟩:=h
 simp only [Value.slice.injEq] at hv
 obtain ⟨b',o',hA,g1,g2,hc⟩:=h3 i x hx
 rw [<- hv.1] at hA
 simp only [Option.some.injEq,Addr.mk.injEq,and_true] at hA
 obtain ⟨rfl,rfl⟩:=hA
 exact ⟨⟨g1,g2⟩,by simpa using hc 0 _ rfl,hc 1 _ rfl⟩
theorem SlI.prA {lo hi:Nat} {w:World} {A:Option Addr} {n c:Nat} {xs:List Pr} (h:SlI lo hi w cPr 2 (.slice A n c) xs) {i:Nat} {x:Pr} (hx:xs[i]?=some x) :
 ∃ b o,A=some ⟨b,o,none⟩/\(lo<=b/\b < hi)/\w.cell? ⟨b,o+i * 2,none⟩=some (.int .i64 x.1)/\w.cell? ⟨b,o+i * 2+1,none⟩=some (.int .i64 x.2):=by
 obtain ⟨A',c',hv,_,_,h3⟩:=h
 simp only [Value.slice.injEq] at hv
 obtain ⟨b',o',hA,g1,g2,hc⟩:=h3 i x hx
 exact ⟨b',o',hv.1.trans hA,⟨g1,g2⟩,by simpa using hc 0 _ rfl,hc 1 _ rfl⟩
theorem SlI.dropQ {lo hi B:Nat} {w w':World} {g c:Nat} {l:List Pr} (h:SlI lo hi w cPr 2 (.slice (some ⟨g,0,none⟩) l.length c) l) (hb:Below B w w') (hB:hi<=B) {k:Nat} (hk:k<=l.length) (hc:l.length<=c) :
 SlI lo hi w' cPr 2 (.slice (if c=k then some ⟨g,0,none⟩ else some ⟨g,k * 2,none⟩) (l.length - k) (c - k)) (l.drop k):=by
 split
 · have hn:l.drop k=[]:=List.drop_eq_nil_of_le (by omega)
   have hcm:c - k<=maxLen:=by unfold maxLen;omega
   rw [hn]
   refine ⟨some ⟨g,0,none⟩,c - k,?_,by simp,hcm,fun i x hx=>by simp at hx⟩
   simp;omega
 · simpa using (h.below hb hB).dropP (m:=k) hk
theorem eqPr (a b c d:Int) (w:World):(Op.equalIn 10000 120 (.agg #[.int .i64 a,.int .i64 b]) (.agg #[.int .i64 c,.int .i64 d])).run Tryz.prog w=.ok (a==c && b==d) w:=by
 have u3:=Tryz.underlying3
 have a3:=Tryz.isAgg3
 have z3:=Tryz.sizeOf3
 have hS:Tryz.prog.underlying 120=some (.struct (Tryz.prog.fieldsOf 120)):=by kernel_rfl
 have hp:Tryz.prog.stoodInHeld 120=false:=by kernel_rfl
 rw [show (10000:Nat)=9999+1 from rfl,run_equalIn_agg w 9999 120 _ _ hS hp]
 simp only [Program.fieldsOf,Tryz.underlying120]
 go_simp
 by_cases h1:a=c <;> by_cases h2:b=d <;> simp [h1,h2]
theorem guardPr:Tryz.prog.eqGuardType Tryz.prog.depth 120=false:=by kernel_rfl
attribute [local go_sem] guardPr
theorem eqlPr (a b c d:Int) (w:World):(binOp .eql 120 (.agg #[.int .i64 a,.int .i64 b]) (.agg #[.int .i64 c,.int .i64 d])).run Tryz.prog w=.ok (.bool (decide ((a,b)=(c,d)))) w:=by
 rw [run_eql_struct,eqPr]
 by_cases h1:a=c <;> by_cases h2:b=d <;> simp [h1,h2]
/-- a set of pairs in a row of the call's own, never nil -/
def SetR (lo:Nat) (w:World) (v:Value) (l:List Pr):Prop:=∃ g c,v=.slice (some ⟨g,0,none⟩) l.length c/\w.ownsRow lo 120 2 v l.length (l.flatMap cPr)
theorem SetR.below {lo:Nat} {w w':World} {v:Value} {l:List Pr} (h:SetR lo w v l) (hb:Below w.heap.size w w'):SetR lo w' v l:=by
 obtain ⟨g,c,rfl,h⟩:=h
 exact ⟨g,c,rfl,ownsRow_below h hb (Nat.le_refl _)⟩
theorem SetR.mono {lo lo':Nat} {w:World} {v:Value} {l:List Pr} (h:SetR lo w v l) (hl:lo'<=lo):SetR lo' w v l:=by
 obtain ⟨g,c,rfl,h⟩:=h
 exact ⟨g,c,rfl,ownsRow_mono h hl⟩
theorem SetR.own {lo:Nat} {w:World} {v:Value} {l:List Pr} (h:SetR lo w v l):Own lo w.heap.size w 120 cPr 2 v l:=by
 obtain ⟨g,c,rfl,h⟩:=h
 exact Own.of_row h rfl rfl
theorem SetR.lit (w:World) (lo:Nat) (h:lo<=w.heap.size):SetR lo (w.alloc (.cells #[] 120)) (.slice (some ⟨w.heap.size,0,none⟩) 0 0) [] :=
 ⟨_,_,rfl,World.ownsRow_lit (base:=lo) (e:=120) (size:=2) w #[] 0 h (by decide) rfl⟩
set_option maxHeartbeats 1000000 in
theorem l15Less_any (p q:Pr) (w:World) :
 Calls Tryz.prog 165 #[.agg #[.int .i64 p.1,.int .i64 p.2],.agg #[.int .i64 q.1,.int .i64 q.2]] w fun e w'=>e=.returned (.bool (ltP p q))/\Below w.heap.size w w':=by
 obtain ⟨p1,p2⟩:=p
 obtain ⟨q1,q2⟩:=q
 have hb:Below w.heap.size w ((w.alloc (.cells #[.int .i64 p1,.int .i64 p2] 120)).alloc (.cells #[.int .i64 q1,.int .i64 q2] 120)):=((Below.refl _ _).alloc (Nat.le_refl _) _).alloc (by simp) _
 simp only
 by_cases h1:p1 < q1
 · have k1:decide (p1 < q1)=true:=by simpa using h1
   have hl:ltP (p1,p2) (q1,q2)=true:=by rw [ltP_iff];exact .inl h1
   rw [hl]
   clear h1 hl
   go_enter Tryz.func165,Tryz.ntmps165
   go_wp2_with fail
   go_ret
   exact ⟨rfl,hb⟩
 · have k1:decide (p1 < q1)=false:=by simpa using h1
   by_cases h2:p1=q1
   · have k2:(p1==q1)=true:=by simpa using h2
     by_cases h3:p2 < q2
     · have k3:decide (p2 < q2)=true:=by simpa using h3
       have hl:ltP (p1,p2) (q1,q2)=true:=by rw [ltP_iff];exact .inr ⟨h2,h3⟩
       rw [hl]
       clear h1 h2 h3 hl
       go_enter Tryz.func165,Tryz.ntmps165
       go_wp2_with fail
       go_ret
       exact ⟨rfl,hb⟩
     · have k3:decide (p2 < q2)=false:=by simpa using h3
       have hl:ltP (p1,p2) (q1,q2)=false:=by rw [ltP_no];simp only;omega
       rw [hl]
       clear h1 h2 h3 hl
       go_enter Tryz.func165,Tryz.ntmps165
       go_wp2_with fail
       go_ret
       exact ⟨rfl,hb⟩
   · have k2:(p1==q1)=false:=by simpa using h2
     have hl:ltP (p1,p2) (q1,q2)=false:=by rw [ltP_no];simp only;omega
     rw [hl]
     clear h1 h2 hl
     go_enter Tryz.func165,Tryz.ntmps165
     go_wp2_with fail
     go_ret
     exact ⟨rfl,hb⟩
set_option maxHeartbeats 4000000 in
set_option maxRecDepth 100000 in
theorem l15Put_any (v:Value) (lo:Nat) (l:List Pr) (p:Pr) (w:World) (hv:SetR lo w v l) (hlo:lo<=w.heap.size) (hn:l.length<=1099511627776) :
 Calls Tryz.prog 136 #[v,.agg #[.int .i64 p.1,.int .i64 p.2]] w fun e w'=>∃ v',e=.returned v'/\SetR lo w' v' (putP l p)/\Below w.heap.size w w':=by
 obtain ⟨g,c,rfl,hrow⟩:=hv
 obtain ⟨hg1,hg2⟩:=hrow.lt g rfl
 have hsl:=(Own.of_row (xs:=l) hrow rfl rfl).sl cPr_len
 obtain ⟨hlc,hcm⟩:=row_cap hrow
 obtain ⟨W0,hW0⟩:∃ W0,W0=w.alloc (.cells #[.int .i64 p.1,.int .i64 p.2] 120):=⟨_,rfl⟩
 have hb0:Below w.heap.size w W0:=by rw [hW0];exact (Below.refl _ _).alloc (Nat.le_refl _) _
 have x0:W0.cell? ⟨w.heap.size,0,none⟩=some (.int .i64 p.1):=by rw [hW0];simp
 have x1:W0.cell? ⟨w.heap.size,1,none⟩=some (.int .i64 p.2):=by rw [hW0];simp
 have l0:w.heap.size < W0.heap.size:=by rw [hW0];simp
 have HROW:=Hd_ (ownsRow_below hrow hb0 (Nat.le_refl _))
 have HSL:=Hd_ (hsl.below hb0 (Nat.le_refl _))
 obtain ⟨R,hR⟩:∃ R,R=putP l p:=⟨_,rfl⟩
 rw [<- hR]
 have HR:=Hd_ hR
 clear hR hrow hsl
 go_enter Tryz.func136,Tryz.ntmps136
 go_wp2_with fail
 rw [<- hW0]
 clear hW0
 go_loopw [5] (fun kk wr=>∃ (k:Nat) (u:World),k<=l.length/\kk=.int .i64 (k:Int)/\(∀ i x,i < k->l[i]?=some x->ltP x p=true)/\wr=ext W0 u) (fun kk _=>l.length - (intOf kk).toNat)
 case atStart=>exact ⟨0,W0,Nat.zero_le _,rfl,(fun i x hi=>absurd hi (Nat.not_lt_zero _)),ext_self W0⟩
 case round =>
  obtain ⟨k,u,hk,rfl,hall,rfl⟩:=hrel
  have HALL:=Hd_ hall
  clear hall
  by_cases hlt:k < l.length
  · have hxk:l[k]?=some l[k]:=List.getElem?_eq_getElem hlt
    generalize l[k]=x at hxk
    obtain ⟨xa,xb⟩:=x
    obtain ⟨-,d0,d1⟩:=HSL.out.prP hxk
    simp only [Nat.zero_add] at d0 d1
    have hbw:g < W0.heap.size:=by omega
    have hkk:(k:Int) < (l.length:Int):=by omega
    have HXK:=Hd_ hxk
    have HLT:=Hd_ (show ∀ b,ltP (xa,xb) p=b->ltP (xa,xb) p=b from fun _ h=>h)
    have HL:=Hd_ (fun (W:World)=>l15Less_any (xa,xb) p W)
    clear hxk
    cases hbb:ltP (xa,xb) p with
    | true =>
      rw [hbb] at HL
      have HBB:=Hd_ hbb
      clear hbb HLT
      go_wp2_with fail
      refine wp_region_ext_lit (by kernel_rfl) (by kernel_rfl) ?_
      repeat (go_big_quiet_step ((go_at_call 165;exact Calls.ext_of (HL.out _))))
      refine wpQuiet_nil ?_
      rintro _ ⟨u2,rfl⟩
      obtain ⟨u4,hu4⟩:=ext_ext W0 u u2
      have HU4:=Hd_ hu4
      clear hu4
      go_wp2_with fail
      go_roundw
      case rel =>
       refine ⟨k+1,u4,by omega,by go_num,fun i y hi hy=>?_,HU4.out⟩
       rcases Nat.lt_or_ge i k with h | h
       · exact HALL.out i y h hy
       · obtain rfl:i=k:=by omega
         rw [HXK.out] at hy
         injection hy with hy
         subst hy
         exact HBB.out
      case measure=>simp [intOf];omega
    | false =>
      rw [hbb] at HL
      have hput:=putP_at (l:=l) (p:=p) (k:=k) (by omega) HALL.out (fun y hy=>by rw [HXK.out] at hy;injection hy with hy;subst hy;exact hbb)
      rw [HXK.out] at hput
      have HPUT0:=Hd_ (HR.out.trans hput)
      clear hbb HLT hput HALL HR
      go_wp2_with fail
      refine wp_region_ext_lit (by kernel_rfl) (by kernel_rfl) ?_
      repeat (go_big_quiet_step ((go_at_call 165;exact Calls.ext_of (HL.out _))))
      refine wpQuiet_nil ?_
      rintro _ ⟨u2,rfl⟩
      obtain ⟨u4,hu4⟩:=ext_ext W0 u u2
      rw [hu4]
      clear hu4
      have HEQ:=Hd_ (fun (w:World)=>eqlPr xa xb p.1 p.2 w)
      obtain ⟨bb,hb2⟩:∃ bb,bb=decide ((xa,xb)=(p.1,p.2)):=⟨_,rfl⟩
      rw [<- hb2] at HEQ
      have HB2:=Hd_ hb2
      have heq:=HEQ.out
      clear hb2
      go_wp2_with fail
      refine wp_region_ext_lit (by kernel_rfl) (by kernel_rfl) ?_
      repeat (go_big_quiet_step (fail))
      refine wpQuiet_nil ?_
      rintro _ ⟨u3,rfl⟩
      cases bb with
      | true =>
        have hfin:R=l:=by
         rw [HPUT0.out,if_pos]
         have:=HB2.out
         simp only [Eq.comm (a:=true),decide_eq_true_eq] at this
         rw [this]
        have HF:=Hd_ hfin
        have hb9:Below w.heap.size w (ext (ext W0 u4) u3):=below_trans hb0 (below_trans (ext_below _ _) (ext_below _ _))
        have HR9:=Hd_ (ownsRow_below HROW.out (below_trans (ext_below W0 u4) (ext_below _ u3)) (Nat.le_refl _))
        clear hfin
        go_wp2_with fail
        go_ret
        exact ⟨_,rfl,by rw [HF.out];exact ⟨g,c,rfl,HR9.out⟩,hb9⟩
      | false =>
        have HPUT:=Hd_ (show R=l.take k ++ [p] ++ l.drop k by
         rw [HPUT0.out,if_neg]
         have:=HB2.out
         simp only [Eq.comm (a:=false),decide_eq_false_iff_not] at this
         intro h
         injection h with h
         exact this h)
        clear HPUT0 HB2 HEQ heq
        obtain ⟨W6,hW6⟩:∃ W6,W6=(ext (ext W0 u4) u3):=⟨_,rfl⟩
        have hb6:Below W0.heap.size W0 W6:=by rw [hW6];exact (below_trans (ext_below _ _) (ext_below _ _))
        rw [<- hW6]
        clear hW6
        have x0:=kcell hb6 x0
        have x1:=kcell hb6 x1
        have l6:=Nat.lt_of_lt_of_le l0 hb6.size
        have HSD:=Hd_ (show SlI lo w.heap.size W6.drew cPr 2 (.slice (some ⟨g,0,none⟩) l.length c) l from HSL.out.below hb6.drew (by omega))
        have HBW6:=Hd_ (show Below w.heap.size w W6.drew from (below_trans hb0 hb6).drew)
        have hwW6:w.heap.size<=W6.drew.heap.size:=HBW6.out.size
        have hloW:lo<=W6.drew.heap.size:=by omega
        have hkl:(k:Int)<=(l.length:Int):=by omega
        have hkc:(k:Int)<=(c:Int):=by omega
        have htl:(l.take k).length<=l.length:=by rw [List.length_take];omega
        have hdl:(l.drop k).length<=l.length:=by rw [List.length_drop];omega
        have htd:(l.take k ++ [p]).length<=l.length+1:=by rw [List.length_append];simp only [List.length_cons,List.length_nil];omega
        have HRL:=Hd_ (show R.length ≠ 0 by rw [HPUT.out];simp)
        clear HSL HROW hb0 hb6
        go_wp2_with fail
        have hS1:=HSD.out
        clear hS1
        refine F_start 12 (fun w'=>w'.cell? ⟨w.heap.size,0,none⟩=some (.int .i64 p.1)/\w'.cell? ⟨w.heap.size,1,none⟩=some (.int .i64 p.2)) (by kernel_rfl) (by exact ⟨x0,x1⟩) (fun hS inv=>?_)
        refine F_tk 1 inv ?_
        try simp only [tA,tB,tC,Act.put,tE,tF,tG]
        clear inv;intro inv
        refine F_tk 2 inv ?_
        try simp only [tA,tB,tC,Act.put,tE,tF,tG]
        clear inv;intro inv
        refine F_tk 3 inv ?_
        try simp only [tA,tB,tC,Act.put,tE,tF,tG]
        clear inv;intro inv
        refine F_tk 5 inv ?_
        try simp only [tA,tB,tC,Act.put,tE,tF,tG]
        clear inv;intro inv
        refine F_tk 8 inv ?_
        try simp only [tA,tB,tC,Act.put,tE,tF,tG]
        clear inv;intro inv
        refine F_tk 9 inv ?_
        try simp only [tA,tB,tC,Act.put,tE,tF,tG]
        clear inv;intro inv
        refine F_tk 10 inv ?_
        try simp only [tA,tB,tC,Act.put,tE,tF,tG]
        clear inv;intro inv
        have hS0:=hS
        refine F_two (i:=0) (j:=6) (by kernel_rfl) rfl rfl rfl rfl (by omega) inv (fun K hK=>?_) (fun K hK=>?_)
        all_goals (try simp only [tA,tB,tC])
        · go_simp
          have hba:=(Below.refl W6.drew.heap.size W6.drew).alloc (Nat.le_refl _) (.cells #[] 120)
          have hrow:=World.ownsRow_lit (base:=W6.drew.heap.size) (e:=120) (size:=2) W6.drew #[] 0 (Nat.le_refl _) (by decide) rfl
          have hsa:=hba.size
          have HRL0:=Hd_ hrow
          have HTK:=Hd_ ((HSD.out.below hba hwW6).takeP (m:=k) (by omega))
          clear hrow
          refine hK.out _ _ (kB2 hba hS0) (fun _ _=>?_)
          try simp only [tA,tB,tC,Act.put,tE,tF,tG]
          clear hK K inv hS;rename_i hS inv
          refine F_two (i:=4) (j:=6) (by kernel_rfl) rfl rfl rfl rfl (by omega) inv (fun K hK=>?_) (fun K hK=>?_)
          all_goals (try simp only [tA,tB,tC])
          · refine op_appendL cPr elPair cPr_len cPr_one _ _ (by rfl) W6.drew.heap.size _ [] (l.take k) (by rfl) HRL0.out lo w.heap.size _ (by rfl) HTK.out (by simp;omega) (by omega) hsa ?_
            intro va wa hra hga hata
            simp only [List.nil_append] at hra
            have hbb:=hba.trans (own_below HRL0.out hsa hga)
            have hbx:=hbb.alloc hbb.size (.cells #[.int .i64 p.1,.int .i64 p.2] 120)
            have hbxs:=hbx.size
            have HV:=Hd_ (hra.alloc (.cells #[.int .i64 p.1,.int .i64 p.2] 120))
            obtain ⟨H1,hH1⟩:∃ H1,H1=wa.heap.size:=⟨_,rfl⟩
            have HLIT:=Hd_ (show (wa.alloc (.cells #[.int .i64 p.1,.int .i64 p.2] 120)).heap[H1]?=some (.cells (cPr p).toArray 120 (0,0)) by rw [hH1];exact heap_alloc_new _ _)
            clear hra hga hata
            refine hK.out _ _ (kB2 hbb hS0) (fun _ _=>?_)
            try simp only [tA,tB,tC,Act.put,tE,tF,tG]
            clear hK K inv hS;rename_i hS inv
            refine F_o1 6 inv ?_;intro K hK
            try simp only [tA,tB,tC]
            go_simp
            rw [<- hH1]
            refine hK.out _ _ (kB2 hbx hS0) (fun _ _=>?_)
            try simp only [tA,tB,tC,Act.put,tE,tF,tG]
            clear hK K inv hS;rename_i hS inv
            clear hH1
            refine F_o1 7 inv ?_;intro K hK
            try simp only [tA,tB,tC]
            refine op_append1 cPr elPair rfl _ _ (by rfl) W6.drew.heap.size va (l.take k) p _ H1 (by rfl) HV.out (by rfl) HLIT.out rfl (cPr_one _) (by omega) (by omega) hbxs ?_
            intro g2 cp2 w3 hown3 hgr3 hat3 hlt3
            have hb3:=hbx.trans (own_below HV.out hbxs hgr3)
            have HOW3:=Hd_ hown3
            have hs3:=hb3.size
            have HSD3:=Hd_ (HSD.out.dropQ (k:=k) hb3 hwW6 (by omega) hlc)
            clear hown3 hgr3 hat3
            refine hK.out _ _ (kB2 hb3 hS0) (fun _ _=>?_)
            try simp only [tA,tB,tC,Act.put,tE,tF,tG]
            clear hK K inv hS;rename_i hS inv
            refine F_o1 11 inv ?_;intro K hK
            try simp only [tA,tB,tC]
            refine op_appendL cPr elPair cPr_len cPr_one _ _ (by rfl) W6.drew.heap.size (.slice (some ⟨g2,0,none⟩) ((l.take k).length+1) cp2) (l.take k ++ [p]) (l.drop k) (by rfl) HOW3.out lo w.heap.size (.slice (if c=k then some ⟨g,0,none⟩ else some ⟨g,k * 2,none⟩) (l.length - k) (c - k)) (by rfl) HSD3.out (by omega) (by omega) hs3 ?_
            intro v5 w5 hown5 hgr5 hat5
            have hb5:=hb3.trans (own_below (base:=W6.drew.heap.size) HOW3.out hs3 hgr5)
            rw [show l.take k ++ [p] ++ l.drop k=R from HPUT.out.symm] at hown5
            obtain ⟨g5,c5,rfl,-,-,-,-⟩:=own_some hown5 (by have:=HRL.out;omega)
            have HSET:=Hd_ (show SetR lo w5 (.slice (some ⟨g5,0,none⟩) R.length c5) R from ⟨g5,c5,rfl,ownsRow_mono hown5 hloW⟩)
            have HBF:=Hd_ (below_trans HBW6.out hb5)
            clear hown5 hgr5 hat5
            refine hK.out _ _ (kB2 hb5 hS0) (fun _ _=>?_)
            try simp only [tA,tB,tC,Act.put,tE,tF,tG]
            clear hK K inv hS;rename_i hS inv
            refine F_l1 12 ?_;intro K hK
            go_simp
            refine hK _ _ ?_
            clear hK K inv hS
            go_wp2_with fail
            all_goals go_ret
            all_goals exact ⟨_,rfl,HSET.out,HBF.out⟩
          · go_simp
            obtain ⟨H1,hH1⟩:∃ H1,H1=W6.heap.size+1:=⟨_,rfl⟩
            have hbx0:=hba.alloc hsa (.cells #[.int .i64 p.1,.int .i64 p.2] 120)
            have HRL1:=Hd_ (HRL0.out.alloc (.cells #[.int .i64 p.1,.int .i64 p.2] 120))
            have HTK1:=Hd_ ((HSD.out.below hbx0 hwW6).takeP (m:=k) (by omega))
            have hs0x:=hbx0.size
            have HLT0:=Hd_ (show ((W6.drew.alloc (.cells #[] 120)).alloc (.cells #[.int .i64 p.1,.int .i64 p.2] 120)).heap[H1]?=some (.cells (cPr p).toArray 120 (0,0)) by
             have h:=heap_alloc_new (W6.drew.alloc (.cells #[] 120)) (.cells #[.int .i64 p.1,.int .i64 p.2] 120)
             rw [show (W6.drew.alloc (.cells #[] 120)).heap.size=H1 by rw [hH1];simp] at h
             exact h)
            have hH1l:H1 < ((W6.drew.alloc (.cells #[] 120)).alloc (.cells #[.int .i64 p.1,.int .i64 p.2] 120)).heap.size:=by rw [hH1];simp
            rw [<- hH1]
            have hH1n:H1 ≠ W6.drew.heap.size:=by rw [hH1];simp
            have HH1n:=Hd_ hH1n
            have HH1l:=Hd_ hH1l
            clear hH1 hH1n hH1l
            refine hK.out _ _ (kB2 hbx0 hS0) (fun _ _=>?_)
            try simp only [tA,tB,tC,Act.put,tE,tF,tG]
            clear hK K inv hS;rename_i hS inv
            refine F_o1 4 inv ?_;intro K hK
            try simp only [tA,tB,tC]
            refine op_appendL cPr elPair cPr_len cPr_one _ _ (by rfl) W6.drew.heap.size _ [] (l.take k) (by rfl) HRL1.out lo w.heap.size _ (by rfl) HTK1.out (by simp;omega) (by omega) hs0x ?_
            intro va wa hra hga hata
            simp only [List.nil_append] at hra
            have hbx:=hbx0.trans (own_below HRL1.out hs0x hga)
            have hbxs:=hbx.size
            have HV:=Hd_ hra
            have HLIT:=Hd_ ((hga.block H1 HH1l.out (fun e=>by injection e with e;exact HH1n.out e)).trans HLT0.out)
            clear hra hga hata
            refine hK.out _ _ (kB2 hbx hS0) (fun _ _=>?_)
            try simp only [tA,tB,tC,Act.put,tE,tF,tG]
            clear hK K inv hS;rename_i hS inv
            refine F_o1 7 inv ?_;intro K hK
            try simp only [tA,tB,tC]
            refine op_append1 cPr elPair rfl _ _ (by rfl) W6.drew.heap.size va (l.take k) p _ H1 (by rfl) HV.out (by rfl) HLIT.out rfl (cPr_one _) (by omega) (by omega) hbxs ?_
            intro g2 cp2 w3 hown3 hgr3 hat3 hlt3
            have hb3:=hbx.trans (own_below HV.out hbxs hgr3)
            have HOW3:=Hd_ hown3
            have hs3:=hb3.size
            have HSD3:=Hd_ (HSD.out.dropQ (k:=k) hb3 hwW6 (by omega) hlc)
            clear hown3 hgr3 hat3
            refine hK.out _ _ (kB2 hb3 hS0) (fun _ _=>?_)
            try simp only [tA,tB,tC,Act.put,tE,tF,tG]
            clear hK K inv hS;rename_i hS inv
            refine F_o1 11 inv ?_;intro K hK
            try simp only [tA,tB,tC]
            refine op_appendL cPr elPair cPr_len cPr_one _ _ (by rfl) W6.drew.heap.size (.slice (some ⟨g2,0,none⟩) ((l.take k).length+1) cp2) (l.take k ++ [p]) (l.drop k) (by rfl) HOW3.out lo w.heap.size (.slice (if c=k then some ⟨g,0,none⟩ else some ⟨g,k * 2,none⟩) (l.length - k) (c - k)) (by rfl) HSD3.out (by omega) (by omega) hs3 ?_
            intro v5 w5 hown5 hgr5 hat5
            have hb5:=hb3.trans (own_below (base:=W6.drew.heap.size) HOW3.out hs3 hgr5)
            rw [show l.take k ++ [p] ++ l.drop k=R from HPUT.out.symm] at hown5
            obtain ⟨g5,c5,rfl,-,-,-,-⟩:=own_some hown5 (by have:=HRL.out;omega)
            have HSET:=Hd_ (show SetR lo w5 (.slice (some ⟨g5,0,none⟩) R.length c5) R from ⟨g5,c5,rfl,ownsRow_mono hown5 hloW⟩)
            have HBF:=Hd_ (below_trans HBW6.out hb5)
            clear hown5 hgr5 hat5
            refine hK.out _ _ (kB2 hb5 hS0) (fun _ _=>?_)
            try simp only [tA,tB,tC,Act.put,tE,tF,tG]
            clear hK K inv hS;rename_i hS inv
            refine F_l1 12 ?_;intro K hK
            go_simp
            refine hK _ _ ?_
            clear hK K inv hS
            go_wp2_with fail
            all_goals go_ret
            all_goals exact ⟨_,rfl,HSET.out,HBF.out⟩
        · go_simp
          obtain ⟨H1,hH1⟩:∃ H1,H1=W6.heap.size:=⟨_,rfl⟩
          have hba:=(Below.refl W6.drew.heap.size W6.drew).alloc (Nat.le_refl _) (.cells #[.int .i64 p.1,.int .i64 p.2] 120)
          have hsa:=hba.size
          have hH1l:H1 < (W6.drew.alloc (.cells #[.int .i64 p.1,.int .i64 p.2] 120)).heap.size:=by rw [hH1];simp
          have HLT0:=Hd_ (show (W6.drew.alloc (.cells #[.int .i64 p.1,.int .i64 p.2] 120)).heap[H1]?=some (.cells (cPr p).toArray 120 (0,0)) by rw [hH1];exact heap_alloc_new _ _)
          refine hK.out _ _ (kB2 hba hS0) (fun _ _=>?_)
          try simp only [tA,tB,tC,Act.put,tE,tF,tG]
          clear hK K inv hS;rename_i hS inv
          refine F_o1 0 inv ?_;intro K hK
          try simp only [tA,tB,tC]
          go_simp
          have hbx0:=hba.alloc hsa (.cells #[] 120)
          have hrl:=World.ownsRow_lit (base:=W6.drew.heap.size) (e:=120) (size:=2) (W6.drew.alloc (.cells #[.int .i64 p.1,.int .i64 p.2] 120)) #[] 0 hsa (by decide) rfl
          rw [show (W6.drew.alloc (.cells #[.int .i64 p.1,.int .i64 p.2] 120)).heap.size=H1+1 by rw [hH1];simp] at hrl
          have HRL1:=Hd_ hrl
          clear hrl
          have HTK1:=Hd_ ((HSD.out.below hbx0 hwW6).takeP (m:=k) (by omega))
          have hs0x:=hbx0.size
          have HLT1:=Hd_ ((Below.heap_alloc _ (.cells #[] 120) H1 hH1l).trans HLT0.out)
          have HH1l:=Hd_ (Nat.lt_of_lt_of_le hH1l (show (W6.drew.alloc (.cells #[.int .i64 p.1,.int .i64 p.2] 120)).heap.size<=((W6.drew.alloc (.cells #[.int .i64 p.1,.int .i64 p.2] 120)).alloc (.cells #[] 120)).heap.size by simp))
          have HH1n:=Hd_ (show H1 ≠ H1+1 by omega)
          rw [<- hH1]
          clear hH1 hH1l
          refine hK.out _ _ (kB2 hbx0 hS0) (fun _ _=>?_)
          try simp only [tA,tB,tC,Act.put,tE,tF,tG]
          clear hK K inv hS;rename_i hS inv
          refine F_o1 4 inv ?_;intro K hK
          try simp only [tA,tB,tC]
          refine op_appendL cPr elPair cPr_len cPr_one _ _ (by rfl) W6.drew.heap.size _ [] (l.take k) (by rfl) HRL1.out lo w.heap.size _ (by rfl) HTK1.out (by simp;omega) (by omega) hs0x ?_
          intro va wa hra hga hata
          simp only [List.nil_append] at hra
          have hbx:=hbx0.trans (own_below HRL1.out hs0x hga)
          have hbxs:=hbx.size
          have HV:=Hd_ hra
          have HLIT:=Hd_ ((hga.block H1 HH1l.out (fun e=>by injection e with e;exact HH1n.out e)).trans HLT1.out)
          clear hra hga hata
          refine hK.out _ _ (kB2 hbx hS0) (fun _ _=>?_)
          try simp only [tA,tB,tC,Act.put,tE,tF,tG]
          clear hK K inv hS;rename_i hS inv
          refine F_o1 7 inv ?_;intro K hK
          try simp only [tA,tB,tC]
          refine op_append1 cPr elPair rfl _ _ (by rfl) W6.drew.heap.size va (l.take k) p _ H1 (by rfl) HV.out (by rfl) HLIT.out rfl (cPr_one _) (by omega) (by omega) hbxs ?_
          intro g2 cp2 w3 hown3 hgr3 hat3 hlt3
          have hb3:=hbx.trans (own_below HV.out hbxs hgr3)
          have HOW3:=Hd_ hown3
          have hs3:=hb3.size
          have HSD3:=Hd_ (HSD.out.dropQ (k:=k) hb3 hwW6 (by omega) hlc)
          clear hown3 hgr3 hat3
          refine hK.out _ _ (kB2 hb3 hS0) (fun _ _=>?_)
          try simp only [tA,tB,tC,Act.put,tE,tF,tG]
          clear hK K inv hS;rename_i hS inv
          refine F_o1 11 inv ?_;intro K hK
          try simp only [tA,tB,tC]
          refine op_appendL cPr elPair cPr_len cPr_one _ _ (by rfl) W6.drew.heap.size (.slice (some ⟨g2,0,none⟩) ((l.take k).length+1) cp2) (l.take k ++ [p]) (l.drop k) (by rfl) HOW3.out lo w.heap.size (.slice (if c=k then some ⟨g,0,none⟩ else some ⟨g,k * 2,none⟩) (l.length - k) (c - k)) (by rfl) HSD3.out (by omega) (by omega) hs3 ?_
          intro v5 w5 hown5 hgr5 hat5
          have hb5:=hb3.trans (own_below (base:=W6.drew.heap.size) HOW3.out hs3 hgr5)
          rw [show l.take k ++ [p] ++ l.drop k=R from HPUT.out.symm] at hown5
          obtain ⟨g5,c5,rfl,-,-,-,-⟩:=own_some hown5 (by have:=HRL.out;omega)
          have HSET:=Hd_ (show SetR lo w5 (.slice (some ⟨g5,0,none⟩) R.length c5) R from ⟨g5,c5,rfl,ownsRow_mono hown5 hloW⟩)
          have HBF:=Hd_ (below_trans HBW6.out hb5)
          clear hown5 hgr5 hat5
          refine hK.out _ _ (kB2 hb5 hS0) (fun _ _=>?_)
          try simp only [tA,tB,tC,Act.put,tE,tF,tG]
          clear hK K inv hS;rename_i hS inv
          refine F_l1 12 ?_;intro K hK
          go_simp
          refine hK _ _ ?_
          clear hK K inv hS
          go_wp2_with fail
          all_goals go_ret
          all_goals exact ⟨_,rfl,HSET.out,HBF.out⟩
  · have hkl0:k=l.length:=by omega
    have hput:=putP_at (l:=l) (p:=p) (k:=k) (by omega) HALL.out (fun y hy=>by rw [hkl0,List.getElem?_eq_none (Nat.le_refl _)] at hy;cases hy)
    rw [show l[k]?=none by rw [hkl0,List.getElem?_eq_none (Nat.le_refl _)],if_neg (by simp)] at hput
    have HPUT:=Hd_ (show R=l.take k ++ [p] ++ l.drop k from HR.out.trans hput)
    have hdk:decide ((k:Int) < (l.length:Int))=false:=by simp;omega
    clear hput HALL HR hkl0
    go_wp2_with fail
    refine wp_region_ext_lit (by kernel_rfl) (by kernel_rfl) ?_
    repeat (go_big_quiet_step (fail))
    refine wpQuiet_nil ?_
    rintro _ ⟨u2,rfl⟩
    obtain ⟨u4,hu4⟩:=ext_ext W0 u u2
    rw [hu4]
    clear hu4
    go_wp2_with fail
    refine wp_region_ext_lit (by kernel_rfl) (by kernel_rfl) ?_
    repeat (go_big_quiet_step (fail))
    refine wpQuiet_nil ?_
    rintro _ ⟨u3,rfl⟩
    clear hdk
    obtain ⟨W6,hW6⟩:∃ W6,W6=(ext (ext W0 u4) u3):=⟨_,rfl⟩
    have hb6:Below W0.heap.size W0 W6:=by rw [hW6];exact (below_trans (ext_below _ _) (ext_below _ _))
    rw [<- hW6]
    clear hW6
    have x0:=kcell hb6 x0
    have x1:=kcell hb6 x1
    have l6:=Nat.lt_of_lt_of_le l0 hb6.size
    have HSD:=Hd_ (show SlI lo w.heap.size W6.drew cPr 2 (.slice (some ⟨g,0,none⟩) l.length c) l from HSL.out.below hb6.drew (by omega))
    have HBW6:=Hd_ (show Below w.heap.size w W6.drew from (below_trans hb0 hb6).drew)
    have hwW6:w.heap.size<=W6.drew.heap.size:=HBW6.out.size
    have hloW:lo<=W6.drew.heap.size:=by omega
    have hkl:(k:Int)<=(l.length:Int):=by omega
    have hkc:(k:Int)<=(c:Int):=by omega
    have htl:(l.take k).length<=l.length:=by rw [List.length_take];omega
    have hdl:(l.drop k).length<=l.length:=by rw [List.length_drop];omega
    have htd:(l.take k ++ [p]).length<=l.length+1:=by rw [List.length_append];simp only [List.length_cons,List.length_nil];omega
    have HRL:=Hd_ (show R.length ≠ 0 by rw [HPUT.out];simp)
    clear HSL HROW hb0 hb6
    go_wp2_with fail
    have hS1:=HSD.out
    clear hS1
    refine F_start 12 (fun w'=>w'.cell? ⟨w.heap.size,0,none⟩=some (.int .i64 p.1)/\w'.cell? ⟨w.heap.size,1,none⟩=some (.int .i64 p.2)) (by kernel_rfl) (by exact ⟨x0,x1⟩) (fun hS inv=>?_)
    refine F_tk 1 inv ?_
    try simp only [tA,tB,tC,Act.put,tE,tF,tG]
    clear inv;intro inv
    refine F_tk 2 inv ?_
    try simp only [tA,tB,tC,Act.put,tE,tF,tG]
    clear inv;intro inv
    refine F_tk 3 inv ?_
    try simp only [tA,tB,tC,Act.put,tE,tF,tG]
    clear inv;intro inv
    refine F_tk 5 inv ?_
    try simp only [tA,tB,tC,Act.put,tE,tF,tG]
    clear inv;intro inv
    refine F_tk 8 inv ?_
    try simp only [tA,tB,tC,Act.put,tE,tF,tG]
    clear inv;intro inv
    refine F_tk 9 inv ?_
    try simp only [tA,tB,tC,Act.put,tE,tF,tG]
    clear inv;intro inv
    refine F_tk 10 inv ?_
    try simp only [tA,tB,tC,Act.put,tE,tF,tG]
    clear inv;intro inv
    have hS0:=hS
    refine F_two (i:=0) (j:=6) (by kernel_rfl) rfl rfl rfl rfl (by omega) inv (fun K hK=>?_) (fun K hK=>?_)
    all_goals (try simp only [tA,tB,tC])
    · go_simp
      have hba:=(Below.refl W6.drew.heap.size W6.drew).alloc (Nat.le_refl _) (.cells #[] 120)
      have hrow:=World.ownsRow_lit (base:=W6.drew.heap.size) (e:=120) (size:=2) W6.drew #[] 0 (Nat.le_refl _) (by decide) rfl
      have hsa:=hba.size
      have HRL0:=Hd_ hrow
      have HTK:=Hd_ ((HSD.out.below hba hwW6).takeP (m:=k) (by omega))
      clear hrow
      refine hK.out _ _ (kB2 hba hS0) (fun _ _=>?_)
      try simp only [tA,tB,tC,Act.put,tE,tF,tG]
      clear hK K inv hS;rename_i hS inv
      refine F_two (i:=4) (j:=6) (by kernel_rfl) rfl rfl rfl rfl (by omega) inv (fun K hK=>?_) (fun K hK=>?_)
      all_goals (try simp only [tA,tB,tC])
      · refine op_appendL cPr elPair cPr_len cPr_one _ _ (by rfl) W6.drew.heap.size _ [] (l.take k) (by rfl) HRL0.out lo w.heap.size _ (by rfl) HTK.out (by simp;omega) (by omega) hsa ?_
        intro va wa hra hga hata
        simp only [List.nil_append] at hra
        have hbb:=hba.trans (own_below HRL0.out hsa hga)
        have hbx:=hbb.alloc hbb.size (.cells #[.int .i64 p.1,.int .i64 p.2] 120)
        have hbxs:=hbx.size
        have HV:=Hd_ (hra.alloc (.cells #[.int .i64 p.1,.int .i64 p.2] 120))
        obtain ⟨H1,hH1⟩:∃ H1,H1=wa.heap.size:=⟨_,rfl⟩
        have HLIT:=Hd_ (show (wa.alloc (.cells #[.int .i64 p.1,.int .i64 p.2] 120)).heap[H1]?=some (.cells (cPr p).toArray 120 (0,0)) by rw [hH1];exact heap_alloc_new _ _)
        clear hra hga hata
        refine hK.out _ _ (kB2 hbb hS0) (fun _ _=>?_)
        try simp only [tA,tB,tC,Act.put,tE,tF,tG]
        clear hK K inv hS;rename_i hS inv
        refine F_o1 6 inv ?_;intro K hK
        try simp only [tA,tB,tC]
        go_simp
        rw [<- hH1]
        refine hK.out _ _ (kB2 hbx hS0) (fun _ _=>?_)
        try simp only [tA,tB,tC,Act.put,tE,tF,tG]
        clear hK K inv hS;rename_i hS inv
        clear hH1
        refine F_o1 7 inv ?_;intro K hK
        try simp only [tA,tB,tC]
        refine op_append1 cPr elPair rfl _ _ (by rfl) W6.drew.heap.size va (l.take k) p _ H1 (by rfl) HV.out (by rfl) HLIT.out rfl (cPr_one _) (by omega) (by omega) hbxs ?_
        intro g2 cp2 w3 hown3 hgr3 hat3 hlt3
        have hb3:=hbx.trans (own_below HV.out hbxs hgr3)
        have HOW3:=Hd_ hown3
        have hs3:=hb3.size
        have HSD3:=Hd_ (HSD.out.dropQ (k:=k) hb3 hwW6 (by omega) hlc)
        clear hown3 hgr3 hat3
        refine hK.out _ _ (kB2 hb3 hS0) (fun _ _=>?_)
        try simp only [tA,tB,tC,Act.put,tE,tF,tG]
        clear hK K inv hS;rename_i hS inv
        refine F_o1 11 inv ?_;intro K hK
        try simp only [tA,tB,tC]
        refine op_appendL cPr elPair cPr_len cPr_one _ _ (by rfl) W6.drew.heap.size (.slice (some ⟨g2,0,none⟩) ((l.take k).length+1) cp2) (l.take k ++ [p]) (l.drop k) (by rfl) HOW3.out lo w.heap.size (.slice (if c=k then some ⟨g,0,none⟩ else some ⟨g,k * 2,none⟩) (l.length - k) (c - k)) (by rfl) HSD3.out (by omega) (by omega) hs3 ?_
        intro v5 w5 hown5 hgr5 hat5
        have hb5:=hb3.trans (own_below (base:=W6.drew.heap.size) HOW3.out hs3 hgr5)
        rw [show l.take k ++ [p] ++ l.drop k=R from HPUT.out.symm] at hown5
        obtain ⟨g5,c5,rfl,-,-,-,-⟩:=own_some hown5 (by have:=HRL.out;omega)
        have HSET:=Hd_ (show SetR lo w5 (.slice (some ⟨g5,0,none⟩) R.length c5) R from ⟨g5,c5,rfl,ownsRow_mono hown5 hloW⟩)
        have HBF:=Hd_ (below_trans HBW6.out hb5)
        clear hown5 hgr5 hat5
        refine hK.out _ _ (kB2 hb5 hS0) (fun _ _=>?_)
        try simp only [tA,tB,tC,Act.put,tE,tF,tG]
        clear hK K inv hS;rename_i hS inv
        refine F_l1 12 ?_;intro K hK
        go_simp
        refine hK _ _ ?_
        clear hK K inv hS
        go_wp2_with fail
        all_goals go_ret
        all_goals exact ⟨_,rfl,HSET.out,HBF.out⟩
      · go_simp
        obtain ⟨H1,hH1⟩:∃ H1,H1=W6.heap.size+1:=⟨_,rfl⟩
        have hbx0:=hba.alloc hsa (.cells #[.int .i64 p.1,.int .i64 p.2] 120)
        have HRL1:=Hd_ (HRL0.out.alloc (.cells #[.int .i64 p.1,.int .i64 p.2] 120))
        have HTK1:=Hd_ ((HSD.out.below hbx0 hwW6).takeP (m:=k) (by omega))
        have hs0x:=hbx0.size
        have HLT0:=Hd_ (show ((W6.drew.alloc (.cells #[] 120)).alloc (.cells #[.int .i64 p.1,.int .i64 p.2] 120)).heap[H1]?=some (.cells (cPr p).toArray 120 (0,0)) by
         have h:=heap_alloc_new (W6.drew.alloc (.cells #[] 120)) (.cells #[.int .i64 p.1,.int .i64 p.2] 120)
         rw [show (W6.drew.alloc (.cells #[] 120)).heap.size=H1 by rw [hH1];simp] at h
         exact h)
        have hH1l:H1 < ((W6.drew.alloc (.cells #[] 120)).alloc (.cells #[.int .i64 p.1,.int .i64 p.2] 120)).heap.size:=by rw [hH1];simp
        rw [<- hH1]
        have hH1n:H1 ≠ W6.drew.heap.size:=by rw [hH1];simp
        have HH1n:=Hd_ hH1n
        have HH1l:=Hd_ hH1l
        clear hH1 hH1n hH1l
        refine hK.out _ _ (kB2 hbx0 hS0) (fun _ _=>?_)
        try simp only [tA,tB,tC,Act.put,tE,tF,tG]
        clear hK K inv hS;rename_i hS inv
        refine F_o1 4 inv ?_;intro K hK
        try simp only [tA,tB,tC]
        refine op_appendL cPr elPair cPr_len cPr_one _ _ (by rfl) W6.drew.heap.size _ [] (l.take k) (by rfl) HRL1.out lo w.heap.size _ (by rfl) HTK1.out (by simp;omega) (by omega) hs0x ?_
        intro va wa hra hga hata
        simp only [List.nil_append] at hra
        have hbx:=hbx0.trans (own_below HRL1.out hs0x hga)
        have hbxs:=hbx.size
        have HV:=Hd_ hra
        have HLIT:=Hd_ ((hga.block H1 HH1l.out (fun e=>by injection e with e;exact HH1n.out e)).trans HLT0.out)
        clear hra hga hata
        refine hK.out _ _ (kB2 hbx hS0) (fun _ _=>?_)
        try simp only [tA,tB,tC,Act.put,tE,tF,tG]
        clear hK K inv hS;rename_i hS inv
        refine F_o1 7 inv ?_;intro K hK
        try simp only [tA,tB,tC]
        refine op_append1 cPr elPair rfl _ _ (by rfl) W6.drew.heap.size va (l.take k) p _ H1 (by rfl) HV.out (by rfl) HLIT.out rfl (cPr_one _) (by omega) (by omega) hbxs ?_
        intro g2 cp2 w3 hown3 hgr3 hat3 hlt3
        have hb3:=hbx.trans (own_below HV.out hbxs hgr3)
        have HOW3:=Hd_ hown3
        have hs3:=hb3.size
        have HSD3:=Hd_ (HSD.out.dropQ (k:=k) hb3 hwW6 (by omega) hlc)
        clear hown3 hgr3 hat3
        refine hK.out _ _ (kB2 hb3 hS0) (fun _ _=>?_)
        try simp only [tA,tB,tC,Act.put,tE,tF,tG]
        clear hK K inv hS;rename_i hS inv
        refine F_o1 11 inv ?_;intro K hK
        try simp only [tA,tB,tC]
        refine op_appendL cPr elPair cPr_len cPr_one _ _ (by rfl) W6.drew.heap.size (.slice (some ⟨g2,0,none⟩) ((l.take k).length+1) cp2) (l.take k ++ [p]) (l.drop k) (by rfl) HOW3.out lo w.heap.size (.slice (if c=k then some ⟨g,0,none⟩ else some ⟨g,k * 2,none⟩) (l.length - k) (c - k)) (by rfl) HSD3.out (by omega) (by omega) hs3 ?_
        intro v5 w5 hown5 hgr5 hat5
        have hb5:=hb3.trans (own_below (base:=W6.drew.heap.size) HOW3.out hs3 hgr5)
        rw [show l.take k ++ [p] ++ l.drop k=R from HPUT.out.symm] at hown5
        obtain ⟨g5,c5,rfl,-,-,-,-⟩:=own_some hown5 (by have:=HRL.out;omega)
        have HSET:=Hd_ (show SetR lo w5 (.slice (some ⟨g5,0,none⟩) R.length c5) R from ⟨g5,c5,rfl,ownsRow_mono hown5 hloW⟩)
        have HBF:=Hd_ (below_trans HBW6.out hb5)
        clear hown5 hgr5 hat5
        refine hK.out _ _ (kB2 hb5 hS0) (fun _ _=>?_)
        try simp only [tA,tB,tC,Act.put,tE,tF,tG]
        clear hK K inv hS;rename_i hS inv
        refine F_l1 12 ?_;intro K hK
        go_simp
        refine hK _ _ ?_
        clear hK K inv hS
        go_wp2_with fail
        all_goals go_ret
        all_goals exact ⟨_,rfl,HSET.out,HBF.out⟩
    · go_simp
      obtain ⟨H1,hH1⟩:∃ H1,H1=W6.heap.size:=⟨_,rfl⟩
      have hba:=(Below.refl W6.drew.heap.size W6.drew).alloc (Nat.le_refl _) (.cells #[.int .i64 p.1,.int .i64 p.2] 120)
      have hsa:=hba.size
      have hH1l:H1 < (W6.drew.alloc (.cells #[.int .i64 p.1,.int .i64 p.2] 120)).heap.size:=by rw [hH1];simp
      have HLT0:=Hd_ (show (W6.drew.alloc (.cells #[.int .i64 p.1,.int .i64 p.2] 120)).heap[H1]?=some (.cells (cPr p).toArray 120 (0,0)) by rw [hH1];exact heap_alloc_new _ _)
      refine hK.out _ _ (kB2 hba hS0) (fun _ _=>?_)
      try simp only [tA,tB,tC,Act.put,tE,tF,tG]
      clear hK K inv hS;rename_i hS inv
      refine F_o1 0 inv ?_;intro K hK
      try simp only [tA,tB,tC]
      go_simp
      have hbx0:=hba.alloc hsa (.cells #[] 120)
      have hrl:=World.ownsRow_lit (base:=W6.drew.heap.size) (e:=120) (size:=2) (W6.drew.alloc (.cells #[.int .i64 p.1,.int .i64 p.2] 120)) #[] 0 hsa (by decide) rfl
      rw [show (W6.drew.alloc (.cells #[.int .i64 p.1,.int .i64 p.2] 120)).heap.size=H1+1 by rw [hH1];simp] at hrl
      have HRL1:=Hd_ hrl
      clear hrl
      have HTK1:=Hd_ ((HSD.out.below hbx0 hwW6).takeP (m:=k) (by omega))
      have hs0x:=hbx0.size
      have HLT1:=Hd_ ((Below.heap_alloc _ (.cells #[] 120) H1 hH1l).trans HLT0.out)
      have HH1l:=Hd_ (Nat.lt_of_lt_of_le hH1l (show (W6.drew.alloc (.cells #[.int .i64 p.1,.int .i64 p.2] 120)).heap.size<=((W6.drew.alloc (.cells #[.int .i64 p.1,.int .i64 p.2] 120)).alloc (.cells #[] 120)).heap.size by simp))
      have HH1n:=Hd_ (show H1 ≠ H1+1 by omega)
      rw [<- hH1]
      clear hH1 hH1l
      refine hK.out _ _ (kB2 hbx0 hS0) (fun _ _=>?_)
      try simp only [tA,tB,tC,Act.put,tE,tF,tG]
      clear hK K inv hS;rename_i hS inv
      refine F_o1 4 inv ?_;intro K hK
      try simp only [tA,tB,tC]
      refine op_appendL cPr elPair cPr_len cPr_one _ _ (by rfl) W6.drew.heap.size _ [] (l.take k) (by rfl) HRL1.out lo w.heap.size _ (by rfl) HTK1.out (by simp;omega) (by omega) hs0x ?_
      intro va wa hra hga hata
      simp only [List.nil_append] at hra
      have hbx:=hbx0.trans (own_below HRL1.out hs0x hga)
      have hbxs:=hbx.size
      have HV:=Hd_ hra
      have HLIT:=Hd_ ((hga.block H1 HH1l.out (fun e=>by injection e with e;exact HH1n.out e)).trans HLT1.out)
      clear hra hga hata
      refine hK.out _ _ (kB2 hbx hS0) (fun _ _=>?_)
      try simp only [tA,tB,tC,Act.put,tE,tF,tG]
      clear hK K inv hS;rename_i hS inv
      refine F_o1 7 inv ?_;intro K hK
      try simp only [tA,tB,tC]
      refine op_append1 cPr elPair rfl _ _ (by rfl) W6.drew.heap.size va (l.take k) p _ H1 (by rfl) HV.out (by rfl) HLIT.out rfl (cPr_one _) (by omega) (by omega) hbxs ?_
      intro g2 cp2 w3 hown3 hgr3 hat3 hlt3
      have hb3:=hbx.trans (own_below HV.out hbxs hgr3)
      have HOW3:=Hd_ hown3
      have hs3:=hb3.size
      have HSD3:=Hd_ (HSD.out.dropQ (k:=k) hb3 hwW6 (by omega) hlc)
      clear hown3 hgr3 hat3
      refine hK.out _ _ (kB2 hb3 hS0) (fun _ _=>?_)
      try simp only [tA,tB,tC,Act.put,tE,tF,tG]
      clear hK K inv hS;rename_i hS inv
      refine F_o1 11 inv ?_;intro K hK
      try simp only [tA,tB,tC]
      refine op_appendL cPr elPair cPr_len cPr_one _ _ (by rfl) W6.drew.heap.size (.slice (some ⟨g2,0,none⟩) ((l.take k).length+1) cp2) (l.take k ++ [p]) (l.drop k) (by rfl) HOW3.out lo w.heap.size (.slice (if c=k then some ⟨g,0,none⟩ else some ⟨g,k * 2,none⟩) (l.length - k) (c - k)) (by rfl) HSD3.out (by omega) (by omega) hs3 ?_
      intro v5 w5 hown5 hgr5 hat5
      have hb5:=hb3.trans (own_below (base:=W6.drew.heap.size) HOW3.out hs3 hgr5)
      rw [show l.take k ++ [p] ++ l.drop k=R from HPUT.out.symm] at hown5
      obtain ⟨g5,c5,rfl,-,-,-,-⟩:=own_some hown5 (by have:=HRL.out;omega)
      have HSET:=Hd_ (show SetR lo w5 (.slice (some ⟨g5,0,none⟩) R.length c5) R from ⟨g5,c5,rfl,ownsRow_mono hown5 hloW⟩)
      have HBF:=Hd_ (below_trans HBW6.out hb5)
      clear hown5 hgr5 hat5
      refine hK.out _ _ (kB2 hb5 hS0) (fun _ _=>?_)
      try simp only [tA,tB,tC,Act.put,tE,tF,tG]
      clear hK K inv hS;rename_i hS inv
      refine F_l1 12 ?_;intro K hK
      go_simp
      refine hK _ _ ?_
      clear hK K inv hS
      go_wp2_with fail
      all_goals go_ret
      all_goals exact ⟨_,rfl,HSET.out,HBF.out⟩
def inP (b:List Pr) (p:Pr):Bool:=decide (p ∈ b)
def subL (a b:List Pr):List Pr:=psetL (a.filter fun p=>!inP b p)
theorem subL_pset (a b:List Pr):(psetL a).filter (fun p=>!inP b p)=subL a b:=by
 refine uniqP ?_ (psetL_asc _) fun x=>?_
 · exact (psetL_asc a).sublist List.filter_sublist
 · rw [subL,mem_psetL,List.mem_filter,List.mem_filter,mem_psetL]
set_option maxHeartbeats 2000000 in
theorem l15Has_any (v:Value) (l:List Pr) (p:Pr) (w:World) (hv:SlE w cPr 2 v l) :
 Calls Tryz.prog 135 #[v,.agg #[.int .i64 p.1,.int .i64 p.2]] w fun e w'=>e=.returned (.bool (inP l p))/\Below w.heap.size w w':=by
 have hs:=hv
 obtain ⟨A,c,rfl,hl,hm,-⟩:=hv
 unfold maxLen at hm
 have HS:=Hd_ hs
 obtain ⟨pa,pb⟩:=p
 obtain ⟨R,hR⟩:∃ R,R=inP l (pa,pb):=⟨_,rfl⟩
 have HRT:=Hd_ (fun (h:((pa,pb):Pr) ∈ l)=>show R=true by rw [hR,inP];simpa using h)
 have HRF:=Hd_ (fun (h:¬ ((pa,pb):Pr) ∈ l)=>show R=false by rw [hR,inP];simpa using h)
 simp only
 rw [<- hR]
 clear hs hR
 have hb0:Below w.heap.size w (w.alloc (.cells #[.int .i64 pa,.int .i64 pb] 120)):=(Below.refl _ _).alloc (Nat.le_refl _) _
 have bZ:=Blk.new w 120 #[.int .i64 pa,.int .i64 pb] w.heap.size rfl
 go_enter Tryz.func135,Tryz.ntmps135
 go_wp2_with fail
 obtain ⟨W1,hW1⟩:∃ W1,W1=w.alloc (.cells #[.int .i64 pa,.int .i64 pb] 120):=⟨_,rfl⟩
 rw [<- hW1] at hb0 bZ ⊢
 have z0:W1.cell? ⟨w.heap.size,0,none⟩=some (.int .i64 pa):=bZ.cell 0
 have z1:W1.cell? ⟨w.heap.size,1,none⟩=some (.int .i64 pb):=bZ.cell 1
 have lz:=bZ.lt
 have HB0:=Hd_ hb0
 clear hW1 hb0 bZ
 go_loopw [5] (fun ii wr=>∃ (i:Nat) (u:World),i<=l.length/\ii=.int .i64 (i:Int)/\(∀ j q,j < i->l[j]?=some q->q ≠ ((pa,pb):Pr))/\wr=ext W1 u) (fun ii _=>l.length - (intOf ii).toNat)
 case atStart=>exact ⟨0,W1,Nat.zero_le _,rfl,fun j q hj=>by omega,ext_self _⟩
 case round =>
  obtain ⟨i,u,hi,rfl,hno,rfl⟩:=hrel
  by_cases hlt:i < l.length
  · have hxi:l[i]?=some l[i]:=List.getElem?_eq_getElem hlt
    generalize l[i]=x at hxi
    obtain ⟨b',o,rfl,⟨-,hb⟩,d0,d1⟩:=HS.out.prA hxi
    obtain ⟨xa,xb⟩:=x
    simp only at d0 d1
    have d0:=kcell HB0.out d0
    have d1:=kcell HB0.out d1
    have hbw:b' < W1.heap.size:=by omega
    have hii:(i:Int) < (l.length:Int):=by omega
    have HMEM:=Hd_ (List.mem_of_getElem? hxi)
    have HNX:=Hd_ (fun (h:((xa,xb):Pr) ≠ (pa,pb)) j q (hj:j < i+1) (hq:l[j]?=some q)=>show q ≠ ((pa,pb):Pr) from by
     rcases Nat.lt_or_ge j i with h1 | h1
     · exact hno j q h1 hq
     · obtain rfl:j=i:=by omega
       rw [hxi] at hq
       injection hq with hq
       rw [<- hq];exact h)
    obtain ⟨bb,hbb⟩:∃ bb,bb=decide (((xa,xb):Pr)=(pa,pb)):=⟨_,rfl⟩
    have HEQ:=Hd_ (fun w=>eqlPr xa xb pa pb w)
    rw [<- hbb] at HEQ
    have HBB:=Hd_ hbb
    have heq:=HEQ.out
    clear hbb hxi hno
    cases bb with
    | true =>
      have HFN:=Hd_ (HRT.out (by have h:((xa,xb):Pr)=(pa,pb):=of_decide_eq_true HBB.out.symm;rw [<- h];exact HMEM.out))
      go_wp2_with fail
      refine wp_region_ext_lit (by kernel_rfl) (by kernel_rfl) ?_
      repeat (go_big_quiet_step (fail))
      refine wpQuiet_nil ?_
      rintro _ ⟨u2,rfl⟩
      have hbf:=below_trans HB0.out (below_trans (ext_below W1 u) (ext_below (ext W1 u) u2))
      go_wp2_with fail
      go_ret
      exact ⟨by rw [HFN.out];rfl,hbf⟩
    | false =>
      have HNY:=Hd_ (HNX.out (of_decide_eq_false HBB.out.symm))
      go_wp2_with fail
      refine wp_region_ext_lit (by kernel_rfl) (by kernel_rfl) ?_
      repeat (go_big_quiet_step (fail))
      refine wpQuiet_nil ?_
      rintro _ ⟨u2,rfl⟩
      obtain ⟨u4,hu4⟩:=ext_ext W1 u u2
      rw [hu4]
      clear hu4
      go_wp2_with fail
      go_roundw
      case rel=>exact ⟨i+1,u4,by omega,by go_num,HNY.out,rfl⟩
      case measure=>simp [intOf];omega
  · have HFN:=Hd_ (HRF.out (fun h=>by
     obtain ⟨j,hj⟩:=List.getElem?_of_mem h
     exact hno j _ (by have:=(List.getElem?_eq_some_iff.1 hj).1;omega) hj rfl))
    have hii:¬ (i:Int) < (l.length:Int):=by omega
    have hbf:=below_trans HB0.out (ext_below W1 u)
    clear hno
    go_wp2_with fail
    go_ret
    exact ⟨by rw [HFN.out];rfl,hbf⟩
theorem filt_yes {a:List Pr} {f:Pr->Bool} {i:Nat} {x:Pr} (h:a[i]?=some x) (hf:f x=true):(a.take (i+1)).filter f=(a.take i).filter f ++ [x]:=by
 rw [take_snoc h,List.filter_append];simp [hf]
theorem filt_no {a:List Pr} {f:Pr->Bool} {i:Nat} {x:Pr} (h:a[i]?=some x) (hf:f x=false):(a.take (i+1)).filter f=(a.take i).filter f:=by
 rw [take_snoc h,List.filter_append];simp [hf]
set_option maxHeartbeats 2000000 in
set_option maxRecDepth 100000 in
theorem specSubtract (va vb:Value) (a b:List Pr) (w:World) (hva:SlE w cPr 2 va a) (hvb:SlE w cPr 2 vb b) (hna:a.length<=1048576) :
 Calls Tryz.prog 91 #[va,vb] w fun e w'=>∃ v',e=.returned v'/\Own w.heap.size w'.heap.size w' 120 cPr 2 v' (subL a b)/\Below w.heap.size w w':=by
 have hsa:=hva
 have hsb:=hvb
 obtain ⟨A,ca,rfl,hla,hma,-⟩:=hva
 obtain ⟨B,cb,rfl,hlb,hmb,-⟩:=hvb
 unfold maxLen at hma hmb
 obtain ⟨R,hR⟩:∃ R,R=subL a b:=⟨_,rfl⟩
 rw [<- hR]
 have HR:=Hd_ hR
 have HSA:=Hd_ hsa
 have HSB:=Hd_ hsb
 have HHAS:=Hd_ (fun (p:Pr) (W:World) (hW:Below w.heap.size w W)=>l15Has_any _ b p W (SlE.keep hsb hW))
 clear hR hsa hsb
 go_enter Tryz.func91,Tryz.ntmps91
 go_wp2_with fail
 go_loopw [5,6] (fun oo ii wr=>∃ i:Nat,i<=a.length/\ii=.int .i64 (i:Int)/\SetR w.heap.size wr oo (psetL ((a.take i).filter fun p=>!inP b p))/\Below w.heap.size w wr) (fun _ ii _=>a.length - (intOf ii).toNat)
 case atStart=>exact ⟨0,Nat.zero_le _,rfl,SetR.lit w _ (Nat.le_refl _),(Below.refl _ _).alloc (Nat.le_refl _) _⟩
 case round =>
  obtain ⟨i,hi,rfl,hset,hbel⟩:=hrel
  have HSET:=Hd_ hset
  have hsz:=hbel.size
  clear hset
  by_cases hlt:i < a.length
  · have hxi:a[i]?=some a[i]:=List.getElem?_eq_getElem hlt
    generalize a[i]=x at hxi
    obtain ⟨b',o,rfl,⟨-,hb⟩,d0,d1⟩:=HSA.out.prA hxi
    have d0:=kcell hbel d0
    have d1:=kcell hbel d1
    obtain ⟨xa,xb⟩:=x
    simp only at d0 d1
    have hbw:b' < wr.heap.size:=by omega
    have hii:(i:Int) < (a.length:Int):=by omega
    have HY:=Hd_ (fun (h:inP b (xa,xb)=false)=>show psetL ((a.take (i+1)).filter fun p=>!inP b p)=putP (psetL ((a.take i).filter fun p=>!inP b p)) (xa,xb) from by rw [filt_yes hxi (by rw [h];rfl),psetL_snoc])
    have HN:=Hd_ (fun (h:inP b (xa,xb)=true)=>show psetL ((a.take (i+1)).filter fun p=>!inP b p)=psetL ((a.take i).filter fun p=>!inP b p) from by rw [filt_no hxi (by rw [h];rfl)])
    have hpl:(psetL ((a.take i).filter fun p=>!inP b p)).length<=2097152:=Nat.le_trans (psetL_len _) (Nat.le_trans (List.length_filter_le _ _) (by simp only [List.length_take];omega))
    clear hxi
    generalize psetL ((a.take i).filter fun p=>!inP b p)=L at *
    go_wp2_with fail
    refine (HHAS.out (xa,xb) _ hbel).mono ?_
    rintro e w3 ⟨rfl,hb3⟩
    have hbel3:=below_trans hbel hb3
    have HS3:=Hd_ (HSET.out.below hb3)
    have hsz3:=hbel3.size
    have d0:=kcell hb3 d0
    have d1:=kcell hb3 d1
    have hbw3:b' < w3.heap.size:=by have:=hb3.size;omega
    cases hc:inP b (xa,xb) with
    | true =>
      have HM:=Hd_ (HN.out hc)
      clear hc hb3
      go_wp2_with fail
      go_roundw
      case rel=>exact ⟨i+1,by omega,by go_num,by rw [HM.out];exact HS3.out,hbel3⟩
      case measure=>simp [intOf];omega
    | false =>
      have HM:=Hd_ (HY.out hc)
      have HP:=Hd_ (l15Put_any _ w.heap.size L (xa,xb) w3 HS3.out hsz3 (by omega))
      clear hc hb3
      go_wp2_with fail
      refine HP.out.mono ?_
      rintro e w4 ⟨v4,rfl,hs4,hb4⟩
      have HS4:=Hd_ hs4
      have HB4:=Hd_ (hbel3.trans (hb4.mono hsz3))
      clear hs4 hb4
      go_wp2_with fail
      go_roundw
      case rel=>exact ⟨i+1,by omega,by go_num,by rw [HM.out];exact HS4.out,HB4.out⟩
      case measure=>simp [intOf];omega
  · obtain rfl:i=a.length:=by omega
    rw [List.take_length] at HSET
    have HO:=Hd_ (show Own w.heap.size wr.heap.size wr 120 cPr 2 _ R from by rw [HR.out];exact HSET.out.own)
    obtain ⟨g,c',rfl,-⟩:=HSET.out
    go_wp2_with fail
    go_ret
    exact ⟨_,rfl,HO.out,hbel⟩
end Go.Proofs.YtjpdembmchnbgaaGreat
namespace Go.Proofs.YtjpdembmchnbgaaGreat
open Go.ChangeShapes Go.WideShapes Go.ChangeAt Go.RowKit
def gapOk (g:Gr) (a:Au):Bool:=(srchA g a 20000 false).isSome && (srchA g a 20000 true).isSome
def gapW (g:Gr) (a:Au):List Pr:=if gapOk g a=true then subL (allL g a) ((srchA g a 20000 false).getD []) else []
def gapT (g:Gr) (a:Au):List Pr:=if gapOk g a=true then subL ((srchA g a 20000 false).getD []) ((srchA g a 20000 true).getD []) else []
/-- two rows of pairs, each in blocks of its own -/
def Two (lo hi:Nat) (w:World) (v0 v1:Value) (l0 l1:List Pr):Prop:=∃ m,lo<=m/\m<=hi/\Own lo m w 120 cPr 2 v0 l0/\Own m hi w 120 cPr 2 v1 l1
end Go.Proofs.YtjpdembmchnbgaaGreat
/-
 DERIVED: THE SHELF's CONTRACTS AT THIS DUMP,IN PLAIN WORDS (tools/lay-plain.mjs out of 'TryzShelfP.lean',which tools/lay-shelf.mjs wrote): THE SAME DECLARATIONS UNDER THE SAME NAMES: 'import','namespace','open','def','theorem' AND NOTHING ELSE: no command of the shelf's: FOR A HAND-IN. Each laying: the table of numbers ('.._ren') and one theorem,a field a fact of the dump's own or the kernel's comparison;each contract: ONE APPLICATION.
-/
namespace Go.Proofs
open Go.Shelf
def Tryz.laysSF_ren:Go.Shelf.Ren:=⟨fun | 6=>167 | 15=>177 | 14=>188 | 28=>202 | 29=>203 | 20=>210 | 21=>211 | 22=>212 | 23=>213 | 24=>214 | 25=>215 | 26=>216 | 27=>217 | 46=>229 | 47=>221 | 48=>222 | 49=>230 | 50=>231 | 57=>235 | n=>n,fun | 22=>52 | 24=>120 | 25=>195 | 3=>3 | 39=>197 | 0=>0 | 53=>215 | 55=>218 | 4=>4 | 46=>223 | 45=>222 | 50=>127 | 5=>5 | 9=>9 | 66=>242 | 70=>246 | 76=>252 | 77=>94 | n=>n,fun | n=>n⟩
theorem Tryz.laysSF:Go.Proofs.SlLaysF0.n6 Tryz.prog Tryz.laysSF_ren:={
 mixed:=by kernel_rfl
 f6:=⟨Tryz.f167.name,by decide,Tryz.func167.trans (congrArg some (by kernel_rfl))⟩
 f14:=⟨Tryz.f188.name,by decide,Tryz.func188.trans (congrArg some (by kernel_rfl))⟩
 f15:=Tryz.func177.trans (congrArg some (by kernel_rfl))
 f20:=⟨Tryz.f210.name,by decide,Tryz.func210.trans (congrArg some (by kernel_rfl))⟩
 f21:=⟨Tryz.f211.name,by decide,Tryz.func211.trans (congrArg some (by kernel_rfl))⟩
 f22:=⟨Tryz.f212.name,by decide,Tryz.func212.trans (congrArg some (by kernel_rfl))⟩
 f23:=⟨Tryz.f213.name,by decide,Tryz.func213.trans (congrArg some (by kernel_rfl))⟩
 f24:=⟨Tryz.f214.name,by decide,Tryz.func214.trans (congrArg some (by kernel_rfl))⟩
 f25:=⟨Tryz.f215.name,by decide,Tryz.func215.trans (congrArg some (by kernel_rfl))⟩
 f26:=⟨Tryz.f216.name,by decide,Tryz.func216.trans (congrArg some (by kernel_rfl))⟩
 f27:=⟨Tryz.f217.name,by decide,Tryz.func217.trans (congrArg some (by kernel_rfl))⟩
 f28:=Tryz.func202.trans (congrArg some (by kernel_rfl))
 f29:=Tryz.func203.trans (congrArg some (by kernel_rfl))
 f46:=⟨Tryz.f229.name,by decide,Tryz.func229.trans (congrArg some (by kernel_rfl))⟩
 f47:=Tryz.func221.trans (congrArg some (by kernel_rfl))
 f48:=Tryz.func222.trans (congrArg some (by kernel_rfl))
 f49:=⟨Tryz.f230.name,by decide,Tryz.func230.trans (congrArg some (by kernel_rfl))⟩
 f50:=⟨Tryz.f231.name,by decide,Tryz.func231.trans (congrArg some (by kernel_rfl))⟩
 f57:=⟨Tryz.f235.name,by decide,Tryz.func235.trans (congrArg some (by kernel_rfl))⟩
 t0:=Tryz.underlying0
 a0:=Tryz.isAgg0
 z0:=Tryz.sizeOf0
 v0:=Tryz.zeroValue0
 t3:=Tryz.underlying3
 a3:=Tryz.isAgg3
 z3:=Tryz.sizeOf3
 v3:=Tryz.zeroValue3
 t4:=Tryz.underlying4
 a4:=Tryz.isAgg4
 z4:=Tryz.sizeOf4
 v4:=Tryz.zeroValue4
 t5:=Tryz.underlying5
 a5:=Tryz.isAgg5
 z5:=Tryz.sizeOf5
 v5:=Tryz.zeroValue5
 t9:=Tryz.underlying9
 a9:=Tryz.isAgg9
 z9:=Tryz.sizeOf9
 v9:=Tryz.zeroValue9
 t22:=Tryz.underlying52
 a22:=Tryz.isAgg52
 z22:=Tryz.sizeOf52
 v22:=Tryz.zeroValue52
 t25:=Tryz.underlying195
 a25:=Tryz.isAgg195
 z25:=Tryz.sizeOf195
 v25:=Tryz.zeroValue195
 t39:=Tryz.underlying197
 a39:=Tryz.isAgg197
 z39:=Tryz.sizeOf197
 v39:=Tryz.zeroValue197
 t45:=Tryz.underlying222
 a45:=Tryz.isAgg222
 z45:=Tryz.sizeOf222
 v45:=Tryz.zeroValue222
 t46:=Tryz.underlying223
 a46:=Tryz.isAgg223
 z46:=Tryz.sizeOf223
 v46:=Tryz.zeroValue223
 t50:=Tryz.underlying127
 a50:=Tryz.isAgg127
 z50:=Tryz.sizeOf127
 v50:=Tryz.zeroValue127
 t53:=Tryz.underlying215
 a53:=Tryz.isAgg215
 z53:=Tryz.sizeOf215
 v53:=Tryz.zeroValue215
 t55:=Tryz.underlying218
 a55:=Tryz.isAgg218
 z55:=Tryz.sizeOf218
 v55:=Tryz.zeroValue218
 t66:=Tryz.underlying242
 a66:=Tryz.isAgg242
 z66:=Tryz.sizeOf242
 v66:=Tryz.zeroValue242
 t70:=Tryz.underlying246
 a70:=Tryz.isAgg246
 z70:=Tryz.sizeOf246
 v70:=Tryz.zeroValue246
 t76:=Tryz.underlying252
 a76:=Tryz.isAgg252
 z76:=Tryz.sizeOf252
 v76:=Tryz.zeroValue252
 t77:=Tryz.underlying94
 a77:=Tryz.isAgg94
 z77:=Tryz.sizeOf94
 v77:=Tryz.zeroValue94 }
end Go.Proofs
namespace Go.Proofs.YtjpdembmchnbgaaGreat
open Go.ChangeShapes Go.WideShapes Go.ChangeAt Go.RowKit Go.Sort
theorem konly_ahead (lo hi:Nat) (w:World) (n:Nat):Only lo hi w (Sort.ahead w n):=⟨rfl,rfl,rfl,Nat.le_refl _,fun _ _ _=>rfl⟩
theorem konly_grow (lo hi:Nat) (w:World) (os:Array Obj):Only lo hi w (grow w os):=⟨rfl,rfl,rfl,by simp [grow],fun n hn _=>by simp [grow,Array.getElem?_append,hn]⟩
theorem konly_put {α:Type} [Inhabited α] (enc:α->Value) (w:World) (g off:Nat) (d:Array α):Only g (g+1) w (putRow enc w g off d) :=
 ⟨rfl,rfl,rfl,by simp [putRow,mapBlock],fun n hn ho=>by simp only [putRow,mapBlock,Array.getElem?_modify];rw [if_neg (by omega)]⟩
theorem row_putF {w:World} {base g n cap k:Nat} {e:TypeId} {cs:List Value} (h:w.ownsRow base e k (.slice (some ⟨g,0,none⟩) n cap) n cs) {F:Array Value} (hF:F.size=n * k) :
 (putRow id w g 0 F).ownsRow base e k (.slice (some ⟨g,0,none⟩) n cap) n F.toList:=by
 obtain ⟨hl,hs⟩:=h
 refine ⟨by simp [hF],?_⟩
 rcases hs with ⟨h1,_⟩ | ⟨g',cap',cur,hv,hg,hh,hnc,hcm,hsz,htk⟩
 · cases h1
 · simp only [Value.slice.injEq,Option.some.injEq,Addr.mk.injEq,and_true,true_and] at hv
   obtain ⟨rfl,rfl⟩:=hv
   have hcs:n * k<=cur.size:=by rw [hsz];exact Nat.mul_le_mul_right k hnc
   refine .inr ⟨g,cap,putCells id 0 F cur,rfl,hg,?_,hnc,hcm,by simp [putCells,hsz],?_⟩
   · simp [putRow,mapBlock,Array.getElem?_modify,hh,onCells]
   · apply List.ext_getElem?
     intro j
     rw [List.getElem?_take]
     by_cases hk:j < n * k
     · rw [if_pos hk]
       have hkc:j < cur.size:=by omega
       have hkd:j < F.size:=by omega
       simp [putCells,hkc,hkd,getElem!_pos]
     · rw [if_neg hk,List.getElem?_eq_none (by simp;omega)]
theorem flatK_list (ds:List Pr):(flatK cPr 2 ds.toArray).toList=ds.flatMap cPr:=by
 apply List.ext_getElem?
 intro t
 by_cases ht:t < ds.length * 2
 · have hi:t / 2 < ds.length:=by omega
   have hx:ds[t / 2]?=some ds[t / 2]:=List.getElem?_eq_getElem hi
   have hj:t % 2 < (cPr ds[t / 2]).length:=by rw [cPr_len];omega
   have h1:=flat_at cPr_len hx (t % 2) _ (List.getElem?_eq_getElem hj)
   rw [show t / 2 * 2+t % 2=t by omega] at h1
   rw [h1,Array.getElem?_toList,Array.getElem?_eq_getElem (by simpa using ht)]
   congr 1
   have h2:=get_flatK cPr 2 ds.toArray t (by simpa using ht)
   rw [getElem!_pos _ _ (by simpa using ht)] at h2
   rw [h2,getElem!_pos ds.toArray _ (by simpa using hi),getElem!_pos _ _ (by simpa using hj)]
   simp
 · rw [List.getElem?_eq_none (by simp;omega),List.getElem?_eq_none]
   have:(ds.flatMap cPr).length=ds.length * 2:=by
    clear ht
    induction ds with
    | nil=>rfl
    | cons d ds ih=>rw [List.flatMap_cons,List.length_append,ih,cPr_len,List.length_cons];omega
   omega
theorem holds_ownK {w:World} {base g n cap:Nat} {e:TypeId} {zs:List Pr} (h:w.ownsRow base e 2 (.slice (some ⟨g,0,none⟩) n cap) n (zs.flatMap cPr)) (hz:zs.length=n):HoldsK cPr 2 w g 0 zs.toArray:=by
 intro j hj
 have hj':j < zs.length * 2:=by simpa using hj
 refine ⟨?_,by rw [Nat.zero_add];exact World.ownsRow.frozenAt h j⟩
 rw [Nat.zero_add,World.ownsRow.cellAt h j (by omega),<- flatK_list,Array.getElem?_toList,Array.getElem?_eq_getElem hj,getElem!_pos _ j hj]
 rfl
end Go.Proofs.YtjpdembmchnbgaaGreat
namespace Go.Proofs.YtjpdembmchnbgaaGreat
open Go.ChangeShapes Go.WideShapes Go.ChangeAt Go.RowKit Go.Sort
attribute [local go_sem] ext_cell ext_frozen ext_lt ext_lt1 ext_lt2 ext_lt3 ltn2 ltn3 ltn13 lts1 lts2 lts3
def cmpI (a b:Int):Int:=if a < b then -1 else if b < a then 1 else 0
def cmpP (p q:Pr):Int:=if p.1=q.1 then cmpI p.2 q.2 else cmpI p.1 q.1
theorem ltOf_cmp (p q:Pr):ltOf cmpP p q=ltP p q:=by
 have h1:=@ltP_iff p q
 rw [Bool.eq_iff_iff,h1,ltOf,decide_eq_true_eq,cmpP]
 unfold cmpI
 split <;> split <;> (try split) <;> omega
theorem swoP:SWO (ltOf cmpP):=by
 refine ⟨fun x=>?_,fun x y z h1 h2=>?_,fun x y z h1 h2=>?_⟩
 · rw [ltOf_cmp,ltP_no];omega
 · rw [ltOf_cmp] at *
   exact ltP_trans h1 h2
 · rw [ltOf_cmp,ltP_no] at *
   omega
theorem alloc2_grow (W:World) (o1 o2:Obj):(W.alloc o1).alloc o2=grow (W.drewN 0) #[o1,o2]:=by
 cases W
 simp only [World.alloc,grow,World.drewN,World.mk.injEq,and_true,true_and]
 simp [<- Array.toList_inj]
theorem compareInts_any (a b:Int) (w:World):Calls Tryz.prog 189 #[.int .i64 a,.int .i64 b] w fun e w'=>e=.returned (.int .i64 (cmpI a b))/\w'=w:=by
 unfold cmpI
 by_cases h1:a < b
 · rw [if_pos h1]
   have k1:decide (a < b)=true:=by simpa using h1
   clear h1
   go_enter Tryz.func189,Tryz.ntmps189
   go_wp2_with fail
   go_ret
   exact ⟨rfl,rfl⟩
 · rw [if_neg h1]
   have k1:decide (a < b)=false:=by simpa using h1
   by_cases h2:b < a
   · rw [if_pos h2]
     have k2:decide (a > b)=true:=by simpa using h2
     clear h1 h2
     go_enter Tryz.func189,Tryz.ntmps189
     go_wp2_with fail
     go_ret
     exact ⟨rfl,rfl⟩
   · rw [if_neg h2]
     have k2:decide (a > b)=false:=by simpa using h2
     clear h1 h2
     go_enter Tryz.func189,Tryz.ntmps189
     go_wp2_with fail
     go_ret
     exact ⟨rfl,rfl⟩
theorem comparePairs_any (p q:Pr) (w:World):Calls Tryz.prog 168 #[.agg #[.int .i64 p.1,.int .i64 p.2],.agg #[.int .i64 q.1,.int .i64 q.2]] w fun e w'=>e=.returned (.int .i64 (cmpP p q)) /\
 w'=(w.alloc (.cells #[.int .i64 p.1,.int .i64 p.2] 120)).alloc (.cells #[.int .i64 q.1,.int .i64 q.2] 120):=by
 obtain ⟨p1,p2⟩:=p
 obtain ⟨q1,q2⟩:=q
 simp only [cmpP]
 have HC:=Hd_ (fun (a b:Int) (W:World)=>compareInts_any a b W)
 by_cases h1:p1=q1
 · rw [if_pos h1]
   have k1:(p1 != q1)=false:=by simpa using h1
   clear h1
   go_enter Tryz.func168,Tryz.ntmps168
   go_wp2_with fail
   refine (HC.out p2 q2 _).mono ?_
   rintro e w1 ⟨rfl,hw⟩
   rw [hw]
   go_wp2_with fail
   go_ret
   exact ⟨rfl,rfl⟩
 · rw [if_neg h1]
   have k1:(p1 != q1)=true:=by simpa using h1
   clear h1
   go_enter Tryz.func168,Tryz.ntmps168
   go_wp2_with fail
   refine (HC.out p1 q1 _).mono ?_
   rintro e w1 ⟨rfl,hw⟩
   rw [hw]
   go_wp2_with fail
   go_ret
   exact ⟨rfl,rfl⟩
/-- slices.SortFunc over pairs: a row of the call's own is put in order -/
theorem sortPairs_any (lo g c:Nat) (xs:List Pr) (w:World) (hrow:w.ownsRow lo 120 2 (.slice (some ⟨g,0,none⟩) xs.length c) xs.length (xs.flatMap cPr)) (hn:xs.length<=2199023255552) :
 Calls Tryz.prog 167 #[.slice (some ⟨g,0,none⟩) xs.length c,.func (.func 168) #[] #[]] w fun e w'=>e=.returned (.tuple #[]) /\
  ∃ ys:List Pr,ys.length=xs.length/\(∀ x,x ∈ ys ↔ x ∈ xs)/\(∀ i j,i < j->j < ys.length->ltP (ys.getD j (0,0)) (ys.getD i (0,0))=false) /\
    w'.ownsRow lo 120 2 (.slice (some ⟨g,0,none⟩) xs.length c) xs.length (ys.flatMap cPr)/\Only g (g+1) w w':=by
 have hlt:=hrow.lt g rfl
 have eg:∀ args w,(callFunc 168 args).run Tryz.prog w=.ok (.enter 168 args) w:=enters_of Tryz.func168 (by kernel_rfl) rfl
 have hcmp:CmpLays Tryz.prog 168 #[] cPr 2 cmpP g 0 xs.toArray.size w:=fun m os dk _ x y=>by
  refine (comparePairs_any x y _).mono ?_
  rintro e w' ⟨rfl,rfl⟩
  exact ⟨rfl,0,_,alloc2_grow _ _ _⟩
 have h:=AnyQ.slices_SortFunc Tryz.laysSF 2 Tryz.isAgg120 Tryz.sizeOf120 cPr cPr_len cPr_one cmpP swoP 168 #[] g 0 c xs.toArray w eg hcmp (holds_ownK hrow rfl) hlt.2 (by simp;omega)
 have h':Calls Tryz.prog 167 #[.slice (some ⟨g,0,none⟩) xs.length c,.func (.func 168) #[] #[]] w _:=h
 refine h'.mono ?_
 rintro e w' ⟨rfl,d',n,os,hperm,hsort,rfl⟩
 obtain ⟨hsz,-,hpm⟩:=hperm
 have hsz':d'.toList.length=xs.length:=by simpa using hsz
 refine ⟨rfl,d'.toList,hsz',fun x=>?_,fun i j hij hj=>?_,?_,?_⟩
 · have h1:=hpm.mem_iff (a:=x)
   have e1:(d'.extract 0 xs.toArray.size).toList=d'.toList:=by rw [show xs.toArray.size=d'.size from hsz.symm];simp
   have e2:(xs.toArray.extract 0 xs.toArray.size).toList=xs:=by simp
   rw [e1,e2] at h1
   exact h1
 · have hj':j < xs.length:=by omega
   have h1:=hsort i j (Nat.zero_le _) hij (by simpa using hj')
   rw [ltOf_cmp] at h1
   have gd:∀ k,k < xs.length->d'.toList.getD k (0,0)=d'[k]! := fun k hk=>by
    have hk':k < d'.size:=by rw [hsz];simpa using hk
    rw [getElem!_pos d' k hk',List.getD_eq_getElem?_getD,Array.getElem?_toList,Array.getElem?_eq_getElem hk'];rfl
   rw [gd j hj',gd i (by omega)]
   exact h1
 · have h2:(Sort.ahead w n).ownsRow lo 120 2 (.slice (some ⟨g,0,none⟩) xs.length c) xs.length (xs.flatMap cPr):=hrow
   have h3:=row_putF h2 (F:=flatK cPr 2 d') (by rw [size_flatK,hsz];simp)
   have h4:(flatK cPr 2 d').toList=d'.toList.flatMap cPr:=by
    have:=flatK_list d'.toList
    simpa using this
   rw [h4] at h3
   exact ownsRow_block h3 fun b hb=>(konly_grow 0 0 (putRowK cPr 2 (Sort.ahead w n) g 0 d') os).block b (h3.lt b hb).2 (.inr (Nat.zero_le _))
 · exact ((konly_ahead g (g+1) w n).trans (konly_put id _ g 0 (flatK cPr 2 d'))).trans (konly_grow g (g+1) _ os)
theorem neqlPr (a b c d:Int) (w:World):(binOp .neq 120 (.agg #[.int .i64 a,.int .i64 b]) (.agg #[.int .i64 c,.int .i64 d])).run Tryz.prog w=.ok (.bool (!decide ((a,b)=(c,d)))) w:=by
 rw [run_neq_struct,eqPr]
 by_cases h1:a=c <;> by_cases h2:b=d <;> simp [h1,h2]
attribute [local go_sem] guardPr
theorem clear_pairs (w:World) (ty:TypeId) (g o n c:Nat) (hn:0 < n) (hc:∀ j,j < n * 2->(w.cell? ⟨g,o+j,none⟩).isSome=true) (hf:∀ j,j < n * 2->w.frozen? ⟨g,o+j,none⟩=false) :
 (Builtin.clear_ #[52] ty #[.slice (some ⟨g,o,none⟩) n c]).run Tryz.prog w=.ok (.tuple #[]) (w.setCells g o (Builtin.zeroCells #[.int .i64 0,.int .i64 0] n).toList):=by
 have hl:(Builtin.zeroCells #[Value.int .i64 0,Value.int .i64 0] n).toList.length=n * 2:=by simp [Builtin.zeroCells]
 have h1:∀ v ∈ (Builtin.zeroCells #[Value.int .i64 0,Value.int .i64 0] n).toList,v.oneCell'=true:=by
  intro v hv
  simp only [Builtin.zeroCells,Array.toList_map,List.mem_map,Array.mem_toList_iff,Array.mem_range] at hv
  obtain ⟨i,_,rfl⟩:=hv
  have:i % 2=0 ∨ i % 2=1:=by omega
  rcases this with h | h <;> simp [h] <;> rfl
 have hst:=run_storeCells_cells (P:=Tryz.prog) g o (Builtin.zeroCells #[Value.int .i64 0,Value.int .i64 0] n).toList 0 w (by simpa [hl] using hc) (by simpa [hl] using hf) h1
 simp only [Nat.add_zero] at hst
 obtain ⟨m,rfl⟩:∃ m,n=m+1:=⟨n - 1,by omega⟩
 have hz:∀ w,(zeroValue 120).run Tryz.prog w=.ok (.agg #[.int .i64 0,.int .i64 0]) w:=Tryz.zeroValue120
 have hzc:(Value.agg #[Value.int .i64 0,Value.int .i64 0]).cells=#[.int .i64 0,.int .i64 0]:=rfl
 simp [Builtin.clear_,run_underlying Tryz.underlying52,hz,hzc,hst]
theorem setCells_ownP {base k g n cap:Nat} {e:TypeId}:∀ (zs:List Value) (o:Nat) (cs:List Value) (W:World),W.ownsRow base e k (.slice (some ⟨g,0,none⟩) n cap) n cs ->
 ∃ cs',(W.setCells g o zs).ownsRow base e k (.slice (some ⟨g,0,none⟩) n cap) n cs'/\cs'.take o=cs.take o/\Only g (g+1) W (W.setCells g o zs)
 | [],o,cs,W,h=>⟨cs,h,rfl,Only.refl _ _ _⟩
 | z :: zs,o,cs,W,h=>by
   have h1:=(World.ownsRow.stored h o z).1
   obtain ⟨cs',h2,h3,h4⟩:=setCells_ownP zs (o+1) _ _ h1
   refine ⟨cs',h2,?_,((Only.refl g (g+1) W).setCell (p:=⟨g,o,none⟩) (.inl ⟨Nat.le_refl _,Nat.lt_succ_self _⟩) z).trans h4⟩
   have h5:cs'.take o=(cs'.take (o+1)).take o:=by rw [List.take_take];congr 1;omega
   rw [h5,h3,List.take_take,Nat.min_eq_left (Nat.le_succ o),List.take_set,List.set_eq_of_length_le (by rw [List.length_take];omega)]
theorem flatP_len (xs:List Pr):(xs.flatMap cPr).length=xs.length * 2:=by
 induction xs with
 | nil=>rfl
 | cons x xs ih=>rw [List.flatMap_cons,List.length_append,ih,cPr_len,List.length_cons];omega
theorem flatP_at {xs:List Pr} {i:Nat} {x:Pr} (h:xs[i]?=some x):(xs.flatMap cPr)[i * 2]?=some (.int .i64 x.1)/\(xs.flatMap cPr)[i * 2+1]?=some (.int .i64 x.2) :=
 ⟨flat_at cPr_len h 0 _ rfl,flat_at cPr_len h 1 _ rfl⟩
theorem flatP_set:∀ (xs:List Pr) (i:Nat) (x:Pr),i < xs.length->((xs.flatMap cPr).set (i * 2) (.int .i64 x.1)).set (i * 2+1) (.int .i64 x.2)=(xs.set i x).flatMap cPr
 | [],_,_,h=>absurd h (Nat.not_lt_zero _)
 | y :: ys,0,x,_=>by simp [cPr]
 | y :: ys,i+1,x,h=>by
   have ih:=flatP_set ys i x (by simpa using h)
   simp only [List.flatMap_cons,cPr,List.cons_append,List.nil_append,List.set_cons_succ,Nat.succ_mul]
   rw [<- ih]
theorem flatP_take (xs:List Pr):∀ k,(xs.flatMap cPr).take (k * 2)=(xs.take k).flatMap cPr:=by
 induction xs with
 | nil=>intro k;simp
 | cons a l ih =>
   intro k
   cases k with
   | zero=>simp
   | succ k=>rw [Nat.succ_mul];simp only [List.flatMap_cons,List.take_succ_cons,cPr,List.cons_append,List.nil_append];rw [ih]
theorem compTo_take {xs:List Pr} {k:Nat} (hk:k<=xs.length) (h:∀ j,j < k->keepP xs j=true):compTo xs k=xs.take k:=by
 induction k with
 | zero=>simp [compTo]
 | succ k ih =>
   have hx:xs[k]?=some (xs.getD k (0,0)):=by rw [List.getD_eq_getElem?_getD,List.getElem?_eq_getElem (by omega)];rfl
   rw [compTo_yes (h k (by omega)),ih (by omega) (fun j hj=>h j (by omega)),take_snoc hx]
theorem getP {xs:List Pr} {i:Nat} (h:i < xs.length):xs[i]?=some (xs.getD i (0,0)):=by rw [List.getD_eq_getElem?_getD,List.getElem?_eq_getElem h];rfl
theorem keepP_pos {xs:List Pr} {i:Nat} (h:0 < i):keepP xs i=!decide (xs.getD i (0,0)=xs.getD (i - 1) (0,0)):=by
 have h6:(i==0)=false:=by simp;omega
 rw [keepP,h6,Bool.false_or,bne]
 congr 1
 rw [Bool.eq_iff_iff,beq_iff_eq,decide_eq_true_eq]
set_option maxHeartbeats 4000000 in
set_option maxRecDepth 100000 in
theorem compactP_any (lo g c:Nat) (xs:List Pr) (w:World) (hrow:w.ownsRow lo 120 2 (.slice (some ⟨g,0,none⟩) xs.length c) xs.length (xs.flatMap cPr)) (hn:xs.length<=2199023255552) :
 Calls Tryz.prog 169 #[.slice (some ⟨g,0,none⟩) xs.length c] w fun e w'=>∃ m,e=.returned (.slice (some ⟨g,0,none⟩) m c) /\
  w'.ownsRow lo 120 2 (.slice (some ⟨g,0,none⟩) m c) (compTo xs xs.length).length ((compTo xs xs.length).flatMap cPr)/\Only g (g+1) w w':=by
 obtain ⟨hg1,hg2⟩:=hrow.lt g rfl
 obtain ⟨hlc,hcm⟩:=row_cap hrow
 obtain ⟨R,hR⟩:∃ R,R=compTo xs xs.length:=⟨_,rfl⟩
 rw [<- hR]
 have HR:=Hd_ hR
 have HROW:=Hd_ hrow
 clear hR hrow
 obtain ⟨N,hN⟩:∃ N,N=xs.length:=⟨_,rfl⟩
 rw [<- hN] at hn hlc HROW HR ⊢
 have HN:=Hd_ hN
 clear hN
 by_cases h2:N < 2
 · have hfin:R=xs:=by
    rw [HR.out,compTo_take (by have:=HN.out;omega) (fun j hj=>by obtain rfl:j=0:=(by omega);rfl),HN.out,List.take_length]
   have HF:=Hd_ hfin
   have hnz:(N:Int) < 2:=by omega
   clear hfin
   go_enter Tryz.func169,Tryz.ntmps169
   go_wp2_with fail
   go_ret
   exact ⟨_,rfl,by rw [HF.out,<- HN.out];exact HROW.out,Only.refl _ _ _⟩
 · have hnz:¬ (N:Int) < 2:=by omega
   go_enter Tryz.func169,Tryz.ntmps169
   go_wp2_with fail
   go_loopw [3] (fun ii wr=>∃ (i:Nat) (u:World),1<=i/\i<=N/\ii=.int .i64 (i:Int)/\(∀ j,j < i->keepP xs j=true)/\wr=ext w u) (fun ii _=>N - (intOf ii).toNat)
   case atStart=>exact ⟨1,w,Nat.le_refl _,by omega,rfl,(fun j hj=>by obtain rfl:j=0:=(by omega);rfl),ext_self w⟩
   case round =>
    obtain ⟨i0,u,h1,hi,rfl,hkp,rfl⟩:=hrel
    have HKP:=Hd_ hkp
    clear hkp
    by_cases hlt:i0 < N
    · have hxi:=getP (xs:=xs) (i:=i0) (by have:=HN.out;omega)
      have hxj:=getP (xs:=xs) (i:=i0 - 1) (by have:=HN.out;omega)
      have hk0:=keepP_pos (xs:=xs) h1
      obtain ⟨i1,rfl⟩:∃ i1,i0=i1+1:=⟨i0 - 1,by omega⟩
      simp only [Nat.add_sub_cancel] at hxj hk0
      have HROWu:=Hd_ (ownsRow_below HROW.out (ext_below w u) (Nat.le_refl _))
      obtain ⟨a0,a1⟩:=flatP_at hxi
      obtain ⟨b0,b1⟩:=flatP_at hxj
      have d0:=(World.ownsRow.cellAt HROW.out ((i1+1) * 2) (by omega)).trans a0
      have d1:=(World.ownsRow.cellAt HROW.out ((i1+1) * 2+1) (by omega)).trans a1
      have f0:=(World.ownsRow.cellAt HROW.out (i1 * 2) (by omega)).trans b0
      have f1:=(World.ownsRow.cellAt HROW.out (i1 * 2+1) (by omega)).trans b1
      have HXI:=Hd_ hxi
      have HXJ:=Hd_ hxj
      have HK0:=Hd_ hk0
      clear a0 a1 b0 b1 hxi hxj hk0
      generalize hx:xs.getD (i1+1) (0,0)=x at *
      generalize hy:xs.getD i1 (0,0)=y at *
      obtain ⟨xa,xb⟩:=x
      obtain ⟨ya,yb⟩:=y
      simp only at d0 d1 f0 f1
      have q1:IntKind.i64.wrap (((i1+1:Nat):Int) - 1)=(i1:Int):=by rw [IntWalk.i64_in _ (by omega)];omega
      have hii:((i1+1:Nat):Int) < (N:Int):=by omega
      have hjj:(i1:Int) < (N:Int):=by omega
      have HEQ:=Hd_ (fun (w:World)=>eqlPr xa xb ya yb w)
      obtain ⟨bb,hb2⟩:∃ bb,bb=decide ((xa,xb)=(ya,yb)):=⟨_,rfl⟩
      rw [<- hb2] at HEQ HK0
      have heq:=HEQ.out
      clear hb2 hx hy
      go_wp2_with fail
      refine wp_region_ext_lit (by kernel_rfl) (by kernel_rfl) ?_
      repeat (go_big_quiet_step (fail))
      refine wpQuiet_nil ?_
      rintro _ ⟨u2,rfl⟩
      obtain ⟨u4,hu4⟩:=ext_ext w u u2
      rw [hu4]
      have HU4:=Hd_ hu4
      clear hu4 heq HEQ
      cases bb with
      | false =>
        go_wp2_with fail
        go_roundw
        case rel =>
         refine ⟨i1+1+1,u4,by omega,by omega,by go_num,fun j hj=>?_,rfl⟩
         rcases Nat.lt_or_ge j (i1+1) with h | h
         · exact HKP.out j h
         · obtain rfl:j=i1+1:=by omega
           exact HK0.out
        case measure=>simp [intOf];omega
      | true =>
        have HST:=Hd_ (show xs.take (i1+1)=compTo xs (i1+1+1) by rw [compTo_no HK0.out,compTo_take (by have:=HN.out;omega) HKP.out])
        have hci:¬ c=i1+1:=by omega
        have HROW1:=Hd_ (ownsRow_below HROW.out (ext_below w u4) (Nat.le_refl _))
        have HON1:=Hd_ (Only.of_below (ext_below w u4) g (g+1))
        have hic:((i1+1:Nat):Int)<=(N:Int):=by omega
        generalize ext w u4=W1 at *
        clear HK0 HXI HXJ HKP HROWu d0 d1 f0 f1 q1
        go_wp2_with fail
        go_loopw [3,5] (fun ii kk wr=>∃ (i k:Nat) (L:List Pr),1<=k/\k<=N - (i1+1)/\i<=i1+k/\ii=.int .i64 (i:Int)/\kk=.int .i64 (k:Int)/\L.length=N/\L.take i=compTo xs (i1+1+k)/\L.drop (i1+k)=xs.drop (i1+k) /\
         wr.ownsRow lo 120 2 (.slice (some ⟨g,0,none⟩) N c) N (L.flatMap cPr)/\Only g (g+1) w wr) (fun _ kk _=>N - (i1+1) - (intOf kk).toNat)
        case atStart=>exact ⟨i1+1,1,xs,Nat.le_refl _,by omega,Nat.le_refl _,rfl,rfl,HN.out.symm,HST.out,rfl,HROW1.out,HON1.out⟩
        case round =>
         clear HROW1 HON1 HST
         obtain ⟨i,k,L,hk1,hkN,hik,rfl,rfl,hLn,hLt,hLd,hrow,hon⟩:=hrel
         have HLN:=Hd_ hLn
         have HLT:=Hd_ hLt
         have HLD:=Hd_ hLd
         have HROW:=Hd_ hrow
         have HON:=Hd_ hon
         have hsz:=hon.size
         clear hLn hLt hLd hrow hon
         obtain ⟨k1,rfl⟩:∃ k1,k=k1+1:=⟨k - 1,by omega⟩
         by_cases hlk:k1+1 < N - (i1+1)
         · have hxi:=getP (xs:=xs) (i:=i1+1+(k1+1)) (by have:=HN.out;omega)
           have hxj:=getP (xs:=xs) (i:=i1+1+k1) (by have:=HN.out;omega)
           have hk0:=keepP_pos (xs:=xs) (i:=i1+1+(k1+1)) (by omega)
           rw [show i1+1+(k1+1) - 1=i1+1+k1 by omega] at hk0
           have hLi:L[i1+1+(k1+1)]?=some (xs.getD (i1+1+(k1+1)) (0,0)):=by
            have h:=congrArg (fun l=>l[1]?) HLD.out
            simp only [List.getElem?_drop] at h
            rw [show i1+(k1+1)+1=i1+1+(k1+1) by omega] at h
            rw [h,hxi]
           have hLj:L[i1+1+k1]?=some (xs.getD (i1+1+k1) (0,0)):=by
            have h:=congrArg (fun l=>l[0]?) HLD.out
            simp only [List.getElem?_drop] at h
            rw [show i1+(k1+1)+0=i1+1+k1 by omega] at h
            rw [h,hxj]
           have hLo:=getP (xs:=L) (i:=i) (by have:=HLN.out;omega)
           obtain ⟨a0,a1⟩:=flatP_at hLi
           obtain ⟨b0,b1⟩:=flatP_at hLj
           obtain ⟨g0,g1⟩:=flatP_at hLo
           have d0:=(World.ownsRow.cellAt HROW.out ((i1+1+(k1+1)) * 2) (by omega)).trans a0
           have d1:=(World.ownsRow.cellAt HROW.out ((i1+1+(k1+1)) * 2+1) (by omega)).trans a1
           have f0:=(World.ownsRow.cellAt HROW.out ((i1+1+k1) * 2) (by omega)).trans b0
           have f1:=(World.ownsRow.cellAt HROW.out ((i1+1+k1) * 2+1) (by omega)).trans b1
           rw [show (i1+1+(k1+1)) * 2=(i1+1) * 2+(k1+1) * 2 by omega] at d0 d1
           rw [show (i1+1+k1) * 2=(i1+1) * 2+k1 * 2 by omega] at f0 f1
           have hgw:g < wr.heap.size:=by omega
           have HK0:=Hd_ hk0
           have HXI:=Hd_ (show ∀ h:keepP xs (i1+1+(k1+1))=true,compTo xs (i1+1+(k1+1)+1)=compTo xs (i1+1+(k1+1)) ++ [xs.getD (i1+1+(k1+1)) (0,0)] from fun h=>compTo_yes h)
           have HXJ:=Hd_ (show ∀ h:keepP xs (i1+1+(k1+1))=false,compTo xs (i1+1+(k1+1)+1)=compTo xs (i1+1+(k1+1)) from fun h=>compTo_no h)
           have HG0:=Hd_ g0
           have HG1:=Hd_ g1
           clear a0 a1 b0 b1 hxi hxj hk0 hLi hLj hLo g0 g1
           generalize hx:xs.getD (i1+1+(k1+1)) (0,0)=x at *
           generalize hy:xs.getD (i1+1+k1) (0,0)=y at *
           generalize L.getD i (0,0)=old at *
           clear hx hy
           obtain ⟨xa,xb⟩:=x
           obtain ⟨ya,yb⟩:=y
           simp only at d0 d1 f0 f1
           have q1:IntKind.i64.wrap (((k1+1:Nat):Int) - 1)=(k1:Int):=by rw [IntWalk.i64_in _ (by omega)];omega
           have hii:((k1+1:Nat):Int) < ((N - (i1+1):Nat):Int):=by omega
           have hjj:(k1:Int) < ((N - (i1+1):Nat):Int):=by omega
           have hiN:(i:Int) < (N:Int):=by omega
           have HEQ:=Hd_ (fun (w:World)=>neqlPr xa xb ya yb w)
           obtain ⟨bb,hb2⟩:∃ bb,bb=!decide ((xa,xb)=(ya,yb)):=⟨_,rfl⟩
           rw [<- hb2] at HEQ HK0
           have heq:=HEQ.out
           clear hb2
           go_wp2_with fail
           refine wp_region_ext_lit (by kernel_rfl) (by kernel_rfl) ?_
           repeat (go_big_quiet_step (fail))
           refine wpQuiet_nil ?_
           rintro _ ⟨u2,rfl⟩
           have hbu:=ext_below wr u2
           have HROWx:=Hd_ (ownsRow_below HROW.out hbu (Nat.le_refl _))
           have HONx:=Hd_ (HON.out.trans (Only.of_below hbu g (g+1)))
           have d0:=kcell hbu d0
           have d1:=kcell hbu d1
           have hgx:=Nat.lt_of_lt_of_le hgw hbu.size
           generalize ext wr u2=wx at *
           clear heq HEQ f0 f1 hbu
           cases bb with
           | true =>
             have ci0:=(World.ownsRow.cellAt HROWx.out (i * 2) (by omega)).trans HG0.out
             have ci1:=(World.ownsRow.cellAt HROWx.out (i * 2+1) (by omega)).trans HG1.out
             have fi0:=World.ownsRow.frozenAt HROWx.out (i * 2)
             have fi1:=World.ownsRow.frozenAt HROWx.out (i * 2+1)
             have hrow3:=(World.ownsRow.stored (World.ownsRow.stored HROWx.out (i * 2) (.int .i64 xa)).1 (i * 2+1) (.int .i64 xb)).1
             rw [flatP_set L i (xa,xb) (by have:=HLN.out;omega)] at hrow3
             have hon3:=(HONx.out.setCell (p:=⟨g,i * 2,none⟩) (.inl ⟨Nat.le_refl _,Nat.lt_succ_self _⟩) (.int .i64 xa)).setCell (p:=⟨g,i * 2+1,none⟩) (.inl ⟨Nat.le_refl _,Nat.lt_succ_self _⟩) (.int .i64 xb)
             have HROW3:=Hd_ hrow3
             have HON3:=Hd_ hon3
             have HL3:=Hd_ (show (L.set i (xa,xb)).length=N by rw [List.length_set];exact HLN.out)
             have HT3:=Hd_ (show (L.set i (xa,xb)).take (i+1)=compTo xs (i1+1+(k1+1+1)) by
              have h1:(L.set i (xa,xb))[i]?=some (xa,xb):=List.getElem?_set_self (by have:=HLN.out;omega)
              rw [take_snoc h1,List.take_set,List.set_eq_of_length_le (by rw [List.length_take];omega),HLT.out,show i1+1+(k1+1+1)=i1+1+(k1+1)+1 by omega,HXI.out HK0.out])
             have HD3:=Hd_ (show (L.set i (xa,xb)).drop (i1+(k1+1+1))=xs.drop (i1+(k1+1+1)) by
              rw [List.drop_set_of_lt (by omega),<- Nat.add_assoc,<- List.drop_drop,HLD.out,List.drop_drop])
             clear hrow3 hon3
             go_wp2_with fail
             go_roundw
             case rel=>exact ⟨i+1,k1+1+1,L.set i (xa,xb),by omega,by omega,by omega,by go_num,by go_num,HL3.out,HT3.out,HD3.out,HROW3.out,HON3.out⟩
             case measure=>simp [intOf];omega
           | false =>
             have HT3:=Hd_ (show L.take i=compTo xs (i1+1+(k1+1+1)) by rw [HLT.out,show i1+1+(k1+1+1)=i1+1+(k1+1)+1 by omega,HXJ.out HK0.out])
             have HD3:=Hd_ (show L.drop (i1+(k1+1+1))=xs.drop (i1+(k1+1+1)) by
              rw [<- Nat.add_assoc,<- List.drop_drop,HLD.out,List.drop_drop])
             go_wp2_with fail
             go_roundw
             case rel=>exact ⟨i,k1+1+1,L,by omega,by omega,by omega,rfl,by go_num,HLN.out,HT3.out,HD3.out,HROWx.out,HONx.out⟩
             case measure=>simp [intOf];omega
         · have hkk:k1+1=N - (i1+1):=by omega
           have hlz:¬ ((k1+1:Nat):Int) < ((N - (i1+1):Nat):Int):=by omega
           have hci2:¬ c=i:=by omega
           have hcl:∀ ty,(Builtin.clear_ #[52] ty #[.slice (some ⟨g,i * 2,none⟩) (N - i) (c - i)]).run Tryz.prog wr=.ok (.tuple #[]) (wr.setCells g (i * 2) (Builtin.zeroCells #[.int .i64 0,.int .i64 0] (N - i)).toList) :=
            fun ty=>clear_pairs wr ty g (i * 2) (N - i) (c - i) (by omega) (fun t ht=>by
             rw [World.ownsRow.cellAt HROW.out (i * 2+t) (by omega),List.getElem?_eq_getElem (by rw [flatP_len];have:=HLN.out;omega)];rfl) (fun t ht=>World.ownsRow.frozenAt HROW.out (i * 2+t))
           obtain ⟨cs',h1,h2,h3⟩:=setCells_ownP (Builtin.zeroCells #[.int .i64 0,.int .i64 0] (N - i)).toList (i * 2) _ _ HROW.out
           have h4:=ownsRow_take h1 (show i<=N by omega)
           have hfin:R=L.take i:=by rw [HR.out,HLT.out];congr 1;omega
           rw [h2,flatP_take,<- hfin] at h4
           have hRl:R.length=i:=by rw [hfin,List.length_take];have:=HLN.out;omega
           have HOWN:=Hd_ h4
           have HRL:=Hd_ hRl
           have HON2:=Hd_ (HON.out.trans h3)
           have hcz:(i:Int)<=(N:Int):=by omega
           have hcz2:(i:Int)<=(c:Int):=by omega
           clear h1 h2 h3 h4 hfin hRl hkk
           go_wp2_with fail
           go_ret
           exact ⟨_,rfl,by rw [HRL.out];exact HOWN.out,HON2.out⟩
    · obtain rfl:i0=N:=by omega
      have hfin:R=xs:=by rw [HR.out,compTo_take (by have:=HN.out;omega) HKP.out,HN.out,List.take_length]
      have HF:=Hd_ hfin
      have HROWu:=Hd_ (ownsRow_below HROW.out (ext_below w u) (Nat.le_refl _))
      clear hfin
      go_wp2_with fail
      go_ret
      exact ⟨_,rfl,by rw [HF.out,<- HN.out];exact HROWu.out,Only.of_below (ext_below w u) _ _⟩
end Go.Proofs.YtjpdembmchnbgaaGreat
namespace Go.Proofs.YtjpdembmchnbgaaGreat
open Go.ChangeShapes Go.WideShapes Go.ChangeAt Go.RowKit
attribute [local go_sem] ext_cell ext_frozen ext_lt ext_lt1 ext_lt2 ext_lt3 ltn2 ltn3 ltn13 lts1 lts2 lts3
theorem own_blk {W:World} {base k n:Nat} {e:TypeId} {v:Value} {cs:List Value} (h:W.ownsRow base e k v n cs) {b:Nat} (hb:v.ownBlock=some b):∃ c,v=.slice (some ⟨b,0,none⟩) n c:=by
 obtain ⟨_,hs⟩:=h
 rcases hs with ⟨rfl,_⟩ | ⟨g,cap,cur,rfl,_⟩
 · cases hb
 · injection hb with hb
   subst hb
   exact ⟨cap,rfl⟩
set_option maxHeartbeats 2000000 in
theorem pairSet_any (v:Value) (xs:List Pr) (w:World) (hv:SlE w cPr 2 v xs) (hn:xs.length<=1099511627776) :
 Calls Tryz.prog 140 #[v] w fun e w'=>∃ v',e=.returned v'/\Own w.heap.size w'.heap.size w' 120 cPr 2 v' (psetL xs)/\Below w.heap.size w w':=by
 have hv0:=hv
 obtain ⟨A,c,rfl,hl,hm,-⟩:=hv
 unfold maxLen at hm
 have hba:Below w.heap.size w (w.alloc (.cells #[] 120)):=(Below.refl _ _).alloc (Nat.le_refl _) _
 have hv1:=SlE.keep hv0 hba
 have hrow:=World.ownsRow_lit (base:=w.heap.size) (e:=120) (size:=2) w #[] 0 (Nat.le_refl _) (by decide) rfl
 obtain ⟨R,hR⟩:∃ R,R=psetL xs:=⟨_,rfl⟩
 rw [<- hR]
 have HRS:=Hd_ hR
 have HV:=Hd_ hv1
 have HR:=Hd_ hrow
 have HBA:=Hd_ hba
 clear hv0 hv1 hrow hR hba
 go_enter Tryz.func140,Tryz.ntmps140
 go_wp2_with (at_builtin;(refine wpList_appendL cPr elPair cPr_len cPr_one rfl _ _ rfl w.heap.size _ [] xs (by rfl) HR.out 0 _ _ (by rfl) HV.out (by simp;omega) (by omega) (by simp) ?_);intro v' w4 hrow' hgr4 hat4)
 simp only [List.nil_append] at hrow'
 have hb4:=HBA.out.trans (own_below HR.out (by simp) hgr4)
 have hob:∃ b,v'.ownBlock=some b:=by
  rcases hat4 with h | h
  · exact ⟨w.heap.size,h⟩
  · exact ⟨_,h⟩
 obtain ⟨g,hob⟩:=hob
 obtain ⟨c',rfl⟩:=own_blk hrow' hob
 have HS:=Hd_ (sortPairs_any w.heap.size g c' xs w4 hrow' (by omega))
 have HB4:=Hd_ hb4
 have hg1:=(hrow'.lt g rfl).1
 have hg2:=(hrow'.lt g rfl).2
 clear hrow' hgr4 hat4 hob hb4
 refine HS.out.mono ?_
 rintro e w5 ⟨rfl,ys,hyl,hym,hys,hrow5,hon5⟩
 have hset:=compTo_set hys hym
 rw [<- HRS.out] at hset
 rw [<- hyl] at hrow5
 have HC:=Hd_ (compactP_any w.heap.size g c' ys w5 hrow5 (by omega))
 rw [hset] at HC
 have HB5:=Hd_ (HB4.out.trans (hon5.below (B:=w.heap.size) hg1 (by omega)))
 have hs5:=hon5.size
 rw [<- hyl]
 clear hset hrow5 hon5 hys hym hyl HS
 go_wp2_with fail
 refine HC.out.mono ?_
 rintro e w6 ⟨m,rfl,hrow6,hon6⟩
 have HO:=Hd_ (Own.of_row (xs:=R) hrow6 rfl rfl)
 have HB6:=Hd_ (HB5.out.trans (hon6.below (B:=w.heap.size) hg1 (by omega)))
 clear hrow6 hon6
 go_wp2_with fail
 go_ret
 exact ⟨_,rfl,HO.out,HB6.out⟩
end Go.Proofs.YtjpdembmchnbgaaGreat
