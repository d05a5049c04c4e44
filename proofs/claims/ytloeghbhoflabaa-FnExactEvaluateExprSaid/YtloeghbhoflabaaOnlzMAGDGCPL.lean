/- Parts of the proof, joined into one text: PutS, PairI, RelS, AreP. -/
import Derived.Laws.StructEq
import Derived.Test.YtloeghbhoflabaaOnlzKDDNPOOL
import Derived.Test.YtloeghbhoflabaaOnlzGFOHOABB
import Derived.Test.YtloeghbhoflabaaOnlzAHMCLFHH
import Derived.Lib.SliceRun
set_option linter.unusedVariables false
set_option linter.unusedSimpArgs false
namespace Go.Proofs.Ytloeghbhoflabaa
open Go.ChangeShapes Go.WideShapes Go.ChangeAt Go.RowKit
attribute [local go_sem] ext_cell ext_frozen ext_lt ext_lt1 ext_lt2 ext_lt3 ltn2 ltn3 ltn13 lts1 lts2 lts3
section
variable {P:Program} {w:World}
/-- append of a whole list: as an operation by itself -/
theorem op_appendL {α:Type} (E:α->List Value) {o:Oper} {a:Act} {K:Act->World->Prop} {Q:Exit->Act->World->Prop} {t e:TypeId} {z:Value} {k bytes:Nat} (el:ElemOk P t e z k bytes) (hE:∀ x,(E x).length=k) (h1:∀ x,∀ u ∈ E x,u.oneCell'=true)
 (s y:Operand) (ho:o.op=.call { callee:=.builtin .append,args:=#[s,y],argTypes:=#[t,t] })
 (base:Nat) (v:Value) (xs ys:List α) (hs:a.eval s=v) (hown:w.ownsRow base e k v xs.length (xs.flatMap E)) (lo hi:Nat) (yv:Value) (hyv:a.eval y=yv) (hy:SlI lo hi w E k yv ys) (hbytes:(xs.length+ys.length) * bytes<=140737488355328) (hb0:0 < bytes) (hbase:base<=w.heap.size)
 (h:∀ v' w',w'.ownsRow base e k v' (xs ++ ys).length ((xs ++ ys).flatMap E)->w.grownBy w' v.ownBlock->(v'.ownBlock=v.ownBlock ∨ v'.ownBlock=some w.heap.size)->K (a.put o.dst v') w'):Oper.wp P o a w K Q:=by
 obtain ⟨v',w',hr,h2,h3,h5⟩:=run_appendL E el hE h1 base v xs ys hown lo hi yv hy hbytes hb0 hbase o.type
 unfold Oper.wp execOp
 simp only [ho,resolve,invoke,builtin,Sem.run_bind,Sem.run_pure,Result.andThen_ok,List.map_toArray,List.map_cons,List.map_nil,hs,hyv,hr]
 exact h v' w' h2 h3 h5
end
theorem SlI.takeP {α:Type} {lo hi:Nat} {w:World} {E:α->List Value} {k b o n c:Nat} {xs:List α} (h:SlI lo hi w E k (.slice (some ⟨b,o,none⟩) n c) xs) {m:Nat} (hm:m<=xs.length):SlI lo hi w E k (.slice (some ⟨b,o,none⟩) m c) (xs.take m):=by
 obtain ⟨A',c',hv,hl,hc,hx⟩:=h
 injection hv with h1 h2 h3
 subst h1 h3
 have hlt:(xs.take m).length=m:=by rw [List.length_take];omega
 refine ⟨_,c,by rw [hlt],by omega,hc,fun j x hj=>hx j x ?_⟩
 rw [List.getElem?_take] at hj
 split at hj
 · exact hj
 · cases hj
theorem SlI.dropP {α:Type} {lo hi:Nat} {w:World} {E:α->List Value} {k b o n c:Nat} {xs:List α} (h:SlI lo hi w E k (.slice (some ⟨b,o,none⟩) n c) xs) {m:Nat} (hm:m<=xs.length):SlI lo hi w E k (.slice (some ⟨b,o+m * k,none⟩) (n - m) (c - m)) (xs.drop m):=by
 obtain ⟨A',c',hv,hl,hc,hx⟩:=h
 injection hv with h1 h2 h3
 subst h1 h2 h3
 have hlt:(xs.drop m).length=xs.length - m:=by rw [List.length_drop]
 refine ⟨_,c - m,by rw [hlt],by omega,by omega,fun j x hj=>?_⟩
 rw [List.getElem?_drop] at hj
 obtain ⟨b',o',hA,h1,h2,h3⟩:=hx (m+j) x hj
 injection hA with hA
 injection hA with e1 e2
 subst e1 e2
 refine ⟨b,o+m * k,rfl,h1,h2,fun i u hu=>?_⟩
 rw [<- h3 i u hu,Nat.add_mul]
 congr 2
 omega
theorem row_cap {W:World} {base k n g c:Nat} {e:TypeId} {cs:List Value} (h:W.ownsRow base e k (.slice (some ⟨g,0,none⟩) n c) n cs):n<=c/\c<=9223372036854775807:=by
 obtain ⟨_,hs⟩:=h
 rcases hs with ⟨h1,_⟩ | ⟨g',cap',cur,hv,hg,hh,hnc,hcm,_⟩
 · cases h1
 · simp only [Value.slice.injEq,Option.some.injEq,Addr.mk.injEq,and_true,true_and] at hv
   obtain ⟨rfl,rfl⟩:=hv
   exact ⟨hnc,hcm⟩
theorem SlI.prP {lo hi:Nat} {w:World} {b o n c:Nat} {xs:List Pr} (h:SlI lo hi w cPr 2 (.slice (some ⟨b,o,none⟩) n c) xs) {i:Nat} {x:Pr} (hx:xs[i]?=some x) :
 (lo<=b/\b < hi)/\w.cell? ⟨b,o+i * 2,none⟩=some (.int .i64 x.1)/\w.cell? ⟨b,o+i * 2+1,none⟩=some (.int .i64 x.2):=by
 obtain ⟨A',c',hv,_,_,h3⟩:=h
 simp only [Value.slice.injEq] at hv
 obtain ⟨b',o',hA,g1,g2,hc⟩:=h3 i x hx
 rw [<- hv.1] at hA
 simp only [Option.some.injEq,Addr.mk.injEq,and_true] at hA
 obtain ⟨rfl,rfl⟩:=hA
 exact ⟨⟨g1,g2⟩,by simpa using hc 0 _ rfl,hc 1 _ rfl⟩
theorem SlI.prA {lo hi:Nat} {w:World} {A:Option Addr} {n c:Nat} {xs:List Pr} (h:SlI lo hi w cPr 2 (.slice A n c) xs) {i:Nat} {x:Pr} (hx:xs[i]?=some x) :
 ∃ b o,A=some ⟨b,o,none⟩/\(lo<=b/\b < hi)/\w.cell? ⟨b,o+i * 2,none⟩=some (.int .i64 x.1)/\w.cell? ⟨b,o+i * 2+1,none⟩=some (.int .i64 x.2):=by
 obtain ⟨A',c',hv,_,_,h3⟩:=h
 simp only [Value.slice.injEq] at hv
 obtain ⟨b',o',hA,g1,g2,hc⟩:=h3 i x hx
 exact ⟨b',o',hv.1.trans hA,⟨g1,g2⟩,by simpa using hc 0 _ rfl,hc 1 _ rfl⟩
theorem SlI.dropQ {lo hi B:Nat} {w w':World} {g c:Nat} {l:List Pr} (h:SlI lo hi w cPr 2 (.slice (some ⟨g,0,none⟩) l.length c) l) (hb:Below B w w') (hB:hi<=B) {k:Nat} (hk:k<=l.length) (hc:l.length<=c) :
 SlI lo hi w' cPr 2 (.slice (if c=k then some ⟨g,0,none⟩ else some ⟨g,k * 2,none⟩) (l.length - k) (c - k)) (l.drop k):=by
 split
 · have hn:l.drop k=[]:=List.drop_eq_nil_of_le (by omega)
   have hcm:c - k<=maxLen:=by unfold maxLen;omega
   rw [hn]
   refine ⟨some ⟨g,0,none⟩,c - k,?_,by simp,hcm,fun i x hx=>by simp at hx⟩
   simp;omega
 · simpa using (h.below hb hB).dropP (m:=k) hk
theorem eqPr (a b c d:Int) (w:World):(Op.equalIn 10000 82 (.agg #[.int .i64 a,.int .i64 b]) (.agg #[.int .i64 c,.int .i64 d])).run Try.prog w=.ok (a==c && b==d) w:=by
 have u3:=Try.underlying3
 have a3:=Try.isAgg3
 have z3:=Try.sizeOf3
 have hS:Try.prog.underlying 82=some (.struct (Try.prog.fieldsOf 82)):=by kernel_rfl
 have hp:Try.prog.stoodInHeld 82=false:=by kernel_rfl
 rw [show (10000:Nat)=9999+1 from rfl,run_equalIn_agg w 9999 82 _ _ hS hp]
 simp only [Program.fieldsOf,Try.underlying82]
 go_simp
 by_cases h1:a=c <;> by_cases h2:b=d <;> simp [h1,h2]
theorem guardPr:Try.prog.eqGuardType Try.prog.depth 82=false:=by kernel_rfl
attribute [local go_sem] guardPr
theorem eqlPr (a b c d:Int) (w:World):(binOp .eql 82 (.agg #[.int .i64 a,.int .i64 b]) (.agg #[.int .i64 c,.int .i64 d])).run Try.prog w=.ok (.bool (decide ((a,b)=(c,d)))) w:=by
 rw [run_eql_struct,eqPr]
 by_cases h1:a=c <;> by_cases h2:b=d <;> simp [h1,h2]
/-- a set of pairs in a row of the call's own, never nil -/
def SetR (lo:Nat) (w:World) (v:Value) (l:List Pr):Prop:=∃ g c,v=.slice (some ⟨g,0,none⟩) l.length c/\w.ownsRow lo 82 2 v l.length (l.flatMap cPr)
theorem SetR.below {lo:Nat} {w w':World} {v:Value} {l:List Pr} (h:SetR lo w v l) (hb:Below w.heap.size w w'):SetR lo w' v l:=by
 obtain ⟨g,c,rfl,h⟩:=h
 exact ⟨g,c,rfl,ownsRow_below h hb (Nat.le_refl _)⟩
theorem SetR.mono {lo lo':Nat} {w:World} {v:Value} {l:List Pr} (h:SetR lo w v l) (hl:lo'<=lo):SetR lo' w v l:=by
 obtain ⟨g,c,rfl,h⟩:=h
 exact ⟨g,c,rfl,ownsRow_mono h hl⟩
theorem SetR.own {lo:Nat} {w:World} {v:Value} {l:List Pr} (h:SetR lo w v l):Own lo w.heap.size w 82 cPr 2 v l:=by
 obtain ⟨g,c,rfl,h⟩:=h
 exact Own.of_row h rfl rfl
theorem SetR.lit (w:World) (lo:Nat) (h:lo<=w.heap.size):SetR lo (w.alloc (.cells #[] 82)) (.slice (some ⟨w.heap.size,0,none⟩) 0 0) [] :=
 ⟨_,_,rfl,World.ownsRow_lit (base:=lo) (e:=82) (size:=2) w #[] 0 h (by decide) rfl⟩
set_option maxHeartbeats 1000000 in
theorem l15Less_any (p q:Pr) (w:World) :
 Calls Try.prog 116 #[.agg #[.int .i64 p.1,.int .i64 p.2],.agg #[.int .i64 q.1,.int .i64 q.2]] w fun e w'=>e=.returned (.bool (ltP p q))/\Below w.heap.size w w':=by
 obtain ⟨p1,p2⟩:=p
 obtain ⟨q1,q2⟩:=q
 have hb:Below w.heap.size w ((w.alloc (.cells #[.int .i64 p1,.int .i64 p2] 82)).alloc (.cells #[.int .i64 q1,.int .i64 q2] 82)):=((Below.refl _ _).alloc (Nat.le_refl _) _).alloc (by simp) _
 simp only
 by_cases h1:p1 < q1
 · have k1:decide (p1 < q1)=true:=by simpa using h1
   have hl:ltP (p1,p2) (q1,q2)=true:=by rw [ltP_iff];exact .inl h1
   rw [hl]
   clear h1 hl
   go_enter Try.func116,Try.ntmps116
   go_wp2_with fail
   go_ret
   exact ⟨rfl,hb⟩
 · have k1:decide (p1 < q1)=false:=by simpa using h1
   by_cases h2:p1=q1
   · have k2:(p1==q1)=true:=by simpa using h2
     by_cases h3:p2 < q2
     · have k3:decide (p2 < q2)=true:=by simpa using h3
       have hl:ltP (p1,p2) (q1,q2)=true:=by rw [ltP_iff];exact .inr ⟨h2,h3⟩
       rw [hl]
       clear h1 h2 h3 hl
       go_enter Try.func116,Try.ntmps116
       go_wp2_with fail
       go_ret
       exact ⟨rfl,hb⟩
     · have k3:decide (p2 < q2)=false:=by simpa using h3
       have hl:ltP (p1,p2) (q1,q2)=false:=by rw [ltP_no];simp only;omega
       rw [hl]
       clear h1 h2 h3 hl
       go_enter Try.func116,Try.ntmps116
       go_wp2_with fail
       go_ret
       exact ⟨rfl,hb⟩
   · have k2:(p1==q1)=false:=by simpa using h2
     have hl:ltP (p1,p2) (q1,q2)=false:=by rw [ltP_no];simp only;omega
     rw [hl]
     clear h1 h2 hl
     go_enter Try.func116,Try.ntmps116
     go_wp2_with fail
     go_ret
     exact ⟨rfl,hb⟩
set_option maxHeartbeats 4000000 in
set_option maxRecDepth 100000 in
theorem l15Put_any (v:Value) (lo:Nat) (l:List Pr) (p:Pr) (w:World) (hv:SetR lo w v l) (hlo:lo<=w.heap.size) (hn:l.length<=1099511627776) :
 Calls Try.prog 104 #[v,.agg #[.int .i64 p.1,.int .i64 p.2]] w fun e w'=>∃ v',e=.returned v'/\SetR lo w' v' (putP l p)/\Below w.heap.size w w':=by
 obtain ⟨g,c,rfl,hrow⟩:=hv
 obtain ⟨hg1,hg2⟩:=hrow.lt g rfl
 have hsl:=(Own.of_row (xs:=l) hrow rfl rfl).sl cPr_len
 obtain ⟨hlc,hcm⟩:=row_cap hrow
 obtain ⟨W0,hW0⟩:∃ W0,W0=w.alloc (.cells #[.int .i64 p.1,.int .i64 p.2] 82):=⟨_,rfl⟩
 have hb0:Below w.heap.size w W0:=by rw [hW0];exact (Below.refl _ _).alloc (Nat.le_refl _) _
 have x0:W0.cell? ⟨w.heap.size,0,none⟩=some (.int .i64 p.1):=by rw [hW0];simp
 have x1:W0.cell? ⟨w.heap.size,1,none⟩=some (.int .i64 p.2):=by rw [hW0];simp
 have l0:w.heap.size < W0.heap.size:=by rw [hW0];simp
 have HROW:=Hd_ (ownsRow_below hrow hb0 (Nat.le_refl _))
 have HSL:=Hd_ (hsl.below hb0 (Nat.le_refl _))
 obtain ⟨R,hR⟩:∃ R,R=putP l p:=⟨_,rfl⟩
 rw [<- hR]
 have HR:=Hd_ hR
 clear hR hrow hsl
 go_enter Try.func104,Try.ntmps104
 go_wp2_with fail
 rw [<- hW0]
 clear hW0
 go_loopw [5] (fun kk wr=>∃ (k:Nat) (u:World),k<=l.length/\kk=.int .i64 (k:Int)/\(∀ i x,i < k->l[i]?=some x->ltP x p=true)/\wr=ext W0 u) (fun kk _=>l.length - (intOf kk).toNat)
 case atStart=>exact ⟨0,W0,Nat.zero_le _,rfl,(fun i x hi=>absurd hi (Nat.not_lt_zero _)),ext_self W0⟩
 case round =>
  obtain ⟨k,u,hk,rfl,hall,rfl⟩:=hrel
  have HALL:=Hd_ hall
  clear hall
  by_cases hlt:k < l.length
  · have hxk:l[k]?=some l[k]:=List.getElem?_eq_getElem hlt
    generalize l[k]=x at hxk
    obtain ⟨xa,xb⟩:=x
    obtain ⟨-,d0,d1⟩:=HSL.out.prP hxk
    simp only [Nat.zero_add] at d0 d1
    have hbw:g < W0.heap.size:=by omega
    have hkk:(k:Int) < (l.length:Int):=by omega
    have HXK:=Hd_ hxk
    have HLT:=Hd_ (show ∀ b,ltP (xa,xb) p=b->ltP (xa,xb) p=b from fun _ h=>h)
    have HL:=Hd_ (fun (W:World)=>l15Less_any (xa,xb) p W)
    clear hxk
    cases hbb:ltP (xa,xb) p with
    | true =>
      rw [hbb] at HL
      have HBB:=Hd_ hbb
      clear hbb HLT
      go_wp2_with fail
      refine wp_region_ext_lit (by kernel_rfl) (by kernel_rfl) ?_
      repeat (go_big_quiet_step ((go_at_call 116;exact Calls.ext_of (HL.out _))))
      refine wpQuiet_nil ?_
      rintro _ ⟨u2,rfl⟩
      obtain ⟨u4,hu4⟩:=ext_ext W0 u u2
      have HU4:=Hd_ hu4
      clear hu4
      go_wp2_with fail
      go_roundw
      case rel =>
       refine ⟨k+1,u4,by omega,by go_num,fun i y hi hy=>?_,HU4.out⟩
       rcases Nat.lt_or_ge i k with h | h
       · exact HALL.out i y h hy
       · obtain rfl:i=k:=by omega
         rw [HXK.out] at hy
         injection hy with hy
         subst hy
         exact HBB.out
      case measure=>simp [intOf];omega
    | false =>
      rw [hbb] at HL
      have hput:=putP_at (l:=l) (p:=p) (k:=k) (by omega) HALL.out (fun y hy=>by rw [HXK.out] at hy;injection hy with hy;subst hy;exact hbb)
      rw [HXK.out] at hput
      have HPUT0:=Hd_ (HR.out.trans hput)
      clear hbb HLT hput HALL HR
      go_wp2_with fail
      refine wp_region_ext_lit (by kernel_rfl) (by kernel_rfl) ?_
      repeat (go_big_quiet_step ((go_at_call 116;exact Calls.ext_of (HL.out _))))
      refine wpQuiet_nil ?_
      rintro _ ⟨u2,rfl⟩
      obtain ⟨u4,hu4⟩:=ext_ext W0 u u2
      rw [hu4]
      clear hu4
      have HEQ:=Hd_ (fun (w:World)=>eqlPr xa xb p.1 p.2 w)
      obtain ⟨bb,hb2⟩:∃ bb,bb=decide ((xa,xb)=(p.1,p.2)):=⟨_,rfl⟩
      rw [<- hb2] at HEQ
      have HB2:=Hd_ hb2
      have heq:=HEQ.out
      clear hb2
      go_wp2_with fail
      refine wp_region_ext_lit (by kernel_rfl) (by kernel_rfl) ?_
      repeat (go_big_quiet_step (fail))
      refine wpQuiet_nil ?_
      rintro _ ⟨u3,rfl⟩
      cases bb with
      | true =>
        have hfin:R=l:=by
         rw [HPUT0.out,if_pos]
         have:=HB2.out
         simp only [Eq.comm (a:=true),decide_eq_true_eq] at this
         rw [this]
        have HF:=Hd_ hfin
        have hb9:Below w.heap.size w (ext (ext W0 u4) u3):=below_trans hb0 (below_trans (ext_below _ _) (ext_below _ _))
        have HR9:=Hd_ (ownsRow_below HROW.out (below_trans (ext_below W0 u4) (ext_below _ u3)) (Nat.le_refl _))
        clear hfin
        go_wp2_with fail
        go_ret
        exact ⟨_,rfl,by rw [HF.out];exact ⟨g,c,rfl,HR9.out⟩,hb9⟩
      | false =>
        have HPUT:=Hd_ (show R=l.take k ++ [p] ++ l.drop k by
         rw [HPUT0.out,if_neg]
         have:=HB2.out
         simp only [Eq.comm (a:=false),decide_eq_false_iff_not] at this
         intro h
         injection h with h
         exact this h)
        clear HPUT0 HB2 HEQ heq
        obtain ⟨W6,hW6⟩:∃ W6,W6=(ext (ext W0 u4) u3):=⟨_,rfl⟩
        have hb6:Below W0.heap.size W0 W6:=by rw [hW6];exact (below_trans (ext_below _ _) (ext_below _ _))
        rw [<- hW6]
        clear hW6
        have x0:=kcell hb6 x0
        have x1:=kcell hb6 x1
        have l6:=Nat.lt_of_lt_of_le l0 hb6.size
        have HSD:=Hd_ (show SlI lo w.heap.size W6.drew cPr 2 (.slice (some ⟨g,0,none⟩) l.length c) l from HSL.out.below hb6.drew (by omega))
        have HBW6:=Hd_ (show Below w.heap.size w W6.drew from (below_trans hb0 hb6).drew)
        have hwW6:w.heap.size<=W6.drew.heap.size:=HBW6.out.size
        have hloW:lo<=W6.drew.heap.size:=by omega
        have hkl:(k:Int)<=(l.length:Int):=by omega
        have hkc:(k:Int)<=(c:Int):=by omega
        have htl:(l.take k).length<=l.length:=by rw [List.length_take];omega
        have hdl:(l.drop k).length<=l.length:=by rw [List.length_drop];omega
        have htd:(l.take k ++ [p]).length<=l.length+1:=by rw [List.length_append];simp only [List.length_cons,List.length_nil];omega
        have HRL:=Hd_ (show R.length ≠ 0 by rw [HPUT.out];simp)
        clear HSL HROW hb0 hb6
        go_wp2_with fail
        have hS1:=HSD.out
        clear hS1
        refine F_start 12 (fun w'=>w'.cell? ⟨w.heap.size,0,none⟩=some (.int .i64 p.1)/\w'.cell? ⟨w.heap.size,1,none⟩=some (.int .i64 p.2)) (by kernel_rfl) (by exact ⟨x0,x1⟩) (fun hS inv=>?_)
        refine F_tk 1 inv ?_
        try simp only [tA,tB,tC,Act.put,tE,tF,tG]
        clear inv;intro inv
        refine F_tk 2 inv ?_
        try simp only [tA,tB,tC,Act.put,tE,tF,tG]
        clear inv;intro inv
        refine F_tk 3 inv ?_
        try simp only [tA,tB,tC,Act.put,tE,tF,tG]
        clear inv;intro inv
        refine F_tk 5 inv ?_
        try simp only [tA,tB,tC,Act.put,tE,tF,tG]
        clear inv;intro inv
        refine F_tk 8 inv ?_
        try simp only [tA,tB,tC,Act.put,tE,tF,tG]
        clear inv;intro inv
        refine F_tk 9 inv ?_
        try simp only [tA,tB,tC,Act.put,tE,tF,tG]
        clear inv;intro inv
        refine F_tk 10 inv ?_
        try simp only [tA,tB,tC,Act.put,tE,tF,tG]
        clear inv;intro inv
        have hS0:=hS
        refine F_two (i:=0) (j:=6) (by kernel_rfl) rfl rfl rfl rfl (by omega) inv (fun K hK=>?_) (fun K hK=>?_)
        all_goals (try simp only [tA,tB,tC])
        · go_simp
          have hba:=(Below.refl W6.drew.heap.size W6.drew).alloc (Nat.le_refl _) (.cells #[] 82)
          have hrow:=World.ownsRow_lit (base:=W6.drew.heap.size) (e:=82) (size:=2) W6.drew #[] 0 (Nat.le_refl _) (by decide) rfl
          have hsa:=hba.size
          have HRL0:=Hd_ hrow
          have HTK:=Hd_ ((HSD.out.below hba hwW6).takeP (m:=k) (by omega))
          clear hrow
          refine hK.out _ _ (kB2 hba hS0) (fun _ _=>?_)
          try simp only [tA,tB,tC,Act.put,tE,tF,tG]
          clear hK K inv hS;rename_i hS inv
          refine F_two (i:=4) (j:=6) (by kernel_rfl) rfl rfl rfl rfl (by omega) inv (fun K hK=>?_) (fun K hK=>?_)
          all_goals (try simp only [tA,tB,tC])
          · refine op_appendL cPr elPair cPr_len cPr_one _ _ (by rfl) W6.drew.heap.size _ [] (l.take k) (by rfl) HRL0.out lo w.heap.size _ (by rfl) HTK.out (by simp;omega) (by omega) hsa ?_
            intro va wa hra hga hata
            simp only [List.nil_append] at hra
            have hbb:=hba.trans (own_below HRL0.out hsa hga)
            have hbx:=hbb.alloc hbb.size (.cells #[.int .i64 p.1,.int .i64 p.2] 82)
            have hbxs:=hbx.size
            have HV:=Hd_ (hra.alloc (.cells #[.int .i64 p.1,.int .i64 p.2] 82))
            obtain ⟨H1,hH1⟩:∃ H1,H1=wa.heap.size:=⟨_,rfl⟩
            have HLIT:=Hd_ (show (wa.alloc (.cells #[.int .i64 p.1,.int .i64 p.2] 82)).heap[H1]?=some (.cells (cPr p).toArray 82 (0,0)) by rw [hH1];exact heap_alloc_new _ _)
            clear hra hga hata
            refine hK.out _ _ (kB2 hbb hS0) (fun _ _=>?_)
            try simp only [tA,tB,tC,Act.put,tE,tF,tG]
            clear hK K inv hS;rename_i hS inv
            refine F_o1 6 inv ?_;intro K hK
            try simp only [tA,tB,tC]
            go_simp
            rw [<- hH1]
            refine hK.out _ _ (kB2 hbx hS0) (fun _ _=>?_)
            try simp only [tA,tB,tC,Act.put,tE,tF,tG]
            clear hK K inv hS;rename_i hS inv
            clear hH1
            refine F_o1 7 inv ?_;intro K hK
            try simp only [tA,tB,tC]
            refine op_append1 cPr elPair rfl _ _ (by rfl) W6.drew.heap.size va (l.take k) p _ H1 (by rfl) HV.out (by rfl) HLIT.out rfl (cPr_one _) (by omega) (by omega) hbxs ?_
            intro g2 cp2 w3 hown3 hgr3 hat3 hlt3
            have hb3:=hbx.trans (own_below HV.out hbxs hgr3)
            have HOW3:=Hd_ hown3
            have hs3:=hb3.size
            have HSD3:=Hd_ (HSD.out.dropQ (k:=k) hb3 hwW6 (by omega) hlc)
            clear hown3 hgr3 hat3
            refine hK.out _ _ (kB2 hb3 hS0) (fun _ _=>?_)
            try simp only [tA,tB,tC,Act.put,tE,tF,tG]
            clear hK K inv hS;rename_i hS inv
            refine F_o1 11 inv ?_;intro K hK
            try simp only [tA,tB,tC]
            refine op_appendL cPr elPair cPr_len cPr_one _ _ (by rfl) W6.drew.heap.size (.slice (some ⟨g2,0,none⟩) ((l.take k).length+1) cp2) (l.take k ++ [p]) (l.drop k) (by rfl) HOW3.out lo w.heap.size (.slice (if c=k then some ⟨g,0,none⟩ else some ⟨g,k * 2,none⟩) (l.length - k) (c - k)) (by rfl) HSD3.out (by omega) (by omega) hs3 ?_
            intro v5 w5 hown5 hgr5 hat5
            have hb5:=hb3.trans (own_below (base:=W6.drew.heap.size) HOW3.out hs3 hgr5)
            rw [show l.take k ++ [p] ++ l.drop k=R from HPUT.out.symm] at hown5
            obtain ⟨g5,c5,rfl,-,-,-,-⟩:=own_some hown5 (by have:=HRL.out;omega)
            have HSET:=Hd_ (show SetR lo w5 (.slice (some ⟨g5,0,none⟩) R.length c5) R from ⟨g5,c5,rfl,ownsRow_mono hown5 hloW⟩)
            have HBF:=Hd_ (below_trans HBW6.out hb5)
            clear hown5 hgr5 hat5
            refine hK.out _ _ (kB2 hb5 hS0) (fun _ _=>?_)
            try simp only [tA,tB,tC,Act.put,tE,tF,tG]
            clear hK K inv hS;rename_i hS inv
            refine F_l1 12 ?_;intro K hK
            go_simp
            refine hK _ _ ?_
            clear hK K inv hS
            go_wp2_with fail
            all_goals go_ret
            all_goals exact ⟨_,rfl,HSET.out,HBF.out⟩
          · go_simp
            obtain ⟨H1,hH1⟩:∃ H1,H1=W6.heap.size+1:=⟨_,rfl⟩
            have hbx0:=hba.alloc hsa (.cells #[.int .i64 p.1,.int .i64 p.2] 82)
            have HRL1:=Hd_ (HRL0.out.alloc (.cells #[.int .i64 p.1,.int .i64 p.2] 82))
            have HTK1:=Hd_ ((HSD.out.below hbx0 hwW6).takeP (m:=k) (by omega))
            have hs0x:=hbx0.size
            have HLT0:=Hd_ (show ((W6.drew.alloc (.cells #[] 82)).alloc (.cells #[.int .i64 p.1,.int .i64 p.2] 82)).heap[H1]?=some (.cells (cPr p).toArray 82 (0,0)) by
             have h:=heap_alloc_new (W6.drew.alloc (.cells #[] 82)) (.cells #[.int .i64 p.1,.int .i64 p.2] 82)
             rw [show (W6.drew.alloc (.cells #[] 82)).heap.size=H1 by rw [hH1];simp] at h
             exact h)
            have hH1l:H1 < ((W6.drew.alloc (.cells #[] 82)).alloc (.cells #[.int .i64 p.1,.int .i64 p.2] 82)).heap.size:=by rw [hH1];simp
            rw [<- hH1]
            have hH1n:H1 ≠ W6.drew.heap.size:=by rw [hH1];simp
            have HH1n:=Hd_ hH1n
            have HH1l:=Hd_ hH1l
            clear hH1 hH1n hH1l
            refine hK.out _ _ (kB2 hbx0 hS0) (fun _ _=>?_)
            try simp only [tA,tB,tC,Act.put,tE,tF,tG]
            clear hK K inv hS;rename_i hS inv
            refine F_o1 4 inv ?_;intro K hK
            try simp only [tA,tB,tC]
            refine op_appendL cPr elPair cPr_len cPr_one _ _ (by rfl) W6.drew.heap.size _ [] (l.take k) (by rfl) HRL1.out lo w.heap.size _ (by rfl) HTK1.out (by simp;omega) (by omega) hs0x ?_
            intro va wa hra hga hata
            simp only [List.nil_append] at hra
            have hbx:=hbx0.trans (own_below HRL1.out hs0x hga)
            have hbxs:=hbx.size
            have HV:=Hd_ hra
            have HLIT:=Hd_ ((hga.block H1 HH1l.out (fun e=>by injection e with e;exact HH1n.out e)).trans HLT0.out)
            clear hra hga hata
            refine hK.out _ _ (kB2 hbx hS0) (fun _ _=>?_)
            try simp only [tA,tB,tC,Act.put,tE,tF,tG]
            clear hK K inv hS;rename_i hS inv
            refine F_o1 7 inv ?_;intro K hK
            try simp only [tA,tB,tC]
            refine op_append1 cPr elPair rfl _ _ (by rfl) W6.drew.heap.size va (l.take k) p _ H1 (by rfl) HV.out (by rfl) HLIT.out rfl (cPr_one _) (by omega) (by omega) hbxs ?_
            intro g2 cp2 w3 hown3 hgr3 hat3 hlt3
            have hb3:=hbx.trans (own_below HV.out hbxs hgr3)
            have HOW3:=Hd_ hown3
            have hs3:=hb3.size
            have HSD3:=Hd_ (HSD.out.dropQ (k:=k) hb3 hwW6 (by omega) hlc)
            clear hown3 hgr3 hat3
            refine hK.out _ _ (kB2 hb3 hS0) (fun _ _=>?_)
            try simp only [tA,tB,tC,Act.put,tE,tF,tG]
            clear hK K inv hS;rename_i hS inv
            refine F_o1 11 inv ?_;intro K hK
            try simp only [tA,tB,tC]
            refine op_appendL cPr elPair cPr_len cPr_one _ _ (by rfl) W6.drew.heap.size (.slice (some ⟨g2,0,none⟩) ((l.take k).length+1) cp2) (l.take k ++ [p]) (l.drop k) (by rfl) HOW3.out lo w.heap.size (.slice (if c=k then some ⟨g,0,none⟩ else some ⟨g,k * 2,none⟩) (l.length - k) (c - k)) (by rfl) HSD3.out (by omega) (by omega) hs3 ?_
            intro v5 w5 hown5 hgr5 hat5
            have hb5:=hb3.trans (own_below (base:=W6.drew.heap.size) HOW3.out hs3 hgr5)
            rw [show l.take k ++ [p] ++ l.drop k=R from HPUT.out.symm] at hown5
            obtain ⟨g5,c5,rfl,-,-,-,-⟩:=own_some hown5 (by have:=HRL.out;omega)
            have HSET:=Hd_ (show SetR lo w5 (.slice (some ⟨g5,0,none⟩) R.length c5) R from ⟨g5,c5,rfl,ownsRow_mono hown5 hloW⟩)
            have HBF:=Hd_ (below_trans HBW6.out hb5)
            clear hown5 hgr5 hat5
            refine hK.out _ _ (kB2 hb5 hS0) (fun _ _=>?_)
            try simp only [tA,tB,tC,Act.put,tE,tF,tG]
            clear hK K inv hS;rename_i hS inv
            refine F_l1 12 ?_;intro K hK
            go_simp
            refine hK _ _ ?_
            clear hK K inv hS
            go_wp2_with fail
            all_goals go_ret
            all_goals exact ⟨_,rfl,HSET.out,HBF.out⟩
        · go_simp
          obtain ⟨H1,hH1⟩:∃ H1,H1=W6.heap.size:=⟨_,rfl⟩
          have hba:=(Below.refl W6.drew.heap.size W6.drew).alloc (Nat.le_refl _) (.cells #[.int .i64 p.1,.int .i64 p.2] 82)
          have hsa:=hba.size
          have hH1l:H1 < (W6.drew.alloc (.cells #[.int .i64 p.1,.int .i64 p.2] 82)).heap.size:=by rw [hH1];simp
          have HLT0:=Hd_ (show (W6.drew.alloc (.cells #[.int .i64 p.1,.int .i64 p.2] 82)).heap[H1]?=some (.cells (cPr p).toArray 82 (0,0)) by rw [hH1];exact heap_alloc_new _ _)
          refine hK.out _ _ (kB2 hba hS0) (fun _ _=>?_)
          try simp only [tA,tB,tC,Act.put,tE,tF,tG]
          clear hK K inv hS;rename_i hS inv
          refine F_o1 0 inv ?_;intro K hK
          try simp only [tA,tB,tC]
          go_simp
          have hbx0:=hba.alloc hsa (.cells #[] 82)
          have hrl:=World.ownsRow_lit (base:=W6.drew.heap.size) (e:=82) (size:=2) (W6.drew.alloc (.cells #[.int .i64 p.1,.int .i64 p.2] 82)) #[] 0 hsa (by decide) rfl
          rw [show (W6.drew.alloc (.cells #[.int .i64 p.1,.int .i64 p.2] 82)).heap.size=H1+1 by rw [hH1];simp] at hrl
          have HRL1:=Hd_ hrl
          clear hrl
          have HTK1:=Hd_ ((HSD.out.below hbx0 hwW6).takeP (m:=k) (by omega))
          have hs0x:=hbx0.size
          have HLT1:=Hd_ ((Below.heap_alloc _ (.cells #[] 82) H1 hH1l).trans HLT0.out)
          have HH1l:=Hd_ (Nat.lt_of_lt_of_le hH1l (show (W6.drew.alloc (.cells #[.int .i64 p.1,.int .i64 p.2] 82)).heap.size<=((W6.drew.alloc (.cells #[.int .i64 p.1,.int .i64 p.2] 82)).alloc (.cells #[] 82)).heap.size by simp))
          have HH1n:=Hd_ (show H1 ≠ H1+1 by omega)
          rw [<- hH1]
          clear hH1 hH1l
          refine hK.out _ _ (kB2 hbx0 hS0) (fun _ _=>?_)
          try simp only [tA,tB,tC,Act.put,tE,tF,tG]
          clear hK K inv hS;rename_i hS inv
          refine F_o1 4 inv ?_;intro K hK
          try simp only [tA,tB,tC]
          refine op_appendL cPr elPair cPr_len cPr_one _ _ (by rfl) W6.drew.heap.size _ [] (l.take k) (by rfl) HRL1.out lo w.heap.size _ (by rfl) HTK1.out (by simp;omega) (by omega) hs0x ?_
          intro va wa hra hga hata
          simp only [List.nil_append] at hra
          have hbx:=hbx0.trans (own_below HRL1.out hs0x hga)
          have hbxs:=hbx.size
          have HV:=Hd_ hra
          have HLIT:=Hd_ ((hga.block H1 HH1l.out (fun e=>by injection e with e;exact HH1n.out e)).trans HLT1.out)
          clear hra hga hata
          refine hK.out _ _ (kB2 hbx hS0) (fun _ _=>?_)
          try simp only [tA,tB,tC,Act.put,tE,tF,tG]
          clear hK K inv hS;rename_i hS inv
          refine F_o1 7 inv ?_;intro K hK
          try simp only [tA,tB,tC]
          refine op_append1 cPr elPair rfl _ _ (by rfl) W6.drew.heap.size va (l.take k) p _ H1 (by rfl) HV.out (by rfl) HLIT.out rfl (cPr_one _) (by omega) (by omega) hbxs ?_
          intro g2 cp2 w3 hown3 hgr3 hat3 hlt3
          have hb3:=hbx.trans (own_below HV.out hbxs hgr3)
          have HOW3:=Hd_ hown3
          have hs3:=hb3.size
          have HSD3:=Hd_ (HSD.out.dropQ (k:=k) hb3 hwW6 (by omega) hlc)
          clear hown3 hgr3 hat3
          refine hK.out _ _ (kB2 hb3 hS0) (fun _ _=>?_)
          try simp only [tA,tB,tC,Act.put,tE,tF,tG]
          clear hK K inv hS;rename_i hS inv
          refine F_o1 11 inv ?_;intro K hK
          try simp only [tA,tB,tC]
          refine op_appendL cPr elPair cPr_len cPr_one _ _ (by rfl) W6.drew.heap.size (.slice (some ⟨g2,0,none⟩) ((l.take k).length+1) cp2) (l.take k ++ [p]) (l.drop k) (by rfl) HOW3.out lo w.heap.size (.slice (if c=k then some ⟨g,0,none⟩ else some ⟨g,k * 2,none⟩) (l.length - k) (c - k)) (by rfl) HSD3.out (by omega) (by omega) hs3 ?_
          intro v5 w5 hown5 hgr5 hat5
          have hb5:=hb3.trans (own_below (base:=W6.drew.heap.size) HOW3.out hs3 hgr5)
          rw [show l.take k ++ [p] ++ l.drop k=R from HPUT.out.symm] at hown5
          obtain ⟨g5,c5,rfl,-,-,-,-⟩:=own_some hown5 (by have:=HRL.out;omega)
          have HSET:=Hd_ (show SetR lo w5 (.slice (some ⟨g5,0,none⟩) R.length c5) R from ⟨g5,c5,rfl,ownsRow_mono hown5 hloW⟩)
          have HBF:=Hd_ (below_trans HBW6.out hb5)
          clear hown5 hgr5 hat5
          refine hK.out _ _ (kB2 hb5 hS0) (fun _ _=>?_)
          try simp only [tA,tB,tC,Act.put,tE,tF,tG]
          clear hK K inv hS;rename_i hS inv
          refine F_l1 12 ?_;intro K hK
          go_simp
          refine hK _ _ ?_
          clear hK K inv hS
          go_wp2_with fail
          all_goals go_ret
          all_goals exact ⟨_,rfl,HSET.out,HBF.out⟩
  · have hkl0:k=l.length:=by omega
    have hput:=putP_at (l:=l) (p:=p) (k:=k) (by omega) HALL.out (fun y hy=>by rw [hkl0,List.getElem?_eq_none (Nat.le_refl _)] at hy;cases hy)
    rw [show l[k]?=none by rw [hkl0,List.getElem?_eq_none (Nat.le_refl _)],if_neg (by simp)] at hput
    have HPUT:=Hd_ (show R=l.take k ++ [p] ++ l.drop k from HR.out.trans hput)
    have hdk:decide ((k:Int) < (l.length:Int))=false:=by simp;omega
    clear hput HALL HR hkl0
    go_wp2_with fail
    refine wp_region_ext_lit (by kernel_rfl) (by kernel_rfl) ?_
    repeat (go_big_quiet_step (fail))
    refine wpQuiet_nil ?_
    rintro _ ⟨u2,rfl⟩
    obtain ⟨u4,hu4⟩:=ext_ext W0 u u2
    rw [hu4]
    clear hu4
    go_wp2_with fail
    refine wp_region_ext_lit (by kernel_rfl) (by kernel_rfl) ?_
    repeat (go_big_quiet_step (fail))
    refine wpQuiet_nil ?_
    rintro _ ⟨u3,rfl⟩
    clear hdk
    obtain ⟨W6,hW6⟩:∃ W6,W6=(ext (ext W0 u4) u3):=⟨_,rfl⟩
    have hb6:Below W0.heap.size W0 W6:=by rw [hW6];exact (below_trans (ext_below _ _) (ext_below _ _))
    rw [<- hW6]
    clear hW6
    have x0:=kcell hb6 x0
    have x1:=kcell hb6 x1
    have l6:=Nat.lt_of_lt_of_le l0 hb6.size
    have HSD:=Hd_ (show SlI lo w.heap.size W6.drew cPr 2 (.slice (some ⟨g,0,none⟩) l.length c) l from HSL.out.below hb6.drew (by omega))
    have HBW6:=Hd_ (show Below w.heap.size w W6.drew from (below_trans hb0 hb6).drew)
    have hwW6:w.heap.size<=W6.drew.heap.size:=HBW6.out.size
    have hloW:lo<=W6.drew.heap.size:=by omega
    have hkl:(k:Int)<=(l.length:Int):=by omega
    have hkc:(k:Int)<=(c:Int):=by omega
    have htl:(l.take k).length<=l.length:=by rw [List.length_take];omega
    have hdl:(l.drop k).length<=l.length:=by rw [List.length_drop];omega
    have htd:(l.take k ++ [p]).length<=l.length+1:=by rw [List.length_append];simp only [List.length_cons,List.length_nil];omega
    have HRL:=Hd_ (show R.length ≠ 0 by rw [HPUT.out];simp)
    clear HSL HROW hb0 hb6
    go_wp2_with fail
    have hS1:=HSD.out
    clear hS1
    refine F_start 12 (fun w'=>w'.cell? ⟨w.heap.size,0,none⟩=some (.int .i64 p.1)/\w'.cell? ⟨w.heap.size,1,none⟩=some (.int .i64 p.2)) (by kernel_rfl) (by exact ⟨x0,x1⟩) (fun hS inv=>?_)
    refine F_tk 1 inv ?_
    try simp only [tA,tB,tC,Act.put,tE,tF,tG]
    clear inv;intro inv
    refine F_tk 2 inv ?_
    try simp only [tA,tB,tC,Act.put,tE,tF,tG]
    clear inv;intro inv
    refine F_tk 3 inv ?_
    try simp only [tA,tB,tC,Act.put,tE,tF,tG]
    clear inv;intro inv
    refine F_tk 5 inv ?_
    try simp only [tA,tB,tC,Act.put,tE,tF,tG]
    clear inv;intro inv
    refine F_tk 8 inv ?_
    try simp only [tA,tB,tC,Act.put,tE,tF,tG]
    clear inv;intro inv
    refine F_tk 9 inv ?_
    try simp only [tA,tB,tC,Act.put,tE,tF,tG]
    clear inv;intro inv
    refine F_tk 10 inv ?_
    try simp only [tA,tB,tC,Act.put,tE,tF,tG]
    clear inv;intro inv
    have hS0:=hS
    refine F_two (i:=0) (j:=6) (by kernel_rfl) rfl rfl rfl rfl (by omega) inv (fun K hK=>?_) (fun K hK=>?_)
    all_goals (try simp only [tA,tB,tC])
    · go_simp
      have hba:=(Below.refl W6.drew.heap.size W6.drew).alloc (Nat.le_refl _) (.cells #[] 82)
      have hrow:=World.ownsRow_lit (base:=W6.drew.heap.size) (e:=82) (size:=2) W6.drew #[] 0 (Nat.le_refl _) (by decide) rfl
      have hsa:=hba.size
      have HRL0:=Hd_ hrow
      have HTK:=Hd_ ((HSD.out.below hba hwW6).takeP (m:=k) (by omega))
      clear hrow
      refine hK.out _ _ (kB2 hba hS0) (fun _ _=>?_)
      try simp only [tA,tB,tC,Act.put,tE,tF,tG]
      clear hK K inv hS;rename_i hS inv
      refine F_two (i:=4) (j:=6) (by kernel_rfl) rfl rfl rfl rfl (by omega) inv (fun K hK=>?_) (fun K hK=>?_)
      all_goals (try simp only [tA,tB,tC])
      · refine op_appendL cPr elPair cPr_len cPr_one _ _ (by rfl) W6.drew.heap.size _ [] (l.take k) (by rfl) HRL0.out lo w.heap.size _ (by rfl) HTK.out (by simp;omega) (by omega) hsa ?_
        intro va wa hra hga hata
        simp only [List.nil_append] at hra
        have hbb:=hba.trans (own_below HRL0.out hsa hga)
        have hbx:=hbb.alloc hbb.size (.cells #[.int .i64 p.1,.int .i64 p.2] 82)
        have hbxs:=hbx.size
        have HV:=Hd_ (hra.alloc (.cells #[.int .i64 p.1,.int .i64 p.2] 82))
        obtain ⟨H1,hH1⟩:∃ H1,H1=wa.heap.size:=⟨_,rfl⟩
        have HLIT:=Hd_ (show (wa.alloc (.cells #[.int .i64 p.1,.int .i64 p.2] 82)).heap[H1]?=some (.cells (cPr p).toArray 82 (0,0)) by rw [hH1];exact heap_alloc_new _ _)
        clear hra hga hata
        refine hK.out _ _ (kB2 hbb hS0) (fun _ _=>?_)
        try simp only [tA,tB,tC,Act.put,tE,tF,tG]
        clear hK K inv hS;rename_i hS inv
        refine F_o1 6 inv ?_;intro K hK
        try simp only [tA,tB,tC]
        go_simp
        rw [<- hH1]
        refine hK.out _ _ (kB2 hbx hS0) (fun _ _=>?_)
        try simp only [tA,tB,tC,Act.put,tE,tF,tG]
        clear hK K inv hS;rename_i hS inv
        clear hH1
        refine F_o1 7 inv ?_;intro K hK
        try simp only [tA,tB,tC]
        refine op_append1 cPr elPair rfl _ _ (by rfl) W6.drew.heap.size va (l.take k) p _ H1 (by rfl) HV.out (by rfl) HLIT.out rfl (cPr_one _) (by omega) (by omega) hbxs ?_
        intro g2 cp2 w3 hown3 hgr3 hat3 hlt3
        have hb3:=hbx.trans (own_below HV.out hbxs hgr3)
        have HOW3:=Hd_ hown3
        have hs3:=hb3.size
        have HSD3:=Hd_ (HSD.out.dropQ (k:=k) hb3 hwW6 (by omega) hlc)
        clear hown3 hgr3 hat3
        refine hK.out _ _ (kB2 hb3 hS0) (fun _ _=>?_)
        try simp only [tA,tB,tC,Act.put,tE,tF,tG]
        clear hK K inv hS;rename_i hS inv
        refine F_o1 11 inv ?_;intro K hK
        try simp only [tA,tB,tC]
        refine op_appendL cPr elPair cPr_len cPr_one _ _ (by rfl) W6.drew.heap.size (.slice (some ⟨g2,0,none⟩) ((l.take k).length+1) cp2) (l.take k ++ [p]) (l.drop k) (by rfl) HOW3.out lo w.heap.size (.slice (if c=k then some ⟨g,0,none⟩ else some ⟨g,k * 2,none⟩) (l.length - k) (c - k)) (by rfl) HSD3.out (by omega) (by omega) hs3 ?_
        intro v5 w5 hown5 hgr5 hat5
        have hb5:=hb3.trans (own_below (base:=W6.drew.heap.size) HOW3.out hs3 hgr5)
        rw [show l.take k ++ [p] ++ l.drop k=R from HPUT.out.symm] at hown5
        obtain ⟨g5,c5,rfl,-,-,-,-⟩:=own_some hown5 (by have:=HRL.out;omega)
        have HSET:=Hd_ (show SetR lo w5 (.slice (some ⟨g5,0,none⟩) R.length c5) R from ⟨g5,c5,rfl,ownsRow_mono hown5 hloW⟩)
        have HBF:=Hd_ (below_trans HBW6.out hb5)
        clear hown5 hgr5 hat5
        refine hK.out _ _ (kB2 hb5 hS0) (fun _ _=>?_)
        try simp only [tA,tB,tC,Act.put,tE,tF,tG]
        clear hK K inv hS;rename_i hS inv
        refine F_l1 12 ?_;intro K hK
        go_simp
        refine hK _ _ ?_
        clear hK K inv hS
        go_wp2_with fail
        all_goals go_ret
        all_goals exact ⟨_,rfl,HSET.out,HBF.out⟩
      · go_simp
        obtain ⟨H1,hH1⟩:∃ H1,H1=W6.heap.size+1:=⟨_,rfl⟩
        have hbx0:=hba.alloc hsa (.cells #[.int .i64 p.1,.int .i64 p.2] 82)
        have HRL1:=Hd_ (HRL0.out.alloc (.cells #[.int .i64 p.1,.int .i64 p.2] 82))
        have HTK1:=Hd_ ((HSD.out.below hbx0 hwW6).takeP (m:=k) (by omega))
        have hs0x:=hbx0.size
        have HLT0:=Hd_ (show ((W6.drew.alloc (.cells #[] 82)).alloc (.cells #[.int .i64 p.1,.int .i64 p.2] 82)).heap[H1]?=some (.cells (cPr p).toArray 82 (0,0)) by
         have h:=heap_alloc_new (W6.drew.alloc (.cells #[] 82)) (.cells #[.int .i64 p.1,.int .i64 p.2] 82)
         rw [show (W6.drew.alloc (.cells #[] 82)).heap.size=H1 by rw [hH1];simp] at h
         exact h)
        have hH1l:H1 < ((W6.drew.alloc (.cells #[] 82)).alloc (.cells #[.int .i64 p.1,.int .i64 p.2] 82)).heap.size:=by rw [hH1];simp
        rw [<- hH1]
        have hH1n:H1 ≠ W6.drew.heap.size:=by rw [hH1];simp
        have HH1n:=Hd_ hH1n
        have HH1l:=Hd_ hH1l
        clear hH1 hH1n hH1l
        refine hK.out _ _ (kB2 hbx0 hS0) (fun _ _=>?_)
        try simp only [tA,tB,tC,Act.put,tE,tF,tG]
        clear hK K inv hS;rename_i hS inv
        refine F_o1 4 inv ?_;intro K hK
        try simp only [tA,tB,tC]
        refine op_appendL cPr elPair cPr_len cPr_one _ _ (by rfl) W6.drew.heap.size _ [] (l.take k) (by rfl) HRL1.out lo w.heap.size _ (by rfl) HTK1.out (by simp;omega) (by omega) hs0x ?_
        intro va wa hra hga hata
        simp only [List.nil_append] at hra
        have hbx:=hbx0.trans (own_below HRL1.out hs0x hga)
        have hbxs:=hbx.size
        have HV:=Hd_ hra
        have HLIT:=Hd_ ((hga.block H1 HH1l.out (fun e=>by injection e with e;exact HH1n.out e)).trans HLT0.out)
        clear hra hga hata
        refine hK.out _ _ (kB2 hbx hS0) (fun _ _=>?_)
        try simp only [tA,tB,tC,Act.put,tE,tF,tG]
        clear hK K inv hS;rename_i hS inv
        refine F_o1 7 inv ?_;intro K hK
        try simp only [tA,tB,tC]
        refine op_append1 cPr elPair rfl _ _ (by rfl) W6.drew.heap.size va (l.take k) p _ H1 (by rfl) HV.out (by rfl) HLIT.out rfl (cPr_one _) (by omega) (by omega) hbxs ?_
        intro g2 cp2 w3 hown3 hgr3 hat3 hlt3
        have hb3:=hbx.trans (own_below HV.out hbxs hgr3)
        have HOW3:=Hd_ hown3
        have hs3:=hb3.size
        have HSD3:=Hd_ (HSD.out.dropQ (k:=k) hb3 hwW6 (by omega) hlc)
        clear hown3 hgr3 hat3
        refine hK.out _ _ (kB2 hb3 hS0) (fun _ _=>?_)
        try simp only [tA,tB,tC,Act.put,tE,tF,tG]
        clear hK K inv hS;rename_i hS inv
        refine F_o1 11 inv ?_;intro K hK
        try simp only [tA,tB,tC]
        refine op_appendL cPr elPair cPr_len cPr_one _ _ (by rfl) W6.drew.heap.size (.slice (some ⟨g2,0,none⟩) ((l.take k).length+1) cp2) (l.take k ++ [p]) (l.drop k) (by rfl) HOW3.out lo w.heap.size (.slice (if c=k then some ⟨g,0,none⟩ else some ⟨g,k * 2,none⟩) (l.length - k) (c - k)) (by rfl) HSD3.out (by omega) (by omega) hs3 ?_
        intro v5 w5 hown5 hgr5 hat5
        have hb5:=hb3.trans (own_below (base:=W6.drew.heap.size) HOW3.out hs3 hgr5)
        rw [show l.take k ++ [p] ++ l.drop k=R from HPUT.out.symm] at hown5
        obtain ⟨g5,c5,rfl,-,-,-,-⟩:=own_some hown5 (by have:=HRL.out;omega)
        have HSET:=Hd_ (show SetR lo w5 (.slice (some ⟨g5,0,none⟩) R.length c5) R from ⟨g5,c5,rfl,ownsRow_mono hown5 hloW⟩)
        have HBF:=Hd_ (below_trans HBW6.out hb5)
        clear hown5 hgr5 hat5
        refine hK.out _ _ (kB2 hb5 hS0) (fun _ _=>?_)
        try simp only [tA,tB,tC,Act.put,tE,tF,tG]
        clear hK K inv hS;rename_i hS inv
        refine F_l1 12 ?_;intro K hK
        go_simp
        refine hK _ _ ?_
        clear hK K inv hS
        go_wp2_with fail
        all_goals go_ret
        all_goals exact ⟨_,rfl,HSET.out,HBF.out⟩
    · go_simp
      obtain ⟨H1,hH1⟩:∃ H1,H1=W6.heap.size:=⟨_,rfl⟩
      have hba:=(Below.refl W6.drew.heap.size W6.drew).alloc (Nat.le_refl _) (.cells #[.int .i64 p.1,.int .i64 p.2] 82)
      have hsa:=hba.size
      have hH1l:H1 < (W6.drew.alloc (.cells #[.int .i64 p.1,.int .i64 p.2] 82)).heap.size:=by rw [hH1];simp
      have HLT0:=Hd_ (show (W6.drew.alloc (.cells #[.int .i64 p.1,.int .i64 p.2] 82)).heap[H1]?=some (.cells (cPr p).toArray 82 (0,0)) by rw [hH1];exact heap_alloc_new _ _)
      refine hK.out _ _ (kB2 hba hS0) (fun _ _=>?_)
      try simp only [tA,tB,tC,Act.put,tE,tF,tG]
      clear hK K inv hS;rename_i hS inv
      refine F_o1 0 inv ?_;intro K hK
      try simp only [tA,tB,tC]
      go_simp
      have hbx0:=hba.alloc hsa (.cells #[] 82)
      have hrl:=World.ownsRow_lit (base:=W6.drew.heap.size) (e:=82) (size:=2) (W6.drew.alloc (.cells #[.int .i64 p.1,.int .i64 p.2] 82)) #[] 0 hsa (by decide) rfl
      rw [show (W6.drew.alloc (.cells #[.int .i64 p.1,.int .i64 p.2] 82)).heap.size=H1+1 by rw [hH1];simp] at hrl
      have HRL1:=Hd_ hrl
      clear hrl
      have HTK1:=Hd_ ((HSD.out.below hbx0 hwW6).takeP (m:=k) (by omega))
      have hs0x:=hbx0.size
      have HLT1:=Hd_ ((Below.heap_alloc _ (.cells #[] 82) H1 hH1l).trans HLT0.out)
      have HH1l:=Hd_ (Nat.lt_of_lt_of_le hH1l (show (W6.drew.alloc (.cells #[.int .i64 p.1,.int .i64 p.2] 82)).heap.size<=((W6.drew.alloc (.cells #[.int .i64 p.1,.int .i64 p.2] 82)).alloc (.cells #[] 82)).heap.size by simp))
      have HH1n:=Hd_ (show H1 ≠ H1+1 by omega)
      rw [<- hH1]
      clear hH1 hH1l
      refine hK.out _ _ (kB2 hbx0 hS0) (fun _ _=>?_)
      try simp only [tA,tB,tC,Act.put,tE,tF,tG]
      clear hK K inv hS;rename_i hS inv
      refine F_o1 4 inv ?_;intro K hK
      try simp only [tA,tB,tC]
      refine op_appendL cPr elPair cPr_len cPr_one _ _ (by rfl) W6.drew.heap.size _ [] (l.take k) (by rfl) HRL1.out lo w.heap.size _ (by rfl) HTK1.out (by simp;omega) (by omega) hs0x ?_
      intro va wa hra hga hata
      simp only [List.nil_append] at hra
      have hbx:=hbx0.trans (own_below HRL1.out hs0x hga)
      have hbxs:=hbx.size
      have HV:=Hd_ hra
      have HLIT:=Hd_ ((hga.block H1 HH1l.out (fun e=>by injection e with e;exact HH1n.out e)).trans HLT1.out)
      clear hra hga hata
      refine hK.out _ _ (kB2 hbx hS0) (fun _ _=>?_)
      try simp only [tA,tB,tC,Act.put,tE,tF,tG]
      clear hK K inv hS;rename_i hS inv
      refine F_o1 7 inv ?_;intro K hK
      try simp only [tA,tB,tC]
      refine op_append1 cPr elPair rfl _ _ (by rfl) W6.drew.heap.size va (l.take k) p _ H1 (by rfl) HV.out (by rfl) HLIT.out rfl (cPr_one _) (by omega) (by omega) hbxs ?_
      intro g2 cp2 w3 hown3 hgr3 hat3 hlt3
      have hb3:=hbx.trans (own_below HV.out hbxs hgr3)
      have HOW3:=Hd_ hown3
      have hs3:=hb3.size
      have HSD3:=Hd_ (HSD.out.dropQ (k:=k) hb3 hwW6 (by omega) hlc)
      clear hown3 hgr3 hat3
      refine hK.out _ _ (kB2 hb3 hS0) (fun _ _=>?_)
      try simp only [tA,tB,tC,Act.put,tE,tF,tG]
      clear hK K inv hS;rename_i hS inv
      refine F_o1 11 inv ?_;intro K hK
      try simp only [tA,tB,tC]
      refine op_appendL cPr elPair cPr_len cPr_one _ _ (by rfl) W6.drew.heap.size (.slice (some ⟨g2,0,none⟩) ((l.take k).length+1) cp2) (l.take k ++ [p]) (l.drop k) (by rfl) HOW3.out lo w.heap.size (.slice (if c=k then some ⟨g,0,none⟩ else some ⟨g,k * 2,none⟩) (l.length - k) (c - k)) (by rfl) HSD3.out (by omega) (by omega) hs3 ?_
      intro v5 w5 hown5 hgr5 hat5
      have hb5:=hb3.trans (own_below (base:=W6.drew.heap.size) HOW3.out hs3 hgr5)
      rw [show l.take k ++ [p] ++ l.drop k=R from HPUT.out.symm] at hown5
      obtain ⟨g5,c5,rfl,-,-,-,-⟩:=own_some hown5 (by have:=HRL.out;omega)
      have HSET:=Hd_ (show SetR lo w5 (.slice (some ⟨g5,0,none⟩) R.length c5) R from ⟨g5,c5,rfl,ownsRow_mono hown5 hloW⟩)
      have HBF:=Hd_ (below_trans HBW6.out hb5)
      clear hown5 hgr5 hat5
      refine hK.out _ _ (kB2 hb5 hS0) (fun _ _=>?_)
      try simp only [tA,tB,tC,Act.put,tE,tF,tG]
      clear hK K inv hS;rename_i hS inv
      refine F_l1 12 ?_;intro K hK
      go_simp
      refine hK _ _ ?_
      clear hK K inv hS
      go_wp2_with fail
      all_goals go_ret
      all_goals exact ⟨_,rfl,HSET.out,HBF.out⟩
end Go.Proofs.Ytloeghbhoflabaa
namespace Go.Proofs.Ytloeghbhoflabaa
open Go.ChangeShapes Go.WideShapes Go.ChangeAt Go.RowKit Go.Sort
attribute [local go_sem] ext_cell ext_frozen ext_lt ext_lt1 ext_lt2 ext_lt3 ltn2 ltn3 ltn13 lts1 lts2 lts3
def cmpI (a b:Int):Int:=if a < b then -1 else if b < a then 1 else 0
def cmpP (p q:Pr):Int:=if p.1=q.1 then cmpI p.2 q.2 else cmpI p.1 q.1
theorem ltOf_cmp (p q:Pr):ltOf cmpP p q=ltP p q:=by
 have h1:=@ltP_iff p q
 rw [Bool.eq_iff_iff,h1,ltOf,decide_eq_true_eq,cmpP]
 unfold cmpI
 split <;> split <;> (try split) <;> omega
theorem swoP:SWO (ltOf cmpP):=by
 refine ⟨fun x=>?_,fun x y z h1 h2=>?_,fun x y z h1 h2=>?_⟩
 · rw [ltOf_cmp,ltP_no];omega
 · rw [ltOf_cmp] at *
   exact ltP_trans h1 h2
 · rw [ltOf_cmp,ltP_no] at *
   omega
theorem alloc2_grow (W:World) (o1 o2:Obj):(W.alloc o1).alloc o2=grow (W.drewN 0) #[o1,o2]:=by
 cases W
 simp only [World.alloc,grow,World.drewN,World.mk.injEq,and_true,true_and]
 simp [<- Array.toList_inj]
theorem compareInts_any (a b:Int) (w:World):Calls Try.prog 131 #[.int .i64 a,.int .i64 b] w fun e w'=>e=.returned (.int .i64 (cmpI a b))/\w'=w:=by
 unfold cmpI
 by_cases h1:a < b
 · rw [if_pos h1]
   have k1:decide (a < b)=true:=by simpa using h1
   clear h1
   go_enter Try.func131,Try.ntmps131
   go_wp2_with fail
   go_ret
   exact ⟨rfl,rfl⟩
 · rw [if_neg h1]
   have k1:decide (a < b)=false:=by simpa using h1
   by_cases h2:b < a
   · rw [if_pos h2]
     have k2:decide (a > b)=true:=by simpa using h2
     clear h1 h2
     go_enter Try.func131,Try.ntmps131
     go_wp2_with fail
     go_ret
     exact ⟨rfl,rfl⟩
   · rw [if_neg h2]
     have k2:decide (a > b)=false:=by simpa using h2
     clear h1 h2
     go_enter Try.func131,Try.ntmps131
     go_wp2_with fail
     go_ret
     exact ⟨rfl,rfl⟩
theorem comparePairs_any (p q:Pr) (w:World):Calls Try.prog 119 #[.agg #[.int .i64 p.1,.int .i64 p.2],.agg #[.int .i64 q.1,.int .i64 q.2]] w fun e w'=>e=.returned (.int .i64 (cmpP p q)) /\
 w'=(w.alloc (.cells #[.int .i64 p.1,.int .i64 p.2] 82)).alloc (.cells #[.int .i64 q.1,.int .i64 q.2] 82):=by
 obtain ⟨p1,p2⟩:=p
 obtain ⟨q1,q2⟩:=q
 simp only [cmpP]
 have HC:=Hd_ (fun (a b:Int) (W:World)=>compareInts_any a b W)
 by_cases h1:p1=q1
 · rw [if_pos h1]
   have k1:(p1 != q1)=false:=by simpa using h1
   clear h1
   go_enter Try.func119,Try.ntmps119
   go_wp2_with fail
   refine (HC.out p2 q2 _).mono ?_
   rintro e w1 ⟨rfl,hw⟩
   rw [hw]
   go_wp2_with fail
   go_ret
   exact ⟨rfl,rfl⟩
 · rw [if_neg h1]
   have k1:(p1 != q1)=true:=by simpa using h1
   clear h1
   go_enter Try.func119,Try.ntmps119
   go_wp2_with fail
   refine (HC.out p1 q1 _).mono ?_
   rintro e w1 ⟨rfl,hw⟩
   rw [hw]
   go_wp2_with fail
   go_ret
   exact ⟨rfl,rfl⟩
/-- slices.SortFunc over pairs: a row of the call's own is put in order -/
theorem sortPairs_any (lo g c:Nat) (xs:List Pr) (w:World) (hrow:w.ownsRow lo 82 2 (.slice (some ⟨g,0,none⟩) xs.length c) xs.length (xs.flatMap cPr)) (hn:xs.length<=2199023255552) :
 Calls Try.prog 118 #[.slice (some ⟨g,0,none⟩) xs.length c,.func (.func 119) #[] #[]] w fun e w'=>e=.returned (.tuple #[]) /\
  ∃ ys:List Pr,ys.length=xs.length/\(∀ x,x ∈ ys ↔ x ∈ xs)/\(∀ i j,i < j->j < ys.length->ltP (ys.getD j (0,0)) (ys.getD i (0,0))=false) /\
    w'.ownsRow lo 82 2 (.slice (some ⟨g,0,none⟩) xs.length c) xs.length (ys.flatMap cPr)/\Only g (g+1) w w':=by
 have hlt:=hrow.lt g rfl
 have eg:∀ args w,(callFunc 119 args).run Try.prog w=.ok (.enter 119 args) w:=enters_of Try.func119 (by kernel_rfl) rfl
 have hcmp:CmpLays Try.prog 119 #[] cPr 2 cmpP g 0 xs.toArray.size w:=fun m os dk _ x y=>by
  refine (comparePairs_any x y _).mono ?_
  rintro e w' ⟨rfl,rfl⟩
  exact ⟨rfl,0,_,alloc2_grow _ _ _⟩
 have h:=AnyQ.slices_SortFunc Try.laysSF 2 Try.isAgg82 Try.sizeOf82 cPr cPr_len cPr_one cmpP swoP 119 #[] g 0 c xs.toArray w eg hcmp (holds_ownK hrow rfl) hlt.2 (by simp;omega)
 have h':Calls Try.prog 118 #[.slice (some ⟨g,0,none⟩) xs.length c,.func (.func 119) #[] #[]] w _:=h
 refine h'.mono ?_
 rintro e w' ⟨rfl,d',n,os,hperm,hsort,rfl⟩
 obtain ⟨hsz,-,hpm⟩:=hperm
 have hsz':d'.toList.length=xs.length:=by simpa using hsz
 refine ⟨rfl,d'.toList,hsz',fun x=>?_,fun i j hij hj=>?_,?_,?_⟩
 · have h1:=hpm.mem_iff (a:=x)
   have e1:(d'.extract 0 xs.toArray.size).toList=d'.toList:=by rw [show xs.toArray.size=d'.size from hsz.symm];simp
   have e2:(xs.toArray.extract 0 xs.toArray.size).toList=xs:=by simp
   rw [e1,e2] at h1
   exact h1
 · have hj':j < xs.length:=by omega
   have h1:=hsort i j (Nat.zero_le _) hij (by simpa using hj')
   rw [ltOf_cmp] at h1
   have gd:∀ k,k < xs.length->d'.toList.getD k (0,0)=d'[k]!:=fun k hk=>by
    have hk':k < d'.size:=by rw [hsz];simpa using hk
    rw [getElem!_pos d' k hk',List.getD_eq_getElem?_getD,Array.getElem?_toList,Array.getElem?_eq_getElem hk'];rfl
   rw [gd j hj',gd i (by omega)]
   exact h1
 · have h2:(Sort.ahead w n).ownsRow lo 82 2 (.slice (some ⟨g,0,none⟩) xs.length c) xs.length (xs.flatMap cPr):=hrow
   have h3:=row_putF h2 (F:=flatK cPr 2 d') (by rw [size_flatK,hsz];simp)
   have h4:(flatK cPr 2 d').toList=d'.toList.flatMap cPr:=by
    have:=flatK_list d'.toList
    simpa using this
   rw [h4] at h3
   exact ownsRow_block h3 fun b hb=>(konly_grow 0 0 (putRowK cPr 2 (Sort.ahead w n) g 0 d') os).block b (h3.lt b hb).2 (.inr (Nat.zero_le _))
 · exact ((konly_ahead g (g+1) w n).trans (konly_put id _ g 0 (flatK cPr 2 d'))).trans (konly_grow g (g+1) _ os)
theorem neqlPr (a b c d:Int) (w:World):(binOp .neq 82 (.agg #[.int .i64 a,.int .i64 b]) (.agg #[.int .i64 c,.int .i64 d])).run Try.prog w=.ok (.bool (!decide ((a,b)=(c,d)))) w:=by
 rw [run_neq_struct,eqPr]
 by_cases h1:a=c <;> by_cases h2:b=d <;> simp [h1,h2]
attribute [local go_sem] guardPr
theorem clear_pairs (w:World) (ty:TypeId) (g o n c:Nat) (hn:0 < n) (hc:∀ j,j < n * 2->(w.cell? ⟨g,o+j,none⟩).isSome=true) (hf:∀ j,j < n * 2->w.frozen? ⟨g,o+j,none⟩=false) :
 (Builtin.clear_ #[31] ty #[.slice (some ⟨g,o,none⟩) n c]).run Try.prog w=.ok (.tuple #[]) (w.setCells g o (Builtin.zeroCells #[.int .i64 0,.int .i64 0] n).toList):=by
 have hl:(Builtin.zeroCells #[Value.int .i64 0,Value.int .i64 0] n).toList.length=n * 2:=by simp [Builtin.zeroCells]
 have h1:∀ v ∈ (Builtin.zeroCells #[Value.int .i64 0,Value.int .i64 0] n).toList,v.oneCell'=true:=by
  intro v hv
  simp only [Builtin.zeroCells,Array.toList_map,List.mem_map,Array.mem_toList_iff,Array.mem_range] at hv
  obtain ⟨i,_,rfl⟩:=hv
  have:i % 2=0 ∨ i % 2=1:=by omega
  rcases this with h | h <;> simp [h] <;> rfl
 have hst:=run_storeCells_cells (P:=Try.prog) g o (Builtin.zeroCells #[Value.int .i64 0,Value.int .i64 0] n).toList 0 w (by simpa [hl] using hc) (by simpa [hl] using hf) h1
 simp only [Nat.add_zero] at hst
 obtain ⟨m,rfl⟩:∃ m,n=m+1:=⟨n - 1,by omega⟩
 have hz:∀ w,(zeroValue 82).run Try.prog w=.ok (.agg #[.int .i64 0,.int .i64 0]) w:=Try.zeroValue82
 have hzc:(Value.agg #[Value.int .i64 0,Value.int .i64 0]).cells=#[.int .i64 0,.int .i64 0]:=rfl
 simp [Builtin.clear_,run_underlying Try.underlying31,hz,hzc,hst]
theorem setCells_ownP {base k g n cap:Nat} {e:TypeId}:∀ (zs:List Value) (o:Nat) (cs:List Value) (W:World),W.ownsRow base e k (.slice (some ⟨g,0,none⟩) n cap) n cs ->
 ∃ cs',(W.setCells g o zs).ownsRow base e k (.slice (some ⟨g,0,none⟩) n cap) n cs'/\cs'.take o=cs.take o/\Only g (g+1) W (W.setCells g o zs)
 | [],o,cs,W,h=>⟨cs,h,rfl,Only.refl _ _ _⟩
 | z :: zs,o,cs,W,h=>by
   have h1:=(World.ownsRow.stored h o z).1
   obtain ⟨cs',h2,h3,h4⟩:=setCells_ownP zs (o+1) _ _ h1
   refine ⟨cs',h2,?_,((Only.refl g (g+1) W).setCell (p:=⟨g,o,none⟩) (.inl ⟨Nat.le_refl _,Nat.lt_succ_self _⟩) z).trans h4⟩
   have h5:cs'.take o=(cs'.take (o+1)).take o:=by rw [List.take_take];congr 1;omega
   rw [h5,h3,List.take_take,Nat.min_eq_left (Nat.le_succ o),List.take_set,List.set_eq_of_length_le (by rw [List.length_take];omega)]
theorem flatP_len (xs:List Pr):(xs.flatMap cPr).length=xs.length * 2:=by
 induction xs with
 | nil=>rfl
 | cons x xs ih=>rw [List.flatMap_cons,List.length_append,ih,cPr_len,List.length_cons];omega
theorem flatP_at {xs:List Pr} {i:Nat} {x:Pr} (h:xs[i]?=some x):(xs.flatMap cPr)[i * 2]?=some (.int .i64 x.1)/\(xs.flatMap cPr)[i * 2+1]?=some (.int .i64 x.2) :=
 ⟨flat_at cPr_len h 0 _ rfl,flat_at cPr_len h 1 _ rfl⟩
theorem flatP_set:∀ (xs:List Pr) (i:Nat) (x:Pr),i < xs.length->((xs.flatMap cPr).set (i * 2) (.int .i64 x.1)).set (i * 2+1) (.int .i64 x.2)=(xs.set i x).flatMap cPr
 | [],_,_,h=>absurd h (Nat.not_lt_zero _)
 | y :: ys,0,x,_=>by simp [cPr]
 | y :: ys,i+1,x,h=>by
   have ih:=flatP_set ys i x (by simpa using h)
   simp only [List.flatMap_cons,cPr,List.cons_append,List.nil_append,List.set_cons_succ,Nat.succ_mul]
   rw [<- ih]
theorem flatP_take (xs:List Pr):∀ k,(xs.flatMap cPr).take (k * 2)=(xs.take k).flatMap cPr:=by
 induction xs with
 | nil=>intro k;simp
 | cons a l ih =>
   intro k
   cases k with
   | zero=>simp
   | succ k=>rw [Nat.succ_mul];simp only [List.flatMap_cons,List.take_succ_cons,cPr,List.cons_append,List.nil_append];rw [ih]
theorem compTo_take {xs:List Pr} {k:Nat} (hk:k<=xs.length) (h:∀ j,j < k->keepP xs j=true):compTo xs k=xs.take k:=by
 induction k with
 | zero=>simp [compTo]
 | succ k ih =>
   have hx:xs[k]?=some (xs.getD k (0,0)):=by rw [List.getD_eq_getElem?_getD,List.getElem?_eq_getElem (by omega)];rfl
   rw [compTo_yes (h k (by omega)),ih (by omega) (fun j hj=>h j (by omega)),take_snoc hx]
theorem getP {xs:List Pr} {i:Nat} (h:i < xs.length):xs[i]?=some (xs.getD i (0,0)):=by rw [List.getD_eq_getElem?_getD,List.getElem?_eq_getElem h];rfl
theorem keepP_pos {xs:List Pr} {i:Nat} (h:0 < i):keepP xs i=!decide (xs.getD i (0,0)=xs.getD (i - 1) (0,0)):=by
 have h6:(i==0)=false:=by simp;omega
 rw [keepP,h6,Bool.false_or,bne]
 congr 1
 rw [Bool.eq_iff_iff,beq_iff_eq,decide_eq_true_eq]
set_option maxHeartbeats 4000000 in
set_option maxRecDepth 100000 in
theorem compactP_any (lo g c:Nat) (xs:List Pr) (w:World) (hrow:w.ownsRow lo 82 2 (.slice (some ⟨g,0,none⟩) xs.length c) xs.length (xs.flatMap cPr)) (hn:xs.length<=2199023255552) :
 Calls Try.prog 120 #[.slice (some ⟨g,0,none⟩) xs.length c] w fun e w'=>∃ m,e=.returned (.slice (some ⟨g,0,none⟩) m c) /\
  w'.ownsRow lo 82 2 (.slice (some ⟨g,0,none⟩) m c) (compTo xs xs.length).length ((compTo xs xs.length).flatMap cPr)/\Only g (g+1) w w':=by
 obtain ⟨hg1,hg2⟩:=hrow.lt g rfl
 obtain ⟨hlc,hcm⟩:=row_cap hrow
 obtain ⟨R,hR⟩:∃ R,R=compTo xs xs.length:=⟨_,rfl⟩
 rw [<- hR]
 have HR:=Hd_ hR
 have HROW:=Hd_ hrow
 clear hR hrow
 obtain ⟨N,hN⟩:∃ N,N=xs.length:=⟨_,rfl⟩
 rw [<- hN] at hn hlc HROW HR ⊢
 have HN:=Hd_ hN
 clear hN
 by_cases h2:N < 2
 · have hfin:R=xs:=by
    rw [HR.out,compTo_take (by have:=HN.out;omega) (fun j hj=>by obtain rfl:j=0:=(by omega);rfl),HN.out,List.take_length]
   have HF:=Hd_ hfin
   have hnz:(N:Int) < 2:=by omega
   clear hfin
   go_enter Try.func120,Try.ntmps120
   go_wp2_with fail
   go_ret
   exact ⟨_,rfl,by rw [HF.out,<- HN.out];exact HROW.out,Only.refl _ _ _⟩
 · have hnz:¬ (N:Int) < 2:=by omega
   go_enter Try.func120,Try.ntmps120
   go_wp2_with fail
   go_loopw [3] (fun ii wr=>∃ (i:Nat) (u:World),1<=i/\i<=N/\ii=.int .i64 (i:Int)/\(∀ j,j < i->keepP xs j=true)/\wr=ext w u) (fun ii _=>N - (intOf ii).toNat)
   case atStart=>exact ⟨1,w,Nat.le_refl _,by omega,rfl,(fun j hj=>by obtain rfl:j=0:=(by omega);rfl),ext_self w⟩
   case round =>
    obtain ⟨i0,u,h1,hi,rfl,hkp,rfl⟩:=hrel
    have HKP:=Hd_ hkp
    clear hkp
    by_cases hlt:i0 < N
    · have hxi:=getP (xs:=xs) (i:=i0) (by have:=HN.out;omega)
      have hxj:=getP (xs:=xs) (i:=i0 - 1) (by have:=HN.out;omega)
      have hk0:=keepP_pos (xs:=xs) h1
      obtain ⟨i1,rfl⟩:∃ i1,i0=i1+1:=⟨i0 - 1,by omega⟩
      simp only [Nat.add_sub_cancel] at hxj hk0
      have HROWu:=Hd_ (ownsRow_below HROW.out (ext_below w u) (Nat.le_refl _))
      obtain ⟨a0,a1⟩:=flatP_at hxi
      obtain ⟨b0,b1⟩:=flatP_at hxj
      have d0:=(World.ownsRow.cellAt HROW.out ((i1+1) * 2) (by omega)).trans a0
      have d1:=(World.ownsRow.cellAt HROW.out ((i1+1) * 2+1) (by omega)).trans a1
      have f0:=(World.ownsRow.cellAt HROW.out (i1 * 2) (by omega)).trans b0
      have f1:=(World.ownsRow.cellAt HROW.out (i1 * 2+1) (by omega)).trans b1
      have HXI:=Hd_ hxi
      have HXJ:=Hd_ hxj
      have HK0:=Hd_ hk0
      clear a0 a1 b0 b1 hxi hxj hk0
      generalize hx:xs.getD (i1+1) (0,0)=x at *
      generalize hy:xs.getD i1 (0,0)=y at *
      obtain ⟨xa,xb⟩:=x
      obtain ⟨ya,yb⟩:=y
      simp only at d0 d1 f0 f1
      have q1:IntKind.i64.wrap (((i1+1:Nat):Int) - 1)=(i1:Int):=by rw [IntWalk.i64_in _ (by omega)];omega
      have hii:((i1+1:Nat):Int) < (N:Int):=by omega
      have hjj:(i1:Int) < (N:Int):=by omega
      have HEQ:=Hd_ (fun (w:World)=>eqlPr xa xb ya yb w)
      obtain ⟨bb,hb2⟩:∃ bb,bb=decide ((xa,xb)=(ya,yb)):=⟨_,rfl⟩
      rw [<- hb2] at HEQ HK0
      have heq:=HEQ.out
      clear hb2 hx hy
      go_wp2_with fail
      refine wp_region_ext_lit (by kernel_rfl) (by kernel_rfl) ?_
      repeat (go_big_quiet_step (fail))
      refine wpQuiet_nil ?_
      rintro _ ⟨u2,rfl⟩
      obtain ⟨u4,hu4⟩:=ext_ext w u u2
      rw [hu4]
      have HU4:=Hd_ hu4
      clear hu4 heq HEQ
      cases bb with
      | false =>
        go_wp2_with fail
        go_roundw
        case rel =>
         refine ⟨i1+1+1,u4,by omega,by omega,by go_num,fun j hj=>?_,rfl⟩
         rcases Nat.lt_or_ge j (i1+1) with h | h
         · exact HKP.out j h
         · obtain rfl:j=i1+1:=by omega
           exact HK0.out
        case measure=>simp [intOf];omega
      | true =>
        have HST:=Hd_ (show xs.take (i1+1)=compTo xs (i1+1+1) by rw [compTo_no HK0.out,compTo_take (by have:=HN.out;omega) HKP.out])
        have hci:¬ c=i1+1:=by omega
        have HROW1:=Hd_ (ownsRow_below HROW.out (ext_below w u4) (Nat.le_refl _))
        have HON1:=Hd_ (Only.of_below (ext_below w u4) g (g+1))
        have hic:((i1+1:Nat):Int)<=(N:Int):=by omega
        generalize ext w u4=W1 at *
        clear HK0 HXI HXJ HKP HROWu d0 d1 f0 f1 q1
        go_wp2_with fail
        go_loopw [3,5] (fun ii kk wr=>∃ (i k:Nat) (L:List Pr),1<=k/\k<=N - (i1+1)/\i<=i1+k/\ii=.int .i64 (i:Int)/\kk=.int .i64 (k:Int)/\L.length=N/\L.take i=compTo xs (i1+1+k)/\L.drop (i1+k)=xs.drop (i1+k) /\
         wr.ownsRow lo 82 2 (.slice (some ⟨g,0,none⟩) N c) N (L.flatMap cPr)/\Only g (g+1) w wr) (fun _ kk _=>N - (i1+1) - (intOf kk).toNat)
        case atStart=>exact ⟨i1+1,1,xs,Nat.le_refl _,by omega,Nat.le_refl _,rfl,rfl,HN.out.symm,HST.out,rfl,HROW1.out,HON1.out⟩
        case round =>
         clear HROW1 HON1 HST
         obtain ⟨i,k,L,hk1,hkN,hik,rfl,rfl,hLn,hLt,hLd,hrow,hon⟩:=hrel
         have HLN:=Hd_ hLn
         have HLT:=Hd_ hLt
         have HLD:=Hd_ hLd
         have HROW:=Hd_ hrow
         have HON:=Hd_ hon
         have hsz:=hon.size
         clear hLn hLt hLd hrow hon
         obtain ⟨k1,rfl⟩:∃ k1,k=k1+1:=⟨k - 1,by omega⟩
         by_cases hlk:k1+1 < N - (i1+1)
         · have hxi:=getP (xs:=xs) (i:=i1+1+(k1+1)) (by have:=HN.out;omega)
           have hxj:=getP (xs:=xs) (i:=i1+1+k1) (by have:=HN.out;omega)
           have hk0:=keepP_pos (xs:=xs) (i:=i1+1+(k1+1)) (by omega)
           rw [show i1+1+(k1+1) - 1=i1+1+k1 by omega] at hk0
           have hLi:L[i1+1+(k1+1)]?=some (xs.getD (i1+1+(k1+1)) (0,0)):=by
            have h:=congrArg (fun l=>l[1]?) HLD.out
            simp only [List.getElem?_drop] at h
            rw [show i1+(k1+1)+1=i1+1+(k1+1) by omega] at h
            rw [h,hxi]
           have hLj:L[i1+1+k1]?=some (xs.getD (i1+1+k1) (0,0)):=by
            have h:=congrArg (fun l=>l[0]?) HLD.out
            simp only [List.getElem?_drop] at h
            rw [show i1+(k1+1)+0=i1+1+k1 by omega] at h
            rw [h,hxj]
           have hLo:=getP (xs:=L) (i:=i) (by have:=HLN.out;omega)
           obtain ⟨a0,a1⟩:=flatP_at hLi
           obtain ⟨b0,b1⟩:=flatP_at hLj
           obtain ⟨g0,g1⟩:=flatP_at hLo
           have d0:=(World.ownsRow.cellAt HROW.out ((i1+1+(k1+1)) * 2) (by omega)).trans a0
           have d1:=(World.ownsRow.cellAt HROW.out ((i1+1+(k1+1)) * 2+1) (by omega)).trans a1
           have f0:=(World.ownsRow.cellAt HROW.out ((i1+1+k1) * 2) (by omega)).trans b0
           have f1:=(World.ownsRow.cellAt HROW.out ((i1+1+k1) * 2+1) (by omega)).trans b1
           rw [show (i1+1+(k1+1)) * 2=(i1+1) * 2+(k1+1) * 2 by omega] at d0 d1
           rw [show (i1+1+k1) * 2=(i1+1) * 2+k1 * 2 by omega] at f0 f1
           have hgw:g < wr.heap.size:=by omega
           have HK0:=Hd_ hk0
           have HXI:=Hd_ (show ∀ h:keepP xs (i1+1+(k1+1))=true,compTo xs (i1+1+(k1+1)+1)=compTo xs (i1+1+(k1+1)) ++ [xs.getD (i1+1+(k1+1)) (0,0)] from fun h=>compTo_yes h)
           have HXJ:=Hd_ (show ∀ h:keepP xs (i1+1+(k1+1))=false,compTo xs (i1+1+(k1+1)+1)=compTo xs (i1+1+(k1+1)) from fun h=>compTo_no h)
           have HG0:=Hd_ g0
           have HG1:=Hd_ g1
           clear a0 a1 b0 b1 hxi hxj hk0 hLi hLj hLo g0 g1
           generalize hx:xs.getD (i1+1+(k1+1)) (0,0)=x at *
           generalize hy:xs.getD (i1+1+k1) (0,0)=y at *
           generalize L.getD i (0,0)=old at *
           clear hx hy
           obtain ⟨xa,xb⟩:=x
           obtain ⟨ya,yb⟩:=y
           simp only at d0 d1 f0 f1
           have q1:IntKind.i64.wrap (((k1+1:Nat):Int) - 1)=(k1:Int):=by rw [IntWalk.i64_in _ (by omega)];omega
           have hii:((k1+1:Nat):Int) < ((N - (i1+1):Nat):Int):=by omega
           have hjj:(k1:Int) < ((N - (i1+1):Nat):Int):=by omega
           have hiN:(i:Int) < (N:Int):=by omega
           have HEQ:=Hd_ (fun (w:World)=>neqlPr xa xb ya yb w)
           obtain ⟨bb,hb2⟩:∃ bb,bb=!decide ((xa,xb)=(ya,yb)):=⟨_,rfl⟩
           rw [<- hb2] at HEQ HK0
           have heq:=HEQ.out
           clear hb2
           go_wp2_with fail
           refine wp_region_ext_lit (by kernel_rfl) (by kernel_rfl) ?_
           repeat (go_big_quiet_step (fail))
           refine wpQuiet_nil ?_
           rintro _ ⟨u2,rfl⟩
           have hbu:=ext_below wr u2
           have HROWx:=Hd_ (ownsRow_below HROW.out hbu (Nat.le_refl _))
           have HONx:=Hd_ (HON.out.trans (Only.of_below hbu g (g+1)))
           have d0:=kcell hbu d0
           have d1:=kcell hbu d1
           have hgx:=Nat.lt_of_lt_of_le hgw hbu.size
           generalize ext wr u2=wx at *
           clear heq HEQ f0 f1 hbu
           cases bb with
           | true =>
             have ci0:=(World.ownsRow.cellAt HROWx.out (i * 2) (by omega)).trans HG0.out
             have ci1:=(World.ownsRow.cellAt HROWx.out (i * 2+1) (by omega)).trans HG1.out
             have fi0:=World.ownsRow.frozenAt HROWx.out (i * 2)
             have fi1:=World.ownsRow.frozenAt HROWx.out (i * 2+1)
             have hrow3:=(World.ownsRow.stored (World.ownsRow.stored HROWx.out (i * 2) (.int .i64 xa)).1 (i * 2+1) (.int .i64 xb)).1
             rw [flatP_set L i (xa,xb) (by have:=HLN.out;omega)] at hrow3
             have hon3:=(HONx.out.setCell (p:=⟨g,i * 2,none⟩) (.inl ⟨Nat.le_refl _,Nat.lt_succ_self _⟩) (.int .i64 xa)).setCell (p:=⟨g,i * 2+1,none⟩) (.inl ⟨Nat.le_refl _,Nat.lt_succ_self _⟩) (.int .i64 xb)
             have HROW3:=Hd_ hrow3
             have HON3:=Hd_ hon3
             have HL3:=Hd_ (show (L.set i (xa,xb)).length=N by rw [List.length_set];exact HLN.out)
             have HT3:=Hd_ (show (L.set i (xa,xb)).take (i+1)=compTo xs (i1+1+(k1+1+1)) by
              have h1:(L.set i (xa,xb))[i]?=some (xa,xb):=List.getElem?_set_self (by have:=HLN.out;omega)
              rw [take_snoc h1,List.take_set,List.set_eq_of_length_le (by rw [List.length_take];omega),HLT.out,show i1+1+(k1+1+1)=i1+1+(k1+1)+1 by omega,HXI.out HK0.out])
             have HD3:=Hd_ (show (L.set i (xa,xb)).drop (i1+(k1+1+1))=xs.drop (i1+(k1+1+1)) by
              rw [List.drop_set_of_lt (by omega),<- Nat.add_assoc,<- List.drop_drop,HLD.out,List.drop_drop])
             clear hrow3 hon3
             go_wp2_with fail
             go_roundw
             case rel=>exact ⟨i+1,k1+1+1,L.set i (xa,xb),by omega,by omega,by omega,by go_num,by go_num,HL3.out,HT3.out,HD3.out,HROW3.out,HON3.out⟩
             case measure=>simp [intOf];omega
           | false =>
             have HT3:=Hd_ (show L.take i=compTo xs (i1+1+(k1+1+1)) by rw [HLT.out,show i1+1+(k1+1+1)=i1+1+(k1+1)+1 by omega,HXJ.out HK0.out])
             have HD3:=Hd_ (show L.drop (i1+(k1+1+1))=xs.drop (i1+(k1+1+1)) by
              rw [<- Nat.add_assoc,<- List.drop_drop,HLD.out,List.drop_drop])
             go_wp2_with fail
             go_roundw
             case rel=>exact ⟨i,k1+1+1,L,by omega,by omega,by omega,rfl,by go_num,HLN.out,HT3.out,HD3.out,HROWx.out,HONx.out⟩
             case measure=>simp [intOf];omega
         · have hkk:k1+1=N - (i1+1):=by omega
           have hlz:¬ ((k1+1:Nat):Int) < ((N - (i1+1):Nat):Int):=by omega
           have hci2:¬ c=i:=by omega
           have hcl:∀ ty,(Builtin.clear_ #[31] ty #[.slice (some ⟨g,i * 2,none⟩) (N - i) (c - i)]).run Try.prog wr=.ok (.tuple #[]) (wr.setCells g (i * 2) (Builtin.zeroCells #[.int .i64 0,.int .i64 0] (N - i)).toList) :=
            fun ty=>clear_pairs wr ty g (i * 2) (N - i) (c - i) (by omega) (fun t ht=>by
             rw [World.ownsRow.cellAt HROW.out (i * 2+t) (by omega),List.getElem?_eq_getElem (by rw [flatP_len];have:=HLN.out;omega)];rfl) (fun t ht=>World.ownsRow.frozenAt HROW.out (i * 2+t))
           obtain ⟨cs',h1,h2,h3⟩:=setCells_ownP (Builtin.zeroCells #[.int .i64 0,.int .i64 0] (N - i)).toList (i * 2) _ _ HROW.out
           have h4:=ownsRow_take h1 (show i<=N by omega)
           have hfin:R=L.take i:=by rw [HR.out,HLT.out];congr 1;omega
           rw [h2,flatP_take,<- hfin] at h4
           have hRl:R.length=i:=by rw [hfin,List.length_take];have:=HLN.out;omega
           have HOWN:=Hd_ h4
           have HRL:=Hd_ hRl
           have HON2:=Hd_ (HON.out.trans h3)
           have hcz:(i:Int)<=(N:Int):=by omega
           have hcz2:(i:Int)<=(c:Int):=by omega
           clear h1 h2 h3 h4 hfin hRl hkk
           go_wp2_with fail
           go_ret
           exact ⟨_,rfl,by rw [HRL.out];exact HOWN.out,HON2.out⟩
    · obtain rfl:i0=N:=by omega
      have hfin:R=xs:=by rw [HR.out,compTo_take (by have:=HN.out;omega) HKP.out,HN.out,List.take_length]
      have HF:=Hd_ hfin
      have HROWu:=Hd_ (ownsRow_below HROW.out (ext_below w u) (Nat.le_refl _))
      clear hfin
      go_wp2_with fail
      go_ret
      exact ⟨_,rfl,by rw [HF.out,<- HN.out];exact HROWu.out,Only.of_below (ext_below w u) _ _⟩
end Go.Proofs.Ytloeghbhoflabaa
namespace Go.Proofs.Ytloeghbhoflabaa
open Go.ChangeShapes Go.WideShapes Go.ChangeAt Go.RowKit
attribute [local go_sem] ext_cell ext_frozen ext_lt ext_lt1 ext_lt2 ext_lt3 ltn2 ltn3 ltn13 lts1 lts2 lts3
theorem compRow_yes {p q:Pr} {b:List Pr} {j:Nat} (h:b[j]?=some q) (he:p.2=q.1):compRow p (b.take (j+1))=compRow p (b.take j) ++ [(p.1,q.2)]:=by
 simp [compRow,take_snoc h,List.filter_append,he]
theorem compRow_no {p q:Pr} {b:List Pr} {j:Nat} (h:b[j]?=some q) (he:¬ p.2=q.1):compRow p (b.take (j+1))=compRow p (b.take j):=by
 simp [compRow,take_snoc h,List.filter_append,he]
theorem compL_take {a b:List Pr} {i:Nat} {p:Pr} (h:a[i]?=some p):compL (a.take (i+1)) b=compL (a.take i) b ++ compRow p b:=by
 simp [compL,take_snoc h]
theorem compRow_len (p:Pr) (b:List Pr) (j:Nat):(compRow p (b.take j)).length<=b.length:=by
 unfold compRow
 rw [List.length_map]
 refine Nat.le_trans (List.length_filter_le _ _) ?_
 rw [List.length_take];omega
theorem compL_len (a b:List Pr):(compL a b).length<=a.length * b.length:=by
 induction a with
 | nil=>simp [compL]
 | cons p a ih =>
   have h:=compRow_len p b b.length
   rw [List.take_length] at h
   simp only [compL,List.flatMap_cons,List.length_append,List.length_cons] at *
   rw [Nat.succ_mul];omega
set_option maxHeartbeats 4000000 in
set_option maxRecDepth 100000 in
theorem specCompose (va vb:Value) (a b:List Pr) (w:World) (hva:SlE w cPr 2 va a) (hvb:SlE w cPr 2 vb b) (hna:a.length<=1048576) (hnb:b.length<=1048576) :
 Calls Try.prog 74 #[va,vb] w fun e w'=>∃ v',e=.returned v'/\Own w.heap.size w'.heap.size w' 82 cPr 2 v' (composeL a b)/\Below w.heap.size w w':=by
 have hsa:=hva
 have hsb:=hvb
 obtain ⟨A,ca,rfl,hla,hma,-⟩:=hva
 obtain ⟨B,cb,rfl,hlb,hmb,-⟩:=hvb
 unfold maxLen at hma hmb
 obtain ⟨R,hR⟩:∃ R,R=composeL a b:=⟨_,rfl⟩
 rw [<- hR]
 have HR:=Hd_ hR
 have HSA:=Hd_ hsa
 have HSB:=Hd_ hsb
 clear hR hsa hsb
 go_enter Try.func74,Try.ntmps74
 go_wp2_with fail
 go_loopw [5,6] (fun oo ii wr=>∃ i:Nat,i<=a.length/\ii=.int .i64 (i:Int)/\SetR w.heap.size wr oo (psetL (compL (a.take i) b))/\Below w.heap.size w wr) (fun _ ii _=>a.length - (intOf ii).toNat)
 case atStart=>exact ⟨0,Nat.zero_le _,rfl,SetR.lit w _ (Nat.le_refl _),(Below.refl _ _).alloc (Nat.le_refl _) _⟩
 case round =>
  obtain ⟨i,hi,rfl,hset,hbel⟩:=hrel
  have HSET:=Hd_ hset
  have HBEL:=Hd_ hbel
  clear hset hbel
  obtain ⟨wo,rfl⟩:∃ wo:World,wo=wr:=⟨_,rfl⟩
  by_cases hlt:i < a.length
  · have hxi:a[i]?=some a[i]:=List.getElem?_eq_getElem hlt
    generalize a[i]=x at hxi
    obtain ⟨b1,o1,rfl,⟨-,hb1⟩,d0,d1⟩:=HSA.out.prA hxi
    obtain ⟨xa,xb⟩:=x
    simp only at d0 d1
    have D0:=Hd_ d0
    have D1:=Hd_ d1
    have hii:(i:Int) < (a.length:Int):=by omega
    have HRY:=Hd_ (fun (q:Pr) (j:Nat) (h:b[j]?=some q) he=>compRow_yes (p:=(xa,xb)) h he)
    have HRN:=Hd_ (fun (q:Pr) (j:Nat) (h:b[j]?=some q) he=>compRow_no (p:=(xa,xb)) h he)
    have HTK:=Hd_ (compL_take (b:=b) hxi)
    have HRL:=Hd_ (compRow_len (xa,xb) b)
    have hcl:=compL_len (a.take i) b
    have hti:(a.take i).length<=a.length:=by rw [List.length_take];omega
    have hcl2:(compL (a.take i) b).length<=1099511627776 - 1048576:=Nat.le_trans hcl (Nat.le_trans (Nat.mul_le_mul (show (a.take i).length<=1048575 by rw [List.length_take];omega) hnb) (by omega))
    clear hxi hcl hti d0 d1
    generalize compL (a.take i) b=C at *
    go_wp2_with fail
    go_loopw [5,7] (fun oo jj wr=>∃ j:Nat,j<=b.length/\jj=.int .i64 (j:Int)/\SetR w.heap.size wr oo (psetL (C ++ compRow (xa,xb) (b.take j)))/\Below w.heap.size w wr) (fun _ jj _=>b.length - (intOf jj).toNat)
    case atStart=>exact ⟨0,Nat.zero_le _,rfl,by simpa [compRow] using HSET.out,HBEL.out⟩
    case round =>
     obtain ⟨j,hj,rfl,hset2,hbel2⟩:=hrel
     have HSET2:=Hd_ hset2
     have hsz:=hbel2.size
     clear hset2
     by_cases hlj:j < b.length
     · have hyj:b[j]?=some b[j]:=List.getElem?_eq_getElem hlj
       generalize b[j]=y at hyj
       obtain ⟨b2,o2,rfl,⟨-,hb2⟩,f0,f1⟩:=HSB.out.prA hyj
       have f0:=kcell hbel2 f0
       have f1:=kcell hbel2 f1
       have d0:=kcell hbel2 D0.out
       have d1:=kcell hbel2 D1.out
       obtain ⟨ya,yb⟩:=y
       simp only at f0 f1
       have hb1w:b1 < wr.heap.size:=by omega
       have hb2w:b2 < wr.heap.size:=by omega
       have hjj:(j:Int) < (b.length:Int):=by omega
       have HYJ:=Hd_ hyj
       have hpl:=psetL_len (C ++ compRow (xa,xb) (b.take j))
       have hrl:=HRL.out j
       rw [List.length_append] at hpl
       clear hyj
       cases hxy:(xb==ya) with
       | true =>
         have HSN:=Hd_ (show psetL (C ++ compRow (xa,xb) (b.take (j+1)))=putP (psetL (C ++ compRow (xa,xb) (b.take j))) (xa,yb) by
          rw [HRY.out _ j HYJ.out (by simpa using hxy),<- List.append_assoc,psetL_snoc])
         generalize psetL (C ++ compRow (xa,xb) (b.take j))=L at *
         go_wp2_with fail
         refine wp_region_ext_lit (by kernel_rfl) (by kernel_rfl) ?_
         repeat (go_big_quiet_step (fail))
         refine wpQuiet_nil ?_
         rintro _ ⟨u1,rfl⟩
         have hbel3:=hbel2.trans ((ext_below wr u1).mono hsz)
         have HSET3:=Hd_ (HSET2.out.below (ext_below wr u1))
         have d0:=kcell (ext_below wr u1) d0
         have d1:=kcell (ext_below wr u1) d1
         have f0:=kcell (ext_below wr u1) f0
         have f1:=kcell (ext_below wr u1) f1
         have hsz3:=hbel3.size
         have hb1w:=Nat.lt_of_lt_of_le hb1w (ext_size wr u1)
         have hb2w:=Nat.lt_of_lt_of_le hb2w (ext_size wr u1)
         generalize ext wr u1=wx at *
         go_wp2_with fail
         refine wp_region_ext_tail 12 (by kernel_rfl) (by kernel_rfl) ?_
         simp only [List.take_succ_cons,List.take_zero]
         repeat (go_big_quiet_step (fail))
         refine wpQuiet_nil ?_
         rintro _ ⟨u2,rfl⟩
         simp only [List.drop_succ_cons,List.drop_zero]
         have hbu:=ext_below wx u2
         have HP:=Hd_ (l15Put_any _ w.heap.size L (xa,yb) (ext wx u2) (HSET3.out.below hbu) (Nat.le_trans hsz3 hbu.size) (by omega))
         go_wp2_with fail
         refine HP.out.mono ?_
         rintro e w4 ⟨v4,rfl,hs4,hb4⟩
         have HS4:=Hd_ hs4
         have HB4:=Hd_ (hbel3.trans ((below_trans hbu hb4).mono hsz3))
         clear hs4 hb4 hbu
         go_wp2_with fail
         go_roundw
         case rel=>exact ⟨j+1,by omega,by go_num,by rw [HSN.out];exact HS4.out,HB4.out⟩
         case measure=>simp [intOf];omega
       | false =>
         have HSN:=Hd_ (show psetL (C ++ compRow (xa,xb) (b.take (j+1)))=psetL (C ++ compRow (xa,xb) (b.take j)) by
          rw [HRN.out _ j HYJ.out (by simpa using hxy)])
         generalize psetL (C ++ compRow (xa,xb) (b.take j))=L at *
         go_wp2_with fail
         refine wp_region_ext_lit (by kernel_rfl) (by kernel_rfl) ?_
         repeat (go_big_quiet_step (fail))
         refine wpQuiet_nil ?_
         rintro _ ⟨u1,rfl⟩
         have HB4:=Hd_ (hbel2.trans ((ext_below wr u1).mono hsz))
         have HS4:=Hd_ (HSET2.out.below (ext_below wr u1))
         generalize ext wr u1=wx at *
         go_wp2_with fail
         go_roundw
         case rel=>exact ⟨j+1,by omega,by go_num,by rw [HSN.out];exact HS4.out,HB4.out⟩
         case measure=>simp [intOf];omega
     · obtain rfl:j=b.length:=by omega
       rw [List.take_length,<- HTK.out] at HSET2
       go_wp2_with fail
       go_roundw
       case rel=>exact ⟨i+1,by omega,by go_num,HSET2.out,hbel2⟩
       case measure=>simp [intOf];omega
  · obtain rfl:i=a.length:=by omega
    rw [List.take_length] at HSET
    have HO:=Hd_ (show Own w.heap.size wo.heap.size wo 82 cPr 2 _ R from by rw [HR.out];exact HSET.out.own)
    obtain ⟨g,c',rfl,-⟩:=HSET.out
    go_wp2_with fail
    go_ret
    exact ⟨_,rfl,HO.out,HBEL.out⟩
def prAt (l:List Pr) (i:Nat):Bool :=
 match l[i]? with
 | none=>true
 | some x=>wi x.1 0 4 && wi x.2 0 4 && (decide (i=0) || match l[i - 1]? with
   | some p=>ltP p x
   | none=>true)
def arePL (l:List Pr):Bool:=(List.range l.length).all (prAt l)
theorem arePL_in {l:List Pr} (h:arePL l=true):∀ p ∈ l,inB p.1/\inB p.2:=fun p hp=>by
 obtain ⟨i,hi,rfl⟩:=List.getElem_of_mem hp
 have:=(List.all_eq_true.1 h) i (List.mem_range.2 hi)
 rw [prAt,List.getElem?_eq_getElem hi] at this
 simp only [Bool.and_eq_true,wi_iff] at this
 exact ⟨this.1.1,this.1.2⟩
set_option maxHeartbeats 2000000 in
set_option maxRecDepth 100000 in
theorem implAre (v:Value) (l:List Pr) (w:World) (hv:SlE w cPr 2 v l) (hn:l.length<=1048576) :
 Calls Try.prog 109 #[v] w fun e w'=>e=.returned (.bool (arePL l))/\Below w.heap.size w w':=by
 have hsl:=hv
 obtain ⟨A,c,rfl,hl,hm,-⟩:=hv
 unfold maxLen at hm
 have hin:∀ (n:Int) (w:World),Calls Try.prog 80 #[.int .i64 n,.int .i64 0,.int .i64 4] w fun e w'=>e=.returned (.bool (wi n 0 4))/\Below w.heap.size w w':=fun n w=>by
  refine (within_any n 0 4 w).mono ?_
  rintro e w' ⟨rfl,rfl⟩
  exact ⟨rfl,Below.refl _ _⟩
 obtain ⟨R,hR⟩:∃ R,R=arePL l:=⟨_,rfl⟩
 rw [<- hR]
 have HR:=Hd_ hR
 have HSL:=Hd_ hsl
 have HIN:=Hd_ hin
 clear hR hsl hin
 go_enter Try.func109,Try.ntmps109
 go_wp2_with fail
 go_loopw [7] (fun ii wr=>∃ (i:Nat) (u:World),i<=l.length/\ii=.int .i64 (i:Int)/\(List.range i).all (prAt l)=true/\wr=ext w u) (fun ii _=>l.length - (intOf ii).toNat)
 case atStart=>exact ⟨0,_,Nat.zero_le _,rfl,rfl,ext_self _⟩
 case round =>
  obtain ⟨i,u,hi,rfl,hall,rfl⟩:=hrel
  have HA:=Hd_ hall
  clear hall
  by_cases hlt:i < l.length
  · have hxi:l[i]?=some l[i]:=List.getElem?_eq_getElem hlt
    generalize l[i]=x at hxi
    obtain ⟨b,o,rfl,⟨-,hb⟩,d0,d1⟩:=HSL.out.prA hxi
    obtain ⟨x1,x2⟩:=x
    simp only at d0 d1
    have HX:=Hd_ hxi
    have hii:(i:Int) < (l.length:Int):=by omega
    clear hxi
    have hbx:∀ o u2,∃ z,ext ((ext w u).alloc o) u2=ext w z:=fun o u2=>ext_of (below_trans (ext_below _ _) (below_trans ((Below.refl _ _).alloc (Nat.le_refl _) _) (ext_below _ _)))
    cases g1:wi x1 0 4 with
    | false =>
      have G1:=Hd_ g1
      have hfin:R=false:=by rw [HR.out];exact range_all_false hlt (by rw [prAt,HX.out];simp [G1.out])
      have HF:=Hd_ hfin
      clear hfin
      go_wp2_with fail
      refine wp_region_ext_lit (by kernel_rfl) (by kernel_rfl) ?_
      repeat (go_big_quiet_step ((first | (go_at_call 80;exact Calls.ext_of (HIN.out _ _)))))
      refine wpQuiet_nil ?_
      rintro _ ⟨u2,rfl⟩
      go_wp2_with fail
      go_ret
      exact ⟨by rw [HF.out];rfl,(below_trans (ext_below _ _) (below_trans ((Below.refl _ _).alloc (Nat.le_refl _) _) (ext_below _ _)))⟩
    | true =>
      have G1:=Hd_ g1
      cases g2:wi x2 0 4 with
      | false =>
        have G2:=Hd_ g2
        have hfin:R=false:=by rw [HR.out];exact range_all_false hlt (by rw [prAt,HX.out];simp [G1.out,G2.out])
        have HF:=Hd_ hfin
        clear hfin
        go_wp2_with fail
        refine wp_region_ext_lit (by kernel_rfl) (by kernel_rfl) ?_
        repeat (go_big_quiet_step ((first | (go_at_call 80;exact Calls.ext_of (HIN.out _ _)))))
        refine wpQuiet_nil ?_
        rintro _ ⟨u2,rfl⟩
        go_wp2_with fail
        go_ret
        exact ⟨by rw [HF.out];rfl,(below_trans (ext_below _ _) (below_trans ((Below.refl _ _).alloc (Nat.le_refl _) _) (ext_below _ _)))⟩
      | true =>
        have G2:=Hd_ g2
        by_cases hi0:i=0
        · subst hi0
          simp only [Nat.zero_mul,Nat.add_zero,Nat.zero_add] at d0 d1
          have hat:prAt l 0=true:=by rw [prAt,HX.out];simp [G1.out,G2.out]
          have HAT:=Hd_ hat
          clear hat
          go_wp2_with fail
          refine wp_region_ext_lit (by kernel_rfl) (by kernel_rfl) ?_
          repeat (go_big_quiet_step ((first | (go_at_call 80;exact Calls.ext_of (HIN.out _ _)))))
          refine wpQuiet_nil ?_
          rintro _ ⟨u2,rfl⟩
          go_wp2_with fail
          go_roundw
          case rel =>
           obtain ⟨z,hz⟩:=hbx _ u2
           exact ⟨1,z,by omega,by go_num,range_all_succ HA.out HAT.out,hz⟩
          case measure=>simp [intOf];omega
        · have hi1:0 < i:=by omega
          have hxj:l[i - 1]?=some l[i - 1]:=List.getElem?_eq_getElem (by omega)
          generalize l[i - 1]=p at hxj
          obtain ⟨b9,o9,ho9,-,p0,p1⟩:=HSL.out.prA hxj
          obtain ⟨rfl,rfl⟩:b=b9/\o=o9:=by injection ho9 with h1;injection h1 with h1 h2;exact ⟨h1,h2⟩
          obtain ⟨y1,y2⟩:=p
          simp only at p0 p1
          have HXJ:=Hd_ hxj
          have hb1':b < w.heap.size+1:=by omega
          have hi00:((i:Int) > 0):=by omega
          clear hxj ho9
          have h3:∀ w:World,Calls Try.prog 119 #[.agg #[.int .i64 y1,.int .i64 y2],.agg #[.int .i64 x1,.int .i64 x2]] w fun e w'=>e=.returned (.int .i64 (cmpP (y1,y2) (x1,x2)))/\Below w.heap.size w w':=fun w=>by
           refine (comparePairs_any (y1,y2) (x1,x2) w).mono ?_
           rintro e w' ⟨rfl,rfl⟩
           exact ⟨rfl,((Below.refl _ _).alloc (Nat.le_refl _) _).alloc (by simp) _⟩
          have hco:=ltOf_cmp (y1,y2) (x1,x2)
          rw [ltOf] at hco
          generalize cmpP (y1,y2) (x1,x2)=cc at h3 hco
          cases gl:ltP (y1,y2) (x1,x2) with
          | false =>
            rw [gl] at hco
            have GL:=Hd_ gl
            clear gl
            have hge:decide (cc >= 0)=true:=by simp only [decide_eq_false_iff_not,decide_eq_true_eq] at hco ⊢;omega
            clear hco
            have hfin:R=false:=by rw [HR.out];exact range_all_false hlt (by rw [prAt,HX.out];simp [G1.out,G2.out,HXJ.out,hi0,GL.out])
            have HF:=Hd_ hfin
            clear hfin
            go_wp2_with fail
            have q1:IntKind.i64.wrap ((i:Int) - 1)=(i:Int) - 1:=IntWalk.i64_in _ (by omega)
            have q2:0<=(i:Int) - 1:=by omega
            have q3:(i:Int) - 1 < (l.length:Int):=by omega
            have q4:((i:Int) - 1).toNat=i - 1:=by omega
            refine wp_region_ext_lit (by kernel_rfl) (by kernel_rfl) ?_
            repeat (go_big_quiet_step ((first | (go_at_call 80;exact Calls.ext_of (HIN.out _ _)) | (go_at_call 119;exact Calls.ext_of (h3 _)))))
            refine wpQuiet_nil ?_
            rintro _ ⟨u2,rfl⟩
            clear q1 q2 q3 q4
            go_wp2_with fail
            go_ret
            exact ⟨by rw [HF.out];rfl,(below_trans (ext_below _ _) (below_trans ((Below.refl _ _).alloc (Nat.le_refl _) _) (ext_below _ _)))⟩
          | true =>
            rw [gl] at hco
            have GL:=Hd_ gl
            clear gl
            have hge:decide (cc >= 0)=false:=by simp only [decide_eq_false_iff_not,decide_eq_true_eq] at hco ⊢;omega
            clear hco
            have hat:prAt l i=true:=by rw [prAt,HX.out];simp [G1.out,G2.out,HXJ.out,GL.out]
            have HAT:=Hd_ hat
            clear hat
            go_wp2_with fail
            have q1:IntKind.i64.wrap ((i:Int) - 1)=(i:Int) - 1:=IntWalk.i64_in _ (by omega)
            have q2:0<=(i:Int) - 1:=by omega
            have q3:(i:Int) - 1 < (l.length:Int):=by omega
            have q4:((i:Int) - 1).toNat=i - 1:=by omega
            refine wp_region_ext_lit (by kernel_rfl) (by kernel_rfl) ?_
            repeat (go_big_quiet_step ((first | (go_at_call 80;exact Calls.ext_of (HIN.out _ _)) | (go_at_call 119;exact Calls.ext_of (h3 _)))))
            refine wpQuiet_nil ?_
            rintro _ ⟨u2,rfl⟩
            clear q1 q2 q3 q4
            go_wp2_with fail
            go_roundw
            case rel =>
             obtain ⟨z,hz⟩:=hbx _ u2
             exact ⟨i+1,z,by omega,by go_num,range_all_succ HA.out HAT.out,hz⟩
            case measure=>simp [intOf];omega
  · obtain rfl:i=l.length:=by omega
    have hfin:R=true:=by rw [HR.out];exact HA.out
    have HF:=Hd_ hfin
    clear hfin
    go_wp2_with fail
    go_ret
    exact ⟨by rw [HF.out];rfl,ext_below _ _⟩
set_option maxHeartbeats 2000000 in
set_option maxRecDepth 100000 in
theorem specAre (v:Value) (l:List Pr) (w:World) (hv:SlE w cPr 2 v l) (hn:l.length<=1048576) :
 Calls Try.prog 105 #[v] w fun e w'=>e=.returned (.bool (arePL l))/\Below w.heap.size w w':=by
 have hsl:=hv
 obtain ⟨A,c,rfl,hl,hm,-⟩:=hv
 unfold maxLen at hm
 have hin:∀ (n:Int) (w:World),Calls Try.prog 63 #[.int .i64 n,.int .i64 0,.int .i64 4] w fun e w'=>e=.returned (.bool (wi n 0 4))/\Below w.heap.size w w':=fun n w=>by
  refine (l1In_any n 0 4 w).mono ?_
  rintro e w' ⟨rfl,rfl⟩
  exact ⟨rfl,Below.refl _ _⟩
 obtain ⟨R,hR⟩:∃ R,R=arePL l:=⟨_,rfl⟩
 rw [<- hR]
 have HR:=Hd_ hR
 have HSL:=Hd_ hsl
 have HIN:=Hd_ hin
 clear hR hsl hin
 go_enter Try.func105,Try.ntmps105
 go_wp2_with fail
 go_loopw [3] (fun ii wr=>∃ (i:Nat) (u:World),i<=l.length/\ii=.int .i64 (i:Int)/\(List.range i).all (prAt l)=true/\wr=ext w u) (fun ii _=>l.length - (intOf ii).toNat)
 case atStart=>exact ⟨0,_,Nat.zero_le _,rfl,rfl,ext_self _⟩
 case round =>
  obtain ⟨i,u,hi,rfl,hall,rfl⟩:=hrel
  have HA:=Hd_ hall
  clear hall
  by_cases hlt:i < l.length
  · have hxi:l[i]?=some l[i]:=List.getElem?_eq_getElem hlt
    generalize l[i]=x at hxi
    obtain ⟨b,o,rfl,⟨-,hb⟩,d0,d1⟩:=HSL.out.prA hxi
    obtain ⟨x1,x2⟩:=x
    simp only at d0 d1
    have HX:=Hd_ hxi
    have hii:(i:Int) < (l.length:Int):=by omega
    clear hxi
    have hbx:∀ u2,∃ z,ext (ext w u) u2=ext w z:=fun u2=>ext_of (below_trans (ext_below _ _) (ext_below _ _))
    cases g1:wi x1 0 4 with
    | false =>
      have G1:=Hd_ g1
      have hfin:R=false:=by rw [HR.out];exact range_all_false hlt (by rw [prAt,HX.out];simp [G1.out])
      have HF:=Hd_ hfin
      clear hfin
      go_wp2_with fail
      refine wp_region_ext_lit (by kernel_rfl) (by kernel_rfl) ?_
      repeat (go_big_quiet_step ((first | (go_at_call 63;exact Calls.ext_of (HIN.out _ _)))))
      refine wpQuiet_nil ?_
      rintro _ ⟨u2,rfl⟩
      go_wp2_with fail
      go_ret
      exact ⟨by rw [HF.out];rfl,(below_trans (ext_below _ _) (ext_below _ _))⟩
    | true =>
      have G1:=Hd_ g1
      cases g2:wi x2 0 4 with
      | false =>
        have G2:=Hd_ g2
        have hfin:R=false:=by rw [HR.out];exact range_all_false hlt (by rw [prAt,HX.out];simp [G1.out,G2.out])
        have HF:=Hd_ hfin
        clear hfin
        go_wp2_with fail
        refine wp_region_ext_lit (by kernel_rfl) (by kernel_rfl) ?_
        repeat (go_big_quiet_step ((first | (go_at_call 63;exact Calls.ext_of (HIN.out _ _)))))
        refine wpQuiet_nil ?_
        rintro _ ⟨u2,rfl⟩
        go_wp2_with fail
        go_ret
        exact ⟨by rw [HF.out];rfl,(below_trans (ext_below _ _) (ext_below _ _))⟩
      | true =>
        have G2:=Hd_ g2
        by_cases hi0:i=0
        · subst hi0
          simp only [Nat.zero_mul,Nat.add_zero,Nat.zero_add] at d0 d1
          have hat:prAt l 0=true:=by rw [prAt,HX.out];simp [G1.out,G2.out]
          have HAT:=Hd_ hat
          clear hat
          go_wp2_with fail
          refine wp_region_ext_lit (by kernel_rfl) (by kernel_rfl) ?_
          repeat (go_big_quiet_step ((first | (go_at_call 63;exact Calls.ext_of (HIN.out _ _)))))
          refine wpQuiet_nil ?_
          rintro _ ⟨u2,rfl⟩
          go_wp2_with fail
          go_roundw
          case rel =>
           obtain ⟨z,hz⟩:=hbx u2
           exact ⟨1,z,by omega,by go_num,range_all_succ HA.out HAT.out,hz⟩
          case measure=>simp [intOf];omega
        · have hi1:0 < i:=by omega
          have hxj:l[i - 1]?=some l[i - 1]:=List.getElem?_eq_getElem (by omega)
          generalize l[i - 1]=p at hxj
          obtain ⟨b9,o9,ho9,-,p0,p1⟩:=HSL.out.prA hxj
          obtain ⟨rfl,rfl⟩:b=b9/\o=o9:=by injection ho9 with h1;injection h1 with h1 h2;exact ⟨h1,h2⟩
          obtain ⟨y1,y2⟩:=p
          simp only at p0 p1
          have HXJ:=Hd_ hxj
          have hb1':b < w.heap.size+1:=by omega
          have hi00:((i:Int) > 0):=by omega
          clear hxj ho9
          have h3:=l15Less_any (y1,y2) (x1,x2)
          simp only at h3
          cases gl:ltP (y1,y2) (x1,x2) with
          | false =>
            rw [gl] at h3
            have GL:=Hd_ gl
            clear gl
            have hfin:R=false:=by rw [HR.out];exact range_all_false hlt (by rw [prAt,HX.out];simp [G1.out,G2.out,HXJ.out,hi0,GL.out])
            have HF:=Hd_ hfin
            clear hfin
            go_wp2_with fail
            have q1:IntKind.i64.wrap ((i:Int) - 1)=(i:Int) - 1:=IntWalk.i64_in _ (by omega)
            have q2:0<=(i:Int) - 1:=by omega
            have q3:(i:Int) - 1 < (l.length:Int):=by omega
            have q4:((i:Int) - 1).toNat=i - 1:=by omega
            refine wp_region_ext_lit (by kernel_rfl) (by kernel_rfl) ?_
            repeat (go_big_quiet_step ((first | (go_at_call 63;exact Calls.ext_of (HIN.out _ _)) | (go_at_call 116;exact Calls.ext_of (h3 _)))))
            refine wpQuiet_nil ?_
            rintro _ ⟨u2,rfl⟩
            clear q1 q2 q3 q4
            go_wp2_with fail
            go_ret
            exact ⟨by rw [HF.out];rfl,(below_trans (ext_below _ _) (ext_below _ _))⟩
          | true =>
            rw [gl] at h3
            have GL:=Hd_ gl
            clear gl
            have hat:prAt l i=true:=by rw [prAt,HX.out];simp [G1.out,G2.out,HXJ.out,GL.out]
            have HAT:=Hd_ hat
            clear hat
            go_wp2_with fail
            have q1:IntKind.i64.wrap ((i:Int) - 1)=(i:Int) - 1:=IntWalk.i64_in _ (by omega)
            have q2:0<=(i:Int) - 1:=by omega
            have q3:(i:Int) - 1 < (l.length:Int):=by omega
            have q4:((i:Int) - 1).toNat=i - 1:=by omega
            refine wp_region_ext_lit (by kernel_rfl) (by kernel_rfl) ?_
            repeat (go_big_quiet_step ((first | (go_at_call 63;exact Calls.ext_of (HIN.out _ _)) | (go_at_call 116;exact Calls.ext_of (h3 _)))))
            refine wpQuiet_nil ?_
            rintro _ ⟨u2,rfl⟩
            clear q1 q2 q3 q4
            go_wp2_with fail
            go_roundw
            case rel =>
             obtain ⟨z,hz⟩:=hbx u2
             exact ⟨i+1,z,by omega,by go_num,range_all_succ HA.out HAT.out,hz⟩
            case measure=>simp [intOf];omega
  · obtain rfl:i=l.length:=by omega
    have hfin:R=true:=by rw [HR.out];exact HA.out
    have HF:=Hd_ hfin
    clear hfin
    go_wp2_with fail
    go_ret
    exact ⟨by rw [HF.out];rfl,ext_below _ _⟩
end Go.Proofs.Ytloeghbhoflabaa
