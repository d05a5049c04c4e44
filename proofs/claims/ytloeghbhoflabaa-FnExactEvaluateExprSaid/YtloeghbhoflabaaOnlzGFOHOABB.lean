/- Parts of the proof, joined into one text: Rows2, Nest, LawKit, HelpToken, HelpExpr, HelpPair, ExprM, AutS, Toks, AutI, SetI, TokI, Tokx, HeldL. -/
import Derived.Test.YtloeghbhoflabaaOnlzAHMCLFHH
import Derived.Deep.RegionHeld3
import Derived.Deep.AppendLies
import Derived.Laws.StructEq
set_option linter.unusedVariables false
set_option linter.unusedSimpArgs false
namespace Go.Proofs.Ytloeghbhoflabaa
open Go.ChangeShapes Go.WideShapes Go.ChangeAt Go.RowKit
section
variable {α:Type} {w w':World} {base:Nat} {oT rT e:TypeId} {E:α->List Value} {k:Nat} {g:Nat} {hs:List Value} {xss:List (List α)} {v:Value} {n:Nat} {cs:List Value}
theorem ownsRow_block (h:w.ownsRow base e k v n cs) (hb:∀ g,v.ownBlock=some g->w'.heap[g]?=w.heap[g]?):w'.ownsRow base e k v n cs:=by
 obtain ⟨hl,h⟩:=h
 refine ⟨hl,?_⟩
 rcases h with h | ⟨g,cap,cur,rfl,hg,hh,r⟩
 · exact .inl h
 · exact .inr ⟨g,cap,cur,rfl,hg,(hb g rfl).trans hh,r⟩
theorem ownsRow_mono (h:w.ownsRow base e k v n cs) {b:Nat} (hb:b<=base):w.ownsRow b e k v n cs:=by
 obtain ⟨hl,h⟩:=h
 refine ⟨hl,?_⟩
 rcases h with h | ⟨g,cap,cur,rfl,hg,r⟩
 · exact .inl h
 · exact .inr ⟨g,cap,cur,rfl,by omega,r⟩
structure Rws {α:Type} (w:World) (base:Nat) (oT rT:TypeId) (E:α->List Value) (k:Nat) (g:Nat) (hs:List Value) (xss:List (List α)):Prop where
 own:w.ownsRow g oT 1 (.slice (some ⟨g,0,none⟩) hs.length hs.length) hs.length hs
 len:hs.length=xss.length
 row:∀ (i:Nat) (h:Value) (xs:List α),hs[i]?=some h->xss[i]?=some xs->w.ownsRow base rT k h xs.length (xs.flatMap E)
 far:∀ (i:Nat) (h:Value),hs[i]?=some h->h.ownBlock ≠ some g
 apart:∀ (i j:Nat) (h h':Value),i ≠ j->hs[i]?=some h->hs[j]?=some h'->h.ownBlock=none ∨ h.ownBlock ≠ h'.ownBlock
theorem Rws.blocks (h:Rws w base oT rT E k g hs xss) (hb:∀ b,(b=g ∨ base<=b)->b < w.heap.size->w'.heap[b]?=w.heap[b]?):Rws w' base oT rT E k g hs xss:=by
 refine ⟨ownsRow_block h.own fun b hb'=>hb b (.inl (by simpa [Value.ownBlock] using hb'.symm)) (h.own.lt b hb').2,h.len,fun i v xs hi hx=>?_,h.far,h.apart⟩
 have:=h.row i v xs hi hx
 exact ownsRow_block this fun b hb'=>hb b (.inr (this.lt b hb').1) (this.lt b hb').2
theorem Rws.below (h:Rws w base oT rT E k g hs xss) (hb:Below w.heap.size w w'):Rws w' base oT rT E k g hs xss:=h.blocks fun b _ hlt=>hb.block b hlt
theorem Rws.gLt (h:Rws w base oT rT E k g hs xss):g<=g/\g < w.heap.size:=h.own.lt g rfl
theorem Rws.cell (h:Rws w base oT rT E k g hs xss) {i:Nat} {v:Value} (hi:hs[i]?=some v):w.cell? ⟨g,i,none⟩=some v :=
 (World.ownsRow.cellAt h.own i (by have:=(List.getElem?_eq_some_iff.1 hi).1;omega)).trans hi
theorem Rws.frozen (h:Rws w base oT rT E k g hs xss) (i:Nat):w.frozen? ⟨g,i,none⟩=false:=World.ownsRow.frozenAt h.own i
theorem Rws.made (h:w.ownsRow g oT 1 (.slice (some ⟨g,0,none⟩) n n) n ((List.replicate n (Value.slice none 0 0)).flatMap cV)):Rws w base oT rT E k g (List.replicate n (.slice none 0 0)) (List.replicate n ([]:List α)):=by
 have hf:∀ n,(List.replicate n (Value.slice none 0 0)).flatMap cV=List.replicate n (.slice none 0 0):=by
  intro n
  induction n with
  | zero=>rfl
  | succ n ih=>rw [List.replicate_succ,List.flatMap_cons,ih];rfl
 have hv:∀ {i:Nat} {h:Value},(List.replicate n (Value.slice none 0 0))[i]?=some h->h=.slice none 0 0:=by
  intro i h hi
  rw [List.getElem?_replicate] at hi
  split at hi
  · injection hi with hi;exact hi.symm
  · cases hi
 rw [hf] at h
 refine ⟨by simpa using h,by simp,fun i h xs hi hx=>?_,fun i h hi=>?_,fun i j h h' _ hi _=>.inl ?_⟩
 · have:=hv hi
   subst this
   have hx':xs=[]:=by
    rw [List.getElem?_replicate] at hx
    split at hx
    · injection hx with hx;exact hx.symm
    · cases hx
   subst hx'
   exact World.ownsRow_nil w base rT k
 · have:=hv hi
   subst this
   simp [Value.ownBlock]
 · have:=hv hi
   subst this
   rfl
/-- row i grows by x: the append law's words, then the store of the new header -/
theorem Rws.push (h:Rws w base oT rT E k g hs xss) {i:Nat} {hv:Value} {xs:List α} {x:α} {v':Value} {g2:Nat} (hi:hs[i]?=some hv) (hx:xss[i]?=some xs)
 (hown:w'.ownsRow base rT k v' (xs ++ [x]).length ((xs ++ [x]).flatMap E)) (hg:w.grownBy w' hv.ownBlock) (hv':v'.ownBlock=some g2) (hat:hv.ownBlock=some g2 ∨ w.heap.size<=g2) :
 Rws (w'.setCell ⟨g,i,none⟩ v') base oT rT E k g (hs.set i v') (xss.set i (xs ++ [x])):=by
 have hgl:=h.gLt
 have hil:=(List.getElem?_eq_some_iff.1 hi).1
 have hfar:=h.far i hv hi
 have hg2:g2 ≠ g:=by
  rcases hat with h1 | h1
  · intro e;subst e;exact hfar h1
  · omega
 have hset:∀ b,b ≠ g->(w'.setCell ⟨g,i,none⟩ v').heap[b]?=w'.heap[b]?:=fun b hb=>Below.heap_setCell _ _ _ _ hb
 have ho1:w'.ownsRow g oT 1 (.slice (some ⟨g,0,none⟩) hs.length hs.length) hs.length hs:=h.own.kept hg (.inr (by simpa [Value.ownBlock] using Ne.symm hfar))
 have ho2:=(World.ownsRow.stored ho1 i v').1
 refine ⟨by simpa using ho2,by simp [h.len],fun j u ys hj hy=>?_,fun j u hj=>?_,fun j l u u' hjl hj hl=>?_⟩
 · rw [List.getElem?_set] at hj hy
   by_cases e:i=j
   · subst e
     rw [if_pos rfl] at hj hy
     rw [if_pos hil] at hj
     rw [if_pos (by rw [<- h.len];exact hil)] at hy
     injection hj with hj
     injection hy with hy
     subst hj hy
     exact ownsRow_block hown fun b hb=>hset b (by rw [hv'] at hb;injection hb with hb;omega)
   · rw [if_neg e] at hj hy
     have hr:=h.row j u ys hj hy
     have hr2:w'.ownsRow base rT k u ys.length (ys.flatMap E):=hr.kept hg (h.apart j i u hv (Ne.symm e) hj hi)
     exact ownsRow_block hr2 fun b hb=>hset b (by intro e2;subst e2;exact h.far j u hj hb)
 · rw [List.getElem?_set] at hj
   by_cases e:i=j
   · subst e
     rw [if_pos rfl,if_pos hil] at hj
     injection hj with hj
     subst hj
     rw [hv']
     simpa using hg2
   · rw [if_neg e] at hj
     exact h.far j u hj
 · have hold:∀ (j:Nat) (u:Value),j ≠ i->hs[j]?=some u->u.ownBlock=none ∨ u.ownBlock ≠ some g2:=by
    intro j u hji hj
    rcases hat with h1 | h1
    · rcases h.apart j i u hv hji hj hi with h2 | h2
      · exact .inl h2
      · rw [h1] at h2;exact .inr h2
    · cases hu:u.ownBlock with
      | none=>exact .inl rfl
      | some b =>
        refine .inr ?_
        have hjl:=(List.getElem?_eq_some_iff.1 hj).1
        have hjx:j < xss.length:=by rw [<- h.len];exact hjl
        have hr:=h.row j u xss[j] hj (List.getElem?_eq_getElem hjx)
        have:=(hr.lt b hu).2
        simp only [ne_eq,Option.some.injEq]
        omega
   rw [List.getElem?_set] at hj hl
   by_cases e:i=j
   · subst e
     rw [if_neg hjl] at hl
     rw [if_pos rfl,if_pos hil] at hj
     injection hj with hj
     subst hj
     refine .inr ?_
     rw [hv']
     rcases hold l u' (Ne.symm hjl) hl with h1 | h1
     · rw [h1];simp
     · exact Ne.symm h1
   · rw [if_neg e] at hj
     by_cases e2:i=l
     · subst e2
       rw [if_pos rfl,if_pos hil] at hl
       injection hl with hl
       subst hl
       rw [hv']
       exact hold j u (Ne.symm e) hj
     · rw [if_neg e2] at hl
       exact h.apart j l u u' hjl hj hl
/-- a slice of slices of E's that is only read; its blocks lie from lo to hi -/
def SSE {α:Type} (lo hi:Nat) (w:World) (E:α->List Value) (k:Nat) (v:Value) (xss:List (List α)):Prop :=
 ∃ A c,v=.slice A xss.length c/\xss.length<=c/\c<=9223372036854775807 /\
   ∀ (i:Nat) (xs:List α),xss[i]?=some xs->∃ b o u,A=some ⟨b,o,none⟩/\lo<=b/\b < hi/\w.cell? ⟨b,o+i,none⟩=some u/\SlI lo hi w E k u xs
theorem SSE.keep_ {lo hi:Nat} {v:Value} (h:SSE lo hi w E k v xss) (hb:∀ b o,lo<=b->b < hi->w'.cell? ⟨b,o,none⟩=w.cell? ⟨b,o,none⟩):SSE lo hi w' E k v xss:=by
 obtain ⟨A,c,h1,h2,h3,h4⟩:=h
 refine ⟨A,c,h1,h2,h3,fun i xs hx=>?_⟩
 obtain ⟨b,o,u,g1,g2,g3,g4,g5⟩:=h4 i xs hx
 exact ⟨b,o,u,g1,g2,g3,(hb _ _ g2 g3).trans g4,g5.keep_ hb⟩
theorem SSE.below {lo hi:Nat} {v:Value} (h:SSE lo hi w E k v xss) {B:Nat} (hb:Below B w w') (hB:hi<=B):SSE lo hi w' E k v xss:=h.keep_ fun b o _ h2=>hb.cell (p:=⟨b,o,none⟩) (show b < B by omega)
theorem SSE.only {lo hi l r:Nat} {v:Value} (h:SSE lo hi w E k v xss) (hb:Only l r w w') (hh:hi<=w.heap.size) (ho:hi<=l ∨ r<=lo):SSE lo hi w' E k v xss :=
 h.keep_ fun b o h1 h2=>hb.cell (p:=⟨b,o,none⟩) (show b < _ by omega) (show b < l ∨ r<=b by omega)
theorem SSE.mono {lo hi lo' hi':Nat} {v:Value} (h:SSE lo hi w E k v xss) (h1:lo'<=lo) (h2:hi<=hi'):SSE lo' hi' w E k v xss:=by
 obtain ⟨A,c,e1,e2,e3,h4⟩:=h
 refine ⟨A,c,e1,e2,e3,fun i xs hx=>?_⟩
 obtain ⟨b,o,u,g1,g2,g3,g4,g5⟩:=h4 i xs hx
 exact ⟨b,o,u,g1,by omega,by omega,g4,g5.mono h1 h2⟩
theorem SSE.keep {v:Value} (h:SSE 0 w.heap.size w E k v xss) (hb:Below w.heap.size w w'):SSE 0 w'.heap.size w' E k v xss:=(h.below hb (Nat.le_refl _)).mono (Nat.le_refl _) hb.size
theorem SSE.shape {lo hi:Nat} {v:Value} (h:SSE lo hi w E k v xss):∃ A c,v=.slice A xss.length c/\xss.length<=c/\c<=9223372036854775807:=by
 obtain ⟨A,c,e1,e2,e3,_⟩:=h
 exact ⟨A,c,e1,e2,e3⟩
/-- row i, as a walk wants it -/
theorem SSE.row {lo hi:Nat} {A:Option Addr} {n c:Nat} (h:SSE lo hi w E k (.slice A n c) xss) (hh:hi<=w.heap.size) {i:Nat} {xs:List α} (hx:xss[i]?=some xs) :
 ∃ b o A3 c3,A=some ⟨b,o,none⟩/\lo<=b/\b < hi/\w.cell? ⟨b,o+i,none⟩=some (.slice A3 xs.length c3)/\xs.length<=c3/\c3<=9223372036854775807/\SlI lo hi w E k (.slice A3 xs.length c3) xs/\SlC w.heap.size w E k A3 xs:=by
 obtain ⟨A',c',e1,e2,e3,h4⟩:=h
 obtain ⟨b,o,u,g1,g2,g3,g4,g5⟩:=h4 i xs hx
 injection e1 with e1 _ _
 subst e1
 obtain ⟨A3,c3,rfl,f1,f2,f3⟩:=SlE.form (g5.all hh)
 exact ⟨b,o,A3,c3,g1,g2,g3,g4,f1,f2,g5,f3⟩
theorem Rws.sse (h:Rws w base oT rT E k g hs xss) (hE:∀ x,(E x).length=k) {lo:Nat} (h1:lo<=g) (h2:lo<=base):SSE lo w.heap.size w E k (.slice (some ⟨g,0,none⟩) hs.length hs.length) xss:=by
 have hgl:=h.gLt
 refine ⟨some ⟨g,0,none⟩,hs.length,by rw [h.len],by rw [h.len];exact Nat.le_refl _,?_,fun i xs hx=>?_⟩
 · obtain ⟨_,h1⟩:=h.own
   rcases h1 with ⟨h1,_⟩ | ⟨g',cap,cur,h1,_,_,h2,h3,_⟩
   · cases h1
   · unfold maxLen at h3
     omega
 · have hil:=(List.getElem?_eq_some_iff.1 hx).1
   have hih:i < hs.length:=by rw [h.len];exact hil
   have hi:hs[i]?=some hs[i]:=List.getElem?_eq_getElem hih
   have hr:Own base w.heap.size w rT E k hs[i] xs:=⟨h.row i _ xs hi hx,fun g hg=>((h.row i _ xs hi hx).lt g hg).2⟩
   exact ⟨g,0,hs[i],rfl,h1,hgl.2,by rw [Nat.zero_add,h.cell hi],(hr.sl hE).mono h2 (Nat.le_refl _)⟩
end
section
variable {P:Program} {w:World}
/-- append(s, x) at a step of a region that draws its order; the one element lies in block H -/
theorem step_append1 {α:Type} (E:α->List Value) {ops:Array Oper} {o:Oper} {a:Act} {K:Act->World->Prop} {Q:Exit->Act->World->Prop} {EE:Prop} {t e:TypeId} {z:Value} {k bytes:Nat} (el:ElemOk P t e z k bytes)
 (hgd:o.guard=none) (s y:Operand) (ho:o.op=.call { callee:=.builtin .append,args:=#[s,y],argTypes:=#[t,t] })
 (base:Nat) (v:Value) (xs:List α) (x:α) (c H:Nat) (hs:a.eval s=v) (hown:w.ownsRow base e k v xs.length (xs.flatMap E)) (hy:a.eval y=.slice (some ⟨H,0,none⟩) 1 c)
 (hH:w.heap[H]?=some (.cells (E x).toArray e (0,0))) (hE:(E x).length=k) (h1:∀ u ∈ E x,u.oneCell'=true) (hbytes:(xs.length+1) * bytes<=140737488355328) (hb0:0 < bytes) (hbase:base<=w.heap.size)
 (h:∀ g cap w',w'.ownsRow base e k (.slice (some ⟨g,0,none⟩) (xs.length+1) cap) (xs ++ [x]).length ((xs ++ [x]).flatMap E)->w.grownBy w' v.ownBlock->(v.ownBlock=some g ∨ w.heap.size<=g)->g < w'.heap.size ->
  K (a.put o.dst (.slice (some ⟨g,0,none⟩) (xs.length+1) cap)) w') :
 if Region.wanted o (yielded ops a.tmps)=true then Oper.wp P o a w K Q else EE:=by
 obtain ⟨i,hi,hz0,hz1,hz2⟩:=info_parts el.info
 have hlen:xs.length+1<=140737488355328:=Nat.le_trans (Nat.le_mul_of_pos_right _ hb0) hbytes
 refine step_append_lies w hgd s y t ho base e i z k bytes el.und hi hz0 hz1 hz2 el.zc el.pos v xs.length (xs.flatMap E) hs hown ⟨H,0,none⟩ 1 c (E x) hy (by rw [hE,Nat.one_mul])
  (by have:=World.news_of_block hH;simpa using this) h1 (by omega) (by unfold maxLen;omega) hbytes hbase w.heap.size rfl fun g cap w' h2 h3 h4 h5=>?_
 refine h g cap w' (by simpa using h2) h3 ?_ h5
 rcases h4 with h4 | h4
 · exact .inl h4
 · exact .inr (by omega)
end
theorem SlI.nat {lo hi:Nat} {w:World} {A:Option Addr} {n c:Nat} {xs:List Nat} (h:SlI lo hi w cN 1 (.slice A n c) xs) {i:Nat} {x:Nat} (hx:xs[i]?=some x) :
 ∃ b o,A=some ⟨b,o,none⟩/\lo<=b/\b < hi/\w.cell? ⟨b,o+i,none⟩=some (.int .i64 (x:Int)):=by
 obtain ⟨A',c',hv,_,_,h3⟩:=h
 injection hv with h1 _ _
 subst h1
 obtain ⟨b,o,e,g1,g2,hc⟩:=h3 i x hx
 exact ⟨b,o,e,g1,g2,by simpa using hc 0 _ rfl⟩
section
variable {H b o:Nat} {w:World}
end
theorem flatCV (l:List Value):l.flatMap cV=l:=by
 induction l with
 | nil=>rfl
 | cons x l ih=>rw [List.flatMap_cons,ih];rfl
/-- the blocks that slices hold -/
abbrev blks (us:List Value):List Nat:=us.filterMap Value.ownBlock
structure NS {α:Type} (lo:Nat) (w:World) (oT eT:TypeId) (E:α->List Value) (k:Nat) (v:Value) (us:List Value) (xss:List (List α)):Prop where
 own:w.ownsRow lo oT 1 v us.length (us.flatMap cV)
 len:us.length=xss.length
 rows:∀ (i:Nat) (u:Value) (xs:List α),us[i]?=some u->xss[i]?=some xs->w.ownsRow lo eT k u xs.length (xs.flatMap E)
 dis:(blks (v :: us)).Nodup
section
variable {α:Type} {lo:Nat} {w w':World} {oT eT:TypeId} {E:α->List Value} {k:Nat} {v:Value} {us:List Value} {xss:List (List α)}
theorem mem_blks {us:List Value} {b:Nat}:b ∈ blks us ↔ ∃ (i:Nat) (u:Value),us[i]?=some u/\u.ownBlock=some b:=by
 rw [List.mem_filterMap]
 constructor
 · rintro ⟨u,hu,hb⟩
   obtain ⟨i,hi⟩:=List.getElem?_of_mem hu
   exact ⟨i,u,hi,hb⟩
 · rintro ⟨i,u,hu,hb⟩
   exact ⟨u,List.mem_of_getElem? hu,hb⟩
theorem NS.lt (h:NS lo w oT eT E k v us xss):∀ b ∈ blks (v :: us),lo<=b/\b < w.heap.size:=by
 intro b hb
 obtain ⟨i,u,hu,hbu⟩:=mem_blks.1 hb
 cases i with
 | zero =>
   simp only [List.getElem?_cons_zero,Option.some.injEq] at hu
   subst hu
   exact h.own.lt b hbu
 | succ i =>
   rw [List.getElem?_cons_succ] at hu
   have hi:i < xss.length:=by rw [<- h.len];exact (List.getElem?_eq_some_iff.1 hu).1
   exact (h.rows i u _ hu (List.getElem?_eq_getElem hi)).lt b hbu
theorem NS.blocks (h:NS lo w oT eT E k v us xss) (hb:∀ b ∈ blks (v :: us),w'.heap[b]?=w.heap[b]?):NS lo w' oT eT E k v us xss :=
 ⟨ownsRow_block h.own fun g hg=>hb g (mem_blks.2 ⟨0,v,rfl,hg⟩),h.len,
  fun i u xs hu hx=>ownsRow_block (h.rows i u xs hu hx) fun g hg=>hb g (mem_blks.2 ⟨i+1,u,by simpa using hu,hg⟩),h.dis⟩
theorem NS.below (h:NS lo w oT eT E k v us xss) (hb:Below w.heap.size w w'):NS lo w' oT eT E k v us xss:=h.blocks fun b hm=>hb.block b (h.lt b hm).2
theorem NS.mono (h:NS lo w oT eT E k v us xss) {lo':Nat} (hl:lo'<=lo):NS lo' w oT eT E k v us xss :=
 ⟨ownsRow_mono h.own hl,h.len,fun i u xs hu hx=>ownsRow_mono (h.rows i u xs hu hx) hl,h.dis⟩
theorem NS.start (h:w.ownsRow lo oT 1 v 0 []):NS lo w oT eT E k v [] ([]:List (List α)) :=
 ⟨h,rfl,fun i u xs hu _=>by simp at hu,by cases hv:v.ownBlock <;> simp [hv]⟩
theorem NS.push (h:NS lo w oT eT E k v us xss) {u:Value} {xs:List α} (hu:w.ownsRow lo eT k u xs.length (xs.flatMap E)) (hn:∀ b,u.ownBlock=some b->b ∉ blks (v :: us))
 {v':Value} (hg:w.grownBy w' v.ownBlock) (hr:w'.ownsRow lo oT 1 v' (us ++ [u]).length ((us ++ [u]).flatMap cV)) (hat:∀ g,v'.ownBlock=some g->v.ownBlock=some g ∨ w.heap.size<=g) :
 NS lo w' oT eT E k v' (us ++ [u]) (xss ++ [xs]):=by
 have hdis:=h.dis
 have hkeep:∀ (u':Value) (n:Nat) (cs:List Value),w.ownsRow lo eT k u' n cs->(∀ b,u'.ownBlock=some b->v.ownBlock ≠ some b)->w'.ownsRow lo eT k u' n cs:=fun u' n cs ho hne=>by
  refine ho.kept hg ?_
  cases hb:u'.ownBlock with
  | none=>exact .inl rfl
  | some b=>exact .inr fun e=>hne b hb e.symm
 have hv0:∀ b,v.ownBlock=some b->b ∉ blks us:=fun b hb=>by
  rw [blks,List.filterMap_cons,hb] at hdis
  exact (List.nodup_cons.1 hdis).1
 refine ⟨hr,by simp [h.len],fun i u' xs' hi hx=>?_,?_⟩
 · rcases Nat.lt_or_ge i us.length with hlt | hge
   · rw [List.getElem?_append_left hlt] at hi
     rw [List.getElem?_append_left (by rw [<- h.len];exact hlt)] at hx
     exact hkeep _ _ _ (h.rows i u' xs' hi hx) fun b hb hvb=>hv0 b hvb (mem_blks.2 ⟨i,u',hi,hb⟩)
   · have hi2:=(List.getElem?_eq_some_iff.1 hi).1
     simp only [List.length_append,List.length_singleton] at hi2
     obtain rfl:i=us.length:=by omega
     have e1:u=u':=by simpa using hi
     have e2:xs=xs':=by rw [h.len] at hx;simpa using hx
     subst e1 e2
     exact hkeep _ _ _ hu fun b hb hvb=>hn b hb (mem_blks.2 ⟨0,v,rfl,hvb⟩)
 · have hlt:=h.lt
   have hus:(blks us).Nodup:=by
    cases hv:v.ownBlock with
    | none=>simpa [blks,List.filterMap_cons,hv] using hdis
    | some b=>rw [blks,List.filterMap_cons,hv] at hdis;exact (List.nodup_cons.1 hdis).2
   have hnu:∀ b,u.ownBlock=some b->b ∉ blks us:=fun b hb hm=>hn b hb (by
    obtain ⟨i,u',h1,h2⟩:=mem_blks.1 hm
    exact mem_blks.2 ⟨i+1,u',by simpa using h1,h2⟩)
   have hall:(blks (us ++ [u])).Nodup:=by
    rw [blks,List.filterMap_append]
    cases hub:u.ownBlock with
    | none=>simpa [List.filterMap_cons,hub] using hus
    | some b =>
      rw [List.filterMap_cons,hub]
      refine List.nodup_append.2 ⟨hus,by simp,?_⟩
      intro x hx y hy e
      simp only [List.filterMap_nil,List.mem_cons,List.not_mem_nil,or_false] at hy
      subst hy
      subst e
      exact hnu _ hub hx
   rw [blks,List.filterMap_cons]
   cases hv':v'.ownBlock with
   | none=>exact hall
   | some g =>
     refine List.nodup_cons.2 ⟨fun hm=>?_,hall⟩
     obtain ⟨i,u',hi,hb⟩:=mem_blks.1 hm
     rcases Nat.lt_or_ge i us.length with hl | hge
     · rw [List.getElem?_append_left hl] at hi
       rcases hat g hv' with h1 | h1
       · exact hv0 g h1 (mem_blks.2 ⟨i,u',hi,hb⟩)
       · have:=(hlt g (mem_blks.2 ⟨i+1,u',by simpa using hi,hb⟩)).2
         omega
     · have hi2:=(List.getElem?_eq_some_iff.1 hi).1
       simp only [List.length_append,List.length_singleton] at hi2
       obtain rfl:i=us.length:=by omega
       have e1:u=u':=by simpa using hi
       subst e1
       rcases hat g hv' with h1 | h1
       · exact hn g hb (mem_blks.2 ⟨0,v,rfl,h1⟩)
       · have:=(hu.lt g hb).2
         omega
/-- what is read of it: the header of row i, and the row -/
theorem NS.row (h:NS lo w oT eT E k v us xss) (hE:∀ x,(E x).length=k) {i:Nat} {xs:List α} (hx:xss[i]?=some xs) :
 ∃ g cap A c,v=.slice (some ⟨g,0,none⟩) xss.length cap/\us[i]?=some (.slice A xs.length c)/\g < w.heap.size/\w.cell? ⟨g,i,none⟩=some (.slice A xs.length c)/\xs.length<=c/\c<=maxLen/\SlI lo w.heap.size w E k (.slice A xs.length c) xs:=by
 have hi:i < us.length:=by rw [h.len];exact (List.getElem?_eq_some_iff.1 hx).1
 have hu:us[i]?=some us[i]:=List.getElem?_eq_getElem hi
 have hr:=h.rows i _ xs hu hx
 generalize us[i]=u at hu hr
 have hsl:=(Own.of_row (xs:=xs) hr rfl rfl).sl hE
 have hsl':=hsl
 obtain ⟨A,c,rfl,hl,hm,-⟩:=hsl'
 have hown:=h.own
 have hlt:=h.own.lt
 rw [flatCV] at hown
 have hown2:=hown
 obtain ⟨h1,h2⟩:=hown2
 rcases h2 with ⟨rfl,h3⟩ | ⟨g,cap,cur,rfl,r⟩
 · omega
 · refine ⟨g,cap,A,c,by rw [h.len],hu,(hlt g rfl).2,?_,hl,hm,hsl⟩
   rw [World.ownsRow.cellAt hown i (by omega)]
   exact hu
theorem NS.at (h:NS lo w oT eT E k v us xss) (hE:∀ x,(E x).length=k) {g n cap:Nat} (hv:v=.slice (some ⟨g,0,none⟩) n cap) {i:Nat} {xs:List α} (hx:xss[i]?=some xs) :
 ∃ A c,w.cell? ⟨g,i,none⟩=some (.slice A xs.length c)/\xs.length<=c/\c<=9223372036854775807/\SlI lo w.heap.size w E k (.slice A xs.length c) xs:=by
 obtain ⟨g',cap',A,c,hv',-,-,hc,h1,h2,h3⟩:=h.row hE hx
 rw [hv] at hv'
 injection hv' with e1 _ _
 injection e1 with e1
 injection e1 with e1
 subst e1
 exact ⟨A,c,hc,h1,h2,h3⟩
/-- a row that is not empty has a block of its own -/
theorem own_some {W:World} {base k n:Nat} {e:TypeId} {v:Value} {cs:List Value} (h:W.ownsRow base e k v n cs) (hn:n ≠ 0):∃ g c,v=.slice (some ⟨g,0,none⟩) n c/\base<=g/\g < W.heap.size/\n<=c/\c<=9223372036854775807:=by
 have hlt:=h.lt
 obtain ⟨h1,h2⟩:=h
 rcases h2 with ⟨rfl,h3⟩ | ⟨g,cap,cur,rfl,h4,h5,h6,h7,r⟩
 · exact absurd h3 hn
 · exact ⟨g,cap,rfl,h4,(hlt g rfl).2,h6,h7⟩
theorem NS.shape (h:NS lo w oT eT E k v us xss):∃ A c,v=.slice A xss.length c/\xss.length<=c/\c<=maxLen:=by
 obtain ⟨h1,h2⟩:=h.own
 rcases h2 with ⟨rfl,h3⟩ | ⟨g,cap,cur,rfl,h4,h5,h6,h7,r⟩
 · exact ⟨none,0,by rw [<- h.len,h3],by rw [<- h.len,h3];exact Nat.le_refl _,by unfold maxLen;omega⟩
 · exact ⟨_,cap,by rw [h.len],by rw [<- h.len];exact h6,h7⟩
end
end Go.Proofs.Ytloeghbhoflabaa
namespace Go.Proofs.Ytloeghbhoflabaa
open Go.ChangeShapes Go.WideShapes Go.ChangeAt Go.RowKit
attribute [local go_sem] ext_cell ext_frozen ext_lt ext_lt1 ext_lt2 ext_lt3 ltn2 ltn3 ltn13 lts1 lts2 lts3
theorem GrO.only {lo hi:Nat} {w w':World} {v:Value} {g:Gr} (h:GrO lo hi w v g) {l r:Nat} (hb:Only l r w w') (ho:hi<=l ∨ r<=lo):GrO lo hi w' v g:=by
 obtain ⟨vs,es,mid,rfl,h1,h2,h3,h4⟩:=h
 exact ⟨vs,es,mid,rfl,h1.only hb (by omega),h2.only hb (by omega),h3,h4⟩
theorem AuO.only {lo hi:Nat} {w w':World} {v:Value} {a:Au} (h:AuO lo hi w v a) {l r:Nat} (hb:Only l r w w') (ho:hi<=l ∨ r<=lo):AuO lo hi w' v a:=by
 obtain ⟨ac,nx,mid,rfl,h1,h2,h3,h4⟩:=h
 exact ⟨ac,nx,mid,rfl,h1.only hb (by omega),h2.only hb (by omega),h3,h4⟩
/-- rows of rows whose blocks all lie from lo to hi -/
def NSO (lo hi:Nat) (w:World) (v:Value) (xss:List (List Int)):Prop :=
 ∃ us,NS lo w 22 3 cI 1 v us xss/\∀ b ∈ blks (v :: us),b < hi
section
variable {lo hi:Nat} {w w':World} {v:Value} {xss:List (List Int)}
theorem NSO.of {us:List Value} (h:NS lo w 22 3 cI 1 v us xss):NSO lo w.heap.size w v xss:=⟨us,h,fun b hb=>(h.lt b hb).2⟩
theorem NSO.view (h:NSO lo hi w v xss):SSV lo hi w v xss:=by
 obtain ⟨us,h,hl⟩:=h
 refine ⟨us,Own.sl ⟨h.own,fun g hg=>hl g (mem_blks.2 ⟨0,v,rfl,hg⟩)⟩ cV_len,h.len,fun i u xs hu hx=>?_⟩
 exact Own.sl ⟨h.rows i u xs hu hx,fun g hg=>hl g (mem_blks.2 ⟨i+1,u,by simpa using hu,hg⟩)⟩ cI_len
theorem NSO.below (h:NSO lo hi w v xss) {B:Nat} (hb:Below B w w') (hB:hi<=B):NSO lo hi w' v xss:=by
 obtain ⟨us,h,hl⟩:=h
 exact ⟨us,h.blocks fun b hm=>hb.block b (by have:=hl b hm;omega),hl⟩
theorem NSO.only (h:NSO lo hi w v xss) {l r:Nat} (hb:Only l r w w') (ho:hi<=l ∨ r<=lo):NSO lo hi w' v xss:=by
 obtain ⟨us,h,hl⟩:=h
 exact ⟨us,h.blocks fun b hm=>hb.block b (h.lt b hm).2 (by have:=hl b hm;have:=(h.lt b hm).1;omega),hl⟩
theorem NSO.mono (h:NSO lo hi w v xss) {lo' hi':Nat} (h1:lo'<=lo) (h2:hi<=hi'):NSO lo' hi' w v xss:=by
 obtain ⟨us,h,hl⟩:=h
 exact ⟨us,h.mono h1,fun b hb=>by have:=hl b hb;omega⟩
end
theorem eqToken_same (p:Ed) (w:World) :
 Calls Try.prog 92 #[.agg #[.int .i64 p.1,.int .i64 p.2.1,.int .i64 p.2.2.1,.int .i64 p.2.2.2],.agg #[.int .i64 p.1,.int .i64 p.2.1,.int .i64 p.2.2.1,.int .i64 p.2.2.2]] w fun e w'=>e=.returned (.bool true)/\Below w.heap.size w w':=by
 obtain ⟨a0,a1,a2,a3⟩:=p
 go_enter Try.func92,Try.ntmps92
 go_wp2
 go_ret
 refine ⟨rfl,?_⟩
 repeat (first | exact Below.refl _ _ | refine Below.alloc ?_ (by simp) _)
set_option maxHeartbeats 400000 in
theorem eqTokenS_same (v1 v2:Value) (xs:List Ed) (w:World) (hv1:SlE w cEd 4 v1 xs) (hv2:SlE w cEd 4 v2 xs) :
 Calls Try.prog 53 #[v1,v2] w fun e w'=>e=.returned (.bool true)/\Below w.heap.size w w':=by
 obtain ⟨A1,c1,rfl,hl1,hm1,hx1⟩:=hv1
 obtain ⟨A2,c2,rfl,hl2,hm2,hx2⟩:=hv2
 unfold maxLen at hm1 hm2
 go_enter Try.func53,Try.ntmps53
 go_wp2
 go_loopw [5] (fun i wr=>∃ (k:Nat) (u:World),k<=xs.length/\i=.int .i64 k/\wr=ext w u) (fun i _=>xs.length - (intOf i).toNat)
 case atStart=>exact ⟨0,w,Nat.zero_le _,rfl,ext_self w⟩
 case round =>
  obtain ⟨k,u,hk,rfl,rfl⟩:=hrel
  by_cases hlt:k < xs.length
  · obtain ⟨b1,o1,rfl,-,hb1,hc1⟩:=hx1 k xs[k] (List.getElem?_eq_getElem hlt)
    obtain ⟨b2,o2,rfl,-,hb2,hc2⟩:=hx2 k xs[k] (List.getElem?_eq_getElem hlt)
    generalize xs[k]=x at hc1 hc2
    have c10:=hc1 0 _ rfl
    have c11:=hc1 1 _ rfl
    have c12:=hc1 2 _ rfl
    have c13:=hc1 3 _ rfl
    have c20:=hc2 0 _ rfl
    have c21:=hc2 1 _ rfl
    have c22:=hc2 2 _ rfl
    have c23:=hc2 3 _ rfl
    simp only [Nat.add_zero] at c10 c20
    clear hc1 hc2 hx1 hx2
    go_wp2
    refine wp_region_ext_lit (by kernel_rfl) (by kernel_rfl) ?_
    repeat (go_big_quiet_step ((go_at_call 92;exact Calls.ext_of (eqToken_same x _))))
    refine wpQuiet_nil ?_
    rintro _ ⟨u2,rfl⟩
    go_wp2
    go_roundw
    case rel =>
     obtain ⟨y,hy⟩:=ext_ext w u u2
     exact ⟨k+1,y,by omega,by go_num,hy⟩
    case measure=>simp [intOf];omega
  · go_wp2
    go_ret
    exact ⟨rfl,ext_below _ _⟩
def mkToken (k:Int) (n:Nat):List Ed:=(List.range n).map fun (i:Nat)=>(k+4 * (i:Int),k+4 * (i:Int)+1,k+4 * (i:Int)+1+1,k+4 * (i:Int)+1+1+1)
theorem mkToken_len (k:Int) (n:Nat):(mkToken k n).length=n:=by simp [mkToken]
theorem mkToken_succ (k:Int) (i:Nat):mkToken k (i+1)=mkToken k i ++ [(k+4 * (i:Int),k+4 * (i:Int)+1,k+4 * (i:Int)+1+1,k+4 * (i:Int)+1+1+1)]:=by simp [mkToken,List.range_succ]
theorem flatToken_len (l:List Ed):(l.flatMap cEd).length=l.length * 4:=by
 induction l with
 | nil=>rfl
 | cons x l ih=>simp only [List.flatMap_cons,List.length_append,cEd_len,ih,List.length_cons];omega
theorem markToken_step (k:Int) (xs:List Ed) (i:Nat) (hi:i < xs.length) :
 ((((((mkToken k i ++ xs.drop i).flatMap cEd).set (i * 4) (.int .i64 (k+4 * (i:Int)))).set (i * 4+1) (.int .i64 (k+4 * (i:Int)+1))).set (i * 4+2) (.int .i64 (k+4 * (i:Int)+1+1))).set (i * 4+3) (.int .i64 (k+4 * (i:Int)+1+1+1)))=(mkToken k (i+1) ++ xs.drop (i+1)).flatMap cEd:=by
 rw [List.drop_eq_getElem_cons hi,mkToken_succ]
 have hl:((mkToken k i).flatMap cEd).length=i * 4:=by rw [flatToken_len,mkToken_len]
 simp only [List.flatMap_append,List.flatMap_cons,List.flatMap_nil,List.append_nil,List.append_assoc]
 rw [List.set_append_right _ _ (by omega),List.set_append_right _ _ (by omega),List.set_append_right _ _ (by omega),List.set_append_right _ _ (by omega),hl]
 simp [cEd]
set_option maxHeartbeats 4000000 in
theorem markTokenS_any (lo hi:Nat) (e:TypeId) (v:Value) (xs:List Ed) (k:Int) (w:World) (hv:Own lo hi w e cEd 4 v xs) (hk:0<=k) (hb:k+4 * xs.length<=4611686018427387904) :
 Calls Try.prog 55 #[v,.int .i64 k] w fun en w'=>en=.returned (.int .i64 (k+4 * xs.length))/\Own lo hi w' e cEd 4 v (mkToken k xs.length)/\Only lo hi w w':=by
 obtain ⟨hr,hlt⟩:=hv
 have hr0:=hr
 obtain ⟨hl,hs⟩:=hr0
 rcases hs with ⟨rfl,hn⟩ | ⟨g,cap,cur,rfl,hg,hh,hnc,hcm,hsz,htk⟩
 · obtain rfl:xs=[]:=List.eq_nil_of_length_eq_zero hn
   clear hl hr hn hlt
   go_enter Try.func55,Try.ntmps55
   go_wp2
   go_loopw [1,5] (fun kk ii wr=>kk=.int .i64 k/\ii=.int .i64 0/\wr=w) (fun _ _ _=>0)
   case atStart=>exact ⟨rfl,rfl,rfl⟩
   case round =>
    obtain ⟨rfl,rfl,rfl⟩:=hrel
    go_wp2
    go_ret
    exact ⟨by simp,by simpa [mkToken] using Own.nil lo hi wr e cEd 4,Only.refl _ _ _⟩
 · have hglt:=hlt g rfl
   unfold maxLen at hcm
   have HL:=Hd_ hl
   clear hh htk hsz hlt hl
   go_enter Try.func55,Try.ntmps55
   go_wp2
   go_loopw [1,5] (fun kk ii wr=>∃ i:Nat,i<=xs.length/\kk=.int .i64 (k+4 * i)/\ii=.int .i64 i/\wr.ownsRow lo e 4 (.slice (some ⟨g,0,none⟩) xs.length cap) xs.length ((mkToken k i ++ xs.drop i).flatMap cEd)/\Only lo hi w wr) (fun _ ii _=>xs.length - (intOf ii).toNat)
   case atStart=>exact ⟨0,Nat.zero_le _,by simp,rfl,by simpa [mkToken] using hr,Only.refl _ _ _⟩
   case round =>
    obtain ⟨i,hi',rfl,rfl,hrow,honly⟩:=hrel
    by_cases hlt:i < xs.length
    · have hrow0:=hrow
      have hc0:=World.ownsRow.cellAt hrow (i * 4) (by omega)
      have hf0:=World.ownsRow.frozenAt hrow (i * 4)
      have hc1:=World.ownsRow.cellAt hrow (i * 4+1) (by omega)
      have hf1:=World.ownsRow.frozenAt hrow (i * 4+1)
      have hc2:=World.ownsRow.cellAt hrow (i * 4+2) (by omega)
      have hf2:=World.ownsRow.frozenAt hrow (i * 4+2)
      have hc3:=World.ownsRow.cellAt hrow (i * 4+3) (by omega)
      have hf3:=World.ownsRow.frozenAt hrow (i * 4+3)
      have hst:=(World.ownsRow.stored (World.ownsRow.stored (World.ownsRow.stored (World.ownsRow.stored hrow0 (i * 4) (.int .i64 (k+4 * (i:Int)))).1 (i * 4+1) (.int .i64 (k+4 * (i:Int)+1))).1 (i * 4+2) (.int .i64 (k+4 * (i:Int)+1+1))).1 (i * 4+3) (.int .i64 (k+4 * (i:Int)+1+1+1))).1
      rw [markToken_step k xs i hlt] at hst
      have HST:=Hd_ hst
      have hxi:(mkToken k i ++ xs.drop i)[i]?=some xs[i]:=by
       rw [List.getElem?_append_right (by simp [mkToken_len]),mkToken_len];simp [hlt]
      have hcx0:((mkToken k i ++ xs.drop i).flatMap cEd)[i * 4]?=some (.int .i64 xs[i].1):=flat_at cEd_len hxi 0 _ rfl
      rw [hcx0] at hc0
      have hcx1:((mkToken k i ++ xs.drop i).flatMap cEd)[i * 4+1]?=some (.int .i64 xs[i].2.1):=flat_at cEd_len hxi 1 _ rfl
      rw [hcx1] at hc1
      have hcx2:((mkToken k i ++ xs.drop i).flatMap cEd)[i * 4+2]?=some (.int .i64 xs[i].2.2.1):=flat_at cEd_len hxi 2 _ rfl
      rw [hcx2] at hc2
      have hcx3:((mkToken k i ++ xs.drop i).flatMap cEd)[i * 4+3]?=some (.int .i64 xs[i].2.2.2):=flat_at cEd_len hxi 3 _ rfl
      rw [hcx3] at hc3
      clear hcx0 hcx1 hcx2 hcx3 hxi hst hrow hrow0 hr
      go_wp2
      go_roundw
      case rel=>exact ⟨i+1,by omega,by go_num,by go_num,HST.out,((((honly.setCell (.inl ⟨hg,hglt⟩) _).setCell (.inl ⟨hg,hglt⟩) _).setCell (.inl ⟨hg,hglt⟩) _).setCell (.inl ⟨hg,hglt⟩) _)⟩
      case measure=>simp [intOf];omega
    · obtain rfl:i=xs.length:=by omega
      have hown:Own lo hi wr e cEd 4 (.slice (some ⟨g,0,none⟩) xs.length cap) (mkToken k xs.length):=by
       refine ⟨?_,fun g' hg'=>by cases hg';exact hglt⟩
       rw [mkToken_len]
       simpa using hrow
      clear hrow hr
      go_wp2
      go_ret
      exact ⟨rfl,hown,honly⟩
theorem toToken_any (p:Ed) (w:World) :
 Calls Try.prog 79 #[.agg #[.int .i64 p.1,.int .i64 p.2.1,.int .i64 p.2.2.1,.int .i64 p.2.2.2]] w fun e w'=>e=.returned (.agg #[.int .i64 p.1,.int .i64 p.2.1,.int .i64 p.2.2.1,.int .i64 p.2.2.2])/\Below w.heap.size w w':=by
 obtain ⟨a0,a1,a2,a3⟩:=p
 go_enter Try.func79,Try.ntmps79
 go_wp2
 refine bodyPost_ret (v:=.agg #[.int .i64 a0,.int .i64 a1,.int .i64 a2,.int .i64 a3]) (by simp [results,Try.results79,go_sem]) rfl ⟨rfl,?_⟩
 repeat (first | exact Below.refl _ _ | refine Below.setCell ?_ (by simp <;> omega) _ | refine Below.alloc ?_ (by simp <;> omega) _)
theorem szTokenS_any (A:Option Addr) (n c:Nat) (left:Int) (w:World) (hn:n<=maxLen) (h0:0<=left) (h1:left<=1048576) :
 Calls Try.prog 40 #[.slice A n c,.int .i64 left] w fun e w'=>e=.returned (.int .i64 (if left < n then -1 else left - n))/\w'=w:=by
 unfold maxLen at hn
 by_cases hlt:left < n
 · rw [if_pos hlt]
   go_enter Try.func40,Try.ntmps40
   go_wp2
   go_ret
   exact ⟨rfl,rfl⟩
 · rw [if_neg hlt]
   go_enter Try.func40,Try.ntmps40
   go_wp2
   go_ret
   exact ⟨rfl,rfl⟩
theorem elToken:ElemOk Try.prog 38 113 (.agg #[.int .i64 0,.int .i64 0,.int .i64 0,.int .i64 0]) 4 32:=⟨Try.underlying38,by kernel_rfl,rfl,by omega⟩
theorem toToken_step (xs:List Ed) (i:Nat) (x:Ed) (hx:xs[i]?=some x) :
 ((((((xs.take i ++ List.replicate (xs.length - i) (0,0,0,0)).flatMap cEd).set (i * 4) (.int .i64 x.1)).set (i * 4+1) (.int .i64 x.2.1)).set (i * 4+2) (.int .i64 x.2.2.1)).set (i * 4+3) (.int .i64 x.2.2.2))=(xs.take (i+1) ++ List.replicate (xs.length - (i+1)) (0,0,0,0)).flatMap cEd:=by
 have hi:=(List.getElem?_eq_some_iff.1 hx).1
 rw [take_snoc hx,show xs.length - i=(xs.length - (i+1))+1 by omega,List.replicate_succ]
 have hl:((xs.take i).flatMap cEd).length=i * 4:=by rw [flatToken_len,List.length_take];congr 1;omega
 simp only [List.flatMap_append,List.flatMap_cons,List.flatMap_nil,List.append_nil,List.append_assoc]
 rw [List.set_append_right _ _ (by omega),List.set_append_right _ _ (by omega),List.set_append_right _ _ (by omega),List.set_append_right _ _ (by omega),hl]
 simp [cEd]
set_option maxHeartbeats 1000000 in
theorem toTokenS_any (v:Value) (xs:List Ed) (w:World) (hv:SlE w cEd 4 v xs) (hn:xs.length<=1048576) :
 Calls Try.prog 46 #[v] w fun en w'=>∃ v',en=.returned v'/\Own w.heap.size w'.heap.size w' 113 cEd 4 v' xs/\Below w.heap.size w w':=by
 obtain ⟨A,c,rfl,hl,hm,hx⟩:=hv
 go_enter Try.func46,Try.ntmps46
 go_wp2_with (at_make;refine wpList_makeE (P:=Try.prog) cEd (0,0,0,0) elToken rfl rfl rfl _ _ rfl w.heap.size xs.length _ (by rfl) (by rfl) rfl (by omega) (by unfold maxLen;omega) (Nat.le_refl _) ?_;intro w1 hrow1 hbel1)
 go_loopw [4] (fun ii wr=>∃ i:Nat,i<=xs.length/\ii=.int .i64 i/\wr.ownsRow w.heap.size 113 4 (.slice (some ⟨w.heap.size,0,none⟩) xs.length xs.length) xs.length ((xs.take i ++ List.replicate (xs.length - i) (0,0,0,0)).flatMap cEd)/\Below w.heap.size w wr) (fun ii _=>xs.length - (intOf ii).toNat)
 case atStart=>exact ⟨0,Nat.zero_le _,rfl,by simpa using hrow1,hbel1⟩
 case round =>
  obtain ⟨i,hi',rfl,hrow,hbel⟩:=hrel
  by_cases hlt:i < xs.length
  · have hxi:xs[i]?=some xs[i]:=List.getElem?_eq_getElem hlt
    obtain ⟨b,o,rfl,-,hb1,hc⟩:=hx i _ hxi
    have hstep:=toToken_step xs i _ hxi
    have hcur:(xs.take i ++ List.replicate (xs.length - i) (0,0,0,0))[i]?=some (0,0,0,0):=by
     rw [List.getElem?_append_right (by rw [List.length_take];omega),List.getElem?_replicate,if_pos (by rw [List.length_take];omega)]
    generalize xs[i]=x at hc hstep hxi
    have hs:=hbel.size
    have c0:=(hbel.cell (p:=⟨b,o+i * 4+0,none⟩) hb1).trans (hc 0 _ rfl)
    have c1:=(hbel.cell (p:=⟨b,o+i * 4+1,none⟩) hb1).trans (hc 1 _ rfl)
    have c2:=(hbel.cell (p:=⟨b,o+i * 4+2,none⟩) hb1).trans (hc 2 _ rfl)
    have c3:=(hbel.cell (p:=⟨b,o+i * 4+3,none⟩) hb1).trans (hc 3 _ rfl)
    simp only [Nat.add_zero] at c0
    clear hc hx hxi hrow1 hbel1
    go_wp2_with fail
    refine (toToken_any x _).mono ?_;rintro e w2 ⟨rfl,hb2⟩
    have hrow2:=ownsRow_below hrow hb2 (Nat.le_refl _)
    have d0:=World.ownsRow.cellAt hrow2 (i * 4) (by omega)
    have f0:=World.ownsRow.frozenAt hrow2 (i * 4)
    have e0:=flat_at cEd_len hcur 0 _ rfl
    simp only [Nat.add_zero] at e0
    rw [e0] at d0
    clear e0
    have d1:=World.ownsRow.cellAt hrow2 (i * 4+1) (by omega)
    have f1:=World.ownsRow.frozenAt hrow2 (i * 4+1)
    have e1:=flat_at cEd_len hcur 1 _ rfl
    rw [e1] at d1
    clear e1
    have d2:=World.ownsRow.cellAt hrow2 (i * 4+2) (by omega)
    have f2:=World.ownsRow.frozenAt hrow2 (i * 4+2)
    have e2:=flat_at cEd_len hcur 2 _ rfl
    rw [e2] at d2
    clear e2
    have d3:=World.ownsRow.cellAt hrow2 (i * 4+3) (by omega)
    have f3:=World.ownsRow.frozenAt hrow2 (i * 4+3)
    have e3:=flat_at cEd_len hcur 3 _ rfl
    rw [e3] at d3
    clear e3
    have hst:=(World.ownsRow.stored (World.ownsRow.stored (World.ownsRow.stored (World.ownsRow.stored hrow2 (i * 4) (.int .i64 x.1)).1 (i * 4+1) (.int .i64 x.2.1)).1 (i * 4+2) (.int .i64 x.2.2.1)).1 (i * 4+3) (.int .i64 x.2.2.2)).1
    rw [hstep] at hst
    have HST:=Hd_ hst
    clear hst hstep hcur hrow hrow2
    go_wp2
    go_roundw
    case rel=>exact ⟨i+1,by omega,by go_num,HST.out,(((((hbel.trans (hb2.mono hs)).setCell (Nat.le_refl _) _).setCell (Nat.le_refl _) _).setCell (Nat.le_refl _) _).setCell (Nat.le_refl _) _)⟩
    case measure=>simp [intOf];omega
  · obtain rfl:i=xs.length:=by omega
    go_wp2
    go_ret
    exact ⟨_,rfl,Own.of_row hrow rfl (by simp),hbel⟩
/-- an expression's value: its tokens, four cells each -/
def ExV (lo hi:Nat) (w:World) (v:Value) (l:List Ed):Prop:=∃ ss,v=.agg #[ss]/\SlI lo hi w cEd 4 ss l
def ExO (lo hi:Nat) (w:World) (v:Value) (l:List Ed):Prop:=∃ ss,v=.agg #[ss]/\Own lo hi w 113 cEd 4 ss l
section
variable {lo hi:Nat} {w w':World} {v:Value} {l:List Ed}
theorem ExO.view (h:ExO lo hi w v l):ExV lo hi w v l:=by
 obtain ⟨ss,rfl,h1⟩:=h
 exact ⟨ss,rfl,h1.sl cEd_len⟩
theorem ExO.below (h:ExO lo hi w v l) {B:Nat} (hb:Below B w w') (hB:hi<=B):ExO lo hi w' v l:=by
 obtain ⟨ss,rfl,h1⟩:=h
 exact ⟨ss,rfl,h1.below hb hB⟩
theorem ExO.only (h:ExO lo hi w v l) {a b:Nat} (hb:Only a b w w') (ho:hi<=a ∨ b<=lo):ExO lo hi w' v l:=by
 obtain ⟨ss,rfl,h1⟩:=h
 exact ⟨ss,rfl,h1.only hb ho⟩
theorem ExV.below (h:ExV lo hi w v l) {B:Nat} (hb:Below B w w') (hB:hi<=B):ExV lo hi w' v l:=by
 obtain ⟨ss,rfl,h1⟩:=h
 exact ⟨ss,rfl,h1.below hb hB⟩
theorem ExV.mono (h:ExV lo hi w v l) {lo' hi':Nat} (h1:lo'<=lo) (h2:hi<=hi'):ExV lo' hi' w v l:=by
 obtain ⟨ss,rfl,g1⟩:=h
 exact ⟨ss,rfl,g1.mono h1 h2⟩
theorem ExV.all (h:ExV lo hi w v l) (hh:hi<=w.heap.size):ExV 0 w.heap.size w v l:=h.mono (Nat.zero_le _) hh
theorem ExV.keep (h:ExV 0 w.heap.size w v l) (hb:Below w.heap.size w w'):ExV 0 w'.heap.size w' v l:=(h.below hb (Nat.le_refl _)).mono (Nat.le_refl _) hb.size
theorem ExV.only (h:ExV lo hi w v l) {a b:Nat} (hb:Only a b w w') (hh:hi<=w.heap.size) (ho:hi<=a ∨ b<=lo):ExV lo hi w' v l:=by
 obtain ⟨ss,rfl,g1⟩:=h
 exact ⟨ss,rfl,g1.only hb hh ho⟩
theorem ExV.shape (h:ExV lo hi w v l):∃ A n c,v=.agg #[.slice A n c]:=by
 obtain ⟨ss,rfl,h1⟩:=h
 obtain ⟨A,n,c,rfl⟩:=h1.shape
 exact ⟨_,_,_,rfl⟩
end
def szEx (l:List Ed) (left:Int):Int:=if left < l.length then -1 else left - l.length
theorem szEx_le (l:List Ed) (left:Int) (h:¬ szEx l left < 0):l.length<=left.toNat/\0<=szEx l left/\szEx l left<=left:=by
 unfold szEx at h ⊢
 split at h
 · omega
 · rw [if_neg (by omega)];omega
theorem szExpr_any (v:Value) (l:List Ed) (left:Int) (w:World) (hv:ExV 0 w.heap.size w v l) (h0:0<=left) (h1:left<=1048576) :
 Calls Try.prog 8 #[v,.int .i64 left] w fun e w'=>e=.returned (.int .i64 (szEx l left))/\Below w.heap.size w w':=by
 obtain ⟨ss,rfl,⟨A1,c1,rfl,hl1,hm1,-⟩⟩:=hv
 have hc:=szTokenS_any A1 l.length c1 left
 rw [szEx]
 by_cases g1:left < l.length
 · rw [if_pos g1] at hc ⊢
   have HC:=Hd_ hc
   clear hc
   go_enter Try.func8,Try.ntmps8
   go_wp2_with fail
   refine (HC.out _ (by omega) h0 h1).mono ?_;rintro e w1 ⟨rfl,rfl⟩
   go_wp2
   go_ret
   exact ⟨rfl,(Below.refl _ _).alloc (Nat.le_refl _) _⟩
 · rw [if_neg g1] at hc ⊢
   have HC:=Hd_ hc
   clear hc
   go_enter Try.func8,Try.ntmps8
   go_wp2_with fail
   refine (HC.out _ (by omega) h0 h1).mono ?_;rintro e w1 ⟨rfl,rfl⟩
   go_wp2
   go_ret
   exact ⟨rfl,(Below.refl _ _).alloc (Nat.le_refl _) _⟩
set_option maxHeartbeats 1000000 in
theorem toExpr_any (v:Value) (l:List Ed) (w:World) (hv:ExV 0 w.heap.size w v l) (h1:l.length<=1048576) :
 Calls Try.prog 11 #[v] w fun e w'=>∃ v',e=.returned v'/\ExO w.heap.size w'.heap.size w' v' l/\Below w.heap.size w w':=by
 obtain ⟨ss,rfl,hss⟩:=hv
 go_enter Try.func11,Try.ntmps11
 go_wp2_with fail
 refine (toTokenS_any ss l _ ?_ h1).mono ?_
 · exact SlE.keep hss (by repeat (first | exact Below.refl _ _ | refine Below.setCell ?_ (by simp <;> omega) _ | refine Below.alloc ?_ (by simp <;> omega) _))
 rintro e w1 ⟨v1,rfl,ho1',hb1⟩
 have b1:=(((Blk.new (w.alloc _) _ _ (w.heap.size+1) (by simp)).alloc _)).keep hb1
 have b2:=(Blk.new ((w.alloc _).alloc _) _ _ (w.heap.size+1+1) (by simp)).keep hb1
 have o1:Only w.heap.size (w.heap.size+3) w w1:=(((Only.refl _ _ _).alloc _).alloc _ |>.alloc _).trans (Only.of_below hb1 _ _)
 have ho1:Own (w.heap.size+3) w1.heap.size w1 _ cEd 4 v1 l:=ho1'.mono (by simp) (Nat.le_refl _)
 clear ho1'
 obtain ⟨A1,n1,c1,rfl⟩:=ho1.shape
 have s1:w.heap.size+3<=w1.heap.size:=by have:=hb1.size;simpa using this
 clear hb1
 have x0:w1.cell? ⟨w.heap.size+1,0,none⟩=some _:=b1.cell 0
 have x2:w1.cell? ⟨w.heap.size+1+1,0,none⟩=some _:=b2.cell 0
 have y0:=b1.frozen 0
 have y2:=b2.frozen 0
 go_wp2_with fail
 have oz:Only w.heap.size (w.heap.size+3) w1 _:=((Only.refl _ _ w1).setCell (p:=⟨w.heap.size+1+1,0,none⟩) (.inl (by simp <;> omega)) (.slice A1 n1 c1)).setCell (p:=⟨w.heap.size+1,0,none⟩) (.inl (by simp <;> omega)) (.slice A1 n1 c1)
 refine bodyPost_ret (v:=.agg #[.slice A1 n1 c1]) (by simp [results,Try.results11,go_sem,x0]) rfl ⟨_,rfl,⟨_,rfl,(ho1.only oz (.inr (Nat.le_refl _))).mono (by omega) (by simp)⟩,(o1.trans oz).below (Nat.le_refl _) (Nat.le_refl _)⟩
set_option maxHeartbeats 1000000 in
theorem eqExpr_same (v1 v2:Value) (l:List Ed) (w:World) (hv1:ExV 0 w.heap.size w v1 l) (hv2:ExV 0 w.heap.size w v2 l) :
 Calls Try.prog 15 #[v1,v2] w fun e w'=>e=.returned (.bool true)/\Below w.heap.size w w':=by
 obtain ⟨ss1,rfl,hs1⟩:=hv1
 obtain ⟨ss2,rfl,hs2⟩:=hv2
 have hb0:Below w.heap.size w ((w.alloc (.cells #[ss1] 40)).alloc (.cells #[ss2] 40)):=((Below.refl _ _).alloc (Nat.le_refl _) _).alloc (by simp) _
 go_enter Try.func15,Try.ntmps15
 go_wp2_with fail
 refine (eqTokenS_same ss1 ss2 l _ (SlE.keep hs1 hb0) (SlE.keep hs2 hb0)).mono ?_
 rintro e w1 ⟨rfl,hb1⟩
 go_wp2_with fail
 go_ret
 exact ⟨rfl,below_trans hb0 hb1⟩
set_option maxHeartbeats 1000000 in
theorem markExpr_any (lo hi:Nat) (v:Value) (l:List Ed) (k:Int) (w:World) (hv:ExO lo hi w v l) (hw:hi<=w.heap.size) (hk:0<=k) (h1:l.length<=1048576) (hk2:k<=1099511627776) :
 Calls Try.prog 17 #[v,.int .i64 k] w fun e w'=>e=.returned (.int .i64 (k+4 * l.length))/\ExO lo hi w' v (mkToken k l.length)/\Only lo hi w w':=by
 obtain ⟨ss,rfl,hss⟩:=hv
 have hb0:Below w.heap.size w (w.alloc (.cells #[ss] 40)):=(Below.refl _ _).alloc (Nat.le_refl _) _
 go_enter Try.func17,Try.ntmps17
 go_wp2_with fail
 refine (markTokenS_any lo hi _ ss l k _ (hss.below hb0 hw) hk (by omega)).mono ?_
 rintro e w1 ⟨rfl,hss1,ho1⟩
 have ho2:=(Only.of_below hb0 lo hi).trans ho1
 go_wp2_with fail
 go_ret
 exact ⟨rfl,⟨ss,rfl,hss1⟩,ho2⟩
theorem eqPair_same (p:Pr) (w:World) :
 Calls Try.prog 51 #[.agg #[.int .i64 p.1,.int .i64 p.2],.agg #[.int .i64 p.1,.int .i64 p.2]] w fun e w'=>e=.returned (.bool true)/\Below w.heap.size w w':=by
 obtain ⟨a0,a1⟩:=p
 go_enter Try.func51,Try.ntmps51
 go_wp2
 go_ret
 refine ⟨rfl,?_⟩
 repeat (first | exact Below.refl _ _ | refine Below.alloc ?_ (by simp) _)
set_option maxHeartbeats 400000 in
theorem eqPairS_same (v1 v2:Value) (xs:List Pr) (w:World) (hv1:SlE w cPr 2 v1 xs) (hv2:SlE w cPr 2 v2 xs) :
 Calls Try.prog 13 #[v1,v2] w fun e w'=>e=.returned (.bool true)/\Below w.heap.size w w':=by
 obtain ⟨A1,c1,rfl,hl1,hm1,hx1⟩:=hv1
 obtain ⟨A2,c2,rfl,hl2,hm2,hx2⟩:=hv2
 unfold maxLen at hm1 hm2
 go_enter Try.func13,Try.ntmps13
 go_wp2
 go_loopw [5] (fun i wr=>∃ (k:Nat) (u:World),k<=xs.length/\i=.int .i64 k/\wr=ext w u) (fun i _=>xs.length - (intOf i).toNat)
 case atStart=>exact ⟨0,w,Nat.zero_le _,rfl,ext_self w⟩
 case round =>
  obtain ⟨k,u,hk,rfl,rfl⟩:=hrel
  by_cases hlt:k < xs.length
  · obtain ⟨b1,o1,rfl,-,hb1,hc1⟩:=hx1 k xs[k] (List.getElem?_eq_getElem hlt)
    obtain ⟨b2,o2,rfl,-,hb2,hc2⟩:=hx2 k xs[k] (List.getElem?_eq_getElem hlt)
    generalize xs[k]=x at hc1 hc2
    have c10:=hc1 0 _ rfl
    have c11:=hc1 1 _ rfl
    have c20:=hc2 0 _ rfl
    have c21:=hc2 1 _ rfl
    simp only [Nat.add_zero] at c10 c20
    clear hc1 hc2 hx1 hx2
    go_wp2
    refine wp_region_ext_lit (by kernel_rfl) (by kernel_rfl) ?_
    repeat (go_big_quiet_step ((go_at_call 51;exact Calls.ext_of (eqPair_same x _))))
    refine wpQuiet_nil ?_
    rintro _ ⟨u2,rfl⟩
    go_wp2
    go_roundw
    case rel =>
     obtain ⟨y,hy⟩:=ext_ext w u u2
     exact ⟨k+1,y,by omega,by go_num,hy⟩
    case measure=>simp [intOf];omega
  · go_wp2
    go_ret
    exact ⟨rfl,ext_below _ _⟩
def mkPair (k:Int) (n:Nat):List Pr:=(List.range n).map fun (i:Nat)=>(k+2 * (i:Int),k+2 * (i:Int)+1)
theorem mkPair_len (k:Int) (n:Nat):(mkPair k n).length=n:=by simp [mkPair]
theorem mkPair_succ (k:Int) (i:Nat):mkPair k (i+1)=mkPair k i ++ [(k+2 * (i:Int),k+2 * (i:Int)+1)]:=by simp [mkPair,List.range_succ]
theorem mkPair_at (k:Int) {n i:Nat} (h:i < n):(mkPair k n)[i]?=some (k+2 * (i:Int),k+2 * (i:Int)+1):=by simp [mkPair,h]
theorem flatPair_len (l:List Pr):(l.flatMap cPr).length=l.length * 2:=by
 induction l with
 | nil=>rfl
 | cons x l ih=>simp only [List.flatMap_cons,List.length_append,cPr_len,ih,List.length_cons];omega
theorem markPair_step (k:Int) (xs:List Pr) (i:Nat) (hi:i < xs.length) :
 ((((mkPair k i ++ xs.drop i).flatMap cPr).set (i * 2) (.int .i64 (k+2 * (i:Int)))).set (i * 2+1) (.int .i64 (k+2 * (i:Int)+1)))=(mkPair k (i+1) ++ xs.drop (i+1)).flatMap cPr:=by
 rw [List.drop_eq_getElem_cons hi,mkPair_succ]
 have hl:((mkPair k i).flatMap cPr).length=i * 2:=by rw [flatPair_len,mkPair_len]
 simp only [List.flatMap_append,List.flatMap_cons,List.flatMap_nil,List.append_nil,List.append_assoc]
 rw [List.set_append_right _ _ (by omega),List.set_append_right _ _ (by omega),hl]
 simp [cPr]
set_option maxHeartbeats 4000000 in
theorem markPairS_any (lo hi:Nat) (e:TypeId) (v:Value) (xs:List Pr) (k:Int) (w:World) (hv:Own lo hi w e cPr 2 v xs) (hk:0<=k) (hb:k+2 * xs.length<=4611686018427387904) :
 Calls Try.prog 18 #[v,.int .i64 k] w fun en w'=>en=.returned (.int .i64 (k+2 * xs.length))/\Own lo hi w' e cPr 2 v (mkPair k xs.length)/\Only lo hi w w':=by
 obtain ⟨hr,hlt⟩:=hv
 have hr0:=hr
 obtain ⟨hl,hs⟩:=hr0
 rcases hs with ⟨rfl,hn⟩ | ⟨g,cap,cur,rfl,hg,hh,hnc,hcm,hsz,htk⟩
 · obtain rfl:xs=[]:=List.eq_nil_of_length_eq_zero hn
   clear hl hr hn hlt
   go_enter Try.func18,Try.ntmps18
   go_wp2
   go_loopw [1,5] (fun kk ii wr=>kk=.int .i64 k/\ii=.int .i64 0/\wr=w) (fun _ _ _=>0)
   case atStart=>exact ⟨rfl,rfl,rfl⟩
   case round =>
    obtain ⟨rfl,rfl,rfl⟩:=hrel
    go_wp2
    go_ret
    exact ⟨by simp,by simpa [mkPair] using Own.nil lo hi wr e cPr 2,Only.refl _ _ _⟩
 · have hglt:=hlt g rfl
   unfold maxLen at hcm
   have HL:=Hd_ hl
   clear hh htk hsz hlt hl
   go_enter Try.func18,Try.ntmps18
   go_wp2
   go_loopw [1,5] (fun kk ii wr=>∃ i:Nat,i<=xs.length/\kk=.int .i64 (k+2 * i)/\ii=.int .i64 i/\wr.ownsRow lo e 2 (.slice (some ⟨g,0,none⟩) xs.length cap) xs.length ((mkPair k i ++ xs.drop i).flatMap cPr)/\Only lo hi w wr) (fun _ ii _=>xs.length - (intOf ii).toNat)
   case atStart=>exact ⟨0,Nat.zero_le _,by simp,rfl,by simpa [mkPair] using hr,Only.refl _ _ _⟩
   case round =>
    obtain ⟨i,hi',rfl,rfl,hrow,honly⟩:=hrel
    by_cases hlt:i < xs.length
    · have hrow0:=hrow
      have hc0:=World.ownsRow.cellAt hrow (i * 2) (by omega)
      have hf0:=World.ownsRow.frozenAt hrow (i * 2)
      have hc1:=World.ownsRow.cellAt hrow (i * 2+1) (by omega)
      have hf1:=World.ownsRow.frozenAt hrow (i * 2+1)
      have hst:=(World.ownsRow.stored (World.ownsRow.stored hrow0 (i * 2) (.int .i64 (k+2 * (i:Int)))).1 (i * 2+1) (.int .i64 (k+2 * (i:Int)+1))).1
      rw [markPair_step k xs i hlt] at hst
      have HST:=Hd_ hst
      have hxi:(mkPair k i ++ xs.drop i)[i]?=some xs[i]:=by
       rw [List.getElem?_append_right (by simp [mkPair_len]),mkPair_len];simp [hlt]
      have hcx0:((mkPair k i ++ xs.drop i).flatMap cPr)[i * 2]?=some (.int .i64 xs[i].1):=flat_at cPr_len hxi 0 _ rfl
      rw [hcx0] at hc0
      have hcx1:((mkPair k i ++ xs.drop i).flatMap cPr)[i * 2+1]?=some (.int .i64 xs[i].2):=flat_at cPr_len hxi 1 _ rfl
      rw [hcx1] at hc1
      clear hcx0 hcx1 hxi hst hrow hrow0 hr
      go_wp2
      go_roundw
      case rel=>exact ⟨i+1,by omega,by go_num,by go_num,HST.out,((honly.setCell (.inl ⟨hg,hglt⟩) _).setCell (.inl ⟨hg,hglt⟩) _)⟩
      case measure=>simp [intOf];omega
    · obtain rfl:i=xs.length:=by omega
      have hown:Own lo hi wr e cPr 2 (.slice (some ⟨g,0,none⟩) xs.length cap) (mkPair k xs.length):=by
       refine ⟨?_,fun g' hg'=>by cases hg';exact hglt⟩
       rw [mkPair_len]
       simpa using hrow
      clear hrow hr
      go_wp2
      go_ret
      exact ⟨rfl,hown,honly⟩
set_option maxHeartbeats 4000000 in
theorem heldPairS_any (v:Value) (n:Nat) (k:Int) (w:World) (hv:SlE w cPr 2 v (mkPair k n)) (hk:0<=k) (hb:k+2 * n<=4611686018427387904) :
 Calls Try.prog 19 #[v,.int .i64 k] w fun en w'=>en=.returned (.int .i64 (k+2 * n))/\Below w.heap.size w w':=by
 obtain ⟨A,c,rfl,hl,hm,hx⟩:=hv
 rw [mkPair_len] at hl
 simp only [mkPair_len]
 unfold maxLen at hm
 go_enter Try.func19,Try.ntmps19
 go_wp2
 go_loopw [1,5] (fun kk ii wr=>∃ (i:Nat) (u:World),i<=n/\kk=.int .i64 (k+2 * i)/\ii=.int .i64 i/\wr=ext w u) (fun _ ii _=>n - (intOf ii).toNat)
 case atStart=>exact ⟨0,w,Nat.zero_le _,by simp,rfl,ext_self w⟩
 case round =>
  obtain ⟨i,u,hi',rfl,rfl,rfl⟩:=hrel
  by_cases hlt:i < n
  · obtain ⟨b,o,rfl,-,hb1,hc⟩:=hx i _ (mkPair_at k hlt)
    have c0:=hc 0 _ rfl
    have c1:=hc 1 _ rfl
    simp only [Nat.add_zero] at c0
    clear hc hx
    go_wp2
    go_roundw
    case rel=>exact ⟨i+1,u,by omega,by go_num,by go_num,rfl⟩
    case measure=>simp [intOf];omega
  · obtain rfl:i=n:=by omega
    go_wp2
    go_ret
    exact ⟨rfl,ext_below _ _⟩
theorem elPair:ElemOk Try.prog 31 82 (.agg #[.int .i64 0,.int .i64 0]) 2 16:=⟨Try.underlying31,by kernel_rfl,rfl,by omega⟩
end Go.Proofs.Ytloeghbhoflabaa
namespace Go.Proofs.Ytloeghbhoflabaa
/-- a token: its kind, letter, low and high -/
abbrev Tok:=Int × Int × Int × Int
def tokPlain (t:Tok):Bool:=t.2.1==0 && (t.2.2.1==0 && t.2.2.2==0)
/-- how many operands a token takes; none if it is no token -/
def ar (t:Tok):Option Nat :=
 if t.1=1 ∨ t.1=2 then (if tokPlain t=true then some 0 else none)
 else if t.1=3 then (if 0<=t.2.1/\t.2.1<=8/\t.2.2.1=0/\t.2.2.2=0 then some 0 else none)
 else if t.1=4 ∨ t.1=5 then (if tokPlain t=true then some 2 else none)
 else if t.1=6 then (if tokPlain t=true then some 1 else none)
 else if t.1=7 then (if t.2.1=0/\1<=t.2.2.2/\t.2.2.2<=3/\0<=t.2.2.1/\t.2.2.1<=t.2.2.2 then some 1 else none)
 else none
inductive Tr
 | leaf (t:Tok)
 | un (t:Tok) (a:Tr)
 | bin (t:Tok) (a b:Tr)
def Tr.ok:Tr->Prop
 | .leaf t=>ar t=some 0
 | .un t a=>ar t=some 1/\a.ok
 | .bin t a b=>ar t=some 2/\a.ok/\b.ok
def Tr.root:Tr->Tok
 | .leaf t=>t
 | .un t _=>t
 | .bin t _ _=>t
/-- the tokens of a tree -/
def post:Tr->List Tok
 | .leaf t=>[t]
 | .un t a=>post a ++ [t]
 | .bin t a b=>(post a ++ post b) ++ [t]
theorem post_ne (r:Tr):post r ≠ []:=by cases r <;> simp [post]
theorem post_pos (r:Tr):0 < (post r).length:=List.length_pos_iff.2 (post_ne r)
/-- what tokens ask for beyond what they give -/
def net (l:List Tok):Int:=(l.map fun t=>(((ar t).getD 0:Nat):Int) - 1).sum
theorem net_app (l r:List Tok):net (l ++ r)=net l+net r:=by simp [net,List.sum_append]
theorem net_one (t:Tok):net [t]=(((ar t).getD 0:Nat):Int) - 1:=by simp [net]
theorem net_post:∀ {r:Tr},r.ok->net (post r)=-1
 | .leaf t,h=>by rw [post,net_one,show ar t=some 0 from h];rfl
 | .un t a,h=>by rw [post,net_app,net_one,net_post h.2,h.1];rfl
 | .bin t a b,h=>by rw [post,net_app,net_app,net_one,net_post h.2.1,net_post h.2.2,h.1];rfl
/-- a proper part at a tree's end never gives more than it asks for -/
theorem net_end:∀ {r:Tr},r.ok->∀ {k:Nat},0 < k->0<=net ((post r).drop k)
 | .leaf t,_,k,hk=>by
   have:(post (.leaf t)).drop k=[]:=List.drop_eq_nil_of_le (by simp [post];omega)
   rw [this];simp [net]
 | .un t a,h,k,hk=>by
   rw [post]
   rcases Nat.lt_or_ge k (post a).length with hl | hl
   · rw [List.drop_append_of_le_length (by omega),net_app,net_one,h.1]
     have:=net_end h.2 hk
     simp only [Option.getD_some];omega
   · rw [List.drop_append,List.drop_eq_nil_of_le hl,List.nil_append]
     rcases Nat.eq_zero_or_pos (k - (post a).length) with h0 | h0
     · rw [h0,List.drop_zero,net_one,h.1];simp
     · rw [List.drop_eq_nil_of_le (by simp;omega)];simp [net]
 | .bin t a b,h,k,hk=>by
   rw [post]
   rcases Nat.lt_or_ge k (post a).length with hl | hl
   · rw [List.drop_append_of_le_length (by rw [List.length_append];omega),List.drop_append_of_le_length (by omega),net_app,net_app,net_one,net_post h.2.2,h.1]
     have:=net_end h.2.1 hk
     simp only [Option.getD_some];omega
   · rcases Nat.lt_or_ge k ((post a).length+(post b).length) with hl2 | hl2
     · rw [List.drop_append_of_le_length (by rw [List.length_append];omega),List.drop_append,List.drop_eq_nil_of_le hl,List.nil_append,net_app,net_one,h.1]
       rcases Nat.eq_zero_or_pos (k - (post a).length) with h0 | h0
       · rw [h0,List.drop_zero,net_post h.2.2];simp
       · have:=net_end h.2.2 h0
         simp only [Option.getD_some];omega
     · rw [List.drop_append,List.drop_eq_nil_of_le (by rw [List.length_append];exact hl2),List.nil_append]
       rcases Nat.eq_zero_or_pos (k - (post a ++ post b).length) with h0 | h0
       · rw [h0,List.drop_zero,net_one,h.1];simp
       · rw [List.drop_eq_nil_of_le (by simp at h0 ⊢;omega)];simp [net]
def push (st:List Tr) (t:Tok):Option (List Tr) :=
 match ar t with
 | some 0=>some (st ++ [.leaf t])
 | some 1=>match st.getLast? with
   | some a=>some (st.dropLast ++ [.un t a])
   | none=>none
 | some 2=>match st.getLast?,st.dropLast.getLast? with
   | some b,some a=>some (st.dropLast.dropLast ++ [.bin t a b])
   | _,_=>none
 | _=>none
def parseTo (l:List Tok):Nat->Option (List Tr)
 | 0=>some []
 | i+1=>match parseTo l i,l[i]? with
   | some st,some t=>push st t
   | _,_=>none
theorem last_app {α:Type} {l:List α} {a:α} (h:l.getLast?=some a):l=l.dropLast ++ [a]:=by
 rw [List.getLast?_eq_some_iff] at h
 obtain ⟨ys,rfl⟩:=h
 simp
theorem ar_cases (t:Tok):ar t=none ∨ ar t=some 0 ∨ ar t=some 1 ∨ ar t=some 2:=by
 unfold ar
 split
 · split <;> simp
 · split
   · split <;> simp
   · split
     · split <;> simp
     · split
       · split <;> simp
       · split
         · split <;> simp
         · simp
/-- what a push is: the last n trees become one -/
theorem push_eq {st st':List Tr} {t:Tok} (h:push st t=some st'):∃ r,st'=(st.take (st.length - (ar t).getD 0)) ++ [r]/\r.root=t/\(ar t).isSome=true/\(ar t).getD 0<=st.length/\((∀ x ∈ st,x.ok)->r.ok)/\post r=(st.drop (st.length - (ar t).getD 0)).flatMap post ++ [t] /\
 ((ar t=some 0/\r=.leaf t) ∨ (∃ a,ar t=some 1/\r=.un t a/\st.drop (st.length - 1)=[a]) ∨ (∃ a b,ar t=some 2/\r=.bin t a b/\st.drop (st.length - 2)=[a,b])):=by
 unfold push at h
 rcases ar_cases t with ha | ha | ha | ha
 · rw [ha] at h;cases h
 · rw [ha] at h
   simp only [Option.some.injEq] at h
   refine ⟨.leaf t,by rw [ha];simp [h],rfl,by rw [ha];rfl,by rw [ha];exact Nat.zero_le _,fun _=>ha,by rw [ha];simp [post],.inl ⟨ha,rfl⟩⟩
 · rw [ha] at h
   simp only at h
   cases hl:st.getLast? with
   | none=>rw [hl] at h;cases h
   | some a =>
     rw [hl] at h
     simp only [Option.some.injEq] at h
     have he:=last_app hl
     have hln:st.length=st.dropLast.length+1:=by rw [he];simp
     have hd:st.drop (st.length - 1)=[a]:=by rw [he];simp
     refine ⟨.un t a,by rw [ha,<- h];simp [List.dropLast_eq_take],rfl,by rw [ha];rfl,by rw [ha];simp;omega,fun hx=>⟨ha,hx a (List.mem_of_getLast? hl)⟩,by rw [ha];simp only [Option.getD_some];rw [hd];simp [post],.inr (.inl ⟨a,ha,rfl,hd⟩)⟩
 · rw [ha] at h
   simp only at h
   cases hl:st.getLast? with
   | none=>rw [hl] at h;cases h
   | some b =>
     rw [hl] at h
     cases hl2:st.dropLast.getLast? with
     | none=>rw [hl2] at h;cases h
     | some a =>
       rw [hl2] at h
       simp only [Option.some.injEq] at h
       have he:=last_app hl
       have he2:=last_app hl2
       obtain ⟨D,hD⟩:∃ D,D=st.dropLast.dropLast:=⟨_,rfl⟩
       rw [<- hD] at he2 h
       rw [he2] at he
       have hst:st=D ++ [a,b]:=by rw [he];simp
       have hln:st.length=D.length+2:=by rw [hst];simp
       have hd:st.drop (st.length - 2)=[a,b]:=by rw [hln,hst];simp
       have ht:st.take (st.length - 2)=D:=by rw [hln,hst];simp
       refine ⟨.bin t a b,by rw [ha];simp only [Option.getD_some];rw [ht,h],rfl,by rw [ha];rfl,by rw [ha];simp;omega,fun hx=>⟨ha,hx a (by rw [hst];simp),hx b (by rw [hst];simp)⟩,by rw [ha];simp only [Option.getD_some];rw [hd];simp [post],.inr (.inr ⟨a,b,ha,rfl,hd⟩)⟩
theorem push_some {st:List Tr} {t:Tok} {n:Nat} (ha:ar t=some n) (hn:n<=st.length):∃ st',push st t=some st':=by
 unfold push
 rcases ar_cases t with h | h | h | h
 · rw [h] at ha;cases ha
 · rw [h];exact ⟨_,rfl⟩
 · rw [h] at ha ⊢
   injection ha with ha
   cases hl:st.getLast? with
   | none=>rw [List.getLast?_eq_none_iff] at hl;subst hl;simp at hn;omega
   | some a=>exact ⟨_,rfl⟩
 · rw [h] at ha ⊢
   injection ha with ha
   cases hl:st.getLast? with
   | none=>rw [List.getLast?_eq_none_iff] at hl;subst hl;simp at hn;omega
   | some b =>
     have he:=last_app hl
     have hln:st.length=st.dropLast.length+1:=by
      have:=congrArg List.length he
      simpa using this
     cases hl2:st.dropLast.getLast? with
     | none=>rw [List.getLast?_eq_none_iff] at hl2;rw [hl2] at hln;simp at hln;omega
     | some a=>exact ⟨_,rfl⟩
theorem push_none {st:List Tr} {t:Tok} (h:ar t=none ∨ ∃ n,ar t=some n/\st.length < n):push st t=none:=by
 cases hp:push st t with
 | none=>rfl
 | some st' =>
   obtain ⟨r,-,-,h1,h2,-⟩:=push_eq hp
   rcases h with h | ⟨n,h,hn⟩
   · rw [h] at h1;cases h1
   · rw [h] at h2;simp at h2;omega
theorem push_len {st st':List Tr} {t:Tok} (h:push st t=some st'):st'.length+(ar t).getD 0=st.length+1:=by
 obtain ⟨r,rfl,-,-,h2,-⟩:=push_eq h
 rw [List.length_append,List.length_take,List.length_singleton]
 omega
theorem parse_post {l:List Tok}:∀ {i:Nat} {st:List Tr},parseTo l i=some st->i<=l.length/\(∀ r ∈ st,r.ok)/\st.flatMap post=l.take i
 | 0,st,h=>by
   simp only [parseTo,Option.some.injEq] at h
   subst h
   simp
 | i+1,st,h=>by
   rw [parseTo] at h
   cases hp:parseTo l i with
   | none=>rw [hp] at h;cases h
   | some st0 =>
     rw [hp] at h
     cases ht:l[i]? with
     | none=>rw [ht] at h;cases h
     | some t =>
       rw [ht] at h
       simp only at h
       obtain ⟨h1,h2,h3⟩:=parse_post hp
       obtain ⟨r,rfl,-,-,h4,h5,h6,-⟩:=push_eq h
       refine ⟨(List.getElem?_eq_some_iff.1 ht).1,fun x hx=>?_,?_⟩
       · rcases List.mem_append.1 hx with hx | hx
         · exact h2 x (List.mem_of_mem_take hx)
         · rw [List.mem_singleton] at hx
           subst hx
           exact h5 h2
       · rw [List.take_add_one,ht,<- h3,List.flatMap_append,List.flatMap_singleton,h6,<- List.append_assoc,<- List.flatMap_append,List.take_append_drop]
         rfl
/-- the tree of tokens, if they are one -/
def treeL (l:List Tok):Option Tr:=match parseTo l l.length with
 | some [r]=>some r
 | _=>none
theorem treeL_post {l:List Tok} {r:Tr} (h:treeL l=some r):r.ok/\post r=l:=by
 unfold treeL at h
 split at h
 · rename_i hp
   injection h with h
   subst h
   obtain ⟨-,h2,h3⟩:=parse_post hp
   rw [List.take_length] at h3
   exact ⟨h2 _ (by simp),by simpa using h3⟩
 · cases h
/-- the last operand's beginning: while the need is above nought, one more token back -/
theorem start_need {xs:List Tok} {r:Tr} (hr:r.ok) {k:Nat} (h1:xs.length < k) (h2:k<=(xs ++ post r).length):0 < 1+net ((xs ++ post r).drop k):=by
 rw [List.drop_append,List.drop_eq_nil_of_le (by omega),List.nil_append]
 have:=net_end hr (k:=k - xs.length) (by omega)
 omega
theorem start_done {xs:List Tok} {r:Tr} (hr:r.ok):1+net ((xs ++ post r).drop xs.length)=0:=by
 rw [List.drop_left,net_post hr];rfl
end Go.Proofs.Ytloeghbhoflabaa
namespace Go.Proofs.Ytloeghbhoflabaa
open Go.ChangeShapes Go.WideShapes Go.ChangeAt Go.RowKit
attribute [local go_sem] ext_cell ext_frozen ext_lt ext_lt1 ext_lt2 ext_lt3 ltn2 ltn3 ltn13 lts1 lts2 lts3
theorem l1In_any (n a b:Int) (w:World):Calls Try.prog 63 #[.int .i64 n,.int .i64 a,.int .i64 b] w fun e w'=>e=.returned (.bool (wi n a b))/\w'=w:=by
 unfold wi
 by_cases h1:a<=n
 · have e1:decide (a<=n)=true:=by simpa using h1
   by_cases h2:n<=b
   · go_enter Try.func63,Try.ntmps63
     go_wp2
     go_ret
     exact ⟨by simp [h1,h2],rfl⟩
   · go_enter Try.func63,Try.ntmps63
     go_wp2
     go_ret
     exact ⟨by simp [h1];try omega,rfl⟩
 · have e1:decide (a<=n)=false:=by simpa using h1
   go_enter Try.func63,Try.ntmps63
   go_wp2
   go_ret
   exact ⟨by simp [h1];try omega,rfl⟩
def arI (t:Tok):Int:=match ar t with | some n=>(n:Int) | none=>-1
theorem arI_some {t:Tok} {n:Nat} (h:ar t=some n):arI t=n:=by rw [arI,h]
theorem arI_none {t:Tok} (h:ar t=none):arI t=-1:=by rw [arI,h]
theorem arI_bd (t:Tok):-1<=arI t/\arI t<=2:=by
 rcases ar_cases t with h | h | h | h <;> simp [arI,h]
theorem wi_yes {x a b:Int} (h1:a<=x) (h2:x<=b):wi x a b=true:=wi_iff.2 ⟨h1,h2⟩
theorem wi_no {x a b:Int} (h:¬ (a<=x/\x<=b)):wi x a b=false:=by
 cases hw:wi x a b with
 | false=>rfl
 | true=>exact absurd (wi_iff.1 hw) h
theorem l2Letter_any (n:Int) (w:World):Calls Try.prog 64 #[.int .i64 n] w fun e w'=>e=.returned (.bool (wi n 0 8))/\w'=w:=by
 go_enter Try.func64,Try.ntmps64
 go_wp2_with fail
 refine (l1In_any n 0 8 _).mono ?_
 rintro e w' ⟨rfl,rfl⟩
 go_wp2_with fail
 go_ret
 exact ⟨rfl,rfl⟩
set_option maxHeartbeats 4000000 in
theorem l8Arity_any (t:Tok) (w:World) :
 Calls Try.prog 102 #[.agg #[.int .i64 t.1,.int .i64 t.2.1,.int .i64 t.2.2.1,.int .i64 t.2.2.2]] w fun e w'=>e=.returned (.int .i64 (arI t))/\Below w.heap.size w w':=by
 obtain ⟨k,l,lo,hi⟩:=t
 simp only
 obtain ⟨R,hR⟩:∃ R,R=arI (k,l,lo,hi):=⟨_,rfl⟩
 rw [<- hR]
 have HR:=Hd_ hR
 clear hR
 by_cases h1:k=1
 · subst h1
   by_cases hl:l=0
   · by_cases hlo:lo=0
     · by_cases hhi:hi=0
       · subst hl hlo hhi
         have hfin:R=0:=by rw [HR.out];decide
         clear HR
         subst hfin
         go_enter Try.func102,Try.ntmps102
         go_wp2
         go_ret
         exact ⟨rfl,(Below.refl _ _).alloc (Nat.le_refl _) _⟩
       · have hx:(hi != 0)=true:=by simpa using hhi
         have hfin:R=-1:=by rw [HR.out];simp [arI,ar,tokPlain,hhi]
         subst hl hlo
         clear hhi HR
         subst hfin
         go_enter Try.func102,Try.ntmps102
         go_wp2
         go_ret
         exact ⟨rfl,(Below.refl _ _).alloc (Nat.le_refl _) _⟩
     · have hx:(lo != 0)=true:=by simpa using hlo
       have hfin:R=-1:=by rw [HR.out];simp [arI,ar,tokPlain,hlo]
       subst hl
       clear hlo HR
       subst hfin
       go_enter Try.func102,Try.ntmps102
       go_wp2
       go_ret
       exact ⟨rfl,(Below.refl _ _).alloc (Nat.le_refl _) _⟩
   · have hx:(l != 0)=true:=by simpa using hl
     have hfin:R=-1:=by rw [HR.out];simp [arI,ar,tokPlain,hl]
     clear hl HR
     subst hfin
     go_enter Try.func102,Try.ntmps102
     go_wp2
     go_ret
     exact ⟨rfl,(Below.refl _ _).alloc (Nat.le_refl _) _⟩
 by_cases h2:k=2
 · subst h2
   clear h1
   by_cases hl:l=0
   · by_cases hlo:lo=0
     · by_cases hhi:hi=0
       · subst hl hlo hhi
         have hfin:R=0:=by rw [HR.out];decide
         clear HR
         subst hfin
         go_enter Try.func102,Try.ntmps102
         go_wp2
         go_ret
         exact ⟨rfl,(Below.refl _ _).alloc (Nat.le_refl _) _⟩
       · have hx:(hi != 0)=true:=by simpa using hhi
         have hfin:R=-1:=by rw [HR.out];simp [arI,ar,tokPlain,hhi]
         subst hl hlo
         clear hhi HR
         subst hfin
         go_enter Try.func102,Try.ntmps102
         go_wp2
         go_ret
         exact ⟨rfl,(Below.refl _ _).alloc (Nat.le_refl _) _⟩
     · have hx:(lo != 0)=true:=by simpa using hlo
       have hfin:R=-1:=by rw [HR.out];simp [arI,ar,tokPlain,hlo]
       subst hl
       clear hlo HR
       subst hfin
       go_enter Try.func102,Try.ntmps102
       go_wp2
       go_ret
       exact ⟨rfl,(Below.refl _ _).alloc (Nat.le_refl _) _⟩
   · have hx:(l != 0)=true:=by simpa using hl
     have hfin:R=-1:=by rw [HR.out];simp [arI,ar,tokPlain,hl]
     clear hl HR
     subst hfin
     go_enter Try.func102,Try.ntmps102
     go_wp2
     go_ret
     exact ⟨rfl,(Below.refl _ _).alloc (Nat.le_refl _) _⟩
 by_cases h4:k=4
 · subst h4
   clear h1 h2
   by_cases hl:l=0
   · by_cases hlo:lo=0
     · by_cases hhi:hi=0
       · subst hl hlo hhi
         have hfin:R=2:=by rw [HR.out];decide
         clear HR
         subst hfin
         go_enter Try.func102,Try.ntmps102
         go_wp2
         go_ret
         exact ⟨rfl,(Below.refl _ _).alloc (Nat.le_refl _) _⟩
       · have hx:(hi != 0)=true:=by simpa using hhi
         have hfin:R=-1:=by rw [HR.out];simp [arI,ar,tokPlain,hhi]
         subst hl hlo
         clear hhi HR
         subst hfin
         go_enter Try.func102,Try.ntmps102
         go_wp2
         go_ret
         exact ⟨rfl,(Below.refl _ _).alloc (Nat.le_refl _) _⟩
     · have hx:(lo != 0)=true:=by simpa using hlo
       have hfin:R=-1:=by rw [HR.out];simp [arI,ar,tokPlain,hlo]
       subst hl
       clear hlo HR
       subst hfin
       go_enter Try.func102,Try.ntmps102
       go_wp2
       go_ret
       exact ⟨rfl,(Below.refl _ _).alloc (Nat.le_refl _) _⟩
   · have hx:(l != 0)=true:=by simpa using hl
     have hfin:R=-1:=by rw [HR.out];simp [arI,ar,tokPlain,hl]
     clear hl HR
     subst hfin
     go_enter Try.func102,Try.ntmps102
     go_wp2
     go_ret
     exact ⟨rfl,(Below.refl _ _).alloc (Nat.le_refl _) _⟩
 by_cases h5:k=5
 · subst h5
   clear h1 h2 h4
   by_cases hl:l=0
   · by_cases hlo:lo=0
     · by_cases hhi:hi=0
       · subst hl hlo hhi
         have hfin:R=2:=by rw [HR.out];decide
         clear HR
         subst hfin
         go_enter Try.func102,Try.ntmps102
         go_wp2
         go_ret
         exact ⟨rfl,(Below.refl _ _).alloc (Nat.le_refl _) _⟩
       · have hx:(hi != 0)=true:=by simpa using hhi
         have hfin:R=-1:=by rw [HR.out];simp [arI,ar,tokPlain,hhi]
         subst hl hlo
         clear hhi HR
         subst hfin
         go_enter Try.func102,Try.ntmps102
         go_wp2
         go_ret
         exact ⟨rfl,(Below.refl _ _).alloc (Nat.le_refl _) _⟩
     · have hx:(lo != 0)=true:=by simpa using hlo
       have hfin:R=-1:=by rw [HR.out];simp [arI,ar,tokPlain,hlo]
       subst hl
       clear hlo HR
       subst hfin
       go_enter Try.func102,Try.ntmps102
       go_wp2
       go_ret
       exact ⟨rfl,(Below.refl _ _).alloc (Nat.le_refl _) _⟩
   · have hx:(l != 0)=true:=by simpa using hl
     have hfin:R=-1:=by rw [HR.out];simp [arI,ar,tokPlain,hl]
     clear hl HR
     subst hfin
     go_enter Try.func102,Try.ntmps102
     go_wp2
     go_ret
     exact ⟨rfl,(Below.refl _ _).alloc (Nat.le_refl _) _⟩
 by_cases h6:k=6
 · subst h6
   clear h1 h2 h4 h5
   by_cases hl:l=0
   · by_cases hlo:lo=0
     · by_cases hhi:hi=0
       · subst hl hlo hhi
         have hfin:R=1:=by rw [HR.out];decide
         clear HR
         subst hfin
         go_enter Try.func102,Try.ntmps102
         go_wp2
         go_ret
         exact ⟨rfl,(Below.refl _ _).alloc (Nat.le_refl _) _⟩
       · have hx:(hi != 0)=true:=by simpa using hhi
         have hfin:R=-1:=by rw [HR.out];simp [arI,ar,tokPlain,hhi]
         subst hl hlo
         clear hhi HR
         subst hfin
         go_enter Try.func102,Try.ntmps102
         go_wp2
         go_ret
         exact ⟨rfl,(Below.refl _ _).alloc (Nat.le_refl _) _⟩
     · have hx:(lo != 0)=true:=by simpa using hlo
       have hfin:R=-1:=by rw [HR.out];simp [arI,ar,tokPlain,hlo]
       subst hl
       clear hlo HR
       subst hfin
       go_enter Try.func102,Try.ntmps102
       go_wp2
       go_ret
       exact ⟨rfl,(Below.refl _ _).alloc (Nat.le_refl _) _⟩
   · have hx:(l != 0)=true:=by simpa using hl
     have hfin:R=-1:=by rw [HR.out];simp [arI,ar,tokPlain,hl]
     clear hl HR
     subst hfin
     go_enter Try.func102,Try.ntmps102
     go_wp2
     go_ret
     exact ⟨rfl,(Below.refl _ _).alloc (Nat.le_refl _) _⟩
 by_cases h3:k=3
 · subst h3
   clear h1 h2 h4 h5 h6
   by_cases hw:wi l 0 8=true
   · have hw':=wi_iff.1 hw
     by_cases hlo:lo=0
     · by_cases hhi:hi=0
       · subst hlo hhi
         have hfin:R=0:=by rw [HR.out];simp [arI,ar,hw']
         clear HR hw'
         have hc:wi l 0 8=true:=hw
         subst hfin
         go_enter Try.func102,Try.ntmps102
         go_wp2_with (refine (l2Letter_any l _).mono ?_;rintro e w' ⟨rfl,rfl⟩)
         go_ret
         exact ⟨rfl,(Below.refl _ _).alloc (Nat.le_refl _) _⟩
       · have hx:(hi != 0)=true:=by simpa using hhi
         have hfin:R=-1:=by rw [HR.out];simp [arI,ar,hhi]
         subst hlo
         clear hhi HR hw'
         subst hfin
         go_enter Try.func102,Try.ntmps102
         go_wp2_with (refine (l2Letter_any l _).mono ?_;rintro e w' ⟨rfl,rfl⟩)
         go_ret
         exact ⟨rfl,(Below.refl _ _).alloc (Nat.le_refl _) _⟩
     · have hx:(lo != 0)=true:=by simpa using hlo
       have hfin:R=-1:=by rw [HR.out];simp [arI,ar,hlo]
       clear hlo HR hw'
       subst hfin
       go_enter Try.func102,Try.ntmps102
       go_wp2_with (refine (l2Letter_any l _).mono ?_;rintro e w' ⟨rfl,rfl⟩)
       go_ret
       exact ⟨rfl,(Below.refl _ _).alloc (Nat.le_refl _) _⟩
   · have hw0:wi l 0 8=false:=by simpa using hw
     have hw':¬ (0<=l/\l<=8):=fun h=>hw (wi_iff.2 h)
     have hfin:R=-1:=by
      rw [HR.out]
      have:ar (3,l,lo,hi)=none:=by
       unfold ar
       simp only [show ¬ ((3:Int)=1 ∨ (3:Int)=2) by decide,if_false,if_true]
       rw [if_neg (fun h=>hw' ⟨h.1,h.2.1⟩)]
      rw [arI,this]
     clear HR hw' hw
     subst hfin
     go_enter Try.func102,Try.ntmps102
     go_wp2_with (refine (l2Letter_any l _).mono ?_;rintro e w' ⟨rfl,rfl⟩)
     go_ret
     exact ⟨rfl,(Below.refl _ _).alloc (Nat.le_refl _) _⟩
 by_cases h7:k=7
 · subst h7
   clear h1 h2 h3 h4 h5 h6
   by_cases hl:l=0
   · subst hl
     have hno:¬ ((0:Int)=0/\1<=hi/\hi<=3/\0<=lo/\lo<=hi)->R=-1:=by
      intro h
      rw [HR.out]
      have:ar (7,0,lo,hi)=none:=by
       unfold ar
       simp only [show ¬ ((7:Int)=1 ∨ (7:Int)=2) by decide,show ¬ ((7:Int)=4 ∨ (7:Int)=5) by decide,show ¬ (7:Int)=3 by decide,show ¬ (7:Int)=6 by decide,if_false,if_true]
       rw [if_neg (fun h'=>h ⟨rfl,h'.2⟩)]
      rw [arI,this]
     by_cases hw:wi hi 1 3=true
     · by_cases hv:wi lo 0 hi=true
       · have hfin:R=1:=by
          rw [HR.out]
          have h1:=wi_iff.1 hw
          have h2:=wi_iff.1 hv
          simp [arI,ar,h1,h2]
         clear HR hno
         subst hfin
         go_enter Try.func102,Try.ntmps102
         go_wp2_with (refine (l1In_any _ _ _ _).mono ?_;rintro e w' ⟨rfl,rfl⟩)
         go_ret
         exact ⟨rfl,(Below.refl _ _).alloc (Nat.le_refl _) _⟩
       · have hv0:wi lo 0 hi=false:=by simpa using hv
         have hfin:=hno (fun h=>hv (wi_iff.2 ⟨h.2.2.2.1,h.2.2.2.2⟩))
         clear HR hno hv
         subst hfin
         go_enter Try.func102,Try.ntmps102
         go_wp2_with (refine (l1In_any _ _ _ _).mono ?_;rintro e w' ⟨rfl,rfl⟩)
         go_ret
         exact ⟨rfl,(Below.refl _ _).alloc (Nat.le_refl _) _⟩
     · have hw0:wi hi 1 3=false:=by simpa using hw
       have hfin:=hno (fun h=>hw (wi_iff.2 ⟨h.2.1,h.2.2.1⟩))
       clear HR hno hw
       subst hfin
       go_enter Try.func102,Try.ntmps102
       go_wp2_with (refine (l1In_any _ _ _ _).mono ?_;rintro e w' ⟨rfl,rfl⟩)
       go_ret
       exact ⟨rfl,(Below.refl _ _).alloc (Nat.le_refl _) _⟩
   · have hx:(l != 0)=true:=by simpa using hl
     have hfin:R=-1:=by rw [HR.out];simp [arI,ar,hl]
     clear hl HR
     subst hfin
     go_enter Try.func102,Try.ntmps102
     go_wp2
     go_ret
     exact ⟨rfl,(Below.refl _ _).alloc (Nat.le_refl _) _⟩
 · have q1:(k==1)=false:=by simpa using h1
   have q2:(k==2)=false:=by simpa using h2
   have q3:(k==3)=false:=by simpa using h3
   have q4:(k==4)=false:=by simpa using h4
   have q5:(k==5)=false:=by simpa using h5
   have q6:(k==6)=false:=by simpa using h6
   have q7:(k==7)=false:=by simpa using h7
   have hfin:R=-1:=by rw [HR.out];simp [arI,ar,h1,h2,h3,h4,h5,h6,h7]
   clear HR h1 h2 h3 h4 h5 h6 h7
   subst hfin
   go_enter Try.func102,Try.ntmps102
   go_wp2
   go_ret
   exact ⟨rfl,(Below.refl _ _).alloc (Nat.le_refl _) _⟩
theorem within_any (n a b:Int) (w:World):Calls Try.prog 80 #[.int .i64 n,.int .i64 a,.int .i64 b] w fun e w'=>e=.returned (.bool (wi n a b))/\w'=w:=by
 unfold wi
 by_cases h1:a<=n
 · have e1:decide (a<=n)=true:=by simpa using h1
   by_cases h2:n<=b
   · go_enter Try.func80,Try.ntmps80
     go_wp2
     go_ret
     exact ⟨by simp [h1,h2],rfl⟩
   · go_enter Try.func80,Try.ntmps80
     go_wp2
     go_ret
     exact ⟨by simp [h1];try omega,rfl⟩
 · have e1:decide (a<=n)=false:=by simpa using h1
   go_enter Try.func80,Try.ntmps80
   go_wp2
   go_ret
   exact ⟨by simp [h1];try omega,rfl⟩
theorem isLetter_any (n:Int) (w:World):Calls Try.prog 94 #[.int .i64 n] w fun e w'=>e=.returned (.bool (wi n 0 8))/\w'=w:=by
 have HW:=Hd_ within_any
 go_enter Try.func94,Try.ntmps94
 go_wp2_with (go_at_call 80;refine (HW.out _ _ _ _).mono ?_;rintro e w' ⟨rfl,rfl⟩)
 go_ret
 exact ⟨rfl,rfl⟩
theorem eqTk (a b c d e f g h:Int) (w:World):(Op.equalIn 10000 113 (.agg #[.int .i64 a,.int .i64 b,.int .i64 c,.int .i64 d]) (.agg #[.int .i64 e,.int .i64 f,.int .i64 g,.int .i64 h])).run Try.prog w=.ok (decide ((a,b,c,d)=(e,f,g,h))) w:=by
 have u3:=Try.underlying3
 have a3:=Try.isAgg3
 have z3:=Try.sizeOf3
 have hS:Try.prog.underlying 113=some (.struct (Try.prog.fieldsOf 113)):=by kernel_rfl
 have hp:Try.prog.stoodInHeld 113=false:=by kernel_rfl
 rw [show (10000:Nat)=9999+1 from rfl,run_equalIn_agg w 9999 113 _ _ hS hp]
 simp only [Program.fieldsOf,Try.underlying113]
 go_simp
 by_cases h1:a=e <;> by_cases h2:b=f <;> by_cases h3:c=g <;> by_cases h4:d=h <;> simp [h1,h2,h3,h4]
theorem guardTk:Try.prog.eqGuardType Try.prog.depth 113=false:=by kernel_rfl
attribute [local go_sem] guardTk
theorem eqlTk (a b c d e f g h:Int) (w:World):(binOp .eql 113 (.agg #[.int .i64 a,.int .i64 b,.int .i64 c,.int .i64 d]) (.agg #[.int .i64 e,.int .i64 f,.int .i64 g,.int .i64 h])).run Try.prog w=.ok (.bool (decide ((a,b,c,d)=(e,f,g,h)))) w:=by
 rw [run_eql_struct,eqTk]
 rfl
theorem tokPlain_iff {k l lo hi:Int}:tokPlain (k,l,lo,hi)=decide ((k,l,lo,hi)=(k,(0:Int),(0:Int),(0:Int))):=by
 unfold tokPlain
 by_cases h1:l=0 <;> by_cases h2:lo=0 <;> by_cases h3:hi=0 <;> simp [h1,h2,h3]
set_option maxHeartbeats 4000000 in
theorem tokenOk_any (t:Tok) (w:World) :
 Calls Try.prog 83 #[.agg #[.int .i64 t.1,.int .i64 t.2.1,.int .i64 t.2.2.1,.int .i64 t.2.2.2]] w fun e w'=>e=.returned (.bool (ar t).isSome)/\Below w.heap.size w w':=by
 obtain ⟨k,l,lo,hi⟩:=t
 obtain ⟨R,hR⟩:∃ R,R=(ar (k,l,lo,hi)).isSome:=⟨_,rfl⟩
 rw [<- hR]
 have HR:=Hd_ hR
 clear hR
 simp only
 obtain ⟨bb,hbb⟩:∃ bb,bb=decide ((k,l,lo,hi)=(k,(0:Int),(0:Int),(0:Int))):=⟨_,rfl⟩
 have HEQ:=Hd_ (fun (w:World)=>eqlTk k l lo hi k 0 0 0 w)
 rw [<- hbb] at HEQ
 have HBB:=Hd_ hbb
 clear hbb
 by_cases h3:k=3
 · subst h3
   clear HEQ HBB bb
   have HL:=Hd_ (fun w=>isLetter_any l w)
   cases hw:wi l 0 8 with
   | false =>
     have hfin:R=false:=by
      rw [HR.out]
      have hn:¬ (0<=l/\l<=8):=fun h=>by rw [wi_yes h.1 h.2] at hw;cases hw
      simp only [ar]
      rw [if_neg (by decide),if_pos trivial,if_neg (fun h=>hn ⟨h.1,h.2.1⟩)]
      rfl
     rw [hw] at HL
     clear HR hw
     subst hfin
     go_enter Try.func83,Try.ntmps83
     go_wp2_with fail
     refine (HL.out _).mono ?_
     rintro e w' ⟨rfl,rfl⟩
     go_wp2_with fail
     go_ret
     exact ⟨rfl,(Below.refl _ _).alloc (Nat.le_refl _) _⟩
   | true =>
     have hl:=wi_iff.1 hw
     rw [hw] at HL
     have hfin:R=(decide (lo=0) && decide (hi=0)):=by
      rw [HR.out]
      simp only [ar]
      rw [if_neg (by decide),if_pos trivial]
      by_cases h1:lo=0 <;> by_cases h2:hi=0 <;> simp [h1,h2,hl.1,hl.2]
     clear HR hw hl
     by_cases h1:lo=0
     · subst h1
       by_cases h2:hi=0
       · subst h2
         simp at hfin
         subst hfin
         go_enter Try.func83,Try.ntmps83
         go_wp2_with fail
         refine (HL.out _).mono ?_
         rintro e w' ⟨rfl,rfl⟩
         go_wp2_with fail
         go_ret
         exact ⟨rfl,(Below.refl _ _).alloc (Nat.le_refl _) _⟩
       · have hx:(hi==0)=false:=by simpa using h2
         simp [h2] at hfin
         subst hfin
         clear h2
         go_enter Try.func83,Try.ntmps83
         go_wp2_with fail
         refine (HL.out _).mono ?_
         rintro e w' ⟨rfl,rfl⟩
         go_wp2_with fail
         go_ret
         exact ⟨rfl,(Below.refl _ _).alloc (Nat.le_refl _) _⟩
     · have hx:(lo==0)=false:=by simpa using h1
       simp [h1] at hfin
       subst hfin
       clear h1
       go_enter Try.func83,Try.ntmps83
       go_wp2_with fail
       refine (HL.out _).mono ?_
       rintro e w' ⟨rfl,rfl⟩
       go_wp2_with fail
       go_ret
       exact ⟨rfl,(Below.refl _ _).alloc (Nat.le_refl _) _⟩
 by_cases h7:k=7
 · subst h7
   clear HEQ HBB bb h3
   have HW:=Hd_ (fun n a b w=>within_any n a b w)
   have hfin:R=(decide (l=0) && (wi lo 0 hi && wi hi 1 3)):=by
    rw [HR.out]
    simp only [ar]
    rw [if_neg (by decide),if_neg (by decide),if_neg (by decide),if_neg (by decide),if_pos trivial]
    by_cases h1:l=0
    · by_cases h2:0<=lo/\lo<=hi
      · by_cases h3:1<=hi/\hi<=3
        · rw [wi_yes h2.1 h2.2,wi_yes h3.1 h3.2,if_pos ⟨h1,h3.1,h3.2,h2.1,h2.2⟩,h1];rfl
        · rw [wi_no h3,if_neg (fun h=>h3 ⟨h.2.1,h.2.2.1⟩)];simp
      · rw [wi_no h2,if_neg (fun h=>h2 ⟨h.2.2.2.1,h.2.2.2.2⟩)];simp
    · rw [if_neg (fun h=>h1 h.1)];simp [h1]
   clear HR
   by_cases h1:l=0
   · subst h1
     obtain ⟨b1,hb1⟩:∃ b1,b1=wi lo 0 hi:=⟨_,rfl⟩
     obtain ⟨b2,hb2⟩:∃ b2,b2=wi hi 1 3:=⟨_,rfl⟩
     have H1:=Hd_ (hb1 ▸ HW.out lo 0 hi)
     have H2:=Hd_ (hb2 ▸ HW.out hi 1 3)
     rw [<- hb1,<- hb2] at hfin
     clear hb1 hb2 HW
     cases b1 with
     | false =>
       simp at hfin
       subst hfin
       go_enter Try.func83,Try.ntmps83
       go_wp2_with fail
       refine (H1.out _).mono ?_
       rintro e w' ⟨rfl,rfl⟩
       go_wp2_with fail
       go_ret
       exact ⟨rfl,(Below.refl _ _).alloc (Nat.le_refl _) _⟩
     | true =>
       simp at hfin
       subst hfin
       go_enter Try.func83,Try.ntmps83
       go_wp2_with fail
       refine (H1.out _).mono ?_
       rintro e w' ⟨rfl,rfl⟩
       go_wp2_with fail
       refine (H2.out _).mono ?_
       rintro e w' ⟨rfl,rfl⟩
       go_wp2_with fail
       go_ret
       exact ⟨rfl,(Below.refl _ _).alloc (Nat.le_refl _) _⟩
   · have hx:(l==0)=false:=by simpa using h1
     simp [h1] at hfin
     subst hfin
     clear h1 HW
     go_enter Try.func83,Try.ntmps83
     go_wp2_with fail
     go_ret
     exact ⟨rfl,(Below.refl _ _).alloc (Nat.le_refl _) _⟩
 by_cases h1:k=1
 · subst h1
   have hfin:R=bb:=by rw [HR.out,HBB.out,<- tokPlain_iff];simp only [ar];cases tokPlain (1,l,lo,hi) <;> simp
   clear HR HBB
   subst hfin
   have heq:=HEQ.out
   go_enter Try.func83,Try.ntmps83
   go_wp2_with fail
   go_ret
   exact ⟨rfl,(Below.refl _ _).alloc (Nat.le_refl _) _⟩
 by_cases h2:k=2
 · subst h2
   have hfin:R=bb:=by rw [HR.out,HBB.out,<- tokPlain_iff];simp only [ar];cases tokPlain (2,l,lo,hi) <;> simp
   clear HR HBB
   subst hfin
   have heq:=HEQ.out
   go_enter Try.func83,Try.ntmps83
   go_wp2_with fail
   go_ret
   exact ⟨rfl,(Below.refl _ _).alloc (Nat.le_refl _) _⟩
 by_cases h4:k=4
 · subst h4
   have hfin:R=bb:=by rw [HR.out,HBB.out,<- tokPlain_iff];simp only [ar];cases tokPlain (4,l,lo,hi) <;> simp
   clear HR HBB
   subst hfin
   have heq:=HEQ.out
   go_enter Try.func83,Try.ntmps83
   go_wp2_with fail
   go_ret
   exact ⟨rfl,(Below.refl _ _).alloc (Nat.le_refl _) _⟩
 by_cases h5:k=5
 · subst h5
   have hfin:R=bb:=by rw [HR.out,HBB.out,<- tokPlain_iff];simp only [ar];cases tokPlain (5,l,lo,hi) <;> simp
   clear HR HBB
   subst hfin
   have heq:=HEQ.out
   go_enter Try.func83,Try.ntmps83
   go_wp2_with fail
   go_ret
   exact ⟨rfl,(Below.refl _ _).alloc (Nat.le_refl _) _⟩
 by_cases h6:k=6
 · subst h6
   have hfin:R=bb:=by rw [HR.out,HBB.out,<- tokPlain_iff];simp only [ar];cases tokPlain (6,l,lo,hi) <;> simp
   clear HR HBB
   subst hfin
   have heq:=HEQ.out
   go_enter Try.func83,Try.ntmps83
   go_wp2_with fail
   go_ret
   exact ⟨rfl,(Below.refl _ _).alloc (Nat.le_refl _) _⟩
 have hfin:R=false:=by rw [HR.out];simp [ar,h1,h2,h3,h4,h5,h6,h7]
 have k1:(k==1)=false:=by simpa using h1
 have k2:(k==2)=false:=by simpa using h2
 have k3:(k==3)=false:=by simpa using h3
 have k4:(k==4)=false:=by simpa using h4
 have k5:(k==5)=false:=by simpa using h5
 have k6:(k==6)=false:=by simpa using h6
 have k7:(k==7)=false:=by simpa using h7
 clear HR HEQ HBB h1 h2 h3 h4 h5 h6 h7
 subst hfin
 go_enter Try.func83,Try.ntmps83
 go_wp2_with fail
 go_ret
 exact ⟨rfl,(Below.refl _ _).alloc (Nat.le_refl _) _⟩
theorem parse_fail {l:List Tok} {i:Nat} (h:parseTo l i=none):∀ {j:Nat},i<=j->parseTo l j=none
 | 0,hj=>by obtain rfl:i=0:=by omega
            exact h
 | j+1,hj=>by
   rcases Nat.eq_or_lt_of_le hj with rfl | hl
   · exact h
   · rw [parseTo,parse_fail h (j:=j) (by omega)]
theorem parse_step {l:List Tok} {i:Nat} {st:List Tr} {t:Tok} (h:parseTo l i=some st) (ht:l[i]?=some t):parseTo l (i+1)=push st t:=by
 rw [parseTo,h,ht]
theorem treeL_no {l:List Tok} {i:Nat} (h:parseTo l i=none) (hi:i<=l.length):(treeL l).isSome=false:=by
 rw [treeL,parse_fail h hi];rfl
theorem treeL_end {l:List Tok} {st:List Tr} (h:parseTo l l.length=some st):(treeL l).isSome=decide (st.length=1):=by
 rw [treeL,h]
 match st with
 | []=>rfl
 | [r]=>rfl
 | _ :: _ :: _=>simp
theorem parse_len {l:List Tok}:∀ {i:Nat} {st:List Tr},parseTo l i=some st->st.length<=i
 | 0,st,h=>by
   simp only [parseTo,Option.some.injEq] at h
   subst h
   simp
 | i+1,st,h=>by
   rw [parseTo] at h
   cases hp:parseTo l i with
   | none=>rw [hp] at h;cases h
   | some st0 =>
     rw [hp] at h
     cases ht:l[i]? with
     | none=>rw [ht] at h;cases h
     | some t =>
       rw [ht] at h
       have h1:=push_len h
       have h2:=parse_len hp
       omega
/-- an expression: at most 24 tokens that are one tree -/
def okE (l:List Tok):Bool:=decide (l.length<=24) && (treeL l).isSome
set_option maxHeartbeats 4000000 in
theorem isExpr_any (ss:Value) (l:List Tok) (w:World) (hv:SlE w cEd 4 ss l) :
 Calls Try.prog 70 #[.agg #[ss]] w fun e w'=>e=.returned (.bool (treeL l).isSome)/\Below w.heap.size w w':=by
 obtain ⟨A,c,rfl,hl,hm,hx⟩:=hv
 unfold maxLen at hm
 have HX:=Hd_ hx
 obtain ⟨n,hn⟩:∃ n,n=l.length:=⟨_,rfl⟩
 obtain ⟨R,hR⟩:∃ R,R=(treeL l).isSome:=⟨_,rfl⟩
 rw [<- hR,<- hn]
 rw [<- hn] at hl
 have HN:=Hd_ hn
 have HR:=Hd_ hR
 clear hx hn hR
 have hb0:Below w.heap.size w (w.alloc (.cells #[.slice A n c] 40)):=(Below.refl _ _).alloc (Nat.le_refl _) _
 have bk:=Blk.new w 40 #[.slice A n c] _ rfl
 go_enter Try.func70,Try.ntmps70
 go_wp2
 go_loopw [3,4] (fun dd ii wr=>∃ (i:Nat) (st:List Tr),i<=n/\parseTo l i=some st/\dd=.int .i64 (st.length:Int)/\ii=.int .i64 (i:Int)/\Below w.heap.size w wr/\Blk wr w.heap.size 40 #[.slice A n c]) (fun _ ii _=>n - (intOf ii).toNat)
 case atStart=>exact ⟨0,[],Nat.zero_le _,rfl,rfl,rfl,hb0,bk⟩
 case round =>
  obtain ⟨i,st,hi,hp,rfl,rfl,hb,hbk⟩:=hrel
  have hsl:=parse_len hp
  have HP:=Hd_ hp
  have HB:=Hd_ hb
  have HBK:=Hd_ hbk
  have x0:wr.cell? ⟨w.heap.size,0,none⟩=some (.slice A n c):=hbk.cell 0
  have hlw:=hbk.lt
  clear hp hb hbk hb0 bk
  obtain ⟨d,hd⟩:∃ d,d=st.length:=⟨_,rfl⟩
  rw [<- hd] at hsl ⊢
  have HD:=Hd_ hd
  clear hd
  by_cases hlt:i < n
  · have hxi:l[i]?=some l[i]:=List.getElem?_eq_getElem (by have:=HN.out;omega)
    obtain ⟨q,o,rfl,-,hq,hcc⟩:=HX.out i _ hxi
    generalize l[i]=t at hcc hxi
    have HXI:=Hd_ hxi
    have hbt:=arI_bd t
    have e0:=(HB.out.cell (p:=⟨q,o+i * 4+0,none⟩) hq).trans (hcc 0 _ rfl)
    have e1:=(HB.out.cell (p:=⟨q,o+i * 4+1,none⟩) hq).trans (hcc 1 _ rfl)
    have e2:=(HB.out.cell (p:=⟨q,o+i * 4+2,none⟩) hq).trans (hcc 2 _ rfl)
    have e3:=(HB.out.cell (p:=⟨q,o+i * 4+3,none⟩) hq).trans (hcc 3 _ rfl)
    simp only [Nat.add_zero] at e0
    have hii:(i:Int) < (n:Int):=by omega
    clear hcc hxi
    go_wp2_with fail
    refine (l8Arity_any t _).mono ?_
    rintro e w2 ⟨rfl,hb2⟩
    have HB2:=Hd_ (HB.out.trans (hb2.mono HB.out.size))
    have HBK2:=Hd_ (HBK.out.keep hb2)
    clear e0 e1 e2 e3 x0 hb2
    rcases ar_cases t with ha | ha
    · have hf:=arI_none ha
      rw [hf]
      have hfin:R=false:=by rw [HR.out];exact treeL_no (i:=i+1) (by rw [parse_step HP.out HXI.out];exact push_none (.inl ha)) (by have:=HN.out;omega)
      clear HR ha hf hbt
      subst hfin
      go_wp2_with fail
      go_ret
      exact ⟨rfl,HB2.out⟩
    · obtain ⟨a,haa⟩:∃ a,ar t=some a:=by rcases ha with h | h | h <;> exact ⟨_,h⟩
      have hf:=arI_some haa
      rw [hf] at hbt ⊢
      clear ha hf
      by_cases had:d < a
      · have hfin:R=false:=by rw [HR.out];exact treeL_no (i:=i+1) (by rw [parse_step HP.out HXI.out];exact push_none (.inr ⟨a,haa,by have:=HD.out;omega⟩)) (by have:=HN.out;omega)
        clear HR haa
        subst hfin
        have hdd:(d:Int) < (a:Int):=by omega
        have hd0:decide ((a:Int) < 0)=false:=decide_eq_false (by omega)
        go_wp2_with fail
        go_ret
        exact ⟨rfl,HB2.out⟩
      · obtain ⟨st',hst⟩:=push_some haa (st:=st) (by have:=HD.out;omega)
        have hpl:=push_len hst
        rw [haa] at hpl
        simp only [Option.getD_some] at hpl
        have HST:=Hd_ hst
        have HPL:=Hd_ hpl
        have HAA:=Hd_ haa
        clear hst hpl haa
        have hdd:¬ (d:Int) < (a:Int):=by omega
        have hd0:decide ((a:Int) < 0)=false:=decide_eq_false (by omega)
        go_wp2_with fail
        go_roundw
        case rel =>
         refine ⟨i+1,st',by omega,by rw [parse_step HP.out HXI.out];exact HST.out,?_,by go_num,HB2.out,HBK2.out⟩
         have h1:=HPL.out
         have h2:=HD.out
         congr 1
         omega
        case measure=>simp [intOf];omega
  · have hin:i=n:=by omega
    have hpe:parseTo l l.length=some st:=by have h:=HP.out;rw [hin,HN.out] at h;exact h
    have hfin:R=decide (d=1):=by rw [HR.out,treeL_end hpe,HD.out]
    clear HR hpe
    have hii:¬ (i:Int) < (n:Int):=by omega
    clear hin
    by_cases hd1:d=1
    · have hR1:R=true:=by rw [hfin];simpa using hd1
      clear hfin
      subst hR1 hd1
      go_wp2_with fail
      go_ret
      exact ⟨rfl,HB.out⟩
    · have hR1:R=false:=by rw [hfin];simpa using hd1
      have hdd:((d:Int)==1)=false:=by simp;omega
      clear hfin hd1
      subst hR1
      go_wp2_with fail
      go_ret
      exact ⟨rfl,HB.out⟩
set_option maxHeartbeats 1000000 in
theorem isValidExpr_any (ss:Value) (l:List Tok) (w:World) (hv:SlE w cEd 4 ss l) :
 Calls Try.prog 42 #[.agg #[ss]] w fun e w'=>e=.returned (.bool (okE l))/\Below w.heap.size w w':=by
 have HV:=Hd_ hv
 obtain ⟨A,c,rfl,hl,hm,-⟩:=hv
 unfold maxLen at hm
 obtain ⟨n,hn⟩:∃ n,n=l.length:=⟨_,rfl⟩
 obtain ⟨R,hR⟩:∃ R,R=okE l:=⟨_,rfl⟩
 rw [<- hR]
 rw [<- hn] at hl HV ⊢
 have HR:=Hd_ (show R=(decide (n<=24) && (treeL l).isSome) by rw [hR,okE,hn])
 clear hR hn
 have hb0:Below w.heap.size w (w.alloc (.cells #[.slice A n c] 40)):=(Below.refl _ _).alloc (Nat.le_refl _) _
 have HV0:=Hd_ (HV.out.keep hb0)
 have HB0:=Hd_ hb0
 clear hb0
 by_cases h24:n<=24
 · have hd:decide ((n:Int)<=24)=true:=decide_eq_true (by omega)
   have hfin:R=(treeL l).isSome:=by rw [HR.out,decide_eq_true h24,Bool.true_and]
   clear HR
   go_enter Try.func42,Try.ntmps42
   go_wp2_with fail
   refine (isExpr_any _ l _ HV0.out).mono ?_
   rintro e w2 ⟨rfl,hb2⟩
   rw [<- hfin]
   clear hfin
   go_wp2_with fail
   go_ret
   exact ⟨rfl,below_trans HB0.out hb2⟩
 · have hd:decide ((n:Int)<=24)=false:=decide_eq_false (by omega)
   have hfin:R=false:=by rw [HR.out,decide_eq_false h24,Bool.false_and]
   clear HR h24
   subst hfin
   go_enter Try.func42,Try.ntmps42
   go_wp2_with fail
   go_ret
   exact ⟨rfl,HB0.out⟩
theorem post_ar:∀ {r:Tr},r.ok->∀ t ∈ post r,(ar t).isSome=true
 | .leaf t,h,x,hx=>by
   rw [post,List.mem_singleton] at hx
   rw [hx,show ar t=some 0 from h];rfl
 | .un t a,h,x,hx=>by
   rw [post,List.mem_append,List.mem_singleton] at hx
   rcases hx with hx | rfl
   · exact post_ar h.2 x hx
   · rw [h.1];rfl
 | .bin t a b,h,x,hx=>by
   rw [post,List.mem_append,List.mem_append,List.mem_singleton] at hx
   rcases hx with (hx | hx) | rfl
   · exact post_ar h.2.1 x hx
   · exact post_ar h.2.2 x hx
   · rw [h.1];rfl
theorem net_cons (t:Tok) (l:List Tok):net (t :: l)=net [t]+net l:=net_app [t] l
theorem net_bd (l:List Tok):-(l.length:Int)<=net l/\net l<=l.length:=by
 induction l with
 | nil=>simp [net]
 | cons t l ih =>
   rw [net_cons,net_one,List.length_cons]
   have:=arI_bd t
   rcases ar_cases t with h | h | h | h <;> rw [h] <;> simp <;> omega
set_option maxHeartbeats 4000000 in
theorem l8Start_any (ss:Value) (xs:List Tok) (r:Tr) (w:World) (hv:SlE w cEd 4 ss (xs ++ post r)) (hr:r.ok) (hlen:(xs ++ post r).length<=1048576) :
 Calls Try.prog 73 #[ss] w fun e w'=>e=.returned (.int .i64 (xs.length:Int))/\Below w.heap.size w w':=by
 obtain ⟨A,c,rfl,hl,hm,hx⟩:=hv
 unfold maxLen at hm
 have HX:=Hd_ hx
 obtain ⟨L,hL⟩:∃ L,L=xs ++ post r:=⟨_,rfl⟩
 rw [<- hL] at hl HX hlen ⊢
 obtain ⟨n,hn⟩:∃ n,n=L.length:=⟨_,rfl⟩
 rw [<- hn] at hl hlen ⊢
 obtain ⟨m,hm2⟩:∃ m,m=xs.length:=⟨_,rfl⟩
 rw [<- hm2]
 have hmn:m<=n:=by rw [hm2,hn,hL,List.length_append];omega
 have HN:=Hd_ hn
 have HS:=Hd_ (show ∀ k,m < k->k<=n->0 < 1+net (L.drop k) from fun k h1 h2=>by rw [hL];exact start_need hr (by omega) (by rw [<- hL];omega))
 have HD:=Hd_ (show 1+net (L.drop m)=0 by rw [hL,hm2];exact start_done hr)
 have HA:=Hd_ (show ∀ k t,m<=k->L[k]?=some t->(ar t).isSome=true from fun k t h1 h2=>by
  rw [hL,List.getElem?_append_right (by omega)] at h2
  exact post_ar hr t (List.mem_of_getElem? h2))
 clear hx hn hm2 hL
 go_enter Try.func73,Try.ntmps73
 go_wp2
 go_loopw [3,4] (fun dd ii wr=>∃ (k:Nat) (z:Int),k<=n/\m<=k/\z=1+net (L.drop k)/\dd=.int .i64 z/\ii=.int .i64 (k:Int)/\Below w.heap.size w wr) (fun _ ii _=>(intOf ii).toNat)
 case atStart=>exact ⟨n,1,Nat.le_refl _,hmn,by rw [HN.out,List.drop_length];rfl,rfl,rfl,Below.refl _ _⟩
 case round =>
  obtain ⟨k,z,hk,hmk,hz,rfl,rfl,hb⟩:=hrel
  have HZ:=Hd_ hz
  have HB:=Hd_ hb
  have hzb:-(n:Int)<=z/\z<=n+1:=by
   have h1:=net_bd (L.drop k)
   rw [List.length_drop] at h1
   have:=HN.out
   omega
  clear hz hb
  by_cases hkm:m < k
  · have hz0:0 < z:=by rw [HZ.out];exact HS.out k hkm hk
    obtain ⟨j,rfl⟩:∃ j,k=j+1:=⟨k - 1,by omega⟩
    have hxi:L[j]?=some L[j]:=List.getElem?_eq_getElem (by have:=HN.out;omega)
    obtain ⟨q,o,rfl,-,hq,hcc⟩:=HX.out j _ hxi
    have hat:=HA.out j _ (by omega) hxi
    have hdr:L.drop j=L[j] :: L.drop (j+1):=List.drop_eq_getElem_cons (by have:=HN.out;omega)
    generalize L[j]=t at hcc hxi hat hdr
    have hbt:=arI_bd t
    have hzn:z - 1+arI t=1+net (L.drop j):=by
     rw [hdr,net_cons,net_one,HZ.out]
     obtain ⟨a,ha⟩:=Option.isSome_iff_exists.1 hat
     rw [arI_some ha,ha,Option.getD_some]
     omega
    have HZN:=Hd_ hzn
    have e0:=(HB.out.cell (p:=⟨q,o+j * 4+0,none⟩) hq).trans (hcc 0 _ rfl)
    have e1:=(HB.out.cell (p:=⟨q,o+j * 4+1,none⟩) hq).trans (hcc 1 _ rfl)
    have e2:=(HB.out.cell (p:=⟨q,o+j * 4+2,none⟩) hq).trans (hcc 2 _ rfl)
    have e3:=(HB.out.cell (p:=⟨q,o+j * 4+3,none⟩) hq).trans (hcc 3 _ rfl)
    simp only [Nat.add_zero] at e0
    have hjn:(j:Int) < (n:Int):=by omega
    clear hcc hxi hzn hat hdr
    go_wp2_with fail
    refine (l8Arity_any t _).mono ?_
    rintro e w2 ⟨rfl,hb2⟩
    have HB2:=Hd_ (HB.out.trans (hb2.mono HB.out.size))
    clear e0 e1 e2 e3 hb2
    generalize arI t=at_ at *
    go_wp2_with fail
    go_roundw
    case rel=>exact ⟨j,z - 1+at_,by omega,by omega,HZN.out,rfl,rfl,HB2.out⟩
    case measure=>simp [intOf]
  · obtain rfl:k=m:=by omega
    have hz0:z=0:=by rw [HZ.out];exact HD.out
    clear HZ
    subst hz0
    go_wp2_with fail
    go_ret
    exact ⟨rfl,HB.out⟩
end Go.Proofs.Ytloeghbhoflabaa
namespace Go.Proofs.Ytloeghbhoflabaa
open Go.RowKit
section
variable {P:Program} {ops:Array Oper} {Q:Exit->Act->World->Prop} {md:Region.Mode} {S:World->Prop} {n:Nat}
/-- whatever order is picked; S holds behind each operation below n -/
def wpAnyF (P:Program) (md:Region.Mode) (ops:Array Oper) (Q:Exit->Act->World->Prop) (S:World->Prop) (n:Nat):Nat->Array Bool->Act->World->Prop
 | 0,listed,a,w=>Region.ready md ops listed=[]/\Q .normal a w
 | f+1,listed,a,w=>(Region.ready md ops listed=[]->Q .normal a w) /\
   ∀ i ∈ Region.ready md ops listed,wpOp P ops Q i (fun a' w'=>(i < n->S w')/\wpAnyF P md ops Q S n f (listed.setIfInBounds i true) a' w') a w
theorem F_any:∀ (f:Nat) (listed:Array Bool) (a:Act) (w:World),wpAnyF P md ops Q S n f listed a w->wpAny P md ops Q f listed a w
 | 0,_,_,_,h=>h
 | f+1,_,_,_,h=>⟨h.1,fun i hi=>wpOp_mono (fun _ _ h'=>F_any f _ _ _ h'.2) (h.2 i hi)⟩
theorem F_first {i:Nat} {oi:Oper} {v:Value} (hi:ops[i]?=some oi) (hsel:∀ (j:Nat) (o:Oper) cs b,ops[j]?=some o->o.op ≠ .select cs b) (hQ:∀ c a w,Q (.panic c) (a.put oi.dst v) w->Q (.panic c) a w)
 (hs:Region.sinkB md ops n=true) (hc:Region.chainB md ops n=true) (hn:n < ops.size) (hin:i < n):∀ (f:Nat) (listed:Array Bool) (a:Act) (w:World),HeadInv md ops n listed ->
  (∀ j oj,ops[j]?=some oj->j ≠ i->listed.getD j true=false->(∀ e ∈ oj.after,Region.binds md e=true->e.on ≠ i)->oi.apart ops oj=true) ->
  i ∈ Region.ready md ops listed->YieldsIf P ops S oi v a->S w ->
  wpAnyF P md ops Q S n f (listed.setIfInBounds i true) (a.put oi.dst v) w->wpAnyF P md ops Q S n (f+1) listed a w:=by
 intro f
 induction f with
 | zero =>
   intro listed a w inv _ hr hy hS H
   have hun:=(mem_ready.1 hr).1
   refine ⟨fun h=>(by rw [h] at hr;cases hr),fun j hj=>?_⟩
   by_cases hji:j=i
   · subst hji;exact hy.wpOp hi hS ⟨fun _=>hS,H⟩
   · have:=ready_mono hj hji
     rw [H.1] at this
     cases this
 | succ f ih =>
   intro listed a w inv hfree hr hy hS H
   have hun:=(mem_ready.1 hr).1
   refine ⟨fun h=>(by rw [h] at hr;cases hr),fun j hj=>?_⟩
   have hjn:j < n:=by
    rcases Nat.lt_or_ge j n with h | h
    · exact h
    · exact absurd hj (tail_waits hs hc hn inv _ i rfl hin hun j h)
   by_cases hji:j=i
   · subst hji;exact hy.wpOp hi hS ⟨fun _=>hS,H⟩
   · have h1:=H.2 j (ready_mono hj hji)
     obtain ⟨hjun,oj,hoj,hall⟩:=mem_ready.1 hj
     have hnot:∀ e ∈ oj.after,Region.binds md e=true->e.on ≠ i:=fun e he hb heq=>by
      have h1:=hall e he hb
      rw [heq,getD_both hun] at h1
      cases h1
     have h2:=wpOp_putIf hoj (hfree j oj hoj hji hjun hnot) (fun cs b=>hsel i oi cs b hi) (fun cs b=>hsel j oj cs b hoj) hQ hy h1
     have hfree':∀ k ok,ops[k]?=some ok->k ≠ i->(listed.setIfInBounds j true).getD k true=false->(∀ e ∈ ok.after,Region.binds md e=true->e.on ≠ i)->oi.apart ops ok=true:=fun k ok hk hki hun hno=>by
      refine hfree k ok hk hki ?_ hno
      by_cases hjk:j=k
      · subst hjk;exact hjun
      · rw [getD_set_ne true hjk] at hun;exact hun
     refine wpOp_mono (fun a' w' h3=>⟨h3.2.1,ih (listed.setIfInBounds j true) a' w' (inv.set hj hjn) hfree' (ready_mono hr (Ne.symm hji)) h3.1 (h3.2.1 hjn) ?_⟩) h2
     rw [Array.setIfInBounds_comm _ _ hji]
     exact h3.2.2
theorem F_take {i:Nat} {oi:Oper} {v:Value} {f:Nat} {listed:Array Bool} {a:Act} {w:World} (hi:ops[i]?=some oi) (hB:(Region.noSelect ops && Region.sinkB md ops n && Region.chainB md ops n && decide (n < ops.size) && decide (i < n))=true)
 (hf:Region.free md ops listed i=true) (hr:(Region.ready md ops listed).contains i=true) (hQ:∀ c a w,Q (.panic c) (a.put oi.dst v) w->Q (.panic c) a w) (inv:HeadInv md ops n listed) (hy:YieldsIf P ops S oi v a) (hS:S w)
 (h:HeadInv md ops n (listed.setIfInBounds i true)->wpAnyF P md ops Q S n f (listed.setIfInBounds i true) (a.put oi.dst v) w):wpAnyF P md ops Q S n (f+1) listed a w:=by
 simp only [Bool.and_eq_true,decide_eq_true_eq] at hB
 obtain ⟨⟨⟨⟨h1,h2⟩,h3⟩,h4⟩,h5⟩:=hB
 have hr':i ∈ Region.ready md ops listed:=by simpa using hr
 exact F_first hi (Region.noSelect_spec h1) hQ h2 h3 h4 h5 f listed a w inv (Region.free_spec hi hf) hr' hy hS (h (inv.set hr' h5))
/-- the only one that may come up: an operation below n -/
theorem F_one {i:Nat} {oi:Oper} {f:Nat} {listed:Array Bool} {a:Act} {w:World} (hr:Region.ready md ops listed=[i]) (hi:ops[i]?=some oi) (hg:oi.guard=none) (hin:i < n) (inv:HeadInv md ops n listed)
 (h:∀ K:Act->World->Prop,Shut (∀ a' w',S w'->(S w'->HeadInv md ops n (listed.setIfInBounds i true)->wpAnyF P md ops Q S n f (listed.setIfInBounds i true) a' w')->K a' w')->Oper.wp P oi a w K Q):wpAnyF P md ops Q S n (f+1) listed a w:=by
 refine ⟨fun h0=>(by rw [hr] at h0;cases h0),fun j hj=>?_⟩
 have hj2:=hj
 rw [hr] at hj2
 obtain rfl:j=i:=by simpa using hj2
 have hw:Region.wanted oi (yielded ops a.tmps)=true:=by simp [Region.wanted,hg]
 unfold wpOp
 simp only [hi,hw,if_true]
 exact .inl (h _ (fun a' w' hS hF=>⟨fun _=>hS,hF hS (inv.set hj hin)⟩))
/-- the last one -/
theorem F_last {i:Nat} {oi:Oper} {f:Nat} {listed:Array Bool} {a:Act} {w:World} (hr:Region.ready md ops listed=[i]) (hi:ops[i]?=some oi) (hg:oi.guard=none) (hin:n<=i) (he:Region.ready md ops (listed.setIfInBounds i true)=[])
 (h:∀ K:Act->World->Prop,(∀ a' w',Q .normal a' w'->K a' w')->Oper.wp P oi a w K Q):wpAnyF P md ops Q S n (f+1) listed a w:=by
 refine ⟨fun h0=>(by rw [hr] at h0;cases h0),fun j hj=>?_⟩
 rw [hr] at hj
 obtain rfl:j=i:=by simpa using hj
 have hw:Region.wanted oi (yielded ops a.tmps)=true:=by simp [Region.wanted,hg]
 unfold wpOp
 simp only [hi,hw,if_true]
 refine .inl (h _ (fun a' w' hq=>⟨fun h=>absurd h (by omega),?_⟩))
 cases f with
 | zero=>exact ⟨he,hq⟩
 | succ f=>exact ⟨fun _=>hq,by rw [he];simp⟩
theorem F_tk (i:Nat) {oi:Oper} {v:Value} {f:Nat} {listed:Array Bool} {a:Act} {w:World} (inv:HeadInv md ops n listed)
 (h:HeadInv md ops n (listed.setIfInBounds i true)->wpAnyF P md ops Q S n f (listed.setIfInBounds i true) (a.put oi.dst v) w)
 (hi:ops[i]?=some oi:=by rfl) (hB:(Region.noSelect ops && Region.sinkB md ops n && Region.chainB md ops n && decide (n < ops.size) && decide (i < n))=true:=by kernel_rfl)
 (hf:Region.free md ops listed i=true:=by kernel_rfl) (hr:(Region.ready md ops listed).contains i=true:=by kernel_rfl) (hQ:∀ c a w,Q (.panic c) (a.put oi.dst v) w->Q (.panic c) a w:=by exact fun _ _ _ h=>h)
 (hw:Region.wanted oi (yielded ops a.tmps)=true:=by rfl) (hy:∀ w,S w->(execOp a.eval oi).run P w=.ok (.value v) w:=by (intro w hSw;(try dsimp only at hSw);go_simp;try with_reducible rfl)) (hS:S w:=by assumption):wpAnyF P md ops Q S n (f+1) listed a w :=
 F_take hi hB hf hr hQ inv (.inl ⟨hw,hy⟩) hS h
theorem F_sk (i:Nat) {oi:Oper} {f:Nat} {listed:Array Bool} {a:Act} {w:World} (inv:HeadInv md ops n listed)
 (h:HeadInv md ops n (listed.setIfInBounds i true)->wpAnyF P md ops Q S n f (listed.setIfInBounds i true) (a.put oi.dst undef) w)
 (hi:ops[i]?=some oi:=by rfl) (hB:(Region.noSelect ops && Region.sinkB md ops n && Region.chainB md ops n && decide (n < ops.size) && decide (i < n))=true:=by kernel_rfl)
 (hf:Region.free md ops listed i=true:=by kernel_rfl) (hr:(Region.ready md ops listed).contains i=true:=by kernel_rfl) (hQ:∀ c a w,Q (.panic c) (a.put oi.dst undef) w->Q (.panic c) a w:=by exact fun _ _ _ h=>h)
 (hw:Region.wanted oi (yielded ops a.tmps)=false:=by rfl) (hS:S w:=by assumption):wpAnyF P md ops Q S n (f+1) listed a w :=
 F_take hi hB hf hr hQ inv (.inr ⟨hw,rfl⟩) hS h
theorem tA {α:Type} {l:List α} {i:Nat} (h:i < l.toArray.size):l.toArray[i]=l[i]'(by simpa using h):=List.getElem_toArray h
theorem tB {α:Type} {a:α} {l:List α} (h:0 < (a :: l).length):(a :: l)[0]=a:=List.getElem_cons_zero a l h
theorem tC {α:Type} (a:α) (l:List α) (i:Nat) (h:i+1 < (a :: l).length):(a :: l)[i+1]=l[i]'(Nat.lt_of_succ_lt_succ h):=List.getElem_cons_succ a l i h
theorem tE {α:Type} (l:List α) (i:Nat) (a:α):l.toArray.setIfInBounds i a=(l.set i a).toArray:=List.setIfInBounds_toArray l i a
theorem tF {α:Type} {x:α} {xs:List α} {a:α}:(x :: xs).set 0 a=a :: xs:=List.set_cons_zero
theorem tG {α:Type} {x:α} {xs:List α} {n:Nat} {a:α}:(x :: xs).set (n+1) a=x :: xs.set n a:=List.set_cons_succ
theorem F_o1 (i:Nat) {oi:Oper} {f:Nat} {listed:Array Bool} {a:Act} {w:World} (inv:HeadInv md ops n listed)
 (h:∀ K:Act->World->Prop,Shut (∀ a' w',S w'->(S w'->HeadInv md ops n (listed.setIfInBounds i true)->wpAnyF P md ops Q S n f (listed.setIfInBounds i true) a' w')->K a' w')->Oper.wp P oi a w K Q)
 (hr:Region.ready md ops listed=[i]:=by kernel_rfl) (hi:ops[i]?=some oi:=by rfl) (hg:oi.guard=none:=by rfl) (hin:i < n:=by omega):wpAnyF P md ops Q S n (f+1) listed a w:=F_one hr hi hg hin inv h
theorem F_l1 (i:Nat) {oi:Oper} {f:Nat} {listed:Array Bool} {a:Act} {w:World}
 (h:∀ K:Act->World->Prop,(∀ a' w',Q .normal a' w'->K a' w')->Oper.wp P oi a w K Q)
 (hr:Region.ready md ops listed=[i]:=by kernel_rfl) (hi:ops[i]?=some oi:=by rfl) (hg:oi.guard=none:=by rfl) (hin:n<=i:=by omega) (he:Region.ready md ops (listed.setIfInBounds i true)=[]:=by kernel_rfl):wpAnyF P md ops Q S n (f+1) listed a w:=F_last hr hi hg hin he h
/-- two that may come up -/
theorem F_two {i j:Nat} {oi oj:Oper} {f:Nat} {listed:Array Bool} {a:Act} {w:World} (hr:Region.ready md ops listed=[i,j]) (hi:ops[i]?=some oi) (hj:ops[j]?=some oj) (hgi:oi.guard=none) (hgj:oj.guard=none) (hin:i < n/\j < n) (inv:HeadInv md ops n listed)
 (h1:∀ K:Act->World->Prop,Shut (∀ a' w',S w'->(S w'->HeadInv md ops n (listed.setIfInBounds i true)->wpAnyF P md ops Q S n f (listed.setIfInBounds i true) a' w')->K a' w')->Oper.wp P oi a w K Q)
 (h2:∀ K:Act->World->Prop,Shut (∀ a' w',S w'->(S w'->HeadInv md ops n (listed.setIfInBounds j true)->wpAnyF P md ops Q S n f (listed.setIfInBounds j true) a' w')->K a' w')->Oper.wp P oj a w K Q):wpAnyF P md ops Q S n (f+1) listed a w:=by
 refine ⟨fun h0=>(by rw [hr] at h0;cases h0),fun k hk=>?_⟩
 have hk2:=hk
 rw [hr] at hk2
 simp only [List.mem_cons,List.not_mem_nil,or_false] at hk2
 rcases hk2 with rfl | rfl
 · have hw:Region.wanted oi (yielded ops a.tmps)=true:=by simp [Region.wanted,hgi]
   unfold wpOp
   simp only [hi,hw,if_true]
   exact .inl (h1 _ (fun a' w' hS hF=>⟨fun _=>hS,hF hS (inv.set hk hin.1)⟩))
 · have hw:Region.wanted oj (yielded ops a.tmps)=true:=by simp [Region.wanted,hgj]
   unfold wpOp
   simp only [hj,hw,if_true]
   exact .inl (h2 _ (fun a' w' hS hF=>⟨fun _=>hS,hF hS (inv.set hk hin.2)⟩))
theorem F_start {id:Nat} {a:Act} {w:World} (n:Nat) (S:World->Prop) (hm:P.follows .mixedOrders=true) (hS:S w.drew)
 (h:S w.drew->HeadInv .any ops n (Array.replicate ops.size false)->wpAnyF P .any ops Q S n ops.size (Array.replicate ops.size false) a w.drew):(Code.region id ops true).wp P Q a w :=
 wp_region_any hm (F_any _ _ _ _ (h hS ⟨by simp,fun j oj _ hl=>(by rw [getD_replicate_false] at hl;cases hl),fun t _ ht=>getD_in (by simpa using ht) (getD_replicate_false _ _)⟩))
/-- append(s, x): as an operation by itself; the one element lies in block H -/
theorem op_append1 {w:World} {α:Type} (E:α->List Value) {o:Oper} {a:Act} {K:Act->World->Prop} {t e:TypeId} {z:Value} {k bytes:Nat} (el:ElemOk P t e z k bytes) (hgd:o.guard=none) (s y:Operand)
 (ho:o.op=.call { callee:=.builtin .append,args:=#[s,y],argTypes:=#[t,t] })
 (base:Nat) (v:Value) (xs:List α) (x:α) (c H:Nat) (hs:a.eval s=v) (hown:w.ownsRow base e k v xs.length (xs.flatMap E)) (hy:a.eval y=.slice (some ⟨H,0,none⟩) 1 c)
 (hH:w.heap[H]?=some (.cells (E x).toArray e (0,0))) (hE:(E x).length=k) (h1:∀ u ∈ E x,u.oneCell'=true) (hbytes:(xs.length+1) * bytes<=140737488355328) (hb0:0 < bytes) (hbase:base<=w.heap.size)
 (h:∀ g cap w',w'.ownsRow base e k (.slice (some ⟨g,0,none⟩) (xs.length+1) cap) (xs ++ [x]).length ((xs ++ [x]).flatMap E)->w.grownBy w' v.ownBlock->(v.ownBlock=some g ∨ w.heap.size<=g)->g < w'.heap.size ->
  K (a.put o.dst (.slice (some ⟨g,0,none⟩) (xs.length+1) cap)) w'):Oper.wp P o a w K Q:=by
 have h2:=step_append1 (ops:=#[]) (EE:=True) (Q:=Q) (K:=K) E el hgd s y ho base v xs x c H hs hown hy hH hE h1 hbytes hb0 hbase h
 have hw:Region.wanted o (yielded #[] a.tmps)=true:=by simp [Region.wanted,hgd]
 rwa [if_pos hw] at h2
/-- the same at the head of a list of operations -/
theorem wpList_append2 {w:World} {α:Type} (E:α->List Value) {rest:List Oper} {o:Oper} {a:Act} {t e:TypeId} {z:Value} {k bytes:Nat} (el:ElemOk P t e z k bytes) (hgd:o.guard=none) (s y:Operand)
 (ho:o.op=.call { callee:=.builtin .append,args:=#[s,y],argTypes:=#[t,t] })
 (base:Nat) (v:Value) (xs:List α) (x:α) (c H:Nat) (hs:a.eval s=v) (hown:w.ownsRow base e k v xs.length (xs.flatMap E)) (hy:a.eval y=.slice (some ⟨H,0,none⟩) 1 c)
 (hH:w.heap[H]?=some (.cells (E x).toArray e (0,0))) (hE:(E x).length=k) (h1:∀ u ∈ E x,u.oneCell'=true) (hbytes:(xs.length+1) * bytes<=140737488355328) (hb0:0 < bytes) (hbase:base<=w.heap.size)
 (h:∀ g cap w',w'.ownsRow base e k (.slice (some ⟨g,0,none⟩) (xs.length+1) cap) (xs ++ [x]).length ((xs ++ [x]).flatMap E)->w.grownBy w' v.ownBlock->(v.ownBlock=some g ∨ w.heap.size<=g)->g < w'.heap.size ->
  wpList P ops Q rest (a.put o.dst (.slice (some ⟨g,0,none⟩) (xs.length+1) cap)) w'):wpList P ops Q (o :: rest) a w :=
 wpList_plain hgd fun _ hK=>op_append1 E el hgd s y ho base v xs x c H hs hown hy hH hE h1 hbytes hb0 hbase fun g cap w' h2 h3 h4 h5=>hK _ _ (h g cap w' h2 h3 h4 h5)
end
end Go.Proofs.Ytloeghbhoflabaa
