/- Parts of the proof, joined into one text: RelM, HelpPair, PutS, PrsD, DrwN, DrwA. -/
import Derived.Test.YtloeghbhoflabaaGreatOnlzMBBPDBAM
import Derived.Laws.StructEq
import Derived.Test.YtloeghbhoflabaaGreatOnlzNPPBGEHB
import Derived.Test.YtloeghbhoflabaaGreatOnlzPILNJKCD
set_option linter.unusedVariables false
set_option linter.unusedSimpArgs false
namespace Go.Proofs.YtloeghbhoflabaaGreat
def ltP (p q:Pr):Bool:=decide (p.1 < q.1) || (decide (p.1=q.1) && decide (p.2 < q.2))
theorem ltP_iff {p q:Pr}:ltP p q=true ↔ p.1 < q.1 ∨ (p.1=q.1/\p.2 < q.2):=by simp [ltP]
theorem ltP_no {p q:Pr}:ltP p q=false ↔ ¬ (p.1 < q.1 ∨ (p.1=q.1/\p.2 < q.2)):=by
 rw [<- ltP_iff];simp
theorem pr_eq {p q:Pr}:p=q ↔ p.1=q.1/\p.2=q.2:=by
 constructor
 · rintro rfl;exact ⟨rfl,rfl⟩
 · intro h;exact Prod.ext h.1 h.2
theorem ltP_trans {p q r:Pr} (h:ltP p q=true) (k:ltP q r=true):ltP p r=true:=by rw [ltP_iff] at *;omega
theorem ltP_irr {p:Pr}:¬ ltP p p=true:=by rw [ltP_iff];omega
theorem ltP_tri (p q:Pr):ltP p q=true ∨ p=q ∨ ltP q p=true:=by rw [ltP_iff,ltP_iff,pr_eq];omega
abbrev ascP (l:List Pr):Prop:=l.Pairwise fun p q=>ltP p q=true
theorem uniqP:∀ {l r:List Pr},ascP l->ascP r->(∀ x,x ∈ l ↔ x ∈ r)->l=r
 | [],[],_,_,_=>rfl
 | [],y :: r,_,_,h=>absurd ((h y).2 (by simp)) (by simp)
 | x :: l,[],_,_,h=>absurd ((h x).1 (by simp)) (by simp)
 | x :: l,y :: r,h1,h2,h=>by
   obtain ⟨a1,a2⟩:=List.pairwise_cons.1 h1
   obtain ⟨b1,b2⟩:=List.pairwise_cons.1 h2
   have hxy:x=y:=by
    have e1:=(h x).1 (by simp)
    have e2:=(h y).2 (by simp)
    rcases List.mem_cons.1 e1 with e1 | e1
    · exact e1
    · rcases List.mem_cons.1 e2 with e2 | e2
      · exact e2.symm
      · exact absurd (ltP_trans (b1 x e1) (a1 y e2)) ltP_irr
   subst hxy
   rw [uniqP a2 b2 fun z=>?_]
   have hz:=h z
   simp only [List.mem_cons] at hz
   constructor
   · intro hm
     rcases hz.1 (.inr hm) with e | e
     · subst e;exact absurd (a1 z hm) ltP_irr
     · exact e
   · intro hm
     rcases hz.2 (.inr hm) with e | e
     · subst e;exact absurd (b1 z hm) ltP_irr
     · exact e
theorem subP:∀ {l r:List Pr},ascP l->ascP r->(∀ x,x ∈ l->x ∈ r)->l.Sublist r
 | [],r,_,_,_=>List.nil_sublist r
 | x :: l,[],_,_,h=>absurd (h x (by simp)) (by simp)
 | x :: l,y :: r,h1,h2,h=>by
   obtain ⟨a1,a2⟩:=List.pairwise_cons.1 h1
   obtain ⟨b1,b2⟩:=List.pairwise_cons.1 h2
   rcases List.mem_cons.1 (h x (by simp)) with e | e
   · subst e
     refine List.Sublist.cons_cons _ (subP a2 b2 fun z hz=>?_)
     rcases List.mem_cons.1 (h z (List.mem_cons_of_mem _ hz)) with e | e
     · subst e;exact absurd (a1 z hz) ltP_irr
     · exact e
   · refine List.Sublist.cons _ (subP h1 b2 fun z hz=>?_)
     rcases List.mem_cons.1 (h z hz) with e2 | e2
     · subst e2
       rcases List.mem_cons.1 hz with e3 | e3
       · subst e3;exact absurd (b1 _ e) ltP_irr
       · exact absurd (ltP_trans (b1 x e) (a1 z e3)) ltP_irr
     · exact e2
def putP:List Pr->Pr->List Pr
 | [],p=>[p]
 | x :: l,p=>if ltP x p=true then x :: putP l p else if x=p then x :: l else p :: x :: l
theorem mem_putP {l:List Pr} {p x:Pr}:x ∈ putP l p ↔ x=p ∨ x ∈ l:=by
 induction l with
 | nil=>simp [putP]
 | cons y l ih =>
   rw [putP]
   split
   · simp only [List.mem_cons,ih]
     constructor
     · rintro (h | h | h) <;> simp [h]
     · rintro (h | h | h) <;> simp [h]
   · split
     · rename_i h
       subst h
       simp only [List.mem_cons]
       constructor
       · intro h;exact .inr h
       · rintro (h | h)
         · exact .inl h
         · exact h
     · simp [List.mem_cons]
theorem putP_asc {l:List Pr} {p:Pr} (h:ascP l):ascP (putP l p):=by
 induction l with
 | nil=>simp [putP,ascP]
 | cons y l ih =>
   obtain ⟨a1,a2⟩:=List.pairwise_cons.1 h
   rw [putP]
   split
   · rename_i hy
     refine List.pairwise_cons.2 ⟨fun z hz=>?_,ih a2⟩
     rcases mem_putP.1 hz with e | e
     · subst e;exact hy
     · exact a1 z e
   · split
     · exact h
     · rename_i h1 h2
       have hp:ltP p y=true:=by
        rcases ltP_tri y p with e | e | e
        · exact absurd e h1
        · exact absurd e h2
        · exact e
       refine List.pairwise_cons.2 ⟨fun z hz=>?_,h⟩
       rcases List.mem_cons.1 hz with e | e
       · subst e;exact hp
       · exact ltP_trans hp (a1 z e)
/-- how the reference lays it: behind the k first ones, which are smaller -/
theorem putP_at:∀ {l:List Pr} {p:Pr} {k:Nat},k<=l.length->(∀ i x,i < k->l[i]?=some x->ltP x p=true)->(∀ x,l[k]?=some x->ltP x p=false) ->
 putP l p=if l[k]?=some p then l else l.take k ++ [p] ++ l.drop k
 | [],p,k,hk,_,_=>by
   obtain rfl:k=0:=by simpa using hk
   simp [putP]
 | y :: l,p,0,_,_,h2=>by
   have hy:=h2 y rfl
   rw [putP,if_neg (by simp [hy])]
   by_cases e:y=p
   · subst e;simp
   · rw [if_neg e];simp [e]
 | y :: l,p,k+1,hk,h1,h2=>by
   have hy:=h1 0 y (by omega) rfl
   rw [putP,if_pos hy,putP_at (l:=l) (k:=k) (by simpa using hk) (fun i x hi hx=>h1 (i+1) x (by omega) (by simpa using hx)) (fun x hx=>h2 x (by simpa using hx))]
   simp only [List.getElem?_cons_succ]
   split
   · rfl
   · simp
def psetL (xs:List Pr):List Pr:=xs.foldl putP []
theorem foldl_put (xs:List Pr):∀ (l:List Pr),ascP l->ascP (xs.foldl putP l)/\∀ x,x ∈ xs.foldl putP l ↔ x ∈ l ∨ x ∈ xs:=by
 induction xs with
 | nil=>intro l h;exact ⟨h,by simp⟩
 | cons y xs ih =>
   intro l h
   obtain ⟨h1,h2⟩:=ih _ (putP_asc (p:=y) h)
   refine ⟨h1,fun x=>?_⟩
   rw [List.foldl_cons,h2,mem_putP,List.mem_cons]
   constructor
   · rintro ((h | h) | h) <;> simp [h]
   · rintro (h | h | h) <;> simp [h]
theorem psetL_asc (xs:List Pr):ascP (psetL xs):=(foldl_put xs [] List.Pairwise.nil).1
theorem mem_psetL {xs:List Pr} {x:Pr}:x ∈ psetL xs ↔ x ∈ xs:=by rw [psetL,(foldl_put xs [] List.Pairwise.nil).2];simp
theorem psetL_of {xs ys:List Pr} (h:∀ x,x ∈ xs ↔ x ∈ ys):psetL xs=psetL ys:=uniqP (psetL_asc _) (psetL_asc _) fun x=>by rw [mem_psetL,mem_psetL,h]
theorem putP_len (l:List Pr) (p:Pr):(putP l p).length<=l.length+1:=by
 induction l with
 | nil=>simp [putP]
 | cons y l ih=>rw [putP];split <;> (try split) <;> simp <;> omega
theorem foldl_put_len (xs l:List Pr):(xs.foldl putP l).length<=l.length+xs.length:=by
 induction xs generalizing l with
 | nil=>simp
 | cons y xs ih=>have:=ih (putP l y);have:=putP_len l y;simp only [List.foldl_cons,List.length_cons];omega
theorem psetL_len (xs:List Pr):(psetL xs).length<=xs.length:=by have:=foldl_put_len xs [];simpa [psetL] using this
theorem psetL_snoc (xs:List Pr) (p:Pr):psetL (xs ++ [p])=putP (psetL xs) p:=by simp [psetL,List.foldl_append]
theorem psetL_app (xs ys:List Pr):psetL (xs ++ ys)=ys.foldl putP (psetL xs):=by simp [psetL,List.foldl_append]
def keepP (xs:List Pr) (i:Nat):Bool:=i==0 || xs.getD i (0,0) != xs.getD (i - 1) (0,0)
def compTo (xs:List Pr) (k:Nat):List Pr:=((List.range k).filter (keepP xs)).map fun i=>xs.getD i (0,0)
theorem compTo_yes {xs:List Pr} {k:Nat} (h:keepP xs k=true):compTo xs (k+1)=compTo xs k ++ [xs.getD k (0,0)]:=by simp [compTo,List.range_succ,List.filter_append,h]
theorem compTo_no {xs:List Pr} {k:Nat} (h:keepP xs k=false):compTo xs (k+1)=compTo xs k:=by simp [compTo,List.range_succ,List.filter_append,h]
theorem compTo_spec {xs:List Pr} (hs:∀ i j,i < j->j < xs.length->ltP (xs.getD j (0,0)) (xs.getD i (0,0))=false):∀ k,k<=xs.length->ascP (compTo xs k)/\(∀ x,x ∈ compTo xs k ↔ x ∈ xs.take k)/\(∀ x ∈ compTo xs k,0 < k->ltP (xs.getD (k - 1) (0,0)) x=false):=by
 intro k
 induction k with
 | zero=>intro _;exact ⟨List.Pairwise.nil,by simp [compTo],by simp [compTo]⟩
 | succ k ih =>
   intro hk
   obtain ⟨h1,h2,h3⟩:=ih (by omega)
   have hxk:xs[k]?=some (xs.getD k (0,0)):=by rw [List.getD_eq_getElem?_getD,List.getElem?_eq_getElem (by omega)];rfl
   have htk:xs.take (k+1)=xs.take k ++ [xs.getD k (0,0)]:=take_snoc hxk
   have hle:∀ x ∈ compTo xs k,ltP (xs.getD k (0,0)) x=false:=fun x hx=>by
    obtain ⟨j,hj⟩:=List.getElem?_of_mem ((h2 x).1 hx)
    have hjk:j < k:=by have:=(List.getElem?_eq_some_iff.1 hj).1;rw [List.length_take] at this;omega
    rw [List.getElem?_take_of_lt hjk] at hj
    have:=hs j k hjk (by omega)
    rwa [List.getD_eq_getElem?_getD (l:=xs) (i:=j),hj] at this
   cases hkp:keepP xs k with
   | true =>
     rw [compTo_yes hkp]
     refine ⟨List.pairwise_append.2 ⟨h1,by simp,fun x hx y hy=>?_⟩,fun x=>by rw [List.mem_append,h2,htk,List.mem_append],fun x hx _=>?_⟩
     · rw [List.mem_singleton] at hy
       subst hy
       have hl:=hle x hx
       rcases Nat.eq_zero_or_pos k with h0 | h0
       · subst h0;simp [compTo] at hx
       · have h4:=h3 x hx h0
         have h5:xs.getD k (0,0) ≠ xs.getD (k - 1) (0,0):=by
          have h6:(k==0)=false:=by simp;omega
          simpa [keepP,h6] using hkp
         have h6:=hs (k - 1) k (by omega) (by omega)
         rcases ltP_tri x (xs.getD k (0,0)) with e | e | e
         · exact e
         · exfalso
           subst e
           rcases ltP_tri (xs.getD (k - 1) (0,0)) (xs.getD k (0,0)) with e | e | e
           · rw [h4] at e;cases e
           · exact h5 e.symm
           · rw [h6] at e;cases e
         · rw [hl] at e;cases e
     · simp only [Nat.add_sub_cancel]
       rcases List.mem_append.1 hx with hx | hx
       · exact hle x hx
       · rw [List.mem_singleton] at hx
         subst hx
         rw [ltP_no];omega
   | false =>
     rw [compTo_no hkp]
     have h0:0 < k:=by
      rcases Nat.eq_zero_or_pos k with h0 | h0
      · subst h0;simp [keepP] at hkp
      · exact h0
     have he:xs.getD k (0,0)=xs.getD (k - 1) (0,0):=by
      have h6:(k==0)=false:=by simp;omega
      simpa [keepP,h6] using hkp
     refine ⟨h1,fun x=>?_,fun x hx _=>?_⟩
     · rw [h2,htk,List.mem_append,List.mem_singleton]
       constructor
       · intro h;exact .inl h
       · rintro (h | h)
         · exact h
         · subst h
           rw [he]
           refine List.mem_of_getElem? (i:=k - 1) ?_
           rw [List.getElem?_take_of_lt (by omega),List.getD_eq_getElem?_getD,List.getElem?_eq_getElem (by omega)];rfl
     · simp only [Nat.add_sub_cancel]
       exact hle x hx
/-- a sorted rearrangement, its like neighbours struck out, is the set -/
theorem compTo_set {xs ys:List Pr} (hs:∀ i j,i < j->j < xs.length->ltP (xs.getD j (0,0)) (xs.getD i (0,0))=false) (hp:∀ x,x ∈ xs ↔ x ∈ ys):compTo xs xs.length=psetL ys:=by
 obtain ⟨h1,h2,_⟩:=compTo_spec hs xs.length (Nat.le_refl _)
 exact uniqP h1 (psetL_asc _) fun x=>by rw [h2,List.take_length,mem_psetL,hp]
def compRow (p:Pr) (b:List Pr):List Pr:=(b.filter fun q=>p.2==q.1).map fun q=>(p.1,q.2)
def compL (a b:List Pr):List Pr:=a.flatMap fun p=>compRow p b
theorem mem_compL {a b:List Pr} {x:Pr}:x ∈ compL a b ↔ ∃ p ∈ a,∃ q ∈ b,p.2=q.1/\x=(p.1,q.2):=by
 simp only [compL,compRow,List.mem_flatMap,List.mem_map,List.mem_filter,beq_iff_eq]
 constructor
 · rintro ⟨p,hp,q,⟨hq,he⟩,rfl⟩;exact ⟨p,hp,q,hq,he,rfl⟩
 · rintro ⟨p,hp,q,hq,he,rfl⟩;exact ⟨p,hp,q,⟨hq,he⟩,rfl⟩
def composeL (a b:List Pr):List Pr:=psetL (compL a b)
theorem composeL_pset (a b:List Pr):psetL (compL (psetL a) b)=composeL a b:=psetL_of fun x=>by simp only [mem_compL,mem_psetL]
def invertL (l:List Pr):List Pr:=psetL (l.map fun p=>(p.2,p.1))
def mergeL (a b:List Pr):List Pr:=psetL (a ++ b)
def closStep (l out:List Pr):List Pr:=mergeL out (composeL out l)
def closK (l o:List Pr):Nat->List Pr
 | 0=>o
 | k+1=>closStep l (closK l o k)
theorem closK_asc {l o:List Pr} (h:ascP o):∀ k,ascP (closK l o k)
 | 0=>h
 | _+1=>psetL_asc _
theorem mem_closStep {l out:List Pr} {x:Pr}:x ∈ closStep l out ↔ x ∈ out ∨ ∃ p ∈ out,∃ q ∈ l,p.2=q.1/\x=(p.1,q.2):=by
 rw [closStep,mergeL,mem_psetL,List.mem_append,composeL,mem_psetL,mem_compL]
theorem closK_mono {l o:List Pr} {x:Pr} {k:Nat} (h:x ∈ closK l o k):x ∈ closK l o (k+1):=mem_closStep.2 (.inl h)
theorem filter_len_le {α:Type} {p q:α->Bool}:∀ {l:List α},(∀ x ∈ l,p x=true->q x=true)->(l.filter p).length<=(l.filter q).length
 | [],_=>Nat.le_refl _
 | x :: l,h=>by
   have ih:=filter_len_le (l:=l) fun y hy=>h y (List.mem_cons_of_mem _ hy)
   have hx:=h x (List.mem_cons_self ..)
   rw [List.filter_cons,List.filter_cons]
   cases hp:p x with
   | true=>rw [hx hp];simpa using ih
   | false=>cases q x <;> simp <;> omega
theorem filter_len_lt {α:Type} {p q:α->Bool}:∀ {l:List α},(∀ x ∈ l,p x=true->q x=true)->(∃ x ∈ l,q x=true/\p x=false)->(l.filter p).length < (l.filter q).length
 | [],_,h=>by obtain ⟨x,hx,_⟩:=h;cases hx
 | x :: l,h,h2=>by
   have hx:=h x (List.mem_cons_self ..)
   have h':∀ y ∈ l,p y=true->q y=true:=fun y hy=>h y (List.mem_cons_of_mem _ hy)
   rw [List.filter_cons,List.filter_cons]
   cases hp:p x with
   | true =>
     have ih:=filter_len_lt h' (by
      obtain ⟨y,hy,hq,hpy⟩:=h2
      rcases List.mem_cons.1 hy with e | e
      · subst e;rw [hp] at hpy;cases hpy
      · exact ⟨y,e,hq,hpy⟩)
     rw [hx hp]
     simpa using ih
   | false =>
     cases hq:q x with
     | true=>have:=filter_len_le h';simp;omega
     | false =>
       have ih:=filter_len_lt h' (by
        obtain ⟨y,hy,hqy,hpy⟩:=h2
        rcases List.mem_cons.1 hy with e | e
        · subst e;rw [hq] at hqy;cases hqy
        · exact ⟨y,e,hqy,hpy⟩)
       simpa using ih
abbrev inB (x:Int):Prop:=0<=x/\x<=4
theorem closK_in {l o:List Pr} (hl:∀ p ∈ l,inB p.2) (ho:∀ p ∈ o,inB p.2):∀ k,∀ p ∈ closK l o k,inB p.2
 | 0=>ho
 | k+1=>fun p hp=>by
   rcases mem_closStep.1 hp with h | ⟨q,_,r,hr,_,rfl⟩
   · exact closK_in hl ho k p h
   · exact hl r hr
/-- which ends a node has, out of the five -/
def rowOf (l o:List Pr) (x:Int) (k:Nat) (y:Nat):Bool:=(closK l o k).contains (x,(y:Int))
theorem clos_fix {l o:List Pr} (hl:∀ p ∈ l,inB p.2) (ho:∀ p ∈ o,inB p.2) (has:ascP o):closStep l (closK l o 5)=closK l o 5:=by
 refine uniqP (psetL_asc _) (closK_asc has 5) fun x=>⟨fun hx=>?_,closK_mono⟩
 obtain ⟨x1,y1⟩:=x
 have hstep:∀ k y,rowOf l o x1 (k+1) y=true ↔ rowOf l o x1 k y=true ∨ ∃ z,(x1,z) ∈ closK l o k/\(z,(y:Int)) ∈ l:=fun k y=>by
  simp only [rowOf,List.contains_iff_mem]
  rw [closK,mem_closStep]
  constructor
  · rintro (h | ⟨p,hp,q,hq,e1,e2⟩)
    · exact .inl h
    · obtain ⟨e2,e3⟩:=Prod.mk.inj e2
      refine .inr ⟨p.2,?_,?_⟩
      · rw [e2];exact hp
      · rw [e3,e1];exact hq
  · rintro (h | ⟨z,h1,h2⟩)
    · exact .inl h
    · exact .inr ⟨_,h1,_,h2,rfl,rfl⟩
 -- a row that no longer grows stands still
 have hstill:∀ k,(∀ y,y < 5->rowOf l o x1 (k+1) y=true->rowOf l o x1 k y=true)->∀ y,y < 5->rowOf l o x1 (k+1+1) y=true->rowOf l o x1 (k+1) y=true:=fun k h y hy hr=>by
  rcases (hstep (k+1) y).1 hr with h1 | ⟨z,h1,h2⟩
  · exact h1
  · obtain ⟨hz0,hz4⟩:=closK_in hl ho (k+1) _ h1
    obtain ⟨z,rfl⟩:=Int.eq_ofNat_of_zero_le hz0
    have h3:=h z (by simp only at hz4;omega) (by rw [rowOf,List.contains_iff_mem];exact h1)
    exact (hstep k y).2 (.inr ⟨_,by rw [rowOf,List.contains_iff_mem] at h3;exact h3,h2⟩)
 have hgrow:∀ k,(∀ y,y < 5->rowOf l o x1 (k+1) y=true->rowOf l o x1 k y=true) ∨ k+1<=((List.range 5).filter (rowOf l o x1 (k+1))).length:=fun k=>by
  have hcase:∀ k,(∀ y,y < 5->rowOf l o x1 (k+1) y=true->rowOf l o x1 k y=true) ∨ ((List.range 5).filter (rowOf l o x1 k)).length < ((List.range 5).filter (rowOf l o x1 (k+1))).length:=fun k=>by
   by_cases h:∀ y,y < 5->rowOf l o x1 (k+1) y=true->rowOf l o x1 k y=true
   · exact .inl h
   · refine .inr (filter_len_lt (fun y _ hy=>(hstep k y).2 (.inl hy)) ?_)
     simp only [Classical.not_forall] at h
     obtain ⟨y,hy,h1,h2⟩:=h
     exact ⟨y,List.mem_range.2 hy,h1,by simpa using h2⟩
  induction k with
  | zero =>
    rcases hcase 0 with h | h
    · exact .inl h
    · exact .inr (by omega)
  | succ k ih =>
    rcases ih with h | h
    · exact .inl (hstill k h)
    · rcases hcase (k+1) with h1 | h1
      · exact .inl h1
      · exact .inr (by omega)
 obtain ⟨hy0,hy4⟩:=closK_in hl ho 6 _ hx
 simp only at hy0 hy4
 obtain ⟨y,rfl⟩:=Int.eq_ofNat_of_zero_le hy0
 rcases hgrow 5 with h | h
 · have:=h y (by omega) (by rw [rowOf,List.contains_iff_mem];exact hx)
   rwa [rowOf,List.contains_iff_mem] at this
 · have:=List.length_filter_le (rowOf l o x1 (5+1)) (List.range 5)
   rw [List.length_range] at this
   omega
theorem clos_stay {l o:List Pr} {k:Nat} (h:closStep l (closK l o k)=closK l o k):∀ j,closK l o (k+j)=closK l o k
 | 0=>rfl
 | j+1=>by rw [<- Nat.add_assoc,closK,clos_stay h j,h]
theorem clos_len {l o:List Pr} (has:ascP o) {k:Nat} (h:(closStep l (closK l o k)).length=(closK l o k).length):closStep l (closK l o k)=closK l o k :=
 ((subP (closK_asc has k) (psetL_asc _) fun x hx=>closK_mono hx).eq_of_length h.symm).symm
end Go.Proofs.YtloeghbhoflabaaGreat
namespace Go.Proofs.YtloeghbhoflabaaGreat
open Go.ChangeShapes Go.WideShapes Go.ChangeAt Go.RowKit
attribute [local go_sem] ext_cell ext_frozen ext_lt ext_lt1 ext_lt2 ext_lt3 ltn2 ltn3 ltn13 lts1 lts2 lts3
theorem elPair:ElemOk Tryz.prog 24 57 (.agg #[.int .i64 0,.int .i64 0]) 2 16:=⟨Tryz.underlying24,by kernel_rfl,rfl,by omega⟩
section
variable {P:Program} {w:World}
/-- append of a whole list: as an operation by itself -/
theorem op_appendL {α:Type} (E:α->List Value) {o:Oper} {a:Act} {K:Act->World->Prop} {Q:Exit->Act->World->Prop} {t e:TypeId} {z:Value} {k bytes:Nat} (el:ElemOk P t e z k bytes) (hE:∀ x,(E x).length=k) (h1:∀ x,∀ u ∈ E x,u.oneCell'=true)
 (s y:Operand) (ho:o.op=.call { callee:=.builtin .append,args:=#[s,y],argTypes:=#[t,t] })
 (base:Nat) (v:Value) (xs ys:List α) (hs:a.eval s=v) (hown:w.ownsRow base e k v xs.length (xs.flatMap E)) (lo hi:Nat) (yv:Value) (hyv:a.eval y=yv) (hy:SlI lo hi w E k yv ys) (hbytes:(xs.length+ys.length) * bytes<=140737488355328) (hb0:0 < bytes) (hbase:base<=w.heap.size)
 (h:∀ v' w',w'.ownsRow base e k v' (xs ++ ys).length ((xs ++ ys).flatMap E)->w.grownBy w' v.ownBlock->(v'.ownBlock=v.ownBlock ∨ v'.ownBlock=some w.heap.size)->K (a.put o.dst v') w'):Oper.wp P o a w K Q:=by
 obtain ⟨v',w',hr,h2,h3,h5⟩:=run_appendL E el hE h1 base v xs ys hown lo hi yv hy hbytes hb0 hbase o.type
 unfold Oper.wp execOp
 simp only [ho,resolve,invoke,builtin,Sem.run_bind,Sem.run_pure,Result.andThen_ok,List.map_toArray,List.map_cons,List.map_nil,hs,hyv,hr]
 exact h v' w' h2 h3 h5
end
theorem SlI.takeP {α:Type} {lo hi:Nat} {w:World} {E:α->List Value} {k b o n c:Nat} {xs:List α} (h:SlI lo hi w E k (.slice (some ⟨b,o,none⟩) n c) xs) {m:Nat} (hm:m<=xs.length):SlI lo hi w E k (.slice (some ⟨b,o,none⟩) m c) (xs.take m):=by
 obtain ⟨A',c',hv,hl,hc,hx⟩:=h
 injection hv with h1 h2 h3
 subst h1 h3
 have hlt:(xs.take m).length=m:=by rw [List.length_take];omega
 refine ⟨_,c,by rw [hlt],by omega,hc,fun j x hj=>hx j x ?_⟩
 rw [List.getElem?_take] at hj
 split at hj
 · exact hj
 · cases hj
theorem SlI.dropP {α:Type} {lo hi:Nat} {w:World} {E:α->List Value} {k b o n c:Nat} {xs:List α} (h:SlI lo hi w E k (.slice (some ⟨b,o,none⟩) n c) xs) {m:Nat} (hm:m<=xs.length):SlI lo hi w E k (.slice (some ⟨b,o+m * k,none⟩) (n - m) (c - m)) (xs.drop m):=by
 obtain ⟨A',c',hv,hl,hc,hx⟩:=h
 injection hv with h1 h2 h3
 subst h1 h2 h3
 have hlt:(xs.drop m).length=xs.length - m:=by rw [List.length_drop]
 refine ⟨_,c - m,by rw [hlt],by omega,by omega,fun j x hj=>?_⟩
 rw [List.getElem?_drop] at hj
 obtain ⟨b',o',hA,h1,h2,h3⟩:=hx (m+j) x hj
 injection hA with hA
 injection hA with e1 e2
 subst e1 e2
 refine ⟨b,o+m * k,rfl,h1,h2,fun i u hu=>?_⟩
 rw [<- h3 i u hu,Nat.add_mul]
 congr 2
 omega
theorem row_cap {W:World} {base k n g c:Nat} {e:TypeId} {cs:List Value} (h:W.ownsRow base e k (.slice (some ⟨g,0,none⟩) n c) n cs):n<=c/\c<=9223372036854775807:=by
 obtain ⟨_,hs⟩:=h
 rcases hs with ⟨h1,_⟩ | ⟨g',cap',cur,hv,hg,hh,hnc,hcm,_⟩
 · cases h1
 · simp only [Value.slice.injEq,Option.some.injEq,Addr.mk.injEq,and_true,true_and] at hv
   obtain ⟨rfl,rfl⟩:=hv
   exact ⟨hnc,hcm⟩
theorem SlI.prP {lo hi:Nat} {w:World} {b o n c:Nat} {xs:List Pr} (h:SlI lo hi w cPr 2 (.slice (some ⟨b,o,none⟩) n c) xs) {i:Nat} {x:Pr} (hx:xs[i]?=some x) :
 (lo<=b/\b < hi)/\w.cell? ⟨b,o+i * 2,none⟩=some (.int .i64 x.1)/\w.cell? ⟨b,o+i * 2+1,none⟩=some (.int .i64 x.2):=by
 obtain ⟨A',c',hv,_,_,h3⟩:=h
 simp only [Value.slice.injEq] at hv
 obtain ⟨b',o',hA,g1,g2,hc⟩:=h3 i x hx
 rw [<- hv.1] at hA
 simp only [Option.some.injEq,Addr.mk.injEq,and_true] at hA
 obtain ⟨rfl,rfl⟩:=hA
 exact ⟨⟨g1,g2⟩,by simpa using hc 0 _ rfl,hc 1 _ rfl⟩
theorem SlI.prA {lo hi:Nat} {w:World} {A:Option Addr} {n c:Nat} {xs:List Pr} (h:SlI lo hi w cPr 2 (.slice A n c) xs) {i:Nat} {x:Pr} (hx:xs[i]?=some x) :
 ∃ b o,A=some ⟨b,o,none⟩/\(lo<=b/\b < hi)/\w.cell? ⟨b,o+i * 2,none⟩=some (.int .i64 x.1)/\w.cell? ⟨b,o+i * 2+1,none⟩=some (.int .i64 x.2):=by
 obtain ⟨A',c',hv,_,_,h3⟩:=h
 simp only [Value.slice.injEq] at hv
 obtain ⟨b',o',hA,g1,g2,hc⟩:=h3 i x hx
 exact ⟨b',o',hv.1.trans hA,⟨g1,g2⟩,by simpa using hc 0 _ rfl,hc 1 _ rfl⟩
theorem SlI.dropQ {lo hi B:Nat} {w w':World} {g c:Nat} {l:List Pr} (h:SlI lo hi w cPr 2 (.slice (some ⟨g,0,none⟩) l.length c) l) (hb:Below B w w') (hB:hi<=B) {k:Nat} (hk:k<=l.length) (hc:l.length<=c) :
 SlI lo hi w' cPr 2 (.slice (if c=k then some ⟨g,0,none⟩ else some ⟨g,k * 2,none⟩) (l.length - k) (c - k)) (l.drop k):=by
 split
 · have hn:l.drop k=[]:=List.drop_eq_nil_of_le (by omega)
   have hcm:c - k<=maxLen:=by unfold maxLen;omega
   rw [hn]
   refine ⟨some ⟨g,0,none⟩,c - k,?_,by simp,hcm,fun i x hx=>by simp at hx⟩
   simp;omega
 · simpa using (h.below hb hB).dropP (m:=k) hk
theorem eqPr (a b c d:Int) (w:World):(Op.equalIn 10000 57 (.agg #[.int .i64 a,.int .i64 b]) (.agg #[.int .i64 c,.int .i64 d])).run Tryz.prog w=.ok (a==c && b==d) w:=by
 have u3:=Tryz.underlying3
 have a3:=Tryz.isAgg3
 have z3:=Tryz.sizeOf3
 have hS:Tryz.prog.underlying 57=some (.struct (Tryz.prog.fieldsOf 57)):=by kernel_rfl
 have hp:Tryz.prog.stoodInHeld 57=false:=by kernel_rfl
 rw [show (10000:Nat)=9999+1 from rfl,run_equalIn_agg w 9999 57 _ _ hS hp]
 simp only [Program.fieldsOf,Tryz.underlying57]
 go_simp
 by_cases h1:a=c <;> by_cases h2:b=d <;> simp [h1,h2]
theorem guardPr:Tryz.prog.eqGuardType Tryz.prog.depth 57=false:=by kernel_rfl
attribute [local go_sem] guardPr
theorem eqlPr (a b c d:Int) (w:World):(binOp .eql 57 (.agg #[.int .i64 a,.int .i64 b]) (.agg #[.int .i64 c,.int .i64 d])).run Tryz.prog w=.ok (.bool (decide ((a,b)=(c,d)))) w:=by
 rw [run_eql_struct,eqPr]
 by_cases h1:a=c <;> by_cases h2:b=d <;> simp [h1,h2]
/-- a set of pairs in a row of the call's own, never nil -/
def SetR (lo:Nat) (w:World) (v:Value) (l:List Pr):Prop:=∃ g c,v=.slice (some ⟨g,0,none⟩) l.length c/\w.ownsRow lo 57 2 v l.length (l.flatMap cPr)
theorem SetR.below {lo:Nat} {w w':World} {v:Value} {l:List Pr} (h:SetR lo w v l) (hb:Below w.heap.size w w'):SetR lo w' v l:=by
 obtain ⟨g,c,rfl,h⟩:=h
 exact ⟨g,c,rfl,ownsRow_below h hb (Nat.le_refl _)⟩
theorem SetR.mono {lo lo':Nat} {w:World} {v:Value} {l:List Pr} (h:SetR lo w v l) (hl:lo'<=lo):SetR lo' w v l:=by
 obtain ⟨g,c,rfl,h⟩:=h
 exact ⟨g,c,rfl,ownsRow_mono h hl⟩
theorem SetR.own {lo:Nat} {w:World} {v:Value} {l:List Pr} (h:SetR lo w v l):Own lo w.heap.size w 57 cPr 2 v l:=by
 obtain ⟨g,c,rfl,h⟩:=h
 exact Own.of_row h rfl rfl
theorem SetR.lit (w:World) (lo:Nat) (h:lo<=w.heap.size):SetR lo (w.alloc (.cells #[] 57)) (.slice (some ⟨w.heap.size,0,none⟩) 0 0) [] :=
 ⟨_,_,rfl,World.ownsRow_lit (base:=lo) (e:=57) (size:=2) w #[] 0 h (by decide) rfl⟩
set_option maxHeartbeats 1000000 in
theorem l15Less_any (p q:Pr) (w:World) :
 Calls Tryz.prog 57 #[.agg #[.int .i64 p.1,.int .i64 p.2],.agg #[.int .i64 q.1,.int .i64 q.2]] w fun e w'=>e=.returned (.bool (ltP p q))/\Below w.heap.size w w':=by
 obtain ⟨p1,p2⟩:=p
 obtain ⟨q1,q2⟩:=q
 have hb:Below w.heap.size w ((w.alloc (.cells #[.int .i64 p1,.int .i64 p2] 57)).alloc (.cells #[.int .i64 q1,.int .i64 q2] 57)):=((Below.refl _ _).alloc (Nat.le_refl _) _).alloc (by simp) _
 simp only
 by_cases h1:p1 < q1
 · have k1:decide (p1 < q1)=true:=by simpa using h1
   have hl:ltP (p1,p2) (q1,q2)=true:=by rw [ltP_iff];exact .inl h1
   rw [hl]
   clear h1 hl
   go_enter Tryz.func57,Tryz.ntmps57
   go_wp2_with fail
   go_ret
   exact ⟨rfl,hb⟩
 · have k1:decide (p1 < q1)=false:=by simpa using h1
   by_cases h2:p1=q1
   · have k2:(p1==q1)=true:=by simpa using h2
     by_cases h3:p2 < q2
     · have k3:decide (p2 < q2)=true:=by simpa using h3
       have hl:ltP (p1,p2) (q1,q2)=true:=by rw [ltP_iff];exact .inr ⟨h2,h3⟩
       rw [hl]
       clear h1 h2 h3 hl
       go_enter Tryz.func57,Tryz.ntmps57
       go_wp2_with fail
       go_ret
       exact ⟨rfl,hb⟩
     · have k3:decide (p2 < q2)=false:=by simpa using h3
       have hl:ltP (p1,p2) (q1,q2)=false:=by rw [ltP_no];simp only;omega
       rw [hl]
       clear h1 h2 h3 hl
       go_enter Tryz.func57,Tryz.ntmps57
       go_wp2_with fail
       go_ret
       exact ⟨rfl,hb⟩
   · have k2:(p1==q1)=false:=by simpa using h2
     have hl:ltP (p1,p2) (q1,q2)=false:=by rw [ltP_no];simp only;omega
     rw [hl]
     clear h1 h2 hl
     go_enter Tryz.func57,Tryz.ntmps57
     go_wp2_with fail
     go_ret
     exact ⟨rfl,hb⟩
set_option maxHeartbeats 4000000 in
set_option maxRecDepth 100000 in
theorem l15Put_any (v:Value) (lo:Nat) (l:List Pr) (p:Pr) (w:World) (hv:SetR lo w v l) (hlo:lo<=w.heap.size) (hn:l.length<=1099511627776) :
 Calls Tryz.prog 27 #[v,.agg #[.int .i64 p.1,.int .i64 p.2]] w fun e w'=>∃ v',e=.returned v'/\SetR lo w' v' (putP l p)/\Below w.heap.size w w':=by
 obtain ⟨g,c,rfl,hrow⟩:=hv
 obtain ⟨hg1,hg2⟩:=hrow.lt g rfl
 have hsl:=(Own.of_row (xs:=l) hrow rfl rfl).sl cPr_len
 obtain ⟨hlc,hcm⟩:=row_cap hrow
 obtain ⟨W0,hW0⟩:∃ W0,W0=w.alloc (.cells #[.int .i64 p.1,.int .i64 p.2] 57):=⟨_,rfl⟩
 have hb0:Below w.heap.size w W0:=by rw [hW0];exact (Below.refl _ _).alloc (Nat.le_refl _) _
 have x0:W0.cell? ⟨w.heap.size,0,none⟩=some (.int .i64 p.1):=by rw [hW0];simp
 have x1:W0.cell? ⟨w.heap.size,1,none⟩=some (.int .i64 p.2):=by rw [hW0];simp
 have l0:w.heap.size < W0.heap.size:=by rw [hW0];simp
 have HROW:=Hd_ (ownsRow_below hrow hb0 (Nat.le_refl _))
 have HSL:=Hd_ (hsl.below hb0 (Nat.le_refl _))
 obtain ⟨R,hR⟩:∃ R,R=putP l p:=⟨_,rfl⟩
 rw [<- hR]
 have HR:=Hd_ hR
 clear hR hrow hsl
 go_enter Tryz.func27,Tryz.ntmps27
 go_wp2_with fail
 rw [<- hW0]
 clear hW0
 go_loopw [5] (fun kk wr=>∃ (k:Nat) (u:World),k<=l.length/\kk=.int .i64 (k:Int)/\(∀ i x,i < k->l[i]?=some x->ltP x p=true)/\wr=ext W0 u) (fun kk _=>l.length - (intOf kk).toNat)
 case atStart=>exact ⟨0,W0,Nat.zero_le _,rfl,(fun i x hi=>absurd hi (Nat.not_lt_zero _)),ext_self W0⟩
 case round =>
  obtain ⟨k,u,hk,rfl,hall,rfl⟩:=hrel
  have HALL:=Hd_ hall
  clear hall
  by_cases hlt:k < l.length
  · have hxk:l[k]?=some l[k]:=List.getElem?_eq_getElem hlt
    generalize l[k]=x at hxk
    obtain ⟨xa,xb⟩:=x
    obtain ⟨-,d0,d1⟩:=HSL.out.prP hxk
    simp only [Nat.zero_add] at d0 d1
    have hbw:g < W0.heap.size:=by omega
    have hkk:(k:Int) < (l.length:Int):=by omega
    have HXK:=Hd_ hxk
    have HLT:=Hd_ (show ∀ b,ltP (xa,xb) p=b->ltP (xa,xb) p=b from fun _ h=>h)
    have HL:=Hd_ (fun (W:World)=>l15Less_any (xa,xb) p W)
    clear hxk
    cases hbb:ltP (xa,xb) p with
    | true =>
      rw [hbb] at HL
      have HBB:=Hd_ hbb
      clear hbb HLT
      go_wp2_with fail
      refine wp_region_ext_lit (by kernel_rfl) (by kernel_rfl) ?_
      repeat (go_big_quiet_step ((go_at_call 57;exact Calls.ext_of (HL.out _))))
      refine wpQuiet_nil ?_
      rintro _ ⟨u2,rfl⟩
      obtain ⟨u4,hu4⟩:=ext_ext W0 u u2
      have HU4:=Hd_ hu4
      clear hu4
      go_wp2_with fail
      go_roundw
      case rel =>
       refine ⟨k+1,u4,by omega,by go_num,fun i y hi hy=>?_,HU4.out⟩
       rcases Nat.lt_or_ge i k with h | h
       · exact HALL.out i y h hy
       · obtain rfl:i=k:=by omega
         rw [HXK.out] at hy
         injection hy with hy
         subst hy
         exact HBB.out
      case measure=>simp [intOf];omega
    | false =>
      rw [hbb] at HL
      have hput:=putP_at (l:=l) (p:=p) (k:=k) (by omega) HALL.out (fun y hy=>by rw [HXK.out] at hy;injection hy with hy;subst hy;exact hbb)
      rw [HXK.out] at hput
      have HPUT0:=Hd_ (HR.out.trans hput)
      clear hbb HLT hput HALL HR
      go_wp2_with fail
      refine wp_region_ext_lit (by kernel_rfl) (by kernel_rfl) ?_
      repeat (go_big_quiet_step ((go_at_call 57;exact Calls.ext_of (HL.out _))))
      refine wpQuiet_nil ?_
      rintro _ ⟨u2,rfl⟩
      obtain ⟨u4,hu4⟩:=ext_ext W0 u u2
      rw [hu4]
      clear hu4
      have HEQ:=Hd_ (fun (w:World)=>eqlPr xa xb p.1 p.2 w)
      obtain ⟨bb,hb2⟩:∃ bb,bb=decide ((xa,xb)=(p.1,p.2)):=⟨_,rfl⟩
      rw [<- hb2] at HEQ
      have HB2:=Hd_ hb2
      have heq:=HEQ.out
      clear hb2
      go_wp2_with fail
      refine wp_region_ext_lit (by kernel_rfl) (by kernel_rfl) ?_
      repeat (go_big_quiet_step (fail))
      refine wpQuiet_nil ?_
      rintro _ ⟨u3,rfl⟩
      cases bb with
      | true =>
        have hfin:R=l:=by
         rw [HPUT0.out,if_pos]
         have:=HB2.out
         simp only [Eq.comm (a:=true),decide_eq_true_eq] at this
         rw [this]
        have HF:=Hd_ hfin
        have hb9:Below w.heap.size w (ext (ext W0 u4) u3):=below_trans hb0 (below_trans (ext_below _ _) (ext_below _ _))
        have HR9:=Hd_ (ownsRow_below HROW.out (below_trans (ext_below W0 u4) (ext_below _ u3)) (Nat.le_refl _))
        clear hfin
        go_wp2_with fail
        go_ret
        exact ⟨_,rfl,by rw [HF.out];exact ⟨g,c,rfl,HR9.out⟩,hb9⟩
      | false =>
        have HPUT:=Hd_ (show R=l.take k ++ [p] ++ l.drop k by
         rw [HPUT0.out,if_neg]
         have:=HB2.out
         simp only [Eq.comm (a:=false),decide_eq_false_iff_not] at this
         intro h
         injection h with h
         exact this h)
        clear HPUT0 HB2 HEQ heq
        obtain ⟨W6,hW6⟩:∃ W6,W6=(ext (ext W0 u4) u3):=⟨_,rfl⟩
        have hb6:Below W0.heap.size W0 W6:=by rw [hW6];exact (below_trans (ext_below _ _) (ext_below _ _))
        rw [<- hW6]
        clear hW6
        have x0:=kcell hb6 x0
        have x1:=kcell hb6 x1
        have l6:=Nat.lt_of_lt_of_le l0 hb6.size
        have HSD:=Hd_ (show SlI lo w.heap.size W6.drew cPr 2 (.slice (some ⟨g,0,none⟩) l.length c) l from HSL.out.below hb6.drew (by omega))
        have HBW6:=Hd_ (show Below w.heap.size w W6.drew from (below_trans hb0 hb6).drew)
        have hwW6:w.heap.size<=W6.drew.heap.size:=HBW6.out.size
        have hloW:lo<=W6.drew.heap.size:=by omega
        have hkl:(k:Int)<=(l.length:Int):=by omega
        have hkc:(k:Int)<=(c:Int):=by omega
        have htl:(l.take k).length<=l.length:=by rw [List.length_take];omega
        have hdl:(l.drop k).length<=l.length:=by rw [List.length_drop];omega
        have htd:(l.take k ++ [p]).length<=l.length+1:=by rw [List.length_append];simp only [List.length_cons,List.length_nil];omega
        have HRL:=Hd_ (show R.length ≠ 0 by rw [HPUT.out];simp)
        clear HSL HROW hb0 hb6
        go_wp2_with fail
        have hS1:=HSD.out
        clear hS1
        refine F_start 12 (fun w'=>w'.cell? ⟨w.heap.size,0,none⟩=some (.int .i64 p.1)/\w'.cell? ⟨w.heap.size,1,none⟩=some (.int .i64 p.2)) (by kernel_rfl) (by exact ⟨x0,x1⟩) (fun hS inv=>?_)
        refine F_tk 1 inv ?_
        try simp only [tA,tB,tC,Act.put,tE,tF,tG]
        clear inv;intro inv
        refine F_tk 2 inv ?_
        try simp only [tA,tB,tC,Act.put,tE,tF,tG]
        clear inv;intro inv
        refine F_tk 3 inv ?_
        try simp only [tA,tB,tC,Act.put,tE,tF,tG]
        clear inv;intro inv
        refine F_tk 5 inv ?_
        try simp only [tA,tB,tC,Act.put,tE,tF,tG]
        clear inv;intro inv
        refine F_tk 8 inv ?_
        try simp only [tA,tB,tC,Act.put,tE,tF,tG]
        clear inv;intro inv
        refine F_tk 9 inv ?_
        try simp only [tA,tB,tC,Act.put,tE,tF,tG]
        clear inv;intro inv
        refine F_tk 10 inv ?_
        try simp only [tA,tB,tC,Act.put,tE,tF,tG]
        clear inv;intro inv
        have hS0:=hS
        refine F_two (i:=0) (j:=6) (by kernel_rfl) rfl rfl rfl rfl (by omega) inv (fun K hK=>?_) (fun K hK=>?_)
        all_goals (try simp only [tA,tB,tC])
        · go_simp
          have hba:=(Below.refl W6.drew.heap.size W6.drew).alloc (Nat.le_refl _) (.cells #[] 57)
          have hrow:=World.ownsRow_lit (base:=W6.drew.heap.size) (e:=57) (size:=2) W6.drew #[] 0 (Nat.le_refl _) (by decide) rfl
          have hsa:=hba.size
          have HRL0:=Hd_ hrow
          have HTK:=Hd_ ((HSD.out.below hba hwW6).takeP (m:=k) (by omega))
          clear hrow
          refine hK.out _ _ (kB2 hba hS0) (fun _ _=>?_)
          try simp only [tA,tB,tC,Act.put,tE,tF,tG]
          clear hK K inv hS;rename_i hS inv
          refine F_two (i:=4) (j:=6) (by kernel_rfl) rfl rfl rfl rfl (by omega) inv (fun K hK=>?_) (fun K hK=>?_)
          all_goals (try simp only [tA,tB,tC])
          · refine op_appendL cPr elPair cPr_len cPr_one _ _ (by rfl) W6.drew.heap.size _ [] (l.take k) (by rfl) HRL0.out lo w.heap.size _ (by rfl) HTK.out (by simp;omega) (by omega) hsa ?_
            intro va wa hra hga hata
            simp only [List.nil_append] at hra
            have hbb:=hba.trans (own_below HRL0.out hsa hga)
            have hbx:=hbb.alloc hbb.size (.cells #[.int .i64 p.1,.int .i64 p.2] 57)
            have hbxs:=hbx.size
            have HV:=Hd_ (hra.alloc (.cells #[.int .i64 p.1,.int .i64 p.2] 57))
            obtain ⟨H1,hH1⟩:∃ H1,H1=wa.heap.size:=⟨_,rfl⟩
            have HLIT:=Hd_ (show (wa.alloc (.cells #[.int .i64 p.1,.int .i64 p.2] 57)).heap[H1]?=some (.cells (cPr p).toArray 57 (0,0)) by rw [hH1];exact heap_alloc_new _ _)
            clear hra hga hata
            refine hK.out _ _ (kB2 hbb hS0) (fun _ _=>?_)
            try simp only [tA,tB,tC,Act.put,tE,tF,tG]
            clear hK K inv hS;rename_i hS inv
            refine F_o1 6 inv ?_;intro K hK
            try simp only [tA,tB,tC]
            go_simp
            rw [<- hH1]
            refine hK.out _ _ (kB2 hbx hS0) (fun _ _=>?_)
            try simp only [tA,tB,tC,Act.put,tE,tF,tG]
            clear hK K inv hS;rename_i hS inv
            clear hH1
            refine F_o1 7 inv ?_;intro K hK
            try simp only [tA,tB,tC]
            refine op_append1 cPr elPair rfl _ _ (by rfl) W6.drew.heap.size va (l.take k) p _ H1 (by rfl) HV.out (by rfl) HLIT.out rfl (cPr_one _) (by omega) (by omega) hbxs ?_
            intro g2 cp2 w3 hown3 hgr3 hat3 hlt3
            have hb3:=hbx.trans (own_below HV.out hbxs hgr3)
            have HOW3:=Hd_ hown3
            have hs3:=hb3.size
            have HSD3:=Hd_ (HSD.out.dropQ (k:=k) hb3 hwW6 (by omega) hlc)
            clear hown3 hgr3 hat3
            refine hK.out _ _ (kB2 hb3 hS0) (fun _ _=>?_)
            try simp only [tA,tB,tC,Act.put,tE,tF,tG]
            clear hK K inv hS;rename_i hS inv
            refine F_o1 11 inv ?_;intro K hK
            try simp only [tA,tB,tC]
            refine op_appendL cPr elPair cPr_len cPr_one _ _ (by rfl) W6.drew.heap.size (.slice (some ⟨g2,0,none⟩) ((l.take k).length+1) cp2) (l.take k ++ [p]) (l.drop k) (by rfl) HOW3.out lo w.heap.size (.slice (if c=k then some ⟨g,0,none⟩ else some ⟨g,k * 2,none⟩) (l.length - k) (c - k)) (by rfl) HSD3.out (by omega) (by omega) hs3 ?_
            intro v5 w5 hown5 hgr5 hat5
            have hb5:=hb3.trans (own_below (base:=W6.drew.heap.size) HOW3.out hs3 hgr5)
            rw [show l.take k ++ [p] ++ l.drop k=R from HPUT.out.symm] at hown5
            obtain ⟨g5,c5,rfl,-,-,-,-⟩:=own_some hown5 (by have:=HRL.out;omega)
            have HSET:=Hd_ (show SetR lo w5 (.slice (some ⟨g5,0,none⟩) R.length c5) R from ⟨g5,c5,rfl,ownsRow_mono hown5 hloW⟩)
            have HBF:=Hd_ (below_trans HBW6.out hb5)
            clear hown5 hgr5 hat5
            refine hK.out _ _ (kB2 hb5 hS0) (fun _ _=>?_)
            try simp only [tA,tB,tC,Act.put,tE,tF,tG]
            clear hK K inv hS;rename_i hS inv
            refine F_l1 12 ?_;intro K hK
            go_simp
            refine hK _ _ ?_
            clear hK K inv hS
            go_wp2_with fail
            all_goals go_ret
            all_goals exact ⟨_,rfl,HSET.out,HBF.out⟩
          · go_simp
            obtain ⟨H1,hH1⟩:∃ H1,H1=W6.heap.size+1:=⟨_,rfl⟩
            have hbx0:=hba.alloc hsa (.cells #[.int .i64 p.1,.int .i64 p.2] 57)
            have HRL1:=Hd_ (HRL0.out.alloc (.cells #[.int .i64 p.1,.int .i64 p.2] 57))
            have HTK1:=Hd_ ((HSD.out.below hbx0 hwW6).takeP (m:=k) (by omega))
            have hs0x:=hbx0.size
            have HLT0:=Hd_ (show ((W6.drew.alloc (.cells #[] 57)).alloc (.cells #[.int .i64 p.1,.int .i64 p.2] 57)).heap[H1]?=some (.cells (cPr p).toArray 57 (0,0)) by
             have h:=heap_alloc_new (W6.drew.alloc (.cells #[] 57)) (.cells #[.int .i64 p.1,.int .i64 p.2] 57)
             rw [show (W6.drew.alloc (.cells #[] 57)).heap.size=H1 by rw [hH1];simp] at h
             exact h)
            have hH1l:H1 < ((W6.drew.alloc (.cells #[] 57)).alloc (.cells #[.int .i64 p.1,.int .i64 p.2] 57)).heap.size:=by rw [hH1];simp
            rw [<- hH1]
            have hH1n:H1 ≠ W6.drew.heap.size:=by rw [hH1];simp
            have HH1n:=Hd_ hH1n
            have HH1l:=Hd_ hH1l
            clear hH1 hH1n hH1l
            refine hK.out _ _ (kB2 hbx0 hS0) (fun _ _=>?_)
            try simp only [tA,tB,tC,Act.put,tE,tF,tG]
            clear hK K inv hS;rename_i hS inv
            refine F_o1 4 inv ?_;intro K hK
            try simp only [tA,tB,tC]
            refine op_appendL cPr elPair cPr_len cPr_one _ _ (by rfl) W6.drew.heap.size _ [] (l.take k) (by rfl) HRL1.out lo w.heap.size _ (by rfl) HTK1.out (by simp;omega) (by omega) hs0x ?_
            intro va wa hra hga hata
            simp only [List.nil_append] at hra
            have hbx:=hbx0.trans (own_below HRL1.out hs0x hga)
            have hbxs:=hbx.size
            have HV:=Hd_ hra
            have HLIT:=Hd_ ((hga.block H1 HH1l.out (fun e=>by injection e with e;exact HH1n.out e)).trans HLT0.out)
            clear hra hga hata
            refine hK.out _ _ (kB2 hbx hS0) (fun _ _=>?_)
            try simp only [tA,tB,tC,Act.put,tE,tF,tG]
            clear hK K inv hS;rename_i hS inv
            refine F_o1 7 inv ?_;intro K hK
            try simp only [tA,tB,tC]
            refine op_append1 cPr elPair rfl _ _ (by rfl) W6.drew.heap.size va (l.take k) p _ H1 (by rfl) HV.out (by rfl) HLIT.out rfl (cPr_one _) (by omega) (by omega) hbxs ?_
            intro g2 cp2 w3 hown3 hgr3 hat3 hlt3
            have hb3:=hbx.trans (own_below HV.out hbxs hgr3)
            have HOW3:=Hd_ hown3
            have hs3:=hb3.size
            have HSD3:=Hd_ (HSD.out.dropQ (k:=k) hb3 hwW6 (by omega) hlc)
            clear hown3 hgr3 hat3
            refine hK.out _ _ (kB2 hb3 hS0) (fun _ _=>?_)
            try simp only [tA,tB,tC,Act.put,tE,tF,tG]
            clear hK K inv hS;rename_i hS inv
            refine F_o1 11 inv ?_;intro K hK
            try simp only [tA,tB,tC]
            refine op_appendL cPr elPair cPr_len cPr_one _ _ (by rfl) W6.drew.heap.size (.slice (some ⟨g2,0,none⟩) ((l.take k).length+1) cp2) (l.take k ++ [p]) (l.drop k) (by rfl) HOW3.out lo w.heap.size (.slice (if c=k then some ⟨g,0,none⟩ else some ⟨g,k * 2,none⟩) (l.length - k) (c - k)) (by rfl) HSD3.out (by omega) (by omega) hs3 ?_
            intro v5 w5 hown5 hgr5 hat5
            have hb5:=hb3.trans (own_below (base:=W6.drew.heap.size) HOW3.out hs3 hgr5)
            rw [show l.take k ++ [p] ++ l.drop k=R from HPUT.out.symm] at hown5
            obtain ⟨g5,c5,rfl,-,-,-,-⟩:=own_some hown5 (by have:=HRL.out;omega)
            have HSET:=Hd_ (show SetR lo w5 (.slice (some ⟨g5,0,none⟩) R.length c5) R from ⟨g5,c5,rfl,ownsRow_mono hown5 hloW⟩)
            have HBF:=Hd_ (below_trans HBW6.out hb5)
            clear hown5 hgr5 hat5
            refine hK.out _ _ (kB2 hb5 hS0) (fun _ _=>?_)
            try simp only [tA,tB,tC,Act.put,tE,tF,tG]
            clear hK K inv hS;rename_i hS inv
            refine F_l1 12 ?_;intro K hK
            go_simp
            refine hK _ _ ?_
            clear hK K inv hS
            go_wp2_with fail
            all_goals go_ret
            all_goals exact ⟨_,rfl,HSET.out,HBF.out⟩
        · go_simp
          obtain ⟨H1,hH1⟩:∃ H1,H1=W6.heap.size:=⟨_,rfl⟩
          have hba:=(Below.refl W6.drew.heap.size W6.drew).alloc (Nat.le_refl _) (.cells #[.int .i64 p.1,.int .i64 p.2] 57)
          have hsa:=hba.size
          have hH1l:H1 < (W6.drew.alloc (.cells #[.int .i64 p.1,.int .i64 p.2] 57)).heap.size:=by rw [hH1];simp
          have HLT0:=Hd_ (show (W6.drew.alloc (.cells #[.int .i64 p.1,.int .i64 p.2] 57)).heap[H1]?=some (.cells (cPr p).toArray 57 (0,0)) by rw [hH1];exact heap_alloc_new _ _)
          refine hK.out _ _ (kB2 hba hS0) (fun _ _=>?_)
          try simp only [tA,tB,tC,Act.put,tE,tF,tG]
          clear hK K inv hS;rename_i hS inv
          refine F_o1 0 inv ?_;intro K hK
          try simp only [tA,tB,tC]
          go_simp
          have hbx0:=hba.alloc hsa (.cells #[] 57)
          have hrl:=World.ownsRow_lit (base:=W6.drew.heap.size) (e:=57) (size:=2) (W6.drew.alloc (.cells #[.int .i64 p.1,.int .i64 p.2] 57)) #[] 0 hsa (by decide) rfl
          rw [show (W6.drew.alloc (.cells #[.int .i64 p.1,.int .i64 p.2] 57)).heap.size=H1+1 by rw [hH1];simp] at hrl
          have HRL1:=Hd_ hrl
          clear hrl
          have HTK1:=Hd_ ((HSD.out.below hbx0 hwW6).takeP (m:=k) (by omega))
          have hs0x:=hbx0.size
          have HLT1:=Hd_ ((Below.heap_alloc _ (.cells #[] 57) H1 hH1l).trans HLT0.out)
          have HH1l:=Hd_ (Nat.lt_of_lt_of_le hH1l (show (W6.drew.alloc (.cells #[.int .i64 p.1,.int .i64 p.2] 57)).heap.size<=((W6.drew.alloc (.cells #[.int .i64 p.1,.int .i64 p.2] 57)).alloc (.cells #[] 57)).heap.size by simp))
          have HH1n:=Hd_ (show H1 ≠ H1+1 by omega)
          rw [<- hH1]
          clear hH1 hH1l
          refine hK.out _ _ (kB2 hbx0 hS0) (fun _ _=>?_)
          try simp only [tA,tB,tC,Act.put,tE,tF,tG]
          clear hK K inv hS;rename_i hS inv
          refine F_o1 4 inv ?_;intro K hK
          try simp only [tA,tB,tC]
          refine op_appendL cPr elPair cPr_len cPr_one _ _ (by rfl) W6.drew.heap.size _ [] (l.take k) (by rfl) HRL1.out lo w.heap.size _ (by rfl) HTK1.out (by simp;omega) (by omega) hs0x ?_
          intro va wa hra hga hata
          simp only [List.nil_append] at hra
          have hbx:=hbx0.trans (own_below HRL1.out hs0x hga)
          have hbxs:=hbx.size
          have HV:=Hd_ hra
          have HLIT:=Hd_ ((hga.block H1 HH1l.out (fun e=>by injection e with e;exact HH1n.out e)).trans HLT1.out)
          clear hra hga hata
          refine hK.out _ _ (kB2 hbx hS0) (fun _ _=>?_)
          try simp only [tA,tB,tC,Act.put,tE,tF,tG]
          clear hK K inv hS;rename_i hS inv
          refine F_o1 7 inv ?_;intro K hK
          try simp only [tA,tB,tC]
          refine op_append1 cPr elPair rfl _ _ (by rfl) W6.drew.heap.size va (l.take k) p _ H1 (by rfl) HV.out (by rfl) HLIT.out rfl (cPr_one _) (by omega) (by omega) hbxs ?_
          intro g2 cp2 w3 hown3 hgr3 hat3 hlt3
          have hb3:=hbx.trans (own_below HV.out hbxs hgr3)
          have HOW3:=Hd_ hown3
          have hs3:=hb3.size
          have HSD3:=Hd_ (HSD.out.dropQ (k:=k) hb3 hwW6 (by omega) hlc)
          clear hown3 hgr3 hat3
          refine hK.out _ _ (kB2 hb3 hS0) (fun _ _=>?_)
          try simp only [tA,tB,tC,Act.put,tE,tF,tG]
          clear hK K inv hS;rename_i hS inv
          refine F_o1 11 inv ?_;intro K hK
          try simp only [tA,tB,tC]
          refine op_appendL cPr elPair cPr_len cPr_one _ _ (by rfl) W6.drew.heap.size (.slice (some ⟨g2,0,none⟩) ((l.take k).length+1) cp2) (l.take k ++ [p]) (l.drop k) (by rfl) HOW3.out lo w.heap.size (.slice (if c=k then some ⟨g,0,none⟩ else some ⟨g,k * 2,none⟩) (l.length - k) (c - k)) (by rfl) HSD3.out (by omega) (by omega) hs3 ?_
          intro v5 w5 hown5 hgr5 hat5
          have hb5:=hb3.trans (own_below (base:=W6.drew.heap.size) HOW3.out hs3 hgr5)
          rw [show l.take k ++ [p] ++ l.drop k=R from HPUT.out.symm] at hown5
          obtain ⟨g5,c5,rfl,-,-,-,-⟩:=own_some hown5 (by have:=HRL.out;omega)
          have HSET:=Hd_ (show SetR lo w5 (.slice (some ⟨g5,0,none⟩) R.length c5) R from ⟨g5,c5,rfl,ownsRow_mono hown5 hloW⟩)
          have HBF:=Hd_ (below_trans HBW6.out hb5)
          clear hown5 hgr5 hat5
          refine hK.out _ _ (kB2 hb5 hS0) (fun _ _=>?_)
          try simp only [tA,tB,tC,Act.put,tE,tF,tG]
          clear hK K inv hS;rename_i hS inv
          refine F_l1 12 ?_;intro K hK
          go_simp
          refine hK _ _ ?_
          clear hK K inv hS
          go_wp2_with fail
          all_goals go_ret
          all_goals exact ⟨_,rfl,HSET.out,HBF.out⟩
  · have hkl0:k=l.length:=by omega
    have hput:=putP_at (l:=l) (p:=p) (k:=k) (by omega) HALL.out (fun y hy=>by rw [hkl0,List.getElem?_eq_none (Nat.le_refl _)] at hy;cases hy)
    rw [show l[k]?=none by rw [hkl0,List.getElem?_eq_none (Nat.le_refl _)],if_neg (by simp)] at hput
    have HPUT:=Hd_ (show R=l.take k ++ [p] ++ l.drop k from HR.out.trans hput)
    have hdk:decide ((k:Int) < (l.length:Int))=false:=by simp;omega
    clear hput HALL HR hkl0
    go_wp2_with fail
    refine wp_region_ext_lit (by kernel_rfl) (by kernel_rfl) ?_
    repeat (go_big_quiet_step (fail))
    refine wpQuiet_nil ?_
    rintro _ ⟨u2,rfl⟩
    obtain ⟨u4,hu4⟩:=ext_ext W0 u u2
    rw [hu4]
    clear hu4
    go_wp2_with fail
    refine wp_region_ext_lit (by kernel_rfl) (by kernel_rfl) ?_
    repeat (go_big_quiet_step (fail))
    refine wpQuiet_nil ?_
    rintro _ ⟨u3,rfl⟩
    clear hdk
    obtain ⟨W6,hW6⟩:∃ W6,W6=(ext (ext W0 u4) u3):=⟨_,rfl⟩
    have hb6:Below W0.heap.size W0 W6:=by rw [hW6];exact (below_trans (ext_below _ _) (ext_below _ _))
    rw [<- hW6]
    clear hW6
    have x0:=kcell hb6 x0
    have x1:=kcell hb6 x1
    have l6:=Nat.lt_of_lt_of_le l0 hb6.size
    have HSD:=Hd_ (show SlI lo w.heap.size W6.drew cPr 2 (.slice (some ⟨g,0,none⟩) l.length c) l from HSL.out.below hb6.drew (by omega))
    have HBW6:=Hd_ (show Below w.heap.size w W6.drew from (below_trans hb0 hb6).drew)
    have hwW6:w.heap.size<=W6.drew.heap.size:=HBW6.out.size
    have hloW:lo<=W6.drew.heap.size:=by omega
    have hkl:(k:Int)<=(l.length:Int):=by omega
    have hkc:(k:Int)<=(c:Int):=by omega
    have htl:(l.take k).length<=l.length:=by rw [List.length_take];omega
    have hdl:(l.drop k).length<=l.length:=by rw [List.length_drop];omega
    have htd:(l.take k ++ [p]).length<=l.length+1:=by rw [List.length_append];simp only [List.length_cons,List.length_nil];omega
    have HRL:=Hd_ (show R.length ≠ 0 by rw [HPUT.out];simp)
    clear HSL HROW hb0 hb6
    go_wp2_with fail
    have hS1:=HSD.out
    clear hS1
    refine F_start 12 (fun w'=>w'.cell? ⟨w.heap.size,0,none⟩=some (.int .i64 p.1)/\w'.cell? ⟨w.heap.size,1,none⟩=some (.int .i64 p.2)) (by kernel_rfl) (by exact ⟨x0,x1⟩) (fun hS inv=>?_)
    refine F_tk 1 inv ?_
    try simp only [tA,tB,tC,Act.put,tE,tF,tG]
    clear inv;intro inv
    refine F_tk 2 inv ?_
    try simp only [tA,tB,tC,Act.put,tE,tF,tG]
    clear inv;intro inv
    refine F_tk 3 inv ?_
    try simp only [tA,tB,tC,Act.put,tE,tF,tG]
    clear inv;intro inv
    refine F_tk 5 inv ?_
    try simp only [tA,tB,tC,Act.put,tE,tF,tG]
    clear inv;intro inv
    refine F_tk 8 inv ?_
    try simp only [tA,tB,tC,Act.put,tE,tF,tG]
    clear inv;intro inv
    refine F_tk 9 inv ?_
    try simp only [tA,tB,tC,Act.put,tE,tF,tG]
    clear inv;intro inv
    refine F_tk 10 inv ?_
    try simp only [tA,tB,tC,Act.put,tE,tF,tG]
    clear inv;intro inv
    have hS0:=hS
    refine F_two (i:=0) (j:=6) (by kernel_rfl) rfl rfl rfl rfl (by omega) inv (fun K hK=>?_) (fun K hK=>?_)
    all_goals (try simp only [tA,tB,tC])
    · go_simp
      have hba:=(Below.refl W6.drew.heap.size W6.drew).alloc (Nat.le_refl _) (.cells #[] 57)
      have hrow:=World.ownsRow_lit (base:=W6.drew.heap.size) (e:=57) (size:=2) W6.drew #[] 0 (Nat.le_refl _) (by decide) rfl
      have hsa:=hba.size
      have HRL0:=Hd_ hrow
      have HTK:=Hd_ ((HSD.out.below hba hwW6).takeP (m:=k) (by omega))
      clear hrow
      refine hK.out _ _ (kB2 hba hS0) (fun _ _=>?_)
      try simp only [tA,tB,tC,Act.put,tE,tF,tG]
      clear hK K inv hS;rename_i hS inv
      refine F_two (i:=4) (j:=6) (by kernel_rfl) rfl rfl rfl rfl (by omega) inv (fun K hK=>?_) (fun K hK=>?_)
      all_goals (try simp only [tA,tB,tC])
      · refine op_appendL cPr elPair cPr_len cPr_one _ _ (by rfl) W6.drew.heap.size _ [] (l.take k) (by rfl) HRL0.out lo w.heap.size _ (by rfl) HTK.out (by simp;omega) (by omega) hsa ?_
        intro va wa hra hga hata
        simp only [List.nil_append] at hra
        have hbb:=hba.trans (own_below HRL0.out hsa hga)
        have hbx:=hbb.alloc hbb.size (.cells #[.int .i64 p.1,.int .i64 p.2] 57)
        have hbxs:=hbx.size
        have HV:=Hd_ (hra.alloc (.cells #[.int .i64 p.1,.int .i64 p.2] 57))
        obtain ⟨H1,hH1⟩:∃ H1,H1=wa.heap.size:=⟨_,rfl⟩
        have HLIT:=Hd_ (show (wa.alloc (.cells #[.int .i64 p.1,.int .i64 p.2] 57)).heap[H1]?=some (.cells (cPr p).toArray 57 (0,0)) by rw [hH1];exact heap_alloc_new _ _)
        clear hra hga hata
        refine hK.out _ _ (kB2 hbb hS0) (fun _ _=>?_)
        try simp only [tA,tB,tC,Act.put,tE,tF,tG]
        clear hK K inv hS;rename_i hS inv
        refine F_o1 6 inv ?_;intro K hK
        try simp only [tA,tB,tC]
        go_simp
        rw [<- hH1]
        refine hK.out _ _ (kB2 hbx hS0) (fun _ _=>?_)
        try simp only [tA,tB,tC,Act.put,tE,tF,tG]
        clear hK K inv hS;rename_i hS inv
        clear hH1
        refine F_o1 7 inv ?_;intro K hK
        try simp only [tA,tB,tC]
        refine op_append1 cPr elPair rfl _ _ (by rfl) W6.drew.heap.size va (l.take k) p _ H1 (by rfl) HV.out (by rfl) HLIT.out rfl (cPr_one _) (by omega) (by omega) hbxs ?_
        intro g2 cp2 w3 hown3 hgr3 hat3 hlt3
        have hb3:=hbx.trans (own_below HV.out hbxs hgr3)
        have HOW3:=Hd_ hown3
        have hs3:=hb3.size
        have HSD3:=Hd_ (HSD.out.dropQ (k:=k) hb3 hwW6 (by omega) hlc)
        clear hown3 hgr3 hat3
        refine hK.out _ _ (kB2 hb3 hS0) (fun _ _=>?_)
        try simp only [tA,tB,tC,Act.put,tE,tF,tG]
        clear hK K inv hS;rename_i hS inv
        refine F_o1 11 inv ?_;intro K hK
        try simp only [tA,tB,tC]
        refine op_appendL cPr elPair cPr_len cPr_one _ _ (by rfl) W6.drew.heap.size (.slice (some ⟨g2,0,none⟩) ((l.take k).length+1) cp2) (l.take k ++ [p]) (l.drop k) (by rfl) HOW3.out lo w.heap.size (.slice (if c=k then some ⟨g,0,none⟩ else some ⟨g,k * 2,none⟩) (l.length - k) (c - k)) (by rfl) HSD3.out (by omega) (by omega) hs3 ?_
        intro v5 w5 hown5 hgr5 hat5
        have hb5:=hb3.trans (own_below (base:=W6.drew.heap.size) HOW3.out hs3 hgr5)
        rw [show l.take k ++ [p] ++ l.drop k=R from HPUT.out.symm] at hown5
        obtain ⟨g5,c5,rfl,-,-,-,-⟩:=own_some hown5 (by have:=HRL.out;omega)
        have HSET:=Hd_ (show SetR lo w5 (.slice (some ⟨g5,0,none⟩) R.length c5) R from ⟨g5,c5,rfl,ownsRow_mono hown5 hloW⟩)
        have HBF:=Hd_ (below_trans HBW6.out hb5)
        clear hown5 hgr5 hat5
        refine hK.out _ _ (kB2 hb5 hS0) (fun _ _=>?_)
        try simp only [tA,tB,tC,Act.put,tE,tF,tG]
        clear hK K inv hS;rename_i hS inv
        refine F_l1 12 ?_;intro K hK
        go_simp
        refine hK _ _ ?_
        clear hK K inv hS
        go_wp2_with fail
        all_goals go_ret
        all_goals exact ⟨_,rfl,HSET.out,HBF.out⟩
      · go_simp
        obtain ⟨H1,hH1⟩:∃ H1,H1=W6.heap.size+1:=⟨_,rfl⟩
        have hbx0:=hba.alloc hsa (.cells #[.int .i64 p.1,.int .i64 p.2] 57)
        have HRL1:=Hd_ (HRL0.out.alloc (.cells #[.int .i64 p.1,.int .i64 p.2] 57))
        have HTK1:=Hd_ ((HSD.out.below hbx0 hwW6).takeP (m:=k) (by omega))
        have hs0x:=hbx0.size
        have HLT0:=Hd_ (show ((W6.drew.alloc (.cells #[] 57)).alloc (.cells #[.int .i64 p.1,.int .i64 p.2] 57)).heap[H1]?=some (.cells (cPr p).toArray 57 (0,0)) by
         have h:=heap_alloc_new (W6.drew.alloc (.cells #[] 57)) (.cells #[.int .i64 p.1,.int .i64 p.2] 57)
         rw [show (W6.drew.alloc (.cells #[] 57)).heap.size=H1 by rw [hH1];simp] at h
         exact h)
        have hH1l:H1 < ((W6.drew.alloc (.cells #[] 57)).alloc (.cells #[.int .i64 p.1,.int .i64 p.2] 57)).heap.size:=by rw [hH1];simp
        rw [<- hH1]
        have hH1n:H1 ≠ W6.drew.heap.size:=by rw [hH1];simp
        have HH1n:=Hd_ hH1n
        have HH1l:=Hd_ hH1l
        clear hH1 hH1n hH1l
        refine hK.out _ _ (kB2 hbx0 hS0) (fun _ _=>?_)
        try simp only [tA,tB,tC,Act.put,tE,tF,tG]
        clear hK K inv hS;rename_i hS inv
        refine F_o1 4 inv ?_;intro K hK
        try simp only [tA,tB,tC]
        refine op_appendL cPr elPair cPr_len cPr_one _ _ (by rfl) W6.drew.heap.size _ [] (l.take k) (by rfl) HRL1.out lo w.heap.size _ (by rfl) HTK1.out (by simp;omega) (by omega) hs0x ?_
        intro va wa hra hga hata
        simp only [List.nil_append] at hra
        have hbx:=hbx0.trans (own_below HRL1.out hs0x hga)
        have hbxs:=hbx.size
        have HV:=Hd_ hra
        have HLIT:=Hd_ ((hga.block H1 HH1l.out (fun e=>by injection e with e;exact HH1n.out e)).trans HLT0.out)
        clear hra hga hata
        refine hK.out _ _ (kB2 hbx hS0) (fun _ _=>?_)
        try simp only [tA,tB,tC,Act.put,tE,tF,tG]
        clear hK K inv hS;rename_i hS inv
        refine F_o1 7 inv ?_;intro K hK
        try simp only [tA,tB,tC]
        refine op_append1 cPr elPair rfl _ _ (by rfl) W6.drew.heap.size va (l.take k) p _ H1 (by rfl) HV.out (by rfl) HLIT.out rfl (cPr_one _) (by omega) (by omega) hbxs ?_
        intro g2 cp2 w3 hown3 hgr3 hat3 hlt3
        have hb3:=hbx.trans (own_below HV.out hbxs hgr3)
        have HOW3:=Hd_ hown3
        have hs3:=hb3.size
        have HSD3:=Hd_ (HSD.out.dropQ (k:=k) hb3 hwW6 (by omega) hlc)
        clear hown3 hgr3 hat3
        refine hK.out _ _ (kB2 hb3 hS0) (fun _ _=>?_)
        try simp only [tA,tB,tC,Act.put,tE,tF,tG]
        clear hK K inv hS;rename_i hS inv
        refine F_o1 11 inv ?_;intro K hK
        try simp only [tA,tB,tC]
        refine op_appendL cPr elPair cPr_len cPr_one _ _ (by rfl) W6.drew.heap.size (.slice (some ⟨g2,0,none⟩) ((l.take k).length+1) cp2) (l.take k ++ [p]) (l.drop k) (by rfl) HOW3.out lo w.heap.size (.slice (if c=k then some ⟨g,0,none⟩ else some ⟨g,k * 2,none⟩) (l.length - k) (c - k)) (by rfl) HSD3.out (by omega) (by omega) hs3 ?_
        intro v5 w5 hown5 hgr5 hat5
        have hb5:=hb3.trans (own_below (base:=W6.drew.heap.size) HOW3.out hs3 hgr5)
        rw [show l.take k ++ [p] ++ l.drop k=R from HPUT.out.symm] at hown5
        obtain ⟨g5,c5,rfl,-,-,-,-⟩:=own_some hown5 (by have:=HRL.out;omega)
        have HSET:=Hd_ (show SetR lo w5 (.slice (some ⟨g5,0,none⟩) R.length c5) R from ⟨g5,c5,rfl,ownsRow_mono hown5 hloW⟩)
        have HBF:=Hd_ (below_trans HBW6.out hb5)
        clear hown5 hgr5 hat5
        refine hK.out _ _ (kB2 hb5 hS0) (fun _ _=>?_)
        try simp only [tA,tB,tC,Act.put,tE,tF,tG]
        clear hK K inv hS;rename_i hS inv
        refine F_l1 12 ?_;intro K hK
        go_simp
        refine hK _ _ ?_
        clear hK K inv hS
        go_wp2_with fail
        all_goals go_ret
        all_goals exact ⟨_,rfl,HSET.out,HBF.out⟩
    · go_simp
      obtain ⟨H1,hH1⟩:∃ H1,H1=W6.heap.size:=⟨_,rfl⟩
      have hba:=(Below.refl W6.drew.heap.size W6.drew).alloc (Nat.le_refl _) (.cells #[.int .i64 p.1,.int .i64 p.2] 57)
      have hsa:=hba.size
      have hH1l:H1 < (W6.drew.alloc (.cells #[.int .i64 p.1,.int .i64 p.2] 57)).heap.size:=by rw [hH1];simp
      have HLT0:=Hd_ (show (W6.drew.alloc (.cells #[.int .i64 p.1,.int .i64 p.2] 57)).heap[H1]?=some (.cells (cPr p).toArray 57 (0,0)) by rw [hH1];exact heap_alloc_new _ _)
      refine hK.out _ _ (kB2 hba hS0) (fun _ _=>?_)
      try simp only [tA,tB,tC,Act.put,tE,tF,tG]
      clear hK K inv hS;rename_i hS inv
      refine F_o1 0 inv ?_;intro K hK
      try simp only [tA,tB,tC]
      go_simp
      have hbx0:=hba.alloc hsa (.cells #[] 57)
      have hrl:=World.ownsRow_lit (base:=W6.drew.heap.size) (e:=57) (size:=2) (W6.drew.alloc (.cells #[.int .i64 p.1,.int .i64 p.2] 57)) #[] 0 hsa (by decide) rfl
      rw [show (W6.drew.alloc (.cells #[.int .i64 p.1,.int .i64 p.2] 57)).heap.size=H1+1 by rw [hH1];simp] at hrl
      have HRL1:=Hd_ hrl
      clear hrl
      have HTK1:=Hd_ ((HSD.out.below hbx0 hwW6).takeP (m:=k) (by omega))
      have hs0x:=hbx0.size
      have HLT1:=Hd_ ((Below.heap_alloc _ (.cells #[] 57) H1 hH1l).trans HLT0.out)
      have HH1l:=Hd_ (Nat.lt_of_lt_of_le hH1l (show (W6.drew.alloc (.cells #[.int .i64 p.1,.int .i64 p.2] 57)).heap.size<=((W6.drew.alloc (.cells #[.int .i64 p.1,.int .i64 p.2] 57)).alloc (.cells #[] 57)).heap.size by simp))
      have HH1n:=Hd_ (show H1 ≠ H1+1 by omega)
      rw [<- hH1]
      clear hH1 hH1l
      refine hK.out _ _ (kB2 hbx0 hS0) (fun _ _=>?_)
      try simp only [tA,tB,tC,Act.put,tE,tF,tG]
      clear hK K inv hS;rename_i hS inv
      refine F_o1 4 inv ?_;intro K hK
      try simp only [tA,tB,tC]
      refine op_appendL cPr elPair cPr_len cPr_one _ _ (by rfl) W6.drew.heap.size _ [] (l.take k) (by rfl) HRL1.out lo w.heap.size _ (by rfl) HTK1.out (by simp;omega) (by omega) hs0x ?_
      intro va wa hra hga hata
      simp only [List.nil_append] at hra
      have hbx:=hbx0.trans (own_below HRL1.out hs0x hga)
      have hbxs:=hbx.size
      have HV:=Hd_ hra
      have HLIT:=Hd_ ((hga.block H1 HH1l.out (fun e=>by injection e with e;exact HH1n.out e)).trans HLT1.out)
      clear hra hga hata
      refine hK.out _ _ (kB2 hbx hS0) (fun _ _=>?_)
      try simp only [tA,tB,tC,Act.put,tE,tF,tG]
      clear hK K inv hS;rename_i hS inv
      refine F_o1 7 inv ?_;intro K hK
      try simp only [tA,tB,tC]
      refine op_append1 cPr elPair rfl _ _ (by rfl) W6.drew.heap.size va (l.take k) p _ H1 (by rfl) HV.out (by rfl) HLIT.out rfl (cPr_one _) (by omega) (by omega) hbxs ?_
      intro g2 cp2 w3 hown3 hgr3 hat3 hlt3
      have hb3:=hbx.trans (own_below HV.out hbxs hgr3)
      have HOW3:=Hd_ hown3
      have hs3:=hb3.size
      have HSD3:=Hd_ (HSD.out.dropQ (k:=k) hb3 hwW6 (by omega) hlc)
      clear hown3 hgr3 hat3
      refine hK.out _ _ (kB2 hb3 hS0) (fun _ _=>?_)
      try simp only [tA,tB,tC,Act.put,tE,tF,tG]
      clear hK K inv hS;rename_i hS inv
      refine F_o1 11 inv ?_;intro K hK
      try simp only [tA,tB,tC]
      refine op_appendL cPr elPair cPr_len cPr_one _ _ (by rfl) W6.drew.heap.size (.slice (some ⟨g2,0,none⟩) ((l.take k).length+1) cp2) (l.take k ++ [p]) (l.drop k) (by rfl) HOW3.out lo w.heap.size (.slice (if c=k then some ⟨g,0,none⟩ else some ⟨g,k * 2,none⟩) (l.length - k) (c - k)) (by rfl) HSD3.out (by omega) (by omega) hs3 ?_
      intro v5 w5 hown5 hgr5 hat5
      have hb5:=hb3.trans (own_below (base:=W6.drew.heap.size) HOW3.out hs3 hgr5)
      rw [show l.take k ++ [p] ++ l.drop k=R from HPUT.out.symm] at hown5
      obtain ⟨g5,c5,rfl,-,-,-,-⟩:=own_some hown5 (by have:=HRL.out;omega)
      have HSET:=Hd_ (show SetR lo w5 (.slice (some ⟨g5,0,none⟩) R.length c5) R from ⟨g5,c5,rfl,ownsRow_mono hown5 hloW⟩)
      have HBF:=Hd_ (below_trans HBW6.out hb5)
      clear hown5 hgr5 hat5
      refine hK.out _ _ (kB2 hb5 hS0) (fun _ _=>?_)
      try simp only [tA,tB,tC,Act.put,tE,tF,tG]
      clear hK K inv hS;rename_i hS inv
      refine F_l1 12 ?_;intro K hK
      go_simp
      refine hK _ _ ?_
      clear hK K inv hS
      go_wp2_with fail
      all_goals go_ret
      all_goals exact ⟨_,rfl,HSET.out,HBF.out⟩
def PrsOut (b k:Nat) (w:World) (e:Ending) (w':World):Prop:=∃ v l,e=.returned v/\(Own w.heap.size w'.heap.size w' 57 cPr 2 v l/\l.length<=k/\Cur w' b/\Only b (b+1) w w')
theorem SetR.only {lo a c:Nat} {w w':World} {v:Value} {l:List Pr} (h:SetR lo w v l) (ho:Only a c w w') (hc:c<=lo):SetR lo w' v l:=by
 obtain ⟨g,cp,rfl,h⟩:=h
 exact ⟨g,cp,rfl,own_only h ho hc⟩
set_option maxHeartbeats 2000000 in
theorem l15Pairs_any (b:Nat) (w:World) (hc:Cur w b) :
 Calls Tryz.prog 52 #[.pointer (some ⟨b,0,none⟩)] w (PrsOut b 6 w):=by
 have hlt:=hc.lt
 have hal:=(Below.refl w.heap.size w).alloc (Nat.le_refl _) (.cells #[] 57)
 have HS:=Hd_ (SetR.lit w w.heap.size (Nat.le_refl _))
 have HC:=Hd_ (hc.keep hal)
 have HO:=Hd_ (Only.of_below hal b (b+1))
 clear hal hc
 go_enter Tryz.func52,Tryz.ntmps52
 go_wp2_with fail
 refine (l1Below_any b 7 _ HC.out).mono ?_
 rintro e w1 ⟨n,rfl,⟨hn0,-,hn1⟩,hc1,ho1⟩
 have hn1:=hn1 (by omega)
 obtain ⟨n,rfl⟩:=Int.eq_ofNat_of_zero_le hn0
 have HS1:=Hd_ (HS.out.only ho1 (by omega))
 have HO1:=Hd_ (HO.out.trans ho1)
 have HC1:=Hd_ hc1
 have hn6:n<=6:=by omega
 clear ho1 hc1 HS HC HO hn0 hn1
 go_wp2_with fail
 go_loopw [3,4] (fun ll kk wr=>∃ (k:Nat) (L:List Pr),kk=.int .i64 (k:Int)/\L.length+k<=6/\SetR w.heap.size wr ll L/\Cur wr b/\Only b (b+1) w wr) (fun _ kk _=>(intOf kk).toNat)
 case atStart=>exact ⟨n,[],rfl,by simpa using hn6,HS1.out,HC1.out,HO1.out⟩
 case round =>
  obtain ⟨k,L,rfl,hL,hs,hc,ho⟩:=hrel
  have HSR:=Hd_ hs
  have HCR:=Hd_ hc
  have HOR:=Hd_ ho
  clear hs hc ho HS1 HC1 HO1
  by_cases hk:0 < k
  · have hki:(0:Int) < (k:Int):=by omega
    go_wp2_with fail
    refine (l1Below_any b 5 _ HCR.out).mono ?_
    rintro e w2 ⟨x,rfl,-,hc2,ho2⟩
    have HS2:=Hd_ (HSR.out.only ho2 (by omega))
    have HO2:=Hd_ (HOR.out.trans ho2)
    clear ho2 HSR HCR HOR
    go_wp2_with fail
    refine (l1Below_any b 5 _ hc2).mono ?_
    rintro e w3 ⟨y,rfl,-,hc3,ho3⟩
    have HS3:=Hd_ (HS2.out.only ho3 (by omega))
    have HO3:=Hd_ (HO2.out.trans ho3)
    have HC3:=Hd_ hc3
    clear ho3 hc3 hc2 HS2 HO2
    have hsz:w.heap.size<=w3.heap.size:=HO3.out.size
    go_wp2_with fail
    refine (l15Put_any _ w.heap.size L (x,y) _ HS3.out hsz (by omega)).mono ?_
    rintro e w4 ⟨v4,rfl,hs4,hb4⟩
    have HS4:=Hd_ hs4
    have HO4:=Hd_ (HO3.out.trans (Only.of_below hb4 b (b+1)))
    have HC4:=Hd_ (HC3.out.keep hb4)
    have hpl:=putP_len L (x,y)
    clear hs4 hb4 HS3 HO3 HC3
    go_wp2_with fail
    go_roundw
    case rel=>exact ⟨k - 1,putP L (x,y),by congr 1;omega,by omega,HS4.out,HC4.out,HO4.out⟩
    case measure=>simp [intOf];omega
  · obtain rfl:k=0:=by omega
    obtain ⟨g,c,rfl,hrow⟩:=HSR.out
    have HOW:=Hd_ (show Own w.heap.size wr.heap.size wr 57 cPr 2 (.slice (some ⟨g,0,none⟩) L.length c) L from Own.of_row hrow rfl rfl)
    clear hrow
    go_wp2_with fail
    go_ret
    exact ⟨_,L,rfl,HOW.out,by omega,HCR.out,HOR.out⟩
set_option maxHeartbeats 2000000 in
theorem l15Any_any (b:Nat) (w:World) (hc:Cur w b) :
 Calls Tryz.prog 25 #[.pointer (some ⟨b,0,none⟩)] w (PrsOut b 7 w):=by
 have hlt:=hc.lt
 go_enter Tryz.func25,Tryz.ntmps25
 go_wp2_with fail
 refine (l15Pairs_any b _ hc).mono ?_
 rintro e w1 ⟨v,L,rfl,how,hL,hc1,ho1⟩
 have HOW:=Hd_ how
 have HO1:=Hd_ ho1
 obtain ⟨A,n,c,rfl⟩:=how.shape
 have hs1:=ho1.size
 clear how ho1 hc
 go_wp2_with fail
 refine (l1Once_any b 12 _ hc1).mono ?_
 rintro e w2 ⟨t,rfl,hc2,ho2⟩
 have HOW2:=Hd_ (HOW.out.only ho2 (.inr (by omega)))
 have HO2:=Hd_ (HO1.out.trans ho2)
 have hs2:=ho2.size
 clear ho2 HOW HO1 hc1
 cases t
 · have HR:=Hd_ (HOW2.out.mono (Nat.le_refl _) hs2)
   go_wp2_with fail
   go_ret
   exact ⟨_,L,rfl,HR.out,by omega,hc2,HO2.out⟩
 · have HSL:=Hd_ (litD_sl w2 3 #[.int .i64 0,.int .i64 5,.int .i64 (-1)] [0,5,-1] 3 (b+1) (by omega) (by decide) rfl rfl rfl)
   have hal:=(Below.refl w2.heap.size w2).alloc (Nat.le_refl _) (.cells #[.int .i64 0,.int .i64 5,.int .i64 (-1)] 3)
   have HC3:=Hd_ (hc2.keep hal)
   have HOW3:=Hd_ (HOW2.out.below hal hs2)
   have HO3:=Hd_ (HO2.out.trans (Only.of_below hal b (b+1)))
   have hs3:=hal.size
   clear hal hc2 HOW2 HO2
   go_wp2_with fail
   refine (l1PickInt_any b _ _ _ HC3.out (by decide) HSL.out).mono ?_
   rintro e w3 ⟨x,rfl,-,hc4,ho4⟩
   have HOW4:=Hd_ (HOW3.out.only ho4 (.inr (by omega)))
   have HO4:=Hd_ (HO3.out.trans ho4)
   have hs4:=ho4.size
   clear ho4 HOW3 HO3 HC3 HSL
   go_wp2_with fail
   refine (l1Below_any b 6 _ hc4).mono ?_
   rintro e w5 ⟨y,rfl,-,hc5,ho5⟩
   have hs5:=ho5.size
   have HOW5:=Hd_ ((HOW4.out.only ho5 (.inr (by omega))).1)
   have HO5:=Hd_ (HO4.out.trans ho5)
   have HC5:=Hd_ hc5
   have hsz:w.heap.size<=w5.heap.size:=HO5.out.size
   clear ho5 HOW4 HO4 hc4 hc5
   go_wp2_with (at_builtin;(refine wpList_append2 cPr elPair rfl _ _ (by rfl) w.heap.size _ L (x,y) 1 _ (by rfl) (HOW5.out.alloc _) (by rfl) (heap_alloc_new _ _) rfl (cPr_one _) (by omega) (by omega) (by simp;omega) ?_);intro g2 cp2 w9 hown9 hgr9 hat9 hlt9)
   have hal:=(Below.refl w5.heap.size w5).alloc (Nat.le_refl _) (.cells #[.int .i64 x,.int .i64 y] 57)
   have hob:=own_below (HOW5.out.alloc (.cells #[.int .i64 x,.int .i64 y] 57)) (by simp;omega) hgr9
   have HO9:=Hd_ ((HO5.out.trans (Only.of_below hal b (b+1))).andBelow hob (Nat.le_refl _))
   have HC9:=Hd_ ((HC5.out.keep hal).below hob hlt)
   have HR:=Hd_ (show Own w.heap.size w9.heap.size w9 57 cPr 2 (.slice (some ⟨g2,0,none⟩) (L.length+1) cp2) (L ++ [(x,y)]) from Own.of_row hown9 rfl rfl)
   clear hown9 hgr9 hat9 hlt9 hal hob
   go_wp2_with fail
   go_ret
   exact ⟨_,L ++ [(x,y)],rfl,HR.out,by simp;omega,HC9.out,HO9.out⟩
set_option maxHeartbeats 2000000 in
theorem l2Draw_any (b:Nat) (w:World) (hc:Cur w b) :
 Calls Tryz.prog 39 #[.pointer (some ⟨b,0,none⟩)] w fun e w'=>∃ r:Int,e=.returned (.int .i64 r)/\Cur w' b/\Only b (b+1) w w':=by
 have hlt:=hc.lt
 go_enter Tryz.func39,Tryz.ntmps39
 go_wp2_with fail
 refine (l1Once_any b 14 _ hc).mono ?_
 rintro e w2 ⟨t,rfl,hc2,ho2⟩
 have HO2:=Hd_ ho2
 have hs2:=ho2.size
 clear ho2 hc
 cases t
 · have HSL:=Hd_ (litD_sl w2 3 #[.int .i64 0,.int .i64 0,.int .i64 0,.int .i64 1,.int .i64 2,.int .i64 2,.int .i64 3,.int .i64 4,.int .i64 6,.int .i64 7] [0,0,0,1,2,2,3,4,6,7] 10 (b+1) (by omega) (by decide) rfl rfl rfl)
   have hal:=(Below.refl w2.heap.size w2).alloc (Nat.le_refl _) (.cells #[.int .i64 0,.int .i64 0,.int .i64 0,.int .i64 1,.int .i64 2,.int .i64 2,.int .i64 3,.int .i64 4,.int .i64 6,.int .i64 7] 3)
   have HC3:=Hd_ (hc2.keep hal)
   have HO3:=Hd_ (HO2.out.trans (Only.of_below hal b (b+1)))
   clear hal hc2 HO2
   go_wp2_with fail
   refine (l1PickInt_any b _ _ _ HC3.out (by decide) HSL.out).mono ?_
   rintro e w3 ⟨x,rfl,-,hc4,ho4⟩
   have HO4:=Hd_ (HO3.out.trans ho4)
   clear ho4
   go_wp2_with fail
   go_ret
   exact ⟨_,rfl,hc4,HO4.out⟩
 · have HSL:=Hd_ (litD_sl w2 3 #[.int .i64 (-1),.int .i64 9,.int .i64 8,.int .i64 100] [-1,9,8,100] 4 (b+1) (by omega) (by decide) rfl rfl rfl)
   have hal:=(Below.refl w2.heap.size w2).alloc (Nat.le_refl _) (.cells #[.int .i64 (-1),.int .i64 9,.int .i64 8,.int .i64 100] 3)
   have HC3:=Hd_ (hc2.keep hal)
   have HO3:=Hd_ (HO2.out.trans (Only.of_below hal b (b+1)))
   clear hal hc2 HO2
   go_wp2_with fail
   refine (l1PickInt_any b _ _ _ HC3.out (by decide) HSL.out).mono ?_
   rintro e w3 ⟨x,rfl,-,hc4,ho4⟩
   have HO4:=Hd_ (HO3.out.trans ho4)
   clear ho4
   go_wp2_with fail
   go_ret
   exact ⟨_,rfl,hc4,HO4.out⟩
theorem gv_done {b r lo:Nat} {w0 w:World} {v d0 d1:Value} {g:Gr} (h:GrV lo w.heap.size w v g) (hc:Cur w b) (ho:Only b (b+1) w0 w) (hr:w0.heap.size=r) (hlt:b < r/\r < lo) :
 GrV w0.heap.size ((w.setCell ⟨r,0,none⟩ d0).setCell ⟨r,1,none⟩ d1).heap.size ((w.setCell ⟨r,0,none⟩ d0).setCell ⟨r,1,none⟩ d1) v g/\Cur ((w.setCell ⟨r,0,none⟩ d0).setCell ⟨r,1,none⟩ d1) b/\Only b (b+1) w0 ((w.setCell ⟨r,0,none⟩ d0).setCell ⟨r,1,none⟩ d1):=by
 have hp:=Only.put2 w r d0 d1
 exact ⟨(h.only hp (Nat.le_refl _) (.inr (by omega))).mono (by omega) hp.size,hc.only hp (by omega),(ho.setCell (p:=⟨r,0,none⟩) (.inr (by simp only;omega)) _).setCell (p:=⟨r,1,none⟩) (.inr (by simp only;omega)) _⟩
/-- a graph that lies in the block q; the result's block r -/
structure GcR (b r q lo mid hi:Nat) (w0 w:World) (vs es:Value) (xs:List Int) (ys:List Ed):Prop where
 res:Blk w r 40 #[.slice none 0 0,.slice none 0 0]
 blk:Blk w q 40 #[vs,es]
 vals:Own lo mid w 3 cI 1 vs xs
 edges:Own mid hi w 76 cEd 4 es ys
 cur:Cur w b
 only:Only b (b+1) w0 w
 at0:w0.heap.size=r
 ord:b < r/\r < lo/\lo<=mid/\mid<=hi/\hi<=q
section
variable {b r q lo mid hi:Nat} {w0 w w':World} {vs es:Value} {xs:List Int} {ys:List Ed}
theorem GcR.move (h:GcR b r q lo mid hi w0 w vs es xs ys) (ho:Only b (b+1) w w') (hc:Cur w' b):GcR b r q lo mid hi w0 w' vs es xs ys:=by
 have hd:=h.ord
 exact ⟨h.res.only ho (.inr (by omega)),h.blk.only ho (.inr (by omega)),h.vals.only ho (.inr (by omega)),h.edges.only ho (.inr (by omega)),hc,h.only.trans ho,h.at0,hd⟩
theorem GcR.below (h:GcR b r q lo mid hi w0 w vs es xs ys) (hb:Below w.heap.size w w'):GcR b r q lo mid hi w0 w' vs es xs ys:=by
 have hd:=h.ord
 have hq:=h.blk.lt
 exact ⟨h.res.keep hb,h.blk.keep hb,h.vals.below hb (by omega),h.edges.below hb (by omega),h.cur.keep hb,h.only.trans (Only.of_below hb _ _),h.at0,hd⟩
theorem GcR.alloc (h:GcR b r q lo mid hi w0 w vs es xs ys) (o:Obj):GcR b r q lo mid hi w0 (w.alloc o) vs es xs ys:=h.below ((Below.refl _ _).alloc (Nat.le_refl _) _)
theorem GcR.view (h:GcR b r q lo mid hi w0 w vs es xs ys):GrV lo w.heap.size w (.agg #[vs,es]) ⟨xs,ys⟩:=by
 have hd:=h.ord
 have hq:=h.blk.lt
 exact ⟨vs,es,rfl,(h.vals.sl cI_len).mono (Nat.le_refl _) (by omega),(h.edges.sl cEd_len).mono (by omega) (by omega)⟩
theorem GcR.push {ys':List Ed} {g n c:Nat} (h:GcR b r q lo mid hi w0 w vs es xs ys) (hr:w'.ownsRow mid 76 4 (.slice (some ⟨g,0,none⟩) n c) ys'.length (ys'.flatMap cEd)) (hg:w.grownBy w' es.ownBlock) (hat:es.ownBlock=some g ∨ w.heap.size<=g) :
 Blk w' q 40 #[vs,es]/\(GrV lo (w'.setCell ⟨q,1,none⟩ (.slice (some ⟨g,0,none⟩) n c)).heap.size (w'.setCell ⟨q,1,none⟩ (.slice (some ⟨g,0,none⟩) n c)) (.agg #[vs,.slice (some ⟨g,0,none⟩) n c]) ⟨xs,ys'⟩ /\
  Blk (w'.setCell ⟨q,1,none⟩ (.slice (some ⟨g,0,none⟩) n c)) r 40 #[.slice none 0 0,.slice none 0 0]/\Blk (w'.setCell ⟨q,1,none⟩ (.slice (some ⟨g,0,none⟩) n c)) q 40 #[vs,.slice (some ⟨g,0,none⟩) n c] /\
  Cur (w'.setCell ⟨q,1,none⟩ (.slice (some ⟨g,0,none⟩) n c)) b/\Only b (b+1) w0 (w'.setCell ⟨q,1,none⟩ (.slice (some ⟨g,0,none⟩) n c))):=by
 have hd:=h.ord
 have hq:=h.blk.lt
 have hb:=own_below h.edges.1 (by omega) hg
 have hne:es.ownBlock ≠ some q:=fun e=>by have:=h.edges.2 q e;omega
 have hs:=hb.size
 have hgq:g ≠ q:=by
  rcases hat with h1 | h1
  · have:=h.edges.2 g h1;omega
  · omega
 have hbq:Blk w' q 40 #[vs,es]:=(hg.block q hq (fun e=>hne e.symm)).trans h.blk
 have hos:=(Only.refl q (q+1) w').setCell (p:=⟨q,1,none⟩) (.inl ⟨Nat.le_refl _,Nat.lt_succ_self _⟩) (.slice (some ⟨g,0,none⟩) n c)
 have hr2:=ownsRow_block hr (w':=w'.setCell ⟨q,1,none⟩ (.slice (some ⟨g,0,none⟩) n c)) (fun g' hg'=>by cases hg';exact Below.heap_setCell w' ⟨q,1,none⟩ _ g hgq)
 exact ⟨hbq,⟨_,_,rfl,(((h.vals.below hb (Nat.le_refl _)).only hos (.inl (by omega))).sl cI_len).mono (Nat.le_refl _) (Nat.le_trans (by omega) hos.size),((Own.of_row (xs:=ys') hr2 rfl rfl).sl cEd_len).mono (by omega) (Nat.le_refl _)⟩,(h.res.below hb (by omega)).far (by simp only;omega) _,hbq.set_ 1 _,(h.cur.below hb (by omega)).set (by simp only;omega) _,(h.only.andBelow hb (by have:=h.at0;omega)).setCell (.inr (by have:=h.at0;simp only;omega)) _⟩
end
set_option maxHeartbeats 4000000 in
theorem l3Any_any (b:Nat) (w:World) (hc:Cur w b) :
 Calls Tryz.prog 38 #[.pointer (some ⟨b,0,none⟩)] w fun e w'=>∃ v g,e=.returned v/\GrV w.heap.size w'.heap.size w' v g/\(g.vals.length<=5/\g.edges.length<=11)/\Cur w' b/\Only b (b+1) w w':=by
 have hlt:=hc.lt
 have hb0:=(Below.refl w.heap.size w).alloc (Nat.le_refl _) (.cells #[.slice none 0 0,.slice none 0 0] 40)
 have hbr:=Blk.new w 40 #[.slice none 0 0,.slice none 0 0] _ rfl
 go_enter Tryz.func38,Tryz.ntmps38
 go_wp2_with fail
 refine (l3Graph_any b _ (hc.keep hb0)).mono ?_
 rintro e w1 ⟨v,g,rfl,hgo,⟨hg1,hg2,hg3⟩,hc1,ho1⟩
 have hsz:(w.alloc (.cells #[.slice none 0 0,.slice none 0 0] 40)).heap.size=w.heap.size+1:=by simp
 rw [hsz] at hgo
 obtain ⟨vs,es,mid,rfl,hov,hoe,hm1,hm2⟩:=hgo
 obtain ⟨A1,n1,c1,rfl⟩:=hov.shape
 obtain ⟨A2,n2,c2,rfl⟩:=hoe.shape
 have hal:=(Below.refl w1.heap.size w1).alloc (Nat.le_refl _) (.cells #[.slice A1 n1 c1,.slice A2 n2 c2] 40)
 have HG0:=Hd_ (show GcR b w.heap.size w1.heap.size (w.heap.size+1) mid w1.heap.size w (w1.alloc (.cells #[.slice A1 n1 c1,.slice A2 n2 c2] 40)) _ _ g.vals g.edges from
  ⟨(hbr.only ho1 (.inr (by omega))).keep hal,Blk.new w1 _ _ _ rfl,hov.below hal (by omega),hoe.below hal (Nat.le_refl _),hc1.keep hal,((Only.of_below hb0 b (b+1)).trans ho1).trans (Only.of_below hal _ _),rfl,by omega⟩)
 clear hal hsz hov hoe ho1 hc1 hbr hb0
 go_wp2_with fail
 refine (l1Below_any b 14 _ HG0.out.cur).mono ?_
 rintro e w2 ⟨t,rfl,-,hc2,ho2⟩
 have HG:=Hd_ (HG0.out.move ho2 hc2)
 clear HG0 ho2 hc2
 have x0:w2.cell? ⟨w1.heap.size,0,none⟩=some (.slice A1 n1 c1):=HG.out.blk.cell 0
 have x1:w2.cell? ⟨w1.heap.size,1,none⟩=some (.slice A2 n2 c2):=HG.out.blk.cell 1
 have y0:=HG.out.blk.frozen 0
 have y1:=HG.out.blk.frozen 1
 have hlq:=HG.out.blk.lt
 have hlr:=HG.out.res.lt
 have v0:=HG.out.res.frozen 0
 have v1:=HG.out.res.frozen 1
 by_cases ht0:t=0
 · subst ht0
   have z0:w2.cell? ⟨w.heap.size,0,none⟩=some (.slice none 0 0):=HG.out.res.cell 0
   have z1:w2.cell? ⟨w.heap.size,1,none⟩=some (.slice none 0 0):=HG.out.res.cell 1
   have hvr:=HG.out.vals.1
   have hn1:∃ gV,A1=some ⟨gV,0,none⟩/\n1=g.vals.length:=by
    rcases hvr.2 with ⟨_,h2⟩ | ⟨gV,cap,cur,h1,_⟩
    · omega
    · injection h1 with h1 h2 _;exact ⟨gV,h1,h2⟩
   obtain ⟨gV,rfl,rfl⟩:=hn1
   have hvl:=HG.out.vals.lt gV rfl
   have fz0:=World.ownsRow.frozenAt hvr 0
   have cz0:=World.ownsRow.cellAt hvr 0 (by omega)
   have hx0:g.vals[0]?=some g.vals[0]:=List.getElem?_eq_getElem (by omega)
   have hfl:(g.vals.flatMap cI)[0]?=some (.int .i64 g.vals[0]):=by have:=flat_at (E:=cI) (k:=1) cI_len hx0 0 _ rfl;simpa using this
   rw [hfl] at cz0
   clear hfl hx0 hvr
   have h0n:(0:Int) < (g.vals.length:Int):=by omega
   have h0N:0 < g.vals.length:=by omega
   go_wp2_with fail
   refine F_start 5 (fun w'=>w'.cell? ⟨w1.heap.size,0,none⟩=some (.slice (some ⟨gV,0,none⟩) g.vals.length c1)) (by kernel_rfl) (by exact x0) (fun hS inv=>?_)
   refine F_tk 0 inv ?_
   try simp only [tA,tB,tC,Act.put,tE,tF,tG]
   clear inv;intro inv
   refine F_tk 1 inv ?_
   try simp only [tA,tB,tC,Act.put,tE,tF,tG]
   clear inv;intro inv
   refine F_tk 2 inv ?_
   try simp only [tA,tB,tC,Act.put,tE,tF,tG]
   clear inv;intro inv
   refine F_o1 3 inv ?_;intro K hK
   try simp only [tA,tB,tC]
   go_simp
   have hal:=((Below.refl w2.heap.size w2).alloc (Nat.le_refl _) (.cells #[.int .i64 (-1),.int .i64 3,.int .i64 2] 3)).drew
   have HG3:=Hd_ (HG.out.below hal)
   have HL3:=Hd_ (show SlI (b+1) (w2.alloc (.cells #[.int .i64 (-1),.int .i64 3,.int .i64 2] 3)).drew.heap.size (w2.alloc (.cells #[.int .i64 (-1),.int .i64 3,.int .i64 2] 3)).drew cI 1 _ _ from litD_sl w2 3 #[.int .i64 (-1),.int .i64 3,.int .i64 2] [-1,3,2] 3 (b+1) (by omega) (by decide) rfl rfl rfl)
   clear hal
   refine hK.out _ _ ((HG3.out.blk.cell 0)) (fun _ _=>?_)
   try simp only [tA,tB,tC,Act.put,tE,tF,tG]
   clear hK K inv hS;rename_i hS inv
   refine F_o1 4 inv ?_;intro K hK
   try simp only [tA,tB,tC]
   go_simp
   refine (l1PickInt_any b _ _ _ HG3.out.cur (by decide) HL3.out).mono ?_
   rintro e w3 ⟨u,rfl,-,hc3,ho3⟩
   have HG4:=Hd_ (HG3.out.move ho3 hc3)
   clear ho3 hc3 HG3 HL3 x0 x1 y0 y1 v0 v1 z0 z1 fz0 cz0 hlr hlq
   refine hK.out _ _ ((HG4.out.blk.cell 0)) (fun _ _=>?_)
   try simp only [tA,tB,tC,Act.put,tE,tF,tG]
   clear hK K inv hS;rename_i hS inv
   have hvr:=HG4.out.vals.1
   have fz0:=World.ownsRow.frozenAt hvr 0
   have cz0:=World.ownsRow.cellAt hvr 0 (by omega)
   have hx0:g.vals[0]?=some g.vals[0]:=List.getElem?_eq_getElem (by omega)
   have hfl:(g.vals.flatMap cI)[0]?=some (.int .i64 g.vals[0]):=by have:=flat_at (E:=cI) (k:=1) cI_len hx0 0 _ rfl;simpa using this
   rw [hfl] at cz0
   have hst:=(World.ownsRow.stored hvr 0 (.int .i64 u)).1
   rw [flatI_set] at hst
   have HST:=Hd_ hst
   clear hst hfl hx0 hvr
   refine F_tail (i:=5) (by kernel_rfl) rfl rfl (by omega) (fun K hK=>?_)
   try simp only [tA,tB,tC]
   go_simp
   refine hK.out _ _ ?_
   try simp only [tA,tB,tC,Act.put,tE,tF,tG]
   clear hK K
   try clear inv hS
   refine F_l1 6 ?_;intro K hK
   go_simp
   refine hK _ _ ?_
   clear hK K
   have hosv:=(Only.refl gV (gV+1) w3).setCell (p:=⟨gV,0,none⟩) (.inl ⟨Nat.le_refl _,Nat.lt_succ_self _⟩) (.int .i64 u)
   have HW:=Hd_ (show GcR b w.heap.size w1.heap.size (w.heap.size+1) mid w1.heap.size w (w3.setCell ⟨gV,0,none⟩ (.int .i64 u)) _ _ (g.vals.set 0 u) g.edges from
    ⟨HG4.out.res.far (by simp only;omega) _,HG4.out.blk.far (by simp only;omega) _,⟨by simpa using HST.out,HG4.out.vals.2⟩,HG4.out.edges.only hosv (.inr (by omega)),HG4.out.cur.set (by simp only;omega) _,HG4.out.only.setCell (.inr (by simp only;omega)) _,rfl,HG4.out.ord⟩)
   generalize w3.setCell ⟨gV,0,none⟩ (.int .i64 u)=w4 at *
   clear HST hosv fz0 cz0
   have x0:w4.cell? ⟨w1.heap.size,0,none⟩=some (.slice (some ⟨gV,0,none⟩) g.vals.length c1):=HW.out.blk.cell 0
   have x1:w4.cell? ⟨w1.heap.size,1,none⟩=some (.slice A2 n2 c2):=HW.out.blk.cell 1
   have z0:w4.cell? ⟨w.heap.size,0,none⟩=some (.slice none 0 0):=HW.out.res.cell 0
   have z1:w4.cell? ⟨w.heap.size,1,none⟩=some (.slice none 0 0):=HW.out.res.cell 1
   have v0:=HW.out.res.frozen 0
   have v1:=HW.out.res.frozen 1
   have hlr:=HW.out.res.lt
   go_wp2_with fail
   have HD:=gv_done (d0:=.slice (some ⟨gV,0,none⟩) g.vals.length c1) (d1:=.slice A2 n2 c2) HW.out.view HW.out.cur HW.out.only rfl (by omega)
   refine bodyPost_ret (v:=.agg #[.slice (some ⟨gV,0,none⟩) g.vals.length c1,.slice A2 n2 c2]) (by simp [results,Tryz.results38,go_sem,z0,z1,v0,v1]) rfl ⟨_,⟨g.vals.set 0 u,g.edges⟩,rfl,HD.1,⟨by simp;omega,by simp only;omega⟩,HD.2.1,HD.2.2⟩
 have hd0:(t==0)=false:=by simpa using ht0
 by_cases ht1:t=1
 · subst ht1
   go_wp2_with fail
   refine F_start 15 (fun w'=>w'.cell? ⟨w1.heap.size,1,none⟩=some (.slice A2 n2 c2)) (by kernel_rfl) (by exact x1) (fun hS inv=>?_)
   refine F_tk 0 inv ?_
   try simp only [tA,tB,tC,Act.put,tE,tF,tG]
   clear inv;intro inv
   refine F_tk 1 inv ?_
   try simp only [tA,tB,tC,Act.put,tE,tF,tG]
   clear inv;intro inv
   refine F_tk 2 inv ?_
   try simp only [tA,tB,tC,Act.put,tE,tF,tG]
   clear inv;intro inv
   refine F_tk 5 inv ?_
   try simp only [tA,tB,tC,Act.put,tE,tF,tG]
   clear inv;intro inv
   refine F_tk 7 inv ?_
   try simp only [tA,tB,tC,Act.put,tE,tF,tG]
   clear inv;intro inv
   refine F_tk 9 inv ?_
   try simp only [tA,tB,tC,Act.put,tE,tF,tG]
   clear inv;intro inv
   refine F_o1 3 inv ?_;intro K hK
   try simp only [tA,tB,tC]
   go_simp
   have hal:=((Below.refl w2.heap.size w2).alloc (Nat.le_refl _) (.cells #[.int .i64 0,.int .i64 1,.int .i64 99,.int .i64 100] 3)).drew
   have HG3:=Hd_ (HG.out.below hal)
   have HL3:=Hd_ (show SlI (b+1) (w2.alloc (.cells #[.int .i64 0,.int .i64 1,.int .i64 99,.int .i64 100] 3)).drew.heap.size (w2.alloc (.cells #[.int .i64 0,.int .i64 1,.int .i64 99,.int .i64 100] 3)).drew cI 1 _ _ from litD_sl w2 3 #[.int .i64 0,.int .i64 1,.int .i64 99,.int .i64 100] [0,1,99,100] 4 (b+1) (by omega) (by decide) rfl rfl rfl)
   clear hal
   refine hK.out _ _ ((HG3.out.blk.cell 1)) (fun _ _=>?_)
   try simp only [tA,tB,tC,Act.put,tE,tF,tG]
   clear hK K inv hS;rename_i hS inv
   refine F_o1 4 inv ?_;intro K hK
   try simp only [tA,tB,tC]
   go_simp
   refine (l1PickInt_any b _ _ _ HG3.out.cur (by decide) HL3.out).mono ?_
   rintro e w3 ⟨u1,rfl,-,hc3,ho3⟩
   have HG4:=Hd_ (HG3.out.move ho3 hc3)
   clear ho3 hc3 HG3 HL3 x0 x1 y0 y1 v0 v1 hlr hlq
   refine hK.out _ _ ((HG4.out.blk.cell 1)) (fun _ _=>?_)
   try simp only [tA,tB,tC,Act.put,tE,tF,tG]
   clear hK K inv hS;rename_i hS inv
   refine F_o1 6 inv ?_;intro K hK
   try simp only [tA,tB,tC]
   go_simp
   refine (l1Below_any b _ _ HG4.out.cur).mono ?_
   rintro e w4 ⟨u2,rfl,-,hc4,ho4⟩
   have HG5:=Hd_ (HG4.out.move ho4 hc4)
   clear ho4 hc4
   refine hK.out _ _ ((HG5.out.blk.cell 1)) (fun _ _=>?_)
   try simp only [tA,tB,tC,Act.put,tE,tF,tG]
   clear hK K inv hS;rename_i hS inv
   refine F_o1 8 inv ?_;intro K hK
   try simp only [tA,tB,tC]
   go_simp
   refine (l1Below_any b _ _ HG5.out.cur).mono ?_
   rintro e w5 ⟨u3,rfl,-,hc5,ho5⟩
   have HG6:=Hd_ (HG5.out.move ho5 hc5)
   clear ho5 hc5
   refine hK.out _ _ ((HG6.out.blk.cell 1)) (fun _ _=>?_)
   try simp only [tA,tB,tC,Act.put,tE,tF,tG]
   clear hK K inv hS;rename_i hS inv
   refine F_o1 10 inv ?_;intro K hK
   try simp only [tA,tB,tC]
   go_simp
   refine (l1Below_any b _ _ HG6.out.cur).mono ?_
   rintro e w6 ⟨u4,rfl,-,hc6,ho6⟩
   have HG7:=Hd_ (HG6.out.move ho6 hc6)
   clear ho6 hc6 HG4 HG5 HG6
   refine hK.out _ _ ((HG7.out.blk.cell 1)) (fun _ _=>?_)
   try simp only [tA,tB,tC,Act.put,tE,tF,tG]
   clear hK K inv hS;rename_i hS inv
   refine F_tk 11 inv ?_
   try simp only [tA,tB,tC,Act.put,tE,tF,tG]
   clear inv;intro inv
   refine F_o1 12 inv ?_;intro K hK
   try simp only [tA,tB,tC]
   go_simp
   have HG8:=Hd_ (HG7.out.alloc (.cells #[.int .i64 u1,.int .i64 u2,.int .i64 u3,.int .i64 u4] 76))
   refine hK.out _ _ ((HG8.out.blk.cell 1)) (fun _ _=>?_)
   try simp only [tA,tB,tC,Act.put,tE,tF,tG]
   clear hK K inv hS;rename_i hS inv
   refine F_o1 13 inv ?_;intro K hK
   try simp only [tA,tB,tC]
   refine op_append1 cEd elEdD rfl _ _ (by rfl) mid _ g.edges (u1,u2,u3,u4) 1 _ (by rfl) HG8.out.edges.1 (by first | rfl | simp) (heap_alloc_new _ _) rfl (cEd_one _) (by omega) (by omega) (by have h1:=HG8.out.ord;have h2:=HG8.out.blk.lt;omega) ?_
   intro g2 cp2 w9 hown3 hgr3 hat3 hlt3
   have HP:=Hd_ (HG8.out.push hown3 hgr3 hat3)
   clear hown3 hgr3 hat3
   refine hK.out _ _ ((HP.out.1.cell 1)) (fun _ _=>?_)
   try simp only [tA,tB,tC,Act.put,tE,tF,tG]
   clear hK K inv hS;rename_i hS inv
   refine F_tk 14 inv ?_
   try simp only [tA,tB,tC,Act.put,tE,tF,tG]
   clear inv;intro inv
   have y1:=HP.out.1.frozen 1
   have hlq:=HP.out.1.lt
   refine F_l1 15 ?_;intro K hK
   go_simp
   refine hK _ _ ?_
   clear hK K inv hS
   have HW:=Hd_ HP.out.2
   clear HP y1 hlq
   generalize w9.setCell ⟨w1.heap.size,1,none⟩ (.slice (some ⟨g2,0,none⟩) (g.edges.length+1) cp2)=w10 at *
   have x0:w10.cell? ⟨w1.heap.size,0,none⟩=some (.slice A1 n1 c1):=HW.out.2.2.1.cell 0
   have x1:w10.cell? ⟨w1.heap.size,1,none⟩=some (.slice (some ⟨g2,0,none⟩) (g.edges.length+1) cp2):=HW.out.2.2.1.cell 1
   have z0:w10.cell? ⟨w.heap.size,0,none⟩=some (.slice none 0 0):=HW.out.2.1.cell 0
   have z1:w10.cell? ⟨w.heap.size,1,none⟩=some (.slice none 0 0):=HW.out.2.1.cell 1
   have v0:=HW.out.2.1.frozen 0
   have v1:=HW.out.2.1.frozen 1
   have hlr:=HW.out.2.1.lt
   go_wp2_with fail
   have HD:=gv_done (d0:=.slice A1 n1 c1) (d1:=.slice (some ⟨g2,0,none⟩) (g.edges.length+1) cp2) HW.out.1 HW.out.2.2.2.1 HW.out.2.2.2.2 rfl (by omega)
   refine bodyPost_ret (v:=.agg #[.slice A1 n1 c1,.slice (some ⟨g2,0,none⟩) (g.edges.length+1) cp2]) (by simp [results,Tryz.results38,go_sem,z0,z1,v0,v1]) rfl ⟨_,_,rfl,HD.1,⟨by simp only;omega,by simp;omega⟩,HD.2.1,HD.2.2⟩
 have hd1:(t==1)=false:=by simpa using ht1
 by_cases ht2:t=2
 · subst ht2
   go_upto_region 9 with fail
   have HW:=Hd_ (show GcR b w.heap.size w1.heap.size (w.heap.size+1) mid w1.heap.size w (w2.setCell ⟨w1.heap.size,0,none⟩ (.slice none 0 0)) (.slice none 0 0) _ [] g.edges from
    ⟨HG.out.res.far (by simp only;omega) _,HG.out.blk.set_ 0 _,Own.nil _ _ _ _ _ _,HG.out.edges.only ((Only.refl w1.heap.size (w1.heap.size+1) w2).setCell (p:=⟨w1.heap.size,0,none⟩) (.inl ⟨Nat.le_refl _,Nat.lt_succ_self _⟩) _) (.inl (Nat.le_refl _)),HG.out.cur.set (by simp only;omega) _,HG.out.only.setCell (.inr (by simp only;omega)) _,rfl,HG.out.ord⟩)
   generalize w2.setCell ⟨w1.heap.size,0,none⟩ (.slice none 0 0)=w4 at *
   clear x0 x1 v0 v1 y0 y1 hlr hlq
   have x0:w4.cell? ⟨w1.heap.size,0,none⟩=some (.slice none 0 0):=HW.out.blk.cell 0
   have x1:w4.cell? ⟨w1.heap.size,1,none⟩=some (.slice A2 n2 c2):=HW.out.blk.cell 1
   have z0:w4.cell? ⟨w.heap.size,0,none⟩=some (.slice none 0 0):=HW.out.res.cell 0
   have z1:w4.cell? ⟨w.heap.size,1,none⟩=some (.slice none 0 0):=HW.out.res.cell 1
   have v0:=HW.out.res.frozen 0
   have v1:=HW.out.res.frozen 1
   have hlr:=HW.out.res.lt
   go_wp2_with fail
   have HD:=gv_done (d0:=.slice none 0 0) (d1:=.slice A2 n2 c2) HW.out.view HW.out.cur HW.out.only rfl (by omega)
   refine bodyPost_ret (v:=.agg #[.slice none 0 0,.slice A2 n2 c2]) (by simp [results,Tryz.results38,go_sem,z0,z1,v0,v1]) rfl ⟨_,⟨[],g.edges⟩,rfl,HD.1,⟨by simp,by simp only;omega⟩,HD.2.1,HD.2.2⟩
 · have hd2:(t==2)=false:=by simpa using ht2
   have z0:w2.cell? ⟨w.heap.size,0,none⟩=some (.slice none 0 0):=HG.out.res.cell 0
   have z1:w2.cell? ⟨w.heap.size,1,none⟩=some (.slice none 0 0):=HG.out.res.cell 1
   go_wp2_with fail
   have HD:=gv_done (d0:=.slice A1 n1 c1) (d1:=.slice A2 n2 c2) HG.out.view HG.out.cur HG.out.only rfl (by omega)
   refine bodyPost_ret (v:=.agg #[.slice A1 n1 c1,.slice A2 n2 c2]) (by simp [results,Tryz.results38,go_sem,z0,z1,v0,v1]) rfl ⟨_,g,rfl,HD.1,⟨by omega,by omega⟩,HD.2.1,HD.2.2⟩
end Go.Proofs.YtloeghbhoflabaaGreat
