/- Parts of the proof, joined into one text: DistM, FarM, GreM, TwnM, PosV, PsD, PsB, TwnB, TwnD, TwnW, TwnR, TwnL. -/
import Derived.Test.YthnapjodmndlaaaOnlzALIKEGPF
import Derived.Test.YthnapjodmndlaaaOnlzDGFIJDJD
import Derived.Deep.DeepCutAuto
import Derived.Test.YthnapjodmndlaaaOnlzGHNLPHFH
import Derived.RegionTactic
import Derived.BigRegion
set_option linter.unusedVariables false
set_option linter.unusedSimpArgs false
namespace Go.Proofs.Ythnapjodmndlaaa
/-- a goal is n steps away from i -/
def toG (next:Nat->List Nat) (goal:Nat->Prop):Nat->Nat->Prop
 | 0,i=>goal i
 | n+1,i=>∃ k ∈ next i,toG next goal n k
def IsDist (next:Nat->List Nat) (goal:Nat->Prop) (i:Nat) (d:Int):Prop :=
 (d=-1/\∀ n,¬ toG next goal n i) ∨ (0<=d/\toG next goal d.toNat i/\∀ m:Nat,m < d.toNat->¬ toG next goal m i)
theorem IsDist.uniq {next:Nat->List Nat} {goal:Nat->Prop} {i:Nat} {d e:Int} (h:IsDist next goal i d) (k:IsDist next goal i e):d=e:=by
 rcases h with ⟨rfl,h⟩ | ⟨h0,h1,h2⟩
 · rcases k with ⟨rfl,_⟩ | ⟨_,k1,_⟩
   · rfl
   · exact absurd k1 (h _)
 · rcases k with ⟨rfl,k⟩ | ⟨k0,k1,k2⟩
   · exact absurd h1 (k _)
   · rcases Nat.lt_trichotomy d.toNat e.toNat with hlt | heq | hgt
     · exact absurd h1 (k2 _ hlt)
     · omega
     · exact absurd k1 (h2 _ hgt)
section
variable {prev next:Nat->List Nat} {goal:Nat->Prop} {N:Nat} {D:List Int} {q:List Nat}
structure BO (prev next:Nat->List Nat) (goal:Nat->Prop) (N:Nat) (D:List Int) (q:List Nat):Prop where
 len:D.length=N
 sound:∀ i,i < N->0<=D.getD i 0->toG next goal (D.getD i 0).toNat i
 src:∀ i,i < N->goal i->D.getD i 0=0
 done:∀ k,k < N->0<=D.getD k 0->k ∉ q->∀ i ∈ prev k,0<=D.getD i 0/\D.getD i 0<=D.getD k 0+1
 top:∀ h r,q=h :: r->∀ i,i < N->D.getD i 0<=D.getD h 0+1
 sorted:q.Pairwise (fun a b=>D.getD a 0<=D.getD b 0)
 qN:∀ x ∈ q,x < N/\0<=D.getD x 0
 low:∀ i,i < N->-1<=D.getD i 0
structure BI (prev next:Nat->List Nat) (goal:Nat->Prop) (N:Nat) (D:List Int) (q:List Nat) (h:Nat) (l:List Nat):Prop where
 len:D.length=N
 hN:h < N
 hD:0<=D.getD h 0
 sound:∀ i,i < N->0<=D.getD i 0->toG next goal (D.getD i 0).toNat i
 src:∀ i,i < N->goal i->D.getD i 0=0
 done:∀ k,k < N->0<=D.getD k 0->k ∉ q->k ≠ h->∀ i ∈ prev k,0<=D.getD i 0/\D.getD i 0<=D.getD k 0+1
 here:∀ i ∈ prev h,i ∈ l ∨ (0<=D.getD i 0/\D.getD i 0<=D.getD h 0+1)
 top:∀ i,i < N->D.getD i 0<=D.getD h 0+1
 qs:∀ x ∈ q,D.getD h 0<=D.getD x 0
 sorted:q.Pairwise (fun a b=>D.getD a 0<=D.getD b 0)
 qN:∀ x ∈ q,x < N/\0<=D.getD x 0
 low:∀ i,i < N->-1<=D.getD i 0
theorem BO.enter {h:Nat} (b:BO prev next goal N D (h :: q)):BI prev next goal N D q h (prev h) :=
 ⟨b.len,(b.qN h (by simp)).1,(b.qN h (by simp)).2,b.sound,b.src,fun k hk h0 hq hh=>b.done k hk h0 (by simp [hq,hh]),fun i hi=>.inl hi,b.top h q rfl,
  fun x hx=>(List.pairwise_cons.1 b.sorted).1 x hx,(List.pairwise_cons.1 b.sorted).2,fun x hx=>b.qN x (List.mem_cons_of_mem _ hx),b.low⟩
theorem BI.leave {h:Nat} (b:BI prev next goal N D q h []):BO prev next goal N D q:=by
 refine ⟨b.len,b.sound,b.src,fun k hk h0 hq=>?_,fun x r hx i hi=>?_,b.sorted,b.qN,b.low⟩
 · by_cases hkh:k=h
   · subst hkh
     intro i hi
     rcases b.here i hi with h | h
     · simp at h
     · exact h
   · exact b.done k hk h0 hq hkh
 · have h1:=b.top i hi
   have h2:=b.qs x (by rw [hx];simp)
   omega
theorem BI.old {h k:Nat} {l:List Nat} (b:BI prev next goal N D q h (k :: l)) (hk:k < N) (h0:¬ D.getD k 0 < 0):BI prev next goal N D q h l:=by
 refine ⟨b.len,b.hN,b.hD,b.sound,b.src,b.done,fun i hi=>?_,b.top,b.qs,b.sorted,b.qN,b.low⟩
 rcases b.here i hi with h1 | h1
 · rcases List.mem_cons.1 h1 with rfl | h1
   · exact .inr ⟨by omega,b.top _ hk⟩
   · exact .inl h1
 · exact .inr h1
theorem BI.new {h k:Nat} {l:List Nat} (hpn:∀ i k,i < N->k < N->i ∈ prev k->k ∈ next i) (hpN:∀ i k,k < N->i ∈ prev k->i < N) (b:BI prev next goal N D q h (k :: l)) (hkp:k ∈ prev h) (h0:D.getD k 0 < 0) :
 BI prev next goal N (D.set k (D.getD h 0+1)) (q ++ [k]) h l:=by
 have hk:k < N:=hpN k h b.hN hkp
 have hkl:k < D.length:=by rw [b.len];exact hk
 have hD:=b.hD
 have hkh:k ≠ h:=by intro e;subst e;omega
 have hh:(D.set k (D.getD h 0+1)).getD h 0=D.getD h 0:=by rw [getD_set' hkl,if_neg (Ne.symm hkh)]
 have hset:∀ x,x ≠ k->(D.set k (D.getD h 0+1)).getD x 0=D.getD x 0:=fun x hx=>by rw [getD_set' hkl,if_neg hx]
 have hsk:(D.set k (D.getD h 0+1)).getD k 0=D.getD h 0+1:=by rw [getD_set' hkl,if_pos rfl]
 have hkq:∀ x ∈ q,x ≠ k:=fun x hx e=>by subst e;have:=(b.qN x hx).2;omega
 refine ⟨by rw [List.length_set];exact b.len,b.hN,by rw [hh];exact hD,fun i hi h1=>?_,fun i hi hg=>?_,fun x hx h1 hxq hxh i hi=>?_,fun i hi=>?_,fun i hi=>?_,fun x hx=>?_,?_,fun x hx=>?_,fun i hi=>?_⟩
 · by_cases e:i=k
   · subst e
     rw [hsk]
     have h2:=b.sound h b.hN hD
     rw [show (D.getD h 0+1).toNat=(D.getD h 0).toNat+1 by omega]
     exact ⟨h,hpn i h hi b.hN hkp,h2⟩
   · rw [hset i e] at h1 ⊢
     exact b.sound i hi h1
 · have e:i ≠ k:=by
    intro e;subst e
    have:=b.src i hi hg
    omega
   rw [hset i e]
   exact b.src i hi hg
 · have e:x ≠ k:=by intro e;subst e;simp at hxq
   rw [hset x e] at h1 ⊢
   have h2:=b.done x hx h1 (fun h=>hxq (by simp [h])) hxh i hi
   have e2:i ≠ k:=by intro e2;subst e2;omega
   rw [hset i e2]
   exact h2
 · rw [hh]
   by_cases e:i=k
   · subst e
     refine .inr ?_
     rw [hsk]
     omega
   · rw [hset i e]
     rcases b.here i hi with h1 | h1
     · rcases List.mem_cons.1 h1 with h1 | h1
       · exact absurd h1 e
       · exact .inl h1
     · exact .inr h1
 · rw [hh]
   by_cases e:i=k
   · subst e;rw [hsk];omega
   · rw [hset i e];exact b.top i hi
 · rw [hh]
   rcases List.mem_append.1 hx with hx | hx
   · rw [hset x (hkq x hx)];exact b.qs x hx
   · have:x=k:=by simpa using hx
     subst this
     rw [hsk];omega
 · rw [List.pairwise_append]
   refine ⟨?_,by simp,fun x hx y hy=>?_⟩
   · refine List.Pairwise.imp_of_mem (fun {x y} hx hy hxy=>?_) b.sorted
     rw [hset x (hkq x hx),hset y (hkq y hy)]
     exact hxy
   · have:y=k:=by simpa using hy
     subst this
     rw [hset x (hkq x hx),hsk]
     exact b.top x (b.qN x hx).1
 · rcases List.mem_append.1 hx with hx | hx
   · rw [hset x (hkq x hx)];exact b.qN x hx
   · have:x=k:=by simpa using hx
     subst this
     rw [hsk]
     exact ⟨hk,by omega⟩
 · by_cases e:i=k
   · subst e;rw [hsk];omega
   · rw [hset i e];exact b.low i hi
theorem BI.all (hpn:∀ i k,i < N->k < N->i ∈ prev k->k ∈ next i) (hpN:∀ i k,k < N->i ∈ prev k->i < N) {h:Nat}:∀ (l:List Nat) (D:List Int) (q:List Nat) (d:Int),d=D.getD h 0+1->BI prev next goal N D q h l->(∀ k ∈ l,k ∈ prev h) ->
 BO prev next goal N (relax d l D q).1 (relax d l D q).2/\(relax d l D q).2.length+negs (relax d l D q).1=q.length+negs D
 | [],_,_,_,_,b,_=>⟨b.leave,rfl⟩
 | k :: l,D,q,d,hd,b,hl=>by
   have hk:k < N:=hpN k h b.hN (hl k (by simp))
   rw [relax]
   by_cases h0:D.getD k 0 < 0
   · rw [if_pos h0]
     have hkl:k < D.length:=by rw [b.len];exact hk
     have hkh:k ≠ h:=by intro e;subst e;have:=b.hD;omega
     have h1:=BI.new hpn hpN b (hl k (by simp)) h0
     rw [<- hd] at h1
     have:=BI.all hpn hpN l (D.set k d) (q ++ [k]) d (by rw [getD_set' hkl,if_neg (Ne.symm hkh)];exact hd) h1 (fun x hx=>hl x (List.mem_cons_of_mem _ hx))
     refine ⟨this.1,this.2.trans ?_⟩
     have h3:=negs_set hkl h0 (d:=d) (by have:=b.hD;omega)
     rw [List.length_append,List.length_singleton]
     omega
   · rw [if_neg h0]
     exact BI.all hpn hpN l D q d hd (b.old hk h0) (fun x hx=>hl x (List.mem_cons_of_mem _ hx))
theorem BO.fin (hnN:∀ i k,i < N->k ∈ next i->k < N) (hnp:∀ i k,i < N->k < N->k ∈ next i->i ∈ prev k) (b:BO prev next goal N D []):∀ i,i < N->IsDist next goal i (D.getD i 0):=by
 have hall:∀ (n i:Nat),i < N->toG next goal n i->0<=D.getD i 0/\D.getD i 0<=n:=by
  intro n
  induction n with
  | zero =>
    intro i hi h
    rw [b.src i hi h]
    omega
  | succ n ih =>
    rintro i hi ⟨k,hk,h⟩
    have hkN:=hnN i k hi hk
    have h1:=ih k hkN h
    have h2:=b.done k hkN h1.1 (by simp) i (hnp i k hi hkN hk)
    omega
 intro i hi
 by_cases h0:0<=D.getD i 0
 · exact .inr ⟨h0,b.sound i hi h0,fun m hm h=>by have:=hall m i hi h;omega⟩
 · refine .inl ⟨by have:=b.low i hi;omega,fun n h=>h0 (hall n i hi h).1⟩
/-- after the sweeps up to d: the distances up to d are known -/
def SwO (next:Nat->List Nat) (goal:Nat->Prop) (N:Nat) (D:List Int) (d:Nat):Prop :=
 D.length=N/\∀ i,i < N->(D.getD i 0=-1/\∀ m,m<=d->¬ toG next goal m i) ∨ (0<=D.getD i 0/\D.getD i 0<=d/\IsDist next goal i (D.getD i 0))
/-- within the sweep for d + 1: the vertices below j are done -/
def SwI (next:Nat->List Nat) (goal:Nat->Prop) (N:Nat) (D:List Int) (d j:Nat) (ch:Bool):Prop :=
 D.length=N/\(∀ i,i < N->(D.getD i 0=-1/\(∀ m,m<=d->¬ toG next goal m i)/\(i < j->¬ toG next goal (d+1) i)) ∨ (0<=D.getD i 0/\D.getD i 0<=(d:Int)+1/\IsDist next goal i (D.getD i 0))) /\
  (ch=false->∀ i,i < N->D.getD i 0<=d)
theorem SwO.enter {d:Nat} (h:SwO next goal N D d):SwI next goal N D d 0 false:=by
 refine ⟨h.1,fun i hi=>?_,fun _ i hi=>?_⟩
 · rcases h.2 i hi with h1 | h1
   · exact .inl ⟨h1.1,h1.2,fun h=>by omega⟩
   · exact .inr ⟨h1.1,by omega,h1.2.2⟩
 · rcases h.2 i hi with h1 | h1 <;> omega
theorem SwI.leave {d:Nat} {ch:Bool} (h:SwI next goal N D d N ch):SwO next goal N D (d+1):=by
 refine ⟨h.1,fun i hi=>?_⟩
 rcases h.2.1 i hi with h1 | h1
 · refine .inl ⟨h1.1,fun m hm=>?_⟩
   by_cases e:m=d+1
   · subst e;exact h1.2.2 hi
   · exact h1.2.1 m (by omega)
 · exact .inr ⟨h1.1,by omega,h1.2.2⟩
theorem SwI.stop (hnN:∀ i k,i < N->k ∈ next i->k < N) {d:Nat} (h:SwI next goal N D d N false):∀ i,i < N->IsDist next goal i (D.getD i 0):=by
 have hno:∀ i,i < N->toG next goal (d+1) i->∃ m,m<=d/\toG next goal m i:=by
  intro i hi ht
  rcases h.2.1 i hi with h1 | h1
  · exact absurd ht (h1.2.2 hi)
  · have h2:=h.2.2 rfl i hi
    rcases h1.2.2 with h3 | h3
    · omega
    · exact ⟨_,by omega,h3.2.1⟩
 have hall:∀ (n i:Nat),i < N->toG next goal n i->∃ m,m<=d/\toG next goal m i:=by
  intro n
  induction n with
  | zero=>intro i _ h;exact ⟨0,Nat.zero_le _,h⟩
  | succ n ih =>
    rintro i hi ⟨k,hk,ht⟩
    obtain ⟨m,hm,h2⟩:=ih k (hnN i k hi hk) ht
    by_cases e:m=d
    · subst e
      exact hno i hi ⟨k,hk,h2⟩
    · exact ⟨m+1,by omega,k,hk,h2⟩
 intro i hi
 rcases h.2.1 i hi with h1 | h1
 · refine .inl ⟨h1.1,fun n hn=>?_⟩
   obtain ⟨m,hm,h2⟩:=hall n i hi hn
   exact h1.2.1 m hm h2
 · exact h1.2.2
/-- vertex j is known already, or none of its next ones is at distance d -/
theorem SwI.skip {d j:Nat} {ch:Bool} (h:SwI next goal N D d j ch) (hs:¬ D.getD j 0 < 0 ∨ ∀ k ∈ next j,D.getD k 0 ≠ d) (hnN:∀ i k,i < N->k ∈ next i->k < N):SwI next goal N D d (j+1) ch:=by
 refine ⟨h.1,fun i hi=>?_,h.2.2⟩
 rcases h.2.1 i hi with h1 | h1
 · refine .inl ⟨h1.1,h1.2.1,fun hij=>?_⟩
   by_cases e:i=j
   · subst e
     rcases hs with hs | hs
     · omega
     · rintro ⟨k,hk,ht⟩
       have hkN:=hnN i k hi hk
       rcases h.2.1 k hkN with h2 | h2
       · exact h2.2.1 d (Nat.le_refl _) ht
       · rcases h2.2.2 with h3 | h3
         · omega
         · have h4:¬ d < (D.getD k 0).toNat:=fun hlt=>h3.2.2 d hlt ht
           have h5:=hs k hk
           refine h1.2.1 ((D.getD k 0).toNat+1) (by omega) ⟨k,hk,h3.2.1⟩
   · exact h1.2.2 (by omega)
 · exact .inr h1
theorem SwI.put {d j k:Nat} {ch:Bool} (h:SwI next goal N D d j ch) (hj:j < N) (h0:D.getD j 0 < 0) (hk:k ∈ next j) (hkd:D.getD k 0=d) (hnN:∀ i k,i < N->k ∈ next i->k < N):SwI next goal N (D.set j ((d:Int)+1)) d (j+1) true:=by
 have hjl:j < D.length:=by rw [h.1];exact hj
 have hkN:=hnN j k hj hk
 refine ⟨by rw [List.length_set];exact h.1,fun i hi=>?_,fun h=>by cases h⟩
 by_cases e:i=j
 · subst e
   rw [getD_set' hjl,if_pos rfl]
   rcases h.2.1 i hi with h1 | h1
   · refine .inr ⟨by omega,by omega,.inr ⟨by omega,?_,fun m hm=>h1.2.1 m (by omega)⟩⟩
     rcases h.2.1 k hkN with h2 | h2
     · omega
     · rcases h2.2.2 with h3 | h3
       · omega
       · have h4:=h3.2.1
         rw [hkd] at h4
         rw [show ((d:Int)+1).toNat=d+1 by omega]
         exact ⟨k,hk,by simpa using h4⟩
   · omega
 · rw [getD_set' hjl,if_neg e]
   rcases h.2.1 i hi with h1 | h1
   · exact .inl ⟨h1.1,h1.2.1,fun hij=>h1.2.2 (by omega)⟩
   · exact .inr h1
end
def rlxB (F:List Int) (e:Nat × Nat):Bool:=decide (0 < F.getD e.2 0+1) && (decide (F.getD e.1 0 < 0) || decide (F.getD e.2 0+1 < F.getD e.1 0))
def rlx (F:List Int) (e:Nat × Nat):List Int:=if rlxB F e=true then F.set e.1 (F.getD e.2 0+1) else F
def nextE (es:List (Nat × Nat)) (i:Nat):List Nat:=(es.filter fun e=>e.1==i).map (·.2)
theorem mem_nextE {es:List (Nat × Nat)} {i k:Nat}:k ∈ nextE es i ↔ (i,k) ∈ es:=by
 rw [nextE,List.mem_map]
 constructor
 · rintro ⟨⟨a,b⟩,h,rfl⟩
   rw [List.mem_filter,beq_iff_eq] at h
   obtain ⟨h1,rfl⟩:=h
   exact h1
 · intro h
   exact ⟨(i,k),List.mem_filter.2 ⟨h,by simp⟩,rfl⟩
def nonneg (F:List Int):Nat:=(F.filter fun x=>decide (0<=x)).length
/-- every number is an exact number of steps to a goal, goals have 0, and no number reaches the count of those that have one -/
structure FarI (es:List (Nat × Nat)) (goal:Nat->Prop) (N:Nat) (F:List Int):Prop where
 len:F.length=N
 low:∀ i,i < N->-1<=F.getD i 0
 way:∀ i,i < N->0<=F.getD i 0->toG (nextE es) goal (F.getD i 0).toNat i
 zero:∀ i,i < N->goal i->F.getD i 0=0
 top:∀ i,i < N->F.getD i 0 < (nonneg F:Int)
theorem getD_set {F:List Int} {i j:Nat} {v:Int} (hi:i < F.length):(F.set i v).getD j 0=if i=j then v else F.getD j 0:=by
 rw [List.getD_eq_getElem?_getD,List.getElem?_set]
 by_cases h:i=j
 · subst h
   rw [if_pos rfl,if_pos rfl,if_pos hi]
   rfl
 · rw [if_neg h,if_neg h,List.getD_eq_getElem?_getD]
theorem nonneg_set {v:Int} (hv:0<=v):∀ {F:List Int} {i:Nat},i < F.length->nonneg (F.set i v)=nonneg F+(if F.getD i 0 < 0 then 1 else 0)
 | x :: F,0,_=>by
   simp only [nonneg,List.set_cons_zero,List.filter_cons,List.getD_cons_zero]
   by_cases hx:0<=x
   · rw [if_pos (by simpa using hv),if_pos (by simpa using hx),if_neg (by omega)]
     simp
   · rw [if_pos (by simpa using hv),if_neg (by simpa using hx),if_pos (by omega)]
     simp
 | x :: F,i+1,h=>by
   have ih:=nonneg_set hv (F:=F) (i:=i) (by simpa using h)
   simp only [nonneg] at ih
   simp only [nonneg,List.set_cons_succ,List.filter_cons,List.getD_cons_succ]
   split
   · rw [List.length_cons,List.length_cons,ih];omega
   · exact ih
theorem nonneg_le (F:List Int):nonneg F<=F.length:=List.length_filter_le _ _
theorem FarI.relax {es:List (Nat × Nat)} {goal:Nat->Prop} {N:Nat} {F:List Int} (h:FarI es goal N F) {e:Nat × Nat} (he:e ∈ es) (h1:e.1 < N) (h2:e.2 < N):FarI es goal N (rlx F e):=by
 rw [rlx]
 split
 · rename_i hb
   simp only [rlxB,Bool.and_eq_true,Bool.or_eq_true,decide_eq_true_eq] at hb
   obtain ⟨hb1,hb2⟩:=hb
   have hl1:e.1 < F.length:=by rw [h.len];exact h1
   have h0:0<=F.getD e.2 0:=by omega
   have hns:=nonneg_set (v:=F.getD e.2 0+1) (by omega) hl1
   have ht:=h.top e.2 h2
   have ht1:=h.top e.1 h1
   refine ⟨by rw [List.length_set];exact h.len,fun i hi=>?_,fun i hi hn=>?_,fun i hi hg=>?_,fun i hi=>?_⟩
   · rw [getD_set hl1]
     have:=h.low i hi
     split <;> omega
   · rw [getD_set hl1] at hn ⊢
     split
     · rename_i hie
       subst hie
       rw [show (F.getD e.2 0+1).toNat=(F.getD e.2 0).toNat+1 by omega]
       exact ⟨e.2,mem_nextE.2 he,h.way e.2 h2 h0⟩
     · rename_i hie
       rw [if_neg hie] at hn
       exact h.way i hi hn
   · rw [getD_set hl1]
     have hz:=h.zero i hi hg
     split
     · rename_i hie
       subst hie
       omega
     · exact hz
   · rw [getD_set hl1,hns]
     have:=h.top i hi
     split
     · split <;> omega
     · split <;> omega
 · exact h
/-- what falls with each change -/
def farW (N:Nat) (F:List Int):Nat:=(F.map fun x=>if x < 0 then N else x.toNat).sum
theorem sum_set {f:Int->Nat} {v:Int}:∀ {F:List Int} {i:Nat},i < F.length->((F.set i v).map f).sum+f (F.getD i 0)=(F.map f).sum+f v
 | x :: F,0,_=>by simp;omega
 | x :: F,i+1,h=>by
   have ih:=sum_set (f:=f) (v:=v) (F:=F) (i:=i) (by simpa using h)
   simp only [List.set_cons_succ,List.map_cons,List.sum_cons,List.getD_cons_succ]
   omega
theorem FarI.falls {es:List (Nat × Nat)} {goal:Nat->Prop} {N:Nat} {F:List Int} (h:FarI es goal N F) {e:Nat × Nat} (h1:e.1 < N) (h2:e.2 < N) (hb:rlxB F e=true):farW N (rlx F e) < farW N F:=by
 rw [rlx,if_pos hb]
 simp only [rlxB,Bool.and_eq_true,Bool.or_eq_true,decide_eq_true_eq] at hb
 obtain ⟨hb1,hb2⟩:=hb
 have hl1:e.1 < F.length:=by rw [h.len];exact h1
 have hs:=sum_set (f:=fun x=>if x < 0 then N else x.toNat) (v:=F.getD e.2 0+1) hl1
 have ht:=h.top e.2 h2
 have hN:=nonneg_le F
 have ht1:=h.top e.1 h1
 rw [h.len] at hN
 have hlt:nonneg F < N ∨ ¬ F.getD e.1 0 < 0:=by
  by_cases hn:F.getD e.1 0 < 0
  · refine .inl ?_
    have:=nonneg_set (v:=0) (by omega) hl1
    rw [if_pos hn] at this
    have h3:=nonneg_le (F.set e.1 0)
    rw [List.length_set,h.len] at h3
    omega
  · exact .inr hn
 unfold farW
 generalize ((F.set e.1 (F.getD e.2 0+1)).map fun x=>if x < 0 then N else x.toNat).sum=a at *
 generalize (F.map fun x=>if x < 0 then N else x.toNat).sum=b at *
 have e1:(if F.getD e.2 0+1 < 0 then N else (F.getD e.2 0+1).toNat)=(F.getD e.2 0+1).toNat:=if_neg (by omega)
 rw [e1] at hs
 split at hs <;> omega
/-- nothing changes any more: the numbers are the distances -/
theorem FarI.stop {es:List (Nat × Nat)} {goal:Nat->Prop} {N:Nat} {F:List Int} (h:FarI es goal N F) (hr:∀ e ∈ es,e.1 < N/\e.2 < N) (hs:∀ e ∈ es,rlxB F e=false):∀ i,i < N->IsDist (nextE es) goal i (F.getD i 0):=by
 have key:∀ (n i:Nat),i < N->toG (nextE es) goal n i->0<=F.getD i 0/\F.getD i 0<=(n:Int):=by
  intro n
  induction n with
  | zero =>
    intro i hi hg
    have:=h.zero i hi hg
    omega
  | succ n ih =>
    rintro i hi ⟨k,hk,hg⟩
    have he:=mem_nextE.1 hk
    have hk2:=(hr _ he).2
    have h1:=ih k hk2 hg
    have h2:=hs _ he
    rw [<- Bool.not_eq_true] at h2
    simp only [rlxB,Bool.and_eq_true,Bool.or_eq_true,decide_eq_true_eq] at h2
    have h3:=h.low i hi
    omega
 intro i hi
 have hl:=h.low i hi
 by_cases h0:0<=F.getD i 0
 · exact .inr ⟨h0,h.way i hi h0,fun m hm hg=>by have:=key m i hi hg;omega⟩
 · exact .inl ⟨by omega,fun n hg=>h0 (key n i hi hg).1⟩
/-- one pass -/
theorem FarI.pass {es:List (Nat × Nat)} {goal:Nat->Prop} {N:Nat} (hr:∀ e ∈ es,e.1 < N/\e.2 < N):∀ (l:List (Nat × Nat)) (F:List Int),(∀ e ∈ l,e ∈ es)->FarI es goal N F->FarI es goal N (l.foldl rlx F)/\farW N (l.foldl rlx F)<=farW N F
 | [],F,_,h=>⟨h,Nat.le_refl _⟩
 | e :: l,F,hl,h=>by
   have he:=hl e List.mem_cons_self
   have hee:=hr e he
   have h1:=FarI.pass hr l (rlx F e) (fun x hx=>hl x (List.mem_cons_of_mem _ hx)) (h.relax he hee.1 hee.2)
   refine ⟨h1.1,Nat.le_trans h1.2 ?_⟩
   cases hb:rlxB F e with
   | true=>exact Nat.le_of_lt (h.falls hee.1 hee.2 hb)
   | false=>rw [rlx,hb];exact Nat.le_refl _
section
variable {τ:Type} (M:Nat) (nx:Nat->τ->List τ) (D:τ->Int)
/-- letter k leads from S to a vertex of number n -/
def leadsT (S:List τ) (n:Nat) (k:Nat):Bool:=S.any fun t=>(nx k t).any fun x=>decide (D x=(n:Int))
def letT (S:List τ) (n:Nat):Option Nat:=(List.range M).find? (leadsT nx D S n)
def nowT (S:List τ) (n k:Nat):List τ:=S.flatMap fun t=>(nx k t).filter fun x=>decide (D x=(n:Int))
def wordT:Nat->List τ->List Nat
 | 0,_=>[]
 | n+1,S=>match letT M nx D S n with
   | none=>[]
   | some k=>k :: wordT n (nowT nx D S n k)
variable {M nx D}
theorem leadsT_iff {S:List τ} {n k:Nat}:leadsT nx D S n k=true ↔ ∃ t ∈ S,∃ x ∈ nx k t,D x=(n:Int):=by
 simp [leadsT,List.any_eq_true]
theorem mem_nowT {S:List τ} {n k:Nat} {x:τ}:x ∈ nowT nx D S n k ↔ (∃ t ∈ S,x ∈ nx k t)/\D x=(n:Int):=by
 simp only [nowT,List.mem_flatMap,List.mem_filter,decide_eq_true_eq]
 constructor
 · rintro ⟨t,ht,h1,h2⟩;exact ⟨⟨t,ht,h1⟩,h2⟩
 · rintro ⟨⟨t,ht,h1⟩,h2⟩;exact ⟨t,ht,h1,h2⟩
/-- only what lies in the set counts, not its order -/
theorem leadsT_congr {S S':List τ} (h:∀ t,t ∈ S ↔ t ∈ S') (n k:Nat):leadsT nx D S n k=leadsT nx D S' n k:=by
 rw [Bool.eq_iff_iff,leadsT_iff,leadsT_iff]
 constructor <;> rintro ⟨t,ht,r⟩
 · exact ⟨t,(h t).1 ht,r⟩
 · exact ⟨t,(h t).2 ht,r⟩
theorem letT_congr {S S':List τ} (h:∀ t,t ∈ S ↔ t ∈ S') (n:Nat):letT M nx D S n=letT M nx D S' n:=by
 rw [letT,letT,show leadsT nx D S n=leadsT nx D S' n from funext fun k=>leadsT_congr h n k]
theorem wordT_congr:∀ {n:Nat} {S S':List τ},(∀ t,t ∈ S ↔ t ∈ S')->wordT M nx D n S=wordT M nx D n S'
 | 0,_,_,_=>rfl
 | n+1,S,S',h=>by
   rw [wordT,wordT,letT_congr h]
   cases letT M nx D S' n with
   | none=>rfl
   | some k =>
     simp only
     rw [wordT_congr (S:=nowT nx D S n k) (S':=nowT nx D S' n k)]
     intro x
     rw [mem_nowT,mem_nowT]
     constructor <;> rintro ⟨⟨t,ht,r⟩,r2⟩
     · exact ⟨⟨t,(h t).1 ht,r⟩,r2⟩
     · exact ⟨⟨t,(h t).2 ht,r⟩,r2⟩
/-- from a vertex of number n + 1 a letter leads to number n -/
theorem letT_some {S:List τ} {n:Nat} (hk:∃ t ∈ S,∃ k,k < M/\∃ x ∈ nx k t,D x=(n:Int)):∃ k,letT M nx D S n=some k/\k < M/\leadsT nx D S n k=true/\∀ j,j < k->leadsT nx D S n j=false:=by
 obtain ⟨t,ht,k0,hk0,x,hx,hd⟩:=hk
 have h0:leadsT nx D S n k0=true:=leadsT_iff.2 ⟨t,ht,x,hx,hd⟩
 cases hf:letT M nx D S n with
 | none =>
   have h1:=List.find?_eq_none.1 hf k0 (List.mem_range.2 hk0)
   exact absurd h0 h1
 | some k =>
   have h1:=List.find?_eq_some_iff_getElem.1 hf
   obtain ⟨h2,i,hi,h3,h4⟩:=h1
   rw [List.getElem_range] at h3
   subst h3
   rw [List.length_range] at hi
   refine ⟨i,rfl,hi,h2,fun j hj=>?_⟩
   have:=h4 j hj
   rw [List.getElem_range] at this
   simpa using this
theorem wordT_step {S:List τ} {n k:Nat} (hM:k < M) (h:leadsT nx D S n k=true) (h2:∀ j,j < k->leadsT nx D S n j=false):wordT M nx D (n+1) S=k :: wordT M nx D n (nowT nx D S n k):=by
 obtain ⟨t,ht,x,hx,hd⟩:=leadsT_iff.1 h
 obtain ⟨k',e,-,h3,h4⟩:=letT_some (M:=M) ⟨t,ht,k,hM,x,hx,hd⟩
 have:k'=k:=by
  rcases Nat.lt_trichotomy k' k with h5 | h5 | h5
  · rw [h2 k' h5] at h3;cases h3
  · exact h5
  · rw [h4 k h5] at h;cases h
 subst this
 rw [wordT,e]
theorem nowT_ne {S:List τ} {n k:Nat} (h:leadsT nx D S n k=true):∃ x,x ∈ nowT nx D S n k:=by
 obtain ⟨t,ht,x,hx,hd⟩:=leadsT_iff.1 h
 exact ⟨x,mem_nowT.2 ⟨⟨t,ht,hx⟩,hd⟩⟩
end
structure Pz where
 lets:List Int
 first:Int
 last:Int
 fol:List Int
 nul:Bool
def setP (n:Nat) (s:Int):Bool:=decide (0<=s) && decide (s<=2 ^ n - 1)
def pzOk (p:Pz):Bool:=decide (p.lets.length<=20) && (decide (p.fol.length=p.lets.length) && ((p.lets.all fun k=>decide (0<=k) && decide (k<=8)) && (p.fol.all (setP p.lets.length) && (setP p.lets.length p.first && setP p.lets.length p.last))))
/-- the positions that follow a set -/
def folP (p:Pz) (s:Nat) (i:Nat):Nat:=(List.range i).foldl (fun m j=>if s.testBit (j+1)=true then m ||| (p.fol.getD j 0).toNat else m) (if s.testBit 0=true then p.first.toNat else 0)
def aftI (p:Pz) (m:Nat) (k:Int) (i:Nat):Nat:=(List.range i).foldl (fun o j=>if (m.testBit j && decide (p.lets.getD j 0=k))=true then ins o (j+1) else o) 0
def aftP (p:Pz) (s:Nat) (k:Int):Nat:=aftI p (folP p s p.lets.length) k p.lets.length
def accP (p:Pz) (s:Nat):Bool:=(s.testBit 0 && p.nul) || decide (s >>> 1 &&& p.last.toNat ≠ 0)
theorem aftI_bit (p:Pz) (m:Nat) (k:Int) (t:Nat):∀ i,(aftI p m k i).testBit t=true ↔ ∃ j,j < i/\t=j+1/\m.testBit j=true/\p.lets.getD j 0=k:=by
 intro i
 induction i with
 | zero=>simp [aftI]
 | succ i ih =>
   have e:aftI p m k (i+1)=if (m.testBit i && decide (p.lets.getD i 0=k))=true then ins (aftI p m k i) (i+1) else aftI p m k i:=by
    rw [aftI,List.range_succ,List.foldl_append];rfl
   rw [e]
   split
   · rename_i h
     rw [Bool.and_eq_true,decide_eq_true_eq] at h
     rw [ins_test,Bool.or_eq_true,ih,decide_eq_true_eq]
     constructor
     · rintro (⟨j,h1,h2⟩ | rfl)
       · exact ⟨j,by omega,h2⟩
       · exact ⟨i,by omega,rfl,h⟩
     · rintro ⟨j,h1,h2,h3⟩
       by_cases hj:j=i
       · subst hj;exact .inr h2.symm
       · exact .inl ⟨j,by omega,h2,h3⟩
   · rename_i h
     rw [Bool.and_eq_true,decide_eq_true_eq] at h
     rw [ih]
     constructor
     · rintro ⟨j,h1,h2⟩;exact ⟨j,by omega,h2⟩
     · rintro ⟨j,h1,h2,h3⟩
       by_cases hj:j=i
       · subst hj;exact absurd h3 h
       · exact ⟨j,by omega,h2,h3⟩
theorem aftP_bit {p:Pz} {s t:Nat} {k:Int} (h:(aftP p s k).testBit t=true):1<=t/\t<=p.lets.length:=by
 obtain ⟨j,h1,rfl,-⟩:=(aftI_bit p _ k t _).1 h
 omega
/-- two states and whether the runs differ -/
abbrev Twn:=Nat × Nat × Bool
def twnX (p:Pz) (k:Nat) (t:Twn):List Twn:=(mem 21 (aftP p (bit t.1) (k:Int))).flatMap fun i=>(mem 21 (aftP p (bit t.2.1) (k:Int))).map fun j=>(i,j,t.2.2 || decide (i ≠ j))
def twnG (p:Pz) (t:Twn):Bool:=t.2.2 && (accP p (bit t.1) && accP p (bit t.2.1))
def slotT (t:Twn):Nat:=2 * (t.1 * 21+t.2.1)+(if t.2.2=true then 1 else 0)
theorem slotT_inj {t u:Twn} (h1:t.2.1<=20) (h2:u.2.1<=20) (h:slotT t=slotT u):t=u:=by
 obtain ⟨a,b,c⟩:=t
 obtain ⟨a',b',c'⟩:=u
 simp only [slotT] at h h1 h2
 cases c <;> cases c' <;> simp only [Bool.false_eq_true,if_false,if_true] at h <;> first | omega | (have e1:a=a':=(by omega);have e2:b=b':=(by omega);rw [e1,e2])
/-- behind a letter no state is the first one -/
theorem twnX_in {p:Pz} {k:Nat} {t x:Twn} (h:x ∈ twnX p k t) (hp:p.lets.length<=20):(1<=x.1/\x.1<=20)/\(1<=x.2.1/\x.2.1<=20)/\x.2.2=(t.2.2 || decide (x.1 ≠ x.2.1)):=by
 rw [twnX,List.mem_flatMap] at h
 obtain ⟨i,hi,h⟩:=h
 obtain ⟨j,hj,rfl⟩:=List.mem_map.1 h
 have h1:=aftP_bit (mem_mem.1 hi).2
 have h2:=aftP_bit (mem_mem.1 hj).2
 exact ⟨⟨h1.1,by simp only;omega⟩,⟨h2.1,by simp only;omega⟩,rfl⟩
end Go.Proofs.Ythnapjodmndlaaa
namespace Go.Proofs.Ythnapjodmndlaaa
open Go.ChangeShapes Go.WideShapes Go.ChangeAt Go.RowKit
attribute [local go_sem] ext_cell ext_frozen ext_lt ext_lt1 ext_lt2 ext_lt3 ltn2 ltn3 ltn13 lts1 lts2 lts3
def PzV (lo hi:Nat) (w:World) (v:Value) (p:Pz):Prop:=∃ vl vf,v=.agg #[vl,.int .i64 p.first,.int .i64 p.last,vf,.bool p.nul]/\SlI lo hi w cI 1 vl p.lets/\SlI lo hi w cI 1 vf p.fol
theorem PzV.keep {w w':World} {v:Value} {p:Pz} (h:PzV 0 w.heap.size w v p) (hb:Below w.heap.size w w'):PzV 0 w'.heap.size w' v p:=by
 obtain ⟨vl,vf,rfl,h1,h2⟩:=h
 exact ⟨vl,vf,rfl,SlE.keep h1 hb,SlE.keep h2 hb⟩
theorem pz_facts {p:Pz} (h:pzOk p=true):p.lets.length<=20/\p.fol.length=p.lets.length/\(∀ k ∈ p.lets,0<=k/\k<=8)/\(∀ s ∈ p.fol,setP p.lets.length s=true)/\setP p.lets.length p.first=true/\setP p.lets.length p.last=true:=by
 simp only [pzOk,Bool.and_eq_true,decide_eq_true_eq,List.all_eq_true] at h
 exact ⟨h.1,h.2.1,h.2.2.1,h.2.2.2.1,h.2.2.2.2.1,h.2.2.2.2.2⟩
theorem setP_lt {n:Nat} {s:Int} (hn:n<=20) (h:setP n s=true):0<=s/\s.toNat < 2 ^ 20:=by
 simp only [setP,Bool.and_eq_true,decide_eq_true_eq] at h
 have h2:(2:Int) ^ n<=2 ^ 20:=by
  have:=Nat.pow_le_pow_right (n:=2) (by decide) hn
  exact_mod_cast this
 omega
theorem folP_zero (p:Pz) (s:Nat):folP p s 0=if s.testBit 0=true then p.first.toNat else 0:=rfl
theorem folP_succ (p:Pz) (s i:Nat):folP p s (i+1)=if s.testBit (i+1)=true then folP p s i ||| (p.fol.getD i 0).toNat else folP p s i:=by
 rw [folP,List.range_succ,List.foldl_append]
 rfl
theorem aftI_zero (p:Pz) (m:Nat) (k:Int):aftI p m k 0=0:=rfl
theorem aftI_succ (p:Pz) (m:Nat) (k:Int) (i:Nat):aftI p m k (i+1)=if (m.testBit i && decide (p.lets.getD i 0=k))=true then ins (aftI p m k i) (i+1) else aftI p m k i:=by
 rw [aftI,List.range_succ,List.foldl_append]
 rfl
theorem folP_lt {p:Pz} (h:pzOk p=true) (s:Nat):∀ i,folP p s i < 2 ^ 20
 | 0=>by
   rw [folP_zero]
   split
   · exact (setP_lt (pz_facts h).1 (pz_facts h).2.2.2.2.1).2
   · decide
 | i+1=>by
   rw [folP_succ]
   split
   · refine Nat.or_lt_two_pow (folP_lt h s i) ?_
     by_cases hi:i < p.fol.length
     · have hm:p.fol[i] ∈ p.fol:=List.getElem_mem hi
       have:=setP_lt (pz_facts h).1 ((pz_facts h).2.2.2.1 _ hm)
       rw [List.getD_eq_getElem?_getD,List.getElem?_eq_getElem hi]
       exact this.2
     · rw [List.getD_eq_getElem?_getD,List.getElem?_eq_none (by omega)]
       decide
   · exact folP_lt h s i
theorem aftI_lt (p:Pz) (m:Nat) (k:Int):∀ i,i<=20->aftI p m k i < 2 ^ 21
 | 0,_=>by rw [aftI_zero];decide
 | i+1,hi=>by
   rw [aftI_succ]
   split
   · exact Nat.or_lt_two_pow (aftI_lt p m k i (by omega)) (Nat.pow_lt_pow_right (by decide) (by omega))
   · exact aftI_lt p m k i (by omega)
theorem and_one {s:Nat} (hs:s < 2 ^ 62):bits .and .i64 (s:Int) 1=if s.testBit 0=true then 1 else 0:=by
 have:=and_bit (m:=s) (s:=0) hs (by omega)
 simpa using this
set_option maxHeartbeats 4000000 in
theorem specAfter (v:Value) (p:Pz) (s:Nat) (k:Int) (w:World) (hv:PzV 0 w.heap.size w v p) (hok:pzOk p=true) (hs:s < 2 ^ 21) :
 Calls Try.prog 42 #[v,.int .i64 (s:Int),.int .i64 k] w fun e w'=>e=.returned (.int .i64 ((aftP p s k:Nat):Int))/\Below w.heap.size w w':=by
 obtain ⟨R,hR⟩:∃ R,R=aftP p s k:=⟨_,rfl⟩
 rw [<- hR]
 have HR:=Hd_ hR
 clear hR
 obtain ⟨vl,vf,rfl,⟨A,c,rfl,hl,hm,hC⟩,⟨B,d,rfl,hl2,hm2,hC2⟩⟩:=hv
 have hpf:=pz_facts hok
 have HOK:=Hd_ hok
 have HFL:=Hd_ (folP_lt hok s)
 have HF0:=Hd_ (setP_lt hpf.1 hpf.2.2.2.2.1)
 have HFO:=Hd_ (fun x hx=>setP_lt hpf.1 (hpf.2.2.2.1 x hx))
 have HLF:=Hd_ hpf.2.1
 have h20:=hpf.1
 unfold maxLen at hm hm2
 obtain ⟨N,hN⟩:∃ N,N=p.lets.length:=⟨_,rfl⟩
 rw [hpf.2.1] at hl2
 rw [<- hN] at h20 hl hl2 ⊢
 have HN:=Hd_ hN
 obtain ⟨W0,hW0⟩:∃ W0,W0=w.alloc (.cells #[.slice A N c,.int .i64 p.first,.int .i64 p.last,.slice B p.fol.length d,.bool p.nul] 27):=⟨_,rfl⟩
 have hbk:Blk W0 w.heap.size 27 #[.slice A N c,.int .i64 p.first,.int .i64 p.last,.slice B p.fol.length d,.bool p.nul]:=by rw [hW0];exact Blk.new w _ _ _ rfl
 have hb0:Below w.heap.size w W0:=by rw [hW0];exact (Below.refl _ _).alloc (Nat.le_refl _) _
 have hsz:W0.heap.size=w.heap.size+1:=by rw [hW0];simp
 have HC:=Hd_ (show ∀ (i:Nat) x,p.lets[i]?=some x->∃ b o,A=some ⟨b,o,none⟩/\b < w.heap.size/\W0.cell? ⟨b,o+i,none⟩=some (.int .i64 x) from fun i x hx=>by
  obtain ⟨b,o,hA,-,hb,hc⟩:=hC i x hx
  refine ⟨b,o,hA,hb,kcell hb0 ?_⟩
  simpa using hc 0 _ rfl)
 have HC2:=Hd_ (show ∀ (i:Nat) x,p.fol[i]?=some x->∃ b o,B=some ⟨b,o,none⟩/\b < w.heap.size/\W0.cell? ⟨b,o+i,none⟩=some (.int .i64 x) from fun i x hx=>by
  obtain ⟨b,o,hA,-,hb,hc⟩:=hC2 i x hx
  refine ⟨b,o,hA,hb,kcell hb0 ?_⟩
  simpa using hc 0 _ rfl)
 have HB0:=Hd_ hb0
 clear hpf hok hC hC2 hN hb0
 go_enter Try.func42,Try.ntmps42
 clear hl hl2 hm hm2
 have x0:W0.cell? ⟨w.heap.size,0,none⟩=some (.slice A N c):=by exact hbk.cell 0
 have x1:W0.cell? ⟨w.heap.size,1,none⟩=some (.int .i64 p.first):=by exact hbk.cell 1
 have x3:W0.cell? ⟨w.heap.size,3,none⟩=some (.slice B p.fol.length d):=by exact hbk.cell 3
 clear hbk
 have HA1:=Hd_ (and_one (s:=s) (by omega))
 go_upto_region 1 with fail
 rw [<- hW0]
 clear hW0
 go_upto_if 13 with fail
 go_cut [7] (fun mm wx=>mm=.int .i64 ((folP p s 0:Nat):Int)/\wx=W0)
 case first =>
  have HF:=Hd_ (folP_zero p s)
  cases hb:s.testBit 0 with
  | true =>
    rw [hb,if_pos rfl] at HA1 HF
    have hc:(bits .and .i64 (s:Int) 1==1)=true:=by rw [HA1.out];rfl
    have HE:=Hd_ (show (p.first)=((folP p s 0:Nat):Int) by rw [HF.out];have:=HF0.out.1;omega)
    clear hb
    go_wp2_with fail
    go_meet
    exact ⟨by rw [<- HE.out],rfl⟩
  | false =>
    rw [hb,if_neg (by simp)] at HA1 HF
    have hc:(bits .and .i64 (s:Int) 1==1)=false:=by rw [HA1.out];rfl
    clear hb
    go_wp2_with fail
    go_meet
    exact ⟨by rw [HF.out];rfl,rfl⟩
 case rest =>
  obtain ⟨rfl,rfl⟩:=hcut
  clear HA1 HF0
  go_wp2_with fail
  go_loopw [7,8] (fun mm ii wr=>∃ i:Nat,i<=N/\ii=.int .i64 (i:Int)/\mm=.int .i64 ((folP p s i:Nat):Int)/\wr=wc) (fun _ ii _=>N - (intOf ii).toNat)
  case atStart=>exact ⟨0,Nat.zero_le _,rfl,rfl,rfl⟩
  case round =>
   obtain ⟨i,hi,rfl,rfl,rfl⟩:=hrel
   by_cases hlt:i < N
   · have hxi:p.fol[i]?=some (p.fol[i]'(by rw [HLF.out,<- HN.out];exact hlt)):=List.getElem?_eq_getElem _
     have HX:=Hd_ (HFO.out _ (List.mem_of_getElem? hxi))
     have HGD:=Hd_ (show p.fol.getD i 0=_ by rw [List.getD_eq_getElem?_getD,hxi])
     generalize p.fol[i]'(by rw [HLF.out,<- HN.out];exact hlt)=x at hxi HX HGD
     obtain ⟨b1,o1,rfl,hb1,d0⟩:=HC2.out i x hxi
     obtain ⟨y,rfl⟩:∃ y:Nat,x=(y:Int):=⟨x.toNat,by have:=HX.out.1;omega⟩
     have HFS:=Hd_ (folP_succ p s i)
     have hii:(i:Int) < (N:Int):=by omega
     have hi2:(i:Int) < (p.fol.length:Int):=by rw [HLF.out,<- HN.out];omega
     clear hxi
     cases hb:s.testBit (i+1) with
     | false =>
       rw [hb,if_neg (by simp)] at HFS
       have hc:(bits .and .i64 ((s:Int) / 2 ^ (i+1)) 1==1)=false:=by rw [bit_off (by omega) (by omega) hb];rfl
       clear hb
       go_wp2_with fail
       go_roundw
       case rel=>exact ⟨i+1,by omega,by go_num,by rw [HFS.out],trivial⟩
       case measure=>simp [intOf];omega
     | true =>
       rw [hb,if_pos rfl,HGD.out] at HFS
       have hc:(bits .and .i64 ((s:Int) / 2 ^ (i+1)) 1==1)=true:=by rw [bit_on (by omega) (by omega) hb];rfl
       have hor:bits .or .i64 ((folP p s i:Nat):Int) (y:Int)=((folP p s (i+1):Nat):Int):=by
        have h1:=HFL.out i
        have h2:=HX.out.2
        rw [HFS.out]
        exact i64_or_nat _ _ (by omega) (by simp at h2;omega)
       clear hb
       go_wp2_with fail
       go_roundw
       case rel=>exact ⟨i+1,by omega,by go_num,rfl,trivial⟩
       case measure=>simp [intOf];omega
   · obtain rfl:i=N:=by omega
     obtain ⟨wo,rfl⟩:∃ wo:World,wo=wr:=⟨_,rfl⟩
     obtain ⟨M,hM⟩:∃ M,M=folP p s i:=⟨_,rfl⟩
     have hml:M < 2 ^ 20:=by rw [hM];exact HFL.out i
     rw [<- hM]
     have HMM:=Hd_ hM
     clear hM hlt hi HFL
     go_wp2_with fail
     go_loopw [9,10] (fun oo ii wr=>∃ j:Nat,j<=i/\ii=.int .i64 (j:Int)/\oo=.int .i64 ((aftI p M k j:Nat):Int)/\wr=wo) (fun _ ii _=>i - (intOf ii).toNat)
     case atStart=>exact ⟨0,Nat.zero_le _,rfl,rfl,rfl⟩
     case round =>
      obtain ⟨j,hj,rfl,rfl,rfl⟩:=hrel
      by_cases hlj:j < i
      · have hxj:p.lets[j]?=some (p.lets[j]'(by rw [<- HN.out];exact hlj)):=List.getElem?_eq_getElem _
        have HGD:=Hd_ (show p.lets.getD j 0=_ by rw [List.getD_eq_getElem?_getD,hxj])
        generalize p.lets[j]'(by rw [<- HN.out];exact hlj)=x at hxj HGD
        obtain ⟨b1,o1,rfl,hb1,d0⟩:=HC.out j x hxj
        have HAS:=Hd_ (aftI_succ p M k j)
        have hal:=aftI_lt p M k j (by omega)
        have hii:(j:Int) < (i:Int):=by omega
        simp only [Option.getD_some] at HGD
        rw [HGD.out] at HAS
        clear hxj HGD
        cases hb:M.testBit j with
        | false =>
          rw [hb,Bool.false_and,if_neg (by simp)] at HAS
          have hc:(bits .and .i64 ((M:Int) / 2 ^ j) 1==1)=false:=by rw [bit_off (by omega) (by omega) hb];rfl
          clear hb
          go_wp2_with fail
          go_roundw
          case rel=>exact ⟨j+1,by omega,by go_num,by rw [HAS.out],trivial⟩
          case measure=>simp [intOf];omega
        | true =>
          have hc:(bits .and .i64 ((M:Int) / 2 ^ j) 1==1)=true:=by rw [bit_on (by omega) (by omega) hb];rfl
          rw [hb,Bool.true_and] at HAS
          clear hb
          by_cases hk:x=k
          · rw [if_pos (decide_eq_true hk)] at HAS
            have hkb:(x==k)=true:=by simpa using hk
            have hkd:decide (x=k)=true:=by simpa using hk
            have hsh:=shl_bit2 (s:=j+1) (by omega)
            have hsh3:=shl_bit3 (s:=j+1) (by omega)
            have hor:=or_ins (m:=aftI p M k j) (s:=j+1) (by omega) (by omega)
            rw [<- HAS.out] at hor
            clear hk
            go_wp2_with fail
            go_roundw
            case rel=>exact ⟨j+1,by omega,by go_num,rfl,trivial⟩
            case measure=>simp [intOf];omega
          · rw [if_neg (by simpa using hk)] at HAS
            have hkb:(x==k)=false:=by simpa using hk
            have hkd:decide (x=k)=false:=by simpa using hk
            clear hk
            go_wp2_with fail
            go_roundw
            case rel=>exact ⟨j+1,by omega,by go_num,by rw [HAS.out],trivial⟩
            case measure=>simp [intOf];omega
      · obtain rfl:j=i:=by omega
        go_wp2_with fail
        go_ret
        exact ⟨by rw [HR.out,aftP,<- HN.out,<- HMM.out];rfl,HB0.out⟩
theorem elPsI:ElemOk Try.prog 22 3 (.int .i64 0) 1 8:=⟨Try.underlying22,by kernel_rfl,rfl,by omega⟩
/-- positions that were drawn lie in the block q; the result's block r -/
structure PqR (b r q:Nat) (w0 w:World) (ls fs:Value) (fi la:Int) (nu:Bool) (L F:List Int):Prop where
 res:Blk w r 27 #[.slice none 0 0,.int .i64 0,.int .i64 0,.slice none 0 0,.bool false]
 blk:Blk w q 27 #[ls,.int .i64 fi,.int .i64 la,fs,.bool nu]
 lets:w.ownsRow (r+1) 3 1 ls L.length (L.flatMap cI)
 fol:w.ownsRow (r+1) 3 1 fs F.length (F.flatMap cI)
 apart:∀ g,ls.ownBlock=some g->fs.ownBlock ≠ some g
 farq:ls.ownBlock ≠ some q/\fs.ownBlock ≠ some q
 cur:Cur w b
 frm:Only b (b+1) w0 w
 at0:w0.heap.size=r
 ord:b < r/\r < q
section
variable {b r q:Nat} {w0 w w':World} {ls fs:Value} {fi la:Int} {nu:Bool} {L F:List Int}
theorem PqR.step (a:PqR b r q w0 w ls fs fi la nu L F) (ho:Only b (b+1) w w') (hc:Cur w' b):PqR b r q w0 w' ls fs fi la nu L F:=by
 have hd:=a.ord
 exact ⟨a.res.only ho (.inr (by omega)),a.blk.only ho (.inr (by omega)),own_only a.lets ho (by omega),own_only a.fol ho (by omega),a.apart,a.farq,hc,a.frm.trans ho,a.at0,hd⟩
theorem PqR.below (a:PqR b r q w0 w ls fs fi la nu L F) (hb:Below w.heap.size w w'):PqR b r q w0 w' ls fs fi la nu L F:=a.step (Only.of_below hb _ _) (a.cur.keep hb)
/-- a cell of the block q is set -/
theorem PqR.set (a:PqR b r q w0 w ls fs fi la nu L F) (i:Nat) (u:Value):Blk (w.setCell ⟨q,i,none⟩ u) r 27 #[.slice none 0 0,.int .i64 0,.int .i64 0,.slice none 0 0,.bool false]/\(w.setCell ⟨q,i,none⟩ u).ownsRow (r+1) 3 1 ls L.length (L.flatMap cI)/\(w.setCell ⟨q,i,none⟩ u).ownsRow (r+1) 3 1 fs F.length (F.flatMap cI)/\Cur (w.setCell ⟨q,i,none⟩ u) b/\Only b (b+1) w0 (w.setCell ⟨q,i,none⟩ u):=by
 have hd:=a.ord
 have h0:=a.at0
 exact ⟨a.res.far (by simp only;omega) u,ownsRow_block a.lets fun g hg=>Below.heap_setCell w ⟨q,i,none⟩ _ g (fun e=>a.farq.1 (by rw [hg,e])),ownsRow_block a.fol fun g hg=>Below.heap_setCell w ⟨q,i,none⟩ _ g (fun e=>a.farq.2 (by rw [hg,e])),a.cur.set (by simp only;omega) u,a.frm.setCell (.inr (by simp only;omega)) u⟩
theorem PqR.setFi (a:PqR b r q w0 w ls fs fi la nu L F) (x:Int):PqR b r q w0 (w.setCell ⟨q,1,none⟩ (.int .i64 x)) ls fs x la nu L F:=by
 obtain ⟨h1,h2,h3,h4,h5⟩:=a.set 1 (.int .i64 x)
 exact ⟨h1,by simpa using a.blk.set_ 1 (.int .i64 x),h2,h3,a.apart,a.farq,h4,h5,a.at0,a.ord⟩
theorem PqR.setNu (a:PqR b r q w0 w ls fs fi la nu L F) (x:Bool):PqR b r q w0 (w.setCell ⟨q,4,none⟩ (.bool x)) ls fs fi la x L F:=by
 obtain ⟨h1,h2,h3,h4,h5⟩:=a.set 4 (.bool x)
 exact ⟨h1,by simpa using a.blk.set_ 4 (.bool x),h2,h3,a.apart,a.farq,h4,h5,a.at0,a.ord⟩
theorem PqR.push (a:PqR b r q w0 w ls fs fi la nu L F) {o:Obj} {v':Value} {L':List Int} (hrow:w'.ownsRow (r+1) 3 1 v' L'.length (L'.flatMap cI)) (hg:(w.alloc o).grownBy w' ls.ownBlock) (hat:v'.ownBlock=ls.ownBlock ∨ ∃ g,v'.ownBlock=some g/\w.heap.size<=g) :
 Blk w' q 27 #[ls,.int .i64 fi,.int .i64 la,fs,.bool nu]/\PqR b r q w0 (w'.setCell ⟨q,0,none⟩ v') v' fs fi la nu L' F:=by
 have hd:=a.ord
 have h0:=a.at0
 have hb:=a.below ((Below.refl _ _).alloc (Nat.le_refl _) o)
 have hql:=a.blk.lt
 have hql':=hb.blk.lt
 have hbel:Below (r+1) (w.alloc o) w':=(Below.refl _ _).grown hg (by omega) (fun g e=>(a.lets.lt g e).1)
 have hbq:Blk w' q 27 #[ls,.int .i64 fi,.int .i64 la,fs,.bool nu]:=(hg.block q hql' (fun e=>a.farq.1 e.symm)).trans hb.blk
 have hvq:v'.ownBlock ≠ some q:=by
  rcases hat with e | ⟨g,e,hge⟩
  · rw [e];exact a.farq.1
  · rw [e];intro e2;injection e2 with e2;omega
 have hfol:w'.ownsRow (r+1) 3 1 fs F.length (F.flatMap cI):=ownsRow_block hb.fol fun g e=>hg.block g (hb.fol.lt g e).2 (fun e2=>a.apart g e2.symm e)
 refine ⟨hbq,((hb.res.below hbel (by omega))).far (by simp only;omega) _,?_,ownsRow_block hrow fun g e=>Below.heap_setCell w' ⟨q,0,none⟩ _ g (fun e2=>hvq (by rw [e,e2])),ownsRow_block hfol fun g e=>Below.heap_setCell w' ⟨q,0,none⟩ _ g (fun e2=>a.farq.2 (by rw [e,e2])),?_,⟨hvq,a.farq.2⟩,(hb.cur.below hbel (by omega)).set (by simp only;omega) _,(hb.frm.andBelow hbel (by omega)).setCell (.inr (by simp only;omega)) _,a.at0,a.ord⟩
 · simpa using hbq.set_ 0 v'
 · intro g e1 e2
   rcases hat with e | ⟨g2,e,hge⟩
   · exact a.apart g (by rw [<- e];exact e1) e2
   · have h3:=(a.fol.lt g e2).2
     rw [e] at e1
     injection e1 with e1
     omega
theorem PqR.done (a:PqR b r q w0 w ls fs fi la nu L F) (c0 c1 c2 c3 c4:Value):PzV w0.heap.size (put5P w r c0 c1 c2 c3 c4).heap.size (put5P w r c0 c1 c2 c3 c4) (.agg #[ls,.int .i64 fi,.int .i64 la,fs,.bool nu]) ⟨L,fi,la,F,nu⟩/\Cur (put5P w r c0 c1 c2 c3 c4) b/\Only b (b+1) w0 (put5P w r c0 c1 c2 c3 c4):=by
 have hd:=a.ord
 have h0:=a.at0
 have hp:=put5P_only w r c0 c1 c2 c3 c4
 exact ⟨⟨_,_,rfl,((Own.of_row (xs:=L) (own_only a.lets hp (by omega)) rfl rfl).sl cI_len).mono (by omega) (Nat.le_refl _),((Own.of_row (xs:=F) (own_only a.fol hp (by omega)) rfl rfl).sl cI_len).mono (by omega) (Nat.le_refl _)⟩,a.cur.only hp (by omega),a.frm.andBelow (hp.below (Nat.le_refl r) (by have:=a.res.lt;omega)) (by omega)⟩
end
def PsOut (b:Nat) (w:World) (e:Ending) (w':World):Prop:=∃ v q,e=.returned v/\(PzV w.heap.size w'.heap.size w' v q/\Cur w' b/\Only b (b+1) w w')
set_option maxHeartbeats 8000000 in
theorem l10Pos_any (b:Nat) (w:World) (hc:Cur w b) :
 Calls Try.prog 31 #[.pointer (some ⟨b,0,none⟩)] w (PsOut b w):=by
 have hbw:=hc.lt
 have hb0:=(Below.refl w.heap.size w).alloc (Nat.le_refl _) (.cells #[.slice none 0 0,.int .i64 0,.int .i64 0,.slice none 0 0,.bool false] 27)
 have hbr:=Blk.new w 27 #[.slice none 0 0,.int .i64 0,.int .i64 0,.slice none 0 0,.bool false] _ rfl
 have hs0:(w.alloc (.cells #[.slice none 0 0,.int .i64 0,.int .i64 0,.slice none 0 0,.bool false] 27)).heap.size=w.heap.size+1:=by simp
 go_enter Try.func31,Try.ntmps31
 go_wp2_with fail
 generalize w.alloc (.cells #[.slice none 0 0,.int .i64 0,.int .i64 0,.slice none 0 0,.bool false] 27)=W0 at *
 refine (l8Expr_any b _ (hc.keep hb0)).mono ?_
 rintro e w1 ⟨v1,l1,rfl,htk,-,hc1,ho1⟩
 have hz1:=ho1.size
 go_wp2_with fail
 refine (buildPositions_own _ l1 _ (htk.mono (Nat.zero_le _) (Nat.le_refl _))).mono ?_
 rintro e w2 ⟨v2,is,L0,F0,rfl,-,hb2,ls,fs,fi,la,nu,L,F,rfl,hls,hfs,hap,hmx⟩
 obtain ⟨A1,n1,c1,rfl⟩:=rowShape hls
 obtain ⟨A2,n2,c2,rfl⟩:=rowShape hfs
 obtain ⟨q,hq⟩:∃ q,q=w2.heap.size:=⟨_,rfl⟩
 have hz2:=hb2.size
 have hal:=(Below.refl w2.heap.size w2).alloc (Nat.le_refl _) (.cells #[.slice A1 n1 c1,.int .i64 fi,.int .i64 la,.slice A2 n2 c2,.bool nu] 27)
 have HP0:=Hd_ (show PqR b w.heap.size q w (w2.alloc (.cells #[.slice A1 n1 c1,.int .i64 fi,.int .i64 la,.slice A2 n2 c2,.bool nu] 27)) (.slice A1 n1 c1) (.slice A2 n2 c2) fi la nu L F from
  ⟨((hbr.only ho1 (.inr (by omega))).keep hb2).keep hal,Blk.new w2 _ _ _ hq,ownsRow_mono (ownsRow_below hls hal (Nat.le_refl _)) (by omega),ownsRow_mono (ownsRow_below hfs hal (Nat.le_refl _)) (by omega),hap,⟨fun e=>by have:=(hls.lt _ e).2;omega,fun e=>by have:=(hfs.lt _ e).2;omega⟩,(hc1.keep hb2).keep hal,(((Only.of_below hb0 b (b+1)).trans ho1).trans (Only.of_below hb2 b (b+1))).trans (Only.of_below hal b (b+1)),rfl,⟨hbw,by omega⟩⟩)
 have hqr:w.heap.size < q:=by omega
 have HMX:=Hd_ hmx
 clear hbr hb0 hs0 ho1 hc1 htk hb2 hls hfs hap hal hz1 hz2 hc hmx
 go_upto_region 2 with fail
 rw [<- hq]
 generalize w2.alloc (.cells #[.slice A1 n1 c1,.int .i64 fi,.int .i64 la,.slice A2 n2 c2,.bool nu] 27)=W1 at *
 clear hq
 go_wp2_with fail
 refine (l1Below_any b 14 _ HP0.out.cur).mono ?_
 rintro e w3 ⟨t,rfl,-,hc3,ho3⟩
 have HP:=Hd_ (HP0.out.step ho3 hc3)
 clear HP0 ho3 hc3
 have hlq:=HP.out.blk.lt
 by_cases ht0:t=0
 · subst ht0
   have HSL:=Hd_ (litD_sl w3 3 #[.int .i64 (-1),.int .i64 1,.int .i64 1048576] [-1,1,1048576] 3 (b+1) (by omega) (by decide) rfl rfl rfl)
   have HAL:=Hd_ ((Below.refl w3.heap.size w3).alloc (Nat.le_refl _) (.cells #[.int .i64 (-1),.int .i64 1,.int .i64 1048576] 3))
   go_wp2_with fail
   refine (l1PickInt_any b _ _ _ (HP.out.cur.keep HAL.out) (by decide) HSL.out).mono ?_
   rintro e w4 ⟨u,rfl,-,hc4,ho4⟩
   have HP4:=Hd_ ((HP.out.below HAL.out).step ho4 hc4)
   clear hc4 ho4 HSL HAL HP
   have x0:w4.cell? ⟨q,1,none⟩=some (.int .i64 fi):=HP4.out.blk.cell 1
   have f0:=HP4.out.blk.frozen 1
   have hlq4:=HP4.out.blk.lt
   go_upto_region 9 with fail
   have HP5:=Hd_ (HP4.out.setFi u)
   generalize w4.setCell ⟨q,1,none⟩ (.int .i64 u)=w5 at *
   clear x0 f0 hlq4 HP4 hlq
   have x0:w5.cell? ⟨q,0,none⟩=some (.slice A1 n1 c1):=HP5.out.blk.cell 0
   have x1:w5.cell? ⟨q,1,none⟩=some (.int .i64 (u)):=HP5.out.blk.cell 1
   have x2:w5.cell? ⟨q,2,none⟩=some (.int .i64 la):=HP5.out.blk.cell 2
   have x3:w5.cell? ⟨q,3,none⟩=some (.slice A2 n2 c2):=HP5.out.blk.cell 3
   have x4:w5.cell? ⟨q,4,none⟩=some (.bool (nu)):=HP5.out.blk.cell 4
   have z0:w5.cell? ⟨w.heap.size,0,none⟩=some (.slice none 0 0):=HP5.out.res.cell 0
   have z1:w5.cell? ⟨w.heap.size,1,none⟩=some (.int .i64 0):=HP5.out.res.cell 1
   have z2:w5.cell? ⟨w.heap.size,2,none⟩=some (.int .i64 0):=HP5.out.res.cell 2
   have z3:w5.cell? ⟨w.heap.size,3,none⟩=some (.slice none 0 0):=HP5.out.res.cell 3
   have z4:w5.cell? ⟨w.heap.size,4,none⟩=some (.bool false):=HP5.out.res.cell 4
   have v0:=HP5.out.res.frozen 0
   have v1:=HP5.out.res.frozen 1
   have v2:=HP5.out.res.frozen 2
   have v3:=HP5.out.res.frozen 3
   have v4:=HP5.out.res.frozen 4
   have hlr:=HP5.out.res.lt
   have q1:¬ q=w.heap.size:=by omega
   have q2:¬ w.heap.size=q:=by omega
   go_wp2_with fail
   exact bodyPost_ret (v:=.agg #[.slice A1 n1 c1,.int .i64 (u),.int .i64 la,.slice A2 n2 c2,.bool (nu)]) (by simp [results,Try.results31,go_sem,z0,z1,z2,z3,z4,v0,v1,v2,v3,v4,hlr]) rfl ⟨_,_,rfl,HP5.out.done _ _ _ _ _⟩
 have hd0:(t==0)=false:=by simpa using ht0
 by_cases ht1:t=1
 · subst ht1
   have x0:w3.cell? ⟨q,0,none⟩=some (.slice A1 n1 c1):=HP.out.blk.cell 0
   have qb1:(L.length+1) * 8<=140737488355328:=by have:=HMX.out;omega
   have qb2:w.heap.size+1<=w3.heap.size:=by omega
   go_upto_region 9 with (at_builtin;(refine wpList_append1 cI elPsI rfl _ _ rfl (w.heap.size+1) _ L 0 _ 1 _ (by rfl) HP.out.lets (by rfl) rfl rfl rfl (cI_one _) qb1 (by decide) qb2 ?_);intro v' w4 hrow4 hb4 hat4 hgr4;obtain ⟨A5,n5,c5,rfl⟩:=rowShape hrow4;have HPU:=Hd_ (HP.out.push hrow4 hgr4 hat4);have y0:w4.cell? ⟨q,0,none⟩=some (.slice A1 n1 c1):=HPU.out.1.cell 0;have f0:=HPU.out.1.frozen 0;have hl4:=HPU.out.1.lt;clear hrow4 hb4 hat4 hgr4)
   have HP5:=Hd_ HPU.out.2
   generalize w4.setCell ⟨q,0,none⟩ (.slice A5 n5 c5)=w5 at *
   clear x0 y0 f0 hl4 HPU hlq HP
   have x0:w5.cell? ⟨q,0,none⟩=some (.slice A5 n5 c5):=HP5.out.blk.cell 0
   have x1:w5.cell? ⟨q,1,none⟩=some (.int .i64 (fi)):=HP5.out.blk.cell 1
   have x2:w5.cell? ⟨q,2,none⟩=some (.int .i64 la):=HP5.out.blk.cell 2
   have x3:w5.cell? ⟨q,3,none⟩=some (.slice A2 n2 c2):=HP5.out.blk.cell 3
   have x4:w5.cell? ⟨q,4,none⟩=some (.bool (nu)):=HP5.out.blk.cell 4
   have z0:w5.cell? ⟨w.heap.size,0,none⟩=some (.slice none 0 0):=HP5.out.res.cell 0
   have z1:w5.cell? ⟨w.heap.size,1,none⟩=some (.int .i64 0):=HP5.out.res.cell 1
   have z2:w5.cell? ⟨w.heap.size,2,none⟩=some (.int .i64 0):=HP5.out.res.cell 2
   have z3:w5.cell? ⟨w.heap.size,3,none⟩=some (.slice none 0 0):=HP5.out.res.cell 3
   have z4:w5.cell? ⟨w.heap.size,4,none⟩=some (.bool false):=HP5.out.res.cell 4
   have v0:=HP5.out.res.frozen 0
   have v1:=HP5.out.res.frozen 1
   have v2:=HP5.out.res.frozen 2
   have v3:=HP5.out.res.frozen 3
   have v4:=HP5.out.res.frozen 4
   have hlr:=HP5.out.res.lt
   have q1:¬ q=w.heap.size:=by omega
   have q2:¬ w.heap.size=q:=by omega
   go_wp2_with fail
   exact bodyPost_ret (v:=.agg #[.slice A5 n5 c5,.int .i64 (fi),.int .i64 la,.slice A2 n2 c2,.bool (nu)]) (by simp [results,Try.results31,go_sem,z0,z1,z2,z3,z4,v0,v1,v2,v3,v4,hlr]) rfl ⟨_,_,rfl,HP5.out.done _ _ _ _ _⟩
 have hd1:(t==1)=false:=by simpa using ht1
 by_cases ht2:t=2
 · subst ht2
   have x0:w3.cell? ⟨q,4,none⟩=some (.bool nu):=HP.out.blk.cell 4
   have f0:=HP.out.blk.frozen 4
   go_upto_region 9 with fail
   have HP5:=Hd_ (HP.out.setNu (!nu))
   generalize w3.setCell ⟨q,4,none⟩ (.bool (!nu))=w5 at *
   clear x0 f0 hlq HP
   have x0:w5.cell? ⟨q,0,none⟩=some (.slice A1 n1 c1):=HP5.out.blk.cell 0
   have x1:w5.cell? ⟨q,1,none⟩=some (.int .i64 (fi)):=HP5.out.blk.cell 1
   have x2:w5.cell? ⟨q,2,none⟩=some (.int .i64 la):=HP5.out.blk.cell 2
   have x3:w5.cell? ⟨q,3,none⟩=some (.slice A2 n2 c2):=HP5.out.blk.cell 3
   have x4:w5.cell? ⟨q,4,none⟩=some (.bool (!nu)):=HP5.out.blk.cell 4
   have z0:w5.cell? ⟨w.heap.size,0,none⟩=some (.slice none 0 0):=HP5.out.res.cell 0
   have z1:w5.cell? ⟨w.heap.size,1,none⟩=some (.int .i64 0):=HP5.out.res.cell 1
   have z2:w5.cell? ⟨w.heap.size,2,none⟩=some (.int .i64 0):=HP5.out.res.cell 2
   have z3:w5.cell? ⟨w.heap.size,3,none⟩=some (.slice none 0 0):=HP5.out.res.cell 3
   have z4:w5.cell? ⟨w.heap.size,4,none⟩=some (.bool false):=HP5.out.res.cell 4
   have v0:=HP5.out.res.frozen 0
   have v1:=HP5.out.res.frozen 1
   have v2:=HP5.out.res.frozen 2
   have v3:=HP5.out.res.frozen 3
   have v4:=HP5.out.res.frozen 4
   have hlr:=HP5.out.res.lt
   have q1:¬ q=w.heap.size:=by omega
   have q2:¬ w.heap.size=q:=by omega
   go_wp2_with fail
   exact bodyPost_ret (v:=.agg #[.slice A1 n1 c1,.int .i64 (fi),.int .i64 la,.slice A2 n2 c2,.bool (!nu)]) (by simp [results,Try.results31,go_sem,z0,z1,z2,z3,z4,v0,v1,v2,v3,v4,hlr]) rfl ⟨_,_,rfl,HP5.out.done _ _ _ _ _⟩
 have hd2:(t==2)=false:=by simpa using ht2
 clear hlq
 go_upto_region 9 with fail
 have x0:w3.cell? ⟨q,0,none⟩=some (.slice A1 n1 c1):=HP.out.blk.cell 0
 have x1:w3.cell? ⟨q,1,none⟩=some (.int .i64 (fi)):=HP.out.blk.cell 1
 have x2:w3.cell? ⟨q,2,none⟩=some (.int .i64 la):=HP.out.blk.cell 2
 have x3:w3.cell? ⟨q,3,none⟩=some (.slice A2 n2 c2):=HP.out.blk.cell 3
 have x4:w3.cell? ⟨q,4,none⟩=some (.bool (nu)):=HP.out.blk.cell 4
 have z0:w3.cell? ⟨w.heap.size,0,none⟩=some (.slice none 0 0):=HP.out.res.cell 0
 have z1:w3.cell? ⟨w.heap.size,1,none⟩=some (.int .i64 0):=HP.out.res.cell 1
 have z2:w3.cell? ⟨w.heap.size,2,none⟩=some (.int .i64 0):=HP.out.res.cell 2
 have z3:w3.cell? ⟨w.heap.size,3,none⟩=some (.slice none 0 0):=HP.out.res.cell 3
 have z4:w3.cell? ⟨w.heap.size,4,none⟩=some (.bool false):=HP.out.res.cell 4
 have v0:=HP.out.res.frozen 0
 have v1:=HP.out.res.frozen 1
 have v2:=HP.out.res.frozen 2
 have v3:=HP.out.res.frozen 3
 have v4:=HP.out.res.frozen 4
 have hlr:=HP.out.res.lt
 have q1:¬ q=w.heap.size:=by omega
 have q2:¬ w.heap.size=q:=by omega
 go_wp2_with fail
 exact bodyPost_ret (v:=.agg #[.slice A1 n1 c1,.int .i64 (fi),.int .i64 la,.slice A2 n2 c2,.bool (nu)]) (by simp [results,Try.results31,go_sem,z0,z1,z2,z3,z4,v0,v1,v2,v3,v4,hlr]) rfl ⟨_,_,rfl,HP.out.done _ _ _ _ _⟩
def DrP (w:World) (e:Ending) (w':World):Prop:=∃ v q,e=.returned v/\(PzV 0 w'.heap.size w' v q/\Below w.heap.size w w')
set_option maxHeartbeats 4000000 in
theorem drawAmbiguousWord_any (v:Value) (bs:List Int) (w:World) (hv:SlI 0 w.heap.size w cU 1 v bs) :
 Calls Try.prog 18 #[v] w (DrP w):=by
 have HV:=Hd_ hv
 have hb0:=(Below.refl w.heap.size w).alloc (Nat.le_refl _) (.cells #[.slice none 0 0,.int .i64 0,.int .i64 0,.slice none 0 0,.bool false] 27)
 have hbr:=Blk.new w 27 #[.slice none 0 0,.int .i64 0,.int .i64 0,.slice none 0 0,.bool false] _ rfl
 have hs0:(w.alloc (.cells #[.slice none 0 0,.int .i64 0,.int .i64 0,.slice none 0 0,.bool false] 27)).heap.size=w.heap.size+1:=by simp
 obtain ⟨A,n,c,rfl⟩:=hv.shape
 clear hv
 go_enter Try.func18,Try.ntmps18
 go_wp2_with fail
 refine (l1New_any _ bs _ ((HV.out.below hb0 (Nat.le_refl _)).mono (Nat.le_refl _) hb0.size)).mono ?_
 rintro e w1 ⟨b,rfl,hbl,hc1,hbw⟩
 rw [hs0] at hbl
 have HBR:=Hd_ (hbr.keep hbw)
 have HB1:=Hd_ (below_trans hb0 hbw)
 have hlt:=hc1.lt
 clear hbr hb0 hs0 hbw HV
 go_wp2_with fail
 refine (l10Pos_any b _ hc1).mono ?_
 rintro e w2 ⟨v2,q,rfl,hpz,hc2,ho2⟩
 obtain ⟨vl,vf,rfl,h1,h2⟩:=hpz
 obtain ⟨A1,n1,c1,rfl⟩:=h1.shape
 obtain ⟨A2,n2,c2,rfl⟩:=h2.shape
 have hbr2:=HBR.out.only ho2 (.inl (by omega))
 have hlo:=HB1.out.size
 have HB2:=Hd_ (HB1.out.trans (ho2.below (B:=w.heap.size) (by omega) HB1.out.size))
 have hbl1:w.heap.size < w1.heap.size:=by omega
 have z0:w2.cell? ⟨w.heap.size,0,none⟩=some (.slice none 0 0):=hbr2.cell 0
 have z1:w2.cell? ⟨w.heap.size,1,none⟩=some (.int .i64 0):=hbr2.cell 1
 have z2:w2.cell? ⟨w.heap.size,2,none⟩=some (.int .i64 0):=hbr2.cell 2
 have z3:w2.cell? ⟨w.heap.size,3,none⟩=some (.slice none 0 0):=hbr2.cell 3
 have z4:w2.cell? ⟨w.heap.size,4,none⟩=some (.bool false):=hbr2.cell 4
 have v0:=hbr2.frozen 0
 have v1:=hbr2.frozen 1
 have v2:=hbr2.frozen 2
 have v3:=hbr2.frozen 3
 have v4:=hbr2.frozen 4
 have hlr:=hbr2.lt
 have hp:=put5P_only w2 w.heap.size (.slice A1 n1 c1) (.int .i64 q.first) (.int .i64 q.last) (.slice A2 n2 c2) (.bool q.nul)
 have HD:=Hd_ (show PzV 0 (put5P w2 w.heap.size (.slice A1 n1 c1) (.int .i64 q.first) (.int .i64 q.last) (.slice A2 n2 c2) (.bool q.nul)).heap.size (put5P w2 w.heap.size (.slice A1 n1 c1) (.int .i64 q.first) (.int .i64 q.last) (.slice A2 n2 c2) (.bool q.nul)) (.agg #[.slice A1 n1 c1,.int .i64 q.first,.int .i64 q.last,.slice A2 n2 c2,.bool q.nul]) q/\Below w.heap.size w (put5P w2 w.heap.size (.slice A1 n1 c1) (.int .i64 q.first) (.int .i64 q.last) (.slice A2 n2 c2) (.bool q.nul)) from
  ⟨⟨_,_,rfl,(h1.only hp (Nat.le_refl _) (.inr hbl1)).mono (Nat.zero_le _) hp.size,(h2.only hp (Nat.le_refl _) (.inr hbl1)).mono (Nat.zero_le _) hp.size⟩,HB2.out.trans (hp.below (Nat.le_refl _) (by omega))⟩)
 clear h1 h2 hc1 hc2 ho2 hp hbr2
 go_wp2_with fail
 exact bodyPost_ret (v:=.agg #[.slice A1 n1 c1,.int .i64 q.first,.int .i64 q.last,.slice A2 n2 c2,.bool q.nul]) (by simp [results,Try.results18,go_sem,z0,z1,z2,z3,z4,v0,v1,v2,v3,v4,hlr]) rfl ⟨_,q,rfl,HD.out⟩
theorem ps_at {lo hi:Nat} {w:World} {A:Option Addr} {n c:Nat} {xs:List Int} (h:SlI lo hi w cI 1 (.slice A n c) xs) {i:Nat} {x:Int} (hx:xs[i]?=some x) :
 ∃ b o,A=some ⟨b,o,none⟩/\b < hi/\w.cell? ⟨b,o+i,none⟩=some (.int .i64 x):=by
 obtain ⟨A',c',hv,-,-,h⟩:=h
 cases hv
 obtain ⟨b,o,hA,-,h2,hc⟩:=h i x hx
 exact ⟨b,o,hA,h2,by simpa using hc 0 _ rfl⟩
/-- positions drawn in the block q, the word under way behind it; the result's block r -/
structure BwR (b r q:Nat) (w0 w:World) (ls fs vo:Value) (p:Pz) (O:List Int):Prop where
 res:Blk w r 27 #[.slice none 0 0,.int .i64 0,.int .i64 0,.slice none 0 0,.bool false]
 blk:Blk w q 27 #[ls,.int .i64 p.first,.int .i64 p.last,fs,.bool p.nul]
 lets:SlI (b+1) q w cI 1 ls p.lets
 fol:SlI (b+1) q w cI 1 fs p.fol
 row:w.ownsRow (q+1) 3 1 vo O.length (O.flatMap cI)
 cur:Cur w b
 frm:Below w0.heap.size w0 w
 at0:w0.heap.size=r
 ord:r < b/\b < q
section
variable {b r q:Nat} {w0 w w':World} {ls fs vo:Value} {p:Pz} {O:List Int}
theorem BwR.step (a:BwR b r q w0 w ls fs vo p O) (ho:Only b (b+1) w w') (hc:Cur w' b):BwR b r q w0 w' ls fs vo p O:=by
 have hd:=a.ord
 have hq:=a.blk.lt
 have h0:=a.at0
 exact ⟨a.res.only ho (.inl (by omega)),a.blk.only ho (.inr (by omega)),a.lets.only ho (by omega) (.inr (Nat.le_refl _)),a.fol.only ho (by omega) (.inr (Nat.le_refl _)),own_only a.row ho (by omega),hc,a.frm.trans (ho.below (by omega) (by omega)),a.at0,hd⟩
theorem BwR.below (a:BwR b r q w0 w ls fs vo p O) (hb:Below w.heap.size w w'):BwR b r q w0 w' ls fs vo p O:=a.step (Only.of_below hb _ _) (a.cur.keep hb)
theorem BwR.push (a:BwR b r q w0 w ls fs vo p O) {v':Value} {O':List Int} (hrow:w'.ownsRow (q+1) 3 1 v' O'.length (O'.flatMap cI)) (hg:w.grownBy w' vo.ownBlock):BwR b r q w0 w' ls fs v' p O':=by
 have hd:=a.ord
 have hq:=a.blk.lt
 have h0:=a.at0
 have hbel:Below (q+1) w w':=own_below a.row (by omega) hg
 exact ⟨a.res.below hbel (by omega),a.blk.below hbel (by omega),a.lets.below hbel (by omega),a.fol.below hbel (by omega),hrow,a.cur.below hbel (by omega),a.frm.trans (hbel.mono (by omega)),a.at0,hd⟩
theorem BwR.done (a:BwR b r q w0 w ls fs vo p O) (c0 c1 c2 c3 c4:Value):PzV w0.heap.size (put5P w r c0 c1 c2 c3 c4).heap.size (put5P w r c0 c1 c2 c3 c4) (.agg #[ls,.int .i64 p.first,.int .i64 p.last,fs,.bool p.nul]) p/\SlI w0.heap.size (put5P w r c0 c1 c2 c3 c4).heap.size (put5P w r c0 c1 c2 c3 c4) cI 1 vo O/\Below w0.heap.size w0 (put5P w r c0 c1 c2 c3 c4):=by
 have hd:=a.ord
 have h0:=a.at0
 have hq:=a.blk.lt
 have hp:=put5P_only w r c0 c1 c2 c3 c4
 have hs:=hp.size
 exact ⟨⟨_,_,rfl,(a.lets.only hp (by omega) (.inr (by omega))).mono (by omega) (by omega),(a.fol.only hp (by omega) (.inr (by omega))).mono (by omega) (by omega)⟩,((Own.of_row (xs:=O) (own_only a.row hp (by omega)) rfl rfl).sl cI_len).mono (by omega) (Nat.le_refl _),a.frm.trans (hp.below (by omega) (by omega))⟩
end
def BothP (w:World) (e:Ending) (w':World):Prop:=∃ vp vu q u,e=.returned (.tuple #[vp,vu])/\(PzV w.heap.size w'.heap.size w' vp q/\SlI w.heap.size w'.heap.size w' cI 1 vu u/\Below w.heap.size w w')
set_option maxHeartbeats 8000000 in
theorem l10Both_any (v:Value) (bs:List Int) (w:World) (hv:SlI 0 w.heap.size w cU 1 v bs) :
 Calls Try.prog 38 #[v] w (BothP w):=by
 have HV:=Hd_ hv
 have hb0:=(Below.refl w.heap.size w).alloc (Nat.le_refl _) (.cells #[.slice none 0 0,.int .i64 0,.int .i64 0,.slice none 0 0,.bool false] 27)
 have hbr:=Blk.new w 27 #[.slice none 0 0,.int .i64 0,.int .i64 0,.slice none 0 0,.bool false] _ rfl
 have hs0:(w.alloc (.cells #[.slice none 0 0,.int .i64 0,.int .i64 0,.slice none 0 0,.bool false] 27)).heap.size=w.heap.size+1:=by simp
 obtain ⟨A,n,c,rfl⟩:=hv.shape
 clear hv
 go_enter Try.func38,Try.ntmps38
 go_wp2_with fail
 refine (l1New_any _ bs _ ((HV.out.below hb0 (Nat.le_refl _)).mono (Nat.le_refl _) hb0.size)).mono ?_
 rintro e w1 ⟨b,rfl,hbl,hc1,hbw⟩
 rw [hs0] at hbl
 have HBR:=Hd_ (hbr.keep hbw)
 have HB1:=Hd_ (below_trans hb0 hbw)
 have hlt:=hc1.lt
 clear hbr hb0 hs0 hbw HV
 go_wp2_with fail
 refine (l10Pos_any b _ hc1).mono ?_
 rintro e w2 ⟨v2,p,rfl,hpz,hc2,ho2⟩
 obtain ⟨vl,vf,rfl,h1,h2⟩:=hpz
 obtain ⟨A1,n1,c1,rfl⟩:=h1.shape
 obtain ⟨A2,n2,c2,rfl⟩:=h2.shape
 obtain ⟨q,hq⟩:∃ q,q=w2.heap.size:=⟨_,rfl⟩
 have hz2:=ho2.size
 have hz1:=HB1.out.size
 have hal:=(Below.refl w2.heap.size w2).alloc (Nat.le_refl _) (.cells #[.slice A1 n1 c1,.int .i64 p.first,.int .i64 p.last,.slice A2 n2 c2,.bool p.nul] 27)
 obtain ⟨W1,hW1⟩:∃ W1,W1=(w2.alloc (.cells #[.slice A1 n1 c1,.int .i64 p.first,.int .i64 p.last,.slice A2 n2 c2,.bool p.nul] 27)).alloc (.cells #[] 3):=⟨_,rfl⟩
 have hal2:Below w2.heap.size w2 W1:=by rw [hW1];exact hal.alloc (by simp) _
 have hrow:W1.ownsRow (q+1) 3 1 (.slice (some ⟨q+1,0,none⟩) 0 0) ([]:List Int).length (([]:List Int).flatMap cI):=by
  have e:(w2.alloc (.cells #[.slice A1 n1 c1,.int .i64 p.first,.int .i64 p.last,.slice A2 n2 c2,.bool p.nul] 27)).heap.size=q+1:=by rw [hq];simp
  have h:=World.ownsRow_lit (base:=q+1) (e:=3) (size:=1) (w2.alloc (.cells #[.slice A1 n1 c1,.int .i64 p.first,.int .i64 p.last,.slice A2 n2 c2,.bool p.nul] 27)) #[] 0 (by omega) (by decide) rfl
  rw [e,<- hW1] at h
  exact h
 have hbq:Blk W1 q 27 #[.slice A1 n1 c1,.int .i64 p.first,.int .i64 p.last,.slice A2 n2 c2,.bool p.nul]:=by rw [hW1];exact (Blk.new w2 _ _ _ hq).alloc _
 have HP0:=Hd_ (show BwR b w.heap.size q w W1 (.slice A1 n1 c1) (.slice A2 n2 c2) (.slice (some ⟨q+1,0,none⟩) 0 0) p [] from
  ⟨(HBR.out.only ho2 (.inl (by omega))).keep hal2,hbq,(h1.below hal2 (Nat.le_refl _)).mono (by omega) (by omega),(h2.below hal2 (Nat.le_refl _)).mono (by omega) (by omega),hrow,hc2.keep hal2,(HB1.out.trans (ho2.below (B:=w.heap.size) (by omega) hz1)).trans (hal2.mono (by omega)),rfl,⟨by omega,by omega⟩⟩)
 clear hal hal2 hrow hbq h1 h2 hc1 hc2 ho2 HBR HB1
 go_upto_region 4 with fail
 rw [<- hq,<- hW1]
 clear hW1 hq hz1 hz2 hlt hbl
 go_wp2_with fail
 refine (l1Below_any b 6 _ HP0.out.cur).mono ?_
 rintro e w3 ⟨t,rfl,⟨ht0,-,ht6⟩,hc3,ho3⟩
 have ht6:=ht6 (by omega)
 obtain ⟨t,rfl⟩:=Int.eq_ofNat_of_zero_le ht0
 have HP:=Hd_ (HP0.out.step ho3 hc3)
 have ht5:t<=5:=by omega
 have hNN:n1=p.lets.length:=by
  obtain ⟨A',c',hv,-,-,-⟩:=HP0.out.lets
  cases hv;rfl
 have HNN:=Hd_ hNN
 clear HP0 hc3 ho3 ht0 ht6 hNN
 go_wp2_with fail
 go_loopw [6,7] (fun vo nn wr=>∃ (k:Nat) (O:List Int),k<=5/\O.length+k<=5/\nn=.int .i64 (k:Int)/\BwR b w.heap.size q w wr (.slice A1 n1 c1) (.slice A2 n2 c2) vo p O) (fun _ nn _=>(intOf nn).toNat)
 case atStart=>exact ⟨t,[],ht5,by simpa using ht5,rfl,HP.out⟩
 case round =>
  clear HP
  obtain ⟨k,O,hk5,hOk,rfl,hp⟩:=hrel
  obtain ⟨wo,rfl⟩:∃ wo:World,wo=wr:=⟨_,rfl⟩
  have HP:=Hd_ hp
  obtain ⟨A5,n5,c5,rfl⟩:=rowShape hp.row
  have hq1:=hp.blk.lt
  have hord:=hp.ord
  have x0:wo.cell? ⟨q,0,none⟩=some (.slice A1 n1 c1):=hp.blk.cell 0
  clear hp
  by_cases hk0:k=0
  · subst hk0
    clear x0
    have x0:wo.cell? ⟨q,0,none⟩=some (.slice A1 (n1) c1):=HP.out.blk.cell 0
    have x1:wo.cell? ⟨q,1,none⟩=some (.int .i64 p.first):=HP.out.blk.cell 1
    have x2:wo.cell? ⟨q,2,none⟩=some (.int .i64 p.last):=HP.out.blk.cell 2
    have x3:wo.cell? ⟨q,3,none⟩=some (.slice A2 n2 c2):=HP.out.blk.cell 3
    have x4:wo.cell? ⟨q,4,none⟩=some (.bool p.nul):=HP.out.blk.cell 4
    have z0:wo.cell? ⟨w.heap.size,0,none⟩=some (.slice none 0 0):=HP.out.res.cell 0
    have z1:wo.cell? ⟨w.heap.size,1,none⟩=some (.int .i64 0):=HP.out.res.cell 1
    have z2:wo.cell? ⟨w.heap.size,2,none⟩=some (.int .i64 0):=HP.out.res.cell 2
    have z3:wo.cell? ⟨w.heap.size,3,none⟩=some (.slice none 0 0):=HP.out.res.cell 3
    have z4:wo.cell? ⟨w.heap.size,4,none⟩=some (.bool false):=HP.out.res.cell 4
    have v0:=HP.out.res.frozen 0
    have v1:=HP.out.res.frozen 1
    have v2:=HP.out.res.frozen 2
    have v3:=HP.out.res.frozen 3
    have v4:=HP.out.res.frozen 4
    have hlr:=HP.out.res.lt
    have q1:¬ q=w.heap.size:=by have:=HP.out.ord;omega
    have q2:¬ w.heap.size=q:=by have:=HP.out.ord;omega
    go_wp2_with fail
    exact bodyPost_ret (v:=.tuple #[.agg #[.slice A1 (n1) c1,.int .i64 p.first,.int .i64 p.last,.slice A2 n2 c2,.bool p.nul],.slice A5 n5 c5]) (by simp [results,Try.results38,go_sem,z0,z1,z2,z3,z4,v0,v1,v2,v3,v4,hlr]) rfl ⟨_,_,p,O,rfl,HP.out.done _ _ _ _ _⟩
  · have hkp:(k:Int) > 0:=by omega
    have hkd:decide ((k:Int) > 0)=true:=decide_eq_true hkp
    by_cases hn0:n1=0
    · subst hn0
      clear x0
      have x0:wo.cell? ⟨q,0,none⟩=some (.slice A1 (0) c1):=HP.out.blk.cell 0
      have x1:wo.cell? ⟨q,1,none⟩=some (.int .i64 p.first):=HP.out.blk.cell 1
      have x2:wo.cell? ⟨q,2,none⟩=some (.int .i64 p.last):=HP.out.blk.cell 2
      have x3:wo.cell? ⟨q,3,none⟩=some (.slice A2 n2 c2):=HP.out.blk.cell 3
      have x4:wo.cell? ⟨q,4,none⟩=some (.bool p.nul):=HP.out.blk.cell 4
      have z0:wo.cell? ⟨w.heap.size,0,none⟩=some (.slice none 0 0):=HP.out.res.cell 0
      have z1:wo.cell? ⟨w.heap.size,1,none⟩=some (.int .i64 0):=HP.out.res.cell 1
      have z2:wo.cell? ⟨w.heap.size,2,none⟩=some (.int .i64 0):=HP.out.res.cell 2
      have z3:wo.cell? ⟨w.heap.size,3,none⟩=some (.slice none 0 0):=HP.out.res.cell 3
      have z4:wo.cell? ⟨w.heap.size,4,none⟩=some (.bool false):=HP.out.res.cell 4
      have v0:=HP.out.res.frozen 0
      have v1:=HP.out.res.frozen 1
      have v2:=HP.out.res.frozen 2
      have v3:=HP.out.res.frozen 3
      have v4:=HP.out.res.frozen 4
      have hlr:=HP.out.res.lt
      have q1:¬ q=w.heap.size:=by have:=HP.out.ord;omega
      have q2:¬ w.heap.size=q:=by have:=HP.out.ord;omega
      go_wp2_with fail
      exact bodyPost_ret (v:=.tuple #[.agg #[.slice A1 (0) c1,.int .i64 p.first,.int .i64 p.last,.slice A2 n2 c2,.bool p.nul],.slice A5 n5 c5]) (by simp [results,Try.results38,go_sem,z0,z1,z2,z3,z4,v0,v1,v2,v3,v4,hlr]) rfl ⟨_,_,p,O,rfl,HP.out.done _ _ _ _ _⟩
    · have hnp:(n1:Int) > 0:=by omega
      have hnd:decide ((n1:Int) > 0)=true:=decide_eq_true hnp
      obtain ⟨bA,oA,rfl,-,-⟩:=ps_at HP.out.lets (show p.lets[0]?=some (p.lets[0]'(by rw [<- HNN.out];omega)) from List.getElem?_eq_getElem _)
      go_wp2_with fail
      refine F_start 12 (fun w'=>w'.cell? ⟨q,0,none⟩=some (.slice (some ⟨bA,oA,none⟩) n1 c1)) (by kernel_rfl) (by exact x0) (fun hS inv=>?_)
      refine F_tk 0 inv ?_
      try simp only [tA,tB,tC,Act.put,tE,tF,tG]
      clear inv;intro inv
      refine F_tk 1 inv ?_
      try simp only [tA,tB,tC,Act.put,tE,tF,tG]
      clear inv;intro inv
      refine F_tk 2 inv ?_
      try simp only [tA,tB,tC,Act.put,tE,tF,tG]
      clear inv;intro inv
      refine F_tk 3 inv ?_
      try simp only [tA,tB,tC,Act.put,tE,tF,tG]
      clear inv;intro inv
      refine F_tk 4 inv ?_
      try simp only [tA,tB,tC,Act.put,tE,tF,tG]
      clear inv;intro inv
      refine F_tk 5 inv ?_
      try simp only [tA,tB,tC,Act.put,tE,tF,tG]
      clear inv;intro inv
      refine F_tk 6 inv ?_
      try simp only [tA,tB,tC,Act.put,tE,tF,tG]
      clear inv;intro inv
      have HPd:=Hd_ (HP.out.below ((Below.refl _ _).drew))
      clear HP x0
      refine F_o1 7 inv ?_;intro K hK
      try simp only [tA,tB,tC]
      go_simp
      refine (l1Below_any b _ _ HPd.out.cur).mono ?_
      rintro e w4 ⟨x,rfl,⟨hx0,-,hx1⟩,hc4,ho4⟩
      have hx1:=hx1 (by omega)
      obtain ⟨i,rfl⟩:=Int.eq_ofNat_of_zero_le hx0
      have hin:i < n1:=by omega
      have hin2:(i:Int) < (n1:Int):=by omega
      have HP4:=Hd_ (HPd.out.step ho4 hc4)
      have hat:p.lets[i]?=some (p.lets[i]'(by rw [<- HNN.out];exact hin)):=List.getElem?_eq_getElem _
      obtain ⟨y,hy⟩:∃ y,y=p.lets[i]'(by rw [<- HNN.out];exact hin):=⟨_,rfl⟩
      rw [<- hy] at hat
      obtain ⟨b7,o7,e7,hb7,d7⟩:=ps_at HP4.out.lets hat
      cases e7
      clear hc4 ho4 HPd hx0 hx1 hat hy
      refine hK.out _ _ ((HP4.out.blk.cell 0)) (fun _ _=>?_)
      try simp only [tA,tB,tC,Act.put,tE,tF,tG]
      clear hK K inv hS;rename_i hS inv
      refine F_tk 8 inv ?_
      try simp only [tA,tB,tC,Act.put,tE,tF,tG]
      clear inv;intro inv
      refine F_o1 9 inv ?_;intro K hK
      try simp only [tA,tB,tC]
      go_simp
      refine hK.out _ _ ((HP4.out.blk.cell 0)) (fun _ _=>?_)
      try simp only [tA,tB,tC,Act.put,tE,tF,tG]
      clear hK K inv hS;rename_i hS inv
      refine F_o1 10 inv ?_;intro K hK
      try simp only [tA,tB,tC]
      go_simp
      have HP6:=Hd_ (HP4.out.below ((Below.refl _ _).alloc (Nat.le_refl _) (.cells #[.int .i64 y] 3)))
      refine hK.out _ _ ((HP6.out.blk.cell 0)) (fun _ _=>?_)
      try simp only [tA,tB,tC,Act.put,tE,tF,tG]
      clear hK K inv hS;rename_i hS inv
      refine F_o1 11 inv ?_;intro K hK
      try simp only [tA,tB,tC]
      refine op_append1 cI elPsI rfl _ _ (by rfl) (q+1) _ O y 1 _ (by rfl) HP6.out.row (by first | rfl | simp) (heap_alloc_new _ _) rfl (cI_one _) (by omega) (by omega) (by have:=HP6.out.blk.lt;omega) ?_
      intro g2 cp2 w9 hown3 hgr3 hat3 hlt3
      have HP9:=Hd_ (HP6.out.push hown3 hgr3)
      clear hown3 hgr3 hat3
      refine hK.out _ _ ((HP9.out.blk.cell 0)) (fun _ _=>?_)
      try simp only [tA,tB,tC,Act.put,tE,tF,tG]
      clear hK K inv hS;rename_i hS inv
      refine F_l1 12 ?_;intro K hK
      go_simp
      refine hK _ _ ?_
      clear hK K inv hS
      go_wp2_with fail
      go_roundw
      case rel=>exact ⟨k - 1,O ++ [y],by omega,by rw [List.length_append,List.length_singleton];omega,by go_num,HP9.out⟩
      case measure=>simp [intOf];omega
set_option maxHeartbeats 4000000 in
theorem drawCountRuns_any (v:Value) (bs:List Int) (w:World) (hv:SlI 0 w.heap.size w cU 1 v bs) :
 Calls Try.prog 23 #[v] w (BothP w):=by
 have HV:=Hd_ hv
 have hb0:=(Below.refl w.heap.size w).alloc (Nat.le_refl _) (.cells #[.slice none 0 0,.int .i64 0,.int .i64 0,.slice none 0 0,.bool false] 27)
 have hbr:=Blk.new w 27 #[.slice none 0 0,.int .i64 0,.int .i64 0,.slice none 0 0,.bool false] _ rfl
 obtain ⟨A,n,c,rfl⟩:=hv.shape
 clear hv
 go_enter Try.func23,Try.ntmps23
 go_wp2_with fail
 refine (l10Both_any _ bs _ ((HV.out.below hb0 (Nat.le_refl _)).mono (Nat.le_refl _) hb0.size)).mono ?_
 rintro e w1 ⟨vp,vu,p,u,rfl,hpz,hu,hbw⟩
 obtain ⟨vl,vf,rfl,h1,h2⟩:=hpz
 obtain ⟨A1,n1,c1,rfl⟩:=h1.shape
 obtain ⟨A2,n2,c2,rfl⟩:=h2.shape
 obtain ⟨A5,n5,c5,rfl⟩:=hu.shape
 have hal:=(Below.refl w1.heap.size w1).alloc (Nat.le_refl _) (.cells #[.slice A1 n1 c1,.int .i64 p.first,.int .i64 p.last,.slice A2 n2 c2,.bool p.nul] 27)
 obtain ⟨q,hq⟩:∃ q,q=w1.heap.size:=⟨_,rfl⟩
 obtain ⟨W1,hW1⟩:∃ W1,W1=w1.alloc (.cells #[.slice A1 n1 c1,.int .i64 p.first,.int .i64 p.last,.slice A2 n2 c2,.bool p.nul] 27):=⟨_,rfl⟩
 have hbq:Blk W1 q 27 #[.slice A1 n1 c1,.int .i64 p.first,.int .i64 p.last,.slice A2 n2 c2,.bool p.nul]:=by rw [hW1];exact Blk.new w1 _ _ _ hq
 rw [<- hW1] at hal
 have HBR:=Hd_ ((hbr.keep hbw).keep hal)
 have HBQ:=Hd_ hbq
 have HB:=Hd_ (below_trans (below_trans hb0 hbw) hal)
 have hrq:w.heap.size < q:=by
  have h1:=hbw.size
  simp at h1
  omega
 have hs1:(w.alloc (.cells #[.slice none 0 0,.int .i64 0,.int .i64 0,.slice none 0 0,.bool false] 27)).heap.size=w.heap.size+1:=by simp
 rw [hs1] at h1 h2 hu
 have H1:=Hd_ (h1.below hal (Nat.le_refl _))
 have H2:=Hd_ (h2.below hal (Nat.le_refl _))
 have HU:=Hd_ (hu.below hal (Nat.le_refl _))
 have hqW:w1.heap.size<=W1.heap.size:=hal.size
 clear hs1
 clear h1 h2 hu hal hbq hbw hb0 hbr HV
 go_upto_region 2 with fail
 rw [<- hq,<- hW1]
 clear hW1 hq
 have x0:W1.cell? ⟨q,0,none⟩=some (.slice A1 n1 c1):=HBQ.out.cell 0
 have x1:W1.cell? ⟨q,1,none⟩=some (.int .i64 p.first):=HBQ.out.cell 1
 have x2:W1.cell? ⟨q,2,none⟩=some (.int .i64 p.last):=HBQ.out.cell 2
 have x3:W1.cell? ⟨q,3,none⟩=some (.slice A2 n2 c2):=HBQ.out.cell 3
 have x4:W1.cell? ⟨q,4,none⟩=some (.bool p.nul):=HBQ.out.cell 4
 have z0:W1.cell? ⟨w.heap.size,0,none⟩=some (.slice none 0 0):=HBR.out.cell 0
 have z1:W1.cell? ⟨w.heap.size,1,none⟩=some (.int .i64 0):=HBR.out.cell 1
 have z2:W1.cell? ⟨w.heap.size,2,none⟩=some (.int .i64 0):=HBR.out.cell 2
 have z3:W1.cell? ⟨w.heap.size,3,none⟩=some (.slice none 0 0):=HBR.out.cell 3
 have z4:W1.cell? ⟨w.heap.size,4,none⟩=some (.bool false):=HBR.out.cell 4
 have v0:=HBR.out.frozen 0
 have v1:=HBR.out.frozen 1
 have v2:=HBR.out.frozen 2
 have v3:=HBR.out.frozen 3
 have v4:=HBR.out.frozen 4
 have hlr:=HBR.out.lt
 have hlq:=HBQ.out.lt
 have q1:¬ q=w.heap.size:=by omega
 have q2:¬ w.heap.size=q:=by omega
 have hp:=put5P_only W1 w.heap.size (.slice A1 n1 c1) (.int .i64 p.first) (.int .i64 p.last) (.slice A2 n2 c2) (.bool p.nul)
 have hps:=hp.size
 have HD:=Hd_ (show PzV w.heap.size (put5P W1 w.heap.size (.slice A1 n1 c1) (.int .i64 p.first) (.int .i64 p.last) (.slice A2 n2 c2) (.bool p.nul)).heap.size (put5P W1 w.heap.size (.slice A1 n1 c1) (.int .i64 p.first) (.int .i64 p.last) (.slice A2 n2 c2) (.bool p.nul)) (.agg #[.slice A1 n1 c1,.int .i64 p.first,.int .i64 p.last,.slice A2 n2 c2,.bool p.nul]) p/\SlI w.heap.size (put5P W1 w.heap.size (.slice A1 n1 c1) (.int .i64 p.first) (.int .i64 p.last) (.slice A2 n2 c2) (.bool p.nul)).heap.size (put5P W1 w.heap.size (.slice A1 n1 c1) (.int .i64 p.first) (.int .i64 p.last) (.slice A2 n2 c2) (.bool p.nul)) cI 1 (.slice A5 n5 c5) u/\Below w.heap.size w (put5P W1 w.heap.size (.slice A1 n1 c1) (.int .i64 p.first) (.int .i64 p.last) (.slice A2 n2 c2) (.bool p.nul)) from
  ⟨⟨_,_,rfl,(H1.out.only hp hqW (.inr (Nat.le_refl _))).mono (by omega) (by omega),(H2.out.only hp hqW (.inr (Nat.le_refl _))).mono (by omega) (by omega)⟩,(HU.out.only hp hqW (.inr (Nat.le_refl _))).mono (by omega) (by omega),HB.out.trans (hp.below (Nat.le_refl _) (by omega))⟩)
 clear hp hps hqW
 go_wp2_with fail
 exact bodyPost_ret (v:=.tuple #[.agg #[.slice A1 n1 c1,.int .i64 p.first,.int .i64 p.last,.slice A2 n2 c2,.bool p.nul],.slice A5 n5 c5]) (by simp [results,Try.results23,go_sem,z0,z1,z2,z3,z4,v0,v1,v2,v3,v4,hlr]) rfl ⟨_,_,p,u,rfl,HD.out⟩
end Go.Proofs.Ythnapjodmndlaaa
namespace Go.Proofs.Ythnapjodmndlaaa
def addT (l:List Twn) (x:Twn):List Twn:=if l.contains x=true then l else l ++ [x]
def outT (p:Pz) (t:Twn):List Twn:=(List.range 9).flatMap fun k=>twnX p k t
/-- the list when the first i of it are done -/
def allT (p:Pz):Nat->List Twn
 | 0=>[(0,0,false)]
 | i+1=>match (allT p i)[i]? with
   | none=>allT p i
   | some t=>(outT p t).foldl addT (allT p i)
theorem addT_mem {l:List Twn} {x y:Twn}:y ∈ addT l x ↔ y ∈ l ∨ y=x:=by
 rw [addT]
 split
 · rename_i h
   rw [List.contains_iff_mem] at h
   constructor
   · exact .inl
   · rintro (h1 | rfl)
     · exact h1
     · exact h
 · rw [List.mem_append,List.mem_singleton]
theorem addT_pre (l:List Twn) (x:Twn):l <+: addT l x:=by
 rw [addT]
 split
 · exact List.prefix_refl _
 · exact List.prefix_append _ _
theorem addT_nodup {l:List Twn} {x:Twn} (h:l.Nodup):(addT l x).Nodup:=by
 rw [addT]
 split
 · exact h
 · rename_i hx
   rw [List.contains_iff_mem] at hx
   rw [List.nodup_append]
   refine ⟨h,by simp,fun b hb c hc e=>?_⟩
   rw [List.mem_singleton] at hc
   exact hx (hc ▸ e ▸ hb)
theorem foldT_mem {y:Twn}:∀ {xs l:List Twn},y ∈ xs.foldl addT l ↔ y ∈ l ∨ y ∈ xs
 | [],l=>by simp
 | x :: xs,l=>by
   rw [List.foldl_cons,foldT_mem,addT_mem,List.mem_cons,or_assoc]
theorem foldT_pre:∀ (xs l:List Twn),l <+: xs.foldl addT l
 | [],l=>List.prefix_refl _
 | x :: xs,l=>(addT_pre l x).trans (foldT_pre xs _)
theorem foldT_nodup:∀ {xs l:List Twn},l.Nodup->(xs.foldl addT l).Nodup
 | [],_,h=>h
 | x :: xs,_,h=>foldT_nodup (xs:=xs) (addT_nodup h)
theorem allT_pre (p:Pz) (i:Nat):allT p i <+: allT p (i+1):=by
 rw [allT]
 split
 · exact List.prefix_refl _
 · exact foldT_pre _ _
theorem allT_pre2 (p:Pz) (i d:Nat):allT p i <+: allT p (i+d):=by
 induction d with
 | zero=>exact List.prefix_refl _
 | succ d ih=>exact ih.trans (allT_pre p (i+d))
theorem allT_nodup (p:Pz):∀ i,(allT p i).Nodup
 | 0=>by simp [allT]
 | i+1=>by
   rw [allT]
   split
   · exact allT_nodup p i
   · exact foldT_nodup (allT_nodup p i)
theorem outT_in {p:Pz} (hp:p.lets.length<=20) {t x:Twn} (h:x ∈ outT p t):(1<=x.1/\x.1<=20)/\(1<=x.2.1/\x.2.1<=20):=by
 rw [outT,List.mem_flatMap] at h
 obtain ⟨k,-,h⟩:=h
 have:=twnX_in h hp
 exact ⟨this.1,this.2.1⟩
theorem allT_in {p:Pz} (hp:p.lets.length<=20):∀ (i:Nat) (t:Twn),t ∈ allT p i->t=(0,0,false) ∨ ((1<=t.1/\t.1<=20)/\(1<=t.2.1/\t.2.1<=20))
 | 0,t,h=>by
   rw [allT,List.mem_singleton] at h
   exact .inl h
 | i+1,t,h=>by
   rw [allT] at h
   split at h
   · exact allT_in hp i t h
   · rw [foldT_mem] at h
     rcases h with h | h
     · exact allT_in hp i t h
     · exact .inr (outT_in hp h)
theorem nodup_subT:∀ (s l:List Nat),s.Nodup->(∀ x ∈ s,x ∈ l)->s.length<=l.length
 | [],_,_,_=>Nat.zero_le _
 | x :: s,l,hn,hm=>by
   have hx:=hm x List.mem_cons_self
   have h1:=nodup_subT s (l.erase x) (List.nodup_cons.1 hn).2 (fun z hz=>by
    refine (List.mem_erase_of_ne (fun e=>?_)).2 (hm z (List.mem_cons_of_mem _ hz))
    subst e
    exact (List.nodup_cons.1 hn).1 hz)
   rw [List.length_erase_of_mem hx] at h1
   have:=List.length_pos_of_mem hx
   rw [List.length_cons]
   omega
theorem slotT_lt {t:Twn} (h1:t.1<=20) (h2:t.2.1<=20):slotT t < 882:=by
 rw [slotT]
 split <;> omega
theorem allT_low {p:Pz} (hp:p.lets.length<=20) {i:Nat} {t:Twn} (h:t ∈ allT p i):t.1<=20/\t.2.1<=20:=by
 rcases allT_in hp i t h with rfl | h
 · exact ⟨Nat.zero_le _,Nat.zero_le _⟩
 · exact ⟨h.1.2,h.2.2⟩
theorem allT_len {p:Pz} (hp:p.lets.length<=20) (i:Nat):(allT p i).length<=882:=by
 have hn:((allT p i).map slotT).Nodup:=by
  rw [List.nodup_iff_pairwise_ne,List.pairwise_map]
  have h:=allT_nodup p i
  rw [List.nodup_iff_pairwise_ne] at h
  refine List.Pairwise.imp_of_mem ?_ h
  intro t u ht hu hne e
  exact hne (slotT_inj (allT_low hp ht).2 (allT_low hp hu).2 e)
 have:=nodup_subT _ (List.range 882) hn (fun x hx=>by
  obtain ⟨t,ht,rfl⟩:=List.mem_map.1 hx
  have:=allT_low hp ht
  exact List.mem_range.2 (slotT_lt this.1 this.2))
 rwa [List.length_map,List.length_range] at this
/-- all of them -/
def endT (p:Pz):List Twn:=allT p 882
attribute [irreducible] endT
theorem allT_stop {p:Pz} {i:Nat} (h:(allT p i).length<=i):∀ d,allT p (i+d)=allT p i
 | 0=>rfl
 | d+1=>by
   have ih:=allT_stop h d
   rw [<- Nat.add_assoc,allT,ih,List.getElem?_eq_none (by omega)]
theorem endT_eq {p:Pz} {i:Nat} (h:(allT p i).length<=i) (hi:i<=882):endT p=allT p i:=by
 have:=allT_stop h (882 - i)
 rw [show i+(882 - i)=882 by omega] at this
 rw [endT]
 exact this
theorem endT_at {p:Pz} {i k:Nat} {t:Twn} (h:(allT p i)[k]?=some t) (hi:i<=882):(endT p)[k]?=some t:=by
 have:=allT_pre2 p i (882 - i)
 rw [show i+(882 - i)=882 by omega] at this
 obtain ⟨r,hr⟩:=this
 rw [endT,<- hr]
 exact List.getElem?_append_left (List.getElem?_eq_some_iff.1 h).1 ▸ h
theorem endT_closed {p:Pz} (hp:p.lets.length<=20) {t x:Twn} (h:t ∈ endT p) (hx:x ∈ outT p t):x ∈ endT p:=by
 obtain ⟨k,hk,hkt⟩:=List.getElem_of_mem h
 have hkl:k < 882:=by have:=allT_len hp 882;rw [endT] at hk;omega
 have h1:(endT p)[k]?=some t:=by rw [<- hkt];exact List.getElem?_eq_getElem hk
 have hpre:=allT_pre2 p (k+1) (882 - (k+1))
 rw [show k+1+(882 - (k+1))=882 by omega] at hpre
 cases ha:(allT p k)[k]? with
 | none =>
   have hs:=allT_stop (p:=p) (i:=k) (List.getElem?_eq_none_iff.1 ha) (882 - k)
   rw [show k+(882 - k)=882 by omega] at hs
   rw [endT,hs,ha] at h1
   cases h1
 | some u =>
   have h2:=endT_at ha (by omega)
   rw [h1] at h2
   have h2:=Option.some.inj h2
   subst h2
   have h3:x ∈ allT p (k+1):=by
    rw [allT,ha]
    exact foldT_mem.2 (.inr hx)
   rw [endT]
   exact hpre.subset h3
theorem endT_start (p:Pz):(endT p)[0]?=some (0,0,false):=endT_at (i:=0) rfl (by omega)
/-- pair number i -/
def twnA (p:Pz) (i:Nat):Twn:=(endT p).getD i (0,0,false)
def idxT (p:Pz) (t:Twn):Nat:=(endT p).findIdx fun u=>u==t
/-- the edges that leave pair i by letter k; all edges -/
def edT (p:Pz) (i k:Nat):List (Nat × Nat × Nat):=(twnX p k (twnA p i)).map fun x=>(i,k,idxT p x)
def edI (p:Pz) (i:Nat):List (Nat × Nat × Nat):=(List.range 9).flatMap fun k=>edT p i k
def edsT (p:Pz):List (Nat × Nat × Nat):=(List.range (endT p).length).flatMap fun i=>edI p i
def prsT (p:Pz):List (Nat × Nat):=(edsT p).map fun e=>(e.1,e.2.2)
def goalT (p:Pz) (i:Nat):Prop:=twnG p (twnA p i)=true
theorem mem_edsT {p:Pz} {e:Nat × Nat × Nat}:e ∈ edsT p ↔ e.1 < (endT p).length/\e.2.1 < 9/\∃ x ∈ twnX p e.2.1 (twnA p e.1),e.2.2=idxT p x:=by
 simp only [edsT,edI,edT,List.mem_flatMap,List.mem_range,List.mem_map]
 constructor
 · rintro ⟨i,hi,k,hk,x,hx,rfl⟩;exact ⟨hi,hk,x,hx,rfl⟩
 · rintro ⟨hi,hk,x,hx,h⟩
   exact ⟨e.1,hi,e.2.1,hk,x,hx,by rw [<- h]⟩
theorem idxT_lt {p:Pz} {t:Twn} (h:t ∈ endT p):idxT p t < (endT p).length:=by
 rw [idxT]
 exact List.findIdx_lt_length_of_exists ⟨t,h,by simp⟩
theorem twnA_idx {p:Pz} {t:Twn} (h:t ∈ endT p):twnA p (idxT p t)=t:=by
 have hl:=idxT_lt h
 have h1:((endT p)[idxT p t]==t)=true:=List.findIdx_getElem (w:=hl)
 rw [twnA,List.getD_eq_getElem?_getD,List.getElem?_eq_getElem hl,Option.getD_some]
 exact beq_iff_eq.1 h1
theorem twnA_mem {p:Pz} {i:Nat} (h:i < (endT p).length):twnA p i ∈ endT p:=by
 rw [twnA,List.getD_eq_getElem?_getD,List.getElem?_eq_getElem h,Option.getD_some]
 exact List.getElem_mem h
theorem endT_nodup (p:Pz):(endT p).Nodup:=by rw [endT];exact allT_nodup p 882
theorem idx_twnA {p:Pz} {i:Nat} (h:i < (endT p).length):idxT p (twnA p i)=i:=by
 have hm:=twnA_mem h
 have h1:=twnA_idx hm
 have hl:=idxT_lt hm
 have hn:=endT_nodup p
 rw [twnA,List.getD_eq_getElem?_getD,List.getElem?_eq_getElem hl,Option.getD_some] at h1
 have h2:twnA p i=(endT p)[i]:=by rw [twnA,List.getD_eq_getElem?_getD,List.getElem?_eq_getElem h,Option.getD_some]
 exact (List.getElem_inj hn).1 (h1.trans h2)
theorem twn_next {p:Pz} (hp:p.lets.length<=20) {i k:Nat} (hi:i < (endT p).length) (hk:k < 9) {x:Twn} (hx:x ∈ twnX p k (twnA p i)):x ∈ endT p :=
 endT_closed hp (twnA_mem hi) (List.mem_flatMap.2 ⟨k,List.mem_range.2 hk,hx⟩)
theorem prsT_lt {p:Pz} (hp:p.lets.length<=20):∀ e ∈ prsT p,e.1 < (endT p).length/\e.2 < (endT p).length:=by
 intro e he
 obtain ⟨d,hd,rfl⟩:=List.mem_map.1 he
 obtain ⟨h1,h2,x,hx,h3⟩:=mem_edsT.1 hd
 refine ⟨h1,?_⟩
 simp only
 rw [h3]
 exact idxT_lt (twn_next hp h1 h2 hx)
theorem dist_ex (next:Nat->List Nat) (goal:Nat->Prop) (i:Nat):∃ d,IsDist next goal i d:=by
 by_cases h:∃ n,toG next goal n i
 · obtain ⟨n,hn⟩:=h
   induction n using Nat.strongRecOn with
   | _ n ih =>
     by_cases h2:∃ m,m < n/\toG next goal m i
     · obtain ⟨m,hm,hg⟩:=h2
       exact ih m hm hg
     · exact ⟨(n:Int),.inr ⟨by omega,by simpa using hn,fun m hm hg=>h2 ⟨m,by simpa using hm,hg⟩⟩⟩
 · exact ⟨-1,.inl ⟨rfl,fun n hn=>h ⟨n,hn⟩⟩⟩
/-- the number of letters from pair i to one that shows two runs, or -1 -/
noncomputable def dT (p:Pz) (i:Nat):Int:=Classical.choose (dist_ex (nextE (prsT p)) (goalT p) i)
theorem dT_is (p:Pz) (i:Nat):IsDist (nextE (prsT p)) (goalT p) i (dT p i):=Classical.choose_spec (dist_ex (nextE (prsT p)) (goalT p) i)
theorem dT_eq {p:Pz} {i:Nat} {d:Int} (h:IsDist (nextE (prsT p)) (goalT p) i d):d=dT p i:=h.uniq (dT_is p i)
theorem dist_step {next:Nat->List Nat} {goal:Nat->Prop} {i n:Nat} {D:Nat->Int} (hD:∀ j,IsDist next goal j (D j)) (h:D i=((n+1:Nat):Int)):∃ j ∈ next i,D j=(n:Int):=by
 rcases hD i with ⟨h1,-⟩ | ⟨h0,h1,h2⟩
 · omega
 · rw [h,Int.toNat_natCast] at h1 h2
   obtain ⟨j,hj,hg⟩:=h1
   refine ⟨j,hj,?_⟩
   rcases hD j with ⟨-,h4⟩ | ⟨h3,h4,h5⟩
   · exact absurd hg (h4 n)
   · have h6:¬ n < (D j).toNat:=fun hlt=>h5 n hlt hg
     have h7:¬ (D j).toNat < n:=fun hlt=>h2 ((D j).toNat+1) (by omega) ⟨j,hj,h4⟩
     omega
/-- the numbers before the first pass -/
theorem FarI.init {es:List (Nat × Nat)} {goal:Nat->Prop} {N:Nat} {F:List Int} (hl:F.length=N) (h:∀ i,i < N->(goal i->F.getD i 0=0)/\(¬ goal i->F.getD i 0=-1)):FarI es goal N F:=by
 have hv:∀ i,i < N->F.getD i 0=0 ∨ F.getD i 0=-1:=fun i hi=>by
  by_cases hg:goal i
  · exact .inl ((h i hi).1 hg)
  · exact .inr ((h i hi).2 hg)
 refine ⟨hl,fun i hi=>?_,fun i hi h0=>?_,fun i hi hg=>(h i hi).1 hg,fun i hi=>?_⟩
 · rcases hv i hi with e | e <;> omega
 · by_cases hg:goal i
   · rw [(h i hi).1 hg]
     exact hg
   · have:=(h i hi).2 hg
     omega
 · rcases hv i hi with e | e
   · have hil:i < F.length:=by omega
     have hm:(0:Int) ∈ F.filter fun x=>decide (0<=x):=by
      rw [List.mem_filter]
      refine ⟨?_,by simp⟩
      rw [List.getD_eq_getElem?_getD,List.getElem?_eq_getElem hil,Option.getD_some] at e
      exact e ▸ List.getElem_mem hil
     have:=List.length_pos_of_mem hm
     rw [e,nonneg]
     omega
   · rw [e];omega
/-- the word, over the numbers of the pairs and over the pairs -/
def nxI (p:Pz) (k i:Nat):List Nat:=(twnX p k (twnA p i)).map (idxT p)
noncomputable def ambW (p:Pz):List Nat:=wordT 9 (nxI p) (dT p) (dT p 0).toNat [0]
noncomputable def ambT (p:Pz):List Nat × Bool:=if pzOk p=true then (if dT p 0 < 0 then ([],false) else (ambW p,true)) else ([],false)
theorem mem_next_prs {p:Pz} {i j:Nat} (hi:i < (endT p).length):j ∈ nextE (prsT p) i ↔ ∃ k,k < 9/\j ∈ nxI p k i:=by
 rw [mem_nextE,prsT,List.mem_map]
 constructor
 · rintro ⟨⟨a,k,b⟩,he,h⟩
   simp only [Prod.mk.injEq] at h
   obtain ⟨rfl,rfl⟩:=h
   obtain ⟨-,h2,x,hx,h3⟩:=mem_edsT.1 he
   exact ⟨k,h2,List.mem_map.2 ⟨x,hx,h3.symm⟩⟩
 · rintro ⟨k,hk,h⟩
   obtain ⟨x,hx,rfl⟩:=List.mem_map.1 h
   exact ⟨(i,k,idxT p x),mem_edsT.2 ⟨hi,hk,x,hx,rfl⟩,rfl⟩
theorem nxI_lt {p:Pz} (hp:p.lets.length<=20) {i j k:Nat} (hi:i < (endT p).length) (hk:k < 9) (h:j ∈ nxI p k i):j < (endT p).length:=by
 obtain ⟨x,hx,rfl⟩:=List.mem_map.1 h
 exact idxT_lt (twn_next hp hi hk hx)
/-- from a pair of number n + 1 a letter leads on -/
theorem amb_step {p:Pz} {i n:Nat} (hi:i < (endT p).length) (h:dT p i=((n+1:Nat):Int)):∃ k,k < 9/\∃ j ∈ nxI p k i,dT p j=(n:Int):=by
 obtain ⟨j,hj,hd⟩:=dist_step (dT_is p) h
 obtain ⟨k,hk,hjk⟩:=(mem_next_prs hi).1 hj
 exact ⟨k,hk,j,hjk,hd⟩
def sumN (f:Nat->Nat) (l:List Nat):Nat:=(l.map f).sum
theorem sumN_cons (f:Nat->Nat) (x:Nat) (l:List Nat):sumN f (x :: l)=f x+sumN f l:=by simp [sumN]
theorem sumN_pos {f:Nat->Nat}:∀ {l:List Nat},1<=sumN f l ↔ ∃ s ∈ l,1<=f s
 | []=>by simp [sumN]
 | x :: l=>by
   rw [sumN_cons]
   constructor
   · intro h
     by_cases hx:1<=f x
     · exact ⟨x,List.mem_cons_self,hx⟩
     · obtain ⟨s,hs,h1⟩:=sumN_pos.1 (show 1<=sumN f l by omega)
       exact ⟨s,List.mem_cons_of_mem _ hs,h1⟩
   · rintro ⟨s,hs,h1⟩
     rcases List.mem_cons.1 hs with rfl | hs
     · omega
     · have:=sumN_pos.2 ⟨s,hs,h1⟩
       omega
theorem sumN_two {f:Nat->Nat}:∀ {l:List Nat},l.Nodup->(2<=sumN f l ↔ (∃ s ∈ l,2<=f s) ∨ ∃ s ∈ l,∃ t ∈ l,s ≠ t/\1<=f s/\1<=f t)
 | [],_=>by simp [sumN]
 | x :: l,hn=>by
   rw [List.nodup_cons] at hn
   rw [sumN_cons]
   constructor
   · intro h
     by_cases h2:2<=f x
     · exact .inl ⟨x,List.mem_cons_self,h2⟩
     · by_cases h1:1<=f x
       · obtain ⟨s,hs,h3⟩:=sumN_pos.1 (show 1<=sumN f l by omega)
         exact .inr ⟨x,List.mem_cons_self,s,List.mem_cons_of_mem _ hs,fun e=>hn.1 (e ▸ hs),h1,h3⟩
       · rcases (sumN_two hn.2).1 (show 2<=sumN f l by omega) with ⟨s,hs,h3⟩ | ⟨s,hs,t,ht,h3⟩
         · exact .inl ⟨s,List.mem_cons_of_mem _ hs,h3⟩
         · exact .inr ⟨s,List.mem_cons_of_mem _ hs,t,List.mem_cons_of_mem _ ht,h3⟩
   · rintro (⟨s,hs,h1⟩ | ⟨s,hs,t,ht,hne,h1,h2⟩)
     · rcases List.mem_cons.1 hs with e | hs'
       · subst e;omega
       · have:=(sumN_two hn.2).2 (.inl ⟨s,hs',h1⟩)
         omega
     · rcases List.mem_cons.1 hs with e | hs'
       · rcases List.mem_cons.1 ht with e' | ht'
         · exact absurd (e.trans e'.symm) hne
         · have:=sumN_pos.2 ⟨t,ht',h2⟩
           rw [e] at h1
           omega
       · rcases List.mem_cons.1 ht with e' | ht'
         · have:=sumN_pos.2 ⟨s,hs',h1⟩
           rw [e'] at h2
           omega
         · have:=(sumN_two hn.2).2 (.inr ⟨s,hs',t,ht',hne,h1,h2⟩)
           omega
/-- the runs of a word (its last letter first) that end in state t -/
def nR (p:Pz):List Nat->Nat->Nat
 | [],t=>if t=0 then 1 else 0
 | k :: w,t=>sumN (fun s=>if (aftP p (bit s) (k:Int)).testBit t=true then nR p w s else 0) (List.range (p.lets.length+1))
/-- the pairs that a word reaches -/
def TR (p:Pz):List Nat->Twn->Prop
 | [],x=>x=(0,0,false)
 | k :: w,x=>∃ t,TR p w t/\x ∈ twnX p k t
theorem nR_in {p:Pz}:∀ {w:List Nat} {t:Nat},1<=nR p w t->t<=p.lets.length
 | [],t,h=>by
   rw [nR] at h
   split at h <;> omega
 | k :: w,t,h=>by
   obtain ⟨s,-,h1⟩:=sumN_pos.1 h
   split at h1
   · rename_i hb
     exact (aftP_bit hb).2
   · omega
theorem mem_twnX {p:Pz} (hp:p.lets.length<=20) {k:Nat} {t x:Twn}:x ∈ twnX p k t ↔ (aftP p (bit t.1) (k:Int)).testBit x.1=true/\(aftP p (bit t.2.1) (k:Int)).testBit x.2.1=true/\x.2.2=(t.2.2 || decide (x.1 ≠ x.2.1)):=by
 rw [twnX,List.mem_flatMap]
 constructor
 · rintro ⟨i,hi,h⟩
   obtain ⟨j,hj,rfl⟩:=List.mem_map.1 h
   exact ⟨(mem_mem.1 hi).2,(mem_mem.1 hj).2,rfl⟩
 · rintro ⟨h1,h2,h3⟩
   have:=aftP_bit h1
   have:=aftP_bit h2
   refine ⟨x.1,mem_mem.2 ⟨by omega,h1⟩,List.mem_map.2 ⟨x.2.1,mem_mem.2 ⟨by omega,h2⟩,?_⟩⟩
   rw [<- h3]
theorem nR_step {p:Pz} {k:Nat} {w:List Nat} {t:Nat}:1<=nR p (k :: w) t ↔ ∃ s,(aftP p (bit s) (k:Int)).testBit t=true/\1<=nR p w s:=by
 rw [nR,sumN_pos]
 constructor
 · rintro ⟨s,hs,h⟩
   split at h
   · rename_i hb
     exact ⟨s,hb,h⟩
   · omega
 · rintro ⟨s,hb,h⟩
   exact ⟨s,List.mem_range.2 (by have:=nR_in h;omega),by rw [if_pos hb];exact h⟩
theorem nR_step2 {p:Pz} {k:Nat} {w:List Nat} {t:Nat}:2<=nR p (k :: w) t ↔ (∃ s,(aftP p (bit s) (k:Int)).testBit t=true/\2<=nR p w s) ∨ ∃ s s',s ≠ s'/\(aftP p (bit s) (k:Int)).testBit t=true/\(aftP p (bit s') (k:Int)).testBit t=true/\1<=nR p w s/\1<=nR p w s':=by
 rw [nR,sumN_two List.nodup_range]
 constructor
 · rintro (⟨s,hs,h⟩ | ⟨s,hs,s',hs',hne,h,h'⟩)
   · split at h
     · rename_i hb
       exact .inl ⟨s,hb,h⟩
     · omega
   · split at h
     · rename_i hb
       split at h'
       · rename_i hb'
         exact .inr ⟨s,s',hne,hb,hb',h,h'⟩
       · omega
     · omega
 · rintro (⟨s,hb,h⟩ | ⟨s,s',hne,hb,hb',h,h'⟩)
   · exact .inl ⟨s,List.mem_range.2 (by have:=nR_in (show 1<=nR p w s by omega);omega),by rw [if_pos hb];exact h⟩
   · exact .inr ⟨s,List.mem_range.2 (by have:=nR_in h;omega),s',List.mem_range.2 (by have:=nR_in h';omega),hne,by rw [if_pos hb];exact h,by rw [if_pos hb'];exact h'⟩
theorem TR_iff {p:Pz} (hp:p.lets.length<=20):∀ (w:List Nat) (a b:Nat),(TR p w (a,b,false) ↔ a=b/\1<=nR p w a)/\(TR p w (a,b,true) ↔ (a ≠ b/\1<=nR p w a/\1<=nR p w b) ∨ (a=b/\2<=nR p w a))
 | [],a,b=>by
   constructor
   · simp only [TR,nR,Prod.mk.injEq,and_true]
     constructor
     · rintro ⟨rfl,rfl⟩;simp
     · rintro ⟨rfl,h⟩
       split at h
       · rename_i e;exact ⟨e,e⟩
       · omega
   · simp only [TR,nR,Prod.mk.injEq]
     constructor
     · rintro ⟨-,-,h⟩;cases h
     · rintro (⟨h1,h2,h3⟩ | ⟨-,h⟩)
       · split at h2
         · split at h3 <;> omega
         · omega
       · split at h <;> omega
 | k :: w,a,b=>by
   have any:∀ s s',1<=nR p w s->1<=nR p w s'->∃ d,TR p w (s,s',d):=fun s s' h h'=>by
    by_cases e:s=s'
    · exact ⟨false,(TR_iff hp w s s').1.2 ⟨e,h⟩⟩
    · exact ⟨true,(TR_iff hp w s s').2.2 (.inl ⟨e,h,h'⟩)⟩
   have both:∀ s s' d,TR p w (s,s',d)->1<=nR p w s/\1<=nR p w s':=fun s s' d h=>by
    cases d with
    | false =>
      obtain ⟨rfl,h1⟩:=(TR_iff hp w s s').1.1 h
      exact ⟨h1,h1⟩
    | true =>
      rcases (TR_iff hp w s s').2.1 h with ⟨-,h1⟩ | ⟨rfl,h1⟩
      · exact h1
      · exact ⟨by omega,by omega⟩
   constructor
   · constructor
     · rintro ⟨⟨s,s',d⟩,ht,hx⟩
       obtain ⟨h1,h2,h3⟩:=(mem_twnX hp).1 hx
       have h4:d=false/\a=b:=by
        cases d with
        | false=>exact ⟨rfl,by simpa using h3⟩
        | true=>simp at h3
       obtain ⟨rfl,rfl⟩:=h4
       exact ⟨rfl,nR_step.2 ⟨s,h1,(both s s' false ht).1⟩⟩
     · rintro ⟨rfl,h⟩
       obtain ⟨s,hb,h1⟩:=nR_step.1 h
       exact ⟨(s,s,false),(TR_iff hp w s s).1.2 ⟨rfl,h1⟩,(mem_twnX hp).2 ⟨hb,hb,by simp⟩⟩
   · constructor
     · rintro ⟨⟨s,s',d⟩,ht,hx⟩
       obtain ⟨h1,h2,h3⟩:=(mem_twnX hp).1 hx
       have hb:=both s s' d ht
       by_cases e:a=b
       · subst e
         have hd:d=true:=by simpa using h3.symm
         subst hd
         refine .inr ⟨rfl,nR_step2.2 ?_⟩
         rcases (TR_iff hp w s s').2.1 ht with ⟨hne,h4,h5⟩ | ⟨rfl,h4⟩
         · exact .inr ⟨s,s',hne,h1,h2,h4,h5⟩
         · exact .inl ⟨s,h1,h4⟩
       · exact .inl ⟨e,nR_step.2 ⟨s,h1,hb.1⟩,nR_step.2 ⟨s',h2,hb.2⟩⟩
     · rintro (⟨e,ha,hb⟩ | ⟨rfl,h⟩)
       · obtain ⟨s,h1,h2⟩:=nR_step.1 ha
         obtain ⟨s',h3,h4⟩:=nR_step.1 hb
         obtain ⟨d,hd⟩:=any s s' h2 h4
         exact ⟨(s,s',d),hd,(mem_twnX hp).2 ⟨h1,h3,by simp [e]⟩⟩
       · rcases nR_step2.1 h with ⟨s,h1,h2⟩ | ⟨s,s',hne,h1,h2,h3,h4⟩
         · exact ⟨(s,s,true),(TR_iff hp w s s).2.2 (.inr ⟨rfl,h2⟩),(mem_twnX hp).2 ⟨h1,h1,by simp⟩⟩
         · exact ⟨(s,s',true),(TR_iff hp w s s').2.2 (.inl ⟨hne,h3,h4⟩),(mem_twnX hp).2 ⟨h1,h2,by simp⟩⟩
/-- the accepting runs -/
def accR (p:Pz) (w:List Nat):Nat:=sumN (fun s=>if accP p (bit s)=true then nR p w s else 0) (List.range (p.lets.length+1))
theorem accR_two {p:Pz} (hp:p.lets.length<=20) (w:List Nat):2<=accR p w ↔ ∃ t,TR p w t/\twnG p t=true:=by
 rw [accR,sumN_two List.nodup_range]
 constructor
 · rintro (⟨s,hs,h⟩ | ⟨s,hs,s',hs',hne,h,h'⟩)
   · split at h
     · rename_i ha
       exact ⟨(s,s,true),(TR_iff hp w s s).2.2 (.inr ⟨rfl,h⟩),by simp [twnG,ha]⟩
     · omega
   · split at h
     · rename_i ha
       split at h'
       · rename_i ha'
         exact ⟨(s,s',true),(TR_iff hp w s s').2.2 (.inl ⟨hne,h,h'⟩),by simp [twnG,ha,ha']⟩
       · omega
     · omega
 · rintro ⟨⟨s,s',d⟩,ht,hg⟩
   simp only [twnG,Bool.and_eq_true] at hg
   obtain ⟨rfl,ha,ha'⟩:=hg
   rcases (TR_iff hp w s s').2.1 ht with ⟨hne,h1,h2⟩ | ⟨rfl,h1⟩
   · exact .inr ⟨s,List.mem_range.2 (by have:=nR_in h1;omega),s',List.mem_range.2 (by have:=nR_in h2;omega),hne,by rw [if_pos ha];exact h1,by rw [if_pos ha'];exact h2⟩
   · exact .inl ⟨s,List.mem_range.2 (by have:=nR_in (show 1<=nR p w s by omega);omega),by rw [if_pos ha];exact h1⟩
/-- word w leads from pair t to pair x -/
def PT (p:Pz):Twn->List Nat->Twn->Prop
 | t,[],x=>x=t
 | t,k :: w,x=>∃ y ∈ twnX p k t,PT p y w x
theorem PT_TR {p:Pz}:∀ {w u:List Nat} {x:Twn},TR p (w.reverse ++ u) x ↔ ∃ t,TR p u t/\PT p t w x
 | [],u,x=>by
   constructor
   · intro h;exact ⟨x,h,rfl⟩
   · rintro ⟨t,h,rfl⟩;exact h
 | k :: w,u,x=>by
   rw [List.reverse_cons,List.append_assoc,PT_TR (w:=w)]
   constructor
   · rintro ⟨y,⟨t,ht,hy⟩,hP⟩;exact ⟨t,ht,y,hy,hP⟩
   · rintro ⟨t,ht,y,hy,hP⟩;exact ⟨y,⟨t,ht,hy⟩,hP⟩
theorem TR_PT {p:Pz} {w:List Nat} {x:Twn}:TR p w.reverse x ↔ PT p (0,0,false) w x:=by
 have:=PT_TR (p:=p) (w:=w) (u:=[]) (x:=x)
 rw [List.append_nil] at this
 rw [this]
 constructor
 · rintro ⟨t,rfl,h⟩;exact h
 · intro h;exact ⟨_,rfl,h⟩
theorem start_idx (p:Pz):twnA p 0=(0,0,false)/\0 < (endT p).length:=by
 have h:=endT_start p
 exact ⟨by rw [twnA,List.getD_eq_getElem?_getD,h];rfl,(List.getElem?_eq_some_iff.1 h).1⟩
/-- a path to a pair that shows two runs gives a distance -/
theorem PT_toG {p:Pz} (hp:p.lets.length<=20):∀ {w:List Nat} {i:Nat} {x:Twn},i < (endT p).length->(∀ k ∈ w,k < 9)->PT p (twnA p i) w x->twnG p x=true->toG (nextE (prsT p)) (goalT p) w.length i
 | [],i,x,hi,_,h,hg=>by
   rw [PT] at h
   subst h
   exact hg
 | k :: w,i,x,hi,hw,⟨y,hy,h⟩,hg=>by
   have hk:=hw k List.mem_cons_self
   have hm:=twn_next hp hi hk hy
   refine ⟨idxT p y,(mem_next_prs hi).2 ⟨k,hk,List.mem_map.2 ⟨y,hy,rfl⟩⟩,?_⟩
   exact PT_toG hp (idxT_lt hm) (fun j hj=>hw j (List.mem_cons_of_mem _ hj)) (by rw [twnA_idx hm];exact h) hg
theorem amb_no {p:Pz} (hp:p.lets.length<=20) (h:dT p 0 < 0) {w:List Nat} (hw:∀ k ∈ w,k < 9):accR p w.reverse<=1:=by
 have h2:¬ 2<=accR p w.reverse:=fun h2=>by
  obtain ⟨t,ht,hg⟩:=(accR_two hp _).1 h2
  rw [TR_PT,<- (start_idx p).1] at ht
  have hG:=PT_toG hp (start_idx p).2 hw ht hg
  rcases dT_is p 0 with ⟨-,hn⟩ | ⟨h0,-⟩
  · exact hn _ hG
  · omega
 omega
/-- the word leads from its set to the pairs of number 0 -/
theorem word_way {p:Pz} (hp:p.lets.length<=20):∀ (n:Nat) (S:List Nat),S ≠ []->(∀ i ∈ S,i < (endT p).length/\dT p i=(n:Int))->∃ i ∈ S,∃ x,PT p (twnA p i) (wordT 9 (nxI p) (dT p) n S) x/\twnG p x=true/\∀ k ∈ wordT 9 (nxI p) (dT p) n S,k < 9
 | 0,S,hS,h=>by
   obtain ⟨i,hi⟩:=List.exists_mem_of_ne_nil S hS
   obtain ⟨h1,h2⟩:=h i hi
   refine ⟨i,hi,twnA p i,rfl,?_,by simp [wordT]⟩
   rcases dT_is p i with ⟨h3,-⟩ | ⟨-,h3,-⟩
   · omega
   · rw [h2] at h3
     exact h3
 | n+1,S,hS,h=>by
   obtain ⟨i,hi⟩:=List.exists_mem_of_ne_nil S hS
   obtain ⟨h1,h2⟩:=h i hi
   obtain ⟨k0,hk0,j,hj,hd⟩:=amb_step h1 h2
   obtain ⟨k,e,hk,hl,hless⟩:=letT_some (M:=9) (nx:=nxI p) (D:=dT p) ⟨i,hi,k0,hk0,j,hj,hd⟩
   have hne:nowT (nxI p) (dT p) S n k ≠ []:=by
    obtain ⟨x,hx⟩:=nowT_ne hl
    exact List.ne_nil_of_mem hx
   obtain ⟨y,hy,x,hP,hg,hlt⟩:=word_way hp n (nowT (nxI p) (dT p) S n k) hne (fun y hy=>by
    obtain ⟨⟨t,ht,h3⟩,h4⟩:=mem_nowT.1 hy
    exact ⟨nxI_lt hp (h t ht).1 hk h3,h4⟩)
   obtain ⟨⟨t,ht,h3⟩,-⟩:=mem_nowT.1 hy
   rw [wordT_step hk hl hless]
   obtain ⟨z,hz,rfl⟩:=List.mem_map.1 h3
   refine ⟨t,ht,x,⟨z,hz,?_⟩,hg,?_⟩
   · rw [twnA_idx (twn_next hp (h t ht).1 hk hz)] at hP
     exact hP
   · intro q hq
     rcases List.mem_cons.1 hq with rfl | hq
     · exact hk
     · exact hlt q hq
theorem amb_yes {p:Pz} (hp:p.lets.length<=20) (h:0<=dT p 0):2<=accR p (ambW p).reverse/\∀ k ∈ ambW p,k < 9:=by
 have hs:=start_idx p
 obtain ⟨i,hi,x,hP,hg,hlt⟩:=word_way hp (dT p 0).toNat [0] (by simp) (fun i hi=>by
  rw [List.mem_singleton] at hi
  subst hi
  exact ⟨hs.2,by omega⟩)
 rw [List.mem_singleton] at hi
 subst hi
 rw [hs.1] at hP
 exact ⟨(accR_two hp _).2 ⟨x,TR_PT.2 hP,hg⟩,hlt⟩
def cntStep (p:Pz) (k:Nat) (C:Nat->Nat) (t i:Nat):Nat:=(List.range i).foldl (fun n s=>if (aftP p (bit s) (k:Int)).testBit t=true then min 1000000 (n+C s) else n) 0
theorem cap_fold {f:Nat->Nat} {b:Nat->Bool} {C:Nat->Nat} (hC:∀ s,C s=min 1000000 (f s)):∀ (l:List Nat) (n m:Nat),n=min 1000000 m->l.foldl (fun n s=>if b s=true then min 1000000 (n+C s) else n) n=min 1000000 (m+sumN (fun s=>if b s=true then f s else 0) l)
 | [],n,m,h=>by simpa [sumN] using h
 | x :: l,n,m,h=>by
   rw [List.foldl_cons,sumN_cons]
   by_cases hb:b x=true
   · rw [if_pos hb,if_pos hb,cap_fold hC l (min 1000000 (n+C x)) (m+f x) (by rw [hC x];omega)]
     congr 1;omega
   · rw [if_neg hb,if_neg hb,cap_fold hC l n m h]
     congr 1;omega
theorem cntStep_eq {p:Pz} {k:Nat} {w:List Nat} {C:Nat->Nat} (hC:∀ s,C s=min 1000000 (nR p w s)) (t:Nat):cntStep p k C t (p.lets.length+1)=min 1000000 (nR p (k :: w) t):=by
 rw [cntStep,nR,cap_fold (f:=nR p w) (b:=fun s=>(aftP p (bit s) (k:Int)).testBit t) hC _ 0 0 (by simp),Nat.zero_add]
end Go.Proofs.Ythnapjodmndlaaa
