/- Parts of the proof, joined into one text: WitR, SrqM, SrqA, SrchP, DsbM, WitA, SrqP, CntI. -/
import Derived.Test.YtjpdembmchnbgaaGreatOnlzGFEEKDAD
import Derived.Test.YtjpdembmchnbgaaGreatOnlzADEMAGKM
import Derived.Test.YtjpdembmchnbgaaGreatOnlzBGBMJIIM
import Derived.Test.YtjpdembmchnbgaaGreatOnlzNLACFOPA
set_option linter.unusedVariables false
set_option linter.unusedSimpArgs false
namespace Go.Proofs.YtjpdembmchnbgaaGreat
open Go.ChangeShapes Go.WideShapes Go.ChangeAt Go.RowKit
def sumK {α:Type} (k:α->Nat) (l:List α):Nat:=(l.map k).sum
theorem sumK_cons {α:Type} (k:α->Nat) (p:α) (l:List α):sumK k (p :: l)=k p+sumK k l:=by simp [sumK]
theorem passK_sum {α:Type} (k:α->Nat):∀ (l:List α) (r:Nat),r<=1000000->passK k l r=min 1000000 (r+sumK k l)
 | [],r,h=>by simp [passK,sumK];omega
 | p :: l,r,h=>by
   rw [sumK_cons]
   show passK k l (addK k r p)=_
   rw [passK_sum k l (addK k r p) (Nat.min_le_left _ _),addK]
   omega
theorem cw_sum (g:Gr) (a:Au) (y:Int) (f x s:Nat):cw g a y (f+1) x s=min 1000000 (sumK (cwAt g a y f x s) (arcsOf g (x:Int))):=by
 have h:=passK_sum (cwAt g a y f x s) (arcsOf g (x:Int)) 0 (by omega)
 rw [Nat.zero_add] at h
 rw [<- h]
 rfl
theorem cwI_hit {g:Gr} {a:Au} {x y:Int} (h:cntOk g a x y=true) (f:Nat):0 < cwI g a x y f ↔ toG (nextI g a) (fun i=>i ∈ goalsL g a y.toNat) f (x.toNat * a.accept.length+a.start.toNat):=by
 obtain ⟨⟨hx0,hx1⟩,⟨hy0,hy1⟩,hg,ha⟩:=cntOk_iff.1 h
 have hst:=(auOk_iff.1 ha).2.1
 obtain ⟨y,rfl⟩:=Int.eq_ofNat_of_zero_le hy0
 rw [cwI,cw_pos ha (bit_lt (by omega)),Int.toNat_natCast]
 constructor
 · rintro ⟨q,hq,hh⟩
   rw [bit_test,decide_eq_true_eq] at hq
   subst hq
   exact hh
 · intro hh
   exact ⟨a.start.toNat,by rw [bit_test];simp,hh⟩
theorem short_dist {g:Gr} {a:Au} {x y:Int} (h:cntOk g a x y=true):IsDist (nextI g a) (fun i=>i ∈ goalsL g a y.toNat) (x.toNat * a.accept.length+a.start.toNat) (shortLen g a x y):=by
 obtain ⟨⟨hx0,hx1⟩,⟨hy0,hy1⟩,hg,ha⟩:=cntOk_iff.1 h
 have hd:=shortLen_dist hg ha (show x.toNat < g.vals.length by omega) (show y.toNat < g.vals.length by omega)
 rwa [Int.toNat_of_nonneg hx0,Int.toNat_of_nonneg hy0] at hd
/-- as goesL; and each step's key is new -/
def goesK (g:Gr) (a:Au) (y:Int) (sm:Bool):Nat->Nat->List Int->List St->Prop
 | x,s,_,[]=>(x:Int)=y/\acc a s (valAt g x)=true
 | x,s,us,st :: L=>∃ p ∈ arcsOf g (x:Int),p.1=st/\us.contains (keyA sm p)=false/\goesK g a y sm p.2.2.toNat (aft a s (valAt g x) p.2.1.toNat) (us ++ [keyA sm p]) L
theorem goesK_L {g:Gr} {a:Au} {y:Int} {sm:Bool}:∀ {L:List St} {x s:Nat} {us:List Int},goesK g a y sm x s us L->goesL g a y x s L
 | [],_,_,_,h=>h
 | _ :: _,_,_,_,⟨p,hp,h1,_,h2⟩=>⟨p,hp,h1,goesK_L h2⟩
theorem sumK_mem {α:Type} {k:α->Nat} {p:α}:∀ {l:List α},p ∈ l->k p<=sumK k l
 | q :: l,h=>by
   rw [sumK_cons]
   rcases List.mem_cons.1 h with rfl | h
   · omega
   · have:=sumK_mem (k:=k) h
     omega
theorem goes_cw {g:Gr} {a:Au} {y:Int}:∀ {L:List St} {x s:Nat},goesL g a y x s L->0 < cw g a y L.length x s
 | [],x,s,h=>by
   rw [List.length_nil,cw,if_pos (by rw [Bool.and_eq_true,decide_eq_true_eq];exact h)]
   omega
 | st :: L,x,s,⟨p,hp,_,h⟩=>by
   have h1:=goes_cw h
   have h2:cwAt g a y L.length x s p<=sumK (cwAt g a y L.length x s) (arcsOf g (x:Int)):=sumK_mem hp
   rw [cwAt] at h2
   rw [List.length_cons,cw_sum]
   omega
theorem goes_pos {g:Gr} {a:Au} {y:Int} {L:List St} {x:Nat} (h:goesL g a y x 0 L):False:=by
 have:=goes_cw h
 rw [cw_none] at this
 omega
theorem dist_at {g:Gr} {a:Au} {x y q:Nat} (hg:grOk g=true) (ha:auOk a=true) (hx:x < g.vals.length) (hy:y < g.vals.length) (hq:q < a.accept.length) :
 IsDist (nextI g a) (fun i=>i ∈ goalsL g a y) (x * a.accept.length+q) ((distTo g a (y:Int)).getD (x * a.accept.length+q) 0):=by
 have hd:(wi (y:Int) 0 ((g.vals.length:Int) - 1) && (grOk g && auOk a))=true:=by
  simp only [Bool.and_eq_true]
  exact ⟨by rw [wi_iff];omega,hg,ha⟩
 have hN:∀ i k,i < g.vals.length * a.accept.length->k ∈ nextI g a i->k < g.vals.length * a.accept.length:=fun i k _ hk=>nextV_lt (grOk_iff.1 hg) ha hk
 have hfs:∀ i ∈ goalsL g a y,i < g.vals.length * a.accept.length:=fun i hi=>by
  obtain ⟨s,hs,_,rfl⟩:=mem_goalsL.1 hi
  calc y * a.accept.length+s < y * a.accept.length+a.accept.length:=by omega
   _=(y+1) * a.accept.length:=by rw [Nat.add_mul,Nat.one_mul]
   _<=_:=Nat.mul_le_mul_right _ hy
 have hi:x * a.accept.length+q < g.vals.length * a.accept.length:=by
  calc x * a.accept.length+q < x * a.accept.length+a.accept.length:=by omega
   _=(x+1) * a.accept.length:=by rw [Nat.add_mul,Nat.one_mul]
   _<=_:=Nat.mul_le_mul_right _ hx
 rw [distTo,if_pos hd,Int.toNat_natCast]
 exact spread_dist hfs hN _ hi
theorem hope_of {g:Gr} {a:Au} {x y s lf:Nat} {L:List St} (hg:grOk g=true) (ha:auOk a=true) (hx:x < g.vals.length) (hy:y < g.vals.length) (hs:s < 2 ^ a.accept.length)
 (h:goesL g a (y:Int) x s L) (hl:L.length<=lf):hope (distTo g a (y:Int)) a.accept.length x s lf=true:=by
 obtain ⟨q,hq,hh⟩:=(cw_pos ha hs).1 (goes_cw h)
 have hqn:=test_lt hs hq
 rw [hope,List.any_eq_true]
 refine ⟨q,mem_mem.2 ⟨by have:=(auOk_iff.1 ha).1.2;omega,hq⟩,?_⟩
 rw [hopeC,wi_iff]
 rcases dist_at hg ha hx hy hqn with ⟨-,hn⟩ | ⟨h0,-,h2⟩
 · exact absurd hh (hn _)
 · have:¬ L.length < ((distTo g a (y:Int)).getD (x * a.accept.length+q) 0).toNat:=fun hlt=>h2 _ hlt hh
   omega
section
variable {g:Gr} {a:Au} {y:Int} {B:Nat} {D:List Int} {sm:Bool}
theorem visC_sound {rec:Nat->Nat->List Int->Nat->Vis} {x s lf:Nat} {us:List Int} (hrec:∀ x s us c r,(rec x s us c).1=some r->goesK g a y sm x s us r) :
 ∀ (l:List Arc) (c:Nat) (r:List St),(∀ p ∈ l,p ∈ arcsOf g (x:Int))->(visC g a D sm rec x s us lf l c).1=some r->goesK g a y sm x s us r
 | [],c,r,_,h=>by cases h
 | p :: l,c,r,hl,h=>by
   rw [visC] at h
   split at h
   · exact visC_sound hrec l c r (fun q hq=>hl q (List.mem_cons_of_mem _ hq)) h
   · rename_i hsk
     have h1:=hrec p.2.2.toNat (aft a s (valAt g x) p.2.1.toNat) (us ++ [keyA sm p]) c
     split at h
     · rename_i r' c' e
       injection h with h
       subst h
       rw [e] at h1
       refine ⟨p,hl p List.mem_cons_self,rfl,?_,h1 r' rfl⟩
       rw [skipA,Bool.or_eq_true,Bool.or_eq_true] at hsk
       cases hc:us.contains (keyA sm p) with
       | false=>rfl
       | true=>exact absurd (.inr (.inl hc)) hsk
     · exact visC_sound hrec l _ r (fun q hq=>hl q (List.mem_cons_of_mem _ hq)) h
theorem visit_sound:∀ (lf x s:Nat) (us:List Int) (c:Nat) (r:List St),(visit g a y B D sm lf x s us c).1=some r->goesK g a y sm x s us r:=by
 intro lf
 induction lf with
 | zero =>
   intro x s us c r h
   rw [visit] at h
   split at h
   · cases h
   · simp only at h
     split at h
     · rename_i hc
       injection h with h
       rw [<- h]
       rw [Bool.and_eq_true,decide_eq_true_eq] at hc
       exact hc
     · cases h
 | succ lf ih =>
   intro x s us c r h
   rw [visit] at h
   split at h
   · cases h
   · exact visC_sound ih _ _ r (fun p hp=>hp) h
end
theorem arcs_node {g:Gr} (hg:grOk g=true) {x:Int} {p:Arc} (hp:p ∈ arcsOf g x):p.2.2.toNat < g.vals.length:=by
 have:=arc_range (grOk_iff.1 hg) hp
 omega
section
variable {g:Gr} {a:Au} {y B:Nat} {sm:Bool} (hg:grOk g=true) (ha:auOk a=true) (hy:y < g.vals.length)
include hg ha hy
theorem visC_full {rec:Nat->Nat->List Int->Nat->Vis} {x s lf:Nat} {us:List Int} (hle:∀ x s us c,c<=B->(rec x s us c).2<=B/\c<=(rec x s us c).2)
 (hrec:∀ x s us c,c<=B->(rec x s us c).1=none->(rec x s us c).2 < B->x < g.vals.length->s < 2 ^ a.accept.length->∀ L:List St,L.length=lf->¬ goesK g a (y:Int) sm x s us L) :
 ∀ (l:List Arc) (c:Nat),c<=B->(∀ p ∈ l,p ∈ arcsOf g (x:Int))->(visC g a (distTo g a (y:Int)) sm rec x s us lf l c).1=none->(visC g a (distTo g a (y:Int)) sm rec x s us lf l c).2 < B ->
   ∀ p ∈ l,us.contains (keyA sm p)=false->∀ L:List St,L.length=lf->¬ goesK g a (y:Int) sm p.2.2.toNat (aft a s (valAt g x) p.2.1.toNat) (us ++ [keyA sm p]) L
 | [],c,_,_,_,_=>by intro p hp;cases hp
 | q :: l,c,hc,hl,h1,h2=>by
   have hnq:=arcs_node hg (hl q List.mem_cons_self)
   have hl':∀ p ∈ l,p ∈ arcsOf g (x:Int):=fun p hp=>hl p (List.mem_cons_of_mem _ hp)
   rw [visC] at h1 h2
   split at h1
   · rename_i hsk
     rw [if_pos hsk] at h2
     have ih:=visC_full hle hrec l c hc hl' h1 h2
     intro p hp hu L hL hG
     rcases List.mem_cons.1 hp with rfl | hp
     · rw [skipA,hu,Bool.false_or,Bool.or_eq_true] at hsk
       rcases hsk with h0 | h0
       · rw [decide_eq_true_eq] at h0
         rw [h0] at hG
         exact goes_pos (goesK_L hG)
       · rw [hope_of hg ha hnq hy (aft_lt ha _ _ _) (goesK_L hG) (by omega)] at h0
         cases h0
     · exact ih p hp hu L hL hG
   · rename_i hsk
     rw [if_neg hsk] at h2
     have hl1:=hle q.2.2.toNat (aft a s (valAt g x) q.2.1.toNat) (us ++ [keyA sm q]) c hc
     have hr1:=hrec q.2.2.toNat (aft a s (valAt g x) q.2.1.toNat) (us ++ [keyA sm q]) c hc
     split at h1
     · cases h1
     · rename_i c' e
       rw [e] at h2 hl1 hr1
       simp only at h2 hl1 hr1
       have h3:=visC_le (g:=g) (a:=a) (D:=distTo g a (y:Int)) (sm:=sm) (x:=x) (s:=s) (us:=us) (lf:=lf) hle l c' hl1.1
       have ih:=visC_full hle hrec l c' hl1.1 hl' h1 h2
       intro p hp hu L hL hG
       rcases List.mem_cons.1 hp with rfl | hp
       · exact hr1 trivial (by omega) hnq (aft_lt ha _ _ _) L hL hG
       · exact ih p hp hu L hL hG
theorem visit_full:∀ (lf x s:Nat) (us:List Int) (c:Nat),c<=B->(visit g a (y:Int) B (distTo g a (y:Int)) sm lf x s us c).1=none->(visit g a (y:Int) B (distTo g a (y:Int)) sm lf x s us c).2 < B ->
 x < g.vals.length->s < 2 ^ a.accept.length->∀ L:List St,L.length=lf->¬ goesK g a (y:Int) sm x s us L:=by
 intro lf
 induction lf with
 | zero =>
   intro x s us c hc h1 h2 hx hs L hL hG
   obtain rfl:=List.length_eq_zero_iff.1 hL
   rw [visit] at h1 h2
   split at h1
   · rename_i hb
     rw [if_pos hb] at h2
     simp only at h2
     omega
   · simp only at h1
     have e:(decide ((x:Int)=(y:Int)) && acc a s (valAt g x))=true:=by
      rw [Bool.and_eq_true,decide_eq_true_eq]
      exact hG
     rw [if_pos e] at h1
     cases h1
 | succ lf ih =>
   intro x s us c hc h1 h2 hx hs L hL hG
   rw [visit] at h1 h2
   split at h1
   · rename_i hb
     rw [if_pos hb] at h2
     simp only at h2
     omega
   · rename_i hb
     rw [if_neg hb] at h2
     cases L with
     | nil=>cases hL
     | cons st L =>
       obtain ⟨p,hp,-,hu,hG⟩:=hG
       exact visC_full hg ha hy (visit_le lf) ih (arcsOf g (x:Int)) (c+1) (by omega) (fun p hp=>hp) h1 h2 p hp hu L (by simpa using hL) hG
end
theorem srchF_cases {g:Gr} {a:Au} {y:Int} {B:Nat} {D:List Int} {sm:Bool} {x s:Nat} {us:List Int}:∀ (k lf c:Nat),
 (∃ r,srchF g a y B D sm x s us k lf c=(((x:Int),r),1)/\goesK g a y sm x s us r/\r.length < lf+k) ∨ srchF g a y B D sm x s us k lf c=((0,[]),2) ∨ srchF g a y B D sm x s us k lf c=((0,[]),3)
 | 0,_,_=>.inr (.inl rfl)
 | k+1,lf,c=>by
   have ih:∀ c,(∃ r,srchF g a y B D sm x s us k (lf+1) c=(((x:Int),r),1)/\goesK g a y sm x s us r/\r.length < lf+(k+1)) ∨ srchF g a y B D sm x s us k (lf+1) c=((0,[]),2) ∨ srchF g a y B D sm x s us k (lf+1) c=((0,[]),3):=fun c=>by
    have:=srchF_cases (g:=g) (a:=a) (y:=y) (B:=B) (D:=D) (sm:=sm) (x:=x) (s:=s) (us:=us) k (lf+1) c
    rwa [show lf+1+k=lf+(k+1) by omega] at this
   cases hh:hope D a.accept.length x s lf with
   | false=>rw [srchF_no hh];exact ih c
   | true =>
     rcases hv:visit g a y B D sm lf x s us c with ⟨o,c'⟩
     cases o with
     | some r =>
       refine .inl ⟨r,srchF_yes hh hv,visit_sound lf x s us c r (by rw [hv]),?_⟩
       have:=visit_len (g:=g) (a:=a) (y:=y) (B:=B) (D:=D) (sm:=sm) lf x s us c r (by rw [hv])
       omega
     | none =>
       by_cases hc:B<=c'
       · exact .inr (.inr (srchF_out hh hv hc))
       · rw [srchF_on hh hv hc];exact ih c'
theorem srchF_none {g:Gr} {a:Au} {y B:Nat} {sm:Bool} (hg:grOk g=true) (ha:auOk a=true) (hy:y < g.vals.length) {x s:Nat} {us:List Int} (hx:x < g.vals.length) (hs:s < 2 ^ a.accept.length):∀ (k lf c:Nat),c<=B ->
 (srchF g a (y:Int) B (distTo g a (y:Int)) sm x s us k lf c).2=2->∀ L:List St,lf<=L.length->L.length < lf+k->¬ goesK g a (y:Int) sm x s us L
 | 0,lf,c,_,_=>fun L h1 h2=>by omega
 | k+1,lf,c,hc,h=>by
   intro L h1 h2 hG
   cases hh:hope (distTo g a (y:Int)) a.accept.length x s lf with
   | false =>
     rw [srchF_no hh] at h
     by_cases hl:L.length=lf
     · rw [hope_of hg ha hx hy hs (goesK_L hG) (by omega)] at hh
       cases hh
     · exact srchF_none hg ha hy hx hs k (lf+1) c hc h L (by omega) (by omega) hG
   | true =>
     rcases hv:visit g a (y:Int) B (distTo g a (y:Int)) sm lf x s us c with ⟨o,c'⟩
     cases o with
     | some r =>
       rw [srchF_yes hh hv] at h
       simp at h
     | none =>
       have hle:=visit_le (g:=g) (a:=a) (y:=(y:Int)) (B:=B) (D:=distTo g a (y:Int)) (sm:=sm) lf x s us c hc
       have hf:=visit_full (sm:=sm) hg ha hy lf x s us c hc
       rw [hv] at hle hf
       simp only at hle hf
       by_cases hb:B<=c'
       · rw [srchF_out hh hv hb] at h
         simp at h
       · rw [srchF_on hh hv hb] at h
         by_cases hl:L.length=lf
         · exact hf trivial (by omega) hx hs L hl hG
         · exact srchF_none hg ha hy hx hs k (lf+1) c' (by omega) h L (by omega) (by omega) hG
theorem nodup_subK:∀ (s l:List Int),s.Nodup->(∀ x ∈ s,x ∈ l)->s.length<=l.length
 | [],_,_,_=>Nat.zero_le _
 | x :: s,l,hn,hm=>by
   have hx:=hm x List.mem_cons_self
   have h1:=nodup_subK s (l.erase x) (List.nodup_cons.1 hn).2 (fun z hz=>by
    refine (List.mem_erase_of_ne (fun e=>?_)).2 (hm z (List.mem_cons_of_mem _ hz))
    subst e
    exact (List.nodup_cons.1 hn).1 hz)
   rw [List.length_erase_of_mem hx] at h1
   have:=List.length_pos_of_mem hx
   rw [List.length_cons]
   omega
theorem goesK_len {g:Gr} {a:Au} {y:Int} {sm:Bool} {K:List Int} (hK:∀ (x:Nat) (p:Arc),p ∈ arcsOf g (x:Int)->keyA sm p ∈ K) :
 ∀ {L:List St} {x s:Nat} {us:List Int},us.Nodup->(∀ k ∈ us,k ∈ K)->goesK g a y sm x s us L->L.length+us.length<=K.length
 | [],_,_,us,h1,h2,_=>by
   have:=nodup_subK us K h1 h2
   simpa using this
 | _ :: L,x,s,us,h1,h2,⟨p,hp,_,hu,h⟩=>by
   have hk:=hK x p hp
   have hu':keyA sm p ∉ us:=fun hm=>by
    rw [List.contains_iff_mem.2 hm] at hu
    cases hu
   have h3:(us ++ [keyA sm p]).Nodup:=by
    rw [List.nodup_append]
    refine ⟨h1,by simp,fun b hb c hc=>?_⟩
    rw [List.mem_singleton] at hc
    subst hc
    exact fun e=>hu' (e ▸ hb)
   have:=goesK_len hK h3 (fun k hk'=>by
    rcases List.mem_append.1 hk' with h | h
    · exact h2 k h
    · rw [List.mem_singleton] at h;exact h ▸ hk) h
   rw [List.length_append,List.length_singleton] at this
   rw [List.length_cons]
   omega
theorem contains_no {l:List Int} {k:Int}:l.contains k=false ↔ k ∉ l:=by
 rw [<- Bool.not_eq_true,List.contains_iff_mem]
theorem goesK_trail {g:Gr} {a:Au} {y:Int}:∀ {L:List St} {x s:Nat} {us:List Int},goesK g a y false x s us L->(L.map (·.1)).Nodup/\∀ e ∈ us,e ∉ L.map (·.1)
 | [],_,_,_,_=>⟨by simp,by simp⟩
 | st :: L,x,s,us,⟨p,hp,h1,hu,h⟩=>by
   obtain ⟨h2,h3⟩:=goesK_trail h
   have hk:keyA false p=st.1:=by rw [<- h1];rfl
   rw [hk,contains_no] at hu
   rw [hk] at h3
   rw [List.map_cons,List.nodup_cons]
   refine ⟨⟨h3 _ (by simp),h2⟩,fun e he hm=>?_⟩
   rcases List.mem_cons.1 hm with h4 | h4
   · exact hu (h4 ▸ he)
   · exact h3 e (List.mem_append_left _ he) h4
theorem trail_goesK {g:Gr} {a:Au} {y:Int}:∀ {L:List St} {x s:Nat} {us:List Int},goesL g a y x s L->(L.map (·.1)).Nodup->(∀ e ∈ us,e ∉ L.map (·.1))->goesK g a y false x s us L
 | [],_,_,_,h,_,_=>h
 | st :: L,x,s,us,⟨p,hp,h1,h⟩,h2,h3=>by
   rw [List.map_cons,List.nodup_cons] at h2
   have hk:keyA false p=st.1:=by rw [<- h1];rfl
   refine ⟨p,hp,h1,?_,trail_goesK h h2.2 fun e he hm=>?_⟩
   · rw [hk,contains_no]
     exact fun hm=>h3 _ hm (by simp)
   · rcases List.mem_append.1 he with h4 | h4
     · exact h3 e h4 (by rw [List.map_cons];exact List.mem_cons_of_mem _ hm)
     · rw [List.mem_singleton,hk] at h4
       exact h2.1 (h4 ▸ hm)
theorem goesK_simple {g:Gr} (hg:grOk g=true) {a:Au} {y:Int}:∀ {L:List St} {x s:Nat} {us:List Int},goesK g a y true x s us L->(L.map (stepTo g)).Nodup/\∀ e ∈ us,e ∉ L.map (stepTo g)
 | [],_,_,_,_=>⟨by simp,by simp⟩
 | st :: L,x,s,us,⟨p,hp,h1,hu,h⟩=>by
   obtain ⟨h2,h3⟩:=goesK_simple hg h
   have hk:keyA true p=stepTo g st:=by rw [<- h1,(arc_steps hg hp).2.1];rfl
   rw [hk,contains_no] at hu
   rw [hk] at h3
   rw [List.map_cons,List.nodup_cons]
   refine ⟨⟨h3 _ (by simp),h2⟩,fun e he hm=>?_⟩
   rcases List.mem_cons.1 hm with h4 | h4
   · exact hu (h4 ▸ he)
   · exact h3 e (List.mem_append_left _ he) h4
/-- two arcs of one edge end in each other's ends -/
theorem arc_same {g:Gr} (hgo:grOk g=true) {x x':Int} {p q:Arc} (hp:p ∈ arcsOf g x) (hq:q ∈ arcsOf g x') (h:q.1.1=p.1.1):q.2.2=p.2.2 ∨ q.2.2=x:=by
 have hg:=grOk_iff.1 hgo
 obtain ⟨e,he,hpe⟩:=List.mem_flatMap.1 hp
 obtain ⟨f,hf,hqf⟩:=List.mem_flatMap.1 hq
 have e1:e.1=p.1.1:=by rcases mem_arcE.1 hpe with ⟨-,rfl⟩ | ⟨-,rfl⟩ <;> rfl
 have f1:f.1=q.1.1:=by rcases mem_arcE.1 hqf with ⟨-,rfl⟩ | ⟨-,rfl⟩ <;> rfl
 obtain ⟨i,hi,hie⟩:=List.getElem_of_mem he
 obtain ⟨j,hj,hje⟩:=List.getElem_of_mem hf
 have hi2:=edgeIdx_at hg (show g.edges[i]?=some e by rw [<- hie];exact List.getElem?_eq_getElem hi)
 have hj2:=edgeIdx_at hg (show g.edges[j]?=some f by rw [<- hje];exact List.getElem?_eq_getElem hj)
 rw [f1,h,<- e1,hi2] at hj2
 obtain rfl:i=j:=by omega
 obtain rfl:e=f:=hie.symm.trans hje
 rcases mem_arcE.1 hpe with ⟨h1,rfl⟩ | ⟨h1,rfl⟩ <;> rcases mem_arcE.1 hqf with ⟨h2,rfl⟩ | ⟨h2,rfl⟩ <;> first | exact .inl rfl | exact .inr h1
theorem simple_trail {g:Gr} (hg:grOk g=true) {a:Au} {y:Int}:∀ {L:List St} {x s:Nat} {us es:List Int},(x:Int) ∈ us->(∀ (x':Nat) (q:Arc),q ∈ arcsOf g (x':Int)->q.1.1 ∈ es->q.2.2 ∈ us)->goesK g a y true x s us L->goesK g a y false x s es L
 | [],_,_,_,_,_,_,h=>h
 | st :: L,x,s,us,es,hx,he,⟨p,hp,h1,hu,h⟩=>by
   rw [contains_no] at hu
   have hr:=arc_range (grOk_iff.1 hg) hp
   have hp2:((p.2.2.toNat:Nat):Int)=p.2.2:=by omega
   refine ⟨p,hp,h1,?_,simple_trail hg (us:=us ++ [keyA true p]) ?_ ?_ h⟩
   · rw [contains_no]
     exact fun hm=>hu (he x p hp hm)
   · rw [hp2];exact List.mem_append_right _ (List.mem_singleton.2 rfl)
   · intro x' q hq hm
     rcases List.mem_append.1 hm with hm | hm
     · exact List.mem_append_left _ (he x' q hq hm)
     · rcases arc_same hg hp hq (List.mem_singleton.1 hm) with h2 | h2
       · rw [h2];exact List.mem_append_right _ (List.mem_singleton.2 rfl)
       · rw [h2];exact List.mem_append_left _ hx
def trailN (k:Wk):Prop:=(k.2.map (·.1)).Nodup
def simpleN (g:Gr) (k:Wk):Prop:=(nodesL g k).Nodup
theorem srchOk_iff {g:Gr} {a:Au} {x y B:Int}:srchOk g a x y B=true ↔ cntOk g a x y=true/\1<=B/\B<=20000:=by
 rw [srchOk,Bool.and_eq_true,wi_iff]
theorem srchL_found {g:Gr} {a:Au} {x y B:Int} {sm:Bool} {w:Wk} (h:srchL g a x y B sm=(w,1)):cntOk g a x y=true/\w.1=x/\w.2.length<=12/\goesK g a y sm x.toNat (bit a.start.toNat) (srchU sm x.toNat) w.2:=by
 rw [srchL] at h
 split at h
 · rename_i hk
   obtain ⟨hc,-⟩:=srchOk_iff.1 hk
   obtain ⟨⟨hx0,hx1⟩,⟨hy0,hy1⟩,hg,ha⟩:=cntOk_iff.1 hc
   have hn5:=(grOk_iff.1 hg).n5
   have he12:=(grOk_iff.1 hg).e12
   have hN:srchN g sm<=13:=by unfold srchN;split <;> omega
   rcases srchF_cases (g:=g) (a:=a) (y:=y) (B:=B.toNat) (D:=distTo g a y) (sm:=sm) (x:=x.toNat) (s:=bit a.start.toNat) (us:=srchU sm x.toNat) (srchN g sm) 0 0 with ⟨r,e,h1,h2⟩ | e | e
   · rw [e] at h
     injection h with h _
     subst h
     refine ⟨hc,by show ((x.toNat:Nat):Int)=x;omega,by show r.length<=12;omega,h1⟩
   · rw [e] at h;simp at h
   · rw [e] at h;simp at h
 · simp at h
theorem srchL_none {g:Gr} {a:Au} {x y B:Int} {sm:Bool} (h:(srchL g a x y B sm).2=2):cntOk g a x y=true/\∀ L:List St,¬ goesK g a y sm x.toNat (bit a.start.toNat) (srchU sm x.toNat) L:=by
 rw [srchL] at h
 split at h
 · rename_i hk
   obtain ⟨hc,-⟩:=srchOk_iff.1 hk
   obtain ⟨⟨hx0,hx1⟩,⟨hy0,hy1⟩,hg,ha⟩:=cntOk_iff.1 hc
   refine ⟨hc,fun L hG=>?_⟩
   have hst:=(auOk_iff.1 ha).2.1
   have hL:L.length < srchN g sm:=by
    cases sm with
    | false =>
      have:=goesK_len (K:=g.edges.map (·.1)) (fun z p hp=>by
       obtain ⟨e,he,hpe⟩:=List.mem_flatMap.1 hp
       refine List.mem_map.2 ⟨e,he,?_⟩
       rcases mem_arcE.1 hpe with ⟨-,rfl⟩ | ⟨-,rfl⟩ <;> rfl) (by simp [srchU]) (by simp [srchU]) hG
      simp [srchU] at this
      show L.length < g.edges.length+1
      omega
    | true =>
      have:=goesK_len (K:=(List.range g.vals.length).map (fun (i:Nat)=>(i:Int))) (fun z p hp=>by
       have:=arc_range (grOk_iff.1 hg) hp
       exact List.mem_map.2 ⟨p.2.2.toNat,List.mem_range.2 (by omega),by show ((p.2.2.toNat:Nat):Int)=p.2.2;omega⟩) (by simp [srchU]) (by
        intro k hk
        rw [srchU,if_pos rfl,List.mem_singleton] at hk
        subst hk
        exact List.mem_map.2 ⟨x.toNat,List.mem_range.2 (by omega),rfl⟩) hG
      simp [srchU] at this
      show L.length < g.vals.length
      omega
   have hy2:((y.toNat:Nat):Int)=y:=by omega
   have:=srchF_none (B:=B.toNat) (sm:=sm) (us:=srchU sm x.toNat) hg ha (show y.toNat < g.vals.length by omega) (show x.toNat < g.vals.length by omega) (bit_lt (show a.start.toNat < a.accept.length by omega)) (srchN g sm) 0 0 (by omega)
    (by rw [hy2];exact h) L (by omega) (by omega)
   rw [hy2] at this
   exact this hG
 · simp at h
theorem wit_goes0 {g:Gr} {a:Au} {x y:Int} {k:Wk} (h:isWit g a x y k=true):k.1=x/\goesL g a y x.toNat (bit a.start.toNat) k.2:=by
 have h1:=(isWit_parts h).1
 have h2:=wit_goes h k.2.length (Nat.le_refl _)
 rw [Nat.sub_self,List.drop_zero] at h2
 refine ⟨h1,?_⟩
 rw [<- h1]
 exact h2
theorem goes_short {g:Gr} {a:Au} {x y:Int} (h:cntOk g a x y=true) {L:List St} (hL:goesL g a y x.toNat (bit a.start.toNat) L):0<=shortLen g a x y:=by
 have h1:=(cwI_hit h L.length).1 (goes_cw hL)
 rcases short_dist h with ⟨-,hd⟩ | ⟨d0,-,-⟩
 · exact absurd h1 (hd _)
 · exact d0
theorem found_wit {g:Gr} {a:Au} {x y B:Int} {sm:Bool} {w:Wk} (h:srchL g a x y B sm=(w,1)):isWit g a x y w=true/\0<=shortLen g a x y:=by
 obtain ⟨hc,rfl,h2,h3⟩:=srchL_found h
 obtain ⟨hx,hy,hg,ha⟩:=cntOk_iff.1 hc
 exact ⟨goes_wit hg ha hx (by omega) (goesK_L h3),goes_short hc (goesK_L h3)⟩
theorem none_trail {g:Gr} {a:Au} {x y B:Int} (h:(srchL g a x y B false).2=2) {u:Wk} (hu:isWit g a x y u=true):¬ trailN u:=fun hn =>
 (srchL_none h).2 u.2 (trail_goesK (wit_goes0 hu).2 hn (by simp [srchU]))
theorem found_simple {g:Gr} {a:Au} {x y B:Int} {w:Wk} (h:srchL g a x y B true=(w,1)):simpleN g w/\trailN w:=by
 obtain ⟨hc,rfl,h2,h3⟩:=srchL_found h
 obtain ⟨hx,hy,hg,ha⟩:=cntOk_iff.1 hc
 obtain ⟨h4,h5⟩:=goesK_simple hg h3
 have hU:srchU true w.1.toNat=[w.1]:=by rw [srchU,if_pos rfl];congr 1;omega
 rw [hU] at h3 h5
 refine ⟨?_,?_⟩
 · rw [simpleN,nodesL,List.nodup_cons]
   exact ⟨h5 _ (by simp),h4⟩
 · exact (goesK_trail (simple_trail hg (es:=[]) (by rw [List.mem_singleton];omega) (by simp) h3)).1
/-- what a simple search finds, a trail search finds or gives up -/
theorem simple_then_trail {g:Gr} {a:Au} {x y B C:Int} (h:(srchL g a x y B true).2=1):¬ (srchL g a x y C false).2=2:=by
 intro h2
 have e:srchL g a x y B true=((srchL g a x y B true).1,1):=by rw [<- h]
 exact none_trail h2 (found_wit e).1 (found_simple e).2
def srCode (f:Nat->Nat->Int) (x:Nat) (st:Option (List Pr)) (y:Nat):Option (List Pr) :=
 match st with
 | none=>none
 | some L=>if f x y=1 then some (L ++ [((x:Int),(y:Int))]) else if f x y=3 then none else some L
def srRowF (f:Nat->Nat->Int) (x:Nat) (st:Option (List Pr)) (j:Nat):Option (List Pr):=(List.range j).foldl (srCode f x) st
def srAllF (f:Nat->Nat->Int) (n i:Nat):Option (List Pr):=(List.range i).foldl (fun st x=>srRowF f x st n) (some [])
section
variable {f:Nat->Nat->Int} {x n i j:Nat} {st:Option (List Pr)} {L:List Pr}
theorem srRowF_succ:srRowF f x st (j+1)=srCode f x (srRowF f x st j) j:=by simp [srRowF,List.range_succ]
theorem srAllF_succ:srAllF f n (i+1)=srRowF f i (srAllF f n i) n:=by simp [srAllF,List.range_succ]
theorem srRowF_zero:srRowF f x st 0=st:=rfl
theorem srRowF_one (h:srRowF f x st j=some L) (hc:f x j=1):srRowF f x st (j+1)=some (L ++ [((x:Int),(j:Int))]):=by rw [srRowF_succ,h,srCode];rw [if_pos hc]
theorem srRowF_on (h:srRowF f x st j=some L) (hc:¬ f x j=1) (hc3:¬ f x j=3):srRowF f x st (j+1)=some L:=by rw [srRowF_succ,h,srCode];rw [if_neg hc,if_neg hc3]
theorem srRowF_out (h:srRowF f x st j=some L) (hc:f x j=3):srRowF f x st (j+1)=none:=by rw [srRowF_succ,h,srCode];rw [if_neg (by omega),if_pos hc]
theorem srRowF_none:∀ k,srRowF f x st j=none->srRowF f x st (j+k)=none
 | 0,h=>h
 | k+1,h=>by rw [<- Nat.add_assoc,srRowF_succ,srRowF_none k h];rfl
theorem srRowF_no:srRowF f x none j=none:=by
 have:=srRowF_none (f:=f) (x:=x) (st:=none) (j:=0) j rfl
 rwa [Nat.zero_add] at this
theorem srAllF_none:∀ k,srAllF f n i=none->srAllF f n (i+k)=none
 | 0,h=>h
 | k+1,h=>by rw [<- Nat.add_assoc,srAllF_succ,srAllF_none k h,srRowF_no]
/-- one unknown search -/
theorem srAllF_out (hi:i < n) (hj:j < n) (h:srRowF f i (srAllF f n i) j=some L) (hc:f i j=3):srAllF f n n=none:=by
 have h1:=srRowF_none (n - (j+1)) (srRowF_out h hc)
 rw [show j+1+(n - (j+1))=n by omega] at h1
 have h2:srAllF f n (i+1)=none:=by rw [srAllF_succ,h1]
 have h3:=srAllF_none (n - (i+1)) h2
 rwa [show i+1+(n - (i+1))=n by omega] at h3
theorem srRowF_len (hst:∀ L,st=some L->L.length<=n):∀ (j:Nat) (L:List Pr),srRowF f x st j=some L->L.length<=n+j
 | 0,L,h=>hst L h
 | j+1,L,h=>by
   rw [srRowF_succ] at h
   cases hr:srRowF f x st j with
   | none=>rw [hr] at h;cases h
   | some M =>
     have:=srRowF_len hst j M hr
     rw [hr,srCode] at h
     split at h
     · injection h with h
       subst h
       rw [List.length_append,List.length_singleton]
       omega
     · split at h
       · cases h
       · injection h with h
         subst h
         omega
theorem srAllF_len:∀ (i:Nat) (L:List Pr),srAllF f n i=some L->L.length<=i * n
 | 0,L,h=>by
   injection h with h
   rw [<- h]
   simp
 | i+1,L,h=>by
   rw [srAllF_succ] at h
   have:=srRowF_len (n:=i * n) (srAllF_len i) n L h
   rw [Nat.succ_mul]
   exact this
end
def srchAk (g:Gr) (a:Au) (B:Int):Bool:=(grOk g && auOk a) && wi B 1 20000
def srchC (g:Gr) (a:Au) (B:Int) (sm:Bool) (x y:Nat):Int:=(srchL g a (x:Int) (y:Int) B sm).2
def srchA (g:Gr) (a:Au) (B:Int) (sm:Bool):Option (List Pr):=if srchAk g a B=true then srAllF (srchC g a B sm) g.vals.length g.vals.length else none
theorem srchA_len {g:Gr} {a:Au} {B:Int} {sm:Bool} {L:List Pr} (h:srchA g a B sm=some L):L.length<=25:=by
 unfold srchA at h
 split at h
 · rename_i hk
   simp only [srchAk,Bool.and_eq_true] at hk
   have h1:=srAllF_len _ _ h
   have h2:=(grOk_iff.1 hk.1.1).n5
   exact Nat.le_trans h1 (Nat.mul_le_mul h2 h2:_<=5 * 5)
 · cases h
theorem Blk.set2 {w:World} {g:Nat} {t:TypeId} {c0 c1:Value} (h:Blk w g t #[c0,c1]) (d0 d1:Value):Blk ((w.setCell ⟨g,0,none⟩ d0).setCell ⟨g,1,none⟩ d1) g t #[d0,d1]:=by
 have h2:=(h.set_ 0 d0).set_ 1 d1
 simpa using h2
theorem Only.set2 (w:World) (g:Nat) (d0 d1:Value):Only g (g+1) w ((w.setCell ⟨g,0,none⟩ d0).setCell ⟨g,1,none⟩ d1):=((Only.refl _ _ _).setCell (p:=⟨g,0,none⟩) (.inl ⟨Nat.le_refl _,Nat.lt_succ_self _⟩) d0).setCell (p:=⟨g,1,none⟩) (.inl ⟨Nat.le_refl _,Nat.lt_succ_self _⟩) d1
theorem spread_from {N:Nat} {next:Nat->List Nat} {fs:List Nat} (hfs:∀ i ∈ fs,i < N) (hn:∀ i k,i < N->k ∈ next i->k < N) (i:Nat) (hi:i < N) :
 IsDist (turnL N next) (fun i=>i ∈ fs) i ((spreadR N next fs).getD i 0):=by
 refine bfs_dist (N:=N) (prev:=next) (next:=turnL N next) (fun i k _ hk h=>mem_turnL.2 ⟨hk,h⟩) (fun i k hk h=>hn k i hk h) (fun i k _ h=>(mem_turnL.1 h).1) (fun i k _ _ h=>(mem_turnL.1 h).2) _ _ _ ?_ (srcD_bfsI hfs).fuel i hi
 refine ⟨srcD_len N fs,fun i hi h0=>?_,fun i hi hg=>?_,fun k hk h0 hq=>?_,fun h r hq i hi=>?_,?_,(srcD_bfsI hfs).queue,fun i hi=>(srcD_bfsI hfs).low i⟩
 · rw [srcD_at hi] at h0 ⊢
   by_cases h:i ∈ fs
   · rw [if_pos h];exact h
   · rw [if_neg h] at h0;omega
 · rw [srcD_at hi,if_pos hg]
 · rw [srcD_at hk,if_neg hq] at h0;omega
 · have hm:h ∈ fs:=by rw [hq];simp
   have e1:=srcD_at (fs:=fs) (hfs h hm)
   rw [if_pos hm] at e1
   rw [srcD_at hi,e1]
   split <;> omega
 · have:∀ l:List Nat,(∀ x ∈ l,x ∈ fs)->l.Pairwise (fun a b=>(srcD N fs).getD a 0<=(srcD N fs).getD b 0):=by
    intro l
    induction l with
    | nil=>intro _;simp
    | cons x l ih =>
      intro hl
      refine List.pairwise_cons.2 ⟨fun y hy=>?_,ih fun z hz=>hl z (List.mem_cons_of_mem _ hz)⟩
      have h1:=hl x (by simp)
      have h2:=hl y (List.mem_cons_of_mem _ hy)
      rw [srcD_at (hfs x h1),srcD_at (hfs y h2),if_pos h1,if_pos h2]
      omega
   exact this fs (fun _ h=>h)
theorem toG_add {next:Nat->List Nat} {goal:Nat->Prop} (n:Nat):∀ (m i:Nat),toG next goal (m+n) i ↔ ∃ k,toG next (fun j=>j=k) m i/\toG next goal n k
 | 0,i=>by
   rw [Nat.zero_add]
   exact ⟨fun h=>⟨i,rfl,h⟩,fun ⟨k,h1,h2⟩=>by cases (show i=k from h1);exact h2⟩
 | m+1,i=>by
   rw [show m+1+n=(m+n)+1 by omega]
   constructor
   · rintro ⟨j,hj,h⟩
     obtain ⟨k,h1,h2⟩:=(toG_add n m j).1 h
     exact ⟨k,⟨j,hj,h1⟩,h2⟩
   · rintro ⟨k,⟨j,hj,h1⟩,h2⟩
     exact ⟨j,hj,(toG_add n m j).2 ⟨k,h1,h2⟩⟩
theorem toG_lt {next:Nat->List Nat} {N:Nat} (hn:∀ i k,i < N->k ∈ next i->k < N) {k:Nat}:∀ (m i:Nat),i < N->toG next (fun j=>j=k) m i->k < N
 | 0,i,hi,h=>by cases (show i=k from h);exact hi
 | m+1,i,hi,⟨j,hj,h⟩=>toG_lt hn m j (hn i j hi hj) h
theorem toG_turn {next:Nat->List Nat} {N s:Nat} (hn:∀ i k,i < N->k ∈ next i->k < N) (hs:s < N):∀ (m k:Nat),toG (turnL N next) (fun j=>j ∈ [s]) m k ↔ toG next (fun j=>j=k) m s
 | 0,k=>by
   show k ∈ [s] ↔ s=k
   rw [List.mem_singleton]
   exact eq_comm
 | m+1,k=>by
   rw [toG_add 1 m s]
   constructor
   · rintro ⟨j,hj,h⟩
     exact ⟨j,(toG_turn hn hs m j).1 h,k,(mem_turnL.1 hj).2,rfl⟩
   · rintro ⟨j,h1,i,hi,hik⟩
     cases (show i=k from hik)
     exact ⟨j,mem_turnL.2 ⟨toG_lt hn m s hs h1,hi⟩,(toG_turn hn hs m j).2 h1⟩
theorem mem_ansL {g:Gr} {a:Au} {x:Int} {y:Nat} (h:(wi x 0 ((g.vals.length:Int) - 1) && (grOk g && auOk a))=true):(y:Int) ∈ ansL g a x ↔ ∃ i,i < g.vals.length * a.accept.length/\0<=(distFrom g a x).getD i 0/\i ∈ goalsL g a y:=by
 have h9:=h
 simp only [Bool.and_eq_true] at h9
 have hn5:=(grOk_iff.1 h9.2.1).n5
 have hn1:=(auOk_iff.1 h9.2.2).1.1
 rw [ansL,if_pos h,mem_memI]
 constructor
 · rintro ⟨t,ht,_,hm⟩
   obtain ⟨i,hi,ho,rfl⟩:=(ansM_test ..).1 hm
   rw [okV,Bool.and_eq_true,decide_eq_true_eq] at ho
   refine ⟨i,hi,ho.1,mem_goalsL.2 ⟨i % a.accept.length,Nat.mod_lt _ (by omega),?_,?_⟩⟩
   · have:y=i / a.accept.length:=by omega
     rw [this];exact ho.2
   · have:y=i / a.accept.length:=by omega
     rw [this,Nat.mul_comm,Nat.div_add_mod]
 · rintro ⟨i,hi,h0,hg⟩
   obtain ⟨s,hs,hc,rfl⟩:=mem_goalsL.1 hg
   have hd:=div_vx (x:=y) hs
   have hm:=mod_vx (x:=y) hs
   have hy:y < g.vals.length:=by
    have:(y * a.accept.length+s) / a.accept.length < g.vals.length:=Nat.div_lt_of_lt_mul (by rw [Nat.mul_comm a.accept.length g.vals.length];exact hi)
    rwa [hd] at this
   refine ⟨y,rfl,by omega,(ansM_test ..).2 ⟨_,hi,?_,hd⟩⟩
   rw [okV,hd,hm,hc,Bool.and_true,decide_eq_true_eq]
   exact h0
theorem hasAns_short (g:Gr) (a:Au) (x y:Int):hasAns g a x y=decide (0<=shortLen g a x y):=by
 cases hc:cntOk g a x y with
 | false =>
   have hs:shortLen g a x y=-1:=by
    rw [shortLen,if_neg]
    rw [cntOk] at hc
    rw [hc];simp
   rw [hs,decide_eq_false (by omega),hasAns]
   cases hm:(ansL g a x).contains y with
   | false=>rfl
   | true =>
     rw [List.contains_iff_mem] at hm
     exfalso
     have hr:=ansL_range hm
     have hx:(wi x 0 ((g.vals.length:Int) - 1) && (grOk g && auOk a))=true:=by
      cases hh:(wi x 0 ((g.vals.length:Int) - 1) && (grOk g && auOk a)) with
      | true=>rfl
      | false=>rw [ansL,hh] at hm;cases hm
     have h9:=hx
     simp only [Bool.and_eq_true,wi_iff] at h9
     have:cntOk g a x y=true:=cntOk_iff.2 ⟨by omega,hr,h9.2.1,h9.2.2⟩
     rw [this] at hc
     cases hc
 | true =>
   obtain ⟨⟨hx0,hx1⟩,⟨hy0,hy1⟩,hg,ha⟩:=cntOk_iff.1 hc
   have hd:=short_dist hc
   obtain ⟨x,rfl⟩:=Int.eq_ofNat_of_zero_le hx0
   obtain ⟨y,rfl⟩:=Int.eq_ofNat_of_zero_le hy0
   rw [Int.toNat_natCast,Int.toNat_natCast] at hd
   have hxg:(wi (x:Int) 0 ((g.vals.length:Int) - 1) && (grOk g && auOk a))=true:=by simp only [Bool.and_eq_true,wi_iff];exact ⟨by omega,hg,ha⟩
   have hN:∀ i k,i < g.vals.length * a.accept.length->k ∈ nextI g a i->k < g.vals.length * a.accept.length:=fun i k _ hk=>nextV_lt (grOk_iff.1 hg) ha hk
   obtain ⟨⟨_,hn⟩,⟨h0,h1⟩,-,-⟩:=auOk_iff.1 ha
   have hi:x * a.accept.length+a.start.toNat < g.vals.length * a.accept.length:=by
    calc x * a.accept.length+a.start.toNat < x * a.accept.length+a.accept.length:=by omega
     _=(x+1) * a.accept.length:=by rw [Nat.add_mul,Nat.one_mul]
     _<=_:=Nat.mul_le_mul_right _ (by omega)
   have hF:∀ k,k < g.vals.length * a.accept.length->IsDist (turnL (g.vals.length * a.accept.length) (nextI g a)) (fun j=>j ∈ [x * a.accept.length+a.start.toNat]) k ((distFrom g a (x:Int)).getD k 0):=fun k hk=>by
    rw [distFrom,if_pos hxg,Int.toNat_natCast]
    exact spread_from (fun i hi'=>by rw [List.mem_singleton] at hi';subst hi';exact hi) hN k hk
   rw [hasAns,Bool.eq_iff_iff,List.contains_iff_mem,mem_ansL hxg,decide_eq_true_eq]
   constructor
   · rintro ⟨i,hiN,hi0,hig⟩
     rcases hF i hiN with ⟨hf,-⟩ | ⟨-,f1,-⟩
     · omega
     · have hw:=(toG_add (goal:=fun i=>i ∈ goalsL g a y) 0 ((distFrom g a (x:Int)).getD i 0).toNat (x * a.accept.length+a.start.toNat)).2 ⟨i,(toG_turn hN hi _ _).1 f1,hig⟩
       rcases hd with ⟨-,hd⟩ | ⟨d0,-⟩
       · exact absurd hw (hd _)
       · exact d0
   · intro h
     rcases hd with ⟨hd,-⟩ | ⟨-,d1,-⟩
     · omega
     · obtain ⟨k,k1,k2⟩:=(toG_add (goal:=fun i=>i ∈ goalsL g a y) 0 _ _).1 d1
       have hk:=toG_lt hN _ _ hi k1
       refine ⟨k,hk,?_,k2⟩
       rcases hF k hk with ⟨-,hf⟩ | ⟨f0,-⟩
       · exact absurd ((toG_turn hN hi _ _).2 k1) (hf _)
       · exact f0
theorem srRowF_some {f:Nat->Nat->Int} {x:Nat} {M:List Pr}:∀ {j:Nat} {L:List Pr},srRowF f x (some M) j=some L->(∀ y,y < j->f x y ≠ 3)/\∀ p,p ∈ L ↔ p ∈ M ∨ ∃ y,y < j/\p=((x:Int),(y:Int))/\f x y=1
 | 0,L,h=>by
   rw [srRowF_zero] at h
   injection h with h
   subst h
   exact ⟨fun y hy=>absurd hy (Nat.not_lt_zero y),fun p=>⟨.inl,fun h=>by
    rcases h with h | ⟨y,hy,-⟩
    · exact h
    · exact absurd hy (Nat.not_lt_zero y)⟩⟩
 | j+1,L,h=>by
   rw [srRowF_succ] at h
   cases hr:srRowF f x (some M) j with
   | none=>rw [hr] at h;cases h
   | some K =>
     obtain ⟨h1,h2⟩:=srRowF_some hr
     rw [hr] at h
     simp only [srCode] at h
     by_cases e1:f x j=1
     · rw [if_pos e1] at h
       injection h with h
       subst h
       refine ⟨fun y hy=>?_,fun p=>?_⟩
       · by_cases hyj:y=j
         · subst hyj;omega
         · exact h1 y (by omega)
       · rw [List.mem_append,List.mem_singleton,h2]
         constructor
         · rintro ((h3 | ⟨y,hy,h3⟩) | h3)
           · exact .inl h3
           · exact .inr ⟨y,by omega,h3⟩
           · exact .inr ⟨j,by omega,h3,e1⟩
         · rintro (h3 | ⟨y,hy,h3,h4⟩)
           · exact .inl (.inl h3)
           · by_cases hyj:y=j
             · subst hyj;exact .inr h3
             · exact .inl (.inr ⟨y,by omega,h3,h4⟩)
     · rw [if_neg e1] at h
       by_cases e3:f x j=3
       · rw [if_pos e3] at h;cases h
       · rw [if_neg e3] at h
         injection h with h
         subst h
         refine ⟨fun y hy=>?_,fun p=>?_⟩
         · by_cases hyj:y=j
           · subst hyj;exact e3
           · exact h1 y (by omega)
         · rw [h2]
           constructor
           · rintro (h3 | ⟨y,hy,h3⟩)
             · exact .inl h3
             · exact .inr ⟨y,by omega,h3⟩
           · rintro (h3 | ⟨y,hy,h3,h4⟩)
             · exact .inl h3
             · by_cases hyj:y=j
               · subst hyj;exact absurd h4 e1
               · exact .inr ⟨y,by omega,h3,h4⟩
theorem srAllF_some {f:Nat->Nat->Int} {n:Nat}:∀ {i:Nat} {L:List Pr},srAllF f n i=some L->(∀ x y,x < i->y < n->f x y ≠ 3)/\∀ p,p ∈ L ↔ ∃ x y,x < i/\y < n/\p=((x:Int),(y:Int))/\f x y=1
 | 0,L,h=>by
   injection h with h
   subst h
   exact ⟨fun x y hx=>absurd hx (Nat.not_lt_zero x),fun p=>⟨fun h=>(by cases h),fun ⟨x,_,hx,_⟩=>absurd hx (Nat.not_lt_zero x)⟩⟩
 | i+1,L,h=>by
   rw [srAllF_succ] at h
   cases hr:srAllF f n i with
   | none=>rw [hr,srRowF_no] at h;cases h
   | some M =>
     obtain ⟨h1,h2⟩:=srAllF_some hr
     rw [hr] at h
     obtain ⟨h3,h4⟩:=srRowF_some h
     refine ⟨fun x y hx hy=>?_,fun p=>?_⟩
     · by_cases hxi:x=i
       · subst hxi;exact h3 y hy
       · exact h1 x y (by omega) hy
     · rw [h4,h2]
       constructor
       · rintro (⟨x,y,hx,h5⟩ | ⟨y,hy,h5⟩)
         · exact ⟨x,y,by omega,h5⟩
         · exact ⟨i,y,by omega,hy,h5⟩
       · rintro ⟨x,y,hx,hy,h5,h6⟩
         by_cases hxi:x=i
         · subst hxi;exact .inr ⟨y,hy,h5,h6⟩
         · exact .inl ⟨x,y,by omega,hy,h5,h6⟩
theorem srchA_some {g:Gr} {a:Au} {B:Int} {sm:Bool} {L:List Pr} (h:srchA g a B sm=some L):(grOk g=true/\auOk a=true)/\(∀ x y,x < g.vals.length->y < g.vals.length->srchC g a B sm x y ≠ 3)/\∀ p,p ∈ L ↔ ∃ x y,x < g.vals.length/\y < g.vals.length/\p=((x:Int),(y:Int))/\srchC g a B sm x y=1:=by
 rw [srchA] at h
 split at h
 · rename_i hk
   rw [srchAk,Bool.and_eq_true,Bool.and_eq_true] at hk
   exact ⟨hk.1,srAllF_some h⟩
 · cases h
theorem allL_mem {g:Gr} {a:Au} {x y:Nat} (hg:grOk g=true/\auOk a=true) (hx:x < g.vals.length) (h:0<=shortLen g a (x:Int) (y:Int)):((x:Int),(y:Int)) ∈ allL g a:=by
 rw [allL,if_pos (by rw [Bool.and_eq_true];exact hg),allTo,List.mem_flatMap]
 refine ⟨x,List.mem_range.2 hx,?_⟩
 rw [allRow,List.take_length]
 have h1:=hasAns_short g a (x:Int) (y:Int)
 rw [decide_eq_true h,hasAns,List.contains_iff_mem] at h1
 exact List.mem_map.2 ⟨_,h1,rfl⟩
/-- answers by trails are answers by walks -/
theorem trails_all {g:Gr} {a:Au} {B:Int} {sm:Bool} {L:List Pr} (h:srchA g a B sm=some L):∀ p ∈ L,p ∈ allL g a:=by
 obtain ⟨hg,-,h2⟩:=srchA_some h
 intro p hp
 obtain ⟨x,y,hx,hy,rfl,h3⟩:=(h2 p).1 hp
 have e:srchL g a (x:Int) (y:Int) B sm=((srchL g a (x:Int) (y:Int) B sm).1,1):=by
  have:(srchL g a (x:Int) (y:Int) B sm).2=1:=h3
  rw [<- this]
 exact allL_mem hg hx (found_wit e).2
theorem srchL_code (g:Gr) (a:Au) (x y B:Int) (sm:Bool):(srchL g a x y B sm).2=0/\srchOk g a x y B=false ∨ (srchL g a x y B sm).2=1 ∨ (srchL g a x y B sm).2=2 ∨ (srchL g a x y B sm).2=3:=by
 rw [srchL]
 split
 · rcases srchF_cases (g:=g) (a:=a) (y:=y) (B:=B.toNat) (D:=distTo g a y) (sm:=sm) (x:=x.toNat) (s:=bit a.start.toNat) (us:=srchU sm x.toNat) (srchN g sm) 0 0 with ⟨r,e,-⟩ | e | e
   · rw [e];exact .inr (.inl rfl)
   · rw [e];exact .inr (.inr (.inl rfl))
   · rw [e];exact .inr (.inr (.inr rfl))
 · rename_i h
   exact .inl ⟨rfl,by simpa using h⟩
/-- answers by simple paths are answers by trails -/
theorem simples_trails {g:Gr} {a:Au} {B:Int} {L M:List Pr} (h:srchA g a B true=some L) (k:srchA g a B false=some M):∀ p ∈ L,p ∈ M:=by
 obtain ⟨hg,-,h2⟩:=srchA_some h
 obtain ⟨-,k1,k2⟩:=srchA_some k
 intro p hp
 obtain ⟨x,y,hx,hy,rfl,h3⟩:=(h2 p).1 hp
 refine (k2 _).2 ⟨x,y,hx,hy,rfl,?_⟩
 have h3':(srchL g a (x:Int) (y:Int) B true).2=1:=h3
 have h4:=k1 x y hx hy
 have h5:=simple_then_trail (C:=B) h3'
 show (srchL g a (x:Int) (y:Int) B false).2=1
 have h6:¬ (srchL g a (x:Int) (y:Int) B false).2=3:=h4
 rcases srchL_code g a (x:Int) (y:Int) B false with ⟨-,e⟩ | e | e | e
 · have h7:srchOk g a (x:Int) (y:Int) B=true:=by
    cases ho:srchOk g a (x:Int) (y:Int) B with
    | true=>rfl
    | false =>
      rw [srchL,ho] at h3'
      simp at h3'
   rw [h7] at e
   cases e
 · exact e
 · exact absurd e h5
 · exact absurd e h6
end Go.Proofs.YtjpdembmchnbgaaGreat
namespace Go.Proofs.YtjpdembmchnbgaaGreat
open Go.ChangeShapes Go.WideShapes Go.ChangeAt Go.RowKit
attribute [local go_sem] ext_cell ext_frozen ext_lt ext_lt1 ext_lt2 ext_lt3 ltn2 ltn3 ltn13 lts1 lts2 lts3
theorem contains_any (v:Value) (us:List Int) (x:Int) (w:World) (hv:SlE w cI 1 v us) (hn:us.length<=1000000) :
 Calls Tryz.prog 122 #[v,.int .i64 x] w fun e w'=>e=.returned (.bool (us.contains x))/\w'=w:=by
 obtain ⟨A,c,rfl,-,-,h⟩:=SlE.form hv
 cases us with
 | nil=>exact Tryz.slices_Contains_int_empty A c x w
 | cons u us =>
   obtain ⟨b,o,rfl,-,-⟩:=h.int (i:=0) (x:=u) rfl
   have hct:=Tryz.slices_Contains_int b o (u :: us).length c (u :: us) x w (Nat.le_refl _) (by omega) (fun j hj=>(SlC.intA h (getD_of hj)).2)
   rw [List.take_length] at hct
   exact hct
end Go.Proofs.YtjpdembmchnbgaaGreat
