/- Parts of the proof, joined into one text: WitR, SrqM, SrqA, SrqC, AlongI, WalkI, Trail, Simp, Simple, DsbM, WitA, SrqT, SrchP, SrqP, CntI. -/
import Derived.Test.YtjpdembmchnbgaaGreatOnlzLPGIFOEK
import Derived.Test.YtjpdembmchnbgaaGreatOnlzCNJBOPGO
import Derived.Test.YtjpdembmchnbgaaGreatOnlzFIIFBPKC
import Derived.Test.YtjpdembmchnbgaaGreatOnlzLMCDAGBF
import Derived.Test.YtjpdembmchnbgaaGreatOnlzAHBNCDDG
import Derived.Test.YtjpdembmchnbgaaGreatOnlzIHFKMIOH
set_option linter.unusedVariables false
set_option linter.unusedSimpArgs false
namespace Go.Proofs.YtjpdembmchnbgaaGreat
open Go.ChangeShapes Go.WideShapes Go.ChangeAt Go.RowKit
def sumK {α:Type} (k:α->Nat) (l:List α):Nat:=(l.map k).sum
theorem sumK_cons {α:Type} (k:α->Nat) (p:α) (l:List α):sumK k (p :: l)=k p+sumK k l:=by simp [sumK]
theorem passK_sum {α:Type} (k:α->Nat):∀ (l:List α) (r:Nat),r<=1000000->passK k l r=min 1000000 (r+sumK k l)
 | [],r,h=>by simp [passK,sumK];omega
 | p :: l,r,h=>by
   rw [sumK_cons]
   show passK k l (addK k r p)=_
   rw [passK_sum k l (addK k r p) (Nat.min_le_left _ _),addK]
   omega
theorem cw_sum (g:Gr) (a:Au) (y:Int) (f x s:Nat):cw g a y (f+1) x s=min 1000000 (sumK (cwAt g a y f x s) (arcsOf g (x:Int))):=by
 have h:=passK_sum (cwAt g a y f x s) (arcsOf g (x:Int)) 0 (by omega)
 rw [Nat.zero_add] at h
 rw [<- h]
 rfl
theorem nthSh_parts {g:Gr} {a:Au} {x y n:Int} (h:nthSh g a x y n=true):0<=shortLen g a x y/\0<=n/\n.toNat < cwI g a x y (shortLen g a x y).toNat/\(0<=x/\x < (g.vals.length:Int))/\grOk g=true/\auOk a=true:=by
 rw [nthSh,Bool.and_eq_true,decide_eq_true_eq,wi_iff] at h
 obtain ⟨hx,-,hg,ha⟩:=cntOk_iff.1 (shortLen_ok h.1)
 exact ⟨h.1,h.2.1,by omega,hx,hg,ha⟩
theorem nthI_wit {g:Gr} {a:Au} {x y:Int} {f n:Nat} (hx:0<=x/\x < (g.vals.length:Int)) (hg:grOk g=true) (ha:auOk a=true) (hf:f<=60) (hn:n < cwI g a x y f):isWit g a x y (x,nthI g a x y f n)=true:=by
 have hl:(nthI g a x y f n).length=f:=nthL_len hn
 exact goes_wit (k:=(x,nthI g a x y f n)) hg ha hx (by show (nthI g a x y f n).length<=60;omega) (nth_goes hn)
theorem nthShort_wit {g:Gr} {a:Au} {x y n:Int} (h:nthSh g a x y n=true):isWit g a x y (nthShort g a x y n).1=true/\((nthShort g a x y n).1.2.length:Int)=shortLen g a x y:=by
 obtain ⟨h0,h1,h2,hx,hg,ha⟩:=nthSh_parts h
 rw [nthShort,if_pos h]
 have hlt:=shortLen_lt g a x y
 refine ⟨nthI_wit hx hg ha (by omega) h2,?_⟩
 show ((nthI g a x y (shortLen g a x y).toNat n.toNat).length:Int)=_
 rw [nthI,nthL_len h2]
 omega
theorem cwI_hit {g:Gr} {a:Au} {x y:Int} (h:cntOk g a x y=true) (f:Nat):0 < cwI g a x y f ↔ toG (nextI g a) (fun i=>i ∈ goalsL g a y.toNat) f (x.toNat * a.accept.length+a.start.toNat):=by
 obtain ⟨⟨hx0,hx1⟩,⟨hy0,hy1⟩,hg,ha⟩:=cntOk_iff.1 h
 have hst:=(auOk_iff.1 ha).2.1
 obtain ⟨y,rfl⟩:=Int.eq_ofNat_of_zero_le hy0
 rw [cwI,cw_pos ha (bit_lt (by omega)),Int.toNat_natCast]
 constructor
 · rintro ⟨q,hq,hh⟩
   rw [bit_test,decide_eq_true_eq] at hq
   subst hq
   exact hh
 · intro hh
   exact ⟨a.start.toNat,by rw [bit_test];simp,hh⟩
theorem short_dist {g:Gr} {a:Au} {x y:Int} (h:cntOk g a x y=true):IsDist (nextI g a) (fun i=>i ∈ goalsL g a y.toNat) (x.toNat * a.accept.length+a.start.toNat) (shortLen g a x y):=by
 obtain ⟨⟨hx0,hx1⟩,⟨hy0,hy1⟩,hg,ha⟩:=cntOk_iff.1 h
 have hd:=shortLen_dist hg ha (show x.toNat < g.vals.length by omega) (show y.toNat < g.vals.length by omega)
 rwa [Int.toNat_of_nonneg hx0,Int.toNat_of_nonneg hy0] at hd
/-- as goesL; and each step's key is new -/
def goesK (g:Gr) (a:Au) (y:Int) (sm:Bool):Nat->Nat->List Int->List St->Prop
 | x,s,_,[]=>(x:Int)=y/\acc a s (valAt g x)=true
 | x,s,us,st :: L=>∃ p ∈ arcsOf g (x:Int),p.1=st/\us.contains (keyA sm p)=false/\goesK g a y sm p.2.2.toNat (aft a s (valAt g x) p.2.1.toNat) (us ++ [keyA sm p]) L
theorem goesK_L {g:Gr} {a:Au} {y:Int} {sm:Bool}:∀ {L:List St} {x s:Nat} {us:List Int},goesK g a y sm x s us L->goesL g a y x s L
 | [],_,_,_,h=>h
 | _ :: _,_,_,_,⟨p,hp,h1,_,h2⟩=>⟨p,hp,h1,goesK_L h2⟩
theorem sumK_mem {α:Type} {k:α->Nat} {p:α}:∀ {l:List α},p ∈ l->k p<=sumK k l
 | q :: l,h=>by
   rw [sumK_cons]
   rcases List.mem_cons.1 h with rfl | h
   · omega
   · have:=sumK_mem (k:=k) h
     omega
theorem goes_cw {g:Gr} {a:Au} {y:Int}:∀ {L:List St} {x s:Nat},goesL g a y x s L->0 < cw g a y L.length x s
 | [],x,s,h=>by
   rw [List.length_nil,cw,if_pos (by rw [Bool.and_eq_true,decide_eq_true_eq];exact h)]
   omega
 | st :: L,x,s,⟨p,hp,_,h⟩=>by
   have h1:=goes_cw h
   have h2:cwAt g a y L.length x s p<=sumK (cwAt g a y L.length x s) (arcsOf g (x:Int)):=sumK_mem hp
   rw [cwAt] at h2
   rw [List.length_cons,cw_sum]
   omega
theorem goes_pos {g:Gr} {a:Au} {y:Int} {L:List St} {x:Nat} (h:goesL g a y x 0 L):False:=by
 have:=goes_cw h
 rw [cw_none] at this
 omega
theorem dist_at {g:Gr} {a:Au} {x y q:Nat} (hg:grOk g=true) (ha:auOk a=true) (hx:x < g.vals.length) (hy:y < g.vals.length) (hq:q < a.accept.length) :
 IsDist (nextI g a) (fun i=>i ∈ goalsL g a y) (x * a.accept.length+q) ((distTo g a (y:Int)).getD (x * a.accept.length+q) 0):=by
 have hd:(wi (y:Int) 0 ((g.vals.length:Int) - 1) && (grOk g && auOk a))=true:=by
  simp only [Bool.and_eq_true]
  exact ⟨by rw [wi_iff];omega,hg,ha⟩
 have hN:∀ i k,i < g.vals.length * a.accept.length->k ∈ nextI g a i->k < g.vals.length * a.accept.length:=fun i k _ hk=>nextV_lt (grOk_iff.1 hg) ha hk
 have hfs:∀ i ∈ goalsL g a y,i < g.vals.length * a.accept.length:=fun i hi=>by
  obtain ⟨s,hs,_,rfl⟩:=mem_goalsL.1 hi
  calc y * a.accept.length+s < y * a.accept.length+a.accept.length:=by omega
   _=(y+1) * a.accept.length:=by rw [Nat.add_mul,Nat.one_mul]
   _<=_:=Nat.mul_le_mul_right _ hy
 have hi:x * a.accept.length+q < g.vals.length * a.accept.length:=by
  calc x * a.accept.length+q < x * a.accept.length+a.accept.length:=by omega
   _=(x+1) * a.accept.length:=by rw [Nat.add_mul,Nat.one_mul]
   _<=_:=Nat.mul_le_mul_right _ hx
 rw [distTo,if_pos hd,Int.toNat_natCast]
 exact spread_dist hfs hN _ hi
theorem hope_of {g:Gr} {a:Au} {x y s lf:Nat} {L:List St} (hg:grOk g=true) (ha:auOk a=true) (hx:x < g.vals.length) (hy:y < g.vals.length) (hs:s < 2 ^ a.accept.length)
 (h:goesL g a (y:Int) x s L) (hl:L.length<=lf):hope (distTo g a (y:Int)) a.accept.length x s lf=true:=by
 obtain ⟨q,hq,hh⟩:=(cw_pos ha hs).1 (goes_cw h)
 have hqn:=test_lt hs hq
 rw [hope,List.any_eq_true]
 refine ⟨q,mem_mem.2 ⟨by have:=(auOk_iff.1 ha).1.2;omega,hq⟩,?_⟩
 rw [hopeC,wi_iff]
 rcases dist_at hg ha hx hy hqn with ⟨-,hn⟩ | ⟨h0,-,h2⟩
 · exact absurd hh (hn _)
 · have:¬ L.length < ((distTo g a (y:Int)).getD (x * a.accept.length+q) 0).toNat:=fun hlt=>h2 _ hlt hh
   omega
section
variable {g:Gr} {a:Au} {y:Int} {B:Nat} {D:List Int} {sm:Bool}
theorem visC_sound {rec:Nat->Nat->List Int->Nat->Vis} {x s lf:Nat} {us:List Int} (hrec:∀ x s us c r,(rec x s us c).1=some r->goesK g a y sm x s us r) :
 ∀ (l:List Arc) (c:Nat) (r:List St),(∀ p ∈ l,p ∈ arcsOf g (x:Int))->(visC g a D sm rec x s us lf l c).1=some r->goesK g a y sm x s us r
 | [],c,r,_,h=>by cases h
 | p :: l,c,r,hl,h=>by
   rw [visC] at h
   split at h
   · exact visC_sound hrec l c r (fun q hq=>hl q (List.mem_cons_of_mem _ hq)) h
   · rename_i hsk
     have h1:=hrec p.2.2.toNat (aft a s (valAt g x) p.2.1.toNat) (us ++ [keyA sm p]) c
     split at h
     · rename_i r' c' e
       injection h with h
       subst h
       rw [e] at h1
       refine ⟨p,hl p List.mem_cons_self,rfl,?_,h1 r' rfl⟩
       rw [skipA,Bool.or_eq_true,Bool.or_eq_true] at hsk
       cases hc:us.contains (keyA sm p) with
       | false=>rfl
       | true=>exact absurd (.inr (.inl hc)) hsk
     · exact visC_sound hrec l _ r (fun q hq=>hl q (List.mem_cons_of_mem _ hq)) h
theorem visit_sound:∀ (lf x s:Nat) (us:List Int) (c:Nat) (r:List St),(visit g a y B D sm lf x s us c).1=some r->goesK g a y sm x s us r:=by
 intro lf
 induction lf with
 | zero =>
   intro x s us c r h
   rw [visit] at h
   split at h
   · cases h
   · simp only at h
     split at h
     · rename_i hc
       injection h with h
       rw [<- h]
       rw [Bool.and_eq_true,decide_eq_true_eq] at hc
       exact hc
     · cases h
 | succ lf ih =>
   intro x s us c r h
   rw [visit] at h
   split at h
   · cases h
   · exact visC_sound ih _ _ r (fun p hp=>hp) h
end
theorem arcs_node {g:Gr} (hg:grOk g=true) {x:Int} {p:Arc} (hp:p ∈ arcsOf g x):p.2.2.toNat < g.vals.length:=by
 have:=arc_range (grOk_iff.1 hg) hp
 omega
section
variable {g:Gr} {a:Au} {y B:Nat} {sm:Bool} (hg:grOk g=true) (ha:auOk a=true) (hy:y < g.vals.length)
include hg ha hy
theorem visC_full {rec:Nat->Nat->List Int->Nat->Vis} {x s lf:Nat} {us:List Int} (hle:∀ x s us c,c<=B->(rec x s us c).2<=B/\c<=(rec x s us c).2)
 (hrec:∀ x s us c,c<=B->(rec x s us c).1=none->(rec x s us c).2 < B->x < g.vals.length->s < 2 ^ a.accept.length->∀ L:List St,L.length=lf->¬ goesK g a (y:Int) sm x s us L) :
 ∀ (l:List Arc) (c:Nat),c<=B->(∀ p ∈ l,p ∈ arcsOf g (x:Int))->(visC g a (distTo g a (y:Int)) sm rec x s us lf l c).1=none->(visC g a (distTo g a (y:Int)) sm rec x s us lf l c).2 < B ->
   ∀ p ∈ l,us.contains (keyA sm p)=false->∀ L:List St,L.length=lf->¬ goesK g a (y:Int) sm p.2.2.toNat (aft a s (valAt g x) p.2.1.toNat) (us ++ [keyA sm p]) L
 | [],c,_,_,_,_=>by intro p hp;cases hp
 | q :: l,c,hc,hl,h1,h2=>by
   have hnq:=arcs_node hg (hl q List.mem_cons_self)
   have hl':∀ p ∈ l,p ∈ arcsOf g (x:Int):=fun p hp=>hl p (List.mem_cons_of_mem _ hp)
   rw [visC] at h1 h2
   split at h1
   · rename_i hsk
     rw [if_pos hsk] at h2
     have ih:=visC_full hle hrec l c hc hl' h1 h2
     intro p hp hu L hL hG
     rcases List.mem_cons.1 hp with rfl | hp
     · rw [skipA,hu,Bool.false_or,Bool.or_eq_true] at hsk
       rcases hsk with h0 | h0
       · rw [decide_eq_true_eq] at h0
         rw [h0] at hG
         exact goes_pos (goesK_L hG)
       · rw [hope_of hg ha hnq hy (aft_lt ha _ _ _) (goesK_L hG) (by omega)] at h0
         cases h0
     · exact ih p hp hu L hL hG
   · rename_i hsk
     rw [if_neg hsk] at h2
     have hl1:=hle q.2.2.toNat (aft a s (valAt g x) q.2.1.toNat) (us ++ [keyA sm q]) c hc
     have hr1:=hrec q.2.2.toNat (aft a s (valAt g x) q.2.1.toNat) (us ++ [keyA sm q]) c hc
     split at h1
     · cases h1
     · rename_i c' e
       rw [e] at h2 hl1 hr1
       simp only at h2 hl1 hr1
       have h3:=visC_le (g:=g) (a:=a) (D:=distTo g a (y:Int)) (sm:=sm) (x:=x) (s:=s) (us:=us) (lf:=lf) hle l c' hl1.1
       have ih:=visC_full hle hrec l c' hl1.1 hl' h1 h2
       intro p hp hu L hL hG
       rcases List.mem_cons.1 hp with rfl | hp
       · exact hr1 trivial (by omega) hnq (aft_lt ha _ _ _) L hL hG
       · exact ih p hp hu L hL hG
theorem visit_full:∀ (lf x s:Nat) (us:List Int) (c:Nat),c<=B->(visit g a (y:Int) B (distTo g a (y:Int)) sm lf x s us c).1=none->(visit g a (y:Int) B (distTo g a (y:Int)) sm lf x s us c).2 < B ->
 x < g.vals.length->s < 2 ^ a.accept.length->∀ L:List St,L.length=lf->¬ goesK g a (y:Int) sm x s us L:=by
 intro lf
 induction lf with
 | zero =>
   intro x s us c hc h1 h2 hx hs L hL hG
   obtain rfl:=List.length_eq_zero_iff.1 hL
   rw [visit] at h1 h2
   split at h1
   · rename_i hb
     rw [if_pos hb] at h2
     simp only at h2
     omega
   · simp only at h1
     have e:(decide ((x:Int)=(y:Int)) && acc a s (valAt g x))=true:=by
      rw [Bool.and_eq_true,decide_eq_true_eq]
      exact hG
     rw [if_pos e] at h1
     cases h1
 | succ lf ih =>
   intro x s us c hc h1 h2 hx hs L hL hG
   rw [visit] at h1 h2
   split at h1
   · rename_i hb
     rw [if_pos hb] at h2
     simp only at h2
     omega
   · rename_i hb
     rw [if_neg hb] at h2
     cases L with
     | nil=>cases hL
     | cons st L =>
       obtain ⟨p,hp,-,hu,hG⟩:=hG
       exact visC_full hg ha hy (visit_le lf) ih (arcsOf g (x:Int)) (c+1) (by omega) (fun p hp=>hp) h1 h2 p hp hu L (by simpa using hL) hG
end
theorem srchF_cases {g:Gr} {a:Au} {y:Int} {B:Nat} {D:List Int} {sm:Bool} {x s:Nat} {us:List Int}:∀ (k lf c:Nat),
 (∃ r,srchF g a y B D sm x s us k lf c=(((x:Int),r),1)/\goesK g a y sm x s us r/\r.length < lf+k) ∨ srchF g a y B D sm x s us k lf c=((0,[]),2) ∨ srchF g a y B D sm x s us k lf c=((0,[]),3)
 | 0,_,_=>.inr (.inl rfl)
 | k+1,lf,c=>by
   have ih:∀ c,(∃ r,srchF g a y B D sm x s us k (lf+1) c=(((x:Int),r),1)/\goesK g a y sm x s us r/\r.length < lf+(k+1)) ∨ srchF g a y B D sm x s us k (lf+1) c=((0,[]),2) ∨ srchF g a y B D sm x s us k (lf+1) c=((0,[]),3):=fun c=>by
    have:=srchF_cases (g:=g) (a:=a) (y:=y) (B:=B) (D:=D) (sm:=sm) (x:=x) (s:=s) (us:=us) k (lf+1) c
    rwa [show lf+1+k=lf+(k+1) by omega] at this
   cases hh:hope D a.accept.length x s lf with
   | false=>rw [srchF_no hh];exact ih c
   | true =>
     rcases hv:visit g a y B D sm lf x s us c with ⟨o,c'⟩
     cases o with
     | some r =>
       refine .inl ⟨r,srchF_yes hh hv,visit_sound lf x s us c r (by rw [hv]),?_⟩
       have:=visit_len (g:=g) (a:=a) (y:=y) (B:=B) (D:=D) (sm:=sm) lf x s us c r (by rw [hv])
       omega
     | none =>
       by_cases hc:B<=c'
       · exact .inr (.inr (srchF_out hh hv hc))
       · rw [srchF_on hh hv hc];exact ih c'
theorem srchF_none {g:Gr} {a:Au} {y B:Nat} {sm:Bool} (hg:grOk g=true) (ha:auOk a=true) (hy:y < g.vals.length) {x s:Nat} {us:List Int} (hx:x < g.vals.length) (hs:s < 2 ^ a.accept.length):∀ (k lf c:Nat),c<=B ->
 (srchF g a (y:Int) B (distTo g a (y:Int)) sm x s us k lf c).2=2->∀ L:List St,lf<=L.length->L.length < lf+k->¬ goesK g a (y:Int) sm x s us L
 | 0,lf,c,_,_=>fun L h1 h2=>by omega
 | k+1,lf,c,hc,h=>by
   intro L h1 h2 hG
   cases hh:hope (distTo g a (y:Int)) a.accept.length x s lf with
   | false =>
     rw [srchF_no hh] at h
     by_cases hl:L.length=lf
     · rw [hope_of hg ha hx hy hs (goesK_L hG) (by omega)] at hh
       cases hh
     · exact srchF_none hg ha hy hx hs k (lf+1) c hc h L (by omega) (by omega) hG
   | true =>
     rcases hv:visit g a (y:Int) B (distTo g a (y:Int)) sm lf x s us c with ⟨o,c'⟩
     cases o with
     | some r =>
       rw [srchF_yes hh hv] at h
       simp at h
     | none =>
       have hle:=visit_le (g:=g) (a:=a) (y:=(y:Int)) (B:=B) (D:=distTo g a (y:Int)) (sm:=sm) lf x s us c hc
       have hf:=visit_full (sm:=sm) hg ha hy lf x s us c hc
       rw [hv] at hle hf
       simp only at hle hf
       by_cases hb:B<=c'
       · rw [srchF_out hh hv hb] at h
         simp at h
       · rw [srchF_on hh hv hb] at h
         by_cases hl:L.length=lf
         · exact hf trivial (by omega) hx hs L hl hG
         · exact srchF_none hg ha hy hx hs k (lf+1) c' (by omega) h L (by omega) (by omega) hG
theorem nodup_subK:∀ (s l:List Int),s.Nodup->(∀ x ∈ s,x ∈ l)->s.length<=l.length
 | [],_,_,_=>Nat.zero_le _
 | x :: s,l,hn,hm=>by
   have hx:=hm x List.mem_cons_self
   have h1:=nodup_subK s (l.erase x) (List.nodup_cons.1 hn).2 (fun z hz=>by
    refine (List.mem_erase_of_ne (fun e=>?_)).2 (hm z (List.mem_cons_of_mem _ hz))
    subst e
    exact (List.nodup_cons.1 hn).1 hz)
   rw [List.length_erase_of_mem hx] at h1
   have:=List.length_pos_of_mem hx
   rw [List.length_cons]
   omega
theorem goesK_len {g:Gr} {a:Au} {y:Int} {sm:Bool} {K:List Int} (hK:∀ (x:Nat) (p:Arc),p ∈ arcsOf g (x:Int)->keyA sm p ∈ K) :
 ∀ {L:List St} {x s:Nat} {us:List Int},us.Nodup->(∀ k ∈ us,k ∈ K)->goesK g a y sm x s us L->L.length+us.length<=K.length
 | [],_,_,us,h1,h2,_=>by
   have:=nodup_subK us K h1 h2
   simpa using this
 | _ :: L,x,s,us,h1,h2,⟨p,hp,_,hu,h⟩=>by
   have hk:=hK x p hp
   have hu':keyA sm p ∉ us:=fun hm=>by
    rw [List.contains_iff_mem.2 hm] at hu
    cases hu
   have h3:(us ++ [keyA sm p]).Nodup:=by
    rw [List.nodup_append]
    refine ⟨h1,by simp,fun b hb c hc=>?_⟩
    rw [List.mem_singleton] at hc
    subst hc
    exact fun e=>hu' (e ▸ hb)
   have:=goesK_len hK h3 (fun k hk'=>by
    rcases List.mem_append.1 hk' with h | h
    · exact h2 k h
    · rw [List.mem_singleton] at h;exact h ▸ hk) h
   rw [List.length_append,List.length_singleton] at this
   rw [List.length_cons]
   omega
theorem contains_no {l:List Int} {k:Int}:l.contains k=false ↔ k ∉ l:=by
 rw [<- Bool.not_eq_true,List.contains_iff_mem]
theorem goesK_trail {g:Gr} {a:Au} {y:Int}:∀ {L:List St} {x s:Nat} {us:List Int},goesK g a y false x s us L->(L.map (·.1)).Nodup/\∀ e ∈ us,e ∉ L.map (·.1)
 | [],_,_,_,_=>⟨by simp,by simp⟩
 | st :: L,x,s,us,⟨p,hp,h1,hu,h⟩=>by
   obtain ⟨h2,h3⟩:=goesK_trail h
   have hk:keyA false p=st.1:=by rw [<- h1];rfl
   rw [hk,contains_no] at hu
   rw [hk] at h3
   rw [List.map_cons,List.nodup_cons]
   refine ⟨⟨h3 _ (by simp),h2⟩,fun e he hm=>?_⟩
   rcases List.mem_cons.1 hm with h4 | h4
   · exact hu (h4 ▸ he)
   · exact h3 e (List.mem_append_left _ he) h4
theorem trail_goesK {g:Gr} {a:Au} {y:Int}:∀ {L:List St} {x s:Nat} {us:List Int},goesL g a y x s L->(L.map (·.1)).Nodup->(∀ e ∈ us,e ∉ L.map (·.1))->goesK g a y false x s us L
 | [],_,_,_,h,_,_=>h
 | st :: L,x,s,us,⟨p,hp,h1,h⟩,h2,h3=>by
   rw [List.map_cons,List.nodup_cons] at h2
   have hk:keyA false p=st.1:=by rw [<- h1];rfl
   refine ⟨p,hp,h1,?_,trail_goesK h h2.2 fun e he hm=>?_⟩
   · rw [hk,contains_no]
     exact fun hm=>h3 _ hm (by simp)
   · rcases List.mem_append.1 he with h4 | h4
     · exact h3 e h4 (by rw [List.map_cons];exact List.mem_cons_of_mem _ hm)
     · rw [List.mem_singleton,hk] at h4
       exact h2.1 (h4 ▸ hm)
def trailN (k:Wk):Prop:=(k.2.map (·.1)).Nodup
theorem srchL_cases (g:Gr) (a:Au) (x y B:Int) (sm:Bool):(srchL g a x y B sm).2=1 ∨ (srchL g a x y B sm).1.2=[]:=by
 rw [srchL]
 split
 · rcases srchF_cases (g:=g) (a:=a) (y:=y) (B:=B.toNat) (D:=distTo g a y) (sm:=sm) (x:=x.toNat) (s:=bit a.start.toNat) (us:=srchU sm x.toNat) (srchN g sm) 0 0 with ⟨r,e,-⟩ | e | e
   · rw [e];exact .inl rfl
   · rw [e];exact .inr rfl
   · rw [e];exact .inr rfl
 · exact .inr rfl
theorem srchOk_iff {g:Gr} {a:Au} {x y B:Int}:srchOk g a x y B=true ↔ cntOk g a x y=true/\1<=B/\B<=20000:=by
 rw [srchOk,Bool.and_eq_true,wi_iff]
theorem srchL_found {g:Gr} {a:Au} {x y B:Int} {sm:Bool} {w:Wk} (h:srchL g a x y B sm=(w,1)):cntOk g a x y=true/\w.1=x/\w.2.length<=12/\goesK g a y sm x.toNat (bit a.start.toNat) (srchU sm x.toNat) w.2:=by
 rw [srchL] at h
 split at h
 · rename_i hk
   obtain ⟨hc,-⟩:=srchOk_iff.1 hk
   obtain ⟨⟨hx0,hx1⟩,⟨hy0,hy1⟩,hg,ha⟩:=cntOk_iff.1 hc
   have hn5:=(grOk_iff.1 hg).n5
   have he12:=(grOk_iff.1 hg).e12
   have hN:srchN g sm<=13:=by unfold srchN;split <;> omega
   rcases srchF_cases (g:=g) (a:=a) (y:=y) (B:=B.toNat) (D:=distTo g a y) (sm:=sm) (x:=x.toNat) (s:=bit a.start.toNat) (us:=srchU sm x.toNat) (srchN g sm) 0 0 with ⟨r,e,h1,h2⟩ | e | e
   · rw [e] at h
     injection h with h _
     subst h
     refine ⟨hc,by show ((x.toNat:Nat):Int)=x;omega,by show r.length<=12;omega,h1⟩
   · rw [e] at h;simp at h
   · rw [e] at h;simp at h
 · simp at h
theorem srchL_none {g:Gr} {a:Au} {x y B:Int} {sm:Bool} (h:(srchL g a x y B sm).2=2):cntOk g a x y=true/\∀ L:List St,¬ goesK g a y sm x.toNat (bit a.start.toNat) (srchU sm x.toNat) L:=by
 rw [srchL] at h
 split at h
 · rename_i hk
   obtain ⟨hc,-⟩:=srchOk_iff.1 hk
   obtain ⟨⟨hx0,hx1⟩,⟨hy0,hy1⟩,hg,ha⟩:=cntOk_iff.1 hc
   refine ⟨hc,fun L hG=>?_⟩
   have hst:=(auOk_iff.1 ha).2.1
   have hL:L.length < srchN g sm:=by
    cases sm with
    | false =>
      have:=goesK_len (K:=g.edges.map (·.1)) (fun z p hp=>by
       obtain ⟨e,he,hpe⟩:=List.mem_flatMap.1 hp
       refine List.mem_map.2 ⟨e,he,?_⟩
       rcases mem_arcE.1 hpe with ⟨-,rfl⟩ | ⟨-,rfl⟩ <;> rfl) (by simp [srchU]) (by simp [srchU]) hG
      simp [srchU] at this
      show L.length < g.edges.length+1
      omega
    | true =>
      have:=goesK_len (K:=(List.range g.vals.length).map (fun (i:Nat)=>(i:Int))) (fun z p hp=>by
       have:=arc_range (grOk_iff.1 hg) hp
       exact List.mem_map.2 ⟨p.2.2.toNat,List.mem_range.2 (by omega),by show ((p.2.2.toNat:Nat):Int)=p.2.2;omega⟩) (by simp [srchU]) (by
        intro k hk
        rw [srchU,if_pos rfl,List.mem_singleton] at hk
        subst hk
        exact List.mem_map.2 ⟨x.toNat,List.mem_range.2 (by omega),rfl⟩) hG
      simp [srchU] at this
      show L.length < g.vals.length
      omega
   have hy2:((y.toNat:Nat):Int)=y:=by omega
   have:=srchF_none (B:=B.toNat) (sm:=sm) (us:=srchU sm x.toNat) hg ha (show y.toNat < g.vals.length by omega) (show x.toNat < g.vals.length by omega) (bit_lt (show a.start.toNat < a.accept.length by omega)) (srchN g sm) 0 0 (by omega)
    (by rw [hy2];exact h) L (by omega) (by omega)
   rw [hy2] at this
   exact this hG
 · simp at h
theorem wit_goes0 {g:Gr} {a:Au} {x y:Int} {k:Wk} (h:isWit g a x y k=true):k.1=x/\goesL g a y x.toNat (bit a.start.toNat) k.2:=by
 have h1:=(isWit_parts h).1
 have h2:=wit_goes h k.2.length (Nat.le_refl _)
 rw [Nat.sub_self,List.drop_zero] at h2
 refine ⟨h1,?_⟩
 rw [<- h1]
 exact h2
theorem goes_short {g:Gr} {a:Au} {x y:Int} (h:cntOk g a x y=true) {L:List St} (hL:goesL g a y x.toNat (bit a.start.toNat) L):0<=shortLen g a x y:=by
 have h1:=(cwI_hit h L.length).1 (goes_cw hL)
 rcases short_dist h with ⟨-,hd⟩ | ⟨d0,-,-⟩
 · exact absurd h1 (hd _)
 · exact d0
theorem found_wit {g:Gr} {a:Au} {x y B:Int} {sm:Bool} {w:Wk} (h:srchL g a x y B sm=(w,1)):isWit g a x y w=true/\0<=shortLen g a x y:=by
 obtain ⟨hc,rfl,h2,h3⟩:=srchL_found h
 obtain ⟨hx,hy,hg,ha⟩:=cntOk_iff.1 hc
 exact ⟨goes_wit hg ha hx (by omega) (goesK_L h3),goes_short hc (goesK_L h3)⟩
theorem found_trail {g:Gr} {a:Au} {x y B:Int} {w:Wk} (h:srchL g a x y B false=(w,1)):trailN w:=(goesK_trail (srchL_found h).2.2.2).1
theorem none_trail {g:Gr} {a:Au} {x y B:Int} (h:(srchL g a x y B false).2=2) {u:Wk} (hu:isWit g a x y u=true):¬ trailN u:=fun hn =>
 (srchL_none h).2 u.2 (trail_goesK (wit_goes0 hu).2 hn (by simp [srchU]))
/-- the bits of used are the nodes of us -/
structure UsR (N:Nat) (used:Nat) (us:List Int):Prop where
 nd:us.Nodup
 inr:∀ k ∈ us,0<=k/\k < (N:Int)
 bits:∀ t:Nat,used.testBit t=us.contains (t:Int)
theorem UsR.len {N used:Nat} {us:List Int} (h:UsR N used us):us.length<=N:=by
 have:=nodup_subK us ((List.range N).map (fun (i:Nat)=>(i:Int))) h.nd (fun k hk=>by
  have:=h.inr k hk
  exact List.mem_map.2 ⟨k.toNat,List.mem_range.2 (by omega),by show ((k.toNat:Nat):Int)=k;omega⟩)
 simpa using this
theorem UsR.put {N used t:Nat} {us:List Int} (h:UsR N used us) (ht:t < N) (hu:used.testBit t=false):UsR N (ins used t) (us ++ [(t:Int)]):=by
 have hn:(t:Int) ∉ us:=by
  rw [h.bits,contains_no] at hu
  exact hu
 refine ⟨?_,?_,?_⟩
 · rw [List.nodup_append]
   refine ⟨h.nd,by simp,fun b hb c hc e=>?_⟩
   rw [List.mem_singleton] at hc
   exact hn (hc ▸ e ▸ hb)
 · intro k hk
   rcases List.mem_append.1 hk with hk | hk
   · exact h.inr k hk
   · rw [List.mem_singleton] at hk
     omega
 · intro u
   rw [ins_test,h.bits]
   rw [Bool.eq_iff_iff]
   simp only [Bool.or_eq_true,List.contains_iff_mem,List.mem_append,List.mem_singleton,decide_eq_true_eq]
   rw [show t=u ↔ (u:Int)=(t:Int) by omega]
end Go.Proofs.YtjpdembmchnbgaaGreat
namespace Go.Proofs.YtjpdembmchnbgaaGreat
open Go.ChangeShapes Go.WideShapes Go.ChangeAt Go.RowKit
attribute [local go_sem] ext_cell ext_frozen ext_lt ext_lt1 ext_lt2 ext_lt3 ltn2 ltn3 ltn13 lts1 lts2 lts3
set_option maxHeartbeats 1000000 in
theorem implStepLetter (v:Value) (g:Gr) (s:St) (w:World) (hv:GrV 0 w.heap.size w v g) :
 Calls Tryz.prog 172 #[v,.agg #[.int .i64 s.1,.bool s.2]] w fun en w'=>en=.returned (.int .i64 (stepLetter g s))/\Below w.heap.size w w':=by
 have hv0:=hv
 obtain ⟨A1,n1,c1,A2,n2,c2,rfl⟩:=hv.shape
 clear hv
 obtain ⟨id,inv⟩:=s
 have hb0:Below w.heap.size w ((w.alloc (.cells #[.slice A1 n1 c1,.slice A2 n2 c2] 27)).alloc (.cells #[.int .i64 id,.bool inv] 81)):=((Below.refl _ _).alloc (Nat.le_refl _) _).alloc (by simp) _
 have hc:=fun W (hW:Below w.heap.size w W)=>implStepEdge _ g (id,inv) W (hv0.keep hW)
 simp only at hc ⊢
 have HC:=Hd_ hc
 clear hc
 cases hs:stepEd g id with
 | none =>
   have hres:stepLetter g (id,inv)=-1:=by rw [stepLetter];simp [hs]
   have HR:=Hd_ hres
   rw [hs] at HC
   clear hres hs
   go_enter Tryz.func172,Tryz.ntmps172
   go_wp2_with fail
   refine (HC.out _ hb0).mono ?_
   rintro en w1 ⟨e,rfl,-,hb1⟩
   have hb2:=below_trans hb0 hb1
   clear hb0 hb1
   go_wp2_with fail
   go_ret
   exact ⟨ret_int HR.out.symm,hb2.alloc hb2.size _⟩
 | some e =>
   rw [hs] at HC
   have hres:stepLetter g (id,inv)=arcLetter inv e:=stepLetter_of (s:=(id,inv)) hs
   obtain ⟨hg,hm,-⟩:=stepEd_ok hs
   have hl:=(hg.edges e hm).2.2.2
   have HR:=Hd_ hres
   clear hres hs hg hm
   go_enter Tryz.func172,Tryz.ntmps172
   go_wp2_with fail
   refine (HC.out _ hb0).mono ?_
   rintro en w1 ⟨e1,rfl,he1,hb1⟩
   obtain rfl:=he1 e rfl
   have b1:=(Blk.new (w.alloc _) _ _ (w.heap.size+1) (by simp)).keep hb1
   have y1:w1.cell? ⟨w.heap.size+1,1,none⟩=some _:=b1.cell 1
   have hlt:=b1.lt
   have hb2:=below_trans hb0 hb1
   have hb3:=hb2.alloc hb2.size (.cells #[.int .i64 e.1,.int .i64 e.2.1,.int .i64 e.2.2.1,.int .i64 e.2.2.2] 138)
   clear hb0 hb1 he1 b1
   go_wp2_with fail
   refine (reads_any e inv _ hl.1 hl.2).mono ?_
   rintro en w2 ⟨rfl,hb4⟩
   go_wp2_with fail
   go_ret
   exact ⟨ret_int HR.out.symm,below_trans hb3 hb4⟩
theorem flatN_at {xs:List Nat} {t:Nat} {x:Nat} (h:xs[t]?=some x):(xs.flatMap cN)[t]?=some (.int .i64 (x:Int)):=by
 have:=flat_at cN_len h 0 _ rfl
 simpa using this
set_option maxHeartbeats 8000000 in
set_option maxRecDepth 100000 in
theorem along_any (vg va vk:Value) (g:Gr) (a:Au) (k:Wk) (w:World) (hgv:GrV 0 w.heap.size w vg g) (hav:AuV 0 w.heap.size w va a) (hkv:WkV 0 w.heap.size w vk k) :
 Calls Tryz.prog 148 #[vg,va,vk] w fun e w'=>∃ v1 v2,e=.returned (.tuple #[v1,v2,.bool (walkOk g k && auOk a)])/\Own w.heap.size w'.heap.size w' 3 cN 1 v1 (alongS g a k)/\Own w.heap.size w'.heap.size w' 3 cI 1 v2 (alongN g a k)/\Below w.heap.size w w':=by
 have hgv0:=hgv
 have hav0:=hav
 have hkv0:=hkv
 obtain ⟨A1,c1,A2,c2,rfl,hl1,hm1,hl2,hm2,hC1,-⟩:=hgv.form
 obtain ⟨A3,n3,c3,A4,n4,c4,rfl⟩:=hav.shape
 obtain ⟨A5,c5,rfl,hl5,hm5,hC5⟩:=hkv.form
 have hb0:Below w.heap.size w (((w.alloc (.cells #[.slice A1 g.vals.length c1,.slice A2 g.edges.length c2] 27)).alloc (.cells #[.int .i64 a.start,.slice A3 n3 c3,.slice A4 n4 c4] 31)).alloc (.cells #[.int .i64 k.1,.slice A5 k.2.length c5] 39)):=(((Below.refl _ _).alloc (Nat.le_refl _) _).alloc (by simp) _).alloc (by simp;omega) _
 obtain ⟨RS,hRS⟩:∃ RS,RS=alongS g a k:=⟨_,rfl⟩
 obtain ⟨RN,hRN⟩:∃ RN,RN=alongN g a k:=⟨_,rfl⟩
 obtain ⟨ok,hok⟩:∃ ok,ok=(walkOk g k && auOk a):=⟨_,rfl⟩
 rw [<- hRS,<- hRN,<- hok]
 have HOK:=Hd_ hok
 have HRS:=Hd_ hRS
 have HRN:=Hd_ hRN
 have HGV:=Hd_ hgv0
 have HAV:=Hd_ hav0
 have HKV:=Hd_ hkv0
 have HC1:=Hd_ hC1
 have HC5:=Hd_ hC5
 clear hgv hav hkv hgv0 hav0 hkv0 hC1 hC5 hRS hRN hok
 go_enter Tryz.func148,Tryz.ntmps148
 go_wp2_with fail
 obtain ⟨W0,hW0⟩:∃ W0,W0=(((w.alloc (.cells #[.slice A1 g.vals.length c1,.slice A2 g.edges.length c2] 27)).alloc (.cells #[.int .i64 a.start,.slice A3 n3 c3,.slice A4 n4 c4] 31)).alloc (.cells #[.int .i64 k.1,.slice A5 k.2.length c5] 39)):=⟨_,rfl⟩
 rw [<- hW0] at hb0 ⊢
 have bx:Blk W0 w.heap.size 27 #[.slice A1 g.vals.length c1,.slice A2 g.edges.length c2]:=by rw [hW0];exact ((Blk.new w _ _ w.heap.size rfl).alloc _).alloc _
 have by_:Blk W0 (w.heap.size+1) 31 #[.int .i64 a.start,.slice A3 n3 c3,.slice A4 n4 c4]:=by rw [hW0];exact (Blk.new (w.alloc _) _ _ (w.heap.size+1) (by simp)).alloc _
 have bz:Blk W0 (w.heap.size+1+1) 39 #[.int .i64 k.1,.slice A5 k.2.length c5]:=by rw [hW0];exact Blk.new ((w.alloc _).alloc _) _ _ (w.heap.size+1+1) (by simp)
 have x0:W0.cell? ⟨w.heap.size,0,none⟩=some (.slice A1 g.vals.length c1):=by exact bx.cell 0
 have x1:W0.cell? ⟨w.heap.size,1,none⟩=some (.slice A2 g.edges.length c2):=by exact bx.cell 1
 have y0:W0.cell? ⟨w.heap.size+1,0,none⟩=some (.int .i64 a.start):=by exact by_.cell 0
 have y1:W0.cell? ⟨w.heap.size+1,1,none⟩=some (.slice A3 n3 c3):=by exact by_.cell 1
 have y2:W0.cell? ⟨w.heap.size+1,2,none⟩=some (.slice A4 n4 c4):=by exact by_.cell 2
 have z0:W0.cell? ⟨w.heap.size+1+1,0,none⟩=some (.int .i64 k.1):=by exact bz.cell 0
 have z1:W0.cell? ⟨w.heap.size+1+1,1,none⟩=some (.slice A5 k.2.length c5):=by exact bz.cell 1
 have hs0:w.heap.size+1+1+1=W0.heap.size:=by rw [hW0];simp
 have l0:w.heap.size+1+1 < W0.heap.size:=by omega
 clear hW0 hs0 bx by_ bz
 have hnod:=implNodes _ _ g k W0 (HGV.out.keep hb0) (HKV.out.keep hb0)
 have HNOD:=Hd_ hnod
 clear hnod
 cases hw:walkOk g k with
 | false =>
   rw [hw] at HNOD
   have hfS:RS=[]:=by rw [HRS.out,alongS,hw];rfl
   have hfN:RN=[]:=by rw [HRN.out,alongN,hw];rfl
   have hfK:ok=false:=by rw [HOK.out,hw];rfl
   subst hfS hfN hfK
   refine HNOD.out.mono ?_
   rintro e w1 ⟨v1,rfl,ho1,hb1⟩
   obtain ⟨A6,c6,rfl,-,-,-⟩:=ho1.form cI_len
   clear hw HRS HRN HOK
   go_wp2_with fail
   go_ret3
   exact ⟨_,_,rfl,Own.nil _ _ _ _ _ _,Own.nil _ _ _ _ _ _,below_trans hb0 hb1⟩
 | true =>
   rw [hw] at HNOD
   cases ha:auOk a with
   | false =>
     have hfS:RS=[]:=by rw [HRS.out,alongS,hw,ha];rfl
     have hfN:RN=[]:=by rw [HRN.out,alongN,hw,ha];rfl
     have hfK:ok=false:=by rw [HOK.out,hw,ha];rfl
     subst hfS hfN hfK
     have HA:=Hd_ ha
     clear hw HRS HRN ha HOK
     refine HNOD.out.mono ?_
     rintro e w1 ⟨v1,rfl,ho1,hb1⟩
     obtain ⟨A6,c6,rfl,-,-,-⟩:=ho1.form cI_len
     have hb2:=below_trans hb0 hb1
     have y0:=kcell hb1 y0
     have y1:=kcell hb1 y1
     have y2:=kcell hb1 y2
     have l0:=Nat.lt_of_lt_of_le l0 hb1.size
     go_wp2_with fail
     refine (implValidAutomaton _ a _ (HAV.out.keep hb2)).mono ?_
     rw [HA.out]
     rintro e w2 ⟨rfl,hb3⟩
     go_wp2_with fail
     go_ret3
     exact ⟨_,_,rfl,Own.nil _ _ _ _ _ _,Own.nil _ _ _ _ _ _,below_trans hb2 hb3⟩
   | true =>
     have hfS:RS=setsL g a k (k.2.length+1):=by rw [HRS.out,alongS,hw,ha];rfl
     have hfN:RN=nodesL g k:=by rw [HRN.out,alongN,hw,ha];rfl
     have HFS:=Hd_ hfS
     have HFN:=Hd_ hfN
     have HW:=Hd_ hw
     have HA:=Hd_ ha
     have hfK:ok=true:=by rw [HOK.out,hw,ha];rfl
     subst hfK
     clear hw HRS HRN ha hfS hfN HOK
     refine HNOD.out.mono ?_
     rintro e w1 ⟨v1,rfl,ho1,hb1⟩
     rw [nodesOut_yes HW.out] at ho1
     obtain ⟨A6,c6,rfl,hl6,hm6,-⟩:=ho1.form cI_len
     have hb2:=below_trans hb0 hb1
     have x0:=kcell hb1 x0
     have x1:=kcell hb1 x1
     have y0:=kcell hb1 y0
     have y1:=kcell hb1 y1
     have y2:=kcell hb1 y2
     have z0:=kcell hb1 z0
     have z1:=kcell hb1 z1
     have l0:=Nat.lt_of_lt_of_le l0 hb1.size
     have HO1:=Hd_ ho1
     clear ho1 HNOD
     rw [nodesL_len] at hl6 ⊢
     go_wp2_with fail
     refine (implValidAutomaton _ a _ (HAV.out.keep hb2)).mono ?_
     rw [HA.out]
     rintro e w2 ⟨rfl,hb3⟩
     have hbw:=below_trans hb2 hb3
     have x0:=kcell hb3 x0
     have x1:=kcell hb3 x1
     have y0:=kcell hb3 y0
     have y1:=kcell hb3 y1
     have y2:=kcell hb3 y2
     have z0:=kcell hb3 z0
     have z1:=kcell hb3 z1
     have l0:=Nat.lt_of_lt_of_le l0 hb3.size
     obtain ⟨⟨hn1,hn12⟩,⟨hst0,hst1⟩,-,-⟩:=auOk_iff.1 HA.out
     obtain ⟨s,hs⟩:∃ s:Nat,a.start=(s:Int):=⟨a.start.toNat,by omega⟩
     rw [hs] at y0 HAV
     have hsn:s < a.accept.length:=by omega
     have e1:=shl_bit (s:=s) (by omega)
     have hS1:setsL g a k (0+1)=[bit s]:=by simp [setsL,setAt,hs]
     have HS1:=Hd_ hS1
     have hr1:=ownsRow_below (HO1.out.1) hb3 (Nat.le_refl _)
     rw [nodesL_len] at hr1
     obtain ⟨gN,cN',hvN,-,hgN,-,-⟩:=own_some hr1 (by omega)
     injection hvN with e2 _ e3
     subst e2
     subst e3
     have HR1:=Hd_ hr1
     have HB3:=Hd_ hb3
     have hs3:=hb3.size
     have hs2:=hb2.size
     have hg3:=(walkOk_parts HW.out).2.2.1
     have HGO:=Hd_ (walkOk_parts HW.out).1
     clear hs hst0 hst1 hS1 hr1 hb3 hb1 hb0 HO1
     go_wp2_with fail
     go_loopw [11,34] (fun ss ii wr=>∃ i:Nat,i<=k.2.length/\ii=.int .i64 (i:Int)/\wr.ownsRow w2.heap.size 3 1 ss (setsL g a k (i+1)).length ((setsL g a k (i+1)).flatMap cN)/\Below w2.heap.size w2 wr) (fun _ ii _=>k.2.length - (intOf ii).toNat)
     case atStart=>exact ⟨0,Nat.zero_le _,rfl,by rw [HS1.out];exact World.ownsRow_lit w2 #[.int .i64 (bit s:Int)] 1 (Nat.le_refl _) (by decide) rfl,(Below.refl _ _).alloc (Nat.le_refl _) _⟩
     case round =>
      clear HS1 e1
      obtain ⟨i,hi,rfl,hrow,hbel⟩:=hrel
      have hbw2:=below_trans hbw hbel
      have x0:=kcell hbel x0
      have x1:=kcell hbel x1
      have y0:=kcell hbel y0
      have y1:=kcell hbel y1
      have y2:=kcell hbel y2
      have z0:=kcell hbel z0
      have z1:=kcell hbel z1
      have l0:=Nat.lt_of_lt_of_le l0 hbel.size
      have hsz:=hbel.size
      have HROW:=Hd_ hrow
      have HBW2:=Hd_ hbw2
      clear hrow hbw2
      by_cases hlt:i < k.2.length
      · obtain ⟨st,e,hst,he,ht,hl,hsl,hl6⟩:=walk_step HW.out hlt
        obtain ⟨sid,sinv⟩:=st
        obtain ⟨b5,o5,rfl,hb5,p0,p1⟩:=HC5.out.st hst
        have p0:=kcell hbel (kcell hbw p0)
        have p1:=kcell hbel (kcell hbw p1)
        obtain ⟨hna,hnl⟩:=nodeAt_lt HW.out hi
        have q0:=kcell hbel ((World.ownsRow.cellAt HR1.out i (by omega)).trans (flatI_at hna))
        have hvi:g.vals[nodeAt g k i]?=some g.vals[nodeAt g k i]:=List.getElem?_eq_getElem hnl
        have hvr:=HGO.out.vals _ (List.getElem_mem hnl)
        generalize g.vals[nodeAt g k i]=vx at hvi hvr
        obtain ⟨vx,rfl⟩:=Int.eq_ofNat_of_zero_le hvr.1
        have hva:=valAt_of hvi
        rw [Int.toNat_natCast] at hva
        obtain ⟨b1,o1,rfl,hb1,d1⟩:=HC1.out.int hvi
        have d1:=kcell hbel (kcell hbw d1)
        have hrow:=HROW.out
        rw [setsL_len] at hrow
        obtain ⟨gS,cS,rfl,hgS,hgS2,-,-⟩:=own_some hrow (by omega)
        have s0:=(World.ownsRow.cellAt hrow i (by omega)).trans (flatN_at (setsL_at (g:=g) (a:=a) (k:=k) (show i < i+1 by omega)))
        have HSA:=Hd_ (show setAt g a k (i+1)=aft a (setAt g a k i) vx (letAt g k i) by rw [<- hva];rfl)
        have HSN:=Hd_ (setsL_snoc g a k (i+1))
        have hsla:=setAt_lt HA.out k i (g:=g)
        have hsla4:=lt12 HA.out hsla
        have hsal:=setsL_len g a k (i+1)
        have HLET:=Hd_ (show ∀ W,Below w.heap.size w W->Calls Tryz.prog 172 #[.agg #[.slice (some ⟨b1,o1,none⟩) g.vals.length c1,.slice A2 g.edges.length c2],.agg #[.int .i64 sid,.bool sinv]] W fun e w'=>e=.returned (.int .i64 (letAt g k i:Int))/\Below W.heap.size W w' from fun W hW=>by
         have h:=implStepLetter _ g (sid,sinv) W (HGV.out.keep hW)
         rwa [hsl] at h)
        have HSL:=Hd_ hsla
        generalize letAt g k i=LI at *
        generalize setAt g a k i=SI at *
        generalize nodeAt g k i=NI at *
        generalize setsL g a k (i+1)=SX at *
        have hki:(i:Int) < (k.2.length:Int):=by omega
        have hni:(NI:Int) < (g.vals.length:Int):=by omega
        have hki1:(i:Int) < ((k.2.length:Int)+1):=by omega
        clear hst he ht hl hsl hna hvi hva hrow hsla
        go_wp2_with fail
        have hbA:Below wr.heap.size wr (wr.alloc (.cells #[.int .i64 sid,.bool sinv] 81)):=(Below.refl _ _).alloc (Nat.le_refl _) _
        have t0:(wr.alloc (.cells #[.int .i64 sid,.bool sinv] 81)).cell? ⟨wr.heap.size,0,none⟩=some (.int .i64 sid):=by simp
        have t1:(wr.alloc (.cells #[.int .i64 sid,.bool sinv] 81)).cell? ⟨wr.heap.size,1,none⟩=some (.bool sinv):=by simp
        have x0:=kcell hbA x0
        have x1:=kcell hbA x1
        have y0:=kcell hbA y0
        have y1:=kcell hbA y1
        have y2:=kcell hbA y2
        have q0:=kcell hbA q0
        have d1:=kcell hbA d1
        have s0:=kcell hbA s0
        have HRA:=Hd_ (ownsRow_below HROW.out hbA (Nat.le_refl _))
        have hsA:=hbA.size
        generalize wr.alloc (.cells #[.int .i64 sid,.bool sinv] 81)=wA at *
        have hii1:(i:Int) < (i:Int)+1:=by omega
        have hbAd:=below_trans hbA ((Below.refl wA.heap.size wA).drew)
        refine F_start 19 (fun w'=>w'.cell? ⟨w.heap.size,0,none⟩=some (.slice (some ⟨b1,o1,none⟩) g.vals.length c1)/\w'.cell? ⟨w.heap.size,1,none⟩=some (.slice A2 g.edges.length c2)/\w'.cell? ⟨w.heap.size+1,0,none⟩=some (.int .i64 (s:Int))/\w'.cell? ⟨w.heap.size+1,1,none⟩=some (.slice A3 n3 c3)/\w'.cell? ⟨w.heap.size+1,2,none⟩=some (.slice A4 n4 c4)/\w'.cell? ⟨gN,i,none⟩=some (.int .i64 (NI:Int))/\w'.cell? ⟨b1,o1+NI,none⟩=some (.int .i64 (vx:Int))/\w'.cell? ⟨gS,i,none⟩=some (.int .i64 (SI:Int))/\w'.cell? ⟨wr.heap.size,0,none⟩=some (.int .i64 sid)/\w'.cell? ⟨wr.heap.size,1,none⟩=some (.bool sinv)) (by kernel_rfl) (by exact ⟨x0,x1,y0,y1,y2,q0,d1,s0,t0,t1⟩) (fun hS inv=>?_)
        refine F_tk 0 inv ?_
        try simp only [tA,tB,tC,Act.put,tE,tF,tG]
        clear inv;intro inv
        refine F_tk 1 inv ?_
        try simp only [tA,tB,tC,Act.put,tE,tF,tG]
        clear inv;intro inv
        refine F_tk 2 inv ?_
        try simp only [tA,tB,tC,Act.put,tE,tF,tG]
        clear inv;intro inv
        refine F_tk 3 inv ?_
        try simp only [tA,tB,tC,Act.put,tE,tF,tG]
        clear inv;intro inv
        refine F_tk 4 inv ?_
        try simp only [tA,tB,tC,Act.put,tE,tF,tG]
        clear inv;intro inv
        refine F_tk 5 inv ?_
        try simp only [tA,tB,tC,Act.put,tE,tF,tG]
        clear inv;intro inv
        refine F_tk 6 inv ?_
        try simp only [tA,tB,tC,Act.put,tE,tF,tG]
        clear inv;intro inv
        refine F_tk 7 inv ?_
        try simp only [tA,tB,tC,Act.put,tE,tF,tG]
        clear inv;intro inv
        refine F_tk 8 inv ?_
        try simp only [tA,tB,tC,Act.put,tE,tF,tG]
        clear inv;intro inv
        refine F_tk 9 inv ?_
        try simp only [tA,tB,tC,Act.put,tE,tF,tG]
        clear inv;intro inv
        refine F_tk 10 inv ?_
        try simp only [tA,tB,tC,Act.put,tE,tF,tG]
        clear inv;intro inv
        refine F_tk 11 inv ?_
        try simp only [tA,tB,tC,Act.put,tE,tF,tG]
        clear inv;intro inv
        refine F_tk 12 inv ?_
        try simp only [tA,tB,tC,Act.put,tE,tF,tG]
        clear inv;intro inv
        refine F_tk 13 inv ?_
        try simp only [tA,tB,tC,Act.put,tE,tF,tG]
        clear inv;intro inv
        refine F_tk 14 inv ?_
        try simp only [tA,tB,tC,Act.put,tE,tF,tG]
        clear inv;intro inv
        refine F_tk 15 inv ?_
        try simp only [tA,tB,tC,Act.put,tE,tF,tG]
        clear inv;intro inv
        refine F_o1 16 inv ?_;intro K hK
        try simp only [tA,tB,tC]
        go_simp
        refine (HLET.out _ (below_trans HBW2.out hbAd)).mono ?_
        rintro e wL ⟨rfl,hbL⟩
        refine hK.out _ _ (kB10 hbL hS) (fun _ _=>?_)
        try simp only [tA,tB,tC,Act.put,tE,tF,tG]
        clear hK K inv hS;rename_i hS inv
        refine F_o1 17 inv ?_;intro K hK
        try simp only [tA,tB,tC]
        go_simp
        refine (after_any _ a SI vx LI _ (HAV.out.keep (below_trans HBW2.out (below_trans hbAd hbL))) HA.out HSL.out (by omega) (by omega)).mono ?_
        rintro e wT ⟨rfl,hbT⟩
        have hbAT:=below_trans ((Below.refl wA.heap.size wA).drew) (below_trans hbL hbT)
        have HRT:=Hd_ (ownsRow_below HRA.out hbAT (Nat.le_refl _))
        have hsT:=hbAT.size
        refine hK.out _ _ (kB10 hbT hS) (fun _ _=>?_)
        try simp only [tA,tB,tC,Act.put,tE,tF,tG]
        clear hK K inv hS;rename_i hS inv
        refine F_o1 18 inv ?_;intro K hK
        try simp only [tA,tB,tC]
        go_simp
        refine hK.out _ _ (kA10 _ hS) (fun _ _=>?_)
        try simp only [tA,tB,tC,Act.put,tE,tF,tG]
        clear hK K inv hS;rename_i hS inv
        refine F_tail (i:=19) (by kernel_rfl) rfl rfl (by omega) (fun K hK=>?_)
        try simp only [tA,tB,tC]
        refine op_append1 cN elInt rfl _ _ (by rfl) w2.heap.size _ SX (aft a SI vx LI) 1 _ (by rfl) (by have h:=HRT.out.alloc (.cells #[.int .i64 (aft a SI vx LI:Int)] 3);rw [hsal] at h ⊢;exact h) (by first | rfl | simp) (heap_alloc_new _ _) rfl (cN_one _) (by omega) (by omega) (by simp;omega) ?_
        intro g2 cp2 w3 hown3 hgr3 hat3 hlt3
        have HW3:=Hd_ hown3
        have HG3:=Hd_ hgr3
        clear hown3 hgr3 hat3
        refine hK.out _ _ ?_
        try simp only [tA,tB,tC,Act.put,tE,tF,tG]
        clear hK K
        try clear inv hS
        refine F_l1 20 ?_;intro K hK
        go_simp
        refine hK _ _ ?_
        clear hK K
        go_wp2_with fail
        go_roundw
        case rel=>exact ⟨i+1,by omega,by go_num,by rw [HSN.out,HSA.out];have h:=HW3.out;rw [hsal] at h;exact h,(((hbel.trans (hbA.mono hsz)).trans (hbAT.mono (by omega))).alloc (by omega) _).trans (own_below (HRT.out.alloc _) (by simp;omega) HG3.out)⟩
        case measure=>simp [intOf];omega
      · obtain rfl:i=k.2.length:=by omega
        have hrow:=HROW.out
        rw [setsL_len] at hrow
        obtain ⟨gS,cS,rfl,hgS,hgS2,-,-⟩:=own_some hrow (by omega)
        have hoS:=Own.of_row (xs:=setsL g a k (k.2.length+1)) (ownsRow_mono (b:=w.heap.size) HROW.out (by omega)) (by rw [setsL_len]) rfl
        rw [<- HFS.out] at hoS
        have hoN:=Own.of_row (xs:=nodesL g k) (ownsRow_mono (b:=w.heap.size) (ownsRow_below HR1.out hbel (Nat.le_refl _)) (by omega)) (nodesL_len g k) rfl
        rw [<- HFN.out] at hoN
        have HOS:=Hd_ hoS
        have HON:=Hd_ hoN
        clear hrow hoS hoN
        go_wp2_with fail
        go_ret3
        exact ⟨_,_,rfl,HOS.out,HON.out,HBW2.out⟩
set_option maxHeartbeats 4000000 in
set_option maxRecDepth 100000 in
theorem implMatchesWalk (vg va vk:Value) (g:Gr) (a:Au) (k:Wk) (w:World) (hgv:GrV 0 w.heap.size w vg g) (hav:AuV 0 w.heap.size w va a) (hkv:WkV 0 w.heap.size w vk k) :
 Calls Tryz.prog 103 #[vg,va,vk] w fun e w'=>e=.returned (.bool (matchB g a k))/\Below w.heap.size w w':=by
 have hgv0:=hgv
 have hav0:=hav
 have hkv0:=hkv
 obtain ⟨A1,c1,A2,c2,rfl,hl1,hm1,hl2,hm2,hC1,-⟩:=hgv.form
 obtain ⟨A3,n3,c3,A4,n4,c4,rfl⟩:=hav.shape
 obtain ⟨A5,n5,c5,rfl⟩:=hkv.shape
 have hb0:Below w.heap.size w (((w.alloc (.cells #[.slice A1 g.vals.length c1,.slice A2 g.edges.length c2] 27)).alloc (.cells #[.int .i64 a.start,.slice A3 n3 c3,.slice A4 n4 c4] 31)).alloc (.cells #[.int .i64 k.1,.slice A5 n5 c5] 39)):=(((Below.refl _ _).alloc (Nat.le_refl _) _).alloc (by simp) _).alloc (by simp;omega) _
 have hal:=along_any _ _ _ g a k _ (hgv0.keep hb0) (hav0.keep hb0) (hkv0.keep hb0)
 obtain ⟨R,hR⟩:∃ R,R=matchB g a k:=⟨_,rfl⟩
 rw [<- hR]
 have HAL:=Hd_ hal
 have HR:=Hd_ hR
 have HGV:=Hd_ hgv0
 have HAV:=Hd_ hav0
 have HC1:=Hd_ hC1
 clear hgv hav hkv hgv0 hav0 hkv0 hC1 hR hal
 cases hok:walkOk g k && auOk a with
 | false =>
   rw [hok] at HAL
   have hfin:R=false:=by rw [HR.out,matchB,hok];rfl
   subst hfin
   clear HR hok
   go_enter Tryz.func103,Tryz.ntmps103
   go_wp2_with fail
   refine HAL.out.mono ?_
   rintro e w1 ⟨v1,v2,rfl,ho1,ho2,hb1⟩
   obtain ⟨A6,n6,c6,rfl⟩:=ho1.shape
   obtain ⟨A7,n7,c7,rfl⟩:=ho2.shape
   go_wp2_with fail
   refine wp_region_ext_lit (by kernel_rfl) (by kernel_rfl) ?_
   repeat (go_big_quiet_step (fail))
   refine wpQuiet_nil ?_
   rintro _ ⟨u2,rfl⟩
   go_wp2_with fail
   go_ret
   exact ⟨rfl,below_trans (below_trans hb0 hb1) (ext_below _ _)⟩
 | true =>
   rw [hok] at HAL
   have hfin:R=acc a (setAt g a k k.2.length) (valAt g (nodeAt g k k.2.length)):=by rw [HR.out,matchB,hok];simp
   have hS:alongS g a k=setsL g a k (k.2.length+1):=by rw [alongS,hok];rfl
   have hN:alongN g a k=nodesL g k:=by rw [alongN,hok];rfl
   rw [hS,hN] at HAL
   simp only [Bool.and_eq_true] at hok
   obtain ⟨hw,ha⟩:=hok
   have hl60:=(walkOk_parts hw).2.2.1
   have hgo:=(walkOk_parts hw).1
   obtain ⟨hna,hnl⟩:=nodeAt_lt hw (Nat.le_refl _)
   have hvi:g.vals[nodeAt g k k.2.length]?=some g.vals[nodeAt g k k.2.length]:=List.getElem?_eq_getElem hnl
   have hvr:=hgo.vals _ (List.getElem_mem hnl)
   generalize g.vals[nodeAt g k k.2.length]=vx at hvi hvr
   obtain ⟨vx,rfl⟩:=Int.eq_ofNat_of_zero_le hvr.1
   have hva:=valAt_of hvi
   rw [Int.toNat_natCast] at hva
   rw [hva] at hfin
   obtain ⟨b1,o1,rfl,hb1w,d1⟩:=HC1.out.int hvi
   have hsla:=setAt_lt ha k k.2.length (g:=g)
   have hs1:=setsL_at (g:=g) (a:=a) (k:=k) (show k.2.length < k.2.length+1 by omega)
   generalize setAt g a k k.2.length=SI at *
   generalize nodeAt g k k.2.length=NI at *
   have hni:(NI:Int) < (g.vals.length:Int):=by omega
   have HF:=Hd_ hfin
   have HW:=Hd_ hw
   have HA:=Hd_ ha
   have HS1:=Hd_ hs1
   have HNA:=Hd_ hna
   have HSL:=Hd_ hsla
   clear HR hfin hS hN hw ha hvi hva hgo hs1 hna hsla
   go_enter Tryz.func103,Tryz.ntmps103
   go_wp2_with fail
   obtain ⟨W0,hW0⟩:∃ W0,W0=(((w.alloc (.cells #[.slice (some ⟨b1,o1,none⟩) g.vals.length c1,.slice A2 g.edges.length c2] 27)).alloc (.cells #[.int .i64 a.start,.slice A3 n3 c3,.slice A4 n4 c4] 31)).alloc (.cells #[.int .i64 k.1,.slice A5 n5 c5] 39)):=⟨_,rfl⟩
   rw [<- hW0] at hb0 HAL ⊢
   have bx:Blk W0 w.heap.size 27 #[.slice (some ⟨b1,o1,none⟩) g.vals.length c1,.slice A2 g.edges.length c2]:=by rw [hW0];exact ((Blk.new w _ _ w.heap.size rfl).alloc _).alloc _
   have by_:Blk W0 (w.heap.size+1) 31 #[.int .i64 a.start,.slice A3 n3 c3,.slice A4 n4 c4]:=by rw [hW0];exact (Blk.new (w.alloc _) _ _ (w.heap.size+1) (by simp)).alloc _
   have x0:W0.cell? ⟨w.heap.size,0,none⟩=some (.slice (some ⟨b1,o1,none⟩) g.vals.length c1):=by exact bx.cell 0
   have x1:W0.cell? ⟨w.heap.size,1,none⟩=some (.slice A2 g.edges.length c2):=by exact bx.cell 1
   have y0:W0.cell? ⟨w.heap.size+1,0,none⟩=some (.int .i64 a.start):=by exact by_.cell 0
   have y1:W0.cell? ⟨w.heap.size+1,1,none⟩=some (.slice A3 n3 c3):=by exact by_.cell 1
   have y2:W0.cell? ⟨w.heap.size+1,2,none⟩=some (.slice A4 n4 c4):=by exact by_.cell 2
   have l0:=by_.lt
   have l00:=bx.lt
   have d1:=kcell hb0 d1
   have l1:b1 < W0.heap.size:=Nat.lt_of_lt_of_le hb1w hb0.size
   clear hW0 bx by_
   refine HAL.out.mono ?_
   rintro e w1 ⟨v1,v2,rfl,ho1,ho2,hb1⟩
   have x0:=kcell hb1 x0
   have x1:=kcell hb1 x1
   have y0:=kcell hb1 y0
   have y1:=kcell hb1 y1
   have y2:=kcell hb1 y2
   have d1:=kcell hb1 d1
   have hs1:=hb1.size
   have l0:=Nat.lt_of_lt_of_le l0 hs1
   have l00:=Nat.lt_of_lt_of_le l00 hs1
   have l1:=Nat.lt_of_lt_of_le l1 hs1
   have r1:=ho1.1
   have r2:=ho2.1
   rw [setsL_len] at r1
   rw [nodesL_len] at r2
   obtain ⟨gS,cS,rfl,-,hgS,-,-⟩:=own_some r1 (by omega)
   obtain ⟨gN,cN',rfl,-,hgN,-,-⟩:=own_some r2 (by omega)
   have s0:=(World.ownsRow.cellAt r1 k.2.length (by omega)).trans (flatN_at HS1.out)
   have q0:=(World.ownsRow.cellAt r2 k.2.length (by omega)).trans (flatI_at HNA.out)
   have hbw:=below_trans hb0 hb1
   have HBW:=Hd_ hbw
   have m1:((k.2.length:Int)+1) - 1=(k.2.length:Int):=by omega
   clear r1 r2 ho1 ho2 hb0 hb1 hbw
   go_wp2_with fail
   refine wp_region_ext_lit (by kernel_rfl) (by kernel_rfl) ?_
   repeat (go_big_quiet_step ((go_at_call 99;exact Calls.ext_of (acceptsAt_any _ a SI vx _ (HAV.out.keep (below_trans HBW.out (ext_below _ _))) HA.out HSL.out (by omega)))))
   refine wpQuiet_nil ?_
   rintro _ ⟨u2,rfl⟩
   go_wp2_with fail
   go_ret
   exact ⟨by rw [HF.out];rfl,below_trans HBW.out (ext_below _ _)⟩
set_option maxHeartbeats 4000000 in
theorem implIsWitness (vg va vk:Value) (g:Gr) (a:Au) (x y:Int) (k:Wk) (w:World) (hgv:GrV 0 w.heap.size w vg g) (hav:AuV 0 w.heap.size w va a) (hkv:WkV 0 w.heap.size w vk k) :
 Calls Tryz.prog 56 #[vg,va,.int .i64 x,.int .i64 y,vk] w fun e w'=>e=.returned (.bool (isWit g a x y k))/\Below w.heap.size w w':=by
 have hgv0:=hgv
 have hav0:=hav
 have hkv0:=hkv
 obtain ⟨A1,n1,c1,A2,n2,c2,rfl⟩:=hgv.shape
 obtain ⟨A3,n3,c3,A4,n4,c4,rfl⟩:=hav.shape
 obtain ⟨A5,n5,c5,rfl⟩:=hkv.shape
 have hb0:Below w.heap.size w (((w.alloc (.cells #[.slice A1 n1 c1,.slice A2 n2 c2] 27)).alloc (.cells #[.int .i64 a.start,.slice A3 n3 c3,.slice A4 n4 c4] 31)).alloc (.cells #[.int .i64 k.1,.slice A5 n5 c5] 39)):=(((Below.refl _ _).alloc (Nat.le_refl _) _).alloc (by simp) _).alloc (by simp;omega) _
 obtain ⟨R,hR⟩:∃ R,R=isWit g a x y k:=⟨_,rfl⟩
 rw [<- hR]
 have HR:=Hd_ (hR.trans (show isWit g a x y k=((k.1==x && walkEnd g k==y) && matchB g a k) from rfl))
 have HGV:=Hd_ hgv0
 have HAV:=Hd_ hav0
 have HKV:=Hd_ hkv0
 clear hgv hav hkv hgv0 hav0 hkv0 hR
 have HMW:=Hd_ (fun (W:World) (hW:Below w.heap.size w W)=>implMatchesWalk _ _ _ g a k W (HGV.out.keep hW) (HAV.out.keep hW) (HKV.out.keep hW))
 have HWE:=Hd_ (fun (W:World) (hW:Below w.heap.size w W)=>implWalkEnd _ _ g k W (HGV.out.keep hW) (HKV.out.keep hW))
 go_enter Tryz.func56,Tryz.ntmps56
 generalize matchB g a k=mb at HR HMW
 generalize walkEnd g k=we at HR HWE
 cases h1:(k.1==x) with
 | false =>
   have hfin:R=false:=by rw [HR.out,h1];rfl
   subst hfin
   clear HR
   go_wp2_with fail
   go_ret
   exact ⟨rfl,hb0⟩
 | true =>
   rw [h1,Bool.true_and] at HR
   go_wp2_with fail
   obtain ⟨W0,hW0⟩:∃ W0,W0=(((w.alloc (.cells #[.slice A1 n1 c1,.slice A2 n2 c2] 27)).alloc (.cells #[.int .i64 a.start,.slice A3 n3 c3,.slice A4 n4 c4] 31)).alloc (.cells #[.int .i64 k.1,.slice A5 n5 c5] 39)):=⟨_,rfl⟩
   rw [<- hW0] at hb0 ⊢
   have bx:Blk W0 w.heap.size 27 #[.slice A1 n1 c1,.slice A2 n2 c2]:=by rw [hW0];exact ((Blk.new w _ _ w.heap.size rfl).alloc _).alloc _
   have by_:Blk W0 (w.heap.size+1) 31 #[.int .i64 a.start,.slice A3 n3 c3,.slice A4 n4 c4]:=by rw [hW0];exact (Blk.new (w.alloc _) _ _ (w.heap.size+1) (by simp)).alloc _
   have bz:Blk W0 (w.heap.size+1+1) 39 #[.int .i64 k.1,.slice A5 n5 c5]:=by rw [hW0];exact Blk.new ((w.alloc _).alloc _) _ _ (w.heap.size+1+1) (by simp)
   have x0:W0.cell? ⟨w.heap.size,0,none⟩=some (.slice A1 n1 c1):=by exact bx.cell 0
   have x1:W0.cell? ⟨w.heap.size,1,none⟩=some (.slice A2 n2 c2):=by exact bx.cell 1
   have y0:W0.cell? ⟨w.heap.size+1,0,none⟩=some (.int .i64 a.start):=by exact by_.cell 0
   have y1:W0.cell? ⟨w.heap.size+1,1,none⟩=some (.slice A3 n3 c3):=by exact by_.cell 1
   have y2:W0.cell? ⟨w.heap.size+1,2,none⟩=some (.slice A4 n4 c4):=by exact by_.cell 2
   have z0:W0.cell? ⟨w.heap.size+1+1,0,none⟩=some (.int .i64 k.1):=by exact bz.cell 0
   have z1:W0.cell? ⟨w.heap.size+1+1,1,none⟩=some (.slice A5 n5 c5):=by exact bz.cell 1
   clear hW0 bx by_ bz
   refine (HWE.out W0 hb0).mono ?_
   rintro e w1 ⟨rfl,hb1⟩
   have hb2:=below_trans hb0 hb1
   have x0:=kcell hb1 x0
   have x1:=kcell hb1 x1
   have y0:=kcell hb1 y0
   have y1:=kcell hb1 y1
   have y2:=kcell hb1 y2
   have z0:=kcell hb1 z0
   have z1:=kcell hb1 z1
   cases h2:(we==y) with
   | false =>
     have hfin:R=false:=by rw [HR.out,h2];rfl
     subst hfin
     clear HR
     go_wp2_with fail
     go_ret
     exact ⟨rfl,hb2⟩
   | true =>
     rw [h2,Bool.true_and] at HR
     go_wp2_with fail
     refine (HMW.out w1 hb2).mono ?_
     rintro e w3 ⟨rfl,hb3⟩
     go_wp2_with fail
     go_ret
     exact ⟨by rw [HR.out];rfl,below_trans hb2 hb3⟩
theorem implIsWalk (v1 v2:Value) (g:Gr) (k:Wk) (w:World) (hv1:GrV 0 w.heap.size w v1 g) (hv2:WkV 0 w.heap.size w v2 k) :
 Calls Tryz.prog 77 #[v1,v2] w fun en w'=>en=.returned (.bool (walkOk g k))/\Below w.heap.size w w':=by
 have hv0:=hv1
 have hv3:=hv2
 obtain ⟨A1,n1,c1,A2,n2,c2,rfl⟩:=hv1.shape
 obtain ⟨A3,n3,c3,rfl⟩:=hv2.shape
 clear hv1 hv2
 have hb0:Below w.heap.size w ((w.alloc (.cells #[.slice A1 n1 c1,.slice A2 n2 c2] 27)).alloc (.cells #[.int .i64 k.1,.slice A3 n3 c3] 39)):=((Below.refl _ _).alloc (Nat.le_refl _) _).alloc (by simp) _
 have hc:=implNodes _ _ g k _ (hv0.keep hb0) (hv3.keep hb0)
 have HC:=Hd_ hc
 clear hc
 generalize walkOk g k=bb at HC
 go_enter Tryz.func77,Tryz.ntmps77
 go_wp2_with fail
 refine HC.out.mono ?_
 rintro e w1 ⟨v,rfl,-,hb1⟩
 go_wp2_with fail
 go_ret
 exact ⟨rfl,below_trans hb0 hb1⟩
/-- step i repeats the edge of an earlier one -/
def dupAt (l:List St) (i:Nat):Bool:=(l.take i).any fun t=>t.1==(l.getD i (0,false)).1
def trailOk (l:List St):Bool:=(List.range l.length).all fun i=>!dupAt l i
def isTrail (g:Gr) (k:Wk):Bool:=trailOk k.2 && walkOk g k
def isTrailWit (g:Gr) (a:Au) (x y:Int) (k:Wk):Bool:=isWit g a x y k && isTrail g k
theorem dupAt_of {l:List St} {i:Nat} {s:St} (h:l[i]?=some s):dupAt l i=true ↔ ∃ t ∈ l.take i,t.1=s.1:=by
 simp [dupAt,List.getD,h,List.any_eq_true]
theorem trailOk_no {l:List St} {i:Nat} (hi:i < l.length) (h:dupAt l i=true):trailOk l=false:=range_all_false hi (by simp [h])
theorem trailOk_yes {l:List St} (h:∀ i,i < l.length->dupAt l i=false):trailOk l=true:=List.all_eq_true.2 fun i hi=>by rw [h i (List.mem_range.1 hi)];rfl
theorem SlE.take {α:Type} {w:World} {E:α->List Value} {k:Nat} {A:Option Addr} {c:Nat} {xs:List α} (h:SlE w E k (.slice A xs.length c) xs) {i:Nat} (hi:i<=xs.length):SlE w E k (.slice A i c) (xs.take i):=by
 obtain ⟨A',c',hv,hl,hm,hx⟩:=h
 injection hv with h1 _ h3
 subst h1 h3
 have hlt:(xs.take i).length=i:=by rw [List.length_take];omega
 refine ⟨A,c,by rw [hlt],by omega,hm,fun j x hj=>hx j x ?_⟩
 rw [List.getElem?_take] at hj
 split at hj
 · exact hj
 · cases hj
/-- slices.IndexFunc over steps, at IsTrail's closure -/
theorem indexFuncStep (k0:Value) (v:Value) (xs:List St) (p:St->Prop) (w:World) (hv:SlE w cSt 2 v xs)
 (hF:∀ x ∈ xs,∀ W:World,Below w.heap.size w W->Calls Tryz.prog 76 #[.agg #[.int .i64 x.1,.bool x.2],k0] W fun e W'=>∃ b,e=.returned (.bool b)/\(b=true ↔ p x)/\Below W.heap.size W W') :
 Calls Tryz.prog 126 #[v,.func (Fn.func 76) #[] #[k0]] w fun e w'=>∃ r:Int,e=.returned (.int .i64 r)/\Below w.heap.size w w' /\
  ((r=-1/\∀ x ∈ xs,¬ p x) ∨ ∃ (i:Nat) (x:St),r=i/\xs[i]?=some x/\p x/\∀ y ∈ xs.take i,¬ p y):=by
 obtain ⟨A,c,rfl,hl,hm,hx⟩:=hv
 unfold maxLen at hm
 have HF:=Hd_ hF
 have HX:=Hd_ hx
 clear hF hx
 go_enter Tryz.func126,Tryz.ntmps126
 go_wp2_with fail
 go_loopw [8] (fun ii wr=>∃ (i:Nat) (u:World),i<=xs.length/\ii=.int .i64 i/\(∀ y ∈ xs.take i,¬ p y)/\wr=ext w u) (fun ii _=>xs.length - (intOf ii).toNat)
 case atStart=>exact ⟨0,w,Nat.zero_le _,rfl,by simp,ext_self w⟩
 case round =>
  obtain ⟨i,u,hi,rfl,hno,rfl⟩:=hrel
  have HN:=Hd_ hno
  clear hno
  by_cases hlt:i < xs.length
  · have hxi:xs[i]?=some xs[i]:=List.getElem?_eq_getElem hlt
    generalize xs[i]=x at hxi
    obtain ⟨b,o,rfl,-,hb,hc⟩:=HX.out i x hxi
    have c0:=hc 0 _ rfl
    have c1':=hc 1 _ rfl
    simp only [Nat.add_zero] at c0
    have HXI:=Hd_ hxi
    clear hc hxi
    go_wp2_with fail
    refine (HF.out x (List.mem_of_getElem? HXI.out) _ (ext_below w u)).mono ?_
    rintro e w1 ⟨bb,rfl,hbb,hb1⟩
    have HBB:=Hd_ hbb
    clear hbb
    cases bb with
    | true =>
      go_wp2_with fail
      go_ret
      exact ⟨_,rfl,below_trans (ext_below w u) hb1,.inr ⟨i,x,rfl,HXI.out,HBB.out.1 (by first | rfl | trivial),HN.out⟩⟩
    | false =>
      go_wp2_with fail
      go_roundw
      case rel =>
       obtain ⟨z,hz⟩:=ext_of (below_trans (ext_below w u) hb1)
       refine ⟨i+1,z,by omega,by go_num,fun y hy=>?_,hz⟩
       rw [take_snoc HXI.out] at hy
       rcases List.mem_append.1 hy with hy | hy
       · exact HN.out y hy
       · have:y=x:=by simpa using hy
         subst this
         exact fun h=>by have:=HBB.out.2 h;cases this
      case measure=>simp [intOf];omega
  · obtain rfl:i=xs.length:=by omega
    go_wp2_with fail
    go_ret
    exact ⟨_,rfl,ext_below w u,.inl ⟨rfl,fun x hx=>HN.out x (by rw [List.take_length];exact hx)⟩⟩
theorem containsFuncStep (k0:Value) (v:Value) (xs:List St) (p:St->Prop) (w:World) (hv:SlE w cSt 2 v xs)
 (hF:∀ x ∈ xs,∀ W:World,Below w.heap.size w W->Calls Tryz.prog 76 #[.agg #[.int .i64 x.1,.bool x.2],k0] W fun e W'=>∃ b,e=.returned (.bool b)/\(b=true ↔ p x)/\Below W.heap.size W W') :
 Calls Tryz.prog 75 #[v,.func (Fn.func 76) #[] #[k0]] w fun e w'=>∃ b,e=.returned (.bool b)/\Below w.heap.size w w'/\(b=true ↔ ∃ x ∈ xs,p x):=by
 have h:=indexFuncStep k0 v xs p w hv hF
 have H:=Hd_ h
 clear h hF hv
 go_enter Tryz.func75,Tryz.ntmps75
 go_wp2_with fail
 refine H.out.mono ?_
 rintro e w1 ⟨r,rfl,hb,hr⟩
 have HR:=Hd_ hr
 clear hr
 go_wp2_with fail
 go_ret
 refine ⟨_,rfl,hb,?_⟩
 rcases HR.out with ⟨rfl,h⟩ | ⟨i,x,rfl,hx,hp,_⟩
 · simp only [decide_eq_true_eq]
   exact ⟨fun h0=>by omega,fun ⟨x,hx,hp⟩=>absurd hp (h x hx)⟩
 · simp only [decide_eq_true_eq]
   exact ⟨fun _=>⟨x,List.mem_of_getElem? hx,hp⟩,fun _=>by omega⟩
theorem isTrailClosure (x:St) (b0:Nat) (sid:Int) (W:World) (y0:W.cell? ⟨b0,0,none⟩=some (.int .i64 sid)) (hlt:b0 < W.heap.size) :
 Calls Tryz.prog 76 #[.agg #[.int .i64 x.1,.bool x.2],.pointer (some ⟨b0,0,none⟩)] W fun e W'=>e=.returned (.bool (x.1==sid))/\Below W.heap.size W W':=by
 obtain ⟨tid,tinv⟩:=x
 go_enter Tryz.func76,Tryz.ntmps76
 go_wp2_with fail
 go_ret
 exact ⟨rfl,(Below.refl _ _).alloc (Nat.le_refl _) _⟩
set_option maxHeartbeats 4000000 in
theorem implIsTrail (v1 v2:Value) (g:Gr) (k:Wk) (w:World) (hv1:GrV 0 w.heap.size w v1 g) (hv2:WkV 0 w.heap.size w v2 k) :
 Calls Tryz.prog 24 #[v1,v2] w fun en w'=>en=.returned (.bool (isTrail g k))/\Below w.heap.size w w':=by
 have hv0:=hv1
 have hv3:=hv2
 obtain ⟨A1,n1,c1,A2,n2,c2,rfl⟩:=hv1.shape
 obtain ⟨ss,rfl,hss⟩:=hv2
 have hss0:=hss
 obtain ⟨A3,c3,rfl,hl3,hm3,hC3⟩:=SlE.form hss
 have hb0:Below w.heap.size w ((w.alloc (.cells #[.slice A1 n1 c1,.slice A2 n2 c2] 27)).alloc (.cells #[.int .i64 k.1,.slice A3 k.2.length c3] 39)):=((Below.refl _ _).alloc (Nat.le_refl _) _).alloc (by simp) _
 obtain ⟨R,hR⟩:∃ R,R=isTrail g k:=⟨_,rfl⟩
 rw [<- hR]
 have HR:=Hd_ hR
 have HGV:=Hd_ hv0
 have HKV:=Hd_ hv3
 have HSS:=Hd_ hss0
 have HC3:=Hd_ hC3
 clear hv1 hss hv0 hv3 hss0 hC3 hR
 go_enter Tryz.func24,Tryz.ntmps24
 go_wp2_with fail
 obtain ⟨W0,hW0⟩:∃ W0,W0=((w.alloc (.cells #[.slice A1 n1 c1,.slice A2 n2 c2] 27)).alloc (.cells #[.int .i64 k.1,.slice A3 k.2.length c3] 39)):=⟨_,rfl⟩
 rw [<- hW0] at hb0 ⊢
 have bx:Blk W0 w.heap.size 27 #[.slice A1 n1 c1,.slice A2 n2 c2]:=by rw [hW0];exact (Blk.new w _ _ w.heap.size rfl).alloc _
 have bz:Blk W0 (w.heap.size+1) 39 #[.int .i64 k.1,.slice A3 k.2.length c3]:=by rw [hW0];exact Blk.new (w.alloc _) _ _ (w.heap.size+1) (by simp)
 have x0:W0.cell? ⟨w.heap.size,0,none⟩=some (.slice A1 n1 c1):=by exact bx.cell 0
 have x1:W0.cell? ⟨w.heap.size,1,none⟩=some (.slice A2 n2 c2):=by exact bx.cell 1
 have z0:W0.cell? ⟨w.heap.size+1,0,none⟩=some (.int .i64 k.1):=by exact bz.cell 0
 have z1:W0.cell? ⟨w.heap.size+1,1,none⟩=some (.slice A3 k.2.length c3):=by exact bz.cell 1
 have l1:=bz.lt
 have l0:=bx.lt
 clear hW0 bx bz
 go_loopw [10] (fun ii wr=>∃ (i:Nat) (u:World),i<=k.2.length/\ii=.int .i64 (i:Int)/\(∀ j,j < i->dupAt k.2 j=false)/\wr=ext W0 u) (fun ii _=>k.2.length - (intOf ii).toNat)
 case atStart=>exact ⟨0,W0,Nat.zero_le _,rfl,by intro j hj;omega,ext_self _⟩
 case round =>
  obtain ⟨i,u,hi,rfl,hno,rfl⟩:=hrel
  have HNO:=Hd_ hno
  clear hno
  have hbE:=below_trans hb0 (ext_below W0 u)
  by_cases hlt:i < k.2.length
  · have hki:k.2[i]?=some k.2[i]:=List.getElem?_eq_getElem hlt
    generalize k.2[i]=s at hki
    obtain ⟨sid,sinv⟩:=s
    obtain ⟨b5,o5,rfl,hb5,p0,p1⟩:=HC3.out.st hki
    have p0:=kcell hbE p0
    have p1:=kcell hbE p1
    have HD:=Hd_ (dupAt_of hki)
    have hii:(i:Int) < (k.2.length:Int):=by omega
    have hi0:(0:Int)<=(i:Int):=by omega
    have hic:(i:Int)<=(c3:Int):=by omega
    clear hki
    have hba:Below (ext W0 u).heap.size (ext W0 u) ((ext W0 u).alloc (.cells #[.int .i64 sid,.bool sinv] 81)):=(Below.refl _ _).alloc (Nat.le_refl _) _
    have hbs:=Blk.new (ext W0 u) 81 #[.int .i64 sid,.bool sinv] (ext W0 u).heap.size rfl
    have hct:=containsFuncStep (.pointer (some ⟨(ext W0 u).heap.size,0,none⟩)) _ _ (fun t=>t.1=sid) ((ext W0 u).alloc (.cells #[.int .i64 sid,.bool sinv] 81)) ((SlE.keep HSS.out (below_trans hbE hba)).take hi) (fun t ht W hW =>
     (isTrailClosure t _ sid W ((hbs.keep hW).cell 0) (hbs.keep hW).lt).mono fun e W' ⟨he,hb⟩=>⟨_,he,by simp,hb⟩)
    have HCT:=Hd_ hct
    clear hct hbs
    go_wp2_with fail
    refine HCT.out.mono ?_
    rintro e w1 ⟨bb,rfl,hb1,hbb⟩
    have hbf:=below_trans (ext_below W0 u) (below_trans hba hb1)
    have HBB:=Hd_ (hbb.trans HD.out.symm)
    clear hbb
    cases bb with
    | true =>
      have hfin:R=false:=by rw [HR.out,isTrail,trailOk_no hlt (HBB.out.1 rfl)];rfl
      subst hfin
      clear HR
      go_wp2_with fail
      go_ret
      exact ⟨rfl,below_trans hb0 hbf⟩
    | false =>
      have hnd:dupAt k.2 i=false:=by
       cases h:dupAt k.2 i with
       | false=>rfl
       | true=>have:=HBB.out.2 h;cases this
      have HND:=Hd_ hnd
      obtain ⟨z,hz⟩:=ext_of hbf
      subst hz
      clear hnd
      go_wp2_with fail
      go_roundw
      case rel=>exact ⟨i+1,z,by omega,by go_num,fun j hj=>by rcases Nat.lt_or_ge j i with h | h;(exact HNO.out j h);(obtain rfl:j=i:=(by omega);exact HND.out),rfl⟩
      case measure=>simp [intOf];omega
  · obtain rfl:i=k.2.length:=by omega
    have hiw:=implIsWalk _ _ g k (ext W0 u) (HGV.out.keep hbE) (HKV.out.keep hbE)
    have hfin:R=walkOk g k:=by rw [HR.out,isTrail,trailOk_yes HNO.out];rfl
    rw [<- hfin] at hiw
    have HIW:=Hd_ hiw
    clear hiw hfin
    go_wp2_with fail
    refine HIW.out.mono ?_
    rintro e w1 ⟨rfl,hb1⟩
    go_wp2_with fail
    go_ret
    exact ⟨rfl,below_trans hbE hb1⟩
set_option maxHeartbeats 4000000 in
theorem specIsTrail (v1 v2:Value) (g:Gr) (k:Wk) (w:World) (hv1:GrV 0 w.heap.size w v1 g) (hv2:WkV 0 w.heap.size w v2 k) :
 Calls Tryz.prog 22 #[v1,v2] w fun en w'=>en=.returned (.bool (isTrail g k))/\Below w.heap.size w w':=by
 have hv0:=hv1
 have hv3:=hv2
 obtain ⟨A1,n1,c1,A2,n2,c2,rfl⟩:=hv1.shape
 obtain ⟨A3,c3,rfl,hl3,hm3,hC3⟩:=hv2.form
 have hb0:Below w.heap.size w ((w.alloc (.cells #[.slice A1 n1 c1,.slice A2 n2 c2] 27)).alloc (.cells #[.int .i64 k.1,.slice A3 k.2.length c3] 39)):=((Below.refl _ _).alloc (Nat.le_refl _) _).alloc (by simp) _
 obtain ⟨R,hR⟩:∃ R,R=isTrail g k:=⟨_,rfl⟩
 rw [<- hR]
 have HR:=Hd_ hR
 have HGV:=Hd_ hv0
 have HKV:=Hd_ hv3
 have HC3:=Hd_ hC3
 clear hv1 hv0 hv3 hC3 hR hv2
 go_enter Tryz.func22,Tryz.ntmps22
 go_wp2_with fail
 obtain ⟨W0,hW0⟩:∃ W0,W0=((w.alloc (.cells #[.slice A1 n1 c1,.slice A2 n2 c2] 27)).alloc (.cells #[.int .i64 k.1,.slice A3 k.2.length c3] 39)):=⟨_,rfl⟩
 rw [<- hW0] at hb0 ⊢
 have bx:Blk W0 w.heap.size 27 #[.slice A1 n1 c1,.slice A2 n2 c2]:=by rw [hW0];exact (Blk.new w _ _ w.heap.size rfl).alloc _
 have bz:Blk W0 (w.heap.size+1) 39 #[.int .i64 k.1,.slice A3 k.2.length c3]:=by rw [hW0];exact Blk.new (w.alloc _) _ _ (w.heap.size+1) (by simp)
 have x0:W0.cell? ⟨w.heap.size,0,none⟩=some (.slice A1 n1 c1):=by exact bx.cell 0
 have x1:W0.cell? ⟨w.heap.size,1,none⟩=some (.slice A2 n2 c2):=by exact bx.cell 1
 have z0:W0.cell? ⟨w.heap.size+1,0,none⟩=some (.int .i64 k.1):=by exact bz.cell 0
 have z1:W0.cell? ⟨w.heap.size+1,1,none⟩=some (.slice A3 k.2.length c3):=by exact bz.cell 1
 have l1:=bz.lt
 have l0:=bx.lt
 clear hW0 bx bz
 go_loopw [5] (fun ii wr=>∃ (i:Nat) (u:World),i<=k.2.length/\ii=.int .i64 (i:Int)/\(∀ j,j < i->j<=60->dupAt k.2 j=false)/\wr=ext W0 u) (fun ii _=>k.2.length - (intOf ii).toNat)
 case atStart=>exact ⟨0,W0,Nat.zero_le _,rfl,by intro j hj;omega,ext_self _⟩
 case round =>
  obtain ⟨i,u,hi,rfl,hno,rfl⟩:=hrel
  have HNO:=Hd_ hno
  clear hno
  have hbE:=below_trans hb0 (ext_below W0 u)
  by_cases hlt:i < k.2.length
  · have hki:k.2[i]?=some k.2[i]:=List.getElem?_eq_getElem hlt
    generalize k.2[i]=s at hki
    obtain ⟨sid,sinv⟩:=s
    obtain ⟨b5,o5,rfl,hb5,p0,p1⟩:=HC3.out.st hki
    have p0:=kcell hb0 p0
    have hb5w:=Nat.lt_of_lt_of_le hb5 hb0.size
    have HD:=Hd_ (dupAt_of hki)
    have hii:(i:Int) < (k.2.length:Int):=by omega
    clear hki
    go_wp2_with fail
    go_loopw [6] (fun kk wr=>∃ (q:Nat) (u:World),q<=i/\kk=.int .i64 (q:Int)/\(∀ t ∈ k.2.take q,¬ t.1=sid)/\wr=ext W0 u) (fun kk _=>i - (intOf kk).toNat)
    case atStart=>exact ⟨0,u,Nat.zero_le _,rfl,by simp,rfl⟩
    case round =>
     obtain ⟨q,u,hq,rfl,hnq,rfl⟩:=hrel
     have HNQ:=Hd_ hnq
     clear hnq hbE
     have hbE:=below_trans hb0 (ext_below W0 u)
     by_cases hq60:q < i/\i<=60
     · obtain ⟨hqi,hi60⟩:=hq60
       have hkq:k.2[q]?=some k.2[q]:=List.getElem?_eq_getElem (by omega)
       generalize k.2[q]=t at hkq
       obtain ⟨tid,tinv⟩:=t
       obtain ⟨-,r0,-⟩:=HC3.out.stA hkq
       have r0:=kcell hb0 r0
       have HKQ:=Hd_ hkq
       have hqq:(q:Int) < (k.2.length:Int):=by omega
       have hqi':(q:Int) < (i:Int):=by omega
       have hi60':(i:Int)<=60:=by omega
       clear hkq
       by_cases heq:tid=sid
       · have k1:((sid:Int)==tid)=true:=by rw [heq];simp
         have hmem:((tid,tinv):St) ∈ k.2.take i:=List.mem_of_getElem? (i:=q) (by rw [List.getElem?_take,if_pos hqi];exact HKQ.out)
         have hfin:R=false:=by rw [HR.out,isTrail,trailOk_no hlt (HD.out.2 ⟨_,hmem,heq⟩)];rfl
         subst hfin
         clear HR heq hmem
         go_wp2_with fail
         refine wp_region_ext_lit (by kernel_rfl) (by kernel_rfl) ?_
         repeat (go_big_quiet_step (fail))
         refine wpQuiet_nil ?_
         rintro _ ⟨u2,rfl⟩
         go_wp2_with fail
         go_ret
         exact ⟨rfl,below_trans hbE (ext_below _ _)⟩
       · have k1:((sid:Int)==tid)=false:=by simp;omega
         have HNE:=Hd_ heq
         clear heq
         go_wp2_with fail
         refine wp_region_ext_lit (by kernel_rfl) (by kernel_rfl) ?_
         repeat (go_big_quiet_step (fail))
         refine wpQuiet_nil ?_
         rintro _ ⟨u2,rfl⟩
         obtain ⟨u4,hu4⟩:=ext_of (below_trans (ext_below W0 u) (ext_below (ext W0 u) u2))
         rw [hu4]
         go_wp2_with fail
         go_roundw
         case rel=>exact ⟨q+1,u4,by omega,by go_num,fun t ht=>by rw [take_snoc HKQ.out] at ht;rcases List.mem_append.1 ht with h | h;(exact HNQ.out t h);(rw [List.mem_singleton] at h;subst h;exact HNE.out),rfl⟩
         case measure=>simp [intOf];omega
     · have hnd:i<=60->dupAt k.2 i=false:=fun h60=>by
        obtain rfl:q=i:=by omega
        cases h:dupAt k.2 q with
        | false=>rfl
        | true=>obtain ⟨t,ht,he⟩:=HD.out.1 h;exact absurd he (HNQ.out t ht)
       have HND:=Hd_ hnd
       clear hnd
       by_cases hqi:q < i
       · have h60:¬ i<=60:=by omega
         have h60':decide ((i:Int)<=60)=false:=by simp;omega
         have hqi':(q:Int) < (i:Int):=by omega
         go_wp2_with fail
         go_roundw
         case rel=>exact ⟨i+1,u,by omega,by go_num,fun j hj g60=>by rcases Nat.lt_or_ge j i with h | h;(exact HNO.out j h g60);(obtain rfl:j=i:=(by omega);exact HND.out g60),rfl⟩
         case measure=>simp [intOf];omega
       · have hqi':decide ((q:Int) < (i:Int))=false:=by simp;omega
         go_wp2_with fail
         go_roundw
         case rel=>exact ⟨i+1,u,by omega,by go_num,fun j hj g60=>by rcases Nat.lt_or_ge j i with h | h;(exact HNO.out j h g60);(obtain rfl:j=i:=(by omega);exact HND.out g60),rfl⟩
         case measure=>simp [intOf];omega
  · obtain rfl:i=k.2.length:=by omega
    have hiw:=specIsWalk _ _ g k (ext W0 u) (HGV.out.keep hbE) (HKV.out.keep hbE)
    have hfin:R=walkOk g k:=by
     rw [HR.out,isTrail]
     cases hw:walkOk g k with
     | false=>simp
     | true =>
       have h60:=(walkOk_parts hw).2.2.1
       rw [trailOk_yes (fun j hj=>HNO.out j hj (by omega))];rfl
    rw [<- hfin] at hiw
    have HIW:=Hd_ hiw
    clear hiw hfin
    go_wp2_with fail
    refine HIW.out.mono ?_
    rintro e w1 ⟨rfl,hb1⟩
    go_wp2_with fail
    go_ret
    exact ⟨rfl,below_trans hbE hb1⟩
set_option maxHeartbeats 4000000 in
theorem implIsTrailWitness (vg va vk:Value) (g:Gr) (a:Au) (x y:Int) (k:Wk) (w:World) (hgv:GrV 0 w.heap.size w vg g) (hav:AuV 0 w.heap.size w va a) (hkv:WkV 0 w.heap.size w vk k) :
 Calls Tryz.prog 21 #[vg,va,.int .i64 x,.int .i64 y,vk] w fun e w'=>e=.returned (.bool (isTrailWit g a x y k))/\Below w.heap.size w w':=by
 have hgv0:=hgv
 have hav0:=hav
 have hkv0:=hkv
 obtain ⟨A1,n1,c1,A2,n2,c2,rfl⟩:=hgv.shape
 obtain ⟨A3,n3,c3,A4,n4,c4,rfl⟩:=hav.shape
 obtain ⟨A5,n5,c5,rfl⟩:=hkv.shape
 have hb0:Below w.heap.size w (((w.alloc (.cells #[.slice A1 n1 c1,.slice A2 n2 c2] 27)).alloc (.cells #[.int .i64 a.start,.slice A3 n3 c3,.slice A4 n4 c4] 31)).alloc (.cells #[.int .i64 k.1,.slice A5 n5 c5] 39)):=(((Below.refl _ _).alloc (Nat.le_refl _) _).alloc (by simp) _).alloc (by simp;omega) _
 obtain ⟨R,hR⟩:∃ R,R=isTrailWit g a x y k:=⟨_,rfl⟩
 rw [<- hR]
 have HR:=Hd_ (hR.trans (show isTrailWit g a x y k=(isWit g a x y k && isTrail g k) from rfl))
 have HGV:=Hd_ hgv0
 have HAV:=Hd_ hav0
 have HKV:=Hd_ hkv0
 clear hgv hav hkv hgv0 hav0 hkv0 hR
 have HIW:=Hd_ (fun (W:World) (hW:Below w.heap.size w W)=>implIsWitness _ _ _ g a x y k W (HGV.out.keep hW) (HAV.out.keep hW) (HKV.out.keep hW))
 have HIT:=Hd_ (fun (W:World) (hW:Below w.heap.size w W)=>implIsTrail _ _ g k W (HGV.out.keep hW) (HKV.out.keep hW))
 go_enter Tryz.func21,Tryz.ntmps21
 go_wp2_with fail
 obtain ⟨W0,hW0⟩:∃ W0,W0=(((w.alloc (.cells #[.slice A1 n1 c1,.slice A2 n2 c2] 27)).alloc (.cells #[.int .i64 a.start,.slice A3 n3 c3,.slice A4 n4 c4] 31)).alloc (.cells #[.int .i64 k.1,.slice A5 n5 c5] 39)):=⟨_,rfl⟩
 rw [<- hW0] at hb0 ⊢
 have bx:Blk W0 w.heap.size 27 #[.slice A1 n1 c1,.slice A2 n2 c2]:=by rw [hW0];exact ((Blk.new w _ _ w.heap.size rfl).alloc _).alloc _
 have bz:Blk W0 (w.heap.size+1+1) 39 #[.int .i64 k.1,.slice A5 n5 c5]:=by rw [hW0];exact Blk.new ((w.alloc _).alloc _) _ _ (w.heap.size+1+1) (by simp)
 have x0:W0.cell? ⟨w.heap.size,0,none⟩=some (.slice A1 n1 c1):=bx.cell 0
 have x1:W0.cell? ⟨w.heap.size,1,none⟩=some (.slice A2 n2 c2):=bx.cell 1
 have z0:W0.cell? ⟨w.heap.size+1+1,0,none⟩=some (.int .i64 k.1):=bz.cell 0
 have z1:W0.cell? ⟨w.heap.size+1+1,1,none⟩=some (.slice A5 n5 c5):=bz.cell 1
 clear hW0 bx bz
 refine (HIW.out W0 hb0).mono ?_
 rintro e w1 ⟨rfl,hb1⟩
 have hb2:=below_trans hb0 hb1
 have x0:=kcell hb1 x0
 have x1:=kcell hb1 x1
 have z0:=kcell hb1 z0
 have z1:=kcell hb1 z1
 cases h0:isWit g a x y k with
 | false =>
   have hfin:R=false:=by rw [HR.out,h0];rfl
   subst hfin
   clear HR
   go_wp2_with fail
   go_ret
   exact ⟨rfl,hb2⟩
 | true =>
   rw [h0,Bool.true_and] at HR
   go_wp2_with fail
   refine (HIT.out w1 hb2).mono ?_
   rintro e w3 ⟨rfl,hb3⟩
   go_wp2_with fail
   go_ret
   exact ⟨by rw [HR.out];rfl,below_trans hb2 hb3⟩
end Go.Proofs.YtjpdembmchnbgaaGreat
namespace Go.Proofs.YtjpdembmchnbgaaGreat
open Go.ChangeShapes Go.WideShapes Go.ChangeAt Go.RowKit
theorem spread_from {N:Nat} {next:Nat->List Nat} {fs:List Nat} (hfs:∀ i ∈ fs,i < N) (hn:∀ i k,i < N->k ∈ next i->k < N) (i:Nat) (hi:i < N) :
 IsDist (turnL N next) (fun i=>i ∈ fs) i ((spreadR N next fs).getD i 0):=by
 refine bfs_dist (N:=N) (prev:=next) (next:=turnL N next) (fun i k _ hk h=>mem_turnL.2 ⟨hk,h⟩) (fun i k hk h=>hn k i hk h) (fun i k _ h=>(mem_turnL.1 h).1) (fun i k _ _ h=>(mem_turnL.1 h).2) _ _ _ ?_ (srcD_bfsI hfs).fuel i hi
 refine ⟨srcD_len N fs,fun i hi h0=>?_,fun i hi hg=>?_,fun k hk h0 hq=>?_,fun h r hq i hi=>?_,?_,(srcD_bfsI hfs).queue,fun i hi=>(srcD_bfsI hfs).low i⟩
 · rw [srcD_at hi] at h0 ⊢
   by_cases h:i ∈ fs
   · rw [if_pos h];exact h
   · rw [if_neg h] at h0;omega
 · rw [srcD_at hi,if_pos hg]
 · rw [srcD_at hk,if_neg hq] at h0;omega
 · have hm:h ∈ fs:=by rw [hq];simp
   have e1:=srcD_at (fs:=fs) (hfs h hm)
   rw [if_pos hm] at e1
   rw [srcD_at hi,e1]
   split <;> omega
 · have:∀ l:List Nat,(∀ x ∈ l,x ∈ fs)->l.Pairwise (fun a b=>(srcD N fs).getD a 0<=(srcD N fs).getD b 0):=by
    intro l
    induction l with
    | nil=>intro _;simp
    | cons x l ih =>
      intro hl
      refine List.pairwise_cons.2 ⟨fun y hy=>?_,ih fun z hz=>hl z (List.mem_cons_of_mem _ hz)⟩
      have h1:=hl x (by simp)
      have h2:=hl y (List.mem_cons_of_mem _ hy)
      rw [srcD_at (hfs x h1),srcD_at (hfs y h2),if_pos h1,if_pos h2]
      omega
   exact this fs (fun _ h=>h)
theorem toG_add {next:Nat->List Nat} {goal:Nat->Prop} (n:Nat):∀ (m i:Nat),toG next goal (m+n) i ↔ ∃ k,toG next (fun j=>j=k) m i/\toG next goal n k
 | 0,i=>by
   rw [Nat.zero_add]
   exact ⟨fun h=>⟨i,rfl,h⟩,fun ⟨k,h1,h2⟩=>by cases (show i=k from h1);exact h2⟩
 | m+1,i=>by
   rw [show m+1+n=(m+n)+1 by omega]
   constructor
   · rintro ⟨j,hj,h⟩
     obtain ⟨k,h1,h2⟩:=(toG_add n m j).1 h
     exact ⟨k,⟨j,hj,h1⟩,h2⟩
   · rintro ⟨k,⟨j,hj,h1⟩,h2⟩
     exact ⟨j,hj,(toG_add n m j).2 ⟨k,h1,h2⟩⟩
theorem toG_lt {next:Nat->List Nat} {N:Nat} (hn:∀ i k,i < N->k ∈ next i->k < N) {k:Nat}:∀ (m i:Nat),i < N->toG next (fun j=>j=k) m i->k < N
 | 0,i,hi,h=>by cases (show i=k from h);exact hi
 | m+1,i,hi,⟨j,hj,h⟩=>toG_lt hn m j (hn i j hi hj) h
theorem toG_turn {next:Nat->List Nat} {N s:Nat} (hn:∀ i k,i < N->k ∈ next i->k < N) (hs:s < N):∀ (m k:Nat),toG (turnL N next) (fun j=>j ∈ [s]) m k ↔ toG next (fun j=>j=k) m s
 | 0,k=>by
   show k ∈ [s] ↔ s=k
   rw [List.mem_singleton]
   exact eq_comm
 | m+1,k=>by
   rw [toG_add 1 m s]
   constructor
   · rintro ⟨j,hj,h⟩
     exact ⟨j,(toG_turn hn hs m j).1 h,k,(mem_turnL.1 hj).2,rfl⟩
   · rintro ⟨j,h1,i,hi,hik⟩
     cases (show i=k from hik)
     exact ⟨j,mem_turnL.2 ⟨toG_lt hn m s hs h1,hi⟩,(toG_turn hn hs m j).2 h1⟩
theorem mem_ansL {g:Gr} {a:Au} {x:Int} {y:Nat} (h:(wi x 0 ((g.vals.length:Int) - 1) && (grOk g && auOk a))=true):(y:Int) ∈ ansL g a x ↔ ∃ i,i < g.vals.length * a.accept.length/\0<=(distFrom g a x).getD i 0/\i ∈ goalsL g a y:=by
 have h9:=h
 simp only [Bool.and_eq_true] at h9
 have hn5:=(grOk_iff.1 h9.2.1).n5
 have hn1:=(auOk_iff.1 h9.2.2).1.1
 rw [ansL,if_pos h,mem_memI]
 constructor
 · rintro ⟨t,ht,_,hm⟩
   obtain ⟨i,hi,ho,rfl⟩:=(ansM_test ..).1 hm
   rw [okV,Bool.and_eq_true,decide_eq_true_eq] at ho
   refine ⟨i,hi,ho.1,mem_goalsL.2 ⟨i % a.accept.length,Nat.mod_lt _ (by omega),?_,?_⟩⟩
   · have:y=i / a.accept.length:=by omega
     rw [this];exact ho.2
   · have:y=i / a.accept.length:=by omega
     rw [this,Nat.mul_comm,Nat.div_add_mod]
 · rintro ⟨i,hi,h0,hg⟩
   obtain ⟨s,hs,hc,rfl⟩:=mem_goalsL.1 hg
   have hd:=div_vx (x:=y) hs
   have hm:=mod_vx (x:=y) hs
   have hy:y < g.vals.length:=by
    have:(y * a.accept.length+s) / a.accept.length < g.vals.length:=Nat.div_lt_of_lt_mul (by rw [Nat.mul_comm a.accept.length g.vals.length];exact hi)
    rwa [hd] at this
   refine ⟨y,rfl,by omega,(ansM_test ..).2 ⟨_,hi,?_,hd⟩⟩
   rw [okV,hd,hm,hc,Bool.and_true,decide_eq_true_eq]
   exact h0
theorem hasAns_short (g:Gr) (a:Au) (x y:Int):hasAns g a x y=decide (0<=shortLen g a x y):=by
 cases hc:cntOk g a x y with
 | false =>
   have hs:shortLen g a x y=-1:=by
    rw [shortLen,if_neg]
    rw [cntOk] at hc
    rw [hc];simp
   rw [hs,decide_eq_false (by omega),hasAns]
   cases hm:(ansL g a x).contains y with
   | false=>rfl
   | true =>
     rw [List.contains_iff_mem] at hm
     exfalso
     have hr:=ansL_range hm
     have hx:(wi x 0 ((g.vals.length:Int) - 1) && (grOk g && auOk a))=true:=by
      cases hh:(wi x 0 ((g.vals.length:Int) - 1) && (grOk g && auOk a)) with
      | true=>rfl
      | false=>rw [ansL,hh] at hm;cases hm
     have h9:=hx
     simp only [Bool.and_eq_true,wi_iff] at h9
     have:cntOk g a x y=true:=cntOk_iff.2 ⟨by omega,hr,h9.2.1,h9.2.2⟩
     rw [this] at hc
     cases hc
 | true =>
   obtain ⟨⟨hx0,hx1⟩,⟨hy0,hy1⟩,hg,ha⟩:=cntOk_iff.1 hc
   have hd:=short_dist hc
   obtain ⟨x,rfl⟩:=Int.eq_ofNat_of_zero_le hx0
   obtain ⟨y,rfl⟩:=Int.eq_ofNat_of_zero_le hy0
   rw [Int.toNat_natCast,Int.toNat_natCast] at hd
   have hxg:(wi (x:Int) 0 ((g.vals.length:Int) - 1) && (grOk g && auOk a))=true:=by simp only [Bool.and_eq_true,wi_iff];exact ⟨by omega,hg,ha⟩
   have hN:∀ i k,i < g.vals.length * a.accept.length->k ∈ nextI g a i->k < g.vals.length * a.accept.length:=fun i k _ hk=>nextV_lt (grOk_iff.1 hg) ha hk
   obtain ⟨⟨_,hn⟩,⟨h0,h1⟩,-,-⟩:=auOk_iff.1 ha
   have hi:x * a.accept.length+a.start.toNat < g.vals.length * a.accept.length:=by
    calc x * a.accept.length+a.start.toNat < x * a.accept.length+a.accept.length:=by omega
     _=(x+1) * a.accept.length:=by rw [Nat.add_mul,Nat.one_mul]
     _<=_:=Nat.mul_le_mul_right _ (by omega)
   have hF:∀ k,k < g.vals.length * a.accept.length->IsDist (turnL (g.vals.length * a.accept.length) (nextI g a)) (fun j=>j ∈ [x * a.accept.length+a.start.toNat]) k ((distFrom g a (x:Int)).getD k 0):=fun k hk=>by
    rw [distFrom,if_pos hxg,Int.toNat_natCast]
    exact spread_from (fun i hi'=>by rw [List.mem_singleton] at hi';subst hi';exact hi) hN k hk
   rw [hasAns,Bool.eq_iff_iff,List.contains_iff_mem,mem_ansL hxg,decide_eq_true_eq]
   constructor
   · rintro ⟨i,hiN,hi0,hig⟩
     rcases hF i hiN with ⟨hf,-⟩ | ⟨-,f1,-⟩
     · omega
     · have hw:=(toG_add (goal:=fun i=>i ∈ goalsL g a y) 0 ((distFrom g a (x:Int)).getD i 0).toNat (x * a.accept.length+a.start.toNat)).2 ⟨i,(toG_turn hN hi _ _).1 f1,hig⟩
       rcases hd with ⟨-,hd⟩ | ⟨d0,-⟩
       · exact absurd hw (hd _)
       · exact d0
   · intro h
     rcases hd with ⟨hd,-⟩ | ⟨-,d1,-⟩
     · omega
     · obtain ⟨k,k1,k2⟩:=(toG_add (goal:=fun i=>i ∈ goalsL g a y) 0 _ _).1 d1
       have hk:=toG_lt hN _ _ hi k1
       refine ⟨k,hk,?_,k2⟩
       rcases hF k hk with ⟨-,hf⟩ | ⟨f0,-⟩
       · exact absurd ((toG_turn hN hi _ _).2 k1) (hf _)
       · exact f0
theorem trailOk_iff {L:List St}:trailOk L=true ↔ (L.map (·.1)).Nodup:=by
 rw [trailOk,List.all_eq_true]
 constructor
 · intro h
   rw [List.nodup_iff_pairwise_ne,List.pairwise_iff_getElem]
   intro i j hi hj hij e
   rw [List.length_map] at hi hj
   have hjs:L[j]?=some L[j]:=List.getElem?_eq_getElem hj
   have h1:=h j (List.mem_range.2 hj)
   have h2:dupAt L j=true:=(dupAt_of hjs).2 ⟨L[i],List.mem_take_iff_getElem.2 ⟨i,by omega,rfl⟩,by simpa using e⟩
   rw [h2] at h1
   cases h1
 · intro h i hi
   have hi:=List.mem_range.1 hi
   have his:L[i]?=some L[i]:=List.getElem?_eq_getElem hi
   cases hd:dupAt L i with
   | false=>rfl
   | true =>
     obtain ⟨t,ht,e⟩:=(dupAt_of his).1 hd
     obtain ⟨j,hj,rfl⟩:=List.mem_take_iff_getElem.1 ht
     rw [List.nodup_iff_pairwise_ne,List.pairwise_iff_getElem] at h
     exact absurd (by rw [List.getElem_map,List.getElem_map];exact e) (h j i (by rw [List.length_map];omega) (by rw [List.length_map];omega) (by omega))
theorem isTrail_iff {g:Gr} {k:Wk} (h:walkOk g k=true):isTrail g k=true ↔ trailN k:=by
 rw [isTrail,h,Bool.and_true,trailOk_iff];rfl
theorem trails_found {g:Gr} {a:Au} {x y B:Int} {w:Wk} (h:srchL g a x y B false=(w,1)):isTrailWit g a x y w=true/\isTrail g w=true/\hasAns g a x y=true:=by
 obtain ⟨h1,h2⟩:=found_wit h
 have h3:=(isWit_parts h1).2.1
 have h4:=(isTrail_iff h3).2 (found_trail h)
 exact ⟨by rw [isTrailWit,h1,h4];rfl,h4,by rw [hasAns_short,decide_eq_true h2]⟩
theorem trails_none {g:Gr} {a:Au} {x y B:Int} (h:(srchL g a x y B false).2=2) {u:Wk} (hu:isWit g a x y u=true):isTrail g u=false:=by
 cases ht:isTrail g u with
 | false=>rfl
 | true=>exact absurd ((isTrail_iff (isWit_parts hu).2.1).1 ht) (none_trail h hu)
section
variable {f:Nat->Nat->Int} {x n i j:Nat} {st:Option (List Pr)} {L:List Pr}
end
theorem Blk.set2 {w:World} {g:Nat} {t:TypeId} {c0 c1:Value} (h:Blk w g t #[c0,c1]) (d0 d1:Value):Blk ((w.setCell ⟨g,0,none⟩ d0).setCell ⟨g,1,none⟩ d1) g t #[d0,d1]:=by
 have h2:=(h.set_ 0 d0).set_ 1 d1
 simpa using h2
theorem Only.set2 (w:World) (g:Nat) (d0 d1:Value):Only g (g+1) w ((w.setCell ⟨g,0,none⟩ d0).setCell ⟨g,1,none⟩ d1):=((Only.refl _ _ _).setCell (p:=⟨g,0,none⟩) (.inl ⟨Nat.le_refl _,Nat.lt_succ_self _⟩) d0).setCell (p:=⟨g,1,none⟩) (.inl ⟨Nat.le_refl _,Nat.lt_succ_self _⟩) d1
end Go.Proofs.YtjpdembmchnbgaaGreat
namespace Go.Proofs.YtjpdembmchnbgaaGreat
open Go.ChangeShapes Go.WideShapes Go.ChangeAt Go.RowKit
attribute [local go_sem] ext_cell ext_frozen ext_lt ext_lt1 ext_lt2 ext_lt3 ltn2 ltn3 ltn13 lts1 lts2 lts3
theorem contains_any (v:Value) (us:List Int) (x:Int) (w:World) (hv:SlE w cI 1 v us) (hn:us.length<=1000000) :
 Calls Tryz.prog 122 #[v,.int .i64 x] w fun e w'=>e=.returned (.bool (us.contains x))/\w'=w:=by
 obtain ⟨A,c,rfl,-,-,h⟩:=SlE.form hv
 cases us with
 | nil=>exact Tryz.slices_Contains_int_empty A c x w
 | cons u us =>
   obtain ⟨b,o,rfl,-,-⟩:=h.int (i:=0) (x:=u) rfl
   have hct:=Tryz.slices_Contains_int b o (u :: us).length c (u :: us) x w (Nat.le_refl _) (by omega) (fun j hj=>(SlC.intA h (getD_of hj)).2)
   rw [List.take_length] at hct
   exact hct
end Go.Proofs.YtjpdembmchnbgaaGreat
