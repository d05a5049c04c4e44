/- Parts of the proof, joined into one text: CwM, NthM, ImgM, LayM, LayV, LayF, LayR, Srw, Lay1, WalksM. -/
import Derived.Test.YtcnenpjaoalmeaaGreatOnlzPHPFCMJJ
import Derived.Test.YtcnenpjaoalmeaaGreatOnlzAPJMGHGH
import Derived.Test.YtcnenpjaoalmeaaGreatOnlzFMIHCKLL
import Derived.Test.YtcnenpjaoalmeaaGreatOnlzNBNNNJPC
import Derived.Test.YtcnenpjaoalmeaaGreatOnlzAAOIIFGL
set_option linter.unusedVariables false
set_option linter.unusedSimpArgs false
namespace Go.Proofs.YtcnenpjaoalmeaaGreat
open Go.ChangeShapes Go.WideShapes Go.ChangeAt Go.RowKit
def cwStep (g:Gr) (a:Au) (rec:Nat->Nat->Nat) (x s n:Nat) (p:Arc):Nat:=min 1000000 (n+rec p.2.2.toNat (aft a s (valAt g x) p.2.1.toNat))
/-- the walks of f steps from node x with states s to y, at most a million -/
def cw (g:Gr) (a:Au) (y:Int):Nat->Nat->Nat->Nat
 | 0,x,s=>if (decide ((x:Int)=y) && acc a s (valAt g x))=true then 1 else 0
 | f+1,x,s=>(arcsOf g (x:Int)).foldl (cwStep g a (cw g a y f) x s) 0
def cwTo (g:Gr) (a:Au) (y:Int) (f x s i:Nat):Nat:=((arcsOf g (x:Int)).take i).foldl (cwStep g a (cw g a y f) x s) 0
theorem cwTo_all (g:Gr) (a:Au) (y:Int) (f x s:Nat):cwTo g a y f x s (arcsOf g (x:Int)).length=cw g a y (f+1) x s:=by rw [cwTo,List.take_length];rfl
theorem cwTo_succ {g:Gr} {a:Au} {y:Int} {f x s i:Nat} {p:Arc} (h:(arcsOf g (x:Int))[i]?=some p):cwTo g a y f x s (i+1)=cwStep g a (cw g a y f) x s (cwTo g a y f x s i) p:=foldl_take h _
theorem mem_of_zero:∀ k:Nat,mem k 0=[]
 | 0=>rfl
 | k+1=>by rw [mem_no (by simp),mem_of_zero k]
theorem aft_none (a:Au) (v l:Nat):aft a 0 v l=0:=by rw [aft,mem_of_zero];rfl
theorem acc_none (a:Au) (v:Nat):acc a 0 v=false:=by rw [acc,mem_of_zero];rfl
theorem foldl_le {g:Gr} {a:Au} {rec:Nat->Nat->Nat} {x s:Nat}:∀ (l:List Arc) (n:Nat),n<=1000000->l.foldl (cwStep g a rec x s) n<=1000000
 | [],n,h=>h
 | p :: l,n,h=>foldl_le l _ (Nat.min_le_left _ _)
theorem cw_le (g:Gr) (a:Au) (y:Int) (f x s:Nat):cw g a y f x s<=1000000:=by
 cases f with
 | zero=>rw [cw];split <;> omega
 | succ f=>exact foldl_le _ 0 (by omega)
theorem cwTo_le (g:Gr) (a:Au) (y:Int) (f x s i:Nat):cwTo g a y f x s i<=1000000:=foldl_le _ 0 (by omega)
theorem cw_none (g:Gr) (a:Au) (y:Int):∀ (f x:Nat),cw g a y f x 0=0
 | 0,x=>by rw [cw,acc_none];simp
 | f+1,x=>by
   rw [cw]
   generalize arcsOf g (x:Int)=l
   induction l with
   | nil=>rfl
   | cons p l ih =>
     rw [List.foldl_cons,cwStep,aft_none,cw_none g a y f]
     exact ih
abbrev Key:=Nat × Nat
def findK (N:List Key) (k:Key):Option Nat:=N.findIdx? (fun z=>z==k)
theorem findK_some {N:List Key} {k:Key} {i:Nat} (h:findK N k=some i):N[i]?=some k:=by
 obtain ⟨h1,h2,-⟩:=List.findIdx?_eq_some_iff_getElem.1 h
 rw [List.getElem?_eq_getElem h1]
 congr 1
 simpa using h2
abbrev LSt:=List Key × List (St × Nat)
def arcL (g:Gr) (a:Au) (x s:Nat) (st:LSt) (p:Arc):LSt :=
 if aft a s (valAt g x) p.2.1.toNat=0 then st else
 match findK st.1 (p.2.2.toNat,aft a s (valAt g x) p.2.1.toNat) with
 | some i=>(st.1,st.2 ++ [(p.1,i)])
 | none=>(st.1 ++ [(p.2.2.toNat,aft a s (valAt g x) p.2.1.toNat)],st.2 ++ [(p.1,st.1.length)])
def rowL (g:Gr) (a:Au) (N:List Key) (x s:Nat):LSt:=(arcsOf g (x:Int)).foldl (arcL g a x s) (N,[])
def cntL (C:List Nat) (n:Nat) (e:St × Nat):Nat:=min 1000000 (n+C.getD e.2 0)
inductive RowR (g:Gr) (a:Au) (x s:Nat) (N:List Key):List Arc->List (St × Nat)->Prop
 | nil:RowR g a x s N [] []
 | skip {p:Arc} {l:List Arc} {T:List (St × Nat)}:aft a s (valAt g x) p.2.1.toNat=0->RowR g a x s N l T->RowR g a x s N (p :: l) T
 | take {p:Arc} {l:List Arc} {T:List (St × Nat)} {i:Nat}:aft a s (valAt g x) p.2.1.toNat ≠ 0->N[i]?=some (p.2.2.toNat,aft a s (valAt g x) p.2.1.toNat)->RowR g a x s N l T->RowR g a x s N (p :: l) ((p.1,i) :: T)
theorem RowR.more {g:Gr} {a:Au} {x s:Nat} {N:List Key} {l:List Arc} {T:List (St × Nat)} (h:RowR g a x s N l T) (N3:List Key):RowR g a x s (N ++ N3) l T:=by
 induction h with
 | nil=>exact .nil
 | skip h1 _ ih=>exact .skip h1 ih
 | take h1 h2 _ ih=>exact .take h1 (by rw [List.getElem?_append_left (List.getElem?_eq_some_iff.1 h2).1];exact h2) ih
/-- the fold of a row's making, told at each prefix of the arcs -/
def rowTk (g:Gr) (a:Au) (N:List Key) (x s k:Nat):LSt:=((arcsOf g (x:Int)).take k).foldl (arcL g a x s) (N,[])
theorem rowTk_succ {g:Gr} {a:Au} {N:List Key} {x s k:Nat} {p:Arc} (h:(arcsOf g (x:Int))[k]?=some p):rowTk g a N x s (k+1)=arcL g a x s (rowTk g a N x s k) p:=foldl_take h _
theorem rowTk_all (g:Gr) (a:Au) (N:List Key) (x s:Nat):rowTk g a N x s (arcsOf g (x:Int)).length=rowL g a N x s:=by rw [rowTk,List.take_length];rfl
theorem arcs_row {g:Gr} {a:Au} {x s:Nat}:∀ (l:List Arc) (N:List Key) (T:List (St × Nat)),
 ∃ N2 T2,l.foldl (arcL g a x s) (N,T)=(N ++ N2,T ++ T2)/\RowR g a x s (N ++ N2) l T2
 | [],N,T=>⟨[],[],by simp,.nil⟩
 | p :: l,N,T=>by
   by_cases h0:aft a s (valAt g x) p.2.1.toNat=0
   · obtain ⟨N2,T2,h1,h2⟩:=arcs_row (g:=g) (a:=a) (x:=x) (s:=s) l N T
     exact ⟨N2,T2,by rw [List.foldl_cons,arcL,if_pos h0,h1],.skip h0 h2⟩
   · cases hf:findK N (p.2.2.toNat,aft a s (valAt g x) p.2.1.toNat) with
     | some i =>
       obtain ⟨N2,T2,h1,h2⟩:=arcs_row (g:=g) (a:=a) (x:=x) (s:=s) l N (T ++ [(p.1,i)])
       have hk:=findK_some hf
       refine ⟨N2,(p.1,i) :: T2,by rw [List.foldl_cons,arcL,if_neg h0];simp only [hf];rw [h1,List.append_assoc];rfl,.take h0 ?_ h2⟩
       rw [List.getElem?_append_left (List.getElem?_eq_some_iff.1 hk).1];exact hk
     | none =>
       obtain ⟨N2,T2,h1,h2⟩:=arcs_row (g:=g) (a:=a) (x:=x) (s:=s) l (N ++ [(p.2.2.toNat,aft a s (valAt g x) p.2.1.toNat)]) (T ++ [(p.1,N.length)])
       refine ⟨(p.2.2.toNat,aft a s (valAt g x) p.2.1.toNat) :: N2,(p.1,N.length) :: T2,by rw [List.foldl_cons,arcL,if_neg h0];simp only [hf];rw [h1,List.append_assoc,List.append_assoc];rfl,.take h0 ?_ ?_⟩
       · rw [List.getElem?_append_right (Nat.le_refl _),Nat.sub_self];rfl
       · simpa using h2
theorem rowL_row (g:Gr) (a:Au) (N:List Key) (x s:Nat):∃ N2,(rowL g a N x s).1=N ++ N2/\RowR g a x s (N ++ N2) (arcsOf g (x:Int)) (rowL g a N x s).2:=by
 obtain ⟨N2,T2,h1,h2⟩:=arcs_row (g:=g) (a:=a) (x:=x) (s:=s) (arcsOf g (x:Int)) N []
 rw [List.nil_append] at h1
 exact ⟨N2,by rw [rowL,h1],by rw [rowL,h1];exact h2⟩
/-- the layer, told at each prefix of its rows -/
def layTo (g:Gr) (a:Au) (last:List Key) (i:Nat):List Key × List (List (St × Nat)) :=
 (last.take i).foldl (fun st k=>((rowL g a st.1 k.1 k.2).1,st.2 ++ [(rowL g a st.1 k.1 k.2).2])) ([],[])
theorem layTo_succ {g:Gr} {a:Au} {last:List Key} {i:Nat} {k:Key} (h:last[i]?=some k) :
 layTo g a last (i+1)=((rowL g a (layTo g a last i).1 k.1 k.2).1,(layTo g a last i).2 ++ [(rowL g a (layTo g a last i).1 k.1 k.2).2]):=by
 rw [layTo,foldl_take h];rfl
def layA (g:Gr) (a:Au) (last:List Key):List Key × List (List (St × Nat)):=layTo g a last last.length
theorem layTo_row (g:Gr) (a:Au) (last:List Key):∀ i,i<=last.length->(layTo g a last i).2.length=i/\∀ (j:Nat) (k:Key) (T:List (St × Nat)),last[j]?=some k->(layTo g a last i).2[j]?=some T->RowR g a k.1 k.2 (layTo g a last i).1 (arcsOf g (k.1:Int)) T
 | 0,_=>⟨rfl,fun j k T _ hT=>by simp [layTo] at hT⟩
 | i+1,hi=>by
   obtain ⟨h1,h2⟩:=layTo_row g a last i (by omega)
   have hk:last[i]?=some last[i]:=List.getElem?_eq_getElem (by omega)
   generalize last[i]=k0 at hk
   obtain ⟨N2,g1,g2⟩:=rowL_row g a (layTo g a last i).1 k0.1 k0.2
   rw [layTo_succ hk]
   refine ⟨by simp [h1],fun j k T hj hT=>?_⟩
   simp only at hT ⊢
   rcases Nat.lt_or_ge j i with hlt | hge
   · rw [List.getElem?_append_left (by omega)] at hT
     rw [g1]
     exact (h2 j k T hj hT).more N2
   · rw [List.getElem?_append_right (by omega),h1] at hT
     have hj0:j - i=0:=by
      have:=(List.getElem?_eq_some_iff.1 hT).1
      simp at this;omega
     rw [hj0] at hT
     simp only [List.getElem?_cons_zero,Option.some.injEq] at hT
     obtain rfl:j=i:=by omega
     rw [hk] at hj
     injection hj with hj
     subst hj hT
     rw [g1]
     exact g2
theorem layA_row (g:Gr) (a:Au) (last:List Key):(layA g a last).2.length=last.length/\∀ (j:Nat) (k:Key) (T:List (St × Nat)),last[j]?=some k->(layA g a last).2[j]?=some T->RowR g a k.1 k.2 (layA g a last).1 (arcsOf g (k.1:Int)) T:=layTo_row g a last _ (Nat.le_refl _)
theorem RowR.cnt {g:Gr} {a:Au} {y:Int} {f x s:Nat} {N:List Key} {C:List Nat} (hC:∀ i k,N[i]?=some k->C.getD i 0=cw g a y f k.1 k.2) {l:List Arc} {T:List (St × Nat)} (h:RowR g a x s N l T) :
 ∀ n,n<=1000000->T.foldl (cntL C) n=l.foldl (cwStep g a (cw g a y f) x s) n:=by
 induction h with
 | nil=>intro n _;rfl
 | skip h1 _ ih =>
   intro n hn
   rw [List.foldl_cons,cwStep,h1,cw_none,Nat.add_zero,Nat.min_eq_right hn]
   exact ih n hn
 | take h1 h2 _ ih =>
   intro n hn
   rw [List.foldl_cons,List.foldl_cons,cntL,cwStep,hC _ _ h2]
   exact ih _ (Nat.min_le_left _ _)
/-- the first of l before which fewer than n are counted: and what is left of n -/
def pick {α:Type} (k:α->Nat):List α->Nat->Option (α × Nat)
 | [],_=>none
 | p :: l,n=>if n < k p then some (p,n) else pick k l (n - k p)
def cwAt (g:Gr) (a:Au) (y:Int) (f x s:Nat) (p:Arc):Nat:=cw g a y f p.2.2.toNat (aft a s (valAt g x) p.2.1.toNat)
theorem RowR.pick {g:Gr} {a:Au} {y:Int} {f x s:Nat} {N:List Key} {C:List Nat} (hC:∀ i k,N[i]?=some k->C.getD i 0=cw g a y f k.1 k.2) {l:List Arc} {T:List (St × Nat)} (h:RowR g a x s N l T) :
 ∀ n,(pick (fun e:St × Nat=>C.getD e.2 0) T n=none/\Go.Proofs.YtcnenpjaoalmeaaGreat.pick (cwAt g a y f x s) l n=none) ∨
   ∃ p i n',pick (fun e:St × Nat=>C.getD e.2 0) T n=some ((p.1,i),n')/\Go.Proofs.YtcnenpjaoalmeaaGreat.pick (cwAt g a y f x s) l n=some (p,n')/\N[i]?=some (p.2.2.toNat,aft a s (valAt g x) p.2.1.toNat)/\p ∈ l:=by
 induction h with
 | nil=>intro n;exact .inl ⟨rfl,rfl⟩
 | @skip p0 l0 T0 h1 _ ih =>
   intro n
   have hz:¬ n < cwAt g a y f x s p0:=by rw [cwAt,h1,cw_none];omega
   have hz2:n - cwAt g a y f x s p0=n:=by rw [cwAt,h1,cw_none];omega
   rcases ih n with ⟨e1,e2⟩ | ⟨p,i,n',e1,e2,e3,e4⟩
   · exact .inl ⟨e1,by rw [Go.Proofs.YtcnenpjaoalmeaaGreat.pick,if_neg hz,hz2,e2]⟩
   · exact .inr ⟨p,i,n',e1,by rw [Go.Proofs.YtcnenpjaoalmeaaGreat.pick,if_neg hz,hz2,e2],e3,List.mem_cons_of_mem _ e4⟩
 | @take p l T i h1 h2 _ ih =>
   intro n
   have hc:C.getD i 0=cwAt g a y f x s p:=hC _ _ h2
   by_cases hn:n < cwAt g a y f x s p
   · exact .inr ⟨p,i,n,by rw [Go.Proofs.YtcnenpjaoalmeaaGreat.pick,if_pos (by rw [hc];exact hn)],by rw [Go.Proofs.YtcnenpjaoalmeaaGreat.pick,if_pos hn],h2,List.mem_cons_self ..⟩
   · rcases ih (n - cwAt g a y f x s p) with ⟨e1,e2⟩ | ⟨p',i',n',e1,e2,e3,e4⟩
     · exact .inl ⟨by rw [Go.Proofs.YtcnenpjaoalmeaaGreat.pick,if_neg (by rw [hc];exact hn)];simp only [hc];exact e1,by rw [Go.Proofs.YtcnenpjaoalmeaaGreat.pick,if_neg hn,e2]⟩
     · exact .inr ⟨p',i',n',by rw [Go.Proofs.YtcnenpjaoalmeaaGreat.pick,if_neg (by rw [hc];exact hn)];simp only [hc];exact e1,by rw [Go.Proofs.YtcnenpjaoalmeaaGreat.pick,if_neg hn,e2],e3,List.mem_cons_of_mem _ e4⟩
/-- what is left of n when the first i are passed over -/
def leftN {α:Type} (k:α->Nat) (l:List α) (n:Nat):Nat:=l.foldl (fun m p=>m - k p) n
theorem pick_skip {α:Type} {k:α->Nat}:∀ {l:List α} {i n:Nat},(∀ j p,j < i->l[j]?=some p->¬ leftN k (l.take j) n < k p)->i<=l.length->pick k l n=pick k (l.drop i) (leftN k (l.take i) n)
 | l,0,n,_,_=>by simp [leftN]
 | [],i+1,n,_,h=>by simp at h
 | p :: l,i+1,n,h,hi=>by
   have h0:=h 0 p (by omega) rfl
   simp only [List.take_zero,leftN,List.foldl_nil] at h0
   rw [pick,if_neg h0,pick_skip (l:=l) (i:=i) (n:=n - k p) (fun j q hj hq=>?_) (by simpa using hi)]
   · simp [leftN]
   · have:=h (j+1) q (by omega) (by simpa using hq)
     simpa [leftN] using this
theorem pick_fold {g:Gr} {a:Au} {y:Int} {f x s:Nat}:∀ (l:List Arc) (n m:Nat),m<=1000000->n+m < l.foldl (cwStep g a (cw g a y f) x s) m->∃ p n',pick (cwAt g a y f x s) l n=some (p,n')/\n' < cwAt g a y f x s p/\p ∈ l
 | [],n,m,_,h=>by simp only [List.foldl_nil] at h;omega
 | p :: l,n,m,hm,h=>by
   by_cases hn:n < cwAt g a y f x s p
   · exact ⟨p,n,by rw [pick,if_pos hn],hn,List.mem_cons_self ..⟩
   · have hle:cwStep g a (cw g a y f) x s m p<=1000000:=Nat.min_le_left _ _
     rw [List.foldl_cons] at h
     have hs:cwStep g a (cw g a y f) x s m p=min 1000000 (m+cwAt g a y f x s p):=rfl
     have hmn:min 1000000 (m+cwAt g a y f x s p)<=m+cwAt g a y f x s p:=Nat.min_le_right _ _
     obtain ⟨p',n',e1,e2,e3⟩:=pick_fold l (n - cwAt g a y f x s p) (cwStep g a (cw g a y f) x s m p) hle (Nat.lt_of_le_of_lt (show n - cwAt g a y f x s p+cwStep g a (cw g a y f) x s m p<=n+m by have hS:cwStep g a (cw g a y f) x s m p<=m+cwAt g a y f x s p:=hmn;omega) h)
     exact ⟨p',n',by rw [pick,if_neg hn,e1],e2,List.mem_cons_of_mem _ e3⟩
theorem pick_cw {g:Gr} {a:Au} {y:Int} {f x s n:Nat} (h:n < cw g a y (f+1) x s):∃ p n',pick (cwAt g a y f x s) (arcsOf g (x:Int)) n=some (p,n')/\n' < cwAt g a y f x s p/\p ∈ arcsOf g (x:Int) :=
 pick_fold _ n 0 (by omega) (by simpa [cw] using h)
/-- walk number n's steps -/
def nthL (g:Gr) (a:Au) (y:Int):Nat->Nat->Nat->Nat->List St
 | 0,_,_,_=>[]
 | f+1,x,s,n=>match pick (cwAt g a y f x s) (arcsOf g (x:Int)) n with
   | none=>[]
   | some (p,n')=>p.1 :: nthL g a y f p.2.2.toNat (aft a s (valAt g x) p.2.1.toNat) n'
theorem nthL_succ {g:Gr} {a:Au} {y:Int} {f x s n n':Nat} {p:Arc} (h:pick (cwAt g a y f x s) (arcsOf g (x:Int)) n=some (p,n')) :
 nthL g a y (f+1) x s n=p.1 :: nthL g a y f p.2.2.toNat (aft a s (valAt g x) p.2.1.toNat) n':=by rw [nthL];simp only [h]
theorem nthL_len {g:Gr} {a:Au} {y:Int}:∀ {f x s n:Nat},n < cw g a y f x s->(nthL g a y f x s n).length=f
 | 0,_,_,_,_=>rfl
 | f+1,x,s,n,h=>by
   obtain ⟨p,n',e1,e2,-⟩:=pick_cw h
   rw [nthL_succ e1,List.length_cons,nthL_len e2]
end Go.Proofs.YtcnenpjaoalmeaaGreat
namespace Go.Proofs.YtcnenpjaoalmeaaGreat
theorem nodup_subN:∀ (s l:List Nat),s.Nodup->(∀ x ∈ s,x ∈ l)->s.length<=l.length
 | [],_,_,_=>Nat.zero_le _
 | x :: s,l,hn,h=>by
   obtain ⟨h1,h2⟩:=List.nodup_cons.1 hn
   have hx:=h x (by simp)
   have:=nodup_subN s (l.erase x) h2 (fun y hy=>by
    have hne:y ≠ x:=fun e=>h1 (e ▸ hy)
    exact (List.mem_erase_of_ne hne).2 (h y (List.mem_cons_of_mem _ hy)))
   rw [List.length_erase_of_mem hx] at this
   have hp:=List.length_pos_of_mem hx
   rw [List.length_cons]
   omega
end Go.Proofs.YtcnenpjaoalmeaaGreat
namespace Go.Proofs.YtcnenpjaoalmeaaGreat
open Go.ChangeShapes Go.WideShapes Go.ChangeAt Go.RowKit
structure KeysOk (g:Gr) (a:Au) (N:List Key):Prop where
 nod:N.Nodup
 rng:∀ k ∈ N,k.1 < g.vals.length/\k.2 < 2 ^ a.accept.length
theorem findK_none {N:List Key} {k:Key} (h:findK N k=none):k ∉ N:=by
 intro hk
 have:=List.findIdx?_eq_none_iff.1 h k hk
 simp at this
theorem KeysOk.push {g:Gr} {a:Au} {N:List Key} (h:KeysOk g a N) {k:Key} (hk:k ∉ N) (hr:k.1 < g.vals.length/\k.2 < 2 ^ a.accept.length):KeysOk g a (N ++ [k]):=by
 refine ⟨List.nodup_append.2 ⟨h.nod,by simp,fun b hb c hc e=>?_⟩,fun u hu=>?_⟩
 · rw [List.mem_singleton] at hc
   subst hc e
   exact hk hb
 · rcases List.mem_append.1 hu with hu | hu
   · exact h.rng u hu
   · rw [List.mem_singleton] at hu
     subst hu
     exact hr
theorem arc_key {g:Gr} {a:Au} (hg:GrOk g) (ha:auOk a=true) {x:Int} {p:Arc} (hp:p ∈ arcsOf g x) (s v:Nat):p.2.2.toNat < g.vals.length/\aft a s v p.2.1.toNat < 2 ^ a.accept.length:=by
 have h:=arc_range hg hp
 exact ⟨by omega,aft_lt ha _ _ _⟩
theorem arcL_ok {g:Gr} {a:Au} (hg:GrOk g) (ha:auOk a=true) {x s:Nat} {p:Arc} (hp:p ∈ arcsOf g (x:Int)) {st:LSt} (h:KeysOk g a st.1):KeysOk g a (arcL g a x s st p).1:=by
 unfold arcL
 split
 · exact h
 · split
   · exact h
   · rename_i hf
     exact h.push (findK_none hf) (arc_key hg ha hp _ _)
theorem rowTk_ok {g:Gr} {a:Au} (hg:GrOk g) (ha:auOk a=true) {N:List Key} (h:KeysOk g a N) (x s:Nat):∀ k,KeysOk g a (rowTk g a N x s k).1
 | 0=>h
 | k+1=>by
   rcases hk:(arcsOf g (x:Int))[k]? with _ | p
   · have:rowTk g a N x s (k+1)=rowTk g a N x s k:=by
      rw [rowTk,rowTk,List.take_of_length_le (by have:=List.getElem?_eq_none_iff.1 hk;omega),List.take_of_length_le (List.getElem?_eq_none_iff.1 hk)]
     rw [this]
     exact rowTk_ok hg ha h x s k
   · rw [rowTk_succ hk]
     exact arcL_ok hg ha (List.mem_of_getElem? hk) (rowTk_ok hg ha h x s k)
theorem rowL_ok {g:Gr} {a:Au} (hg:GrOk g) (ha:auOk a=true) {N:List Key} (h:KeysOk g a N) (x s:Nat):KeysOk g a (rowL g a N x s).1:=by
 rw [<- rowTk_all];exact rowTk_ok hg ha h x s _
theorem layTo_ok {g:Gr} {a:Au} (hg:GrOk g) (ha:auOk a=true) (last:List Key):∀ i,KeysOk g a (layTo g a last i).1
 | 0=>⟨by simp [layTo],fun k hk=>by simp [layTo] at hk⟩
 | i+1=>by
   rcases hk:last[i]? with _ | k
   · have:layTo g a last (i+1)=layTo g a last i:=by
      rw [layTo,layTo,List.take_of_length_le (by have:=List.getElem?_eq_none_iff.1 hk;omega),List.take_of_length_le (List.getElem?_eq_none_iff.1 hk)]
     rw [this]
     exact layTo_ok hg ha last i
   · rw [layTo_succ hk]
     exact rowL_ok hg ha (layTo_ok hg ha last i) _ _
theorem KeysOk.len {g:Gr} {a:Au} (hg:GrOk g) (ha:auOk a=true) {N:List Key} (h:KeysOk g a N):N.length<=20480:=by
 have h1:=nodup_subN (N.map fun z=>z.1 * 4096+z.2) (List.range 20480) ?_ ?_
 · simpa using h1
 · rw [List.Nodup,List.pairwise_map]
   refine List.Pairwise.imp_of_mem ?_ h.nod
   intro b c hb hc hne he
   refine hne ?_
   have hb:=lt12 ha (h.rng b hb).2
   have hc:=lt12 ha (h.rng c hc).2
   exact Prod.ext (by omega) (by omega)
 · intro u hu
   obtain ⟨z,hz,rfl⟩:=List.mem_map.1 hu
   have hb:=h.rng z hz
   have hb2:=lt12 ha hb.2
   have:=hg.n5
   rw [List.mem_range]
   omega
theorem arcL_len {g:Gr} {a:Au} {x s:Nat} (st:LSt) (p:Arc):(arcL g a x s st p).2.length<=st.2.length+1:=by
 unfold arcL
 split
 · omega
 · split <;> simp
theorem rowTk_len (g:Gr) (a:Au) (N:List Key) (x s:Nat):∀ k,(rowTk g a N x s k).2.length<=k
 | 0=>by simp [rowTk]
 | k+1=>by
   rcases hk:(arcsOf g (x:Int))[k]? with _ | p
   · have:rowTk g a N x s (k+1)=rowTk g a N x s k:=by
      rw [rowTk,rowTk,List.take_of_length_le (by have:=List.getElem?_eq_none_iff.1 hk;omega),List.take_of_length_le (List.getElem?_eq_none_iff.1 hk)]
     rw [this]
     exact Nat.le_trans (rowTk_len g a N x s k) (by omega)
   · rw [rowTk_succ hk]
     have:=rowTk_len g a N x s k
     exact Nat.le_trans (arcL_len _ _) (by omega)
def layN (g:Gr) (a:Au) (k0:Key):Nat->List Key
 | 0=>[k0]
 | d+1=>(layA g a (layN g a k0 d)).1
def layT (g:Gr) (a:Au) (k0:Key) (d i:Nat):List (St × Nat):=(layA g a (layN g a k0 d)).2.getD i []
theorem layN_ok {g:Gr} {a:Au} (hg:GrOk g) (ha:auOk a=true) {k0:Key} (h0:k0.1 < g.vals.length/\k0.2 < 2 ^ a.accept.length):∀ d,KeysOk g a (layN g a k0 d)
 | 0=>⟨by simp [layN],fun k hk=>by rw [layN,List.mem_singleton] at hk;subst hk;exact h0⟩
 | d+1=>layTo_ok hg ha _ _
theorem layT_row {g:Gr} {a:Au} {k0:Key} {d i:Nat} {k:Key} (h:(layN g a k0 d)[i]?=some k):RowR g a k.1 k.2 (layN g a k0 (d+1)) (arcsOf g (k.1:Int)) (layT g a k0 d i):=by
 obtain ⟨h1,h2⟩:=layA_row g a (layN g a k0 d)
 have hi:i < (layA g a (layN g a k0 d)).2.length:=by rw [h1];exact (List.getElem?_eq_some_iff.1 h).1
 refine h2 i k _ h ?_
 rw [layT,List.getD_eq_getElem?_getD,List.getElem?_eq_getElem hi];rfl
/-- what row i of layer d counts, of n layers behind the first -/
def layC (g:Gr) (a:Au) (y:Int) (k0:Key) (n d i:Nat):Nat:=match (layN g a k0 d)[i]? with
 | none=>0
 | some k=>cw g a y (n - d) k.1 k.2
theorem layC_at {g:Gr} {a:Au} {y:Int} {k0:Key} {n d i:Nat} {k:Key} (h:(layN g a k0 d)[i]?=some k):layC g a y k0 n d i=cw g a y (n - d) k.1 k.2:=by rw [layC];simp only [h]
def cntF (C:Nat->Nat) (n:Nat) (e:St × Nat):Nat:=min 1000000 (n+C e.2)
theorem RowR.cntF {g:Gr} {a:Au} {y:Int} {f x s:Nat} {N:List Key} {C:Nat->Nat} (hC:∀ i k,N[i]?=some k->C i=cw g a y f k.1 k.2) {l:List Arc} {T:List (St × Nat)} (h:RowR g a x s N l T) :
 ∀ n,n<=1000000->T.foldl (Go.Proofs.YtcnenpjaoalmeaaGreat.cntF C) n=l.foldl (cwStep g a (cw g a y f) x s) n:=by
 induction h with
 | nil=>intro n _;rfl
 | skip h1 _ ih =>
   intro n hn
   rw [List.foldl_cons,cwStep,h1,cw_none,Nat.add_zero,Nat.min_eq_right hn]
   exact ih n hn
 | take h1 h2 _ ih =>
   intro n hn
   rw [List.foldl_cons,List.foldl_cons,Go.Proofs.YtcnenpjaoalmeaaGreat.cntF,cwStep,hC _ _ h2]
   exact ih _ (Nat.min_le_left _ _)
theorem layC_fold {g:Gr} {a:Au} {y:Int} {k0:Key} {n d i:Nat} {k:Key} (h:(layN g a k0 d)[i]?=some k) (hd:d < n):(layT g a k0 d i).foldl (cntF (layC g a y k0 n (d+1))) 0=layC g a y k0 n d i:=by
 rw [layC_at h,(layT_row h).cntF (y:=y) (f:=n - (d+1)) (fun i k hk=>layC_at hk) 0 (by omega),show n - d=(n - (d+1))+1 by omega]
 rfl
theorem layC_le (g:Gr) (a:Au) (y:Int) (k0:Key) (n d i:Nat):layC g a y k0 n d i<=1000000:=by
 unfold layC
 split
 · omega
 · exact cw_le ..
theorem RowR.to_lt {g:Gr} {a:Au} {x s:Nat} {N:List Key} {l:List Arc} {T:List (St × Nat)} (h:RowR g a x s N l T):∀ e ∈ T,e.2 < N.length:=by
 induction h with
 | nil=>intro e he;cases he
 | skip _ _ ih=>exact ih
 | take _ h2 _ ih =>
   intro e he
   rcases List.mem_cons.1 he with rfl | he
   · exact (List.getElem?_eq_some_iff.1 h2).1
   · exact ih e he
theorem RowR.len {g:Gr} {a:Au} {x s:Nat} {N:List Key} {l:List Arc} {T:List (St × Nat)} (h:RowR g a x s N l T):T.length<=l.length:=by
 induction h with
 | nil=>exact Nat.le_refl _
 | skip _ _ ih=>rw [List.length_cons];omega
 | take _ _ _ ih=>simp only [List.length_cons];omega
structure Zr where
 node:Nat
 set:Nat
 cnt:Nat
 sv:Value
 tv:Value
def cZ (z:Zr):List Value:=[.int .i64 (z.node:Int),.int .i64 (z.set:Int),.int .i64 (z.cnt:Int),z.sv,z.tv]
theorem cZ_len (z:Zr):(cZ z).length=5:=rfl
def rawZ (k:Key):Zr:=⟨k.1,k.2,0,.slice none 0 0,.slice none 0 0⟩
theorem elZ:ElemOk Tryz.prog 70 69 (.agg #[.int .i64 0,.int .i64 0,.int .i64 0,.slice none 0 0,.slice none 0 0]) 5 72:=⟨Tryz.underlying70,by kernel_rfl,rfl,by omega⟩
/-- a row's two slices, in blocks from lo to hi -/
def RowV (lo hi:Nat) (w:World) (z:Zr) (T:List (St × Nat)):Prop :=
 Own lo hi w 74 cSt 2 z.sv (T.map (·.1))/\Own lo hi w 3 cN 1 z.tv (T.map (·.2))
theorem flatZ_set:∀ (zs:List Zr) (i:Nat) (z:Zr),i < zs.length ->
 (((((zs.flatMap cZ).set (i * 5) (.int .i64 (z.node:Int))).set (i * 5+1) (.int .i64 (z.set:Int))).set (i * 5+2) (.int .i64 (z.cnt:Int))).set (i * 5+3) z.sv).set (i * 5+4) z.tv=(zs.set i z).flatMap cZ
 | [],_,_,h=>absurd h (Nat.not_lt_zero _)
 | y :: ys,0,z,_=>by simp [cZ]
 | y :: ys,i+1,z,h=>by
   have ih:=flatZ_set ys i z (by simpa using h)
   simp only [List.flatMap_cons,cZ,List.cons_append,List.nil_append,List.set_cons_succ,Nat.succ_mul]
   rw [<- ih]
/-- two rows of one's own, of other types, lie in other blocks -/
theorem own_ne {w:World} {b1 b2 k1 k2 n1 n2:Nat} {e1 e2:TypeId} {v1 v2:Value} {c1 c2:List Value} (h1:w.ownsRow b1 e1 k1 v1 n1 c1) (h2:w.ownsRow b2 e2 k2 v2 n2 c2) (he:e1 ≠ e2) {g:Nat} (hg:v1.ownBlock=some g):v2.ownBlock ≠ some g:=by
 intro hg2
 rcases h1.2 with ⟨rfl,_⟩ | ⟨g1,_,_,rfl,_,hh1,_⟩
 · cases hg
 · rcases h2.2 with ⟨rfl,_⟩ | ⟨g2,_,_,rfl,_,hh2,_⟩
   · cases hg2
   · simp only [Value.ownBlock,Option.some.injEq] at hg hg2
     subst hg hg2
     rw [hh1] at hh2
     injection hh2 with hh2
     injection hh2 with _ h4
     exact he h4
theorem Own.ne_of {w:World} {b1 k1 n1 lo hi k:Nat} {e1 e:TypeId} {v1 v:Value} {c1:List Value} {α:Type} {E:α->List Value} {xs:List α} (h1:w.ownsRow b1 e1 k1 v1 n1 c1) (h:Own lo hi w e E k v xs) (he:e1 ≠ e) {g:Nat} (hg:v.ownBlock=some g):v1.ownBlock ≠ some g :=
 own_ne h.1 h1 (Ne.symm he) hg
theorem Own.blocks {lo hi k:Nat} {w w':World} {e:TypeId} {v:Value} {α:Type} {E:α->List Value} {xs:List α} (h:Own lo hi w e E k v xs) (hb:∀ g,v.ownBlock=some g->w'.heap[g]?=w.heap[g]?):Own lo hi w' e E k v xs:=⟨ownsRow_block h.1 hb,h.2⟩
theorem tyZS:69 ≠ 74:=by decide
theorem tyZI:69 ≠ 3:=by decide
theorem tySI:74 ≠ 3:=by decide
section
variable {lo hi g c:Nat} {w w':World} {N:List Key} {C:Nat->Nat} {T:Nat->List (St × Nat)} {zs:List Zr} {z:Zr} {t:List (St × Nat)}
theorem RowV.nil (lo hi:Nat) (w:World) (k:Key):RowV lo hi w (rawZ k) []:=⟨Own.nil _ _ _ _ _ _,Own.nil _ _ _ _ _ _⟩
theorem RowV.mono (h:RowV lo hi w z t) {lo' hi':Nat} (h1:lo'<=lo) (h2:hi<=hi'):RowV lo' hi' w z t:=⟨h.1.mono h1 h2,h.2.mono h1 h2⟩
theorem RowV.blocks (h:RowV lo hi w z t) (hb:∀ b,lo<=b->b < hi->b < w.heap.size->w'.heap[b]?=w.heap[b]?):RowV lo hi w' z t :=
 ⟨h.1.blocks fun b hg=>hb b (h.1.lt b hg).1 (h.1.lt b hg).2.1 (h.1.lt b hg).2.2,h.2.blocks fun b hg=>hb b (h.2.lt b hg).1 (h.2.lt b hg).2.1 (h.2.lt b hg).2.2⟩
theorem RowV.below (h:RowV lo hi w z t) (hb:Below w.heap.size w w'):RowV lo hi w' z t:=h.blocks fun b _ _ hl=>hb.block b hl
/-- a row's slices stand when a block of the rows' own type turns -/
theorem RowV.nodeTurn (h:RowV lo hi w z t) {b0 n0 c0:Nat} {cs0:List Value} (hr:w.ownsRow b0 69 5 (.slice (some ⟨g,0,none⟩) n0 c0) n0 cs0) (hb:∀ b,b ≠ g->b < w.heap.size->w'.heap[b]?=w.heap[b]?):RowV lo hi w' z t :=
 ⟨h.1.blocks fun b hg=>hb b (fun e=>by subst e;exact Own.ne_of hr h.1 tyZS hg rfl) (h.1.lt b hg).2.2,h.2.blocks fun b hg=>hb b (fun e=>by subst e;exact Own.ne_of hr h.2 tyZI hg rfl) (h.2.lt b hg).2.2⟩
/-- a layer: the rows lie in block g, their slices in blocks from lo to hi -/
structure LayV (lo hi:Nat) (w:World) (g c:Nat) (N:List Key) (C:Nat->Nat) (T:Nat->List (St × Nat)) (zs:List Zr):Prop where
 row:w.ownsRow 0 69 5 (.slice (some ⟨g,0,none⟩) N.length c) N.length (zs.flatMap cZ)
 len:zs.length=N.length
 at_:∀ i k z,N[i]?=some k->zs[i]?=some z->z.node=k.1/\z.set=k.2/\z.cnt=C i/\RowV lo hi w z (T i)
theorem LayV.lt (h:LayV lo hi w g c N C T zs):g < w.heap.size:=(h.row.lt g rfl).2
theorem LayV.blocks (h:LayV lo hi w g c N C T zs) (hb:∀ b,(b=g ∨ (lo<=b/\b < hi))->b < w.heap.size->w'.heap[b]?=w.heap[b]?):LayV lo hi w' g c N C T zs :=
 ⟨ownsRow_block h.row fun b hg=>hb b (.inl (by injection hg with hg;exact hg.symm)) (h.row.lt b hg).2,h.len,fun i k z hk hz=>by
  obtain ⟨h1,h2,h3,h4⟩:=h.at_ i k z hk hz
  exact ⟨h1,h2,h3,h4.blocks fun b h5 h6 hl=>hb b (.inr ⟨h5,h6⟩) hl⟩⟩
theorem LayV.below (h:LayV lo hi w g c N C T zs) (hb:Below w.heap.size w w'):LayV lo hi w' g c N C T zs:=h.blocks fun b _ hl=>hb.block b hl
theorem LayV.mono (h:LayV lo hi w g c N C T zs) {lo' hi':Nat} (h1:lo'<=lo) (h2:hi<=hi'):LayV lo' hi' w g c N C T zs :=
 ⟨h.row,h.len,fun i k z hk hz=>by obtain ⟨a1,a2,a3,a4⟩:=h.at_ i k z hk hz;exact ⟨a1,a2,a3,a4.mono h1 h2⟩⟩
/-- another block of rows turns: the layer stands -/
theorem LayV.other (h:LayV lo hi w g c N C T zs) {g' b0 n0 c0:Nat} {cs0:List Value} (hr:w.ownsRow b0 69 5 (.slice (some ⟨g',0,none⟩) n0 c0) n0 cs0) (hne:g ≠ g') (hb:∀ b,b ≠ g'->b < w.heap.size->w'.heap[b]?=w.heap[b]?):LayV lo hi w' g c N C T zs :=
 ⟨ownsRow_block h.row fun b hg=>hb b (by injection hg with hg;rw [<- hg];exact hne) (h.row.lt b hg).2,h.len,fun i k z hk hz=>by
  obtain ⟨h1,h2,h3,h4⟩:=h.at_ i k z hk hz
  exact ⟨h1,h2,h3,h4.nodeTurn hr hb⟩⟩
theorem LayV.get (h:LayV lo hi w g c N C T zs) {i:Nat} {k:Key} (hk:N[i]?=some k):∃ z,zs[i]?=some z/\z.node=k.1/\z.set=k.2/\z.cnt=C i/\RowV lo hi w z (T i) /\
 w.cell? ⟨g,i * 5,none⟩=some (.int .i64 (k.1:Int))/\w.cell? ⟨g,i * 5+1,none⟩=some (.int .i64 (k.2:Int))/\w.cell? ⟨g,i * 5+2,none⟩=some (.int .i64 (C i:Int))/\w.cell? ⟨g,i * 5+3,none⟩=some z.sv/\w.cell? ⟨g,i * 5+4,none⟩=some z.tv:=by
 have hi:=(List.getElem?_eq_some_iff.1 hk).1
 have hz:zs[i]?=some (zs[i]'(by rw [h.len];exact hi)):=List.getElem?_eq_getElem _
 generalize zs[i]'(by rw [h.len];exact hi)=z at hz
 obtain ⟨h1,h2,h3,h4⟩:=h.at_ i k z hk hz
 have hc:∀ j u,(cZ z)[j]?=some u->j < 5->w.cell? ⟨g,i * 5+j,none⟩=some u:=fun j u hu hj=>by
  rw [h.row.cellAt (i * 5+j) (by omega)]
  exact flat_at cZ_len hz j u hu
 refine ⟨z,hz,h1,h2,h3,h4,?_,?_,?_,hc 3 _ rfl (by omega),hc 4 _ rfl (by omega)⟩
 · rw [<- h1];exact hc 0 _ rfl (by omega)
 · rw [<- h2];exact hc 1 _ rfl (by omega)
 · rw [<- h3];exact hc 2 _ rfl (by omega)
/-- a row is stored anew: five cells -/
def put5 (w:World) (g o:Nat) (z:Zr):World :=
 ((((w.setCell ⟨g,o,none⟩ (.int .i64 (z.node:Int))).setCell ⟨g,o+1,none⟩ (.int .i64 (z.set:Int))).setCell ⟨g,o+2,none⟩ (.int .i64 (z.cnt:Int))).setCell ⟨g,o+3,none⟩ z.sv).setCell ⟨g,o+4,none⟩ z.tv
theorem put5_block (w:World) (g o:Nat) (z:Zr):∀ b,b ≠ g->(put5 w g o z).heap[b]?=w.heap[b]?:=fun b hb=>by
 unfold put5
 rw [Below.heap_setCell _ _ _ _ hb,Below.heap_setCell _ _ _ _ hb,Below.heap_setCell _ _ _ _ hb,Below.heap_setCell _ _ _ _ hb,Below.heap_setCell _ _ _ _ hb]
theorem put5_size (w:World) (g o:Nat) (z:Zr):(put5 w g o z).heap.size=w.heap.size:=by simp [put5]
theorem put5_only (w:World) (g o:Nat) (z:Zr):Only g (g+1) w (put5 w g o z) :=
 (((((Only.refl g (g+1) w).setCell (p:=⟨g,o,none⟩) (.inl ⟨Nat.le_refl _,Nat.lt_succ_self _⟩) _).setCell (p:=⟨g,o+1,none⟩) (.inl ⟨Nat.le_refl _,Nat.lt_succ_self _⟩) _).setCell (p:=⟨g,o+2,none⟩) (.inl ⟨Nat.le_refl _,Nat.lt_succ_self _⟩) _).setCell (p:=⟨g,o+3,none⟩) (.inl ⟨Nat.le_refl _,Nat.lt_succ_self _⟩) _).setCell (p:=⟨g,o+4,none⟩) (.inl ⟨Nat.le_refl _,Nat.lt_succ_self _⟩) _
theorem LayV.put (h:LayV lo hi w g c N C T zs) {i:Nat} {k:Key} {z:Zr} {n:Nat} {t:List (St × Nat)} (hk:N[i]?=some k) (h1:z.node=k.1) (h2:z.set=k.2) (h3:z.cnt=n) (h4:RowV lo hi w z t) :
 LayV lo hi (put5 w g (i * 5) z) g c N (fun j=>if j=i then n else C j) (fun j=>if j=i then t else T j) (zs.set i z):=by
 have hi:=(List.getElem?_eq_some_iff.1 hk).1
 have hb:=put5_block w g (i * 5) z
 refine ⟨?_,by rw [List.length_set,h.len],fun j k' z' hk' hz'=>?_⟩
 · have r1:=(World.ownsRow.stored h.row (i * 5) (.int .i64 (z.node:Int))).1
   have r2:=(World.ownsRow.stored r1 (i * 5+1) (.int .i64 (z.set:Int))).1
   have r3:=(World.ownsRow.stored r2 (i * 5+2) (.int .i64 (z.cnt:Int))).1
   have r4:=(World.ownsRow.stored r3 (i * 5+3) z.sv).1
   have r5:=(World.ownsRow.stored r4 (i * 5+4) z.tv).1
   rw [flatZ_set zs i z (by rw [h.len];exact hi)] at r5
   exact r5
 · rw [List.getElem?_set] at hz'
   by_cases e:i=j
   · subst e
     rw [if_pos rfl,if_pos (by rw [h.len];exact hi)] at hz'
     injection hz' with hz'
     subst hz'
     rw [hk] at hk'
     injection hk' with hk'
     subst hk'
     rw [if_pos rfl,if_pos rfl]
     exact ⟨h1,h2,h3,h4.nodeTurn h.row fun b hb' _=>hb b hb'⟩
   · rw [if_neg e] at hz'
     obtain ⟨g1,g2,g3,g4⟩:=h.at_ j k' z' hk' hz'
     rw [if_neg (Ne.symm e),if_neg (Ne.symm e)]
     exact ⟨g1,g2,g3,g4.nodeTurn h.row fun b hb' _=>hb b hb'⟩
theorem LayV.congr (h:LayV lo hi w g c N C T zs) {C':Nat->Nat} {T':Nat->List (St × Nat)} (hC:∀ i,i < N.length->C' i=C i) (hT:∀ i,i < N.length->T' i=T i):LayV lo hi w g c N C' T' zs :=
 ⟨h.row,h.len,fun i k z hk hz=>by
  have hi:=(List.getElem?_eq_some_iff.1 hk).1
  rw [hC i hi,hT i hi]
  exact h.at_ i k z hk hz⟩
theorem LayV.raw (w:World) (N:List Key) (h:w.ownsRow 0 69 5 (.slice (some ⟨g,0,none⟩) N.length c) N.length ((N.map rawZ).flatMap cZ)) (lo hi:Nat):LayV lo hi w g c N (fun _=>0) (fun _=>[]) (N.map rawZ) :=
 ⟨h,by simp,fun i k z hk hz=>by
  rw [List.getElem?_map,hk] at hz
  simp only [Option.map_some,Option.some.injEq] at hz
  subst hz
  exact ⟨rfl,rfl,rfl,RowV.nil _ _ _ _⟩⟩
end
end Go.Proofs.YtcnenpjaoalmeaaGreat
namespace Go.Proofs.YtcnenpjaoalmeaaGreat
open Go.ChangeShapes Go.WideShapes Go.ChangeAt Go.RowKit
attribute [local go_sem] ext_cell ext_frozen ext_lt ext_lt1 ext_lt2 ext_lt3 ltn2 ltn3 ltn13 lts1 lts2 lts3
theorem findK_hit {N:List Key} {k:Key} {i:Nat} (h:N[i]?=some k) (hno:∀ (j:Nat) (k':Key),j < i->N[j]?=some k'->k' ≠ k):findK N k=some i:=by
 refine List.findIdx?_eq_some_iff_getElem.2 ⟨(List.getElem?_eq_some_iff.1 h).1,?_,fun j hj=>?_⟩
 · rw [(List.getElem?_eq_some_iff.1 h).2];simp
 · have hjl:j < N.length:=Nat.lt_trans hj (List.getElem?_eq_some_iff.1 h).1
   have:=hno j N[j] hj (List.getElem?_eq_getElem hjl)
   simpa using this
theorem findK_miss {N:List Key} {k:Key} (hno:∀ (j:Nat) (k':Key),j < N.length->N[j]?=some k'->k' ≠ k):findK N k=none:=by
 refine List.findIdx?_eq_none_iff.2 fun x hx=>?_
 obtain ⟨j,hj,rfl⟩:=List.getElem_of_mem hx
 have:=hno j _ hj (List.getElem?_eq_getElem hj)
 simpa using this
def findI (N:List Key) (k:Key):Int:=match findK N k with
 | some i=>(i:Int)
 | none=>-1
theorem rawZ_at {N:List Key} {i:Nat} {k:Key} (h:N[i]?=some k):(N.map rawZ)[i]?=some (rawZ k):=by rw [List.getElem?_map,h];rfl
set_option maxHeartbeats 2000000 in
theorem l19Find_any (v:Value) (N:List Key) (x m:Nat) (w:World) (hv:SlE w cZ 5 v (N.map rawZ)) :
 Calls Tryz.prog 102 #[v,.int .i64 (x:Int),.int .i64 (m:Int)] w fun e w'=>e=.returned (.int .i64 (findI N (x,m)))/\w'=w:=by
 obtain ⟨A,c,rfl,hl,hm,hC⟩:=SlE.form hv
 rw [List.length_map] at hl ⊢
 have HC:=Hd_ hC
 obtain ⟨R,hR⟩:∃ R,R=findI N (x,m):=⟨_,rfl⟩
 rw [<- hR]
 have HR:=Hd_ hR
 clear hv hC hR
 go_enter Tryz.func102,Tryz.ntmps102
 go_wp2_with fail
 go_loop [7] (fun ii=>∃ i:Nat,i<=N.length/\ii=.int .i64 (i:Int)/\(∀ (j:Nat) (k':Key),j < i->N[j]?=some k'->k' ≠ (x,m))) (fun ii=>N.length - (intOf ii).toNat)
 case atStart=>exact ⟨0,Nat.zero_le _,rfl,fun j k' hj=>by omega⟩
 case round =>
  obtain ⟨i,hi,rfl,hno⟩:=hrel
  have HNO:=Hd_ hno
  clear hno
  by_cases hlt:i < N.length
  · have hk:N[i]?=some N[i]:=List.getElem?_eq_getElem hlt
    generalize N[i]=k at hk
    obtain ⟨b,o,rfl,hb,hc⟩:=HC.out.at_ i (rawZ k) (rawZ_at hk)
    have d0:=hc 0 _ rfl
    have d1:=hc 1 _ rfl
    rw [Nat.add_zero] at d0
    have hii:(i:Int) < (N.length:Int):=by omega
    obtain ⟨kn,ks⟩:=k
    simp only [rawZ] at d0 d1
    have HK:=Hd_ hk
    clear hc hk
    by_cases h1:kn=x
    · subst h1
      by_cases h2:ks=m
      · subst h2
        have hfin:R=(i:Int):=by rw [HR.out,findI,findK_hit HK.out HNO.out]
        subst hfin
        clear HR
        go_wp2
        go_ret
        exact ⟨rfl,rfl⟩
      · have h2a:((ks:Int)==(m:Int))=false:=by simp;omega
        have h2b:decide ((ks:Int)=(m:Int))=false:=by simp;omega
        have HN:=Hd_ (show ∀ (j:Nat) (k':Key),j < i+1->N[j]?=some k'->k' ≠ (kn,m) from fun j k' hj hk'=>by
         rcases Nat.lt_or_ge j i with h | h
         · exact HNO.out j k' h hk'
         · obtain rfl:j=i:=(by omega)
           rw [HK.out] at hk'
           injection hk' with hk'
           rw [<- hk'];intro e;injection e with _ e;exact h2 e)
        go_wp2
        go_round
        case rel=>exact ⟨i+1,by omega,by go_num,HN.out⟩
        case measure=>simp [intOf];omega
    · have h1a:((kn:Int)==(x:Int))=false:=by simp;omega
      have h1b:decide ((kn:Int)=(x:Int))=false:=by simp;omega
      have HN:=Hd_ (show ∀ (j:Nat) (k':Key),j < i+1->N[j]?=some k'->k' ≠ (x,m) from fun j k' hj hk'=>by
       rcases Nat.lt_or_ge j i with h | h
       · exact HNO.out j k' h hk'
       · obtain rfl:j=i:=(by omega)
         rw [HK.out] at hk'
         injection hk' with hk'
         rw [<- hk'];intro e;injection e with e _;exact h1 e)
      go_wp2
      go_round
      case rel=>exact ⟨i+1,by omega,by go_num,HN.out⟩
      case measure=>simp [intOf];omega
  · obtain rfl:i=N.length:=by omega
    have hfin:R=-1:=by rw [HR.out,findI,findK_miss HNO.out]
    subst hfin
    clear HR
    go_wp2
    go_ret
    exact ⟨rfl,rfl⟩
end Go.Proofs.YtcnenpjaoalmeaaGreat
namespace Go.Proofs.YtcnenpjaoalmeaaGreat
open Go.ChangeShapes Go.WideShapes Go.ChangeAt Go.RowKit
section
variable {lo hi H g c i:Nat} {w w':World} {N:List Key} {T:Nat->List (St × Nat)} {zs:List Zr} {z:Zr} {t:List (St × Nat)}
/-- all rows but i lie below H; row i's slices from H on -/
structure LayR (b H i:Nat) (w:World) (g c:Nat) (N:List Key) (T:Nat->List (St × Nat)) (t:List (St × Nat)) (zs:List Zr):Prop where
 row:w.ownsRow 0 69 5 (.slice (some ⟨g,0,none⟩) N.length c) N.length (zs.flatMap cZ)
 len:zs.length=N.length
 rest:∀ j k z,j ≠ i->N[j]?=some k->zs[j]?=some z->z.node=k.1/\z.set=k.2/\z.cnt=0/\RowV b H w z (T j)
 cur:∀ k z,N[i]?=some k->zs[i]?=some z->z.node=k.1/\z.set=k.2/\z.cnt=0/\RowV H w.heap.size w z t
 raw:∀ j k,i < j->N[j]?=some k->zs[j]?=some (rawZ k)
/-- .. when a row is begun -/
theorem LayR.start (h:LayV lo hi w g c N (fun _=>0) T zs) (hb:hi<=H) (hr:∀ j k,i<=j->N[j]?=some k->zs[j]?=some (rawZ k)):LayR lo H i w g c N T [] zs :=
 ⟨h.row,h.len,fun j k z _ hk hz=>by
  obtain ⟨h1,h2,h3,h4⟩:=h.at_ j k z hk hz
  exact ⟨h1,h2,h3,h4.mono (Nat.le_refl _) hb⟩,fun k z hk hz=>by
  have:=hr i k (Nat.le_refl _) hk
  rw [hz] at this
  injection this with this
  subst this
  exact ⟨rfl,rfl,rfl,RowV.nil _ _ _ _⟩,fun j k hj hk=>hr j k (by omega) hk⟩
/-- .. when it is done -/
theorem LayR.done {T':Nat->List (St × Nat)} (h:LayR lo H i w g c N T t zs) (hlH:lo<=H) (hH:H<=w.heap.size) (hT:∀ j,j ≠ i->j < N.length->T' j=T j) (ht:T' i=t):LayV lo w.heap.size w g c N (fun _=>0) T' zs :=
 ⟨h.row,h.len,fun j k z hk hz=>by
  by_cases e:j=i
  · subst e
    obtain ⟨h1,h2,h3,h4⟩:=h.cur k z hk hz
    rw [ht]
    exact ⟨h1,h2,h3,h4.mono hlH (Nat.le_refl _)⟩
  · obtain ⟨h1,h2,h3,h4⟩:=h.rest j k z e hk hz
    rw [hT j e (List.getElem?_eq_some_iff.1 hk).1]
    exact ⟨h1,h2,h3,h4.mono (Nat.le_refl _) hH⟩⟩
theorem LayR.lt (h:LayR lo H i w g c N T t zs):g < w.heap.size:=(h.row.lt g rfl).2
/-- blocks that the layer does not hold may turn -/
theorem LayR.below (h:LayR lo H i w g c N T t zs) (hb:Below w.heap.size w w'):LayR lo H i w' g c N T t zs :=
 ⟨ownsRow_below h.row hb (Nat.le_refl _),h.len,fun j k z hj hk hz=>by
  obtain ⟨h1,h2,h3,h4⟩:=h.rest j k z hj hk hz
  exact ⟨h1,h2,h3,h4.below hb⟩,fun k z hk hz=>by
  obtain ⟨h1,h2,h3,h4⟩:=h.cur k z hk hz
  exact ⟨h1,h2,h3,(h4.below hb).mono (Nat.le_refl _) hb.size⟩,h.raw⟩
/-- another block of rows turns -/
theorem LayR.other (h:LayR lo H i w g c N T t zs) {g' b0 n0 c0:Nat} {cs0:List Value} (hr:w.ownsRow b0 69 5 (.slice (some ⟨g',0,none⟩) n0 c0) n0 cs0) (hne:g ≠ g') (hs:w.heap.size<=w'.heap.size) (hb:∀ b,b ≠ g'->b < w.heap.size->w'.heap[b]?=w.heap[b]?):LayR lo H i w' g c N T t zs :=
 ⟨ownsRow_block h.row fun b hg=>hb b (by injection hg with hg;rw [<- hg];exact hne) (h.row.lt b hg).2,h.len,fun j k z hj hk hz=>by
  obtain ⟨h1,h2,h3,h4⟩:=h.rest j k z hj hk hz
  exact ⟨h1,h2,h3,h4.nodeTurn hr hb⟩,fun k z hk hz=>by
  obtain ⟨h1,h2,h3,h4⟩:=h.cur k z hk hz
  exact ⟨h1,h2,h3,(h4.nodeTurn hr hb).mono (Nat.le_refl _) hs⟩,h.raw⟩
/-- row i's slices turn: the others stand, and the rows' block -/
theorem LayR.rowTurn (h:LayR lo H i w g c N T t zs) (hgH:g < H) (hb:∀ b,b < H->b < w.heap.size->w'.heap[b]?=w.heap[b]?) :
 w'.ownsRow 0 69 5 (.slice (some ⟨g,0,none⟩) N.length c) N.length (zs.flatMap cZ)/\∀ j k z,j ≠ i->N[j]?=some k->zs[j]?=some z->z.node=k.1/\z.set=k.2/\z.cnt=0/\RowV lo H w' z (T j) :=
 ⟨ownsRow_block h.row fun b hg=>hb b (by injection hg with hg;rw [<- hg];exact hgH) (h.row.lt b hg).2,fun j k z hj hk hz=>by
  obtain ⟨h1,h2,h3,h4⟩:=h.rest j k z hj hk hz
  exact ⟨h1,h2,h3,h4.blocks fun b _ h5 h6=>hb b h5 h6⟩⟩
/-- row i is stored anew -/
theorem LayR.put {t':List (St × Nat)} (h:LayR lo H i w g c N T t zs) (hgH:g < H) (hb:∀ b,b < H->b < w.heap.size->w'.heap[b]?=w.heap[b]?) {k:Key} (hk:N[i]?=some k) (h1:z.node=k.1) (h2:z.set=k.2) (h3:z.cnt=0) (h4:RowV H w'.heap.size w' z t') :
 LayR lo H i (put5 w' g (i * 5) z) g c N T t' (zs.set i z):=by
 have hi:=(List.getElem?_eq_some_iff.1 hk).1
 obtain ⟨hrow,hrest⟩:=h.rowTurn hgH hb
 have hbp:=put5_block w' g (i * 5) z
 have hsz:=put5_size w' g (i * 5) z
 refine ⟨?_,by rw [List.length_set,h.len],fun j k' z' hj hk' hz'=>?_,fun k' z' hk' hz'=>?_,fun j k' hj hk'=>?_⟩
 · have r1:=(World.ownsRow.stored hrow (i * 5) (.int .i64 (z.node:Int))).1
   have r2:=(World.ownsRow.stored r1 (i * 5+1) (.int .i64 (z.set:Int))).1
   have r3:=(World.ownsRow.stored r2 (i * 5+2) (.int .i64 (z.cnt:Int))).1
   have r4:=(World.ownsRow.stored r3 (i * 5+3) z.sv).1
   have r5:=(World.ownsRow.stored r4 (i * 5+4) z.tv).1
   rw [flatZ_set zs i z (by rw [h.len];exact hi)] at r5
   exact r5
 · rw [List.getElem?_set,if_neg (Ne.symm hj)] at hz'
   obtain ⟨g1,g2,g3,g4⟩:=hrest j k' z' hj hk' hz'
   exact ⟨g1,g2,g3,g4.nodeTurn hrow fun b hb' _=>hbp b hb'⟩
 · rw [List.getElem?_set,if_pos rfl,if_pos (by rw [h.len];exact hi)] at hz'
   injection hz' with hz'
   subst hz'
   rw [hk] at hk'
   injection hk' with hk'
   subst hk'
   refine ⟨h1,h2,h3,?_⟩
   rw [hsz]
   exact h4.nodeTurn hrow fun b hb' _=>hbp b hb'
 · rw [List.getElem?_set,if_neg (by omega)]
   exact h.raw j k' hj hk'
theorem LayR.get (h:LayR lo H i w g c N T t zs) {k:Key} (hk:N[i]?=some k):∃ z,zs[i]?=some z/\z.node=k.1/\z.set=k.2/\z.cnt=0/\RowV H w.heap.size w z t /\
 w.cell? ⟨g,i * 5,none⟩=some (.int .i64 (k.1:Int))/\w.cell? ⟨g,i * 5+1,none⟩=some (.int .i64 (k.2:Int))/\w.cell? ⟨g,i * 5+2,none⟩=some (.int .i64 0)/\w.cell? ⟨g,i * 5+3,none⟩=some z.sv/\w.cell? ⟨g,i * 5+4,none⟩=some z.tv:=by
 have hi:=(List.getElem?_eq_some_iff.1 hk).1
 have hz:zs[i]?=some (zs[i]'(by rw [h.len];exact hi)):=List.getElem?_eq_getElem _
 generalize zs[i]'(by rw [h.len];exact hi)=z at hz
 obtain ⟨h1,h2,h3,h4⟩:=h.cur k z hk hz
 have hc:∀ j u,(cZ z)[j]?=some u->j < 5->w.cell? ⟨g,i * 5+j,none⟩=some u:=fun j u hu hj=>by
  rw [h.row.cellAt (i * 5+j) (by omega)]
  exact flat_at cZ_len hz j u hu
 refine ⟨z,hz,h1,h2,h3,h4,?_,?_,?_,hc 3 _ rfl (by omega),hc 4 _ rfl (by omega)⟩
 · rw [<- h1];exact hc 0 _ rfl (by omega)
 · rw [<- h2];exact hc 1 _ rfl (by omega)
 · have:=hc 2 _ rfl (by omega)
   rw [h3] at this
   exact this
end
structure Srw (bS:Nat) (r:Option Nat) (w w':World):Prop where
 os:w'.os=w.os
 tape:w'.tape=w.tape
 output:w'.output=w.output
 size:w.heap.size<=w'.heap.size
 block:∀ n,n < w.heap.size->n ≠ bS->r ≠ some n->w'.heap[n]?=w.heap[n]?
section
variable {bS:Nat} {r r1:Option Nat} {w w1 w2 w':World}
theorem Srw.refl (bS:Nat) (r:Option Nat) (w:World):Srw bS r w w:=⟨rfl,rfl,rfl,Nat.le_refl _,fun _ _ _ _=>rfl⟩
theorem Srw.trans (h:Srw bS r w w1) (h2:Srw bS r1 w1 w2) (hr:∀ n,r1=some n->r=some n ∨ w.heap.size<=n):Srw bS r w w2 :=
 ⟨h2.os.trans h.os,h2.tape.trans h.tape,h2.output.trans h.output,Nat.le_trans h.size h2.size,fun n hn h3 h4 =>
  (h2.block n (Nat.lt_of_lt_of_le hn h.size) h3 (fun e=>by rcases hr n e with h5 | h5;exact h4 h5;omega)).trans (h.block n hn h3 h4)⟩
theorem Srw.of_below {B:Nat} (h:Below B w w') (hB:w.heap.size<=B) (bS:Nat) (r:Option Nat):Srw bS r w w':=⟨h.os,h.tape,h.output,h.size,fun n hn _ _=>h.block n (by omega)⟩
theorem Srw.set (bS:Nat) (r:Option Nat) (w:World) (i:Nat) (u:Value):Srw bS r w (w.setCell ⟨bS,i,none⟩ u) :=
 ⟨rfl,rfl,rfl,by simp [World.setCell],fun n _ h3 _=>Below.heap_setCell w ⟨bS,i,none⟩ u n h3⟩
theorem Srw.below (h:Srw bS r w w') {B:Nat} (h1:B<=bS) (h2:∀ n,r=some n->B<=n) (h3:B<=w.heap.size):Below B w w' :=
 ⟨h.os,h.tape,h.output,h.size,fun n hn=>h.block n (by omega) (by omega) (fun e=>by have:=h2 n e;omega)⟩
theorem Srw.sl {α:Type} {E:α->List Value} {lo hi k:Nat} {v:Value} {xs:List α} (h:SlI lo hi w E k v xs) (hs:Srw bS r w w') (hh:hi<=w.heap.size) (h1:bS < lo ∨ hi<=bS) (h2:∀ n,r=some n->n < lo ∨ hi<=n):SlI lo hi w' E k v xs :=
 h.keep_ fun b o h3 h4=>World.cell?_of_block (hs.block b (by omega) (by omega) (fun e=>by have:=h2 b e;omega))
theorem Srw.only {W0:World} (h:Srw bS r w w') (h1:∀ n,r=some n->W0.heap.size<=n):Only bS (bS+1) W0 w->Only bS (bS+1) W0 w':=fun h0 =>
 ⟨h.os.trans h0.os,h.tape.trans h0.tape,h.output.trans h0.output,Nat.le_trans h0.size h.size,fun n hn ho=>(h.block n (Nat.lt_of_lt_of_le hn h0.size) (by omega) (fun e=>by have:=h1 n e;omega)).trans (h0.block n hn ho)⟩
theorem Srw.cell {b o:Nat} {v:Value} (hs:Srw bS r w w') (hc:w.cell? ⟨b,o,none⟩=some v) (hb:b < w.heap.size) (h1:b ≠ bS) (h2:r ≠ some b):w'.cell? ⟨b,o,none⟩=some v :=
 (World.cell?_of_block (a:=⟨b,o,none⟩) (hs.block b hb h1 h2)).trans hc
theorem SlI.stI {lo hi:Nat} {w:World} {A:Option Addr} {n c:Nat} {xs:List St} (h:SlI lo hi w cSt 2 (.slice A n c) xs) {i:Nat} {x:St} (hx:xs[i]?=some x) :
 ∃ b o,A=some ⟨b,o,none⟩/\(lo<=b/\b < hi)/\w.cell? ⟨b,o+i * 2,none⟩=some (.int .i64 x.1)/\w.cell? ⟨b,o+i * 2+1,none⟩=some (.bool x.2):=by
 obtain ⟨A',c',hv,_,_,h3⟩:=h
 injection hv with h1 _ _
 subst h1
 obtain ⟨b,o,e,g1,g2,hc⟩:=h3 i x hx
 exact ⟨b,o,e,⟨g1,g2⟩,by simpa using hc 0 _ rfl,hc 1 _ rfl⟩
end
end Go.Proofs.YtcnenpjaoalmeaaGreat
namespace Go.Proofs.YtcnenpjaoalmeaaGreat
open Go.ChangeShapes Go.WideShapes Go.ChangeAt Go.RowKit
attribute [local go_sem] ext_cell ext_frozen ext_lt ext_lt1 ext_lt2 ext_lt3 ltn2 ltn3 ltn13 lts1 lts2 lts3
theorem layTo_at (g:Gr) (a:Au) (N:List Key) {i j:Nat} {k:Key} (h:N[i]?=some k) (hi:i<=N.length) (hj:j < i):(layTo g a N (i+1)).2.getD j []=(layTo g a N i).2.getD j []:=by
 have hl:=(layTo_row g a N i hi).1
 rw [layTo_succ h]
 simp only
 rw [List.getD_eq_getElem?_getD,List.getD_eq_getElem?_getD,List.getElem?_append_left (by omega)]
theorem layTo_new (g:Gr) (a:Au) (N:List Key) {i:Nat} {k:Key} (h:N[i]?=some k) (hi:i<=N.length):(layTo g a N (i+1)).2.getD i []=(rowL g a (layTo g a N i).1 k.1 k.2).2:=by
 have hl:=(layTo_row g a N i hi).1
 rw [layTo_succ h]
 simp only
 rw [List.getD_eq_getElem?_getD,List.getElem?_append_right (by omega),hl,Nat.sub_self];rfl
theorem layTo_past (g:Gr) (a:Au) (N:List Key) {i j:Nat} (hi:i<=N.length) (hj:i<=j):(layTo g a N i).2.getD j []=[]:=by
 have hl:=(layTo_row g a N i hi).1
 rw [List.getD_eq_getElem?_getD,List.getElem?_eq_none (by omega)];rfl
theorem rawZ_one (k:Key):∀ u ∈ cZ (rawZ k),u.oneCell'=true:=by
 intro u hu
 simp only [cZ,rawZ,List.mem_cons,List.not_mem_nil,or_false] at hu
 rcases hu with rfl | rfl | rfl | rfl | rfl <;> rfl
theorem elStL:ElemOk Tryz.prog 34 74 (.agg #[.int .i64 0,.bool false]) 2 16:=⟨Tryz.underlying34,by kernel_rfl,rfl,by omega⟩
theorem elNL:ElemOk Tryz.prog 24 3 (.int .i64 0) 1 8:=⟨Tryz.underlying24,by kernel_rfl,rfl,by omega⟩
theorem only_past {lo hi B:Nat} {a b c:World} (h:Only lo hi a b) (hb:Below B b c) (hB:a.heap.size<=B):Only lo hi a c :=
 ⟨hb.os.trans h.os,hb.tape.trans h.tape,hb.output.trans h.output,Nat.le_trans h.size hb.size,fun n hn ho=>(hb.block n (by omega)).trans (h.block n hn ho)⟩
theorem only_new {lo hi l r:Nat} {a b c:World} (h:Only lo hi a b) (k:Only l r b c) (hl:a.heap.size<=l):Only lo hi a c :=
 ⟨k.os.trans h.os,k.tape.trans h.tape,k.output.trans h.output,Nat.le_trans h.size k.size,fun n hn ho=>(k.block n (Nat.lt_of_lt_of_le hn h.size) (.inl (by omega))).trans (h.block n hn ho)⟩
theorem only_row {w w':World} {o:Obj} {g:Nat} (hg:(w.alloc o).grownBy w' (some g)):Only g (g+1) w w' :=
 ⟨hg.os,hg.tape,hg.output,by have:=hg.size;simp at this;omega,fun n hn ho=>(hg.block n (by simp;omega) (fun e=>by injection e with e;omega)).trans (Below.heap_alloc _ _ _ hn)⟩
set_option maxHeartbeats 16000000 in
set_option maxRecDepth 100000 in
theorem l19Layer_any (vg va:Value) (g:Gr) (a:Au) (B0:Nat) (N:List Key) (gl cl lo hi:Nat) (w:World) (hgv:GrV 0 B0 w vg g) (hav:AuV 0 B0 w va a) (hB0:B0<=gl) (hgo:grOk g=true) (ha:auOk a=true) (hN:KeysOk g a N)
 (hl:LayV lo hi w gl cl N (fun _=>0) (fun _=>[]) (N.map rawZ)) :
 Calls Tryz.prog 71 #[vg,va,.slice (some ⟨gl,0,none⟩) N.length cl] w fun e w'=>∃ gn cn zs,e=.returned (.slice (some ⟨gn,0,none⟩) (layA g a N).1.length cn)/\w.heap.size<=gn /\
  w'.ownsRow w.heap.size 69 5 (.slice (some ⟨gn,0,none⟩) (layA g a N).1.length cn) (layA g a N).1.length (((layA g a N).1.map rawZ).flatMap cZ) /\
  LayV w.heap.size w'.heap.size w' gl cl N (fun _=>0) (fun i=>(layA g a N).2.getD i []) zs/\Only gl (gl+1) w w':=by
 have hgl:=hl.lt
 have hNl:=hN.len (grOk_iff.1 hgo) ha
 have hgs:=hgv.shape
 have has:=hav.shape
 obtain ⟨A1,n1,c1,A2,n2,c2,rfl⟩:=hgs
 obtain ⟨A3,n3,c3,A4,n4,c4,rfl⟩:=has
 obtain ⟨W0,hW0⟩:∃ W0,W0=(w.alloc (.cells #[.slice A1 n1 c1,.slice A2 n2 c2] 27)).alloc (.cells #[.int .i64 a.start,.slice A3 n3 c3,.slice A4 n4 c4] 31):=⟨_,rfl⟩
 have hb0:Below w.heap.size w W0:=by rw [hW0];exact ((Below.refl _ _).alloc (Nat.le_refl _) _).alloc (by simp) _
 have hs0:W0.heap.size=w.heap.size+1+1:=by rw [hW0];simp
 have x0:W0.cell? ⟨w.heap.size,0,none⟩=some (.slice A1 n1 c1):=by rw [hW0];simp
 have x1:W0.cell? ⟨w.heap.size,1,none⟩=some (.slice A2 n2 c2):=by rw [hW0];simp
 have y0:W0.cell? ⟨w.heap.size+1,0,none⟩=some (.int .i64 a.start):=by rw [hW0];simp
 have y1:W0.cell? ⟨w.heap.size+1,1,none⟩=some (.slice A3 n3 c3):=by rw [hW0];simp
 have y2:W0.cell? ⟨w.heap.size+1,2,none⟩=some (.slice A4 n4 c4):=by rw [hW0];simp
 have HGW:=Hd_ (fun (W:World) (hW:Only gl (gl+1) W0 W)=>(((hgv.below hb0 (by omega)).only hW (by omega) (.inl hB0)).mono (Nat.le_refl 0) (show B0<=W.heap.size by have:=hW.size;omega)))
 have HAW:=Hd_ (fun (W:World) (hW:Only gl (gl+1) W0 W)=>(((hav.below hb0 (by omega)).only hW (by omega) (.inl hB0)).mono (Nat.le_refl 0) (show B0<=W.heap.size by have:=hW.size;omega)))
 have HL:=Hd_ (hl.below hb0)
 have HB0:=Hd_ hb0
 have HN:=Hd_ hN
 have HGO:=Hd_ hgo
 have HA:=Hd_ ha
 have he12:=(grOk_iff.1 hgo).e12
 have HX:=Hd_ (And.intro x0 (And.intro x1 (And.intro y0 (And.intro y1 y2))))
 clear hgv hav hl hb0 hN hgo ha x0 x1 y0 y1 y2
 go_enter Tryz.func71,Tryz.ntmps71
 go_wp2_with fail
 rw [<- hW0]
 have HR0:=Hd_ (show (W0.alloc (.cells #[] 69)).ownsRow W0.heap.size 69 5 (.slice (some ⟨W0.heap.size,0,none⟩) 0 0) (layTo g a N 0).1.length (((layTo g a N 0).1.map rawZ).flatMap cZ) from
  World.ownsRow_lit (base:=W0.heap.size) (e:=69) (size:=5) W0 #[] 0 (Nat.le_refl _) (by decide) rfl)
 have hbL:Below W0.heap.size W0 (W0.alloc (.cells #[] 69)):=(Below.refl _ _).alloc (Nat.le_refl _) _
 have HL0:=Hd_ (((HL.out.below hbL).congr (T':=fun j=>(layTo g a N 0).2.getD j []) (fun _ _=>rfl) (fun j _=>by simp [layTo])))
 have HO0:=Hd_ (Only.of_below hbL gl (gl+1))
 rw [show w.heap.size+1+1=W0.heap.size from hs0.symm]
 have hs0a:W0.heap.size<=w.heap.size+1+1:=Nat.le_of_eq hs0
 have hs0b:w.heap.size+1+1<=W0.heap.size:=Nat.le_of_eq hs0.symm
 clear hW0 hbL HL hs0
 try go_wp2_with fail
 go_loopw [7,8] (fun nx ii wr=>∃ (i gn cn:Nat) (zs:List Zr),i<=N.length/\ii=.int .i64 (i:Int)/\nx=.slice (some ⟨gn,0,none⟩) (layTo g a N i).1.length cn /\
  wr.ownsRow W0.heap.size 69 5 (.slice (some ⟨gn,0,none⟩) (layTo g a N i).1.length cn) (layTo g a N i).1.length (((layTo g a N i).1.map rawZ).flatMap cZ) /\
  LayV W0.heap.size wr.heap.size wr gl cl N (fun _=>0) (fun j=>(layTo g a N i).2.getD j []) zs/\(∀ j k,i<=j->N[j]?=some k->zs[j]?=some (rawZ k))/\Only gl (gl+1) W0 wr) (fun _ ii _=>N.length - (intOf ii).toNat)
 case atStart =>
  refine ⟨0,W0.heap.size,0,N.map rawZ,Nat.zero_le _,rfl,rfl,HR0.out,?_,fun j k _ hk=>rawZ_at hk,HO0.out⟩
  exact ⟨HL0.out.row,HL0.out.len,fun i k z hk hz=>by
   obtain ⟨h1,h2,h3,-⟩:=HL0.out.at_ i k z hk hz
   rw [rawZ_at hk] at hz
   injection hz with hz
   subst hz
   exact ⟨h1,h2,h3,RowV.nil _ _ _ _⟩⟩
 case round =>
  clear HR0 HL0 HO0
  obtain ⟨i,gn,cn,zs,hi,rfl,rfl,hrow,hlay,hraw,hon⟩:=hrel
  have hsz:=hon.size
  by_cases hlt:i < N.length
  · have hk:N[i]?=some N[i]:=List.getElem?_eq_getElem hlt
    have hkr:=HN.out.rng N[i] (List.getElem_mem hlt)
    generalize N[i]=k at hk hkr
    obtain ⟨x,s⟩:=k
    simp only at hkr
    obtain ⟨z,hz,hz1,hz2,hz3,hz4,d0,d1,-⟩:=hlay.get hk
    simp only at d0 d1
    have x0:=ocell hon HX.out.1 (by omega) (.inr (by omega))
    have x1:=ocell hon HX.out.2.1 (by omega) (.inr (by omega))
    have HLF:=Hd_ (fun (W:World) (hW:Only gl (gl+1) W0 W)=>l4From_any _ g (x:Int) W (HGW.out W hW) he12)
    have hgnr:=hrow.lt gn rfl
    have hgll:=hlay.lt
    have HROW:=Hd_ hrow
    have HLAY:=Hd_ hlay
    have HRAW:=Hd_ hraw
    have HON:=Hd_ hon
    have HK:=Hd_ hk
    have hs4:=lt12 HA.out hkr.2
    have hii:(i:Int) < (N.length:Int):=by omega
    have hal:=arcs_len (grOk_iff.1 HGO.out) (x:Int)
    have HNS:=Hd_ (layTo_succ (g:=g) (a:=a) hk)
    have HTA:=Hd_ (fun j (hj:j < i)=>layTo_at g a N hk hi hj)
    have HTN:=Hd_ (layTo_new g a N hk hi)
    have HTP:=Hd_ (fun j hj=>layTo_past g a N hi (j:=j) hj)
    have HKO:=Hd_ (fun k=>(rowTk_ok (grOk_iff.1 HGO.out) HA.out (layTo_ok (grOk_iff.1 HGO.out) HA.out N i) x s k).len (grOk_iff.1 HGO.out) HA.out)
    have HTL:=Hd_ (rowTk_len g a (layTo g a N i).1 x s)
    have hlr:w.heap.size < wr.heap.size:=by omega
    have hgl1:gl+1<=w.heap.size:=by omega
    obtain ⟨wo,hwo⟩:∃ wo:World,wo=wr:=⟨_,rfl⟩
    rw [<- hwo] at HROW HLAY HON hsz hgnr hgll hlr x0 x1 d0 d1 ⊢
    clear hwo hrow hlay hraw hon hk hz hz1 hz2 hz3 hz4
    go_upto_region 5 with fail
    refine F_start 7 (fun w'=>w'.cell? ⟨w.heap.size,0,none⟩=some (.slice A1 n1 c1)/\w'.cell? ⟨w.heap.size,1,none⟩=some (.slice A2 n2 c2)/\w'.cell? ⟨gl,i * 5,none⟩=some (.int .i64 (x:Int))) (by kernel_rfl) (by exact ⟨x0,x1,d0⟩) (fun hS inv=>?_)
    refine F_tk 0 inv ?_
    try simp only [tA,tB,tC,Act.put,tE,tF,tG]
    clear inv;intro inv
    refine F_tk 1 inv ?_
    try simp only [tA,tB,tC,Act.put,tE,tF,tG]
    clear inv;intro inv
    refine F_tk 2 inv ?_
    try simp only [tA,tB,tC,Act.put,tE,tF,tG]
    clear inv;intro inv
    refine F_tk 3 inv ?_
    try simp only [tA,tB,tC,Act.put,tE,tF,tG]
    clear inv;intro inv
    refine F_tk 4 inv ?_
    try simp only [tA,tB,tC,Act.put,tE,tF,tG]
    clear inv;intro inv
    refine F_tk 5 inv ?_
    try simp only [tA,tB,tC,Act.put,tE,tF,tG]
    clear inv;intro inv
    refine F_o1 6 inv ?_;intro K hK
    try simp only [tA,tB,tC]
    go_simp
    refine (HLF.out _ HON.out.drew).mono ?_
    rintro en w1 ⟨v1,rfl,ho1,hb1⟩
    have hbD:=below_trans ((Below.refl wo.heap.size wo).drew) hb1
    obtain ⟨A6,c6,rfl,hl6,hm6,-⟩:=ho1.form cSt_len
    rw [List.length_map] at ho1 hl6
    have HO1:=Hd_ (show Own wo.heap.size w1.heap.size w1 74 cSt 2 (.slice A6 (arcsOf g (x:Int)).length c6) ((arcsOf g (x:Int)).map (·.1)) from ho1)
    clear ho1
    refine hK.out _ _ (kB3 hb1 hS) (fun _ _=>?_)
    try simp only [tA,tB,tC,Act.put,tE,tF,tG]
    clear hK K inv hS;rename_i hS inv
    refine F_l1 7 ?_;intro K hK
    go_simp
    refine hK _ _ ?_
    clear hK K inv hS
    try simp only [List.length_map]
    obtain ⟨nA,hnA⟩:∃ nA,nA=(arcsOf g (x:Int)).length:=⟨_,rfl⟩
    have hnA2:=hnA
    rw [<- hnA] at HO1 hl6 ⊢
    have hnA3:nA<=24:=by omega
    have HNA:=Hd_ hnA2
    have hsD:=hbD.size
    have HON1:=Hd_ (HON.out.trans (Only.of_below hbD gl (gl+1)))
    have HLR:=Hd_ (LayR.start (HLAY.out.below hbD) hsD HRAW.out)
    have HRO:=Hd_ (ownsRow_below HROW.out hbD (Nat.le_refl _))
    clear hnA hnA2 x0 x1 d0 d1 hb1 hbD HROW HLAY HRAW
    go_wp2_with fail
    go_loopw [7,10] (fun nx kk wi=>∃ (k gm cm:Nat) (zs':List Zr),k<=nA/\kk=.int .i64 (k:Int)/\nx=.slice (some ⟨gm,0,none⟩) (rowTk g a (layTo g a N i).1 x s k).1.length cm /\
     wi.ownsRow W0.heap.size 69 5 (.slice (some ⟨gm,0,none⟩) (rowTk g a (layTo g a N i).1 x s k).1.length cm) (rowTk g a (layTo g a N i).1 x s k).1.length (((rowTk g a (layTo g a N i).1 x s k).1.map rawZ).flatMap cZ) /\
     LayR W0.heap.size w1.heap.size i wi gl cl N (fun j=>(layTo g a N i).2.getD j []) (rowTk g a (layTo g a N i).1 x s k).2 zs'/\Only gl (gl+1) W0 wi /\
     Own wo.heap.size w1.heap.size wi 74 cSt 2 (.slice A6 nA c6) ((arcsOf g (x:Int)).map (·.1))/\w1.heap.size<=wi.heap.size) (fun _ kk _=>nA - (intOf kk).toNat)
    case atStart=>exact ⟨0,gn,cn,zs,Nat.zero_le _,rfl,rfl,HRO.out,HLR.out,HON1.out,HO1.out,Nat.le_refl _⟩
    case round =>
     clear HRO HLR HON1 HO1
     obtain ⟨k,gm,cm,zs',hk',rfl,rfl,hrow,hlr',hon,hown,hsz1⟩:=hrel
     by_cases hlk:k < nA
     · have hlka:k < (arcsOf g (x:Int)).length:=by rw [<- HNA.out];exact hlk
       have hyi:(arcsOf g (x:Int))[k]?=some (arcsOf g (x:Int))[k]:=List.getElem?_eq_getElem hlka
       have hym:=List.getElem_mem hlka
       generalize (arcsOf g (x:Int))[k]=p at hyi hym
       have hyr:=arc_range (grOk_iff.1 HGO.out) hym
       obtain ⟨e,he,hel,het⟩:=arc_stepEd HGO.out hym
       have HY:=Hd_ hyi
       have HRS:=Hd_ (rowTk_succ (a:=a) (N:=(layTo g a N i).1) (s:=s) hyi)
       have hko:=HKO.out k
       have htl:=HTL.out k
       obtain ⟨⟨sid,sinv⟩,l,t⟩:=p
       simp only at hyr he hel het
       obtain ⟨l,rfl⟩:=Int.eq_ofNat_of_zero_le hyr.1.1
       obtain ⟨t,rfl⟩:=Int.eq_ofNat_of_zero_le hyr.2.1
       have HNX:=Hd_ (fun (W:World) (hW:Only gl (gl+1) W0 W)=>by
        have h:=l18Next_any _ _ g a x s (sid,sinv) e l W (HGW.out W hW) (HAW.out W hW) HGO.out HA.out hkr.1 hkr.2 he hel
        rw [het] at h
        exact h)
       have hMl:=aft_lt HA.out s (valAt g x) l
       have hM4:=lt12 HA.out hMl
       have HAL0:=Hd_ (fun (h:aft a s (valAt g x) l=0)=>show arcL g a x s (rowTk g a (layTo g a N i).1 x s k) ((sid,sinv),(l:Int),(t:Int))=rowTk g a (layTo g a N i).1 x s k by rw [arcL];simp [h])
       have HALs:=Hd_ (fun (h:aft a s (valAt g x) l ≠ 0) (i0:Nat) (hf:findK (rowTk g a (layTo g a N i).1 x s k).1 (t,aft a s (valAt g x) l)=some i0)=>show arcL g a x s (rowTk g a (layTo g a N i).1 x s k) ((sid,sinv),(l:Int),(t:Int))=((rowTk g a (layTo g a N i).1 x s k).1,(rowTk g a (layTo g a N i).1 x s k).2 ++ [((sid,sinv),i0)]) by rw [arcL];simp [h,hf])
       have HALn:=Hd_ (fun (h:aft a s (valAt g x) l ≠ 0) (hf:findK (rowTk g a (layTo g a N i).1 x s k).1 (t,aft a s (valAt g x) l)=none)=>show arcL g a x s (rowTk g a (layTo g a N i).1 x s k) ((sid,sinv),(l:Int),(t:Int))=((rowTk g a (layTo g a N i).1 x s k).1 ++ [(t,aft a s (valAt g x) l)],(rowTk g a (layTo g a N i).1 x s k).2 ++ [((sid,sinv),(rowTk g a (layTo g a N i).1 x s k).1.length)]) by rw [arcL];simp [h,hf])
       obtain ⟨st,hst⟩:∃ st,st=rowTk g a (layTo g a N i).1 x s k:=⟨_,rfl⟩
       rw [<- hst] at HRS hko htl HAL0 HALs HALn hrow hlr' ⊢
       obtain ⟨z,hz,hz1,hz2,hz3,hz4,d0,d1,d2,d3,d4⟩:=hlr'.get HK.out
       simp only at d0 d1 hz1 hz2
       have x0:=ocell hon HX.out.1 (by omega) (.inr (by omega))
       have x1:=ocell hon HX.out.2.1 (by omega) (.inr (by omega))
       have y0:=ocell hon HX.out.2.2.1 (by omega) (.inr (by omega))
       have y1:=ocell hon HX.out.2.2.2.1 (by omega) (.inr (by omega))
       have y2:=ocell hon HX.out.2.2.2.2 (by omega) (.inr (by omega))
       have hsl:=hown.sl cSt_len
       obtain ⟨b6,o6,rfl,hb6,e0,e1⟩:=hsl.stI (i:=k) (x:=(sid,sinv)) (by rw [List.getElem?_map,hyi];rfl)
       simp only at e0 e1
       have hgmr:=hrow.lt gm rfl
       have hgll2:=hlr'.lt
       have hszi:=hon.size
       have hkk:(k:Int) < (nA:Int):=by omega
       have hb6w:b6 < wr.heap.size:=by omega
       have lw0:w.heap.size < wr.heap.size:=by omega
       have lw1:w.heap.size+1 < wr.heap.size:=by omega
       have HROW:=Hd_ hrow
       have HLR:=Hd_ hlr'
       have HON:=Hd_ hon
       have HOWN:=Hd_ hown
       have HZ:=Hd_ (And.intro hz (And.intro hz1 (And.intro hz2 (And.intro hz3 hz4))))
       obtain ⟨M,hM⟩:∃ M,M=aft a s (valAt g x) l:=⟨_,rfl⟩
       rw [<- hM] at HNX hMl hM4 HAL0 HALs HALn
       clear hst hrow hlr' hon hown hyi hym he hel het hz hz1 hz2 hz3 hz4 hsl hM
       go_upto_region 9 with fail
       refine wp_region_ext_lit (by kernel_rfl) (by kernel_rfl) ?_
       repeat (go_big_quiet_step ((go_at_call 48;exact Calls.ext_of (HNX.out _ (HON.out.trans (Only.of_below (ext_below _ _) gl (gl+1)))))))
       refine wpQuiet_nil ?_
       rintro _ ⟨u2,rfl⟩
       have hbX:=ext_below wr u2
       have HROX:=Hd_ (ownsRow_below HROW.out hbX (Nat.le_refl _))
       have HLRX:=Hd_ (HLR.out.below hbX)
       have HONX:=Hd_ (HON.out.trans (Only.of_below hbX gl (gl+1)))
       have HOWX:=Hd_ (HOWN.out.below (B:=wr.heap.size) hbX (by omega))
       have hsX:=hbX.size
       by_cases hM0:M=0
       · have HE:=Hd_ (HRS.out.trans (HAL0.out hM0))
         subst hM0
         clear HAL0 HALs HALn HRS hbX
         go_wp2_with fail
         go_roundw
         case rel=>exact ⟨k+1,gm,cm,zs',by omega,by go_num,by rw [HE.out],by rw [HE.out];exact HROX.out,by rw [HE.out];exact HLRX.out,HONX.out,HOWX.out,by omega⟩
         case measure=>simp [intOf];omega
       · have hMi:((M:Int)==0)=false:=by simp;omega
         have hMi2:decide ((M:Int)=0)=false:=by simp;omega
         have hfd:=l19Find_any (.slice (some ⟨gm,0,none⟩) st.1.length cm) st.1 t M (ext wr u2) (((Own.of_row (xs:=st.1.map rawZ) HROX.out (by simp) rfl).sl cZ_len).all (Nat.le_refl _))
         have HFD:=Hd_ hfd
         obtain ⟨wx,hwx⟩:∃ wx,wx=ext wr u2:=⟨_,rfl⟩
         rw [<- hwx] at HFD HROX HLRX HONX HOWX hsX ⊢
         clear hfd hbX hwx HAL0 HROW HLR HON HOWN HNX x0 x1 y0 y1 y2 d0 d1 d2 d3 d4 e0 e1 HZ
         go_wp2_with fail
         refine HFD.out.mono ?_
         rintro en w9 ⟨rfl,hw9⟩
         rw [hw9]
         clear hw9 HFD
         go_upto_if 62 with fail
         go_cut [13,7] (fun at' nx wy=>∃ (i0 gy cy:Nat) (N':List Key),at'=.int .i64 (i0:Int)/\nx=.slice (some ⟨gy,0,none⟩) N'.length cy/\arcL g a x s st ((sid,sinv),(l:Int),(t:Int))=(N',st.2 ++ [((sid,sinv),i0)]) /\
          wy.ownsRow W0.heap.size 69 5 (.slice (some ⟨gy,0,none⟩) N'.length cy) N'.length ((N'.map rawZ).flatMap cZ)/\Only gm (gm+1) wx wy)
         case first =>
          cases hf:findK st.1 (t,M) with
          | some i0 =>
            have hfi:findI st.1 (t,M)=(i0:Int):=by rw [findI,hf]
            have HAL:=Hd_ (HALs.out hM0 i0 hf)
            rw [hfi]
            clear hfi hf HALs HALn
            go_wp2_with fail
            go_meet
            exact ⟨i0,gm,cm,st.1,rfl,rfl,HAL.out,HROX.out,Only.refl _ _ _⟩
          | none =>
            have hfi:findI st.1 (t,M)=-1:=by rw [findI,hf]
            have HAL:=Hd_ (HALn.out hM0 hf)
            rw [hfi]
            clear hfi hf HALs HALn
            have HROX':=Hd_ (show wx.ownsRow W0.heap.size 69 5 (.slice (some ⟨gm,0,none⟩) st.1.length cm) (st.1.map rawZ).length ((st.1.map rawZ).flatMap cZ) by rw [List.length_map];exact HROX.out)
            have hml:(st.1.map rawZ).length<=20480:=by rw [List.length_map];exact hko
            go_wp2_with (at_builtin;(refine wpList_append1 cZ elZ rfl _ _ rfl W0.heap.size _ (st.1.map rawZ) (rawZ (t,M)) _ 1 _ (by rfl) HROX'.out (by rfl) rfl rfl rfl (rawZ_one _) (by omega) (by omega) (by omega) ?_);intro v8 w8 hrow8 hb8 hat8 hgr8)
            obtain ⟨gS,cS,rfl,-,-,-,-⟩:=own_some hrow8 (by simp)
            go_meet
            exact ⟨st.1.length,gS,cS,st.1 ++ [(t,M)],rfl,by simp,HAL.out,by simpa using hrow8,only_row hgr8⟩
         case rest =>
          obtain ⟨i0,gy,cy,N',rfl,rfl,hal2,hrowy,hony⟩:=hcut
          have hsy:=hony.size
          have hLRY:=HLRX.out.other HROX.out (by omega) hsy (fun b hb hl=>hony.block b hl (by omega))
          have hOWY:=HOWX.out.blocks (fun b hb=>hony.block b (HOWX.out.lt b hb).2.2 (by
           have:=own_ne HOWX.out.1 HROX.out (Ne.symm tyZS) hb
           simp only [Value.ownBlock,ne_eq,Option.some.injEq] at this
           omega))
          have hONY:=only_new HONX.out hony hgmr.1
          obtain ⟨z,hz,hz1,hz2,hz3,hz4,d0,d1,d2,d3,d4⟩:=hLRY.get HK.out
          simp only at hz1 hz2 d0 d1
          obtain ⟨b7,o7,eA,-,e0,e1⟩:=(hOWY.sl cSt_len).stI (i:=k) (x:=(sid,sinv)) (by rw [List.getElem?_map,HY.out];rfl)
          simp only [Option.some.injEq,Addr.mk.injEq,and_true] at eA
          obtain ⟨rfl,rfl⟩:=eA
          simp only at e0 e1
          have hgly:=hLRY.lt
          have hgyl:=(hrowy.lt gy rfl)
          have HE:=Hd_ (HRS.out.trans hal2)
          have HROY:=Hd_ hrowy
          have HLRY:=Hd_ hLRY
          have HOWY:=Hd_ hOWY
          have HONY:=Hd_ hONY
          have hosv:=hz4.1
          have hotv:=hz4.2
          clear hz hz1 hz2 hz3 hz4
          generalize z.sv=sv at *
          generalize z.tv=tv at *
          obtain ⟨As,ns,cs,rfl⟩:=hosv.shape
          obtain ⟨At,nt,ct,rfl⟩:=hotv.shape
          have HZ:=Hd_ (And.intro hosv hotv)
          have hwcs:w1.heap.size<=wc.heap.size:=by omega
          clear hal2 hrowy hony hLRY hOWY hONY hosv hotv HALs HALn HRS HROX HLRX HONX HOWX
          have hz4:=HZ.out
          obtain ⟨wz,hwz⟩:∃ wz,wz=wc.alloc (.cells #[.int .i64 (x:Int),.int .i64 (s:Int),.int .i64 0,.slice As ns cs,.slice At nt ct] 69):=⟨_,rfl⟩
          have hbZ:Below wc.heap.size wc wz:=by rw [hwz];exact (Below.refl _ _).alloc (Nat.le_refl _) _
          have hbk:Blk wz wc.heap.size 69 #[.int .i64 (x:Int),.int .i64 (s:Int),.int .i64 0,.slice As ns cs,.slice At nt ct]:=by rw [hwz];exact Blk.new _ _ _ _ rfl
          have hszz:=hbk.lt
          have hsv:=hz4.1.below hbZ (Nat.le_refl _)
          have htv:=hz4.2.below hbZ (Nat.le_refl _)
          have hsvl:∀ b,(Value.slice As ns cs).ownBlock=some b->w1.heap.size<=b/\b < wc.heap.size:=fun b hb=>⟨(hsv.lt b hb).1,(hsv.lt b hb).2.1⟩
          have htvl:∀ b,(Value.slice At nt ct).ownBlock=some b->w1.heap.size<=b/\b < wc.heap.size:=fun b hb=>⟨(htv.lt b hb).1,(htv.lt b hb).2.1⟩
          have hstv:∀ b,(Value.slice At nt ct).ownBlock=some b->(Value.slice As ns cs).ownBlock ≠ some b:=fun b hb=>own_ne htv.1 hsv.1 (Ne.symm tySI) hb
          have hnsv:(Value.slice As ns cs).ownBlock ≠ some gy:=by
           intro e
           exact own_ne hz4.1.1 HROY.out (Ne.symm tyZS) e rfl
          have hntv:(Value.slice At nt ct).ownBlock ≠ some gy:=by
           intro e
           exact own_ne hz4.2.1 HROY.out (Ne.symm tyZI) e rfl
          have b3:wz.cell? ⟨wc.heap.size,3,none⟩=some (.slice As ns cs):=hbk.cell 3
          have e0:=kcell hbZ e0
          have e1:=kcell hbZ e1
          have hTl:(st.2.map (·.1)).length<=24:=by rw [List.length_map];omega
          have hTl2:(st.2.map (·.2)).length<=24:=by rw [List.length_map];omega
          have HSV:=Hd_ hsv
          have HTV:=Hd_ htv
          have HBK:=Hd_ hbk
          have HBZ:=Hd_ hbZ
          have HSVL:=Hd_ (And.intro hsvl (And.intro htvl (And.intro hstv (And.intro hnsv hntv))))
          have lb6:b6 < wz.heap.size:=by omega
          clear hsv htv hbk hbZ hsvl htvl hstv hnsv hntv hz4
          go_upto_region 16 with fail
          rw [<- hwz]
          have HD:=Hd_ (And.intro d0 (And.intro d1 (And.intro d2 (And.intro d3 d4))))
          clear hwz d0 d1 d2 d3 d4
          refine F_start 9 (fun w'=>w'.cell? ⟨wc.heap.size,3,none⟩=some (.slice As ns cs)/\w'.cell? ⟨b6,o6+k * 2,none⟩=some (.int .i64 sid)/\w'.cell? ⟨b6,o6+k * 2+1,none⟩=some (.bool sinv)) (by kernel_rfl) (by exact ⟨b3,e0,e1⟩) (fun hS inv=>?_)
          refine F_tk 0 inv ?_
          try simp only [tA,tB,tC,Act.put,tE,tF,tG]
          clear inv;intro inv
          refine F_tk 1 inv ?_
          try simp only [tA,tB,tC,Act.put,tE,tF,tG]
          clear inv;intro inv
          refine F_tk 2 inv ?_
          try simp only [tA,tB,tC,Act.put,tE,tF,tG]
          clear inv;intro inv
          refine F_tk 3 inv ?_
          try simp only [tA,tB,tC,Act.put,tE,tF,tG]
          clear inv;intro inv
          refine F_tk 4 inv ?_
          try simp only [tA,tB,tC,Act.put,tE,tF,tG]
          clear inv;intro inv
          refine F_tk 5 inv ?_
          try simp only [tA,tB,tC,Act.put,tE,tF,tG]
          clear inv;intro inv
          refine F_o1 6 inv ?_;intro K hK
          try simp only [tA,tB,tC]
          go_simp
          refine hK.out _ _ (kA3 _ hS) (fun _ _=>?_)
          try simp only [tA,tB,tC,Act.put,tE,tF,tG]
          clear hK K inv hS;rename_i hS inv
          refine F_o1 7 inv ?_;intro K hK
          try simp only [tA,tB,tC]
          refine op_append1 cSt elStL rfl _ _ (by rfl) w1.heap.size (.slice As ns cs) (st.2.map (fun e:St × Nat=>e.1)) (sid,sinv) 1 _ (by rfl) (show ((wz.alloc (.cells #[.int .i64 sid,.bool sinv] 74)).drew).ownsRow w1.heap.size 74 2 (.slice As ns cs) (st.2.map (fun e:St × Nat=>e.1)).length ((st.2.map (fun e:St × Nat=>e.1)).flatMap cSt) from HSV.out.1.alloc _) (by first | rfl | simp) (heap_alloc_new _ _) rfl (cSt_one _) (by omega) (by omega) (by simp;omega) ?_
          intro g2 cp2 w3 hown3 hgr3 hat3 hlt3
          have hsvl:=HSVL.out.1
          have g3:∀ b,b < wz.heap.size->(Value.slice As ns cs).ownBlock ≠ some b->w3.heap[b]?=wz.heap[b]?:=fun b hb hn=>(hgr3.block b (by simp;omega) (fun e=>hn e.symm)).trans (Below.heap_alloc wz _ b hb)
          have hs3:wz.heap.size < w3.heap.size:=by have:=hgr3.size;simp at this;omega
          have hbk3:Blk w3 wc.heap.size 69 #[.int .i64 (x:Int),.int .i64 (s:Int),.int .i64 0,.slice As ns cs,.slice At nt ct]:=(g3 wc.heap.size hszz (fun e=>by have:=hsvl _ e;omega)).trans HBK.out
          have b3':w3.cell? ⟨wc.heap.size,3,none⟩=some (.slice As ns cs):=hbk3.cell 3
          have f3':=hbk3.frozen 3
          have l3':=hbk3.lt
          refine hK.out _ _ (⟨hgr3.cell hS.1 (fun e=>by have:=hsvl _ e.symm;simp only at this;omega),hgr3.cell hS.2.1 (fun e=>by have:=hsvl _ e.symm;simp only at this;omega),hgr3.cell hS.2.2 (fun e=>by have:=hsvl _ e.symm;simp only at this;omega)⟩) (fun _ _=>?_)
          try simp only [tA,tB,tC,Act.put,tE,tF,tG]
          clear hK K inv hS;rename_i hS inv
          refine F_tk 8 inv ?_
          try simp only [tA,tB,tC,Act.put,tE,tF,tG]
          clear inv;intro inv
          refine F_l1 9 ?_;intro K hK
          go_simp
          refine hK _ _ ?_
          clear hK K inv hS
          rw [List.length_map] at hown3
          obtain ⟨-,htvl,hstv,hnsv,hntv⟩:=HSVL.out
          obtain ⟨w4,hw4⟩:∃ w4,w4=w3.setCell ⟨wc.heap.size,3,none⟩ (.slice (some ⟨g2,0,none⟩) (st.2.length+1) cp2):=⟨_,rfl⟩
          have hbk4:Blk w4 wc.heap.size 69 #[.int .i64 (x:Int),.int .i64 (s:Int),.int .i64 0,.slice (some ⟨g2,0,none⟩) (st.2.length+1) cp2,.slice At nt ct]:=by
           have h:=hbk3.set_ 3 (.slice (some ⟨g2,0,none⟩) (st.2.length+1) cp2)
           rw [<- hw4] at h
           simpa using h
          have hs4w:w3.heap.size=w4.heap.size:=by rw [hw4];simp [World.setCell]
          have g4:∀ b,b < wz.heap.size->(Value.slice As ns cs).ownBlock ≠ some b->b ≠ wc.heap.size->w4.heap[b]?=wz.heap[b]?:=fun b hb hn hne=>by
           rw [hw4];exact (Below.heap_setCell w3 ⟨wc.heap.size,3,none⟩ _ b hne).trans (g3 b hb hn)
          have hg2:w1.heap.size<=g2/\g2 ≠ wc.heap.size:=by
           rcases hat3 with h | h
           · have:=hsvl g2 h;omega
           · simp at h;omega
          have hsv4:w4.ownsRow w1.heap.size 74 2 (Value.slice (some ⟨g2,0,none⟩) (st.2.length+1) cp2) ((st.2.map (fun e:St × Nat=>e.1)) ++ [(sid,sinv)]).length (((st.2.map (fun e:St × Nat=>e.1)) ++ [(sid,sinv)]).flatMap cSt) :=
           ownsRow_block hown3 (fun b hb=>by
            have:g2=b:=by simpa [Value.ownBlock] using hb
            rw [hw4];exact Below.heap_setCell w3 ⟨wc.heap.size,3,none⟩ _ b (by rw [<- this];exact hg2.2))
          have htv4:w4.ownsRow w1.heap.size 3 1 (.slice At nt ct) (st.2.map (fun e:St × Nat=>e.2)).length ((st.2.map (fun e:St × Nat=>e.2)).flatMap cN):=ownsRow_block HTV.out.1 (fun b hb=>g4 b (HTV.out.lt b hb).2.2 (hstv b hb) (by have:=htvl b hb;omega))
          have hbl4:Below w1.heap.size wc w4:=by
           rw [hw4]
           have h1:Below w1.heap.size wc ((wz.alloc (.cells #[.int .i64 sid,.bool sinv] 74)).drew):=((HBZ.out.mono hwcs).alloc (by omega) _).drew
           exact (h1.grown hgr3 (by simp;omega) (fun b hb=>(hsvl b hb).1)).setCell (by simp only;omega) _
          have b4:w4.cell? ⟨wc.heap.size,4,none⟩=some (.slice At nt ct):=hbk4.cell 4
          have l4:=hbk4.lt
          have HSV4:=Hd_ hsv4
          have HTV4:=Hd_ htv4
          have HBK4:=Hd_ hbk4
          have HBL4:=Hd_ hbl4
          have HG4:=Hd_ g4
          have HG2:=Hd_ hg2
          have hws:w1.heap.size<=w4.heap.size:=by omega
          have hwz4:wz.heap.size<=w4.heap.size:=by omega
          rw [<- hw4]
          clear hw4 hsv4 htv4 hbk4 hbl4 g4 hg2 hbk3 b3' f3' l3' g3 hown3 hgr3 hat3 hlt3 hsvl htvl hstv hnsv hntv HSV HTV HBK
          go_upto_region 18 with (at_builtin;(refine wpList_append1 cN elNL rfl _ _ rfl w1.heap.size _ (st.2.map (fun e:St × Nat=>e.2)) i0 _ 1 _ (by rfl) HTV4.out (by rfl) rfl rfl rfl (cN_one _) (by omega) (by omega) (by omega) ?_);intro v6 w6 hrow6 hb6' hat6 hgr6;obtain ⟨g6,cp6,rfl,hg6a,hg6b,-,-⟩:=own_some hrow6 (by simp);have hbk6:Blk w6 wc.heap.size 69 #[.int .i64 (x:Int),.int .i64 (s:Int),.int .i64 0,.slice (some ⟨g2,0,none⟩) (st.2.length+1) cp2,.slice At nt ct]:=(hgr6.block wc.heap.size (by simp;omega) (fun e=>by have:=HSVL.out.2.1 _ e.symm;omega)).trans ((Below.heap_alloc w4 _ _ l4).trans HBK4.out);have b46:w6.cell? ⟨wc.heap.size,4,none⟩=some (.slice At nt ct):=hbk6.cell 4;have f46:=hbk6.frozen 4;have l46:=hbk6.lt)
          obtain ⟨hsvl,htvl,hstv,hnsv,hntv⟩:=HSVL.out
          have hrow6':w6.ownsRow w1.heap.size 3 1 (Value.slice (some ⟨g6,0,none⟩) (st.2.length+1) cp6) ((st.2.map (fun e:St × Nat=>e.2)) ++ [i0]).length (((st.2.map (fun e:St × Nat=>e.2)) ++ [i0]).flatMap cN):=by
           have h:=hrow6
           rw [show ((st.2.map (fun e:St × Nat=>e.2)) ++ [i0]).length=st.2.length+1 by simp] at h ⊢
           exact h
          obtain ⟨w7,hw7⟩:∃ w7,w7=w6.setCell ⟨wc.heap.size,4,none⟩ (.slice (some ⟨g6,0,none⟩) (st.2.length+1) cp6):=⟨_,rfl⟩
          have hbk7:Blk w7 wc.heap.size 69 #[.int .i64 (x:Int),.int .i64 (s:Int),.int .i64 0,(.slice (some ⟨g2,0,none⟩) (st.2.length+1) cp2),(.slice (some ⟨g6,0,none⟩) (st.2.length+1) cp6)]:=by
           have h:=hbk6.set_ 4 (.slice (some ⟨g6,0,none⟩) (st.2.length+1) cp6)
           rw [<- hw7] at h
           simpa using h
          have hs6:w4.heap.size<=w6.heap.size:=by have:=hgr6.size;simp at this;omega
          have hs7:w6.heap.size=w7.heap.size:=by rw [hw7];simp [World.setCell]
          have g7:∀ b,b < w4.heap.size->(Value.slice At nt ct).ownBlock ≠ some b->b ≠ wc.heap.size->w7.heap[b]?=w4.heap[b]?:=fun b hb hn hne=>by
           rw [hw7];exact (Below.heap_setCell w6 ⟨wc.heap.size,4,none⟩ _ b hne).trans ((hgr6.block b (by simp;omega) (fun e=>hn e.symm)).trans (Below.heap_alloc w4 _ b hb))
          have hg6:g6 ≠ wc.heap.size:=by
           rcases hat6 with h | ⟨g',h,h'⟩
           · have:=htvl g6 h.symm;omega
           · simp [Value.ownBlock] at h;omega
          have hsv7:w7.ownsRow w1.heap.size 74 2 (.slice (some ⟨g2,0,none⟩) (st.2.length+1) cp2) ((st.2.map (fun e:St × Nat=>e.1)) ++ [(sid,sinv)]).length (((st.2.map (fun e:St × Nat=>e.1)) ++ [(sid,sinv)]).flatMap cSt) :=
           ownsRow_block HSV4.out (fun b hb=>g7 b (HSV4.out.lt b hb).2 (own_ne HSV4.out HTV4.out tySI hb) (by
            have:g2=b:=by simpa [Value.ownBlock] using hb
            have:=HG2.out.2;omega))
          have htv7:w7.ownsRow w1.heap.size 3 1 (.slice (some ⟨g6,0,none⟩) (st.2.length+1) cp6) ((st.2.map (fun e:St × Nat=>e.2)) ++ [i0]).length (((st.2.map (fun e:St × Nat=>e.2)) ++ [i0]).flatMap cN) :=
           ownsRow_block hrow6' (fun b hb=>by
            have:g6=b:=by simpa [Value.ownBlock] using hb
            rw [hw7];exact Below.heap_setCell w6 ⟨wc.heap.size,4,none⟩ _ b (by rw [<- this];exact hg6))
          have hbl7:Below w1.heap.size wc w7:=by
           rw [hw7]
           exact (((HBL4.out.alloc (by omega) _).grown hgr6 (by simp;omega) (fun b hb=>(htvl b hb).1)).setCell (by simp only;omega) _)
          have hglH:gl < w1.heap.size:=by omega
          have hgap:∀ b,b < w1.heap.size->b < wc.heap.size->w7.heap[b]?=wc.heap[b]?:=fun b hb _=>hbl7.block b hb
          obtain ⟨hrow7,-⟩:=HLRY.out.rowTurn hglH hgap
          have hrv7:RowV w1.heap.size w7.heap.size w7 ⟨x,s,0,(.slice (some ⟨g2,0,none⟩) (st.2.length+1) cp2),(.slice (some ⟨g6,0,none⟩) (st.2.length+1) cp6)⟩ (st.2 ++ [((sid,sinv),i0)]):=by
           refine ⟨⟨?_,fun b hb=>(hsv7.lt b hb).2⟩,⟨?_,fun b hb=>(htv7.lt b hb).2⟩⟩
           · rw [List.map_append];exact hsv7
           · rw [List.map_append];exact htv7
          have hput:=HLRY.out.put (z:=⟨x,s,0,(.slice (some ⟨g2,0,none⟩) (st.2.length+1) cp2),(.slice (some ⟨g6,0,none⟩) (st.2.length+1) cp6)⟩) hglH hgap HK.out rfl rfl rfl hrv7
          have hnx7:=ownsRow_block HROY.out (w':=w7) (fun b hb=>by
           have e:gy=b:=by simpa [Value.ownBlock] using hb
           subst e
           exact (g7 gy (by omega) hntv (by omega)).trans ((HG4.out gy (by omega) hnsv (by omega)).trans (HBZ.out.block gy hgyl.2)))
          have hnx8:=ownsRow_block hnx7 (w':=put5 w7 gl (i * 5) ⟨x,s,0,(.slice (some ⟨g2,0,none⟩) (st.2.length+1) cp2),(.slice (some ⟨g6,0,none⟩) (st.2.length+1) cp6)⟩) (fun b hb=>by
           have e:gy=b:=by simpa [Value.ownBlock] using hb
           exact put5_block _ _ _ _ b (by omega))
          have hon8:=(only_past HONY.out hbl7 (show W0.heap.size<=w1.heap.size by omega)).trans (put5_only w7 gl (i * 5) ⟨x,s,0,(.slice (some ⟨g2,0,none⟩) (st.2.length+1) cp2),(.slice (some ⟨g6,0,none⟩) (st.2.length+1) cp6)⟩)
          have how7:=HOWY.out.below hbl7 (Nat.le_refl _)
          have how8:=how7.blocks (w':=put5 w7 gl (i * 5) ⟨x,s,0,(.slice (some ⟨g2,0,none⟩) (st.2.length+1) cp2),(.slice (some ⟨g6,0,none⟩) (st.2.length+1) cp6)⟩) (fun b hb=>put5_block _ _ _ _ b (fun e=>by
           subst e
           exact own_ne how7.1 hrow7 (Ne.symm tyZS) hb rfl))
          have hs8:=put5_size w7 gl (i * 5) ⟨x,s,0,(.slice (some ⟨g2,0,none⟩) (st.2.length+1) cp2),(.slice (some ⟨g6,0,none⟩) (st.2.length+1) cp6)⟩
          have hs8':w1.heap.size<=(put5 w7 gl (i * 5) ⟨x,s,0,(.slice (some ⟨g2,0,none⟩) (st.2.length+1) cp2),(.slice (some ⟨g6,0,none⟩) (st.2.length+1) cp6)⟩).heap.size:=by omega
          have d0:w7.cell? ⟨gl,i * 5,none⟩=some (.int .i64 (x:Int)):=(World.cell?_of_block (a:=⟨gl,i * 5,none⟩) (hgap gl hglH (by omega))).trans HD.out.1
          have d1:w7.cell? ⟨gl,i * 5+1,none⟩=some (.int .i64 (s:Int)):=(World.cell?_of_block (a:=⟨gl,i * 5+1,none⟩) (hgap gl hglH (by omega))).trans HD.out.2.1
          have d2:w7.cell? ⟨gl,i * 5+2,none⟩=some (.int .i64 0):=(World.cell?_of_block (a:=⟨gl,i * 5+2,none⟩) (hgap gl hglH (by omega))).trans HD.out.2.2.1
          have d3:w7.cell? ⟨gl,i * 5+3,none⟩=some (.slice As ns cs):=(World.cell?_of_block (a:=⟨gl,i * 5+3,none⟩) (hgap gl hglH (by omega))).trans HD.out.2.2.2.1
          have d4:w7.cell? ⟨gl,i * 5+4,none⟩=some (.slice At nt ct):=(World.cell?_of_block (a:=⟨gl,i * 5+4,none⟩) (hgap gl hglH (by omega))).trans HD.out.2.2.2.2
          have f0:=World.ownsRow.frozenAt hrow7 (i * 5)
          have f1:=World.ownsRow.frozenAt hrow7 (i * 5+1)
          have f2:=World.ownsRow.frozenAt hrow7 (i * 5+2)
          have f3:=World.ownsRow.frozenAt hrow7 (i * 5+3)
          have f4:=World.ownsRow.frozenAt hrow7 (i * 5+4)
          have c0:w7.cell? ⟨wc.heap.size,0,none⟩=some (.int .i64 (x:Int)):=hbk7.cell 0
          have c1':w7.cell? ⟨wc.heap.size,1,none⟩=some (.int .i64 (s:Int)):=hbk7.cell 1
          have c2':w7.cell? ⟨wc.heap.size,2,none⟩=some (.int .i64 0):=hbk7.cell 2
          have c3':w7.cell? ⟨wc.heap.size,3,none⟩=some (.slice (some ⟨g2,0,none⟩) (st.2.length+1) cp2):=hbk7.cell 3
          have c4':w7.cell? ⟨wc.heap.size,4,none⟩=some (.slice (some ⟨g6,0,none⟩) (st.2.length+1) cp6):=hbk7.cell 4
          have lgl7:gl < w7.heap.size:=by omega
          have lbx7:=hbk7.lt
          have HPUT:=Hd_ hput
          have HNX8:=Hd_ hnx8
          have HON8:=Hd_ hon8
          have HOW8:=Hd_ how8
          have hii2:(i:Int) < (N.length:Int):=by omega
          rw [<- hw7]
          clear hw7 hbk7 g7 hg6 hsv7 htv7 hbl7 hgap hrow7 hrv7 hput hnx7 hnx8 hon8 how7 how8 hbk6 b46 f46 l46 hrow6 hrow6' hb6' hat6 hgr6 hsvl htvl hstv hnsv hntv HSVL b4 l4 hs8
          go_wp2_with fail
          rw [show ((((w7.setCell ⟨gl,i * 5,none⟩ (.int .i64 (x:Int))).setCell ⟨gl,i * 5+1,none⟩ (.int .i64 (s:Int))).setCell ⟨gl,i * 5+2,none⟩ (.int .i64 0)).setCell ⟨gl,i * 5+3,none⟩ (.slice (some ⟨g2,0,none⟩) (st.2.length+1) cp2)).setCell ⟨gl,i * 5+4,none⟩ (.slice (some ⟨g6,0,none⟩) (st.2.length+1) cp6)=put5 w7 gl (i * 5) ⟨x,s,0,(.slice (some ⟨g2,0,none⟩) (st.2.length+1) cp2),(.slice (some ⟨g6,0,none⟩) (st.2.length+1) cp6)⟩ from rfl]
          go_roundw
          case rel=>exact ⟨k+1,gy,cy,_,by omega,by go_num,by rw [HE.out],by rw [HE.out];exact HNX8.out,by rw [HE.out];exact HPUT.out,HON8.out,HOW8.out,hs8'⟩
          case measure=>simp [intOf];omega
     · obtain rfl:k=nA:=by omega
       rw [HNA.out,rowTk_all] at hrow hlr' ⊢
       have hLV:=hlr'.done (T':=fun j=>(layTo g a N (i+1)).2.getD j []) (by omega) hsz1 (fun j hj hjn=>by
        rcases Nat.lt_or_ge j i with h | h
        · exact HTA.out j h
        · rw [HTP.out j h,layTo_past g a N (by omega) (by omega)]) HTN.out
       have HRO:=Hd_ (show wr.ownsRow W0.heap.size 69 5 (.slice (some ⟨gm,0,none⟩) (layTo g a N (i+1)).1.length cm) (layTo g a N (i+1)).1.length (((layTo g a N (i+1)).1.map rawZ).flatMap cZ) by rw [HNS.out];exact hrow)
       have HLV:=Hd_ hLV
       have HRW:=Hd_ (show ∀ j k,i+1<=j->N[j]?=some k->zs'[j]?=some (rawZ k) from fun j k hj hk=>hlr'.raw j k (by omega) hk)
       have HNS1:=Hd_ (show (rowL g a (layTo g a N i).1 x s).1=(layTo g a N (i+1)).1 by rw [HNS.out])
       clear hLV hrow hlr' hown
       rw [HNS1.out]
       have hlk2:¬ ((arcsOf g (x:Int)).length:Int) < ((arcsOf g (x:Int)).length:Int):=by omega
       go_wp2_with fail
       go_roundw
       case rel=>exact ⟨i+1,gm,cm,zs',by omega,by go_num,rfl,HRO.out,HLV.out,HRW.out,hon⟩
       case measure=>simp [intOf];omega
  · obtain rfl:i=N.length:=by omega
    have hgn:=(hrow.lt gn rfl).1
    have HROW:=Hd_ (ownsRow_mono hrow (show w.heap.size<=W0.heap.size by omega))
    have HLAY:=Hd_ (hlay.mono (show w.heap.size<=W0.heap.size by omega) (Nat.le_refl _))
    have HON:=Hd_ ((Only.of_below HB0.out gl (gl+1)).trans hon)
    clear hrow hlay hraw hon
    go_wp2_with fail
    go_ret
    exact ⟨gn,cn,zs,rfl,by omega,HROW.out,HLAY.out,HON.out⟩
end Go.Proofs.YtcnenpjaoalmeaaGreat
namespace Go.Proofs.YtcnenpjaoalmeaaGreat
open Go.ChangeShapes Go.WideShapes Go.ChangeAt Go.RowKit
theorem dist_chain {next:Nat->List Nat} {goal:Nat->Prop} {N:Nat} (hn:∀ i k,i < N->k ∈ next i->k < N):∀ (d i:Nat),i < N->toG next goal d i->(∀ m,m < d->¬ toG next goal m i) ->
 ∃ L:List Nat,L.length=d+1/\(∀ v ∈ L,v < N)/\(∀ e v,L[e]?=some v->toG next goal (d - e) v/\∀ m,m < d - e->¬ toG next goal m v)
 | 0,i,hi,hg,hm=>⟨[i],rfl,fun v hv=>by rw [List.mem_singleton] at hv;subst hv;exact hi,fun e v he=>by
  cases e with
  | zero=>simp only [List.getElem?_cons_zero,Option.some.injEq] at he;subst he;exact ⟨hg,hm⟩
  | succ e=>simp at he⟩
 | d+1,i,hi,hg,hm=>by
   obtain ⟨k,hk,hg2⟩:=hg
   obtain ⟨L,h1,h2,h3⟩:=dist_chain hn d k (hn i k hi hk) hg2 (fun m hmd hgm=>hm (m+1) (by omega) ⟨k,hk,hgm⟩)
   refine ⟨i :: L,by simp [h1],fun v hv=>?_,fun e v he=>?_⟩
   · rcases List.mem_cons.1 hv with rfl | hv
     · exact hi
     · exact h2 v hv
   · cases e with
     | zero=>simp only [List.getElem?_cons_zero,Option.some.injEq] at he;subst he;exact ⟨⟨k,hk,hg2⟩,hm⟩
     | succ e =>
       simp only [List.getElem?_cons_succ] at he
       have:=h3 e v he
       rwa [show d+1 - (e+1)=d - e by omega]
theorem nodup_le:∀ {L:List Nat} {N:Nat},L.Nodup->(∀ v ∈ L,v < N)->L.length<=N:=by
 intro L N h1 h2
 have:=nodup_subN L (List.range N) h1 (fun v hv=>List.mem_range.2 (h2 v hv))
 simpa using this
theorem dist_lt {next:Nat->List Nat} {goal:Nat->Prop} {N i:Nat} {d:Int} (hn:∀ i k,i < N->k ∈ next i->k < N) (hi:i < N) (h:IsDist next goal i d):d < (N:Int):=by
 rcases h with ⟨rfl,_⟩ | ⟨h0,h1,h2⟩
 · omega
 · obtain ⟨L,e1,e2,e3⟩:=dist_chain hn d.toNat i hi h1 h2
   have hnd:L.Nodup:=by
    rw [List.Nodup,List.pairwise_iff_getElem]
    intro p q hp hq hpq he
    have f1:=e3 p L[p] (List.getElem?_eq_getElem hp)
    have f2:=e3 q L[q] (List.getElem?_eq_getElem hq)
    rw [<- he] at f2
    exact f1.2 _ (by omega) f2.1
   have:=nodup_le hnd e2
   omega
theorem shortLen_dist {g:Gr} {a:Au} {x y:Nat} (hg:grOk g=true) (ha:auOk a=true) (hx:x < g.vals.length) (hy:y < g.vals.length) :
 IsDist (nextI g a) (fun i=>i ∈ goalsL g a y) (x * a.accept.length+a.start.toNat) (shortLen g a (x:Int) (y:Int)):=by
 have hd:(wi (y:Int) 0 ((g.vals.length:Int) - 1) && (grOk g && auOk a))=true:=by
  simp only [Bool.and_eq_true]
  exact ⟨by rw [wi_iff];omega,hg,ha⟩
 have hN:∀ i k,i < g.vals.length * a.accept.length->k ∈ nextI g a i->k < g.vals.length * a.accept.length:=fun i k _ hk=>nextV_lt (grOk_iff.1 hg) ha hk
 have hfs:∀ i ∈ goalsL g a y,i < g.vals.length * a.accept.length:=fun i hi=>by
  obtain ⟨s,hs,_,rfl⟩:=mem_goalsL.1 hi
  calc y * a.accept.length+s < y * a.accept.length+a.accept.length:=by omega
   _=(y+1) * a.accept.length:=by rw [Nat.add_mul,Nat.one_mul]
   _<=_:=Nat.mul_le_mul_right _ hy
 obtain ⟨⟨_,hn⟩,⟨h0,h1⟩,-,-⟩:=auOk_iff.1 ha
 have hi:x * a.accept.length+a.start.toNat < g.vals.length * a.accept.length:=by
  calc x * a.accept.length+a.start.toNat < x * a.accept.length+a.accept.length:=by omega
   _=(x+1) * a.accept.length:=by rw [Nat.add_mul,Nat.one_mul]
   _<=_:=Nat.mul_le_mul_right _ hx
 rw [shortLen,if_pos (by rw [Bool.and_eq_true];exact ⟨by rw [wi_iff];omega,hd⟩),distTo,if_pos hd,Int.toNat_natCast,Int.toNat_natCast]
 exact spread_dist hfs hN _ hi
theorem shortLen_ok {g:Gr} {a:Au} {x y:Int} (h:0<=shortLen g a x y):cntOk g a x y=true:=by
 rcases hc:cntOk g a x y with _ | _
 · have:shortLen g a x y=-1:=by
    rw [shortLen,if_neg]
    rw [cntOk] at hc
    rw [hc];simp
   omega
 · rfl
theorem cntOk_iff {g:Gr} {a:Au} {x y:Int}:cntOk g a x y=true ↔ (0<=x/\x < (g.vals.length:Int))/\(0<=y/\y < (g.vals.length:Int))/\grOk g=true/\auOk a=true:=by
 rw [cntOk]
 simp only [Bool.and_eq_true,wi_iff]
 constructor
 · rintro ⟨h1,h2,h3,h4⟩;exact ⟨by omega,by omega,h3,h4⟩
 · rintro ⟨h1,h2,h3,h4⟩;exact ⟨by omega,by omega,h3,h4⟩
theorem shortLen_lt (g:Gr) (a:Au) (x y:Int):shortLen g a x y<=59:=by
 rcases Int.lt_or_le (shortLen g a x y) 0 with h | h
 · omega
 · obtain ⟨⟨hx0,hx1⟩,⟨hy0,hy1⟩,hg,ha⟩:=cntOk_iff.1 (shortLen_ok h)
   obtain ⟨x,rfl⟩:=Int.eq_ofNat_of_zero_le hx0
   obtain ⟨y,rfl⟩:=Int.eq_ofNat_of_zero_le hy0
   have hd:=shortLen_dist hg ha (show x < g.vals.length by omega) (show y < g.vals.length by omega)
   have hN:∀ i k,i < g.vals.length * a.accept.length->k ∈ nextI g a i->k < g.vals.length * a.accept.length:=fun i k _ hk=>nextV_lt (grOk_iff.1 hg) ha hk
   obtain ⟨⟨_,hn⟩,⟨h0,h1⟩,-,-⟩:=auOk_iff.1 ha
   have hi:x * a.accept.length+a.start.toNat < g.vals.length * a.accept.length:=by
    calc x * a.accept.length+a.start.toNat < x * a.accept.length+a.accept.length:=by omega
     _=(x+1) * a.accept.length:=by rw [Nat.add_mul,Nat.one_mul]
     _<=_:=Nat.mul_le_mul_right _ (by omega)
   have h5:=dist_lt hN hi hd
   have h6:g.vals.length * a.accept.length<=5 * 12:=Nat.mul_le_mul (grOk_iff.1 hg).n5 hn
   omega
def cwI (g:Gr) (a:Au) (x y:Int) (f:Nat):Nat:=cw g a y f x.toNat (bit a.start.toNat)
def nthI (g:Gr) (a:Au) (x y:Int) (f n:Nat):List St:=nthL g a y f x.toNat (bit a.start.toNat) n
def cntShort (g:Gr) (a:Au) (x y:Int):Int:=if shortLen g a x y < 0 then 0 else (cwI g a x y (shortLen g a x y).toNat:Nat)
def nthSh (g:Gr) (a:Au) (x y n:Int):Bool:=decide (0<=shortLen g a x y) && wi n 0 ((cwI g a x y (shortLen g a x y).toNat:Nat) - 1)
def nthShort (g:Gr) (a:Au) (x y n:Int):Wk × Bool:=if nthSh g a x y n=true then ((x,nthI g a x y (shortLen g a x y).toNat n.toNat),true) else ((0,[]),false)
theorem pick_some {α:Type} {k:α->Nat}:∀ {l:List α} {n n':Nat} {p:α},pick k l n=some (p,n')->p ∈ l/\n' < k p
 | [],n,n',p,h=>by cases h
 | q :: l,n,n',p,h=>by
   rw [pick] at h
   split at h
   · rename_i hn
     injection h with h
     injection h with h1 h2
     subst h1 h2
     exact ⟨List.mem_cons_self ..,hn⟩
   · have:=pick_some h
     exact ⟨List.mem_cons_of_mem _ this.1,this.2⟩
end Go.Proofs.YtcnenpjaoalmeaaGreat
