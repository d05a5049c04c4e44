/- Parts of the proof, joined into one text: ProdM, View, Bits, Rows2, Nest, HeldL, AppL, Cur, HelpInt, HelpEdge, HelpGraph, HelpBool, HelpSS, Keep, LawKit, Drw. -/
import Derived.Test.YteaplabkemoenaaGreatOnlzGFGPLLBC
import Derived.Laws.BitsAll
import Derived.IntWalk
import Derived.Deep.RegionHeld3
import Derived.Deep.AppendLies
import Derived.Deep.Cut
import Derived.Deep.RegionHeld
set_option linter.unusedVariables false
set_option linter.unusedSimpArgs false
namespace Go.Proofs.YteaplabkemoenaaGreat
def mem (n m:Nat):List Nat:=(List.range n).filter m.testBit
theorem mem_succ (n m:Nat):mem (n+1) m=mem n m ++ (if m.testBit n=true then [n] else []):=by
 unfold mem
 rw [List.range_succ,List.filter_append]
 congr 1
 cases h:m.testBit n <;> simp [h]
theorem mem_yes {n m:Nat} (h:m.testBit n=true):mem (n+1) m=mem n m ++ [n]:=by rw [mem_succ,if_pos h]
theorem mem_no {n m:Nat} (h:m.testBit n=false):mem (n+1) m=mem n m:=by rw [mem_succ,if_neg (by simp [h]),List.append_nil]
theorem mem_mem {n m t:Nat}:t ∈ mem n m ↔ t < n/\m.testBit t=true:=by simp [mem]
theorem mem_stop {i n m:Nat} (h:m < 2 ^ i) (hn:i<=n):mem n m=mem i m:=by
 induction n with
 | zero =>
   have:i=0:=by omega
   subst this;rfl
 | succ n ih =>
   by_cases h1:i<=n
   · rw [mem_no (Nat.testBit_lt_two_pow (Nat.lt_of_lt_of_le h (Nat.pow_le_pow_right (by omega) h1))),ih h1]
   · have:i=n+1:=by omega
     subst this;rfl
theorem mem_len (n m:Nat):(mem n m).length<=n:=by
 have:=List.length_filter_le m.testBit (List.range n)
 rw [List.length_range] at this
 exact this
/-- {s}, and m with s put in: plain names, so that a walk leaves them alone -/
def bit (s:Nat):Nat:=2 ^ s
def ins (m s:Nat):Nat:=m ||| 2 ^ s
theorem bit_test (s t:Nat):(bit s).testBit t=decide (s=t):=by rw [bit,Nat.testBit_two_pow]
theorem ins_test (m s t:Nat):(ins m s).testBit t=(m.testBit t || decide (s=t)):=by rw [ins,Nat.testBit_or,Nat.testBit_two_pow]
theorem bit_lt {n s:Nat} (h:s < n):bit s < 2 ^ n:=Nat.pow_lt_pow_right (by omega) h
theorem mem_pow_ge {n s:Nat} (h:n<=s):mem n (bit s)=[]:=by
 induction n with
 | zero=>rfl
 | succ n ih=>rw [mem_no (by rw [bit_test];simp;omega),ih (by omega)]
theorem mem_pow {n s:Nat} (h:s < n):mem n (bit s)=[s]:=by
 induction n with
 | zero=>omega
 | succ n ih =>
   by_cases hs:s=n
   · subst hs
     rw [mem_yes (by rw [bit_test];simp),mem_pow_ge (Nat.le_refl _)];rfl
   · rw [mem_no (by rw [bit_test];simp;omega),ih (by omega)]
theorem mem_or_ge {n m t:Nat} (h:n<=t):mem n (ins m t)=mem n m:=by
 unfold mem
 apply List.filter_congr
 intro x hx
 have:=List.mem_range.1 hx
 rw [ins_test]
 have h2:¬ t=x:=by omega
 simp [h2]
theorem cnt_or {n m t:Nat} (ht:t < n) (hm:m.testBit t=false):(mem n (ins m t)).length=(mem n m).length+1:=by
 induction n with
 | zero=>omega
 | succ n ih =>
   by_cases h:t=n
   · subst h
     rw [mem_yes (by rw [ins_test];simp),mem_no hm,mem_or_ge (Nat.le_refl _)]
     simp
   · have:=ih (by omega)
     have hb:(ins m t).testBit n=m.testBit n:=by
      rw [ins_test]
      simp [h]
     cases hn:m.testBit n with
     | false=>rw [mem_no (by rw [hb,hn]),mem_no hn,this]
     | true=>rw [mem_yes (by rw [hb,hn]),mem_yes hn,List.length_append,List.length_append,this];rfl
theorem ins_lt {n m t:Nat} (hm:m < 2 ^ n) (ht:t < n):ins m t < 2 ^ n:=Nat.or_lt_two_pow hm (Nat.pow_lt_pow_right (by omega) ht)
theorem foldl_inv {α β:Type} {P:α->Prop} {f:α->β->α} (h:∀ m x,P m->P (f m x)):∀ (l:List β) (m:α),P m->P (l.foldl f m)
 | [],_,hm=>hm
 | x :: l,m,hm=>foldl_inv h l (f m x) (h m x hm)
theorem foldl_take {α β:Type} {f:α->β->α} {xs:List β} {i:Nat} {x:β} (h:xs[i]?=some x) (z:α):(xs.take (i+1)).foldl f z=f ((xs.take i).foldl f z) x:=by
 rw [take_snoc h,List.foldl_append];rfl
def mv (a:Au) (s l:Nat):Int:=(a.next.getD s []).getD l (-1)
theorem mv_of {a:Au} {s l:Nat} {row:List Int} {t:Int} (hr:a.next[s]?=some row) (ht:row[l]?=some t):mv a s l=t:=by
 simp [mv,List.getD,hr,ht]
theorem mv_lt {a:Au} (h:auOk a=true) (s l:Nat):-1<=mv a s l/\mv a s l<=(a.accept.length:Int) - 1:=by
 obtain ⟨⟨h1,_⟩,_,_,hr⟩:=auOk_iff.1 h
 unfold mv
 cases hs:a.next[s]? with
 | none=>simp [List.getD,hs];omega
 | some row =>
   obtain ⟨hrow,_⟩:=rowOk_iff.1 (hr row (List.mem_of_getElem? hs))
   cases ht:row[l]? with
   | none=>simp [List.getD,hs,ht];omega
   | some t =>
     simp only [List.getD,hs,ht,Option.getD_some]
     exact hrow t (List.mem_of_getElem? ht)
/-- what the loop 'while s is a state that is not in the set' gathers -/
def clsF (a:Au) (l:Nat):Nat->Int->Nat->Nat
 | 0,_,m=>m
 | f+1,s,m=>if 0<=s/\m.testBit s.toNat=false then clsF a l f (mv a s.toNat l) (ins m s.toNat) else m
def cls (a:Au) (v s:Nat):Nat:=clsF a (6+v) 13 s 0
theorem clsF_lt {a:Au} (h:auOk a=true) (l:Nat):∀ (f:Nat) (s:Int) (m:Nat),s < (a.accept.length:Int)->m < 2 ^ a.accept.length->clsF a l f s m < 2 ^ a.accept.length:=by
 intro f
 induction f with
 | zero=>intro s m _ hm;exact hm
 | succ f ih =>
   intro s m hs hm
   rw [clsF]
   split
   · rename_i hc
     exact ih _ _ (by have:=(mv_lt h s.toNat l).2;omega) (ins_lt hm (by omega))
   · exact hm
theorem cls_lt {a:Au} (h:auOk a=true) (v s:Nat) (hs:s < a.accept.length):cls a v s < 2 ^ a.accept.length:=clsF_lt h _ _ _ _ (by omega) (Nat.two_pow_pos _)
theorem clsF_stop {a:Au} {l:Nat} {f:Nat} {s:Int} {m:Nat} (h:s < 0 ∨ m.testBit s.toNat=true):clsF a l f s m=m:=by
 cases f with
 | zero=>rfl
 | succ f =>
   rw [clsF,if_neg]
   rintro ⟨h1,h2⟩
   rcases h with h | h
   · omega
   · rw [h] at h2;cases h2
theorem clsF_go {a:Au} {l:Nat} {f s:Nat} {m:Nat} (h:m.testBit s=false):clsF a l (f+1) s m=clsF a l f (mv a s l) (ins m s):=by
 rw [clsF,if_pos ⟨by omega,by simpa using h⟩]
 simp
def aft1 (a:Au) (l:Nat) (m t:Nat):Nat:=if 0<=mv a t l then ins m (mv a t l).toNat else m
def aftS (a:Au) (v l:Nat) (m s:Nat):Nat:=(mem 12 (cls a v s)).foldl (aft1 a l) m
def aft (a:Au) (set v l:Nat):Nat:=(mem 12 set).foldl (aftS a v l) 0
theorem aft1_lt {a:Au} (h:auOk a=true) (l m t:Nat) (hm:m < 2 ^ a.accept.length):aft1 a l m t < 2 ^ a.accept.length:=by
 unfold aft1
 split
 · have:=(mv_lt h t l).2
   exact ins_lt hm (by omega)
 · exact hm
theorem aftS_lt {a:Au} (h:auOk a=true) (v l m s:Nat) (hm:m < 2 ^ a.accept.length):aftS a v l m s < 2 ^ a.accept.length :=
 foldl_inv (P:=fun m=>m < 2 ^ a.accept.length) (fun m x hm=>aft1_lt h l m x hm) _ _ hm
theorem aft_lt {a:Au} (h:auOk a=true) (set v l:Nat):aft a set v l < 2 ^ a.accept.length :=
 foldl_inv (P:=fun m=>m < 2 ^ a.accept.length) (fun m x hm=>aftS_lt h v l m x hm) _ _ (Nat.two_pow_pos _)
theorem lt12 {a:Au} (h:auOk a=true) {m:Nat} (hm:m < 2 ^ a.accept.length):m < 4096:=by
 have h1:a.accept.length<=12:=(auOk_iff.1 h).1.2
 exact Nat.lt_of_lt_of_le hm (Nat.pow_le_pow_right (by omega) h1:2 ^ a.accept.length<=2 ^ 12)
theorem mem12 {a:Au} (h:auOk a=true) {m:Nat} (hm:m < 2 ^ a.accept.length):mem 12 m=mem a.accept.length m:=mem_stop hm (auOk_iff.1 h).1.2
theorem aft_one {a:Au} (v l:Nat) {s:Nat} (hs:s < 12):aft a (bit s) v l=(mem 12 (cls a v s)).foldl (aft1 a l) 0:=by
 rw [aft,mem_pow hs];rfl
def accC (a:Au) (v s:Nat):Bool:=(mem 12 (cls a v s)).any fun t=>a.accept.getD t false
def acc (a:Au) (set v:Nat):Bool:=(mem 12 set).any (accC a v)
theorem acc_one (a:Au) (v:Nat) {s:Nat} (hs:s < 12):acc a (bit s) v=accC a v s:=by rw [acc,mem_pow hs];simp
abbrev Arc:=St × Int × Int
def arcE (x:Int) (e:Ed):List Arc:=(if e.2.1=x then [((e.1,false),2 * e.2.2.2,e.2.2.1)] else []) ++ (if e.2.2.1=x then [((e.1,true),2 * e.2.2.2+1,e.2.1)] else [])
def arcsOf (g:Gr) (x:Int):List Arc:=g.edges.flatMap (arcE x)
theorem flat_take {α β:Type} {f:α->List β} {xs:List α} {i:Nat} {x:α} (h:xs[i]?=some x):(xs.take (i+1)).flatMap f=(xs.take i).flatMap f ++ f x:=by
 rw [take_snoc h,List.flatMap_append];simp
theorem mem_arcE {x:Int} {e:Ed} {y:Arc}:y ∈ arcE x e ↔ (e.2.1=x/\y=((e.1,false),2 * e.2.2.2,e.2.2.1)) ∨ (e.2.2.1=x/\y=((e.1,true),2 * e.2.2.2+1,e.2.1)):=by
 unfold arcE
 rw [List.mem_append]
 by_cases h1:e.2.1=x <;> by_cases h2:e.2.2.1=x <;> simp [h1,h2]
theorem ids_lt {g:Gr} (hg:GrOk g):∀ (k i:Nat) (p e:Ed),g.edges[i]?=some p->g.edges[i+1+k]?=some e->p.1 < e.1:=by
 intro k
 induction k with
 | zero=>intro i p e hp he;exact hg.asc i p e hp he
 | succ k ih =>
   intro i p e hp he
   have hlt:=(List.getElem?_eq_some_iff.1 he).1
   have hq:g.edges[i+1+k]?=some g.edges[i+1+k]:=List.getElem?_eq_getElem (by omega)
   exact Int.lt_trans (ih i p _ hp hq) (hg.asc _ _ _ hq he)
theorem edgeIdx_at {g:Gr} (hg:GrOk g) {i:Nat} {e:Ed} (he:g.edges[i]?=some e):edgeIdx g e.1=i:=by
 refine edgeIdx_some he rfl fun y hy hye=>?_
 obtain ⟨j,hj,hjy⟩:=List.getElem_of_mem hy
 rw [List.length_take] at hj
 rw [List.getElem_take] at hjy
 have hj':g.edges[j]?=some y:=by rw [<- hjy];exact List.getElem?_eq_getElem (by omega)
 have:=ids_lt hg (i - j - 1) j y e hj' (by rw [show j+1+(i - j - 1)=i by omega];exact he)
 omega
def arcLetter (b:Bool) (e:Ed):Int:=if b then 2 * e.2.2.2+1 else 2 * e.2.2.2
def arcTo (b:Bool) (e:Ed):Int:=if b then e.2.1 else e.2.2.1
theorem arc_edge {g:Gr} (hg:GrOk g) {x:Int} {y:Arc} (hy:y ∈ arcsOf g x) :
 ∃ (i:Nat) (e:Ed),edgeIdx g y.1.1=i/\g.edges[i]?=some e/\y.2.1=arcLetter y.1.2 e/\y.2.2=arcTo y.1.2 e/\e.1=y.1.1/\e ∈ g.edges:=by
 obtain ⟨e,he,hye⟩:=List.mem_flatMap.1 hy
 obtain ⟨i,hi,hie⟩:=List.getElem_of_mem he
 have hi':g.edges[i]?=some e:=by rw [<- hie];exact List.getElem?_eq_getElem hi
 have hx:=edgeIdx_at hg hi'
 rcases mem_arcE.1 hye with ⟨_,rfl⟩ | ⟨_,rfl⟩
 · exact ⟨i,e,hx,hi',rfl,rfl,rfl,he⟩
 · exact ⟨i,e,hx,hi',rfl,rfl,rfl,he⟩
theorem arc_range {g:Gr} (hg:GrOk g) {x:Int} {y:Arc} (hy:y ∈ arcsOf g x):(0<=y.2.1/\y.2.1<=5)/\0<=y.2.2/\y.2.2<=(g.vals.length:Int) - 1:=by
 obtain ⟨i,e,_,_,h1,h2,_,he⟩:=arc_edge hg hy
 obtain ⟨_,h3,h4,h5⟩:=hg.edges e he
 rw [h1,h2]
 unfold arcLetter arcTo
 split <;> omega
theorem arcE_len (x:Int) (e:Ed):(arcE x e).length<=2:=by
 unfold arcE
 rw [List.length_append]
 split <;> split <;> simp
theorem flat_len {α β:Type} {f:α->List β} {k:Nat} (h:∀ x,(f x).length<=k):∀ xs:List α,(xs.flatMap f).length<=xs.length * k
 | []=>by simp
 | x :: xs=>by
   have:=flat_len h xs
   rw [List.flatMap_cons,List.length_append,List.length_cons,Nat.succ_mul]
   have:=h x
   omega
theorem arcs_len {g:Gr} (hg:GrOk g) (x:Int):(arcsOf g x).length<=24:=by
 have:=flat_len (arcE_len x) g.edges
 have:=hg.e12
 unfold arcsOf
 omega
def valAt (g:Gr) (x:Nat):Nat:=(g.vals.getD x 0).toNat
theorem valAt_of {g:Gr} {x:Nat} {v:Int} (h:g.vals[x]?=some v):valAt g x=v.toNat:=by simp [valAt,List.getD,h]
/-- the vertices behind vertex (x, s) by one arc -/
def nextA (g:Gr) (a:Au) (x s:Nat) (y:Arc):List Nat:=(mem 12 (aft a (bit s) (valAt g x) y.2.1.toNat)).map fun t=>y.2.2.toNat * a.accept.length+t
def nextV (g:Gr) (a:Au) (x s:Nat):List Nat:=(arcsOf g (x:Int)).flatMap (nextA g a x s)
def nextI (g:Gr) (a:Au) (i:Nat):List Nat:=nextV g a (i / a.accept.length) (i % a.accept.length)
theorem nextV_lt {g:Gr} {a:Au} (hg:GrOk g) (ha:auOk a=true) {x s k:Nat} (h:k ∈ nextV g a x s):k < g.vals.length * a.accept.length:=by
 obtain ⟨y,hy,hk⟩:=List.mem_flatMap.1 h
 obtain ⟨t,ht,rfl⟩:=List.mem_map.1 hk
 have h1:=(arc_range hg hy).2
 have h2:=aft_lt ha (bit s) (valAt g x) y.2.1.toNat
 rw [mem12 ha h2,mem_mem] at ht
 have h3:y.2.2.toNat+1<=g.vals.length:=by omega
 have h4:=Nat.mul_le_mul_right a.accept.length h3
 rw [Nat.succ_mul] at h4
 omega
theorem nextV_len {g:Gr} {a:Au} (hg:GrOk g) (x s:Nat):(nextV g a x s).length<=288:=by
 have h1:∀ y,(nextA g a x s y).length<=12:=fun y=>by rw [nextA,List.length_map];exact mem_len _ _
 have h2:=flat_len h1 (arcsOf g (x:Int))
 have h3:=arcs_len hg (x:Int)
 unfold nextV
 omega
def relax (d:Int):List Nat->List Int->List Nat->List Int × List Nat
 | [],D,q=>(D,q)
 | k :: l,D,q=>if D.getD k 0 < 0 then relax d l (D.set k d) (q ++ [k]) else relax d l D q
def bfs (next:Nat->List Nat):Nat->List Int->List Nat->List Int
 | 0,D,_=>D
 | _+1,D,[]=>D
 | f+1,D,h :: q=>bfs next f (relax (D.getD h 0+1) (next h) D q).1 (relax (D.getD h 0+1) (next h) D q).2
def negs (D:List Int):Nat:=D.countP (fun x=>decide (x < 0))
theorem negs_set {D:List Int} {k:Nat} {d:Int} (hk:k < D.length) (hn:D.getD k 0 < 0) (hd:0<=d):negs (D.set k d)+1=negs D:=by
 induction D generalizing k with
 | nil=>simp at hk
 | cons x D ih =>
   cases k with
   | zero =>
     simp only [List.getD_cons_zero] at hn
     have:¬ d < 0:=by omega
     simp [negs,List.countP_cons,hn,this]
   | succ k =>
     have:=ih (k:=k) (by simpa using hk) (by simpa using hn)
     simp only [negs,List.set_cons_succ,List.countP_cons] at this ⊢
     omega
/-- what holds of distances D and a queue q, with f rounds left of F -/
structure BfsI (N F f:Nat) (D:List Int) (q:List Nat):Prop where
 len:D.length=N
 queue:∀ h ∈ q,h < N/\0<=D.getD h 0
 fuel:q.length+negs D<=f
 top:∀ h,D.getD h 0+(f:Int)<=F
 low:∀ h,-1<=D.getD h 0
 fF:f<=F
theorem getD_set' {D:List Int} {k h:Nat} {d:Int} (hk:k < D.length):(D.set k d).getD h 0=if h=k then d else D.getD h 0:=by
 simp only [List.getD,List.getElem?_set]
 by_cases hh:h=k
 · subst hh;simp [hk]
 · simp [hh,Ne.symm hh]
theorem BfsI.new {N F f:Nat} {D:List Int} {q:List Nat} {k:Nat} {d:Int} (h:BfsI N F f D q) (hk:k < N) (hn:D.getD k 0 < 0) (hd:0<=d) (hdF:d+(f:Int)<=F):BfsI N F f (D.set k d) (q ++ [k]):=by
 have hkl:k < D.length:=by rw [h.len];exact hk
 refine ⟨by rw [List.length_set];exact h.len,fun x hx=>?_,?_,fun x=>?_,fun x=>?_,h.fF⟩
 · rw [getD_set' hkl]
   rcases List.mem_append.1 hx with hx | hx
   · have:=h.queue x hx
     split
     · exact ⟨this.1,hd⟩
     · exact this
   · have:x=k:=by simpa using hx
     subst this
     simp [hk,hd]
 · have:=negs_set hkl hn hd
   have:=h.fuel
   rw [List.length_append,List.length_singleton]
   omega
 · rw [getD_set' hkl]
   have:=h.top x
   split <;> omega
 · rw [getD_set' hkl]
   have:=h.low x
   split <;> omega
theorem BfsI.pop {N F f:Nat} {D:List Int} {q:List Nat} {k:Nat} (h:BfsI N F (f+1) D (k :: q)):BfsI N F f D q :=
 ⟨h.len,fun x hx=>h.queue x (List.mem_cons_of_mem _ hx),by have:=h.fuel;rw [List.length_cons] at this;omega,fun x=>by have:=h.top x;omega,h.low,by have:=h.fF;omega⟩
theorem bfs_nil (next:Nat->List Nat) (f:Nat) (D:List Int):bfs next f D []=D:=by cases f <;> rfl
theorem bfs_len (next:Nat->List Nat):∀ (f:Nat) (D:List Int) (q:List Nat),(bfs next f D q).length=D.length:=by
 have hr:∀ (d:Int) (l:List Nat) (D:List Int) (q:List Nat),(relax d l D q).1.length=D.length:=by
  intro d l
  induction l with
  | nil=>intro D q;rfl
  | cons k l ih =>
    intro D q
    rw [relax]
    split
    · rw [ih,List.length_set]
    · exact ih _ _
 intro f
 induction f with
 | zero=>intro D q;rfl
 | succ f ih =>
   intro D q
   cases q with
   | nil=>rfl
   | cons h q=>rw [bfs,ih,hr]
end Go.Proofs.YteaplabkemoenaaGreat
namespace Go.Proofs.YteaplabkemoenaaGreat
open Go.ChangeShapes Go.WideShapes Go.ChangeAt Go.RowKit
theorem bcell {w w':World} (hb:Below w.heap.size w w') {b o:Nat} {v:Value} (h:w.cell? ⟨b,o,none⟩=some v) (hl:b < w.heap.size):w'.cell? ⟨b,o,none⟩=some v:=(hb.cell (p:=⟨b,o,none⟩) hl).trans h
/-- slice value v, of n elements, at A with capacity c; element i (k cells E x) lies in a block below H -/
structure SlC {α:Type} (H:Nat) (w:World) (E:α->List Value) (k:Nat) (A:Option Addr) (xs:List α):Prop where
 at_:∀ i x,xs[i]?=some x->∃ b o,A=some ⟨b,o,none⟩/\b < H/\∀ j u,(E x)[j]?=some u->w.cell? ⟨b,o+i * k+j,none⟩=some u
theorem SlE.form {α:Type} {w:World} {E:α->List Value} {k:Nat} {v:Value} {xs:List α} (h:SlE w E k v xs) :
 ∃ A c,v=.slice A xs.length c/\xs.length<=c/\c<=9223372036854775807/\SlC w.heap.size w E k A xs:=by
 obtain ⟨A,c,rfl,h1,h2,h3⟩:=h
 exact ⟨A,c,rfl,h1,by simpa [maxLen] using h2,⟨fun i x hx=>by obtain ⟨b,o,e,_,g,h⟩:=h3 i x hx;exact ⟨b,o,e,g,h⟩⟩⟩
theorem SlC.keep {α:Type} {w w':World} {E:α->List Value} {k:Nat} {A:Option Addr} {xs:List α} (h:SlC w.heap.size w E k A xs) (hb:Below w.heap.size w w'):SlC w'.heap.size w' E k A xs :=
 ⟨fun i x hx=>by obtain ⟨b,o,e,g,h⟩:=h.at_ i x hx;exact ⟨b,o,e,Nat.lt_of_lt_of_le g hb.size,fun j u hu=>(hb.cell (p:=⟨_,_,none⟩) g).trans (h j u hu)⟩⟩
/-- an int, a bool: one cell -/
theorem SlC.int {H:Nat} {w:World} {A:Option Addr} {xs:List Int} (h:SlC H w cI 1 A xs) {i:Nat} {x:Int} (hx:xs[i]?=some x):∃ b o,A=some ⟨b,o,none⟩/\b < H/\w.cell? ⟨b,o+i,none⟩=some (.int .i64 x):=by
 obtain ⟨b,o,e,g,h⟩:=h.at_ i x hx
 exact ⟨b,o,e,g,by simpa using h 0 _ rfl⟩
theorem SlC.bool {H:Nat} {w:World} {A:Option Addr} {xs:List Bool} (h:SlC H w cB 1 A xs) {i:Nat} {x:Bool} (hx:xs[i]?=some x):∃ b o,A=some ⟨b,o,none⟩/\b < H/\w.cell? ⟨b,o+i,none⟩=some (.bool x):=by
 obtain ⟨b,o,e,g,h⟩:=h.at_ i x hx
 exact ⟨b,o,e,g,by simpa using h 0 _ rfl⟩
theorem SlC.val {H:Nat} {w:World} {A:Option Addr} {xs:List Value} (h:SlC H w cV 1 A xs) {i:Nat} {x:Value} (hx:xs[i]?=some x):∃ b o,A=some ⟨b,o,none⟩/\b < H/\w.cell? ⟨b,o+i,none⟩=some x:=by
 obtain ⟨b,o,e,g,h⟩:=h.at_ i x hx
 exact ⟨b,o,e,g,by simpa using h 0 _ rfl⟩
theorem SlC.ed {H:Nat} {w:World} {A:Option Addr} {xs:List Ed} (h:SlC H w cEd 4 A xs) {i:Nat} {e:Ed} (hx:xs[i]?=some e) :
 ∃ b o,A=some ⟨b,o,none⟩/\b < H/\w.cell? ⟨b,o+i * 4,none⟩=some (.int .i64 e.1)/\w.cell? ⟨b,o+i * 4+1,none⟩=some (.int .i64 e.2.1)/\w.cell? ⟨b,o+i * 4+2,none⟩=some (.int .i64 e.2.2.1)/\w.cell? ⟨b,o+i * 4+3,none⟩=some (.int .i64 e.2.2.2):=by
 obtain ⟨b,o,e,g,h⟩:=h.at_ i e hx
 exact ⟨b,o,e,g,by simpa using h 0 _ rfl,h 1 _ rfl,h 2 _ rfl,h 3 _ rfl⟩
theorem SlC.st {H:Nat} {w:World} {A:Option Addr} {xs:List St} (h:SlC H w cSt 2 A xs) {i:Nat} {e:St} (hx:xs[i]?=some e) :
 ∃ b o,A=some ⟨b,o,none⟩/\b < H/\w.cell? ⟨b,o+i * 2,none⟩=some (.int .i64 e.1)/\w.cell? ⟨b,o+i * 2+1,none⟩=some (.bool e.2):=by
 obtain ⟨b,o,e,g,h⟩:=h.at_ i e hx
 exact ⟨b,o,e,g,by simpa using h 0 _ rfl,h 1 _ rfl⟩
/-- a valid automaton: the rows lie at A2, each of nine cells -/
structure AuC (w:World) (A1 A2:Option Addr) (a:Au):Prop where
 acc:SlC w.heap.size w cB 1 A1 a.accept
 row:∀ i,i < a.accept.length->∃ b o b3 o3 c3,A2=some ⟨b,o,none⟩/\b < w.heap.size/\w.cell? ⟨b,o+i,none⟩=some (.slice (some ⟨b3,o3,none⟩) 9 c3)/\9<=c3/\c3<=9223372036854775807/\b3 < w.heap.size/\∀ l,l < 9->w.cell? ⟨b3,o3+l,none⟩=some (.int .i64 (mv a i l))
theorem AuV.form {w:World} {v:Value} {a:Au} (h:AuV 0 w.heap.size w v a) (hok:auOk a=true) :
 ∃ A1 c1 A2 c2,v=.agg #[.int .i64 a.start,.slice A1 a.accept.length c1,.slice A2 a.accept.length c2]/\a.accept.length<=c1/\c1<=9223372036854775807/\a.accept.length<=c2/\c2<=9223372036854775807/\AuC w A1 A2 a:=by
 obtain ⟨⟨-,-⟩,-,hnl,hrk⟩:=auOk_iff.1 hok
 obtain ⟨ac,nx,rfl,h1,us,h2,hul,hrows⟩:=h
 obtain ⟨A1,c1,rfl,h3,h4,h5⟩:=SlE.form h1
 obtain ⟨A2,c2,rfl,h6,h7,h8⟩:=SlE.form h2
 rw [hul,hnl] at h6 ⊢
 refine ⟨A1,c1,A2,c2,rfl,h3,h4,h6,h7,h5,fun i hi=>?_⟩
 have hin:i < a.next.length:=by omega
 have hiu:i < us.length:=by omega
 have hxi:a.next[i]?=some a.next[i]:=List.getElem?_eq_getElem hin
 obtain ⟨b,o,rfl,hb,hc⟩:=h8.val (List.getElem?_eq_getElem hiu)
 have hrl:=(rowOk_iff.1 (hrk _ (List.getElem_mem hin))).2
 obtain ⟨A3,c3,hv3,h9,h10,h11⟩:=SlE.form (hrows i us[i] _ (List.getElem?_eq_getElem hiu) hxi)
 rw [hrl] at hv3 h9
 obtain ⟨b3,o3,rfl,hb3,-⟩:=h11.int (i:=0) (List.getElem?_eq_getElem (by omega))
 refine ⟨b,o,b3,o3,c3,rfl,hb,by rw [hc,hv3],h9,h10,hb3,fun l hl=>?_⟩
 have hti:a.next[i][l]?=some a.next[i][l]:=List.getElem?_eq_getElem (by omega)
 obtain ⟨b4,o4,he,hb4,hc4⟩:=h11.int hti
 simp only [Option.some.injEq,Addr.mk.injEq,and_true] at he
 obtain ⟨rfl,rfl⟩:=he
 rw [hc4,mv_of hxi hti]
theorem AuC.keep {w w':World} {A1 A2:Option Addr} {a:Au} (h:AuC w A1 A2 a) (hb:Below w.heap.size w w'):AuC w' A1 A2 a:=by
 refine ⟨h.acc.keep hb,fun i hi=>?_⟩
 obtain ⟨b,o,b3,o3,c3,e,h1,h2,h3,h4,h5,h6⟩:=h.row i hi
 exact ⟨b,o,b3,o3,c3,e,Nat.lt_of_lt_of_le h1 hb.size,(hb.cell (p:=⟨_,_,none⟩) h1).trans h2,h3,h4,Nat.lt_of_lt_of_le h5 hb.size,fun l hl=>(hb.cell (p:=⟨_,_,none⟩) h5).trans (h6 l hl)⟩
/-- a graph: values at A1, edges at A2 -/
theorem GrV.form {w:World} {v:Value} {g:Gr} (h:GrV 0 w.heap.size w v g) :
 ∃ A1 c1 A2 c2,v=.agg #[.slice A1 g.vals.length c1,.slice A2 g.edges.length c2]/\g.vals.length<=c1/\c1<=9223372036854775807/\g.edges.length<=c2/\c2<=9223372036854775807/\SlC w.heap.size w cI 1 A1 g.vals/\SlC w.heap.size w cEd 4 A2 g.edges:=by
 obtain ⟨vs,es,rfl,h1,h2⟩:=h
 obtain ⟨A1,c1,rfl,h3,h4,h5⟩:=SlE.form h1
 obtain ⟨A2,c2,rfl,h6,h7,h8⟩:=SlE.form h2
 exact ⟨A1,c1,A2,c2,rfl,h3,h4,h6,h7,h5,h8⟩
theorem WkV.form {w:World} {v:Value} {k:Wk} (h:WkV 0 w.heap.size w v k) :
 ∃ A1 c1,v=.agg #[.int .i64 k.1,.slice A1 k.2.length c1]/\k.2.length<=c1/\c1<=9223372036854775807/\SlC w.heap.size w cSt 2 A1 k.2:=by
 obtain ⟨ss,rfl,h1⟩:=h
 obtain ⟨A1,c1,rfl,h3,h4,h5⟩:=SlE.form h1
 exact ⟨A1,c1,rfl,h3,h4,h5⟩
theorem wrap_small {n:Int} (h0:0<=n) (h1:n < 9223372036854775808):IntKind.i64.wrap n=n:=by rw [IntKind.wrap_i64];omega
theorem wrap64_small {n:Int} (h0:0<=n) (h1:n < 9223372036854775808):wrap64 n=n:=IntWalk.wrap64_in n ⟨by omega,by omega⟩
theorem i64_and_nat (a b:Nat) (ha:a < 2 ^ 62) (hb:b < 2 ^ 62):bits .and .i64 (a:Int) (b:Int)=((a &&& b:Nat):Int) :=
 (bits_nat .i64 62 (by decide) (fun n h0 h1=>wrap_small h0 (by omega)) a b ha hb).1
theorem i64_or_nat (a b:Nat) (ha:a < 2 ^ 62) (hb:b < 2 ^ 62):bits .or .i64 (a:Int) (b:Int)=((a ||| b:Nat):Int) :=
 (bits_nat .i64 62 (by decide) (fun n h0 h1=>wrap_small h0 (by omega)) a b ha hb).2
theorem shr_nat (m s:Nat) (_:s<=64):(m:Int) / 2 ^ s=((m / 2 ^ s:Nat):Int):=by
 simp
/-- 1 << s -/
theorem shl_bit {s:Nat} (hs:s < 62):wrap64 (2 ^ s)=(bit s:Int):=by
 have h1:(2:Int) ^ s=((2 ^ s:Nat):Int):=by simp
 have h2:2 ^ s < 2 ^ 62:=Nat.pow_lt_pow_right (by omega) hs
 rw [h1]
 show _=((2 ^ s:Nat):Int)
 generalize 2 ^ s=k at h2 ⊢
 exact wrap64_small (by omega) (by omega)
theorem shl_bit2 {s:Nat} (hs:s < 62):IntKind.i64.wrap (2 ^ s)=(bit s:Int):=by
 have h1:(2:Int) ^ s=((2 ^ s:Nat):Int):=by simp
 have h2:2 ^ s < 2 ^ 62:=Nat.pow_lt_pow_right (by omega) hs
 rw [h1]
 show _=((2 ^ s:Nat):Int)
 generalize 2 ^ s=k at h2 ⊢
 exact IntWalk.i64_in _ (by omega)
theorem shl_bit3 {s:Nat} (hs:s < 62):IntKind.i64.wrap (2 ^ min s 64)=(bit s:Int):=by rw [Nat.min_eq_left (by omega)];exact shl_bit2 hs
/-- m | 1 << s -/
theorem or_ins {m s:Nat} (hm:m < 2 ^ 62) (hs:s < 62):bits .or .i64 (m:Int) (bit s:Int)=(ins m s:Int) :=
 i64_or_nat m (bit s) hm (bit_lt hs)
/-- m >> s & 1 -/
theorem and_bit {m s:Nat} (hm:m < 2 ^ 62) (hs:s<=64):bits .and .i64 ((m:Int) / 2 ^ s) 1=if m.testBit s=true then 1 else 0:=by
 have h1:m / 2 ^ s < 2 ^ 62:=Nat.lt_of_le_of_lt (Nat.div_le_self _ _) hm
 rw [shr_nat m s hs,show (1:Int)=((1:Nat):Int) by rfl,i64_and_nat _ _ h1 (by decide),nat_mask1,Nat.testBit_eq_decide_div_mod_eq]
 have h2:=Nat.mod_two_eq_zero_or_one (m / 2 ^ s)
 rcases h2 with h2 | h2 <;> simp [h2]
theorem bit_on {m s:Nat} (hm:m < 2 ^ 62) (hs:s<=64) (h:m.testBit s=true):bits .and .i64 ((m:Int) / 2 ^ s) 1=1:=by rw [and_bit hm hs,if_pos h]
theorem bit_off {m s:Nat} (hm:m < 2 ^ 62) (hs:s<=64) (h:m.testBit s=false):bits .and .i64 ((m:Int) / 2 ^ s) 1=0:=by rw [and_bit hm hs,if_neg (by simp [h])]
/-- m >> i != 0 -/
theorem shr_on {m i:Nat} (hi:i<=64) (h:2 ^ i<=m):((m:Int) / 2 ^ i != 0)=true:=by
 rw [shr_nat m i hi]
 have:0 < m / 2 ^ i:=Nat.div_pos h (Nat.two_pow_pos _)
 simp only [bne_iff_ne,ne_eq];omega
theorem shr_off {m i:Nat} (hi:i<=64) (h:m < 2 ^ i):((m:Int) / 2 ^ i != 0)=false:=by
 rw [shr_nat m i hi,Nat.div_eq_of_lt h];rfl
/-- a natural number as one cell -/
def cN (x:Nat):List Value:=[.int .i64 (x:Int)]
theorem cN_len (x:Nat):(cN x).length=1:=rfl
theorem cN_one (x:Nat):∀ u ∈ cN x,u.oneCell'=true:=by intro u hu;simp only [cN,List.mem_cons,List.not_mem_nil,or_false] at hu;subst hu;rfl
theorem SlC.nat {H:Nat} {w:World} {A:Option Addr} {xs:List Nat} (h:SlC H w cN 1 A xs) {i:Nat} {x:Nat} (hx:xs[i]?=some x):∃ b o,A=some ⟨b,o,none⟩/\b < H/\w.cell? ⟨b,o+i,none⟩=some (.int .i64 (x:Int)):=by
 obtain ⟨b,o,e,g,h⟩:=h.at_ i x hx
 exact ⟨b,o,e,g,by simpa using h 0 _ rfl⟩
theorem Own.form {α:Type} {lo:Nat} {w:World} {e:TypeId} {E:α->List Value} {k:Nat} {v:Value} {xs:List α} (h:Own lo w.heap.size w e E k v xs) (hE:∀ x,(E x).length=k) :
 ∃ A c,v=.slice A xs.length c/\xs.length<=c/\c<=9223372036854775807/\SlC w.heap.size w E k A xs:=SlE.form ((h.sl hE).all (Nat.le_refl _))
section
variable {α:Type} {w w':World} {base:Nat} {oT rT e:TypeId} {E:α->List Value} {k:Nat} {g:Nat} {hs:List Value} {xss:List (List α)} {v:Value} {n:Nat} {cs:List Value}
theorem ownsRow_block (h:w.ownsRow base e k v n cs) (hb:∀ g,v.ownBlock=some g->w'.heap[g]?=w.heap[g]?):w'.ownsRow base e k v n cs:=by
 obtain ⟨hl,h⟩:=h
 refine ⟨hl,?_⟩
 rcases h with h | ⟨g,cap,cur,rfl,hg,hh,r⟩
 · exact .inl h
 · exact .inr ⟨g,cap,cur,rfl,hg,(hb g rfl).trans hh,r⟩
theorem ownsRow_mono (h:w.ownsRow base e k v n cs) {b:Nat} (hb:b<=base):w.ownsRow b e k v n cs:=by
 obtain ⟨hl,h⟩:=h
 refine ⟨hl,?_⟩
 rcases h with h | ⟨g,cap,cur,rfl,hg,r⟩
 · exact .inl h
 · exact .inr ⟨g,cap,cur,rfl,by omega,r⟩
structure Rws {α:Type} (w:World) (base:Nat) (oT rT:TypeId) (E:α->List Value) (k:Nat) (g:Nat) (hs:List Value) (xss:List (List α)):Prop where
 own:w.ownsRow g oT 1 (.slice (some ⟨g,0,none⟩) hs.length hs.length) hs.length hs
 len:hs.length=xss.length
 row:∀ (i:Nat) (h:Value) (xs:List α),hs[i]?=some h->xss[i]?=some xs->w.ownsRow base rT k h xs.length (xs.flatMap E)
 far:∀ (i:Nat) (h:Value),hs[i]?=some h->h.ownBlock ≠ some g
 apart:∀ (i j:Nat) (h h':Value),i ≠ j->hs[i]?=some h->hs[j]?=some h'->h.ownBlock=none ∨ h.ownBlock ≠ h'.ownBlock
theorem Rws.blocks (h:Rws w base oT rT E k g hs xss) (hb:∀ b,(b=g ∨ base<=b)->b < w.heap.size->w'.heap[b]?=w.heap[b]?):Rws w' base oT rT E k g hs xss:=by
 refine ⟨ownsRow_block h.own fun b hb'=>hb b (.inl (by simpa [Value.ownBlock] using hb'.symm)) (h.own.lt b hb').2,h.len,fun i v xs hi hx=>?_,h.far,h.apart⟩
 have:=h.row i v xs hi hx
 exact ownsRow_block this fun b hb'=>hb b (.inr (this.lt b hb').1) (this.lt b hb').2
theorem Rws.below (h:Rws w base oT rT E k g hs xss) (hb:Below w.heap.size w w'):Rws w' base oT rT E k g hs xss:=h.blocks fun b _ hlt=>hb.block b hlt
theorem Rws.gLt (h:Rws w base oT rT E k g hs xss):g<=g/\g < w.heap.size:=h.own.lt g rfl
theorem Rws.cell (h:Rws w base oT rT E k g hs xss) {i:Nat} {v:Value} (hi:hs[i]?=some v):w.cell? ⟨g,i,none⟩=some v :=
 (World.ownsRow.cellAt h.own i (by have:=(List.getElem?_eq_some_iff.1 hi).1;omega)).trans hi
theorem Rws.frozen (h:Rws w base oT rT E k g hs xss) (i:Nat):w.frozen? ⟨g,i,none⟩=false:=World.ownsRow.frozenAt h.own i
theorem Rws.made (h:w.ownsRow g oT 1 (.slice (some ⟨g,0,none⟩) n n) n ((List.replicate n (Value.slice none 0 0)).flatMap cV)):Rws w base oT rT E k g (List.replicate n (.slice none 0 0)) (List.replicate n ([]:List α)):=by
 have hf:∀ n,(List.replicate n (Value.slice none 0 0)).flatMap cV=List.replicate n (.slice none 0 0):=by
  intro n
  induction n with
  | zero=>rfl
  | succ n ih=>rw [List.replicate_succ,List.flatMap_cons,ih];rfl
 have hv:∀ {i:Nat} {h:Value},(List.replicate n (Value.slice none 0 0))[i]?=some h->h=.slice none 0 0:=by
  intro i h hi
  rw [List.getElem?_replicate] at hi
  split at hi
  · injection hi with hi;exact hi.symm
  · cases hi
 rw [hf] at h
 refine ⟨by simpa using h,by simp,fun i h xs hi hx=>?_,fun i h hi=>?_,fun i j h h' _ hi _=>.inl ?_⟩
 · have:=hv hi
   subst this
   have hx':xs=[]:=by
    rw [List.getElem?_replicate] at hx
    split at hx
    · injection hx with hx;exact hx.symm
    · cases hx
   subst hx'
   exact World.ownsRow_nil w base rT k
 · have:=hv hi
   subst this
   simp [Value.ownBlock]
 · have:=hv hi
   subst this
   rfl
/-- row i grows by x: the append law's words, then the store of the new header -/
theorem Rws.push (h:Rws w base oT rT E k g hs xss) {i:Nat} {hv:Value} {xs:List α} {x:α} {v':Value} {g2:Nat} (hi:hs[i]?=some hv) (hx:xss[i]?=some xs)
 (hown:w'.ownsRow base rT k v' (xs ++ [x]).length ((xs ++ [x]).flatMap E)) (hg:w.grownBy w' hv.ownBlock) (hv':v'.ownBlock=some g2) (hat:hv.ownBlock=some g2 ∨ w.heap.size<=g2) :
 Rws (w'.setCell ⟨g,i,none⟩ v') base oT rT E k g (hs.set i v') (xss.set i (xs ++ [x])):=by
 have hgl:=h.gLt
 have hil:=(List.getElem?_eq_some_iff.1 hi).1
 have hfar:=h.far i hv hi
 have hg2:g2 ≠ g:=by
  rcases hat with h1 | h1
  · intro e;subst e;exact hfar h1
  · omega
 have hset:∀ b,b ≠ g->(w'.setCell ⟨g,i,none⟩ v').heap[b]?=w'.heap[b]?:=fun b hb=>Below.heap_setCell _ _ _ _ hb
 have ho1:w'.ownsRow g oT 1 (.slice (some ⟨g,0,none⟩) hs.length hs.length) hs.length hs:=h.own.kept hg (.inr (by simpa [Value.ownBlock] using Ne.symm hfar))
 have ho2:=(World.ownsRow.stored ho1 i v').1
 refine ⟨by simpa using ho2,by simp [h.len],fun j u ys hj hy=>?_,fun j u hj=>?_,fun j l u u' hjl hj hl=>?_⟩
 · rw [List.getElem?_set] at hj hy
   by_cases e:i=j
   · subst e
     rw [if_pos rfl] at hj hy
     rw [if_pos hil] at hj
     rw [if_pos (by rw [<- h.len];exact hil)] at hy
     injection hj with hj
     injection hy with hy
     subst hj hy
     exact ownsRow_block hown fun b hb=>hset b (by rw [hv'] at hb;injection hb with hb;omega)
   · rw [if_neg e] at hj hy
     have hr:=h.row j u ys hj hy
     have hr2:w'.ownsRow base rT k u ys.length (ys.flatMap E):=hr.kept hg (h.apart j i u hv (Ne.symm e) hj hi)
     exact ownsRow_block hr2 fun b hb=>hset b (by intro e2;subst e2;exact h.far j u hj hb)
 · rw [List.getElem?_set] at hj
   by_cases e:i=j
   · subst e
     rw [if_pos rfl,if_pos hil] at hj
     injection hj with hj
     subst hj
     rw [hv']
     simpa using hg2
   · rw [if_neg e] at hj
     exact h.far j u hj
 · have hold:∀ (j:Nat) (u:Value),j ≠ i->hs[j]?=some u->u.ownBlock=none ∨ u.ownBlock ≠ some g2:=by
    intro j u hji hj
    rcases hat with h1 | h1
    · rcases h.apart j i u hv hji hj hi with h2 | h2
      · exact .inl h2
      · rw [h1] at h2;exact .inr h2
    · cases hu:u.ownBlock with
      | none=>exact .inl rfl
      | some b =>
        refine .inr ?_
        have hjl:=(List.getElem?_eq_some_iff.1 hj).1
        have hjx:j < xss.length:=by rw [<- h.len];exact hjl
        have hr:=h.row j u xss[j] hj (List.getElem?_eq_getElem hjx)
        have:=(hr.lt b hu).2
        simp only [ne_eq,Option.some.injEq]
        omega
   rw [List.getElem?_set] at hj hl
   by_cases e:i=j
   · subst e
     rw [if_neg hjl] at hl
     rw [if_pos rfl,if_pos hil] at hj
     injection hj with hj
     subst hj
     refine .inr ?_
     rw [hv']
     rcases hold l u' (Ne.symm hjl) hl with h1 | h1
     · rw [h1];simp
     · exact Ne.symm h1
   · rw [if_neg e] at hj
     by_cases e2:i=l
     · subst e2
       rw [if_pos rfl,if_pos hil] at hl
       injection hl with hl
       subst hl
       rw [hv']
       exact hold j u (Ne.symm e) hj
     · rw [if_neg e2] at hl
       exact h.apart j l u u' hjl hj hl
/-- a slice of slices of E's that is only read; its blocks lie from lo to hi -/
def SSE {α:Type} (lo hi:Nat) (w:World) (E:α->List Value) (k:Nat) (v:Value) (xss:List (List α)):Prop :=
 ∃ A c,v=.slice A xss.length c/\xss.length<=c/\c<=9223372036854775807 /\
   ∀ (i:Nat) (xs:List α),xss[i]?=some xs->∃ b o u,A=some ⟨b,o,none⟩/\lo<=b/\b < hi/\w.cell? ⟨b,o+i,none⟩=some u/\SlI lo hi w E k u xs
theorem SSE.keep_ {lo hi:Nat} {v:Value} (h:SSE lo hi w E k v xss) (hb:∀ b o,lo<=b->b < hi->w'.cell? ⟨b,o,none⟩=w.cell? ⟨b,o,none⟩):SSE lo hi w' E k v xss:=by
 obtain ⟨A,c,h1,h2,h3,h4⟩:=h
 refine ⟨A,c,h1,h2,h3,fun i xs hx=>?_⟩
 obtain ⟨b,o,u,g1,g2,g3,g4,g5⟩:=h4 i xs hx
 exact ⟨b,o,u,g1,g2,g3,(hb _ _ g2 g3).trans g4,g5.keep_ hb⟩
theorem SSE.below {lo hi:Nat} {v:Value} (h:SSE lo hi w E k v xss) {B:Nat} (hb:Below B w w') (hB:hi<=B):SSE lo hi w' E k v xss:=h.keep_ fun b o _ h2=>hb.cell (p:=⟨b,o,none⟩) (show b < B by omega)
theorem SSE.only {lo hi l r:Nat} {v:Value} (h:SSE lo hi w E k v xss) (hb:Only l r w w') (hh:hi<=w.heap.size) (ho:hi<=l ∨ r<=lo):SSE lo hi w' E k v xss :=
 h.keep_ fun b o h1 h2=>hb.cell (p:=⟨b,o,none⟩) (show b < _ by omega) (show b < l ∨ r<=b by omega)
theorem SSE.mono {lo hi lo' hi':Nat} {v:Value} (h:SSE lo hi w E k v xss) (h1:lo'<=lo) (h2:hi<=hi'):SSE lo' hi' w E k v xss:=by
 obtain ⟨A,c,e1,e2,e3,h4⟩:=h
 refine ⟨A,c,e1,e2,e3,fun i xs hx=>?_⟩
 obtain ⟨b,o,u,g1,g2,g3,g4,g5⟩:=h4 i xs hx
 exact ⟨b,o,u,g1,by omega,by omega,g4,g5.mono h1 h2⟩
theorem SSE.keep {v:Value} (h:SSE 0 w.heap.size w E k v xss) (hb:Below w.heap.size w w'):SSE 0 w'.heap.size w' E k v xss:=(h.below hb (Nat.le_refl _)).mono (Nat.le_refl _) hb.size
theorem SSE.shape {lo hi:Nat} {v:Value} (h:SSE lo hi w E k v xss):∃ A c,v=.slice A xss.length c/\xss.length<=c/\c<=9223372036854775807:=by
 obtain ⟨A,c,e1,e2,e3,_⟩:=h
 exact ⟨A,c,e1,e2,e3⟩
/-- row i, as a walk wants it -/
theorem SSE.row {lo hi:Nat} {A:Option Addr} {n c:Nat} (h:SSE lo hi w E k (.slice A n c) xss) (hh:hi<=w.heap.size) {i:Nat} {xs:List α} (hx:xss[i]?=some xs) :
 ∃ b o A3 c3,A=some ⟨b,o,none⟩/\lo<=b/\b < hi/\w.cell? ⟨b,o+i,none⟩=some (.slice A3 xs.length c3)/\xs.length<=c3/\c3<=9223372036854775807/\SlI lo hi w E k (.slice A3 xs.length c3) xs/\SlC w.heap.size w E k A3 xs:=by
 obtain ⟨A',c',e1,e2,e3,h4⟩:=h
 obtain ⟨b,o,u,g1,g2,g3,g4,g5⟩:=h4 i xs hx
 injection e1 with e1 _ _
 subst e1
 obtain ⟨A3,c3,rfl,f1,f2,f3⟩:=SlE.form (g5.all hh)
 exact ⟨b,o,A3,c3,g1,g2,g3,g4,f1,f2,g5,f3⟩
theorem Rws.sse (h:Rws w base oT rT E k g hs xss) (hE:∀ x,(E x).length=k) {lo:Nat} (h1:lo<=g) (h2:lo<=base):SSE lo w.heap.size w E k (.slice (some ⟨g,0,none⟩) hs.length hs.length) xss:=by
 have hgl:=h.gLt
 refine ⟨some ⟨g,0,none⟩,hs.length,by rw [h.len],by rw [h.len];exact Nat.le_refl _,?_,fun i xs hx=>?_⟩
 · obtain ⟨_,h1⟩:=h.own
   rcases h1 with ⟨h1,_⟩ | ⟨g',cap,cur,h1,_,_,h2,h3,_⟩
   · cases h1
   · unfold maxLen at h3
     omega
 · have hil:=(List.getElem?_eq_some_iff.1 hx).1
   have hih:i < hs.length:=by rw [h.len];exact hil
   have hi:hs[i]?=some hs[i]:=List.getElem?_eq_getElem hih
   have hr:Own base w.heap.size w rT E k hs[i] xs:=⟨h.row i _ xs hi hx,fun g hg=>((h.row i _ xs hi hx).lt g hg).2⟩
   exact ⟨g,0,hs[i],rfl,h1,hgl.2,by rw [Nat.zero_add,h.cell hi],(hr.sl hE).mono h2 (Nat.le_refl _)⟩
end
section
variable {P:Program} {w:World}
/-- append(s, x) at a step of a region that draws its order; the one element lies in block H -/
theorem step_append1 {α:Type} (E:α->List Value) {ops:Array Oper} {o:Oper} {a:Act} {K:Act->World->Prop} {Q:Exit->Act->World->Prop} {EE:Prop} {t e:TypeId} {z:Value} {k bytes:Nat} (el:ElemOk P t e z k bytes)
 (hgd:o.guard=none) (s y:Operand) (ho:o.op=.call { callee:=.builtin .append,args:=#[s,y],argTypes:=#[t,t] })
 (base:Nat) (v:Value) (xs:List α) (x:α) (c H:Nat) (hs:a.eval s=v) (hown:w.ownsRow base e k v xs.length (xs.flatMap E)) (hy:a.eval y=.slice (some ⟨H,0,none⟩) 1 c)
 (hH:w.heap[H]?=some (.cells (E x).toArray e (0,0))) (hE:(E x).length=k) (h1:∀ u ∈ E x,u.oneCell'=true) (hbytes:(xs.length+1) * bytes<=140737488355328) (hb0:0 < bytes) (hbase:base<=w.heap.size)
 (h:∀ g cap w',w'.ownsRow base e k (.slice (some ⟨g,0,none⟩) (xs.length+1) cap) (xs ++ [x]).length ((xs ++ [x]).flatMap E)->w.grownBy w' v.ownBlock->(v.ownBlock=some g ∨ w.heap.size<=g)->g < w'.heap.size ->
  K (a.put o.dst (.slice (some ⟨g,0,none⟩) (xs.length+1) cap)) w') :
 if Region.wanted o (yielded ops a.tmps)=true then Oper.wp P o a w K Q else EE:=by
 obtain ⟨i,hi,hz0,hz1,hz2⟩:=info_parts el.info
 have hlen:xs.length+1<=140737488355328:=Nat.le_trans (Nat.le_mul_of_pos_right _ hb0) hbytes
 refine step_append_lies w hgd s y t ho base e i z k bytes el.und hi hz0 hz1 hz2 el.zc el.pos v xs.length (xs.flatMap E) hs hown ⟨H,0,none⟩ 1 c (E x) hy (by rw [hE,Nat.one_mul])
  (by have:=World.news_of_block hH;simpa using this) h1 (by omega) (by unfold maxLen;omega) hbytes hbase w.heap.size rfl fun g cap w' h2 h3 h4 h5=>?_
 refine h g cap w' (by simpa using h2) h3 ?_ h5
 rcases h4 with h4 | h4
 · exact .inl h4
 · exact .inr (by omega)
end
theorem ocell {lo hi:Nat} {w w':World} (h:Only lo hi w w') {b o:Nat} {v:Value} (hc:w.cell? ⟨b,o,none⟩=some v) (hb:b < w.heap.size) (ho:b < lo ∨ hi<=b):w'.cell? ⟨b,o,none⟩=some v:=(h.cell (p:=⟨b,o,none⟩) hb ho).trans hc
theorem SlI.nat {lo hi:Nat} {w:World} {A:Option Addr} {n c:Nat} {xs:List Nat} (h:SlI lo hi w cN 1 (.slice A n c) xs) {i:Nat} {x:Nat} (hx:xs[i]?=some x) :
 ∃ b o,A=some ⟨b,o,none⟩/\lo<=b/\b < hi/\w.cell? ⟨b,o+i,none⟩=some (.int .i64 (x:Int)):=by
 obtain ⟨A',c',hv,_,_,h3⟩:=h
 injection hv with h1 _ _
 subst h1
 obtain ⟨b,o,e,g1,g2,hc⟩:=h3 i x hx
 exact ⟨b,o,e,g1,g2,by simpa using hc 0 _ rfl⟩
/-- an append to a row, then the store of its header: only that row's block and the header block have turned -/
theorem Only.pushed {lo hi g i:Nat} {a w w':World} {row:Option Nat} {u:Value} (h:Only lo hi a w) (hg:w.grownBy w' row) (hr:∀ b,row=some b->(lo<=b/\b < hi) ∨ a.heap.size<=b) (hgb:(lo<=g/\g < hi) ∨ a.heap.size<=g):Only lo hi a (w'.setCell ⟨g,i,none⟩ u) :=
 Only.setCell ⟨hg.os.trans h.os,hg.tape.trans h.tape,hg.output.trans h.output,Nat.le_trans h.size hg.size,fun n hn ho=>(hg.block n (Nat.lt_of_lt_of_le hn h.size) (fun e=>by have:=hr n e.symm;omega)).trans (h.block n hn ho)⟩ hgb _
theorem flatI_at {xs:List Int} {t:Nat} {x:Int} (h:xs[t]?=some x):(xs.flatMap cI)[t]?=some (.int .i64 x):=by
 have:=flat_at cI_len h 0 _ rfl
 simpa using this
theorem flatI_set (xs:List Int) (t:Nat) (x:Int):(xs.flatMap cI).set t (.int .i64 x)=(xs.set t x).flatMap cI:=by
 induction xs generalizing t with
 | nil=>simp
 | cons y xs ih =>
   cases t with
   | zero=>rfl
   | succ t =>
     have:=ih t
     simp only [List.set_cons_succ,List.flatMap_cons,cI,List.cons_append,List.nil_append] at this ⊢
     rw [this]
theorem getD_of {D:List Int} {k:Nat} (h:k < D.length):D[k]?=some (D.getD k 0):=by
 simp [List.getD,List.getElem?_eq_getElem h]
section
variable {H b o:Nat} {w:World}
end
theorem flatCV (l:List Value):l.flatMap cV=l:=by
 induction l with
 | nil=>rfl
 | cons x l ih=>rw [List.flatMap_cons,ih];rfl
/-- the blocks that slices hold -/
abbrev blks (us:List Value):List Nat:=us.filterMap Value.ownBlock
structure NS {α:Type} (lo:Nat) (w:World) (oT eT:TypeId) (E:α->List Value) (k:Nat) (v:Value) (us:List Value) (xss:List (List α)):Prop where
 own:w.ownsRow lo oT 1 v us.length (us.flatMap cV)
 len:us.length=xss.length
 rows:∀ (i:Nat) (u:Value) (xs:List α),us[i]?=some u->xss[i]?=some xs->w.ownsRow lo eT k u xs.length (xs.flatMap E)
 dis:(blks (v :: us)).Nodup
section
variable {α:Type} {lo:Nat} {w w':World} {oT eT:TypeId} {E:α->List Value} {k:Nat} {v:Value} {us:List Value} {xss:List (List α)}
theorem mem_blks {us:List Value} {b:Nat}:b ∈ blks us ↔ ∃ (i:Nat) (u:Value),us[i]?=some u/\u.ownBlock=some b:=by
 rw [List.mem_filterMap]
 constructor
 · rintro ⟨u,hu,hb⟩
   obtain ⟨i,hi⟩:=List.getElem?_of_mem hu
   exact ⟨i,u,hi,hb⟩
 · rintro ⟨i,u,hu,hb⟩
   exact ⟨u,List.mem_of_getElem? hu,hb⟩
theorem NS.lt (h:NS lo w oT eT E k v us xss):∀ b ∈ blks (v :: us),lo<=b/\b < w.heap.size:=by
 intro b hb
 obtain ⟨i,u,hu,hbu⟩:=mem_blks.1 hb
 cases i with
 | zero =>
   simp only [List.getElem?_cons_zero,Option.some.injEq] at hu
   subst hu
   exact h.own.lt b hbu
 | succ i =>
   rw [List.getElem?_cons_succ] at hu
   have hi:i < xss.length:=by rw [<- h.len];exact (List.getElem?_eq_some_iff.1 hu).1
   exact (h.rows i u _ hu (List.getElem?_eq_getElem hi)).lt b hbu
theorem NS.blocks (h:NS lo w oT eT E k v us xss) (hb:∀ b ∈ blks (v :: us),w'.heap[b]?=w.heap[b]?):NS lo w' oT eT E k v us xss :=
 ⟨ownsRow_block h.own fun g hg=>hb g (mem_blks.2 ⟨0,v,rfl,hg⟩),h.len,
  fun i u xs hu hx=>ownsRow_block (h.rows i u xs hu hx) fun g hg=>hb g (mem_blks.2 ⟨i+1,u,by simpa using hu,hg⟩),h.dis⟩
theorem NS.below (h:NS lo w oT eT E k v us xss) (hb:Below w.heap.size w w'):NS lo w' oT eT E k v us xss:=h.blocks fun b hm=>hb.block b (h.lt b hm).2
theorem NS.mono (h:NS lo w oT eT E k v us xss) {lo':Nat} (hl:lo'<=lo):NS lo' w oT eT E k v us xss :=
 ⟨ownsRow_mono h.own hl,h.len,fun i u xs hu hx=>ownsRow_mono (h.rows i u xs hu hx) hl,h.dis⟩
theorem NS.start (h:w.ownsRow lo oT 1 v 0 []):NS lo w oT eT E k v [] ([]:List (List α)) :=
 ⟨h,rfl,fun i u xs hu _=>by simp at hu,by cases hv:v.ownBlock <;> simp [hv]⟩
theorem NS.push (h:NS lo w oT eT E k v us xss) {u:Value} {xs:List α} (hu:w.ownsRow lo eT k u xs.length (xs.flatMap E)) (hn:∀ b,u.ownBlock=some b->b ∉ blks (v :: us))
 {v':Value} (hg:w.grownBy w' v.ownBlock) (hr:w'.ownsRow lo oT 1 v' (us ++ [u]).length ((us ++ [u]).flatMap cV)) (hat:∀ g,v'.ownBlock=some g->v.ownBlock=some g ∨ w.heap.size<=g) :
 NS lo w' oT eT E k v' (us ++ [u]) (xss ++ [xs]):=by
 have hdis:=h.dis
 have hkeep:∀ (u':Value) (n:Nat) (cs:List Value),w.ownsRow lo eT k u' n cs->(∀ b,u'.ownBlock=some b->v.ownBlock ≠ some b)->w'.ownsRow lo eT k u' n cs:=fun u' n cs ho hne=>by
  refine ho.kept hg ?_
  cases hb:u'.ownBlock with
  | none=>exact .inl rfl
  | some b=>exact .inr fun e=>hne b hb e.symm
 have hv0:∀ b,v.ownBlock=some b->b ∉ blks us:=fun b hb=>by
  rw [blks,List.filterMap_cons,hb] at hdis
  exact (List.nodup_cons.1 hdis).1
 refine ⟨hr,by simp [h.len],fun i u' xs' hi hx=>?_,?_⟩
 · rcases Nat.lt_or_ge i us.length with hlt | hge
   · rw [List.getElem?_append_left hlt] at hi
     rw [List.getElem?_append_left (by rw [<- h.len];exact hlt)] at hx
     exact hkeep _ _ _ (h.rows i u' xs' hi hx) fun b hb hvb=>hv0 b hvb (mem_blks.2 ⟨i,u',hi,hb⟩)
   · have hi2:=(List.getElem?_eq_some_iff.1 hi).1
     simp only [List.length_append,List.length_singleton] at hi2
     obtain rfl:i=us.length:=by omega
     have e1:u=u':=by simpa using hi
     have e2:xs=xs':=by rw [h.len] at hx;simpa using hx
     subst e1 e2
     exact hkeep _ _ _ hu fun b hb hvb=>hn b hb (mem_blks.2 ⟨0,v,rfl,hvb⟩)
 · have hlt:=h.lt
   have hus:(blks us).Nodup:=by
    cases hv:v.ownBlock with
    | none=>simpa [blks,List.filterMap_cons,hv] using hdis
    | some b=>rw [blks,List.filterMap_cons,hv] at hdis;exact (List.nodup_cons.1 hdis).2
   have hnu:∀ b,u.ownBlock=some b->b ∉ blks us:=fun b hb hm=>hn b hb (by
    obtain ⟨i,u',h1,h2⟩:=mem_blks.1 hm
    exact mem_blks.2 ⟨i+1,u',by simpa using h1,h2⟩)
   have hall:(blks (us ++ [u])).Nodup:=by
    rw [blks,List.filterMap_append]
    cases hub:u.ownBlock with
    | none=>simpa [List.filterMap_cons,hub] using hus
    | some b =>
      rw [List.filterMap_cons,hub]
      refine List.nodup_append.2 ⟨hus,by simp,?_⟩
      intro x hx y hy e
      simp only [List.filterMap_nil,List.mem_cons,List.not_mem_nil,or_false] at hy
      subst hy
      subst e
      exact hnu _ hub hx
   rw [blks,List.filterMap_cons]
   cases hv':v'.ownBlock with
   | none=>exact hall
   | some g =>
     refine List.nodup_cons.2 ⟨fun hm=>?_,hall⟩
     obtain ⟨i,u',hi,hb⟩:=mem_blks.1 hm
     rcases Nat.lt_or_ge i us.length with hl | hge
     · rw [List.getElem?_append_left hl] at hi
       rcases hat g hv' with h1 | h1
       · exact hv0 g h1 (mem_blks.2 ⟨i,u',hi,hb⟩)
       · have:=(hlt g (mem_blks.2 ⟨i+1,u',by simpa using hi,hb⟩)).2
         omega
     · have hi2:=(List.getElem?_eq_some_iff.1 hi).1
       simp only [List.length_append,List.length_singleton] at hi2
       obtain rfl:i=us.length:=by omega
       have e1:u=u':=by simpa using hi
       subst e1
       rcases hat g hv' with h1 | h1
       · exact hn g hb (mem_blks.2 ⟨0,v,rfl,h1⟩)
       · have:=(hu.lt g hb).2
         omega
theorem grown_alloc {o:Obj} {row:Option Nat} (h:(w.alloc o).grownBy w' row):w.grownBy w' row :=
 ⟨h.os,h.tape,h.output,Nat.le_trans (by simp) h.size,fun n hn hne=>(h.block n (by simp;omega) hne).trans (Below.heap_alloc w o n hn)⟩
/-- what is read of it: the header of row i, and the row -/
theorem NS.row (h:NS lo w oT eT E k v us xss) (hE:∀ x,(E x).length=k) {i:Nat} {xs:List α} (hx:xss[i]?=some xs) :
 ∃ g cap A c,v=.slice (some ⟨g,0,none⟩) xss.length cap/\us[i]?=some (.slice A xs.length c)/\g < w.heap.size/\w.cell? ⟨g,i,none⟩=some (.slice A xs.length c)/\xs.length<=c/\c<=maxLen/\SlI lo w.heap.size w E k (.slice A xs.length c) xs:=by
 have hi:i < us.length:=by rw [h.len];exact (List.getElem?_eq_some_iff.1 hx).1
 have hu:us[i]?=some us[i]:=List.getElem?_eq_getElem hi
 have hr:=h.rows i _ xs hu hx
 generalize us[i]=u at hu hr
 have hsl:=(Own.of_row (xs:=xs) hr rfl rfl).sl hE
 have hsl':=hsl
 obtain ⟨A,c,rfl,hl,hm,-⟩:=hsl'
 have hown:=h.own
 have hlt:=h.own.lt
 rw [flatCV] at hown
 have hown2:=hown
 obtain ⟨h1,h2⟩:=hown2
 rcases h2 with ⟨rfl,h3⟩ | ⟨g,cap,cur,rfl,r⟩
 · omega
 · refine ⟨g,cap,A,c,by rw [h.len],hu,(hlt g rfl).2,?_,hl,hm,hsl⟩
   rw [World.ownsRow.cellAt hown i (by omega)]
   exact hu
theorem NS.at (h:NS lo w oT eT E k v us xss) (hE:∀ x,(E x).length=k) {g n cap:Nat} (hv:v=.slice (some ⟨g,0,none⟩) n cap) {i:Nat} {xs:List α} (hx:xss[i]?=some xs) :
 ∃ A c,w.cell? ⟨g,i,none⟩=some (.slice A xs.length c)/\xs.length<=c/\c<=9223372036854775807/\SlI lo w.heap.size w E k (.slice A xs.length c) xs:=by
 obtain ⟨g',cap',A,c,hv',-,-,hc,h1,h2,h3⟩:=h.row hE hx
 rw [hv] at hv'
 injection hv' with e1 _ _
 injection e1 with e1
 injection e1 with e1
 subst e1
 exact ⟨A,c,hc,h1,h2,h3⟩
/-- a row that is not empty has a block of its own -/
theorem own_some {W:World} {base k n:Nat} {e:TypeId} {v:Value} {cs:List Value} (h:W.ownsRow base e k v n cs) (hn:n ≠ 0):∃ g c,v=.slice (some ⟨g,0,none⟩) n c/\base<=g/\g < W.heap.size/\n<=c/\c<=9223372036854775807:=by
 have hlt:=h.lt
 obtain ⟨h1,h2⟩:=h
 rcases h2 with ⟨rfl,h3⟩ | ⟨g,cap,cur,rfl,h4,h5,h6,h7,r⟩
 · exact absurd h3 hn
 · exact ⟨g,cap,rfl,h4,(hlt g rfl).2,h6,h7⟩
theorem NS.shape (h:NS lo w oT eT E k v us xss):∃ A c,v=.slice A xss.length c/\xss.length<=c/\c<=maxLen:=by
 obtain ⟨h1,h2⟩:=h.own
 rcases h2 with ⟨rfl,h3⟩ | ⟨g,cap,cur,rfl,h4,h5,h6,h7,r⟩
 · exact ⟨none,0,by rw [<- h.len,h3],by rw [<- h.len,h3];exact Nat.le_refl _,by unfold maxLen;omega⟩
 · exact ⟨_,cap,by rw [h.len],by rw [<- h.len];exact h6,h7⟩
end
end Go.Proofs.YteaplabkemoenaaGreat
namespace Go.Proofs.YteaplabkemoenaaGreat
open Go.RowKit
section
variable {P:Program} {ops:Array Oper} {Q:Exit->Act->World->Prop} {md:Region.Mode} {S:World->Prop} {n:Nat}
/-- whatever order is picked; S holds behind each operation below n -/
def wpAnyF (P:Program) (md:Region.Mode) (ops:Array Oper) (Q:Exit->Act->World->Prop) (S:World->Prop) (n:Nat):Nat->Array Bool->Act->World->Prop
 | 0,listed,a,w=>Region.ready md ops listed=[]/\Q .normal a w
 | f+1,listed,a,w=>(Region.ready md ops listed=[]->Q .normal a w) /\
   ∀ i ∈ Region.ready md ops listed,wpOp P ops Q i (fun a' w'=>(i < n->S w')/\wpAnyF P md ops Q S n f (listed.setIfInBounds i true) a' w') a w
theorem F_any:∀ (f:Nat) (listed:Array Bool) (a:Act) (w:World),wpAnyF P md ops Q S n f listed a w->wpAny P md ops Q f listed a w
 | 0,_,_,_,h=>h
 | f+1,_,_,_,h=>⟨h.1,fun i hi=>wpOp_mono (fun _ _ h'=>F_any f _ _ _ h'.2) (h.2 i hi)⟩
theorem F_first {i:Nat} {oi:Oper} {v:Value} (hi:ops[i]?=some oi) (hsel:∀ (j:Nat) (o:Oper) cs b,ops[j]?=some o->o.op ≠ .select cs b) (hQ:∀ c a w,Q (.panic c) (a.put oi.dst v) w->Q (.panic c) a w)
 (hs:Region.sinkB md ops n=true) (hc:Region.chainB md ops n=true) (hn:n < ops.size) (hin:i < n):∀ (f:Nat) (listed:Array Bool) (a:Act) (w:World),HeadInv md ops n listed ->
  (∀ j oj,ops[j]?=some oj->j ≠ i->listed.getD j true=false->(∀ e ∈ oj.after,Region.binds md e=true->e.on ≠ i)->oi.apart ops oj=true) ->
  i ∈ Region.ready md ops listed->YieldsIf P ops S oi v a->S w ->
  wpAnyF P md ops Q S n f (listed.setIfInBounds i true) (a.put oi.dst v) w->wpAnyF P md ops Q S n (f+1) listed a w:=by
 intro f
 induction f with
 | zero =>
   intro listed a w inv _ hr hy hS H
   have hun:=(mem_ready.1 hr).1
   refine ⟨fun h=>(by rw [h] at hr;cases hr),fun j hj=>?_⟩
   by_cases hji:j=i
   · subst hji;exact hy.wpOp hi hS ⟨fun _=>hS,H⟩
   · have:=ready_mono hj hji
     rw [H.1] at this
     cases this
 | succ f ih =>
   intro listed a w inv hfree hr hy hS H
   have hun:=(mem_ready.1 hr).1
   refine ⟨fun h=>(by rw [h] at hr;cases hr),fun j hj=>?_⟩
   have hjn:j < n:=by
    rcases Nat.lt_or_ge j n with h | h
    · exact h
    · exact absurd hj (tail_waits hs hc hn inv _ i rfl hin hun j h)
   by_cases hji:j=i
   · subst hji;exact hy.wpOp hi hS ⟨fun _=>hS,H⟩
   · have h1:=H.2 j (ready_mono hj hji)
     obtain ⟨hjun,oj,hoj,hall⟩:=mem_ready.1 hj
     have hnot:∀ e ∈ oj.after,Region.binds md e=true->e.on ≠ i:=fun e he hb heq=>by
      have h1:=hall e he hb
      rw [heq,getD_both hun] at h1
      cases h1
     have h2:=wpOp_putIf hoj (hfree j oj hoj hji hjun hnot) (fun cs b=>hsel i oi cs b hi) (fun cs b=>hsel j oj cs b hoj) hQ hy h1
     have hfree':∀ k ok,ops[k]?=some ok->k ≠ i->(listed.setIfInBounds j true).getD k true=false->(∀ e ∈ ok.after,Region.binds md e=true->e.on ≠ i)->oi.apart ops ok=true:=fun k ok hk hki hun hno=>by
      refine hfree k ok hk hki ?_ hno
      by_cases hjk:j=k
      · subst hjk;exact hjun
      · rw [getD_set_ne true hjk] at hun;exact hun
     refine wpOp_mono (fun a' w' h3=>⟨h3.2.1,ih (listed.setIfInBounds j true) a' w' (inv.set hj hjn) hfree' (ready_mono hr (Ne.symm hji)) h3.1 (h3.2.1 hjn) ?_⟩) h2
     rw [Array.setIfInBounds_comm _ _ hji]
     exact h3.2.2
theorem F_take {i:Nat} {oi:Oper} {v:Value} {f:Nat} {listed:Array Bool} {a:Act} {w:World} (hi:ops[i]?=some oi) (hB:(Region.noSelect ops && Region.sinkB md ops n && Region.chainB md ops n && decide (n < ops.size) && decide (i < n))=true)
 (hf:Region.free md ops listed i=true) (hr:(Region.ready md ops listed).contains i=true) (hQ:∀ c a w,Q (.panic c) (a.put oi.dst v) w->Q (.panic c) a w) (inv:HeadInv md ops n listed) (hy:YieldsIf P ops S oi v a) (hS:S w)
 (h:HeadInv md ops n (listed.setIfInBounds i true)->wpAnyF P md ops Q S n f (listed.setIfInBounds i true) (a.put oi.dst v) w):wpAnyF P md ops Q S n (f+1) listed a w:=by
 simp only [Bool.and_eq_true,decide_eq_true_eq] at hB
 obtain ⟨⟨⟨⟨h1,h2⟩,h3⟩,h4⟩,h5⟩:=hB
 have hr':i ∈ Region.ready md ops listed:=by simpa using hr
 exact F_first hi (Region.noSelect_spec h1) hQ h2 h3 h4 h5 f listed a w inv (Region.free_spec hi hf) hr' hy hS (h (inv.set hr' h5))
/-- the only one that may come up: an operation below n -/
theorem F_one {i:Nat} {oi:Oper} {f:Nat} {listed:Array Bool} {a:Act} {w:World} (hr:Region.ready md ops listed=[i]) (hi:ops[i]?=some oi) (hg:oi.guard=none) (hin:i < n) (inv:HeadInv md ops n listed)
 (h:∀ K:Act->World->Prop,Shut (∀ a' w',S w'->(S w'->HeadInv md ops n (listed.setIfInBounds i true)->wpAnyF P md ops Q S n f (listed.setIfInBounds i true) a' w')->K a' w')->Oper.wp P oi a w K Q):wpAnyF P md ops Q S n (f+1) listed a w:=by
 refine ⟨fun h0=>(by rw [hr] at h0;cases h0),fun j hj=>?_⟩
 have hj2:=hj
 rw [hr] at hj2
 obtain rfl:j=i:=by simpa using hj2
 have hw:Region.wanted oi (yielded ops a.tmps)=true:=by simp [Region.wanted,hg]
 unfold wpOp
 simp only [hi,hw,if_true]
 exact .inl (h _ (fun a' w' hS hF=>⟨fun _=>hS,hF hS (inv.set hj hin)⟩))
/-- the last one -/
theorem F_last {i:Nat} {oi:Oper} {f:Nat} {listed:Array Bool} {a:Act} {w:World} (hr:Region.ready md ops listed=[i]) (hi:ops[i]?=some oi) (hg:oi.guard=none) (hin:n<=i) (he:Region.ready md ops (listed.setIfInBounds i true)=[])
 (h:∀ K:Act->World->Prop,(∀ a' w',Q .normal a' w'->K a' w')->Oper.wp P oi a w K Q):wpAnyF P md ops Q S n (f+1) listed a w:=by
 refine ⟨fun h0=>(by rw [hr] at h0;cases h0),fun j hj=>?_⟩
 rw [hr] at hj
 obtain rfl:j=i:=by simpa using hj
 have hw:Region.wanted oi (yielded ops a.tmps)=true:=by simp [Region.wanted,hg]
 unfold wpOp
 simp only [hi,hw,if_true]
 refine .inl (h _ (fun a' w' hq=>⟨fun h=>absurd h (by omega),?_⟩))
 cases f with
 | zero=>exact ⟨he,hq⟩
 | succ f=>exact ⟨fun _=>hq,by rw [he];simp⟩
theorem F_tk (i:Nat) {oi:Oper} {v:Value} {f:Nat} {listed:Array Bool} {a:Act} {w:World} (inv:HeadInv md ops n listed)
 (h:HeadInv md ops n (listed.setIfInBounds i true)->wpAnyF P md ops Q S n f (listed.setIfInBounds i true) (a.put oi.dst v) w)
 (hi:ops[i]?=some oi:=by rfl) (hB:(Region.noSelect ops && Region.sinkB md ops n && Region.chainB md ops n && decide (n < ops.size) && decide (i < n))=true:=by kernel_rfl)
 (hf:Region.free md ops listed i=true:=by kernel_rfl) (hr:(Region.ready md ops listed).contains i=true:=by kernel_rfl) (hQ:∀ c a w,Q (.panic c) (a.put oi.dst v) w->Q (.panic c) a w:=by exact fun _ _ _ h=>h)
 (hw:Region.wanted oi (yielded ops a.tmps)=true:=by rfl) (hy:∀ w,S w->(execOp a.eval oi).run P w=.ok (.value v) w:=by (intro w hSw;(try dsimp only at hSw);go_simp;try with_reducible rfl)) (hS:S w:=by assumption):wpAnyF P md ops Q S n (f+1) listed a w :=
 F_take hi hB hf hr hQ inv (.inl ⟨hw,hy⟩) hS h
theorem F_sk (i:Nat) {oi:Oper} {f:Nat} {listed:Array Bool} {a:Act} {w:World} (inv:HeadInv md ops n listed)
 (h:HeadInv md ops n (listed.setIfInBounds i true)->wpAnyF P md ops Q S n f (listed.setIfInBounds i true) (a.put oi.dst undef) w)
 (hi:ops[i]?=some oi:=by rfl) (hB:(Region.noSelect ops && Region.sinkB md ops n && Region.chainB md ops n && decide (n < ops.size) && decide (i < n))=true:=by kernel_rfl)
 (hf:Region.free md ops listed i=true:=by kernel_rfl) (hr:(Region.ready md ops listed).contains i=true:=by kernel_rfl) (hQ:∀ c a w,Q (.panic c) (a.put oi.dst undef) w->Q (.panic c) a w:=by exact fun _ _ _ h=>h)
 (hw:Region.wanted oi (yielded ops a.tmps)=false:=by rfl) (hS:S w:=by assumption):wpAnyF P md ops Q S n (f+1) listed a w :=
 F_take hi hB hf hr hQ inv (.inr ⟨hw,rfl⟩) hS h
theorem tA {α:Type} {l:List α} {i:Nat} (h:i < l.toArray.size):l.toArray[i]=l[i]'(by simpa using h):=List.getElem_toArray h
theorem tB {α:Type} {a:α} {l:List α} (h:0 < (a :: l).length):(a :: l)[0]=a:=List.getElem_cons_zero a l h
theorem tC {α:Type} (a:α) (l:List α) (i:Nat) (h:i+1 < (a :: l).length):(a :: l)[i+1]=l[i]'(Nat.lt_of_succ_lt_succ h):=List.getElem_cons_succ a l i h
theorem tE {α:Type} (l:List α) (i:Nat) (a:α):l.toArray.setIfInBounds i a=(l.set i a).toArray:=List.setIfInBounds_toArray l i a
theorem tF {α:Type} {x:α} {xs:List α} {a:α}:(x :: xs).set 0 a=a :: xs:=List.set_cons_zero
theorem tG {α:Type} {x:α} {xs:List α} {n:Nat} {a:α}:(x :: xs).set (n+1) a=x :: xs.set n a:=List.set_cons_succ
theorem F_o1 (i:Nat) {oi:Oper} {f:Nat} {listed:Array Bool} {a:Act} {w:World} (inv:HeadInv md ops n listed)
 (h:∀ K:Act->World->Prop,Shut (∀ a' w',S w'->(S w'->HeadInv md ops n (listed.setIfInBounds i true)->wpAnyF P md ops Q S n f (listed.setIfInBounds i true) a' w')->K a' w')->Oper.wp P oi a w K Q)
 (hr:Region.ready md ops listed=[i]:=by kernel_rfl) (hi:ops[i]?=some oi:=by rfl) (hg:oi.guard=none:=by rfl) (hin:i < n:=by omega):wpAnyF P md ops Q S n (f+1) listed a w:=F_one hr hi hg hin inv h
theorem F_l1 (i:Nat) {oi:Oper} {f:Nat} {listed:Array Bool} {a:Act} {w:World}
 (h:∀ K:Act->World->Prop,(∀ a' w',Q .normal a' w'->K a' w')->Oper.wp P oi a w K Q)
 (hr:Region.ready md ops listed=[i]:=by kernel_rfl) (hi:ops[i]?=some oi:=by rfl) (hg:oi.guard=none:=by rfl) (hin:n<=i:=by omega) (he:Region.ready md ops (listed.setIfInBounds i true)=[]:=by kernel_rfl):wpAnyF P md ops Q S n (f+1) listed a w:=F_last hr hi hg hin he h
/-- two that may come up -/
theorem F_two {i j:Nat} {oi oj:Oper} {f:Nat} {listed:Array Bool} {a:Act} {w:World} (hr:Region.ready md ops listed=[i,j]) (hi:ops[i]?=some oi) (hj:ops[j]?=some oj) (hgi:oi.guard=none) (hgj:oj.guard=none) (hin:i < n/\j < n) (inv:HeadInv md ops n listed)
 (h1:∀ K:Act->World->Prop,Shut (∀ a' w',S w'->(S w'->HeadInv md ops n (listed.setIfInBounds i true)->wpAnyF P md ops Q S n f (listed.setIfInBounds i true) a' w')->K a' w')->Oper.wp P oi a w K Q)
 (h2:∀ K:Act->World->Prop,Shut (∀ a' w',S w'->(S w'->HeadInv md ops n (listed.setIfInBounds j true)->wpAnyF P md ops Q S n f (listed.setIfInBounds j true) a' w')->K a' w')->Oper.wp P oj a w K Q):wpAnyF P md ops Q S n (f+1) listed a w:=by
 refine ⟨fun h0=>(by rw [hr] at h0;cases h0),fun k hk=>?_⟩
 have hk2:=hk
 rw [hr] at hk2
 simp only [List.mem_cons,List.not_mem_nil,or_false] at hk2
 rcases hk2 with rfl | rfl
 · have hw:Region.wanted oi (yielded ops a.tmps)=true:=by simp [Region.wanted,hgi]
   unfold wpOp
   simp only [hi,hw,if_true]
   exact .inl (h1 _ (fun a' w' hS hF=>⟨fun _=>hS,hF hS (inv.set hk hin.1)⟩))
 · have hw:Region.wanted oj (yielded ops a.tmps)=true:=by simp [Region.wanted,hgj]
   unfold wpOp
   simp only [hj,hw,if_true]
   exact .inl (h2 _ (fun a' w' hS hF=>⟨fun _=>hS,hF hS (inv.set hk hin.2)⟩))
/-- one of the chain at the end, not the last -/
theorem F_tail {i:Nat} {oi:Oper} {f:Nat} {listed:Array Bool} {a:Act} {w:World} (hr:Region.ready md ops listed=[i]) (hi:ops[i]?=some oi) (hg:oi.guard=none) (hin:n<=i)
 (h:∀ K:Act->World->Prop,Shut (∀ a' w',wpAnyF P md ops Q S n f (listed.setIfInBounds i true) a' w'->K a' w')->Oper.wp P oi a w K Q):wpAnyF P md ops Q S n (f+1) listed a w:=by
 refine ⟨fun h0=>(by rw [hr] at h0;cases h0),fun j hj=>?_⟩
 rw [hr] at hj
 obtain rfl:j=i:=by simpa using hj
 have hw:Region.wanted oi (yielded ops a.tmps)=true:=by simp [Region.wanted,hg]
 unfold wpOp
 simp only [hi,hw,if_true]
 exact .inl (h _ (fun a' w' hF=>⟨fun hlt=>absurd hlt (by omega),hF⟩))
theorem F_start {id:Nat} {a:Act} {w:World} (n:Nat) (S:World->Prop) (hm:P.follows .mixedOrders=true) (hS:S w.drew)
 (h:S w.drew->HeadInv .any ops n (Array.replicate ops.size false)->wpAnyF P .any ops Q S n ops.size (Array.replicate ops.size false) a w.drew):(Code.region id ops true).wp P Q a w :=
 wp_region_any hm (F_any _ _ _ _ (h hS ⟨by simp,fun j oj _ hl=>(by rw [getD_replicate_false] at hl;cases hl),fun t _ ht=>getD_in (by simpa using ht) (getD_replicate_false _ _)⟩))
/-- append(s, x): as an operation by itself; the one element lies in block H -/
theorem op_append1 {w:World} {α:Type} (E:α->List Value) {o:Oper} {a:Act} {K:Act->World->Prop} {t e:TypeId} {z:Value} {k bytes:Nat} (el:ElemOk P t e z k bytes) (hgd:o.guard=none) (s y:Operand)
 (ho:o.op=.call { callee:=.builtin .append,args:=#[s,y],argTypes:=#[t,t] })
 (base:Nat) (v:Value) (xs:List α) (x:α) (c H:Nat) (hs:a.eval s=v) (hown:w.ownsRow base e k v xs.length (xs.flatMap E)) (hy:a.eval y=.slice (some ⟨H,0,none⟩) 1 c)
 (hH:w.heap[H]?=some (.cells (E x).toArray e (0,0))) (hE:(E x).length=k) (h1:∀ u ∈ E x,u.oneCell'=true) (hbytes:(xs.length+1) * bytes<=140737488355328) (hb0:0 < bytes) (hbase:base<=w.heap.size)
 (h:∀ g cap w',w'.ownsRow base e k (.slice (some ⟨g,0,none⟩) (xs.length+1) cap) (xs ++ [x]).length ((xs ++ [x]).flatMap E)->w.grownBy w' v.ownBlock->(v.ownBlock=some g ∨ w.heap.size<=g)->g < w'.heap.size ->
  K (a.put o.dst (.slice (some ⟨g,0,none⟩) (xs.length+1) cap)) w'):Oper.wp P o a w K Q:=by
 have h2:=step_append1 (ops:=#[]) (EE:=True) (Q:=Q) (K:=K) E el hgd s y ho base v xs x c H hs hown hy hH hE h1 hbytes hb0 hbase h
 have hw:Region.wanted o (yielded #[] a.tmps)=true:=by simp [Region.wanted,hgd]
 rwa [if_pos hw] at h2
/-- the same at the head of a list of operations -/
theorem wpList_append2 {w:World} {α:Type} (E:α->List Value) {rest:List Oper} {o:Oper} {a:Act} {t e:TypeId} {z:Value} {k bytes:Nat} (el:ElemOk P t e z k bytes) (hgd:o.guard=none) (s y:Operand)
 (ho:o.op=.call { callee:=.builtin .append,args:=#[s,y],argTypes:=#[t,t] })
 (base:Nat) (v:Value) (xs:List α) (x:α) (c H:Nat) (hs:a.eval s=v) (hown:w.ownsRow base e k v xs.length (xs.flatMap E)) (hy:a.eval y=.slice (some ⟨H,0,none⟩) 1 c)
 (hH:w.heap[H]?=some (.cells (E x).toArray e (0,0))) (hE:(E x).length=k) (h1:∀ u ∈ E x,u.oneCell'=true) (hbytes:(xs.length+1) * bytes<=140737488355328) (hb0:0 < bytes) (hbase:base<=w.heap.size)
 (h:∀ g cap w',w'.ownsRow base e k (.slice (some ⟨g,0,none⟩) (xs.length+1) cap) (xs ++ [x]).length ((xs ++ [x]).flatMap E)->w.grownBy w' v.ownBlock->(v.ownBlock=some g ∨ w.heap.size<=g)->g < w'.heap.size ->
  wpList P ops Q rest (a.put o.dst (.slice (some ⟨g,0,none⟩) (xs.length+1) cap)) w'):wpList P ops Q (o :: rest) a w :=
 wpList_plain hgd fun _ hK=>op_append1 E el hgd s y ho base v xs x c H hs hown hy hH hE h1 hbytes hb0 hbase fun g cap w' h2 h3 h4 h5=>hK _ _ (h g cap w' h2 h3 h4 h5)
end
end Go.Proofs.YteaplabkemoenaaGreat
namespace Go.Proofs.YteaplabkemoenaaGreat
open Go.ChangeShapes Go.WideShapes Go.ChangeAt Go.RowKit
section
variable {P:Program} {w:World}
theorem run_append_nil0 (base:Nat) (t ty e:TypeId) (i:TypeInfo) (size:Nat) (ht:P.underlying t=some (.slice e)) (hi:P.info? e=some i) (v:Value) (n:Nat) (xs:List Value) (hown:w.ownsRow base e size v n xs) (c:Nat) :
 (Builtin.append_ #[t,t] ty #[v,.slice none 0 c]).run P w=.ok v w:=by
 obtain ⟨_,h2⟩:=hown
 rcases h2 with ⟨rfl,_⟩ | ⟨g,cap,cur,rfl,_,_,hnc,_⟩
 · simp [Builtin.append_,run_underlying ht,sizeOf,typeInfo,hi,Builtin.lenOf,Builtin.firstCells]
 · simp [Builtin.append_,run_underlying ht,sizeOf,typeInfo,hi,Builtin.lenOf,Builtin.firstCells,hnc,storeCells]
theorem flat_one {α:Type} {E:α->List Value} {xs:List α} (h1:∀ x,∀ u ∈ E x,u.oneCell'=true):∀ u ∈ xs.flatMap E,u.oneCell'=true:=fun u hu=>by
 obtain ⟨x,_,hx⟩:=List.mem_flatMap.1 hu
 exact h1 x u hx
theorem flat_lenE {α:Type} {E:α->List Value} {k:Nat} (hE:∀ x,(E x).length=k):∀ xs:List α,(xs.flatMap E).length=xs.length * k
 | []=>by simp
 | x :: xs=>by rw [List.flatMap_cons,List.length_append,hE,flat_lenE hE xs,List.length_cons,Nat.succ_mul,Nat.add_comm]
/-- all cells of a list lie one behind the other -/
theorem flat_cells {α:Type} {E:α->List Value} {k:Nat} (hE:∀ x,(E x).length=k) (hk:0 < k) {b o:Nat} {ys:List α} (h:∀ i x,ys[i]?=some x->∀ j u,(E x)[j]?=some u->w.cell? ⟨b,o+i * k+j,none⟩=some u) :
 ∀ j u,(ys.flatMap E)[j]?=some u->w.cell? ((⟨b,o,none⟩:Addr).add j)=some u:=by
 intro j u hu
 have hl:=(List.getElem?_eq_some_iff.1 hu).1
 rw [flat_lenE hE] at hl
 have hi:j / k < ys.length:=Nat.div_lt_of_lt_mul (by rw [Nat.mul_comm];exact hl)
 have hx:ys[j / k]?=some ys[j / k]:=List.getElem?_eq_getElem hi
 have hj:j % k < (E ys[j / k]).length:=by rw [hE];exact Nat.mod_lt _ hk
 have hf:=flat_at hE hx (j % k) _ (List.getElem?_eq_getElem hj)
 have hjj:j / k * k+j % k=j:=by rw [Nat.mul_comm];exact Nat.div_add_mod j k
 rw [hjj,hu] at hf
 injection hf with hf
 have hc:=h _ _ hx (j % k) _ (List.getElem?_eq_getElem hj)
 have hadd:(⟨b,o,none⟩:Addr).add j=⟨b,o+j,none⟩:=by unfold Addr.add;split <;> simp_all
 rw [hadd,hf,<- hc]
 congr 2
 omega
theorem run_appendL {α:Type} (E:α->List Value) {t e:TypeId} {z:Value} {k bytes:Nat} (el:ElemOk P t e z k bytes) (hE:∀ x,(E x).length=k) (h1:∀ x,∀ u ∈ E x,u.oneCell'=true)
 (base:Nat) (v:Value) (xs ys:List α) (hown:w.ownsRow base e k v xs.length (xs.flatMap E)) (lo hi:Nat) (y:Value) (hy:SlI lo hi w E k y ys) (hbytes:(xs.length+ys.length) * bytes<=140737488355328) (hb0:0 < bytes) (hbase:base<=w.heap.size) (ty:TypeId) :
 ∃ v' w',(Builtin.append_ #[t,t] ty #[v,y]).run P w=.ok v' w'/\w'.ownsRow base e k v' (xs ++ ys).length ((xs ++ ys).flatMap E)/\w.grownBy w' v.ownBlock/\(v'.ownBlock=v.ownBlock ∨ v'.ownBlock=some w.heap.size):=by
 obtain ⟨i,hi,hz0,hz1,hz2⟩:=info_parts el.info
 have hlen:xs.length+ys.length<=140737488355328:=Nat.le_trans (Nat.le_mul_of_pos_right _ hb0) hbytes
 obtain ⟨A,c,rfl,_,_,hx⟩:=hy
 have key:∀ a:Addr,A=some a->(∀ j u,(ys.flatMap E)[j]?=some u->w.cell? (a.add j)=some u)->∃ v' w',(Builtin.append_ #[t,t] ty #[v,.slice A ys.length c]).run P w=.ok v' w'/\w'.ownsRow base e k v' (xs ++ ys).length ((xs ++ ys).flatMap E)/\w.grownBy w' v.ownBlock/\(v'.ownBlock=v.ownBlock ∨ v'.ownBlock=some w.heap.size):=by
  intro a ha hc
  subst ha
  obtain ⟨v',w',hr,h2,h3,_,h5⟩:=run_append_own_at (P:=P) w base t ty e i z k bytes el.und hi hz0 hz1 hz2 el.zc el.pos v xs.length (xs.flatMap E) hown a ys.length c (ys.flatMap E) (flat_lenE hE ys) hc (flat_one h1) (by unfold maxLen;omega) hbytes hbase
  exact ⟨v',w',hr,by rw [List.flatMap_append,List.length_append];exact h2,h3,h5⟩
 cases ys with
 | nil =>
   cases A with
   | none=>exact ⟨v,w,run_append_nil0 base t ty e i k el.und hi v _ _ hown c,by simpa using hown,World.grownBy.refl w _,.inl rfl⟩
   | some a=>exact key a rfl (fun j u hu=>by simp at hu)
 | cons x ys =>
   obtain ⟨b,o,hA,-,-,-⟩:=hx 0 x rfl
   refine key ⟨b,o,none⟩ hA (flat_cells hE el.pos fun i x hi j u hu=>?_)
   obtain ⟨b',o',hA',-,-,hc⟩:=hx i x hi
   rw [hA] at hA'
   injection hA' with hA'
   injection hA' with e1 e2
   subst e1 e2
   exact hc j u hu
theorem wpList_appendL {α:Type} (E:α->List Value) {ops:Array Oper} {rest:List Oper} {o:Oper} {a:Act} {Q:Exit->Act->World->Prop} {t e:TypeId} {z:Value} {k bytes:Nat} (el:ElemOk P t e z k bytes) (hE:∀ x,(E x).length=k) (h1:∀ x,∀ u ∈ E x,u.oneCell'=true)
 (hgd:o.guard=none) (s y:Operand) (ho:o.op=.call { callee:=.builtin .append,args:=#[s,y],argTypes:=#[t,t] })
 (base:Nat) (v:Value) (xs ys:List α) (hs:a.eval s=v) (hown:w.ownsRow base e k v xs.length (xs.flatMap E)) (lo hi:Nat) (yv:Value) (hyv:a.eval y=yv) (hy:SlI lo hi w E k yv ys) (hbytes:(xs.length+ys.length) * bytes<=140737488355328) (hb0:0 < bytes) (hbase:base<=w.heap.size)
 (h:∀ v' w',w'.ownsRow base e k v' (xs ++ ys).length ((xs ++ ys).flatMap E)->w.grownBy w' v.ownBlock->(v'.ownBlock=v.ownBlock ∨ v'.ownBlock=some w.heap.size)->wpList P ops Q rest (a.put o.dst v') w'):wpList P ops Q (o :: rest) a w:=by
 refine wpList_plain hgd fun K hK=>?_
 obtain ⟨v',w',hr,h2,h3,h5⟩:=run_appendL E el hE h1 base v xs ys hown lo hi yv hy hbytes hb0 hbase o.type
 unfold Oper.wp execOp
 simp only [ho,resolve,invoke,builtin,Sem.run_bind,Sem.run_pure,Result.andThen_ok,List.map_toArray,List.map_cons,List.map_nil,hs,hyv,hr]
 exact hK _ _ (h v' w' h2 h3 h5)
end
end Go.Proofs.YteaplabkemoenaaGreat
namespace Go.Proofs.YteaplabkemoenaaGreat
open Go.ChangeShapes Go.WideShapes Go.ChangeAt Go.RowKit
attribute [local go_sem] ext_cell ext_frozen ext_lt ext_lt1 ext_lt2 ext_lt3 ltn2 ltn3 ltn13 lts1 lts2 lts3
theorem and_le (x:Int) (m:Nat) (hm:m < 2 ^ 63):0<=bits .and .i64 x (m:Int)/\bits .and .i64 x (m:Int)<=m:=by
 have h2:(BitVec.ofInt 64 (m:Int)).toNat=m:=by
  rw [BitVec.ofInt_natCast,BitVec.toNat_ofNat];exact Nat.mod_eq_of_lt (by omega)
 have h3:(BitVec.ofInt 64 x &&& BitVec.ofInt 64 (m:Int)).toNat<=m:=by
  rw [BitVec.toNat_and,h2];exact Nat.and_le_right
 have h4:bits .and .i64 x (m:Int)=IntKind.i64.wrap ((BitVec.ofInt 64 x &&& BitVec.ofInt 64 (m:Int)).toNat:Int):=rfl
 rw [h4]
 generalize (BitVec.ofInt 64 x &&& BitVec.ofInt 64 (m:Int)).toNat=z at h3 ⊢
 rw [IntKind.wrap_i64]
 omega
theorem emod_le {a n m:Int} (ha:0<=a) (hn:0 < n) (hm:a<=m):a % n<=m:=by
 have h1:=Int.mul_ediv_add_emod a n
 have h2:0<=n * (a / n):=Int.mul_nonneg (by omega) (Int.ediv_nonneg ha (by omega))
 omega
theorem and255 (x:Int):0<=bits .and .i64 x 255/\bits .and .i64 x 255<=255:=and_le x 255 (by decide)
/-- the cursor in block b: the code's bytes lie below it; its place is not below nought -/
def Cur (w:World) (b:Nat):Prop :=
 ∃ (A:Option Addr) (bs:List Int) (c:Nat) (i h:Int),Blk w b 115 #[.slice A bs.length c,.int .i64 i,.int .i64 h]/\SlI 0 b w cU 1 (.slice A bs.length c) bs/\0<=i/\i<=bs.length
theorem Cur.lt {w:World} {b:Nat} (h:Cur w b):b < w.heap.size:=by
 obtain ⟨A,bs,c,i,g,h1,-⟩:=h
 exact h1.lt
theorem Cur.only {w w':World} {b l r:Nat} (h:Cur w b) (ho:Only l r w w') (hl:b < l):Cur w' b:=by
 obtain ⟨A,bs,c,i,g,h1,h2,h3⟩:=h
 exact ⟨A,bs,c,i,g,h1.only ho (.inl hl),h2.only ho (Nat.le_of_lt h1.lt) (.inl (Nat.le_of_lt hl)),h3⟩
theorem Cur.keep {w w':World} {b:Nat} (h:Cur w b) (hb:Below w.heap.size w w'):Cur w' b:=h.only (Only.of_below hb w.heap.size w.heap.size) h.lt
set_option maxHeartbeats 2000000 in
theorem l1Byte_any (b:Nat) (w:World) (hc:Cur w b) :
 Calls Tryz.prog 67 #[.pointer (some ⟨b,0,none⟩)] w fun e w'=>∃ r:Int,e=.returned (.int .i64 r)/\(0<=r/\r<=255)/\Cur w' b/\Only b (b+1) w w':=by
 obtain ⟨A,bs,c,i,h,hblk,hsl,hi0,hi1⟩:=hc
 have hlt:=hblk.lt
 have x0:w.cell? ⟨b,0,none⟩=some (.slice A bs.length c):=hblk.cell 0
 have x1:w.cell? ⟨b,1,none⟩=some (.int .i64 i):=hblk.cell 1
 have x2:w.cell? ⟨b,2,none⟩=some (.int .i64 h):=hblk.cell 2
 have y1:=hblk.frozen 1
 have y2:=hblk.frozen 2
 go_enter Tryz.func67,Tryz.ntmps67
 go_upto_region 2 with fail
 generalize wrap64 (wrap64 (h * 6364136223846793005)+1442695040888963407)=h'
 have hbk1:=hblk.set_ 2 (.int .i64 h')
 have ho1:Only b (b+1) w (w.setCell ⟨b,2,none⟩ (.int .i64 h')):=(Only.refl b (b+1) w).setCell (p:=⟨b,2,none⟩) (.inl ⟨Nat.le_refl _,Nat.lt_succ_self _⟩) _
 generalize w.setCell ⟨b,2,none⟩ (.int .i64 h')=W1 at *
 replace hsl:=hsl.only ho1 (Nat.le_of_lt hlt) (.inl (Nat.le_refl _))
 replace hlt:=hbk1.lt
 replace x0:W1.cell? ⟨b,0,none⟩=some (.slice A bs.length c):=hbk1.cell 0
 replace x1:W1.cell? ⟨b,1,none⟩=some (.int .i64 i):=hbk1.cell 1
 replace x2:W1.cell? ⟨b,2,none⟩=some (.int .i64 h'):=hbk1.cell 2
 replace y1:=hbk1.frozen 1
 replace y2:=hbk1.frozen 2
 have HSL:=Hd_ hsl
 refine wp_region_ext_lit (by kernel_rfl) (by kernel_rfl) ?_
 repeat (go_big_quiet_step (fail))
 refine wpQuiet_nil ?_
 rintro _ ⟨u,rfl⟩
 obtain ⟨hr0,hr1⟩:=and255 (bits .xor .i64 (h' / 8589934592) (h' / 35184372088832))
 generalize bits .and .i64 (bits .xor .i64 (h' / 8589934592) (h' / 35184372088832)) 255=x at *
 obtain ⟨n,rfl⟩:=Int.eq_ofNat_of_zero_le hi0
 have HBK:=Hd_ hbk1
 have HON:=Hd_ ho1
 by_cases hin:n < bs.length
 · have hxi:bs[n]?=some bs[n]:=List.getElem?_eq_getElem hin
   obtain ⟨A',c',hv,hl,hm,hx⟩:=hsl
   injection hv with hv1 hv2 hv3
   subst hv1 hv3
   obtain ⟨q,o,rfl,-,hq,hcc⟩:=hx n _ hxi
   generalize bs[n]=y at hcc
   have c0:=hcc 0 _ rfl
   simp only [Nat.add_zero,Nat.mul_one] at c0
   have hqW:=Nat.lt_trans hq hlt
   clear hx hcc hxi hbk1 ho1
   unfold maxLen at hm
   go_wp2_with fail
   refine wp_region_ext_lit (by kernel_rfl) (by kernel_rfl) ?_
   repeat (go_big_quiet_step (fail))
   refine wpQuiet_nil ?_
   rintro _ ⟨u2,rfl⟩
   obtain ⟨u4,hu4⟩:=ext_ext W1 u u2
   rw [hu4]
   go_wp2_with fail
   refine wp_region_ext_lit (by kernel_rfl) (by kernel_rfl) ?_
   repeat (go_big_quiet_step (fail))
   refine wpQuiet_nil ?_
   rintro _ ⟨u3,rfl⟩
   obtain ⟨u5,hu5⟩:=ext_ext W1 u4 u3
   rw [hu5]
   go_wp2_with fail
   go_ret
   have hob:Only b (b+1) (ext W1 u5) ((ext W1 u5).setCell ⟨b,1,none⟩ (.int .i64 ((n:Int)+1))):=(Only.refl b (b+1) _).setCell (p:=⟨b,1,none⟩) (.inl ⟨Nat.le_refl _,Nat.lt_succ_self _⟩) _
   have hoc:=(Only.of_below (ext_below W1 u5) b (b+1)).trans hob
   exact ⟨_,rfl,and255 _,⟨_,bs,c,(n:Int)+1,h',(HBK.out.keep (ext_below W1 u5)).set_ 1 _,HSL.out.only hoc (Nat.le_of_lt hlt) (.inl (Nat.le_refl _)),by omega,by omega⟩,HON.out.trans hoc⟩
 · clear hsl hbk1 ho1
   go_wp2_with fail
   refine wp_region_ext_lit (by kernel_rfl) (by kernel_rfl) ?_
   repeat (go_big_quiet_step (fail))
   refine wpQuiet_nil ?_
   rintro _ ⟨u2,rfl⟩
   obtain ⟨u4,hu4⟩:=ext_ext W1 u u2
   rw [hu4]
   go_wp2_with fail
   go_ret
   have hoc:=Only.of_below (ext_below W1 u4) b (b+1)
   exact ⟨_,rfl,⟨hr0,hr1⟩,⟨A,bs,c,n,h',HBK.out.keep (ext_below W1 u4),HSL.out.only hoc (Nat.le_of_lt hlt) (.inl (Nat.le_refl _)),by omega,by omega⟩,HON.out.trans hoc⟩
set_option maxHeartbeats 2000000 in
theorem l1Below_any (b:Nat) (n:Int) (w:World) (hc:Cur w b) :
 Calls Tryz.prog 41 #[.pointer (some ⟨b,0,none⟩),.int .i64 n] w fun e w'=>∃ r:Int,e=.returned (.int .i64 r)/\(0<=r/\r<=4294967295/\(0 < n->r < n))/\Cur w' b/\Only b (b+1) w w':=by
 by_cases h0:n<=0
 · go_enter Tryz.func41,Tryz.ntmps41
   go_wp2
   go_ret
   exact ⟨_,rfl,by omega,hc,Only.refl _ _ _⟩
 by_cases h1:n<=256
 · go_enter Tryz.func41,Tryz.ntmps41
   go_wp2_with (refine (l1Byte_any b _ hc).mono ?_;rintro e w1 ⟨r,rfl,⟨hr0,hr1⟩,hc1,ho1⟩)
   go_ret
   exact ⟨_,rfl,⟨Int.emod_nonneg _ (by omega),by have:=Int.emod_lt_of_pos r (show 0 < n by omega);omega,fun h=>Int.emod_lt_of_pos _ h⟩,hc1,ho1⟩
 · go_enter Tryz.func41,Tryz.ntmps41
   go_wp2_with fail
   refine (l1Byte_any b _ hc).mono ?_;rintro e w1 ⟨r1,rfl,⟨hr10,hr11⟩,hc1,ho1⟩
   go_wp2_with fail
   refine (l1Byte_any b _ hc1).mono ?_;rintro e w2 ⟨r2,rfl,⟨hr20,hr21⟩,hc2,ho2⟩
   go_wp2_with fail
   refine (l1Byte_any b _ hc2).mono ?_;rintro e w3 ⟨r3,rfl,⟨hr30,hr31⟩,hc3,ho3⟩
   go_wp2_with fail
   refine (l1Byte_any b _ hc3).mono ?_;rintro e w4 ⟨r4,rfl,⟨hr40,hr41⟩,hc4,ho4⟩
   go_wp2_with fail
   go_ret
   exact ⟨_,rfl,⟨Int.emod_nonneg _ (by omega),emod_le (by omega) (by omega) (by omega),fun h=>Int.emod_lt_of_pos _ h⟩,hc4,((ho1.trans ho2).trans ho3).trans ho4⟩
set_option maxHeartbeats 1000000 in
theorem l1Once_any (b:Nat) (n:Int) (w:World) (hc:Cur w b) :
 Calls Tryz.prog 40 #[.pointer (some ⟨b,0,none⟩),.int .i64 n] w fun e w'=>∃ r:Bool,e=.returned (.bool r)/\Cur w' b/\Only b (b+1) w w':=by
 go_enter Tryz.func40,Tryz.ntmps40
 go_wp2_with fail
 refine (l1Below_any b n _ hc).mono ?_;rintro e w1 ⟨r,rfl,-,hc1,ho1⟩
 go_wp2_with fail
 go_ret
 exact ⟨_,rfl,hc1,ho1⟩
set_option maxHeartbeats 1000000 in
theorem l1PickInt_any (b:Nat) (v:Value) (xs:List Int) (w:World) (hc:Cur w b) (hne:0 < xs.length) (hv:SlI (b+1) w.heap.size w cI 1 v xs) :
 Calls Tryz.prog 16 #[.pointer (some ⟨b,0,none⟩),v] w fun e w'=>∃ r:Int,e=.returned (.int .i64 r)/\r ∈ xs/\Cur w' b/\Only b (b+1) w w':=by
 obtain ⟨A,c,rfl,hl,hm,hx⟩:=hv
 unfold maxLen at hm
 have HX:=Hd_ hx
 clear hx
 go_enter Tryz.func16,Tryz.ntmps16
 go_wp2_with fail
 refine (l1Below_any b _ _ hc).mono ?_;rintro e w1 ⟨r,rfl,⟨h0,-,h1⟩,hc1,ho1⟩
 have h1:=h1 (by omega)
 obtain ⟨i,rfl⟩:=Int.eq_ofNat_of_zero_le h0
 have hi:i < xs.length:=by omega
 have hxi:xs[i]?=some xs[i]:=List.getElem?_eq_getElem hi
 have hmem:=List.getElem_mem hi
 obtain ⟨q,o,rfl,hq0,hq1,hcc⟩:=HX.out i _ hxi
 generalize xs[i]=y at hcc hmem
 have c0:=(ho1.cell (p:=⟨q,o+i * 1+0,none⟩) hq1 (.inr hq0)).trans (hcc 0 _ rfl)
 simp only [Nat.add_zero,Nat.mul_one] at c0
 clear hcc hxi
 go_wp2_with fail
 go_ret
 exact ⟨_,rfl,hmem,hc1,ho1⟩
theorem elInt:ElemOk Tryz.prog 24 3 (.int .i64 0) 1 8:=⟨Tryz.underlying24,by kernel_rfl,rfl,by omega⟩
def GrO (lo hi:Nat) (w:World) (v:Value) (g:Gr):Prop :=
 ∃ vs es mid,v=.agg #[vs,es]/\Own lo mid w 3 cI 1 vs g.vals/\Own mid hi w 110 cEd 4 es g.edges/\lo<=mid/\mid<=hi
theorem GrO.view {lo hi:Nat} {w:World} {v:Value} {g:Gr} (h:GrO lo hi w v g):GrV lo hi w v g:=by
 obtain ⟨vs,es,mid,rfl,h1,h2,h3,h4⟩:=h
 exact ⟨vs,es,rfl,(h1.sl cI_len).mono (Nat.le_refl _) h4,(h2.sl cEd_len).mono h3 (Nat.le_refl _)⟩
theorem GrO.below {lo hi:Nat} {w w':World} {v:Value} {g:Gr} (h:GrO lo hi w v g) {B:Nat} (hb:Below B w w') (hB:hi<=B):GrO lo hi w' v g:=by
 obtain ⟨vs,es,mid,rfl,h1,h2,h3,h4⟩:=h
 exact ⟨vs,es,mid,rfl,h1.below hb (by omega),h2.below hb hB,h3,h4⟩
theorem elBool:ElemOk Tryz.prog 28 4 (.bool false) 1 1:=⟨Tryz.underlying28,by kernel_rfl,rfl,by omega⟩
/-- rows of the call's own, one behind the other in memory -/
def RowsO (w:World):Nat->Nat->List Value->List (List Int)->Prop
 | lo,hi,[],[]=>lo<=hi
 | lo,hi,u :: us,xs :: xss=>∃ mid,lo<=mid/\Own lo mid w 3 cI 1 u xs/\RowsO w mid hi us xss
 | _,_,_,_=>False
theorem RowsO.le {w:World}:∀ {us:List Value} {xss:List (List Int)} {lo hi:Nat},RowsO w lo hi us xss->lo<=hi
 | [],[],_,_,h=>h
 | _ :: _,_ :: _,_,_,⟨mid,h1,_,h3⟩=>Nat.le_trans h1 (RowsO.le h3)
 | [],_ :: _,_,_,h=>h.elim
 | _ :: _,[],_,_,h=>h.elim
theorem RowsO.len {w:World}:∀ {us:List Value} {xss:List (List Int)} {lo hi:Nat},RowsO w lo hi us xss->us.length=xss.length
 | [],[],_,_,_=>rfl
 | _ :: _,_ :: _,_,_,⟨_,_,_,h3⟩=>by simp [RowsO.len h3]
 | [],_ :: _,_,_,h=>h.elim
 | _ :: _,[],_,_,h=>h.elim
theorem RowsO.below {w w':World} {B:Nat} (hb:Below B w w'):∀ {us:List Value} {xss:List (List Int)} {lo hi:Nat},RowsO w lo hi us xss->hi<=B->RowsO w' lo hi us xss
 | [],[],_,_,h,_=>h
 | _ :: _,_ :: _,_,_,⟨mid,h1,h2,h3⟩,hB=>⟨mid,h1,h2.below hb (Nat.le_trans (RowsO.le h3) hB),RowsO.below hb h3 hB⟩
 | [],_ :: _,_,_,h,_=>h.elim
 | _ :: _,[],_,_,h,_=>h.elim
theorem RowsO.only {w w':World} {l r:Nat} (hb:Only l r w w'):∀ {us:List Value} {xss:List (List Int)} {lo hi:Nat},RowsO w lo hi us xss->(hi<=l ∨ r<=lo)->RowsO w' lo hi us xss
 | [],[],_,_,h,_=>h
 | _ :: _,_ :: _,lo,hi,⟨mid,h1,h2,h3⟩,ho=>⟨mid,h1,h2.only hb (by have:=RowsO.le h3;omega),RowsO.only hb h3 (by omega)⟩
 | [],_ :: _,_,_,h,_=>h.elim
 | _ :: _,[],_,_,h,_=>h.elim
theorem RowsO.mono {w:World}:∀ {us:List Value} {xss:List (List Int)} {lo hi lo' hi':Nat},RowsO w lo hi us xss->lo'<=lo->hi<=hi'->RowsO w lo' hi' us xss
 | [],[],_,_,_,_,h,h1,h2=>by simp only [RowsO] at h ⊢;omega
 | _ :: _,_ :: _,_,_,_,_,⟨mid,h1,h2,h3⟩,g1,g2=>⟨mid,by omega,h2.mono g1 (Nat.le_refl _),RowsO.mono h3 (Nat.le_refl _) g2⟩
 | [],_ :: _,_,_,_,_,h,_,_=>h.elim
 | _ :: _,[],_,_,_,_,h,_,_=>h.elim
theorem RowsO.at_ {w:World}:∀ {us:List Value} {xss:List (List Int)} {lo hi:Nat},RowsO w lo hi us xss->∀ (i:Nat) (u:Value) (xs:List Int),us[i]?=some u->xss[i]?=some xs->SlI lo hi w cI 1 u xs
 | [],[],_,_,_,_,_,_,h,_=>by simp at h
 | _ :: _,_ :: _,_,_,⟨mid,h1,h2,h3⟩,i,u,xs,hu,hx=>by
   cases i with
   | zero =>
     simp only [List.getElem?_cons_zero,Option.some.injEq] at hu hx
     subst hu hx
     exact (h2.sl cI_len).mono (Nat.le_refl _) (RowsO.le h3)
   | succ i=>exact (RowsO.at_ h3 i u xs (by simpa using hu) (by simpa using hx)).mono h1 (Nat.le_refl _)
 | [],_ :: _,_,_,h,_,_,_,_,_=>h.elim
 | _ :: _,[],_,_,h,_,_,_,_,_=>h.elim
def SSO (lo hi:Nat) (w:World) (v:Value) (xss:List (List Int)):Prop :=
 ∃ us mid,Own lo mid w 24 cV 1 v us/\RowsO w mid hi us xss/\lo<=mid
theorem SSO.view {lo hi:Nat} {w:World} {v:Value} {xss:List (List Int)} (h:SSO lo hi w v xss):SSV lo hi w v xss:=by
 obtain ⟨us,mid,h1,h2,h3⟩:=h
 exact ⟨us,(h1.sl cV_len).mono (Nat.le_refl _) h2.le,h2.len,fun i u xs hu hx=>(h2.at_ i u xs hu hx).mono h3 (Nat.le_refl _)⟩
theorem SSO.below {lo hi:Nat} {w w':World} {v:Value} {xss:List (List Int)} (h:SSO lo hi w v xss) {B:Nat} (hb:Below B w w') (hB:hi<=B):SSO lo hi w' v xss:=by
 obtain ⟨us,mid,h1,h2,h3⟩:=h
 exact ⟨us,mid,h1.below hb (Nat.le_trans h2.le hB),h2.below hb hB,h3⟩
theorem SSO.only {lo hi:Nat} {w w':World} {v:Value} {xss:List (List Int)} (h:SSO lo hi w v xss) {l r:Nat} (hb:Only l r w w') (ho:hi<=l ∨ r<=lo):SSO lo hi w' v xss:=by
 obtain ⟨us,mid,h1,h2,h3⟩:=h
 have:=h2.le
 exact ⟨us,mid,h1.only hb (by omega),h2.only hb (by omega),h3⟩
theorem SSO.mono {lo hi:Nat} {w:World} {v:Value} {xss:List (List Int)} (h:SSO lo hi w v xss) {lo' hi':Nat} (g1:lo'<=lo) (g2:hi<=hi'):SSO lo' hi' w v xss:=by
 obtain ⟨us,mid,h1,h2,h3⟩:=h
 exact ⟨us,mid,h1.mono g1 (Nat.le_refl _),h2.mono (Nat.le_refl _) g2,by omega⟩
def AuO (lo hi:Nat) (w:World) (v:Value) (a:Au):Prop :=
 ∃ ac nx mid,v=.agg #[.int .i64 a.start,ac,nx]/\Own lo mid w 4 cB 1 ac a.accept/\SSO mid hi w nx a.next/\lo<=mid/\mid<=hi
theorem AuO.view {lo hi:Nat} {w:World} {v:Value} {a:Au} (h:AuO lo hi w v a):AuV lo hi w v a:=by
 obtain ⟨ac,nx,mid,rfl,h1,h2,h3,h4⟩:=h
 exact ⟨ac,nx,rfl,(h1.sl cB_len).mono (Nat.le_refl _) h4,h2.view.mono h3 (Nat.le_refl _)⟩
theorem AuO.below {lo hi:Nat} {w w':World} {v:Value} {a:Au} (h:AuO lo hi w v a) {B:Nat} (hb:Below B w w') (hB:hi<=B):AuO lo hi w' v a:=by
 obtain ⟨ac,nx,mid,rfl,h1,h2,h3,h4⟩:=h
 exact ⟨ac,nx,mid,rfl,h1.below hb (by omega),h2.below hb hB,h3,h4⟩
theorem elSS:ElemOk Tryz.prog 29 24 (.slice none 0 0) 1 24:=⟨Tryz.underlying29,by kernel_rfl,rfl,by omega⟩
end Go.Proofs.YteaplabkemoenaaGreat
namespace Go.Proofs.YteaplabkemoenaaGreat
open Go.ChangeShapes Go.WideShapes Go.ChangeAt Go.RowKit
section
variable {w w':World}
theorem kcell (hb:Below w.heap.size w w') {p:Addr} {v:Value} (h:w.cell? p=some v):w'.cell? p=some v:=(hb.cell (World.block_lt_of_cell? w _ h)).trans h
theorem kfb (hb:Below w.heap.size w w') {p:Addr} {v:Value} (hc:w.cell? p=some v) (hf:w.frozen? p=false):w'.frozen? p=false:=(hb.frozen (World.block_lt_of_cell? w _ hc)).trans hf
theorem kfg {row:Option Nat} (hg:w.grownBy w' row) {p:Addr} {v:Value} (hn:some p.block ≠ row) (hc:w.cell? p=some v) (hf:w.frozen? p=false):w'.frozen? p=false:=(World.frozen?_of_block (hg.block p.block (World.block_lt_of_cell? w _ hc) hn)).trans hf
theorem kB2 {p0 p1:Addr} {v0 v1:Value} (hb:Below w.heap.size w w') (h:w.cell? p0=some v0/\w.cell? p1=some v1):w'.cell? p0=some v0/\w'.cell? p1=some v1:=by
 obtain ⟨c0,c1⟩:=h
 exact ⟨kcell hb c0,kcell hb c1⟩
theorem kA2 {p0 p1:Addr} {v0 v1:Value} (o:Obj) (h:w.cell? p0=some v0/\w.cell? p1=some v1):(w.alloc o).cell? p0=some v0/\(w.alloc o).cell? p1=some v1:=kB2 ((Below.refl _ _).alloc (Nat.le_refl _) _) h
theorem kG2 {p0 p1:Addr} {v0 v1:Value} {row:Option Nat} (hg:w.grownBy w' row) (n0:some p0.block ≠ row) (n1:some p1.block ≠ row) (h:w.cell? p0=some v0/\w.cell? p1=some v1):w'.cell? p0=some v0/\w'.cell? p1=some v1:=by
 obtain ⟨c0,c1⟩:=h
 exact ⟨hg.cell c0 n0,hg.cell c1 n1⟩
theorem kB3 {p0 p1 p2:Addr} {v0 v1 v2:Value} (hb:Below w.heap.size w w') (h:w.cell? p0=some v0/\w.cell? p1=some v1/\w.cell? p2=some v2):w'.cell? p0=some v0/\w'.cell? p1=some v1/\w'.cell? p2=some v2:=by
 obtain ⟨c0,c1,c2⟩:=h
 exact ⟨kcell hb c0,kcell hb c1,kcell hb c2⟩
theorem kA3 {p0 p1 p2:Addr} {v0 v1 v2:Value} (o:Obj) (h:w.cell? p0=some v0/\w.cell? p1=some v1/\w.cell? p2=some v2):(w.alloc o).cell? p0=some v0/\(w.alloc o).cell? p1=some v1/\(w.alloc o).cell? p2=some v2:=kB3 ((Below.refl _ _).alloc (Nat.le_refl _) _) h
theorem kB4 {p0 p1 p2 p3:Addr} {v0 v1 v2 v3:Value} (hb:Below w.heap.size w w') (h:w.cell? p0=some v0/\w.cell? p1=some v1/\w.cell? p2=some v2/\w.cell? p3=some v3):w'.cell? p0=some v0/\w'.cell? p1=some v1/\w'.cell? p2=some v2/\w'.cell? p3=some v3:=by
 obtain ⟨c0,c1,c2,c3⟩:=h
 exact ⟨kcell hb c0,kcell hb c1,kcell hb c2,kcell hb c3⟩
theorem kA4 {p0 p1 p2 p3:Addr} {v0 v1 v2 v3:Value} (o:Obj) (h:w.cell? p0=some v0/\w.cell? p1=some v1/\w.cell? p2=some v2/\w.cell? p3=some v3):(w.alloc o).cell? p0=some v0/\(w.alloc o).cell? p1=some v1/\(w.alloc o).cell? p2=some v2/\(w.alloc o).cell? p3=some v3:=kB4 ((Below.refl _ _).alloc (Nat.le_refl _) _) h
theorem kB5 {p0 p1 p2 p3 p4:Addr} {v0 v1 v2 v3 v4:Value} (hb:Below w.heap.size w w') (h:w.cell? p0=some v0/\w.cell? p1=some v1/\w.cell? p2=some v2/\w.cell? p3=some v3/\w.cell? p4=some v4):w'.cell? p0=some v0/\w'.cell? p1=some v1/\w'.cell? p2=some v2/\w'.cell? p3=some v3/\w'.cell? p4=some v4:=by
 obtain ⟨c0,c1,c2,c3,c4⟩:=h
 exact ⟨kcell hb c0,kcell hb c1,kcell hb c2,kcell hb c3,kcell hb c4⟩
theorem kA5 {p0 p1 p2 p3 p4:Addr} {v0 v1 v2 v3 v4:Value} (o:Obj) (h:w.cell? p0=some v0/\w.cell? p1=some v1/\w.cell? p2=some v2/\w.cell? p3=some v3/\w.cell? p4=some v4):(w.alloc o).cell? p0=some v0/\(w.alloc o).cell? p1=some v1/\(w.alloc o).cell? p2=some v2/\(w.alloc o).cell? p3=some v3/\(w.alloc o).cell? p4=some v4:=kB5 ((Below.refl _ _).alloc (Nat.le_refl _) _) h
theorem kG5 {p0 p1 p2 p3 p4:Addr} {v0 v1 v2 v3 v4:Value} {row:Option Nat} (hg:w.grownBy w' row) (n0:some p0.block ≠ row) (n1:some p1.block ≠ row) (n2:some p2.block ≠ row) (n3:some p3.block ≠ row) (n4:some p4.block ≠ row) (h:w.cell? p0=some v0/\w.cell? p1=some v1/\w.cell? p2=some v2/\w.cell? p3=some v3/\w.cell? p4=some v4):w'.cell? p0=some v0/\w'.cell? p1=some v1/\w'.cell? p2=some v2/\w'.cell? p3=some v3/\w'.cell? p4=some v4:=by
 obtain ⟨c0,c1,c2,c3,c4⟩:=h
 exact ⟨hg.cell c0 n0,hg.cell c1 n1,hg.cell c2 n2,hg.cell c3 n3,hg.cell c4 n4⟩
theorem kB6 {p0 p1 p2 p3 p4 p5:Addr} {v0 v1 v2 v3 v4 v5:Value} (hb:Below w.heap.size w w') (h:w.cell? p0=some v0/\w.cell? p1=some v1/\w.cell? p2=some v2/\w.cell? p3=some v3/\w.cell? p4=some v4/\w.cell? p5=some v5):w'.cell? p0=some v0/\w'.cell? p1=some v1/\w'.cell? p2=some v2/\w'.cell? p3=some v3/\w'.cell? p4=some v4/\w'.cell? p5=some v5:=by
 obtain ⟨c0,c1,c2,c3,c4,c5⟩:=h
 exact ⟨kcell hb c0,kcell hb c1,kcell hb c2,kcell hb c3,kcell hb c4,kcell hb c5⟩
theorem kA6 {p0 p1 p2 p3 p4 p5:Addr} {v0 v1 v2 v3 v4 v5:Value} (o:Obj) (h:w.cell? p0=some v0/\w.cell? p1=some v1/\w.cell? p2=some v2/\w.cell? p3=some v3/\w.cell? p4=some v4/\w.cell? p5=some v5):(w.alloc o).cell? p0=some v0/\(w.alloc o).cell? p1=some v1/\(w.alloc o).cell? p2=some v2/\(w.alloc o).cell? p3=some v3/\(w.alloc o).cell? p4=some v4/\(w.alloc o).cell? p5=some v5:=kB6 ((Below.refl _ _).alloc (Nat.le_refl _) _) h
theorem kG6 {p0 p1 p2 p3 p4 p5:Addr} {v0 v1 v2 v3 v4 v5:Value} {row:Option Nat} (hg:w.grownBy w' row) (n0:some p0.block ≠ row) (n1:some p1.block ≠ row) (n2:some p2.block ≠ row) (n3:some p3.block ≠ row) (n4:some p4.block ≠ row) (n5:some p5.block ≠ row) (h:w.cell? p0=some v0/\w.cell? p1=some v1/\w.cell? p2=some v2/\w.cell? p3=some v3/\w.cell? p4=some v4/\w.cell? p5=some v5):w'.cell? p0=some v0/\w'.cell? p1=some v1/\w'.cell? p2=some v2/\w'.cell? p3=some v3/\w'.cell? p4=some v4/\w'.cell? p5=some v5:=by
 obtain ⟨c0,c1,c2,c3,c4,c5⟩:=h
 exact ⟨hg.cell c0 n0,hg.cell c1 n1,hg.cell c2 n2,hg.cell c3 n3,hg.cell c4 n4,hg.cell c5 n5⟩
theorem kB7 {p0 p1 p2 p3 p4 p5 p6:Addr} {v0 v1 v2 v3 v4 v5 v6:Value} (hb:Below w.heap.size w w') (h:w.cell? p0=some v0/\w.cell? p1=some v1/\w.cell? p2=some v2/\w.cell? p3=some v3/\w.cell? p4=some v4/\w.cell? p5=some v5/\w.cell? p6=some v6):w'.cell? p0=some v0/\w'.cell? p1=some v1/\w'.cell? p2=some v2/\w'.cell? p3=some v3/\w'.cell? p4=some v4/\w'.cell? p5=some v5/\w'.cell? p6=some v6:=by
 obtain ⟨c0,c1,c2,c3,c4,c5,c6⟩:=h
 exact ⟨kcell hb c0,kcell hb c1,kcell hb c2,kcell hb c3,kcell hb c4,kcell hb c5,kcell hb c6⟩
theorem kA7 {p0 p1 p2 p3 p4 p5 p6:Addr} {v0 v1 v2 v3 v4 v5 v6:Value} (o:Obj) (h:w.cell? p0=some v0/\w.cell? p1=some v1/\w.cell? p2=some v2/\w.cell? p3=some v3/\w.cell? p4=some v4/\w.cell? p5=some v5/\w.cell? p6=some v6):(w.alloc o).cell? p0=some v0/\(w.alloc o).cell? p1=some v1/\(w.alloc o).cell? p2=some v2/\(w.alloc o).cell? p3=some v3/\(w.alloc o).cell? p4=some v4/\(w.alloc o).cell? p5=some v5/\(w.alloc o).cell? p6=some v6:=kB7 ((Below.refl _ _).alloc (Nat.le_refl _) _) h
theorem kS7 {p0 p1 p2 p3 p4 p5 p6 q:Addr} {v0 v1 v2 v3 v4 v5 v6 x:Value} (n0:q.block ≠ p0.block) (n1:q.block ≠ p1.block) (n2:q.block ≠ p2.block) (n3:q.block ≠ p3.block) (n4:q.block ≠ p4.block) (n5:q.block ≠ p5.block) (n6:q.block ≠ p6.block) (h:w.cell? p0=some v0/\w.cell? p1=some v1/\w.cell? p2=some v2/\w.cell? p3=some v3/\w.cell? p4=some v4/\w.cell? p5=some v5/\w.cell? p6=some v6):(w.setCell q x).cell? p0=some v0/\(w.setCell q x).cell? p1=some v1/\(w.setCell q x).cell? p2=some v2/\(w.setCell q x).cell? p3=some v3/\(w.setCell q x).cell? p4=some v4/\(w.setCell q x).cell? p5=some v5/\(w.setCell q x).cell? p6=some v6:=by
 obtain ⟨c0,c1,c2,c3,c4,c5,c6⟩:=h
 exact ⟨(World.cell?_setCell_far _ _ _ _ n0).trans c0,(World.cell?_setCell_far _ _ _ _ n1).trans c1,(World.cell?_setCell_far _ _ _ _ n2).trans c2,(World.cell?_setCell_far _ _ _ _ n3).trans c3,(World.cell?_setCell_far _ _ _ _ n4).trans c4,(World.cell?_setCell_far _ _ _ _ n5).trans c5,(World.cell?_setCell_far _ _ _ _ n6).trans c6⟩
theorem kB9 {p0 p1 p2 p3 p4 p5 p6 p7 p8:Addr} {v0 v1 v2 v3 v4 v5 v6 v7 v8:Value} (hb:Below w.heap.size w w') (h:w.cell? p0=some v0/\w.cell? p1=some v1/\w.cell? p2=some v2/\w.cell? p3=some v3/\w.cell? p4=some v4/\w.cell? p5=some v5/\w.cell? p6=some v6/\w.cell? p7=some v7/\w.cell? p8=some v8):w'.cell? p0=some v0/\w'.cell? p1=some v1/\w'.cell? p2=some v2/\w'.cell? p3=some v3/\w'.cell? p4=some v4/\w'.cell? p5=some v5/\w'.cell? p6=some v6/\w'.cell? p7=some v7/\w'.cell? p8=some v8:=by
 obtain ⟨c0,c1,c2,c3,c4,c5,c6,c7,c8⟩:=h
 exact ⟨kcell hb c0,kcell hb c1,kcell hb c2,kcell hb c3,kcell hb c4,kcell hb c5,kcell hb c6,kcell hb c7,kcell hb c8⟩
theorem kB10 {p0 p1 p2 p3 p4 p5 p6 p7 p8 p9:Addr} {v0 v1 v2 v3 v4 v5 v6 v7 v8 v9:Value} (hb:Below w.heap.size w w') (h:w.cell? p0=some v0/\w.cell? p1=some v1/\w.cell? p2=some v2/\w.cell? p3=some v3/\w.cell? p4=some v4/\w.cell? p5=some v5/\w.cell? p6=some v6/\w.cell? p7=some v7/\w.cell? p8=some v8/\w.cell? p9=some v9):w'.cell? p0=some v0/\w'.cell? p1=some v1/\w'.cell? p2=some v2/\w'.cell? p3=some v3/\w'.cell? p4=some v4/\w'.cell? p5=some v5/\w'.cell? p6=some v6/\w'.cell? p7=some v7/\w'.cell? p8=some v8/\w'.cell? p9=some v9:=by
 obtain ⟨c0,c1,c2,c3,c4,c5,c6,c7,c8,c9⟩:=h
 exact ⟨kcell hb c0,kcell hb c1,kcell hb c2,kcell hb c3,kcell hb c4,kcell hb c5,kcell hb c6,kcell hb c7,kcell hb c8,kcell hb c9⟩
theorem kA10 {p0 p1 p2 p3 p4 p5 p6 p7 p8 p9:Addr} {v0 v1 v2 v3 v4 v5 v6 v7 v8 v9:Value} (o:Obj) (h:w.cell? p0=some v0/\w.cell? p1=some v1/\w.cell? p2=some v2/\w.cell? p3=some v3/\w.cell? p4=some v4/\w.cell? p5=some v5/\w.cell? p6=some v6/\w.cell? p7=some v7/\w.cell? p8=some v8/\w.cell? p9=some v9):(w.alloc o).cell? p0=some v0/\(w.alloc o).cell? p1=some v1/\(w.alloc o).cell? p2=some v2/\(w.alloc o).cell? p3=some v3/\(w.alloc o).cell? p4=some v4/\(w.alloc o).cell? p5=some v5/\(w.alloc o).cell? p6=some v6/\(w.alloc o).cell? p7=some v7/\(w.alloc o).cell? p8=some v8/\(w.alloc o).cell? p9=some v9:=kB10 ((Below.refl _ _).alloc (Nat.le_refl _) _) h
end
end Go.Proofs.YteaplabkemoenaaGreat
namespace Go.Proofs.YteaplabkemoenaaGreat
open Go.ChangeShapes Go.WideShapes Go.ChangeAt Go.RowKit
attribute [local go_sem] ext_cell ext_frozen ext_lt ext_lt1 ext_lt2 ext_lt3 ltn2 ltn3 ltn13 lts1 lts2 lts3
theorem GrO.only {lo hi:Nat} {w w':World} {v:Value} {g:Gr} (h:GrO lo hi w v g) {l r:Nat} (hb:Only l r w w') (ho:hi<=l ∨ r<=lo):GrO lo hi w' v g:=by
 obtain ⟨vs,es,mid,rfl,h1,h2,h3,h4⟩:=h
 exact ⟨vs,es,mid,rfl,h1.only hb (by omega),h2.only hb (by omega),h3,h4⟩
theorem AuO.only {lo hi:Nat} {w w':World} {v:Value} {a:Au} (h:AuO lo hi w v a) {l r:Nat} (hb:Only l r w w') (ho:hi<=l ∨ r<=lo):AuO lo hi w' v a:=by
 obtain ⟨ac,nx,mid,rfl,h1,h2,h3,h4⟩:=h
 exact ⟨ac,nx,mid,rfl,h1.only hb (by omega),h2.only hb (by omega),h3,h4⟩
theorem filterMap_inj {α β:Type} {f:α->Option β} {L:List α} (h:(L.filterMap f).Nodup) {i j:Nat} {x y:α} (hi:L[i]?=some x) (hj:L[j]?=some y) {b:β} (hx:f x=some b) (hy:f y=some b):i=j:=by
 have hp:=List.pairwise_filterMap.1 h
 rw [List.pairwise_iff_getElem] at hp
 obtain ⟨hi1,hi2⟩:=List.getElem?_eq_some_iff.1 hi
 obtain ⟨hj1,hj2⟩:=List.getElem?_eq_some_iff.1 hj
 rcases Nat.lt_trichotomy i j with hl | he | hg
 · exact absurd rfl (hp i j hi1 hj1 hl b (by rw [hi2];exact hx) b (by rw [hj2];exact hy))
 · exact he
 · exact absurd rfl (hp j i hj1 hi1 hg b (by rw [hj2];exact hy) b (by rw [hi2];exact hx))
theorem NS.turn {α:Type} {lo:Nat} {w w':World} {oT eT:TypeId} {E:α->List Value} {k:Nat} {v:Value} {us:List Value} {xss:List (List α)} (h:NS lo w oT eT E k v us xss) {i:Nat} {u:Value} {xs':List α} (hu:us[i]?=some u)
 (hr:w'.ownsRow lo eT k u xs'.length (xs'.flatMap E)) (hb:∀ b ∈ blks (v :: us),u.ownBlock ≠ some b->w'.heap[b]?=w.heap[b]?):NS lo w' oT eT E k v us (xss.set i xs'):=by
 have hdis:=h.dis
 refine ⟨ownsRow_block h.own fun g hg=>hb g (mem_blks.2 ⟨0,v,rfl,hg⟩) fun e=>?_,by simp [h.len],fun j u2 xs2 hj hx=>?_,hdis⟩
 · have:=filterMap_inj (i:=0) (j:=i+1) hdis rfl (by simpa using hu) hg e
   omega
 · by_cases hij:i=j
   · subst hij
     rw [hu] at hj
     injection hj with hj
     subst hj
     have hl:=(List.getElem?_eq_some_iff.1 hx).1
     rw [List.length_set] at hl
     rw [List.getElem?_set_self hl] at hx
     injection hx with hx
     subst hx
     exact hr
   · rw [List.getElem?_set_ne hij] at hx
     refine ownsRow_block (h.rows j u2 xs2 hj hx) fun g hg=>hb g (mem_blks.2 ⟨j+1,u2,by simpa using hj,hg⟩) fun e=>?_
     have:=filterMap_inj (i:=i+1) (j:=j+1) hdis (by simpa using hu) (by simpa using hj) e hg
     omega
/-- rows of rows whose blocks all lie from lo to hi -/
def NSO (lo hi:Nat) (w:World) (v:Value) (xss:List (List Int)):Prop :=
 ∃ us,NS lo w 24 3 cI 1 v us xss/\∀ b ∈ blks (v :: us),b < hi
section
variable {lo hi:Nat} {w w':World} {v:Value} {xss:List (List Int)}
theorem NSO.of {us:List Value} (h:NS lo w 24 3 cI 1 v us xss):NSO lo w.heap.size w v xss:=⟨us,h,fun b hb=>(h.lt b hb).2⟩
theorem NSO.view (h:NSO lo hi w v xss):SSV lo hi w v xss:=by
 obtain ⟨us,h,hl⟩:=h
 refine ⟨us,Own.sl ⟨h.own,fun g hg=>hl g (mem_blks.2 ⟨0,v,rfl,hg⟩)⟩ cV_len,h.len,fun i u xs hu hx=>?_⟩
 exact Own.sl ⟨h.rows i u xs hu hx,fun g hg=>hl g (mem_blks.2 ⟨i+1,u,by simpa using hu,hg⟩)⟩ cI_len
theorem NSO.below (h:NSO lo hi w v xss) {B:Nat} (hb:Below B w w') (hB:hi<=B):NSO lo hi w' v xss:=by
 obtain ⟨us,h,hl⟩:=h
 exact ⟨us,h.blocks fun b hm=>hb.block b (by have:=hl b hm;omega),hl⟩
theorem NSO.only (h:NSO lo hi w v xss) {l r:Nat} (hb:Only l r w w') (ho:hi<=l ∨ r<=lo):NSO lo hi w' v xss:=by
 obtain ⟨us,h,hl⟩:=h
 exact ⟨us,h.blocks fun b hm=>hb.block b (h.lt b hm).2 (by have:=hl b hm;have:=(h.lt b hm).1;omega),hl⟩
theorem NSO.mono (h:NSO lo hi w v xss) {lo' hi':Nat} (h1:lo'<=lo) (h2:hi<=hi'):NSO lo' hi' w v xss:=by
 obtain ⟨us,h,hl⟩:=h
 exact ⟨us,h.mono h1,fun b hb=>by have:=hl b hb;omega⟩
end
theorem Only.kc {b:Nat} {w w':World} {p:Addr} {v:Value} (ho:Only b (b+1) w w') (hb:b < p.block) (x:w.cell? p=some v):w'.cell? p=some v :=
 (ho.cell (World.block_lt_of_cell? _ _ x) (.inr hb)).trans x
theorem own_only {lo k n l r:Nat} {e:TypeId} {v:Value} {cs:List Value} {w w':World} (h:w.ownsRow lo e k v n cs) (ho:Only l r w w') (hr:r<=lo):w'.ownsRow lo e k v n cs :=
 ownsRow_block h fun g hg=>ho.block g (h.lt g hg).2 (.inr (Nat.le_trans hr (h.lt g hg).1))
theorem Cur.below {w w':World} {b B:Nat} (h:Cur w b) (hb:Below B w w') (hB:b < B):Cur w' b:=by
 obtain ⟨A,bs,c,i,g,h1,h2,h3⟩:=h
 exact ⟨A,bs,c,i,g,h1.below hb hB,h2.below hb (Nat.le_of_lt hB),h3⟩
theorem Cur.set {w:World} {b:Nat} {p:Addr} (h:Cur w b) (hp:b < p.block) (u:Value):Cur (w.setCell p u) b :=
 h.only ((Only.refl p.block (p.block+1) w).setCell (.inl ⟨Nat.le_refl _,Nat.lt_succ_self _⟩) u) hp
theorem Only.andBelow {l r B:Nat} {w a c:World} (h:Only l r w a) (hb:Below B a c) (hB:w.heap.size<=B):Only l r w c :=
 ⟨hb.os.trans h.os,hb.tape.trans h.tape,hb.output.trans h.output,Nat.le_trans h.size hb.size,fun n h1 h2=>(hb.block n (Nat.lt_of_lt_of_le h1 hB)).trans (h.block n h1 h2)⟩
theorem Blk.put2 {w:World} {g:Nat} {t:TypeId} {c0 c1:Value} (h:Blk w g t #[c0,c1]) (d0 d1:Value):Blk ((w.setCell ⟨g,0,none⟩ d0).setCell ⟨g,1,none⟩ d1) g t #[d0,d1]:=by
 have:=(h.set_ 0 d0).set_ 1 d1
 simpa using this
theorem Only.put2 (w:World) (g:Nat) (d0 d1:Value):Only g (g+1) w ((w.setCell ⟨g,0,none⟩ d0).setCell ⟨g,1,none⟩ d1):=((Only.refl _ _ _).setCell (p:=⟨g,0,none⟩) (.inl ⟨Nat.le_refl _,Nat.lt_succ_self _⟩) d0).setCell (p:=⟨g,1,none⟩) (.inl ⟨Nat.le_refl _,Nat.lt_succ_self _⟩) d1
theorem rowShape {lo k n:Nat} {e:TypeId} {v:Value} {cs:List Value} {w:World} (h:w.ownsRow lo e k v n cs):∃ A n c,v=.slice A n c:=by
 obtain ⟨_,hs⟩:=h
 rcases hs with ⟨rfl,_⟩ | ⟨g,cap,cur,rfl,_⟩
 · exact ⟨_,_,_,rfl⟩
 · exact ⟨_,_,_,rfl⟩
set_option maxHeartbeats 1000000 in
theorem l1New_any (v:Value) (bs:List Int) (w:World) (hv:SlI 0 w.heap.size w cU 1 v bs) :
 Calls Tryz.prog 36 #[v] w fun e w'=>∃ b,e=.returned (.pointer (some ⟨b,0,none⟩))/\w.heap.size<=b/\Cur w' b/\Below w.heap.size w w':=by
 have HV:=Hd_ hv
 obtain ⟨A,c,rfl,hl,hm,hx⟩:=hv
 unfold maxLen at hm
 have HX:=Hd_ hx
 clear hx
 go_enter Tryz.func36,Tryz.ntmps36
 go_wp2
 go_loop [3,4] (fun hh ii=>∃ (i:Nat) (h:Int),i<=bs.length/\hh=.int .i64 h/\ii=.int .i64 i) (fun _ ii=>bs.length - (intOf ii).toNat)
 case atStart=>exact ⟨0,_,Nat.zero_le _,rfl,rfl⟩
 case round =>
  obtain ⟨i,h,hi,rfl,rfl⟩:=hrel
  by_cases hlt:i < bs.length
  · have hxi:bs[i]?=some bs[i]:=List.getElem?_eq_getElem hlt
    obtain ⟨q,o,rfl,-,hq,hcc⟩:=HX.out i _ hxi
    generalize bs[i]=y at hcc
    have c0:=hcc 0 _ rfl
    simp only [Nat.add_zero,Nat.mul_one] at c0
    clear hcc hxi
    by_cases h4:(i:Int) < 4000
    · go_wp2
      go_round
      case rel=>exact ⟨i+1,_,by omega,rfl,by go_num⟩
      case measure=>simp [intOf];omega
    · go_wp2
      go_ret
      refine ⟨_,rfl,Nat.le_refl _,⟨_,bs,c,0,h,Blk.new w _ _ _ rfl,?_,by omega,by omega⟩,(Below.refl _ _).alloc (Nat.le_refl _) _⟩
      exact HV.out.below ((Below.refl _ _).alloc (Nat.le_refl _) _) (Nat.le_refl _)
  · go_wp2
    go_ret
    refine ⟨_,rfl,Nat.le_refl _,⟨_,bs,c,0,h,Blk.new w _ _ _ rfl,?_,by omega,by omega⟩,(Below.refl _ _).alloc (Nat.le_refl _) _⟩
    exact HV.out.below ((Below.refl _ _).alloc (Nat.le_refl _) _) (Nat.le_refl _)
end Go.Proofs.YteaplabkemoenaaGreat
