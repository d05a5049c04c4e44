/- Parts of the proof, joined into one text: Base, Frame, Open, Hold, Grow, Tail, HelpInt, HelpEdge, HelpGraph, HelpBool, HelpSS, Keep, Math, ProdM, View, Bits. -/
import Derived.Test.YtloeghbhoflabaaRows
import Derived.WalkKit
import Derived.ProofKit
import Derived.OpenShut
import Derived.Deep.QuietTactic
import Derived.BigQuiet
import Derived.Lib.Hide
import Derived.Maps.AppendAt
import Derived.Outline
import Derived.Deep.DeepMust
import Derived.Carry
import Derived.Deep.Slices
import Derived.Deep.Fields
import Derived.Lib.SmallJoins
import Derived.StillTail
import Derived.Deep.RegionHeld
import Derived.Laws.BitsAll
import Derived.IntWalk
set_option linter.unusedVariables false
set_option linter.unusedSimpArgs false
namespace Go.Proofs.Ytloeghbhoflabaa
open Go.ChangeShapes Go.WideShapes Go.ChangeAt Go.RowKit
theorem Hd_ {p:Prop} (h:p):RowKit.Hid p:=h
def ext (w u:World):World:={ u with heap:=w.heap ++ u.heap.extract w.heap.size u.heap.size,os:=w.os,tape:=w.tape,output:=w.output }
theorem ext_below (w u:World):Below w.heap.size w (ext w u) :=
 ⟨rfl,rfl,rfl,by simp [ext],fun k hk=>by simp [ext,Array.getElem?_append,hk]⟩
theorem ext_of {w w':World} (h:Below w.heap.size w w'):∃ u,w'=ext w u:=by
 refine ⟨w',?_⟩
 obtain ⟨h1,h2,h3,h4,h5⟩:=h
 have hh:w.heap ++ w'.heap.extract w.heap.size w'.heap.size=w'.heap:=by
  apply Array.ext_getElem?
  intro i
  rw [Array.getElem?_append]
  split
  · rename_i hi
    exact (h5 i hi).symm
  · rw [Array.getElem?_extract]
    split
    · congr 1;omega
    · rw [Array.getElem?_eq_none];omega
 cases w'
 simp only [ext] at *
 simp_all
theorem ext_cell {w u:World} {b o:Nat} (h:b < w.heap.size):(ext w u).cell? ⟨b,o,none⟩=w.cell? ⟨b,o,none⟩:=(ext_below w u).cell (p:=⟨b,o,none⟩) h
theorem ext_frozen {w u:World} {b o:Nat} (h:b < w.heap.size):(ext w u).frozen? ⟨b,o,none⟩=w.frozen? ⟨b,o,none⟩:=(ext_below w u).frozen (p:=⟨b,o,none⟩) h
theorem ext_size (w u:World):w.heap.size<=(ext w u).heap.size:=(ext_below w u).size
theorem ext_lt {w u:World} {b:Nat} (h:b < w.heap.size):(b < (ext w u).heap.size)=True:=by
 have:=ext_size w u
 simp;omega
theorem ext_lt1 {w u:World} {b:Nat} (h:b < w.heap.size):(b < (ext w u).heap.size+1)=True:=by
 have:=ext_size w u
 simp;omega
theorem ext_lt2 {w u:World} {b:Nat} (h:b < w.heap.size):(b < (ext w u).heap.size+1+1)=True:=by
 have:=ext_size w u
 simp;omega
theorem ext_lt3 {w u:World} {b:Nat} (h:b < w.heap.size):(b < (ext w u).heap.size+1+1+1)=True:=by
 have:=ext_size w u
 simp;omega
theorem ltn2 (n:Nat):(n < n+1+1)=True:=eq_true (by omega)
theorem ltn3 (n:Nat):(n < n+1+1+1)=True:=eq_true (by omega)
theorem ltn13 (n:Nat):(n+1 < n+1+1+1)=True:=eq_true (by omega)
theorem lts1 {b n:Nat} (h:b < n):(b < n+1)=True:=eq_true (by omega)
theorem lts2 {b n:Nat} (h:b < n):(b < n+1+1)=True:=eq_true (by omega)
theorem lts3 {b n:Nat} (h:b < n):(b < n+1+1+1)=True:=eq_true (by omega)
theorem below_trans {a b c:World} (h:Below a.heap.size a b) (k:Below b.heap.size b c):Below a.heap.size a c:=h.trans (k.mono h.size)
theorem ext_ext (w u v:World):∃ x,ext (ext w u) v=ext w x:=ext_of (below_trans (ext_below w u) (ext_below _ v))
theorem ext_self (w:World):w=ext w w:=by
 obtain ⟨u,hu⟩:=ext_of (Below.refl w.heap.size w)
 have h:ext w w=w:=by
  cases w
  simp [ext]
 exact h.symm
theorem Calls.ext_of {P:Program} {f:FuncId} {args:Array Value} {w u:World} {v:Value}
 (h:Calls P f args (ext w u) fun e w'=>e=.returned v/\Below (ext w u).heap.size (ext w u) w'):Calls P f args (ext w u) fun e w''=>e=.returned v/\∃ x,w''=ext w x :=
 h.mono fun _ _ ⟨he,hb⟩=>⟨he,Go.Proofs.Ytloeghbhoflabaa.ext_of (below_trans (ext_below w u) hb)⟩
theorem wp_region_ext_lit {P:Program} {id:Nat} {Q:Exit->Act->World->Prop} {a:Act} {w:World} {l:List Oper} (hm:P.follows .mixedOrders=true) (hB:Region.lexB .any l.toArray=true)
 (h:wpQuiet P l.toArray (fun w'=>∃ u,w'=ext w u) (fun a'=>∀ w',(∃ u,w'=ext w u)->Q .normal a' w') l a):(Code.region id l.toArray true).wp P Q a w :=
 wp_region_quiet (C:=fun w'=>∃ u,w'=ext w u) hm hB (Go.Proofs.Ytloeghbhoflabaa.ext_of ⟨rfl,rfl,rfl,Nat.le_refl _,fun _ _=>rfl⟩) (by simpa using h)
structure Only (lo hi:Nat) (w w':World):Prop where
 os:w'.os=w.os
 tape:w'.tape=w.tape
 output:w'.output=w.output
 size:w.heap.size<=w'.heap.size
 block:∀ n,n < w.heap.size->(n < lo ∨ hi<=n)->w'.heap[n]?=w.heap[n]?
theorem Only.of_below {w w':World} (h:Below w.heap.size w w') (lo hi:Nat):Only lo hi w w':=⟨h.os,h.tape,h.output,h.size,fun n hn _=>h.block n hn⟩
theorem Only.refl (lo hi:Nat) (w:World):Only lo hi w w:=⟨rfl,rfl,rfl,Nat.le_refl _,fun _ _ _=>rfl⟩
theorem Only.trans {lo hi:Nat} {a b c:World} (h:Only lo hi a b) (k:Only lo hi b c):Only lo hi a c :=
 ⟨k.os.trans h.os,k.tape.trans h.tape,k.output.trans h.output,Nat.le_trans h.size k.size,fun n hn ho=>(k.block n (Nat.lt_of_lt_of_le hn h.size) ho).trans (h.block n hn ho)⟩
theorem Only.mono {lo hi lo' hi':Nat} {a b:World} (h:Only lo hi a b) (h1:lo'<=lo) (h2:hi<=hi'):Only lo' hi' a b :=
 ⟨h.os,h.tape,h.output,h.size,fun n hn ho=>h.block n hn (by omega)⟩
theorem Only.below {lo hi:Nat} {a b:World} (h:Only lo hi a b) {B:Nat} (hB:B<=lo) (hs:B<=a.heap.size):Below B a b :=
 ⟨h.os,h.tape,h.output,h.size,fun n hn=>h.block n (by omega) (.inl (by omega))⟩
theorem Only.drew {lo hi:Nat} {a b:World} (h:Only lo hi a b):Only lo hi a b.drew:=⟨h.os,h.tape,h.output,h.size,h.block⟩
theorem Only.drewN {lo hi:Nat} {a b:World} (h:Only lo hi a b) (n:Nat):Only lo hi a (b.drewN n):=⟨h.os,h.tape,h.output,h.size,h.block⟩
theorem Only.alloc {lo hi:Nat} {a b:World} (h:Only lo hi a b) (o:Obj):Only lo hi a (b.alloc o) :=
 h.trans ⟨rfl,rfl,rfl,by simp,fun n hn _=>Below.heap_alloc _ _ _ hn⟩
theorem Only.setCell {lo hi:Nat} {a b:World} (h:Only lo hi a b) {p:Addr} (h1:lo<=p.block/\p.block < hi ∨ a.heap.size<=p.block) (u:Value):Only lo hi a (b.setCell p u) :=
 ⟨h.os,h.tape,h.output,by simpa [World.setCell] using h.size,fun n hn ho=>(Below.heap_setCell _ _ _ _ (by omega)).trans (h.block n hn ho)⟩
theorem Only.cell {lo hi:Nat} {w w':World} (h:Only lo hi w w') {p:Addr} (hp:p.block < w.heap.size) (ho:p.block < lo ∨ hi<=p.block):w'.cell? p=w.cell? p:=World.cell?_of_block (w:=w) (h.block p.block hp ho)
def SlI {α:Type} (lo hi:Nat) (w:World) (E:α->List Value) (k:Nat) (v:Value) (xs:List α):Prop :=
 ∃ A c,v=.slice A xs.length c/\xs.length<=c/\c<=maxLen /\
   ∀ i x,xs[i]?=some x->∃ b o,A=some ⟨b,o,none⟩/\lo<=b/\b < hi/\∀ j u,(E x)[j]?=some u->w.cell? ⟨b,o+i * k+j,none⟩=some u
abbrev SlE {α:Type} (w:World) (E:α->List Value) (k:Nat) (v:Value) (xs:List α):Prop:=SlI 0 w.heap.size w E k v xs
section
variable {α:Type} {lo hi:Nat} {w w':World} {E:α->List Value} {k:Nat} {v:Value} {xs:List α}
theorem SlI.keep_ (h:SlI lo hi w E k v xs) (hb:∀ b o,lo<=b->b < hi->w'.cell? ⟨b,o,none⟩=w.cell? ⟨b,o,none⟩):SlI lo hi w' E k v xs:=by
 obtain ⟨A,c,hv,hl,hm,hx⟩:=h
 refine ⟨A,c,hv,hl,hm,fun i x hi=>?_⟩
 obtain ⟨b,o,hA,h1,h2,hc⟩:=hx i x hi
 exact ⟨b,o,hA,h1,h2,fun j u hu=>(hb _ _ h1 h2).trans (hc j u hu)⟩
theorem SlI.below (h:SlI lo hi w E k v xs) {B:Nat} (hb:Below B w w') (hB:hi<=B):SlI lo hi w' E k v xs :=
 h.keep_ fun b o _ h2=>hb.cell (p:=⟨b,o,none⟩) (show b < B by omega)
theorem SlI.only (h:SlI lo hi w E k v xs) {l r:Nat} (hb:Only l r w w') (hh:hi<=w.heap.size) (ho:hi<=l ∨ r<=lo):SlI lo hi w' E k v xs :=
 h.keep_ fun b o h1 h2=>hb.cell (p:=⟨b,o,none⟩) (show b < _ by omega) (show b < l ∨ r<=b by omega)
theorem SlI.mono (h:SlI lo hi w E k v xs) {lo' hi':Nat} (h1:lo'<=lo) (h2:hi<=hi'):SlI lo' hi' w E k v xs:=by
 obtain ⟨A,c,hv,hl,hm,hx⟩:=h
 refine ⟨A,c,hv,hl,hm,fun i x hi=>?_⟩
 obtain ⟨b,o,hA,g1,g2,hc⟩:=hx i x hi
 exact ⟨b,o,hA,by omega,by omega,hc⟩
theorem SlI.all (h:SlI lo hi w E k v xs) (hh:hi<=w.heap.size):SlE w E k v xs:=h.mono (Nat.zero_le _) hh
theorem SlE.keep (h:SlE w E k v xs) (hb:Below w.heap.size w w'):SlE w' E k v xs:=(SlI.below h hb (Nat.le_refl _)).mono (Nat.le_refl _) hb.size
theorem SlE.ext (h:SlE w E k v xs) (u:World):SlE (ext w u) E k v xs:=h.keep (ext_below w u)
theorem SlI.shape (h:SlI lo hi w E k v xs):∃ A n c,v=.slice A n c:=by
 obtain ⟨A,c,rfl,_⟩:=h
 exact ⟨_,_,_,rfl⟩
theorem SlI.nil (lo hi:Nat) (w:World) (E:α->List Value) (k:Nat):SlI lo hi w E k (.slice none 0 0) []:=⟨none,0,rfl,Nat.le_refl _,by unfold maxLen;omega,by simp⟩
end
def Own {α:Type} (lo hi:Nat) (w:World) (e:TypeId) (E:α->List Value) (k:Nat) (v:Value) (xs:List α):Prop :=
 w.ownsRow lo e k v xs.length (xs.flatMap E)/\∀ g,v.ownBlock=some g->g < hi
theorem flat_at {α:Type} {E:α->List Value} {k:Nat} (hE:∀ x,(E x).length=k):∀ {xs:List α} {i:Nat} {x:α},xs[i]?=some x->∀ j u,(E x)[j]?=some u->(xs.flatMap E)[i * k+j]?=some u:=by
 intro xs
 induction xs with
 | nil=>intro i x h;simp at h
 | cons y ys ih =>
   intro i x h j u hu
   have hj:j < k:=by have:=(List.getElem?_eq_some_iff.1 hu).1;rw [hE] at this;exact this
   cases i with
   | zero =>
     have hxy:y=x:=by simpa using h
     subst hxy
     simp only [List.flatMap_cons,Nat.zero_mul,Nat.zero_add]
     rw [List.getElem?_append_left (by rw [hE];exact hj)]
     exact hu
   | succ i =>
     simp only [List.flatMap_cons]
     rw [List.getElem?_append_right (by rw [hE,Nat.succ_mul];omega),hE]
     have:=ih (i:=i) (x:=x) (by simpa using h) j u hu
     rw [<- this]
     congr 1
     rw [Nat.succ_mul];omega
section
variable {α:Type} {lo hi:Nat} {w w':World} {e:TypeId} {E:α->List Value} {k:Nat} {v:Value} {xs:List α}
theorem Own.lt (h:Own lo hi w e E k v xs):∀ g,v.ownBlock=some g->lo<=g/\g < hi/\g < w.heap.size:=fun g hg=>⟨(h.1.lt g hg).1,h.2 g hg,(h.1.lt g hg).2⟩
theorem Own.sl (h:Own lo hi w e E k v xs) (hE:∀ x,(E x).length=k):SlI lo hi w E k v xs:=by
 obtain ⟨hr,hlt⟩:=h
 have hr':=hr
 obtain ⟨hl,hs⟩:=hr'
 rcases hs with ⟨rfl,hn⟩ | ⟨g,cap,cur,rfl,hg,hh,hnc,hcm,hsz,htk⟩
 · have:xs=[]:=List.eq_nil_of_length_eq_zero hn
   subst this
   exact SlI.nil _ _ _ _ _
 · refine ⟨_,cap,rfl,hnc,hcm,fun i x hi=>⟨g,0,rfl,hg,hlt g rfl,fun j u hu=>?_⟩⟩
   have hf:=flat_at hE hi j u hu
   have hj:=(List.getElem?_eq_some_iff.1 hf).1
   rw [hl] at hj
   rw [Nat.zero_add]
   exact (World.ownsRow.cellAt hr _ hj).trans hf
theorem Own.kept (h:Own lo hi w e E k v xs) {row:Option Nat} (hg:w.grownBy w' row) (hne:v.ownBlock=none ∨ v.ownBlock ≠ row):Own lo hi w' e E k v xs:=⟨h.1.kept hg hne,h.2⟩
theorem Own.below (h:Own lo hi w e E k v xs) {B:Nat} (hb:Below B w w') (hB:hi<=B):Own lo hi w' e E k v xs:=by
 obtain ⟨⟨hl,hs⟩,hlt⟩:=h
 refine ⟨⟨hl,?_⟩,hlt⟩
 rcases hs with hs | ⟨g,cap,cur,rfl,hg,hh,r⟩
 · exact .inl hs
 · exact .inr ⟨g,cap,cur,rfl,hg,(hb.block g (by have:=hlt g rfl;omega)).trans hh,r⟩
theorem Own.only (h:Own lo hi w e E k v xs) {l r:Nat} (hb:Only l r w w') (ho:hi<=l ∨ r<=lo):Own lo hi w' e E k v xs:=by
 have hx:=h.lt
 obtain ⟨⟨hl,hs⟩,hlt⟩:=h
 refine ⟨⟨hl,?_⟩,hlt⟩
 rcases hs with hs | ⟨g,cap,cur,rfl,hg,hh,rr⟩
 · exact .inl hs
 · have:=hx g rfl
   exact .inr ⟨g,cap,cur,rfl,hg,(hb.block g this.2.2 (by omega)).trans hh,rr⟩
theorem Own.mono (h:Own lo hi w e E k v xs) {lo' hi':Nat} (h1:lo'<=lo) (h2:hi<=hi'):Own lo' hi' w e E k v xs:=by
 obtain ⟨⟨hl,hs⟩,hlt⟩:=h
 refine ⟨⟨hl,?_⟩,fun g hg=>Nat.lt_of_lt_of_le (hlt g hg) h2⟩
 rcases hs with hs | ⟨g,cap,cur,rfl,hg,hh,r⟩
 · exact .inl hs
 · exact .inr ⟨g,cap,cur,rfl,by omega,hh,r⟩
theorem Own.of_row {n:Nat} {cs:List Value} (h:w.ownsRow lo e k v n cs) (hn:xs.length=n) (hc:xs.flatMap E=cs):Own lo w.heap.size w e E k v xs:=by
 subst hn hc
 exact ⟨h,fun g hg=>(h.lt g hg).2⟩
theorem Own.shape (h:Own lo hi w e E k v xs):∃ A n c,v=.slice A n c:=by
 obtain ⟨⟨_,hs⟩,_⟩:=h
 rcases hs with ⟨rfl,_⟩ | ⟨g,cap,cur,rfl,_⟩
 · exact ⟨_,_,_,rfl⟩
 · exact ⟨_,_,_,rfl⟩
theorem Own.nil (lo hi:Nat) (w:World) (e:TypeId) (E:α->List Value) (k:Nat):Own lo hi w e E k (.slice none 0 0) []:=⟨World.ownsRow_nil w lo e k,by intro g hg;cases hg⟩
end
def Blk (w:World) (g:Nat) (t:TypeId) (cs:Array Value):Prop:=w.heap[g]?=some (.cells cs t (0,0))
section
variable {w w':World} {g:Nat} {t:TypeId} {cs:Array Value}
theorem Blk.lt (h:Blk w g t cs):g < w.heap.size:=by
 rcases Nat.lt_or_ge g w.heap.size with hlt | hge
 · exact hlt
 · unfold Blk at h;rw [Array.getElem?_eq_none hge] at h;cases h
theorem Blk.cell (h:Blk w g t cs) (i:Nat):w.cell? ⟨g,i,none⟩=cs[i]?:=cell_of_row w g i cs t (0,0) h
theorem Blk.frozen (h:Blk w g t cs) (i:Nat):w.frozen? ⟨g,i,none⟩=false:=by
 unfold Blk at h
 simp [World.frozen?,h]
theorem Blk.new (w:World) (t:TypeId) (cs:Array Value) (n:Nat) (hn:n=w.heap.size):Blk (w.alloc (.cells cs t)) n t cs:=by subst hn;exact heap_alloc_new w _
theorem Blk.drew (h:Blk w g t cs):Blk w.drew g t cs:=h
theorem Blk.drewN (h:Blk w g t cs) (n:Nat):Blk (w.drewN n) g t cs:=h
theorem Blk.alloc (h:Blk w g t cs) (o:Obj):Blk (w.alloc o) g t cs:=(Below.heap_alloc w o g h.lt).trans h
theorem Blk.set_ (h:Blk w g t cs) (i:Nat) (u:Value):Blk (w.setCell ⟨g,i,none⟩ u) g t (cs.setIfInBounds i u):=by
 unfold Blk at h ⊢
 simp [World.setCell,Array.getElem?_modify,h]
theorem Blk.far (h:Blk w g t cs) {p:Addr} (hp:g ≠ p.block) (u:Value):Blk (w.setCell p u) g t cs:=(Below.heap_setCell w p u g hp).trans h
theorem Blk.below (h:Blk w g t cs) {B:Nat} (hb:Below B w w') (hg:g < B):Blk w' g t cs:=(hb.block g hg).trans h
theorem Blk.keep (h:Blk w g t cs) (hb:Below w.heap.size w w'):Blk w' g t cs:=(hb.block g h.lt).trans h
theorem Blk.only (h:Blk w g t cs) {l r:Nat} (hb:Only l r w w') (ho:g < l ∨ r<=g):Blk w' g t cs:=(hb.block g h.lt ho).trans h
end
abbrev Pr:=Int × Int
abbrev Ed:=Int × Int × Int × Int
abbrev St:=Int × Bool
abbrev Wk:=Int × List St
def cI (x:Int):List Value:=[.int .i64 x]
def cB (x:Bool):List Value:=[.bool x]
def cV (x:Value):List Value:=[x]
def cPr (p:Pr):List Value:=[.int .i64 p.1,.int .i64 p.2]
def cEd (p:Ed):List Value:=[.int .i64 p.1,.int .i64 p.2.1,.int .i64 p.2.2.1,.int .i64 p.2.2.2]
def cSt (p:St):List Value:=[.int .i64 p.1,.bool p.2]
theorem cI_len (x:Int):(cI x).length=1:=rfl
theorem cB_len (x:Bool):(cB x).length=1:=rfl
theorem cV_len (x:Value):(cV x).length=1:=rfl
theorem cPr_len (x:Pr):(cPr x).length=2:=rfl
theorem cEd_len (x:Ed):(cEd x).length=4:=rfl
theorem cPr_one (x:Pr):∀ u ∈ cPr x,u.oneCell'=true:=by intro u hu;simp only [cPr,List.mem_cons,List.not_mem_nil,or_false] at hu;rcases hu with rfl | rfl <;> rfl
structure Gr where
 vals:List Int
 edges:List Ed
structure Au where
 start:Int
 accept:List Bool
 next:List (List Int)
def GrV (lo hi:Nat) (w:World) (v:Value) (g:Gr):Prop:=∃ vs es,v=.agg #[vs,es]/\SlI lo hi w cI 1 vs g.vals/\SlI lo hi w cEd 4 es g.edges
/-- a slice of slices of numbers -/
def SSV (lo hi:Nat) (w:World) (v:Value) (xss:List (List Int)):Prop :=
 ∃ vs:List Value,SlI lo hi w cV 1 v vs/\vs.length=xss.length/\∀ (i:Nat) (u:Value) (xs:List Int),vs[i]?=some u->xss[i]?=some xs->SlI lo hi w cI 1 u xs
def AuV (lo hi:Nat) (w:World) (v:Value) (a:Au):Prop:=∃ ac nx,v=.agg #[.int .i64 a.start,ac,nx]/\SlI lo hi w cB 1 ac a.accept/\SSV lo hi w nx a.next
def WkV (lo hi:Nat) (w:World) (v:Value) (k:Wk):Prop:=∃ ss,v=.agg #[.int .i64 k.1,ss]/\SlI lo hi w cSt 2 ss k.2
section
variable {lo hi:Nat} {w w':World} {v:Value}
theorem GrV.below {g:Gr} (h:GrV lo hi w v g) {B:Nat} (hb:Below B w w') (hB:hi<=B):GrV lo hi w' v g:=by
 obtain ⟨vs,es,rfl,h1,h2⟩:=h
 exact ⟨vs,es,rfl,h1.below hb hB,h2.below hb hB⟩
theorem GrV.mono {g:Gr} (h:GrV lo hi w v g) {lo' hi':Nat} (h1:lo'<=lo) (h2:hi<=hi'):GrV lo' hi' w v g:=by
 obtain ⟨vs,es,rfl,g1,g2⟩:=h
 exact ⟨vs,es,rfl,g1.mono h1 h2,g2.mono h1 h2⟩
theorem GrV.all {g:Gr} (h:GrV lo hi w v g) (hh:hi<=w.heap.size):GrV 0 w.heap.size w v g:=h.mono (Nat.zero_le _) hh
theorem GrV.keep {g:Gr} (h:GrV 0 w.heap.size w v g) (hb:Below w.heap.size w w'):GrV 0 w'.heap.size w' v g:=(h.below hb (Nat.le_refl _)).mono (Nat.le_refl _) hb.size
theorem GrV.only {g:Gr} (h:GrV lo hi w v g) {l r:Nat} (hb:Only l r w w') (hh:hi<=w.heap.size) (ho:hi<=l ∨ r<=lo):GrV lo hi w' v g:=by
 obtain ⟨vs,es,rfl,g1,g2⟩:=h
 exact ⟨vs,es,rfl,g1.only hb hh ho,g2.only hb hh ho⟩
theorem SSV.below {x:List (List Int)} (h:SSV lo hi w v x) {B:Nat} (hb:Below B w w') (hB:hi<=B):SSV lo hi w' v x:=by
 obtain ⟨vs,h1,h2,h3⟩:=h
 exact ⟨vs,h1.below hb hB,h2,fun i u xs hu hx=>(h3 i u xs hu hx).below hb hB⟩
theorem SSV.shape {x:List (List Int)} (h:SSV lo hi w v x):∃ A n c,v=.slice A n c:=by
 obtain ⟨vs,h1,_⟩:=h
 exact h1.shape
theorem AuV.shape {a:Au} (h:AuV lo hi w v a):∃ A1 n1 c1 A2 n2 c2,v=.agg #[.int .i64 a.start,.slice A1 n1 c1,.slice A2 n2 c2]:=by
 obtain ⟨vs,es,rfl,h1,h2⟩:=h
 obtain ⟨A1,n1,c1,rfl⟩:=h1.shape
 obtain ⟨A2,n2,c2,rfl⟩:=h2.shape
 exact ⟨_,_,_,_,_,_,rfl⟩
theorem GrV.shape {g:Gr} (h:GrV lo hi w v g):∃ A1 n1 c1 A2 n2 c2,v=.agg #[.slice A1 n1 c1,.slice A2 n2 c2]:=by
 obtain ⟨vs,es,rfl,h1,h2⟩:=h
 obtain ⟨A1,n1,c1,rfl⟩:=h1.shape
 obtain ⟨A2,n2,c2,rfl⟩:=h2.shape
 exact ⟨_,_,_,_,_,_,rfl⟩
theorem WkV.shape {k:Wk} (h:WkV lo hi w v k):∃ A1 n1 c1,v=.agg #[.int .i64 k.1,.slice A1 n1 c1]:=by
 obtain ⟨vs,rfl,h1⟩:=h
 obtain ⟨A1,n1,c1,rfl⟩:=h1.shape
 exact ⟨_,_,_,rfl⟩
theorem SSV.mono {x:List (List Int)} (h:SSV lo hi w v x) {lo' hi':Nat} (h1:lo'<=lo) (h2:hi<=hi'):SSV lo' hi' w v x:=by
 obtain ⟨vs,g1,g2,g3⟩:=h
 exact ⟨vs,g1.mono h1 h2,g2,fun i u xs hu hx=>(g3 i u xs hu hx).mono h1 h2⟩
theorem SSV.all {x:List (List Int)} (h:SSV lo hi w v x) (hh:hi<=w.heap.size):SSV 0 w.heap.size w v x:=h.mono (Nat.zero_le _) hh
theorem SSV.keep {x:List (List Int)} (h:SSV 0 w.heap.size w v x) (hb:Below w.heap.size w w'):SSV 0 w'.heap.size w' v x:=(h.below hb (Nat.le_refl _)).mono (Nat.le_refl _) hb.size
theorem SSV.only {x:List (List Int)} (h:SSV lo hi w v x) {l r:Nat} (hb:Only l r w w') (hh:hi<=w.heap.size) (ho:hi<=l ∨ r<=lo):SSV lo hi w' v x:=by
 obtain ⟨vs,g1,g2,g3⟩:=h
 exact ⟨vs,g1.only hb hh ho,g2,fun i u xs hu hx=>(g3 i u xs hu hx).only hb hh ho⟩
theorem AuV.below {a:Au} (h:AuV lo hi w v a) {B:Nat} (hb:Below B w w') (hB:hi<=B):AuV lo hi w' v a:=by
 obtain ⟨vs,es,rfl,h1,h2⟩:=h
 exact ⟨vs,es,rfl,h1.below hb hB,h2.below hb hB⟩
theorem AuV.mono {a:Au} (h:AuV lo hi w v a) {lo' hi':Nat} (h1:lo'<=lo) (h2:hi<=hi'):AuV lo' hi' w v a:=by
 obtain ⟨vs,es,rfl,g1,g2⟩:=h
 exact ⟨vs,es,rfl,g1.mono h1 h2,g2.mono h1 h2⟩
theorem AuV.all {a:Au} (h:AuV lo hi w v a) (hh:hi<=w.heap.size):AuV 0 w.heap.size w v a:=h.mono (Nat.zero_le _) hh
theorem AuV.keep {a:Au} (h:AuV 0 w.heap.size w v a) (hb:Below w.heap.size w w'):AuV 0 w'.heap.size w' v a:=(h.below hb (Nat.le_refl _)).mono (Nat.le_refl _) hb.size
theorem AuV.only {a:Au} (h:AuV lo hi w v a) {l r:Nat} (hb:Only l r w w') (hh:hi<=w.heap.size) (ho:hi<=l ∨ r<=lo):AuV lo hi w' v a:=by
 obtain ⟨vs,es,rfl,g1,g2⟩:=h
 exact ⟨vs,es,rfl,g1.only hb hh ho,g2.only hb hh ho⟩
theorem WkV.below {a:Wk} (h:WkV lo hi w v a) {B:Nat} (hb:Below B w w') (hB:hi<=B):WkV lo hi w' v a:=by
 obtain ⟨vs,rfl,h1⟩:=h
 exact ⟨vs,rfl,h1.below hb hB⟩
theorem WkV.mono {a:Wk} (h:WkV lo hi w v a) {lo' hi':Nat} (h1:lo'<=lo) (h2:hi<=hi'):WkV lo' hi' w v a:=by
 obtain ⟨vs,rfl,g1⟩:=h
 exact ⟨vs,rfl,g1.mono h1 h2⟩
theorem WkV.all {a:Wk} (h:WkV lo hi w v a) (hh:hi<=w.heap.size):WkV 0 w.heap.size w v a:=h.mono (Nat.zero_le _) hh
theorem WkV.keep {a:Wk} (h:WkV 0 w.heap.size w v a) (hb:Below w.heap.size w w'):WkV 0 w'.heap.size w' v a:=(h.below hb (Nat.le_refl _)).mono (Nat.le_refl _) hb.size
theorem WkV.only {a:Wk} (h:WkV lo hi w v a) {l r:Nat} (hb:Only l r w w') (hh:hi<=w.heap.size) (ho:hi<=l ∨ r<=lo):WkV lo hi w' v a:=by
 obtain ⟨vs,rfl,g1⟩:=h
 exact ⟨vs,rfl,g1.only hb hh ho⟩
end
theorem take_snoc {α:Type} {xs:List α} {k:Nat} {x:α} (hx:xs[k]?=some x):xs.take (k+1)=xs.take k ++ [x]:=by
 rw [List.take_add_one,hx];rfl
section
variable {H:Type} {enc:TypeId × Value->H} {P:Program}
theorem keep_all (hl:laidOutB P=true) {W W':World} (hb:Below W.heap.size W W'):∀ (ts:List TypeId),ts.all (fun t=>P.readableRec t && decide (t < P.types.size))=true ->
 ∀ (vs:List Value) (ds:List (DataW H)) (ps:List MemPlace),DataW.TrodAll enc P W 0 (fun _=>true) true ts vs ds ps->∀ sp:Nat->Bool,(∀ x ∈ ps,x.block < W.heap.size/\sp x.block=true) ->
 DataW.TrodAll enc P W' 0 sp true ts vs ds ps:=by
 intro ts
 induction ts with
 | nil =>
   intro _ vs ds ps h _ _
   obtain ⟨rfl,rfl,rfl⟩:=trodAll_nil h
   exact trodAll_mk0
 | cons t ts ih =>
   intro hr vs ds ps h sp hlt
   simp only [List.all_cons,Bool.and_eq_true,decide_eq_true_eq] at hr
   obtain ⟨v,vs',d,ds',p,q,rfl,rfl,rfl,h0,h1⟩:=trodAll_cons h
   exact trodAll_cons_mk (WideElems.Trod_stays hl hr.1.1 hr.1.2 h0 (fun x hx=>hb.same (hlt x (List.mem_append_left _ hx)).1) (fun x hx=>(hlt x (List.mem_append_left _ hx)).2)) (ih hr.2 _ _ _ h1 sp (fun x hx=>hlt x (List.mem_append_right _ hx)))
theorem post_of_below {f:Func} {s:ChangeSpec} {apart fresh handsOn again:Bool} {W W':World} {args:Array Value} {v:Value} {ds gs:List (DataW H)} {before pa pv:List MemPlace}
 (hW:DataW.Whole enc P f.params.toList s.vars apart W args.toList ds gs before)
 (hres:∀ (b:Nat) (sp:Nat->Bool) (hd:Bool),DataW.TrodAll enc P W' b sp hd f.resultTypes.toList (v.resultList f.resultTypes.size) (s.fn H (ds ++ gs)).results [])
 (hargs:∀ sp:Nat->Bool,(∀ p ∈ before,sp p.block=true)->DataW.TrodAll enc P W' 0 sp true f.params.toList args.toList (s.fn H (ds ++ gs)).args pa)
 (hvars:∀ sp:Nat->Bool,(∀ p ∈ before,sp p.block=true)->DataW.TrodVars enc P W' sp s.vars (s.fn H (ds ++ gs)).vars pv)
 (hps:before=pa ++ pv) (hb:Below W.heap.size W W')
 (hok:∀ (j:Nat) (t:TypeId) (r:Value),f.resultTypes[j]?=some t->(v.resultList f.resultTypes.size)[j]?=some r->Value.okWide P W' .any 0 t r) :
 s.post enc P f apart fresh handsOn again W args v W':=by
 have hlt:∀ p ∈ before,p.block < W.heap.size:=fun p hp=>hW.lt p hp
 have hold:∀ p ∈ before,(fun b=>decide (b < W.heap.size)) p.block=true:=fun p hp=>by simpa using hlt p hp
 refine ⟨ds,gs,before,[],pa,pv,hW,hres _ _ _,hargs _ hold,hvars _ hold,World.keptBut_mono (fun p hp=>⟨hp,?_⟩) (hb.frame (· ∈ before)),fun _=>?_⟩
 · rw [hps,List.mem_append] at hp
   exact Or.inr hp
 · obtain ⟨_,_,_,_,_,hz,hn⟩:=hW
   refine ⟨hok,_,_,([] ++ pa) ++ pv,⟨[] ++ pa,pv,trodAll_append (hargs _ (fun _ _=>rfl)) (hres _ _ _),hvars _ (fun _ _=>rfl),rfl,?_,?_⟩,?_⟩
   · intro b off hp
     have hin:MemPlace.cell b off ∈ before:=by rw [hps];simpa using hp
     rw [hb.frozen (hlt _ hin)]
     exact hz b off hin
   · intro ha
     have:=hn ha
     rw [hps] at this
     simpa using this
   · intro p hp _
     rw [hps]
     simpa using hp
/-- THE LAW's STEP: its walk says 'true, and Below'. -/
theorem law_post {f:Func} {s:ChangeSpec} {tb:TypeId} (hl:laidOutB P=true) (hr:f.params.toList.all (fun t=>P.readableRec t && decide (t < P.types.size))=true) (hrt:f.resultTypes=#[tb]) (htb:P.underlying tb=some .bool)
 (hvars:s.vars=[]) {W W':World} {args:Array Value} {ds gs:List (DataW H)} {before:List MemPlace} (hfn:s.fn H (ds ++ gs)={ results:=[.lit (.bool true)],args:=ds })
 (hW:DataW.Whole enc P f.params.toList s.vars false W args.toList ds gs before) (hb:Below W.heap.size W W') :
 s.post enc P f false true false false W args (.bool true) W':=by
 have hW':=hW
 obtain ⟨p,q,hA,hV,hpq,_,_⟩:=hW
 rw [hvars] at hV
 obtain ⟨hgs,hq⟩:=trodVars_none hV
 subst hq
 have hlt:∀ x ∈ before,x.block < W.heap.size:=fun x hx=>hW'.lt x hx
 have hbef:before=p ++ []:=hpq
 refine post_of_below (pa:=p) (pv:=[]) hW' (fun b sp hd=>?_) (fun sp hsp=>?_) (fun sp _=>?_) hbef hb ?_
 · rw [hfn,hrt]
   exact trodAll_cons_mk (shut_bool htb _) trodAll_mk0
 · rw [hfn]
   exact keep_all hl hb _ hr _ _ _ hA sp (fun x hx=>⟨hlt x (by rw [hbef];simpa using hx),hsp x (by rw [hbef];simpa using hx)⟩)
 · rw [hfn,hvars]
   exact rfl
 · exact ok_one (by rw [hrt]) rfl (okWide_bool_mk htb _)
end
end Go.Proofs.Ytloeghbhoflabaa
namespace Go.Proofs.Ytloeghbhoflabaa
open Go.ChangeShapes Go.WideShapes Go.ChangeAt Go.RowKit Go.Deep Go.Joins
set_option maxRecDepth 100000
section
variable {H:Type} {enc:TypeId × Value->H} {P:Program} {w:World} {sp:Nat->Bool} {held:Bool}
theorem list_of {α:Type} {Q:Nat->α->Prop}:∀ (n:Nat),(∀ i,i < n->∃ x,Q i x)->∃ xs:List α,xs.length=n/\∀ i x,xs[i]?=some x->Q i x:=by
 intro n
 induction n with
 | zero=>intro _;exact ⟨[],rfl,by simp⟩
 | succ n ih =>
   intro h
   obtain ⟨xs,hl,hx⟩:=ih (fun i hi=>h i (by omega))
   obtain ⟨x,hq⟩:=h n (by omega)
   refine ⟨xs ++ [x],by simp [hl],fun i y hy=>?_⟩
   by_cases hi:i < n
   · rw [List.getElem?_append_left (by omega)] at hy
     exact hx i y hy
   · have hin:=(List.getElem?_eq_some_iff.1 hy).1
     simp only [List.length_append,List.length_cons,List.length_nil] at hin
     have:i=n:=by omega
     subst this
     rw [List.getElem?_append_right (by omega),hl,Nat.sub_self] at hy
     simp at hy
     subst hy
     exact hq
theorem open_list {α:Type} (E:α->List Value) (k:Nat) (Rd:α->Prop) {t e:TypeId} {fuel:Nat} {v:Value} {y:DataW H × List MemPlace} (ht:P.underlying t=some (.slice e)) (hC:P.cellsOf e=k) (hk:0 < k)
 (helem:∀ (n:Nat) (cs:List Value) (y:DataW H × List MemPlace),cs.length=k->DataW.trod enc P w 0 sp held n e cs=some y->∃ x,cs=E x/\Rd x)
 (h:DataW.trod enc P w 0 sp held fuel t [v]=some y):∃ xs,SlE w E k v xs/\∀ x ∈ xs,Rd x:=by
 rcases open_slice ht h with ⟨hcs,_⟩ | ⟨a,len,cap,m,n,D,Pl,hcs,_,hl,hm,hmm,_,hi⟩
 · have hv:v=.slice none 0 0:=by simpa using hcs
   subst hv
   exact ⟨[],SlI.nil _ _ _ _ _,by simp⟩
 · have hv:v=.slice (some a) len cap:=by simpa using hcs
   subst hv
   have hlm:len<=m:=by rw [hmm];split <;> omega
   obtain ⟨xs,hxl,hx⟩:=list_of (Q:=fun i x=>Rd x/\∀ j u,(E x)[j]?=some u->j < k/\w.cell? ((a.add (i * k)).add j)=some u) len (fun i hil=>by
    obtain ⟨cs',hc,ht'⟩:=hi i (by omega)
    rw [hC] at hc
    obtain ⟨_,hcl,hat⟩:=World.cells?_some hc
    obtain ⟨x,rfl,hr⟩:=helem _ _ _ hcl ht'
    refine ⟨x,hr,fun j u hu=>?_⟩
    have hj:j < k:=by have:=(List.getElem?_eq_some_iff.1 hu).1;omega
    exact ⟨hj,(hat j hj).trans hu⟩)
   subst hxl
   refine ⟨xs,⟨some a,cap,rfl,hl,hm,fun i x hix=>?_⟩,fun x hxm=>?_⟩
   · have hil:=(List.getElem?_eq_some_iff.1 hix).1
     obtain ⟨cs',hc,ht'⟩:=hi i (by omega)
     rw [hC] at hc
     obtain ⟨_,hcl,hat⟩:=World.cells?_some hc
     obtain ⟨b,o,spot⟩:=a
     have h0:=hat 0 hk
     have hc0:cs'[0]?=some (cs'[0]'(by omega)):=List.getElem?_eq_getElem (by omega)
     rw [hc0] at h0
     have hspot:spot=none:=by
      obtain ⟨cs2,hc2,_⟩:=hi 0 (by omega)
      rw [hC] at hc2
      obtain ⟨_,hcl2,hat2⟩:=World.cells?_some hc2
      have h2:=hat2 0 hk
      rw [List.getElem?_eq_getElem (by omega)] at h2
      have:=World.cell?_spot h2
      simpa [Addr.add] using this
     subst hspot
     have hadd:∀ j,((⟨b,o,none⟩:Addr).add (i * k)).add j=⟨b,o+i * k+j,none⟩:=fun j=>by
      unfold Addr.add
      by_cases h1:i * k=0 <;> by_cases h2:j=0 <;> simp [h1,h2] <;> omega
     refine ⟨b,o,rfl,Nat.zero_le _,?_,fun j u hu=>?_⟩
     · rw [hadd] at h0
       exact World.block_lt_of_cell? _ _ h0
     · have:=((hx i x hix).2 j u hu).2
       rw [hadd] at this
       exact this
   · obtain ⟨i,hil,hie⟩:=List.getElem_of_mem hxm
     exact (hx i x (by rw [List.getElem?_eq_getElem hil,hie])).1
theorem open_agg1 {r:Reach} {b0:Nat} {t:TypeId} {f0:Field} {v:Value} {d:DataW H} {p:List MemPlace} (hs:P.underlying t=some (.struct #[f0])) (hone:oneCellFields P #[f0]=true) (hC:P.cellsOf t=1)
 (hv:Value.okWide P w r b0 t v) (h:DataW.Trod enc P w 0 sp held t v d p) :
 ∃ (v0:Value) (y0:DataW H × List MemPlace) (n:Nat),v=.agg #[v0]/\DataW.trod enc P w 0 sp held n f0.type [v0]=some y0:=by
 obtain ⟨cs,rfl,hsz⟩:=okWide_struct hs hv
 obtain ⟨c0,rfl⟩:∃ c0,cs=#[c0]:=Array.size_eq_one_iff.1 (hsz.trans hC)
 obtain ⟨fuel,hf⟩:=h
 obtain ⟨xs,n,_,_,hl,hlen,hf⟩:=DataW.trod_struct hs hf
 obtain ⟨o0,k0⟩:=hone_of hone 0 f0 rfl
 match xs,hlen with
 | [y0],_=>exact ⟨c0,y0,n,rfl,by simpa [Value.cells,o0,k0] using hf 0 f0 rfl⟩
theorem elem_int {e:TypeId} (he:P.underlying e=some (.int .i64)):∀ (n:Nat) (cs:List Value) (y:DataW H × List MemPlace),cs.length=1->DataW.trod enc P w 0 sp held n e cs=some y->∃ x,cs=cI x/\(Lit.int .i64 x).wf=true:=by
 intro n cs y _ h
 obtain ⟨x,h1,_,h3⟩:=DataW.trod_int he h
 exact ⟨x,h1,h3⟩
/-- a field of one cell out of a struct's cells -/
theorem field_of {e:TypeId} {fs:Array Field} {n:Nat} {cs:List Value} {y:DataW H × List MemPlace} (he:P.underlying e=some (.struct fs)) (hone:oneCellFields P fs=true) (hC:P.cellsOf e=fs.size)
 (h:DataW.trod enc P w 0 sp held n e cs=some y) (j:Nat) (f:Field) (hj:fs[j]?=some f):∃ (u:Value) (n':Nat) (y':DataW H × List MemPlace),cs[j]?=some u/\DataW.trod enc P w 0 sp held n' f.type [u]=some y':=by
 obtain ⟨ys,n',_,_,hlen,hyl,hf⟩:=DataW.trod_struct he h
 obtain ⟨ho,hk⟩:=hone_of hone j f hj
 have hjl:j < fs.size:=(Array.getElem?_eq_some_iff.1 hj).1
 have h1:=hf j f hj
 rw [ho,hk] at h1
 have hone':(cs.drop j).take 1=[cs[j]'(by omega)]:=by
  rw [List.drop_eq_getElem_cons (by omega)]
  rfl
 rw [hone'] at h1
 have hys:ys[j]?=some (ys[j]'(by omega)):=List.getElem?_eq_getElem (by omega)
 exact ⟨_,n',_,List.getElem?_eq_getElem (by omega),h1.trans hys⟩
theorem elem_ed {e f:TypeId} {f0 f1 f2 f3:Field} (he:P.underlying e=some (.struct #[f0,f1,f2,f3])) (hone:oneCellFields P #[f0,f1,f2,f3]=true) (hC:P.cellsOf e=4) (h0:P.underlying f0.type=some (.int .i64)) (h1:P.underlying f1.type=some (.int .i64)) (h2:P.underlying f2.type=some (.int .i64)) (h3:P.underlying f3.type=some (.int .i64)) :
 ∀ (n:Nat) (cs:List Value) (y:DataW H × List MemPlace),cs.length=4->DataW.trod enc P w 0 sp held n e cs=some y->∃ x,cs=cEd x/\True:=by
 intro n cs y hl h
 obtain ⟨u0,n0,y0,g0,k0⟩:=field_of he hone hC h 0 f0 rfl
 obtain ⟨u1,n1,y1,g1,k1⟩:=field_of he hone hC h 1 f1 rfl
 obtain ⟨u2,n2,y2,g2,k2⟩:=field_of he hone hC h 2 f2 rfl
 obtain ⟨u3,n3,y3,g3,k3⟩:=field_of he hone hC h 3 f3 rfl
 obtain ⟨a,ha,_⟩:=DataW.trod_int h0 k0
 obtain ⟨b,hb,_⟩:=DataW.trod_int h1 k1
 obtain ⟨c,hc,_⟩:=DataW.trod_int h2 k2
 obtain ⟨d,hd,_⟩:=DataW.trod_int h3 k3
 simp only [List.cons.injEq,and_true] at ha hb hc hd
 subst ha hb hc hd
 match cs,hl with
 | [c0,c1,c2,c3],_ =>
   simp at g0 g1 g2 g3
   subst g0 g1 g2 g3
   exact ⟨(a,b,c,d),rfl,trivial⟩
end
section
variable {H:Type} {enc:TypeId × Value->H} {w:World} {sp:Nat->Bool} {held:Bool} {b0:Nat} {v:Value} {d:DataW H} {p:List MemPlace}
theorem openGraph (hv:Value.okWide Try.prog w .any b0 25 v) (h:DataW.Trod enc Try.prog w 0 sp held 25 v d p):∃ g:Gr,GrV 0 w.heap.size w v g:=by
 obtain ⟨v0,v1,y0,y1,n,rfl,_,_,h0,h1⟩:=open_agg2 Try.underlying25 (by kernel_rfl) (by kernel_rfl) hv h
 obtain ⟨xs,hx,_⟩:=open_list cI 1 _ Try.underlying22 (by kernel_rfl) (by omega) (elem_int Try.underlying3) h0
 obtain ⟨ys,hy,_⟩:=open_list cEd 4 (fun _=>True) Try.underlying23 (by kernel_rfl) (by omega) (elem_ed (f:=0) Try.underlying121 (by kernel_rfl) (by kernel_rfl) Try.underlying3 Try.underlying3 Try.underlying3 Try.underlying3) h1
 exact ⟨⟨xs,ys⟩,v0,v1,rfl,hx,hy⟩
theorem openExpr (hv:Value.okWide Try.prog w .any b0 28 v) (h:DataW.Trod enc Try.prog w 0 sp held 28 v d p):∃ l:List Ed,∃ ss,v=.agg #[ss]/\SlI 0 w.heap.size w cEd 4 ss l:=by
 obtain ⟨v0,y0,n,rfl,h0⟩:=open_agg1 Try.underlying28 (by kernel_rfl) (by kernel_rfl) hv h
 obtain ⟨ys,hy,_⟩:=open_list cEd 4 (fun _=>True) Try.underlying26 (by kernel_rfl) (by omega) (elem_ed (f:=0) Try.underlying123 (by kernel_rfl) (by kernel_rfl) Try.underlying3 Try.underlying3 Try.underlying3 Try.underlying3) h0
 exact ⟨ys,v0,rfl,hy⟩
end
end Go.Proofs.Ytloeghbhoflabaa
namespace Go.Proofs.Ytloeghbhoflabaa
open Go.ChangeShapes Go.WideShapes Go.ChangeAt Go.RowKit
theorem hold3 {w w' w'':World} {B:Nat} {p0 p1 p2:Addr} {v0 v1 v2:Value} (h0:p0.block < B) (h1:p1.block < B) (h2:p2.block < B) (hB:Below w'.heap.size w' w'') (h:Below w.heap.size w w'/\B<=w'.heap.size/\w'.cell? p0=some v0/\w'.cell? p1=some v1/\w'.cell? p2=some v2):Below w.heap.size w w''/\B<=w''.heap.size/\w''.cell? p0=some v0/\w''.cell? p1=some v1/\w''.cell? p2=some v2:=by
 obtain ⟨hb,hs,c0,c1,c2⟩:=h
 exact ⟨below_trans hb hB,Nat.le_trans hs hB.size,(hB.cell (Nat.lt_of_lt_of_le h0 hs)).trans c0,(hB.cell (Nat.lt_of_lt_of_le h1 hs)).trans c1,(hB.cell (Nat.lt_of_lt_of_le h2 hs)).trans c2⟩
theorem hold6 {w w' w'':World} {B:Nat} {p0 p1 p2 p3 p4 p5:Addr} {v0 v1 v2 v3 v4 v5:Value} (h0:p0.block < B) (h1:p1.block < B) (h2:p2.block < B) (h3:p3.block < B) (h4:p4.block < B) (h5:p5.block < B) (hB:Below w'.heap.size w' w'') (h:Below w.heap.size w w'/\B<=w'.heap.size/\w'.cell? p0=some v0/\w'.cell? p1=some v1/\w'.cell? p2=some v2/\w'.cell? p3=some v3/\w'.cell? p4=some v4/\w'.cell? p5=some v5):Below w.heap.size w w''/\B<=w''.heap.size/\w''.cell? p0=some v0/\w''.cell? p1=some v1/\w''.cell? p2=some v2/\w''.cell? p3=some v3/\w''.cell? p4=some v4/\w''.cell? p5=some v5:=by
 obtain ⟨hb,hs,c0,c1,c2,c3,c4,c5⟩:=h
 exact ⟨below_trans hb hB,Nat.le_trans hs hB.size,(hB.cell (Nat.lt_of_lt_of_le h0 hs)).trans c0,(hB.cell (Nat.lt_of_lt_of_le h1 hs)).trans c1,(hB.cell (Nat.lt_of_lt_of_le h2 hs)).trans c2,(hB.cell (Nat.lt_of_lt_of_le h3 hs)).trans c3,(hB.cell (Nat.lt_of_lt_of_le h4 hs)).trans c4,(hB.cell (Nat.lt_of_lt_of_le h5 hs)).trans c5⟩
theorem hold_below {w w':World} {B:Nat} {R:Prop} (h:Below w.heap.size w w'/\B<=w'.heap.size/\R):Below w.heap.size w w':=h.1
/-- what the program's table says of a slice type t of elements e: zero z, k cells, so many bytes -/
structure ElemOk (P:Program) (t e:TypeId) (z:Value) (k bytes:Nat):Prop where
 und:P.underlying t=some (.slice e)
 info:(P.info? e).map (fun i=>(i.zero,i.size,i.bytes))=some (some z,k,bytes)
 zc:z.cells.size=k
 pos:0 < k
section
variable {P:Program} {w:World}
theorem own_below {base:Nat} {w':World} {e:TypeId} {k n:Nat} {v:Value} {cs:List Value} (h:w.ownsRow base e k v n cs) (hb:base<=w.heap.size) (hg:w.grownBy w' v.ownBlock):Below base w w' :=
 (Below.refl _ _).grown hg hb (fun g hg=>(h.lt g hg).1)
/-- append(s, x): the one element was laid in a block of its own first -/
theorem wpList_append1 {α:Type} (E:α->List Value) {ops:Array Oper} {rest:List Oper} {o:Oper} {a:Act} {Q:Exit->Act->World->Prop} {t e:TypeId} {z:Value} {k bytes:Nat} (el:ElemOk P t e z k bytes)
 (hgd:o.guard=none) (s y:Operand) (ho:o.op=.call { callee:=.builtin .append,args:=#[s,y],argTypes:=#[t,t] })
 (base:Nat) (v:Value) (xs:List α) (x:α) (cs:Array Value) (c H:Nat) (hs:a.eval s=v) (hown:w.ownsRow base e k v xs.length (xs.flatMap E)) (hy:a.eval y=.slice (some ⟨H,0,none⟩) 1 c) (hH:H=w.heap.size)
 (hcs:cs=(E x).toArray) (hE:(E x).length=k) (h1:∀ u ∈ E x,u.oneCell'=true) (hbytes:(xs.length+1) * bytes<=140737488355328) (hb0:0 < bytes) (hbase:base<=w.heap.size)
 (h:∀ v' w',w'.ownsRow base e k v' (xs ++ [x]).length ((xs ++ [x]).flatMap E)->Below base w w'->(v'.ownBlock=v.ownBlock ∨ ∃ g,v'.ownBlock=some g/\w.heap.size<=g)->(w.alloc (.cells cs e)).grownBy w' v.ownBlock->wpList P ops Q rest (a.put o.dst v') w') :
 wpList P ops Q (o :: rest) a (w.alloc (.cells cs e)):=by
 subst hcs hH
 obtain ⟨i,hi,hz0,hz1,hz2⟩:=info_parts el.info
 have hlen:xs.length+1<=140737488355328:=Nat.le_trans (Nat.le_mul_of_pos_right _ hb0) hbytes
 refine wpList_append_own_at (P:=P) (w:=w.alloc (.cells (E x).toArray e)) hgd s y t ho base e i z k bytes el.und hi hz0 hz1 hz2 el.zc el.pos v xs.length (xs.flatMap E) hs (hown.alloc _) ⟨w.heap.size,0,none⟩ 1 c (E x) hy (by rw [hE,Nat.one_mul])
  (fun j u hu=>?_) h1 (by unfold maxLen;omega) hbytes (by simp;omega) ?_
 · have hadd:(⟨w.heap.size,0,none⟩:Addr).add j=⟨w.heap.size,j,none⟩:=by unfold Addr.add;split <;> simp_all
   rw [hadd,World.cell?_alloc_new]
   simpa using hu
 · intro v' w' h2 h3 _ h5
   refine h v' w' (by simpa using h2) ((((Below.refl base w).alloc hbase _)).trans (own_below (hown.alloc _) (by simp;omega) h3)) ?_ h3
   rcases h5 with h5 | h5
   · exact .inl h5
   · exact .inr ⟨_,h5,by simp⟩
theorem getElem?_flat_replicate {α:Type} {E:α->List Value} {k:Nat} {d:α} (hk:(E d).length=k):∀ (n j:Nat),((List.replicate n d).flatMap E)[j]?=if j < n * k then (E d)[j % k]? else none:=by
 intro n
 induction n with
 | zero=>intro j;simp
 | succ n ih =>
   intro j
   rw [List.replicate_succ,List.flatMap_cons,List.getElem?_append,hk]
   by_cases hj:j < k
   · rw [if_pos hj,if_pos (by rw [Nat.succ_mul];omega),Nat.mod_eq_of_lt hj]
   · rw [if_neg hj,ih,Nat.succ_mul]
     by_cases h2:j < n * k+k
     · rw [if_pos h2,if_pos (by omega)]
       congr 1
       conv=>rhs;rw [show j=(j - k)+k by omega,Nat.add_mod_right]
     · rw [if_neg h2,if_neg (by omega)]
theorem madeCells_flat {α:Type} {E:α->List Value} {k:Nat} {d:α} {z:Array Value} (hk:(E d).length=k) (hz:z.toList=E d) (hpos:0 < k) (n:Nat):(madeCells z (n * k)).toList=(List.replicate n d).flatMap E:=by
 apply List.ext_getElem?
 intro j
 rw [getElem?_flat_replicate hk]
 have hzs:z.size=k:=by rw [<- Array.length_toList,hz,hk]
 by_cases hj:j < n * k
 · rw [if_pos hj]
   have hm:j % k < z.size:=by rw [hzs];exact Nat.mod_lt _ hpos
   have:(E d)[j % k]?=z[j % k]?:=by rw [<- hz,Array.getElem?_toList]
   rw [this]
   simp [madeCells,hj,hzs,hm,Nat.mod_lt _ hpos]
 · rw [if_neg hj]
   simp [madeCells,hj]
/-- make([]T, n): n zero elements -/
theorem run_makeE {α:Type} (E:α->List Value) (d:α) {t e:TypeId} {z:Value} {k bytes:Nat} (el:ElemOk P t e z k bytes) (hz:z.cells.toList=E d) (hE:(E d).length=k) (n:Nat) (hbytes:bytes * n<=281474976710656) (h63:n<=maxLen) (w:World) :
 ∃ w',(Instr.makeSlice t (.int .i64 (n:Int)) (.int .i64 (n:Int))).run P w=.ok (.slice (some ⟨w.heap.size,0,none⟩) n n) w' /\
   w'.ownsRow w.heap.size e k (.slice (some ⟨w.heap.size,0,none⟩) n n) n ((List.replicate n d).flatMap E)/\Below w.heap.size w w'/\w'.heap.size=w.heap.size+1:=by
 obtain ⟨i,hi,hz0,hz1,hz2⟩:=info_parts el.info
 subst hz1 hz2
 have h63':(n:Int)<=9223372036854775807:=by
  have h:=h63
  simp [maxLen] at h
  omega
 have hb':(i.bytes:Int) * (n:Int)<=281474976710656:=by
  have h:((i.bytes * n:Nat):Int)<=281474976710656:=by omega
  rwa [Int.natCast_mul] at h
 have hr:=run_make (P:=P) w t e i z el.und hi hz0 .i64 .i64 n n (by omega) (Int.le_refl _) hb' h63'
 simp only [Int.toNat_natCast] at hr
 refine ⟨_,hr,?_,(Below.refl _ _).alloc (Nat.le_refl _) _,by simp⟩
 rw [<- madeCells_flat hE hz el.pos n]
 exact World.ownsRow_lit w _ n (Nat.le_refl _) h63 (size_madeCells _ _)
theorem ownsRow_below {lo k n:Nat} {e:TypeId} {v:Value} {cs:List Value} {w w':World} (h:w.ownsRow lo e k v n cs) {B:Nat} (hb:Below B w w') (hB:w.heap.size<=B):w'.ownsRow lo e k v n cs:=by
 have hlt:=h.lt
 obtain ⟨hl,hs⟩:=h
 refine ⟨hl,?_⟩
 rcases hs with hs | ⟨g,cap,cur,rfl,hg,hh,r⟩
 · exact .inl hs
 · exact .inr ⟨g,cap,cur,rfl,hg,(hb.block g (by have:=hlt g rfl;omega)).trans hh,r⟩
theorem wpList_makeE {α:Type} (E:α->List Value) (d:α) {ops:Array Oper} {rest:List Oper} {o:Oper} {a:Act} {Q:Exit->Act->World->Prop} {t e:TypeId} {z:Value} {k bytes:Nat} (el:ElemOk P t e z k bytes) (hz:z.cells.toList=E d) (hE:(E d).length=k)
 (hgd:o.guard=none) (l c:Operand) (hop:o.op=Op.makeSlice t l c) (base n:Nat) (N:Int) (hl:a.eval l=.int .i64 N) (hc:a.eval c=.int .i64 N) (hN:N=(n:Int)) (hbytes:bytes * n<=281474976710656) (h63:n<=maxLen) (hb:base<=w.heap.size)
 (hK:∀ w',w'.ownsRow base e k (.slice (some ⟨w.heap.size,0,none⟩) n n) n ((List.replicate n d).flatMap E)->Below w.heap.size w w'->wpList P ops Q rest (a.put o.dst (.slice (some ⟨w.heap.size,0,none⟩) n n)) w') :
 wpList P ops Q (o :: rest) a w:=by
 subst hN
 refine wpList_plain hgd fun K hK'=>?_
 obtain ⟨w',hrun,r1,r2,_⟩:=run_makeE E d el hz hE n hbytes h63 w
 unfold Oper.wp
 simp [execOp,hop,hl,hc,hrun,Result.andThen]
 refine hK' _ _ (hK w' ?_ r2)
 obtain ⟨hl,hs⟩:=r1
 refine ⟨hl,?_⟩
 rcases hs with hs | ⟨g,cap,cur,hv,hg,hh,r⟩
 · exact .inl hs
 · exact .inr ⟨g,cap,cur,hv,by omega,hh,r⟩
end
end Go.Proofs.Ytloeghbhoflabaa
namespace Go.Proofs.Ytloeghbhoflabaa
open Go.RowKit
section
variable {P:Program} {ops:Array Oper} {md:Region.Mode} {C:World->Prop}
def wpAnyLQ (P:Program) (md:Region.Mode) (ops:Array Oper) (C:World->Prop) (n:Nat) (L:Array Bool->Act->Prop):Nat->Array Bool->Act->Prop
 | 0,listed,a=>L listed a
 | f+1,listed,a =>
   Region.ready md ops listed ≠ []/\∀ i ∈ Region.ready md ops listed,i < n/\qOp P ops C i (wpAnyLQ P md ops C n L f (listed.setIfInBounds i true)) a
theorem wpAny_of_headQ {n g:Nat} {L:Array Bool->Act->Prop} {Q':Exit->Act->World->Prop} (hL:∀ listed a w,C w->L listed a->wpAny P md ops Q' g listed a w) :
 ∀ (f:Nat) (listed:Array Bool) (a:Act) (w:World),C w->wpAnyLQ P md ops C n L f listed a->wpAny P md ops Q' (f+g) listed a w
 | 0,listed,a,w,hw,h=>by rw [Nat.zero_add];exact hL _ _ _ hw h
 | f+1,listed,a,w,hw,h=>by
   rw [show f+1+g=(f+g)+1 by omega]
   exact ⟨fun h0=>absurd h0 h.1,fun i hi=>wpOp_of_qOp hw (fun a' w' hw' h'=>wpAny_of_headQ hL f _ a' w' hw' h') (h.2 i hi).2⟩
theorem wpAnyLQ_first {n i:Nat} {oi:Oper} {v:Value} {L:Array Bool->Act->Prop} (hi:ops[i]?=some oi) (hsel:∀ (j:Nat) (o:Oper) cs b,ops[j]?=some o->o.op ≠ .select cs b)
 (hs:Region.sinkB md ops n=true) (hc:Region.chainB md ops n=true) (hn:n < ops.size) (hin:i < n)
 (hdone:∀ listed a,L listed a->∀ j ∈ Region.ready md ops listed,n<=j) :
 ∀ (f:Nat) (listed:Array Bool) (a:Act),HeadInv md ops n listed ->
   (∀ j oj,ops[j]?=some oj->j ≠ i->listed.getD j true=false->(∀ e ∈ oj.after,Region.binds md e=true->e.on ≠ i)->oi.apart ops oj=true) ->
   i ∈ Region.ready md ops listed->YieldsIn P ops C oi v a ->
   wpAnyLQ P md ops C n L f (listed.setIfInBounds i true) (a.put oi.dst v)->wpAnyLQ P md ops C n L (f+1) listed a:=by
 intro f
 induction f with
 | zero =>
   intro listed a inv _ hr hy H
   have hun:=(mem_ready.1 hr).1
   refine ⟨fun h=>(by rw [h] at hr;cases hr),fun j hj=>?_⟩
   have hjn:j < n:=by
    rcases Nat.lt_or_ge j n with h | h
    · exact h
    · exact absurd hj (tail_waits hs hc hn inv _ i rfl hin hun j h)
   refine ⟨hjn,?_⟩
   by_cases hji:j=i
   · subst hji;exact hy.qOp hi H
   · have:=hdone _ _ H j (ready_mono hj hji)
     omega
 | succ f ih =>
   intro listed a inv hfree hr hy H
   have hun:=(mem_ready.1 hr).1
   refine ⟨fun h=>(by rw [h] at hr;cases hr),fun j hj=>?_⟩
   have hjn:j < n:=by
    rcases Nat.lt_or_ge j n with h | h
    · exact h
    · exact absurd hj (tail_waits hs hc hn inv _ i rfl hin hun j h)
   refine ⟨hjn,?_⟩
   by_cases hji:j=i
   · subst hji;exact hy.qOp hi H
   · have h1:=(H.2 j (ready_mono hj hji)).2
     obtain ⟨hjun,oj,hoj,hall⟩:=mem_ready.1 hj
     have hnot:∀ e ∈ oj.after,Region.binds md e=true->e.on ≠ i:=fun e he hb heq=>by
      have h1:=hall e he hb
      rw [heq,getD_both hun] at h1
      cases h1
     have h2:=qOp_put hoj (hfree j oj hoj hji hjun hnot) (fun cs b=>hsel i oi cs b hi) (fun cs b=>hsel j oj cs b hoj) hy h1
     have hfree':∀ k ok,ops[k]?=some ok->k ≠ i->(listed.setIfInBounds j true).getD k true=false ->
      (∀ e ∈ ok.after,Region.binds md e=true->e.on ≠ i)->oi.apart ops ok=true:=fun k ok hk hki hun hno=>by
      refine hfree k ok hk hki ?_ hno
      by_cases hjk:j=k
      · subst hjk;exact hjun
      · rw [getD_set_ne true hjk] at hun;exact hun
     refine qOp_mono (fun a' h3=>ih (listed.setIfInBounds j true) a' (inv.set hj hjn) hfree' (ready_mono hr (Ne.symm hji)) h3.1 ?_) h2
     rw [Array.setIfInBounds_comm _ _ hji]
     exact h3.2
theorem wpAnyLQ_lex {n g:Nat} {Lq:Act->Prop} (hsel:Region.noSelect ops=true) (hs:Region.sinkB md ops n=true) (hc:Region.chainB md ops n=true) (hn:n < ops.size) :
 ∀ (l:List Oper) (k:Nat) (listed:Array Bool) (a:Act),(∀ j,j < l.length->l[j]?=ops[k+j]?)->k+l.length=n->HeadInv md ops n listed ->
 Region.lexHead md ops g l.length k listed=true->wpQuiet P ops C Lq l a ->
 wpAnyLQ P md ops C n (fun listed' a'=>Region.seqB md ops g n listed'=true/\Lq a') l.length listed a
 | [],k,listed,a,_,hk,_,hB,h=>by
   have:k=n:=by simpa using hk
   subst this
   exact ⟨by simpa [Region.lexHead] using hB,h⟩
 | o :: l,k,listed,a,hl,hk,inv,hB,h=>by
   have h0:ops[k]?=some o:=by simpa using (hl 0 (by simp)).symm
   simp only [List.length_cons,Region.lexHead,Bool.and_eq_true] at hB
   obtain ⟨⟨hr,hf⟩,hB'⟩:=hB
   have hkn:k < n:=by simp only [List.length_cons] at hk;omega
   have hr':k ∈ Region.ready md ops listed:=by simpa using hr
   have hst:qOp P ops C k (wpQuiet P ops C Lq l) a:=by unfold qOp;simp only [h0];exact h
   obtain ⟨v,hy,hK⟩:=yieldsIn_of_qOp h0 hst
   exact wpAnyLQ_first h0 (Region.noSelect_spec hsel) hs hc hn hkn (fun listed' a' hL=>seqB_ready hL.1) l.length listed a inv (Region.free_spec h0 hf) hr' hy
    (wpAnyLQ_lex hsel hs hc hn l (k+1) _ _ (fun j hj=>by have:=hl (j+1) (by simp;omega);simpa [Nat.add_assoc,Nat.add_comm 1 j] using this) (by simp only [List.length_cons] at hk;omega) (inv.set hr' hkn) hB' hK)
theorem wp_region_quiet_tail {id:Nat} {Q:Exit->Act->World->Prop} {a:Act} {w:World} {l:List Oper} (n:Nat) (hm:P.follows .mixedOrders=true) (hB:Region.lexTailB .any l.toArray n=true) (hC:C { w with drawn:=w.drawn+1 })
 (h:wpQuiet P l.toArray C (fun a'=>∀ w',C w'->wpList P l.toArray Q (l.drop n) a' w') (l.take n) a):(Code.region id l.toArray true).wp P Q a w:=by
 simp only [Region.lexTailB,Bool.and_eq_true,decide_eq_true_eq] at hB
 obtain ⟨⟨⟨⟨hsel,hn⟩,hs⟩,hc⟩,hlex⟩:=hB
 have hn':n < l.length:=by simpa using hn
 have htl:(l.take n).length=n:=by simp;omega
 have hdl:(l.drop n).length=l.toArray.size - n:=by simp
 have inv0:HeadInv .any l.toArray n (Array.replicate l.toArray.size false) :=
  ⟨by simp,fun j oj _ hl=>(by rw [getD_replicate_false] at hl;cases hl),fun t _ ht=>getD_in (by simpa using ht) (getD_replicate_false _ _)⟩
 have H:=wpAnyLQ_lex (C:=C) (md:=.any) (g:=l.toArray.size - n) hsel hs hc hn (l.take n) 0 _ a (fun j hj=>by
  have hj':j < n:=by rw [htl] at hj;exact hj
  simp [hj']) (by simpa using htl) inv0 (by rw [htl];exact hlex) h
 refine wp_region_any hm ?_
 have:=wpAny_of_headQ (Q':=Q) (g:=l.toArray.size - n) (fun listed a' w' hw' hL=>by
  have:=wpAny_of_seq (md:=.any) (Q':=Q) (l.drop n) n listed a' w' (fun j=>by simp [List.getElem?_drop]) (by rw [hdl];exact hL.1) (hL.2 w' hw')
  rwa [hdl] at this) _ _ _ { w with drawn:=w.drawn+1 } hC H
 rw [htl,show n+(l.toArray.size - n)=l.toArray.size by omega] at this
 exact this
theorem wp_region_ext_tail {id:Nat} {Q:Exit->Act->World->Prop} {a:Act} {w:World} {l:List Oper} (n:Nat) (hm:P.follows .mixedOrders=true) (hB:Region.lexTailB .any l.toArray n=true)
 (h:wpQuiet P l.toArray (fun w'=>∃ u,w'=ext w u) (fun a'=>∀ w',(∃ u,w'=ext w u)->wpList P l.toArray Q (l.drop n) a' w') (l.take n) a):(Code.region id l.toArray true).wp P Q a w :=
 wp_region_quiet_tail (C:=fun w'=>∃ u,w'=ext w u) n hm hB (ext_of ⟨rfl,rfl,rfl,Nat.le_refl _,fun _ _=>rfl⟩) h
end
end Go.Proofs.Ytloeghbhoflabaa
namespace Go.Proofs.Ytloeghbhoflabaa
open Go.ChangeShapes Go.WideShapes Go.ChangeAt Go.RowKit
attribute [local go_sem] ext_cell ext_frozen ext_lt ext_lt1 ext_lt2 ext_lt3 ltn2 ltn3 ltn13 lts1 lts2 lts3
set_option maxHeartbeats 400000 in
theorem eqIntS_same (v1 v2:Value) (xs:List Int) (w:World) (hv1:SlE w cI 1 v1 xs) (hv2:SlE w cI 1 v2 xs) :
 Calls Try.prog 27 #[v1,v2] w fun e w'=>e=.returned (.bool true)/\Below w.heap.size w w':=by
 obtain ⟨A1,c1,rfl,hl1,hm1,hx1⟩:=hv1
 obtain ⟨A2,c2,rfl,hl2,hm2,hx2⟩:=hv2
 unfold maxLen at hm1 hm2
 go_enter Try.func27,Try.ntmps27
 go_wp2
 go_loopw [5] (fun i wr=>∃ (k:Nat) (u:World),k<=xs.length/\i=.int .i64 k/\wr=ext w u) (fun i _=>xs.length - (intOf i).toNat)
 case atStart=>exact ⟨0,w,Nat.zero_le _,rfl,ext_self w⟩
 case round =>
  obtain ⟨k,u,hk,rfl,rfl⟩:=hrel
  by_cases hlt:k < xs.length
  · obtain ⟨b1,o1,rfl,-,hb1,hc1⟩:=hx1 k xs[k] (List.getElem?_eq_getElem hlt)
    obtain ⟨b2,o2,rfl,-,hb2,hc2⟩:=hx2 k xs[k] (List.getElem?_eq_getElem hlt)
    generalize xs[k]=x at hc1 hc2
    have c10:=hc1 0 _ rfl
    have c20:=hc2 0 _ rfl
    simp only [Nat.add_zero,Nat.mul_one] at c10 c20
    clear hc1 hc2 hx1 hx2
    go_wp2
    refine wp_region_ext_lit (by kernel_rfl) (by kernel_rfl) ?_
    repeat (go_big_quiet_step (fail))
    refine wpQuiet_nil ?_
    rintro _ ⟨u2,rfl⟩
    go_wp2
    go_roundw
    case rel =>
     obtain ⟨y,hy⟩:=ext_ext w u u2
     exact ⟨k+1,y,by omega,by go_num,hy⟩
    case measure=>simp [intOf];omega
  · go_wp2
    go_ret
    exact ⟨rfl,ext_below _ _⟩
def mkInt (k:Int) (n:Nat):List Int:=(List.range n).map fun (i:Nat)=>k+(i:Int)
theorem mkInt_len (k:Int) (n:Nat):(mkInt k n).length=n:=by simp [mkInt]
theorem mkInt_succ (k:Int) (i:Nat):mkInt k (i+1)=mkInt k i ++ [k+(i:Int)]:=by simp [mkInt,List.range_succ]
theorem flatInt_len (l:List Int):(l.flatMap cI).length=l.length * 1:=by
 induction l with
 | nil=>rfl
 | cons x l ih=>simp only [List.flatMap_cons,List.length_append,cI_len,ih,List.length_cons];omega
theorem markInt_step (k:Int) (xs:List Int) (i:Nat) (hi:i < xs.length) :
 (((mkInt k i ++ xs.drop i).flatMap cI).set (i) (.int .i64 (k+(i:Int))))=(mkInt k (i+1) ++ xs.drop (i+1)).flatMap cI:=by
 rw [List.drop_eq_getElem_cons hi,mkInt_succ]
 have hl:((mkInt k i).flatMap cI).length=i:=by rw [flatInt_len,mkInt_len];omega
 simp only [List.flatMap_append,List.flatMap_cons,List.flatMap_nil,List.append_nil,List.append_assoc]
 rw [List.set_append_right _ _ (by omega),hl]
 simp [cI]
set_option maxHeartbeats 4000000 in
theorem markIntS_any (lo hi:Nat) (e:TypeId) (v:Value) (xs:List Int) (k:Int) (w:World) (hv:Own lo hi w e cI 1 v xs) (hk:0<=k) (hb:k+1 * xs.length<=4611686018427387904) :
 Calls Try.prog 29 #[v,.int .i64 k] w fun en w'=>en=.returned (.int .i64 (k+xs.length))/\Own lo hi w' e cI 1 v (mkInt k xs.length)/\Only lo hi w w':=by
 obtain ⟨hr,hlt⟩:=hv
 have hr0:=hr
 obtain ⟨hl,hs⟩:=hr0
 rcases hs with ⟨rfl,hn⟩ | ⟨g,cap,cur,rfl,hg,hh,hnc,hcm,hsz,htk⟩
 · obtain rfl:xs=[]:=List.eq_nil_of_length_eq_zero hn
   clear hl hr hn hlt
   go_enter Try.func29,Try.ntmps29
   go_wp2
   go_loopw [1,5] (fun kk ii wr=>kk=.int .i64 k/\ii=.int .i64 0/\wr=w) (fun _ _ _=>0)
   case atStart=>exact ⟨rfl,rfl,rfl⟩
   case round =>
    obtain ⟨rfl,rfl,rfl⟩:=hrel
    go_wp2
    go_ret
    exact ⟨by simp,by simpa [mkInt] using Own.nil lo hi wr e cI 1,Only.refl _ _ _⟩
 · have hglt:=hlt g rfl
   unfold maxLen at hcm
   have HL:=Hd_ hl
   clear hh htk hsz hlt hl
   go_enter Try.func29,Try.ntmps29
   go_wp2
   go_loopw [1,5] (fun kk ii wr=>∃ i:Nat,i<=xs.length/\kk=.int .i64 (k+i)/\ii=.int .i64 i/\wr.ownsRow lo e 1 (.slice (some ⟨g,0,none⟩) xs.length cap) xs.length ((mkInt k i ++ xs.drop i).flatMap cI)/\Only lo hi w wr) (fun _ ii _=>xs.length - (intOf ii).toNat)
   case atStart=>exact ⟨0,Nat.zero_le _,by simp,rfl,by simpa [mkInt] using hr,Only.refl _ _ _⟩
   case round =>
    obtain ⟨i,hi',rfl,rfl,hrow,honly⟩:=hrel
    by_cases hlt:i < xs.length
    · have hrow0:=hrow
      have hc0:=World.ownsRow.cellAt hrow (i) (by omega)
      have hf0:=World.ownsRow.frozenAt hrow (i)
      have hst:=(World.ownsRow.stored hrow0 (i) (.int .i64 (k+(i:Int)))).1
      rw [markInt_step k xs i hlt] at hst
      have HST:=Hd_ hst
      have hxi:(mkInt k i ++ xs.drop i)[i]?=some xs[i]:=by
       rw [List.getElem?_append_right (by simp [mkInt_len]),mkInt_len];simp [hlt]
      have hcx0:((mkInt k i ++ xs.drop i).flatMap cI)[i]?=some (.int .i64 xs[i]):=by
       have:=flat_at cI_len hxi 0 _ rfl
       simpa using this
      rw [hcx0] at hc0
      clear hcx0 hxi hst hrow hrow0 hr
      go_wp2
      go_roundw
      case rel=>exact ⟨i+1,by omega,by go_num,by go_num,HST.out,(honly.setCell (.inl ⟨hg,hglt⟩) _)⟩
      case measure=>simp [intOf];omega
    · obtain rfl:i=xs.length:=by omega
      have hown:Own lo hi wr e cI 1 (.slice (some ⟨g,0,none⟩) xs.length cap) (mkInt k xs.length):=by
       refine ⟨?_,fun g' hg'=>by cases hg';exact hglt⟩
       rw [mkInt_len]
       simpa using hrow
      clear hrow hr
      go_wp2
      go_ret
      exact ⟨rfl,hown,honly⟩
theorem szIntS_any (A:Option Addr) (n c:Nat) (left:Int) (w:World) (hn:n<=maxLen) (h0:0<=left) (h1:left<=1048576) :
 Calls Try.prog 38 #[.slice A n c,.int .i64 left] w fun e w'=>e=.returned (.int .i64 (if left < n then -1 else left - n))/\w'=w:=by
 unfold maxLen at hn
 by_cases hlt:left < n
 · rw [if_pos hlt]
   go_enter Try.func38,Try.ntmps38
   go_wp2
   go_ret
   exact ⟨rfl,rfl⟩
 · rw [if_neg hlt]
   go_enter Try.func38,Try.ntmps38
   go_wp2
   go_ret
   exact ⟨rfl,rfl⟩
theorem elInt:ElemOk Try.prog 22 3 (.int .i64 0) 1 8:=⟨Try.underlying22,by kernel_rfl,rfl,by omega⟩
theorem toInt_step (xs:List Int) (i:Nat) (x:Int) (hx:xs[i]?=some x) :
 (((xs.take i ++ List.replicate (xs.length - i) (0:Int)).flatMap cI).set (i) (.int .i64 x))=(xs.take (i+1) ++ List.replicate (xs.length - (i+1)) (0:Int)).flatMap cI:=by
 have hi:=(List.getElem?_eq_some_iff.1 hx).1
 rw [take_snoc hx,show xs.length - i=(xs.length - (i+1))+1 by omega,List.replicate_succ]
 have hl:((xs.take i).flatMap cI).length=i:=by rw [flatInt_len,List.length_take];omega
 simp only [List.flatMap_append,List.flatMap_cons,List.flatMap_nil,List.append_nil,List.append_assoc]
 rw [List.set_append_right _ _ (by omega),hl]
 simp [cI]
set_option maxHeartbeats 1000000 in
theorem toIntS_any (v:Value) (xs:List Int) (w:World) (hv:SlE w cI 1 v xs) (hn:xs.length<=1048576) :
 Calls Try.prog 44 #[v] w fun en w'=>∃ v',en=.returned v'/\Own w.heap.size w'.heap.size w' 3 cI 1 v' xs/\Below w.heap.size w w':=by
 obtain ⟨A,c,rfl,hl,hm,hx⟩:=hv
 go_enter Try.func44,Try.ntmps44
 go_wp2_with (at_make;refine wpList_makeE (P:=Try.prog) cI (0:Int) elInt rfl rfl rfl _ _ rfl w.heap.size xs.length _ (by rfl) (by rfl) rfl (by omega) (by unfold maxLen;omega) (Nat.le_refl _) ?_;intro w1 hrow1 hbel1)
 go_loopw [4] (fun ii wr=>∃ i:Nat,i<=xs.length/\ii=.int .i64 i/\wr.ownsRow w.heap.size 3 1 (.slice (some ⟨w.heap.size,0,none⟩) xs.length xs.length) xs.length ((xs.take i ++ List.replicate (xs.length - i) (0:Int)).flatMap cI)/\Below w.heap.size w wr) (fun ii _=>xs.length - (intOf ii).toNat)
 case atStart=>exact ⟨0,Nat.zero_le _,rfl,by simpa using hrow1,hbel1⟩
 case round =>
  obtain ⟨i,hi',rfl,hrow,hbel⟩:=hrel
  by_cases hlt:i < xs.length
  · have hxi:xs[i]?=some xs[i]:=List.getElem?_eq_getElem hlt
    obtain ⟨b,o,rfl,-,hb1,hc⟩:=hx i _ hxi
    have hstep:=toInt_step xs i _ hxi
    have hcur:(xs.take i ++ List.replicate (xs.length - i) (0:Int))[i]?=some (0:Int):=by
     rw [List.getElem?_append_right (by rw [List.length_take];omega),List.getElem?_replicate,if_pos (by rw [List.length_take];omega)]
    generalize xs[i]=x at hc hstep hxi
    have hs:=hbel.size
    have c0:=(hbel.cell (p:=⟨b,o+i * 1+0,none⟩) hb1).trans (hc 0 _ rfl)
    simp only [Nat.add_zero,Nat.mul_one] at c0
    clear hc hx hxi hrow1 hbel1
    have hrow2:=hrow
    have d0:=World.ownsRow.cellAt hrow2 (i) (by omega)
    have f0:=World.ownsRow.frozenAt hrow2 (i)
    have e0:=flat_at cI_len hcur 0 _ rfl
    simp only [Nat.mul_one,Nat.add_zero] at e0
    rw [e0] at d0
    clear e0
    have hst:=(World.ownsRow.stored hrow2 (i) (.int .i64 x)).1
    rw [hstep] at hst
    have HST:=Hd_ hst
    clear hst hstep hcur hrow hrow2
    go_wp2
    go_roundw
    case rel=>exact ⟨i+1,by omega,by go_num,HST.out,(hbel.setCell (Nat.le_refl _) _)⟩
    case measure=>simp [intOf];omega
  · obtain rfl:i=xs.length:=by omega
    go_wp2
    go_ret
    exact ⟨_,rfl,Own.of_row hrow rfl (by simp),hbel⟩
theorem eqEdge_same (p:Ed) (w:World) :
 Calls Try.prog 91 #[.agg #[.int .i64 p.1,.int .i64 p.2.1,.int .i64 p.2.2.1,.int .i64 p.2.2.2],.agg #[.int .i64 p.1,.int .i64 p.2.1,.int .i64 p.2.2.1,.int .i64 p.2.2.2]] w fun e w'=>e=.returned (.bool true)/\Below w.heap.size w w':=by
 obtain ⟨a0,a1,a2,a3⟩:=p
 go_enter Try.func91,Try.ntmps91
 go_wp2
 go_ret
 refine ⟨rfl,?_⟩
 repeat (first | exact Below.refl _ _ | refine Below.alloc ?_ (by simp) _)
set_option maxHeartbeats 400000 in
theorem eqEdgeS_same (v1 v2:Value) (xs:List Ed) (w:World) (hv1:SlE w cEd 4 v1 xs) (hv2:SlE w cEd 4 v2 xs) :
 Calls Try.prog 52 #[v1,v2] w fun e w'=>e=.returned (.bool true)/\Below w.heap.size w w':=by
 obtain ⟨A1,c1,rfl,hl1,hm1,hx1⟩:=hv1
 obtain ⟨A2,c2,rfl,hl2,hm2,hx2⟩:=hv2
 unfold maxLen at hm1 hm2
 go_enter Try.func52,Try.ntmps52
 go_wp2
 go_loopw [5] (fun i wr=>∃ (k:Nat) (u:World),k<=xs.length/\i=.int .i64 k/\wr=ext w u) (fun i _=>xs.length - (intOf i).toNat)
 case atStart=>exact ⟨0,w,Nat.zero_le _,rfl,ext_self w⟩
 case round =>
  obtain ⟨k,u,hk,rfl,rfl⟩:=hrel
  by_cases hlt:k < xs.length
  · obtain ⟨b1,o1,rfl,-,hb1,hc1⟩:=hx1 k xs[k] (List.getElem?_eq_getElem hlt)
    obtain ⟨b2,o2,rfl,-,hb2,hc2⟩:=hx2 k xs[k] (List.getElem?_eq_getElem hlt)
    generalize xs[k]=x at hc1 hc2
    have c10:=hc1 0 _ rfl
    have c11:=hc1 1 _ rfl
    have c12:=hc1 2 _ rfl
    have c13:=hc1 3 _ rfl
    have c20:=hc2 0 _ rfl
    have c21:=hc2 1 _ rfl
    have c22:=hc2 2 _ rfl
    have c23:=hc2 3 _ rfl
    simp only [Nat.add_zero] at c10 c20
    clear hc1 hc2 hx1 hx2
    go_wp2
    refine wp_region_ext_lit (by kernel_rfl) (by kernel_rfl) ?_
    repeat (go_big_quiet_step ((go_at_call 91;exact Calls.ext_of (eqEdge_same x _))))
    refine wpQuiet_nil ?_
    rintro _ ⟨u2,rfl⟩
    go_wp2
    go_roundw
    case rel =>
     obtain ⟨y,hy⟩:=ext_ext w u u2
     exact ⟨k+1,y,by omega,by go_num,hy⟩
    case measure=>simp [intOf];omega
  · go_wp2
    go_ret
    exact ⟨rfl,ext_below _ _⟩
def mkEdge (k:Int) (n:Nat):List Ed:=(List.range n).map fun (i:Nat)=>(k+4 * (i:Int),k+4 * (i:Int)+1,k+4 * (i:Int)+1+1,k+4 * (i:Int)+1+1+1)
theorem mkEdge_len (k:Int) (n:Nat):(mkEdge k n).length=n:=by simp [mkEdge]
theorem mkEdge_succ (k:Int) (i:Nat):mkEdge k (i+1)=mkEdge k i ++ [(k+4 * (i:Int),k+4 * (i:Int)+1,k+4 * (i:Int)+1+1,k+4 * (i:Int)+1+1+1)]:=by simp [mkEdge,List.range_succ]
theorem flatEdge_len (l:List Ed):(l.flatMap cEd).length=l.length * 4:=by
 induction l with
 | nil=>rfl
 | cons x l ih=>simp only [List.flatMap_cons,List.length_append,cEd_len,ih,List.length_cons];omega
theorem markEdge_step (k:Int) (xs:List Ed) (i:Nat) (hi:i < xs.length) :
 ((((((mkEdge k i ++ xs.drop i).flatMap cEd).set (i * 4) (.int .i64 (k+4 * (i:Int)))).set (i * 4+1) (.int .i64 (k+4 * (i:Int)+1))).set (i * 4+2) (.int .i64 (k+4 * (i:Int)+1+1))).set (i * 4+3) (.int .i64 (k+4 * (i:Int)+1+1+1)))=(mkEdge k (i+1) ++ xs.drop (i+1)).flatMap cEd:=by
 rw [List.drop_eq_getElem_cons hi,mkEdge_succ]
 have hl:((mkEdge k i).flatMap cEd).length=i * 4:=by rw [flatEdge_len,mkEdge_len]
 simp only [List.flatMap_append,List.flatMap_cons,List.flatMap_nil,List.append_nil,List.append_assoc]
 rw [List.set_append_right _ _ (by omega),List.set_append_right _ _ (by omega),List.set_append_right _ _ (by omega),List.set_append_right _ _ (by omega),hl]
 simp [cEd]
set_option maxHeartbeats 4000000 in
theorem markEdgeS_any (lo hi:Nat) (e:TypeId) (v:Value) (xs:List Ed) (k:Int) (w:World) (hv:Own lo hi w e cEd 4 v xs) (hk:0<=k) (hb:k+4 * xs.length<=4611686018427387904) :
 Calls Try.prog 54 #[v,.int .i64 k] w fun en w'=>en=.returned (.int .i64 (k+4 * xs.length))/\Own lo hi w' e cEd 4 v (mkEdge k xs.length)/\Only lo hi w w':=by
 obtain ⟨hr,hlt⟩:=hv
 have hr0:=hr
 obtain ⟨hl,hs⟩:=hr0
 rcases hs with ⟨rfl,hn⟩ | ⟨g,cap,cur,rfl,hg,hh,hnc,hcm,hsz,htk⟩
 · obtain rfl:xs=[]:=List.eq_nil_of_length_eq_zero hn
   clear hl hr hn hlt
   go_enter Try.func54,Try.ntmps54
   go_wp2
   go_loopw [1,5] (fun kk ii wr=>kk=.int .i64 k/\ii=.int .i64 0/\wr=w) (fun _ _ _=>0)
   case atStart=>exact ⟨rfl,rfl,rfl⟩
   case round =>
    obtain ⟨rfl,rfl,rfl⟩:=hrel
    go_wp2
    go_ret
    exact ⟨by simp,by simpa [mkEdge] using Own.nil lo hi wr e cEd 4,Only.refl _ _ _⟩
 · have hglt:=hlt g rfl
   unfold maxLen at hcm
   have HL:=Hd_ hl
   clear hh htk hsz hlt hl
   go_enter Try.func54,Try.ntmps54
   go_wp2
   go_loopw [1,5] (fun kk ii wr=>∃ i:Nat,i<=xs.length/\kk=.int .i64 (k+4 * i)/\ii=.int .i64 i/\wr.ownsRow lo e 4 (.slice (some ⟨g,0,none⟩) xs.length cap) xs.length ((mkEdge k i ++ xs.drop i).flatMap cEd)/\Only lo hi w wr) (fun _ ii _=>xs.length - (intOf ii).toNat)
   case atStart=>exact ⟨0,Nat.zero_le _,by simp,rfl,by simpa [mkEdge] using hr,Only.refl _ _ _⟩
   case round =>
    obtain ⟨i,hi',rfl,rfl,hrow,honly⟩:=hrel
    by_cases hlt:i < xs.length
    · have hrow0:=hrow
      have hc0:=World.ownsRow.cellAt hrow (i * 4) (by omega)
      have hf0:=World.ownsRow.frozenAt hrow (i * 4)
      have hc1:=World.ownsRow.cellAt hrow (i * 4+1) (by omega)
      have hf1:=World.ownsRow.frozenAt hrow (i * 4+1)
      have hc2:=World.ownsRow.cellAt hrow (i * 4+2) (by omega)
      have hf2:=World.ownsRow.frozenAt hrow (i * 4+2)
      have hc3:=World.ownsRow.cellAt hrow (i * 4+3) (by omega)
      have hf3:=World.ownsRow.frozenAt hrow (i * 4+3)
      have hst:=(World.ownsRow.stored (World.ownsRow.stored (World.ownsRow.stored (World.ownsRow.stored hrow0 (i * 4) (.int .i64 (k+4 * (i:Int)))).1 (i * 4+1) (.int .i64 (k+4 * (i:Int)+1))).1 (i * 4+2) (.int .i64 (k+4 * (i:Int)+1+1))).1 (i * 4+3) (.int .i64 (k+4 * (i:Int)+1+1+1))).1
      rw [markEdge_step k xs i hlt] at hst
      have HST:=Hd_ hst
      have hxi:(mkEdge k i ++ xs.drop i)[i]?=some xs[i]:=by
       rw [List.getElem?_append_right (by simp [mkEdge_len]),mkEdge_len];simp [hlt]
      have hcx0:((mkEdge k i ++ xs.drop i).flatMap cEd)[i * 4]?=some (.int .i64 xs[i].1):=flat_at cEd_len hxi 0 _ rfl
      rw [hcx0] at hc0
      have hcx1:((mkEdge k i ++ xs.drop i).flatMap cEd)[i * 4+1]?=some (.int .i64 xs[i].2.1):=flat_at cEd_len hxi 1 _ rfl
      rw [hcx1] at hc1
      have hcx2:((mkEdge k i ++ xs.drop i).flatMap cEd)[i * 4+2]?=some (.int .i64 xs[i].2.2.1):=flat_at cEd_len hxi 2 _ rfl
      rw [hcx2] at hc2
      have hcx3:((mkEdge k i ++ xs.drop i).flatMap cEd)[i * 4+3]?=some (.int .i64 xs[i].2.2.2):=flat_at cEd_len hxi 3 _ rfl
      rw [hcx3] at hc3
      clear hcx0 hcx1 hcx2 hcx3 hxi hst hrow hrow0 hr
      go_wp2
      go_roundw
      case rel=>exact ⟨i+1,by omega,by go_num,by go_num,HST.out,((((honly.setCell (.inl ⟨hg,hglt⟩) _).setCell (.inl ⟨hg,hglt⟩) _).setCell (.inl ⟨hg,hglt⟩) _).setCell (.inl ⟨hg,hglt⟩) _)⟩
      case measure=>simp [intOf];omega
    · obtain rfl:i=xs.length:=by omega
      have hown:Own lo hi wr e cEd 4 (.slice (some ⟨g,0,none⟩) xs.length cap) (mkEdge k xs.length):=by
       refine ⟨?_,fun g' hg'=>by cases hg';exact hglt⟩
       rw [mkEdge_len]
       simpa using hrow
      clear hrow hr
      go_wp2
      go_ret
      exact ⟨rfl,hown,honly⟩
theorem toEdge_any (p:Ed) (w:World) :
 Calls Try.prog 78 #[.agg #[.int .i64 p.1,.int .i64 p.2.1,.int .i64 p.2.2.1,.int .i64 p.2.2.2]] w fun e w'=>e=.returned (.agg #[.int .i64 p.1,.int .i64 p.2.1,.int .i64 p.2.2.1,.int .i64 p.2.2.2])/\Below w.heap.size w w':=by
 obtain ⟨a0,a1,a2,a3⟩:=p
 go_enter Try.func78,Try.ntmps78
 go_wp2
 refine bodyPost_ret (v:=.agg #[.int .i64 a0,.int .i64 a1,.int .i64 a2,.int .i64 a3]) (by simp [results,Try.results78,go_sem]) rfl ⟨rfl,?_⟩
 repeat (first | exact Below.refl _ _ | refine Below.setCell ?_ (by simp <;> omega) _ | refine Below.alloc ?_ (by simp <;> omega) _)
theorem szEdgeS_any (A:Option Addr) (n c:Nat) (left:Int) (w:World) (hn:n<=maxLen) (h0:0<=left) (h1:left<=1048576) :
 Calls Try.prog 39 #[.slice A n c,.int .i64 left] w fun e w'=>e=.returned (.int .i64 (if left < n then -1 else left - n))/\w'=w:=by
 unfold maxLen at hn
 by_cases hlt:left < n
 · rw [if_pos hlt]
   go_enter Try.func39,Try.ntmps39
   go_wp2
   go_ret
   exact ⟨rfl,rfl⟩
 · rw [if_neg hlt]
   go_enter Try.func39,Try.ntmps39
   go_wp2
   go_ret
   exact ⟨rfl,rfl⟩
theorem elEdge:ElemOk Try.prog 34 111 (.agg #[.int .i64 0,.int .i64 0,.int .i64 0,.int .i64 0]) 4 32:=⟨Try.underlying34,by kernel_rfl,rfl,by omega⟩
theorem toEdge_step (xs:List Ed) (i:Nat) (x:Ed) (hx:xs[i]?=some x) :
 ((((((xs.take i ++ List.replicate (xs.length - i) (0,0,0,0)).flatMap cEd).set (i * 4) (.int .i64 x.1)).set (i * 4+1) (.int .i64 x.2.1)).set (i * 4+2) (.int .i64 x.2.2.1)).set (i * 4+3) (.int .i64 x.2.2.2))=(xs.take (i+1) ++ List.replicate (xs.length - (i+1)) (0,0,0,0)).flatMap cEd:=by
 have hi:=(List.getElem?_eq_some_iff.1 hx).1
 rw [take_snoc hx,show xs.length - i=(xs.length - (i+1))+1 by omega,List.replicate_succ]
 have hl:((xs.take i).flatMap cEd).length=i * 4:=by rw [flatEdge_len,List.length_take];congr 1;omega
 simp only [List.flatMap_append,List.flatMap_cons,List.flatMap_nil,List.append_nil,List.append_assoc]
 rw [List.set_append_right _ _ (by omega),List.set_append_right _ _ (by omega),List.set_append_right _ _ (by omega),List.set_append_right _ _ (by omega),hl]
 simp [cEd]
set_option maxHeartbeats 1000000 in
theorem toEdgeS_any (v:Value) (xs:List Ed) (w:World) (hv:SlE w cEd 4 v xs) (hn:xs.length<=1048576) :
 Calls Try.prog 45 #[v] w fun en w'=>∃ v',en=.returned v'/\Own w.heap.size w'.heap.size w' 111 cEd 4 v' xs/\Below w.heap.size w w':=by
 obtain ⟨A,c,rfl,hl,hm,hx⟩:=hv
 go_enter Try.func45,Try.ntmps45
 go_wp2_with (at_make;refine wpList_makeE (P:=Try.prog) cEd (0,0,0,0) elEdge rfl rfl rfl _ _ rfl w.heap.size xs.length _ (by rfl) (by rfl) rfl (by omega) (by unfold maxLen;omega) (Nat.le_refl _) ?_;intro w1 hrow1 hbel1)
 go_loopw [4] (fun ii wr=>∃ i:Nat,i<=xs.length/\ii=.int .i64 i/\wr.ownsRow w.heap.size 111 4 (.slice (some ⟨w.heap.size,0,none⟩) xs.length xs.length) xs.length ((xs.take i ++ List.replicate (xs.length - i) (0,0,0,0)).flatMap cEd)/\Below w.heap.size w wr) (fun ii _=>xs.length - (intOf ii).toNat)
 case atStart=>exact ⟨0,Nat.zero_le _,rfl,by simpa using hrow1,hbel1⟩
 case round =>
  obtain ⟨i,hi',rfl,hrow,hbel⟩:=hrel
  by_cases hlt:i < xs.length
  · have hxi:xs[i]?=some xs[i]:=List.getElem?_eq_getElem hlt
    obtain ⟨b,o,rfl,-,hb1,hc⟩:=hx i _ hxi
    have hstep:=toEdge_step xs i _ hxi
    have hcur:(xs.take i ++ List.replicate (xs.length - i) (0,0,0,0))[i]?=some (0,0,0,0):=by
     rw [List.getElem?_append_right (by rw [List.length_take];omega),List.getElem?_replicate,if_pos (by rw [List.length_take];omega)]
    generalize xs[i]=x at hc hstep hxi
    have hs:=hbel.size
    have c0:=(hbel.cell (p:=⟨b,o+i * 4+0,none⟩) hb1).trans (hc 0 _ rfl)
    have c1:=(hbel.cell (p:=⟨b,o+i * 4+1,none⟩) hb1).trans (hc 1 _ rfl)
    have c2:=(hbel.cell (p:=⟨b,o+i * 4+2,none⟩) hb1).trans (hc 2 _ rfl)
    have c3:=(hbel.cell (p:=⟨b,o+i * 4+3,none⟩) hb1).trans (hc 3 _ rfl)
    simp only [Nat.add_zero] at c0
    clear hc hx hxi hrow1 hbel1
    go_wp2_with fail
    refine (toEdge_any x _).mono ?_;rintro e w2 ⟨rfl,hb2⟩
    have hrow2:=ownsRow_below hrow hb2 (Nat.le_refl _)
    have d0:=World.ownsRow.cellAt hrow2 (i * 4) (by omega)
    have f0:=World.ownsRow.frozenAt hrow2 (i * 4)
    have e0:=flat_at cEd_len hcur 0 _ rfl
    simp only [Nat.add_zero] at e0
    rw [e0] at d0
    clear e0
    have d1:=World.ownsRow.cellAt hrow2 (i * 4+1) (by omega)
    have f1:=World.ownsRow.frozenAt hrow2 (i * 4+1)
    have e1:=flat_at cEd_len hcur 1 _ rfl
    rw [e1] at d1
    clear e1
    have d2:=World.ownsRow.cellAt hrow2 (i * 4+2) (by omega)
    have f2:=World.ownsRow.frozenAt hrow2 (i * 4+2)
    have e2:=flat_at cEd_len hcur 2 _ rfl
    rw [e2] at d2
    clear e2
    have d3:=World.ownsRow.cellAt hrow2 (i * 4+3) (by omega)
    have f3:=World.ownsRow.frozenAt hrow2 (i * 4+3)
    have e3:=flat_at cEd_len hcur 3 _ rfl
    rw [e3] at d3
    clear e3
    have hst:=(World.ownsRow.stored (World.ownsRow.stored (World.ownsRow.stored (World.ownsRow.stored hrow2 (i * 4) (.int .i64 x.1)).1 (i * 4+1) (.int .i64 x.2.1)).1 (i * 4+2) (.int .i64 x.2.2.1)).1 (i * 4+3) (.int .i64 x.2.2.2)).1
    rw [hstep] at hst
    have HST:=Hd_ hst
    clear hst hstep hcur hrow hrow2
    go_wp2
    go_roundw
    case rel=>exact ⟨i+1,by omega,by go_num,HST.out,(((((hbel.trans (hb2.mono hs)).setCell (Nat.le_refl _) _).setCell (Nat.le_refl _) _).setCell (Nat.le_refl _) _).setCell (Nat.le_refl _) _)⟩
    case measure=>simp [intOf];omega
  · obtain rfl:i=xs.length:=by omega
    go_wp2
    go_ret
    exact ⟨_,rfl,Own.of_row hrow rfl (by simp),hbel⟩
def GrO (lo hi:Nat) (w:World) (v:Value) (g:Gr):Prop :=
 ∃ vs es mid,v=.agg #[vs,es]/\Own lo mid w 3 cI 1 vs g.vals/\Own mid hi w 111 cEd 4 es g.edges/\lo<=mid/\mid<=hi
theorem GrO.view {lo hi:Nat} {w:World} {v:Value} {g:Gr} (h:GrO lo hi w v g):GrV lo hi w v g:=by
 obtain ⟨vs,es,mid,rfl,h1,h2,h3,h4⟩:=h
 exact ⟨vs,es,rfl,(h1.sl cI_len).mono (Nat.le_refl _) h4,(h2.sl cEd_len).mono h3 (Nat.le_refl _)⟩
theorem GrO.below {lo hi:Nat} {w w':World} {v:Value} {g:Gr} (h:GrO lo hi w v g) {B:Nat} (hb:Below B w w') (hB:hi<=B):GrO lo hi w' v g:=by
 obtain ⟨vs,es,mid,rfl,h1,h2,h3,h4⟩:=h
 exact ⟨vs,es,mid,rfl,h1.below hb (by omega),h2.below hb hB,h3,h4⟩
def szGr (g:Gr) (left:Int):Int:=if left < g.vals.length then -1 else if left - g.vals.length < g.edges.length then -1 else left - g.vals.length - g.edges.length
theorem szGr_le (g:Gr) (left:Int) (h:¬ szGr g left < 0):g.vals.length<=left.toNat/\g.edges.length<=left.toNat/\0<=szGr g left/\szGr g left<=left:=by
 unfold szGr at h ⊢
 split at h
 · omega
 · split at h
   · omega
   · rw [if_neg (by omega),if_neg (by omega)];omega
theorem szGraph_any (v:Value) (g:Gr) (left:Int) (w:World) (hv:GrV 0 w.heap.size w v g) (h0:0<=left) (h1:left<=1048576) :
 Calls Try.prog 7 #[v,.int .i64 left] w fun e w'=>e=.returned (.int .i64 (szGr g left))/\Below w.heap.size w w':=by
 obtain ⟨vs,es,rfl,⟨A1,c1,rfl,hl1,hm1,-⟩,⟨A2,c2,rfl,hl2,hm2,-⟩⟩:=hv
 by_cases g1:left < g.vals.length
 · rw [szGr,if_pos g1]
   have hc:=szIntS_any A1 g.vals.length c1 left
   rw [if_pos g1] at hc
   have HC:=Hd_ hc
   clear hc
   go_enter Try.func7,Try.ntmps7
   go_wp2_with fail
   refine (HC.out _ (by omega) h0 h1).mono ?_;rintro e w1 ⟨rfl,rfl⟩
   go_wp2
   go_ret
   exact ⟨rfl,(Below.refl _ _).alloc (Nat.le_refl _) _⟩
 · rw [szGr,if_neg g1]
   have hc:=szIntS_any A1 g.vals.length c1 left
   rw [if_neg g1] at hc
   have HC:=Hd_ hc
   clear hc
   by_cases g2:left - g.vals.length < g.edges.length
   · rw [if_pos g2]
     have hd:=szEdgeS_any A2 g.edges.length c2 (left - g.vals.length)
     rw [if_pos g2] at hd
     have HD:=Hd_ hd
     clear hd
     go_enter Try.func7,Try.ntmps7
     go_wp2_with fail
     refine (HC.out _ (by omega) h0 h1).mono ?_;rintro e w1 ⟨rfl,rfl⟩
     go_wp2_with fail
     refine (HD.out _ (by omega) (by omega) (by omega)).mono ?_;rintro e w1 ⟨rfl,rfl⟩
     go_wp2
     go_ret
     exact ⟨rfl,(Below.refl _ _).alloc (Nat.le_refl _) _⟩
   · rw [if_neg g2]
     have hd:=szEdgeS_any A2 g.edges.length c2 (left - g.vals.length)
     rw [if_neg g2] at hd
     have HD:=Hd_ hd
     clear hd
     go_enter Try.func7,Try.ntmps7
     go_wp2_with fail
     refine (HC.out _ (by omega) h0 h1).mono ?_;rintro e w1 ⟨rfl,rfl⟩
     go_wp2_with fail
     refine (HD.out _ (by omega) (by omega) (by omega)).mono ?_;rintro e w1 ⟨rfl,rfl⟩
     go_wp2
     go_ret
     exact ⟨rfl,(Below.refl _ _).alloc (Nat.le_refl _) _⟩
set_option maxHeartbeats 4000000 in
theorem toGraph_any (v:Value) (g:Gr) (w:World) (hv:GrV 0 w.heap.size w v g) (h1:g.vals.length<=1048576) (h2:g.edges.length<=1048576) :
 Calls Try.prog 10 #[v] w fun e w'=>∃ v',e=.returned v'/\GrO w.heap.size w'.heap.size w' v' g/\Below w.heap.size w w':=by
 obtain ⟨vs,es,rfl,hvs,hes⟩:=hv
 go_enter Try.func10,Try.ntmps10
 go_wp2_with fail
 refine (toIntS_any vs g.vals _ ?_ h1).mono ?_
 · exact SlE.keep hvs (by repeat (first | exact Below.refl _ _ | refine Below.alloc ?_ (by simp <;> omega) _))
 rintro e w1 ⟨v1,rfl,ho1',hb1⟩
 have b0:=(((Blk.new w _ _ w.heap.size rfl).alloc _).alloc _).keep hb1
 have b1:=((Blk.new (w.alloc _) _ _ (w.heap.size+1) (by simp)).alloc _).keep hb1
 have b2:=(Blk.new ((w.alloc _).alloc _) _ _ (w.heap.size+1+1) (by simp)).keep hb1
 have o1:Only w.heap.size (w.heap.size+3) w w1:=(((Only.refl _ _ _).alloc _).alloc _ |>.alloc _).trans (Only.of_below hb1 _ _)
 have ho1:Own (w.heap.size+3) w1.heap.size w1 _ cI 1 v1 g.vals:=ho1'.mono (by simp) (Nat.le_refl _)
 clear ho1'
 obtain ⟨A1,n1,c1,rfl⟩:=ho1.shape
 have s1:w.heap.size+3<=w1.heap.size:=by have:=hb1.size;simpa using this
 clear hb1
 have x0:w1.cell? ⟨w.heap.size,1,none⟩=some es:=b0.cell 1
 have x2:w1.cell? ⟨w.heap.size+1+1,0,none⟩=some (.slice none 0 0):=b2.cell 0
 have y2:=b2.frozen 0
 go_wp2_with fail
 refine (toEdgeS_any es g.edges _ ?_ h2).mono ?_
 · exact SlE.keep hes ((o1.setCell (.inl (by simp <;> omega)) _).below (Nat.le_refl _) (Nat.le_refl _))
 rintro e w2 ⟨v2,rfl,ho2',hb2⟩
 clear x0 x2 y2
 have o2:=(o1.setCell (p:=⟨w.heap.size+1+1,0,none⟩) (.inl (by simp <;> omega)) (.slice A1 n1 c1)).trans (Only.of_below hb2 _ _)
 have b1:=(b1.far (p:=⟨w.heap.size+1+1,0,none⟩) (by simp) (.slice A1 n1 c1)).keep hb2
 have b2:=(b2.set_ 0 (.slice A1 n1 c1)).keep hb2
 have s2:w1.heap.size<=w2.heap.size:=by have:=hb2.size;simpa using this
 have ho2:Own w1.heap.size w2.heap.size w2 _ cEd 4 v2 g.edges:=ho2'.mono (by simp) (Nat.le_refl _)
 have ho1:=(ho1.only ((Only.refl w.heap.size (w.heap.size+3) _).setCell (p:=⟨w.heap.size+1+1,0,none⟩) (.inl (by simp <;> omega)) (.slice A1 n1 c1)) (.inr (Nat.le_refl _))).below hb2 (by simp)
 obtain ⟨A2,n2,c2,rfl⟩:=ho2.shape
 have x1:w2.cell? ⟨w.heap.size+1,0,none⟩=some (.slice none 0 0):=b1.cell 0
 have x2:w2.cell? ⟨w.heap.size+1,1,none⟩=some (.slice none 0 0):=b1.cell 1
 have x3:w2.cell? ⟨w.heap.size+1+1,0,none⟩=some (.slice A1 n1 c1):=b2.cell 0
 have x4:w2.cell? ⟨w.heap.size+1+1,1,none⟩=some (.slice none 0 0):=b2.cell 1
 have y1:=b1.frozen 0
 have y2:=b1.frozen 1
 have y4:=b2.frozen 1
 clear ho2' hb2 hvs hes
 go_wp2_with fail
 have oz:Only w.heap.size (w.heap.size+3) w2 _:=(((Only.refl _ _ w2).setCell (p:=⟨w.heap.size+1+1,1,none⟩) (.inl (by simp <;> omega)) (.slice A2 n2 c2)).setCell (p:=⟨w.heap.size+1,0,none⟩) (.inl (by simp <;> omega)) (.slice A1 n1 c1)).setCell (p:=⟨w.heap.size+1,1,none⟩) (.inl (by simp <;> omega)) (.slice A2 n2 c2)
 refine bodyPost_ret (v:=.agg #[.slice A1 n1 c1,.slice A2 n2 c2]) (by simp [results,Try.results10,go_sem,x1,x2]) rfl ⟨_,rfl,⟨_,_,w1.heap.size,rfl,(ho1.only oz (.inr (Nat.le_refl _))).mono (by omega) (Nat.le_refl _),(ho2.only oz (.inr s1)).mono (Nat.le_refl _) (by simp),by omega,by simp <;> omega⟩,(o2.trans oz).below (Nat.le_refl _) (Nat.le_refl _)⟩
set_option maxHeartbeats 1000000 in
theorem eqGraph_same (v1 v2:Value) (g:Gr) (w:World) (hv1:GrV 0 w.heap.size w v1 g) (hv2:GrV 0 w.heap.size w v2 g) :
 Calls Try.prog 14 #[v1,v2] w fun e w'=>e=.returned (.bool true)/\Below w.heap.size w w':=by
 obtain ⟨vs1,es1,rfl,hvs1,hes1⟩:=hv1
 obtain ⟨vs2,es2,rfl,hvs2,hes2⟩:=hv2
 have hb0:Below w.heap.size w ((w.alloc (.cells #[vs1,es1] 36)).alloc (.cells #[vs2,es2] 36)):=((Below.refl _ _).alloc (Nat.le_refl _) _).alloc (by simp) _
 go_enter Try.func14,Try.ntmps14
 go_wp2_with fail
 refine (eqIntS_same vs1 vs2 g.vals _ (SlE.keep hvs1 hb0) (SlE.keep hvs2 hb0)).mono ?_
 rintro e w1 ⟨rfl,hb1⟩
 have b0:=((Blk.new w _ _ w.heap.size rfl).alloc _).keep hb1
 have b1:=(Blk.new (w.alloc _) _ _ (w.heap.size+1) (by simp)).keep hb1
 have hb2:=below_trans hb0 hb1
 have x0:w1.cell? ⟨w.heap.size,1,none⟩=some es1:=b0.cell 1
 have x1:w1.cell? ⟨w.heap.size+1,1,none⟩=some es2:=b1.cell 1
 clear hb0 hb1 b0 b1
 go_wp2_with fail
 refine (eqEdgeS_same es1 es2 g.edges _ (SlE.keep hes1 hb2) (SlE.keep hes2 hb2)).mono ?_
 rintro e w2 ⟨rfl,hb3⟩
 go_wp2_with fail
 go_ret
 exact ⟨rfl,below_trans hb2 hb3⟩
set_option maxHeartbeats 1000000 in
theorem markGraph_any (lo hi:Nat) (v:Value) (g:Gr) (k:Int) (w:World) (hv:GrO lo hi w v g) (hw:hi<=w.heap.size) (hk:0<=k) (h1:g.vals.length<=1048576) (h2:g.edges.length<=1048576) (hk2:k<=1099511627776) :
 Calls Try.prog 16 #[v,.int .i64 k] w fun e w'=>∃ k',e=.returned (.int .i64 k')/\k<=k'/\k'<=k+8388608/\Only lo hi w w':=by
 obtain ⟨vs,es,mid,rfl,hvs,hes,hm1,hm2⟩:=hv
 have hb0:Below w.heap.size w (w.alloc (.cells #[vs,es] 36)):=(Below.refl _ _).alloc (Nat.le_refl _) _
 go_enter Try.func16,Try.ntmps16
 go_wp2_with fail
 refine (markIntS_any lo mid _ vs g.vals k _ (hvs.below hb0 (by omega)) hk (by omega)).mono ?_
 rintro e w1 ⟨rfl,-,ho1⟩
 have b0:=(Blk.new w _ _ w.heap.size rfl).only ho1 (.inr (by omega))
 have x0:w1.cell? ⟨w.heap.size,1,none⟩=some es:=b0.cell 1
 have ho2:=(Only.of_below hb0 lo mid).trans ho1
 have hs:=ho2.size
 clear hb0 b0
 go_wp2_with fail
 refine (markEdgeS_any mid hi _ es g.edges (k+g.vals.length) _ (hes.only ho2 (.inr (Nat.le_refl _))) (by omega) (by omega)).mono ?_
 rintro e w2 ⟨rfl,-,ho3⟩
 go_wp2_with fail
 go_ret
 exact ⟨_,rfl,by omega,by omega,(ho2.mono (Nat.le_refl _) hm2).trans (ho3.mono hm1 (Nat.le_refl _))⟩
/-- rows of the call's own, one behind the other in memory -/
def RowsO (w:World):Nat->Nat->List Value->List (List Int)->Prop
 | lo,hi,[],[]=>lo<=hi
 | lo,hi,u :: us,xs :: xss=>∃ mid,lo<=mid/\Own lo mid w 3 cI 1 u xs/\RowsO w mid hi us xss
 | _,_,_,_=>False
theorem RowsO.le {w:World}:∀ {us:List Value} {xss:List (List Int)} {lo hi:Nat},RowsO w lo hi us xss->lo<=hi
 | [],[],_,_,h=>h
 | _ :: _,_ :: _,_,_,⟨mid,h1,_,h3⟩=>Nat.le_trans h1 (RowsO.le h3)
 | [],_ :: _,_,_,h=>h.elim
 | _ :: _,[],_,_,h=>h.elim
theorem RowsO.len {w:World}:∀ {us:List Value} {xss:List (List Int)} {lo hi:Nat},RowsO w lo hi us xss->us.length=xss.length
 | [],[],_,_,_=>rfl
 | _ :: _,_ :: _,_,_,⟨_,_,_,h3⟩=>by simp [RowsO.len h3]
 | [],_ :: _,_,_,h=>h.elim
 | _ :: _,[],_,_,h=>h.elim
theorem RowsO.below {w w':World} {B:Nat} (hb:Below B w w'):∀ {us:List Value} {xss:List (List Int)} {lo hi:Nat},RowsO w lo hi us xss->hi<=B->RowsO w' lo hi us xss
 | [],[],_,_,h,_=>h
 | _ :: _,_ :: _,_,_,⟨mid,h1,h2,h3⟩,hB=>⟨mid,h1,h2.below hb (Nat.le_trans (RowsO.le h3) hB),RowsO.below hb h3 hB⟩
 | [],_ :: _,_,_,h,_=>h.elim
 | _ :: _,[],_,_,h,_=>h.elim
theorem RowsO.only {w w':World} {l r:Nat} (hb:Only l r w w'):∀ {us:List Value} {xss:List (List Int)} {lo hi:Nat},RowsO w lo hi us xss->(hi<=l ∨ r<=lo)->RowsO w' lo hi us xss
 | [],[],_,_,h,_=>h
 | _ :: _,_ :: _,lo,hi,⟨mid,h1,h2,h3⟩,ho=>⟨mid,h1,h2.only hb (by have:=RowsO.le h3;omega),RowsO.only hb h3 (by omega)⟩
 | [],_ :: _,_,_,h,_=>h.elim
 | _ :: _,[],_,_,h,_=>h.elim
theorem RowsO.mono {w:World}:∀ {us:List Value} {xss:List (List Int)} {lo hi lo' hi':Nat},RowsO w lo hi us xss->lo'<=lo->hi<=hi'->RowsO w lo' hi' us xss
 | [],[],_,_,_,_,h,h1,h2=>by simp only [RowsO] at h ⊢;omega
 | _ :: _,_ :: _,_,_,_,_,⟨mid,h1,h2,h3⟩,g1,g2=>⟨mid,by omega,h2.mono g1 (Nat.le_refl _),RowsO.mono h3 (Nat.le_refl _) g2⟩
 | [],_ :: _,_,_,_,_,h,_,_=>h.elim
 | _ :: _,[],_,_,_,_,h,_,_=>h.elim
theorem RowsO.at_ {w:World}:∀ {us:List Value} {xss:List (List Int)} {lo hi:Nat},RowsO w lo hi us xss->∀ (i:Nat) (u:Value) (xs:List Int),us[i]?=some u->xss[i]?=some xs->SlI lo hi w cI 1 u xs
 | [],[],_,_,_,_,_,_,h,_=>by simp at h
 | _ :: _,_ :: _,_,_,⟨mid,h1,h2,h3⟩,i,u,xs,hu,hx=>by
   cases i with
   | zero =>
     simp only [List.getElem?_cons_zero,Option.some.injEq] at hu hx
     subst hu hx
     exact (h2.sl cI_len).mono (Nat.le_refl _) (RowsO.le h3)
   | succ i=>exact (RowsO.at_ h3 i u xs (by simpa using hu) (by simpa using hx)).mono h1 (Nat.le_refl _)
 | [],_ :: _,_,_,h,_,_,_,_,_=>h.elim
 | _ :: _,[],_,_,h,_,_,_,_,_=>h.elim
def SSO (lo hi:Nat) (w:World) (v:Value) (xss:List (List Int)):Prop :=
 ∃ us mid,Own lo mid w 22 cV 1 v us/\RowsO w mid hi us xss/\lo<=mid
theorem SSO.view {lo hi:Nat} {w:World} {v:Value} {xss:List (List Int)} (h:SSO lo hi w v xss):SSV lo hi w v xss:=by
 obtain ⟨us,mid,h1,h2,h3⟩:=h
 exact ⟨us,(h1.sl cV_len).mono (Nat.le_refl _) h2.le,h2.len,fun i u xs hu hx=>(h2.at_ i u xs hu hx).mono h3 (Nat.le_refl _)⟩
theorem SSO.below {lo hi:Nat} {w w':World} {v:Value} {xss:List (List Int)} (h:SSO lo hi w v xss) {B:Nat} (hb:Below B w w') (hB:hi<=B):SSO lo hi w' v xss:=by
 obtain ⟨us,mid,h1,h2,h3⟩:=h
 exact ⟨us,mid,h1.below hb (Nat.le_trans h2.le hB),h2.below hb hB,h3⟩
theorem SSO.only {lo hi:Nat} {w w':World} {v:Value} {xss:List (List Int)} (h:SSO lo hi w v xss) {l r:Nat} (hb:Only l r w w') (ho:hi<=l ∨ r<=lo):SSO lo hi w' v xss:=by
 obtain ⟨us,mid,h1,h2,h3⟩:=h
 have:=h2.le
 exact ⟨us,mid,h1.only hb (by omega),h2.only hb (by omega),h3⟩
theorem SSO.mono {lo hi:Nat} {w:World} {v:Value} {xss:List (List Int)} (h:SSO lo hi w v xss) {lo' hi':Nat} (g1:lo'<=lo) (g2:hi<=hi'):SSO lo' hi' w v xss:=by
 obtain ⟨us,mid,h1,h2,h3⟩:=h
 exact ⟨us,mid,h1.mono g1 (Nat.le_refl _),h2.mono (Nat.le_refl _) g2,by omega⟩
def AuO (lo hi:Nat) (w:World) (v:Value) (a:Au):Prop :=
 ∃ ac nx mid,v=.agg #[.int .i64 a.start,ac,nx]/\Own lo mid w 4 cB 1 ac a.accept/\SSO mid hi w nx a.next/\lo<=mid/\mid<=hi
theorem AuO.view {lo hi:Nat} {w:World} {v:Value} {a:Au} (h:AuO lo hi w v a):AuV lo hi w v a:=by
 obtain ⟨ac,nx,mid,rfl,h1,h2,h3,h4⟩:=h
 exact ⟨ac,nx,rfl,(h1.sl cB_len).mono (Nat.le_refl _) h4,h2.view.mono h3 (Nat.le_refl _)⟩
theorem AuO.below {lo hi:Nat} {w w':World} {v:Value} {a:Au} (h:AuO lo hi w v a) {B:Nat} (hb:Below B w w') (hB:hi<=B):AuO lo hi w' v a:=by
 obtain ⟨ac,nx,mid,rfl,h1,h2,h3,h4⟩:=h
 exact ⟨ac,nx,mid,rfl,h1.below hb (by omega),h2.below hb hB,h3,h4⟩
end Go.Proofs.Ytloeghbhoflabaa
namespace Go.Proofs.Ytloeghbhoflabaa
open Go.ChangeShapes Go.WideShapes Go.ChangeAt Go.RowKit
section
variable {w w':World}
theorem kcell (hb:Below w.heap.size w w') {p:Addr} {v:Value} (h:w.cell? p=some v):w'.cell? p=some v:=(hb.cell (World.block_lt_of_cell? w _ h)).trans h
theorem kfb (hb:Below w.heap.size w w') {p:Addr} {v:Value} (hc:w.cell? p=some v) (hf:w.frozen? p=false):w'.frozen? p=false:=(hb.frozen (World.block_lt_of_cell? w _ hc)).trans hf
theorem kfg {row:Option Nat} (hg:w.grownBy w' row) {p:Addr} {v:Value} (hn:some p.block ≠ row) (hc:w.cell? p=some v) (hf:w.frozen? p=false):w'.frozen? p=false:=(World.frozen?_of_block (hg.block p.block (World.block_lt_of_cell? w _ hc) hn)).trans hf
theorem kB2 {p0 p1:Addr} {v0 v1:Value} (hb:Below w.heap.size w w') (h:w.cell? p0=some v0/\w.cell? p1=some v1):w'.cell? p0=some v0/\w'.cell? p1=some v1:=by
 obtain ⟨c0,c1⟩:=h
 exact ⟨kcell hb c0,kcell hb c1⟩
theorem kB5 {p0 p1 p2 p3 p4:Addr} {v0 v1 v2 v3 v4:Value} (hb:Below w.heap.size w w') (h:w.cell? p0=some v0/\w.cell? p1=some v1/\w.cell? p2=some v2/\w.cell? p3=some v3/\w.cell? p4=some v4):w'.cell? p0=some v0/\w'.cell? p1=some v1/\w'.cell? p2=some v2/\w'.cell? p3=some v3/\w'.cell? p4=some v4:=by
 obtain ⟨c0,c1,c2,c3,c4⟩:=h
 exact ⟨kcell hb c0,kcell hb c1,kcell hb c2,kcell hb c3,kcell hb c4⟩
theorem kA5 {p0 p1 p2 p3 p4:Addr} {v0 v1 v2 v3 v4:Value} (o:Obj) (h:w.cell? p0=some v0/\w.cell? p1=some v1/\w.cell? p2=some v2/\w.cell? p3=some v3/\w.cell? p4=some v4):(w.alloc o).cell? p0=some v0/\(w.alloc o).cell? p1=some v1/\(w.alloc o).cell? p2=some v2/\(w.alloc o).cell? p3=some v3/\(w.alloc o).cell? p4=some v4:=kB5 ((Below.refl _ _).alloc (Nat.le_refl _) _) h
theorem kG5 {p0 p1 p2 p3 p4:Addr} {v0 v1 v2 v3 v4:Value} {row:Option Nat} (hg:w.grownBy w' row) (n0:some p0.block ≠ row) (n1:some p1.block ≠ row) (n2:some p2.block ≠ row) (n3:some p3.block ≠ row) (n4:some p4.block ≠ row) (h:w.cell? p0=some v0/\w.cell? p1=some v1/\w.cell? p2=some v2/\w.cell? p3=some v3/\w.cell? p4=some v4):w'.cell? p0=some v0/\w'.cell? p1=some v1/\w'.cell? p2=some v2/\w'.cell? p3=some v3/\w'.cell? p4=some v4:=by
 obtain ⟨c0,c1,c2,c3,c4⟩:=h
 exact ⟨hg.cell c0 n0,hg.cell c1 n1,hg.cell c2 n2,hg.cell c3 n3,hg.cell c4 n4⟩
end
end Go.Proofs.Ytloeghbhoflabaa
namespace Go.Proofs.Ytloeghbhoflabaa
/-- n is in the range a to b -/
def wi (n a b:Int):Bool:=decide (a<=n) && decide (n<=b)
theorem wi_iff {n a b:Int}:wi n a b=true ↔ a<=n/\n<=b:=by simp [wi]
def rowOk (n:Int) (row:List Int):Bool:=row.all (fun t=>wi t (-1) (n - 1)) && (row.length==9)
def auOk (a:Au):Bool:=wi a.accept.length 1 12 && wi a.start 0 ((a.accept.length:Int) - 1) && (a.next.length==a.accept.length) && a.next.all (rowOk a.accept.length)
theorem auOk_iff {a:Au}:auOk a=true ↔ (1<=a.accept.length/\a.accept.length<=12)/\(0<=a.start/\a.start<=(a.accept.length:Int) - 1)/\a.next.length=a.accept.length/\∀ row ∈ a.next,rowOk a.accept.length row=true:=by
 simp only [auOk,Bool.and_eq_true,wi_iff,beq_iff_eq,List.all_eq_true]
 constructor
 · rintro ⟨⟨⟨h1,h2⟩,h3⟩,h4⟩
   exact ⟨by omega,h2,h3,h4⟩
 · rintro ⟨h1,h2,h3,h4⟩
   exact ⟨⟨⟨by omega,h2⟩,h3⟩,h4⟩
theorem rowOk_iff {n:Int} {row:List Int}:rowOk n row=true ↔ (∀ t ∈ row,-1<=t/\t<=n - 1)/\row.length=9:=by
 simp only [rowOk,Bool.and_eq_true,List.all_eq_true,wi_iff,beq_iff_eq]
def edOk (n:Int) (e:Ed):Bool:=wi e.1 1 99 && wi e.2.1 0 (n - 1) && wi e.2.2.1 0 (n - 1) && wi e.2.2.2 0 2
/-- edge number i is fine, and its id is above the one before it -/
def edAt (n:Int) (es:List Ed) (i:Nat):Bool :=
 match es[i]? with
 | none=>true
 | some e=>edOk n e && (decide (i=0) || match es[i - 1]? with
   | some p=>decide (p.1 < e.1)
   | none=>true)
def grOk (g:Gr):Bool:=g.vals.all (fun v=>wi v 0 2) && (List.range g.edges.length).all (edAt g.vals.length g.edges) && wi g.vals.length 1 5 && decide (g.edges.length<=12)
theorem edOk_iff {n:Int} {e:Ed}:edOk n e=true ↔ (1<=e.1/\e.1<=99)/\(0<=e.2.1/\e.2.1<=n - 1)/\(0<=e.2.2.1/\e.2.2.1<=n - 1)/\(0<=e.2.2.2/\e.2.2.2<=2):=by
 simp only [edOk,Bool.and_eq_true,wi_iff,and_assoc]
structure GrOk (g:Gr):Prop where
 n1:1<=g.vals.length
 n5:g.vals.length<=5
 e12:g.edges.length<=12
 vals:∀ v ∈ g.vals,0<=v/\v<=2
 edges:∀ e ∈ g.edges,(1<=e.1/\e.1<=99)/\(0<=e.2.1/\e.2.1<=(g.vals.length:Int) - 1)/\(0<=e.2.2.1/\e.2.2.1<=(g.vals.length:Int) - 1)/\(0<=e.2.2.2/\e.2.2.2<=2)
 asc:∀ (i:Nat) (p e:Ed),g.edges[i]?=some p->g.edges[i+1]?=some e->p.1 < e.1
theorem grOk_iff {g:Gr}:grOk g=true ↔ GrOk g:=by
 simp only [grOk,Bool.and_eq_true,decide_eq_true_eq,List.all_eq_true,wi_iff,List.mem_range]
 constructor
 · rintro ⟨⟨⟨h1,h2⟩,h3⟩,h4⟩
   refine ⟨by omega,by omega,h4,h1,fun e he=>?_,fun i p e hp he=>?_⟩
   · obtain ⟨i,hi,hie⟩:=List.getElem_of_mem he
     have:=h2 i hi
     rw [edAt,List.getElem?_eq_getElem hi,hie] at this
     simp only [Bool.and_eq_true] at this
     exact edOk_iff.1 this.1
   · have hi:=(List.getElem?_eq_some_iff.1 he).1
     have:=h2 (i+1) hi
     rw [edAt,he] at this
     simp only [Bool.and_eq_true,Nat.add_sub_cancel,hp,Bool.or_eq_true,decide_eq_true_eq] at this
     rcases this.2 with h | h
     · omega
     · exact h
 · rintro ⟨h1,h2,h3,h4,h5,h6⟩
   refine ⟨⟨⟨h4,fun i hi=>?_⟩,by omega⟩,h3⟩
   rw [edAt,List.getElem?_eq_getElem hi]
   simp only [Bool.and_eq_true,Bool.or_eq_true,decide_eq_true_eq]
   refine ⟨edOk_iff.2 (h5 _ (List.getElem_mem hi)),?_⟩
   by_cases h0:i=0
   · exact .inl h0
   · refine .inr ?_
     have hp:g.edges[i - 1]?=some g.edges[i - 1]:=List.getElem?_eq_getElem (by omega)
     rw [hp]
     simp only [decide_eq_true_eq]
     exact h6 (i - 1) _ _ hp (by rw [show i - 1+1=i by omega,List.getElem?_eq_getElem hi])
theorem range_all_succ {p:Nat->Bool} {i:Nat} (h:(List.range i).all p=true) (hp:p i=true):(List.range (i+1)).all p=true:=by
 rw [List.range_succ,List.all_append,h]
 simp [hp]
theorem range_all_false {p:Nat->Bool} {n i:Nat} (hi:i < n) (hp:p i=false):(List.range n).all p=false:=by
 rw [List.all_eq_false]
 exact ⟨i,List.mem_range.2 hi,by simp [hp]⟩
theorem all_take_succ {α:Type} {p:α->Bool} {xs:List α} {i:Nat} {x:α} (hx:xs[i]?=some x) (h:(xs.take i).all p=true) (hp:p x=true):(xs.take (i+1)).all p=true:=by
 rw [take_snoc hx,List.all_append,h]
 simp [hp]
theorem all_false_of {α:Type} {p:α->Bool} {xs:List α} {i:Nat} {x:α} (hx:xs[i]?=some x) (hp:p x=false):xs.all p=false:=by
 rw [List.all_eq_false]
 exact ⟨x,List.mem_of_getElem? hx,by simp [hp]⟩
def mem (n m:Nat):List Nat:=(List.range n).filter m.testBit
def ins (m s:Nat):Nat:=m ||| 2 ^ s
def mv (a:Au) (s l:Nat):Int:=(a.next.getD s []).getD l (-1)
theorem mv_of {a:Au} {s l:Nat} {row:List Int} {t:Int} (hr:a.next[s]?=some row) (ht:row[l]?=some t):mv a s l=t:=by
 simp [mv,List.getD,hr,ht]
/-- what the loop 'while s is a state that is not in the set' gathers -/
def clsF (a:Au) (l:Nat):Nat->Int->Nat->Nat
 | 0,_,m=>m
 | f+1,s,m=>if 0<=s/\m.testBit s.toNat=false then clsF a l f (mv a s.toNat l) (ins m s.toNat) else m
def cls (a:Au) (v s:Nat):Nat:=clsF a (6+v) 13 s 0
def accC (a:Au) (v s:Nat):Bool:=(mem 12 (cls a v s)).any fun t=>a.accept.getD t false
def acc (a:Au) (set v:Nat):Bool:=(mem 12 set).any (accC a v)
abbrev Arc:=St × Int × Int
def arcE (x:Int) (e:Ed):List Arc:=(if e.2.1=x then [((e.1,false),2 * e.2.2.2,e.2.2.1)] else []) ++ (if e.2.2.1=x then [((e.1,true),2 * e.2.2.2+1,e.2.1)] else [])
def arcsOf (g:Gr) (x:Int):List Arc:=g.edges.flatMap (arcE x)
theorem flat_take {α β:Type} {f:α->List β} {xs:List α} {i:Nat} {x:α} (h:xs[i]?=some x):(xs.take (i+1)).flatMap f=(xs.take i).flatMap f ++ f x:=by
 rw [take_snoc h,List.flatMap_append];simp
theorem mem_arcE {x:Int} {e:Ed} {y:Arc}:y ∈ arcE x e ↔ (e.2.1=x/\y=((e.1,false),2 * e.2.2.2,e.2.2.1)) ∨ (e.2.2.1=x/\y=((e.1,true),2 * e.2.2.2+1,e.2.1)):=by
 unfold arcE
 rw [List.mem_append]
 by_cases h1:e.2.1=x <;> by_cases h2:e.2.2.1=x <;> simp [h1,h2]
def arcLetter (b:Bool) (e:Ed):Int:=if b then 2 * e.2.2.2+1 else 2 * e.2.2.2
theorem arcE_len (x:Int) (e:Ed):(arcE x e).length<=2:=by
 unfold arcE
 rw [List.length_append]
 split <;> split <;> simp
theorem flat_len {α β:Type} {f:α->List β} {k:Nat} (h:∀ x,(f x).length<=k):∀ xs:List α,(xs.flatMap f).length<=xs.length * k
 | []=>by simp
 | x :: xs=>by
   have:=flat_len h xs
   rw [List.flatMap_cons,List.length_append,List.length_cons,Nat.succ_mul]
   have:=h x
   omega
theorem arcs_len {g:Gr} (hg:GrOk g) (x:Int):(arcsOf g x).length<=24:=by
 have:=flat_len (arcE_len x) g.edges
 have:=hg.e12
 unfold arcsOf
 omega
def relax (d:Int):List Nat->List Int->List Nat->List Int × List Nat
 | [],D,q=>(D,q)
 | k :: l,D,q=>if D.getD k 0 < 0 then relax d l (D.set k d) (q ++ [k]) else relax d l D q
def negs (D:List Int):Nat:=D.countP (fun x=>decide (x < 0))
theorem negs_set {D:List Int} {k:Nat} {d:Int} (hk:k < D.length) (hn:D.getD k 0 < 0) (hd:0<=d):negs (D.set k d)+1=negs D:=by
 induction D generalizing k with
 | nil=>simp at hk
 | cons x D ih =>
   cases k with
   | zero =>
     simp only [List.getD_cons_zero] at hn
     have:¬ d < 0:=by omega
     simp [negs,List.countP_cons,hn,this]
   | succ k =>
     have:=ih (k:=k) (by simpa using hk) (by simpa using hn)
     simp only [negs,List.set_cons_succ,List.countP_cons] at this ⊢
     omega
/-- what holds of distances D and a queue q, with f rounds left of F -/
structure BfsI (N F f:Nat) (D:List Int) (q:List Nat):Prop where
 len:D.length=N
 queue:∀ h ∈ q,h < N/\0<=D.getD h 0
 fuel:q.length+negs D<=f
 top:∀ h,D.getD h 0+(f:Int)<=F
 low:∀ h,-1<=D.getD h 0
 fF:f<=F
theorem getD_set' {D:List Int} {k h:Nat} {d:Int} (hk:k < D.length):(D.set k d).getD h 0=if h=k then d else D.getD h 0:=by
 simp only [List.getD,List.getElem?_set]
 by_cases hh:h=k
 · subst hh;simp [hk]
 · simp [hh,Ne.symm hh]
theorem BfsI.new {N F f:Nat} {D:List Int} {q:List Nat} {k:Nat} {d:Int} (h:BfsI N F f D q) (hk:k < N) (hn:D.getD k 0 < 0) (hd:0<=d) (hdF:d+(f:Int)<=F):BfsI N F f (D.set k d) (q ++ [k]):=by
 have hkl:k < D.length:=by rw [h.len];exact hk
 refine ⟨by rw [List.length_set];exact h.len,fun x hx=>?_,?_,fun x=>?_,fun x=>?_,h.fF⟩
 · rw [getD_set' hkl]
   rcases List.mem_append.1 hx with hx | hx
   · have:=h.queue x hx
     split
     · exact ⟨this.1,hd⟩
     · exact this
   · have:x=k:=by simpa using hx
     subst this
     simp [hk,hd]
 · have:=negs_set hkl hn hd
   have:=h.fuel
   rw [List.length_append,List.length_singleton]
   omega
 · rw [getD_set' hkl]
   have:=h.top x
   split <;> omega
 · rw [getD_set' hkl]
   have:=h.low x
   split <;> omega
end Go.Proofs.Ytloeghbhoflabaa
namespace Go.Proofs.Ytloeghbhoflabaa
open Go.ChangeShapes Go.WideShapes Go.ChangeAt Go.RowKit
theorem bcell {w w':World} (hb:Below w.heap.size w w') {b o:Nat} {v:Value} (h:w.cell? ⟨b,o,none⟩=some v) (hl:b < w.heap.size):w'.cell? ⟨b,o,none⟩=some v:=(hb.cell (p:=⟨b,o,none⟩) hl).trans h
/-- slice value v, of n elements, at A with capacity c; element i (k cells E x) lies in a block below H -/
structure SlC {α:Type} (H:Nat) (w:World) (E:α->List Value) (k:Nat) (A:Option Addr) (xs:List α):Prop where
 at_:∀ i x,xs[i]?=some x->∃ b o,A=some ⟨b,o,none⟩/\b < H/\∀ j u,(E x)[j]?=some u->w.cell? ⟨b,o+i * k+j,none⟩=some u
theorem SlE.form {α:Type} {w:World} {E:α->List Value} {k:Nat} {v:Value} {xs:List α} (h:SlE w E k v xs) :
 ∃ A c,v=.slice A xs.length c/\xs.length<=c/\c<=9223372036854775807/\SlC w.heap.size w E k A xs:=by
 obtain ⟨A,c,rfl,h1,h2,h3⟩:=h
 exact ⟨A,c,rfl,h1,by simpa [maxLen] using h2,⟨fun i x hx=>by obtain ⟨b,o,e,_,g,h⟩:=h3 i x hx;exact ⟨b,o,e,g,h⟩⟩⟩
theorem SlC.keep {α:Type} {w w':World} {E:α->List Value} {k:Nat} {A:Option Addr} {xs:List α} (h:SlC w.heap.size w E k A xs) (hb:Below w.heap.size w w'):SlC w'.heap.size w' E k A xs :=
 ⟨fun i x hx=>by obtain ⟨b,o,e,g,h⟩:=h.at_ i x hx;exact ⟨b,o,e,Nat.lt_of_lt_of_le g hb.size,fun j u hu=>(hb.cell (p:=⟨_,_,none⟩) g).trans (h j u hu)⟩⟩
/-- an int, a bool: one cell -/
theorem SlC.int {H:Nat} {w:World} {A:Option Addr} {xs:List Int} (h:SlC H w cI 1 A xs) {i:Nat} {x:Int} (hx:xs[i]?=some x):∃ b o,A=some ⟨b,o,none⟩/\b < H/\w.cell? ⟨b,o+i,none⟩=some (.int .i64 x):=by
 obtain ⟨b,o,e,g,h⟩:=h.at_ i x hx
 exact ⟨b,o,e,g,by simpa using h 0 _ rfl⟩
theorem SlC.bool {H:Nat} {w:World} {A:Option Addr} {xs:List Bool} (h:SlC H w cB 1 A xs) {i:Nat} {x:Bool} (hx:xs[i]?=some x):∃ b o,A=some ⟨b,o,none⟩/\b < H/\w.cell? ⟨b,o+i,none⟩=some (.bool x):=by
 obtain ⟨b,o,e,g,h⟩:=h.at_ i x hx
 exact ⟨b,o,e,g,by simpa using h 0 _ rfl⟩
theorem SlC.val {H:Nat} {w:World} {A:Option Addr} {xs:List Value} (h:SlC H w cV 1 A xs) {i:Nat} {x:Value} (hx:xs[i]?=some x):∃ b o,A=some ⟨b,o,none⟩/\b < H/\w.cell? ⟨b,o+i,none⟩=some x:=by
 obtain ⟨b,o,e,g,h⟩:=h.at_ i x hx
 exact ⟨b,o,e,g,by simpa using h 0 _ rfl⟩
theorem SlC.ed {H:Nat} {w:World} {A:Option Addr} {xs:List Ed} (h:SlC H w cEd 4 A xs) {i:Nat} {e:Ed} (hx:xs[i]?=some e) :
 ∃ b o,A=some ⟨b,o,none⟩/\b < H/\w.cell? ⟨b,o+i * 4,none⟩=some (.int .i64 e.1)/\w.cell? ⟨b,o+i * 4+1,none⟩=some (.int .i64 e.2.1)/\w.cell? ⟨b,o+i * 4+2,none⟩=some (.int .i64 e.2.2.1)/\w.cell? ⟨b,o+i * 4+3,none⟩=some (.int .i64 e.2.2.2):=by
 obtain ⟨b,o,e,g,h⟩:=h.at_ i e hx
 exact ⟨b,o,e,g,by simpa using h 0 _ rfl,h 1 _ rfl,h 2 _ rfl,h 3 _ rfl⟩
theorem SlC.st {H:Nat} {w:World} {A:Option Addr} {xs:List St} (h:SlC H w cSt 2 A xs) {i:Nat} {e:St} (hx:xs[i]?=some e) :
 ∃ b o,A=some ⟨b,o,none⟩/\b < H/\w.cell? ⟨b,o+i * 2,none⟩=some (.int .i64 e.1)/\w.cell? ⟨b,o+i * 2+1,none⟩=some (.bool e.2):=by
 obtain ⟨b,o,e,g,h⟩:=h.at_ i e hx
 exact ⟨b,o,e,g,by simpa using h 0 _ rfl,h 1 _ rfl⟩
/-- a valid automaton: the rows lie at A2, each of nine cells -/
structure AuC (w:World) (A1 A2:Option Addr) (a:Au):Prop where
 acc:SlC w.heap.size w cB 1 A1 a.accept
 row:∀ i,i < a.accept.length->∃ b o b3 o3 c3,A2=some ⟨b,o,none⟩/\b < w.heap.size/\w.cell? ⟨b,o+i,none⟩=some (.slice (some ⟨b3,o3,none⟩) 9 c3)/\9<=c3/\c3<=9223372036854775807/\b3 < w.heap.size/\∀ l,l < 9->w.cell? ⟨b3,o3+l,none⟩=some (.int .i64 (mv a i l))
theorem AuV.form {w:World} {v:Value} {a:Au} (h:AuV 0 w.heap.size w v a) (hok:auOk a=true) :
 ∃ A1 c1 A2 c2,v=.agg #[.int .i64 a.start,.slice A1 a.accept.length c1,.slice A2 a.accept.length c2]/\a.accept.length<=c1/\c1<=9223372036854775807/\a.accept.length<=c2/\c2<=9223372036854775807/\AuC w A1 A2 a:=by
 obtain ⟨⟨-,-⟩,-,hnl,hrk⟩:=auOk_iff.1 hok
 obtain ⟨ac,nx,rfl,h1,us,h2,hul,hrows⟩:=h
 obtain ⟨A1,c1,rfl,h3,h4,h5⟩:=SlE.form h1
 obtain ⟨A2,c2,rfl,h6,h7,h8⟩:=SlE.form h2
 rw [hul,hnl] at h6 ⊢
 refine ⟨A1,c1,A2,c2,rfl,h3,h4,h6,h7,h5,fun i hi=>?_⟩
 have hin:i < a.next.length:=by omega
 have hiu:i < us.length:=by omega
 have hxi:a.next[i]?=some a.next[i]:=List.getElem?_eq_getElem hin
 obtain ⟨b,o,rfl,hb,hc⟩:=h8.val (List.getElem?_eq_getElem hiu)
 have hrl:=(rowOk_iff.1 (hrk _ (List.getElem_mem hin))).2
 obtain ⟨A3,c3,hv3,h9,h10,h11⟩:=SlE.form (hrows i us[i] _ (List.getElem?_eq_getElem hiu) hxi)
 rw [hrl] at hv3 h9
 obtain ⟨b3,o3,rfl,hb3,-⟩:=h11.int (i:=0) (List.getElem?_eq_getElem (by omega))
 refine ⟨b,o,b3,o3,c3,rfl,hb,by rw [hc,hv3],h9,h10,hb3,fun l hl=>?_⟩
 have hti:a.next[i][l]?=some a.next[i][l]:=List.getElem?_eq_getElem (by omega)
 obtain ⟨b4,o4,he,hb4,hc4⟩:=h11.int hti
 simp only [Option.some.injEq,Addr.mk.injEq,and_true] at he
 obtain ⟨rfl,rfl⟩:=he
 rw [hc4,mv_of hxi hti]
theorem AuC.keep {w w':World} {A1 A2:Option Addr} {a:Au} (h:AuC w A1 A2 a) (hb:Below w.heap.size w w'):AuC w' A1 A2 a:=by
 refine ⟨h.acc.keep hb,fun i hi=>?_⟩
 obtain ⟨b,o,b3,o3,c3,e,h1,h2,h3,h4,h5,h6⟩:=h.row i hi
 exact ⟨b,o,b3,o3,c3,e,Nat.lt_of_lt_of_le h1 hb.size,(hb.cell (p:=⟨_,_,none⟩) h1).trans h2,h3,h4,Nat.lt_of_lt_of_le h5 hb.size,fun l hl=>(hb.cell (p:=⟨_,_,none⟩) h5).trans (h6 l hl)⟩
/-- a graph: values at A1, edges at A2 -/
theorem GrV.form {w:World} {v:Value} {g:Gr} (h:GrV 0 w.heap.size w v g) :
 ∃ A1 c1 A2 c2,v=.agg #[.slice A1 g.vals.length c1,.slice A2 g.edges.length c2]/\g.vals.length<=c1/\c1<=9223372036854775807/\g.edges.length<=c2/\c2<=9223372036854775807/\SlC w.heap.size w cI 1 A1 g.vals/\SlC w.heap.size w cEd 4 A2 g.edges:=by
 obtain ⟨vs,es,rfl,h1,h2⟩:=h
 obtain ⟨A1,c1,rfl,h3,h4,h5⟩:=SlE.form h1
 obtain ⟨A2,c2,rfl,h6,h7,h8⟩:=SlE.form h2
 exact ⟨A1,c1,A2,c2,rfl,h3,h4,h6,h7,h5,h8⟩
theorem WkV.form {w:World} {v:Value} {k:Wk} (h:WkV 0 w.heap.size w v k) :
 ∃ A1 c1,v=.agg #[.int .i64 k.1,.slice A1 k.2.length c1]/\k.2.length<=c1/\c1<=9223372036854775807/\SlC w.heap.size w cSt 2 A1 k.2:=by
 obtain ⟨ss,rfl,h1⟩:=h
 obtain ⟨A1,c1,rfl,h3,h4,h5⟩:=SlE.form h1
 exact ⟨A1,c1,rfl,h3,h4,h5⟩
/-- a natural number as one cell -/
def cN (x:Nat):List Value:=[.int .i64 (x:Int)]
theorem SlC.nat {H:Nat} {w:World} {A:Option Addr} {xs:List Nat} (h:SlC H w cN 1 A xs) {i:Nat} {x:Nat} (hx:xs[i]?=some x):∃ b o,A=some ⟨b,o,none⟩/\b < H/\w.cell? ⟨b,o+i,none⟩=some (.int .i64 (x:Int)):=by
 obtain ⟨b,o,e,g,h⟩:=h.at_ i x hx
 exact ⟨b,o,e,g,by simpa using h 0 _ rfl⟩
theorem Own.form {α:Type} {lo:Nat} {w:World} {e:TypeId} {E:α->List Value} {k:Nat} {v:Value} {xs:List α} (h:Own lo w.heap.size w e E k v xs) (hE:∀ x,(E x).length=k) :
 ∃ A c,v=.slice A xs.length c/\xs.length<=c/\c<=9223372036854775807/\SlC w.heap.size w E k A xs:=SlE.form ((h.sl hE).all (Nat.le_refl _))
end Go.Proofs.Ytloeghbhoflabaa
