/- Parts of the proof, joined into one text: Base, Frame, Open, Hold, Grow, Tail, BigB, ExprM, SizeM, Math, AutS, Toks, Tokx, ProdM, View, Bits, Rows2. -/
import Derived.Test.YthnapjodmndlaaaRows
import Derived.WalkKit
import Derived.ProofKit
import Derived.OpenShut
import Derived.Deep.QuietTactic
import Derived.BigQuiet
import Derived.Lib.Hide
import Derived.Maps.AppendAt
import Derived.Outline
import Derived.Deep.DeepMust
import Derived.Carry
import Derived.Deep.Slices
import Derived.Deep.Fields
import Derived.Lib.SmallJoins
import Derived.StillTail
import Derived.Laws.BitsAll
import Derived.IntWalk
import Derived.Deep.RegionHeld3
import Derived.Deep.AppendLies
set_option linter.unusedVariables false
set_option linter.unusedSimpArgs false
namespace Go.Proofs.Ythnapjodmndlaaa
open Go.ChangeShapes Go.WideShapes Go.ChangeAt Go.RowKit
theorem Hd_ {p:Prop} (h:p):RowKit.Hid p:=h
def ext (w u:World):World:={ u with heap:=w.heap ++ u.heap.extract w.heap.size u.heap.size,os:=w.os,tape:=w.tape,output:=w.output }
theorem ext_below (w u:World):Below w.heap.size w (ext w u) :=
 ⟨rfl,rfl,rfl,by simp [ext],fun k hk=>by simp [ext,Array.getElem?_append,hk]⟩
theorem ext_of {w w':World} (h:Below w.heap.size w w'):∃ u,w'=ext w u:=by
 refine ⟨w',?_⟩
 obtain ⟨h1,h2,h3,h4,h5⟩:=h
 have hh:w.heap ++ w'.heap.extract w.heap.size w'.heap.size=w'.heap:=by
  apply Array.ext_getElem?
  intro i
  rw [Array.getElem?_append]
  split
  · rename_i hi
    exact (h5 i hi).symm
  · rw [Array.getElem?_extract]
    split
    · congr 1;omega
    · rw [Array.getElem?_eq_none];omega
 cases w'
 simp only [ext] at *
 simp_all
theorem ext_cell {w u:World} {b o:Nat} (h:b < w.heap.size):(ext w u).cell? ⟨b,o,none⟩=w.cell? ⟨b,o,none⟩:=(ext_below w u).cell (p:=⟨b,o,none⟩) h
theorem ext_frozen {w u:World} {b o:Nat} (h:b < w.heap.size):(ext w u).frozen? ⟨b,o,none⟩=w.frozen? ⟨b,o,none⟩:=(ext_below w u).frozen (p:=⟨b,o,none⟩) h
theorem ext_size (w u:World):w.heap.size<=(ext w u).heap.size:=(ext_below w u).size
theorem ext_lt {w u:World} {b:Nat} (h:b < w.heap.size):(b < (ext w u).heap.size)=True:=by
 have:=ext_size w u
 simp;omega
theorem ext_lt1 {w u:World} {b:Nat} (h:b < w.heap.size):(b < (ext w u).heap.size+1)=True:=by
 have:=ext_size w u
 simp;omega
theorem ext_lt2 {w u:World} {b:Nat} (h:b < w.heap.size):(b < (ext w u).heap.size+1+1)=True:=by
 have:=ext_size w u
 simp;omega
theorem ext_lt3 {w u:World} {b:Nat} (h:b < w.heap.size):(b < (ext w u).heap.size+1+1+1)=True:=by
 have:=ext_size w u
 simp;omega
theorem ltn2 (n:Nat):(n < n+1+1)=True:=eq_true (by omega)
theorem ltn3 (n:Nat):(n < n+1+1+1)=True:=eq_true (by omega)
theorem ltn13 (n:Nat):(n+1 < n+1+1+1)=True:=eq_true (by omega)
theorem lts1 {b n:Nat} (h:b < n):(b < n+1)=True:=eq_true (by omega)
theorem lts2 {b n:Nat} (h:b < n):(b < n+1+1)=True:=eq_true (by omega)
theorem lts3 {b n:Nat} (h:b < n):(b < n+1+1+1)=True:=eq_true (by omega)
theorem below_trans {a b c:World} (h:Below a.heap.size a b) (k:Below b.heap.size b c):Below a.heap.size a c:=h.trans (k.mono h.size)
theorem ext_ext (w u v:World):∃ x,ext (ext w u) v=ext w x:=ext_of (below_trans (ext_below w u) (ext_below _ v))
theorem ext_self (w:World):w=ext w w:=by
 obtain ⟨u,hu⟩:=ext_of (Below.refl w.heap.size w)
 have h:ext w w=w:=by
  cases w
  simp [ext]
 exact h.symm
theorem Calls.ext_of {P:Program} {f:FuncId} {args:Array Value} {w u:World} {v:Value}
 (h:Calls P f args (ext w u) fun e w'=>e=.returned v/\Below (ext w u).heap.size (ext w u) w'):Calls P f args (ext w u) fun e w''=>e=.returned v/\∃ x,w''=ext w x :=
 h.mono fun _ _ ⟨he,hb⟩=>⟨he,Go.Proofs.Ythnapjodmndlaaa.ext_of (below_trans (ext_below w u) hb)⟩
theorem wp_region_ext_lit {P:Program} {id:Nat} {Q:Exit->Act->World->Prop} {a:Act} {w:World} {l:List Oper} (hm:P.follows .mixedOrders=true) (hB:Region.lexB .any l.toArray=true)
 (h:wpQuiet P l.toArray (fun w'=>∃ u,w'=ext w u) (fun a'=>∀ w',(∃ u,w'=ext w u)->Q .normal a' w') l a):(Code.region id l.toArray true).wp P Q a w :=
 wp_region_quiet (C:=fun w'=>∃ u,w'=ext w u) hm hB (Go.Proofs.Ythnapjodmndlaaa.ext_of ⟨rfl,rfl,rfl,Nat.le_refl _,fun _ _=>rfl⟩) (by simpa using h)
structure Only (lo hi:Nat) (w w':World):Prop where
 os:w'.os=w.os
 tape:w'.tape=w.tape
 output:w'.output=w.output
 size:w.heap.size<=w'.heap.size
 block:∀ n,n < w.heap.size->(n < lo ∨ hi<=n)->w'.heap[n]?=w.heap[n]?
theorem Only.of_below {w w':World} (h:Below w.heap.size w w') (lo hi:Nat):Only lo hi w w':=⟨h.os,h.tape,h.output,h.size,fun n hn _=>h.block n hn⟩
theorem Only.refl (lo hi:Nat) (w:World):Only lo hi w w:=⟨rfl,rfl,rfl,Nat.le_refl _,fun _ _ _=>rfl⟩
theorem Only.trans {lo hi:Nat} {a b c:World} (h:Only lo hi a b) (k:Only lo hi b c):Only lo hi a c :=
 ⟨k.os.trans h.os,k.tape.trans h.tape,k.output.trans h.output,Nat.le_trans h.size k.size,fun n hn ho=>(k.block n (Nat.lt_of_lt_of_le hn h.size) ho).trans (h.block n hn ho)⟩
theorem Only.mono {lo hi lo' hi':Nat} {a b:World} (h:Only lo hi a b) (h1:lo'<=lo) (h2:hi<=hi'):Only lo' hi' a b :=
 ⟨h.os,h.tape,h.output,h.size,fun n hn ho=>h.block n hn (by omega)⟩
theorem Only.below {lo hi:Nat} {a b:World} (h:Only lo hi a b) {B:Nat} (hB:B<=lo) (hs:B<=a.heap.size):Below B a b :=
 ⟨h.os,h.tape,h.output,h.size,fun n hn=>h.block n (by omega) (.inl (by omega))⟩
theorem Only.drew {lo hi:Nat} {a b:World} (h:Only lo hi a b):Only lo hi a b.drew:=⟨h.os,h.tape,h.output,h.size,h.block⟩
theorem Only.drewN {lo hi:Nat} {a b:World} (h:Only lo hi a b) (n:Nat):Only lo hi a (b.drewN n):=⟨h.os,h.tape,h.output,h.size,h.block⟩
theorem Only.alloc {lo hi:Nat} {a b:World} (h:Only lo hi a b) (o:Obj):Only lo hi a (b.alloc o) :=
 h.trans ⟨rfl,rfl,rfl,by simp,fun n hn _=>Below.heap_alloc _ _ _ hn⟩
theorem Only.setCell {lo hi:Nat} {a b:World} (h:Only lo hi a b) {p:Addr} (h1:lo<=p.block/\p.block < hi ∨ a.heap.size<=p.block) (u:Value):Only lo hi a (b.setCell p u) :=
 ⟨h.os,h.tape,h.output,by simpa [World.setCell] using h.size,fun n hn ho=>(Below.heap_setCell _ _ _ _ (by omega)).trans (h.block n hn ho)⟩
theorem Only.cell {lo hi:Nat} {w w':World} (h:Only lo hi w w') {p:Addr} (hp:p.block < w.heap.size) (ho:p.block < lo ∨ hi<=p.block):w'.cell? p=w.cell? p:=World.cell?_of_block (w:=w) (h.block p.block hp ho)
def SlI {α:Type} (lo hi:Nat) (w:World) (E:α->List Value) (k:Nat) (v:Value) (xs:List α):Prop :=
 ∃ A c,v=.slice A xs.length c/\xs.length<=c/\c<=maxLen /\
   ∀ i x,xs[i]?=some x->∃ b o,A=some ⟨b,o,none⟩/\lo<=b/\b < hi/\∀ j u,(E x)[j]?=some u->w.cell? ⟨b,o+i * k+j,none⟩=some u
abbrev SlE {α:Type} (w:World) (E:α->List Value) (k:Nat) (v:Value) (xs:List α):Prop:=SlI 0 w.heap.size w E k v xs
section
variable {α:Type} {lo hi:Nat} {w w':World} {E:α->List Value} {k:Nat} {v:Value} {xs:List α}
theorem SlI.keep_ (h:SlI lo hi w E k v xs) (hb:∀ b o,lo<=b->b < hi->w'.cell? ⟨b,o,none⟩=w.cell? ⟨b,o,none⟩):SlI lo hi w' E k v xs:=by
 obtain ⟨A,c,hv,hl,hm,hx⟩:=h
 refine ⟨A,c,hv,hl,hm,fun i x hi=>?_⟩
 obtain ⟨b,o,hA,h1,h2,hc⟩:=hx i x hi
 exact ⟨b,o,hA,h1,h2,fun j u hu=>(hb _ _ h1 h2).trans (hc j u hu)⟩
theorem SlI.below (h:SlI lo hi w E k v xs) {B:Nat} (hb:Below B w w') (hB:hi<=B):SlI lo hi w' E k v xs :=
 h.keep_ fun b o _ h2=>hb.cell (p:=⟨b,o,none⟩) (show b < B by omega)
theorem SlI.only (h:SlI lo hi w E k v xs) {l r:Nat} (hb:Only l r w w') (hh:hi<=w.heap.size) (ho:hi<=l ∨ r<=lo):SlI lo hi w' E k v xs :=
 h.keep_ fun b o h1 h2=>hb.cell (p:=⟨b,o,none⟩) (show b < _ by omega) (show b < l ∨ r<=b by omega)
theorem SlI.mono (h:SlI lo hi w E k v xs) {lo' hi':Nat} (h1:lo'<=lo) (h2:hi<=hi'):SlI lo' hi' w E k v xs:=by
 obtain ⟨A,c,hv,hl,hm,hx⟩:=h
 refine ⟨A,c,hv,hl,hm,fun i x hi=>?_⟩
 obtain ⟨b,o,hA,g1,g2,hc⟩:=hx i x hi
 exact ⟨b,o,hA,by omega,by omega,hc⟩
theorem SlI.all (h:SlI lo hi w E k v xs) (hh:hi<=w.heap.size):SlE w E k v xs:=h.mono (Nat.zero_le _) hh
theorem SlE.keep (h:SlE w E k v xs) (hb:Below w.heap.size w w'):SlE w' E k v xs:=(SlI.below h hb (Nat.le_refl _)).mono (Nat.le_refl _) hb.size
theorem SlE.ext (h:SlE w E k v xs) (u:World):SlE (ext w u) E k v xs:=h.keep (ext_below w u)
theorem SlI.shape (h:SlI lo hi w E k v xs):∃ A n c,v=.slice A n c:=by
 obtain ⟨A,c,rfl,_⟩:=h
 exact ⟨_,_,_,rfl⟩
theorem SlI.nil (lo hi:Nat) (w:World) (E:α->List Value) (k:Nat):SlI lo hi w E k (.slice none 0 0) []:=⟨none,0,rfl,Nat.le_refl _,by unfold maxLen;omega,by simp⟩
end
def Own {α:Type} (lo hi:Nat) (w:World) (e:TypeId) (E:α->List Value) (k:Nat) (v:Value) (xs:List α):Prop :=
 w.ownsRow lo e k v xs.length (xs.flatMap E)/\∀ g,v.ownBlock=some g->g < hi
theorem flat_at {α:Type} {E:α->List Value} {k:Nat} (hE:∀ x,(E x).length=k):∀ {xs:List α} {i:Nat} {x:α},xs[i]?=some x->∀ j u,(E x)[j]?=some u->(xs.flatMap E)[i * k+j]?=some u:=by
 intro xs
 induction xs with
 | nil=>intro i x h;simp at h
 | cons y ys ih =>
   intro i x h j u hu
   have hj:j < k:=by have:=(List.getElem?_eq_some_iff.1 hu).1;rw [hE] at this;exact this
   cases i with
   | zero =>
     have hxy:y=x:=by simpa using h
     subst hxy
     simp only [List.flatMap_cons,Nat.zero_mul,Nat.zero_add]
     rw [List.getElem?_append_left (by rw [hE];exact hj)]
     exact hu
   | succ i =>
     simp only [List.flatMap_cons]
     rw [List.getElem?_append_right (by rw [hE,Nat.succ_mul];omega),hE]
     have:=ih (i:=i) (x:=x) (by simpa using h) j u hu
     rw [<- this]
     congr 1
     rw [Nat.succ_mul];omega
section
variable {α:Type} {lo hi:Nat} {w w':World} {e:TypeId} {E:α->List Value} {k:Nat} {v:Value} {xs:List α}
theorem Own.lt (h:Own lo hi w e E k v xs):∀ g,v.ownBlock=some g->lo<=g/\g < hi/\g < w.heap.size:=fun g hg=>⟨(h.1.lt g hg).1,h.2 g hg,(h.1.lt g hg).2⟩
theorem Own.sl (h:Own lo hi w e E k v xs) (hE:∀ x,(E x).length=k):SlI lo hi w E k v xs:=by
 obtain ⟨hr,hlt⟩:=h
 have hr':=hr
 obtain ⟨hl,hs⟩:=hr'
 rcases hs with ⟨rfl,hn⟩ | ⟨g,cap,cur,rfl,hg,hh,hnc,hcm,hsz,htk⟩
 · have:xs=[]:=List.eq_nil_of_length_eq_zero hn
   subst this
   exact SlI.nil _ _ _ _ _
 · refine ⟨_,cap,rfl,hnc,hcm,fun i x hi=>⟨g,0,rfl,hg,hlt g rfl,fun j u hu=>?_⟩⟩
   have hf:=flat_at hE hi j u hu
   have hj:=(List.getElem?_eq_some_iff.1 hf).1
   rw [hl] at hj
   rw [Nat.zero_add]
   exact (World.ownsRow.cellAt hr _ hj).trans hf
theorem Own.kept (h:Own lo hi w e E k v xs) {row:Option Nat} (hg:w.grownBy w' row) (hne:v.ownBlock=none ∨ v.ownBlock ≠ row):Own lo hi w' e E k v xs:=⟨h.1.kept hg hne,h.2⟩
theorem Own.below (h:Own lo hi w e E k v xs) {B:Nat} (hb:Below B w w') (hB:hi<=B):Own lo hi w' e E k v xs:=by
 obtain ⟨⟨hl,hs⟩,hlt⟩:=h
 refine ⟨⟨hl,?_⟩,hlt⟩
 rcases hs with hs | ⟨g,cap,cur,rfl,hg,hh,r⟩
 · exact .inl hs
 · exact .inr ⟨g,cap,cur,rfl,hg,(hb.block g (by have:=hlt g rfl;omega)).trans hh,r⟩
theorem Own.only (h:Own lo hi w e E k v xs) {l r:Nat} (hb:Only l r w w') (ho:hi<=l ∨ r<=lo):Own lo hi w' e E k v xs:=by
 have hx:=h.lt
 obtain ⟨⟨hl,hs⟩,hlt⟩:=h
 refine ⟨⟨hl,?_⟩,hlt⟩
 rcases hs with hs | ⟨g,cap,cur,rfl,hg,hh,rr⟩
 · exact .inl hs
 · have:=hx g rfl
   exact .inr ⟨g,cap,cur,rfl,hg,(hb.block g this.2.2 (by omega)).trans hh,rr⟩
theorem Own.mono (h:Own lo hi w e E k v xs) {lo' hi':Nat} (h1:lo'<=lo) (h2:hi<=hi'):Own lo' hi' w e E k v xs:=by
 obtain ⟨⟨hl,hs⟩,hlt⟩:=h
 refine ⟨⟨hl,?_⟩,fun g hg=>Nat.lt_of_lt_of_le (hlt g hg) h2⟩
 rcases hs with hs | ⟨g,cap,cur,rfl,hg,hh,r⟩
 · exact .inl hs
 · exact .inr ⟨g,cap,cur,rfl,by omega,hh,r⟩
theorem Own.of_row {n:Nat} {cs:List Value} (h:w.ownsRow lo e k v n cs) (hn:xs.length=n) (hc:xs.flatMap E=cs):Own lo w.heap.size w e E k v xs:=by
 subst hn hc
 exact ⟨h,fun g hg=>(h.lt g hg).2⟩
theorem Own.shape (h:Own lo hi w e E k v xs):∃ A n c,v=.slice A n c:=by
 obtain ⟨⟨_,hs⟩,_⟩:=h
 rcases hs with ⟨rfl,_⟩ | ⟨g,cap,cur,rfl,_⟩
 · exact ⟨_,_,_,rfl⟩
 · exact ⟨_,_,_,rfl⟩
theorem Own.nil (lo hi:Nat) (w:World) (e:TypeId) (E:α->List Value) (k:Nat):Own lo hi w e E k (.slice none 0 0) []:=⟨World.ownsRow_nil w lo e k,by intro g hg;cases hg⟩
end
def Blk (w:World) (g:Nat) (t:TypeId) (cs:Array Value):Prop:=w.heap[g]?=some (.cells cs t (0,0))
section
variable {w w':World} {g:Nat} {t:TypeId} {cs:Array Value}
theorem Blk.lt (h:Blk w g t cs):g < w.heap.size:=by
 rcases Nat.lt_or_ge g w.heap.size with hlt | hge
 · exact hlt
 · unfold Blk at h;rw [Array.getElem?_eq_none hge] at h;cases h
theorem Blk.cell (h:Blk w g t cs) (i:Nat):w.cell? ⟨g,i,none⟩=cs[i]?:=cell_of_row w g i cs t (0,0) h
theorem Blk.frozen (h:Blk w g t cs) (i:Nat):w.frozen? ⟨g,i,none⟩=false:=by
 unfold Blk at h
 simp [World.frozen?,h]
theorem Blk.new (w:World) (t:TypeId) (cs:Array Value) (n:Nat) (hn:n=w.heap.size):Blk (w.alloc (.cells cs t)) n t cs:=by subst hn;exact heap_alloc_new w _
theorem Blk.drew (h:Blk w g t cs):Blk w.drew g t cs:=h
theorem Blk.drewN (h:Blk w g t cs) (n:Nat):Blk (w.drewN n) g t cs:=h
theorem Blk.alloc (h:Blk w g t cs) (o:Obj):Blk (w.alloc o) g t cs:=(Below.heap_alloc w o g h.lt).trans h
theorem Blk.set_ (h:Blk w g t cs) (i:Nat) (u:Value):Blk (w.setCell ⟨g,i,none⟩ u) g t (cs.setIfInBounds i u):=by
 unfold Blk at h ⊢
 simp [World.setCell,Array.getElem?_modify,h]
theorem Blk.far (h:Blk w g t cs) {p:Addr} (hp:g ≠ p.block) (u:Value):Blk (w.setCell p u) g t cs:=(Below.heap_setCell w p u g hp).trans h
theorem Blk.below (h:Blk w g t cs) {B:Nat} (hb:Below B w w') (hg:g < B):Blk w' g t cs:=(hb.block g hg).trans h
theorem Blk.keep (h:Blk w g t cs) (hb:Below w.heap.size w w'):Blk w' g t cs:=(hb.block g h.lt).trans h
theorem Blk.only (h:Blk w g t cs) {l r:Nat} (hb:Only l r w w') (ho:g < l ∨ r<=g):Blk w' g t cs:=(hb.block g h.lt ho).trans h
end
abbrev Ed:=Int × Int × Int × Int
abbrev St:=Int × Bool
abbrev Wk:=Int × List St
def cI (x:Int):List Value:=[.int .i64 x]
def cB (x:Bool):List Value:=[.bool x]
def cU (x:Int):List Value:=[.int .u8 x]
def cV (x:Value):List Value:=[x]
def cEd (p:Ed):List Value:=[.int .i64 p.1,.int .i64 p.2.1,.int .i64 p.2.2.1,.int .i64 p.2.2.2]
def cSt (p:St):List Value:=[.int .i64 p.1,.bool p.2]
theorem cI_len (x:Int):(cI x).length=1:=rfl
theorem cB_len (x:Bool):(cB x).length=1:=rfl
theorem cV_len (x:Value):(cV x).length=1:=rfl
theorem cEd_len (x:Ed):(cEd x).length=4:=rfl
theorem cI_one (x:Int):∀ u ∈ cI x,u.oneCell'=true:=by intro u hu;simp only [cI,List.mem_cons,List.not_mem_nil,or_false] at hu;subst hu;rfl
theorem cEd_one (x:Ed):∀ u ∈ cEd x,u.oneCell'=true:=by intro u hu;simp only [cEd,List.mem_cons,List.not_mem_nil,or_false] at hu;rcases hu with rfl | rfl | rfl | rfl <;> rfl
structure Gr where
 vals:List Int
 edges:List Ed
structure Au where
 start:Int
 accept:List Bool
 next:List (List Int)
def GrV (lo hi:Nat) (w:World) (v:Value) (g:Gr):Prop:=∃ vs es,v=.agg #[vs,es]/\SlI lo hi w cI 1 vs g.vals/\SlI lo hi w cEd 4 es g.edges
/-- a slice of slices of numbers -/
def SSV (lo hi:Nat) (w:World) (v:Value) (xss:List (List Int)):Prop :=
 ∃ vs:List Value,SlI lo hi w cV 1 v vs/\vs.length=xss.length/\∀ (i:Nat) (u:Value) (xs:List Int),vs[i]?=some u->xss[i]?=some xs->SlI lo hi w cI 1 u xs
def AuV (lo hi:Nat) (w:World) (v:Value) (a:Au):Prop:=∃ ac nx,v=.agg #[.int .i64 a.start,ac,nx]/\SlI lo hi w cB 1 ac a.accept/\SSV lo hi w nx a.next
def WkV (lo hi:Nat) (w:World) (v:Value) (k:Wk):Prop:=∃ ss,v=.agg #[.int .i64 k.1,ss]/\SlI lo hi w cSt 2 ss k.2
section
variable {lo hi:Nat} {w w':World} {v:Value}
theorem GrV.below {g:Gr} (h:GrV lo hi w v g) {B:Nat} (hb:Below B w w') (hB:hi<=B):GrV lo hi w' v g:=by
 obtain ⟨vs,es,rfl,h1,h2⟩:=h
 exact ⟨vs,es,rfl,h1.below hb hB,h2.below hb hB⟩
theorem GrV.mono {g:Gr} (h:GrV lo hi w v g) {lo' hi':Nat} (h1:lo'<=lo) (h2:hi<=hi'):GrV lo' hi' w v g:=by
 obtain ⟨vs,es,rfl,g1,g2⟩:=h
 exact ⟨vs,es,rfl,g1.mono h1 h2,g2.mono h1 h2⟩
theorem GrV.all {g:Gr} (h:GrV lo hi w v g) (hh:hi<=w.heap.size):GrV 0 w.heap.size w v g:=h.mono (Nat.zero_le _) hh
theorem GrV.keep {g:Gr} (h:GrV 0 w.heap.size w v g) (hb:Below w.heap.size w w'):GrV 0 w'.heap.size w' v g:=(h.below hb (Nat.le_refl _)).mono (Nat.le_refl _) hb.size
theorem GrV.only {g:Gr} (h:GrV lo hi w v g) {l r:Nat} (hb:Only l r w w') (hh:hi<=w.heap.size) (ho:hi<=l ∨ r<=lo):GrV lo hi w' v g:=by
 obtain ⟨vs,es,rfl,g1,g2⟩:=h
 exact ⟨vs,es,rfl,g1.only hb hh ho,g2.only hb hh ho⟩
theorem SSV.below {x:List (List Int)} (h:SSV lo hi w v x) {B:Nat} (hb:Below B w w') (hB:hi<=B):SSV lo hi w' v x:=by
 obtain ⟨vs,h1,h2,h3⟩:=h
 exact ⟨vs,h1.below hb hB,h2,fun i u xs hu hx=>(h3 i u xs hu hx).below hb hB⟩
theorem SSV.shape {x:List (List Int)} (h:SSV lo hi w v x):∃ A n c,v=.slice A n c:=by
 obtain ⟨vs,h1,_⟩:=h
 exact h1.shape
theorem AuV.shape {a:Au} (h:AuV lo hi w v a):∃ A1 n1 c1 A2 n2 c2,v=.agg #[.int .i64 a.start,.slice A1 n1 c1,.slice A2 n2 c2]:=by
 obtain ⟨vs,es,rfl,h1,h2⟩:=h
 obtain ⟨A1,n1,c1,rfl⟩:=h1.shape
 obtain ⟨A2,n2,c2,rfl⟩:=h2.shape
 exact ⟨_,_,_,_,_,_,rfl⟩
theorem GrV.shape {g:Gr} (h:GrV lo hi w v g):∃ A1 n1 c1 A2 n2 c2,v=.agg #[.slice A1 n1 c1,.slice A2 n2 c2]:=by
 obtain ⟨vs,es,rfl,h1,h2⟩:=h
 obtain ⟨A1,n1,c1,rfl⟩:=h1.shape
 obtain ⟨A2,n2,c2,rfl⟩:=h2.shape
 exact ⟨_,_,_,_,_,_,rfl⟩
theorem WkV.shape {k:Wk} (h:WkV lo hi w v k):∃ A1 n1 c1,v=.agg #[.int .i64 k.1,.slice A1 n1 c1]:=by
 obtain ⟨vs,rfl,h1⟩:=h
 obtain ⟨A1,n1,c1,rfl⟩:=h1.shape
 exact ⟨_,_,_,rfl⟩
theorem SSV.mono {x:List (List Int)} (h:SSV lo hi w v x) {lo' hi':Nat} (h1:lo'<=lo) (h2:hi<=hi'):SSV lo' hi' w v x:=by
 obtain ⟨vs,g1,g2,g3⟩:=h
 exact ⟨vs,g1.mono h1 h2,g2,fun i u xs hu hx=>(g3 i u xs hu hx).mono h1 h2⟩
theorem SSV.all {x:List (List Int)} (h:SSV lo hi w v x) (hh:hi<=w.heap.size):SSV 0 w.heap.size w v x:=h.mono (Nat.zero_le _) hh
theorem SSV.keep {x:List (List Int)} (h:SSV 0 w.heap.size w v x) (hb:Below w.heap.size w w'):SSV 0 w'.heap.size w' v x:=(h.below hb (Nat.le_refl _)).mono (Nat.le_refl _) hb.size
theorem SSV.only {x:List (List Int)} (h:SSV lo hi w v x) {l r:Nat} (hb:Only l r w w') (hh:hi<=w.heap.size) (ho:hi<=l ∨ r<=lo):SSV lo hi w' v x:=by
 obtain ⟨vs,g1,g2,g3⟩:=h
 exact ⟨vs,g1.only hb hh ho,g2,fun i u xs hu hx=>(g3 i u xs hu hx).only hb hh ho⟩
theorem AuV.below {a:Au} (h:AuV lo hi w v a) {B:Nat} (hb:Below B w w') (hB:hi<=B):AuV lo hi w' v a:=by
 obtain ⟨vs,es,rfl,h1,h2⟩:=h
 exact ⟨vs,es,rfl,h1.below hb hB,h2.below hb hB⟩
theorem AuV.mono {a:Au} (h:AuV lo hi w v a) {lo' hi':Nat} (h1:lo'<=lo) (h2:hi<=hi'):AuV lo' hi' w v a:=by
 obtain ⟨vs,es,rfl,g1,g2⟩:=h
 exact ⟨vs,es,rfl,g1.mono h1 h2,g2.mono h1 h2⟩
theorem AuV.all {a:Au} (h:AuV lo hi w v a) (hh:hi<=w.heap.size):AuV 0 w.heap.size w v a:=h.mono (Nat.zero_le _) hh
theorem AuV.keep {a:Au} (h:AuV 0 w.heap.size w v a) (hb:Below w.heap.size w w'):AuV 0 w'.heap.size w' v a:=(h.below hb (Nat.le_refl _)).mono (Nat.le_refl _) hb.size
theorem AuV.only {a:Au} (h:AuV lo hi w v a) {l r:Nat} (hb:Only l r w w') (hh:hi<=w.heap.size) (ho:hi<=l ∨ r<=lo):AuV lo hi w' v a:=by
 obtain ⟨vs,es,rfl,g1,g2⟩:=h
 exact ⟨vs,es,rfl,g1.only hb hh ho,g2.only hb hh ho⟩
theorem WkV.below {a:Wk} (h:WkV lo hi w v a) {B:Nat} (hb:Below B w w') (hB:hi<=B):WkV lo hi w' v a:=by
 obtain ⟨vs,rfl,h1⟩:=h
 exact ⟨vs,rfl,h1.below hb hB⟩
theorem WkV.mono {a:Wk} (h:WkV lo hi w v a) {lo' hi':Nat} (h1:lo'<=lo) (h2:hi<=hi'):WkV lo' hi' w v a:=by
 obtain ⟨vs,rfl,g1⟩:=h
 exact ⟨vs,rfl,g1.mono h1 h2⟩
theorem WkV.all {a:Wk} (h:WkV lo hi w v a) (hh:hi<=w.heap.size):WkV 0 w.heap.size w v a:=h.mono (Nat.zero_le _) hh
theorem WkV.keep {a:Wk} (h:WkV 0 w.heap.size w v a) (hb:Below w.heap.size w w'):WkV 0 w'.heap.size w' v a:=(h.below hb (Nat.le_refl _)).mono (Nat.le_refl _) hb.size
theorem WkV.only {a:Wk} (h:WkV lo hi w v a) {l r:Nat} (hb:Only l r w w') (hh:hi<=w.heap.size) (ho:hi<=l ∨ r<=lo):WkV lo hi w' v a:=by
 obtain ⟨vs,rfl,g1⟩:=h
 exact ⟨vs,rfl,g1.only hb hh ho⟩
end
theorem ret_int {k:IntKind} {a b:Int} (h:a=b):Ending.returned (.int k a)=.returned (.int k b):=by rw [h]
theorem take_snoc {α:Type} {xs:List α} {k:Nat} {x:α} (hx:xs[k]?=some x):xs.take (k+1)=xs.take k ++ [x]:=by
 rw [List.take_add_one,hx];rfl
section
variable {H:Type} {enc:TypeId × Value->H} {P:Program}
theorem keep_all (hl:laidOutB P=true) {W W':World} (hb:Below W.heap.size W W'):∀ (ts:List TypeId),ts.all (fun t=>P.readableRec t && decide (t < P.types.size))=true ->
 ∀ (vs:List Value) (ds:List (DataW H)) (ps:List MemPlace),DataW.TrodAll enc P W 0 (fun _=>true) true ts vs ds ps->∀ sp:Nat->Bool,(∀ x ∈ ps,x.block < W.heap.size/\sp x.block=true) ->
 DataW.TrodAll enc P W' 0 sp true ts vs ds ps:=by
 intro ts
 induction ts with
 | nil =>
   intro _ vs ds ps h _ _
   obtain ⟨rfl,rfl,rfl⟩:=trodAll_nil h
   exact trodAll_mk0
 | cons t ts ih =>
   intro hr vs ds ps h sp hlt
   simp only [List.all_cons,Bool.and_eq_true,decide_eq_true_eq] at hr
   obtain ⟨v,vs',d,ds',p,q,rfl,rfl,rfl,h0,h1⟩:=trodAll_cons h
   exact trodAll_cons_mk (WideElems.Trod_stays hl hr.1.1 hr.1.2 h0 (fun x hx=>hb.same (hlt x (List.mem_append_left _ hx)).1) (fun x hx=>(hlt x (List.mem_append_left _ hx)).2)) (ih hr.2 _ _ _ h1 sp (fun x hx=>hlt x (List.mem_append_right _ hx)))
theorem post_of_below {f:Func} {s:ChangeSpec} {apart fresh handsOn again:Bool} {W W':World} {args:Array Value} {v:Value} {ds gs:List (DataW H)} {before pa pv:List MemPlace}
 (hW:DataW.Whole enc P f.params.toList s.vars apart W args.toList ds gs before)
 (hres:∀ (b:Nat) (sp:Nat->Bool) (hd:Bool),DataW.TrodAll enc P W' b sp hd f.resultTypes.toList (v.resultList f.resultTypes.size) (s.fn H (ds ++ gs)).results [])
 (hargs:∀ sp:Nat->Bool,(∀ p ∈ before,sp p.block=true)->DataW.TrodAll enc P W' 0 sp true f.params.toList args.toList (s.fn H (ds ++ gs)).args pa)
 (hvars:∀ sp:Nat->Bool,(∀ p ∈ before,sp p.block=true)->DataW.TrodVars enc P W' sp s.vars (s.fn H (ds ++ gs)).vars pv)
 (hps:before=pa ++ pv) (hb:Below W.heap.size W W')
 (hok:∀ (j:Nat) (t:TypeId) (r:Value),f.resultTypes[j]?=some t->(v.resultList f.resultTypes.size)[j]?=some r->Value.okWide P W' .any 0 t r) :
 s.post enc P f apart fresh handsOn again W args v W':=by
 have hlt:∀ p ∈ before,p.block < W.heap.size:=fun p hp=>hW.lt p hp
 have hold:∀ p ∈ before,(fun b=>decide (b < W.heap.size)) p.block=true:=fun p hp=>by simpa using hlt p hp
 refine ⟨ds,gs,before,[],pa,pv,hW,hres _ _ _,hargs _ hold,hvars _ hold,World.keptBut_mono (fun p hp=>⟨hp,?_⟩) (hb.frame (· ∈ before)),fun _=>?_⟩
 · rw [hps,List.mem_append] at hp
   exact Or.inr hp
 · obtain ⟨_,_,_,_,_,hz,hn⟩:=hW
   refine ⟨hok,_,_,([] ++ pa) ++ pv,⟨[] ++ pa,pv,trodAll_append (hargs _ (fun _ _=>rfl)) (hres _ _ _),hvars _ (fun _ _=>rfl),rfl,?_,?_⟩,?_⟩
   · intro b off hp
     have hin:MemPlace.cell b off ∈ before:=by rw [hps];simpa using hp
     rw [hb.frozen (hlt _ hin)]
     exact hz b off hin
   · intro ha
     have:=hn ha
     rw [hps] at this
     simpa using this
   · intro p hp _
     rw [hps]
     simpa using hp
/-- THE LAW's STEP: its walk says 'true, and Below'. -/
theorem law_post {f:Func} {s:ChangeSpec} {tb:TypeId} (hl:laidOutB P=true) (hr:f.params.toList.all (fun t=>P.readableRec t && decide (t < P.types.size))=true) (hrt:f.resultTypes=#[tb]) (htb:P.underlying tb=some .bool)
 (hvars:s.vars=[]) {W W':World} {args:Array Value} {ds gs:List (DataW H)} {before:List MemPlace} (hfn:s.fn H (ds ++ gs)={ results:=[.lit (.bool true)],args:=ds })
 (hW:DataW.Whole enc P f.params.toList s.vars false W args.toList ds gs before) (hb:Below W.heap.size W W') :
 s.post enc P f false true false false W args (.bool true) W':=by
 have hW':=hW
 obtain ⟨p,q,hA,hV,hpq,_,_⟩:=hW
 rw [hvars] at hV
 obtain ⟨hgs,hq⟩:=trodVars_none hV
 subst hq
 have hlt:∀ x ∈ before,x.block < W.heap.size:=fun x hx=>hW'.lt x hx
 have hbef:before=p ++ []:=hpq
 refine post_of_below (pa:=p) (pv:=[]) hW' (fun b sp hd=>?_) (fun sp hsp=>?_) (fun sp _=>?_) hbef hb ?_
 · rw [hfn,hrt]
   exact trodAll_cons_mk (shut_bool htb _) trodAll_mk0
 · rw [hfn]
   exact keep_all hl hb _ hr _ _ _ hA sp (fun x hx=>⟨hlt x (by rw [hbef];simpa using hx),hsp x (by rw [hbef];simpa using hx)⟩)
 · rw [hfn,hvars]
   exact rfl
 · exact ok_one (by rw [hrt]) rfl (okWide_bool_mk htb _)
end
end Go.Proofs.Ythnapjodmndlaaa
namespace Go.Proofs.Ythnapjodmndlaaa
open Go.ChangeShapes Go.WideShapes Go.ChangeAt Go.RowKit Go.Deep Go.Joins
set_option maxRecDepth 100000
section
variable {H:Type} {enc:TypeId × Value->H} {P:Program} {w:World} {sp:Nat->Bool} {held:Bool}
theorem list_of {α:Type} {Q:Nat->α->Prop}:∀ (n:Nat),(∀ i,i < n->∃ x,Q i x)->∃ xs:List α,xs.length=n/\∀ i x,xs[i]?=some x->Q i x:=by
 intro n
 induction n with
 | zero=>intro _;exact ⟨[],rfl,by simp⟩
 | succ n ih =>
   intro h
   obtain ⟨xs,hl,hx⟩:=ih (fun i hi=>h i (by omega))
   obtain ⟨x,hq⟩:=h n (by omega)
   refine ⟨xs ++ [x],by simp [hl],fun i y hy=>?_⟩
   by_cases hi:i < n
   · rw [List.getElem?_append_left (by omega)] at hy
     exact hx i y hy
   · have hin:=(List.getElem?_eq_some_iff.1 hy).1
     simp only [List.length_append,List.length_cons,List.length_nil] at hin
     have:i=n:=by omega
     subst this
     rw [List.getElem?_append_right (by omega),hl,Nat.sub_self] at hy
     simp at hy
     subst hy
     exact hq
theorem open_list {α:Type} (E:α->List Value) (k:Nat) (Rd:α->Prop) {t e:TypeId} {fuel:Nat} {v:Value} {y:DataW H × List MemPlace} (ht:P.underlying t=some (.slice e)) (hC:P.cellsOf e=k) (hk:0 < k)
 (helem:∀ (n:Nat) (cs:List Value) (y:DataW H × List MemPlace),cs.length=k->DataW.trod enc P w 0 sp held n e cs=some y->∃ x,cs=E x/\Rd x)
 (h:DataW.trod enc P w 0 sp held fuel t [v]=some y):∃ xs,SlE w E k v xs/\∀ x ∈ xs,Rd x:=by
 rcases open_slice ht h with ⟨hcs,_⟩ | ⟨a,len,cap,m,n,D,Pl,hcs,_,hl,hm,hmm,_,hi⟩
 · have hv:v=.slice none 0 0:=by simpa using hcs
   subst hv
   exact ⟨[],SlI.nil _ _ _ _ _,by simp⟩
 · have hv:v=.slice (some a) len cap:=by simpa using hcs
   subst hv
   have hlm:len<=m:=by rw [hmm];split <;> omega
   obtain ⟨xs,hxl,hx⟩:=list_of (Q:=fun i x=>Rd x/\∀ j u,(E x)[j]?=some u->j < k/\w.cell? ((a.add (i * k)).add j)=some u) len (fun i hil=>by
    obtain ⟨cs',hc,ht'⟩:=hi i (by omega)
    rw [hC] at hc
    obtain ⟨_,hcl,hat⟩:=World.cells?_some hc
    obtain ⟨x,rfl,hr⟩:=helem _ _ _ hcl ht'
    refine ⟨x,hr,fun j u hu=>?_⟩
    have hj:j < k:=by have:=(List.getElem?_eq_some_iff.1 hu).1;omega
    exact ⟨hj,(hat j hj).trans hu⟩)
   subst hxl
   refine ⟨xs,⟨some a,cap,rfl,hl,hm,fun i x hix=>?_⟩,fun x hxm=>?_⟩
   · have hil:=(List.getElem?_eq_some_iff.1 hix).1
     obtain ⟨cs',hc,ht'⟩:=hi i (by omega)
     rw [hC] at hc
     obtain ⟨_,hcl,hat⟩:=World.cells?_some hc
     obtain ⟨b,o,spot⟩:=a
     have h0:=hat 0 hk
     have hc0:cs'[0]?=some (cs'[0]'(by omega)):=List.getElem?_eq_getElem (by omega)
     rw [hc0] at h0
     have hspot:spot=none:=by
      obtain ⟨cs2,hc2,_⟩:=hi 0 (by omega)
      rw [hC] at hc2
      obtain ⟨_,hcl2,hat2⟩:=World.cells?_some hc2
      have h2:=hat2 0 hk
      rw [List.getElem?_eq_getElem (by omega)] at h2
      have:=World.cell?_spot h2
      simpa [Addr.add] using this
     subst hspot
     have hadd:∀ j,((⟨b,o,none⟩:Addr).add (i * k)).add j=⟨b,o+i * k+j,none⟩:=fun j=>by
      unfold Addr.add
      by_cases h1:i * k=0 <;> by_cases h2:j=0 <;> simp [h1,h2] <;> omega
     refine ⟨b,o,rfl,Nat.zero_le _,?_,fun j u hu=>?_⟩
     · rw [hadd] at h0
       exact World.block_lt_of_cell? _ _ h0
     · have:=((hx i x hix).2 j u hu).2
       rw [hadd] at this
       exact this
   · obtain ⟨i,hil,hie⟩:=List.getElem_of_mem hxm
     exact (hx i x (by rw [List.getElem?_eq_getElem hil,hie])).1
theorem elem_u8 {e:TypeId} (he:P.underlying e=some (.int .u8)):∀ (n:Nat) (cs:List Value) (y:DataW H × List MemPlace),cs.length=1->DataW.trod enc P w 0 sp held n e cs=some y->∃ x,cs=cU x/\True:=by
 intro n cs y _ h
 obtain ⟨x,h1,_⟩:=DataW.trod_int he h
 exact ⟨x,h1,trivial⟩
end
section
variable {H:Type} {enc:TypeId × Value->H} {w:World} {sp:Nat->Bool} {held:Bool} {b0:Nat} {v:Value} {d:DataW H} {p:List MemPlace}
theorem openBytes (hv:Value.okWide Try.prog w .any b0 36 v) (h:DataW.Trod enc Try.prog w 0 sp held 36 v d p):∃ xs:List Int,SlE w cU 1 v xs:=by
 obtain ⟨A,n,c,rfl⟩:=okWide_slice Try.underlying36 hv
 obtain ⟨fuel,hf⟩:=h
 obtain ⟨xs,hx,_⟩:=open_list cU 1 (fun _=>True) Try.underlying36 (by kernel_rfl) (by omega) (elem_u8 Try.underlying5) hf
 exact ⟨xs,hx⟩
end
end Go.Proofs.Ythnapjodmndlaaa
namespace Go.Proofs.Ythnapjodmndlaaa
open Go.ChangeShapes Go.WideShapes Go.ChangeAt Go.RowKit
/-- what the program's table says of a slice type t of elements e: zero z, k cells, so many bytes -/
structure ElemOk (P:Program) (t e:TypeId) (z:Value) (k bytes:Nat):Prop where
 und:P.underlying t=some (.slice e)
 info:(P.info? e).map (fun i=>(i.zero,i.size,i.bytes))=some (some z,k,bytes)
 zc:z.cells.size=k
 pos:0 < k
section
variable {P:Program} {w:World}
theorem own_below {base:Nat} {w':World} {e:TypeId} {k n:Nat} {v:Value} {cs:List Value} (h:w.ownsRow base e k v n cs) (hb:base<=w.heap.size) (hg:w.grownBy w' v.ownBlock):Below base w w' :=
 (Below.refl _ _).grown hg hb (fun g hg=>(h.lt g hg).1)
/-- append(s, x): the one element was laid in a block of its own first -/
theorem wpList_append1 {α:Type} (E:α->List Value) {ops:Array Oper} {rest:List Oper} {o:Oper} {a:Act} {Q:Exit->Act->World->Prop} {t e:TypeId} {z:Value} {k bytes:Nat} (el:ElemOk P t e z k bytes)
 (hgd:o.guard=none) (s y:Operand) (ho:o.op=.call { callee:=.builtin .append,args:=#[s,y],argTypes:=#[t,t] })
 (base:Nat) (v:Value) (xs:List α) (x:α) (cs:Array Value) (c H:Nat) (hs:a.eval s=v) (hown:w.ownsRow base e k v xs.length (xs.flatMap E)) (hy:a.eval y=.slice (some ⟨H,0,none⟩) 1 c) (hH:H=w.heap.size)
 (hcs:cs=(E x).toArray) (hE:(E x).length=k) (h1:∀ u ∈ E x,u.oneCell'=true) (hbytes:(xs.length+1) * bytes<=140737488355328) (hb0:0 < bytes) (hbase:base<=w.heap.size)
 (h:∀ v' w',w'.ownsRow base e k v' (xs ++ [x]).length ((xs ++ [x]).flatMap E)->Below base w w'->(v'.ownBlock=v.ownBlock ∨ ∃ g,v'.ownBlock=some g/\w.heap.size<=g)->(w.alloc (.cells cs e)).grownBy w' v.ownBlock->wpList P ops Q rest (a.put o.dst v') w') :
 wpList P ops Q (o :: rest) a (w.alloc (.cells cs e)):=by
 subst hcs hH
 obtain ⟨i,hi,hz0,hz1,hz2⟩:=info_parts el.info
 have hlen:xs.length+1<=140737488355328:=Nat.le_trans (Nat.le_mul_of_pos_right _ hb0) hbytes
 refine wpList_append_own_at (P:=P) (w:=w.alloc (.cells (E x).toArray e)) hgd s y t ho base e i z k bytes el.und hi hz0 hz1 hz2 el.zc el.pos v xs.length (xs.flatMap E) hs (hown.alloc _) ⟨w.heap.size,0,none⟩ 1 c (E x) hy (by rw [hE,Nat.one_mul])
  (fun j u hu=>?_) h1 (by unfold maxLen;omega) hbytes (by simp;omega) ?_
 · have hadd:(⟨w.heap.size,0,none⟩:Addr).add j=⟨w.heap.size,j,none⟩:=by unfold Addr.add;split <;> simp_all
   rw [hadd,World.cell?_alloc_new]
   simpa using hu
 · intro v' w' h2 h3 _ h5
   refine h v' w' (by simpa using h2) ((((Below.refl base w).alloc hbase _)).trans (own_below (hown.alloc _) (by simp;omega) h3)) ?_ h3
   rcases h5 with h5 | h5
   · exact .inl h5
   · exact .inr ⟨_,h5,by simp⟩
theorem getElem?_flat_replicate {α:Type} {E:α->List Value} {k:Nat} {d:α} (hk:(E d).length=k):∀ (n j:Nat),((List.replicate n d).flatMap E)[j]?=if j < n * k then (E d)[j % k]? else none:=by
 intro n
 induction n with
 | zero=>intro j;simp
 | succ n ih =>
   intro j
   rw [List.replicate_succ,List.flatMap_cons,List.getElem?_append,hk]
   by_cases hj:j < k
   · rw [if_pos hj,if_pos (by rw [Nat.succ_mul];omega),Nat.mod_eq_of_lt hj]
   · rw [if_neg hj,ih,Nat.succ_mul]
     by_cases h2:j < n * k+k
     · rw [if_pos h2,if_pos (by omega)]
       congr 1
       conv=>rhs;rw [show j=(j - k)+k by omega,Nat.add_mod_right]
     · rw [if_neg h2,if_neg (by omega)]
theorem madeCells_flat {α:Type} {E:α->List Value} {k:Nat} {d:α} {z:Array Value} (hk:(E d).length=k) (hz:z.toList=E d) (hpos:0 < k) (n:Nat):(madeCells z (n * k)).toList=(List.replicate n d).flatMap E:=by
 apply List.ext_getElem?
 intro j
 rw [getElem?_flat_replicate hk]
 have hzs:z.size=k:=by rw [<- Array.length_toList,hz,hk]
 by_cases hj:j < n * k
 · rw [if_pos hj]
   have hm:j % k < z.size:=by rw [hzs];exact Nat.mod_lt _ hpos
   have:(E d)[j % k]?=z[j % k]?:=by rw [<- hz,Array.getElem?_toList]
   rw [this]
   simp [madeCells,hj,hzs,hm,Nat.mod_lt _ hpos]
 · rw [if_neg hj]
   simp [madeCells,hj]
/-- make([]T, n): n zero elements -/
theorem run_makeE {α:Type} (E:α->List Value) (d:α) {t e:TypeId} {z:Value} {k bytes:Nat} (el:ElemOk P t e z k bytes) (hz:z.cells.toList=E d) (hE:(E d).length=k) (n:Nat) (hbytes:bytes * n<=281474976710656) (h63:n<=maxLen) (w:World) :
 ∃ w',(Instr.makeSlice t (.int .i64 (n:Int)) (.int .i64 (n:Int))).run P w=.ok (.slice (some ⟨w.heap.size,0,none⟩) n n) w' /\
   w'.ownsRow w.heap.size e k (.slice (some ⟨w.heap.size,0,none⟩) n n) n ((List.replicate n d).flatMap E)/\Below w.heap.size w w'/\w'.heap.size=w.heap.size+1:=by
 obtain ⟨i,hi,hz0,hz1,hz2⟩:=info_parts el.info
 subst hz1 hz2
 have h63':(n:Int)<=9223372036854775807:=by
  have h:=h63
  simp [maxLen] at h
  omega
 have hb':(i.bytes:Int) * (n:Int)<=281474976710656:=by
  have h:((i.bytes * n:Nat):Int)<=281474976710656:=by omega
  rwa [Int.natCast_mul] at h
 have hr:=run_make (P:=P) w t e i z el.und hi hz0 .i64 .i64 n n (by omega) (Int.le_refl _) hb' h63'
 simp only [Int.toNat_natCast] at hr
 refine ⟨_,hr,?_,(Below.refl _ _).alloc (Nat.le_refl _) _,by simp⟩
 rw [<- madeCells_flat hE hz el.pos n]
 exact World.ownsRow_lit w _ n (Nat.le_refl _) h63 (size_madeCells _ _)
theorem ownsRow_below {lo k n:Nat} {e:TypeId} {v:Value} {cs:List Value} {w w':World} (h:w.ownsRow lo e k v n cs) {B:Nat} (hb:Below B w w') (hB:w.heap.size<=B):w'.ownsRow lo e k v n cs:=by
 have hlt:=h.lt
 obtain ⟨hl,hs⟩:=h
 refine ⟨hl,?_⟩
 rcases hs with hs | ⟨g,cap,cur,rfl,hg,hh,r⟩
 · exact .inl hs
 · exact .inr ⟨g,cap,cur,rfl,hg,(hb.block g (by have:=hlt g rfl;omega)).trans hh,r⟩
theorem wpList_makeE {α:Type} (E:α->List Value) (d:α) {ops:Array Oper} {rest:List Oper} {o:Oper} {a:Act} {Q:Exit->Act->World->Prop} {t e:TypeId} {z:Value} {k bytes:Nat} (el:ElemOk P t e z k bytes) (hz:z.cells.toList=E d) (hE:(E d).length=k)
 (hgd:o.guard=none) (l c:Operand) (hop:o.op=Op.makeSlice t l c) (base n:Nat) (N:Int) (hl:a.eval l=.int .i64 N) (hc:a.eval c=.int .i64 N) (hN:N=(n:Int)) (hbytes:bytes * n<=281474976710656) (h63:n<=maxLen) (hb:base<=w.heap.size)
 (hK:∀ w',w'.ownsRow base e k (.slice (some ⟨w.heap.size,0,none⟩) n n) n ((List.replicate n d).flatMap E)->Below w.heap.size w w'->wpList P ops Q rest (a.put o.dst (.slice (some ⟨w.heap.size,0,none⟩) n n)) w') :
 wpList P ops Q (o :: rest) a w:=by
 subst hN
 refine wpList_plain hgd fun K hK'=>?_
 obtain ⟨w',hrun,r1,r2,_⟩:=run_makeE E d el hz hE n hbytes h63 w
 unfold Oper.wp
 simp [execOp,hop,hl,hc,hrun,Result.andThen]
 refine hK' _ _ (hK w' ?_ r2)
 obtain ⟨hl,hs⟩:=r1
 refine ⟨hl,?_⟩
 rcases hs with hs | ⟨g,cap,cur,hv,hg,hh,r⟩
 · exact .inl hs
 · exact .inr ⟨g,cap,cur,hv,by omega,hh,r⟩
end
end Go.Proofs.Ythnapjodmndlaaa
namespace Go.Proofs.Ythnapjodmndlaaa
open Go.RowKit
section
variable {P:Program} {ops:Array Oper} {md:Region.Mode} {C:World->Prop}
end
end Go.Proofs.Ythnapjodmndlaaa
namespace Go.Proofs.Ythnapjodmndlaaa
open Go.ChangeShapes Go.WideShapes Go.ChangeAt Go.RowKit
attribute [local go_sem] ext_cell ext_frozen ext_lt ext_lt1 ext_lt2 ext_lt3 ltn2 ltn3 ltn13 lts1 lts2 lts3
theorem big_yes (A:Option Addr) (n c:Nat) (w:World) (h:1048576 < n) (hn:n<=maxLen) :
 Calls Try.prog 17 #[.slice A n c] w fun e w'=>e=.returned (.bool true)/\w=w':=by
 unfold maxLen at hn
 have hd:decide (1048576 < (n:Int))=true:=decide_eq_true (by omega)
 go_enter Try.func17,Try.ntmps17
 go_wp2
 go_ret
 exact ⟨rfl,rfl⟩
theorem big_no (A:Option Addr) (n c:Nat) (w:World) (h:¬ 1048576 < n) :
 Calls Try.prog 17 #[.slice A n c] w fun e w'=>e=.returned (.bool false)/\w=w':=by
 have hd:decide (1048576 < (n:Int))=false:=decide_eq_false (by omega)
 go_enter Try.func17,Try.ntmps17
 go_wp2
 go_ret
 exact ⟨rfl,rfl⟩
set_option maxHeartbeats 400000 in
theorem sameInts_same (v1 v2:Value) (xs:List Int) (w:World) (hv1:SlE w cI 1 v1 xs) (hv2:SlE w cI 1 v2 xs) :
 Calls Try.prog 19 #[v1,v2] w fun e w'=>e=.returned (.bool true)/\Below w.heap.size w w':=by
 obtain ⟨A1,c1,rfl,hl1,hm1,hx1⟩:=hv1
 obtain ⟨A2,c2,rfl,hl2,hm2,hx2⟩:=hv2
 unfold maxLen at hm1 hm2
 go_enter Try.func19,Try.ntmps19
 go_wp2
 go_loopw [5] (fun i wr=>∃ (k:Nat) (u:World),k<=xs.length/\i=.int .i64 k/\wr=ext w u) (fun i _=>xs.length - (intOf i).toNat)
 case atStart=>exact ⟨0,w,Nat.zero_le _,rfl,ext_self w⟩
 case round =>
  obtain ⟨k,u,hk,rfl,rfl⟩:=hrel
  by_cases hlt:k < xs.length
  · obtain ⟨b1,o1,rfl,-,hb1,hc1⟩:=hx1 k xs[k] (List.getElem?_eq_getElem hlt)
    obtain ⟨b2,o2,rfl,-,hb2,hc2⟩:=hx2 k xs[k] (List.getElem?_eq_getElem hlt)
    generalize xs[k]=x at hc1 hc2
    have c10:=hc1 0 _ rfl
    have c20:=hc2 0 _ rfl
    simp only [Nat.add_zero,Nat.mul_one] at c10 c20
    clear hc1 hc2 hx1 hx2
    go_wp2
    refine wp_region_ext_lit (by kernel_rfl) (by kernel_rfl) ?_
    repeat (go_big_quiet_step (fail))
    refine wpQuiet_nil ?_
    rintro _ ⟨u2,rfl⟩
    go_wp2
    go_roundw
    case rel =>
     obtain ⟨y,hy⟩:=ext_ext w u u2
     exact ⟨k+1,y,by omega,by go_num,hy⟩
    case measure=>simp [intOf];omega
  · go_wp2
    go_ret
    exact ⟨rfl,ext_below _ _⟩
end Go.Proofs.Ythnapjodmndlaaa
namespace Go.Proofs.Ythnapjodmndlaaa
/-- a token: its kind, letter, low and high -/
abbrev Tok:=Int × Int × Int × Int
def tokPlain (t:Tok):Bool:=t.2.1==0 && (t.2.2.1==0 && t.2.2.2==0)
/-- how many operands a token takes; none if it is no token -/
def ar (t:Tok):Option Nat :=
 if t.1=1 ∨ t.1=2 then (if tokPlain t=true then some 0 else none)
 else if t.1=3 then (if 0<=t.2.1/\t.2.1<=8/\t.2.2.1=0/\t.2.2.2=0 then some 0 else none)
 else if t.1=4 ∨ t.1=5 then (if tokPlain t=true then some 2 else none)
 else if t.1=6 then (if tokPlain t=true then some 1 else none)
 else if t.1=7 then (if t.2.1=0/\1<=t.2.2.2/\t.2.2.2<=3/\0<=t.2.2.1/\t.2.2.1<=t.2.2.2 then some 1 else none)
 else none
inductive Tr
 | leaf (t:Tok)
 | un (t:Tok) (a:Tr)
 | bin (t:Tok) (a b:Tr)
def Tr.ok:Tr->Prop
 | .leaf t=>ar t=some 0
 | .un t a=>ar t=some 1/\a.ok
 | .bin t a b=>ar t=some 2/\a.ok/\b.ok
def Tr.root:Tr->Tok
 | .leaf t=>t
 | .un t _=>t
 | .bin t _ _=>t
/-- the tokens of a tree -/
def post:Tr->List Tok
 | .leaf t=>[t]
 | .un t a=>post a ++ [t]
 | .bin t a b=>(post a ++ post b) ++ [t]
theorem post_ne (r:Tr):post r ≠ []:=by cases r <;> simp [post]
theorem post_pos (r:Tr):0 < (post r).length:=List.length_pos_iff.2 (post_ne r)
/-- what tokens ask for beyond what they give -/
def net (l:List Tok):Int:=(l.map fun t=>(((ar t).getD 0:Nat):Int) - 1).sum
theorem net_app (l r:List Tok):net (l ++ r)=net l+net r:=by simp [net,List.sum_append]
theorem net_one (t:Tok):net [t]=(((ar t).getD 0:Nat):Int) - 1:=by simp [net]
theorem net_post:∀ {r:Tr},r.ok->net (post r)=-1
 | .leaf t,h=>by rw [post,net_one,show ar t=some 0 from h];rfl
 | .un t a,h=>by rw [post,net_app,net_one,net_post h.2,h.1];rfl
 | .bin t a b,h=>by rw [post,net_app,net_app,net_one,net_post h.2.1,net_post h.2.2,h.1];rfl
/-- a proper part at a tree's end never gives more than it asks for -/
theorem net_end:∀ {r:Tr},r.ok->∀ {k:Nat},0 < k->0<=net ((post r).drop k)
 | .leaf t,_,k,hk=>by
   have:(post (.leaf t)).drop k=[]:=List.drop_eq_nil_of_le (by simp [post];omega)
   rw [this];simp [net]
 | .un t a,h,k,hk=>by
   rw [post]
   rcases Nat.lt_or_ge k (post a).length with hl | hl
   · rw [List.drop_append_of_le_length (by omega),net_app,net_one,h.1]
     have:=net_end h.2 hk
     simp only [Option.getD_some];omega
   · rw [List.drop_append,List.drop_eq_nil_of_le hl,List.nil_append]
     rcases Nat.eq_zero_or_pos (k - (post a).length) with h0 | h0
     · rw [h0,List.drop_zero,net_one,h.1];simp
     · rw [List.drop_eq_nil_of_le (by simp;omega)];simp [net]
 | .bin t a b,h,k,hk=>by
   rw [post]
   rcases Nat.lt_or_ge k (post a).length with hl | hl
   · rw [List.drop_append_of_le_length (by rw [List.length_append];omega),List.drop_append_of_le_length (by omega),net_app,net_app,net_one,net_post h.2.2,h.1]
     have:=net_end h.2.1 hk
     simp only [Option.getD_some];omega
   · rcases Nat.lt_or_ge k ((post a).length+(post b).length) with hl2 | hl2
     · rw [List.drop_append_of_le_length (by rw [List.length_append];omega),List.drop_append,List.drop_eq_nil_of_le hl,List.nil_append,net_app,net_one,h.1]
       rcases Nat.eq_zero_or_pos (k - (post a).length) with h0 | h0
       · rw [h0,List.drop_zero,net_post h.2.2];simp
       · have:=net_end h.2.2 h0
         simp only [Option.getD_some];omega
     · rw [List.drop_append,List.drop_eq_nil_of_le (by rw [List.length_append];exact hl2),List.nil_append]
       rcases Nat.eq_zero_or_pos (k - (post a ++ post b).length) with h0 | h0
       · rw [h0,List.drop_zero,net_one,h.1];simp
       · rw [List.drop_eq_nil_of_le (by simp at h0 ⊢;omega)];simp [net]
def push (st:List Tr) (t:Tok):Option (List Tr) :=
 match ar t with
 | some 0=>some (st ++ [.leaf t])
 | some 1=>match st.getLast? with
   | some a=>some (st.dropLast ++ [.un t a])
   | none=>none
 | some 2=>match st.getLast?,st.dropLast.getLast? with
   | some b,some a=>some (st.dropLast.dropLast ++ [.bin t a b])
   | _,_=>none
 | _=>none
def parseTo (l:List Tok):Nat->Option (List Tr)
 | 0=>some []
 | i+1=>match parseTo l i,l[i]? with
   | some st,some t=>push st t
   | _,_=>none
theorem last_app {α:Type} {l:List α} {a:α} (h:l.getLast?=some a):l=l.dropLast ++ [a]:=by
 rw [List.getLast?_eq_some_iff] at h
 obtain ⟨ys,rfl⟩:=h
 simp
theorem ar_cases (t:Tok):ar t=none ∨ ar t=some 0 ∨ ar t=some 1 ∨ ar t=some 2:=by
 unfold ar
 split
 · split <;> simp
 · split
   · split <;> simp
   · split
     · split <;> simp
     · split
       · split <;> simp
       · split
         · split <;> simp
         · simp
/-- what a push is: the last n trees become one -/
theorem push_eq {st st':List Tr} {t:Tok} (h:push st t=some st'):∃ r,st'=(st.take (st.length - (ar t).getD 0)) ++ [r]/\r.root=t/\(ar t).isSome=true/\(ar t).getD 0<=st.length/\((∀ x ∈ st,x.ok)->r.ok)/\post r=(st.drop (st.length - (ar t).getD 0)).flatMap post ++ [t] /\
 ((ar t=some 0/\r=.leaf t) ∨ (∃ a,ar t=some 1/\r=.un t a/\st.drop (st.length - 1)=[a]) ∨ (∃ a b,ar t=some 2/\r=.bin t a b/\st.drop (st.length - 2)=[a,b])):=by
 unfold push at h
 rcases ar_cases t with ha | ha | ha | ha
 · rw [ha] at h;cases h
 · rw [ha] at h
   simp only [Option.some.injEq] at h
   refine ⟨.leaf t,by rw [ha];simp [h],rfl,by rw [ha];rfl,by rw [ha];exact Nat.zero_le _,fun _=>ha,by rw [ha];simp [post],.inl ⟨ha,rfl⟩⟩
 · rw [ha] at h
   simp only at h
   cases hl:st.getLast? with
   | none=>rw [hl] at h;cases h
   | some a =>
     rw [hl] at h
     simp only [Option.some.injEq] at h
     have he:=last_app hl
     have hln:st.length=st.dropLast.length+1:=by rw [he];simp
     have hd:st.drop (st.length - 1)=[a]:=by rw [he];simp
     refine ⟨.un t a,by rw [ha,<- h];simp [List.dropLast_eq_take],rfl,by rw [ha];rfl,by rw [ha];simp;omega,fun hx=>⟨ha,hx a (List.mem_of_getLast? hl)⟩,by rw [ha];simp only [Option.getD_some];rw [hd];simp [post],.inr (.inl ⟨a,ha,rfl,hd⟩)⟩
 · rw [ha] at h
   simp only at h
   cases hl:st.getLast? with
   | none=>rw [hl] at h;cases h
   | some b =>
     rw [hl] at h
     cases hl2:st.dropLast.getLast? with
     | none=>rw [hl2] at h;cases h
     | some a =>
       rw [hl2] at h
       simp only [Option.some.injEq] at h
       have he:=last_app hl
       have he2:=last_app hl2
       obtain ⟨D,hD⟩:∃ D,D=st.dropLast.dropLast:=⟨_,rfl⟩
       rw [<- hD] at he2 h
       rw [he2] at he
       have hst:st=D ++ [a,b]:=by rw [he];simp
       have hln:st.length=D.length+2:=by rw [hst];simp
       have hd:st.drop (st.length - 2)=[a,b]:=by rw [hln,hst];simp
       have ht:st.take (st.length - 2)=D:=by rw [hln,hst];simp
       refine ⟨.bin t a b,by rw [ha];simp only [Option.getD_some];rw [ht,h],rfl,by rw [ha];rfl,by rw [ha];simp;omega,fun hx=>⟨ha,hx a (by rw [hst];simp),hx b (by rw [hst];simp)⟩,by rw [ha];simp only [Option.getD_some];rw [hd];simp [post],.inr (.inr ⟨a,b,ha,rfl,hd⟩)⟩
theorem push_some {st:List Tr} {t:Tok} {n:Nat} (ha:ar t=some n) (hn:n<=st.length):∃ st',push st t=some st':=by
 unfold push
 rcases ar_cases t with h | h | h | h
 · rw [h] at ha;cases ha
 · rw [h];exact ⟨_,rfl⟩
 · rw [h] at ha ⊢
   injection ha with ha
   cases hl:st.getLast? with
   | none=>rw [List.getLast?_eq_none_iff] at hl;subst hl;simp at hn;omega
   | some a=>exact ⟨_,rfl⟩
 · rw [h] at ha ⊢
   injection ha with ha
   cases hl:st.getLast? with
   | none=>rw [List.getLast?_eq_none_iff] at hl;subst hl;simp at hn;omega
   | some b =>
     have he:=last_app hl
     have hln:st.length=st.dropLast.length+1:=by
      have:=congrArg List.length he
      simpa using this
     cases hl2:st.dropLast.getLast? with
     | none=>rw [List.getLast?_eq_none_iff] at hl2;rw [hl2] at hln;simp at hln;omega
     | some a=>exact ⟨_,rfl⟩
theorem push_none {st:List Tr} {t:Tok} (h:ar t=none ∨ ∃ n,ar t=some n/\st.length < n):push st t=none:=by
 cases hp:push st t with
 | none=>rfl
 | some st' =>
   obtain ⟨r,-,-,h1,h2,-⟩:=push_eq hp
   rcases h with h | ⟨n,h,hn⟩
   · rw [h] at h1;cases h1
   · rw [h] at h2;simp at h2;omega
theorem push_len {st st':List Tr} {t:Tok} (h:push st t=some st'):st'.length+(ar t).getD 0=st.length+1:=by
 obtain ⟨r,rfl,-,-,h2,-⟩:=push_eq h
 rw [List.length_append,List.length_take,List.length_singleton]
 omega
theorem parse_post {l:List Tok}:∀ {i:Nat} {st:List Tr},parseTo l i=some st->i<=l.length/\(∀ r ∈ st,r.ok)/\st.flatMap post=l.take i
 | 0,st,h=>by
   simp only [parseTo,Option.some.injEq] at h
   subst h
   simp
 | i+1,st,h=>by
   rw [parseTo] at h
   cases hp:parseTo l i with
   | none=>rw [hp] at h;cases h
   | some st0 =>
     rw [hp] at h
     cases ht:l[i]? with
     | none=>rw [ht] at h;cases h
     | some t =>
       rw [ht] at h
       simp only at h
       obtain ⟨h1,h2,h3⟩:=parse_post hp
       obtain ⟨r,rfl,-,-,h4,h5,h6,-⟩:=push_eq h
       refine ⟨(List.getElem?_eq_some_iff.1 ht).1,fun x hx=>?_,?_⟩
       · rcases List.mem_append.1 hx with hx | hx
         · exact h2 x (List.mem_of_mem_take hx)
         · rw [List.mem_singleton] at hx
           subst hx
           exact h5 h2
       · rw [List.take_add_one,ht,<- h3,List.flatMap_append,List.flatMap_singleton,h6,<- List.append_assoc,<- List.flatMap_append,List.take_append_drop]
         rfl
/-- the tree of tokens, if they are one -/
def treeL (l:List Tok):Option Tr:=match parseTo l l.length with
 | some [r]=>some r
 | _=>none
theorem treeL_post {l:List Tok} {r:Tr} (h:treeL l=some r):r.ok/\post r=l:=by
 unfold treeL at h
 split at h
 · rename_i hp
   injection h with h
   subst h
   obtain ⟨-,h2,h3⟩:=parse_post hp
   rw [List.take_length] at h3
   exact ⟨h2 _ (by simp),by simpa using h3⟩
 · cases h
/-- the last operand's beginning: while the need is above nought, one more token back -/
theorem start_need {xs:List Tok} {r:Tr} (hr:r.ok) {k:Nat} (h1:xs.length < k) (h2:k<=(xs ++ post r).length):0 < 1+net ((xs ++ post r).drop k):=by
 rw [List.drop_append,List.drop_eq_nil_of_le (by omega),List.nil_append]
 have:=net_end hr (k:=k - xs.length) (by omega)
 omega
theorem start_done {xs:List Tok} {r:Tr} (hr:r.ok):1+net ((xs ++ post r).drop xs.length)=0:=by
 rw [List.drop_left,net_post hr];rfl
def tEmp:Tok:=(2,0,0,0)
def tCat:Tok:=(4,0,0,0)
def tAlt:Tok:=(5,0,0,0)
theorem ar_emp:ar tEmp=some 0:=by decide
theorem ar_cat:ar tCat=some 2:=by decide
theorem ar_alt:ar tAlt=some 2:=by decide
/-- the reference's measure -/
def sizeT:Tr->Nat
 | .leaf _=>1
 | .un t a=>if t.1=6 then min 100000 (sizeT a+1) else min 100000 ((sizeT a+3) * t.2.2.2.toNat+1)
 | .bin _ a b=>min 100000 (sizeT a+sizeT b+1)
theorem sizeT_le:∀ r:Tr,1<=sizeT r/\sizeT r<=100000
 | .leaf _=>by simp [sizeT]
 | .un t a=>by
   rw [sizeT]
   split <;> omega
 | .bin _ a b=>by rw [sizeT];omega
/-- e{low,high} -/
def timesT (a:Tr):Nat->Nat->Tr
 | _,0=>.leaf tEmp
 | low,h+1=>if 0 < low then .bin tCat a (timesT a (low - 1) h) else .bin tAlt (.bin tCat a (timesT a (low - 1) h)) (.leaf tEmp)
def expT:Tr->Tr
 | .leaf t=>.leaf t
 | .un t a=>if t.1=6 then .un t (expT a) else timesT (expT a) t.2.2.1.toNat t.2.2.2.toNat
 | .bin t a b=>.bin t (expT a) (expT b)
theorem timesT_ok {a:Tr} (ha:a.ok):∀ (h low:Nat),(timesT a low h).ok
 | 0,_=>ar_emp
 | h+1,low=>by
   rw [timesT]
   split
   · exact ⟨ar_cat,ha,timesT_ok ha h _⟩
   · exact ⟨ar_alt,⟨ar_cat,ha,timesT_ok ha h _⟩,ar_emp⟩
theorem timesT_len (a:Tr):∀ (h low:Nat),(post (timesT a low h)).length<=((post a).length+3) * h+1
 | 0,_=>by simp [timesT,post]
 | h+1,low=>by
   have ih:=timesT_len a h (low - 1)
   have hm:((post a).length+3) * (h+1)=((post a).length+3) * h+((post a).length+3):=Nat.mul_succ _ _
   rw [timesT,hm]
   generalize ((post a).length+3) * h=z at ih ⊢
   split <;> simp [post] <;> omega
theorem expT_ok:∀ {r:Tr},r.ok->(expT r).ok
 | .leaf t,h=>h
 | .un t a,h=>by
   rw [expT]
   split
   · exact ⟨h.1,expT_ok h.2⟩
   · exact timesT_ok (expT_ok h.2) _ _
 | .bin t a b,h=>by
   rw [expT]
   exact ⟨h.1,expT_ok h.2.1,expT_ok h.2.2⟩
theorem expT_len:∀ {r:Tr},sizeT r<=5000->(post (expT r)).length<=sizeT r
 | .leaf t,_=>by simp [expT,post,sizeT]
 | .un t a,h=>by
   rw [sizeT] at h ⊢
   rw [expT]
   split at h
   · rename_i h6
     rw [if_pos h6,if_pos h6,post]
     have:=expT_len (r:=a) (by omega)
     simp
     omega
   · rename_i h6
     rw [if_neg h6,if_neg h6]
     have h1:=timesT_len (expT a) t.2.2.2.toNat t.2.2.1.toNat
     rcases Nat.eq_zero_or_pos t.2.2.2.toNat with h0 | h0
     · rw [h0] at h1 ⊢
       omega
     · have hs:sizeT a+3<=(sizeT a+3) * t.2.2.2.toNat:=Nat.le_mul_of_pos_right _ h0
       have h2:=expT_len (r:=a) (by omega)
       have h3:((post (expT a)).length+3) * t.2.2.2.toNat<=(sizeT a+3) * t.2.2.2.toNat:=Nat.mul_le_mul_right _ (by omega)
       omega
 | .bin t a b,h=>by
   rw [sizeT] at h ⊢
   rw [expT,post]
   have h1:=expT_len (r:=a) (by omega)
   have h2:=expT_len (r:=b) (by omega)
   simp
   omega
theorem ar_bin {t:Tok} (h:ar t=some 2):t=tCat ∨ t=tAlt:=by
 obtain ⟨k,l,lo,hi⟩:=t
 unfold ar at h
 simp only at h
 split at h
 · split at h <;> cases h
 · split at h
   · split at h <;> cases h
   · split at h
     · rename_i hk
       split at h
       · rename_i hp
         simp only [tokPlain,Bool.and_eq_true,beq_iff_eq] at hp
         obtain ⟨rfl,rfl,rfl⟩:=hp
         rcases hk with rfl | rfl
         · exact .inl rfl
         · exact .inr rfl
       · cases h
     · split at h
       · split at h <;> cases h
       · split at h
         · split at h <;> cases h
         · cases h
/-- n is in the range a to b -/
def wi (n a b:Int):Bool:=decide (a<=n) && decide (n<=b)
theorem wi_iff {n a b:Int}:wi n a b=true ↔ a<=n/\n<=b:=by simp [wi]
def rowOk (n:Int) (row:List Int):Bool:=row.all (fun t=>wi t (-1) (n - 1)) && (row.length==9)
def auOk (a:Au):Bool:=wi a.accept.length 1 12 && wi a.start 0 ((a.accept.length:Int) - 1) && (a.next.length==a.accept.length) && a.next.all (rowOk a.accept.length)
theorem auOk_iff {a:Au}:auOk a=true ↔ (1<=a.accept.length/\a.accept.length<=12)/\(0<=a.start/\a.start<=(a.accept.length:Int) - 1)/\a.next.length=a.accept.length/\∀ row ∈ a.next,rowOk a.accept.length row=true:=by
 simp only [auOk,Bool.and_eq_true,wi_iff,beq_iff_eq,List.all_eq_true]
 constructor
 · rintro ⟨⟨⟨h1,h2⟩,h3⟩,h4⟩
   exact ⟨by omega,h2,h3,h4⟩
 · rintro ⟨h1,h2,h3,h4⟩
   exact ⟨⟨⟨by omega,h2⟩,h3⟩,h4⟩
theorem rowOk_iff {n:Int} {row:List Int}:rowOk n row=true ↔ (∀ t ∈ row,-1<=t/\t<=n - 1)/\row.length=9:=by
 simp only [rowOk,Bool.and_eq_true,List.all_eq_true,wi_iff,beq_iff_eq]
end Go.Proofs.Ythnapjodmndlaaa
namespace Go.Proofs.Ythnapjodmndlaaa
open Go.ChangeShapes Go.WideShapes Go.ChangeAt Go.RowKit
attribute [local go_sem] ext_cell ext_frozen ext_lt ext_lt1 ext_lt2 ext_lt3 ltn2 ltn3 ltn13 lts1 lts2 lts3
theorem l1In_any (n a b:Int) (w:World):Calls Try.prog 33 #[.int .i64 n,.int .i64 a,.int .i64 b] w fun e w'=>e=.returned (.bool (wi n a b))/\w'=w:=by
 unfold wi
 by_cases h1:a<=n
 · have e1:decide (a<=n)=true:=by simpa using h1
   by_cases h2:n<=b
   · go_enter Try.func33,Try.ntmps33
     go_wp2
     go_ret
     exact ⟨by simp [h1,h2],rfl⟩
   · go_enter Try.func33,Try.ntmps33
     go_wp2
     go_ret
     exact ⟨by simp [h1];try omega,rfl⟩
 · have e1:decide (a<=n)=false:=by simpa using h1
   go_enter Try.func33,Try.ntmps33
   go_wp2
   go_ret
   exact ⟨by simp [h1];try omega,rfl⟩
def arI (t:Tok):Int:=match ar t with | some n=>(n:Int) | none=>-1
theorem arI_some {t:Tok} {n:Nat} (h:ar t=some n):arI t=n:=by rw [arI,h]
theorem arI_none {t:Tok} (h:ar t=none):arI t=-1:=by rw [arI,h]
theorem arI_bd (t:Tok):-1<=arI t/\arI t<=2:=by
 rcases ar_cases t with h | h | h | h <;> simp [arI,h]
theorem l2Letter_any (n:Int) (w:World):Calls Try.prog 34 #[.int .i64 n] w fun e w'=>e=.returned (.bool (wi n 0 8))/\w'=w:=by
 go_enter Try.func34,Try.ntmps34
 go_wp2_with fail
 refine (l1In_any n 0 8 _).mono ?_
 rintro e w' ⟨rfl,rfl⟩
 go_wp2_with fail
 go_ret
 exact ⟨rfl,rfl⟩
set_option maxHeartbeats 4000000 in
theorem l8Arity_any (t:Tok) (w:World) :
 Calls Try.prog 67 #[.agg #[.int .i64 t.1,.int .i64 t.2.1,.int .i64 t.2.2.1,.int .i64 t.2.2.2]] w fun e w'=>e=.returned (.int .i64 (arI t))/\Below w.heap.size w w':=by
 obtain ⟨k,l,lo,hi⟩:=t
 simp only
 obtain ⟨R,hR⟩:∃ R,R=arI (k,l,lo,hi):=⟨_,rfl⟩
 rw [<- hR]
 have HR:=Hd_ hR
 clear hR
 by_cases h1:k=1
 · subst h1
   by_cases hl:l=0
   · by_cases hlo:lo=0
     · by_cases hhi:hi=0
       · subst hl hlo hhi
         have hfin:R=0:=by rw [HR.out];decide
         clear HR
         subst hfin
         go_enter Try.func67,Try.ntmps67
         go_wp2
         go_ret
         exact ⟨rfl,(Below.refl _ _).alloc (Nat.le_refl _) _⟩
       · have hx:(hi != 0)=true:=by simpa using hhi
         have hfin:R=-1:=by rw [HR.out];simp [arI,ar,tokPlain,hhi]
         subst hl hlo
         clear hhi HR
         subst hfin
         go_enter Try.func67,Try.ntmps67
         go_wp2
         go_ret
         exact ⟨rfl,(Below.refl _ _).alloc (Nat.le_refl _) _⟩
     · have hx:(lo != 0)=true:=by simpa using hlo
       have hfin:R=-1:=by rw [HR.out];simp [arI,ar,tokPlain,hlo]
       subst hl
       clear hlo HR
       subst hfin
       go_enter Try.func67,Try.ntmps67
       go_wp2
       go_ret
       exact ⟨rfl,(Below.refl _ _).alloc (Nat.le_refl _) _⟩
   · have hx:(l != 0)=true:=by simpa using hl
     have hfin:R=-1:=by rw [HR.out];simp [arI,ar,tokPlain,hl]
     clear hl HR
     subst hfin
     go_enter Try.func67,Try.ntmps67
     go_wp2
     go_ret
     exact ⟨rfl,(Below.refl _ _).alloc (Nat.le_refl _) _⟩
 by_cases h2:k=2
 · subst h2
   clear h1
   by_cases hl:l=0
   · by_cases hlo:lo=0
     · by_cases hhi:hi=0
       · subst hl hlo hhi
         have hfin:R=0:=by rw [HR.out];decide
         clear HR
         subst hfin
         go_enter Try.func67,Try.ntmps67
         go_wp2
         go_ret
         exact ⟨rfl,(Below.refl _ _).alloc (Nat.le_refl _) _⟩
       · have hx:(hi != 0)=true:=by simpa using hhi
         have hfin:R=-1:=by rw [HR.out];simp [arI,ar,tokPlain,hhi]
         subst hl hlo
         clear hhi HR
         subst hfin
         go_enter Try.func67,Try.ntmps67
         go_wp2
         go_ret
         exact ⟨rfl,(Below.refl _ _).alloc (Nat.le_refl _) _⟩
     · have hx:(lo != 0)=true:=by simpa using hlo
       have hfin:R=-1:=by rw [HR.out];simp [arI,ar,tokPlain,hlo]
       subst hl
       clear hlo HR
       subst hfin
       go_enter Try.func67,Try.ntmps67
       go_wp2
       go_ret
       exact ⟨rfl,(Below.refl _ _).alloc (Nat.le_refl _) _⟩
   · have hx:(l != 0)=true:=by simpa using hl
     have hfin:R=-1:=by rw [HR.out];simp [arI,ar,tokPlain,hl]
     clear hl HR
     subst hfin
     go_enter Try.func67,Try.ntmps67
     go_wp2
     go_ret
     exact ⟨rfl,(Below.refl _ _).alloc (Nat.le_refl _) _⟩
 by_cases h4:k=4
 · subst h4
   clear h1 h2
   by_cases hl:l=0
   · by_cases hlo:lo=0
     · by_cases hhi:hi=0
       · subst hl hlo hhi
         have hfin:R=2:=by rw [HR.out];decide
         clear HR
         subst hfin
         go_enter Try.func67,Try.ntmps67
         go_wp2
         go_ret
         exact ⟨rfl,(Below.refl _ _).alloc (Nat.le_refl _) _⟩
       · have hx:(hi != 0)=true:=by simpa using hhi
         have hfin:R=-1:=by rw [HR.out];simp [arI,ar,tokPlain,hhi]
         subst hl hlo
         clear hhi HR
         subst hfin
         go_enter Try.func67,Try.ntmps67
         go_wp2
         go_ret
         exact ⟨rfl,(Below.refl _ _).alloc (Nat.le_refl _) _⟩
     · have hx:(lo != 0)=true:=by simpa using hlo
       have hfin:R=-1:=by rw [HR.out];simp [arI,ar,tokPlain,hlo]
       subst hl
       clear hlo HR
       subst hfin
       go_enter Try.func67,Try.ntmps67
       go_wp2
       go_ret
       exact ⟨rfl,(Below.refl _ _).alloc (Nat.le_refl _) _⟩
   · have hx:(l != 0)=true:=by simpa using hl
     have hfin:R=-1:=by rw [HR.out];simp [arI,ar,tokPlain,hl]
     clear hl HR
     subst hfin
     go_enter Try.func67,Try.ntmps67
     go_wp2
     go_ret
     exact ⟨rfl,(Below.refl _ _).alloc (Nat.le_refl _) _⟩
 by_cases h5:k=5
 · subst h5
   clear h1 h2 h4
   by_cases hl:l=0
   · by_cases hlo:lo=0
     · by_cases hhi:hi=0
       · subst hl hlo hhi
         have hfin:R=2:=by rw [HR.out];decide
         clear HR
         subst hfin
         go_enter Try.func67,Try.ntmps67
         go_wp2
         go_ret
         exact ⟨rfl,(Below.refl _ _).alloc (Nat.le_refl _) _⟩
       · have hx:(hi != 0)=true:=by simpa using hhi
         have hfin:R=-1:=by rw [HR.out];simp [arI,ar,tokPlain,hhi]
         subst hl hlo
         clear hhi HR
         subst hfin
         go_enter Try.func67,Try.ntmps67
         go_wp2
         go_ret
         exact ⟨rfl,(Below.refl _ _).alloc (Nat.le_refl _) _⟩
     · have hx:(lo != 0)=true:=by simpa using hlo
       have hfin:R=-1:=by rw [HR.out];simp [arI,ar,tokPlain,hlo]
       subst hl
       clear hlo HR
       subst hfin
       go_enter Try.func67,Try.ntmps67
       go_wp2
       go_ret
       exact ⟨rfl,(Below.refl _ _).alloc (Nat.le_refl _) _⟩
   · have hx:(l != 0)=true:=by simpa using hl
     have hfin:R=-1:=by rw [HR.out];simp [arI,ar,tokPlain,hl]
     clear hl HR
     subst hfin
     go_enter Try.func67,Try.ntmps67
     go_wp2
     go_ret
     exact ⟨rfl,(Below.refl _ _).alloc (Nat.le_refl _) _⟩
 by_cases h6:k=6
 · subst h6
   clear h1 h2 h4 h5
   by_cases hl:l=0
   · by_cases hlo:lo=0
     · by_cases hhi:hi=0
       · subst hl hlo hhi
         have hfin:R=1:=by rw [HR.out];decide
         clear HR
         subst hfin
         go_enter Try.func67,Try.ntmps67
         go_wp2
         go_ret
         exact ⟨rfl,(Below.refl _ _).alloc (Nat.le_refl _) _⟩
       · have hx:(hi != 0)=true:=by simpa using hhi
         have hfin:R=-1:=by rw [HR.out];simp [arI,ar,tokPlain,hhi]
         subst hl hlo
         clear hhi HR
         subst hfin
         go_enter Try.func67,Try.ntmps67
         go_wp2
         go_ret
         exact ⟨rfl,(Below.refl _ _).alloc (Nat.le_refl _) _⟩
     · have hx:(lo != 0)=true:=by simpa using hlo
       have hfin:R=-1:=by rw [HR.out];simp [arI,ar,tokPlain,hlo]
       subst hl
       clear hlo HR
       subst hfin
       go_enter Try.func67,Try.ntmps67
       go_wp2
       go_ret
       exact ⟨rfl,(Below.refl _ _).alloc (Nat.le_refl _) _⟩
   · have hx:(l != 0)=true:=by simpa using hl
     have hfin:R=-1:=by rw [HR.out];simp [arI,ar,tokPlain,hl]
     clear hl HR
     subst hfin
     go_enter Try.func67,Try.ntmps67
     go_wp2
     go_ret
     exact ⟨rfl,(Below.refl _ _).alloc (Nat.le_refl _) _⟩
 by_cases h3:k=3
 · subst h3
   clear h1 h2 h4 h5 h6
   by_cases hw:wi l 0 8=true
   · have hw':=wi_iff.1 hw
     by_cases hlo:lo=0
     · by_cases hhi:hi=0
       · subst hlo hhi
         have hfin:R=0:=by rw [HR.out];simp [arI,ar,hw']
         clear HR hw'
         have hc:wi l 0 8=true:=hw
         subst hfin
         go_enter Try.func67,Try.ntmps67
         go_wp2_with (refine (l2Letter_any l _).mono ?_;rintro e w' ⟨rfl,rfl⟩)
         go_ret
         exact ⟨rfl,(Below.refl _ _).alloc (Nat.le_refl _) _⟩
       · have hx:(hi != 0)=true:=by simpa using hhi
         have hfin:R=-1:=by rw [HR.out];simp [arI,ar,hhi]
         subst hlo
         clear hhi HR hw'
         subst hfin
         go_enter Try.func67,Try.ntmps67
         go_wp2_with (refine (l2Letter_any l _).mono ?_;rintro e w' ⟨rfl,rfl⟩)
         go_ret
         exact ⟨rfl,(Below.refl _ _).alloc (Nat.le_refl _) _⟩
     · have hx:(lo != 0)=true:=by simpa using hlo
       have hfin:R=-1:=by rw [HR.out];simp [arI,ar,hlo]
       clear hlo HR hw'
       subst hfin
       go_enter Try.func67,Try.ntmps67
       go_wp2_with (refine (l2Letter_any l _).mono ?_;rintro e w' ⟨rfl,rfl⟩)
       go_ret
       exact ⟨rfl,(Below.refl _ _).alloc (Nat.le_refl _) _⟩
   · have hw0:wi l 0 8=false:=by simpa using hw
     have hw':¬ (0<=l/\l<=8):=fun h=>hw (wi_iff.2 h)
     have hfin:R=-1:=by
      rw [HR.out]
      have:ar (3,l,lo,hi)=none:=by
       unfold ar
       simp only [show ¬ ((3:Int)=1 ∨ (3:Int)=2) by decide,if_false,if_true]
       rw [if_neg (fun h=>hw' ⟨h.1,h.2.1⟩)]
      rw [arI,this]
     clear HR hw' hw
     subst hfin
     go_enter Try.func67,Try.ntmps67
     go_wp2_with (refine (l2Letter_any l _).mono ?_;rintro e w' ⟨rfl,rfl⟩)
     go_ret
     exact ⟨rfl,(Below.refl _ _).alloc (Nat.le_refl _) _⟩
 by_cases h7:k=7
 · subst h7
   clear h1 h2 h3 h4 h5 h6
   by_cases hl:l=0
   · subst hl
     have hno:¬ ((0:Int)=0/\1<=hi/\hi<=3/\0<=lo/\lo<=hi)->R=-1:=by
      intro h
      rw [HR.out]
      have:ar (7,0,lo,hi)=none:=by
       unfold ar
       simp only [show ¬ ((7:Int)=1 ∨ (7:Int)=2) by decide,show ¬ ((7:Int)=4 ∨ (7:Int)=5) by decide,show ¬ (7:Int)=3 by decide,show ¬ (7:Int)=6 by decide,if_false,if_true]
       rw [if_neg (fun h'=>h ⟨rfl,h'.2⟩)]
      rw [arI,this]
     by_cases hw:wi hi 1 3=true
     · by_cases hv:wi lo 0 hi=true
       · have hfin:R=1:=by
          rw [HR.out]
          have h1:=wi_iff.1 hw
          have h2:=wi_iff.1 hv
          simp [arI,ar,h1,h2]
         clear HR hno
         subst hfin
         go_enter Try.func67,Try.ntmps67
         go_wp2_with (refine (l1In_any _ _ _ _).mono ?_;rintro e w' ⟨rfl,rfl⟩)
         go_ret
         exact ⟨rfl,(Below.refl _ _).alloc (Nat.le_refl _) _⟩
       · have hv0:wi lo 0 hi=false:=by simpa using hv
         have hfin:=hno (fun h=>hv (wi_iff.2 ⟨h.2.2.2.1,h.2.2.2.2⟩))
         clear HR hno hv
         subst hfin
         go_enter Try.func67,Try.ntmps67
         go_wp2_with (refine (l1In_any _ _ _ _).mono ?_;rintro e w' ⟨rfl,rfl⟩)
         go_ret
         exact ⟨rfl,(Below.refl _ _).alloc (Nat.le_refl _) _⟩
     · have hw0:wi hi 1 3=false:=by simpa using hw
       have hfin:=hno (fun h=>hw (wi_iff.2 ⟨h.2.1,h.2.2.1⟩))
       clear HR hno hw
       subst hfin
       go_enter Try.func67,Try.ntmps67
       go_wp2_with (refine (l1In_any _ _ _ _).mono ?_;rintro e w' ⟨rfl,rfl⟩)
       go_ret
       exact ⟨rfl,(Below.refl _ _).alloc (Nat.le_refl _) _⟩
   · have hx:(l != 0)=true:=by simpa using hl
     have hfin:R=-1:=by rw [HR.out];simp [arI,ar,hl]
     clear hl HR
     subst hfin
     go_enter Try.func67,Try.ntmps67
     go_wp2
     go_ret
     exact ⟨rfl,(Below.refl _ _).alloc (Nat.le_refl _) _⟩
 · have q1:(k==1)=false:=by simpa using h1
   have q2:(k==2)=false:=by simpa using h2
   have q3:(k==3)=false:=by simpa using h3
   have q4:(k==4)=false:=by simpa using h4
   have q5:(k==5)=false:=by simpa using h5
   have q6:(k==6)=false:=by simpa using h6
   have q7:(k==7)=false:=by simpa using h7
   have hfin:R=-1:=by rw [HR.out];simp [arI,ar,h1,h2,h3,h4,h5,h6,h7]
   clear HR h1 h2 h3 h4 h5 h6 h7
   subst hfin
   go_enter Try.func67,Try.ntmps67
   go_wp2
   go_ret
   exact ⟨rfl,(Below.refl _ _).alloc (Nat.le_refl _) _⟩
theorem parse_fail {l:List Tok} {i:Nat} (h:parseTo l i=none):∀ {j:Nat},i<=j->parseTo l j=none
 | 0,hj=>by obtain rfl:i=0:=by omega
            exact h
 | j+1,hj=>by
   rcases Nat.eq_or_lt_of_le hj with rfl | hl
   · exact h
   · rw [parseTo,parse_fail h (j:=j) (by omega)]
theorem parse_step {l:List Tok} {i:Nat} {st:List Tr} {t:Tok} (h:parseTo l i=some st) (ht:l[i]?=some t):parseTo l (i+1)=push st t:=by
 rw [parseTo,h,ht]
theorem treeL_no {l:List Tok} {i:Nat} (h:parseTo l i=none) (hi:i<=l.length):(treeL l).isSome=false:=by
 rw [treeL,parse_fail h hi];rfl
theorem treeL_end {l:List Tok} {st:List Tr} (h:parseTo l l.length=some st):(treeL l).isSome=decide (st.length=1):=by
 rw [treeL,h]
 match st with
 | []=>rfl
 | [r]=>rfl
 | _ :: _ :: _=>simp
theorem parse_len {l:List Tok}:∀ {i:Nat} {st:List Tr},parseTo l i=some st->st.length<=i
 | 0,st,h=>by
   simp only [parseTo,Option.some.injEq] at h
   subst h
   simp
 | i+1,st,h=>by
   rw [parseTo] at h
   cases hp:parseTo l i with
   | none=>rw [hp] at h;cases h
   | some st0 =>
     rw [hp] at h
     cases ht:l[i]? with
     | none=>rw [ht] at h;cases h
     | some t =>
       rw [ht] at h
       have h1:=push_len h
       have h2:=parse_len hp
       omega
/-- an expression: at most 24 tokens that are one tree -/
def okE (l:List Tok):Bool:=decide (l.length<=24) && (treeL l).isSome
set_option maxHeartbeats 4000000 in
theorem isExpr_any (ss:Value) (l:List Tok) (w:World) (hv:SlE w cEd 4 ss l) :
 Calls Try.prog 65 #[.agg #[ss]] w fun e w'=>e=.returned (.bool (treeL l).isSome)/\Below w.heap.size w w':=by
 obtain ⟨A,c,rfl,hl,hm,hx⟩:=hv
 unfold maxLen at hm
 have HX:=Hd_ hx
 obtain ⟨n,hn⟩:∃ n,n=l.length:=⟨_,rfl⟩
 obtain ⟨R,hR⟩:∃ R,R=(treeL l).isSome:=⟨_,rfl⟩
 rw [<- hR,<- hn]
 rw [<- hn] at hl
 have HN:=Hd_ hn
 have HR:=Hd_ hR
 clear hx hn hR
 have hb0:Below w.heap.size w (w.alloc (.cells #[.slice A n c] 76)):=(Below.refl _ _).alloc (Nat.le_refl _) _
 have bk:=Blk.new w 76 #[.slice A n c] _ rfl
 go_enter Try.func65,Try.ntmps65
 go_wp2
 go_loopw [3,4] (fun dd ii wr=>∃ (i:Nat) (st:List Tr),i<=n/\parseTo l i=some st/\dd=.int .i64 (st.length:Int)/\ii=.int .i64 (i:Int)/\Below w.heap.size w wr/\Blk wr w.heap.size 76 #[.slice A n c]) (fun _ ii _=>n - (intOf ii).toNat)
 case atStart=>exact ⟨0,[],Nat.zero_le _,rfl,rfl,rfl,hb0,bk⟩
 case round =>
  obtain ⟨i,st,hi,hp,rfl,rfl,hb,hbk⟩:=hrel
  have hsl:=parse_len hp
  have HP:=Hd_ hp
  have HB:=Hd_ hb
  have HBK:=Hd_ hbk
  have x0:wr.cell? ⟨w.heap.size,0,none⟩=some (.slice A n c):=hbk.cell 0
  have hlw:=hbk.lt
  clear hp hb hbk hb0 bk
  obtain ⟨d,hd⟩:∃ d,d=st.length:=⟨_,rfl⟩
  rw [<- hd] at hsl ⊢
  have HD:=Hd_ hd
  clear hd
  by_cases hlt:i < n
  · have hxi:l[i]?=some l[i]:=List.getElem?_eq_getElem (by have:=HN.out;omega)
    obtain ⟨q,o,rfl,-,hq,hcc⟩:=HX.out i _ hxi
    generalize l[i]=t at hcc hxi
    have HXI:=Hd_ hxi
    have hbt:=arI_bd t
    have e0:=(HB.out.cell (p:=⟨q,o+i * 4+0,none⟩) hq).trans (hcc 0 _ rfl)
    have e1:=(HB.out.cell (p:=⟨q,o+i * 4+1,none⟩) hq).trans (hcc 1 _ rfl)
    have e2:=(HB.out.cell (p:=⟨q,o+i * 4+2,none⟩) hq).trans (hcc 2 _ rfl)
    have e3:=(HB.out.cell (p:=⟨q,o+i * 4+3,none⟩) hq).trans (hcc 3 _ rfl)
    simp only [Nat.add_zero] at e0
    have hii:(i:Int) < (n:Int):=by omega
    clear hcc hxi
    go_wp2_with fail
    refine (l8Arity_any t _).mono ?_
    rintro e w2 ⟨rfl,hb2⟩
    have HB2:=Hd_ (HB.out.trans (hb2.mono HB.out.size))
    have HBK2:=Hd_ (HBK.out.keep hb2)
    clear e0 e1 e2 e3 x0 hb2
    rcases ar_cases t with ha | ha
    · have hf:=arI_none ha
      rw [hf]
      have hfin:R=false:=by rw [HR.out];exact treeL_no (i:=i+1) (by rw [parse_step HP.out HXI.out];exact push_none (.inl ha)) (by have:=HN.out;omega)
      clear HR ha hf hbt
      subst hfin
      go_wp2_with fail
      go_ret
      exact ⟨rfl,HB2.out⟩
    · obtain ⟨a,haa⟩:∃ a,ar t=some a:=by rcases ha with h | h | h <;> exact ⟨_,h⟩
      have hf:=arI_some haa
      rw [hf] at hbt ⊢
      clear ha hf
      by_cases had:d < a
      · have hfin:R=false:=by rw [HR.out];exact treeL_no (i:=i+1) (by rw [parse_step HP.out HXI.out];exact push_none (.inr ⟨a,haa,by have:=HD.out;omega⟩)) (by have:=HN.out;omega)
        clear HR haa
        subst hfin
        have hdd:(d:Int) < (a:Int):=by omega
        have hd0:decide ((a:Int) < 0)=false:=decide_eq_false (by omega)
        go_wp2_with fail
        go_ret
        exact ⟨rfl,HB2.out⟩
      · obtain ⟨st',hst⟩:=push_some haa (st:=st) (by have:=HD.out;omega)
        have hpl:=push_len hst
        rw [haa] at hpl
        simp only [Option.getD_some] at hpl
        have HST:=Hd_ hst
        have HPL:=Hd_ hpl
        have HAA:=Hd_ haa
        clear hst hpl haa
        have hdd:¬ (d:Int) < (a:Int):=by omega
        have hd0:decide ((a:Int) < 0)=false:=decide_eq_false (by omega)
        go_wp2_with fail
        go_roundw
        case rel =>
         refine ⟨i+1,st',by omega,by rw [parse_step HP.out HXI.out];exact HST.out,?_,by go_num,HB2.out,HBK2.out⟩
         have h1:=HPL.out
         have h2:=HD.out
         congr 1
         omega
        case measure=>simp [intOf];omega
  · have hin:i=n:=by omega
    have hpe:parseTo l l.length=some st:=by have h:=HP.out;rw [hin,HN.out] at h;exact h
    have hfin:R=decide (d=1):=by rw [HR.out,treeL_end hpe,HD.out]
    clear HR hpe
    have hii:¬ (i:Int) < (n:Int):=by omega
    clear hin
    by_cases hd1:d=1
    · have hR1:R=true:=by rw [hfin];simpa using hd1
      clear hfin
      subst hR1 hd1
      go_wp2_with fail
      go_ret
      exact ⟨rfl,HB.out⟩
    · have hR1:R=false:=by rw [hfin];simpa using hd1
      have hdd:((d:Int)==1)=false:=by simp;omega
      clear hfin hd1
      subst hR1
      go_wp2_with fail
      go_ret
      exact ⟨rfl,HB.out⟩
set_option maxHeartbeats 1000000 in
theorem isValidExpr_any (ss:Value) (l:List Tok) (w:World) (hv:SlE w cEd 4 ss l) :
 Calls Try.prog 55 #[.agg #[ss]] w fun e w'=>e=.returned (.bool (okE l))/\Below w.heap.size w w':=by
 have HV:=Hd_ hv
 obtain ⟨A,c,rfl,hl,hm,-⟩:=hv
 unfold maxLen at hm
 obtain ⟨n,hn⟩:∃ n,n=l.length:=⟨_,rfl⟩
 obtain ⟨R,hR⟩:∃ R,R=okE l:=⟨_,rfl⟩
 rw [<- hR]
 rw [<- hn] at hl HV ⊢
 have HR:=Hd_ (show R=(decide (n<=24) && (treeL l).isSome) by rw [hR,okE,hn])
 clear hR hn
 have hb0:Below w.heap.size w (w.alloc (.cells #[.slice A n c] 76)):=(Below.refl _ _).alloc (Nat.le_refl _) _
 have HV0:=Hd_ (HV.out.keep hb0)
 have HB0:=Hd_ hb0
 clear hb0
 by_cases h24:n<=24
 · have hd:decide ((n:Int)<=24)=true:=decide_eq_true (by omega)
   have hfin:R=(treeL l).isSome:=by rw [HR.out,decide_eq_true h24,Bool.true_and]
   clear HR
   go_enter Try.func55,Try.ntmps55
   go_wp2_with fail
   refine (isExpr_any _ l _ HV0.out).mono ?_
   rintro e w2 ⟨rfl,hb2⟩
   rw [<- hfin]
   clear hfin
   go_wp2_with fail
   go_ret
   exact ⟨rfl,below_trans HB0.out hb2⟩
 · have hd:decide ((n:Int)<=24)=false:=decide_eq_false (by omega)
   have hfin:R=false:=by rw [HR.out,decide_eq_false h24,Bool.false_and]
   clear HR h24
   subst hfin
   go_enter Try.func55,Try.ntmps55
   go_wp2_with fail
   go_ret
   exact ⟨rfl,HB0.out⟩
theorem post_ar:∀ {r:Tr},r.ok->∀ t ∈ post r,(ar t).isSome=true
 | .leaf t,h,x,hx=>by
   rw [post,List.mem_singleton] at hx
   rw [hx,show ar t=some 0 from h];rfl
 | .un t a,h,x,hx=>by
   rw [post,List.mem_append,List.mem_singleton] at hx
   rcases hx with hx | rfl
   · exact post_ar h.2 x hx
   · rw [h.1];rfl
 | .bin t a b,h,x,hx=>by
   rw [post,List.mem_append,List.mem_append,List.mem_singleton] at hx
   rcases hx with (hx | hx) | rfl
   · exact post_ar h.2.1 x hx
   · exact post_ar h.2.2 x hx
   · rw [h.1];rfl
theorem net_cons (t:Tok) (l:List Tok):net (t :: l)=net [t]+net l:=net_app [t] l
theorem net_bd (l:List Tok):-(l.length:Int)<=net l/\net l<=l.length:=by
 induction l with
 | nil=>simp [net]
 | cons t l ih =>
   rw [net_cons,net_one,List.length_cons]
   have:=arI_bd t
   rcases ar_cases t with h | h | h | h <;> rw [h] <;> simp <;> omega
set_option maxHeartbeats 4000000 in
theorem l8Start_any (ss:Value) (xs:List Tok) (r:Tr) (w:World) (hv:SlE w cEd 4 ss (xs ++ post r)) (hr:r.ok) (hlen:(xs ++ post r).length<=1048576) :
 Calls Try.prog 58 #[ss] w fun e w'=>e=.returned (.int .i64 (xs.length:Int))/\Below w.heap.size w w':=by
 obtain ⟨A,c,rfl,hl,hm,hx⟩:=hv
 unfold maxLen at hm
 have HX:=Hd_ hx
 obtain ⟨L,hL⟩:∃ L,L=xs ++ post r:=⟨_,rfl⟩
 rw [<- hL] at hl HX hlen ⊢
 obtain ⟨n,hn⟩:∃ n,n=L.length:=⟨_,rfl⟩
 rw [<- hn] at hl hlen ⊢
 obtain ⟨m,hm2⟩:∃ m,m=xs.length:=⟨_,rfl⟩
 rw [<- hm2]
 have hmn:m<=n:=by rw [hm2,hn,hL,List.length_append];omega
 have HN:=Hd_ hn
 have HS:=Hd_ (show ∀ k,m < k->k<=n->0 < 1+net (L.drop k) from fun k h1 h2=>by rw [hL];exact start_need hr (by omega) (by rw [<- hL];omega))
 have HD:=Hd_ (show 1+net (L.drop m)=0 by rw [hL,hm2];exact start_done hr)
 have HA:=Hd_ (show ∀ k t,m<=k->L[k]?=some t->(ar t).isSome=true from fun k t h1 h2=>by
  rw [hL,List.getElem?_append_right (by omega)] at h2
  exact post_ar hr t (List.mem_of_getElem? h2))
 clear hx hn hm2 hL
 go_enter Try.func58,Try.ntmps58
 go_wp2
 go_loopw [3,4] (fun dd ii wr=>∃ (k:Nat) (z:Int),k<=n/\m<=k/\z=1+net (L.drop k)/\dd=.int .i64 z/\ii=.int .i64 (k:Int)/\Below w.heap.size w wr) (fun _ ii _=>(intOf ii).toNat)
 case atStart=>exact ⟨n,1,Nat.le_refl _,hmn,by rw [HN.out,List.drop_length];rfl,rfl,rfl,Below.refl _ _⟩
 case round =>
  obtain ⟨k,z,hk,hmk,hz,rfl,rfl,hb⟩:=hrel
  have HZ:=Hd_ hz
  have HB:=Hd_ hb
  have hzb:-(n:Int)<=z/\z<=n+1:=by
   have h1:=net_bd (L.drop k)
   rw [List.length_drop] at h1
   have:=HN.out
   omega
  clear hz hb
  by_cases hkm:m < k
  · have hz0:0 < z:=by rw [HZ.out];exact HS.out k hkm hk
    obtain ⟨j,rfl⟩:∃ j,k=j+1:=⟨k - 1,by omega⟩
    have hxi:L[j]?=some L[j]:=List.getElem?_eq_getElem (by have:=HN.out;omega)
    obtain ⟨q,o,rfl,-,hq,hcc⟩:=HX.out j _ hxi
    have hat:=HA.out j _ (by omega) hxi
    have hdr:L.drop j=L[j] :: L.drop (j+1):=List.drop_eq_getElem_cons (by have:=HN.out;omega)
    generalize L[j]=t at hcc hxi hat hdr
    have hbt:=arI_bd t
    have hzn:z - 1+arI t=1+net (L.drop j):=by
     rw [hdr,net_cons,net_one,HZ.out]
     obtain ⟨a,ha⟩:=Option.isSome_iff_exists.1 hat
     rw [arI_some ha,ha,Option.getD_some]
     omega
    have HZN:=Hd_ hzn
    have e0:=(HB.out.cell (p:=⟨q,o+j * 4+0,none⟩) hq).trans (hcc 0 _ rfl)
    have e1:=(HB.out.cell (p:=⟨q,o+j * 4+1,none⟩) hq).trans (hcc 1 _ rfl)
    have e2:=(HB.out.cell (p:=⟨q,o+j * 4+2,none⟩) hq).trans (hcc 2 _ rfl)
    have e3:=(HB.out.cell (p:=⟨q,o+j * 4+3,none⟩) hq).trans (hcc 3 _ rfl)
    simp only [Nat.add_zero] at e0
    have hjn:(j:Int) < (n:Int):=by omega
    clear hcc hxi hzn hat hdr
    go_wp2_with fail
    refine (l8Arity_any t _).mono ?_
    rintro e w2 ⟨rfl,hb2⟩
    have HB2:=Hd_ (HB.out.trans (hb2.mono HB.out.size))
    clear e0 e1 e2 e3 hb2
    generalize arI t=at_ at *
    go_wp2_with fail
    go_roundw
    case rel=>exact ⟨j,z - 1+at_,by omega,by omega,HZN.out,rfl,rfl,HB2.out⟩
    case measure=>simp [intOf]
  · obtain rfl:k=m:=by omega
    have hz0:z=0:=by rw [HZ.out];exact HD.out
    clear HZ
    subst hz0
    go_wp2_with fail
    go_ret
    exact ⟨rfl,HB.out⟩
end Go.Proofs.Ythnapjodmndlaaa
namespace Go.Proofs.Ythnapjodmndlaaa
def mem (n m:Nat):List Nat:=(List.range n).filter m.testBit
theorem mem_zero (m:Nat):mem 0 m=[]:=rfl
theorem mem_succ (n m:Nat):mem (n+1) m=mem n m ++ (if m.testBit n=true then [n] else []):=by
 unfold mem
 rw [List.range_succ,List.filter_append]
 congr 1
 cases h:m.testBit n <;> simp [h]
theorem mem_yes {n m:Nat} (h:m.testBit n=true):mem (n+1) m=mem n m ++ [n]:=by rw [mem_succ,if_pos h]
theorem mem_no {n m:Nat} (h:m.testBit n=false):mem (n+1) m=mem n m:=by rw [mem_succ,if_neg (by simp [h]),List.append_nil]
theorem mem_mem {n m t:Nat}:t ∈ mem n m ↔ t < n/\m.testBit t=true:=by simp [mem]
theorem mem_stop {i n m:Nat} (h:m < 2 ^ i) (hn:i<=n):mem n m=mem i m:=by
 induction n with
 | zero =>
   have:i=0:=by omega
   subst this;rfl
 | succ n ih =>
   by_cases h1:i<=n
   · rw [mem_no (Nat.testBit_lt_two_pow (Nat.lt_of_lt_of_le h (Nat.pow_le_pow_right (by omega) h1))),ih h1]
   · have:i=n+1:=by omega
     subst this;rfl
theorem mem_len (n m:Nat):(mem n m).length<=n:=by
 have:=List.length_filter_le m.testBit (List.range n)
 rw [List.length_range] at this
 exact this
/-- {s}, and m with s put in: plain names, so that a walk leaves them alone -/
def bit (s:Nat):Nat:=2 ^ s
def ins (m s:Nat):Nat:=m ||| 2 ^ s
theorem ins_test (m s t:Nat):(ins m s).testBit t=(m.testBit t || decide (s=t)):=by rw [ins,Nat.testBit_or,Nat.testBit_two_pow]
theorem bit_lt {n s:Nat} (h:s < n):bit s < 2 ^ n:=Nat.pow_lt_pow_right (by omega) h
def mv (a:Au) (s l:Nat):Int:=(a.next.getD s []).getD l (-1)
theorem mv_of {a:Au} {s l:Nat} {row:List Int} {t:Int} (hr:a.next[s]?=some row) (ht:row[l]?=some t):mv a s l=t:=by
 simp [mv,List.getD,hr,ht]
/-- what the loop 'while s is a state that is not in the set' gathers -/
def clsF (a:Au) (l:Nat):Nat->Int->Nat->Nat
 | 0,_,m=>m
 | f+1,s,m=>if 0<=s/\m.testBit s.toNat=false then clsF a l f (mv a s.toNat l) (ins m s.toNat) else m
def cls (a:Au) (v s:Nat):Nat:=clsF a (6+v) 13 s 0
def accC (a:Au) (v s:Nat):Bool:=(mem 12 (cls a v s)).any fun t=>a.accept.getD t false
def acc (a:Au) (set v:Nat):Bool:=(mem 12 set).any (accC a v)
def relax (d:Int):List Nat->List Int->List Nat->List Int × List Nat
 | [],D,q=>(D,q)
 | k :: l,D,q=>if D.getD k 0 < 0 then relax d l (D.set k d) (q ++ [k]) else relax d l D q
def negs (D:List Int):Nat:=D.countP (fun x=>decide (x < 0))
theorem negs_set {D:List Int} {k:Nat} {d:Int} (hk:k < D.length) (hn:D.getD k 0 < 0) (hd:0<=d):negs (D.set k d)+1=negs D:=by
 induction D generalizing k with
 | nil=>simp at hk
 | cons x D ih =>
   cases k with
   | zero =>
     simp only [List.getD_cons_zero] at hn
     have:¬ d < 0:=by omega
     simp [negs,List.countP_cons,hn,this]
   | succ k =>
     have:=ih (k:=k) (by simpa using hk) (by simpa using hn)
     simp only [negs,List.set_cons_succ,List.countP_cons] at this ⊢
     omega
/-- what holds of distances D and a queue q, with f rounds left of F -/
structure BfsI (N F f:Nat) (D:List Int) (q:List Nat):Prop where
 len:D.length=N
 queue:∀ h ∈ q,h < N/\0<=D.getD h 0
 fuel:q.length+negs D<=f
 top:∀ h,D.getD h 0+(f:Int)<=F
 low:∀ h,-1<=D.getD h 0
 fF:f<=F
theorem getD_set' {D:List Int} {k h:Nat} {d:Int} (hk:k < D.length):(D.set k d).getD h 0=if h=k then d else D.getD h 0:=by
 simp only [List.getD,List.getElem?_set]
 by_cases hh:h=k
 · subst hh;simp [hk]
 · simp [hh,Ne.symm hh]
theorem BfsI.new {N F f:Nat} {D:List Int} {q:List Nat} {k:Nat} {d:Int} (h:BfsI N F f D q) (hk:k < N) (hn:D.getD k 0 < 0) (hd:0<=d) (hdF:d+(f:Int)<=F):BfsI N F f (D.set k d) (q ++ [k]):=by
 have hkl:k < D.length:=by rw [h.len];exact hk
 refine ⟨by rw [List.length_set];exact h.len,fun x hx=>?_,?_,fun x=>?_,fun x=>?_,h.fF⟩
 · rw [getD_set' hkl]
   rcases List.mem_append.1 hx with hx | hx
   · have:=h.queue x hx
     split
     · exact ⟨this.1,hd⟩
     · exact this
   · have:x=k:=by simpa using hx
     subst this
     simp [hk,hd]
 · have:=negs_set hkl hn hd
   have:=h.fuel
   rw [List.length_append,List.length_singleton]
   omega
 · rw [getD_set' hkl]
   have:=h.top x
   split <;> omega
 · rw [getD_set' hkl]
   have:=h.low x
   split <;> omega
end Go.Proofs.Ythnapjodmndlaaa
namespace Go.Proofs.Ythnapjodmndlaaa
open Go.ChangeShapes Go.WideShapes Go.ChangeAt Go.RowKit
/-- slice value v, of n elements, at A with capacity c; element i (k cells E x) lies in a block below H -/
structure SlC {α:Type} (H:Nat) (w:World) (E:α->List Value) (k:Nat) (A:Option Addr) (xs:List α):Prop where
 at_:∀ i x,xs[i]?=some x->∃ b o,A=some ⟨b,o,none⟩/\b < H/\∀ j u,(E x)[j]?=some u->w.cell? ⟨b,o+i * k+j,none⟩=some u
theorem SlE.form {α:Type} {w:World} {E:α->List Value} {k:Nat} {v:Value} {xs:List α} (h:SlE w E k v xs) :
 ∃ A c,v=.slice A xs.length c/\xs.length<=c/\c<=9223372036854775807/\SlC w.heap.size w E k A xs:=by
 obtain ⟨A,c,rfl,h1,h2,h3⟩:=h
 exact ⟨A,c,rfl,h1,by simpa [maxLen] using h2,⟨fun i x hx=>by obtain ⟨b,o,e,_,g,h⟩:=h3 i x hx;exact ⟨b,o,e,g,h⟩⟩⟩
theorem SlC.keep {α:Type} {w w':World} {E:α->List Value} {k:Nat} {A:Option Addr} {xs:List α} (h:SlC w.heap.size w E k A xs) (hb:Below w.heap.size w w'):SlC w'.heap.size w' E k A xs :=
 ⟨fun i x hx=>by obtain ⟨b,o,e,g,h⟩:=h.at_ i x hx;exact ⟨b,o,e,Nat.lt_of_lt_of_le g hb.size,fun j u hu=>(hb.cell (p:=⟨_,_,none⟩) g).trans (h j u hu)⟩⟩
/-- an int, a bool: one cell -/
theorem SlC.int {H:Nat} {w:World} {A:Option Addr} {xs:List Int} (h:SlC H w cI 1 A xs) {i:Nat} {x:Int} (hx:xs[i]?=some x):∃ b o,A=some ⟨b,o,none⟩/\b < H/\w.cell? ⟨b,o+i,none⟩=some (.int .i64 x):=by
 obtain ⟨b,o,e,g,h⟩:=h.at_ i x hx
 exact ⟨b,o,e,g,by simpa using h 0 _ rfl⟩
theorem SlC.bool {H:Nat} {w:World} {A:Option Addr} {xs:List Bool} (h:SlC H w cB 1 A xs) {i:Nat} {x:Bool} (hx:xs[i]?=some x):∃ b o,A=some ⟨b,o,none⟩/\b < H/\w.cell? ⟨b,o+i,none⟩=some (.bool x):=by
 obtain ⟨b,o,e,g,h⟩:=h.at_ i x hx
 exact ⟨b,o,e,g,by simpa using h 0 _ rfl⟩
theorem SlC.val {H:Nat} {w:World} {A:Option Addr} {xs:List Value} (h:SlC H w cV 1 A xs) {i:Nat} {x:Value} (hx:xs[i]?=some x):∃ b o,A=some ⟨b,o,none⟩/\b < H/\w.cell? ⟨b,o+i,none⟩=some x:=by
 obtain ⟨b,o,e,g,h⟩:=h.at_ i x hx
 exact ⟨b,o,e,g,by simpa using h 0 _ rfl⟩
theorem SlC.st {H:Nat} {w:World} {A:Option Addr} {xs:List St} (h:SlC H w cSt 2 A xs) {i:Nat} {e:St} (hx:xs[i]?=some e) :
 ∃ b o,A=some ⟨b,o,none⟩/\b < H/\w.cell? ⟨b,o+i * 2,none⟩=some (.int .i64 e.1)/\w.cell? ⟨b,o+i * 2+1,none⟩=some (.bool e.2):=by
 obtain ⟨b,o,e,g,h⟩:=h.at_ i e hx
 exact ⟨b,o,e,g,by simpa using h 0 _ rfl,h 1 _ rfl⟩
/-- a valid automaton: the rows lie at A2, each of nine cells -/
structure AuC (w:World) (A1 A2:Option Addr) (a:Au):Prop where
 acc:SlC w.heap.size w cB 1 A1 a.accept
 row:∀ i,i < a.accept.length->∃ b o b3 o3 c3,A2=some ⟨b,o,none⟩/\b < w.heap.size/\w.cell? ⟨b,o+i,none⟩=some (.slice (some ⟨b3,o3,none⟩) 9 c3)/\9<=c3/\c3<=9223372036854775807/\b3 < w.heap.size/\∀ l,l < 9->w.cell? ⟨b3,o3+l,none⟩=some (.int .i64 (mv a i l))
theorem AuV.form {w:World} {v:Value} {a:Au} (h:AuV 0 w.heap.size w v a) (hok:auOk a=true) :
 ∃ A1 c1 A2 c2,v=.agg #[.int .i64 a.start,.slice A1 a.accept.length c1,.slice A2 a.accept.length c2]/\a.accept.length<=c1/\c1<=9223372036854775807/\a.accept.length<=c2/\c2<=9223372036854775807/\AuC w A1 A2 a:=by
 obtain ⟨⟨-,-⟩,-,hnl,hrk⟩:=auOk_iff.1 hok
 obtain ⟨ac,nx,rfl,h1,us,h2,hul,hrows⟩:=h
 obtain ⟨A1,c1,rfl,h3,h4,h5⟩:=SlE.form h1
 obtain ⟨A2,c2,rfl,h6,h7,h8⟩:=SlE.form h2
 rw [hul,hnl] at h6 ⊢
 refine ⟨A1,c1,A2,c2,rfl,h3,h4,h6,h7,h5,fun i hi=>?_⟩
 have hin:i < a.next.length:=by omega
 have hiu:i < us.length:=by omega
 have hxi:a.next[i]?=some a.next[i]:=List.getElem?_eq_getElem hin
 obtain ⟨b,o,rfl,hb,hc⟩:=h8.val (List.getElem?_eq_getElem hiu)
 have hrl:=(rowOk_iff.1 (hrk _ (List.getElem_mem hin))).2
 obtain ⟨A3,c3,hv3,h9,h10,h11⟩:=SlE.form (hrows i us[i] _ (List.getElem?_eq_getElem hiu) hxi)
 rw [hrl] at hv3 h9
 obtain ⟨b3,o3,rfl,hb3,-⟩:=h11.int (i:=0) (List.getElem?_eq_getElem (by omega))
 refine ⟨b,o,b3,o3,c3,rfl,hb,by rw [hc,hv3],h9,h10,hb3,fun l hl=>?_⟩
 have hti:a.next[i][l]?=some a.next[i][l]:=List.getElem?_eq_getElem (by omega)
 obtain ⟨b4,o4,he,hb4,hc4⟩:=h11.int hti
 simp only [Option.some.injEq,Addr.mk.injEq,and_true] at he
 obtain ⟨rfl,rfl⟩:=he
 rw [hc4,mv_of hxi hti]
theorem AuC.keep {w w':World} {A1 A2:Option Addr} {a:Au} (h:AuC w A1 A2 a) (hb:Below w.heap.size w w'):AuC w' A1 A2 a:=by
 refine ⟨h.acc.keep hb,fun i hi=>?_⟩
 obtain ⟨b,o,b3,o3,c3,e,h1,h2,h3,h4,h5,h6⟩:=h.row i hi
 exact ⟨b,o,b3,o3,c3,e,Nat.lt_of_lt_of_le h1 hb.size,(hb.cell (p:=⟨_,_,none⟩) h1).trans h2,h3,h4,Nat.lt_of_lt_of_le h5 hb.size,fun l hl=>(hb.cell (p:=⟨_,_,none⟩) h5).trans (h6 l hl)⟩
/-- a graph: values at A1, edges at A2 -/
theorem GrV.form {w:World} {v:Value} {g:Gr} (h:GrV 0 w.heap.size w v g) :
 ∃ A1 c1 A2 c2,v=.agg #[.slice A1 g.vals.length c1,.slice A2 g.edges.length c2]/\g.vals.length<=c1/\c1<=9223372036854775807/\g.edges.length<=c2/\c2<=9223372036854775807/\SlC w.heap.size w cI 1 A1 g.vals/\SlC w.heap.size w cEd 4 A2 g.edges:=by
 obtain ⟨vs,es,rfl,h1,h2⟩:=h
 obtain ⟨A1,c1,rfl,h3,h4,h5⟩:=SlE.form h1
 obtain ⟨A2,c2,rfl,h6,h7,h8⟩:=SlE.form h2
 exact ⟨A1,c1,A2,c2,rfl,h3,h4,h6,h7,h5,h8⟩
theorem WkV.form {w:World} {v:Value} {k:Wk} (h:WkV 0 w.heap.size w v k) :
 ∃ A1 c1,v=.agg #[.int .i64 k.1,.slice A1 k.2.length c1]/\k.2.length<=c1/\c1<=9223372036854775807/\SlC w.heap.size w cSt 2 A1 k.2:=by
 obtain ⟨ss,rfl,h1⟩:=h
 obtain ⟨A1,c1,rfl,h3,h4,h5⟩:=SlE.form h1
 exact ⟨A1,c1,rfl,h3,h4,h5⟩
theorem wrap_small {n:Int} (h0:0<=n) (h1:n < 9223372036854775808):IntKind.i64.wrap n=n:=by rw [IntKind.wrap_i64];omega
theorem i64_and_nat (a b:Nat) (ha:a < 2 ^ 62) (hb:b < 2 ^ 62):bits .and .i64 (a:Int) (b:Int)=((a &&& b:Nat):Int) :=
 (bits_nat .i64 62 (by decide) (fun n h0 h1=>wrap_small h0 (by omega)) a b ha hb).1
theorem i64_or_nat (a b:Nat) (ha:a < 2 ^ 62) (hb:b < 2 ^ 62):bits .or .i64 (a:Int) (b:Int)=((a ||| b:Nat):Int) :=
 (bits_nat .i64 62 (by decide) (fun n h0 h1=>wrap_small h0 (by omega)) a b ha hb).2
theorem shr_nat (m s:Nat) (_:s<=64):(m:Int) / 2 ^ s=((m / 2 ^ s:Nat):Int):=by
 simp
theorem shl_bit2 {s:Nat} (hs:s < 62):IntKind.i64.wrap (2 ^ s)=(bit s:Int):=by
 have h1:(2:Int) ^ s=((2 ^ s:Nat):Int):=by simp
 have h2:2 ^ s < 2 ^ 62:=Nat.pow_lt_pow_right (by omega) hs
 rw [h1]
 show _=((2 ^ s:Nat):Int)
 generalize 2 ^ s=k at h2 ⊢
 exact IntWalk.i64_in _ (by omega)
theorem shl_bit3 {s:Nat} (hs:s < 62):IntKind.i64.wrap (2 ^ min s 64)=(bit s:Int):=by rw [Nat.min_eq_left (by omega)];exact shl_bit2 hs
/-- m | 1 << s -/
theorem or_ins {m s:Nat} (hm:m < 2 ^ 62) (hs:s < 62):bits .or .i64 (m:Int) (bit s:Int)=(ins m s:Int) :=
 i64_or_nat m (bit s) hm (bit_lt hs)
/-- m >> s & 1 -/
theorem and_bit {m s:Nat} (hm:m < 2 ^ 62) (hs:s<=64):bits .and .i64 ((m:Int) / 2 ^ s) 1=if m.testBit s=true then 1 else 0:=by
 have h1:m / 2 ^ s < 2 ^ 62:=Nat.lt_of_le_of_lt (Nat.div_le_self _ _) hm
 rw [shr_nat m s hs,show (1:Int)=((1:Nat):Int) by rfl,i64_and_nat _ _ h1 (by decide),nat_mask1,Nat.testBit_eq_decide_div_mod_eq]
 have h2:=Nat.mod_two_eq_zero_or_one (m / 2 ^ s)
 rcases h2 with h2 | h2 <;> simp [h2]
theorem bit_on {m s:Nat} (hm:m < 2 ^ 62) (hs:s<=64) (h:m.testBit s=true):bits .and .i64 ((m:Int) / 2 ^ s) 1=1:=by rw [and_bit hm hs,if_pos h]
theorem bit_off {m s:Nat} (hm:m < 2 ^ 62) (hs:s<=64) (h:m.testBit s=false):bits .and .i64 ((m:Int) / 2 ^ s) 1=0:=by rw [and_bit hm hs,if_neg (by simp [h])]
/-- m >> i != 0 -/
theorem shr_on {m i:Nat} (hi:i<=64) (h:2 ^ i<=m):((m:Int) / 2 ^ i != 0)=true:=by
 rw [shr_nat m i hi]
 have:0 < m / 2 ^ i:=Nat.div_pos h (Nat.two_pow_pos _)
 simp only [bne_iff_ne,ne_eq];omega
theorem shr_off {m i:Nat} (hi:i<=64) (h:m < 2 ^ i):((m:Int) / 2 ^ i != 0)=false:=by
 rw [shr_nat m i hi,Nat.div_eq_of_lt h];rfl
/-- a natural number as one cell -/
def cN (x:Nat):List Value:=[.int .i64 (x:Int)]
theorem cN_len (x:Nat):(cN x).length=1:=rfl
theorem cN_one (x:Nat):∀ u ∈ cN x,u.oneCell'=true:=by intro u hu;simp only [cN,List.mem_cons,List.not_mem_nil,or_false] at hu;subst hu;rfl
theorem SlC.nat {H:Nat} {w:World} {A:Option Addr} {xs:List Nat} (h:SlC H w cN 1 A xs) {i:Nat} {x:Nat} (hx:xs[i]?=some x):∃ b o,A=some ⟨b,o,none⟩/\b < H/\w.cell? ⟨b,o+i,none⟩=some (.int .i64 (x:Int)):=by
 obtain ⟨b,o,e,g,h⟩:=h.at_ i x hx
 exact ⟨b,o,e,g,by simpa using h 0 _ rfl⟩
theorem Own.form {α:Type} {lo:Nat} {w:World} {e:TypeId} {E:α->List Value} {k:Nat} {v:Value} {xs:List α} (h:Own lo w.heap.size w e E k v xs) (hE:∀ x,(E x).length=k) :
 ∃ A c,v=.slice A xs.length c/\xs.length<=c/\c<=9223372036854775807/\SlC w.heap.size w E k A xs:=SlE.form ((h.sl hE).all (Nat.le_refl _))
section
variable {α:Type} {w w':World} {base:Nat} {oT rT e:TypeId} {E:α->List Value} {k:Nat} {g:Nat} {hs:List Value} {xss:List (List α)} {v:Value} {n:Nat} {cs:List Value}
theorem ownsRow_block (h:w.ownsRow base e k v n cs) (hb:∀ g,v.ownBlock=some g->w'.heap[g]?=w.heap[g]?):w'.ownsRow base e k v n cs:=by
 obtain ⟨hl,h⟩:=h
 refine ⟨hl,?_⟩
 rcases h with h | ⟨g,cap,cur,rfl,hg,hh,r⟩
 · exact .inl h
 · exact .inr ⟨g,cap,cur,rfl,hg,(hb g rfl).trans hh,r⟩
theorem ownsRow_mono (h:w.ownsRow base e k v n cs) {b:Nat} (hb:b<=base):w.ownsRow b e k v n cs:=by
 obtain ⟨hl,h⟩:=h
 refine ⟨hl,?_⟩
 rcases h with h | ⟨g,cap,cur,rfl,hg,r⟩
 · exact .inl h
 · exact .inr ⟨g,cap,cur,rfl,by omega,r⟩
structure Rws {α:Type} (w:World) (base:Nat) (oT rT:TypeId) (E:α->List Value) (k:Nat) (g:Nat) (hs:List Value) (xss:List (List α)):Prop where
 own:w.ownsRow g oT 1 (.slice (some ⟨g,0,none⟩) hs.length hs.length) hs.length hs
 len:hs.length=xss.length
 row:∀ (i:Nat) (h:Value) (xs:List α),hs[i]?=some h->xss[i]?=some xs->w.ownsRow base rT k h xs.length (xs.flatMap E)
 far:∀ (i:Nat) (h:Value),hs[i]?=some h->h.ownBlock ≠ some g
 apart:∀ (i j:Nat) (h h':Value),i ≠ j->hs[i]?=some h->hs[j]?=some h'->h.ownBlock=none ∨ h.ownBlock ≠ h'.ownBlock
theorem Rws.blocks (h:Rws w base oT rT E k g hs xss) (hb:∀ b,(b=g ∨ base<=b)->b < w.heap.size->w'.heap[b]?=w.heap[b]?):Rws w' base oT rT E k g hs xss:=by
 refine ⟨ownsRow_block h.own fun b hb'=>hb b (.inl (by simpa [Value.ownBlock] using hb'.symm)) (h.own.lt b hb').2,h.len,fun i v xs hi hx=>?_,h.far,h.apart⟩
 have:=h.row i v xs hi hx
 exact ownsRow_block this fun b hb'=>hb b (.inr (this.lt b hb').1) (this.lt b hb').2
theorem Rws.below (h:Rws w base oT rT E k g hs xss) (hb:Below w.heap.size w w'):Rws w' base oT rT E k g hs xss:=h.blocks fun b _ hlt=>hb.block b hlt
theorem Rws.gLt (h:Rws w base oT rT E k g hs xss):g<=g/\g < w.heap.size:=h.own.lt g rfl
theorem Rws.cell (h:Rws w base oT rT E k g hs xss) {i:Nat} {v:Value} (hi:hs[i]?=some v):w.cell? ⟨g,i,none⟩=some v :=
 (World.ownsRow.cellAt h.own i (by have:=(List.getElem?_eq_some_iff.1 hi).1;omega)).trans hi
theorem Rws.frozen (h:Rws w base oT rT E k g hs xss) (i:Nat):w.frozen? ⟨g,i,none⟩=false:=World.ownsRow.frozenAt h.own i
theorem Rws.made (h:w.ownsRow g oT 1 (.slice (some ⟨g,0,none⟩) n n) n ((List.replicate n (Value.slice none 0 0)).flatMap cV)):Rws w base oT rT E k g (List.replicate n (.slice none 0 0)) (List.replicate n ([]:List α)):=by
 have hf:∀ n,(List.replicate n (Value.slice none 0 0)).flatMap cV=List.replicate n (.slice none 0 0):=by
  intro n
  induction n with
  | zero=>rfl
  | succ n ih=>rw [List.replicate_succ,List.flatMap_cons,ih];rfl
 have hv:∀ {i:Nat} {h:Value},(List.replicate n (Value.slice none 0 0))[i]?=some h->h=.slice none 0 0:=by
  intro i h hi
  rw [List.getElem?_replicate] at hi
  split at hi
  · injection hi with hi;exact hi.symm
  · cases hi
 rw [hf] at h
 refine ⟨by simpa using h,by simp,fun i h xs hi hx=>?_,fun i h hi=>?_,fun i j h h' _ hi _=>.inl ?_⟩
 · have:=hv hi
   subst this
   have hx':xs=[]:=by
    rw [List.getElem?_replicate] at hx
    split at hx
    · injection hx with hx;exact hx.symm
    · cases hx
   subst hx'
   exact World.ownsRow_nil w base rT k
 · have:=hv hi
   subst this
   simp [Value.ownBlock]
 · have:=hv hi
   subst this
   rfl
/-- row i grows by x: the append law's words, then the store of the new header -/
theorem Rws.push (h:Rws w base oT rT E k g hs xss) {i:Nat} {hv:Value} {xs:List α} {x:α} {v':Value} {g2:Nat} (hi:hs[i]?=some hv) (hx:xss[i]?=some xs)
 (hown:w'.ownsRow base rT k v' (xs ++ [x]).length ((xs ++ [x]).flatMap E)) (hg:w.grownBy w' hv.ownBlock) (hv':v'.ownBlock=some g2) (hat:hv.ownBlock=some g2 ∨ w.heap.size<=g2) :
 Rws (w'.setCell ⟨g,i,none⟩ v') base oT rT E k g (hs.set i v') (xss.set i (xs ++ [x])):=by
 have hgl:=h.gLt
 have hil:=(List.getElem?_eq_some_iff.1 hi).1
 have hfar:=h.far i hv hi
 have hg2:g2 ≠ g:=by
  rcases hat with h1 | h1
  · intro e;subst e;exact hfar h1
  · omega
 have hset:∀ b,b ≠ g->(w'.setCell ⟨g,i,none⟩ v').heap[b]?=w'.heap[b]?:=fun b hb=>Below.heap_setCell _ _ _ _ hb
 have ho1:w'.ownsRow g oT 1 (.slice (some ⟨g,0,none⟩) hs.length hs.length) hs.length hs:=h.own.kept hg (.inr (by simpa [Value.ownBlock] using Ne.symm hfar))
 have ho2:=(World.ownsRow.stored ho1 i v').1
 refine ⟨by simpa using ho2,by simp [h.len],fun j u ys hj hy=>?_,fun j u hj=>?_,fun j l u u' hjl hj hl=>?_⟩
 · rw [List.getElem?_set] at hj hy
   by_cases e:i=j
   · subst e
     rw [if_pos rfl] at hj hy
     rw [if_pos hil] at hj
     rw [if_pos (by rw [<- h.len];exact hil)] at hy
     injection hj with hj
     injection hy with hy
     subst hj hy
     exact ownsRow_block hown fun b hb=>hset b (by rw [hv'] at hb;injection hb with hb;omega)
   · rw [if_neg e] at hj hy
     have hr:=h.row j u ys hj hy
     have hr2:w'.ownsRow base rT k u ys.length (ys.flatMap E):=hr.kept hg (h.apart j i u hv (Ne.symm e) hj hi)
     exact ownsRow_block hr2 fun b hb=>hset b (by intro e2;subst e2;exact h.far j u hj hb)
 · rw [List.getElem?_set] at hj
   by_cases e:i=j
   · subst e
     rw [if_pos rfl,if_pos hil] at hj
     injection hj with hj
     subst hj
     rw [hv']
     simpa using hg2
   · rw [if_neg e] at hj
     exact h.far j u hj
 · have hold:∀ (j:Nat) (u:Value),j ≠ i->hs[j]?=some u->u.ownBlock=none ∨ u.ownBlock ≠ some g2:=by
    intro j u hji hj
    rcases hat with h1 | h1
    · rcases h.apart j i u hv hji hj hi with h2 | h2
      · exact .inl h2
      · rw [h1] at h2;exact .inr h2
    · cases hu:u.ownBlock with
      | none=>exact .inl rfl
      | some b =>
        refine .inr ?_
        have hjl:=(List.getElem?_eq_some_iff.1 hj).1
        have hjx:j < xss.length:=by rw [<- h.len];exact hjl
        have hr:=h.row j u xss[j] hj (List.getElem?_eq_getElem hjx)
        have:=(hr.lt b hu).2
        simp only [ne_eq,Option.some.injEq]
        omega
   rw [List.getElem?_set] at hj hl
   by_cases e:i=j
   · subst e
     rw [if_neg hjl] at hl
     rw [if_pos rfl,if_pos hil] at hj
     injection hj with hj
     subst hj
     refine .inr ?_
     rw [hv']
     rcases hold l u' (Ne.symm hjl) hl with h1 | h1
     · rw [h1];simp
     · exact Ne.symm h1
   · rw [if_neg e] at hj
     by_cases e2:i=l
     · subst e2
       rw [if_pos rfl,if_pos hil] at hl
       injection hl with hl
       subst hl
       rw [hv']
       exact hold j u (Ne.symm e) hj
     · rw [if_neg e2] at hl
       exact h.apart j l u u' hjl hj hl
/-- a slice of slices of E's that is only read; its blocks lie from lo to hi -/
def SSE {α:Type} (lo hi:Nat) (w:World) (E:α->List Value) (k:Nat) (v:Value) (xss:List (List α)):Prop :=
 ∃ A c,v=.slice A xss.length c/\xss.length<=c/\c<=9223372036854775807 /\
   ∀ (i:Nat) (xs:List α),xss[i]?=some xs->∃ b o u,A=some ⟨b,o,none⟩/\lo<=b/\b < hi/\w.cell? ⟨b,o+i,none⟩=some u/\SlI lo hi w E k u xs
theorem SSE.keep_ {lo hi:Nat} {v:Value} (h:SSE lo hi w E k v xss) (hb:∀ b o,lo<=b->b < hi->w'.cell? ⟨b,o,none⟩=w.cell? ⟨b,o,none⟩):SSE lo hi w' E k v xss:=by
 obtain ⟨A,c,h1,h2,h3,h4⟩:=h
 refine ⟨A,c,h1,h2,h3,fun i xs hx=>?_⟩
 obtain ⟨b,o,u,g1,g2,g3,g4,g5⟩:=h4 i xs hx
 exact ⟨b,o,u,g1,g2,g3,(hb _ _ g2 g3).trans g4,g5.keep_ hb⟩
theorem SSE.below {lo hi:Nat} {v:Value} (h:SSE lo hi w E k v xss) {B:Nat} (hb:Below B w w') (hB:hi<=B):SSE lo hi w' E k v xss:=h.keep_ fun b o _ h2=>hb.cell (p:=⟨b,o,none⟩) (show b < B by omega)
theorem SSE.only {lo hi l r:Nat} {v:Value} (h:SSE lo hi w E k v xss) (hb:Only l r w w') (hh:hi<=w.heap.size) (ho:hi<=l ∨ r<=lo):SSE lo hi w' E k v xss :=
 h.keep_ fun b o h1 h2=>hb.cell (p:=⟨b,o,none⟩) (show b < _ by omega) (show b < l ∨ r<=b by omega)
theorem SSE.mono {lo hi lo' hi':Nat} {v:Value} (h:SSE lo hi w E k v xss) (h1:lo'<=lo) (h2:hi<=hi'):SSE lo' hi' w E k v xss:=by
 obtain ⟨A,c,e1,e2,e3,h4⟩:=h
 refine ⟨A,c,e1,e2,e3,fun i xs hx=>?_⟩
 obtain ⟨b,o,u,g1,g2,g3,g4,g5⟩:=h4 i xs hx
 exact ⟨b,o,u,g1,by omega,by omega,g4,g5.mono h1 h2⟩
theorem SSE.keep {v:Value} (h:SSE 0 w.heap.size w E k v xss) (hb:Below w.heap.size w w'):SSE 0 w'.heap.size w' E k v xss:=(h.below hb (Nat.le_refl _)).mono (Nat.le_refl _) hb.size
theorem SSE.shape {lo hi:Nat} {v:Value} (h:SSE lo hi w E k v xss):∃ A c,v=.slice A xss.length c/\xss.length<=c/\c<=9223372036854775807:=by
 obtain ⟨A,c,e1,e2,e3,_⟩:=h
 exact ⟨A,c,e1,e2,e3⟩
/-- row i, as a walk wants it -/
theorem SSE.row {lo hi:Nat} {A:Option Addr} {n c:Nat} (h:SSE lo hi w E k (.slice A n c) xss) (hh:hi<=w.heap.size) {i:Nat} {xs:List α} (hx:xss[i]?=some xs) :
 ∃ b o A3 c3,A=some ⟨b,o,none⟩/\lo<=b/\b < hi/\w.cell? ⟨b,o+i,none⟩=some (.slice A3 xs.length c3)/\xs.length<=c3/\c3<=9223372036854775807/\SlI lo hi w E k (.slice A3 xs.length c3) xs/\SlC w.heap.size w E k A3 xs:=by
 obtain ⟨A',c',e1,e2,e3,h4⟩:=h
 obtain ⟨b,o,u,g1,g2,g3,g4,g5⟩:=h4 i xs hx
 injection e1 with e1 _ _
 subst e1
 obtain ⟨A3,c3,rfl,f1,f2,f3⟩:=SlE.form (g5.all hh)
 exact ⟨b,o,A3,c3,g1,g2,g3,g4,f1,f2,g5,f3⟩
end
section
variable {P:Program} {w:World}
/-- append(s, x) at a step of a region that draws its order; the one element lies in block H -/
theorem step_append1 {α:Type} (E:α->List Value) {ops:Array Oper} {o:Oper} {a:Act} {K:Act->World->Prop} {Q:Exit->Act->World->Prop} {EE:Prop} {t e:TypeId} {z:Value} {k bytes:Nat} (el:ElemOk P t e z k bytes)
 (hgd:o.guard=none) (s y:Operand) (ho:o.op=.call { callee:=.builtin .append,args:=#[s,y],argTypes:=#[t,t] })
 (base:Nat) (v:Value) (xs:List α) (x:α) (c H:Nat) (hs:a.eval s=v) (hown:w.ownsRow base e k v xs.length (xs.flatMap E)) (hy:a.eval y=.slice (some ⟨H,0,none⟩) 1 c)
 (hH:w.heap[H]?=some (.cells (E x).toArray e (0,0))) (hE:(E x).length=k) (h1:∀ u ∈ E x,u.oneCell'=true) (hbytes:(xs.length+1) * bytes<=140737488355328) (hb0:0 < bytes) (hbase:base<=w.heap.size)
 (h:∀ g cap w',w'.ownsRow base e k (.slice (some ⟨g,0,none⟩) (xs.length+1) cap) (xs ++ [x]).length ((xs ++ [x]).flatMap E)->w.grownBy w' v.ownBlock->(v.ownBlock=some g ∨ w.heap.size<=g)->g < w'.heap.size ->
  K (a.put o.dst (.slice (some ⟨g,0,none⟩) (xs.length+1) cap)) w') :
 if Region.wanted o (yielded ops a.tmps)=true then Oper.wp P o a w K Q else EE:=by
 obtain ⟨i,hi,hz0,hz1,hz2⟩:=info_parts el.info
 have hlen:xs.length+1<=140737488355328:=Nat.le_trans (Nat.le_mul_of_pos_right _ hb0) hbytes
 refine step_append_lies w hgd s y t ho base e i z k bytes el.und hi hz0 hz1 hz2 el.zc el.pos v xs.length (xs.flatMap E) hs hown ⟨H,0,none⟩ 1 c (E x) hy (by rw [hE,Nat.one_mul])
  (by have:=World.news_of_block hH;simpa using this) h1 (by omega) (by unfold maxLen;omega) hbytes hbase w.heap.size rfl fun g cap w' h2 h3 h4 h5=>?_
 refine h g cap w' (by simpa using h2) h3 ?_ h5
 rcases h4 with h4 | h4
 · exact .inl h4
 · exact .inr (by omega)
end
theorem SlI.nat {lo hi:Nat} {w:World} {A:Option Addr} {n c:Nat} {xs:List Nat} (h:SlI lo hi w cN 1 (.slice A n c) xs) {i:Nat} {x:Nat} (hx:xs[i]?=some x) :
 ∃ b o,A=some ⟨b,o,none⟩/\lo<=b/\b < hi/\w.cell? ⟨b,o+i,none⟩=some (.int .i64 (x:Int)):=by
 obtain ⟨A',c',hv,_,_,h3⟩:=h
 injection hv with h1 _ _
 subst h1
 obtain ⟨b,o,e,g1,g2,hc⟩:=h3 i x hx
 exact ⟨b,o,e,g1,g2,by simpa using hc 0 _ rfl⟩
theorem flatI_at {xs:List Int} {t:Nat} {x:Int} (h:xs[t]?=some x):(xs.flatMap cI)[t]?=some (.int .i64 x):=by
 have:=flat_at cI_len h 0 _ rfl
 simpa using this
theorem flatI_set (xs:List Int) (t:Nat) (x:Int):(xs.flatMap cI).set t (.int .i64 x)=(xs.set t x).flatMap cI:=by
 induction xs generalizing t with
 | nil=>simp
 | cons y xs ih =>
   cases t with
   | zero=>rfl
   | succ t =>
     have:=ih t
     simp only [List.set_cons_succ,List.flatMap_cons,cI,List.cons_append,List.nil_append] at this ⊢
     rw [this]
theorem getD_of {D:List Int} {k:Nat} (h:k < D.length):D[k]?=some (D.getD k 0):=by
 simp [List.getD,List.getElem?_eq_getElem h]
end Go.Proofs.Ythnapjodmndlaaa
