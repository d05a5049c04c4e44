/- Parts of the proof, joined into one text: Base, Frame, Open, Hold, Grow, Tail, BigB, RelM, Math, ProdM, View, Bits, Rows2, Nest, HeldL, AppL, Keep, HelpPair. -/
import Derived.Test.YtloeghbhoflabaaDoorRows
import Derived.WalkKit
import Derived.ProofKit
import Derived.OpenShut
import Derived.Deep.QuietTactic
import Derived.BigQuiet
import Derived.Lib.Hide
import Derived.Maps.AppendAt
import Derived.Outline
import Derived.Deep.DeepMust
import Derived.Carry
import Derived.Deep.Slices
import Derived.Deep.Fields
import Derived.Lib.SmallJoins
import Derived.StillTail
import Derived.Laws.BitsAll
import Derived.IntWalk
import Derived.Deep.RegionHeld3
import Derived.Deep.AppendLies
import Derived.Deep.RegionHeld
set_option linter.unusedVariables false
set_option linter.unusedSimpArgs false
namespace Go.Proofs.YtloeghbhoflabaaDoor
open Go.ChangeShapes Go.WideShapes Go.ChangeAt Go.RowKit
theorem Hd_ {p:Prop} (h:p):RowKit.Hid p:=h
def ext (w u:World):World:={ u with heap:=w.heap ++ u.heap.extract w.heap.size u.heap.size,os:=w.os,tape:=w.tape,output:=w.output }
theorem ext_below (w u:World):Below w.heap.size w (ext w u) :=
 ⟨rfl,rfl,rfl,by simp [ext],fun k hk=>by simp [ext,Array.getElem?_append,hk]⟩
theorem ext_of {w w':World} (h:Below w.heap.size w w'):∃ u,w'=ext w u:=by
 refine ⟨w',?_⟩
 obtain ⟨h1,h2,h3,h4,h5⟩:=h
 have hh:w.heap ++ w'.heap.extract w.heap.size w'.heap.size=w'.heap:=by
  apply Array.ext_getElem?
  intro i
  rw [Array.getElem?_append]
  split
  · rename_i hi
    exact (h5 i hi).symm
  · rw [Array.getElem?_extract]
    split
    · congr 1;omega
    · rw [Array.getElem?_eq_none];omega
 cases w'
 simp only [ext] at *
 simp_all
theorem ext_cell {w u:World} {b o:Nat} (h:b < w.heap.size):(ext w u).cell? ⟨b,o,none⟩=w.cell? ⟨b,o,none⟩:=(ext_below w u).cell (p:=⟨b,o,none⟩) h
theorem ext_frozen {w u:World} {b o:Nat} (h:b < w.heap.size):(ext w u).frozen? ⟨b,o,none⟩=w.frozen? ⟨b,o,none⟩:=(ext_below w u).frozen (p:=⟨b,o,none⟩) h
theorem ext_size (w u:World):w.heap.size<=(ext w u).heap.size:=(ext_below w u).size
theorem ext_lt {w u:World} {b:Nat} (h:b < w.heap.size):(b < (ext w u).heap.size)=True:=by
 have:=ext_size w u
 simp;omega
theorem ext_lt1 {w u:World} {b:Nat} (h:b < w.heap.size):(b < (ext w u).heap.size+1)=True:=by
 have:=ext_size w u
 simp;omega
theorem ext_lt2 {w u:World} {b:Nat} (h:b < w.heap.size):(b < (ext w u).heap.size+1+1)=True:=by
 have:=ext_size w u
 simp;omega
theorem ext_lt3 {w u:World} {b:Nat} (h:b < w.heap.size):(b < (ext w u).heap.size+1+1+1)=True:=by
 have:=ext_size w u
 simp;omega
theorem ltn2 (n:Nat):(n < n+1+1)=True:=eq_true (by omega)
theorem ltn3 (n:Nat):(n < n+1+1+1)=True:=eq_true (by omega)
theorem ltn13 (n:Nat):(n+1 < n+1+1+1)=True:=eq_true (by omega)
theorem lts1 {b n:Nat} (h:b < n):(b < n+1)=True:=eq_true (by omega)
theorem lts2 {b n:Nat} (h:b < n):(b < n+1+1)=True:=eq_true (by omega)
theorem lts3 {b n:Nat} (h:b < n):(b < n+1+1+1)=True:=eq_true (by omega)
theorem below_trans {a b c:World} (h:Below a.heap.size a b) (k:Below b.heap.size b c):Below a.heap.size a c:=h.trans (k.mono h.size)
theorem ext_ext (w u v:World):∃ x,ext (ext w u) v=ext w x:=ext_of (below_trans (ext_below w u) (ext_below _ v))
theorem ext_self (w:World):w=ext w w:=by
 obtain ⟨u,hu⟩:=ext_of (Below.refl w.heap.size w)
 have h:ext w w=w:=by
  cases w
  simp [ext]
 exact h.symm
theorem Calls.ext_of {P:Program} {f:FuncId} {args:Array Value} {w u:World} {v:Value}
 (h:Calls P f args (ext w u) fun e w'=>e=.returned v/\Below (ext w u).heap.size (ext w u) w'):Calls P f args (ext w u) fun e w''=>e=.returned v/\∃ x,w''=ext w x :=
 h.mono fun _ _ ⟨he,hb⟩=>⟨he,Go.Proofs.YtloeghbhoflabaaDoor.ext_of (below_trans (ext_below w u) hb)⟩
theorem wp_region_ext_lit {P:Program} {id:Nat} {Q:Exit->Act->World->Prop} {a:Act} {w:World} {l:List Oper} (hm:P.follows .mixedOrders=true) (hB:Region.lexB .any l.toArray=true)
 (h:wpQuiet P l.toArray (fun w'=>∃ u,w'=ext w u) (fun a'=>∀ w',(∃ u,w'=ext w u)->Q .normal a' w') l a):(Code.region id l.toArray true).wp P Q a w :=
 wp_region_quiet (C:=fun w'=>∃ u,w'=ext w u) hm hB (Go.Proofs.YtloeghbhoflabaaDoor.ext_of ⟨rfl,rfl,rfl,Nat.le_refl _,fun _ _=>rfl⟩) (by simpa using h)
structure Only (lo hi:Nat) (w w':World):Prop where
 os:w'.os=w.os
 tape:w'.tape=w.tape
 output:w'.output=w.output
 size:w.heap.size<=w'.heap.size
 block:∀ n,n < w.heap.size->(n < lo ∨ hi<=n)->w'.heap[n]?=w.heap[n]?
theorem Only.of_below {w w':World} (h:Below w.heap.size w w') (lo hi:Nat):Only lo hi w w':=⟨h.os,h.tape,h.output,h.size,fun n hn _=>h.block n hn⟩
theorem Only.refl (lo hi:Nat) (w:World):Only lo hi w w:=⟨rfl,rfl,rfl,Nat.le_refl _,fun _ _ _=>rfl⟩
theorem Only.trans {lo hi:Nat} {a b c:World} (h:Only lo hi a b) (k:Only lo hi b c):Only lo hi a c :=
 ⟨k.os.trans h.os,k.tape.trans h.tape,k.output.trans h.output,Nat.le_trans h.size k.size,fun n hn ho=>(k.block n (Nat.lt_of_lt_of_le hn h.size) ho).trans (h.block n hn ho)⟩
theorem Only.mono {lo hi lo' hi':Nat} {a b:World} (h:Only lo hi a b) (h1:lo'<=lo) (h2:hi<=hi'):Only lo' hi' a b :=
 ⟨h.os,h.tape,h.output,h.size,fun n hn ho=>h.block n hn (by omega)⟩
theorem Only.below {lo hi:Nat} {a b:World} (h:Only lo hi a b) {B:Nat} (hB:B<=lo) (hs:B<=a.heap.size):Below B a b :=
 ⟨h.os,h.tape,h.output,h.size,fun n hn=>h.block n (by omega) (.inl (by omega))⟩
theorem Only.drew {lo hi:Nat} {a b:World} (h:Only lo hi a b):Only lo hi a b.drew:=⟨h.os,h.tape,h.output,h.size,h.block⟩
theorem Only.drewN {lo hi:Nat} {a b:World} (h:Only lo hi a b) (n:Nat):Only lo hi a (b.drewN n):=⟨h.os,h.tape,h.output,h.size,h.block⟩
theorem Only.alloc {lo hi:Nat} {a b:World} (h:Only lo hi a b) (o:Obj):Only lo hi a (b.alloc o) :=
 h.trans ⟨rfl,rfl,rfl,by simp,fun n hn _=>Below.heap_alloc _ _ _ hn⟩
theorem Only.setCell {lo hi:Nat} {a b:World} (h:Only lo hi a b) {p:Addr} (h1:lo<=p.block/\p.block < hi ∨ a.heap.size<=p.block) (u:Value):Only lo hi a (b.setCell p u) :=
 ⟨h.os,h.tape,h.output,by simpa [World.setCell] using h.size,fun n hn ho=>(Below.heap_setCell _ _ _ _ (by omega)).trans (h.block n hn ho)⟩
theorem Only.cell {lo hi:Nat} {w w':World} (h:Only lo hi w w') {p:Addr} (hp:p.block < w.heap.size) (ho:p.block < lo ∨ hi<=p.block):w'.cell? p=w.cell? p:=World.cell?_of_block (w:=w) (h.block p.block hp ho)
def SlI {α:Type} (lo hi:Nat) (w:World) (E:α->List Value) (k:Nat) (v:Value) (xs:List α):Prop :=
 ∃ A c,v=.slice A xs.length c/\xs.length<=c/\c<=maxLen /\
   ∀ i x,xs[i]?=some x->∃ b o,A=some ⟨b,o,none⟩/\lo<=b/\b < hi/\∀ j u,(E x)[j]?=some u->w.cell? ⟨b,o+i * k+j,none⟩=some u
abbrev SlE {α:Type} (w:World) (E:α->List Value) (k:Nat) (v:Value) (xs:List α):Prop:=SlI 0 w.heap.size w E k v xs
section
variable {α:Type} {lo hi:Nat} {w w':World} {E:α->List Value} {k:Nat} {v:Value} {xs:List α}
theorem SlI.keep_ (h:SlI lo hi w E k v xs) (hb:∀ b o,lo<=b->b < hi->w'.cell? ⟨b,o,none⟩=w.cell? ⟨b,o,none⟩):SlI lo hi w' E k v xs:=by
 obtain ⟨A,c,hv,hl,hm,hx⟩:=h
 refine ⟨A,c,hv,hl,hm,fun i x hi=>?_⟩
 obtain ⟨b,o,hA,h1,h2,hc⟩:=hx i x hi
 exact ⟨b,o,hA,h1,h2,fun j u hu=>(hb _ _ h1 h2).trans (hc j u hu)⟩
theorem SlI.below (h:SlI lo hi w E k v xs) {B:Nat} (hb:Below B w w') (hB:hi<=B):SlI lo hi w' E k v xs :=
 h.keep_ fun b o _ h2=>hb.cell (p:=⟨b,o,none⟩) (show b < B by omega)
theorem SlI.only (h:SlI lo hi w E k v xs) {l r:Nat} (hb:Only l r w w') (hh:hi<=w.heap.size) (ho:hi<=l ∨ r<=lo):SlI lo hi w' E k v xs :=
 h.keep_ fun b o h1 h2=>hb.cell (p:=⟨b,o,none⟩) (show b < _ by omega) (show b < l ∨ r<=b by omega)
theorem SlI.mono (h:SlI lo hi w E k v xs) {lo' hi':Nat} (h1:lo'<=lo) (h2:hi<=hi'):SlI lo' hi' w E k v xs:=by
 obtain ⟨A,c,hv,hl,hm,hx⟩:=h
 refine ⟨A,c,hv,hl,hm,fun i x hi=>?_⟩
 obtain ⟨b,o,hA,g1,g2,hc⟩:=hx i x hi
 exact ⟨b,o,hA,by omega,by omega,hc⟩
theorem SlI.all (h:SlI lo hi w E k v xs) (hh:hi<=w.heap.size):SlE w E k v xs:=h.mono (Nat.zero_le _) hh
theorem SlE.keep (h:SlE w E k v xs) (hb:Below w.heap.size w w'):SlE w' E k v xs:=(SlI.below h hb (Nat.le_refl _)).mono (Nat.le_refl _) hb.size
theorem SlE.ext (h:SlE w E k v xs) (u:World):SlE (ext w u) E k v xs:=h.keep (ext_below w u)
theorem SlI.shape (h:SlI lo hi w E k v xs):∃ A n c,v=.slice A n c:=by
 obtain ⟨A,c,rfl,_⟩:=h
 exact ⟨_,_,_,rfl⟩
theorem SlI.nil (lo hi:Nat) (w:World) (E:α->List Value) (k:Nat):SlI lo hi w E k (.slice none 0 0) []:=⟨none,0,rfl,Nat.le_refl _,by unfold maxLen;omega,by simp⟩
end
def Own {α:Type} (lo hi:Nat) (w:World) (e:TypeId) (E:α->List Value) (k:Nat) (v:Value) (xs:List α):Prop :=
 w.ownsRow lo e k v xs.length (xs.flatMap E)/\∀ g,v.ownBlock=some g->g < hi
theorem flat_at {α:Type} {E:α->List Value} {k:Nat} (hE:∀ x,(E x).length=k):∀ {xs:List α} {i:Nat} {x:α},xs[i]?=some x->∀ j u,(E x)[j]?=some u->(xs.flatMap E)[i * k+j]?=some u:=by
 intro xs
 induction xs with
 | nil=>intro i x h;simp at h
 | cons y ys ih =>
   intro i x h j u hu
   have hj:j < k:=by have:=(List.getElem?_eq_some_iff.1 hu).1;rw [hE] at this;exact this
   cases i with
   | zero =>
     have hxy:y=x:=by simpa using h
     subst hxy
     simp only [List.flatMap_cons,Nat.zero_mul,Nat.zero_add]
     rw [List.getElem?_append_left (by rw [hE];exact hj)]
     exact hu
   | succ i =>
     simp only [List.flatMap_cons]
     rw [List.getElem?_append_right (by rw [hE,Nat.succ_mul];omega),hE]
     have:=ih (i:=i) (x:=x) (by simpa using h) j u hu
     rw [<- this]
     congr 1
     rw [Nat.succ_mul];omega
section
variable {α:Type} {lo hi:Nat} {w w':World} {e:TypeId} {E:α->List Value} {k:Nat} {v:Value} {xs:List α}
theorem Own.lt (h:Own lo hi w e E k v xs):∀ g,v.ownBlock=some g->lo<=g/\g < hi/\g < w.heap.size:=fun g hg=>⟨(h.1.lt g hg).1,h.2 g hg,(h.1.lt g hg).2⟩
theorem Own.sl (h:Own lo hi w e E k v xs) (hE:∀ x,(E x).length=k):SlI lo hi w E k v xs:=by
 obtain ⟨hr,hlt⟩:=h
 have hr':=hr
 obtain ⟨hl,hs⟩:=hr'
 rcases hs with ⟨rfl,hn⟩ | ⟨g,cap,cur,rfl,hg,hh,hnc,hcm,hsz,htk⟩
 · have:xs=[]:=List.eq_nil_of_length_eq_zero hn
   subst this
   exact SlI.nil _ _ _ _ _
 · refine ⟨_,cap,rfl,hnc,hcm,fun i x hi=>⟨g,0,rfl,hg,hlt g rfl,fun j u hu=>?_⟩⟩
   have hf:=flat_at hE hi j u hu
   have hj:=(List.getElem?_eq_some_iff.1 hf).1
   rw [hl] at hj
   rw [Nat.zero_add]
   exact (World.ownsRow.cellAt hr _ hj).trans hf
theorem Own.kept (h:Own lo hi w e E k v xs) {row:Option Nat} (hg:w.grownBy w' row) (hne:v.ownBlock=none ∨ v.ownBlock ≠ row):Own lo hi w' e E k v xs:=⟨h.1.kept hg hne,h.2⟩
theorem Own.below (h:Own lo hi w e E k v xs) {B:Nat} (hb:Below B w w') (hB:hi<=B):Own lo hi w' e E k v xs:=by
 obtain ⟨⟨hl,hs⟩,hlt⟩:=h
 refine ⟨⟨hl,?_⟩,hlt⟩
 rcases hs with hs | ⟨g,cap,cur,rfl,hg,hh,r⟩
 · exact .inl hs
 · exact .inr ⟨g,cap,cur,rfl,hg,(hb.block g (by have:=hlt g rfl;omega)).trans hh,r⟩
theorem Own.only (h:Own lo hi w e E k v xs) {l r:Nat} (hb:Only l r w w') (ho:hi<=l ∨ r<=lo):Own lo hi w' e E k v xs:=by
 have hx:=h.lt
 obtain ⟨⟨hl,hs⟩,hlt⟩:=h
 refine ⟨⟨hl,?_⟩,hlt⟩
 rcases hs with hs | ⟨g,cap,cur,rfl,hg,hh,rr⟩
 · exact .inl hs
 · have:=hx g rfl
   exact .inr ⟨g,cap,cur,rfl,hg,(hb.block g this.2.2 (by omega)).trans hh,rr⟩
theorem Own.mono (h:Own lo hi w e E k v xs) {lo' hi':Nat} (h1:lo'<=lo) (h2:hi<=hi'):Own lo' hi' w e E k v xs:=by
 obtain ⟨⟨hl,hs⟩,hlt⟩:=h
 refine ⟨⟨hl,?_⟩,fun g hg=>Nat.lt_of_lt_of_le (hlt g hg) h2⟩
 rcases hs with hs | ⟨g,cap,cur,rfl,hg,hh,r⟩
 · exact .inl hs
 · exact .inr ⟨g,cap,cur,rfl,by omega,hh,r⟩
theorem Own.of_row {n:Nat} {cs:List Value} (h:w.ownsRow lo e k v n cs) (hn:xs.length=n) (hc:xs.flatMap E=cs):Own lo w.heap.size w e E k v xs:=by
 subst hn hc
 exact ⟨h,fun g hg=>(h.lt g hg).2⟩
theorem Own.shape (h:Own lo hi w e E k v xs):∃ A n c,v=.slice A n c:=by
 obtain ⟨⟨_,hs⟩,_⟩:=h
 rcases hs with ⟨rfl,_⟩ | ⟨g,cap,cur,rfl,_⟩
 · exact ⟨_,_,_,rfl⟩
 · exact ⟨_,_,_,rfl⟩
theorem Own.nil (lo hi:Nat) (w:World) (e:TypeId) (E:α->List Value) (k:Nat):Own lo hi w e E k (.slice none 0 0) []:=⟨World.ownsRow_nil w lo e k,by intro g hg;cases hg⟩
end
def Blk (w:World) (g:Nat) (t:TypeId) (cs:Array Value):Prop:=w.heap[g]?=some (.cells cs t (0,0))
section
variable {w w':World} {g:Nat} {t:TypeId} {cs:Array Value}
theorem Blk.lt (h:Blk w g t cs):g < w.heap.size:=by
 rcases Nat.lt_or_ge g w.heap.size with hlt | hge
 · exact hlt
 · unfold Blk at h;rw [Array.getElem?_eq_none hge] at h;cases h
theorem Blk.cell (h:Blk w g t cs) (i:Nat):w.cell? ⟨g,i,none⟩=cs[i]?:=cell_of_row w g i cs t (0,0) h
theorem Blk.frozen (h:Blk w g t cs) (i:Nat):w.frozen? ⟨g,i,none⟩=false:=by
 unfold Blk at h
 simp [World.frozen?,h]
theorem Blk.new (w:World) (t:TypeId) (cs:Array Value) (n:Nat) (hn:n=w.heap.size):Blk (w.alloc (.cells cs t)) n t cs:=by subst hn;exact heap_alloc_new w _
theorem Blk.drew (h:Blk w g t cs):Blk w.drew g t cs:=h
theorem Blk.drewN (h:Blk w g t cs) (n:Nat):Blk (w.drewN n) g t cs:=h
theorem Blk.alloc (h:Blk w g t cs) (o:Obj):Blk (w.alloc o) g t cs:=(Below.heap_alloc w o g h.lt).trans h
theorem Blk.set_ (h:Blk w g t cs) (i:Nat) (u:Value):Blk (w.setCell ⟨g,i,none⟩ u) g t (cs.setIfInBounds i u):=by
 unfold Blk at h ⊢
 simp [World.setCell,Array.getElem?_modify,h]
theorem Blk.far (h:Blk w g t cs) {p:Addr} (hp:g ≠ p.block) (u:Value):Blk (w.setCell p u) g t cs:=(Below.heap_setCell w p u g hp).trans h
theorem Blk.below (h:Blk w g t cs) {B:Nat} (hb:Below B w w') (hg:g < B):Blk w' g t cs:=(hb.block g hg).trans h
theorem Blk.keep (h:Blk w g t cs) (hb:Below w.heap.size w w'):Blk w' g t cs:=(hb.block g h.lt).trans h
theorem Blk.only (h:Blk w g t cs) {l r:Nat} (hb:Only l r w w') (ho:g < l ∨ r<=g):Blk w' g t cs:=(hb.block g h.lt ho).trans h
end
abbrev Pr:=Int × Int
abbrev Ed:=Int × Int × Int × Int
abbrev St:=Int × Bool
abbrev Wk:=Int × List St
def cI (x:Int):List Value:=[.int .i64 x]
def cB (x:Bool):List Value:=[.bool x]
def cU (x:Int):List Value:=[.int .u8 x]
def cV (x:Value):List Value:=[x]
def cPr (p:Pr):List Value:=[.int .i64 p.1,.int .i64 p.2]
def cEd (p:Ed):List Value:=[.int .i64 p.1,.int .i64 p.2.1,.int .i64 p.2.2.1,.int .i64 p.2.2.2]
def cSt (p:St):List Value:=[.int .i64 p.1,.bool p.2]
theorem cI_len (x:Int):(cI x).length=1:=rfl
theorem cB_len (x:Bool):(cB x).length=1:=rfl
theorem cV_len (x:Value):(cV x).length=1:=rfl
theorem cPr_len (x:Pr):(cPr x).length=2:=rfl
theorem cPr_one (x:Pr):∀ u ∈ cPr x,u.oneCell'=true:=by intro u hu;simp only [cPr,List.mem_cons,List.not_mem_nil,or_false] at hu;rcases hu with rfl | rfl <;> rfl
structure Gr where
 vals:List Int
 edges:List Ed
structure Au where
 start:Int
 accept:List Bool
 next:List (List Int)
def GrV (lo hi:Nat) (w:World) (v:Value) (g:Gr):Prop:=∃ vs es,v=.agg #[vs,es]/\SlI lo hi w cI 1 vs g.vals/\SlI lo hi w cEd 4 es g.edges
/-- a slice of slices of numbers -/
def SSV (lo hi:Nat) (w:World) (v:Value) (xss:List (List Int)):Prop :=
 ∃ vs:List Value,SlI lo hi w cV 1 v vs/\vs.length=xss.length/\∀ (i:Nat) (u:Value) (xs:List Int),vs[i]?=some u->xss[i]?=some xs->SlI lo hi w cI 1 u xs
def AuV (lo hi:Nat) (w:World) (v:Value) (a:Au):Prop:=∃ ac nx,v=.agg #[.int .i64 a.start,ac,nx]/\SlI lo hi w cB 1 ac a.accept/\SSV lo hi w nx a.next
def WkV (lo hi:Nat) (w:World) (v:Value) (k:Wk):Prop:=∃ ss,v=.agg #[.int .i64 k.1,ss]/\SlI lo hi w cSt 2 ss k.2
section
variable {lo hi:Nat} {w w':World} {v:Value}
theorem GrV.below {g:Gr} (h:GrV lo hi w v g) {B:Nat} (hb:Below B w w') (hB:hi<=B):GrV lo hi w' v g:=by
 obtain ⟨vs,es,rfl,h1,h2⟩:=h
 exact ⟨vs,es,rfl,h1.below hb hB,h2.below hb hB⟩
theorem GrV.mono {g:Gr} (h:GrV lo hi w v g) {lo' hi':Nat} (h1:lo'<=lo) (h2:hi<=hi'):GrV lo' hi' w v g:=by
 obtain ⟨vs,es,rfl,g1,g2⟩:=h
 exact ⟨vs,es,rfl,g1.mono h1 h2,g2.mono h1 h2⟩
theorem GrV.all {g:Gr} (h:GrV lo hi w v g) (hh:hi<=w.heap.size):GrV 0 w.heap.size w v g:=h.mono (Nat.zero_le _) hh
theorem GrV.keep {g:Gr} (h:GrV 0 w.heap.size w v g) (hb:Below w.heap.size w w'):GrV 0 w'.heap.size w' v g:=(h.below hb (Nat.le_refl _)).mono (Nat.le_refl _) hb.size
theorem GrV.only {g:Gr} (h:GrV lo hi w v g) {l r:Nat} (hb:Only l r w w') (hh:hi<=w.heap.size) (ho:hi<=l ∨ r<=lo):GrV lo hi w' v g:=by
 obtain ⟨vs,es,rfl,g1,g2⟩:=h
 exact ⟨vs,es,rfl,g1.only hb hh ho,g2.only hb hh ho⟩
theorem SSV.below {x:List (List Int)} (h:SSV lo hi w v x) {B:Nat} (hb:Below B w w') (hB:hi<=B):SSV lo hi w' v x:=by
 obtain ⟨vs,h1,h2,h3⟩:=h
 exact ⟨vs,h1.below hb hB,h2,fun i u xs hu hx=>(h3 i u xs hu hx).below hb hB⟩
theorem SSV.shape {x:List (List Int)} (h:SSV lo hi w v x):∃ A n c,v=.slice A n c:=by
 obtain ⟨vs,h1,_⟩:=h
 exact h1.shape
theorem AuV.shape {a:Au} (h:AuV lo hi w v a):∃ A1 n1 c1 A2 n2 c2,v=.agg #[.int .i64 a.start,.slice A1 n1 c1,.slice A2 n2 c2]:=by
 obtain ⟨vs,es,rfl,h1,h2⟩:=h
 obtain ⟨A1,n1,c1,rfl⟩:=h1.shape
 obtain ⟨A2,n2,c2,rfl⟩:=h2.shape
 exact ⟨_,_,_,_,_,_,rfl⟩
theorem GrV.shape {g:Gr} (h:GrV lo hi w v g):∃ A1 n1 c1 A2 n2 c2,v=.agg #[.slice A1 n1 c1,.slice A2 n2 c2]:=by
 obtain ⟨vs,es,rfl,h1,h2⟩:=h
 obtain ⟨A1,n1,c1,rfl⟩:=h1.shape
 obtain ⟨A2,n2,c2,rfl⟩:=h2.shape
 exact ⟨_,_,_,_,_,_,rfl⟩
theorem WkV.shape {k:Wk} (h:WkV lo hi w v k):∃ A1 n1 c1,v=.agg #[.int .i64 k.1,.slice A1 n1 c1]:=by
 obtain ⟨vs,rfl,h1⟩:=h
 obtain ⟨A1,n1,c1,rfl⟩:=h1.shape
 exact ⟨_,_,_,rfl⟩
theorem SSV.mono {x:List (List Int)} (h:SSV lo hi w v x) {lo' hi':Nat} (h1:lo'<=lo) (h2:hi<=hi'):SSV lo' hi' w v x:=by
 obtain ⟨vs,g1,g2,g3⟩:=h
 exact ⟨vs,g1.mono h1 h2,g2,fun i u xs hu hx=>(g3 i u xs hu hx).mono h1 h2⟩
theorem SSV.all {x:List (List Int)} (h:SSV lo hi w v x) (hh:hi<=w.heap.size):SSV 0 w.heap.size w v x:=h.mono (Nat.zero_le _) hh
theorem SSV.keep {x:List (List Int)} (h:SSV 0 w.heap.size w v x) (hb:Below w.heap.size w w'):SSV 0 w'.heap.size w' v x:=(h.below hb (Nat.le_refl _)).mono (Nat.le_refl _) hb.size
theorem SSV.only {x:List (List Int)} (h:SSV lo hi w v x) {l r:Nat} (hb:Only l r w w') (hh:hi<=w.heap.size) (ho:hi<=l ∨ r<=lo):SSV lo hi w' v x:=by
 obtain ⟨vs,g1,g2,g3⟩:=h
 exact ⟨vs,g1.only hb hh ho,g2,fun i u xs hu hx=>(g3 i u xs hu hx).only hb hh ho⟩
theorem AuV.below {a:Au} (h:AuV lo hi w v a) {B:Nat} (hb:Below B w w') (hB:hi<=B):AuV lo hi w' v a:=by
 obtain ⟨vs,es,rfl,h1,h2⟩:=h
 exact ⟨vs,es,rfl,h1.below hb hB,h2.below hb hB⟩
theorem AuV.mono {a:Au} (h:AuV lo hi w v a) {lo' hi':Nat} (h1:lo'<=lo) (h2:hi<=hi'):AuV lo' hi' w v a:=by
 obtain ⟨vs,es,rfl,g1,g2⟩:=h
 exact ⟨vs,es,rfl,g1.mono h1 h2,g2.mono h1 h2⟩
theorem AuV.all {a:Au} (h:AuV lo hi w v a) (hh:hi<=w.heap.size):AuV 0 w.heap.size w v a:=h.mono (Nat.zero_le _) hh
theorem AuV.keep {a:Au} (h:AuV 0 w.heap.size w v a) (hb:Below w.heap.size w w'):AuV 0 w'.heap.size w' v a:=(h.below hb (Nat.le_refl _)).mono (Nat.le_refl _) hb.size
theorem AuV.only {a:Au} (h:AuV lo hi w v a) {l r:Nat} (hb:Only l r w w') (hh:hi<=w.heap.size) (ho:hi<=l ∨ r<=lo):AuV lo hi w' v a:=by
 obtain ⟨vs,es,rfl,g1,g2⟩:=h
 exact ⟨vs,es,rfl,g1.only hb hh ho,g2.only hb hh ho⟩
theorem WkV.below {a:Wk} (h:WkV lo hi w v a) {B:Nat} (hb:Below B w w') (hB:hi<=B):WkV lo hi w' v a:=by
 obtain ⟨vs,rfl,h1⟩:=h
 exact ⟨vs,rfl,h1.below hb hB⟩
theorem WkV.mono {a:Wk} (h:WkV lo hi w v a) {lo' hi':Nat} (h1:lo'<=lo) (h2:hi<=hi'):WkV lo' hi' w v a:=by
 obtain ⟨vs,rfl,g1⟩:=h
 exact ⟨vs,rfl,g1.mono h1 h2⟩
theorem WkV.all {a:Wk} (h:WkV lo hi w v a) (hh:hi<=w.heap.size):WkV 0 w.heap.size w v a:=h.mono (Nat.zero_le _) hh
theorem WkV.keep {a:Wk} (h:WkV 0 w.heap.size w v a) (hb:Below w.heap.size w w'):WkV 0 w'.heap.size w' v a:=(h.below hb (Nat.le_refl _)).mono (Nat.le_refl _) hb.size
theorem WkV.only {a:Wk} (h:WkV lo hi w v a) {l r:Nat} (hb:Only l r w w') (hh:hi<=w.heap.size) (ho:hi<=l ∨ r<=lo):WkV lo hi w' v a:=by
 obtain ⟨vs,rfl,g1⟩:=h
 exact ⟨vs,rfl,g1.only hb hh ho⟩
end
theorem take_snoc {α:Type} {xs:List α} {k:Nat} {x:α} (hx:xs[k]?=some x):xs.take (k+1)=xs.take k ++ [x]:=by
 rw [List.take_add_one,hx];rfl
section
variable {H:Type} {enc:TypeId × Value->H} {P:Program}
theorem keep_all (hl:laidOutB P=true) {W W':World} (hb:Below W.heap.size W W'):∀ (ts:List TypeId),ts.all (fun t=>P.readableRec t && decide (t < P.types.size))=true ->
 ∀ (vs:List Value) (ds:List (DataW H)) (ps:List MemPlace),DataW.TrodAll enc P W 0 (fun _=>true) true ts vs ds ps->∀ sp:Nat->Bool,(∀ x ∈ ps,x.block < W.heap.size/\sp x.block=true) ->
 DataW.TrodAll enc P W' 0 sp true ts vs ds ps:=by
 intro ts
 induction ts with
 | nil =>
   intro _ vs ds ps h _ _
   obtain ⟨rfl,rfl,rfl⟩:=trodAll_nil h
   exact trodAll_mk0
 | cons t ts ih =>
   intro hr vs ds ps h sp hlt
   simp only [List.all_cons,Bool.and_eq_true,decide_eq_true_eq] at hr
   obtain ⟨v,vs',d,ds',p,q,rfl,rfl,rfl,h0,h1⟩:=trodAll_cons h
   exact trodAll_cons_mk (WideElems.Trod_stays hl hr.1.1 hr.1.2 h0 (fun x hx=>hb.same (hlt x (List.mem_append_left _ hx)).1) (fun x hx=>(hlt x (List.mem_append_left _ hx)).2)) (ih hr.2 _ _ _ h1 sp (fun x hx=>hlt x (List.mem_append_right _ hx)))
theorem post_of_below {f:Func} {s:ChangeSpec} {apart fresh handsOn again:Bool} {W W':World} {args:Array Value} {v:Value} {ds gs:List (DataW H)} {before pa pv:List MemPlace}
 (hW:DataW.Whole enc P f.params.toList s.vars apart W args.toList ds gs before)
 (hres:∀ (b:Nat) (sp:Nat->Bool) (hd:Bool),DataW.TrodAll enc P W' b sp hd f.resultTypes.toList (v.resultList f.resultTypes.size) (s.fn H (ds ++ gs)).results [])
 (hargs:∀ sp:Nat->Bool,(∀ p ∈ before,sp p.block=true)->DataW.TrodAll enc P W' 0 sp true f.params.toList args.toList (s.fn H (ds ++ gs)).args pa)
 (hvars:∀ sp:Nat->Bool,(∀ p ∈ before,sp p.block=true)->DataW.TrodVars enc P W' sp s.vars (s.fn H (ds ++ gs)).vars pv)
 (hps:before=pa ++ pv) (hb:Below W.heap.size W W')
 (hok:∀ (j:Nat) (t:TypeId) (r:Value),f.resultTypes[j]?=some t->(v.resultList f.resultTypes.size)[j]?=some r->Value.okWide P W' .any 0 t r) :
 s.post enc P f apart fresh handsOn again W args v W':=by
 have hlt:∀ p ∈ before,p.block < W.heap.size:=fun p hp=>hW.lt p hp
 have hold:∀ p ∈ before,(fun b=>decide (b < W.heap.size)) p.block=true:=fun p hp=>by simpa using hlt p hp
 refine ⟨ds,gs,before,[],pa,pv,hW,hres _ _ _,hargs _ hold,hvars _ hold,World.keptBut_mono (fun p hp=>⟨hp,?_⟩) (hb.frame (· ∈ before)),fun _=>?_⟩
 · rw [hps,List.mem_append] at hp
   exact Or.inr hp
 · obtain ⟨_,_,_,_,_,hz,hn⟩:=hW
   refine ⟨hok,_,_,([] ++ pa) ++ pv,⟨[] ++ pa,pv,trodAll_append (hargs _ (fun _ _=>rfl)) (hres _ _ _),hvars _ (fun _ _=>rfl),rfl,?_,?_⟩,?_⟩
   · intro b off hp
     have hin:MemPlace.cell b off ∈ before:=by rw [hps];simpa using hp
     rw [hb.frozen (hlt _ hin)]
     exact hz b off hin
   · intro ha
     have:=hn ha
     rw [hps] at this
     simpa using this
   · intro p hp _
     rw [hps]
     simpa using hp
/-- THE LAW's STEP: its walk says 'true, and Below'. -/
theorem law_post {f:Func} {s:ChangeSpec} {tb:TypeId} (hl:laidOutB P=true) (hr:f.params.toList.all (fun t=>P.readableRec t && decide (t < P.types.size))=true) (hrt:f.resultTypes=#[tb]) (htb:P.underlying tb=some .bool)
 (hvars:s.vars=[]) {W W':World} {args:Array Value} {ds gs:List (DataW H)} {before:List MemPlace} (hfn:s.fn H (ds ++ gs)={ results:=[.lit (.bool true)],args:=ds })
 (hW:DataW.Whole enc P f.params.toList s.vars false W args.toList ds gs before) (hb:Below W.heap.size W W') :
 s.post enc P f false true false false W args (.bool true) W':=by
 have hW':=hW
 obtain ⟨p,q,hA,hV,hpq,_,_⟩:=hW
 rw [hvars] at hV
 obtain ⟨hgs,hq⟩:=trodVars_none hV
 subst hq
 have hlt:∀ x ∈ before,x.block < W.heap.size:=fun x hx=>hW'.lt x hx
 have hbef:before=p ++ []:=hpq
 refine post_of_below (pa:=p) (pv:=[]) hW' (fun b sp hd=>?_) (fun sp hsp=>?_) (fun sp _=>?_) hbef hb ?_
 · rw [hfn,hrt]
   exact trodAll_cons_mk (shut_bool htb _) trodAll_mk0
 · rw [hfn]
   exact keep_all hl hb _ hr _ _ _ hA sp (fun x hx=>⟨hlt x (by rw [hbef];simpa using hx),hsp x (by rw [hbef];simpa using hx)⟩)
 · rw [hfn,hvars]
   exact rfl
 · exact ok_one (by rw [hrt]) rfl (okWide_bool_mk htb _)
end
end Go.Proofs.YtloeghbhoflabaaDoor
namespace Go.Proofs.YtloeghbhoflabaaDoor
open Go.ChangeShapes Go.WideShapes Go.ChangeAt Go.RowKit Go.Deep Go.Joins
set_option maxRecDepth 100000
section
variable {H:Type} {enc:TypeId × Value->H} {P:Program} {w:World} {sp:Nat->Bool} {held:Bool}
theorem list_of {α:Type} {Q:Nat->α->Prop}:∀ (n:Nat),(∀ i,i < n->∃ x,Q i x)->∃ xs:List α,xs.length=n/\∀ i x,xs[i]?=some x->Q i x:=by
 intro n
 induction n with
 | zero=>intro _;exact ⟨[],rfl,by simp⟩
 | succ n ih =>
   intro h
   obtain ⟨xs,hl,hx⟩:=ih (fun i hi=>h i (by omega))
   obtain ⟨x,hq⟩:=h n (by omega)
   refine ⟨xs ++ [x],by simp [hl],fun i y hy=>?_⟩
   by_cases hi:i < n
   · rw [List.getElem?_append_left (by omega)] at hy
     exact hx i y hy
   · have hin:=(List.getElem?_eq_some_iff.1 hy).1
     simp only [List.length_append,List.length_cons,List.length_nil] at hin
     have:i=n:=by omega
     subst this
     rw [List.getElem?_append_right (by omega),hl,Nat.sub_self] at hy
     simp at hy
     subst hy
     exact hq
theorem open_list {α:Type} (E:α->List Value) (k:Nat) (Rd:α->Prop) {t e:TypeId} {fuel:Nat} {v:Value} {y:DataW H × List MemPlace} (ht:P.underlying t=some (.slice e)) (hC:P.cellsOf e=k) (hk:0 < k)
 (helem:∀ (n:Nat) (cs:List Value) (y:DataW H × List MemPlace),cs.length=k->DataW.trod enc P w 0 sp held n e cs=some y->∃ x,cs=E x/\Rd x)
 (h:DataW.trod enc P w 0 sp held fuel t [v]=some y):∃ xs,SlE w E k v xs/\∀ x ∈ xs,Rd x:=by
 rcases open_slice ht h with ⟨hcs,_⟩ | ⟨a,len,cap,m,n,D,Pl,hcs,_,hl,hm,hmm,_,hi⟩
 · have hv:v=.slice none 0 0:=by simpa using hcs
   subst hv
   exact ⟨[],SlI.nil _ _ _ _ _,by simp⟩
 · have hv:v=.slice (some a) len cap:=by simpa using hcs
   subst hv
   have hlm:len<=m:=by rw [hmm];split <;> omega
   obtain ⟨xs,hxl,hx⟩:=list_of (Q:=fun i x=>Rd x/\∀ j u,(E x)[j]?=some u->j < k/\w.cell? ((a.add (i * k)).add j)=some u) len (fun i hil=>by
    obtain ⟨cs',hc,ht'⟩:=hi i (by omega)
    rw [hC] at hc
    obtain ⟨_,hcl,hat⟩:=World.cells?_some hc
    obtain ⟨x,rfl,hr⟩:=helem _ _ _ hcl ht'
    refine ⟨x,hr,fun j u hu=>?_⟩
    have hj:j < k:=by have:=(List.getElem?_eq_some_iff.1 hu).1;omega
    exact ⟨hj,(hat j hj).trans hu⟩)
   subst hxl
   refine ⟨xs,⟨some a,cap,rfl,hl,hm,fun i x hix=>?_⟩,fun x hxm=>?_⟩
   · have hil:=(List.getElem?_eq_some_iff.1 hix).1
     obtain ⟨cs',hc,ht'⟩:=hi i (by omega)
     rw [hC] at hc
     obtain ⟨_,hcl,hat⟩:=World.cells?_some hc
     obtain ⟨b,o,spot⟩:=a
     have h0:=hat 0 hk
     have hc0:cs'[0]?=some (cs'[0]'(by omega)):=List.getElem?_eq_getElem (by omega)
     rw [hc0] at h0
     have hspot:spot=none:=by
      obtain ⟨cs2,hc2,_⟩:=hi 0 (by omega)
      rw [hC] at hc2
      obtain ⟨_,hcl2,hat2⟩:=World.cells?_some hc2
      have h2:=hat2 0 hk
      rw [List.getElem?_eq_getElem (by omega)] at h2
      have:=World.cell?_spot h2
      simpa [Addr.add] using this
     subst hspot
     have hadd:∀ j,((⟨b,o,none⟩:Addr).add (i * k)).add j=⟨b,o+i * k+j,none⟩:=fun j=>by
      unfold Addr.add
      by_cases h1:i * k=0 <;> by_cases h2:j=0 <;> simp [h1,h2] <;> omega
     refine ⟨b,o,rfl,Nat.zero_le _,?_,fun j u hu=>?_⟩
     · rw [hadd] at h0
       exact World.block_lt_of_cell? _ _ h0
     · have:=((hx i x hix).2 j u hu).2
       rw [hadd] at this
       exact this
   · obtain ⟨i,hil,hie⟩:=List.getElem_of_mem hxm
     exact (hx i x (by rw [List.getElem?_eq_getElem hil,hie])).1
theorem elem_u8 {e:TypeId} (he:P.underlying e=some (.int .u8)):∀ (n:Nat) (cs:List Value) (y:DataW H × List MemPlace),cs.length=1->DataW.trod enc P w 0 sp held n e cs=some y->∃ x,cs=cU x/\True:=by
 intro n cs y _ h
 obtain ⟨x,h1,_⟩:=DataW.trod_int he h
 exact ⟨x,h1,trivial⟩
end
section
variable {H:Type} {enc:TypeId × Value->H} {w:World} {sp:Nat->Bool} {held:Bool} {b0:Nat} {v:Value} {d:DataW H} {p:List MemPlace}
theorem openBytes (hv:Value.okWide Tryd.prog w .any b0 22 v) (h:DataW.Trod enc Tryd.prog w 0 sp held 22 v d p):∃ xs:List Int,SlE w cU 1 v xs:=by
 obtain ⟨A,n,c,rfl⟩:=okWide_slice Tryd.underlying22 hv
 obtain ⟨fuel,hf⟩:=h
 obtain ⟨xs,hx,_⟩:=open_list cU 1 (fun _=>True) Tryd.underlying22 (by kernel_rfl) (by omega) (elem_u8 Tryd.underlying5) hf
 exact ⟨xs,hx⟩
end
end Go.Proofs.YtloeghbhoflabaaDoor
namespace Go.Proofs.YtloeghbhoflabaaDoor
open Go.ChangeShapes Go.WideShapes Go.ChangeAt Go.RowKit
/-- what the program's table says of a slice type t of elements e: zero z, k cells, so many bytes -/
structure ElemOk (P:Program) (t e:TypeId) (z:Value) (k bytes:Nat):Prop where
 und:P.underlying t=some (.slice e)
 info:(P.info? e).map (fun i=>(i.zero,i.size,i.bytes))=some (some z,k,bytes)
 zc:z.cells.size=k
 pos:0 < k
section
variable {P:Program} {w:World}
theorem own_below {base:Nat} {w':World} {e:TypeId} {k n:Nat} {v:Value} {cs:List Value} (h:w.ownsRow base e k v n cs) (hb:base<=w.heap.size) (hg:w.grownBy w' v.ownBlock):Below base w w' :=
 (Below.refl _ _).grown hg hb (fun g hg=>(h.lt g hg).1)
theorem ownsRow_below {lo k n:Nat} {e:TypeId} {v:Value} {cs:List Value} {w w':World} (h:w.ownsRow lo e k v n cs) {B:Nat} (hb:Below B w w') (hB:w.heap.size<=B):w'.ownsRow lo e k v n cs:=by
 have hlt:=h.lt
 obtain ⟨hl,hs⟩:=h
 refine ⟨hl,?_⟩
 rcases hs with hs | ⟨g,cap,cur,rfl,hg,hh,r⟩
 · exact .inl hs
 · exact .inr ⟨g,cap,cur,rfl,hg,(hb.block g (by have:=hlt g rfl;omega)).trans hh,r⟩
end
end Go.Proofs.YtloeghbhoflabaaDoor
namespace Go.Proofs.YtloeghbhoflabaaDoor
open Go.RowKit
section
variable {P:Program} {ops:Array Oper} {md:Region.Mode} {C:World->Prop}
end
end Go.Proofs.YtloeghbhoflabaaDoor
namespace Go.Proofs.YtloeghbhoflabaaDoor
open Go.ChangeShapes Go.WideShapes Go.ChangeAt Go.RowKit
attribute [local go_sem] ext_cell ext_frozen ext_lt ext_lt1 ext_lt2 ext_lt3 ltn2 ltn3 ltn13 lts1 lts2 lts3
theorem big_yes (A:Option Addr) (n c:Nat) (w:World) (h:1048576 < n) (hn:n<=maxLen) :
 Calls Tryd.prog 4 #[.slice A n c] w fun e w'=>e=.returned (.bool true)/\w=w':=by
 unfold maxLen at hn
 have hd:decide (1048576 < (n:Int))=true:=decide_eq_true (by omega)
 go_enter Tryd.func4,Tryd.ntmps4
 go_wp2
 go_ret
 exact ⟨rfl,rfl⟩
theorem big_no (A:Option Addr) (n c:Nat) (w:World) (h:¬ 1048576 < n) :
 Calls Tryd.prog 4 #[.slice A n c] w fun e w'=>e=.returned (.bool false)/\w=w':=by
 have hd:decide (1048576 < (n:Int))=false:=decide_eq_false (by omega)
 go_enter Tryd.func4,Tryd.ntmps4
 go_wp2
 go_ret
 exact ⟨rfl,rfl⟩
end Go.Proofs.YtloeghbhoflabaaDoor
namespace Go.Proofs.YtloeghbhoflabaaDoor
def ltP (p q:Pr):Bool:=decide (p.1 < q.1) || (decide (p.1=q.1) && decide (p.2 < q.2))
theorem ltP_iff {p q:Pr}:ltP p q=true ↔ p.1 < q.1 ∨ (p.1=q.1/\p.2 < q.2):=by simp [ltP]
theorem ltP_no {p q:Pr}:ltP p q=false ↔ ¬ (p.1 < q.1 ∨ (p.1=q.1/\p.2 < q.2)):=by
 rw [<- ltP_iff];simp
theorem pr_eq {p q:Pr}:p=q ↔ p.1=q.1/\p.2=q.2:=by
 constructor
 · rintro rfl;exact ⟨rfl,rfl⟩
 · intro h;exact Prod.ext h.1 h.2
theorem ltP_trans {p q r:Pr} (h:ltP p q=true) (k:ltP q r=true):ltP p r=true:=by rw [ltP_iff] at *;omega
theorem ltP_irr {p:Pr}:¬ ltP p p=true:=by rw [ltP_iff];omega
theorem ltP_tri (p q:Pr):ltP p q=true ∨ p=q ∨ ltP q p=true:=by rw [ltP_iff,ltP_iff,pr_eq];omega
abbrev ascP (l:List Pr):Prop:=l.Pairwise fun p q=>ltP p q=true
theorem uniqP:∀ {l r:List Pr},ascP l->ascP r->(∀ x,x ∈ l ↔ x ∈ r)->l=r
 | [],[],_,_,_=>rfl
 | [],y :: r,_,_,h=>absurd ((h y).2 (by simp)) (by simp)
 | x :: l,[],_,_,h=>absurd ((h x).1 (by simp)) (by simp)
 | x :: l,y :: r,h1,h2,h=>by
   obtain ⟨a1,a2⟩:=List.pairwise_cons.1 h1
   obtain ⟨b1,b2⟩:=List.pairwise_cons.1 h2
   have hxy:x=y:=by
    have e1:=(h x).1 (by simp)
    have e2:=(h y).2 (by simp)
    rcases List.mem_cons.1 e1 with e1 | e1
    · exact e1
    · rcases List.mem_cons.1 e2 with e2 | e2
      · exact e2.symm
      · exact absurd (ltP_trans (b1 x e1) (a1 y e2)) ltP_irr
   subst hxy
   rw [uniqP a2 b2 fun z=>?_]
   have hz:=h z
   simp only [List.mem_cons] at hz
   constructor
   · intro hm
     rcases hz.1 (.inr hm) with e | e
     · subst e;exact absurd (a1 z hm) ltP_irr
     · exact e
   · intro hm
     rcases hz.2 (.inr hm) with e | e
     · subst e;exact absurd (b1 z hm) ltP_irr
     · exact e
def putP:List Pr->Pr->List Pr
 | [],p=>[p]
 | x :: l,p=>if ltP x p=true then x :: putP l p else if x=p then x :: l else p :: x :: l
theorem mem_putP {l:List Pr} {p x:Pr}:x ∈ putP l p ↔ x=p ∨ x ∈ l:=by
 induction l with
 | nil=>simp [putP]
 | cons y l ih =>
   rw [putP]
   split
   · simp only [List.mem_cons,ih]
     constructor
     · rintro (h | h | h) <;> simp [h]
     · rintro (h | h | h) <;> simp [h]
   · split
     · rename_i h
       subst h
       simp only [List.mem_cons]
       constructor
       · intro h;exact .inr h
       · rintro (h | h)
         · exact .inl h
         · exact h
     · simp [List.mem_cons]
theorem putP_asc {l:List Pr} {p:Pr} (h:ascP l):ascP (putP l p):=by
 induction l with
 | nil=>simp [putP,ascP]
 | cons y l ih =>
   obtain ⟨a1,a2⟩:=List.pairwise_cons.1 h
   rw [putP]
   split
   · rename_i hy
     refine List.pairwise_cons.2 ⟨fun z hz=>?_,ih a2⟩
     rcases mem_putP.1 hz with e | e
     · subst e;exact hy
     · exact a1 z e
   · split
     · exact h
     · rename_i h1 h2
       have hp:ltP p y=true:=by
        rcases ltP_tri y p with e | e | e
        · exact absurd e h1
        · exact absurd e h2
        · exact e
       refine List.pairwise_cons.2 ⟨fun z hz=>?_,h⟩
       rcases List.mem_cons.1 hz with e | e
       · subst e;exact hp
       · exact ltP_trans hp (a1 z e)
/-- how the reference lays it: behind the k first ones, which are smaller -/
theorem putP_at:∀ {l:List Pr} {p:Pr} {k:Nat},k<=l.length->(∀ i x,i < k->l[i]?=some x->ltP x p=true)->(∀ x,l[k]?=some x->ltP x p=false) ->
 putP l p=if l[k]?=some p then l else l.take k ++ [p] ++ l.drop k
 | [],p,k,hk,_,_=>by
   obtain rfl:k=0:=by simpa using hk
   simp [putP]
 | y :: l,p,0,_,_,h2=>by
   have hy:=h2 y rfl
   rw [putP,if_neg (by simp [hy])]
   by_cases e:y=p
   · subst e;simp
   · rw [if_neg e];simp [e]
 | y :: l,p,k+1,hk,h1,h2=>by
   have hy:=h1 0 y (by omega) rfl
   rw [putP,if_pos hy,putP_at (l:=l) (k:=k) (by simpa using hk) (fun i x hi hx=>h1 (i+1) x (by omega) (by simpa using hx)) (fun x hx=>h2 x (by simpa using hx))]
   simp only [List.getElem?_cons_succ]
   split
   · rfl
   · simp
def psetL (xs:List Pr):List Pr:=xs.foldl putP []
theorem foldl_put (xs:List Pr):∀ (l:List Pr),ascP l->ascP (xs.foldl putP l)/\∀ x,x ∈ xs.foldl putP l ↔ x ∈ l ∨ x ∈ xs:=by
 induction xs with
 | nil=>intro l h;exact ⟨h,by simp⟩
 | cons y xs ih =>
   intro l h
   obtain ⟨h1,h2⟩:=ih _ (putP_asc (p:=y) h)
   refine ⟨h1,fun x=>?_⟩
   rw [List.foldl_cons,h2,mem_putP,List.mem_cons]
   constructor
   · rintro ((h | h) | h) <;> simp [h]
   · rintro (h | h | h) <;> simp [h]
theorem psetL_asc (xs:List Pr):ascP (psetL xs):=(foldl_put xs [] List.Pairwise.nil).1
theorem mem_psetL {xs:List Pr} {x:Pr}:x ∈ psetL xs ↔ x ∈ xs:=by rw [psetL,(foldl_put xs [] List.Pairwise.nil).2];simp
theorem psetL_of {xs ys:List Pr} (h:∀ x,x ∈ xs ↔ x ∈ ys):psetL xs=psetL ys:=uniqP (psetL_asc _) (psetL_asc _) fun x=>by rw [mem_psetL,mem_psetL,h]
theorem putP_len (l:List Pr) (p:Pr):(putP l p).length<=l.length+1:=by
 induction l with
 | nil=>simp [putP]
 | cons y l ih=>rw [putP];split <;> (try split) <;> simp <;> omega
theorem foldl_put_len (xs l:List Pr):(xs.foldl putP l).length<=l.length+xs.length:=by
 induction xs generalizing l with
 | nil=>simp
 | cons y xs ih=>have:=ih (putP l y);have:=putP_len l y;simp only [List.foldl_cons,List.length_cons];omega
theorem psetL_len (xs:List Pr):(psetL xs).length<=xs.length:=by have:=foldl_put_len xs [];simpa [psetL] using this
theorem psetL_snoc (xs:List Pr) (p:Pr):psetL (xs ++ [p])=putP (psetL xs) p:=by simp [psetL,List.foldl_append]
def keepP (xs:List Pr) (i:Nat):Bool:=i==0 || xs.getD i (0,0) != xs.getD (i - 1) (0,0)
def compTo (xs:List Pr) (k:Nat):List Pr:=((List.range k).filter (keepP xs)).map fun i=>xs.getD i (0,0)
theorem compTo_yes {xs:List Pr} {k:Nat} (h:keepP xs k=true):compTo xs (k+1)=compTo xs k ++ [xs.getD k (0,0)]:=by simp [compTo,List.range_succ,List.filter_append,h]
theorem compTo_no {xs:List Pr} {k:Nat} (h:keepP xs k=false):compTo xs (k+1)=compTo xs k:=by simp [compTo,List.range_succ,List.filter_append,h]
theorem compTo_spec {xs:List Pr} (hs:∀ i j,i < j->j < xs.length->ltP (xs.getD j (0,0)) (xs.getD i (0,0))=false):∀ k,k<=xs.length->ascP (compTo xs k)/\(∀ x,x ∈ compTo xs k ↔ x ∈ xs.take k)/\(∀ x ∈ compTo xs k,0 < k->ltP (xs.getD (k - 1) (0,0)) x=false):=by
 intro k
 induction k with
 | zero=>intro _;exact ⟨List.Pairwise.nil,by simp [compTo],by simp [compTo]⟩
 | succ k ih =>
   intro hk
   obtain ⟨h1,h2,h3⟩:=ih (by omega)
   have hxk:xs[k]?=some (xs.getD k (0,0)):=by rw [List.getD_eq_getElem?_getD,List.getElem?_eq_getElem (by omega)];rfl
   have htk:xs.take (k+1)=xs.take k ++ [xs.getD k (0,0)]:=take_snoc hxk
   have hle:∀ x ∈ compTo xs k,ltP (xs.getD k (0,0)) x=false:=fun x hx=>by
    obtain ⟨j,hj⟩:=List.getElem?_of_mem ((h2 x).1 hx)
    have hjk:j < k:=by have:=(List.getElem?_eq_some_iff.1 hj).1;rw [List.length_take] at this;omega
    rw [List.getElem?_take_of_lt hjk] at hj
    have:=hs j k hjk (by omega)
    rwa [List.getD_eq_getElem?_getD (l:=xs) (i:=j),hj] at this
   cases hkp:keepP xs k with
   | true =>
     rw [compTo_yes hkp]
     refine ⟨List.pairwise_append.2 ⟨h1,by simp,fun x hx y hy=>?_⟩,fun x=>by rw [List.mem_append,h2,htk,List.mem_append],fun x hx _=>?_⟩
     · rw [List.mem_singleton] at hy
       subst hy
       have hl:=hle x hx
       rcases Nat.eq_zero_or_pos k with h0 | h0
       · subst h0;simp [compTo] at hx
       · have h4:=h3 x hx h0
         have h5:xs.getD k (0,0) ≠ xs.getD (k - 1) (0,0):=by
          have h6:(k==0)=false:=by simp;omega
          simpa [keepP,h6] using hkp
         have h6:=hs (k - 1) k (by omega) (by omega)
         rcases ltP_tri x (xs.getD k (0,0)) with e | e | e
         · exact e
         · exfalso
           subst e
           rcases ltP_tri (xs.getD (k - 1) (0,0)) (xs.getD k (0,0)) with e | e | e
           · rw [h4] at e;cases e
           · exact h5 e.symm
           · rw [h6] at e;cases e
         · rw [hl] at e;cases e
     · simp only [Nat.add_sub_cancel]
       rcases List.mem_append.1 hx with hx | hx
       · exact hle x hx
       · rw [List.mem_singleton] at hx
         subst hx
         rw [ltP_no];omega
   | false =>
     rw [compTo_no hkp]
     have h0:0 < k:=by
      rcases Nat.eq_zero_or_pos k with h0 | h0
      · subst h0;simp [keepP] at hkp
      · exact h0
     have he:xs.getD k (0,0)=xs.getD (k - 1) (0,0):=by
      have h6:(k==0)=false:=by simp;omega
      simpa [keepP,h6] using hkp
     refine ⟨h1,fun x=>?_,fun x hx _=>?_⟩
     · rw [h2,htk,List.mem_append,List.mem_singleton]
       constructor
       · intro h;exact .inl h
       · rintro (h | h)
         · exact h
         · subst h
           rw [he]
           refine List.mem_of_getElem? (i:=k - 1) ?_
           rw [List.getElem?_take_of_lt (by omega),List.getD_eq_getElem?_getD,List.getElem?_eq_getElem (by omega)];rfl
     · simp only [Nat.add_sub_cancel]
       exact hle x hx
/-- a sorted rearrangement, its like neighbours struck out, is the set -/
theorem compTo_set {xs ys:List Pr} (hs:∀ i j,i < j->j < xs.length->ltP (xs.getD j (0,0)) (xs.getD i (0,0))=false) (hp:∀ x,x ∈ xs ↔ x ∈ ys):compTo xs xs.length=psetL ys:=by
 obtain ⟨h1,h2,_⟩:=compTo_spec hs xs.length (Nat.le_refl _)
 exact uniqP h1 (psetL_asc _) fun x=>by rw [h2,List.take_length,mem_psetL,hp]
def mergeL (a b:List Pr):List Pr:=psetL (a ++ b)
abbrev inB (x:Int):Prop:=0<=x/\x<=4
/-- n is in the range a to b -/
def wi (n a b:Int):Bool:=decide (a<=n) && decide (n<=b)
theorem wi_iff {n a b:Int}:wi n a b=true ↔ a<=n/\n<=b:=by simp [wi]
def rowOk (n:Int) (row:List Int):Bool:=row.all (fun t=>wi t (-1) (n - 1)) && (row.length==9)
def auOk (a:Au):Bool:=wi a.accept.length 1 12 && wi a.start 0 ((a.accept.length:Int) - 1) && (a.next.length==a.accept.length) && a.next.all (rowOk a.accept.length)
theorem auOk_iff {a:Au}:auOk a=true ↔ (1<=a.accept.length/\a.accept.length<=12)/\(0<=a.start/\a.start<=(a.accept.length:Int) - 1)/\a.next.length=a.accept.length/\∀ row ∈ a.next,rowOk a.accept.length row=true:=by
 simp only [auOk,Bool.and_eq_true,wi_iff,beq_iff_eq,List.all_eq_true]
 constructor
 · rintro ⟨⟨⟨h1,h2⟩,h3⟩,h4⟩
   exact ⟨by omega,h2,h3,h4⟩
 · rintro ⟨h1,h2,h3,h4⟩
   exact ⟨⟨⟨by omega,h2⟩,h3⟩,h4⟩
theorem rowOk_iff {n:Int} {row:List Int}:rowOk n row=true ↔ (∀ t ∈ row,-1<=t/\t<=n - 1)/\row.length=9:=by
 simp only [rowOk,Bool.and_eq_true,List.all_eq_true,wi_iff,beq_iff_eq]
theorem range_all_succ {p:Nat->Bool} {i:Nat} (h:(List.range i).all p=true) (hp:p i=true):(List.range (i+1)).all p=true:=by
 rw [List.range_succ,List.all_append,h]
 simp [hp]
theorem range_all_false {p:Nat->Bool} {n i:Nat} (hi:i < n) (hp:p i=false):(List.range n).all p=false:=by
 rw [List.all_eq_false]
 exact ⟨i,List.mem_range.2 hi,by simp [hp]⟩
def mem (n m:Nat):List Nat:=(List.range n).filter m.testBit
def ins (m s:Nat):Nat:=m ||| 2 ^ s
def mv (a:Au) (s l:Nat):Int:=(a.next.getD s []).getD l (-1)
theorem mv_of {a:Au} {s l:Nat} {row:List Int} {t:Int} (hr:a.next[s]?=some row) (ht:row[l]?=some t):mv a s l=t:=by
 simp [mv,List.getD,hr,ht]
/-- what the loop 'while s is a state that is not in the set' gathers -/
def clsF (a:Au) (l:Nat):Nat->Int->Nat->Nat
 | 0,_,m=>m
 | f+1,s,m=>if 0<=s/\m.testBit s.toNat=false then clsF a l f (mv a s.toNat l) (ins m s.toNat) else m
def cls (a:Au) (v s:Nat):Nat:=clsF a (6+v) 13 s 0
def accC (a:Au) (v s:Nat):Bool:=(mem 12 (cls a v s)).any fun t=>a.accept.getD t false
def acc (a:Au) (set v:Nat):Bool:=(mem 12 set).any (accC a v)
def negs (D:List Int):Nat:=D.countP (fun x=>decide (x < 0))
theorem negs_set {D:List Int} {k:Nat} {d:Int} (hk:k < D.length) (hn:D.getD k 0 < 0) (hd:0<=d):negs (D.set k d)+1=negs D:=by
 induction D generalizing k with
 | nil=>simp at hk
 | cons x D ih =>
   cases k with
   | zero =>
     simp only [List.getD_cons_zero] at hn
     have:¬ d < 0:=by omega
     simp [negs,List.countP_cons,hn,this]
   | succ k =>
     have:=ih (k:=k) (by simpa using hk) (by simpa using hn)
     simp only [negs,List.set_cons_succ,List.countP_cons] at this ⊢
     omega
/-- what holds of distances D and a queue q, with f rounds left of F -/
structure BfsI (N F f:Nat) (D:List Int) (q:List Nat):Prop where
 len:D.length=N
 queue:∀ h ∈ q,h < N/\0<=D.getD h 0
 fuel:q.length+negs D<=f
 top:∀ h,D.getD h 0+(f:Int)<=F
 low:∀ h,-1<=D.getD h 0
 fF:f<=F
theorem getD_set' {D:List Int} {k h:Nat} {d:Int} (hk:k < D.length):(D.set k d).getD h 0=if h=k then d else D.getD h 0:=by
 simp only [List.getD,List.getElem?_set]
 by_cases hh:h=k
 · subst hh;simp [hk]
 · simp [hh,Ne.symm hh]
theorem BfsI.new {N F f:Nat} {D:List Int} {q:List Nat} {k:Nat} {d:Int} (h:BfsI N F f D q) (hk:k < N) (hn:D.getD k 0 < 0) (hd:0<=d) (hdF:d+(f:Int)<=F):BfsI N F f (D.set k d) (q ++ [k]):=by
 have hkl:k < D.length:=by rw [h.len];exact hk
 refine ⟨by rw [List.length_set];exact h.len,fun x hx=>?_,?_,fun x=>?_,fun x=>?_,h.fF⟩
 · rw [getD_set' hkl]
   rcases List.mem_append.1 hx with hx | hx
   · have:=h.queue x hx
     split
     · exact ⟨this.1,hd⟩
     · exact this
   · have:x=k:=by simpa using hx
     subst this
     simp [hk,hd]
 · have:=negs_set hkl hn hd
   have:=h.fuel
   rw [List.length_append,List.length_singleton]
   omega
 · rw [getD_set' hkl]
   have:=h.top x
   split <;> omega
 · rw [getD_set' hkl]
   have:=h.low x
   split <;> omega
end Go.Proofs.YtloeghbhoflabaaDoor
namespace Go.Proofs.YtloeghbhoflabaaDoor
open Go.ChangeShapes Go.WideShapes Go.ChangeAt Go.RowKit
/-- slice value v, of n elements, at A with capacity c; element i (k cells E x) lies in a block below H -/
structure SlC {α:Type} (H:Nat) (w:World) (E:α->List Value) (k:Nat) (A:Option Addr) (xs:List α):Prop where
 at_:∀ i x,xs[i]?=some x->∃ b o,A=some ⟨b,o,none⟩/\b < H/\∀ j u,(E x)[j]?=some u->w.cell? ⟨b,o+i * k+j,none⟩=some u
theorem SlE.form {α:Type} {w:World} {E:α->List Value} {k:Nat} {v:Value} {xs:List α} (h:SlE w E k v xs) :
 ∃ A c,v=.slice A xs.length c/\xs.length<=c/\c<=9223372036854775807/\SlC w.heap.size w E k A xs:=by
 obtain ⟨A,c,rfl,h1,h2,h3⟩:=h
 exact ⟨A,c,rfl,h1,by simpa [maxLen] using h2,⟨fun i x hx=>by obtain ⟨b,o,e,_,g,h⟩:=h3 i x hx;exact ⟨b,o,e,g,h⟩⟩⟩
theorem SlC.keep {α:Type} {w w':World} {E:α->List Value} {k:Nat} {A:Option Addr} {xs:List α} (h:SlC w.heap.size w E k A xs) (hb:Below w.heap.size w w'):SlC w'.heap.size w' E k A xs :=
 ⟨fun i x hx=>by obtain ⟨b,o,e,g,h⟩:=h.at_ i x hx;exact ⟨b,o,e,Nat.lt_of_lt_of_le g hb.size,fun j u hu=>(hb.cell (p:=⟨_,_,none⟩) g).trans (h j u hu)⟩⟩
/-- an int, a bool: one cell -/
theorem SlC.int {H:Nat} {w:World} {A:Option Addr} {xs:List Int} (h:SlC H w cI 1 A xs) {i:Nat} {x:Int} (hx:xs[i]?=some x):∃ b o,A=some ⟨b,o,none⟩/\b < H/\w.cell? ⟨b,o+i,none⟩=some (.int .i64 x):=by
 obtain ⟨b,o,e,g,h⟩:=h.at_ i x hx
 exact ⟨b,o,e,g,by simpa using h 0 _ rfl⟩
theorem SlC.bool {H:Nat} {w:World} {A:Option Addr} {xs:List Bool} (h:SlC H w cB 1 A xs) {i:Nat} {x:Bool} (hx:xs[i]?=some x):∃ b o,A=some ⟨b,o,none⟩/\b < H/\w.cell? ⟨b,o+i,none⟩=some (.bool x):=by
 obtain ⟨b,o,e,g,h⟩:=h.at_ i x hx
 exact ⟨b,o,e,g,by simpa using h 0 _ rfl⟩
theorem SlC.val {H:Nat} {w:World} {A:Option Addr} {xs:List Value} (h:SlC H w cV 1 A xs) {i:Nat} {x:Value} (hx:xs[i]?=some x):∃ b o,A=some ⟨b,o,none⟩/\b < H/\w.cell? ⟨b,o+i,none⟩=some x:=by
 obtain ⟨b,o,e,g,h⟩:=h.at_ i x hx
 exact ⟨b,o,e,g,by simpa using h 0 _ rfl⟩
/-- a valid automaton: the rows lie at A2, each of nine cells -/
structure AuC (w:World) (A1 A2:Option Addr) (a:Au):Prop where
 acc:SlC w.heap.size w cB 1 A1 a.accept
 row:∀ i,i < a.accept.length->∃ b o b3 o3 c3,A2=some ⟨b,o,none⟩/\b < w.heap.size/\w.cell? ⟨b,o+i,none⟩=some (.slice (some ⟨b3,o3,none⟩) 9 c3)/\9<=c3/\c3<=9223372036854775807/\b3 < w.heap.size/\∀ l,l < 9->w.cell? ⟨b3,o3+l,none⟩=some (.int .i64 (mv a i l))
theorem AuV.form {w:World} {v:Value} {a:Au} (h:AuV 0 w.heap.size w v a) (hok:auOk a=true) :
 ∃ A1 c1 A2 c2,v=.agg #[.int .i64 a.start,.slice A1 a.accept.length c1,.slice A2 a.accept.length c2]/\a.accept.length<=c1/\c1<=9223372036854775807/\a.accept.length<=c2/\c2<=9223372036854775807/\AuC w A1 A2 a:=by
 obtain ⟨⟨-,-⟩,-,hnl,hrk⟩:=auOk_iff.1 hok
 obtain ⟨ac,nx,rfl,h1,us,h2,hul,hrows⟩:=h
 obtain ⟨A1,c1,rfl,h3,h4,h5⟩:=SlE.form h1
 obtain ⟨A2,c2,rfl,h6,h7,h8⟩:=SlE.form h2
 rw [hul,hnl] at h6 ⊢
 refine ⟨A1,c1,A2,c2,rfl,h3,h4,h6,h7,h5,fun i hi=>?_⟩
 have hin:i < a.next.length:=by omega
 have hiu:i < us.length:=by omega
 have hxi:a.next[i]?=some a.next[i]:=List.getElem?_eq_getElem hin
 obtain ⟨b,o,rfl,hb,hc⟩:=h8.val (List.getElem?_eq_getElem hiu)
 have hrl:=(rowOk_iff.1 (hrk _ (List.getElem_mem hin))).2
 obtain ⟨A3,c3,hv3,h9,h10,h11⟩:=SlE.form (hrows i us[i] _ (List.getElem?_eq_getElem hiu) hxi)
 rw [hrl] at hv3 h9
 obtain ⟨b3,o3,rfl,hb3,-⟩:=h11.int (i:=0) (List.getElem?_eq_getElem (by omega))
 refine ⟨b,o,b3,o3,c3,rfl,hb,by rw [hc,hv3],h9,h10,hb3,fun l hl=>?_⟩
 have hti:a.next[i][l]?=some a.next[i][l]:=List.getElem?_eq_getElem (by omega)
 obtain ⟨b4,o4,he,hb4,hc4⟩:=h11.int hti
 simp only [Option.some.injEq,Addr.mk.injEq,and_true] at he
 obtain ⟨rfl,rfl⟩:=he
 rw [hc4,mv_of hxi hti]
theorem AuC.keep {w w':World} {A1 A2:Option Addr} {a:Au} (h:AuC w A1 A2 a) (hb:Below w.heap.size w w'):AuC w' A1 A2 a:=by
 refine ⟨h.acc.keep hb,fun i hi=>?_⟩
 obtain ⟨b,o,b3,o3,c3,e,h1,h2,h3,h4,h5,h6⟩:=h.row i hi
 exact ⟨b,o,b3,o3,c3,e,Nat.lt_of_lt_of_le h1 hb.size,(hb.cell (p:=⟨_,_,none⟩) h1).trans h2,h3,h4,Nat.lt_of_lt_of_le h5 hb.size,fun l hl=>(hb.cell (p:=⟨_,_,none⟩) h5).trans (h6 l hl)⟩
/-- a graph: values at A1, edges at A2 -/
theorem GrV.form {w:World} {v:Value} {g:Gr} (h:GrV 0 w.heap.size w v g) :
 ∃ A1 c1 A2 c2,v=.agg #[.slice A1 g.vals.length c1,.slice A2 g.edges.length c2]/\g.vals.length<=c1/\c1<=9223372036854775807/\g.edges.length<=c2/\c2<=9223372036854775807/\SlC w.heap.size w cI 1 A1 g.vals/\SlC w.heap.size w cEd 4 A2 g.edges:=by
 obtain ⟨vs,es,rfl,h1,h2⟩:=h
 obtain ⟨A1,c1,rfl,h3,h4,h5⟩:=SlE.form h1
 obtain ⟨A2,c2,rfl,h6,h7,h8⟩:=SlE.form h2
 exact ⟨A1,c1,A2,c2,rfl,h3,h4,h6,h7,h5,h8⟩
theorem WkV.form {w:World} {v:Value} {k:Wk} (h:WkV 0 w.heap.size w v k) :
 ∃ A1 c1,v=.agg #[.int .i64 k.1,.slice A1 k.2.length c1]/\k.2.length<=c1/\c1<=9223372036854775807/\SlC w.heap.size w cSt 2 A1 k.2:=by
 obtain ⟨ss,rfl,h1⟩:=h
 obtain ⟨A1,c1,rfl,h3,h4,h5⟩:=SlE.form h1
 exact ⟨A1,c1,rfl,h3,h4,h5⟩
/-- a natural number as one cell -/
def cN (x:Nat):List Value:=[.int .i64 (x:Int)]
theorem SlC.nat {H:Nat} {w:World} {A:Option Addr} {xs:List Nat} (h:SlC H w cN 1 A xs) {i:Nat} {x:Nat} (hx:xs[i]?=some x):∃ b o,A=some ⟨b,o,none⟩/\b < H/\w.cell? ⟨b,o+i,none⟩=some (.int .i64 (x:Int)):=by
 obtain ⟨b,o,e,g,h⟩:=h.at_ i x hx
 exact ⟨b,o,e,g,by simpa using h 0 _ rfl⟩
theorem Own.form {α:Type} {lo:Nat} {w:World} {e:TypeId} {E:α->List Value} {k:Nat} {v:Value} {xs:List α} (h:Own lo w.heap.size w e E k v xs) (hE:∀ x,(E x).length=k) :
 ∃ A c,v=.slice A xs.length c/\xs.length<=c/\c<=9223372036854775807/\SlC w.heap.size w E k A xs:=SlE.form ((h.sl hE).all (Nat.le_refl _))
section
variable {α:Type} {w w':World} {base:Nat} {oT rT e:TypeId} {E:α->List Value} {k:Nat} {g:Nat} {hs:List Value} {xss:List (List α)} {v:Value} {n:Nat} {cs:List Value}
theorem ownsRow_block (h:w.ownsRow base e k v n cs) (hb:∀ g,v.ownBlock=some g->w'.heap[g]?=w.heap[g]?):w'.ownsRow base e k v n cs:=by
 obtain ⟨hl,h⟩:=h
 refine ⟨hl,?_⟩
 rcases h with h | ⟨g,cap,cur,rfl,hg,hh,r⟩
 · exact .inl h
 · exact .inr ⟨g,cap,cur,rfl,hg,(hb g rfl).trans hh,r⟩
theorem ownsRow_mono (h:w.ownsRow base e k v n cs) {b:Nat} (hb:b<=base):w.ownsRow b e k v n cs:=by
 obtain ⟨hl,h⟩:=h
 refine ⟨hl,?_⟩
 rcases h with h | ⟨g,cap,cur,rfl,hg,r⟩
 · exact .inl h
 · exact .inr ⟨g,cap,cur,rfl,by omega,r⟩
structure Rws {α:Type} (w:World) (base:Nat) (oT rT:TypeId) (E:α->List Value) (k:Nat) (g:Nat) (hs:List Value) (xss:List (List α)):Prop where
 own:w.ownsRow g oT 1 (.slice (some ⟨g,0,none⟩) hs.length hs.length) hs.length hs
 len:hs.length=xss.length
 row:∀ (i:Nat) (h:Value) (xs:List α),hs[i]?=some h->xss[i]?=some xs->w.ownsRow base rT k h xs.length (xs.flatMap E)
 far:∀ (i:Nat) (h:Value),hs[i]?=some h->h.ownBlock ≠ some g
 apart:∀ (i j:Nat) (h h':Value),i ≠ j->hs[i]?=some h->hs[j]?=some h'->h.ownBlock=none ∨ h.ownBlock ≠ h'.ownBlock
theorem Rws.blocks (h:Rws w base oT rT E k g hs xss) (hb:∀ b,(b=g ∨ base<=b)->b < w.heap.size->w'.heap[b]?=w.heap[b]?):Rws w' base oT rT E k g hs xss:=by
 refine ⟨ownsRow_block h.own fun b hb'=>hb b (.inl (by simpa [Value.ownBlock] using hb'.symm)) (h.own.lt b hb').2,h.len,fun i v xs hi hx=>?_,h.far,h.apart⟩
 have:=h.row i v xs hi hx
 exact ownsRow_block this fun b hb'=>hb b (.inr (this.lt b hb').1) (this.lt b hb').2
theorem Rws.below (h:Rws w base oT rT E k g hs xss) (hb:Below w.heap.size w w'):Rws w' base oT rT E k g hs xss:=h.blocks fun b _ hlt=>hb.block b hlt
theorem Rws.gLt (h:Rws w base oT rT E k g hs xss):g<=g/\g < w.heap.size:=h.own.lt g rfl
theorem Rws.cell (h:Rws w base oT rT E k g hs xss) {i:Nat} {v:Value} (hi:hs[i]?=some v):w.cell? ⟨g,i,none⟩=some v :=
 (World.ownsRow.cellAt h.own i (by have:=(List.getElem?_eq_some_iff.1 hi).1;omega)).trans hi
theorem Rws.frozen (h:Rws w base oT rT E k g hs xss) (i:Nat):w.frozen? ⟨g,i,none⟩=false:=World.ownsRow.frozenAt h.own i
theorem Rws.made (h:w.ownsRow g oT 1 (.slice (some ⟨g,0,none⟩) n n) n ((List.replicate n (Value.slice none 0 0)).flatMap cV)):Rws w base oT rT E k g (List.replicate n (.slice none 0 0)) (List.replicate n ([]:List α)):=by
 have hf:∀ n,(List.replicate n (Value.slice none 0 0)).flatMap cV=List.replicate n (.slice none 0 0):=by
  intro n
  induction n with
  | zero=>rfl
  | succ n ih=>rw [List.replicate_succ,List.flatMap_cons,ih];rfl
 have hv:∀ {i:Nat} {h:Value},(List.replicate n (Value.slice none 0 0))[i]?=some h->h=.slice none 0 0:=by
  intro i h hi
  rw [List.getElem?_replicate] at hi
  split at hi
  · injection hi with hi;exact hi.symm
  · cases hi
 rw [hf] at h
 refine ⟨by simpa using h,by simp,fun i h xs hi hx=>?_,fun i h hi=>?_,fun i j h h' _ hi _=>.inl ?_⟩
 · have:=hv hi
   subst this
   have hx':xs=[]:=by
    rw [List.getElem?_replicate] at hx
    split at hx
    · injection hx with hx;exact hx.symm
    · cases hx
   subst hx'
   exact World.ownsRow_nil w base rT k
 · have:=hv hi
   subst this
   simp [Value.ownBlock]
 · have:=hv hi
   subst this
   rfl
/-- row i grows by x: the append law's words, then the store of the new header -/
theorem Rws.push (h:Rws w base oT rT E k g hs xss) {i:Nat} {hv:Value} {xs:List α} {x:α} {v':Value} {g2:Nat} (hi:hs[i]?=some hv) (hx:xss[i]?=some xs)
 (hown:w'.ownsRow base rT k v' (xs ++ [x]).length ((xs ++ [x]).flatMap E)) (hg:w.grownBy w' hv.ownBlock) (hv':v'.ownBlock=some g2) (hat:hv.ownBlock=some g2 ∨ w.heap.size<=g2) :
 Rws (w'.setCell ⟨g,i,none⟩ v') base oT rT E k g (hs.set i v') (xss.set i (xs ++ [x])):=by
 have hgl:=h.gLt
 have hil:=(List.getElem?_eq_some_iff.1 hi).1
 have hfar:=h.far i hv hi
 have hg2:g2 ≠ g:=by
  rcases hat with h1 | h1
  · intro e;subst e;exact hfar h1
  · omega
 have hset:∀ b,b ≠ g->(w'.setCell ⟨g,i,none⟩ v').heap[b]?=w'.heap[b]?:=fun b hb=>Below.heap_setCell _ _ _ _ hb
 have ho1:w'.ownsRow g oT 1 (.slice (some ⟨g,0,none⟩) hs.length hs.length) hs.length hs:=h.own.kept hg (.inr (by simpa [Value.ownBlock] using Ne.symm hfar))
 have ho2:=(World.ownsRow.stored ho1 i v').1
 refine ⟨by simpa using ho2,by simp [h.len],fun j u ys hj hy=>?_,fun j u hj=>?_,fun j l u u' hjl hj hl=>?_⟩
 · rw [List.getElem?_set] at hj hy
   by_cases e:i=j
   · subst e
     rw [if_pos rfl] at hj hy
     rw [if_pos hil] at hj
     rw [if_pos (by rw [<- h.len];exact hil)] at hy
     injection hj with hj
     injection hy with hy
     subst hj hy
     exact ownsRow_block hown fun b hb=>hset b (by rw [hv'] at hb;injection hb with hb;omega)
   · rw [if_neg e] at hj hy
     have hr:=h.row j u ys hj hy
     have hr2:w'.ownsRow base rT k u ys.length (ys.flatMap E):=hr.kept hg (h.apart j i u hv (Ne.symm e) hj hi)
     exact ownsRow_block hr2 fun b hb=>hset b (by intro e2;subst e2;exact h.far j u hj hb)
 · rw [List.getElem?_set] at hj
   by_cases e:i=j
   · subst e
     rw [if_pos rfl,if_pos hil] at hj
     injection hj with hj
     subst hj
     rw [hv']
     simpa using hg2
   · rw [if_neg e] at hj
     exact h.far j u hj
 · have hold:∀ (j:Nat) (u:Value),j ≠ i->hs[j]?=some u->u.ownBlock=none ∨ u.ownBlock ≠ some g2:=by
    intro j u hji hj
    rcases hat with h1 | h1
    · rcases h.apart j i u hv hji hj hi with h2 | h2
      · exact .inl h2
      · rw [h1] at h2;exact .inr h2
    · cases hu:u.ownBlock with
      | none=>exact .inl rfl
      | some b =>
        refine .inr ?_
        have hjl:=(List.getElem?_eq_some_iff.1 hj).1
        have hjx:j < xss.length:=by rw [<- h.len];exact hjl
        have hr:=h.row j u xss[j] hj (List.getElem?_eq_getElem hjx)
        have:=(hr.lt b hu).2
        simp only [ne_eq,Option.some.injEq]
        omega
   rw [List.getElem?_set] at hj hl
   by_cases e:i=j
   · subst e
     rw [if_neg hjl] at hl
     rw [if_pos rfl,if_pos hil] at hj
     injection hj with hj
     subst hj
     refine .inr ?_
     rw [hv']
     rcases hold l u' (Ne.symm hjl) hl with h1 | h1
     · rw [h1];simp
     · exact Ne.symm h1
   · rw [if_neg e] at hj
     by_cases e2:i=l
     · subst e2
       rw [if_pos rfl,if_pos hil] at hl
       injection hl with hl
       subst hl
       rw [hv']
       exact hold j u (Ne.symm e) hj
     · rw [if_neg e2] at hl
       exact h.apart j l u u' hjl hj hl
/-- a slice of slices of E's that is only read; its blocks lie from lo to hi -/
def SSE {α:Type} (lo hi:Nat) (w:World) (E:α->List Value) (k:Nat) (v:Value) (xss:List (List α)):Prop :=
 ∃ A c,v=.slice A xss.length c/\xss.length<=c/\c<=9223372036854775807 /\
   ∀ (i:Nat) (xs:List α),xss[i]?=some xs->∃ b o u,A=some ⟨b,o,none⟩/\lo<=b/\b < hi/\w.cell? ⟨b,o+i,none⟩=some u/\SlI lo hi w E k u xs
theorem SSE.keep_ {lo hi:Nat} {v:Value} (h:SSE lo hi w E k v xss) (hb:∀ b o,lo<=b->b < hi->w'.cell? ⟨b,o,none⟩=w.cell? ⟨b,o,none⟩):SSE lo hi w' E k v xss:=by
 obtain ⟨A,c,h1,h2,h3,h4⟩:=h
 refine ⟨A,c,h1,h2,h3,fun i xs hx=>?_⟩
 obtain ⟨b,o,u,g1,g2,g3,g4,g5⟩:=h4 i xs hx
 exact ⟨b,o,u,g1,g2,g3,(hb _ _ g2 g3).trans g4,g5.keep_ hb⟩
theorem SSE.below {lo hi:Nat} {v:Value} (h:SSE lo hi w E k v xss) {B:Nat} (hb:Below B w w') (hB:hi<=B):SSE lo hi w' E k v xss:=h.keep_ fun b o _ h2=>hb.cell (p:=⟨b,o,none⟩) (show b < B by omega)
theorem SSE.only {lo hi l r:Nat} {v:Value} (h:SSE lo hi w E k v xss) (hb:Only l r w w') (hh:hi<=w.heap.size) (ho:hi<=l ∨ r<=lo):SSE lo hi w' E k v xss :=
 h.keep_ fun b o h1 h2=>hb.cell (p:=⟨b,o,none⟩) (show b < _ by omega) (show b < l ∨ r<=b by omega)
theorem SSE.mono {lo hi lo' hi':Nat} {v:Value} (h:SSE lo hi w E k v xss) (h1:lo'<=lo) (h2:hi<=hi'):SSE lo' hi' w E k v xss:=by
 obtain ⟨A,c,e1,e2,e3,h4⟩:=h
 refine ⟨A,c,e1,e2,e3,fun i xs hx=>?_⟩
 obtain ⟨b,o,u,g1,g2,g3,g4,g5⟩:=h4 i xs hx
 exact ⟨b,o,u,g1,by omega,by omega,g4,g5.mono h1 h2⟩
theorem SSE.keep {v:Value} (h:SSE 0 w.heap.size w E k v xss) (hb:Below w.heap.size w w'):SSE 0 w'.heap.size w' E k v xss:=(h.below hb (Nat.le_refl _)).mono (Nat.le_refl _) hb.size
theorem SSE.shape {lo hi:Nat} {v:Value} (h:SSE lo hi w E k v xss):∃ A c,v=.slice A xss.length c/\xss.length<=c/\c<=9223372036854775807:=by
 obtain ⟨A,c,e1,e2,e3,_⟩:=h
 exact ⟨A,c,e1,e2,e3⟩
/-- row i, as a walk wants it -/
theorem SSE.row {lo hi:Nat} {A:Option Addr} {n c:Nat} (h:SSE lo hi w E k (.slice A n c) xss) (hh:hi<=w.heap.size) {i:Nat} {xs:List α} (hx:xss[i]?=some xs) :
 ∃ b o A3 c3,A=some ⟨b,o,none⟩/\lo<=b/\b < hi/\w.cell? ⟨b,o+i,none⟩=some (.slice A3 xs.length c3)/\xs.length<=c3/\c3<=9223372036854775807/\SlI lo hi w E k (.slice A3 xs.length c3) xs/\SlC w.heap.size w E k A3 xs:=by
 obtain ⟨A',c',e1,e2,e3,h4⟩:=h
 obtain ⟨b,o,u,g1,g2,g3,g4,g5⟩:=h4 i xs hx
 injection e1 with e1 _ _
 subst e1
 obtain ⟨A3,c3,rfl,f1,f2,f3⟩:=SlE.form (g5.all hh)
 exact ⟨b,o,A3,c3,g1,g2,g3,g4,f1,f2,g5,f3⟩
end
section
variable {P:Program} {w:World}
/-- append(s, x) at a step of a region that draws its order; the one element lies in block H -/
theorem step_append1 {α:Type} (E:α->List Value) {ops:Array Oper} {o:Oper} {a:Act} {K:Act->World->Prop} {Q:Exit->Act->World->Prop} {EE:Prop} {t e:TypeId} {z:Value} {k bytes:Nat} (el:ElemOk P t e z k bytes)
 (hgd:o.guard=none) (s y:Operand) (ho:o.op=.call { callee:=.builtin .append,args:=#[s,y],argTypes:=#[t,t] })
 (base:Nat) (v:Value) (xs:List α) (x:α) (c H:Nat) (hs:a.eval s=v) (hown:w.ownsRow base e k v xs.length (xs.flatMap E)) (hy:a.eval y=.slice (some ⟨H,0,none⟩) 1 c)
 (hH:w.heap[H]?=some (.cells (E x).toArray e (0,0))) (hE:(E x).length=k) (h1:∀ u ∈ E x,u.oneCell'=true) (hbytes:(xs.length+1) * bytes<=140737488355328) (hb0:0 < bytes) (hbase:base<=w.heap.size)
 (h:∀ g cap w',w'.ownsRow base e k (.slice (some ⟨g,0,none⟩) (xs.length+1) cap) (xs ++ [x]).length ((xs ++ [x]).flatMap E)->w.grownBy w' v.ownBlock->(v.ownBlock=some g ∨ w.heap.size<=g)->g < w'.heap.size ->
  K (a.put o.dst (.slice (some ⟨g,0,none⟩) (xs.length+1) cap)) w') :
 if Region.wanted o (yielded ops a.tmps)=true then Oper.wp P o a w K Q else EE:=by
 obtain ⟨i,hi,hz0,hz1,hz2⟩:=info_parts el.info
 have hlen:xs.length+1<=140737488355328:=Nat.le_trans (Nat.le_mul_of_pos_right _ hb0) hbytes
 refine step_append_lies w hgd s y t ho base e i z k bytes el.und hi hz0 hz1 hz2 el.zc el.pos v xs.length (xs.flatMap E) hs hown ⟨H,0,none⟩ 1 c (E x) hy (by rw [hE,Nat.one_mul])
  (by have:=World.news_of_block hH;simpa using this) h1 (by omega) (by unfold maxLen;omega) hbytes hbase w.heap.size rfl fun g cap w' h2 h3 h4 h5=>?_
 refine h g cap w' (by simpa using h2) h3 ?_ h5
 rcases h4 with h4 | h4
 · exact .inl h4
 · exact .inr (by omega)
end
theorem SlI.nat {lo hi:Nat} {w:World} {A:Option Addr} {n c:Nat} {xs:List Nat} (h:SlI lo hi w cN 1 (.slice A n c) xs) {i:Nat} {x:Nat} (hx:xs[i]?=some x) :
 ∃ b o,A=some ⟨b,o,none⟩/\lo<=b/\b < hi/\w.cell? ⟨b,o+i,none⟩=some (.int .i64 (x:Int)):=by
 obtain ⟨A',c',hv,_,_,h3⟩:=h
 injection hv with h1 _ _
 subst h1
 obtain ⟨b,o,e,g1,g2,hc⟩:=h3 i x hx
 exact ⟨b,o,e,g1,g2,by simpa using hc 0 _ rfl⟩
section
variable {H b o:Nat} {w:World}
end
theorem flatCV (l:List Value):l.flatMap cV=l:=by
 induction l with
 | nil=>rfl
 | cons x l ih=>rw [List.flatMap_cons,ih];rfl
/-- the blocks that slices hold -/
abbrev blks (us:List Value):List Nat:=us.filterMap Value.ownBlock
structure NS {α:Type} (lo:Nat) (w:World) (oT eT:TypeId) (E:α->List Value) (k:Nat) (v:Value) (us:List Value) (xss:List (List α)):Prop where
 own:w.ownsRow lo oT 1 v us.length (us.flatMap cV)
 len:us.length=xss.length
 rows:∀ (i:Nat) (u:Value) (xs:List α),us[i]?=some u->xss[i]?=some xs->w.ownsRow lo eT k u xs.length (xs.flatMap E)
 dis:(blks (v :: us)).Nodup
section
variable {α:Type} {lo:Nat} {w w':World} {oT eT:TypeId} {E:α->List Value} {k:Nat} {v:Value} {us:List Value} {xss:List (List α)}
theorem mem_blks {us:List Value} {b:Nat}:b ∈ blks us ↔ ∃ (i:Nat) (u:Value),us[i]?=some u/\u.ownBlock=some b:=by
 rw [List.mem_filterMap]
 constructor
 · rintro ⟨u,hu,hb⟩
   obtain ⟨i,hi⟩:=List.getElem?_of_mem hu
   exact ⟨i,u,hi,hb⟩
 · rintro ⟨i,u,hu,hb⟩
   exact ⟨u,List.mem_of_getElem? hu,hb⟩
theorem NS.lt (h:NS lo w oT eT E k v us xss):∀ b ∈ blks (v :: us),lo<=b/\b < w.heap.size:=by
 intro b hb
 obtain ⟨i,u,hu,hbu⟩:=mem_blks.1 hb
 cases i with
 | zero =>
   simp only [List.getElem?_cons_zero,Option.some.injEq] at hu
   subst hu
   exact h.own.lt b hbu
 | succ i =>
   rw [List.getElem?_cons_succ] at hu
   have hi:i < xss.length:=by rw [<- h.len];exact (List.getElem?_eq_some_iff.1 hu).1
   exact (h.rows i u _ hu (List.getElem?_eq_getElem hi)).lt b hbu
theorem NS.blocks (h:NS lo w oT eT E k v us xss) (hb:∀ b ∈ blks (v :: us),w'.heap[b]?=w.heap[b]?):NS lo w' oT eT E k v us xss :=
 ⟨ownsRow_block h.own fun g hg=>hb g (mem_blks.2 ⟨0,v,rfl,hg⟩),h.len,
  fun i u xs hu hx=>ownsRow_block (h.rows i u xs hu hx) fun g hg=>hb g (mem_blks.2 ⟨i+1,u,by simpa using hu,hg⟩),h.dis⟩
theorem NS.below (h:NS lo w oT eT E k v us xss) (hb:Below w.heap.size w w'):NS lo w' oT eT E k v us xss:=h.blocks fun b hm=>hb.block b (h.lt b hm).2
theorem NS.mono (h:NS lo w oT eT E k v us xss) {lo':Nat} (hl:lo'<=lo):NS lo' w oT eT E k v us xss :=
 ⟨ownsRow_mono h.own hl,h.len,fun i u xs hu hx=>ownsRow_mono (h.rows i u xs hu hx) hl,h.dis⟩
theorem NS.start (h:w.ownsRow lo oT 1 v 0 []):NS lo w oT eT E k v [] ([]:List (List α)) :=
 ⟨h,rfl,fun i u xs hu _=>by simp at hu,by cases hv:v.ownBlock <;> simp [hv]⟩
theorem NS.push (h:NS lo w oT eT E k v us xss) {u:Value} {xs:List α} (hu:w.ownsRow lo eT k u xs.length (xs.flatMap E)) (hn:∀ b,u.ownBlock=some b->b ∉ blks (v :: us))
 {v':Value} (hg:w.grownBy w' v.ownBlock) (hr:w'.ownsRow lo oT 1 v' (us ++ [u]).length ((us ++ [u]).flatMap cV)) (hat:∀ g,v'.ownBlock=some g->v.ownBlock=some g ∨ w.heap.size<=g) :
 NS lo w' oT eT E k v' (us ++ [u]) (xss ++ [xs]):=by
 have hdis:=h.dis
 have hkeep:∀ (u':Value) (n:Nat) (cs:List Value),w.ownsRow lo eT k u' n cs->(∀ b,u'.ownBlock=some b->v.ownBlock ≠ some b)->w'.ownsRow lo eT k u' n cs:=fun u' n cs ho hne=>by
  refine ho.kept hg ?_
  cases hb:u'.ownBlock with
  | none=>exact .inl rfl
  | some b=>exact .inr fun e=>hne b hb e.symm
 have hv0:∀ b,v.ownBlock=some b->b ∉ blks us:=fun b hb=>by
  rw [blks,List.filterMap_cons,hb] at hdis
  exact (List.nodup_cons.1 hdis).1
 refine ⟨hr,by simp [h.len],fun i u' xs' hi hx=>?_,?_⟩
 · rcases Nat.lt_or_ge i us.length with hlt | hge
   · rw [List.getElem?_append_left hlt] at hi
     rw [List.getElem?_append_left (by rw [<- h.len];exact hlt)] at hx
     exact hkeep _ _ _ (h.rows i u' xs' hi hx) fun b hb hvb=>hv0 b hvb (mem_blks.2 ⟨i,u',hi,hb⟩)
   · have hi2:=(List.getElem?_eq_some_iff.1 hi).1
     simp only [List.length_append,List.length_singleton] at hi2
     obtain rfl:i=us.length:=by omega
     have e1:u=u':=by simpa using hi
     have e2:xs=xs':=by rw [h.len] at hx;simpa using hx
     subst e1 e2
     exact hkeep _ _ _ hu fun b hb hvb=>hn b hb (mem_blks.2 ⟨0,v,rfl,hvb⟩)
 · have hlt:=h.lt
   have hus:(blks us).Nodup:=by
    cases hv:v.ownBlock with
    | none=>simpa [blks,List.filterMap_cons,hv] using hdis
    | some b=>rw [blks,List.filterMap_cons,hv] at hdis;exact (List.nodup_cons.1 hdis).2
   have hnu:∀ b,u.ownBlock=some b->b ∉ blks us:=fun b hb hm=>hn b hb (by
    obtain ⟨i,u',h1,h2⟩:=mem_blks.1 hm
    exact mem_blks.2 ⟨i+1,u',by simpa using h1,h2⟩)
   have hall:(blks (us ++ [u])).Nodup:=by
    rw [blks,List.filterMap_append]
    cases hub:u.ownBlock with
    | none=>simpa [List.filterMap_cons,hub] using hus
    | some b =>
      rw [List.filterMap_cons,hub]
      refine List.nodup_append.2 ⟨hus,by simp,?_⟩
      intro x hx y hy e
      simp only [List.filterMap_nil,List.mem_cons,List.not_mem_nil,or_false] at hy
      subst hy
      subst e
      exact hnu _ hub hx
   rw [blks,List.filterMap_cons]
   cases hv':v'.ownBlock with
   | none=>exact hall
   | some g =>
     refine List.nodup_cons.2 ⟨fun hm=>?_,hall⟩
     obtain ⟨i,u',hi,hb⟩:=mem_blks.1 hm
     rcases Nat.lt_or_ge i us.length with hl | hge
     · rw [List.getElem?_append_left hl] at hi
       rcases hat g hv' with h1 | h1
       · exact hv0 g h1 (mem_blks.2 ⟨i,u',hi,hb⟩)
       · have:=(hlt g (mem_blks.2 ⟨i+1,u',by simpa using hi,hb⟩)).2
         omega
     · have hi2:=(List.getElem?_eq_some_iff.1 hi).1
       simp only [List.length_append,List.length_singleton] at hi2
       obtain rfl:i=us.length:=by omega
       have e1:u=u':=by simpa using hi
       subst e1
       rcases hat g hv' with h1 | h1
       · exact hn g hb (mem_blks.2 ⟨0,v,rfl,h1⟩)
       · have:=(hu.lt g hb).2
         omega
/-- what is read of it: the header of row i, and the row -/
theorem NS.row (h:NS lo w oT eT E k v us xss) (hE:∀ x,(E x).length=k) {i:Nat} {xs:List α} (hx:xss[i]?=some xs) :
 ∃ g cap A c,v=.slice (some ⟨g,0,none⟩) xss.length cap/\us[i]?=some (.slice A xs.length c)/\g < w.heap.size/\w.cell? ⟨g,i,none⟩=some (.slice A xs.length c)/\xs.length<=c/\c<=maxLen/\SlI lo w.heap.size w E k (.slice A xs.length c) xs:=by
 have hi:i < us.length:=by rw [h.len];exact (List.getElem?_eq_some_iff.1 hx).1
 have hu:us[i]?=some us[i]:=List.getElem?_eq_getElem hi
 have hr:=h.rows i _ xs hu hx
 generalize us[i]=u at hu hr
 have hsl:=(Own.of_row (xs:=xs) hr rfl rfl).sl hE
 have hsl':=hsl
 obtain ⟨A,c,rfl,hl,hm,-⟩:=hsl'
 have hown:=h.own
 have hlt:=h.own.lt
 rw [flatCV] at hown
 have hown2:=hown
 obtain ⟨h1,h2⟩:=hown2
 rcases h2 with ⟨rfl,h3⟩ | ⟨g,cap,cur,rfl,r⟩
 · omega
 · refine ⟨g,cap,A,c,by rw [h.len],hu,(hlt g rfl).2,?_,hl,hm,hsl⟩
   rw [World.ownsRow.cellAt hown i (by omega)]
   exact hu
theorem NS.at (h:NS lo w oT eT E k v us xss) (hE:∀ x,(E x).length=k) {g n cap:Nat} (hv:v=.slice (some ⟨g,0,none⟩) n cap) {i:Nat} {xs:List α} (hx:xss[i]?=some xs) :
 ∃ A c,w.cell? ⟨g,i,none⟩=some (.slice A xs.length c)/\xs.length<=c/\c<=9223372036854775807/\SlI lo w.heap.size w E k (.slice A xs.length c) xs:=by
 obtain ⟨g',cap',A,c,hv',-,-,hc,h1,h2,h3⟩:=h.row hE hx
 rw [hv] at hv'
 injection hv' with e1 _ _
 injection e1 with e1
 injection e1 with e1
 subst e1
 exact ⟨A,c,hc,h1,h2,h3⟩
/-- a row that is not empty has a block of its own -/
theorem own_some {W:World} {base k n:Nat} {e:TypeId} {v:Value} {cs:List Value} (h:W.ownsRow base e k v n cs) (hn:n ≠ 0):∃ g c,v=.slice (some ⟨g,0,none⟩) n c/\base<=g/\g < W.heap.size/\n<=c/\c<=9223372036854775807:=by
 have hlt:=h.lt
 obtain ⟨h1,h2⟩:=h
 rcases h2 with ⟨rfl,h3⟩ | ⟨g,cap,cur,rfl,h4,h5,h6,h7,r⟩
 · exact absurd h3 hn
 · exact ⟨g,cap,rfl,h4,(hlt g rfl).2,h6,h7⟩
theorem NS.shape (h:NS lo w oT eT E k v us xss):∃ A c,v=.slice A xss.length c/\xss.length<=c/\c<=maxLen:=by
 obtain ⟨h1,h2⟩:=h.own
 rcases h2 with ⟨rfl,h3⟩ | ⟨g,cap,cur,rfl,h4,h5,h6,h7,r⟩
 · exact ⟨none,0,by rw [<- h.len,h3],by rw [<- h.len,h3];exact Nat.le_refl _,by unfold maxLen;omega⟩
 · exact ⟨_,cap,by rw [h.len],by rw [<- h.len];exact h6,h7⟩
end
end Go.Proofs.YtloeghbhoflabaaDoor
namespace Go.Proofs.YtloeghbhoflabaaDoor
open Go.RowKit
section
variable {P:Program} {ops:Array Oper} {Q:Exit->Act->World->Prop} {md:Region.Mode} {S:World->Prop} {n:Nat}
/-- whatever order is picked; S holds behind each operation below n -/
def wpAnyF (P:Program) (md:Region.Mode) (ops:Array Oper) (Q:Exit->Act->World->Prop) (S:World->Prop) (n:Nat):Nat->Array Bool->Act->World->Prop
 | 0,listed,a,w=>Region.ready md ops listed=[]/\Q .normal a w
 | f+1,listed,a,w=>(Region.ready md ops listed=[]->Q .normal a w) /\
   ∀ i ∈ Region.ready md ops listed,wpOp P ops Q i (fun a' w'=>(i < n->S w')/\wpAnyF P md ops Q S n f (listed.setIfInBounds i true) a' w') a w
theorem F_any:∀ (f:Nat) (listed:Array Bool) (a:Act) (w:World),wpAnyF P md ops Q S n f listed a w->wpAny P md ops Q f listed a w
 | 0,_,_,_,h=>h
 | f+1,_,_,_,h=>⟨h.1,fun i hi=>wpOp_mono (fun _ _ h'=>F_any f _ _ _ h'.2) (h.2 i hi)⟩
theorem F_first {i:Nat} {oi:Oper} {v:Value} (hi:ops[i]?=some oi) (hsel:∀ (j:Nat) (o:Oper) cs b,ops[j]?=some o->o.op ≠ .select cs b) (hQ:∀ c a w,Q (.panic c) (a.put oi.dst v) w->Q (.panic c) a w)
 (hs:Region.sinkB md ops n=true) (hc:Region.chainB md ops n=true) (hn:n < ops.size) (hin:i < n):∀ (f:Nat) (listed:Array Bool) (a:Act) (w:World),HeadInv md ops n listed ->
  (∀ j oj,ops[j]?=some oj->j ≠ i->listed.getD j true=false->(∀ e ∈ oj.after,Region.binds md e=true->e.on ≠ i)->oi.apart ops oj=true) ->
  i ∈ Region.ready md ops listed->YieldsIf P ops S oi v a->S w ->
  wpAnyF P md ops Q S n f (listed.setIfInBounds i true) (a.put oi.dst v) w->wpAnyF P md ops Q S n (f+1) listed a w:=by
 intro f
 induction f with
 | zero =>
   intro listed a w inv _ hr hy hS H
   have hun:=(mem_ready.1 hr).1
   refine ⟨fun h=>(by rw [h] at hr;cases hr),fun j hj=>?_⟩
   by_cases hji:j=i
   · subst hji;exact hy.wpOp hi hS ⟨fun _=>hS,H⟩
   · have:=ready_mono hj hji
     rw [H.1] at this
     cases this
 | succ f ih =>
   intro listed a w inv hfree hr hy hS H
   have hun:=(mem_ready.1 hr).1
   refine ⟨fun h=>(by rw [h] at hr;cases hr),fun j hj=>?_⟩
   have hjn:j < n:=by
    rcases Nat.lt_or_ge j n with h | h
    · exact h
    · exact absurd hj (tail_waits hs hc hn inv _ i rfl hin hun j h)
   by_cases hji:j=i
   · subst hji;exact hy.wpOp hi hS ⟨fun _=>hS,H⟩
   · have h1:=H.2 j (ready_mono hj hji)
     obtain ⟨hjun,oj,hoj,hall⟩:=mem_ready.1 hj
     have hnot:∀ e ∈ oj.after,Region.binds md e=true->e.on ≠ i:=fun e he hb heq=>by
      have h1:=hall e he hb
      rw [heq,getD_both hun] at h1
      cases h1
     have h2:=wpOp_putIf hoj (hfree j oj hoj hji hjun hnot) (fun cs b=>hsel i oi cs b hi) (fun cs b=>hsel j oj cs b hoj) hQ hy h1
     have hfree':∀ k ok,ops[k]?=some ok->k ≠ i->(listed.setIfInBounds j true).getD k true=false->(∀ e ∈ ok.after,Region.binds md e=true->e.on ≠ i)->oi.apart ops ok=true:=fun k ok hk hki hun hno=>by
      refine hfree k ok hk hki ?_ hno
      by_cases hjk:j=k
      · subst hjk;exact hjun
      · rw [getD_set_ne true hjk] at hun;exact hun
     refine wpOp_mono (fun a' w' h3=>⟨h3.2.1,ih (listed.setIfInBounds j true) a' w' (inv.set hj hjn) hfree' (ready_mono hr (Ne.symm hji)) h3.1 (h3.2.1 hjn) ?_⟩) h2
     rw [Array.setIfInBounds_comm _ _ hji]
     exact h3.2.2
theorem F_take {i:Nat} {oi:Oper} {v:Value} {f:Nat} {listed:Array Bool} {a:Act} {w:World} (hi:ops[i]?=some oi) (hB:(Region.noSelect ops && Region.sinkB md ops n && Region.chainB md ops n && decide (n < ops.size) && decide (i < n))=true)
 (hf:Region.free md ops listed i=true) (hr:(Region.ready md ops listed).contains i=true) (hQ:∀ c a w,Q (.panic c) (a.put oi.dst v) w->Q (.panic c) a w) (inv:HeadInv md ops n listed) (hy:YieldsIf P ops S oi v a) (hS:S w)
 (h:HeadInv md ops n (listed.setIfInBounds i true)->wpAnyF P md ops Q S n f (listed.setIfInBounds i true) (a.put oi.dst v) w):wpAnyF P md ops Q S n (f+1) listed a w:=by
 simp only [Bool.and_eq_true,decide_eq_true_eq] at hB
 obtain ⟨⟨⟨⟨h1,h2⟩,h3⟩,h4⟩,h5⟩:=hB
 have hr':i ∈ Region.ready md ops listed:=by simpa using hr
 exact F_first hi (Region.noSelect_spec h1) hQ h2 h3 h4 h5 f listed a w inv (Region.free_spec hi hf) hr' hy hS (h (inv.set hr' h5))
/-- the only one that may come up: an operation below n -/
theorem F_one {i:Nat} {oi:Oper} {f:Nat} {listed:Array Bool} {a:Act} {w:World} (hr:Region.ready md ops listed=[i]) (hi:ops[i]?=some oi) (hg:oi.guard=none) (hin:i < n) (inv:HeadInv md ops n listed)
 (h:∀ K:Act->World->Prop,Shut (∀ a' w',S w'->(S w'->HeadInv md ops n (listed.setIfInBounds i true)->wpAnyF P md ops Q S n f (listed.setIfInBounds i true) a' w')->K a' w')->Oper.wp P oi a w K Q):wpAnyF P md ops Q S n (f+1) listed a w:=by
 refine ⟨fun h0=>(by rw [hr] at h0;cases h0),fun j hj=>?_⟩
 have hj2:=hj
 rw [hr] at hj2
 obtain rfl:j=i:=by simpa using hj2
 have hw:Region.wanted oi (yielded ops a.tmps)=true:=by simp [Region.wanted,hg]
 unfold wpOp
 simp only [hi,hw,if_true]
 exact .inl (h _ (fun a' w' hS hF=>⟨fun _=>hS,hF hS (inv.set hj hin)⟩))
/-- the last one -/
theorem F_last {i:Nat} {oi:Oper} {f:Nat} {listed:Array Bool} {a:Act} {w:World} (hr:Region.ready md ops listed=[i]) (hi:ops[i]?=some oi) (hg:oi.guard=none) (hin:n<=i) (he:Region.ready md ops (listed.setIfInBounds i true)=[])
 (h:∀ K:Act->World->Prop,(∀ a' w',Q .normal a' w'->K a' w')->Oper.wp P oi a w K Q):wpAnyF P md ops Q S n (f+1) listed a w:=by
 refine ⟨fun h0=>(by rw [hr] at h0;cases h0),fun j hj=>?_⟩
 rw [hr] at hj
 obtain rfl:j=i:=by simpa using hj
 have hw:Region.wanted oi (yielded ops a.tmps)=true:=by simp [Region.wanted,hg]
 unfold wpOp
 simp only [hi,hw,if_true]
 refine .inl (h _ (fun a' w' hq=>⟨fun h=>absurd h (by omega),?_⟩))
 cases f with
 | zero=>exact ⟨he,hq⟩
 | succ f=>exact ⟨fun _=>hq,by rw [he];simp⟩
theorem F_tk (i:Nat) {oi:Oper} {v:Value} {f:Nat} {listed:Array Bool} {a:Act} {w:World} (inv:HeadInv md ops n listed)
 (h:HeadInv md ops n (listed.setIfInBounds i true)->wpAnyF P md ops Q S n f (listed.setIfInBounds i true) (a.put oi.dst v) w)
 (hi:ops[i]?=some oi:=by rfl) (hB:(Region.noSelect ops && Region.sinkB md ops n && Region.chainB md ops n && decide (n < ops.size) && decide (i < n))=true:=by kernel_rfl)
 (hf:Region.free md ops listed i=true:=by kernel_rfl) (hr:(Region.ready md ops listed).contains i=true:=by kernel_rfl) (hQ:∀ c a w,Q (.panic c) (a.put oi.dst v) w->Q (.panic c) a w:=by exact fun _ _ _ h=>h)
 (hw:Region.wanted oi (yielded ops a.tmps)=true:=by rfl) (hy:∀ w,S w->(execOp a.eval oi).run P w=.ok (.value v) w:=by (intro w hSw;(try dsimp only at hSw);go_simp;try with_reducible rfl)) (hS:S w:=by assumption):wpAnyF P md ops Q S n (f+1) listed a w :=
 F_take hi hB hf hr hQ inv (.inl ⟨hw,hy⟩) hS h
theorem F_sk (i:Nat) {oi:Oper} {f:Nat} {listed:Array Bool} {a:Act} {w:World} (inv:HeadInv md ops n listed)
 (h:HeadInv md ops n (listed.setIfInBounds i true)->wpAnyF P md ops Q S n f (listed.setIfInBounds i true) (a.put oi.dst undef) w)
 (hi:ops[i]?=some oi:=by rfl) (hB:(Region.noSelect ops && Region.sinkB md ops n && Region.chainB md ops n && decide (n < ops.size) && decide (i < n))=true:=by kernel_rfl)
 (hf:Region.free md ops listed i=true:=by kernel_rfl) (hr:(Region.ready md ops listed).contains i=true:=by kernel_rfl) (hQ:∀ c a w,Q (.panic c) (a.put oi.dst undef) w->Q (.panic c) a w:=by exact fun _ _ _ h=>h)
 (hw:Region.wanted oi (yielded ops a.tmps)=false:=by rfl) (hS:S w:=by assumption):wpAnyF P md ops Q S n (f+1) listed a w :=
 F_take hi hB hf hr hQ inv (.inr ⟨hw,rfl⟩) hS h
theorem tA {α:Type} {l:List α} {i:Nat} (h:i < l.toArray.size):l.toArray[i]=l[i]'(by simpa using h):=List.getElem_toArray h
theorem tB {α:Type} {a:α} {l:List α} (h:0 < (a :: l).length):(a :: l)[0]=a:=List.getElem_cons_zero a l h
theorem tC {α:Type} (a:α) (l:List α) (i:Nat) (h:i+1 < (a :: l).length):(a :: l)[i+1]=l[i]'(Nat.lt_of_succ_lt_succ h):=List.getElem_cons_succ a l i h
theorem tE {α:Type} (l:List α) (i:Nat) (a:α):l.toArray.setIfInBounds i a=(l.set i a).toArray:=List.setIfInBounds_toArray l i a
theorem tF {α:Type} {x:α} {xs:List α} {a:α}:(x :: xs).set 0 a=a :: xs:=List.set_cons_zero
theorem tG {α:Type} {x:α} {xs:List α} {n:Nat} {a:α}:(x :: xs).set (n+1) a=x :: xs.set n a:=List.set_cons_succ
theorem F_o1 (i:Nat) {oi:Oper} {f:Nat} {listed:Array Bool} {a:Act} {w:World} (inv:HeadInv md ops n listed)
 (h:∀ K:Act->World->Prop,Shut (∀ a' w',S w'->(S w'->HeadInv md ops n (listed.setIfInBounds i true)->wpAnyF P md ops Q S n f (listed.setIfInBounds i true) a' w')->K a' w')->Oper.wp P oi a w K Q)
 (hr:Region.ready md ops listed=[i]:=by kernel_rfl) (hi:ops[i]?=some oi:=by rfl) (hg:oi.guard=none:=by rfl) (hin:i < n:=by omega):wpAnyF P md ops Q S n (f+1) listed a w:=F_one hr hi hg hin inv h
theorem F_l1 (i:Nat) {oi:Oper} {f:Nat} {listed:Array Bool} {a:Act} {w:World}
 (h:∀ K:Act->World->Prop,(∀ a' w',Q .normal a' w'->K a' w')->Oper.wp P oi a w K Q)
 (hr:Region.ready md ops listed=[i]:=by kernel_rfl) (hi:ops[i]?=some oi:=by rfl) (hg:oi.guard=none:=by rfl) (hin:n<=i:=by omega) (he:Region.ready md ops (listed.setIfInBounds i true)=[]:=by kernel_rfl):wpAnyF P md ops Q S n (f+1) listed a w:=F_last hr hi hg hin he h
/-- two that may come up -/
theorem F_two {i j:Nat} {oi oj:Oper} {f:Nat} {listed:Array Bool} {a:Act} {w:World} (hr:Region.ready md ops listed=[i,j]) (hi:ops[i]?=some oi) (hj:ops[j]?=some oj) (hgi:oi.guard=none) (hgj:oj.guard=none) (hin:i < n/\j < n) (inv:HeadInv md ops n listed)
 (h1:∀ K:Act->World->Prop,Shut (∀ a' w',S w'->(S w'->HeadInv md ops n (listed.setIfInBounds i true)->wpAnyF P md ops Q S n f (listed.setIfInBounds i true) a' w')->K a' w')->Oper.wp P oi a w K Q)
 (h2:∀ K:Act->World->Prop,Shut (∀ a' w',S w'->(S w'->HeadInv md ops n (listed.setIfInBounds j true)->wpAnyF P md ops Q S n f (listed.setIfInBounds j true) a' w')->K a' w')->Oper.wp P oj a w K Q):wpAnyF P md ops Q S n (f+1) listed a w:=by
 refine ⟨fun h0=>(by rw [hr] at h0;cases h0),fun k hk=>?_⟩
 have hk2:=hk
 rw [hr] at hk2
 simp only [List.mem_cons,List.not_mem_nil,or_false] at hk2
 rcases hk2 with rfl | rfl
 · have hw:Region.wanted oi (yielded ops a.tmps)=true:=by simp [Region.wanted,hgi]
   unfold wpOp
   simp only [hi,hw,if_true]
   exact .inl (h1 _ (fun a' w' hS hF=>⟨fun _=>hS,hF hS (inv.set hk hin.1)⟩))
 · have hw:Region.wanted oj (yielded ops a.tmps)=true:=by simp [Region.wanted,hgj]
   unfold wpOp
   simp only [hj,hw,if_true]
   exact .inl (h2 _ (fun a' w' hS hF=>⟨fun _=>hS,hF hS (inv.set hk hin.2)⟩))
/-- one of the chain at the end, not the last -/
theorem F_tail {i:Nat} {oi:Oper} {f:Nat} {listed:Array Bool} {a:Act} {w:World} (hr:Region.ready md ops listed=[i]) (hi:ops[i]?=some oi) (hg:oi.guard=none) (hin:n<=i)
 (h:∀ K:Act->World->Prop,Shut (∀ a' w',wpAnyF P md ops Q S n f (listed.setIfInBounds i true) a' w'->K a' w')->Oper.wp P oi a w K Q):wpAnyF P md ops Q S n (f+1) listed a w:=by
 refine ⟨fun h0=>(by rw [hr] at h0;cases h0),fun j hj=>?_⟩
 rw [hr] at hj
 obtain rfl:j=i:=by simpa using hj
 have hw:Region.wanted oi (yielded ops a.tmps)=true:=by simp [Region.wanted,hg]
 unfold wpOp
 simp only [hi,hw,if_true]
 exact .inl (h _ (fun a' w' hF=>⟨fun hlt=>absurd hlt (by omega),hF⟩))
theorem F_start {id:Nat} {a:Act} {w:World} (n:Nat) (S:World->Prop) (hm:P.follows .mixedOrders=true) (hS:S w.drew)
 (h:S w.drew->HeadInv .any ops n (Array.replicate ops.size false)->wpAnyF P .any ops Q S n ops.size (Array.replicate ops.size false) a w.drew):(Code.region id ops true).wp P Q a w :=
 wp_region_any hm (F_any _ _ _ _ (h hS ⟨by simp,fun j oj _ hl=>(by rw [getD_replicate_false] at hl;cases hl),fun t _ ht=>getD_in (by simpa using ht) (getD_replicate_false _ _)⟩))
/-- append(s, x): as an operation by itself; the one element lies in block H -/
theorem op_append1 {w:World} {α:Type} (E:α->List Value) {o:Oper} {a:Act} {K:Act->World->Prop} {t e:TypeId} {z:Value} {k bytes:Nat} (el:ElemOk P t e z k bytes) (hgd:o.guard=none) (s y:Operand)
 (ho:o.op=.call { callee:=.builtin .append,args:=#[s,y],argTypes:=#[t,t] })
 (base:Nat) (v:Value) (xs:List α) (x:α) (c H:Nat) (hs:a.eval s=v) (hown:w.ownsRow base e k v xs.length (xs.flatMap E)) (hy:a.eval y=.slice (some ⟨H,0,none⟩) 1 c)
 (hH:w.heap[H]?=some (.cells (E x).toArray e (0,0))) (hE:(E x).length=k) (h1:∀ u ∈ E x,u.oneCell'=true) (hbytes:(xs.length+1) * bytes<=140737488355328) (hb0:0 < bytes) (hbase:base<=w.heap.size)
 (h:∀ g cap w',w'.ownsRow base e k (.slice (some ⟨g,0,none⟩) (xs.length+1) cap) (xs ++ [x]).length ((xs ++ [x]).flatMap E)->w.grownBy w' v.ownBlock->(v.ownBlock=some g ∨ w.heap.size<=g)->g < w'.heap.size ->
  K (a.put o.dst (.slice (some ⟨g,0,none⟩) (xs.length+1) cap)) w'):Oper.wp P o a w K Q:=by
 have h2:=step_append1 (ops:=#[]) (EE:=True) (Q:=Q) (K:=K) E el hgd s y ho base v xs x c H hs hown hy hH hE h1 hbytes hb0 hbase h
 have hw:Region.wanted o (yielded #[] a.tmps)=true:=by simp [Region.wanted,hgd]
 rwa [if_pos hw] at h2
/-- the same at the head of a list of operations -/
theorem wpList_append2 {w:World} {α:Type} (E:α->List Value) {rest:List Oper} {o:Oper} {a:Act} {t e:TypeId} {z:Value} {k bytes:Nat} (el:ElemOk P t e z k bytes) (hgd:o.guard=none) (s y:Operand)
 (ho:o.op=.call { callee:=.builtin .append,args:=#[s,y],argTypes:=#[t,t] })
 (base:Nat) (v:Value) (xs:List α) (x:α) (c H:Nat) (hs:a.eval s=v) (hown:w.ownsRow base e k v xs.length (xs.flatMap E)) (hy:a.eval y=.slice (some ⟨H,0,none⟩) 1 c)
 (hH:w.heap[H]?=some (.cells (E x).toArray e (0,0))) (hE:(E x).length=k) (h1:∀ u ∈ E x,u.oneCell'=true) (hbytes:(xs.length+1) * bytes<=140737488355328) (hb0:0 < bytes) (hbase:base<=w.heap.size)
 (h:∀ g cap w',w'.ownsRow base e k (.slice (some ⟨g,0,none⟩) (xs.length+1) cap) (xs ++ [x]).length ((xs ++ [x]).flatMap E)->w.grownBy w' v.ownBlock->(v.ownBlock=some g ∨ w.heap.size<=g)->g < w'.heap.size ->
  wpList P ops Q rest (a.put o.dst (.slice (some ⟨g,0,none⟩) (xs.length+1) cap)) w'):wpList P ops Q (o :: rest) a w :=
 wpList_plain hgd fun _ hK=>op_append1 E el hgd s y ho base v xs x c H hs hown hy hH hE h1 hbytes hb0 hbase fun g cap w' h2 h3 h4 h5=>hK _ _ (h g cap w' h2 h3 h4 h5)
end
end Go.Proofs.YtloeghbhoflabaaDoor
namespace Go.Proofs.YtloeghbhoflabaaDoor
open Go.ChangeShapes Go.WideShapes Go.ChangeAt Go.RowKit
section
variable {P:Program} {w:World}
theorem run_append_nil0 (base:Nat) (t ty e:TypeId) (i:TypeInfo) (size:Nat) (ht:P.underlying t=some (.slice e)) (hi:P.info? e=some i) (v:Value) (n:Nat) (xs:List Value) (hown:w.ownsRow base e size v n xs) (c:Nat) :
 (Builtin.append_ #[t,t] ty #[v,.slice none 0 c]).run P w=.ok v w:=by
 obtain ⟨_,h2⟩:=hown
 rcases h2 with ⟨rfl,_⟩ | ⟨g,cap,cur,rfl,_,_,hnc,_⟩
 · simp [Builtin.append_,run_underlying ht,sizeOf,typeInfo,hi,Builtin.lenOf,Builtin.firstCells]
 · simp [Builtin.append_,run_underlying ht,sizeOf,typeInfo,hi,Builtin.lenOf,Builtin.firstCells,hnc,storeCells]
theorem flat_one {α:Type} {E:α->List Value} {xs:List α} (h1:∀ x,∀ u ∈ E x,u.oneCell'=true):∀ u ∈ xs.flatMap E,u.oneCell'=true:=fun u hu=>by
 obtain ⟨x,_,hx⟩:=List.mem_flatMap.1 hu
 exact h1 x u hx
theorem flat_lenE {α:Type} {E:α->List Value} {k:Nat} (hE:∀ x,(E x).length=k):∀ xs:List α,(xs.flatMap E).length=xs.length * k
 | []=>by simp
 | x :: xs=>by rw [List.flatMap_cons,List.length_append,hE,flat_lenE hE xs,List.length_cons,Nat.succ_mul,Nat.add_comm]
/-- all cells of a list lie one behind the other -/
theorem flat_cells {α:Type} {E:α->List Value} {k:Nat} (hE:∀ x,(E x).length=k) (hk:0 < k) {b o:Nat} {ys:List α} (h:∀ i x,ys[i]?=some x->∀ j u,(E x)[j]?=some u->w.cell? ⟨b,o+i * k+j,none⟩=some u) :
 ∀ j u,(ys.flatMap E)[j]?=some u->w.cell? ((⟨b,o,none⟩:Addr).add j)=some u:=by
 intro j u hu
 have hl:=(List.getElem?_eq_some_iff.1 hu).1
 rw [flat_lenE hE] at hl
 have hi:j / k < ys.length:=Nat.div_lt_of_lt_mul (by rw [Nat.mul_comm];exact hl)
 have hx:ys[j / k]?=some ys[j / k]:=List.getElem?_eq_getElem hi
 have hj:j % k < (E ys[j / k]).length:=by rw [hE];exact Nat.mod_lt _ hk
 have hf:=flat_at hE hx (j % k) _ (List.getElem?_eq_getElem hj)
 have hjj:j / k * k+j % k=j:=by rw [Nat.mul_comm];exact Nat.div_add_mod j k
 rw [hjj,hu] at hf
 injection hf with hf
 have hc:=h _ _ hx (j % k) _ (List.getElem?_eq_getElem hj)
 have hadd:(⟨b,o,none⟩:Addr).add j=⟨b,o+j,none⟩:=by unfold Addr.add;split <;> simp_all
 rw [hadd,hf,<- hc]
 congr 2
 omega
theorem run_appendL {α:Type} (E:α->List Value) {t e:TypeId} {z:Value} {k bytes:Nat} (el:ElemOk P t e z k bytes) (hE:∀ x,(E x).length=k) (h1:∀ x,∀ u ∈ E x,u.oneCell'=true)
 (base:Nat) (v:Value) (xs ys:List α) (hown:w.ownsRow base e k v xs.length (xs.flatMap E)) (lo hi:Nat) (y:Value) (hy:SlI lo hi w E k y ys) (hbytes:(xs.length+ys.length) * bytes<=140737488355328) (hb0:0 < bytes) (hbase:base<=w.heap.size) (ty:TypeId) :
 ∃ v' w',(Builtin.append_ #[t,t] ty #[v,y]).run P w=.ok v' w'/\w'.ownsRow base e k v' (xs ++ ys).length ((xs ++ ys).flatMap E)/\w.grownBy w' v.ownBlock/\(v'.ownBlock=v.ownBlock ∨ v'.ownBlock=some w.heap.size):=by
 obtain ⟨i,hi,hz0,hz1,hz2⟩:=info_parts el.info
 have hlen:xs.length+ys.length<=140737488355328:=Nat.le_trans (Nat.le_mul_of_pos_right _ hb0) hbytes
 obtain ⟨A,c,rfl,_,_,hx⟩:=hy
 have key:∀ a:Addr,A=some a->(∀ j u,(ys.flatMap E)[j]?=some u->w.cell? (a.add j)=some u)->∃ v' w',(Builtin.append_ #[t,t] ty #[v,.slice A ys.length c]).run P w=.ok v' w'/\w'.ownsRow base e k v' (xs ++ ys).length ((xs ++ ys).flatMap E)/\w.grownBy w' v.ownBlock/\(v'.ownBlock=v.ownBlock ∨ v'.ownBlock=some w.heap.size):=by
  intro a ha hc
  subst ha
  obtain ⟨v',w',hr,h2,h3,_,h5⟩:=run_append_own_at (P:=P) w base t ty e i z k bytes el.und hi hz0 hz1 hz2 el.zc el.pos v xs.length (xs.flatMap E) hown a ys.length c (ys.flatMap E) (flat_lenE hE ys) hc (flat_one h1) (by unfold maxLen;omega) hbytes hbase
  exact ⟨v',w',hr,by rw [List.flatMap_append,List.length_append];exact h2,h3,h5⟩
 cases ys with
 | nil =>
   cases A with
   | none=>exact ⟨v,w,run_append_nil0 base t ty e i k el.und hi v _ _ hown c,by simpa using hown,World.grownBy.refl w _,.inl rfl⟩
   | some a=>exact key a rfl (fun j u hu=>by simp at hu)
 | cons x ys =>
   obtain ⟨b,o,hA,-,-,-⟩:=hx 0 x rfl
   refine key ⟨b,o,none⟩ hA (flat_cells hE el.pos fun i x hi j u hu=>?_)
   obtain ⟨b',o',hA',-,-,hc⟩:=hx i x hi
   rw [hA] at hA'
   injection hA' with hA'
   injection hA' with e1 e2
   subst e1 e2
   exact hc j u hu
theorem wpList_appendL {α:Type} (E:α->List Value) {ops:Array Oper} {rest:List Oper} {o:Oper} {a:Act} {Q:Exit->Act->World->Prop} {t e:TypeId} {z:Value} {k bytes:Nat} (el:ElemOk P t e z k bytes) (hE:∀ x,(E x).length=k) (h1:∀ x,∀ u ∈ E x,u.oneCell'=true)
 (hgd:o.guard=none) (s y:Operand) (ho:o.op=.call { callee:=.builtin .append,args:=#[s,y],argTypes:=#[t,t] })
 (base:Nat) (v:Value) (xs ys:List α) (hs:a.eval s=v) (hown:w.ownsRow base e k v xs.length (xs.flatMap E)) (lo hi:Nat) (yv:Value) (hyv:a.eval y=yv) (hy:SlI lo hi w E k yv ys) (hbytes:(xs.length+ys.length) * bytes<=140737488355328) (hb0:0 < bytes) (hbase:base<=w.heap.size)
 (h:∀ v' w',w'.ownsRow base e k v' (xs ++ ys).length ((xs ++ ys).flatMap E)->w.grownBy w' v.ownBlock->(v'.ownBlock=v.ownBlock ∨ v'.ownBlock=some w.heap.size)->wpList P ops Q rest (a.put o.dst v') w'):wpList P ops Q (o :: rest) a w:=by
 refine wpList_plain hgd fun K hK=>?_
 obtain ⟨v',w',hr,h2,h3,h5⟩:=run_appendL E el hE h1 base v xs ys hown lo hi yv hy hbytes hb0 hbase o.type
 unfold Oper.wp execOp
 simp only [ho,resolve,invoke,builtin,Sem.run_bind,Sem.run_pure,Result.andThen_ok,List.map_toArray,List.map_cons,List.map_nil,hs,hyv,hr]
 exact hK _ _ (h v' w' h2 h3 h5)
end
section
variable {w w':World}
theorem kcell (hb:Below w.heap.size w w') {p:Addr} {v:Value} (h:w.cell? p=some v):w'.cell? p=some v:=(hb.cell (World.block_lt_of_cell? w _ h)).trans h
theorem kB2 {p0 p1:Addr} {v0 v1:Value} (hb:Below w.heap.size w w') (h:w.cell? p0=some v0/\w.cell? p1=some v1):w'.cell? p0=some v0/\w'.cell? p1=some v1:=by
 obtain ⟨c0,c1⟩:=h
 exact ⟨kcell hb c0,kcell hb c1⟩
theorem kA2 {p0 p1:Addr} {v0 v1:Value} (o:Obj) (h:w.cell? p0=some v0/\w.cell? p1=some v1):(w.alloc o).cell? p0=some v0/\(w.alloc o).cell? p1=some v1:=kB2 ((Below.refl _ _).alloc (Nat.le_refl _) _) h
end
end Go.Proofs.YtloeghbhoflabaaDoor
namespace Go.Proofs.YtloeghbhoflabaaDoor
open Go.ChangeShapes Go.WideShapes Go.ChangeAt Go.RowKit
attribute [local go_sem] ext_cell ext_frozen ext_lt ext_lt1 ext_lt2 ext_lt3 ltn2 ltn3 ltn13 lts1 lts2 lts3
theorem elPair:ElemOk Tryd.prog 24 30 (.agg #[.int .i64 0,.int .i64 0]) 2 16:=⟨Tryd.underlying24,by kernel_rfl,rfl,by omega⟩
end Go.Proofs.YtloeghbhoflabaaDoor
