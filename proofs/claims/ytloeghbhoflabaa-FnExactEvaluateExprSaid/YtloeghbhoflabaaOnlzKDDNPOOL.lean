/- Parts of the proof, joined into one text: AppL, Reslice, TreeI, ArcM, RelM, LetM, ShelfP, PKey. -/
import Derived.Test.YtloeghbhoflabaaOnlzGFOHOABB
import Derived.Test.YtloeghbhoflabaaOnlzAHMCLFHH
import Derived.Lib.SliceRun
import Derived.Deep.CutBlock
import Derived.Deep.CutRange
import Derived.Shelf.SlGeneric
import Derived.Shelf.SlSortCmp.WholeK
import Derived.Ground.SlsfProg
import Derived.Test.YtloeghbhoflabaaProg
set_option linter.unusedVariables false
set_option linter.unusedSimpArgs false
namespace Go.Proofs.Ytloeghbhoflabaa
open Go.ChangeShapes Go.WideShapes Go.ChangeAt Go.RowKit
section
variable {P:Program} {w:World}
theorem run_append_nil0 (base:Nat) (t ty e:TypeId) (i:TypeInfo) (size:Nat) (ht:P.underlying t=some (.slice e)) (hi:P.info? e=some i) (v:Value) (n:Nat) (xs:List Value) (hown:w.ownsRow base e size v n xs) (c:Nat) :
 (Builtin.append_ #[t,t] ty #[v,.slice none 0 c]).run P w=.ok v w:=by
 obtain ⟨_,h2⟩:=hown
 rcases h2 with ⟨rfl,_⟩ | ⟨g,cap,cur,rfl,_,_,hnc,_⟩
 · simp [Builtin.append_,run_underlying ht,sizeOf,typeInfo,hi,Builtin.lenOf,Builtin.firstCells]
 · simp [Builtin.append_,run_underlying ht,sizeOf,typeInfo,hi,Builtin.lenOf,Builtin.firstCells,hnc,storeCells]
theorem flat_one {α:Type} {E:α->List Value} {xs:List α} (h1:∀ x,∀ u ∈ E x,u.oneCell'=true):∀ u ∈ xs.flatMap E,u.oneCell'=true:=fun u hu=>by
 obtain ⟨x,_,hx⟩:=List.mem_flatMap.1 hu
 exact h1 x u hx
theorem flat_lenE {α:Type} {E:α->List Value} {k:Nat} (hE:∀ x,(E x).length=k):∀ xs:List α,(xs.flatMap E).length=xs.length * k
 | []=>by simp
 | x :: xs=>by rw [List.flatMap_cons,List.length_append,hE,flat_lenE hE xs,List.length_cons,Nat.succ_mul,Nat.add_comm]
/-- all cells of a list lie one behind the other -/
theorem flat_cells {α:Type} {E:α->List Value} {k:Nat} (hE:∀ x,(E x).length=k) (hk:0 < k) {b o:Nat} {ys:List α} (h:∀ i x,ys[i]?=some x->∀ j u,(E x)[j]?=some u->w.cell? ⟨b,o+i * k+j,none⟩=some u) :
 ∀ j u,(ys.flatMap E)[j]?=some u->w.cell? ((⟨b,o,none⟩:Addr).add j)=some u:=by
 intro j u hu
 have hl:=(List.getElem?_eq_some_iff.1 hu).1
 rw [flat_lenE hE] at hl
 have hi:j / k < ys.length:=Nat.div_lt_of_lt_mul (by rw [Nat.mul_comm];exact hl)
 have hx:ys[j / k]?=some ys[j / k]:=List.getElem?_eq_getElem hi
 have hj:j % k < (E ys[j / k]).length:=by rw [hE];exact Nat.mod_lt _ hk
 have hf:=flat_at hE hx (j % k) _ (List.getElem?_eq_getElem hj)
 have hjj:j / k * k+j % k=j:=by rw [Nat.mul_comm];exact Nat.div_add_mod j k
 rw [hjj,hu] at hf
 injection hf with hf
 have hc:=h _ _ hx (j % k) _ (List.getElem?_eq_getElem hj)
 have hadd:(⟨b,o,none⟩:Addr).add j=⟨b,o+j,none⟩:=by unfold Addr.add;split <;> simp_all
 rw [hadd,hf,<- hc]
 congr 2
 omega
theorem run_appendL {α:Type} (E:α->List Value) {t e:TypeId} {z:Value} {k bytes:Nat} (el:ElemOk P t e z k bytes) (hE:∀ x,(E x).length=k) (h1:∀ x,∀ u ∈ E x,u.oneCell'=true)
 (base:Nat) (v:Value) (xs ys:List α) (hown:w.ownsRow base e k v xs.length (xs.flatMap E)) (lo hi:Nat) (y:Value) (hy:SlI lo hi w E k y ys) (hbytes:(xs.length+ys.length) * bytes<=140737488355328) (hb0:0 < bytes) (hbase:base<=w.heap.size) (ty:TypeId) :
 ∃ v' w',(Builtin.append_ #[t,t] ty #[v,y]).run P w=.ok v' w'/\w'.ownsRow base e k v' (xs ++ ys).length ((xs ++ ys).flatMap E)/\w.grownBy w' v.ownBlock/\(v'.ownBlock=v.ownBlock ∨ v'.ownBlock=some w.heap.size):=by
 obtain ⟨i,hi,hz0,hz1,hz2⟩:=info_parts el.info
 have hlen:xs.length+ys.length<=140737488355328:=Nat.le_trans (Nat.le_mul_of_pos_right _ hb0) hbytes
 obtain ⟨A,c,rfl,_,_,hx⟩:=hy
 have key:∀ a:Addr,A=some a->(∀ j u,(ys.flatMap E)[j]?=some u->w.cell? (a.add j)=some u)->∃ v' w',(Builtin.append_ #[t,t] ty #[v,.slice A ys.length c]).run P w=.ok v' w'/\w'.ownsRow base e k v' (xs ++ ys).length ((xs ++ ys).flatMap E)/\w.grownBy w' v.ownBlock/\(v'.ownBlock=v.ownBlock ∨ v'.ownBlock=some w.heap.size):=by
  intro a ha hc
  subst ha
  obtain ⟨v',w',hr,h2,h3,_,h5⟩:=run_append_own_at (P:=P) w base t ty e i z k bytes el.und hi hz0 hz1 hz2 el.zc el.pos v xs.length (xs.flatMap E) hown a ys.length c (ys.flatMap E) (flat_lenE hE ys) hc (flat_one h1) (by unfold maxLen;omega) hbytes hbase
  exact ⟨v',w',hr,by rw [List.flatMap_append,List.length_append];exact h2,h3,h5⟩
 cases ys with
 | nil =>
   cases A with
   | none=>exact ⟨v,w,run_append_nil0 base t ty e i k el.und hi v _ _ hown c,by simpa using hown,World.grownBy.refl w _,.inl rfl⟩
   | some a=>exact key a rfl (fun j u hu=>by simp at hu)
 | cons x ys =>
   obtain ⟨b,o,hA,-,-,-⟩:=hx 0 x rfl
   refine key ⟨b,o,none⟩ hA (flat_cells hE el.pos fun i x hi j u hu=>?_)
   obtain ⟨b',o',hA',-,-,hc⟩:=hx i x hi
   rw [hA] at hA'
   injection hA' with hA'
   injection hA' with e1 e2
   subst e1 e2
   exact hc j u hu
theorem wpList_appendL {α:Type} (E:α->List Value) {ops:Array Oper} {rest:List Oper} {o:Oper} {a:Act} {Q:Exit->Act->World->Prop} {t e:TypeId} {z:Value} {k bytes:Nat} (el:ElemOk P t e z k bytes) (hE:∀ x,(E x).length=k) (h1:∀ x,∀ u ∈ E x,u.oneCell'=true)
 (hgd:o.guard=none) (s y:Operand) (ho:o.op=.call { callee:=.builtin .append,args:=#[s,y],argTypes:=#[t,t] })
 (base:Nat) (v:Value) (xs ys:List α) (hs:a.eval s=v) (hown:w.ownsRow base e k v xs.length (xs.flatMap E)) (lo hi:Nat) (yv:Value) (hyv:a.eval y=yv) (hy:SlI lo hi w E k yv ys) (hbytes:(xs.length+ys.length) * bytes<=140737488355328) (hb0:0 < bytes) (hbase:base<=w.heap.size)
 (h:∀ v' w',w'.ownsRow base e k v' (xs ++ ys).length ((xs ++ ys).flatMap E)->w.grownBy w' v.ownBlock->(v'.ownBlock=v.ownBlock ∨ v'.ownBlock=some w.heap.size)->wpList P ops Q rest (a.put o.dst v') w'):wpList P ops Q (o :: rest) a w:=by
 refine wpList_plain hgd fun K hK=>?_
 obtain ⟨v',w',hr,h2,h3,h5⟩:=run_appendL E el hE h1 base v xs ys hown lo hi yv hy hbytes hb0 hbase o.type
 unfold Oper.wp execOp
 simp only [ho,resolve,invoke,builtin,Sem.run_bind,Sem.run_pure,Result.andThen_ok,List.map_toArray,List.map_cons,List.map_nil,hs,hyv,hr]
 exact hK _ _ (h v' w' h2 h3 h5)
end
theorem ownsRow_take {W:World} {base k n m g cap:Nat} {e:TypeId} {cs:List Value} (h:W.ownsRow base e k (.slice (some ⟨g,0,none⟩) n cap) n cs) (hm:m<=n):W.ownsRow base e k (.slice (some ⟨g,0,none⟩) m cap) m (cs.take (m * k)):=by
 obtain ⟨hl,hs⟩:=h
 have hmk:m * k<=n * k:=Nat.mul_le_mul_right k hm
 refine ⟨by rw [List.length_take,hl];omega,?_⟩
 rcases hs with ⟨h1,_⟩ | ⟨g',cap',cur,hv,hg,hh,hnc,hcm,hsz,htk⟩
 · cases h1
 · simp only [Value.slice.injEq,Option.some.injEq,Addr.mk.injEq,and_true,true_and] at hv
   obtain ⟨rfl,rfl⟩:=hv
   refine .inr ⟨g,cap,cur,rfl,hg,hh,by omega,hcm,hsz,?_⟩
   rw [<- htk,List.take_take]
   congr 1
   omega
end Go.Proofs.Ytloeghbhoflabaa
namespace Go.Proofs.Ytloeghbhoflabaa
open Go.ChangeShapes Go.WideShapes Go.ChangeAt Go.RowKit
attribute [local go_sem] ext_cell ext_frozen ext_lt ext_lt1 ext_lt2 ext_lt3 ltn2 ltn3 ltn13 lts1 lts2 lts3
/-- a pointer as a slice's element -/
def cP (b:Nat):List Value:=[.pointer (some ⟨b,0,none⟩)]
theorem cP_len (b:Nat):(cP b).length=1:=rfl
theorem cP_one (b:Nat):∀ u ∈ cP b,u.oneCell'=true:=by intro u hu;simp only [cP,List.mem_singleton] at hu;subst hu;rfl
abbrev nodeC (t:Tok) (ks:Value):Array Value:=#[.int .i64 t.1,.int .i64 t.2.1,.int .i64 t.2.2.1,.int .i64 t.2.2.2,ks]
/-- a tree in memory, its blocks other than ob -/
def TreeAt (w:World) (ob:Option Nat) (b:Nat):Tr->Prop
 | .leaf t=>some b ≠ ob/\∃ ks,Blk w b 129 (nodeC t ks)
 | .un t a=>some b ≠ ob/\∃ g o c p,Blk w b 129 (nodeC t (.slice (some ⟨g,o,none⟩) 1 c))/\some g ≠ ob/\g < w.heap.size/\w.cell? ⟨g,o,none⟩=some (.pointer (some ⟨p,0,none⟩))/\TreeAt w ob p a
 | .bin t a d=>some b ≠ ob/\∃ g o c p q,Blk w b 129 (nodeC t (.slice (some ⟨g,o,none⟩) 2 c))/\some g ≠ ob/\g < w.heap.size/\w.cell? ⟨g,o,none⟩=some (.pointer (some ⟨p,0,none⟩))/\w.cell? ⟨g,o+1,none⟩=some (.pointer (some ⟨q,0,none⟩))/\TreeAt w ob p a/\TreeAt w ob q d
theorem TreeAt.keep {w w':World} {ob ob':Option Nat} (hb:∀ n,n < w.heap.size->some n ≠ ob->w'.heap[n]?=w.heap[n]?) (ho:∀ n,n < w.heap.size->some n ≠ ob->some n ≠ ob') (hs:w.heap.size<=w'.heap.size) :
 ∀ {r:Tr} {b:Nat},TreeAt w ob b r->TreeAt w' ob' b r
 | .leaf t,b,⟨h1,ks,h2⟩=>⟨ho b h2.lt h1,ks,(hb b h2.lt h1).trans h2⟩
 | .un t a,b,⟨h1,g,o,c,p,h2,h3,h4,h5,h6⟩=>⟨ho b h2.lt h1,g,o,c,p,(hb b h2.lt h1).trans h2,ho g h4 h3,Nat.lt_of_lt_of_le h4 hs,(World.cell?_of_block (w:=w) (a:=⟨g,o,none⟩) (hb g h4 h3)).trans h5,TreeAt.keep hb ho hs h6⟩
 | .bin t a d,b,⟨h1,g,o,c,p,q,h2,h3,h4,h5,h5',h6,h7⟩=>⟨ho b h2.lt h1,g,o,c,p,q,(hb b h2.lt h1).trans h2,ho g h4 h3,Nat.lt_of_lt_of_le h4 hs,(World.cell?_of_block (w:=w) (a:=⟨g,o,none⟩) (hb g h4 h3)).trans h5,(World.cell?_of_block (w:=w) (a:=⟨g,o+1,none⟩) (hb g h4 h3)).trans h5',TreeAt.keep hb ho hs h6,TreeAt.keep hb ho hs h7⟩
theorem TreeAt.below {w w':World} {ob:Option Nat} {r:Tr} {b:Nat} (h:TreeAt w ob b r) (hb:Below w.heap.size w w'):TreeAt w' ob b r:=h.keep (fun n hn _=>hb.block n hn) (fun _ _ h=>h) hb.size
theorem TreeAt.free {w:World} {ob:Option Nat} {r:Tr} {b:Nat} (h:TreeAt w ob b r):TreeAt w none b r:=h.keep (fun _ _ _=>rfl) (fun _ _ _ h=>(by cases h)) (Nat.le_refl _)
theorem TreeAt.root {w:World} {ob:Option Nat} {r:Tr} {b:Nat} (h:TreeAt w ob b r):∃ ks,Blk w b 129 (nodeC r.root ks):=by
 cases r with
 | leaf t=>obtain ⟨-,ks,h⟩:=h;exact ⟨ks,h⟩
 | un t a=>obtain ⟨-,g,o,c,p,h,-⟩:=h;exact ⟨_,h⟩
 | bin t a d=>obtain ⟨-,g,o,c,p,q,h,-⟩:=h;exact ⟨_,h⟩
theorem elP:ElemOk Try.prog 125 77 (.pointer none) 1 8:=⟨Try.underlying125,by kernel_rfl,rfl,by omega⟩
set_option maxRecDepth 100000 in
set_option maxHeartbeats 1000000 in
theorem clone_any (A:Option Addr) (n c lo hi:Nat) (xs:List Nat) (w:World) (hv:SlI lo hi w cP 1 (.slice A n c) xs) (hl:xs.length<=1000) (hhi:hi<=w.heap.size) :
 Calls Try.prog 84 #[.slice A n c] w fun e w'=>∃ v',e=.returned v'/\Own w.heap.size w'.heap.size w' 77 cP 1 v' xs/\Below w.heap.size w w':=by
 have HV:=Hd_ hv
 have qn:∀ (w:World) (a:Option Addr) (n c n' c':Nat),(binOp .eql 125 (.slice a n c) (.slice none n' c')).run Try.prog w=.ok (.bool a.isNone) w:=fun w a n c n' c'=>Lib.run_eql_slice_nil w _ _ a n c n' c' Try.underlying125
 cases A with
 | none =>
   have hx:xs=[]:=by
    obtain ⟨A',c',hv,-,-,hx⟩:=hv
    cases xs with
    | nil=>rfl
    | cons x xs =>
      obtain ⟨b,o,hA,-⟩:=hx 0 x rfl
      injection hv with h1
      rw [<- h1] at hA
      cases hA
   subst hx
   clear HV hv hl
   go_enter Try.func84,Try.ntmps84
   go_wp2_with fail
   go_ret
   exact ⟨_,rfl,Own.nil _ _ _ _ _ _,Below.refl _ _⟩
 | some a =>
   obtain ⟨A0,c0,hva,hl0,hm0,-⟩:=hv
   obtain rfl:n=xs.length:=by injection hva
   have hba:Below w.heap.size w (w.alloc (.cells #[] 77)):=(Below.refl _ _).alloc (Nat.le_refl _) _
   have hrow:=World.ownsRow_lit (base:=w.heap.size) (e:=77) (size:=1) w #[] 0 (Nat.le_refl _) (by decide) rfl
   have HV1:=Hd_ ((show SlI lo hi w cP 1 (.slice (some a) xs.length c) xs from HV.out))
   have HR:=Hd_ hrow
   clear hva hrow HV hl0 hm0
   go_enter Try.func84,Try.ntmps84
   go_wp2_with (at_builtin;(refine wpList_appendL cP elP cP_len cP_one rfl _ _ rfl w.heap.size _ [] xs (by rfl) HR.out lo hi _ (by rfl) (HV1.out.below hba hhi) (by simp;omega) (by omega) (by simp) ?_);intro v' w4 hrow' hgr4 hat4)
   have hown:=Own.of_row (xs:=xs) hrow' rfl rfl
   have hbel:=(hba.trans (own_below HR.out (by simp) hgr4))
   obtain ⟨A2,n2,c2,rfl⟩:=hown.shape
   have HO:=Hd_ hown
   clear hown hgr4 hrow' hat4
   go_wp2_with fail
   go_ret
   exact ⟨_,rfl,HO.out,hbel⟩
theorem ar_num {tk tl tlo thi:Int} {m:Nat} (h:ar (tk,tl,tlo,thi)=some m):(if tk=4 ∨ tk=5 then (2:Int) else if tk=6 ∨ tk=7 then 1 else 0)=m/\m<=2:=by
 unfold ar at h
 simp only at h
 split at h
 · rename_i hk
   split at h
   · injection h with h;subst h
     rw [if_neg (by omega),if_neg (by omega)];exact ⟨rfl,by omega⟩
   · cases h
 · split at h
   · rename_i hk
     split at h
     · injection h with h;subst h
       rw [if_neg (by omega),if_neg (by omega)];exact ⟨rfl,by omega⟩
     · cases h
   · split at h
     · rename_i hk
       split at h
       · injection h with h;subst h
         rw [if_pos hk];exact ⟨rfl,by omega⟩
       · cases h
     · rename_i hk
       split at h
       · rename_i hk6
         split at h
         · injection h with h;subst h
           rw [if_neg hk,if_pos (.inl hk6)];exact ⟨rfl,by omega⟩
         · cases h
       · split at h
         · rename_i hk7
           split at h
           · injection h with h;subst h
             rw [if_neg hk,if_pos (.inr hk7)];exact ⟨rfl,by omega⟩
           · cases h
         · cases h
/-- a row's end, from its k-th element on -/
theorem row_drop {W:World} {base n g c:Nat} {e:TypeId} {xs:List Nat} (h:W.ownsRow base e 1 (.slice (some ⟨g,0,none⟩) n c) n (xs.flatMap cP)) (hn:n=xs.length) {k:Nat} (hk:k<=n) :
 SlI base W.heap.size W cP 1 (.slice (if c=k then some ⟨g,0,none⟩ else some ⟨g,k,none⟩) (n - k) (c - k)) (xs.drop k):=by
 subst hn
 have hs:=(Own.of_row (xs:=xs) h rfl rfl).sl cP_len
 obtain ⟨A',c',hv,h1,h2,hx⟩:=hs
 simp only [Value.slice.injEq,true_and] at hv
 obtain ⟨rfl,rfl⟩:=hv
 have hld:(xs.drop k).length=xs.length - k:=List.length_drop
 refine ⟨_,_,by rw [hld],by rw [hld];omega,by omega,fun i x hi=>?_⟩
 have hi':=(List.getElem?_eq_some_iff.1 hi).1
 rw [hld] at hi'
 rw [List.getElem?_drop] at hi
 obtain ⟨b,o,hA,h4,h5,h6⟩:=hx (k+i) x hi
 simp only [Option.some.injEq,Addr.mk.injEq,and_true] at hA
 obtain ⟨rfl,rfl⟩:=hA
 rw [if_neg (by omega)]
 refine ⟨g,k,rfl,h4,h5,fun j u hu=>?_⟩
 have h7:=h6 j u hu
 rw [Nat.zero_add,Nat.mul_one] at h7
 rw [Nat.mul_one]
 exact h7
theorem flat_takeP (ps:List Nat) (k:Nat):(ps.take k).flatMap cP=(ps.flatMap cP).take k:=by
 induction ps generalizing k with
 | nil=>simp
 | cons p ps ih=>cases k with
   | zero=>simp
   | succ k=>simp [cP,ih]
theorem row_cap' {W:World} {base k n g c:Nat} {e:TypeId} {cs:List Value} (h:W.ownsRow base e k (.slice (some ⟨g,0,none⟩) n c) n cs):n<=c/\c<=9223372036854775807:=by
 obtain ⟨_,hs⟩:=h
 rcases hs with ⟨h1,_⟩ | ⟨g',cap',cur,hv,hg,hh,hnc,hcm,_⟩
 · cases h1
 · simp only [Value.slice.injEq,Option.some.injEq,Addr.mk.injEq,and_true,true_and] at hv
   obtain ⟨rfl,rfl⟩:=hv
   exact ⟨hnc,hcm⟩
/-- the stack of trees: its row, and the trees that it points to -/
structure StkR (w0 w:World) (g cap:Nat) (ps:List Nat) (st:List Tr):Prop where
 row:w.ownsRow w0.heap.size 77 1 (.slice (some ⟨g,0,none⟩) ps.length cap) ps.length (ps.flatMap cP)
 len:ps.length=st.length
 at_:∀ (j p:Nat) (r:Tr),ps[j]?=some p->st[j]?=some r->TreeAt w (some g) p r
 bel:Below w0.heap.size w0 w
theorem StkR.lt {w0 w:World} {g cap:Nat} {ps:List Nat} {st:List Tr} (h:StkR w0 w g cap ps st):w0.heap.size<=g/\g < w.heap.size:=h.row.lt g rfl
theorem StkR.keep {w0 w w':World} {g cap:Nat} {ps:List Nat} {st:List Tr} (h:StkR w0 w g cap ps st) (hb:Below w.heap.size w w'):StkR w0 w' g cap ps st :=
 ⟨ownsRow_block h.row (fun b hb'=>hb.block b (by have:=(h.row.lt b hb').2;exact this)),h.len,fun j p r h1 h2=>(h.at_ j p r h1 h2).below hb,below_trans h.bel hb⟩
/-- the two pieces that a push cuts the stack into -/
theorem ptrs_at {lo hi:Nat} {w:World} {A:Option Addr} {n c:Nat} {xs:List Nat} (h:SlI lo hi w cP 1 (.slice A n c) xs):n=xs.length/\∀ (i x:Nat),xs[i]?=some x->∃ q o,A=some ⟨q,o,none⟩/\lo<=q/\q < hi/\w.cell? ⟨q,o+i,none⟩=some (.pointer (some ⟨x,0,none⟩)):=by
 obtain ⟨A',c',hv,-,-,hx⟩:=h
 injection hv with h1 h2 h3
 subst h1
 refine ⟨h2,fun i x hi=>?_⟩
 obtain ⟨q,o,hA,h4,h5,h6⟩:=hx i x hi
 exact ⟨q,o,hA,h4,h5,by simpa using h6 0 _ rfl⟩
theorem StkR.push {w0 w3 w4 w6:World} {g cap g2 cap2 m k:Nat} {ps:List Nat} {st st':List Tr} {t:Tok} {ks:Value} {nt lt:TypeId} (h:StkR w0 w3 g cap ps st) (hst:Go.Proofs.Ytloeghbhoflabaa.push st t=some st') (hm:ar t=some m) (hk:k+m=ps.length)
 (hb4:Below w3.heap.size w3 w4) (ho:Own w3.heap.size w4.heap.size w4 77 cP 1 ks (ps.drop k)) (hnt:nt=129)
 (hrow:w6.ownsRow w0.heap.size 77 1 (.slice (some ⟨g2,0,none⟩) (k+1) cap2) (ps.take k ++ [w4.heap.size]).length ((ps.take k ++ [w4.heap.size]).flatMap cP))
 (hgr:((w4.alloc (.cells (nodeC t ks) nt)).alloc (.cells #[.pointer (some ⟨w4.heap.size,0,none⟩)] lt)).grownBy w6 (some g)) (hg2:some g=some g2 ∨ ((w4.alloc (.cells (nodeC t ks) nt)).alloc (.cells #[.pointer (some ⟨w4.heap.size,0,none⟩)] lt)).heap.size<=g2) :
 StkR w0 w6 g2 cap2 (ps.take k ++ [w4.heap.size]) st':=by
 subst hnt
 have hl:=h.lt
 have hlen:=h.len
 have hs4:=hb4.size
 have hsz:((w4.alloc (.cells (nodeC t ks) 129)).alloc (.cells #[.pointer (some ⟨w4.heap.size,0,none⟩)] lt)).heap.size=w4.heap.size+2:=by simp
 rw [hsz] at hg2
 have hg2':g2=g ∨ w4.heap.size+2<=g2:=hg2.imp (fun e=>by injection e with e;exact e.symm) id
 have hbA:=((Below.refl w4.heap.size w4).alloc (Nat.le_refl _) (.cells (nodeC t ks) 129)).alloc (by simp) (.cells #[.pointer (some ⟨w4.heap.size,0,none⟩)] lt)
 have hbl:∀ n,n < w4.heap.size+2->n ≠ g->w6.heap[n]?=((w4.alloc (.cells (nodeC t ks) 129)).alloc (.cells #[.pointer (some ⟨w4.heap.size,0,none⟩)] lt)).heap[n]?:=fun n hn hne=>hgr.block n (by rw [hsz];exact hn) (fun e=>hne (by injection e))
 have hs6:w4.heap.size+2<=w6.heap.size:=by have:=hgr.size;rw [hsz] at this;exact this
 have hw4:∀ n,n < w4.heap.size->n ≠ g->w6.heap[n]?=w4.heap[n]?:=fun n hn hne=>(hbl n (by omega) hne).trans (hbA.block n hn)
 have hold:∀ {r:Tr} {b:Nat},TreeAt w3 (some g) b r->TreeAt w6 (some g2) b r:=fun hT=>hT.keep (fun n hn hne=>(hw4 n (by omega) (fun e=>hne (by rw [e]))).trans (hb4.block n hn)) (fun n hn hne e=>by
  injection e with e
  rcases hg2' with h1 | h1
  · exact hne (by rw [e,h1])
  · omega) (by omega)
 have hnode:Blk w6 w4.heap.size 129 (nodeC t ks):=(hbl _ (by omega) (by omega)).trans ((Blk.new w4 129 (nodeC t ks) _ rfl).alloc (.cells #[.pointer (some ⟨w4.heap.size,0,none⟩)] lt))
 have hneb:some w4.heap.size ≠ some g2:=fun e=>by injection e with e;omega
 obtain ⟨r,rfl,hroot,-,hle,-,-,hcs⟩:=push_eq hst
 rw [hm] at hle
 simp only [Option.getD_some] at hle
 have hkk:st.length - m=k:=by omega
 have hks:=ho.sl cP_len
 obtain ⟨A7,n7,c7,rfl⟩:=hks.shape
 obtain ⟨hn7,hpt⟩:=ptrs_at hks
 rw [List.length_drop] at hn7
 have hkid:∀ (i p:Nat) (a:Tr),(ps.drop k)[i]?=some p->(st.drop k)[i]?=some a->∃ q o,A7=some ⟨q,o,none⟩/\some q ≠ some g2/\q < w6.heap.size/\w6.cell? ⟨q,o+i,none⟩=some (.pointer (some ⟨p,0,none⟩))/\TreeAt w6 (some g2) p a:=by
  intro i p a hp ha
  obtain ⟨q,o,hA,h1,h2,h3⟩:=hpt i p hp
  rw [List.getElem?_drop] at hp ha
  exact ⟨q,o,hA,fun e=>by injection e with e;omega,by omega,(World.cell?_of_block (w:=w4) (a:=⟨q,o+i,none⟩) (hw4 q h2 (by omega))).trans h3,hold (h.at_ _ _ _ hp ha)⟩
 have hnew:TreeAt w6 (some g2) w4.heap.size r:=by
  rcases hcs with ⟨ha,rfl⟩ | ⟨a,ha,rfl,hd⟩ | ⟨a,d,ha,rfl,hd⟩
  · exact ⟨hneb,_,hnode⟩
  · obtain rfl:m=1:=by rw [hm] at ha;injection ha
    rw [hkk] at hd
    have hd0:0 < (ps.drop k).length:=by rw [List.length_drop];omega
    have hp:(ps.drop k)[0]?=some (ps.drop k)[0]:=List.getElem?_eq_getElem hd0
    obtain ⟨q,o,rfl,h1,h2,h3,h4⟩:=hkid 0 _ a hp (by rw [hd];rfl)
    obtain rfl:n7=1:=by omega
    exact ⟨hneb,q,o,c7,_,hnode,h1,h2,h3,h4⟩
  · obtain rfl:m=2:=by rw [hm] at ha;injection ha
    rw [hkk] at hd
    have hd0:0 < (ps.drop k).length:=by rw [List.length_drop];omega
    have hp:(ps.drop k)[0]?=some (ps.drop k)[0]:=List.getElem?_eq_getElem hd0
    have hd1:1 < (ps.drop k).length:=by rw [List.length_drop];omega
    have hp1:(ps.drop k)[1]?=some (ps.drop k)[1]:=List.getElem?_eq_getElem hd1
    obtain ⟨q,o,rfl,h1,h2,h3,h4⟩:=hkid 0 _ a hp (by rw [hd];rfl)
    obtain ⟨q',o',e,-,-,h5,h6⟩:=hkid 1 _ d hp1 (by rw [hd];rfl)
    injection e with e
    injection e with e1 e2
    subst e1 e2
    obtain rfl:n7=2:=by omega
    exact ⟨hneb,q,o,c7,_,_,hnode,h1,h2,h3,h5,h4,h6⟩
 have hlt:(ps.take k).length=k:=by rw [List.length_take];omega
 refine ⟨by simpa [hlt] using hrow,by rw [hm];simp only [Option.getD_some];rw [hkk];simp;omega,fun j p r' hp hr=>?_,?_⟩
 · rw [hm] at hr
   simp only [Option.getD_some] at hr
   rw [hkk] at hr
   rcases Nat.lt_or_ge j k with hj | hj
   · rw [List.getElem?_append_left (by omega),List.getElem?_take_of_lt hj] at hp
     rw [List.getElem?_append_left (by rw [List.length_take];omega),List.getElem?_take_of_lt hj] at hr
     exact hold (h.at_ j p r' hp hr)
   · rw [List.getElem?_append_right (by omega),hlt] at hp
     rw [List.getElem?_append_right (by rw [List.length_take];omega),List.length_take,Nat.min_eq_left (by omega)] at hr
     have hj0:j - k=0:=by
      have:=(List.getElem?_eq_some_iff.1 hp).1
      simp at this
      omega
     rw [hj0] at hp hr
     simp only [List.getElem?_cons_zero,Option.some.injEq] at hp hr
     subst hp hr
     exact hnew
 · have h1:=below_trans h.bel hb4
   have h2:=below_trans h1 hbA
   exact h2.grown hgr h2.size (fun b e=>by injection e with e;rw [<- e];exact hl.1)
/-- the tree, or nil -/
def TreeOut (l:List Tok) (w:World) (e:Ending) (w':World):Prop:=((treeL l=none/\e=.returned (.pointer none)) ∨ ∃ r b,treeL l=some r/\e=.returned (.pointer (some ⟨b,0,none⟩))/\TreeAt w' none b r)/\Below w.heap.size w w'
set_option maxRecDepth 100000 in
set_option maxHeartbeats 8000000 in
theorem treeOf_any (ss:Value) (l:List Tok) (w:World) (hv:SlE w cEd 4 ss l) (h24:l.length<=24) :
 Calls Try.prog 49 #[.agg #[ss]] w (TreeOut l w):=by
 obtain ⟨A,c,rfl,hl,hm,hx⟩:=hv
 unfold maxLen at hm
 have HX:=Hd_ hx
 obtain ⟨n,hn⟩:∃ n,n=l.length:=⟨_,rfl⟩
 rw [<- hn]
 rw [<- hn] at hl h24
 have HN:=Hd_ hn
 clear hx hn
 have hb0:Below w.heap.size w (w.alloc (.cells #[.slice A n c] 40)):=(Below.refl _ _).alloc (Nat.le_refl _) _
 have bk:=Blk.new w 40 #[.slice A n c] _ rfl
 go_enter Try.func49,Try.ntmps49
 go_wp2
 obtain ⟨W0,hW0⟩:∃ W0,W0=w.alloc (.cells #[.slice A n c] 40):=⟨_,rfl⟩
 have hs0:W0.heap.size=w.heap.size+1:=by rw [hW0];simp
 rw [<- hW0] at hb0 ⊢
 have HB0:=Hd_ hb0
 clear bk hb0 hW0
 have hst0:StkR W0 (W0.alloc (.cells #[] 77)) (w.heap.size+1) 0 [] [] :=
  ⟨hs0 ▸ World.ownsRow_lit (base:=W0.heap.size) (e:=77) (size:=1) W0 #[] 0 (Nat.le_refl _) (by decide) rfl,rfl,fun j p r h=>by simp at h,(Below.refl _ _).alloc (Nat.le_refl _) _⟩
 have HS0:=Hd_ hst0
 have HS0S:=Hd_ hs0
 clear hst0 hs0
 go_loopw [3,13] (fun s ii wr=>∃ (i g cap:Nat) (st:List Tr) (ps:List Nat),i<=n/\parseTo l i=some st/\s=.slice (some ⟨g,0,none⟩) ps.length cap/\ii=.int .i64 (i:Int)/\StkR W0 wr g cap ps st) (fun _ ii _=>n - (intOf ii).toNat)
 case atStart=>exact ⟨0,w.heap.size+1,0,[],[],Nat.zero_le _,rfl,by first | rfl | simp,rfl,HS0.out⟩
 case round =>
  obtain ⟨i,g,cap,st,ps,hi,hp,rfl,rfl,hS⟩:=hrel
  have hsl:=parse_len hp
  have HP:=Hd_ hp
  have HS:=Hd_ hS
  have HPL:=Hd_ hS.len
  have HBW:=Hd_ (HB0.out.trans (hS.bel.mono (by have:=HS0S.out;omega)))
  have hcap:=row_cap' hS.row
  obtain ⟨N,hN⟩:∃ N,N=ps.length:=⟨_,rfl⟩
  have HN2:=Hd_ hN
  have hNi:N<=i:=by have:=hS.len;omega
  rw [<- hN] at hcap ⊢
  clear hp hS hN hsl
  by_cases hlt:i < n
  · have hxi:l[i]?=some l[i]:=List.getElem?_eq_getElem (by have:=HN.out;omega)
    obtain ⟨q,o,rfl,-,hq,hcc⟩:=HX.out i _ hxi
    generalize l[i]=t at hcc hxi
    have HXI:=Hd_ hxi
    have e0:=(HBW.out.cell (p:=⟨q,o+i * 4+0,none⟩) hq).trans (hcc 0 _ rfl)
    have e1:=(HBW.out.cell (p:=⟨q,o+i * 4+1,none⟩) hq).trans (hcc 1 _ rfl)
    have e2:=(HBW.out.cell (p:=⟨q,o+i * 4+2,none⟩) hq).trans (hcc 2 _ rfl)
    have e3:=(HBW.out.cell (p:=⟨q,o+i * 4+3,none⟩) hq).trans (hcc 3 _ rfl)
    simp only [Nat.add_zero] at e0
    have hii:(i:Int) < (n:Int):=by omega
    obtain ⟨tk,tl,tlo,thi⟩:=t
    simp only at e0 e1 e2 e3
    clear hcc hxi
    have hbt:=Blk.new wr 113 #[.int .i64 tk,.int .i64 tl,.int .i64 tlo,.int .i64 thi] _ rfl
    have hba:=(Below.refl wr.heap.size wr).alloc (Nat.le_refl _) (.cells #[.int .i64 tk,.int .i64 tl,.int .i64 tlo,.int .i64 thi] 113)
    have HBW1:=Hd_ (HBW.out.trans (hba.mono HBW.out.size))
    have HS1:=Hd_ (HS.out.keep hba)
    go_upto_block 2 with fail
    obtain ⟨W1,hW1⟩:∃ W1,W1=wr.alloc (.cells #[.int .i64 tk,.int .i64 tl,.int .i64 tlo,.int .i64 thi] 113):=⟨_,rfl⟩
    obtain ⟨tq,htq⟩:∃ tq,tq=wr.heap.size:=⟨_,rfl⟩
    rw [<- hW1] at hbt HBW1 HS1 ⊢
    rw [<- htq] at hbt ⊢
    have HBT:=Hd_ hbt
    clear hW1 htq hbt hba e0 e1 e2 e3 HS HBW
    go_cut [6,13] from 13 to 49 (fun s6 s13 wx=>s13=.int .i64 (i:Int)/\s6=.int .i64 (if tk=4 ∨ tk=5 then 2 else if tk=6 ∨ tk=7 then 1 else 0)/\wx=W1)
    case first =>
     by_cases h4:tk=4
     · subst h4
       go_wp2
       go_meet
       exact ⟨rfl,rfl,rfl⟩
     have k4:(tk==4)=false:=by simpa using h4
     by_cases h5:tk=5
     · subst h5
       go_wp2
       go_meet
       exact ⟨rfl,rfl,rfl⟩
     have k5:(tk==5)=false:=by simpa using h5
     by_cases h6:tk=6
     · subst h6
       go_wp2
       go_meet
       exact ⟨rfl,rfl,rfl⟩
     have k6:(tk==6)=false:=by simpa using h6
     by_cases h7:tk=7
     · subst h7
       go_wp2
       go_meet
       exact ⟨rfl,rfl,rfl⟩
     have k7:(tk==7)=false:=by simpa using h7
     have HIF:=Hd_ (show (if tk=4 ∨ tk=5 then (2:Int) else if tk=6 ∨ tk=7 then 1 else 0)=0 by rw [if_neg (fun h=>h.elim h4 h5),if_neg (fun h=>h.elim h6 h7)])
     clear h4 h5 h6 h7
     go_wp2
     go_meet
     exact ⟨rfl,by rw [HIF.out],rfl⟩
    case rest =>
     obtain ⟨rfl,rfl,hwc⟩:=hcut
     rw [hwc]
     clear hwc
     have z0:W1.cell? ⟨tq,0,none⟩=some (.int .i64 tk):=HBT.out.cell 0
     have z1:W1.cell? ⟨tq,1,none⟩=some (.int .i64 tl):=HBT.out.cell 1
     have z2:W1.cell? ⟨tq,2,none⟩=some (.int .i64 tlo):=HBT.out.cell 2
     have z3:W1.cell? ⟨tq,3,none⟩=some (.int .i64 thi):=HBT.out.cell 3
     obtain ⟨nk,hnk⟩:∃ nk:Int,nk=(if tk=4 ∨ tk=5 then 2 else if tk=6 ∨ tk=7 then 1 else 0):=⟨_,rfl⟩
     rw [<- hnk]
     have HTO:=Hd_ (fun w=>tokenOk_any (tk,tl,tlo,thi) w)
     rcases hat:ar (tk,tl,tlo,thi) with _ | m
     · have hfin:treeL l=none:=by
        have h:=treeL_no (l:=l) (i:=i+1) (by rw [parse_step HP.out HXI.out];exact push_none (.inl hat)) (by have:=HN.out;omega)
        simpa using h
       have HF:=Hd_ hfin
       rw [hat] at HTO
       clear hat hfin hnk
       go_wp2_with fail
       refine (HTO.out _).mono ?_
       rintro e w3 ⟨rfl,hb3⟩
       have HB3:=Hd_ (HBW1.out.trans (hb3.mono HBW1.out.size))
       clear hb3
       go_wp2_with fail
       go_ret
       exact ⟨.inl ⟨HF.out,rfl⟩,HB3.out⟩
     · obtain ⟨hnm,hm2⟩:=ar_num hat
       obtain rfl:nk=(m:Int):=hnk.trans hnm
       have HAT:=Hd_ hat
       rw [hat] at HTO
       clear hnk hnm hat
       by_cases hNm:N < m
       · have hfin:treeL l=none:=by
          have h:=treeL_no (l:=l) (i:=i+1) (by rw [parse_step HP.out HXI.out];exact push_none (.inr ⟨m,HAT.out,by have:=HPL.out;have:=HN2.out;omega⟩)) (by have:=HN.out;omega)
          simpa using h
         have HF:=Hd_ hfin
         have hwr:wrap64 ((N:Int) - (m:Int))=(N:Int) - m:=IntWalk.wrap64_in _ ⟨by omega,by omega⟩
         have hlt0:((N:Int) - (m:Int)) < 0:=by omega
         clear hfin
         go_wp2_with fail
         refine (HTO.out _).mono ?_
         rintro e w3 ⟨rfl,hb3⟩
         have HB3:=Hd_ (HBW1.out.trans (hb3.mono HBW1.out.size))
         clear hb3
         go_wp2_with fail
         go_ret
         exact ⟨.inl ⟨HF.out,rfl⟩,HB3.out⟩
       · obtain ⟨k,rfl⟩:∃ k,N=k+m:=⟨N - m,by omega⟩
         have hwr:wrap64 (((k+m:Nat):Int) - (m:Int))=(k:Int):=(IntWalk.wrap64_in _ ⟨by omega,by omega⟩).trans (by omega)
         have hlt0:¬ ((k:Int) < 0):=by omega
         go_wp2_with fail
         refine (HTO.out _).mono ?_
         rintro e w3 ⟨rfl,hb3⟩
         have HB3:=Hd_ (HBW1.out.trans (hb3.mono HBW1.out.size))
         have HS3:=Hd_ (HS1.out.keep hb3)
         have HBT3:=Hd_ (HBT.out.keep hb3)
         clear hb3 z0 z1 z2 z3 HS1 HBT HTO
         have hck:k<=cap:=by omega
         have hkm:(k:Int)<=(k:Int)+(m:Int):=by omega
         have z0:w3.cell? ⟨tq,0,none⟩=some (.int .i64 tk):=by exact HBT3.out.cell 0
         have z1:w3.cell? ⟨tq,1,none⟩=some (.int .i64 tl):=by exact HBT3.out.cell 1
         have z2:w3.cell? ⟨tq,2,none⟩=some (.int .i64 tlo):=by exact HBT3.out.cell 2
         have z3:w3.cell? ⟨tq,3,none⟩=some (.int .i64 thi):=by exact HBT3.out.cell 3
         go_wp2_with fail
         refine F_start 7 (fun w'=>w'.cell? ⟨tq,0,none⟩=some (.int .i64 tk)/\w'.cell? ⟨tq,1,none⟩=some (.int .i64 tl)/\w'.cell? ⟨tq,2,none⟩=some (.int .i64 tlo)/\w'.cell? ⟨tq,3,none⟩=some (.int .i64 thi)) (by kernel_rfl) (by exact ⟨z0,z1,z2,z3⟩) (fun hS inv=>?_)
         refine F_tk 0 inv ?_
         try simp only [tA,tB,tC,Act.put,tE,tF,tG]
         clear inv;intro inv
         refine F_tk 1 inv ?_
         try simp only [tA,tB,tC,Act.put,tE,tF,tG]
         clear inv;intro inv
         refine F_tk 2 inv ?_
         try simp only [tA,tB,tC,Act.put,tE,tF,tG]
         clear inv;intro inv
         refine F_tk 3 inv ?_
         try simp only [tA,tB,tC,Act.put,tE,tF,tG]
         clear inv;intro inv
         refine F_o1 4 inv ?_;intro K hK
         try simp only [tA,tB,tC]
         go_simp
         have hd3:=(Below.refl w3.heap.size w3).drew
         have HSD:=Hd_ (HS3.out.keep hd3)
         have hsl:=row_drop (k:=k) HSD.out.row rfl (by rw [<- HN2.out];omega)
         rw [<- HN2.out,Nat.add_sub_cancel_left] at hsl
         refine (clone_any _ _ _ _ _ _ _ hsl (by rw [List.length_drop];have:=HN2.out;omega) (Nat.le_refl _)).mono ?_
         rintro e w4 ⟨ks,rfl,hown,hb4⟩
         obtain ⟨A7,n7,c7,rfl⟩:=hown.shape
         have HOW:=Hd_ hown
         have HB4:=Hd_ hb4
         have HBT4:=Hd_ ((HBT3.out.drew).keep hb4)
         clear hd3 hsl hown hb4 z0 z1 z2 z3
         refine hK.out _ _ (⟨HBT4.out.cell 0,HBT4.out.cell 1,HBT4.out.cell 2,HBT4.out.cell 3⟩) (fun _ _=>?_)
         try simp only [tA,tB,tC,Act.put,tE,tF,tG]
         clear hK K inv hS;rename_i hS inv
         refine F_tk 5 inv ?_
         try simp only [tA,tB,tC,Act.put,tE,tF,tG]
         clear inv;intro inv
         refine F_o1 6 inv ?_;intro K hK
         try simp only [tA,tB,tC]
         go_simp
         have HBT5:=Hd_ (HBT4.out.alloc (.cells #[.int .i64 tk,.int .i64 tl,.int .i64 tlo,.int .i64 thi,.slice A7 n7 c7] 129))
         refine hK.out _ _ (⟨HBT5.out.cell 0,HBT5.out.cell 1,HBT5.out.cell 2,HBT5.out.cell 3⟩) (fun _ _=>?_)
         try simp only [tA,tB,tC,Act.put,tE,tF,tG]
         clear hK K inv hS;rename_i hS inv
         refine F_l1 7 ?_;intro K hK
         go_simp
         refine hK _ _ ?_
         clear hK K
         generalize (if cap=k then some (⟨g,0,none⟩:Addr) else some ⟨g,k,none⟩)=jk
         have HS4:=Hd_ (HSD.out.keep HB4.out)
         have hbn:=(Below.refl w4.heap.size w4).alloc (Nat.le_refl _) (.cells #[.int .i64 tk,.int .i64 tl,.int .i64 tlo,.int .i64 thi,.slice A7 n7 c7] 129)
         have hrk:=ownsRow_take (HS4.out.keep hbn).row (m:=k) (by rw [<- HN2.out];omega)
         rw [Nat.mul_one,<- flat_takeP] at hrk
         have hltk:(ps.take k).length=k:=by rw [List.length_take,<- HN2.out];omega
         obtain ⟨bn,hbn4⟩:∃ bn,bn=w4.heap.size:=⟨_,rfl⟩
         have HBN:=Hd_ hbn4
         have HRK:=Hd_ (show (w4.alloc (.cells #[.int .i64 tk,.int .i64 tl,.int .i64 tlo,.int .i64 thi,.slice A7 n7 c7] 129)).ownsRow W0.heap.size 77 1 (.slice (some ⟨g,0,none⟩) k cap) (ps.take k).length ((ps.take k).flatMap cP) by rw [hltk];exact hrk)
         have HLT:=Hd_ hltk
         have hks4:k<=24:=by omega
         have hs5:W0.heap.size<=(w4.alloc (.cells #[.int .i64 tk,.int .i64 tl,.int .i64 tlo,.int .i64 thi,.slice A7 n7 c7] 129)).heap.size:=Nat.le_trans HS4.out.bel.size hbn.size
         obtain ⟨W5,hW5⟩:∃ W5,W5=w4.alloc (.cells #[.int .i64 tk,.int .i64 tl,.int .i64 tlo,.int .i64 thi,.slice A7 n7 c7] 129):=⟨_,rfl⟩
         have HW5:=Hd_ hW5
         rw [<- hW5] at HRK hs5 ⊢
         rw [<- hbn4]
         clear hbn hrk hltk HBT5 HBT4 HBT3 hbn4 hW5
         go_wp2_with (at_builtin;(refine wpList_append2 cP elP rfl _ _ (by rfl) W0.heap.size _ (ps.take k) bn 1 _ (by rfl) (HRK.out.alloc _) (by rfl) (heap_alloc_new _ _) rfl (cP_one _) (by rw [HLT.out];omega) (by omega) (by simp;omega) ?_);intro g2 cp2 w9 hown9 hgr9 hat9 hlt9)
         obtain ⟨st',hst'⟩:=push_some HAT.out (st:=st) (by have:=HPL.out;have:=HN2.out;omega)
         have hpn:parseTo l (i+1)=some st':=by rw [parse_step HP.out HXI.out];exact hst'
         have HNEW:=Hd_ (show StkR W0 w9 g2 cp2 (ps.take k ++ [bn]) st' by
          have hb:=HBN.out
          have hw:=HW5.out
          subst hw hb
          rw [HLT.out] at hown9
          exact HSD.out.push hst' HAT.out HN2.out HB4.out HOW.out rfl hown9 hgr9 hat9)
         have HPN:=Hd_ hpn
         clear hst' hpn hown9 hgr9 hat9 hlt9
         go_wp2_with fail
         go_roundw
         case rel=>exact ⟨i+1,g2,cp2,st',ps.take k ++ [bn],by omega,HPN.out,by simp,by go_num,HNEW.out⟩
         case measure=>simp [intOf];omega
  · obtain rfl:i=n:=by omega
    have hp:=HP.out
    have hts:=treeL_end (l:=l) (by rw [<- HN.out];exact hp)
    have hii:¬ ((i:Int) < (i:Int)):=by omega
    by_cases hN1:N=1
    · subst hN1
      have hst1:st.length=1:=by have:=HPL.out;have:=HN2.out;omega
      obtain ⟨r,rfl⟩:=List.length_eq_one_iff.1 hst1
      obtain ⟨b,rfl⟩:=List.length_eq_one_iff.1 HN2.out.symm
      have hT:=(HS.out.at_ 0 b r rfl rfl).free
      obtain ⟨-,hpt⟩:=ptrs_at ((Own.of_row (xs:=[b]) HS.out.row rfl rfl).sl cP_len)
      obtain ⟨q,o,e,-,hq,hcc⟩:=hpt 0 b rfl
      simp only [Option.some.injEq,Addr.mk.injEq,and_true] at e
      obtain ⟨rfl,rfl⟩:=e
      have htr:treeL l=some r:=by
       rw [treeL,<- HN.out,hp]
      have HT:=Hd_ hT
      have HTR:=Hd_ htr
      clear hT htr hpt hst1 hts hp
      go_wp2_with fail
      go_ret
      exact ⟨.inr ⟨r,b,HTR.out,rfl,HT.out⟩,HBW.out⟩
    · have hfin:treeL l=none:=by
       rw [decide_eq_false (by have:=HPL.out;have:=HN2.out;omega)] at hts
       simpa using hts
      have HF:=Hd_ hfin
      have hne:((N:Int) != 1)=true:=by simp;omega
      clear hfin hts hp
      go_wp2_with fail
      go_ret
      exact ⟨.inl ⟨HF.out,rfl⟩,HBW.out⟩
end Go.Proofs.Ytloeghbhoflabaa
namespace Go.Proofs.Ytloeghbhoflabaa
/-- the arcs of all nodes by the first i edges -/
def rowsTo (g:Gr) (i:Nat):List (List Arc):=(List.range g.vals.length).map fun (x:Nat)=>(g.edges.take i).flatMap (arcE (x:Int))
theorem rowsTo_at {g:Gr} {i x:Nat} (h:x < g.vals.length):(rowsTo g i)[x]?=some ((g.edges.take i).flatMap (arcE (x:Int))):=by simp [rowsTo,h]
theorem rowsTo_len (g:Gr) (i:Nat):(rowsTo g i).length=g.vals.length:=by simp [rowsTo]
theorem rowsTo_zero (g:Gr):rowsTo g 0=List.replicate g.vals.length []:=by
 apply List.ext_getElem?
 intro x
 simp only [rowsTo,List.take_zero,List.flatMap_nil,List.getElem?_map,List.getElem?_replicate,List.getElem?_range]
 by_cases h:x < g.vals.length
 · simp [h]
 · simp [h]
def rowFrom (g:Gr) (i:Nat) (e:Ed):List (List Arc):=(rowsTo g i).set e.2.1.toNat ((g.edges.take i).flatMap (arcE e.2.1) ++ [((e.1,false),arcLetter false e,e.2.2.1)])
def rowBack (g:Gr) (i:Nat) (e:Ed):List Arc:=(g.edges.take i).flatMap (arcE e.2.2.1) ++ if e.2.1=e.2.2.1 then [((e.1,false),arcLetter false e,e.2.2.1)] else []
theorem rowFrom_at {g:Gr} {i:Nat} {e:Ed} (h0:0<=e.2.1) (hn:e.2.1<=(g.vals.length:Int) - 1) (h1:0<=e.2.2.1) (h2:e.2.2.1<=(g.vals.length:Int) - 1):(rowFrom g i e)[e.2.2.1.toNat]?=some (rowBack g i e):=by
 unfold rowFrom rowBack
 rw [List.getElem?_set]
 by_cases h:e.2.1=e.2.2.1
 · rw [if_pos (by rw [h]),if_pos (by rw [rowsTo_len];omega),if_pos h,h]
 · rw [if_neg (by omega),if_neg h,rowsTo_at (by omega),Int.toNat_of_nonneg h1];simp
theorem rowsTo_push {g:Gr} {i:Nat} {e:Ed} (he:g.edges[i]?=some e) (h0:0<=e.2.1) (hn:e.2.1<=(g.vals.length:Int) - 1) (h1:0<=e.2.2.1) (h2:e.2.2.1<=(g.vals.length:Int) - 1) :
 (rowFrom g i e).set e.2.2.1.toNat (rowBack g i e ++ [((e.1,true),arcLetter true e,e.2.1)])=rowsTo g (i+1):=by
 apply List.ext_getElem?
 intro x
 by_cases hx:x < g.vals.length
 · rw [rowsTo_at hx,flat_take he,List.getElem?_set]
   unfold rowFrom rowBack
   rw [List.length_set,rowsTo_len]
   by_cases hb:e.2.2.1=(x:Int)
   · rw [if_pos (by omega),if_pos (by omega)]
     congr 1
     rw [hb,List.append_assoc]
     congr 1
     unfold arcE arcLetter
     by_cases hf:e.2.1=(x:Int)
     · simp [hf,hb]
     · simp [hf,hb]
   · rw [if_neg (by omega),List.getElem?_set,rowsTo_len]
     by_cases hf:e.2.1=(x:Int)
     · rw [if_pos (by omega),if_pos (by omega)]
       congr 1
       rw [hf]
       congr 1
       unfold arcE arcLetter
       simp [hf,hb]
     · rw [if_neg (by omega),rowsTo_at hx]
       congr 1
       unfold arcE
       simp [hf,hb]
 · rw [List.getElem?_eq_none (by rw [List.length_set,rowFrom,List.length_set,rowsTo_len];omega),List.getElem?_eq_none (by rw [rowsTo_len];omega)]
theorem rowsTo_all (g:Gr):rowsTo g g.edges.length=(List.range g.vals.length).map fun (x:Nat)=>arcsOf g (x:Int):=by
 unfold rowsTo arcsOf
 rw [List.take_length]
def ltP (p q:Pr):Bool:=decide (p.1 < q.1) || (decide (p.1=q.1) && decide (p.2 < q.2))
theorem ltP_iff {p q:Pr}:ltP p q=true ↔ p.1 < q.1 ∨ (p.1=q.1/\p.2 < q.2):=by simp [ltP]
theorem ltP_no {p q:Pr}:ltP p q=false ↔ ¬ (p.1 < q.1 ∨ (p.1=q.1/\p.2 < q.2)):=by
 rw [<- ltP_iff];simp
theorem pr_eq {p q:Pr}:p=q ↔ p.1=q.1/\p.2=q.2:=by
 constructor
 · rintro rfl;exact ⟨rfl,rfl⟩
 · intro h;exact Prod.ext h.1 h.2
theorem ltP_trans {p q r:Pr} (h:ltP p q=true) (k:ltP q r=true):ltP p r=true:=by rw [ltP_iff] at *;omega
theorem ltP_irr {p:Pr}:¬ ltP p p=true:=by rw [ltP_iff];omega
theorem ltP_tri (p q:Pr):ltP p q=true ∨ p=q ∨ ltP q p=true:=by rw [ltP_iff,ltP_iff,pr_eq];omega
abbrev ascP (l:List Pr):Prop:=l.Pairwise fun p q=>ltP p q=true
theorem uniqP:∀ {l r:List Pr},ascP l->ascP r->(∀ x,x ∈ l ↔ x ∈ r)->l=r
 | [],[],_,_,_=>rfl
 | [],y :: r,_,_,h=>absurd ((h y).2 (by simp)) (by simp)
 | x :: l,[],_,_,h=>absurd ((h x).1 (by simp)) (by simp)
 | x :: l,y :: r,h1,h2,h=>by
   obtain ⟨a1,a2⟩:=List.pairwise_cons.1 h1
   obtain ⟨b1,b2⟩:=List.pairwise_cons.1 h2
   have hxy:x=y:=by
    have e1:=(h x).1 (by simp)
    have e2:=(h y).2 (by simp)
    rcases List.mem_cons.1 e1 with e1 | e1
    · exact e1
    · rcases List.mem_cons.1 e2 with e2 | e2
      · exact e2.symm
      · exact absurd (ltP_trans (b1 x e1) (a1 y e2)) ltP_irr
   subst hxy
   rw [uniqP a2 b2 fun z=>?_]
   have hz:=h z
   simp only [List.mem_cons] at hz
   constructor
   · intro hm
     rcases hz.1 (.inr hm) with e | e
     · subst e;exact absurd (a1 z hm) ltP_irr
     · exact e
   · intro hm
     rcases hz.2 (.inr hm) with e | e
     · subst e;exact absurd (b1 z hm) ltP_irr
     · exact e
theorem subP:∀ {l r:List Pr},ascP l->ascP r->(∀ x,x ∈ l->x ∈ r)->l.Sublist r
 | [],r,_,_,_=>List.nil_sublist r
 | x :: l,[],_,_,h=>absurd (h x (by simp)) (by simp)
 | x :: l,y :: r,h1,h2,h=>by
   obtain ⟨a1,a2⟩:=List.pairwise_cons.1 h1
   obtain ⟨b1,b2⟩:=List.pairwise_cons.1 h2
   rcases List.mem_cons.1 (h x (by simp)) with e | e
   · subst e
     refine List.Sublist.cons_cons _ (subP a2 b2 fun z hz=>?_)
     rcases List.mem_cons.1 (h z (List.mem_cons_of_mem _ hz)) with e | e
     · subst e;exact absurd (a1 z hz) ltP_irr
     · exact e
   · refine List.Sublist.cons _ (subP h1 b2 fun z hz=>?_)
     rcases List.mem_cons.1 (h z hz) with e2 | e2
     · subst e2
       rcases List.mem_cons.1 hz with e3 | e3
       · subst e3;exact absurd (b1 _ e) ltP_irr
       · exact absurd (ltP_trans (b1 x e) (a1 z e3)) ltP_irr
     · exact e2
def putP:List Pr->Pr->List Pr
 | [],p=>[p]
 | x :: l,p=>if ltP x p=true then x :: putP l p else if x=p then x :: l else p :: x :: l
theorem mem_putP {l:List Pr} {p x:Pr}:x ∈ putP l p ↔ x=p ∨ x ∈ l:=by
 induction l with
 | nil=>simp [putP]
 | cons y l ih =>
   rw [putP]
   split
   · simp only [List.mem_cons,ih]
     constructor
     · rintro (h | h | h) <;> simp [h]
     · rintro (h | h | h) <;> simp [h]
   · split
     · rename_i h
       subst h
       simp only [List.mem_cons]
       constructor
       · intro h;exact .inr h
       · rintro (h | h)
         · exact .inl h
         · exact h
     · simp [List.mem_cons]
theorem putP_asc {l:List Pr} {p:Pr} (h:ascP l):ascP (putP l p):=by
 induction l with
 | nil=>simp [putP,ascP]
 | cons y l ih =>
   obtain ⟨a1,a2⟩:=List.pairwise_cons.1 h
   rw [putP]
   split
   · rename_i hy
     refine List.pairwise_cons.2 ⟨fun z hz=>?_,ih a2⟩
     rcases mem_putP.1 hz with e | e
     · subst e;exact hy
     · exact a1 z e
   · split
     · exact h
     · rename_i h1 h2
       have hp:ltP p y=true:=by
        rcases ltP_tri y p with e | e | e
        · exact absurd e h1
        · exact absurd e h2
        · exact e
       refine List.pairwise_cons.2 ⟨fun z hz=>?_,h⟩
       rcases List.mem_cons.1 hz with e | e
       · subst e;exact hp
       · exact ltP_trans hp (a1 z e)
/-- how the reference lays it: behind the k first ones, which are smaller -/
theorem putP_at:∀ {l:List Pr} {p:Pr} {k:Nat},k<=l.length->(∀ i x,i < k->l[i]?=some x->ltP x p=true)->(∀ x,l[k]?=some x->ltP x p=false) ->
 putP l p=if l[k]?=some p then l else l.take k ++ [p] ++ l.drop k
 | [],p,k,hk,_,_=>by
   obtain rfl:k=0:=by simpa using hk
   simp [putP]
 | y :: l,p,0,_,_,h2=>by
   have hy:=h2 y rfl
   rw [putP,if_neg (by simp [hy])]
   by_cases e:y=p
   · subst e;simp
   · rw [if_neg e];simp [e]
 | y :: l,p,k+1,hk,h1,h2=>by
   have hy:=h1 0 y (by omega) rfl
   rw [putP,if_pos hy,putP_at (l:=l) (k:=k) (by simpa using hk) (fun i x hi hx=>h1 (i+1) x (by omega) (by simpa using hx)) (fun x hx=>h2 x (by simpa using hx))]
   simp only [List.getElem?_cons_succ]
   split
   · rfl
   · simp
def psetL (xs:List Pr):List Pr:=xs.foldl putP []
theorem foldl_put (xs:List Pr):∀ (l:List Pr),ascP l->ascP (xs.foldl putP l)/\∀ x,x ∈ xs.foldl putP l ↔ x ∈ l ∨ x ∈ xs:=by
 induction xs with
 | nil=>intro l h;exact ⟨h,by simp⟩
 | cons y xs ih =>
   intro l h
   obtain ⟨h1,h2⟩:=ih _ (putP_asc (p:=y) h)
   refine ⟨h1,fun x=>?_⟩
   rw [List.foldl_cons,h2,mem_putP,List.mem_cons]
   constructor
   · rintro ((h | h) | h) <;> simp [h]
   · rintro (h | h | h) <;> simp [h]
theorem psetL_asc (xs:List Pr):ascP (psetL xs):=(foldl_put xs [] List.Pairwise.nil).1
theorem mem_psetL {xs:List Pr} {x:Pr}:x ∈ psetL xs ↔ x ∈ xs:=by rw [psetL,(foldl_put xs [] List.Pairwise.nil).2];simp
theorem psetL_of {xs ys:List Pr} (h:∀ x,x ∈ xs ↔ x ∈ ys):psetL xs=psetL ys:=uniqP (psetL_asc _) (psetL_asc _) fun x=>by rw [mem_psetL,mem_psetL,h]
theorem putP_len (l:List Pr) (p:Pr):(putP l p).length<=l.length+1:=by
 induction l with
 | nil=>simp [putP]
 | cons y l ih=>rw [putP];split <;> (try split) <;> simp <;> omega
theorem foldl_put_len (xs l:List Pr):(xs.foldl putP l).length<=l.length+xs.length:=by
 induction xs generalizing l with
 | nil=>simp
 | cons y xs ih=>have:=ih (putP l y);have:=putP_len l y;simp only [List.foldl_cons,List.length_cons];omega
theorem psetL_len (xs:List Pr):(psetL xs).length<=xs.length:=by have:=foldl_put_len xs [];simpa [psetL] using this
theorem psetL_snoc (xs:List Pr) (p:Pr):psetL (xs ++ [p])=putP (psetL xs) p:=by simp [psetL,List.foldl_append]
theorem psetL_app (xs ys:List Pr):psetL (xs ++ ys)=ys.foldl putP (psetL xs):=by simp [psetL,List.foldl_append]
def keepP (xs:List Pr) (i:Nat):Bool:=i==0 || xs.getD i (0,0) != xs.getD (i - 1) (0,0)
def compTo (xs:List Pr) (k:Nat):List Pr:=((List.range k).filter (keepP xs)).map fun i=>xs.getD i (0,0)
theorem compTo_yes {xs:List Pr} {k:Nat} (h:keepP xs k=true):compTo xs (k+1)=compTo xs k ++ [xs.getD k (0,0)]:=by simp [compTo,List.range_succ,List.filter_append,h]
theorem compTo_no {xs:List Pr} {k:Nat} (h:keepP xs k=false):compTo xs (k+1)=compTo xs k:=by simp [compTo,List.range_succ,List.filter_append,h]
theorem compTo_spec {xs:List Pr} (hs:∀ i j,i < j->j < xs.length->ltP (xs.getD j (0,0)) (xs.getD i (0,0))=false):∀ k,k<=xs.length->ascP (compTo xs k)/\(∀ x,x ∈ compTo xs k ↔ x ∈ xs.take k)/\(∀ x ∈ compTo xs k,0 < k->ltP (xs.getD (k - 1) (0,0)) x=false):=by
 intro k
 induction k with
 | zero=>intro _;exact ⟨List.Pairwise.nil,by simp [compTo],by simp [compTo]⟩
 | succ k ih =>
   intro hk
   obtain ⟨h1,h2,h3⟩:=ih (by omega)
   have hxk:xs[k]?=some (xs.getD k (0,0)):=by rw [List.getD_eq_getElem?_getD,List.getElem?_eq_getElem (by omega)];rfl
   have htk:xs.take (k+1)=xs.take k ++ [xs.getD k (0,0)]:=take_snoc hxk
   have hle:∀ x ∈ compTo xs k,ltP (xs.getD k (0,0)) x=false:=fun x hx=>by
    obtain ⟨j,hj⟩:=List.getElem?_of_mem ((h2 x).1 hx)
    have hjk:j < k:=by have:=(List.getElem?_eq_some_iff.1 hj).1;rw [List.length_take] at this;omega
    rw [List.getElem?_take_of_lt hjk] at hj
    have:=hs j k hjk (by omega)
    rwa [List.getD_eq_getElem?_getD (l:=xs) (i:=j),hj] at this
   cases hkp:keepP xs k with
   | true =>
     rw [compTo_yes hkp]
     refine ⟨List.pairwise_append.2 ⟨h1,by simp,fun x hx y hy=>?_⟩,fun x=>by rw [List.mem_append,h2,htk,List.mem_append],fun x hx _=>?_⟩
     · rw [List.mem_singleton] at hy
       subst hy
       have hl:=hle x hx
       rcases Nat.eq_zero_or_pos k with h0 | h0
       · subst h0;simp [compTo] at hx
       · have h4:=h3 x hx h0
         have h5:xs.getD k (0,0) ≠ xs.getD (k - 1) (0,0):=by
          have h6:(k==0)=false:=by simp;omega
          simpa [keepP,h6] using hkp
         have h6:=hs (k - 1) k (by omega) (by omega)
         rcases ltP_tri x (xs.getD k (0,0)) with e | e | e
         · exact e
         · exfalso
           subst e
           rcases ltP_tri (xs.getD (k - 1) (0,0)) (xs.getD k (0,0)) with e | e | e
           · rw [h4] at e;cases e
           · exact h5 e.symm
           · rw [h6] at e;cases e
         · rw [hl] at e;cases e
     · simp only [Nat.add_sub_cancel]
       rcases List.mem_append.1 hx with hx | hx
       · exact hle x hx
       · rw [List.mem_singleton] at hx
         subst hx
         rw [ltP_no];omega
   | false =>
     rw [compTo_no hkp]
     have h0:0 < k:=by
      rcases Nat.eq_zero_or_pos k with h0 | h0
      · subst h0;simp [keepP] at hkp
      · exact h0
     have he:xs.getD k (0,0)=xs.getD (k - 1) (0,0):=by
      have h6:(k==0)=false:=by simp;omega
      simpa [keepP,h6] using hkp
     refine ⟨h1,fun x=>?_,fun x hx _=>?_⟩
     · rw [h2,htk,List.mem_append,List.mem_singleton]
       constructor
       · intro h;exact .inl h
       · rintro (h | h)
         · exact h
         · subst h
           rw [he]
           refine List.mem_of_getElem? (i:=k - 1) ?_
           rw [List.getElem?_take_of_lt (by omega),List.getD_eq_getElem?_getD,List.getElem?_eq_getElem (by omega)];rfl
     · simp only [Nat.add_sub_cancel]
       exact hle x hx
/-- a sorted rearrangement, its like neighbours struck out, is the set -/
theorem compTo_set {xs ys:List Pr} (hs:∀ i j,i < j->j < xs.length->ltP (xs.getD j (0,0)) (xs.getD i (0,0))=false) (hp:∀ x,x ∈ xs ↔ x ∈ ys):compTo xs xs.length=psetL ys:=by
 obtain ⟨h1,h2,_⟩:=compTo_spec hs xs.length (Nat.le_refl _)
 exact uniqP h1 (psetL_asc _) fun x=>by rw [h2,List.take_length,mem_psetL,hp]
def compRow (p:Pr) (b:List Pr):List Pr:=(b.filter fun q=>p.2==q.1).map fun q=>(p.1,q.2)
def compL (a b:List Pr):List Pr:=a.flatMap fun p=>compRow p b
theorem mem_compL {a b:List Pr} {x:Pr}:x ∈ compL a b ↔ ∃ p ∈ a,∃ q ∈ b,p.2=q.1/\x=(p.1,q.2):=by
 simp only [compL,compRow,List.mem_flatMap,List.mem_map,List.mem_filter,beq_iff_eq]
 constructor
 · rintro ⟨p,hp,q,⟨hq,he⟩,rfl⟩;exact ⟨p,hp,q,hq,he,rfl⟩
 · rintro ⟨p,hp,q,hq,he,rfl⟩;exact ⟨p,hp,q,⟨hq,he⟩,rfl⟩
def composeL (a b:List Pr):List Pr:=psetL (compL a b)
theorem composeL_pset (a b:List Pr):psetL (compL (psetL a) b)=composeL a b:=psetL_of fun x=>by simp only [mem_compL,mem_psetL]
def mergeL (a b:List Pr):List Pr:=psetL (a ++ b)
def closStep (l out:List Pr):List Pr:=mergeL out (composeL out l)
def closK (l o:List Pr):Nat->List Pr
 | 0=>o
 | k+1=>closStep l (closK l o k)
theorem closK_asc {l o:List Pr} (h:ascP o):∀ k,ascP (closK l o k)
 | 0=>h
 | _+1=>psetL_asc _
theorem mem_closStep {l out:List Pr} {x:Pr}:x ∈ closStep l out ↔ x ∈ out ∨ ∃ p ∈ out,∃ q ∈ l,p.2=q.1/\x=(p.1,q.2):=by
 rw [closStep,mergeL,mem_psetL,List.mem_append,composeL,mem_psetL,mem_compL]
theorem closK_mono {l o:List Pr} {x:Pr} {k:Nat} (h:x ∈ closK l o k):x ∈ closK l o (k+1):=mem_closStep.2 (.inl h)
theorem filter_len_le {α:Type} {p q:α->Bool}:∀ {l:List α},(∀ x ∈ l,p x=true->q x=true)->(l.filter p).length<=(l.filter q).length
 | [],_=>Nat.le_refl _
 | x :: l,h=>by
   have ih:=filter_len_le (l:=l) fun y hy=>h y (List.mem_cons_of_mem _ hy)
   have hx:=h x (List.mem_cons_self ..)
   rw [List.filter_cons,List.filter_cons]
   cases hp:p x with
   | true=>rw [hx hp];simpa using ih
   | false=>cases q x <;> simp <;> omega
theorem filter_len_lt {α:Type} {p q:α->Bool}:∀ {l:List α},(∀ x ∈ l,p x=true->q x=true)->(∃ x ∈ l,q x=true/\p x=false)->(l.filter p).length < (l.filter q).length
 | [],_,h=>by obtain ⟨x,hx,_⟩:=h;cases hx
 | x :: l,h,h2=>by
   have hx:=h x (List.mem_cons_self ..)
   have h':∀ y ∈ l,p y=true->q y=true:=fun y hy=>h y (List.mem_cons_of_mem _ hy)
   rw [List.filter_cons,List.filter_cons]
   cases hp:p x with
   | true =>
     have ih:=filter_len_lt h' (by
      obtain ⟨y,hy,hq,hpy⟩:=h2
      rcases List.mem_cons.1 hy with e | e
      · subst e;rw [hp] at hpy;cases hpy
      · exact ⟨y,e,hq,hpy⟩)
     rw [hx hp]
     simpa using ih
   | false =>
     cases hq:q x with
     | true=>have:=filter_len_le h';simp;omega
     | false =>
       have ih:=filter_len_lt h' (by
        obtain ⟨y,hy,hqy,hpy⟩:=h2
        rcases List.mem_cons.1 hy with e | e
        · subst e;rw [hq] at hqy;cases hqy
        · exact ⟨y,e,hqy,hpy⟩)
       simpa using ih
abbrev inB (x:Int):Prop:=0<=x/\x<=4
theorem closK_in {l o:List Pr} (hl:∀ p ∈ l,inB p.2) (ho:∀ p ∈ o,inB p.2):∀ k,∀ p ∈ closK l o k,inB p.2
 | 0=>ho
 | k+1=>fun p hp=>by
   rcases mem_closStep.1 hp with h | ⟨q,_,r,hr,_,rfl⟩
   · exact closK_in hl ho k p h
   · exact hl r hr
/-- which ends a node has, out of the five -/
def rowOf (l o:List Pr) (x:Int) (k:Nat) (y:Nat):Bool:=(closK l o k).contains (x,(y:Int))
theorem clos_fix {l o:List Pr} (hl:∀ p ∈ l,inB p.2) (ho:∀ p ∈ o,inB p.2) (has:ascP o):closStep l (closK l o 5)=closK l o 5:=by
 refine uniqP (psetL_asc _) (closK_asc has 5) fun x=>⟨fun hx=>?_,closK_mono⟩
 obtain ⟨x1,y1⟩:=x
 have hstep:∀ k y,rowOf l o x1 (k+1) y=true ↔ rowOf l o x1 k y=true ∨ ∃ z,(x1,z) ∈ closK l o k/\(z,(y:Int)) ∈ l:=fun k y=>by
  simp only [rowOf,List.contains_iff_mem]
  rw [closK,mem_closStep]
  constructor
  · rintro (h | ⟨p,hp,q,hq,e1,e2⟩)
    · exact .inl h
    · obtain ⟨e2,e3⟩:=Prod.mk.inj e2
      refine .inr ⟨p.2,?_,?_⟩
      · rw [e2];exact hp
      · rw [e3,e1];exact hq
  · rintro (h | ⟨z,h1,h2⟩)
    · exact .inl h
    · exact .inr ⟨_,h1,_,h2,rfl,rfl⟩
 -- a row that no longer grows stands still
 have hstill:∀ k,(∀ y,y < 5->rowOf l o x1 (k+1) y=true->rowOf l o x1 k y=true)->∀ y,y < 5->rowOf l o x1 (k+1+1) y=true->rowOf l o x1 (k+1) y=true:=fun k h y hy hr=>by
  rcases (hstep (k+1) y).1 hr with h1 | ⟨z,h1,h2⟩
  · exact h1
  · obtain ⟨hz0,hz4⟩:=closK_in hl ho (k+1) _ h1
    obtain ⟨z,rfl⟩:=Int.eq_ofNat_of_zero_le hz0
    have h3:=h z (by simp only at hz4;omega) (by rw [rowOf,List.contains_iff_mem];exact h1)
    exact (hstep k y).2 (.inr ⟨_,by rw [rowOf,List.contains_iff_mem] at h3;exact h3,h2⟩)
 have hgrow:∀ k,(∀ y,y < 5->rowOf l o x1 (k+1) y=true->rowOf l o x1 k y=true) ∨ k+1<=((List.range 5).filter (rowOf l o x1 (k+1))).length:=fun k=>by
  have hcase:∀ k,(∀ y,y < 5->rowOf l o x1 (k+1) y=true->rowOf l o x1 k y=true) ∨ ((List.range 5).filter (rowOf l o x1 k)).length < ((List.range 5).filter (rowOf l o x1 (k+1))).length:=fun k=>by
   by_cases h:∀ y,y < 5->rowOf l o x1 (k+1) y=true->rowOf l o x1 k y=true
   · exact .inl h
   · refine .inr (filter_len_lt (fun y _ hy=>(hstep k y).2 (.inl hy)) ?_)
     simp only [Classical.not_forall] at h
     obtain ⟨y,hy,h1,h2⟩:=h
     exact ⟨y,List.mem_range.2 hy,h1,by simpa using h2⟩
  induction k with
  | zero =>
    rcases hcase 0 with h | h
    · exact .inl h
    · exact .inr (by omega)
  | succ k ih =>
    rcases ih with h | h
    · exact .inl (hstill k h)
    · rcases hcase (k+1) with h1 | h1
      · exact .inl h1
      · exact .inr (by omega)
 obtain ⟨hy0,hy4⟩:=closK_in hl ho 6 _ hx
 simp only at hy0 hy4
 obtain ⟨y,rfl⟩:=Int.eq_ofNat_of_zero_le hy0
 rcases hgrow 5 with h | h
 · have:=h y (by omega) (by rw [rowOf,List.contains_iff_mem];exact hx)
   rwa [rowOf,List.contains_iff_mem] at this
 · have:=List.length_filter_le (rowOf l o x1 (5+1)) (List.range 5)
   rw [List.length_range] at this
   omega
theorem clos_stay {l o:List Pr} {k:Nat} (h:closStep l (closK l o k)=closK l o k):∀ j,closK l o (k+j)=closK l o k
 | 0=>rfl
 | j+1=>by rw [<- Nat.add_assoc,closK,clos_stay h j,h]
theorem clos_len {l o:List Pr} (has:ascP o) {k:Nat} (h:(closStep l (closK l o k)).length=(closK l o k).length):closStep l (closK l o k)=closK l o k :=
 ((subP (closK_asc has k) (psetL_asc _) fun x hx=>closK_mono hx).eq_of_length h.symm).symm
end Go.Proofs.Ytloeghbhoflabaa
namespace Go.Proofs.Ytloeghbhoflabaa
open Go.ChangeShapes Go.WideShapes Go.ChangeAt Go.RowKit
def selfE (g:Gr) (lt:Int) (x:Nat):List Pr:=if lt=6+g.vals.getD x 0 then [((x:Int),(x:Int))] else []
def selfL (g:Gr) (lt:Int) (n:Nat):List Pr:=(List.range n).flatMap (selfE g lt)
def edgE (lt:Int) (e:Ed):List Pr:=(if 2 * e.2.2.2=lt then [(e.2.1,e.2.2.1)] else []) ++ (if 2 * e.2.2.2+1=lt then [(e.2.2.1,e.2.1)] else [])
def specLet (g:Gr) (lt:Int):List Pr:=selfL g lt g.vals.length ++ g.edges.flatMap (edgE lt)
def letterL (g:Gr) (lt:Int):List Pr:=if grOk g then psetL (specLet g lt) else []
def arcP (lt:Int) (x:Nat) (y:Arc):List Pr:=if y.2.1=lt then [((x:Int),y.2.2)] else []
def rowP (g:Gr) (lt:Int) (x:Nat):List Pr:=(arcsOf g (x:Int)).flatMap (arcP lt x) ++ selfE g lt x
def implLet (g:Gr) (lt:Int) (n:Nat):List Pr:=(List.range n).flatMap (rowP g lt)
theorem selfL_succ (g:Gr) (lt:Int) (n:Nat):selfL g lt (n+1)=selfL g lt n ++ selfE g lt n:=by simp [selfL,List.range_succ]
theorem implLet_succ (g:Gr) (lt:Int) (n:Nat):implLet g lt (n+1)=implLet g lt n ++ rowP g lt n:=by simp [implLet,List.range_succ]
theorem selfE_len (g:Gr) (lt:Int) (x:Nat):(selfE g lt x).length<=1:=by unfold selfE;split <;> simp
theorem edgE_len (lt:Int) (e:Ed):(edgE lt e).length<=2:=by unfold edgE;split <;> split <;> simp
theorem arcP_len (lt:Int) (x:Nat) (y:Arc):(arcP lt x y).length<=1:=by unfold arcP;split <;> simp
theorem flat_le {α β:Type} {f:α->List β} {k:Nat} (hf:∀ x,(f x).length<=k):∀ l:List α,(l.flatMap f).length<=l.length * k
 | []=>by simp
 | x :: l=>by
   have:=flat_le hf l
   have:=hf x
   simp only [List.flatMap_cons,List.length_append,List.length_cons,Nat.add_mul,Nat.one_mul]
   omega
theorem selfL_len (g:Gr) (lt:Int) (n:Nat):(selfL g lt n).length<=n:=by
 have:=flat_le (selfE_len g lt) (List.range n)
 rw [List.length_range,Nat.mul_one] at this
 exact this
theorem rowP_len {g:Gr} (hg:GrOk g) (lt:Int) (x:Nat):(rowP g lt x).length<=25:=by
 have h1:=flat_le (arcP_len lt x) (arcsOf g (x:Int))
 have h2:=arcs_len hg (x:Int)
 have h3:=selfE_len g lt x
 rw [rowP,List.length_append]
 omega
theorem implLet_len {g:Gr} (hg:GrOk g) (lt:Int) (n:Nat):(implLet g lt n).length<=n * 25:=by
 have:=flat_le (rowP_len hg lt) (List.range n)
 rwa [List.length_range] at this
theorem mem_edgE {lt:Int} {e:Ed} {p:Pr}:p ∈ edgE lt e ↔ (2 * e.2.2.2=lt/\p=(e.2.1,e.2.2.1)) ∨ (2 * e.2.2.2+1=lt/\p=(e.2.2.1,e.2.1)):=by
 unfold edgE
 rw [List.mem_append]
 by_cases h1:2 * e.2.2.2=lt <;> by_cases h2:2 * e.2.2.2+1=lt <;> simp [h1,h2]
theorem letter_impl {g:Gr} (hg:GrOk g) (lt:Int):psetL (implLet g lt g.vals.length)=psetL (specLet g lt):=psetL_of fun p=>by
 simp only [implLet,specLet,selfL,rowP,List.mem_append,List.mem_flatMap,List.mem_range]
 constructor
 · rintro ⟨x,hx,⟨y,hy,hp⟩ | hp⟩
   · refine .inr ?_
     obtain ⟨e,he,hye⟩:=List.mem_flatMap.1 hy
     refine ⟨e,he,mem_edgE.2 ?_⟩
     unfold arcP at hp
     split at hp
     · rename_i hlt
       rw [List.mem_singleton] at hp
       subst hp
       rcases mem_arcE.1 hye with ⟨h1,rfl⟩ | ⟨h1,rfl⟩
       · exact .inl ⟨hlt,by simp only;rw [h1]⟩
       · exact .inr ⟨hlt,by simp only;rw [h1]⟩
     · cases hp
   · exact .inl ⟨x,hx,hp⟩
 · rintro (⟨x,hx,hp⟩ | ⟨e,he,hp⟩)
   · exact ⟨x,hx,.inr hp⟩
   · obtain ⟨-,⟨f0,f1⟩,⟨t0,t1⟩,-⟩:=hg.edges e he
     rcases mem_edgE.1 hp with ⟨h1,rfl⟩ | ⟨h1,rfl⟩
     · obtain ⟨x,hx⟩:=Int.eq_ofNat_of_zero_le f0
       refine ⟨x,by omega,.inl ⟨((e.1,false),2 * e.2.2.2,e.2.2.1),List.mem_flatMap.2 ⟨e,he,mem_arcE.2 (.inl ⟨hx,rfl⟩)⟩,?_⟩⟩
       rw [arcP,if_pos h1,List.mem_singleton,hx]
     · obtain ⟨x,hx⟩:=Int.eq_ofNat_of_zero_le t0
       refine ⟨x,by omega,.inl ⟨((e.1,true),2 * e.2.2.2+1,e.2.1),List.mem_flatMap.2 ⟨e,he,mem_arcE.2 (.inr ⟨hx,rfl⟩)⟩,?_⟩⟩
       rw [arcP,if_pos h1,List.mem_singleton,hx]
theorem letter_none {g:Gr} (hg:GrOk g) {lt:Int} (h:wi lt 0 8=false):specLet g lt=[]:=by
 have hn:¬ (0<=lt/\lt<=8):=fun hc=>by
  rw [wi_iff.2 hc] at h
  cases h
 refine List.eq_nil_iff_forall_not_mem.2 fun p hp=>hn ?_
 simp only [specLet,selfL,List.mem_append,List.mem_flatMap,List.mem_range] at hp
 rcases hp with ⟨x,hx,hp⟩ | ⟨e,he,hp⟩
 · unfold selfE at hp
   split at hp
   · rename_i hl
     have hv:=hg.vals _ (List.getElem_mem hx)
     rw [show g.vals.getD x 0=g.vals[x] by simp [List.getD,hx]] at hl
     omega
   · cases hp
 · obtain ⟨-,-,-,l0,l2⟩:=hg.edges e he
   rcases mem_edgE.1 hp with ⟨h1,-⟩ | ⟨h1,-⟩ <;> omega
end Go.Proofs.Ytloeghbhoflabaa
/-
 DERIVED: THE SHELF's CONTRACTS AT THIS DUMP,IN PLAIN WORDS (tools/lay-plain.mjs out of 'TryShelfP.lean',which tools/lay-shelf.mjs wrote): THE SAME DECLARATIONS UNDER THE SAME NAMES: 'import','namespace','open','def','theorem' AND NOTHING ELSE: no command of the shelf's: FOR A HAND-IN. Each laying: the table of numbers ('.._ren') and one theorem,a field a fact of the dump's own or the kernel's comparison;each contract: ONE APPLICATION.
-/
namespace Go.Proofs
open Go.Shelf
def Try.laysSF_ren:Go.Shelf.Ren:=⟨fun | 6=>118 | 15=>130 | 14=>129 | 28=>144 | 29=>145 | 20=>136 | 21=>137 | 22=>138 | 23=>139 | 24=>140 | 25=>141 | 26=>142 | 27=>143 | 46=>148 | 47=>149 | 48=>150 | 49=>151 | 50=>152 | 57=>155 | n=>n,fun | 22=>31 | 24=>82 | 25=>169 | 3=>3 | 39=>145 | 0=>0 | 53=>190 | 55=>192 | 4=>4 | 46=>184 | 45=>183 | 50=>97 | 5=>5 | 9=>9 | 66=>195 | 70=>199 | 76=>202 | 77=>203 | n=>n,fun | n=>n⟩
theorem Try.laysSF:Go.Proofs.SlLaysF0.n6 Try.prog Try.laysSF_ren:={
 mixed:=by kernel_rfl
 f6:=⟨Try.f118.name,by decide,Try.func118.trans (congrArg some (by kernel_rfl))⟩
 f14:=⟨Try.f129.name,by decide,Try.func129.trans (congrArg some (by kernel_rfl))⟩
 f15:=Try.func130.trans (congrArg some (by kernel_rfl))
 f20:=⟨Try.f136.name,by decide,Try.func136.trans (congrArg some (by kernel_rfl))⟩
 f21:=⟨Try.f137.name,by decide,Try.func137.trans (congrArg some (by kernel_rfl))⟩
 f22:=⟨Try.f138.name,by decide,Try.func138.trans (congrArg some (by kernel_rfl))⟩
 f23:=⟨Try.f139.name,by decide,Try.func139.trans (congrArg some (by kernel_rfl))⟩
 f24:=⟨Try.f140.name,by decide,Try.func140.trans (congrArg some (by kernel_rfl))⟩
 f25:=⟨Try.f141.name,by decide,Try.func141.trans (congrArg some (by kernel_rfl))⟩
 f26:=⟨Try.f142.name,by decide,Try.func142.trans (congrArg some (by kernel_rfl))⟩
 f27:=⟨Try.f143.name,by decide,Try.func143.trans (congrArg some (by kernel_rfl))⟩
 f28:=Try.func144.trans (congrArg some (by kernel_rfl))
 f29:=Try.func145.trans (congrArg some (by kernel_rfl))
 f46:=⟨Try.f148.name,by decide,Try.func148.trans (congrArg some (by kernel_rfl))⟩
 f47:=Try.func149.trans (congrArg some (by kernel_rfl))
 f48:=Try.func150.trans (congrArg some (by kernel_rfl))
 f49:=⟨Try.f151.name,by decide,Try.func151.trans (congrArg some (by kernel_rfl))⟩
 f50:=⟨Try.f152.name,by decide,Try.func152.trans (congrArg some (by kernel_rfl))⟩
 f57:=⟨Try.f155.name,by decide,Try.func155.trans (congrArg some (by kernel_rfl))⟩
 t0:=Try.underlying0
 a0:=Try.isAgg0
 z0:=Try.sizeOf0
 v0:=Try.zeroValue0
 t3:=Try.underlying3
 a3:=Try.isAgg3
 z3:=Try.sizeOf3
 v3:=Try.zeroValue3
 t4:=Try.underlying4
 a4:=Try.isAgg4
 z4:=Try.sizeOf4
 v4:=Try.zeroValue4
 t5:=Try.underlying5
 a5:=Try.isAgg5
 z5:=Try.sizeOf5
 v5:=Try.zeroValue5
 t9:=Try.underlying9
 a9:=Try.isAgg9
 z9:=Try.sizeOf9
 v9:=Try.zeroValue9
 t22:=Try.underlying31
 a22:=Try.isAgg31
 z22:=Try.sizeOf31
 v22:=Try.zeroValue31
 t25:=Try.underlying169
 a25:=Try.isAgg169
 z25:=Try.sizeOf169
 v25:=Try.zeroValue169
 t39:=Try.underlying145
 a39:=Try.isAgg145
 z39:=Try.sizeOf145
 v39:=Try.zeroValue145
 t45:=Try.underlying183
 a45:=Try.isAgg183
 z45:=Try.sizeOf183
 v45:=Try.zeroValue183
 t46:=Try.underlying184
 a46:=Try.isAgg184
 z46:=Try.sizeOf184
 v46:=Try.zeroValue184
 t50:=Try.underlying97
 a50:=Try.isAgg97
 z50:=Try.sizeOf97
 v50:=Try.zeroValue97
 t53:=Try.underlying190
 a53:=Try.isAgg190
 z53:=Try.sizeOf190
 v53:=Try.zeroValue190
 t55:=Try.underlying192
 a55:=Try.isAgg192
 z55:=Try.sizeOf192
 v55:=Try.zeroValue192
 t66:=Try.underlying195
 a66:=Try.isAgg195
 z66:=Try.sizeOf195
 v66:=Try.zeroValue195
 t70:=Try.underlying199
 a70:=Try.isAgg199
 z70:=Try.sizeOf199
 v70:=Try.zeroValue199
 t76:=Try.underlying202
 a76:=Try.isAgg202
 z76:=Try.sizeOf202
 v76:=Try.zeroValue202
 t77:=Try.underlying203
 a77:=Try.isAgg203
 z77:=Try.sizeOf203
 v77:=Try.zeroValue203 }
end Go.Proofs
namespace Go.Proofs.Ytloeghbhoflabaa
open Go.ChangeShapes Go.WideShapes Go.ChangeAt Go.RowKit Go.Sort
theorem konly_ahead (lo hi:Nat) (w:World) (n:Nat):Only lo hi w (Sort.ahead w n):=⟨rfl,rfl,rfl,Nat.le_refl _,fun _ _ _=>rfl⟩
theorem konly_grow (lo hi:Nat) (w:World) (os:Array Obj):Only lo hi w (grow w os):=⟨rfl,rfl,rfl,by simp [grow],fun n hn _=>by simp [grow,Array.getElem?_append,hn]⟩
theorem konly_put {α:Type} [Inhabited α] (enc:α->Value) (w:World) (g off:Nat) (d:Array α):Only g (g+1) w (putRow enc w g off d) :=
 ⟨rfl,rfl,rfl,by simp [putRow,mapBlock],fun n hn ho=>by simp only [putRow,mapBlock,Array.getElem?_modify];rw [if_neg (by omega)]⟩
theorem row_putF {w:World} {base g n cap k:Nat} {e:TypeId} {cs:List Value} (h:w.ownsRow base e k (.slice (some ⟨g,0,none⟩) n cap) n cs) {F:Array Value} (hF:F.size=n * k) :
 (putRow id w g 0 F).ownsRow base e k (.slice (some ⟨g,0,none⟩) n cap) n F.toList:=by
 obtain ⟨hl,hs⟩:=h
 refine ⟨by simp [hF],?_⟩
 rcases hs with ⟨h1,_⟩ | ⟨g',cap',cur,hv,hg,hh,hnc,hcm,hsz,htk⟩
 · cases h1
 · simp only [Value.slice.injEq,Option.some.injEq,Addr.mk.injEq,and_true,true_and] at hv
   obtain ⟨rfl,rfl⟩:=hv
   have hcs:n * k<=cur.size:=by rw [hsz];exact Nat.mul_le_mul_right k hnc
   refine .inr ⟨g,cap,putCells id 0 F cur,rfl,hg,?_,hnc,hcm,by simp [putCells,hsz],?_⟩
   · simp [putRow,mapBlock,Array.getElem?_modify,hh,onCells]
   · apply List.ext_getElem?
     intro j
     rw [List.getElem?_take]
     by_cases hk:j < n * k
     · rw [if_pos hk]
       have hkc:j < cur.size:=by omega
       have hkd:j < F.size:=by omega
       simp [putCells,hkc,hkd,getElem!_pos]
     · rw [if_neg hk,List.getElem?_eq_none (by simp;omega)]
theorem flatK_list (ds:List Pr):(flatK cPr 2 ds.toArray).toList=ds.flatMap cPr:=by
 apply List.ext_getElem?
 intro t
 by_cases ht:t < ds.length * 2
 · have hi:t / 2 < ds.length:=by omega
   have hx:ds[t / 2]?=some ds[t / 2]:=List.getElem?_eq_getElem hi
   have hj:t % 2 < (cPr ds[t / 2]).length:=by rw [cPr_len];omega
   have h1:=flat_at cPr_len hx (t % 2) _ (List.getElem?_eq_getElem hj)
   rw [show t / 2 * 2+t % 2=t by omega] at h1
   rw [h1,Array.getElem?_toList,Array.getElem?_eq_getElem (by simpa using ht)]
   congr 1
   have h2:=get_flatK cPr 2 ds.toArray t (by simpa using ht)
   rw [getElem!_pos _ _ (by simpa using ht)] at h2
   rw [h2,getElem!_pos ds.toArray _ (by simpa using hi),getElem!_pos _ _ (by simpa using hj)]
   simp
 · rw [List.getElem?_eq_none (by simp;omega),List.getElem?_eq_none]
   have:(ds.flatMap cPr).length=ds.length * 2:=by
    clear ht
    induction ds with
    | nil=>rfl
    | cons d ds ih=>rw [List.flatMap_cons,List.length_append,ih,cPr_len,List.length_cons];omega
   omega
theorem holds_ownK {w:World} {base g n cap:Nat} {e:TypeId} {zs:List Pr} (h:w.ownsRow base e 2 (.slice (some ⟨g,0,none⟩) n cap) n (zs.flatMap cPr)) (hz:zs.length=n):HoldsK cPr 2 w g 0 zs.toArray:=by
 intro j hj
 have hj':j < zs.length * 2:=by simpa using hj
 refine ⟨?_,by rw [Nat.zero_add];exact World.ownsRow.frozenAt h j⟩
 rw [Nat.zero_add,World.ownsRow.cellAt h j (by omega),<- flatK_list,Array.getElem?_toList,Array.getElem?_eq_getElem hj,getElem!_pos _ j hj]
 rfl
end Go.Proofs.Ytloeghbhoflabaa
