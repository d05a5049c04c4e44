/- Parts of the proof, joined into one text: TreeI, GraphI, GraphS, Holds, ProdI, DistM, NextM, NextI. -/
import Derived.Test.YtloeghbhoflabaaGreatOnlzJDDHLKGG
import Derived.Test.YtloeghbhoflabaaGreatOnlzMBBPDBAM
import Derived.Test.YtloeghbhoflabaaGreatOnlzNPPBGEHB
import Derived.Test.YtloeghbhoflabaaGreatOnlzMBOLNCNE
import Derived.Lib.SliceRun
import Derived.Deep.CutBlock
import Derived.Deep.CutRange
set_option linter.unusedVariables false
set_option linter.unusedSimpArgs false
namespace Go.Proofs.YtloeghbhoflabaaGreat
open Go.ChangeShapes Go.WideShapes Go.ChangeAt Go.RowKit
attribute [local go_sem] ext_cell ext_frozen ext_lt ext_lt1 ext_lt2 ext_lt3 ltn2 ltn3 ltn13 lts1 lts2 lts3
/-- a pointer as a slice's element -/
def cP (b:Nat):List Value:=[.pointer (some ⟨b,0,none⟩)]
theorem cP_len (b:Nat):(cP b).length=1:=rfl
theorem cP_one (b:Nat):∀ u ∈ cP b,u.oneCell'=true:=by intro u hu;simp only [cP,List.mem_singleton] at hu;subst hu;rfl
abbrev nodeC (t:Tok) (ks:Value):Array Value:=#[.int .i64 t.1,.int .i64 t.2.1,.int .i64 t.2.2.1,.int .i64 t.2.2.2,ks]
/-- a tree in memory, its blocks other than ob -/
def TreeAt (w:World) (ob:Option Nat) (b:Nat):Tr->Prop
 | .leaf t=>some b ≠ ob/\∃ ks,Blk w b 99 (nodeC t ks)
 | .un t a=>some b ≠ ob/\∃ g o c p,Blk w b 99 (nodeC t (.slice (some ⟨g,o,none⟩) 1 c))/\some g ≠ ob/\g < w.heap.size/\w.cell? ⟨g,o,none⟩=some (.pointer (some ⟨p,0,none⟩))/\TreeAt w ob p a
 | .bin t a d=>some b ≠ ob/\∃ g o c p q,Blk w b 99 (nodeC t (.slice (some ⟨g,o,none⟩) 2 c))/\some g ≠ ob/\g < w.heap.size/\w.cell? ⟨g,o,none⟩=some (.pointer (some ⟨p,0,none⟩))/\w.cell? ⟨g,o+1,none⟩=some (.pointer (some ⟨q,0,none⟩))/\TreeAt w ob p a/\TreeAt w ob q d
theorem TreeAt.keep {w w':World} {ob ob':Option Nat} (hb:∀ n,n < w.heap.size->some n ≠ ob->w'.heap[n]?=w.heap[n]?) (ho:∀ n,n < w.heap.size->some n ≠ ob->some n ≠ ob') (hs:w.heap.size<=w'.heap.size) :
 ∀ {r:Tr} {b:Nat},TreeAt w ob b r->TreeAt w' ob' b r
 | .leaf t,b,⟨h1,ks,h2⟩=>⟨ho b h2.lt h1,ks,(hb b h2.lt h1).trans h2⟩
 | .un t a,b,⟨h1,g,o,c,p,h2,h3,h4,h5,h6⟩=>⟨ho b h2.lt h1,g,o,c,p,(hb b h2.lt h1).trans h2,ho g h4 h3,Nat.lt_of_lt_of_le h4 hs,(World.cell?_of_block (w:=w) (a:=⟨g,o,none⟩) (hb g h4 h3)).trans h5,TreeAt.keep hb ho hs h6⟩
 | .bin t a d,b,⟨h1,g,o,c,p,q,h2,h3,h4,h5,h5',h6,h7⟩=>⟨ho b h2.lt h1,g,o,c,p,q,(hb b h2.lt h1).trans h2,ho g h4 h3,Nat.lt_of_lt_of_le h4 hs,(World.cell?_of_block (w:=w) (a:=⟨g,o,none⟩) (hb g h4 h3)).trans h5,(World.cell?_of_block (w:=w) (a:=⟨g,o+1,none⟩) (hb g h4 h3)).trans h5',TreeAt.keep hb ho hs h6,TreeAt.keep hb ho hs h7⟩
theorem TreeAt.below {w w':World} {ob:Option Nat} {r:Tr} {b:Nat} (h:TreeAt w ob b r) (hb:Below w.heap.size w w'):TreeAt w' ob b r:=h.keep (fun n hn _=>hb.block n hn) (fun _ _ h=>h) hb.size
theorem TreeAt.free {w:World} {ob:Option Nat} {r:Tr} {b:Nat} (h:TreeAt w ob b r):TreeAt w none b r:=h.keep (fun _ _ _=>rfl) (fun _ _ _ h=>(by cases h)) (Nat.le_refl _)
theorem TreeAt.root {w:World} {ob:Option Nat} {r:Tr} {b:Nat} (h:TreeAt w ob b r):∃ ks,Blk w b 99 (nodeC r.root ks):=by
 cases r with
 | leaf t=>obtain ⟨-,ks,h⟩:=h;exact ⟨ks,h⟩
 | un t a=>obtain ⟨-,g,o,c,p,h,-⟩:=h;exact ⟨_,h⟩
 | bin t a d=>obtain ⟨-,g,o,c,p,q,h,-⟩:=h;exact ⟨_,h⟩
theorem elP:ElemOk Tryz.prog 95 79 (.pointer none) 1 8:=⟨Tryz.underlying95,by kernel_rfl,rfl,by omega⟩
set_option maxRecDepth 100000 in
set_option maxHeartbeats 1000000 in
theorem clone_any (A:Option Addr) (n c lo hi:Nat) (xs:List Nat) (w:World) (hv:SlI lo hi w cP 1 (.slice A n c) xs) (hl:xs.length<=1000) (hhi:hi<=w.heap.size) :
 Calls Tryz.prog 67 #[.slice A n c] w fun e w'=>∃ v',e=.returned v'/\Own w.heap.size w'.heap.size w' 79 cP 1 v' xs/\Below w.heap.size w w':=by
 have HV:=Hd_ hv
 have qn:∀ (w:World) (a:Option Addr) (n c n' c':Nat),(binOp .eql 95 (.slice a n c) (.slice none n' c')).run Tryz.prog w=.ok (.bool a.isNone) w:=fun w a n c n' c'=>Lib.run_eql_slice_nil w _ _ a n c n' c' Tryz.underlying95
 cases A with
 | none =>
   have hx:xs=[]:=by
    obtain ⟨A',c',hv,-,-,hx⟩:=hv
    cases xs with
    | nil=>rfl
    | cons x xs =>
      obtain ⟨b,o,hA,-⟩:=hx 0 x rfl
      injection hv with h1
      rw [<- h1] at hA
      cases hA
   subst hx
   clear HV hv hl
   go_enter Tryz.func67,Tryz.ntmps67
   go_wp2_with fail
   go_ret
   exact ⟨_,rfl,Own.nil _ _ _ _ _ _,Below.refl _ _⟩
 | some a =>
   obtain ⟨A0,c0,hva,hl0,hm0,-⟩:=hv
   obtain rfl:n=xs.length:=by injection hva
   have hba:Below w.heap.size w (w.alloc (.cells #[] 79)):=(Below.refl _ _).alloc (Nat.le_refl _) _
   have hrow:=World.ownsRow_lit (base:=w.heap.size) (e:=79) (size:=1) w #[] 0 (Nat.le_refl _) (by decide) rfl
   have HV1:=Hd_ ((show SlI lo hi w cP 1 (.slice (some a) xs.length c) xs from HV.out))
   have HR:=Hd_ hrow
   clear hva hrow HV hl0 hm0
   go_enter Tryz.func67,Tryz.ntmps67
   go_wp2_with (at_builtin;(refine wpList_appendL cP elP cP_len cP_one rfl _ _ rfl w.heap.size _ [] xs (by rfl) HR.out lo hi _ (by rfl) (HV1.out.below hba hhi) (by simp;omega) (by omega) (by simp) ?_);intro v' w4 hrow' hgr4 hat4)
   have hown:=Own.of_row (xs:=xs) hrow' rfl rfl
   have hbel:=(hba.trans (own_below HR.out (by simp) hgr4))
   obtain ⟨A2,n2,c2,rfl⟩:=hown.shape
   have HO:=Hd_ hown
   clear hown hgr4 hrow' hat4
   go_wp2_with fail
   go_ret
   exact ⟨_,rfl,HO.out,hbel⟩
theorem ar_num {tk tl tlo thi:Int} {m:Nat} (h:ar (tk,tl,tlo,thi)=some m):(if tk=4 ∨ tk=5 then (2:Int) else if tk=6 ∨ tk=7 then 1 else 0)=m/\m<=2:=by
 unfold ar at h
 simp only at h
 split at h
 · rename_i hk
   split at h
   · injection h with h;subst h
     rw [if_neg (by omega),if_neg (by omega)];exact ⟨rfl,by omega⟩
   · cases h
 · split at h
   · rename_i hk
     split at h
     · injection h with h;subst h
       rw [if_neg (by omega),if_neg (by omega)];exact ⟨rfl,by omega⟩
     · cases h
   · split at h
     · rename_i hk
       split at h
       · injection h with h;subst h
         rw [if_pos hk];exact ⟨rfl,by omega⟩
       · cases h
     · rename_i hk
       split at h
       · rename_i hk6
         split at h
         · injection h with h;subst h
           rw [if_neg hk,if_pos (.inl hk6)];exact ⟨rfl,by omega⟩
         · cases h
       · split at h
         · rename_i hk7
           split at h
           · injection h with h;subst h
             rw [if_neg hk,if_pos (.inr hk7)];exact ⟨rfl,by omega⟩
           · cases h
         · cases h
/-- a row's end, from its k-th element on -/
theorem row_drop {W:World} {base n g c:Nat} {e:TypeId} {xs:List Nat} (h:W.ownsRow base e 1 (.slice (some ⟨g,0,none⟩) n c) n (xs.flatMap cP)) (hn:n=xs.length) {k:Nat} (hk:k<=n) :
 SlI base W.heap.size W cP 1 (.slice (if c=k then some ⟨g,0,none⟩ else some ⟨g,k,none⟩) (n - k) (c - k)) (xs.drop k):=by
 subst hn
 have hs:=(Own.of_row (xs:=xs) h rfl rfl).sl cP_len
 obtain ⟨A',c',hv,h1,h2,hx⟩:=hs
 simp only [Value.slice.injEq,true_and] at hv
 obtain ⟨rfl,rfl⟩:=hv
 have hld:(xs.drop k).length=xs.length - k:=List.length_drop
 refine ⟨_,_,by rw [hld],by rw [hld];omega,by omega,fun i x hi=>?_⟩
 have hi':=(List.getElem?_eq_some_iff.1 hi).1
 rw [hld] at hi'
 rw [List.getElem?_drop] at hi
 obtain ⟨b,o,hA,h4,h5,h6⟩:=hx (k+i) x hi
 simp only [Option.some.injEq,Addr.mk.injEq,and_true] at hA
 obtain ⟨rfl,rfl⟩:=hA
 rw [if_neg (by omega)]
 refine ⟨g,k,rfl,h4,h5,fun j u hu=>?_⟩
 have h7:=h6 j u hu
 rw [Nat.zero_add,Nat.mul_one] at h7
 rw [Nat.mul_one]
 exact h7
theorem flat_takeP (ps:List Nat) (k:Nat):(ps.take k).flatMap cP=(ps.flatMap cP).take k:=by
 induction ps generalizing k with
 | nil=>simp
 | cons p ps ih=>cases k with
   | zero=>simp
   | succ k=>simp [cP,ih]
theorem row_cap' {W:World} {base k n g c:Nat} {e:TypeId} {cs:List Value} (h:W.ownsRow base e k (.slice (some ⟨g,0,none⟩) n c) n cs):n<=c/\c<=9223372036854775807:=by
 obtain ⟨_,hs⟩:=h
 rcases hs with ⟨h1,_⟩ | ⟨g',cap',cur,hv,hg,hh,hnc,hcm,_⟩
 · cases h1
 · simp only [Value.slice.injEq,Option.some.injEq,Addr.mk.injEq,and_true,true_and] at hv
   obtain ⟨rfl,rfl⟩:=hv
   exact ⟨hnc,hcm⟩
/-- the stack of trees: its row, and the trees that it points to -/
structure StkR (w0 w:World) (g cap:Nat) (ps:List Nat) (st:List Tr):Prop where
 row:w.ownsRow w0.heap.size 79 1 (.slice (some ⟨g,0,none⟩) ps.length cap) ps.length (ps.flatMap cP)
 len:ps.length=st.length
 at_:∀ (j p:Nat) (r:Tr),ps[j]?=some p->st[j]?=some r->TreeAt w (some g) p r
 bel:Below w0.heap.size w0 w
theorem StkR.lt {w0 w:World} {g cap:Nat} {ps:List Nat} {st:List Tr} (h:StkR w0 w g cap ps st):w0.heap.size<=g/\g < w.heap.size:=h.row.lt g rfl
theorem StkR.keep {w0 w w':World} {g cap:Nat} {ps:List Nat} {st:List Tr} (h:StkR w0 w g cap ps st) (hb:Below w.heap.size w w'):StkR w0 w' g cap ps st :=
 ⟨ownsRow_block h.row (fun b hb'=>hb.block b (by have:=(h.row.lt b hb').2;exact this)),h.len,fun j p r h1 h2=>(h.at_ j p r h1 h2).below hb,below_trans h.bel hb⟩
/-- the two pieces that a push cuts the stack into -/
theorem ptrs_at {lo hi:Nat} {w:World} {A:Option Addr} {n c:Nat} {xs:List Nat} (h:SlI lo hi w cP 1 (.slice A n c) xs):n=xs.length/\∀ (i x:Nat),xs[i]?=some x->∃ q o,A=some ⟨q,o,none⟩/\lo<=q/\q < hi/\w.cell? ⟨q,o+i,none⟩=some (.pointer (some ⟨x,0,none⟩)):=by
 obtain ⟨A',c',hv,-,-,hx⟩:=h
 injection hv with h1 h2 h3
 subst h1
 refine ⟨h2,fun i x hi=>?_⟩
 obtain ⟨q,o,hA,h4,h5,h6⟩:=hx i x hi
 exact ⟨q,o,hA,h4,h5,by simpa using h6 0 _ rfl⟩
theorem StkR.push {w0 w3 w4 w6:World} {g cap g2 cap2 m k:Nat} {ps:List Nat} {st st':List Tr} {t:Tok} {ks:Value} {nt lt:TypeId} (h:StkR w0 w3 g cap ps st) (hst:Go.Proofs.YtloeghbhoflabaaGreat.push st t=some st') (hm:ar t=some m) (hk:k+m=ps.length)
 (hb4:Below w3.heap.size w3 w4) (ho:Own w3.heap.size w4.heap.size w4 79 cP 1 ks (ps.drop k)) (hnt:nt=99)
 (hrow:w6.ownsRow w0.heap.size 79 1 (.slice (some ⟨g2,0,none⟩) (k+1) cap2) (ps.take k ++ [w4.heap.size]).length ((ps.take k ++ [w4.heap.size]).flatMap cP))
 (hgr:((w4.alloc (.cells (nodeC t ks) nt)).alloc (.cells #[.pointer (some ⟨w4.heap.size,0,none⟩)] lt)).grownBy w6 (some g)) (hg2:some g=some g2 ∨ ((w4.alloc (.cells (nodeC t ks) nt)).alloc (.cells #[.pointer (some ⟨w4.heap.size,0,none⟩)] lt)).heap.size<=g2) :
 StkR w0 w6 g2 cap2 (ps.take k ++ [w4.heap.size]) st':=by
 subst hnt
 have hl:=h.lt
 have hlen:=h.len
 have hs4:=hb4.size
 have hsz:((w4.alloc (.cells (nodeC t ks) 99)).alloc (.cells #[.pointer (some ⟨w4.heap.size,0,none⟩)] lt)).heap.size=w4.heap.size+2:=by simp
 rw [hsz] at hg2
 have hg2':g2=g ∨ w4.heap.size+2<=g2:=hg2.imp (fun e=>by injection e with e;exact e.symm) id
 have hbA:=((Below.refl w4.heap.size w4).alloc (Nat.le_refl _) (.cells (nodeC t ks) 99)).alloc (by simp) (.cells #[.pointer (some ⟨w4.heap.size,0,none⟩)] lt)
 have hbl:∀ n,n < w4.heap.size+2->n ≠ g->w6.heap[n]?=((w4.alloc (.cells (nodeC t ks) 99)).alloc (.cells #[.pointer (some ⟨w4.heap.size,0,none⟩)] lt)).heap[n]?:=fun n hn hne=>hgr.block n (by rw [hsz];exact hn) (fun e=>hne (by injection e))
 have hs6:w4.heap.size+2<=w6.heap.size:=by have:=hgr.size;rw [hsz] at this;exact this
 have hw4:∀ n,n < w4.heap.size->n ≠ g->w6.heap[n]?=w4.heap[n]?:=fun n hn hne=>(hbl n (by omega) hne).trans (hbA.block n hn)
 have hold:∀ {r:Tr} {b:Nat},TreeAt w3 (some g) b r->TreeAt w6 (some g2) b r:=fun hT=>hT.keep (fun n hn hne=>(hw4 n (by omega) (fun e=>hne (by rw [e]))).trans (hb4.block n hn)) (fun n hn hne e=>by
  injection e with e
  rcases hg2' with h1 | h1
  · exact hne (by rw [e,h1])
  · omega) (by omega)
 have hnode:Blk w6 w4.heap.size 99 (nodeC t ks):=(hbl _ (by omega) (by omega)).trans ((Blk.new w4 99 (nodeC t ks) _ rfl).alloc (.cells #[.pointer (some ⟨w4.heap.size,0,none⟩)] lt))
 have hneb:some w4.heap.size ≠ some g2:=fun e=>by injection e with e;omega
 obtain ⟨r,rfl,hroot,-,hle,-,-,hcs⟩:=push_eq hst
 rw [hm] at hle
 simp only [Option.getD_some] at hle
 have hkk:st.length - m=k:=by omega
 have hks:=ho.sl cP_len
 obtain ⟨A7,n7,c7,rfl⟩:=hks.shape
 obtain ⟨hn7,hpt⟩:=ptrs_at hks
 rw [List.length_drop] at hn7
 have hkid:∀ (i p:Nat) (a:Tr),(ps.drop k)[i]?=some p->(st.drop k)[i]?=some a->∃ q o,A7=some ⟨q,o,none⟩/\some q ≠ some g2/\q < w6.heap.size/\w6.cell? ⟨q,o+i,none⟩=some (.pointer (some ⟨p,0,none⟩))/\TreeAt w6 (some g2) p a:=by
  intro i p a hp ha
  obtain ⟨q,o,hA,h1,h2,h3⟩:=hpt i p hp
  rw [List.getElem?_drop] at hp ha
  exact ⟨q,o,hA,fun e=>by injection e with e;omega,by omega,(World.cell?_of_block (w:=w4) (a:=⟨q,o+i,none⟩) (hw4 q h2 (by omega))).trans h3,hold (h.at_ _ _ _ hp ha)⟩
 have hnew:TreeAt w6 (some g2) w4.heap.size r:=by
  rcases hcs with ⟨ha,rfl⟩ | ⟨a,ha,rfl,hd⟩ | ⟨a,d,ha,rfl,hd⟩
  · exact ⟨hneb,_,hnode⟩
  · obtain rfl:m=1:=by rw [hm] at ha;injection ha
    rw [hkk] at hd
    have hd0:0 < (ps.drop k).length:=by rw [List.length_drop];omega
    have hp:(ps.drop k)[0]?=some (ps.drop k)[0]:=List.getElem?_eq_getElem hd0
    obtain ⟨q,o,rfl,h1,h2,h3,h4⟩:=hkid 0 _ a hp (by rw [hd];rfl)
    obtain rfl:n7=1:=by omega
    exact ⟨hneb,q,o,c7,_,hnode,h1,h2,h3,h4⟩
  · obtain rfl:m=2:=by rw [hm] at ha;injection ha
    rw [hkk] at hd
    have hd0:0 < (ps.drop k).length:=by rw [List.length_drop];omega
    have hp:(ps.drop k)[0]?=some (ps.drop k)[0]:=List.getElem?_eq_getElem hd0
    have hd1:1 < (ps.drop k).length:=by rw [List.length_drop];omega
    have hp1:(ps.drop k)[1]?=some (ps.drop k)[1]:=List.getElem?_eq_getElem hd1
    obtain ⟨q,o,rfl,h1,h2,h3,h4⟩:=hkid 0 _ a hp (by rw [hd];rfl)
    obtain ⟨q',o',e,-,-,h5,h6⟩:=hkid 1 _ d hp1 (by rw [hd];rfl)
    injection e with e
    injection e with e1 e2
    subst e1 e2
    obtain rfl:n7=2:=by omega
    exact ⟨hneb,q,o,c7,_,_,hnode,h1,h2,h3,h5,h4,h6⟩
 have hlt:(ps.take k).length=k:=by rw [List.length_take];omega
 refine ⟨by simpa [hlt] using hrow,by rw [hm];simp only [Option.getD_some];rw [hkk];simp;omega,fun j p r' hp hr=>?_,?_⟩
 · rw [hm] at hr
   simp only [Option.getD_some] at hr
   rw [hkk] at hr
   rcases Nat.lt_or_ge j k with hj | hj
   · rw [List.getElem?_append_left (by omega),List.getElem?_take_of_lt hj] at hp
     rw [List.getElem?_append_left (by rw [List.length_take];omega),List.getElem?_take_of_lt hj] at hr
     exact hold (h.at_ j p r' hp hr)
   · rw [List.getElem?_append_right (by omega),hlt] at hp
     rw [List.getElem?_append_right (by rw [List.length_take];omega),List.length_take,Nat.min_eq_left (by omega)] at hr
     have hj0:j - k=0:=by
      have:=(List.getElem?_eq_some_iff.1 hp).1
      simp at this
      omega
     rw [hj0] at hp hr
     simp only [List.getElem?_cons_zero,Option.some.injEq] at hp hr
     subst hp hr
     exact hnew
 · have h1:=below_trans h.bel hb4
   have h2:=below_trans h1 hbA
   exact h2.grown hgr h2.size (fun b e=>by injection e with e;rw [<- e];exact hl.1)
/-- the tree, or nil -/
def TreeOut (l:List Tok) (w:World) (e:Ending) (w':World):Prop:=((treeL l=none/\e=.returned (.pointer none)) ∨ ∃ r b,treeL l=some r/\e=.returned (.pointer (some ⟨b,0,none⟩))/\TreeAt w' none b r)/\Below w.heap.size w w'
set_option maxRecDepth 100000 in
set_option maxHeartbeats 8000000 in
theorem treeOf_any (ss:Value) (l:List Tok) (w:World) (hv:SlE w cEd 4 ss l) (h24:l.length<=24) :
 Calls Tryz.prog 48 #[.agg #[ss]] w (TreeOut l w):=by
 obtain ⟨A,c,rfl,hl,hm,hx⟩:=hv
 unfold maxLen at hm
 have HX:=Hd_ hx
 obtain ⟨n,hn⟩:∃ n,n=l.length:=⟨_,rfl⟩
 rw [<- hn]
 rw [<- hn] at hl h24
 have HN:=Hd_ hn
 clear hx hn
 have hb0:Below w.heap.size w (w.alloc (.cells #[.slice A n c] 46)):=(Below.refl _ _).alloc (Nat.le_refl _) _
 have bk:=Blk.new w 46 #[.slice A n c] _ rfl
 go_enter Tryz.func48,Tryz.ntmps48
 go_wp2
 obtain ⟨W0,hW0⟩:∃ W0,W0=w.alloc (.cells #[.slice A n c] 46):=⟨_,rfl⟩
 have hs0:W0.heap.size=w.heap.size+1:=by rw [hW0];simp
 rw [<- hW0] at hb0 ⊢
 have HB0:=Hd_ hb0
 clear bk hb0 hW0
 have hst0:StkR W0 (W0.alloc (.cells #[] 79)) (w.heap.size+1) 0 [] [] :=
  ⟨hs0 ▸ World.ownsRow_lit (base:=W0.heap.size) (e:=79) (size:=1) W0 #[] 0 (Nat.le_refl _) (by decide) rfl,rfl,fun j p r h=>by simp at h,(Below.refl _ _).alloc (Nat.le_refl _) _⟩
 have HS0:=Hd_ hst0
 have HS0S:=Hd_ hs0
 clear hst0 hs0
 go_loopw [3,13] (fun s ii wr=>∃ (i g cap:Nat) (st:List Tr) (ps:List Nat),i<=n/\parseTo l i=some st/\s=.slice (some ⟨g,0,none⟩) ps.length cap/\ii=.int .i64 (i:Int)/\StkR W0 wr g cap ps st) (fun _ ii _=>n - (intOf ii).toNat)
 case atStart=>exact ⟨0,w.heap.size+1,0,[],[],Nat.zero_le _,rfl,by first | rfl | simp,rfl,HS0.out⟩
 case round =>
  obtain ⟨i,g,cap,st,ps,hi,hp,rfl,rfl,hS⟩:=hrel
  have hsl:=parse_len hp
  have HP:=Hd_ hp
  have HS:=Hd_ hS
  have HPL:=Hd_ hS.len
  have HBW:=Hd_ (HB0.out.trans (hS.bel.mono (by have:=HS0S.out;omega)))
  have hcap:=row_cap' hS.row
  obtain ⟨N,hN⟩:∃ N,N=ps.length:=⟨_,rfl⟩
  have HN2:=Hd_ hN
  have hNi:N<=i:=by have:=hS.len;omega
  rw [<- hN] at hcap ⊢
  clear hp hS hN hsl
  by_cases hlt:i < n
  · have hxi:l[i]?=some l[i]:=List.getElem?_eq_getElem (by have:=HN.out;omega)
    obtain ⟨q,o,rfl,-,hq,hcc⟩:=HX.out i _ hxi
    generalize l[i]=t at hcc hxi
    have HXI:=Hd_ hxi
    have e0:=(HBW.out.cell (p:=⟨q,o+i * 4+0,none⟩) hq).trans (hcc 0 _ rfl)
    have e1:=(HBW.out.cell (p:=⟨q,o+i * 4+1,none⟩) hq).trans (hcc 1 _ rfl)
    have e2:=(HBW.out.cell (p:=⟨q,o+i * 4+2,none⟩) hq).trans (hcc 2 _ rfl)
    have e3:=(HBW.out.cell (p:=⟨q,o+i * 4+3,none⟩) hq).trans (hcc 3 _ rfl)
    simp only [Nat.add_zero] at e0
    have hii:(i:Int) < (n:Int):=by omega
    obtain ⟨tk,tl,tlo,thi⟩:=t
    simp only at e0 e1 e2 e3
    clear hcc hxi
    have hbt:=Blk.new wr 94 #[.int .i64 tk,.int .i64 tl,.int .i64 tlo,.int .i64 thi] _ rfl
    have hba:=(Below.refl wr.heap.size wr).alloc (Nat.le_refl _) (.cells #[.int .i64 tk,.int .i64 tl,.int .i64 tlo,.int .i64 thi] 94)
    have HBW1:=Hd_ (HBW.out.trans (hba.mono HBW.out.size))
    have HS1:=Hd_ (HS.out.keep hba)
    go_upto_block 2 with fail
    obtain ⟨W1,hW1⟩:∃ W1,W1=wr.alloc (.cells #[.int .i64 tk,.int .i64 tl,.int .i64 tlo,.int .i64 thi] 94):=⟨_,rfl⟩
    obtain ⟨tq,htq⟩:∃ tq,tq=wr.heap.size:=⟨_,rfl⟩
    rw [<- hW1] at hbt HBW1 HS1 ⊢
    rw [<- htq] at hbt ⊢
    have HBT:=Hd_ hbt
    clear hW1 htq hbt hba e0 e1 e2 e3 HS HBW
    go_cut [6,13] from 13 to 49 (fun s6 s13 wx=>s13=.int .i64 (i:Int)/\s6=.int .i64 (if tk=4 ∨ tk=5 then 2 else if tk=6 ∨ tk=7 then 1 else 0)/\wx=W1)
    case first =>
     by_cases h4:tk=4
     · subst h4
       go_wp2
       go_meet
       exact ⟨rfl,rfl,rfl⟩
     have k4:(tk==4)=false:=by simpa using h4
     by_cases h5:tk=5
     · subst h5
       go_wp2
       go_meet
       exact ⟨rfl,rfl,rfl⟩
     have k5:(tk==5)=false:=by simpa using h5
     by_cases h6:tk=6
     · subst h6
       go_wp2
       go_meet
       exact ⟨rfl,rfl,rfl⟩
     have k6:(tk==6)=false:=by simpa using h6
     by_cases h7:tk=7
     · subst h7
       go_wp2
       go_meet
       exact ⟨rfl,rfl,rfl⟩
     have k7:(tk==7)=false:=by simpa using h7
     have HIF:=Hd_ (show (if tk=4 ∨ tk=5 then (2:Int) else if tk=6 ∨ tk=7 then 1 else 0)=0 by rw [if_neg (fun h=>h.elim h4 h5),if_neg (fun h=>h.elim h6 h7)])
     clear h4 h5 h6 h7
     go_wp2
     go_meet
     exact ⟨rfl,by rw [HIF.out],rfl⟩
    case rest =>
     obtain ⟨rfl,rfl,hwc⟩:=hcut
     rw [hwc]
     clear hwc
     have z0:W1.cell? ⟨tq,0,none⟩=some (.int .i64 tk):=HBT.out.cell 0
     have z1:W1.cell? ⟨tq,1,none⟩=some (.int .i64 tl):=HBT.out.cell 1
     have z2:W1.cell? ⟨tq,2,none⟩=some (.int .i64 tlo):=HBT.out.cell 2
     have z3:W1.cell? ⟨tq,3,none⟩=some (.int .i64 thi):=HBT.out.cell 3
     obtain ⟨nk,hnk⟩:∃ nk:Int,nk=(if tk=4 ∨ tk=5 then 2 else if tk=6 ∨ tk=7 then 1 else 0):=⟨_,rfl⟩
     rw [<- hnk]
     have HTO:=Hd_ (fun w=>tokenOk_any (tk,tl,tlo,thi) w)
     rcases hat:ar (tk,tl,tlo,thi) with _ | m
     · have hfin:treeL l=none:=by
        have h:=treeL_no (l:=l) (i:=i+1) (by rw [parse_step HP.out HXI.out];exact push_none (.inl hat)) (by have:=HN.out;omega)
        simpa using h
       have HF:=Hd_ hfin
       rw [hat] at HTO
       clear hat hfin hnk
       go_wp2_with fail
       refine (HTO.out _).mono ?_
       rintro e w3 ⟨rfl,hb3⟩
       have HB3:=Hd_ (HBW1.out.trans (hb3.mono HBW1.out.size))
       clear hb3
       go_wp2_with fail
       go_ret
       exact ⟨.inl ⟨HF.out,rfl⟩,HB3.out⟩
     · obtain ⟨hnm,hm2⟩:=ar_num hat
       obtain rfl:nk=(m:Int):=hnk.trans hnm
       have HAT:=Hd_ hat
       rw [hat] at HTO
       clear hnk hnm hat
       by_cases hNm:N < m
       · have hfin:treeL l=none:=by
          have h:=treeL_no (l:=l) (i:=i+1) (by rw [parse_step HP.out HXI.out];exact push_none (.inr ⟨m,HAT.out,by have:=HPL.out;have:=HN2.out;omega⟩)) (by have:=HN.out;omega)
          simpa using h
         have HF:=Hd_ hfin
         have hwr:wrap64 ((N:Int) - (m:Int))=(N:Int) - m:=IntWalk.wrap64_in _ ⟨by omega,by omega⟩
         have hlt0:((N:Int) - (m:Int)) < 0:=by omega
         clear hfin
         go_wp2_with fail
         refine (HTO.out _).mono ?_
         rintro e w3 ⟨rfl,hb3⟩
         have HB3:=Hd_ (HBW1.out.trans (hb3.mono HBW1.out.size))
         clear hb3
         go_wp2_with fail
         go_ret
         exact ⟨.inl ⟨HF.out,rfl⟩,HB3.out⟩
       · obtain ⟨k,rfl⟩:∃ k,N=k+m:=⟨N - m,by omega⟩
         have hwr:wrap64 (((k+m:Nat):Int) - (m:Int))=(k:Int):=(IntWalk.wrap64_in _ ⟨by omega,by omega⟩).trans (by omega)
         have hlt0:¬ ((k:Int) < 0):=by omega
         go_wp2_with fail
         refine (HTO.out _).mono ?_
         rintro e w3 ⟨rfl,hb3⟩
         have HB3:=Hd_ (HBW1.out.trans (hb3.mono HBW1.out.size))
         have HS3:=Hd_ (HS1.out.keep hb3)
         have HBT3:=Hd_ (HBT.out.keep hb3)
         clear hb3 z0 z1 z2 z3 HS1 HBT HTO
         have hck:k<=cap:=by omega
         have hkm:(k:Int)<=(k:Int)+(m:Int):=by omega
         have z0:w3.cell? ⟨tq,0,none⟩=some (.int .i64 tk):=by exact HBT3.out.cell 0
         have z1:w3.cell? ⟨tq,1,none⟩=some (.int .i64 tl):=by exact HBT3.out.cell 1
         have z2:w3.cell? ⟨tq,2,none⟩=some (.int .i64 tlo):=by exact HBT3.out.cell 2
         have z3:w3.cell? ⟨tq,3,none⟩=some (.int .i64 thi):=by exact HBT3.out.cell 3
         go_wp2_with fail
         refine F_start 7 (fun w'=>w'.cell? ⟨tq,0,none⟩=some (.int .i64 tk)/\w'.cell? ⟨tq,1,none⟩=some (.int .i64 tl)/\w'.cell? ⟨tq,2,none⟩=some (.int .i64 tlo)/\w'.cell? ⟨tq,3,none⟩=some (.int .i64 thi)) (by kernel_rfl) (by exact ⟨z0,z1,z2,z3⟩) (fun hS inv=>?_)
         refine F_tk 0 inv ?_
         try simp only [tA,tB,tC,Act.put,tE,tF,tG]
         clear inv;intro inv
         refine F_tk 1 inv ?_
         try simp only [tA,tB,tC,Act.put,tE,tF,tG]
         clear inv;intro inv
         refine F_tk 2 inv ?_
         try simp only [tA,tB,tC,Act.put,tE,tF,tG]
         clear inv;intro inv
         refine F_tk 3 inv ?_
         try simp only [tA,tB,tC,Act.put,tE,tF,tG]
         clear inv;intro inv
         refine F_o1 4 inv ?_;intro K hK
         try simp only [tA,tB,tC]
         go_simp
         have hd3:=(Below.refl w3.heap.size w3).drew
         have HSD:=Hd_ (HS3.out.keep hd3)
         have hsl:=row_drop (k:=k) HSD.out.row rfl (by rw [<- HN2.out];omega)
         rw [<- HN2.out,Nat.add_sub_cancel_left] at hsl
         refine (clone_any _ _ _ _ _ _ _ hsl (by rw [List.length_drop];have:=HN2.out;omega) (Nat.le_refl _)).mono ?_
         rintro e w4 ⟨ks,rfl,hown,hb4⟩
         obtain ⟨A7,n7,c7,rfl⟩:=hown.shape
         have HOW:=Hd_ hown
         have HB4:=Hd_ hb4
         have HBT4:=Hd_ ((HBT3.out.drew).keep hb4)
         clear hd3 hsl hown hb4 z0 z1 z2 z3
         refine hK.out _ _ (⟨HBT4.out.cell 0,HBT4.out.cell 1,HBT4.out.cell 2,HBT4.out.cell 3⟩) (fun _ _=>?_)
         try simp only [tA,tB,tC,Act.put,tE,tF,tG]
         clear hK K inv hS;rename_i hS inv
         refine F_tk 5 inv ?_
         try simp only [tA,tB,tC,Act.put,tE,tF,tG]
         clear inv;intro inv
         refine F_o1 6 inv ?_;intro K hK
         try simp only [tA,tB,tC]
         go_simp
         have HBT5:=Hd_ (HBT4.out.alloc (.cells #[.int .i64 tk,.int .i64 tl,.int .i64 tlo,.int .i64 thi,.slice A7 n7 c7] 99))
         refine hK.out _ _ (⟨HBT5.out.cell 0,HBT5.out.cell 1,HBT5.out.cell 2,HBT5.out.cell 3⟩) (fun _ _=>?_)
         try simp only [tA,tB,tC,Act.put,tE,tF,tG]
         clear hK K inv hS;rename_i hS inv
         refine F_l1 7 ?_;intro K hK
         go_simp
         refine hK _ _ ?_
         clear hK K
         generalize (if cap=k then some (⟨g,0,none⟩:Addr) else some ⟨g,k,none⟩)=jk
         have HS4:=Hd_ (HSD.out.keep HB4.out)
         have hbn:=(Below.refl w4.heap.size w4).alloc (Nat.le_refl _) (.cells #[.int .i64 tk,.int .i64 tl,.int .i64 tlo,.int .i64 thi,.slice A7 n7 c7] 99)
         have hrk:=ownsRow_take (HS4.out.keep hbn).row (m:=k) (by rw [<- HN2.out];omega)
         rw [Nat.mul_one,<- flat_takeP] at hrk
         have hltk:(ps.take k).length=k:=by rw [List.length_take,<- HN2.out];omega
         obtain ⟨bn,hbn4⟩:∃ bn,bn=w4.heap.size:=⟨_,rfl⟩
         have HBN:=Hd_ hbn4
         have HRK:=Hd_ (show (w4.alloc (.cells #[.int .i64 tk,.int .i64 tl,.int .i64 tlo,.int .i64 thi,.slice A7 n7 c7] 99)).ownsRow W0.heap.size 79 1 (.slice (some ⟨g,0,none⟩) k cap) (ps.take k).length ((ps.take k).flatMap cP) by rw [hltk];exact hrk)
         have HLT:=Hd_ hltk
         have hks4:k<=24:=by omega
         have hs5:W0.heap.size<=(w4.alloc (.cells #[.int .i64 tk,.int .i64 tl,.int .i64 tlo,.int .i64 thi,.slice A7 n7 c7] 99)).heap.size:=Nat.le_trans HS4.out.bel.size hbn.size
         obtain ⟨W5,hW5⟩:∃ W5,W5=w4.alloc (.cells #[.int .i64 tk,.int .i64 tl,.int .i64 tlo,.int .i64 thi,.slice A7 n7 c7] 99):=⟨_,rfl⟩
         have HW5:=Hd_ hW5
         rw [<- hW5] at HRK hs5 ⊢
         rw [<- hbn4]
         clear hbn hrk hltk HBT5 HBT4 HBT3 hbn4 hW5
         go_wp2_with (at_builtin;(refine wpList_append2 cP elP rfl _ _ (by rfl) W0.heap.size _ (ps.take k) bn 1 _ (by rfl) (HRK.out.alloc _) (by rfl) (heap_alloc_new _ _) rfl (cP_one _) (by rw [HLT.out];omega) (by omega) (by simp;omega) ?_);intro g2 cp2 w9 hown9 hgr9 hat9 hlt9)
         obtain ⟨st',hst'⟩:=push_some HAT.out (st:=st) (by have:=HPL.out;have:=HN2.out;omega)
         have hpn:parseTo l (i+1)=some st':=by rw [parse_step HP.out HXI.out];exact hst'
         have HNEW:=Hd_ (show StkR W0 w9 g2 cp2 (ps.take k ++ [bn]) st' by
          have hb:=HBN.out
          have hw:=HW5.out
          subst hw hb
          rw [HLT.out] at hown9
          exact HSD.out.push hst' HAT.out HN2.out HB4.out HOW.out rfl hown9 hgr9 hat9)
         have HPN:=Hd_ hpn
         clear hst' hpn hown9 hgr9 hat9 hlt9
         go_wp2_with fail
         go_roundw
         case rel=>exact ⟨i+1,g2,cp2,st',ps.take k ++ [bn],by omega,HPN.out,by simp,by go_num,HNEW.out⟩
         case measure=>simp [intOf];omega
  · obtain rfl:i=n:=by omega
    have hp:=HP.out
    have hts:=treeL_end (l:=l) (by rw [<- HN.out];exact hp)
    have hii:¬ ((i:Int) < (i:Int)):=by omega
    by_cases hN1:N=1
    · subst hN1
      have hst1:st.length=1:=by have:=HPL.out;have:=HN2.out;omega
      obtain ⟨r,rfl⟩:=List.length_eq_one_iff.1 hst1
      obtain ⟨b,rfl⟩:=List.length_eq_one_iff.1 HN2.out.symm
      have hT:=(HS.out.at_ 0 b r rfl rfl).free
      obtain ⟨-,hpt⟩:=ptrs_at ((Own.of_row (xs:=[b]) HS.out.row rfl rfl).sl cP_len)
      obtain ⟨q,o,e,-,hq,hcc⟩:=hpt 0 b rfl
      simp only [Option.some.injEq,Addr.mk.injEq,and_true] at e
      obtain ⟨rfl,rfl⟩:=e
      have htr:treeL l=some r:=by
       rw [treeL,<- HN.out,hp]
      have HT:=Hd_ hT
      have HTR:=Hd_ htr
      clear hT htr hpt hst1 hts hp
      go_wp2_with fail
      go_ret
      exact ⟨.inr ⟨r,b,HTR.out,rfl,HT.out⟩,HBW.out⟩
    · have hfin:treeL l=none:=by
       rw [decide_eq_false (by have:=HPL.out;have:=HN2.out;omega)] at hts
       simpa using hts
      have HF:=Hd_ hfin
      have hne:((N:Int) != 1)=true:=by simp;omega
      clear hfin hts hp
      go_wp2_with fail
      go_ret
      exact ⟨.inl ⟨HF.out,rfl⟩,HBW.out⟩
set_option maxHeartbeats 1000000 in
theorem edgeOk_any (e:Ed) (n:Nat) (w:World) (hn:n<=9223372036854775807) :
 Calls Tryz.prog 61 #[.agg #[.int .i64 e.1,.int .i64 e.2.1,.int .i64 e.2.2.1,.int .i64 e.2.2.2],.int .i64 (n:Int)] w fun en w'=>en=.returned (.bool (edOk n e))/\Below w.heap.size w w':=by
 obtain ⟨a,b,c,d⟩:=e
 have HW:=Hd_ within_any
 unfold edOk
 simp only
 have hb0:Below w.heap.size w (w.alloc (.cells #[.int .i64 a,.int .i64 b,.int .i64 c,.int .i64 d] 76)):=(Below.refl _ _).alloc (Nat.le_refl _) _
 cases g1:wi a 1 99 with
 | false =>
   have HZ:=Hd_ g1
   go_enter Tryz.func61,Tryz.ntmps61
   go_wp2_with (go_at_call 29;refine (HW.out _ _ _ _).mono ?_;rintro e w' ⟨rfl,rfl⟩)
   go_ret
   exact ⟨rfl,hb0⟩
 | true =>
   cases g2:wi b 0 ((n:Int) - 1) with
   | false =>
     go_enter Tryz.func61,Tryz.ntmps61
     go_wp2_with (go_at_call 29;refine (HW.out _ _ _ _).mono ?_;rintro e w' ⟨rfl,rfl⟩)
     go_ret
     exact ⟨rfl,hb0⟩
   | true =>
     cases g3:wi c 0 ((n:Int) - 1) with
     | false =>
       go_enter Tryz.func61,Tryz.ntmps61
       go_wp2_with (go_at_call 29;refine (HW.out _ _ _ _).mono ?_;rintro e w' ⟨rfl,rfl⟩)
       go_ret
       exact ⟨rfl,hb0⟩
     | true =>
       go_enter Tryz.func61,Tryz.ntmps61
       go_wp2_with (go_at_call 29;refine (HW.out _ _ _ _).mono ?_;rintro e w' ⟨rfl,rfl⟩)
       go_ret
       exact ⟨rfl,hb0⟩
set_option maxHeartbeats 2000000 in
theorem implValidGraph (v:Value) (g:Gr) (w:World) (hv:GrV 0 w.heap.size w v g) :
 Calls Tryz.prog 40 #[v] w fun e w'=>e=.returned (.bool (grOk g))/\Below w.heap.size w w':=by
 obtain ⟨vs,es,rfl,⟨A1,c1,rfl,hl1,hm1,hx1⟩,⟨A2,c2,rfl,hl2,hm2,hx2⟩⟩:=hv
 unfold maxLen at hm1 hm2
 have hb0:Below w.heap.size w (w.alloc (.cells #[.slice A1 g.vals.length c1,.slice A2 g.edges.length c2] 40)):=(Below.refl _ _).alloc (Nat.le_refl _) _
 have HW:=Hd_ within_any
 have HX1:=Hd_ hx1
 have HX2:=Hd_ hx2
 clear hx1 hx2
 go_enter Tryz.func40,Tryz.ntmps40
 go_wp2_with fail
 go_loop [14] (fun ii=>∃ i:Nat,i<=g.vals.length/\ii=.int .i64 i/\(g.vals.take i).all (fun v=>wi v 0 2)=true) (fun ii=>g.vals.length - (intOf ii).toNat)
 case atStart=>exact ⟨0,Nat.zero_le _,rfl,rfl⟩
 case round =>
  obtain ⟨i,hi,rfl,hall⟩:=hrel
  have HA:=Hd_ hall
  clear hall
  by_cases hlt:i < g.vals.length
  · have hxi:g.vals[i]?=some g.vals[i]:=List.getElem?_eq_getElem hlt
    obtain ⟨b,o,rfl,-,hb1,hc⟩:=HX1.out i _ hxi
    generalize g.vals[i]=x at hc hxi
    have c0:=hc 0 _ rfl
    simp only [Nat.mul_one,Nat.add_zero] at c0
    have HX:=Hd_ hxi
    clear hc hxi
    cases g4:wi x 0 2 with
    | true =>
      have G4:=Hd_ g4
      go_wp2_with (go_at_call 29;refine (HW.out _ _ _ _).mono ?_;rintro e w' ⟨rfl,rfl⟩)
      go_round
      case rel=>exact ⟨i+1,by omega,by go_num,all_take_succ HX.out HA.out G4.out⟩
      case measure=>simp [intOf];omega
    | false =>
      have hfin:grOk g=false:=by
       rw [grOk,all_false_of HX.out g4]
       rfl
      have HF:=Hd_ hfin
      clear hfin
      go_wp2_with (go_at_call 29;refine (HW.out _ _ _ _).mono ?_;rintro e w' ⟨rfl,rfl⟩)
      go_ret
      exact ⟨by rw [HF.out];rfl,hb0⟩
  · obtain rfl:i=g.vals.length:=by omega
    have hallv:g.vals.all (fun v=>wi v 0 2)=true:=by have:=HA.out;rwa [List.take_length] at this
    have HV:=Hd_ hallv
    clear hallv HA
    go_wp2_with fail
    go_loopw [25] (fun ii wr=>∃ (i:Nat) (u:World),i<=g.edges.length/\ii=.int .i64 i/\(List.range i).all (edAt g.vals.length g.edges)=true/\wr=ext (w.alloc (.cells #[.slice A1 g.vals.length c1,.slice A2 g.edges.length c2] 40)) u) (fun ii _=>g.edges.length - (intOf ii).toNat)
    case atStart=>exact ⟨0,_,Nat.zero_le _,rfl,rfl,ext_self _⟩
    case round =>
     obtain ⟨i,u,hi,rfl,hall,rfl⟩:=hrel
     have HA:=Hd_ hall
     clear hall
     by_cases hlt:i < g.edges.length
     · have hxi:g.edges[i]?=some g.edges[i]:=List.getElem?_eq_getElem hlt
       obtain ⟨b,o',rfl,-,hb1,hc⟩:=HX2.out i _ hxi
       generalize g.edges[i]=x at hc hxi
       have c0:=hc 0 _ rfl
       have c1':=hc 1 _ rfl
       have c2':=hc 2 _ rfl
       have c3:=hc 3 _ rfl
       simp only [Nat.add_zero] at c0
       have HX:=Hd_ hxi
       have hlen:g.vals.length<=9223372036854775807:=by omega
       clear hc hxi
       have hgr:grOk g=((List.range g.edges.length).all (edAt g.vals.length g.edges) && wi g.vals.length 1 5 && decide (g.edges.length<=12)):=by
        rw [grOk,HV.out];rfl
       have HGR:=Hd_ hgr
       clear hgr
       cases g4:edOk g.vals.length x with
       | false =>
         have hfin:grOk g=false:=by
          rw [HGR.out,range_all_false hlt (by rw [edAt,HX.out];simp [g4])]
          rfl
         have HF:=Hd_ hfin
         clear hfin
         go_wp2_with fail
         refine wp_region_ext_lit (by kernel_rfl) (by kernel_rfl) ?_
         repeat (go_big_quiet_step ((go_at_call 61;exact Calls.ext_of (edgeOk_any x g.vals.length _ hlen))))
         refine wpQuiet_nil ?_
         rintro _ ⟨u2,rfl⟩
         go_wp2_with fail
         go_ret
         exact ⟨by rw [HF.out];rfl,below_trans hb0 (below_trans (ext_below _ _) (below_trans ((Below.refl _ _).alloc (Nat.le_refl _) _) (ext_below _ _)))⟩
       | true =>
         have G4:=Hd_ g4
         have hbx:∀ o u2,∃ z,ext ((ext (w.alloc (.cells #[.slice A1 g.vals.length c1,.slice (some ⟨b,o',none⟩) g.edges.length c2] 40)) u).alloc o) u2=ext (w.alloc (.cells #[.slice A1 g.vals.length c1,.slice (some ⟨b,o',none⟩) g.edges.length c2] 40)) z :=
          fun o u2=>ext_of (below_trans (ext_below _ _) (below_trans ((Below.refl _ _).alloc (Nat.le_refl _) _) (ext_below _ _)))
         by_cases hi0:i=0
         · subst hi0
           have hat:edAt g.vals.length g.edges 0=true:=by rw [edAt,HX.out];simp [G4.out]
           have HAT:=Hd_ hat
           clear hat
           simp only [Nat.zero_mul,Nat.add_zero,Nat.zero_add] at c0 c1' c2' c3
           go_wp2_with fail
           refine wp_region_ext_lit (by kernel_rfl) (by kernel_rfl) ?_
           repeat (go_big_quiet_step ((go_at_call 61;exact Calls.ext_of (edgeOk_any x g.vals.length _ hlen))))
           refine wpQuiet_nil ?_
           rintro _ ⟨u2,rfl⟩
           go_wp2_with fail
           go_roundw
           case rel =>
            obtain ⟨z,hz⟩:=hbx _ u2
            exact ⟨1,z,by omega,by go_num,range_all_succ HA.out HAT.out,hz⟩
           case measure=>simp [intOf];omega
         · have hi1:0 < i:=by omega
           have hxj:g.edges[i - 1]?=some g.edges[i - 1]:=List.getElem?_eq_getElem (by omega)
           obtain ⟨b9,o9,ho9,-,-,hcj⟩:=HX2.out (i - 1) _ hxj
           obtain ⟨rfl,rfl⟩:b=b9/\o'=o9:=by injection ho9 with h1;injection h1 with h1 h2;exact ⟨h1,h2⟩
           generalize g.edges[i - 1]=p at hcj hxj
           have hb1':b < w.heap.size+1:=by omega
           have p0:=hcj 0 _ rfl
           simp only [Nat.add_zero] at p0
           have HXJ:=Hd_ hxj
           have hi00:((i:Int) > 0):=by omega
           clear hcj hxj ho9
           by_cases hlt2:p.1 < x.1
           · have hat:edAt g.vals.length g.edges i=true:=by rw [edAt,HX.out];simp [G4.out,HXJ.out,hlt2]
             have hge:decide (p.1 >= x.1)=false:=by simp;omega
             have HAT:=Hd_ hat
             clear hat
             go_wp2_with fail
             have q1:IntKind.i64.wrap ((i:Int) - 1)=(i:Int) - 1:=IntWalk.i64_in _ (by omega)
             have q2:0<=(i:Int) - 1:=by omega
             have q3:(i:Int) - 1 < (g.edges.length:Int):=by omega
             have q4:((i:Int) - 1).toNat=i - 1:=by omega
             refine wp_region_ext_lit (by kernel_rfl) (by kernel_rfl) ?_
             repeat (go_big_quiet_step ((go_at_call 61;exact Calls.ext_of (edgeOk_any x g.vals.length _ hlen))))
             refine wpQuiet_nil ?_
             rintro _ ⟨u2,rfl⟩
             clear q1 q2 q3 q4
             go_wp2_with fail
             go_roundw
             case rel =>
              obtain ⟨z,hz⟩:=hbx _ u2
              exact ⟨i+1,z,by omega,by go_num,range_all_succ HA.out HAT.out,hz⟩
             case measure=>simp [intOf];omega
           · have hfin:grOk g=false:=by
              rw [HGR.out,range_all_false hlt (by rw [edAt,HX.out];simp [G4.out,HXJ.out,hi0];omega)]
              rfl
             have hge:decide (p.1 >= x.1)=true:=by simp;omega
             have HF:=Hd_ hfin
             clear hfin
             go_wp2_with fail
             have q1:IntKind.i64.wrap ((i:Int) - 1)=(i:Int) - 1:=IntWalk.i64_in _ (by omega)
             have q2:0<=(i:Int) - 1:=by omega
             have q3:(i:Int) - 1 < (g.edges.length:Int):=by omega
             have q4:((i:Int) - 1).toNat=i - 1:=by omega
             refine wp_region_ext_lit (by kernel_rfl) (by kernel_rfl) ?_
             repeat (go_big_quiet_step ((go_at_call 61;exact Calls.ext_of (edgeOk_any x g.vals.length _ hlen))))
             refine wpQuiet_nil ?_
             rintro _ ⟨u2,rfl⟩
             clear q1 q2 q3 q4
             go_wp2_with fail
             go_ret
             exact ⟨by rw [HF.out];rfl,below_trans hb0 (below_trans (ext_below _ _) (below_trans ((Below.refl _ _).alloc (Nat.le_refl _) _) (ext_below _ _)))⟩
     · obtain rfl:i=g.edges.length:=by omega
       have hgr:grOk g=(wi g.vals.length 1 5 && decide (g.edges.length<=12)):=by
        rw [grOk,HV.out,HA.out];rfl
       have HGR:=Hd_ hgr
       clear hgr HA HV
       cases g5:wi g.vals.length 1 5 with
       | false =>
         rw [g5] at HGR
         go_wp2_with (go_at_call 29;refine (HW.out _ _ _ _).mono ?_;rintro e w' ⟨rfl,rfl⟩)
         go_ret
         exact ⟨by rw [HGR.out];rfl,below_trans hb0 (ext_below _ _)⟩
       | true =>
         rw [g5] at HGR
         have HG5:=Hd_ g5
         by_cases g6:g.edges.length<=12
         · have g6':decide ((g.edges.length:Int)<=12)=true:=by simp;omega
           have hfin:grOk g=true:=by rw [HGR.out];simp [g6]
           have HF:=Hd_ hfin
           clear hfin HGR
           go_wp2_with (go_at_call 29;refine (HW.out _ _ _ _).mono ?_;rintro e w' ⟨rfl,rfl⟩)
           go_ret
           exact ⟨by rw [HF.out];rfl,below_trans hb0 (ext_below _ _)⟩
         · have g6':decide ((g.edges.length:Int)<=12)=false:=by simp;omega
           have hfin:grOk g=false:=by rw [HGR.out];simp [g6]
           have HF:=Hd_ hfin
           clear hfin HGR
           go_wp2_with (go_at_call 29;refine (HW.out _ _ _ _).mono ?_;rintro e w' ⟨rfl,rfl⟩)
           go_ret
           exact ⟨by rw [HF.out];rfl,below_trans hb0 (ext_below _ _)⟩
set_option maxHeartbeats 1000000 in
theorem l3Edge_any (A:Option Addr) (n cc:Nat) (es:Value) (e:Ed) (w:World) (hn:n<=9223372036854775807) :
 Calls Tryz.prog 63 #[.agg #[.slice A n cc,es],.agg #[.int .i64 e.1,.int .i64 e.2.1,.int .i64 e.2.2.1,.int .i64 e.2.2.2]] w fun en w'=>en=.returned (.bool (edOk n e))/\Below w.heap.size w w':=by
 obtain ⟨a,b,c,d⟩:=e
 have HW:=Hd_ l1In_any
 unfold edOk
 simp only
 have hb0:Below w.heap.size w ((w.alloc (.cells #[.slice A n cc,es] 40)).alloc (.cells #[.int .i64 a,.int .i64 b,.int .i64 c,.int .i64 d] 76)):=((Below.refl _ _).alloc (Nat.le_refl _) _).alloc (by simp) _
 cases g1:wi a 1 99 with
 | false =>
   have HZ:=Hd_ g1
   go_enter Tryz.func63,Tryz.ntmps63
   go_wp2_with (go_at_call 32;refine (HW.out _ _ _ _).mono ?_;rintro e w' ⟨rfl,rfl⟩)
   go_ret
   exact ⟨rfl,hb0⟩
 | true =>
   cases g2:wi b 0 ((n:Int) - 1) with
   | false =>
     go_enter Tryz.func63,Tryz.ntmps63
     go_wp2_with (go_at_call 32;refine (HW.out _ _ _ _).mono ?_;rintro e w' ⟨rfl,rfl⟩)
     go_ret
     exact ⟨rfl,hb0⟩
   | true =>
     cases g3:wi c 0 ((n:Int) - 1) with
     | false =>
       go_enter Tryz.func63,Tryz.ntmps63
       go_wp2_with (go_at_call 32;refine (HW.out _ _ _ _).mono ?_;rintro e w' ⟨rfl,rfl⟩)
       go_ret
       exact ⟨rfl,hb0⟩
     | true =>
       go_enter Tryz.func63,Tryz.ntmps63
       go_wp2_with (go_at_call 32;refine (HW.out _ _ _ _).mono ?_;rintro e w' ⟨rfl,rfl⟩)
       go_ret
       exact ⟨rfl,hb0⟩
set_option maxHeartbeats 2000000 in
theorem specValidGraph (v:Value) (g:Gr) (w:World) (hv:GrV 0 w.heap.size w v g) :
 Calls Tryz.prog 44 #[v] w fun e w'=>e=.returned (.bool (grOk g))/\Below w.heap.size w w':=by
 obtain ⟨vs,es,rfl,⟨A1,c1,rfl,hl1,hm1,hx1⟩,⟨A2,c2,rfl,hl2,hm2,hx2⟩⟩:=hv
 unfold maxLen at hm1 hm2
 have hb0:Below w.heap.size w (w.alloc (.cells #[.slice A1 g.vals.length c1,.slice A2 g.edges.length c2] 40)):=(Below.refl _ _).alloc (Nat.le_refl _) _
 have HW:=Hd_ l1In_any
 have HX1:=Hd_ hx1
 have HX2:=Hd_ hx2
 clear hx1 hx2
 go_enter Tryz.func44,Tryz.ntmps44
 go_wp2_with fail
 go_loop [3] (fun ii=>∃ i:Nat,i<=g.vals.length/\ii=.int .i64 i/\(g.vals.take i).all (fun v=>wi v 0 2)=true) (fun ii=>g.vals.length - (intOf ii).toNat)
 case atStart=>exact ⟨0,Nat.zero_le _,rfl,rfl⟩
 case round =>
  obtain ⟨i,hi,rfl,hall⟩:=hrel
  have HA:=Hd_ hall
  clear hall
  by_cases hlt:i < g.vals.length
  · have hxi:g.vals[i]?=some g.vals[i]:=List.getElem?_eq_getElem hlt
    obtain ⟨b,o,rfl,-,hb1,hc⟩:=HX1.out i _ hxi
    generalize g.vals[i]=x at hc hxi
    have c0:=hc 0 _ rfl
    simp only [Nat.mul_one,Nat.add_zero] at c0
    have HX:=Hd_ hxi
    clear hc hxi
    cases g4:wi x 0 2 with
    | true =>
      have G4:=Hd_ g4
      go_wp2_with (go_at_call 32;refine (HW.out _ _ _ _).mono ?_;rintro e w' ⟨rfl,rfl⟩)
      go_round
      case rel=>exact ⟨i+1,by omega,by go_num,all_take_succ HX.out HA.out G4.out⟩
      case measure=>simp [intOf];omega
    | false =>
      have hfin:grOk g=false:=by
       rw [grOk,all_false_of HX.out g4]
       rfl
      have HF:=Hd_ hfin
      clear hfin
      go_wp2_with (go_at_call 32;refine (HW.out _ _ _ _).mono ?_;rintro e w' ⟨rfl,rfl⟩)
      go_ret
      exact ⟨by rw [HF.out];rfl,hb0⟩
  · obtain rfl:i=g.vals.length:=by omega
    have hallv:g.vals.all (fun v=>wi v 0 2)=true:=by have:=HA.out;rwa [List.take_length] at this
    have HV:=Hd_ hallv
    clear hallv HA
    go_wp2_with fail
    go_loopw [4] (fun ii wr=>∃ (i:Nat) (u:World),i<=g.edges.length/\ii=.int .i64 i/\(List.range i).all (edAt g.vals.length g.edges)=true/\wr=ext (w.alloc (.cells #[.slice A1 g.vals.length c1,.slice A2 g.edges.length c2] 40)) u) (fun ii _=>g.edges.length - (intOf ii).toNat)
    case atStart=>exact ⟨0,_,Nat.zero_le _,rfl,rfl,ext_self _⟩
    case round =>
     obtain ⟨i,u,hi,rfl,hall,rfl⟩:=hrel
     have HA:=Hd_ hall
     clear hall
     by_cases hlt:i < g.edges.length
     · have hxi:g.edges[i]?=some g.edges[i]:=List.getElem?_eq_getElem hlt
       obtain ⟨b,o',rfl,-,hb1,hc⟩:=HX2.out i _ hxi
       generalize g.edges[i]=x at hc hxi
       have hb1':b < w.heap.size+1:=by omega
       have c0:=hc 0 _ rfl
       have c1':=hc 1 _ rfl
       have c2':=hc 2 _ rfl
       have c3:=hc 3 _ rfl
       simp only [Nat.add_zero] at c0
       have HX:=Hd_ hxi
       have hlen:g.vals.length<=9223372036854775807:=by omega
       clear hc hxi
       have hgr:grOk g=((List.range g.edges.length).all (edAt g.vals.length g.edges) && wi g.vals.length 1 5 && decide (g.edges.length<=12)):=by
        rw [grOk,HV.out];rfl
       have HGR:=Hd_ hgr
       clear hgr
       cases g4:edOk g.vals.length x with
       | false =>
         have hfin:grOk g=false:=by
          rw [HGR.out,range_all_false hlt (by rw [edAt,HX.out];simp [g4])]
          rfl
         have HF:=Hd_ hfin
         clear hfin
         go_wp2_with fail
         refine wp_region_ext_lit (by kernel_rfl) (by kernel_rfl) ?_
         repeat (go_big_quiet_step ((go_at_call 63;exact Calls.ext_of (l3Edge_any A1 g.vals.length c1 _ x _ hlen))))
         refine wpQuiet_nil ?_
         rintro _ ⟨u2,rfl⟩
         go_wp2_with fail
         go_ret
         exact ⟨by rw [HF.out];rfl,below_trans hb0 (below_trans (ext_below _ _) (ext_below _ _))⟩
       | true =>
         have G4:=Hd_ g4
         have hbx:∀ u2,∃ z,ext (ext (w.alloc (.cells #[.slice A1 g.vals.length c1,.slice (some ⟨b,o',none⟩) g.edges.length c2] 40)) u) u2=ext (w.alloc (.cells #[.slice A1 g.vals.length c1,.slice (some ⟨b,o',none⟩) g.edges.length c2] 40)) z :=
          fun u2=>ext_of (below_trans (ext_below _ _) (ext_below _ _))
         by_cases hi0:i=0
         · subst hi0
           have hat:edAt g.vals.length g.edges 0=true:=by rw [edAt,HX.out];simp [G4.out]
           have HAT:=Hd_ hat
           clear hat
           simp only [Nat.zero_mul,Nat.add_zero,Nat.zero_add] at c0 c1' c2' c3
           go_wp2_with fail
           refine wp_region_ext_lit (by kernel_rfl) (by kernel_rfl) ?_
           repeat (go_big_quiet_step ((go_at_call 63;exact Calls.ext_of (l3Edge_any A1 g.vals.length c1 _ x _ hlen))))
           refine wpQuiet_nil ?_
           rintro _ ⟨u2,rfl⟩
           go_wp2_with fail
           go_roundw
           case rel =>
            obtain ⟨z,hz⟩:=hbx u2
            exact ⟨1,z,by omega,by go_num,range_all_succ HA.out HAT.out,hz⟩
           case measure=>simp [intOf];omega
         · have hi1:0 < i:=by omega
           have hxj:g.edges[i - 1]?=some g.edges[i - 1]:=List.getElem?_eq_getElem (by omega)
           obtain ⟨b9,o9,ho9,-,-,hcj⟩:=HX2.out (i - 1) _ hxj
           obtain ⟨rfl,rfl⟩:b=b9/\o'=o9:=by injection ho9 with h1;injection h1 with h1 h2;exact ⟨h1,h2⟩
           generalize g.edges[i - 1]=p at hcj hxj
           have hb1':b < w.heap.size+1:=by omega
           have p0:=hcj 0 _ rfl
           simp only [Nat.add_zero] at p0
           have HXJ:=Hd_ hxj
           have hi00:((i:Int) > 0):=by omega
           clear hcj hxj ho9
           by_cases hlt2:p.1 < x.1
           · have hat:edAt g.vals.length g.edges i=true:=by rw [edAt,HX.out];simp [G4.out,HXJ.out,hlt2]
             have hge:decide (p.1 >= x.1)=false:=by simp;omega
             have HAT:=Hd_ hat
             clear hat
             go_wp2_with fail
             have q1:IntKind.i64.wrap ((i:Int) - 1)=(i:Int) - 1:=IntWalk.i64_in _ (by omega)
             have q2:0<=(i:Int) - 1:=by omega
             have q3:(i:Int) - 1 < (g.edges.length:Int):=by omega
             have q4:((i:Int) - 1).toNat=i - 1:=by omega
             refine wp_region_ext_lit (by kernel_rfl) (by kernel_rfl) ?_
             repeat (go_big_quiet_step ((go_at_call 63;exact Calls.ext_of (l3Edge_any A1 g.vals.length c1 _ x _ hlen))))
             refine wpQuiet_nil ?_
             rintro _ ⟨u2,rfl⟩
             clear q1 q2 q3 q4
             go_wp2_with fail
             go_roundw
             case rel =>
              obtain ⟨z,hz⟩:=hbx u2
              exact ⟨i+1,z,by omega,by go_num,range_all_succ HA.out HAT.out,hz⟩
             case measure=>simp [intOf];omega
           · have hfin:grOk g=false:=by
              rw [HGR.out,range_all_false hlt (by rw [edAt,HX.out];simp [G4.out,HXJ.out,hi0];omega)]
              rfl
             have hge:decide (p.1 >= x.1)=true:=by simp;omega
             have HF:=Hd_ hfin
             clear hfin
             go_wp2_with fail
             have q1:IntKind.i64.wrap ((i:Int) - 1)=(i:Int) - 1:=IntWalk.i64_in _ (by omega)
             have q2:0<=(i:Int) - 1:=by omega
             have q3:(i:Int) - 1 < (g.edges.length:Int):=by omega
             have q4:((i:Int) - 1).toNat=i - 1:=by omega
             refine wp_region_ext_lit (by kernel_rfl) (by kernel_rfl) ?_
             repeat (go_big_quiet_step ((go_at_call 63;exact Calls.ext_of (l3Edge_any A1 g.vals.length c1 _ x _ hlen))))
             refine wpQuiet_nil ?_
             rintro _ ⟨u2,rfl⟩
             clear q1 q2 q3 q4
             go_wp2_with fail
             go_ret
             exact ⟨by rw [HF.out];rfl,below_trans hb0 (below_trans (ext_below _ _) (ext_below _ _))⟩
     · obtain rfl:i=g.edges.length:=by omega
       have hgr:grOk g=(wi g.vals.length 1 5 && decide (g.edges.length<=12)):=by
        rw [grOk,HV.out,HA.out];rfl
       have HGR:=Hd_ hgr
       clear hgr HA HV
       cases g5:wi g.vals.length 1 5 with
       | false =>
         rw [g5] at HGR
         go_wp2_with (go_at_call 32;refine (HW.out _ _ _ _).mono ?_;rintro e w' ⟨rfl,rfl⟩)
         go_ret
         exact ⟨by rw [HGR.out];rfl,below_trans hb0 (ext_below _ _)⟩
       | true =>
         rw [g5] at HGR
         have HG5:=Hd_ g5
         by_cases g6:g.edges.length<=12
         · have g6':decide ((g.edges.length:Int)<=12)=true:=by simp;omega
           have hfin:grOk g=true:=by rw [HGR.out];simp [g6]
           have HF:=Hd_ hfin
           clear hfin HGR
           go_wp2_with (go_at_call 32;refine (HW.out _ _ _ _).mono ?_;rintro e w' ⟨rfl,rfl⟩)
           go_ret
           exact ⟨by rw [HF.out];rfl,below_trans hb0 (ext_below _ _)⟩
         · have g6':decide ((g.edges.length:Int)<=12)=false:=by simp;omega
           have hfin:grOk g=false:=by rw [HGR.out];simp [g6]
           have HF:=Hd_ hfin
           clear hfin HGR
           go_wp2_with (go_at_call 32;refine (HW.out _ _ _ _).mono ?_;rintro e w' ⟨rfl,rfl⟩)
           go_ret
           exact ⟨by rw [HF.out];rfl,below_trans hb0 (ext_below _ _)⟩
set_option maxHeartbeats 2000000 in
theorem implHolds (v:Value) (g:Gr) (w:World) (hv:GrV 0 w.heap.size w v g) (hg:GrOk g) (x:Nat) (a:Int) (hx:g.vals[x]?=some a) (letter:Int) :
 Calls Tryz.prog 43 #[v,.int .i64 (x:Int),.int .i64 letter] w fun e w'=>e=.returned (.bool (decide (letter=6+a)))/\Below w.heap.size w w':=by
 have hvo:=hv
 obtain ⟨vs,es,rfl,⟨A1,c1,rfl,hl1,hm1,hC1⟩,⟨A2,c2,rfl,hl2,hm2,hC2⟩⟩:=hv
 unfold maxLen at hm1 hm2
 have hn5:=hg.n5
 have hn1:=hg.n1
 have hxn:=(List.getElem?_eq_some_iff.1 hx).1
 have hav:=hg.vals a (List.mem_of_getElem? hx)
 have hx1:wi (x:Int) 0 ((g.vals.length:Int) - 1)=true:=wi_iff.2 ⟨by omega,by omega⟩
 obtain ⟨b,ob,rfl,-,hb1,hc⟩:=hC1 x a hx
 have c0:=hc 0 _ rfl
 simp only [Nat.mul_one,Nat.add_zero] at c0
 have hb0:Below w.heap.size w (w.alloc (.cells #[.slice (some ⟨b,ob,none⟩) g.vals.length c1,.slice A2 g.edges.length c2] 40)):=(Below.refl _ _).alloc (Nat.le_refl _) _
 have bl:=Blk.new w 40 #[.slice (some ⟨b,ob,none⟩) g.vals.length c1,.slice A2 g.edges.length c2] w.heap.size rfl
 have hvg:=implValidGraph _ g (w.alloc (.cells #[.slice (some ⟨b,ob,none⟩) g.vals.length c1,.slice A2 g.edges.length c2] 40)) (hvo.keep hb0)
 rw [grOk_iff.2 hg] at hvg
 have HVG:=Hd_ hvg
 have HB0:=Hd_ hb0
 have HBL:=Hd_ bl
 clear hvg hb0 bl hc hC1 hC2 hvo hg hx
 go_enter Tryz.func43,Tryz.ntmps43
 go_wp2_with fail
 refine HVG.out.mono ?_
 rintro e w2 ⟨rfl,hb2⟩
 have b2:=HBL.out.keep hb2
 have y0:w2.cell? ⟨w.heap.size,0,none⟩=some (.slice (some ⟨b,ob,none⟩) g.vals.length c1):=b2.cell 0
 have y1:w2.cell? ⟨w.heap.size,1,none⟩=some (.slice A2 g.edges.length c2):=b2.cell 1
 have d0:=kcell (below_trans HB0.out hb2) c0
 have HB2:=Hd_ (below_trans HB0.out hb2)
 have hz2:=b2.lt
 clear b2 hb2
 have q1:IntKind.i64.wrap ((g.vals.length:Int) - 1)=(g.vals.length:Int) - 1:=IntWalk.i64_in _ (by omega)
 go_wp2_with fail
 refine (within_any (x:Int) 0 ((g.vals.length:Int) - 1) _).mono ?_
 rintro e w3 ⟨rfl,hw⟩
 rw [hw,hx1]
 clear hw w3
 go_wp2_with fail
 refine (isLetter_any letter _).mono ?_
 rintro e w3 ⟨rfl,hw⟩
 rw [hw]
 clear hw w3
 cases gl:wi letter 0 8 with
 | false =>
   have hne:¬ letter=6+a:=fun h=>by
    have:wi letter 0 8=true:=wi_iff.2 ⟨by omega,by omega⟩
    rw [this] at gl
    cases gl
   go_wp2_with fail
   go_ret
   exact ⟨by simp [hne],HB2.out⟩
 | true =>
   obtain ⟨l0,l8⟩:=wi_iff.1 gl
   have hxx:(x:Int) < (g.vals.length:Int):=by omega
   have q2:IntKind.i64.wrap (6+a)=6+a:=IntWalk.i64_in _ (by omega)
   by_cases he:letter=6+a
   · have hq:letter=6+a:=by omega
     have HE:=Hd_ he
     clear he
     go_wp2_with fail
     go_ret
     exact ⟨by rw [decide_eq_true HE.out] <;> simp [hq],HB2.out⟩
   · have hq:¬ letter=6+a:=by omega
     go_wp2_with fail
     go_ret
     exact ⟨by simp [he,hq],HB2.out⟩
set_option maxHeartbeats 2000000 in
theorem specHolds (v:Value) (g:Gr) (w:World) (hv:GrV 0 w.heap.size w v g) (hg:GrOk g) (x:Nat) (a:Int) (hx:g.vals[x]?=some a) (letter:Int) :
 Calls Tryz.prog 45 #[v,.int .i64 (x:Int),.int .i64 letter] w fun e w'=>e=.returned (.bool (decide (letter=6+a)))/\Below w.heap.size w w':=by
 have hvo:=hv
 obtain ⟨vs,es,rfl,⟨A1,c1,rfl,hl1,hm1,hC1⟩,⟨A2,c2,rfl,hl2,hm2,hC2⟩⟩:=hv
 unfold maxLen at hm1 hm2
 have hn5:=hg.n5
 have hn1:=hg.n1
 have hxn:=(List.getElem?_eq_some_iff.1 hx).1
 have hav:=hg.vals a (List.mem_of_getElem? hx)
 have hx1:wi (x:Int) 0 ((g.vals.length:Int) - 1)=true:=wi_iff.2 ⟨by omega,by omega⟩
 obtain ⟨b,ob,rfl,-,hb1,hc⟩:=hC1 x a hx
 have c0:=hc 0 _ rfl
 simp only [Nat.mul_one,Nat.add_zero] at c0
 have hb0:Below w.heap.size w (w.alloc (.cells #[.slice (some ⟨b,ob,none⟩) g.vals.length c1,.slice A2 g.edges.length c2] 40)):=(Below.refl _ _).alloc (Nat.le_refl _) _
 have bl:=Blk.new w 40 #[.slice (some ⟨b,ob,none⟩) g.vals.length c1,.slice A2 g.edges.length c2] w.heap.size rfl
 have hvg:=specValidGraph _ g (w.alloc (.cells #[.slice (some ⟨b,ob,none⟩) g.vals.length c1,.slice A2 g.edges.length c2] 40)) (hvo.keep hb0)
 rw [grOk_iff.2 hg] at hvg
 have HVG:=Hd_ hvg
 have HB0:=Hd_ hb0
 have HBL:=Hd_ bl
 clear hvg hb0 bl hc hC1 hC2 hvo hg hx
 go_enter Tryz.func45,Tryz.ntmps45
 go_wp2_with fail
 refine HVG.out.mono ?_
 rintro e w2 ⟨rfl,hb2⟩
 have b2:=HBL.out.keep hb2
 have y0:w2.cell? ⟨w.heap.size,0,none⟩=some (.slice (some ⟨b,ob,none⟩) g.vals.length c1):=b2.cell 0
 have y1:w2.cell? ⟨w.heap.size,1,none⟩=some (.slice A2 g.edges.length c2):=b2.cell 1
 have d0:=kcell (below_trans HB0.out hb2) c0
 have HB2:=Hd_ (below_trans HB0.out hb2)
 have hz2:=b2.lt
 clear b2 hb2
 have q1:IntKind.i64.wrap ((g.vals.length:Int) - 1)=(g.vals.length:Int) - 1:=IntWalk.i64_in _ (by omega)
 go_wp2_with fail
 refine (l1In_any (x:Int) 0 ((g.vals.length:Int) - 1) _).mono ?_
 rintro e w3 ⟨rfl,hw⟩
 rw [hw,hx1]
 clear hw w3
 go_wp2_with fail
 refine (l1In_any letter 6 8 _).mono ?_
 rintro e w3 ⟨rfl,hw⟩
 rw [hw]
 clear hw w3
 cases gl:wi letter 6 8 with
 | false =>
   have hne:¬ letter=6+a:=fun h=>by
    have:wi letter 6 8=true:=wi_iff.2 ⟨by omega,by omega⟩
    rw [this] at gl
    cases gl
   go_wp2_with fail
   go_ret
   exact ⟨by simp [hne],HB2.out⟩
 | true =>
   obtain ⟨l0,l8⟩:=wi_iff.1 gl
   have hxx:(x:Int) < (g.vals.length:Int):=by omega
   have q2:IntKind.i64.wrap (letter - 6)=letter - 6:=IntWalk.i64_in _ (by omega)
   by_cases he:letter=6+a
   · have hq:a=letter - 6:=by omega
     have HE:=Hd_ he
     clear he
     go_wp2_with fail
     go_ret
     exact ⟨by rw [decide_eq_true HE.out] <;> simp [hq],HB2.out⟩
   · have hq:¬ a=letter - 6:=by omega
     go_wp2_with fail
     go_ret
     exact ⟨by simp [he,hq],HB2.out⟩
/-- an arc as four cells -/
def cA (y:Arc):List Value:=[.int .i64 y.1.1,.bool y.1.2,.int .i64 y.2.1,.int .i64 y.2.2]
theorem cA_len (y:Arc):(cA y).length=4:=rfl
theorem cA_one (y:Arc):∀ u ∈ cA y,u.oneCell'=true:=by intro u hu;simp only [cA,List.mem_cons,List.not_mem_nil,or_false] at hu;rcases hu with rfl | rfl | rfl | rfl <;> rfl
theorem reads_any (e:Ed) (b:Bool) (w:World) (h0:0<=e.2.2.2) (h2:e.2.2.2<=2) :
 Calls Tryz.prog 62 #[.agg #[.int .i64 e.1,.int .i64 e.2.1,.int .i64 e.2.2.1,.int .i64 e.2.2.2],.bool b] w fun en w'=>en=.returned (.int .i64 (arcLetter b e))/\Below w.heap.size w w':=by
 obtain ⟨a,f,t,l⟩:=e
 simp only at h0 h2 ⊢
 cases b
 all_goals
  go_enter Tryz.func62,Tryz.ntmps62
  go_wp2_with fail
  go_ret
  exact ⟨rfl,(Below.refl _ _).alloc (Nat.le_refl _) _⟩
theorem elArc:ElemOk Tryz.prog 69 73 (.agg #[.int .i64 0,.bool false,.int .i64 0,.int .i64 0]) 4 32:=⟨Tryz.underlying69,by kernel_rfl,rfl,by omega⟩
theorem elArcs:ElemOk Tryz.prog 67 69 (.slice none 0 0) 1 24:=⟨Tryz.underlying67,by kernel_rfl,rfl,by omega⟩
set_option maxHeartbeats 4000000 in
set_option maxRecDepth 100000 in
theorem arcs_any (v:Value) (g:Gr) (w:World) (hv:GrV 0 w.heap.size w v g) (hg:GrOk g) :
 Calls Tryz.prog 42 #[v] w fun e w'=>∃ v',e=.returned v'/\SSE w.heap.size w'.heap.size w' cA 4 v' ((List.range g.vals.length).map fun (x:Nat)=>arcsOf g (x:Int))/\Below w.heap.size w w':=by
 obtain ⟨A1,c1,A2,c2,rfl,hl1,hm1,hl2,hm2,hC1,hC2⟩:=hv.form
 have hn5:=hg.n5
 have he12:=hg.e12
 have HG:=Hd_ hg
 have HC2:=Hd_ hC2
 clear hC1 hC2 hv hg
 obtain ⟨R,hR⟩:∃ R,R=(List.range g.vals.length).map fun (x:Nat)=>arcsOf g (x:Int):=⟨_,rfl⟩
 rw [<- hR]
 have HR:=Hd_ hR
 clear hR
 go_enter Tryz.func42,Tryz.ntmps42
 go_wp2_with (at_make;refine wpList_makeE (P:=Tryz.prog) cV (.slice none 0 0) elArcs rfl rfl rfl _ _ rfl (w.heap.size+1) g.vals.length _ (by rfl) (by rfl) rfl (by omega) (by unfold maxLen;omega) (by simp) ?_;intro w1 hrow1 hbel1
              have b0:=(Blk.new w _ _ w.heap.size rfl).below hbel1 (by simp)
              have hb1:Below w.heap.size w w1:=((Below.refl _ _).alloc (Nat.le_refl _) _).trans (hbel1.mono (by simp))
              simp only [World.size_alloc] at hrow1 ⊢
              have hr1:=Rws.made (base:=w.heap.size+1) (α:=Arc) (E:=cA) (k:=4) (rT:=73) hrow1
              have HR1:=Hd_ hr1
              have x0:w1.cell? ⟨w.heap.size,0,none⟩=some (.slice A1 g.vals.length c1):=b0.cell 0
              have x1:w1.cell? ⟨w.heap.size,1,none⟩=some (.slice A2 g.edges.length c2):=b0.cell 1
              clear hbel1 hrow1 b0 hr1)
 generalize hgb:w.heap.size+1=gb at *
 have hgw:w.heap.size < gb:=by omega
 clear hgb
 go_loopw [13] (fun ii wr=>∃ (i:Nat) (hs:List Value),i<=g.edges.length/\ii=.int .i64 (i:Int)/\Rws wr gb 69 73 cA 4 gb hs (rowsTo g i)/\Below w.heap.size w wr) (fun ii _=>g.edges.length - (intOf ii).toNat)
 case atStart=>exact ⟨0,_,Nat.zero_le _,rfl,by rw [rowsTo_zero];exact HR1.out,hb1⟩
 case round =>
  obtain ⟨i,hs,hi,rfl,hrow,hbel⟩:=hrel
  clear hb1 HR1 x0 x1
  by_cases hlt:i < g.edges.length
  · have hei:g.edges[i]?=some g.edges[i]:=List.getElem?_eq_getElem hlt
    have hge:=HG.out.edges _ (List.getElem_mem hlt)
    generalize g.edges[i]=e at hei hge
    obtain ⟨-,⟨hf0,hf1⟩,⟨ht0,ht1⟩,hl0,hl2⟩:=hge
    obtain ⟨b,o,rfl,hb,q0,q1,q2,q3⟩:=HC2.out.ed hei
    have d0:=bcell hbel q0 hb
    have d1:=bcell hbel q1 hb
    have d2:=bcell hbel q2 hb
    have d3:=bcell hbel q3 hb
    have hbw:=Nat.lt_of_lt_of_le hb hbel.size
    have HEI:=Hd_ hei
    clear hei q0 q1 q2 q3
    have hgl:=hrow.gLt
    have hfh:e.2.1.toNat < hs.length:=by rw [hrow.len,rowsTo_len];omega
    have hhf:hs[e.2.1.toNat]?=some hs[e.2.1.toNat]:=List.getElem?_eq_getElem hfh
    generalize hs[e.2.1.toNat]=hv1 at hhf
    have hx1:=rowsTo_at (g:=g) (i:=i) (x:=e.2.1.toNat) (by omega)
    rw [Int.toNat_of_nonneg hf0] at hx1
    obtain ⟨eid,ef,et,el⟩:=e
    simp only at *
    have hfn:ef.toNat < g.vals.length:=by omega
    obtain ⟨ef,rfl⟩:=Int.eq_ofNat_of_zero_le hf0
    obtain ⟨et,rfl⟩:=Int.eq_ofNat_of_zero_le ht0
    simp only [Int.toNat_natCast] at *
    have hfi:(ef:Int) < (g.vals.length:Int):=by omega
    have hti:(et:Int) < (g.vals.length:Int):=by omega
    have hcf:=hrow.cell hhf
    have hff:=hrow.frozen ef
    have HROW:=Hd_ hrow
    have HX1:=Hd_ hx1
    have HHF:=Hd_ hhf
    have hfar:=hrow.far _ _ hhf
    have HFAR:=Hd_ hfar
    have hgs:=hgl.2
    have hlv:hs.length=g.vals.length:=by rw [hrow.len,rowsTo_len]
    have hgv:gb < wr.heap.size:=hgl.2
    have hsz:=hbel.size
    clear hrow hx1 hhf hfar hgl hfh hlv
    go_wp2_with fail
    have e0:(wr.alloc (.cells #[.int .i64 eid,.int .i64 (ef:Int),.int .i64 (et:Int),.int .i64 el] 76)).cell? ⟨wr.heap.size,0,none⟩=some (.int .i64 eid):=by simp
    have e1:(wr.alloc (.cells #[.int .i64 eid,.int .i64 (ef:Int),.int .i64 (et:Int),.int .i64 el] 76)).cell? ⟨wr.heap.size,1,none⟩=some (.int .i64 (ef:Int)):=by simp
    have e2:(wr.alloc (.cells #[.int .i64 eid,.int .i64 (ef:Int),.int .i64 (et:Int),.int .i64 el] 76)).cell? ⟨wr.heap.size,2,none⟩=some (.int .i64 (et:Int)):=by simp
    have e3:(wr.alloc (.cells #[.int .i64 eid,.int .i64 (ef:Int),.int .i64 (et:Int),.int .i64 el] 76)).cell? ⟨wr.heap.size,3,none⟩=some (.int .i64 el):=by simp
    generalize hW:(wr.alloc (.cells #[.int .i64 eid,.int .i64 (ef:Int),.int .i64 (et:Int),.int .i64 el] 76))=wE
    rw [hW] at e0 e1 e2 e3
    have hbE:Below wr.heap.size wr wE:=by rw [<- hW];exact (Below.refl _ _).alloc (Nat.le_refl _) _
    have hcE:wE.cell? ⟨gb,ef,none⟩=some hv1:=bcell hbE hcf hgs
    have hfE:wE.frozen? ⟨gb,ef,none⟩=false:=by rw [hbE.frozen (p:=⟨gb,ef,none⟩) hgs];exact hff
    have hsE:wr.heap.size < wE.heap.size:=by rw [<- hW];simp
    have hgE:gb < wE.heap.size:=by omega
    have hgE1:wr.heap.size ≠ gb:=by omega
    have HRE:=Hd_ (HROW.out.below hbE)
    have HBE:=Hd_ (hbel.trans (hbE.mono hsz))
    have hne1:some wr.heap.size ≠ hv1.ownBlock:=fun h=>by have:=((HROW.out.row ef hv1 _ HHF.out HX1.out).lt _ h.symm).2;omega
    have hne2:some gb ≠ hv1.ownBlock:=Ne.symm HFAR.out
    have hneR0:∀ (j:Nat) (h:Value),hs[j]?=some h->some wr.heap.size ≠ h.ownBlock:=fun j h hj e9=>by
     have hjx:j < (rowsTo g i).length:=by rw [<- HROW.out.len];exact (List.getElem?_eq_some_iff.1 hj).1
     have:=((HROW.out.row j h _ hj (List.getElem?_eq_getElem hjx)).lt _ e9.symm).2
     omega
    have HNER:=Hd_ hneR0
    clear hneR0
    have HRO:=Hd_ (HRE.out.row ef hv1 _ HHF.out HX1.out)
    have hrl:((g.edges.take i).flatMap (arcE (ef:Int))).length<=24:=by
     have h1:=flat_len (arcE_len (ef:Int)) (g.edges.take i)
     rw [List.length_take] at h1
     omega
    clear hW hbE hcf hff HROW hbel
    obtain ⟨row1,hrow1⟩:∃ row1,row1=(g.edges.take i).flatMap (arcE (ef:Int)):=⟨_,rfl⟩
    rw [<- hrow1] at hrl HRO HX1
    have HROW1:=Hd_ hrow1
    clear hrow1
    refine F_start 19 (fun w'=>w'.cell? ⟨wr.heap.size,0,none⟩=some (.int .i64 eid)/\w'.cell? ⟨wr.heap.size,1,none⟩=some (.int .i64 (ef:Int))/\w'.cell? ⟨wr.heap.size,2,none⟩=some (.int .i64 (et:Int))/\w'.cell? ⟨wr.heap.size,3,none⟩=some (.int .i64 el)/\w'.cell? ⟨gb,ef,none⟩=some hv1) (by kernel_rfl) (by exact ⟨e0,e1,e2,e3,hcE⟩) (fun hS inv=>?_)
    refine F_tk 0 inv ?_
    try simp only [tA,tB,tC,Act.put,tE,tF,tG]
    clear inv;intro inv
    refine F_tk 1 inv ?_
    try simp only [tA,tB,tC,Act.put,tE,tF,tG]
    clear inv;intro inv
    refine F_tk 2 inv ?_
    try simp only [tA,tB,tC,Act.put,tE,tF,tG]
    clear inv;intro inv
    refine F_tk 3 inv ?_
    try simp only [tA,tB,tC,Act.put,tE,tF,tG]
    clear inv;intro inv
    refine F_tk 4 inv ?_
    try simp only [tA,tB,tC,Act.put,tE,tF,tG]
    clear inv;intro inv
    refine F_tk 5 inv ?_
    try simp only [tA,tB,tC,Act.put,tE,tF,tG]
    clear inv;intro inv
    refine F_tk 6 inv ?_
    try simp only [tA,tB,tC,Act.put,tE,tF,tG]
    clear inv;intro inv
    refine F_tk 7 inv ?_
    try simp only [tA,tB,tC,Act.put,tE,tF,tG]
    clear inv;intro inv
    refine F_tk 8 inv ?_
    try simp only [tA,tB,tC,Act.put,tE,tF,tG]
    clear inv;intro inv
    refine F_tk 9 inv ?_
    try simp only [tA,tB,tC,Act.put,tE,tF,tG]
    clear inv;intro inv
    refine F_tk 10 inv ?_
    try simp only [tA,tB,tC,Act.put,tE,tF,tG]
    clear inv;intro inv
    refine F_tk 11 inv ?_
    try simp only [tA,tB,tC,Act.put,tE,tF,tG]
    clear inv;intro inv
    refine F_tk 13 inv ?_
    try simp only [tA,tB,tC,Act.put,tE,tF,tG]
    clear inv;intro inv
    refine F_tk 14 inv ?_
    try simp only [tA,tB,tC,Act.put,tE,tF,tG]
    clear inv;intro inv
    refine F_o1 12 inv ?_;intro K hK
    try simp only [tA,tB,tC]
    go_simp
    refine (reads_any (eid,(ef:Int),(et:Int),el) false _ hl0 hl2).mono ?_
    rintro en wR ⟨rfl,hbR⟩
    have hbR:=below_trans (Below.refl wE.heap.size wE).drew hbR
    have hcR:=kcell hbR hcE
    have hfR:=kfb hbR hcE hfE
    have hsR:=hbR.size
    have HRX:=Hd_ (ownsRow_below HRO.out hbR (Nat.le_refl _))
    refine hK.out _ _ (kB5 hbR ⟨e0,e1,e2,e3,hcE⟩) (fun _ _=>?_)
    try simp only [tA,tB,tC,Act.put,tE,tF,tG]
    clear hK K inv hS;rename_i hS inv
    refine F_tk 15 inv ?_
    try simp only [tA,tB,tC,Act.put,tE,tF,tG]
    clear inv;intro inv
    refine F_o1 16 inv ?_;intro K hK
    try simp only [tA,tB,tC]
    go_simp
    refine hK.out _ _ (kA5 _ hS) (fun _ _=>?_)
    try simp only [tA,tB,tC,Act.put,tE,tF,tG]
    clear hK K inv hS;rename_i hS inv
    refine F_o1 17 inv ?_;intro K hK
    try simp only [tA,tB,tC]
    refine op_append1 cA elArc rfl _ _ (by rfl) gb hv1 row1 ((eid,false),arcLetter false (eid,(ef:Int),(et:Int),el),(et:Int)) 1 _ (by rfl) (HRX.out.alloc _) (by rfl) (heap_alloc_new _ _) rfl (cA_one _) (by omega) (by omega) (by simp;omega) ?_
    intro g2 cp2 w3 hown3 hgr3 hat3 hlt3
    have HO3:=Hd_ hown3
    have HG3:=Hd_ hgr3
    have HA3:=Hd_ hat3
    clear hown3 hgr3 hat3
    refine hK.out _ _ (kG5 HG3.out hne1 hne1 hne1 hne1 hne2 hS) (fun _ _=>?_)
    try simp only [tA,tB,tC,Act.put,tE,tF,tG]
    clear hK K inv hS;rename_i hS inv
    refine F_tk 18 inv ?_
    try simp only [tA,tB,tC,Act.put,tE,tF,tG]
    clear inv;intro inv
    have hcz:=HG3.out.cell (kcell ((Below.refl _ _).alloc (Nat.le_refl _) _) hcR) hne2
    have hfz:=kfg HG3.out (p:=⟨gb,ef,none⟩) hne2 (kcell ((Below.refl _ _).alloc (Nat.le_refl _) _) hcR) (kfb ((Below.refl _ _).alloc (Nat.le_refl _) _) hcR hfR)
    refine F_l1 19 ?_;intro K hK
    go_simp
    refine hK _ _ ?_
    clear hK K inv hS
    have hbA:Below wE.heap.size wE (wR.alloc (.cells #[.int .i64 eid,.bool false,.int .i64 (arcLetter false (eid,(ef:Int),(et:Int),el)),.int .i64 (et:Int)] 73)):=hbR.alloc hsR _
    have hrF:=Rws.push (HRE.out.below hbA) HHF.out HX1.out HO3.out HG3.out rfl HA3.out
    have hbF:Below w.heap.size w (w3.setCell ⟨gb,ef,none⟩ (.slice (some ⟨g2,0,none⟩) (row1.length+1) cp2)) :=
     ((HBE.out.trans (hbA.mono HBE.out.size)).grown HG3.out (Nat.le_trans HBE.out.size hbA.size) (fun b hb=>by have:=(HRX.out.lt b hb).1;omega)).setCell (by simp only;omega) _
    have f0:=(World.cell?_setCell_far w3 ⟨gb,ef,none⟩ ⟨wr.heap.size,0,none⟩ (.slice (some ⟨g2,0,none⟩) (row1.length+1) cp2) (Ne.symm hgE1)).trans (HG3.out.cell (kcell hbA e0) hne1)
    have f1:=(World.cell?_setCell_far w3 ⟨gb,ef,none⟩ ⟨wr.heap.size,1,none⟩ (.slice (some ⟨g2,0,none⟩) (row1.length+1) cp2) (Ne.symm hgE1)).trans (HG3.out.cell (kcell hbA e1) hne1)
    have f2:=(World.cell?_setCell_far w3 ⟨gb,ef,none⟩ ⟨wr.heap.size,2,none⟩ (.slice (some ⟨g2,0,none⟩) (row1.length+1) cp2) (Ne.symm hgE1)).trans (HG3.out.cell (kcell hbA e2) hne1)
    have f3:=(World.cell?_setCell_far w3 ⟨gb,ef,none⟩ ⟨wr.heap.size,3,none⟩ (.slice (some ⟨g2,0,none⟩) (row1.length+1) cp2) (Ne.symm hgE1)).trans (HG3.out.cell (kcell hbA e3) hne1)
    have hg23:some wr.heap.size ≠ (Value.slice (some ⟨g2,0,none⟩) (row1.length+1) cp2).ownBlock:=by
     simp only [Value.ownBlock,ne_eq,Option.some.injEq]
     intro e9;subst e9
     rcases HA3.out with h9 | h9
     · exact hne1 h9.symm
     · have:=hbA.size;omega
    rw [show (rowsTo g i).set ef (row1 ++ [((eid,false),arcLetter false (eid,(ef:Int),(et:Int),el),(et:Int))])=rowFrom g i (eid,(ef:Int),(et:Int),el) by rw [HROW1.out];rfl] at hrF
    generalize (w3.setCell ⟨gb,ef,none⟩ (.slice (some ⟨g2,0,none⟩) (row1.length+1) cp2))=wF at *
    have hethF:et < (hs.set ef (.slice (some ⟨g2,0,none⟩) (row1.length+1) cp2)).length:=by rw [List.length_set,HRE.out.len,rowsTo_len];omega
    have hhb:(hs.set ef (.slice (some ⟨g2,0,none⟩) (row1.length+1) cp2))[et]?=some (hs.set ef (.slice (some ⟨g2,0,none⟩) (row1.length+1) cp2))[et]:=List.getElem?_eq_getElem hethF
    generalize (hs.set ef (.slice (some ⟨g2,0,none⟩) (row1.length+1) cp2))[et]=hv2 at hhb
    have hx2:(rowFrom g i (eid,(ef:Int),(et:Int),el))[et]?=some (rowBack g i (eid,(ef:Int),(et:Int),el)):=by have:=rowFrom_at (g:=g) (i:=i) (e:=(eid,(ef:Int),(et:Int),el)) (by simp only;omega) (by simp only;omega) (by simp only;omega) (by simp only;omega);simpa using this
    have hne3:some wr.heap.size ≠ hv2.ownBlock:=by
     rw [List.getElem?_set] at hhb
     split at hhb
     · split at hhb
       · injection hhb with hhb;rw [<- hhb];exact hg23
       · cases hhb
     · exact HNER.out et hv2 hhb
    have hne4:some gb ≠ hv2.ownBlock:=Ne.symm (hrF.far _ _ hhb)
    have hcF:=hrF.cell hhb
    have hfF:=hrF.frozen et
    have hgF:=hrF.gLt.2
    have HRO2:=Hd_ (hrF.row et hv2 _ hhb hx2)
    have hlq:wr.heap.size < wF.heap.size:=World.block_lt_of_cell? wF _ f0
    have hrl2:(rowBack g i (eid,(ef:Int),(et:Int),el)).length<=25:=by
     have h1:=flat_len (arcE_len (et:Int)) (g.edges.take i)
     rw [List.length_take] at h1
     unfold rowBack
     rw [List.length_append]
     split
     · simp only [List.length_singleton];omega
     · simp only [List.length_nil];omega
    have HHB:=Hd_ hhb
    have HX2:=Hd_ hx2
    have HRF:=Hd_ hrF
    have HBF:=Hd_ hbF
    clear hhb hx2 hrF hbF hbA hethF
    obtain ⟨row2,hrow2⟩:∃ row2,row2=rowBack g i (eid,(ef:Int),(et:Int),el):=⟨_,rfl⟩
    rw [<- hrow2] at hrl2 HRO2 HX2
    have HROW2:=Hd_ hrow2
    clear hrow2 hcz hfz hbR hcR hfR hsR HRX HO3 HG3 HA3 e0 e1 e2 e3 hcE hfE hsE hgE HRE HBE hne1 hne2 HRO hrl HNER hg23 hlt3
    go_wp2_with fail
    refine F_start 19 (fun w'=>w'.cell? ⟨wr.heap.size,0,none⟩=some (.int .i64 eid)/\w'.cell? ⟨wr.heap.size,1,none⟩=some (.int .i64 (ef:Int))/\w'.cell? ⟨wr.heap.size,2,none⟩=some (.int .i64 (et:Int))/\w'.cell? ⟨wr.heap.size,3,none⟩=some (.int .i64 el)/\w'.cell? ⟨gb,et,none⟩=some hv2) (by kernel_rfl) (by exact ⟨f0,f1,f2,f3,hcF⟩) (fun hS inv=>?_)
    refine F_tk 0 inv ?_
    try simp only [tA,tB,tC,Act.put,tE,tF,tG]
    clear inv;intro inv
    refine F_tk 1 inv ?_
    try simp only [tA,tB,tC,Act.put,tE,tF,tG]
    clear inv;intro inv
    refine F_tk 2 inv ?_
    try simp only [tA,tB,tC,Act.put,tE,tF,tG]
    clear inv;intro inv
    refine F_tk 3 inv ?_
    try simp only [tA,tB,tC,Act.put,tE,tF,tG]
    clear inv;intro inv
    refine F_tk 4 inv ?_
    try simp only [tA,tB,tC,Act.put,tE,tF,tG]
    clear inv;intro inv
    refine F_tk 5 inv ?_
    try simp only [tA,tB,tC,Act.put,tE,tF,tG]
    clear inv;intro inv
    refine F_tk 6 inv ?_
    try simp only [tA,tB,tC,Act.put,tE,tF,tG]
    clear inv;intro inv
    refine F_tk 7 inv ?_
    try simp only [tA,tB,tC,Act.put,tE,tF,tG]
    clear inv;intro inv
    refine F_tk 8 inv ?_
    try simp only [tA,tB,tC,Act.put,tE,tF,tG]
    clear inv;intro inv
    refine F_tk 9 inv ?_
    try simp only [tA,tB,tC,Act.put,tE,tF,tG]
    clear inv;intro inv
    refine F_tk 10 inv ?_
    try simp only [tA,tB,tC,Act.put,tE,tF,tG]
    clear inv;intro inv
    refine F_tk 11 inv ?_
    try simp only [tA,tB,tC,Act.put,tE,tF,tG]
    clear inv;intro inv
    refine F_tk 13 inv ?_
    try simp only [tA,tB,tC,Act.put,tE,tF,tG]
    clear inv;intro inv
    refine F_tk 14 inv ?_
    try simp only [tA,tB,tC,Act.put,tE,tF,tG]
    clear inv;intro inv
    refine F_o1 12 inv ?_;intro K hK
    try simp only [tA,tB,tC]
    go_simp
    refine (reads_any (eid,(ef:Int),(et:Int),el) true _ hl0 hl2).mono ?_
    rintro en wS ⟨rfl,hbR⟩
    have hbR:=below_trans (Below.refl wF.heap.size wF).drew hbR
    have hcR:=kcell hbR hcF
    have hfR:=kfb hbR hcF hfF
    have hsR:=hbR.size
    have HRX:=Hd_ (ownsRow_below HRO2.out hbR (Nat.le_refl _))
    refine hK.out _ _ (kB5 hbR ⟨f0,f1,f2,f3,hcF⟩) (fun _ _=>?_)
    try simp only [tA,tB,tC,Act.put,tE,tF,tG]
    clear hK K inv hS;rename_i hS inv
    refine F_tk 15 inv ?_
    try simp only [tA,tB,tC,Act.put,tE,tF,tG]
    clear inv;intro inv
    refine F_o1 16 inv ?_;intro K hK
    try simp only [tA,tB,tC]
    go_simp
    refine hK.out _ _ (kA5 _ hS) (fun _ _=>?_)
    try simp only [tA,tB,tC,Act.put,tE,tF,tG]
    clear hK K inv hS;rename_i hS inv
    refine F_o1 17 inv ?_;intro K hK
    try simp only [tA,tB,tC]
    refine op_append1 cA elArc rfl _ _ (by rfl) gb hv2 row2 ((eid,true),arcLetter true (eid,(ef:Int),(et:Int),el),(ef:Int)) 1 _ (by rfl) (HRX.out.alloc _) (by rfl) (heap_alloc_new _ _) rfl (cA_one _) (by omega) (by omega) (by simp;omega) ?_
    intro g3 cp3 w4 hown3 hgr3 hat3 hlt3
    have HO3:=Hd_ hown3
    have HG3:=Hd_ hgr3
    have HA3:=Hd_ hat3
    clear hown3 hgr3 hat3
    refine hK.out _ _ (kG5 HG3.out hne3 hne3 hne3 hne3 hne4 hS) (fun _ _=>?_)
    try simp only [tA,tB,tC,Act.put,tE,tF,tG]
    clear hK K inv hS;rename_i hS inv
    refine F_tk 18 inv ?_
    try simp only [tA,tB,tC,Act.put,tE,tF,tG]
    clear inv;intro inv
    have hcz:=HG3.out.cell (kcell ((Below.refl _ _).alloc (Nat.le_refl _) _) hcR) hne4
    have hfz:=kfg HG3.out (p:=⟨gb,et,none⟩) hne4 (kcell ((Below.refl _ _).alloc (Nat.le_refl _) _) hcR) (kfb ((Below.refl _ _).alloc (Nat.le_refl _) _) hcR hfR)
    refine F_l1 19 ?_;intro K hK
    go_simp
    refine hK _ _ ?_
    clear hK K inv hS
    have hbA:Below wF.heap.size wF (wS.alloc (.cells #[.int .i64 eid,.bool true,.int .i64 (arcLetter true (eid,(ef:Int),(et:Int),el)),.int .i64 (ef:Int)] 73)):=hbR.alloc hsR _
    have hrG:=Rws.push (HRF.out.below hbA) HHB.out HX2.out HO3.out HG3.out rfl HA3.out
    have hbG:Below w.heap.size w (w4.setCell ⟨gb,et,none⟩ (.slice (some ⟨g3,0,none⟩) (row2.length+1) cp3)) :=
     ((HBF.out.trans (hbA.mono HBF.out.size)).grown HG3.out (Nat.le_trans HBF.out.size hbA.size) (fun b hb=>by have:=(HRX.out.lt b hb).1;omega)).setCell (by simp only;omega) _
    have hpush:=rowsTo_push (g:=g) HEI.out (by simp only;omega) (by simp only;omega) (by simp only;omega) (by simp only;omega)
    simp only [Int.toNat_natCast] at hpush
    rw [HROW2.out,hpush] at hrG
    have HRG:=Hd_ hrG
    have HBG:=Hd_ hbG
    clear hrG hbG hbA hpush hcz hfz hbR hcR hfR
    rw [<- HROW2.out] at HRG
    go_wp2_with fail
    go_roundw
    case rel=>exact ⟨i+1,_,by omega,by go_num,HRG.out,HBG.out⟩
    case measure=>simp [intOf];omega
  · obtain rfl:i=g.edges.length:=by omega
    have hs1:=hrow.sse cA_len (lo:=w.heap.size) (by omega) (by omega)
    have hln:hs.length=g.vals.length:=by rw [hrow.len,rowsTo_len]
    rw [rowsTo_all,hln] at hs1
    have HS1:=Hd_ hs1
    clear hrow hs1 hln
    go_wp2_with fail
    go_ret
    exact ⟨_,rfl,by rw [HR.out];exact HS1.out,hbel⟩
end Go.Proofs.YtloeghbhoflabaaGreat
namespace Go.Proofs.YtloeghbhoflabaaGreat
/-- a goal is n steps away from i -/
def toG (next:Nat->List Nat) (goal:Nat->Prop):Nat->Nat->Prop
 | 0,i=>goal i
 | n+1,i=>∃ k ∈ next i,toG next goal n k
def IsDist (next:Nat->List Nat) (goal:Nat->Prop) (i:Nat) (d:Int):Prop :=
 (d=-1/\∀ n,¬ toG next goal n i) ∨ (0<=d/\toG next goal d.toNat i/\∀ m:Nat,m < d.toNat->¬ toG next goal m i)
section
variable {prev next:Nat->List Nat} {goal:Nat->Prop} {N:Nat} {D:List Int} {q:List Nat}
structure BO (prev next:Nat->List Nat) (goal:Nat->Prop) (N:Nat) (D:List Int) (q:List Nat):Prop where
 len:D.length=N
 sound:∀ i,i < N->0<=D.getD i 0->toG next goal (D.getD i 0).toNat i
 src:∀ i,i < N->goal i->D.getD i 0=0
 done:∀ k,k < N->0<=D.getD k 0->k ∉ q->∀ i ∈ prev k,0<=D.getD i 0/\D.getD i 0<=D.getD k 0+1
 top:∀ h r,q=h :: r->∀ i,i < N->D.getD i 0<=D.getD h 0+1
 sorted:q.Pairwise (fun a b=>D.getD a 0<=D.getD b 0)
 qN:∀ x ∈ q,x < N/\0<=D.getD x 0
 low:∀ i,i < N->-1<=D.getD i 0
structure BI (prev next:Nat->List Nat) (goal:Nat->Prop) (N:Nat) (D:List Int) (q:List Nat) (h:Nat) (l:List Nat):Prop where
 len:D.length=N
 hN:h < N
 hD:0<=D.getD h 0
 sound:∀ i,i < N->0<=D.getD i 0->toG next goal (D.getD i 0).toNat i
 src:∀ i,i < N->goal i->D.getD i 0=0
 done:∀ k,k < N->0<=D.getD k 0->k ∉ q->k ≠ h->∀ i ∈ prev k,0<=D.getD i 0/\D.getD i 0<=D.getD k 0+1
 here:∀ i ∈ prev h,i ∈ l ∨ (0<=D.getD i 0/\D.getD i 0<=D.getD h 0+1)
 top:∀ i,i < N->D.getD i 0<=D.getD h 0+1
 qs:∀ x ∈ q,D.getD h 0<=D.getD x 0
 sorted:q.Pairwise (fun a b=>D.getD a 0<=D.getD b 0)
 qN:∀ x ∈ q,x < N/\0<=D.getD x 0
 low:∀ i,i < N->-1<=D.getD i 0
theorem BO.enter {h:Nat} (b:BO prev next goal N D (h :: q)):BI prev next goal N D q h (prev h) :=
 ⟨b.len,(b.qN h (by simp)).1,(b.qN h (by simp)).2,b.sound,b.src,fun k hk h0 hq hh=>b.done k hk h0 (by simp [hq,hh]),fun i hi=>.inl hi,b.top h q rfl,
  fun x hx=>(List.pairwise_cons.1 b.sorted).1 x hx,(List.pairwise_cons.1 b.sorted).2,fun x hx=>b.qN x (List.mem_cons_of_mem _ hx),b.low⟩
theorem BI.leave {h:Nat} (b:BI prev next goal N D q h []):BO prev next goal N D q:=by
 refine ⟨b.len,b.sound,b.src,fun k hk h0 hq=>?_,fun x r hx i hi=>?_,b.sorted,b.qN,b.low⟩
 · by_cases hkh:k=h
   · subst hkh
     intro i hi
     rcases b.here i hi with h | h
     · simp at h
     · exact h
   · exact b.done k hk h0 hq hkh
 · have h1:=b.top i hi
   have h2:=b.qs x (by rw [hx];simp)
   omega
theorem BI.old {h k:Nat} {l:List Nat} (b:BI prev next goal N D q h (k :: l)) (hk:k < N) (h0:¬ D.getD k 0 < 0):BI prev next goal N D q h l:=by
 refine ⟨b.len,b.hN,b.hD,b.sound,b.src,b.done,fun i hi=>?_,b.top,b.qs,b.sorted,b.qN,b.low⟩
 rcases b.here i hi with h1 | h1
 · rcases List.mem_cons.1 h1 with rfl | h1
   · exact .inr ⟨by omega,b.top _ hk⟩
   · exact .inl h1
 · exact .inr h1
theorem BI.new {h k:Nat} {l:List Nat} (hpn:∀ i k,i < N->k < N->i ∈ prev k->k ∈ next i) (hpN:∀ i k,k < N->i ∈ prev k->i < N) (b:BI prev next goal N D q h (k :: l)) (hkp:k ∈ prev h) (h0:D.getD k 0 < 0) :
 BI prev next goal N (D.set k (D.getD h 0+1)) (q ++ [k]) h l:=by
 have hk:k < N:=hpN k h b.hN hkp
 have hkl:k < D.length:=by rw [b.len];exact hk
 have hD:=b.hD
 have hkh:k ≠ h:=by intro e;subst e;omega
 have hh:(D.set k (D.getD h 0+1)).getD h 0=D.getD h 0:=by rw [getD_set' hkl,if_neg (Ne.symm hkh)]
 have hset:∀ x,x ≠ k->(D.set k (D.getD h 0+1)).getD x 0=D.getD x 0:=fun x hx=>by rw [getD_set' hkl,if_neg hx]
 have hsk:(D.set k (D.getD h 0+1)).getD k 0=D.getD h 0+1:=by rw [getD_set' hkl,if_pos rfl]
 have hkq:∀ x ∈ q,x ≠ k:=fun x hx e=>by subst e;have:=(b.qN x hx).2;omega
 refine ⟨by rw [List.length_set];exact b.len,b.hN,by rw [hh];exact hD,fun i hi h1=>?_,fun i hi hg=>?_,fun x hx h1 hxq hxh i hi=>?_,fun i hi=>?_,fun i hi=>?_,fun x hx=>?_,?_,fun x hx=>?_,fun i hi=>?_⟩
 · by_cases e:i=k
   · subst e
     rw [hsk]
     have h2:=b.sound h b.hN hD
     rw [show (D.getD h 0+1).toNat=(D.getD h 0).toNat+1 by omega]
     exact ⟨h,hpn i h hi b.hN hkp,h2⟩
   · rw [hset i e] at h1 ⊢
     exact b.sound i hi h1
 · have e:i ≠ k:=by
    intro e;subst e
    have:=b.src i hi hg
    omega
   rw [hset i e]
   exact b.src i hi hg
 · have e:x ≠ k:=by intro e;subst e;simp at hxq
   rw [hset x e] at h1 ⊢
   have h2:=b.done x hx h1 (fun h=>hxq (by simp [h])) hxh i hi
   have e2:i ≠ k:=by intro e2;subst e2;omega
   rw [hset i e2]
   exact h2
 · rw [hh]
   by_cases e:i=k
   · subst e
     refine .inr ?_
     rw [hsk]
     omega
   · rw [hset i e]
     rcases b.here i hi with h1 | h1
     · rcases List.mem_cons.1 h1 with h1 | h1
       · exact absurd h1 e
       · exact .inl h1
     · exact .inr h1
 · rw [hh]
   by_cases e:i=k
   · subst e;rw [hsk];omega
   · rw [hset i e];exact b.top i hi
 · rw [hh]
   rcases List.mem_append.1 hx with hx | hx
   · rw [hset x (hkq x hx)];exact b.qs x hx
   · have:x=k:=by simpa using hx
     subst this
     rw [hsk];omega
 · rw [List.pairwise_append]
   refine ⟨?_,by simp,fun x hx y hy=>?_⟩
   · refine List.Pairwise.imp_of_mem (fun {x y} hx hy hxy=>?_) b.sorted
     rw [hset x (hkq x hx),hset y (hkq y hy)]
     exact hxy
   · have:y=k:=by simpa using hy
     subst this
     rw [hset x (hkq x hx),hsk]
     exact b.top x (b.qN x hx).1
 · rcases List.mem_append.1 hx with hx | hx
   · rw [hset x (hkq x hx)];exact b.qN x hx
   · have:x=k:=by simpa using hx
     subst this
     rw [hsk]
     exact ⟨hk,by omega⟩
 · by_cases e:i=k
   · subst e;rw [hsk];omega
   · rw [hset i e];exact b.low i hi
theorem BI.all (hpn:∀ i k,i < N->k < N->i ∈ prev k->k ∈ next i) (hpN:∀ i k,k < N->i ∈ prev k->i < N) {h:Nat}:∀ (l:List Nat) (D:List Int) (q:List Nat) (d:Int),d=D.getD h 0+1->BI prev next goal N D q h l->(∀ k ∈ l,k ∈ prev h) ->
 BO prev next goal N (relax d l D q).1 (relax d l D q).2/\(relax d l D q).2.length+negs (relax d l D q).1=q.length+negs D
 | [],_,_,_,_,b,_=>⟨b.leave,rfl⟩
 | k :: l,D,q,d,hd,b,hl=>by
   have hk:k < N:=hpN k h b.hN (hl k (by simp))
   rw [relax]
   by_cases h0:D.getD k 0 < 0
   · rw [if_pos h0]
     have hkl:k < D.length:=by rw [b.len];exact hk
     have hkh:k ≠ h:=by intro e;subst e;have:=b.hD;omega
     have h1:=BI.new hpn hpN b (hl k (by simp)) h0
     rw [<- hd] at h1
     have:=BI.all hpn hpN l (D.set k d) (q ++ [k]) d (by rw [getD_set' hkl,if_neg (Ne.symm hkh)];exact hd) h1 (fun x hx=>hl x (List.mem_cons_of_mem _ hx))
     refine ⟨this.1,this.2.trans ?_⟩
     have h3:=negs_set hkl h0 (d:=d) (by have:=b.hD;omega)
     rw [List.length_append,List.length_singleton]
     omega
   · rw [if_neg h0]
     exact BI.all hpn hpN l D q d hd (b.old hk h0) (fun x hx=>hl x (List.mem_cons_of_mem _ hx))
/-- after the sweeps up to d: the distances up to d are known -/
def SwO (next:Nat->List Nat) (goal:Nat->Prop) (N:Nat) (D:List Int) (d:Nat):Prop :=
 D.length=N/\∀ i,i < N->(D.getD i 0=-1/\∀ m,m<=d->¬ toG next goal m i) ∨ (0<=D.getD i 0/\D.getD i 0<=d/\IsDist next goal i (D.getD i 0))
/-- within the sweep for d + 1: the vertices below j are done -/
def SwI (next:Nat->List Nat) (goal:Nat->Prop) (N:Nat) (D:List Int) (d j:Nat) (ch:Bool):Prop :=
 D.length=N/\(∀ i,i < N->(D.getD i 0=-1/\(∀ m,m<=d->¬ toG next goal m i)/\(i < j->¬ toG next goal (d+1) i)) ∨ (0<=D.getD i 0/\D.getD i 0<=(d:Int)+1/\IsDist next goal i (D.getD i 0))) /\
  (ch=false->∀ i,i < N->D.getD i 0<=d)
theorem SwO.enter {d:Nat} (h:SwO next goal N D d):SwI next goal N D d 0 false:=by
 refine ⟨h.1,fun i hi=>?_,fun _ i hi=>?_⟩
 · rcases h.2 i hi with h1 | h1
   · exact .inl ⟨h1.1,h1.2,fun h=>by omega⟩
   · exact .inr ⟨h1.1,by omega,h1.2.2⟩
 · rcases h.2 i hi with h1 | h1 <;> omega
theorem SwI.leave {d:Nat} {ch:Bool} (h:SwI next goal N D d N ch):SwO next goal N D (d+1):=by
 refine ⟨h.1,fun i hi=>?_⟩
 rcases h.2.1 i hi with h1 | h1
 · refine .inl ⟨h1.1,fun m hm=>?_⟩
   by_cases e:m=d+1
   · subst e;exact h1.2.2 hi
   · exact h1.2.1 m (by omega)
 · exact .inr ⟨h1.1,by omega,h1.2.2⟩
/-- vertex j is known already, or none of its next ones is at distance d -/
theorem SwI.skip {d j:Nat} {ch:Bool} (h:SwI next goal N D d j ch) (hs:¬ D.getD j 0 < 0 ∨ ∀ k ∈ next j,D.getD k 0 ≠ d) (hnN:∀ i k,i < N->k ∈ next i->k < N):SwI next goal N D d (j+1) ch:=by
 refine ⟨h.1,fun i hi=>?_,h.2.2⟩
 rcases h.2.1 i hi with h1 | h1
 · refine .inl ⟨h1.1,h1.2.1,fun hij=>?_⟩
   by_cases e:i=j
   · subst e
     rcases hs with hs | hs
     · omega
     · rintro ⟨k,hk,ht⟩
       have hkN:=hnN i k hi hk
       rcases h.2.1 k hkN with h2 | h2
       · exact h2.2.1 d (Nat.le_refl _) ht
       · rcases h2.2.2 with h3 | h3
         · omega
         · have h4:¬ d < (D.getD k 0).toNat:=fun hlt=>h3.2.2 d hlt ht
           have h5:=hs k hk
           refine h1.2.1 ((D.getD k 0).toNat+1) (by omega) ⟨k,hk,h3.2.1⟩
   · exact h1.2.2 (by omega)
 · exact .inr h1
theorem SwI.put {d j k:Nat} {ch:Bool} (h:SwI next goal N D d j ch) (hj:j < N) (h0:D.getD j 0 < 0) (hk:k ∈ next j) (hkd:D.getD k 0=d) (hnN:∀ i k,i < N->k ∈ next i->k < N):SwI next goal N (D.set j ((d:Int)+1)) d (j+1) true:=by
 have hjl:j < D.length:=by rw [h.1];exact hj
 have hkN:=hnN j k hj hk
 refine ⟨by rw [List.length_set];exact h.1,fun i hi=>?_,fun h=>by cases h⟩
 by_cases e:i=j
 · subst e
   rw [getD_set' hjl,if_pos rfl]
   rcases h.2.1 i hi with h1 | h1
   · refine .inr ⟨by omega,by omega,.inr ⟨by omega,?_,fun m hm=>h1.2.1 m (by omega)⟩⟩
     rcases h.2.1 k hkN with h2 | h2
     · omega
     · rcases h2.2.2 with h3 | h3
       · omega
       · have h4:=h3.2.1
         rw [hkd] at h4
         rw [show ((d:Int)+1).toNat=d+1 by omega]
         exact ⟨k,hk,by simpa using h4⟩
   · omega
 · rw [getD_set' hjl,if_neg e]
   rcases h.2.1 i hi with h1 | h1
   · exact .inl ⟨h1.1,h1.2.1,fun hij=>h1.2.2 (by omega)⟩
   · exact .inr h1
end
end Go.Proofs.YtloeghbhoflabaaGreat
namespace Go.Proofs.YtloeghbhoflabaaGreat
open Go.ChangeShapes Go.WideShapes Go.ChangeAt Go.RowKit
attribute [local go_sem] ext_cell ext_frozen ext_lt ext_lt1 ext_lt2 ext_lt3 ltn2 ltn3 ltn13 lts1 lts2 lts3
theorem SlI.arc {lo hi:Nat} {w:World} {A:Option Addr} {n c:Nat} {xs:List Arc} (h:SlI lo hi w cA 4 (.slice A n c) xs) {i:Nat} {y:Arc} (hx:xs[i]?=some y) :
 ∃ b o,A=some ⟨b,o,none⟩/\lo<=b/\b < hi/\w.cell? ⟨b,o+i * 4,none⟩=some (.int .i64 y.1.1)/\w.cell? ⟨b,o+i * 4+1,none⟩=some (.bool y.1.2)/\w.cell? ⟨b,o+i * 4+2,none⟩=some (.int .i64 y.2.1)/\w.cell? ⟨b,o+i * 4+3,none⟩=some (.int .i64 y.2.2):=by
 obtain ⟨A',c',hv,_,_,h3⟩:=h
 injection hv with h1 _ _
 subst h1
 obtain ⟨b,o,e,g1,g2,hc⟩:=h3 i y hx
 exact ⟨b,o,e,g1,g2,by simpa using hc 0 _ rfl,hc 1 _ rfl,hc 2 _ rfl,hc 3 _ rfl⟩
end Go.Proofs.YtloeghbhoflabaaGreat
