/- Parts of the proof, joined into one text: Queue, TwR, TwdI, TwnH. -/
import Derived.Test.YthnapjodmndlaaaOnlzALIKEGPF
import Derived.Test.YthnapjodmndlaaaOnlzAFGOAFAH
import Derived.WideKeyEntry
import Derived.Test.YthnapjodmndlaaaOnlzDPOMHOLA
import Derived.Test.YthnapjodmndlaaaOnlzDGFIJDJD
import Derived.Deep.RegionHeld3
import Derived.Deep.LoopGhost
set_option linter.unusedVariables false
set_option linter.unusedSimpArgs false
namespace Go.Proofs.Ythnapjodmndlaaa
open Go.ChangeShapes Go.WideShapes Go.ChangeAt Go.RowKit
def QRow (w:World) (lo:Nat) (e:TypeId) (k:Nat) (v:Value) (n:Nat) (xs:List Value):Prop :=
 xs.length=n * k /\
 ((v=.slice none 0 0/\n=0) ∨
  ∃ g o cap cur,v=.slice (some ⟨g,o,none⟩) n cap/\lo<=g/\w.heap[g]?=some (.cells cur e (0,0))/\n<=cap/\cap<=maxLen/\o+cap * k<=cur.size/\(cur.toList.drop o).take (n * k)=xs)
section
variable {w w':World} {lo k n:Nat} {e:TypeId} {v:Value} {xs:List Value}
theorem QRow.of_own (h:w.ownsRow lo e k v n xs):QRow w lo e k v n xs:=by
 obtain ⟨hl,hs⟩:=h
 refine ⟨hl,?_⟩
 rcases hs with hs | ⟨g,cap,cur,hv,hg,hh,hnc,hm,hsz,htk⟩
 · exact .inl hs
 · exact .inr ⟨g,0,cap,cur,hv,hg,hh,hnc,hm,by omega,by simpa using htk⟩
theorem QRow.lt (h:QRow w lo e k v n xs):∀ g,v.ownBlock=some g->lo<=g/\g < w.heap.size:=by
 intro g hg
 rcases h.2 with ⟨rfl,_⟩ | ⟨g',o,cap,cur,rfl,hl,hh,_⟩
 · cases hg
 · have:g'=g:=by simpa [Value.ownBlock] using hg
   subst this
   refine ⟨hl,?_⟩
   rcases Nat.lt_or_ge g' w.heap.size with hlt | hge
   · exact hlt
   · rw [Array.getElem?_eq_none hge] at hh;cases hh
theorem QRow.shape (h:QRow w lo e k v n xs):∃ A c,v=.slice A n c/\n<=c/\c<=maxLen:=by
 rcases h.2 with ⟨rfl,rfl⟩ | ⟨g,o,cap,cur,rfl,_,_,h1,h2,_⟩
 · exact ⟨_,_,rfl,Nat.le_refl _,by unfold maxLen;omega⟩
 · exact ⟨_,_,rfl,h1,h2⟩
theorem QRow.block (h:QRow w lo e k v n xs) (hb:∀ g,v.ownBlock=some g->w'.heap[g]?=w.heap[g]?):QRow w' lo e k v n xs:=by
 obtain ⟨hl,hs⟩:=h
 refine ⟨hl,?_⟩
 rcases hs with hs | ⟨g,o,cap,cur,rfl,hg,hh,r⟩
 · exact .inl hs
 · exact .inr ⟨g,o,cap,cur,rfl,hg,(hb g rfl).trans hh,r⟩
theorem QRow.below (h:QRow w lo e k v n xs) {B:Nat} (hb:Below B w w') (hB:w.heap.size<=B):QRow w' lo e k v n xs :=
 h.block fun g hg=>hb.block g (by have:=(h.lt g hg).2;omega)
theorem QRow.only (h:QRow w lo e k v n xs) {l r:Nat} (hb:Only l r w w') (ho:∀ g,v.ownBlock=some g->g < l ∨ r<=g):QRow w' lo e k v n xs :=
 h.block fun g hg=>hb.block g (h.lt g hg).2 (ho g hg)
theorem QRow.alloc (h:QRow w lo e k v n xs) (o:Obj):QRow (w.alloc o) lo e k v n xs :=
 h.block fun g hg=>Below.heap_alloc w o g (h.lt g hg).2
theorem QRow.cell (h:QRow w lo e k v n xs) (hn:0 < n):∃ g o c,v=.slice (some ⟨g,o,none⟩) n c/\lo<=g/\g < w.heap.size/\∀ j u,xs[j]?=some u->w.cell? ⟨g,o+j,none⟩=some u:=by
 have hlt:=h.lt
 obtain ⟨hl,hs⟩:=h
 rcases hs with ⟨_,h0⟩ | ⟨g,o,cap,cur,rfl,hg,hh,hnc,hm,hsz,htk⟩
 · omega
 · refine ⟨g,o,cap,rfl,hg,(hlt g rfl).2,fun j u hu=>?_⟩
   rw [cell_of_row w g (o+j) cur e (0,0) hh]
   have hj:j < n * k:=by rw [<- hl];exact (List.getElem?_eq_some_iff.1 hu).1
   rw [<- htk,List.getElem?_take,if_pos hj,List.getElem?_drop] at hu
   simpa using hu
/-- v[1:] -/
theorem QRow.tail (h:QRow w lo e k v (n+1) xs) {A:Option Addr} {c:Nat} (hv:v=.slice A (n+1) c):QRow w lo e k (.slice (if c=1 then A else A.map (·.add k)) n (c - 1)) n (xs.drop k):=by
 obtain ⟨hl,hs⟩:=h
 refine ⟨by rw [List.length_drop,hl,Nat.succ_mul];omega,?_⟩
 rcases hs with ⟨_,h0⟩ | ⟨g,o,cap,cur,rfl,hg,hh,hnc,hm,hsz,htk⟩
 · omega
 · injection hv with h1 _ h3
   subst h1 h3
   by_cases hc:cap=1
   · rw [if_pos hc]
     have hn0:n=0:=by omega
     subst hn0
     refine .inr ⟨g,o,_,cur,rfl,hg,hh,by omega,by omega,by subst hc;simp only [Nat.sub_self,Nat.zero_mul];omega,?_⟩
     have:xs.drop k=[]:=by rw [List.drop_eq_nil_iff,hl];omega
     rw [this];simp
   · rw [if_neg hc]
     refine .inr ⟨g,o+k,cap - 1,cur,?_,hg,hh,by omega,by omega,?_,?_⟩
     · simp only [Option.map_some,Addr.add]
       split
       · rename_i h0;subst h0;rfl
       · rfl
     · have:cap=(cap - 1)+1:=by omega
       rw [this,Nat.succ_mul] at hsz
       omega
     · rw [<- htk,List.drop_take,List.drop_drop,Nat.succ_mul]
       congr 1
       omega
end
section
variable {P:Program} (w:World)
theorem run_append_roomQ (t ty e:TypeId) (i:TypeInfo) (ht:P.underlying t=some (.slice e)) (hi:P.info? e=some i)
 (g o sLen sCap:Nat) (cur:Array Value) (hg:w.heap[g]?=some (.cells cur e (0,0)))
 (a:Addr) (m c:Nat) (news:List Value) (hl:news.length=m * i.size) (hnews:∀ j u,news[j]?=some u->w.cell? (a.add j)=some u) (h1:∀ u ∈ news,u.oneCell'=true)
 (hroom:sLen+m<=sCap) (hfit:o+sLen * i.size+news.length<=cur.size) :
 (Builtin.append_ #[t,t] ty #[.slice (some ⟨g,o,none⟩) sLen sCap,.slice (some a) m c]).run P w =
  .ok (.slice (some ⟨g,o,none⟩) (sLen+m) sCap) (w.setRow g (cur.toList.take (o+sLen * i.size) ++ news ++ cur.toList.drop (o+sLen * i.size+news.length)).toArray):=by
 have hf:=run_firstCells_some (P:=P) w i.size m a m c news hl hnews
 have hst:=run_storeCells_at P g (o+sLen * i.size) e news 0 cur w hg (by simpa using hfit) h1
 simp only [Nat.add_zero] at hst
 have hadd:(⟨g,o,none⟩:Addr).add (sLen * i.size)=⟨g,o+sLen * i.size,none⟩:=by
  unfold Addr.add
  split
  · rename_i h0;rw [h0];rfl
  · rfl
 simp [Builtin.append_,run_underlying ht,sizeOf,typeInfo,hi,Builtin.lenOf,hroom,hf,hadd,hst]
theorem run_appendQ (base:Nat) (t ty e:TypeId) (i:TypeInfo) (z:Value) (size bytes:Nat) (ht:P.underlying t=some (.slice e)) (hi:P.info? e=some i) (hz:i.zero=some z)
 (hsize:i.size=size) (hby:i.bytes=bytes) (hzs:z.cells.size=size) (hsz:0 < size)
 (v:Value) (n:Nat) (xs:List Value) (hown:QRow w base e size v n xs)
 (a:Addr) (m c:Nat) (news:List Value) (hm0:0 < m) (hl:news.length=m * size) (hnews:∀ j u,news[j]?=some u->w.cell? (a.add j)=some u) (h1:∀ u ∈ news,u.oneCell'=true)
 (h63:n+m<=maxLen) (hbytes:(n+m) * bytes<=140737488355328) (hbase:base<=w.heap.size) :
 ∃ v' w',(Builtin.append_ #[t,t] ty #[v,.slice (some a) m c]).run P w=.ok v' w'/\QRow w' base e size v' (n+m) (xs ++ news)/\w.grownBy w' v.ownBlock/\(v'.ownBlock=v.ownBlock ∨ v'.ownBlock=some w.heap.size):=by
 rcases hown.2 with ⟨rfl,rfl⟩ | ⟨g,o,cap,cur,rfl,hbg,hg,hnc,hcm,hcs,htake⟩
 · have hx:xs=[]:=List.eq_nil_of_length_eq_zero (by simpa using hown.1)
   subst hx
   obtain ⟨v',w',hr,h2,h3,_,h5⟩:=run_append_own_at (P:=P) w base t ty e i z size bytes ht hi hz hsize hby hzs hsz (.slice none 0 0) 0 [] (World.ownsRow_nil w base e size) a m c news hl hnews h1 h63 hbytes hbase
   exact ⟨v',w',hr,QRow.of_own h2,h3,h5⟩
 · subst hsize hby
   have hsmall:n+m<=9223372036854775807:=by simp only [maxLen] at h63;omega
   have hlen:(xs ++ news).length=(n+m) * i.size:=by rw [List.length_append,hown.1,hl,Nat.add_mul]
   by_cases hroom:n+m<=cap
   · have hfit:o+n * i.size+news.length<=cur.size:=by
      rw [hl,Nat.add_assoc,<- Nat.add_mul]
      have:=Nat.mul_le_mul_right i.size hroom
      omega
     have hr:=run_append_roomQ (P:=P) w t ty e i ht hi g o n cap cur hg a m c news hl hnews h1 hroom hfit
     refine ⟨_,_,hr,⟨hlen,.inr ⟨g,o,cap,_,rfl,hbg,setRow_heap w g cur _ e _ hg,hroom,hcm,?_,?_⟩⟩,⟨rfl,rfl,rfl,by simp,fun k _ hk=>setRow_other w g k _ (fun e=>hk (by simp [Value.ownBlock,e]))⟩,.inl rfl⟩
     · simp only [List.size_toArray,List.length_append,List.length_take,List.length_drop,Array.length_toList]
       omega
     · have h2:(cur.toList.take (o+n * i.size)).drop o=xs:=by rw [List.drop_take,Nat.add_sub_cancel_left];exact htake
       have hle:o<=(cur.toList.take (o+n * i.size)).length:=by rw [List.length_take,Array.length_toList];omega
       rw [List.append_assoc,List.drop_append_of_le_length hle,h2,<- List.append_assoc,<- hlen]
       exact List.take_left
   · have holds:∀ j u,xs[j]?=some u->w.cell? ((⟨g,o,none⟩:Addr).add j)=some u:=by
      intro j u hu
      have hj:j < n * i.size:=by rw [<- hown.1];exact (List.getElem?_eq_some_iff.1 hu).1
      have hadd:(⟨g,o,none⟩:Addr).add j=⟨g,o+j,none⟩:=by
       unfold Addr.add
       split
       · rename_i h0;subst h0;rfl
       · rfl
      rw [hadd,cell_of_row w g (o+j) cur e (0,0) hg]
      rw [<- htake,List.getElem?_take,if_pos hj,List.getElem?_drop] at hu
      simpa using hu
     have hr:=run_append_grow (P:=P) w t ty e i z ht hi hz ⟨g,o,none⟩ n cap xs hown.1 holds a m c news hl hnews (by omega) (by omega) (growslice_fits (by omega) hbytes)
     have hge:=grownCap_ge w (n+m) cap e
     have hcm2:grownCap w (n+m) cap e<=maxLen:=grownCap_le_maxLen w (n+m) cap e h63
     refine ⟨_,_,hr,⟨hlen,.inr ⟨w.heap.size,0,_,_,rfl,hbase,heap_alloc_new w.drew _,hge,hcm2,?_,?_⟩⟩,⟨rfl,rfl,rfl,by simp,fun k hk _=>Below.heap_alloc w.drew _ k hk⟩,.inr rfl⟩
     · simp only [Array.size_append,List.size_toArray,size_zeroCells,hzs,hown.1,hl,<- Nat.add_mul,Nat.zero_add]
       apply Nat.le_of_eq
       congr 1
       omega
     · rw [List.drop_zero,Array.toList_append,Array.toList_append,<- hlen]
       exact List.take_left
/-- append(q, x): the one element was laid in a block of its own first -/
theorem wpList_appendQ1 {w:World} {α:Type} (E:α->List Value) {ops:Array Oper} {rest:List Oper} {o:Oper} {a:Act} {Q:Exit->Act->World->Prop} {t e:TypeId} {z:Value} {k bytes:Nat} (el:ElemOk P t e z k bytes)
 (hgd:o.guard=none) (s y:Operand) (ho:o.op=.call { callee:=.builtin .append,args:=#[s,y],argTypes:=#[t,t] })
 (base:Nat) (v:Value) (xs:List α) (x:α) (cs:Array Value) (c H:Nat) (hs:a.eval s=v) (hown:QRow w base e k v xs.length (xs.flatMap E)) (hy:a.eval y=.slice (some ⟨H,0,none⟩) 1 c) (hH:H=w.heap.size)
 (hcs:cs=(E x).toArray) (hE:(E x).length=k) (h1:∀ u ∈ E x,u.oneCell'=true) (hbytes:(xs.length+1) * bytes<=140737488355328) (hb0:0 < bytes) (hbase:base<=w.heap.size)
 (h:∀ v' w',QRow w' base e k v' (xs ++ [x]).length ((xs ++ [x]).flatMap E)->Below base w w'->(v'.ownBlock=v.ownBlock ∨ ∃ g,v'.ownBlock=some g/\w.heap.size<=g)->(w.alloc (.cells cs e)).grownBy w' v.ownBlock->wpList P ops Q rest (a.put o.dst v') w') :
 wpList P ops Q (o :: rest) a (w.alloc (.cells cs e)):=by
 subst hcs hH
 obtain ⟨i,hi,hz0,hz1,hz2⟩:=info_parts el.info
 have hlen:xs.length+1<=140737488355328:=Nat.le_trans (Nat.le_mul_of_pos_right _ hb0) hbytes
 obtain ⟨v',w',hr,h2,h3,h5⟩:=run_appendQ (P:=P) (w.alloc (.cells (E x).toArray e)) base t o.type e i z k bytes el.und hi hz0 hz1 hz2 el.zc el.pos v xs.length (xs.flatMap E) (hown.alloc _) ⟨w.heap.size,0,none⟩ 1 c (E x) (by omega) (by rw [hE,Nat.one_mul])
  (fun j u hu=>by
   have hadd:(⟨w.heap.size,0,none⟩:Addr).add j=⟨w.heap.size,j,none⟩:=by unfold Addr.add;split <;> simp_all
   rw [hadd,World.cell?_alloc_new]
   simpa using hu) h1 (by unfold maxLen;omega) hbytes (by simp;omega)
 refine wpList_plain hgd fun K hK=>?_
 unfold Oper.wp execOp
 simp only [ho,resolve,invoke,builtin,Sem.run_bind,Sem.run_pure,Result.andThen_ok,List.map_toArray,List.map_cons,List.map_nil,hs,hy,hr]
 refine hK _ _ (h v' w' (by simpa using h2) ((((Below.refl base w).alloc hbase _)).trans ((Below.refl _ _).grown h3 (by simp;omega) (fun g hg=>(hown.lt g hg).1))) ?_ h3)
 rcases h5 with h5 | h5
 · exact .inl h5
 · exact .inr ⟨_,h5,by simp⟩
end
end Go.Proofs.Ythnapjodmndlaaa
namespace Go.Proofs.Ythnapjodmndlaaa
open Go.ChangeShapes Go.WideShapes Go.ChangeAt Go.RowKit Go.Maps Go.ChangeMaps
set_option maxRecDepth 100000 in
theorem lawTwin:WideMaps.KeyLaw Try.prog 56:=deep_law_laid laidOutT (m:=5) (by decide) (of_decide_eq_true rowTwin) typeTwin wideTwin
/-- the entry of a key, then the store into it: as the store -/
theorem TwMap.entry {w:World} {b n:Nat} {f:Twn->Option Value} (h:TwMap w b n f) {T e:TypeId} (hT:Try.prog.underlying T=some (.map 56 e)) (hn:n < maxLen) {t:Twn} (ht:twLow t) {z:Value} (hz:∀ u:World,(zeroValue e).run Try.prog u=.ok z u) {zd:DataW Unit} (hzd:encS z=some (zd,[])) :
 ∃ (st:Nat) (w1:World),(Instr.mapEntry T (.map (some b)) (twV t)).run Try.prog w=.ok (.tuple #[(f t).getD z,goInt st]) w1/\w.grownBy w1 (some b)/\w1.heap.size=w.heap.size /\
   ∀ (w2:World) (v:Value) (d:DataW Unit),w2.heap[b]?=w1.heap[b]?->encS v=some (d,[])->∃ w3,(Instr.entryStore T (.map (some b)) (goInt st) v).run Try.prog w2=.ok () w3/\TwMap w3 b (n+1) (updT f t v)/\w2.grownBy w3 (some b):=by
 have hlook:=h.look hT (hz w) hzd ht
 have hput:=fun (v:Value) (d:DataW Unit) (hv:encS v=some (d,[]))=>h.put hT hn ht hv
 obtain ⟨D,⟨es,clock,hb,F,hs,hD⟩,-⟩:=h
 obtain ⟨v0,st,es1,clock1,hrun,hval,hst⟩:=WideElems.entry_then_store lawTwin hT hz hb F (keyTwin ht)
 have hv0:v0=(f t).getD z:=by
  rcases Maps.fit_look false keyedTwin hT (hz w) hb F (keyTwin ht) with ⟨hr,hno,-⟩ | ⟨e1,y,hm,hk,hr,-⟩
  · rw [hlook] at hr
    have hr:(f t).getD z=z:=by injection hr
    rcases hval with ⟨e0,he0,hk0,rfl⟩ | ⟨-,rfl⟩
    · exact absurd hk0 (hno e0 he0)
    · exact hr.symm
  · rw [hlook] at hr
    have hr:(f t).getD z=e1.val:=by injection hr
    rcases hval with ⟨e0,he0,hk0,rfl⟩ | ⟨hno,-⟩
    · rw [hr]
      obtain ⟨i,hi,hie⟩:=List.getElem_of_mem he0
      obtain ⟨j,hj,hje⟩:=List.getElem_of_mem hm
      have hn:=F.stamped.2.2
      have h2:(es.toList.map (·.key))[i]'(by rw [List.length_map];exact hi)=(es.toList.map (·.key))[j]'(by rw [List.length_map];exact hj):=by rw [List.getElem_map,List.getElem_map,hie,hje,hk0,hk]
      have h3:=(List.getElem_inj hn).1 h2
      subst h3
      rw [<- hie,<- hje]
    · exact absurd hk (hno e1 hm)
 refine ⟨st,setBlock w b (.map es1 clock1),by rw [hrun,hv0],⟨rfl,rfl,rfl,by simp [setBlock],fun i _ hi=>heap_setBlock_other hb _ (fun e=>hi (by rw [e]))⟩,by simp [setBlock],fun w2 v d hw2 hv=>?_⟩
 rw [heap_setBlock_same hb] at hw2
 obtain ⟨es',clock',hr2,hr3⟩:=hst w2 v hw2
 obtain ⟨w',hr4,h5,-⟩:=hput v d hv
 rw [hr3] at hr4
 have hw':w'=setBlock w b (.map es' clock'):=(Result.ok.inj hr4).2.symm
 subst hw'
 exact ⟨_,hr2,h5.block (by rw [heap_setBlock_same hw2,heap_setBlock_same hb]),⟨rfl,rfl,rfl,by simp [setBlock],fun i _ hi=>heap_setBlock_other hw2 _ (fun e=>hi (by rw [e]))⟩⟩
abbrev nilT:Value:=.slice none 0 0
def seenT (A:List Twn):Twn->Option Value:=fun t=>if A.contains t=true then some (.bool true) else none
theorem seenT_snoc (A:List Twn) (t:Twn):updT (seenT A) t (.bool true)=seenT (A ++ [t]):=by
 funext u
 rw [updT,seenT,seenT]
 by_cases h:u=t
 · subst h
   rw [if_pos rfl,if_pos (List.contains_iff_mem.2 (List.mem_append_right _ (List.mem_singleton.2 rfl)))]
 · rw [if_neg h]
   by_cases h2:u ∈ A
   · rw [if_pos (List.contains_iff_mem.2 h2),if_pos (List.contains_iff_mem.2 (List.mem_append_left _ h2))]
   · rw [if_neg (fun e=>h2 (List.contains_iff_mem.1 e)),if_neg (fun e=>by exact (List.mem_append.1 (List.contains_iff_mem.1 e)).elim h2 fun h3=>h (List.mem_singleton.1 h3))]
structure TwR (lo:Nat) (w0 wr:World) (va:Value) (bs bb m:Nat) (A:List Twn) (F:Twn->Option Value) (B:Twn->List Twn):Prop where
 all:wr.ownsRow lo 56 3 va A.length (A.flatMap cTw)
 seen:TwMap wr bs m (seenT A)
 bef:TwMap wr bb m F
 rows:∀ t,wr.ownsRow lo 56 3 ((F t).getD nilT) (B t).length ((B t).flatMap cTw)
 apF:∀ t u b,t ≠ u->((F t).getD nilT).ownBlock=some b->((F u).getD nilT).ownBlock ≠ some b
 apA:∀ t b,((F t).getD nilT).ownBlock=some b->va.ownBlock ≠ some b
 lb:lo<=bs/\lo<=bb
 ne:bs ≠ bb
 bl:∀ t,(B t).length<=m
 bel:Below lo w0 wr
section
variable {lo:Nat} {w0 wr w3 w4 w5:World} {va va' v':Value} {bs bb m:Nat} {A:List Twn} {F:Twn->Option Value} {B:Twn->List Twn} {t u:Twn}
theorem TwR.mono (h:TwR lo w0 wr va bs bb m A F B) {m':Nat} (hm:m<=m'):TwR lo w0 wr va bs bb m' A F B :=
 ⟨h.all,h.seen.mono hm,h.bef.mono hm,h.rows,h.apF,h.apA,h.lb,h.ne,fun t=>Nat.le_trans (h.bl t) hm,h.bel⟩
theorem TwR.below (h:TwR lo w0 wr va bs bb m A F B) (hs:lo<=w0.heap.size) (hb:Below wr.heap.size wr w4):TwR lo w0 w4 va bs bb m A F B :=
 ⟨ownsRow_below h.all hb (Nat.le_refl _),h.seen.below hb,h.bef.below hb,fun t=>ownsRow_below (h.rows t) hb (Nat.le_refl _),h.apF,h.apA,h.lb,h.ne,h.bl,h.bel.trans (hb.mono (Nat.le_trans hs h.bel.size))⟩
/-- a row grew, and the map was told of it -/
theorem TwR.put (h:TwR lo w0 wr va bs bb m A F B) (hsz:wr.heap.size<=w3.heap.size) (hfr:∀ k,k < wr.heap.size->k ≠ bb->((F t).getD nilT).ownBlock ≠ some k->w3.heap[k]?=wr.heap[k]?) (hos:w3.os=wr.os/\w3.tape=wr.tape/\w3.output=wr.output) (hs:lo<=w0.heap.size)
 (hm:TwMap w3 bb (m+1) (updT F t v')) (hrow:w3.ownsRow lo 56 3 v' (B t ++ [u]).length ((B t ++ [u]).flatMap cTw)) (hat:v'.ownBlock=((F t).getD nilT).ownBlock ∨ ∃ b,v'.ownBlock=some b/\wr.heap.size<=b) :
 TwR lo w0 w3 va bs bb (m+1) A (updT F t v') (putB B t u):=by
 have hlt:∀ x b,((F x).getD nilT).ownBlock=some b->lo<=b/\b < wr.heap.size:=fun x b hb=>(h.rows x).lt b hb
 have hla:∀ b,va.ownBlock=some b->lo<=b/\b < wr.heap.size:=fun b hb=>h.all.lt b hb
 have hnb:∀ x b,((F x).getD nilT).ownBlock=some b->b ≠ bb:=fun x b hb e=>h.bef.notRow (h.rows x) (e ▸ hb)
 have hnA:∀ b,va.ownBlock=some b->b ≠ bb:=fun b hb e=>h.bef.notRow h.all (e ▸ hb)
 have hF:∀ x,x ≠ t->(updT F t v' x).getD nilT=(F x).getD nilT:=fun x hx=>by rw [updT,if_neg hx]
 have hFt:(updT F t v' t).getD nilT=v':=by rw [updT,if_pos rfl];rfl
 refine ⟨?_,?_,hm,fun x=>?_,fun x y b hxy hb=>?_,fun x b hb=>?_,h.lb,h.ne,fun x=>?_,?_⟩
 · exact ownsRow_block h.all fun b hb=>hfr b (hla b hb).2 (hnA b hb) (fun e=>h.apA t b e hb)
 · refine (h.seen.mono (Nat.le_succ m)).block (hfr bs h.seen.lt h.ne (fun e=>h.seen.notRow (h.rows t) e))
 · by_cases hx:x=t
   · subst hx
     rw [hFt,putB,if_pos rfl]
     exact hrow
   · rw [hF x hx,putB,if_neg hx]
     exact ownsRow_block (h.rows x) fun b hb=>hfr b (hlt x b hb).2 (hnb x b hb) (fun e=>h.apF t x b (Ne.symm hx) e hb)
 · by_cases hx:x=t
   · subst hx
     rw [hFt] at hb
     rw [hF y (Ne.symm hxy)]
     intro hy
     rcases hat with e | ⟨c,e,hge⟩
     · exact h.apF x y b hxy (by rw [<- e];exact hb) hy
     · rw [e] at hb
       cases hb
       have:=(hlt y b hy).2
       omega
   · rw [hF x hx] at hb
     by_cases hy:y=t
     · subst hy
       rw [hFt]
       intro hy
       rcases hat with e | ⟨c,e,hge⟩
       · exact h.apF x y b hxy hb (by rw [<- e];exact hy)
       · rw [e] at hy
         cases hy
         have:=(hlt x b hb).2
         omega
     · rw [hF y hy]
       exact h.apF x y b hxy hb
 · by_cases hx:x=t
   · subst hx
     rw [hFt] at hb
     intro hA
     rcases hat with e | ⟨c,e,hge⟩
     · exact h.apA x b (by rw [<- e];exact hb) hA
     · rw [e] at hb
       cases hb
       have:=(hla b hA).2
       omega
   · rw [hF x hx] at hb
     exact h.apA x b hb
 · rw [putB]
   split
   · have:=h.bl x
     rw [List.length_append,List.length_singleton]
     omega
   · exact Nat.le_succ_of_le (h.bl x)
 · refine h.bel.trans ⟨hos.1,hos.2.1,hos.2.2,hsz,fun k hk=>hfr k ?_ ?_ ?_⟩
   · have:=h.bel.size;omega
   · have:=h.lb.2;omega
   · intro e
     have:=(hlt t k e).1
     omega
/-- a new pair: the set was told of it, and the list grew -/
theorem TwR.add (h:TwR lo w0 wr va bs bb m A F B) (hs:lo<=w0.heap.size) (h4:TwMap w4 bs (m+1) (updT (seenT A) t (.bool true))) (hg4:wr.grownBy w4 (some bs)) {o:Obj}
 (hrow:w5.ownsRow lo 56 3 va' (A ++ [t]).length ((A ++ [t]).flatMap cTw)) (hg:(w4.alloc o).grownBy w5 va.ownBlock) (hat:va'.ownBlock=va.ownBlock ∨ ∃ b,va'.ownBlock=some b/\w4.heap.size<=b) :
 TwR lo w0 w5 va' bs bb (m+1) (A ++ [t]) F B:=by
 have hlt:∀ x b,((F x).getD nilT).ownBlock=some b->lo<=b/\b < wr.heap.size:=fun x b hb=>(h.rows x).lt b hb
 have hla:∀ b,va.ownBlock=some b->lo<=b/\b < wr.heap.size:=fun b hb=>h.all.lt b hb
 have hs4:=hg4.size
 have hfr:∀ k,k < wr.heap.size->k ≠ bs->va.ownBlock ≠ some k->w5.heap[k]?=wr.heap[k]?:=fun k hk h1 h2=>by
  rw [hg.block k (by simp;omega) (fun e=>h2 e.symm),Below.heap_alloc _ _ _ (by omega),hg4.block k hk (fun e=>h1 (by injection e))]
 have hsz:w4.heap.size<=w5.heap.size:=by have:=hg.size;simp at this;omega
 refine ⟨hrow,?_,?_,fun x=>?_,h.apF,fun x b hb hA=>?_,h.lb,h.ne,fun x=>Nat.le_succ_of_le (h.bl x),?_⟩
 · rw [<- seenT_snoc]
   exact h4.block (by rw [hg.block bs (by have:=h4.lt;simp;omega) (fun e=>h.seen.notRow h.all e.symm),Below.heap_alloc _ _ _ h4.lt])
 · exact (h.bef.mono (Nat.le_succ m)).block (hfr bb h.bef.lt (Ne.symm h.ne) (fun e=>h.bef.notRow h.all e))
 · exact ownsRow_block (h.rows x) fun b hb=>hfr b (hlt x b hb).2 (fun e=>h.seen.notRow (h.rows x) (e ▸ hb)) (h.apA x b hb)
 · rcases hat with e | ⟨c,e,hge⟩
   · exact h.apA x b hb (by rw [<- e];exact hA)
   · rw [e] at hA
     cases hA
     have:=(hlt x b hb).2
     omega
 · refine h.bel.trans ⟨hg.os.trans hg4.os,hg.tape.trans hg4.tape,hg.output.trans hg4.output,by omega,fun k hk=>hfr k ?_ ?_ ?_⟩
   · have:=h.bel.size;omega
   · have:=h.lb.1;omega
   · intro e
     have:=(hla k e).1
     omega
end
/-- a list that stands apart and is read -/
structure AwR (lo3 hi3:Nat) (wr:World) (va:Value) (F:Twn->Option Value) (bs bb:Nat) (vN:Value) (NX:List Twn):Prop where
 a:∀ b,va.ownBlock=some b->b < lo3 ∨ hi3<=b
 f:∀ t b,((F t).getD nilT).ownBlock=some b->b < lo3 ∨ hi3<=b
 sl:SlI lo3 hi3 wr cTw 3 vN NX
 le:hi3<=wr.heap.size
 ms:bs < lo3
 mb:bb < lo3
section
variable {lo3 hi3:Nat} {wr w3 w4 w5:World} {va va' v' vN:Value} {bs bb:Nat} {F:Twn->Option Value} {NX:List Twn} {t:Twn}
theorem AwR.below (h:AwR lo3 hi3 wr va F bs bb vN NX) (hb:Below wr.heap.size wr w4):AwR lo3 hi3 w4 va F bs bb vN NX :=
 ⟨h.a,h.f,h.sl.below hb h.le,Nat.le_trans h.le hb.size,h.ms,h.mb⟩
theorem AwR.put (h:AwR lo3 hi3 wr va F bs bb vN NX) (hsz:wr.heap.size<=w3.heap.size) (hfr:∀ k,k < wr.heap.size->k ≠ bb->((F t).getD nilT).ownBlock ≠ some k->w3.heap[k]?=wr.heap[k]?) (hat:v'.ownBlock=((F t).getD nilT).ownBlock ∨ ∃ b,v'.ownBlock=some b/\wr.heap.size<=b) :
 AwR lo3 hi3 w3 va (updT F t v') bs bb vN NX:=by
 have hmb:=h.mb
 have hle:=h.le
 refine ⟨h.a,fun x b hb=>?_,h.sl.keep_ fun b o h1 h2=>World.cell?_of_block (w:=wr) (a:=⟨b,o,none⟩) (hfr b (by omega) (by omega) (fun e=>by have:=h.f t b e;omega)),Nat.le_trans h.le hsz,h.ms,h.mb⟩
 by_cases hx:x=t
 · subst hx
   rw [updT,if_pos rfl,Option.getD_some] at hb
   rcases hat with e | ⟨c,e,hge⟩
   · exact h.f x b (by rw [<- e];exact hb)
   · rw [e] at hb
     cases hb
     exact .inr (by omega)
 · rw [updT,if_neg hx] at hb
   exact h.f x b hb
theorem AwR.add (h:AwR lo3 hi3 wr va F bs bb vN NX) (hg4:wr.grownBy w4 (some bs)) {o:Obj} (hg:(w4.alloc o).grownBy w5 va.ownBlock) (hat:va'.ownBlock=va.ownBlock ∨ ∃ b,va'.ownBlock=some b/\w4.heap.size<=b):AwR lo3 hi3 w5 va' F bs bb vN NX:=by
 have hms:=h.ms
 have hle:=h.le
 have hs4:=hg4.size
 have hs5:w4.heap.size<=w5.heap.size:=by have:=hg.size;simp at this;omega
 refine ⟨fun b hb=>?_,h.f,h.sl.keep_ fun b o h1 h2=>World.cell?_of_block (w:=wr) (a:=⟨b,o,none⟩) ?_,by omega,h.ms,h.mb⟩
 · rcases hat with e | ⟨c,e,hge⟩
   · exact h.a b (by rw [<- e];exact hb)
   · rw [e] at hb
     cases hb
     exact .inr (by omega)
 · show w5.heap[b]?=wr.heap[b]?
   rw [hg.block b (by simp;omega) (fun e=>by have:=h.a b e.symm;omega),Below.heap_alloc _ _ _ (by omega),hg4.block b (by omega) (fun e=>by injection e;omega)]
end
/-- the map's block and one row have turned, nothing else -/
structure FrT (bb:Nat) (row:Option Nat) (X Y:World):Prop where
 os:Y.os=X.os/\Y.tape=X.tape/\Y.output=X.output
 size:X.heap.size<=Y.heap.size
 block:∀ k,k < X.heap.size->k ≠ bb->row ≠ some k->Y.heap[k]?=X.heap[k]?
section
variable {bb:Nat} {row:Option Nat} {X Y Y':World}
theorem FrT.refl (bb:Nat) (row:Option Nat) (X:World):FrT bb row X X:=⟨⟨rfl,rfl,rfl⟩,Nat.le_refl _,fun _ _ _ _=>rfl⟩
theorem FrT.drew (h:FrT bb row X Y):FrT bb row X Y.drew:=⟨h.os,h.size,h.block⟩
theorem FrT.alloc (h:FrT bb row X Y) (o:Obj):FrT bb row X (Y.alloc o):=⟨h.os,by have:=h.size;simp;omega,fun k hk h1 h2=>(Below.heap_alloc _ _ _ (by have:=h.size;omega)).trans (h.block k hk h1 h2)⟩
theorem FrT.ent (h:FrT bb row X Y) (hg:Y.grownBy Y' (some bb)):FrT bb row X Y' :=
 ⟨⟨hg.os.trans h.os.1,hg.tape.trans h.os.2.1,hg.output.trans h.os.2.2⟩,Nat.le_trans h.size hg.size,fun k hk h1 h2=>(hg.block k (by have:=h.size;omega) (fun e=>h1 (by injection e))).trans (h.block k hk h1 h2)⟩
theorem FrT.own (h:FrT bb row X Y) (hg:Y.grownBy Y' row):FrT bb row X Y' :=
 ⟨⟨hg.os.trans h.os.1,hg.tape.trans h.os.2.1,hg.output.trans h.os.2.2⟩,Nat.le_trans h.size hg.size,fun k hk h1 h2=>(hg.block k (by have:=h.size;omega) (fun e=>h2 e.symm)).trans (h.block k hk h1 h2)⟩
theorem FrT.blk (h:FrT bb row X Y) {g:Nat} {t:TypeId} {cs:Array Value} (hz:Blk X g t cs) (h1:g ≠ bb) (h2:row ≠ some g):Blk Y g t cs:=(h.block g hz.lt h1 h2).trans hz
end
theorem QRow.notMap {w:World} {lo k n:Nat} {e:TypeId} {v:Value} {xs:List Value} (h:QRow w lo e k v n xs) {b m:Nat} {f:Twn->Option Value} (hm:TwMap w b m f):v.ownBlock ≠ some b:=by
 obtain ⟨es,clock,h1⟩:=hm.isMap
 rcases h.2 with ⟨rfl,-⟩ | ⟨g,o,cap,cur,rfl,-,hh,-⟩
 · simp [Value.ownBlock]
 · intro e1
   have e1:some g=some b:=by simpa [Value.ownBlock] using e1
   cases e1
   rw [h1] at hh
   cases hh
end Go.Proofs.Ythnapjodmndlaaa
namespace Go.Proofs.Ythnapjodmndlaaa
open Go.ChangeShapes Go.WideShapes Go.ChangeAt Go.RowKit Go.Maps Go.ChangeMaps
attribute [local go_sem] ext_cell ext_frozen ext_lt ext_lt1 ext_lt2 ext_lt3 ltn2 ltn3 ltn13 lts1 lts2 lts3
theorem SlI.tw {lo hi:Nat} {w:World} {A:Option Addr} {n c:Nat} {xs:List Twn} (h:SlI lo hi w cTw 3 (.slice A n c) xs) {i:Nat} {x:Twn} (hx:xs[i]?=some x) :
 ∃ b o,A=some ⟨b,o,none⟩/\lo<=b/\b < hi/\w.cell? ⟨b,o+i * 3,none⟩=some (.int .i64 (x.1:Int))/\w.cell? ⟨b,o+i * 3+1,none⟩=some (.int .i64 (x.2.1:Int))/\w.cell? ⟨b,o+i * 3+2,none⟩=some (.bool x.2.2):=by
 obtain ⟨A',c',hv,-,-,h⟩:=h
 cases hv
 obtain ⟨b,o,hA,h1,h2,hc⟩:=h i x hx
 exact ⟨b,o,hA,h1,h2,hc 0 _ rfl,hc 1 _ rfl,hc 2 _ rfl⟩
def TwS (lo:Nat) (w0 wr:World) (va:Value) (bs bb:Nat) (p:Pz) (k n:Nat) (cur:List Twn) (F:Twn->Option Value) (B:Twn->List Twn):Prop :=
 TwR lo w0 wr va bs bb (1+2 * (k * 3969+n * 441+cur.length)) (listT p k n cur) F B/\BefOk p k n cur B
section
variable {lo:Nat} {w0 wr w4:World} {va:Value} {bs bb:Nat} {p:Pz} {k n:Nat} {cur:List Twn} {F:Twn->Option Value} {B:Twn->List Twn}
theorem TwS.below (h:TwS lo w0 wr va bs bb p k n cur F B) (hs:lo<=w0.heap.size) (hb:Below wr.heap.size wr w4):TwS lo w0 w4 va bs bb p k n cur F B:=⟨h.1.below hs hb,h.2⟩
theorem TwS.pair (h:TwS lo w0 wr va bs bb p k 9 [] F B) (hk:k < (allT p k).length) (h9:k<=882):TwS lo w0 wr va bs bb p (k+1) 0 [] F B:=by
 have h1:=h.1
 rw [listT_nine hk h9] at h1
 exact ⟨h1.mono (by simp;omega),h.2.pair⟩
theorem TwS.letter (h:TwS lo w0 wr va bs bb p k n (twnX p n (twnA p k)) F B):TwS lo w0 wr va bs bb p k (n+1) [] F B:=by
 have h1:=h.1
 rw [listT_next] at h1
 have:=twnX_len p n (twnA p k)
 exact ⟨h1.mono (by simp;omega),h.2.letter⟩
end
theorem TwS.start {w w0 w1:World} {p:Pz} {o:Obj} (hsz:w0.heap.size=w.heap.size+1) (hm:TwMap w1 (w.heap.size+1+1) 1 (updT (fun _=>none) (0,0,false) (.bool true)))
 (hg:((w0.alloc (.cells #[.int .i64 0,.int .i64 0,.bool false] 56)).alloc o).grownBy w1 (some (w.heap.size+1+1))) :
 TwS (w.heap.size+1) w0 (w1.alloc (.map #[] 0)) (.slice (some ⟨w.heap.size+1,0,none⟩) 1 1) (w.heap.size+1+1) w1.heap.size p 0 0 [] (fun _=>none) (fun _=>[]):=by
 have hs1:=hg.size
 simp only [World.size_alloc] at hs1
 have h:=World.ownsRow_lit (base:=w.heap.size+1) (e:=56) (size:=3) w0 #[.int .i64 0,.int .i64 0,.bool false] 1 (by omega) (by decide) rfl
 rw [hsz] at h
 have h2:=(h.alloc o)
 have h3:=ownsRow_block h2 (w':=w1) fun b hb=>by
  have hb:some (w.heap.size+1)=some b:=hb
  cases hb
  exact hg.block _ (by simp;omega) (fun e=>by injection e;omega)
 have hbl:Below (w.heap.size+1) w0 ((w0.alloc (.cells #[.int .i64 0,.int .i64 0,.bool false] 56)).alloc o):=((Below.refl _ _).alloc (by omega) _).alloc (by simp;omega) _
 refine ⟨⟨h3.alloc _,?_,(TwMap.made w1).mono (by omega),fun t=>World.ownsRow_nil _ _ _ _,?_,?_,⟨by omega,by omega⟩,by omega,fun t=>by simp,?_⟩,BefOk.start p⟩
 · have h4:seenT [(0,0,false)]=updT (fun _=>none) (0,0,false) (.bool true):=by
    have h5:=seenT_snoc [] (0,0,false)
    rw [List.nil_append] at h5
    rw [<- h5]
    rfl
   rw [listT_zero,allT,h4]
   exact hm.alloc _
 · intro t u b _ hb
   simp [Value.ownBlock] at hb
 · intro t b hb
   simp [Value.ownBlock] at hb
 · exact (hbl.grown hg (by simp;omega) (fun b hb=>by injection hb;omega)).alloc (by omega) _
/-- the distances and the queue -/
structure TwD (p:Pz) (w1 wr:World) (vq:Value) (bd m:Nat) (D:List Int) (Q:List Twn):Prop where
 dist:TwMap wr bd m (fun t=>(dV p D t).map (Value.int .i64))
 que:QRow wr w1.heap.size 56 3 vq Q.length (Q.flatMap cTw)
 bel:Below w1.heap.size w1 wr
 lb:w1.heap.size<=bd
section
variable {p:Pz} {w1 wr w4 w5:World} {vq vq':Value} {bd m:Nat} {D:List Int} {Q:List Twn} {t:Twn}
theorem TwD.below (h:TwD p w1 wr vq bd m D Q) (hb:Below wr.heap.size wr w4):TwD p w1 w4 vq bd m D Q :=
 ⟨h.dist.below hb,h.que.below hb (Nat.le_refl _),h.bel.trans (hb.mono h.bel.size),h.lb⟩
theorem TwD.mono (h:TwD p w1 wr vq bd m D Q) {m':Nat} (hm:m<=m'):TwD p w1 wr vq bd m' D Q:=⟨h.dist.mono hm,h.que,h.bel,h.lb⟩
theorem TwD.set_ (ht:t ∈ endT p) (hl:D.length=(endT p).length) {d:Int} (hd:0<=d):updT (fun t=>(dV p D t).map (Value.int .i64)) t (.int .i64 d)=fun t'=>(dV p (D.set (idxT p t) d) t').map (Value.int .i64):=by
 funext u
 rw [updT,dV_set ht hl hd]
 split <;> rfl
theorem TwD.add (h:TwD p w1 wr vq bd m D Q) (ht:t ∈ endT p) (hl:D.length=(endT p).length) {d:Int} (hd:0<=d) (h4:TwMap w4 bd (m+1) (updT (fun t=>(dV p D t).map (Value.int .i64)) t (.int .i64 d))) (hg4:wr.grownBy w4 (some bd)) {o:Obj}
 (hrow:QRow w5 w1.heap.size 56 3 vq' (Q ++ [t]).length ((Q ++ [t]).flatMap cTw)) (hg:(w4.alloc o).grownBy w5 vq.ownBlock):TwD p w1 w5 vq' bd (m+1) (D.set (idxT p t) d) (Q ++ [t]):=by
 have hs:=h.bel.size
 have hs4:=hg4.size
 refine ⟨?_,hrow,?_,h.lb⟩
 · rw [<- TwD.set_ ht hl hd]
   exact h4.block (by rw [hg.block bd (by have:=h4.lt;simp;omega) (fun e=>h.que.notMap h.dist e.symm),Below.heap_alloc _ _ _ h4.lt])
 · exact ((h.bel.grown hg4 hs (fun b hb=>by injection hb with hb;rw [<- hb];exact h.lb)).alloc (by omega) o).grown hg (by simp;omega) (fun b hb=>(h.que.lt b hb).1)
theorem TwD.queue (h:TwD p w1 wr vq bd m D Q) (hg4:wr.grownBy w4 (some bd)):QRow w4 w1.heap.size 56 3 vq Q.length (Q.flatMap cTw) :=
 h.que.block fun b hb=>hg4.block b (h.que.lt b hb).2 (fun e=>h.que.notMap h.dist (by rw [hb,<- e]))
end
/-- the numbers when the first i pairs are looked at -/
def iniD (p:Pz) (i:Nat):List Int:=((List.range (endT p).length).map fun j=>if j < i/\twnG p (twnA p j)=true then 0 else -1)
theorem iniD_len (p:Pz) (i:Nat):(iniD p i).length=(endT p).length:=by simp [iniD]
theorem iniD_at {p:Pz} {i j:Nat} (h:j < (endT p).length):(iniD p i).getD j 0=if j < i/\twnG p (twnA p j)=true then 0 else -1:=by
 rw [iniD,List.getD_eq_getElem?_getD,List.getElem?_map,List.getElem?_range h]
 rfl
theorem iniD_ext {p:Pz} {D:List Int} {i:Nat} (hl:D.length=(endT p).length) (h:∀ j,j < (endT p).length->D.getD j 0=if j < i/\twnG p (twnA p j)=true then 0 else -1):D=iniD p i:=by
 apply List.ext_getElem?
 intro j
 rcases Nat.lt_or_ge j (endT p).length with hj | hj
 · rw [getD_of (by omega),getD_of (by rw [iniD_len];exact hj),h j hj,iniD_at hj]
 · rw [List.getElem?_eq_none (by omega),List.getElem?_eq_none (by rw [iniD_len];exact hj)]
theorem iniD_zero (p:Pz) (t:Twn):dV p (iniD p 0) t=none:=by
 by_cases h:t ∈ endT p
 · refine dV_none ?_
   rw [iniD_at (idxT_lt h),if_neg (by omega)]
   decide
 · rw [dV,if_neg (fun e=>h (List.contains_iff_mem.1 e.1))]
theorem iniD_no {p:Pz} {i:Nat} (h:twnG p (twnA p i)=false):iniD p (i+1)=iniD p i:=by
 refine (iniD_ext (iniD_len p _) fun j hj=>?_)
 rw [iniD_at hj]
 by_cases hji:j=i
 · subst hji
   rw [if_neg (by rw [h];simp),if_neg (by omega)]
 · by_cases hlt:j < i
   · simp [hlt,show j < i+1 by omega]
   · rw [if_neg (by omega),if_neg (by omega)]
theorem iniD_yes {p:Pz} {i:Nat} (hi:i < (endT p).length) (h:twnG p (twnA p i)=true):(iniD p i).set (idxT p (twnA p i)) 0=iniD p (i+1):=by
 rw [idx_twnA hi]
 refine (iniD_ext (by rw [List.length_set,iniD_len]) fun j hj=>?_)
 rw [getD_set (by rw [iniD_len];exact hi)]
 by_cases hji:i=j
 · subst hji
   rw [if_pos rfl,if_pos ⟨by omega,h⟩]
 · rw [if_neg hji,iniD_at hj]
   by_cases hlt:j < i
   · simp [hlt,show j < i+1 by omega]
   · rw [if_neg (by omega),if_neg (by omega)]
def iniQ (p:Pz) (i:Nat):List Twn:=((endT p).take i).filter (twnG p)
theorem iniQ_succ {p:Pz} {i:Nat} (hi:i < (endT p).length):iniQ p (i+1)=iniQ p i ++ (if twnG p (twnA p i)=true then [twnA p i] else []):=by
 have e1:(endT p)[i]?=some (twnA p i):=by rw [twnA,List.getD_eq_getElem?_getD,List.getElem?_eq_getElem hi];rfl
 rw [iniQ,iniQ,List.take_add_one,e1,List.filter_append]
 show _ ++ List.filter (twnG p) [twnA p i]=_
 rw [List.filter_cons]
 rfl
theorem iniQ_len (p:Pz) (i:Nat):(iniQ p i).length<=i:=by
 have h1:=List.length_filter_le (twnG p) ((endT p).take i)
 rw [List.length_take] at h1
 rw [iniQ]
 omega
theorem ini_bo (p:Pz) (prev:Nat->List Nat):BO prev (nextE (prsT p)) (goalT p) (endT p).length (iniD p (endT p).length) ((iniQ p (endT p).length).map (idxT p)):=by
 refine BO.begin (iniD_len _ _) (fun i hi=>?_) (fun x=>?_)
 · rw [iniD_at hi]
   cases hg:twnG p (twnA p i) with
   | true=>exact .inl ⟨hg,if_pos ⟨hi,rfl⟩⟩
   | false=>exact .inr ⟨fun h=>(by rw [goalT,hg] at h;cases h),if_neg (fun h=>by cases h.2)⟩
 · rw [iniQ,List.take_length,List.mem_map]
   constructor
   · rintro ⟨t,ht,rfl⟩
     obtain ⟨h1,h2⟩:=List.mem_filter.1 ht
     exact ⟨idxT_lt h1,by rw [goalT,twnA_idx h1];exact h2⟩
   · rintro ⟨h1,h2⟩
     exact ⟨twnA p x,List.mem_filter.2 ⟨twnA_mem h1,h2⟩,idx_twnA h1⟩
set_option maxRecDepth 100000 in
set_option maxHeartbeats 8000000 in
theorem implTwinD (v:Value) (p:Pz) (w:World) (hv:PzV 0 w.heap.size w v p) (hok:pzOk p=true) :
 Calls Try.prog 29 #[v] w fun e w'=>∃ (bd m:Nat) (f:Twn->Option Value),e=.returned (.map (some bd))/\w.heap.size<=bd/\TwMap w' bd m f/\(∀ t,f t=if (endT p).contains t=true/\0<=dT p (idxT p t) then some (.int .i64 (dT p (idxT p t))) else none)/\(∀ j,j < (endT p).length->dT p j<=2000)/\Below w.heap.size w w':=by
 have HV:=Hd_ hv
 have HOK:=Hd_ hok
 have h20:=(pz_facts hok).1
 have H20:=Hd_ h20
 obtain ⟨vq,vf,rfl,h1,h2⟩:=hv
 obtain ⟨A,n1,c,rfl⟩:=h1.shape
 obtain ⟨B0,n2,c2,rfl⟩:=h2.shape
 obtain ⟨W0,hW0⟩:∃ W0,W0=w.alloc (.cells #[.slice A n1 c,.int .i64 p.first,.int .i64 p.last,.slice B0 n2 c2,.bool p.nul] 27):=⟨_,rfl⟩
 have hbp:Blk W0 w.heap.size 27 #[.slice A n1 c,.int .i64 p.first,.int .i64 p.last,.slice B0 n2 c2,.bool p.nul]:=by rw [hW0];exact Blk.new _ _ _ _ rfl
 have hb0:Below w.heap.size w W0:=by rw [hW0];exact (Below.refl _ _).alloc (Nat.le_refl _) _
 have hsz:W0.heap.size=w.heap.size+1:=by rw [hW0];simp
 have HBP:=Hd_ hbp
 have HB0:=Hd_ hb0
 clear h1 h2 hok hbp hb0 h20
 go_enter Try.func29,Try.ntmps29
 have hmm:=@run_makeMap Try.prog
 have hX:(W0.alloc (.cells #[.int .i64 0,.int .i64 0,.bool false] 56)).heap.size=w.heap.size+1+1:=by simp [hsz]
 have hmade:=TwMap.made (W0.alloc (.cells #[.int .i64 0,.int .i64 0,.bool false] 56))
 rw [hX] at hmade
 obtain ⟨w1,hins,hm1,hg1⟩:=hmade.put Try.underlying58 (by unfold maxLen;omega) (t:=(0,0,false)) ⟨by decide,by decide⟩ (v:=.bool true) rfl
 have hins:(Instr.mapUpdate 58 (.map (some (w.heap.size+1+1))) (.agg #[.int .i64 0,.int .i64 0,.bool false]) (.bool true)).run Try.prog ((W0.alloc (.cells #[.int .i64 0,.int .i64 0,.bool false] 56)).alloc (.map #[] 0))=.ok () w1:=hins
 have hst:=TwS.start (p:=p) hsz hm1 hg1
 have HST:=Hd_ hst
 have hbs1:=hg1.size
 have hlt1:=hm1.lt
 clear hm1 hg1 hmade hX hst hbs1
 go_upto_region 2 with fail
 rw [<- hW0]
 clear hW0
 go_wp2_with fail
 clear hins
 obtain ⟨bb,hbb⟩:∃ bb,bb=w1.heap.size:=⟨_,rfl⟩
 rw [<- hbb] at HST ⊢
 have hbw:w.heap.size+1+1 < bb:=by omega
 clear hlt1 hbb
 have hs0:w.heap.size+1<=W0.heap.size:=by omega
 go_loopw [3,6,7,9] (fun aa ii _ _ wr=>∃ (k:Nat) (F:Twn->Option Value) (B:Twn->List Twn),k<=(allT p k).length/\ii=.int .i64 (k:Int)/\TwS (w.heap.size+1) W0 wr aa (w.heap.size+1+1) bb p k 0 [] F B) (fun _ ii _ _ _=>882 - (intOf ii).toNat)
 case atStart=>exact ⟨0,_,_,Nat.zero_le _,rfl,HST.out⟩
 case round =>
  clear HST
  obtain ⟨k,F,B,hk,rfl,hps⟩:=hrel
  obtain ⟨wo,rfl⟩:∃ wo:World,wo=wr:=⟨_,rfl⟩
  have HPS:=Hd_ hps
  have h882:=allT_len (p:=p) H20.out k
  have hLpos:(allT p k).length ≠ 0:=by
   have h1:=(List.getElem?_eq_some_iff.1 (listT_start (p:=p) (k:=k) (n:=0) (cur:=[]))).1
   rw [listT_zero] at h1
   omega
  obtain ⟨M,hM⟩:∃ M,M=(allT p k).length:=⟨_,rfl⟩
  rw [<- hM] at hk h882 hLpos
  have hls:=hps.1.all
  rw [listT_zero,<- hM] at hls
  obtain ⟨gl,cl,rfl,-⟩:=own_some hls hLpos
  have HM:=Hd_ hM
  clear hps hls hLpos hM
  by_cases hlt:k < M
  · go_wp2_with fail
    have HKL:=Hd_ (show k < (allT p k).length by rw [<- HM.out];exact hlt)
    have hk8:k < 882:=by omega
    clear hlt
    go_loopw [3,7,9] (fun aa nn _ wr=>∃ (n:Nat) (F:Twn->Option Value) (B:Twn->List Twn),n<=9/\nn=.int .i64 (n:Int)/\TwS (w.heap.size+1) W0 wr aa (w.heap.size+1+1) bb p k n [] F B) (fun _ nn _ _=>9 - (intOf nn).toNat)
    case atStart=>exact ⟨0,F,B,by omega,rfl,HPS.out⟩
    case round =>
     clear HPS
     obtain ⟨n,F,B,hn,rfl,hps⟩:=hrel
     obtain ⟨wm,rfl⟩:∃ wm:World,wm=wr:=⟨_,rfl⟩
     have HPS:=Hd_ hps
     by_cases hn9:n < 9
     · have hbl:=hps.1.bel
       have hbb:=HB0.out.trans (hbl.mono (show w.heap.size<=w.heap.size+1 by omega))
       have hbp:Blk wm w.heap.size 27 #[.slice A n1 c,.int .i64 p.first,.int .i64 p.last,.slice B0 n2 c2,.bool p.nul]:=(hbl.block w.heap.size (by omega)).trans HBP.out
       have hat:=listT_low (p:=p) (k:=k) (n:=n) (cur:=[]) HKL.out (by omega)
       have hkm:=(List.getElem?_eq_some_iff.1 hat).1
       obtain ⟨ML,hML⟩:∃ ML,ML=(listT p k n []).length:=⟨_,rfl⟩
       have hls:=hps.1.all
       rw [<- hML] at hls hkm
       obtain ⟨gm,cm,rfl,hgm,hgmw,-,-⟩:=own_some hls (by omega)
       obtain ⟨b1,o1,e1,-,-,d0,d1,d2⟩:=((Own.of_row hps.1.all rfl rfl).sl cTw_len).tw hat
       cases e1
       have hki:(k:Int) < (ML:Int):=by omega
       rw [Nat.zero_add] at d0 d1 d2
       obtain ⟨⟨ta,tb,td⟩,ht⟩:∃ t,t=twnA p k:=⟨_,rfl⟩
       rw [<- ht] at d0 d1 d2
       have HT:=Hd_ ht
       obtain ⟨hta,htb⟩:ta<=20/\tb<=20:=by
        have:=allT_low (p:=p) H20.out (List.mem_of_getElem? (endT_all (p:=p) (k:=k) HKL.out (by omega)))
        rw [<- ht] at this
        exact this
       simp only at d0 d1 d2
       have hnn:(n:Int) < 9:=by omega
       have x0:wm.cell? ⟨w.heap.size,0,none⟩=some (.slice A n1 c):=by exact hbp.cell 0
       have x1:wm.cell? ⟨w.heap.size,1,none⟩=some (.int .i64 p.first):=by exact hbp.cell 1
       have x2:wm.cell? ⟨w.heap.size,2,none⟩=some (.int .i64 p.last):=by exact hbp.cell 2
       have x3:wm.cell? ⟨w.heap.size,3,none⟩=some (.slice B0 n2 c2):=by exact hbp.cell 3
       have x4:wm.cell? ⟨w.heap.size,4,none⟩=some (.bool p.nul):=by exact hbp.cell 4
       have hl0:=hbp.lt
       have HBB:=Hd_ hbb.drew
       have HTX:=Hd_ (show twnX p n (twnA p k)=twnX p n (ta,tb,td) by rw [HT.out])
       have hlb:=hps.1.lb
       have hbsl:=hps.1.seen.lt
       have hbbl:=hps.1.bef.lt
       clear hbl hat hbb hps hls ht hML hbp
       go_upto_region 10 with fail
       go_region_held3 (fun w'=>w'.cell? ⟨w.heap.size,0,none⟩=some (.slice A n1 c)/\w'.cell? ⟨w.heap.size,1,none⟩=some (.int .i64 p.first)/\w'.cell? ⟨w.heap.size,2,none⟩=some (.int .i64 p.last)/\w'.cell? ⟨w.heap.size,3,none⟩=some (.slice B0 n2 c2)/\w'.cell? ⟨w.heap.size,4,none⟩=some (.bool p.nul)/\w'.cell? ⟨gm,k * 3,none⟩=some (.int .i64 (ta:Int))/\w'.cell? ⟨gm,k * 3+1,none⟩=some (.int .i64 (tb:Int))/\w'.cell? ⟨gm,k * 3+2,none⟩=some (.bool td))
        (first | (exact ⟨x0,x1,x2,x3,x4,d0,d1,d2⟩) | assumption | (exact kB8 hbA (by assumption)))
        (first | (go_at_call 30;refine (twinNext ta tb td _ p n _ (HV.out.keep HBB.out) HOK.out hta htb).mono ?_;rintro e wA ⟨vN,rfl,hoN,hbA⟩;rw [<- HTX.out] at hoN;obtain ⟨AN,cN,rfl,hlN,hmN,-⟩:=hoN.sl cTw_len))
       obtain ⟨NX,hNX⟩:∃ NX,NX=twnX p n (twnA p k):=⟨_,rfl⟩
       rw [<- hNX] at hoN hlN ⊢
       have hbM:Below wm.heap.size wm wA:=((Below.refl wm.heap.size wm).drew).trans hbA
       have HTS:=Hd_ (HPS.out.below hs0 hbM)
       have haw:AwR wm.heap.size wA.heap.size wA (.slice (some ⟨gm,0,none⟩) ML cm) F (w.heap.size+1+1) bb (.slice AN NX.length cN) NX :=
        ⟨fun b hb=>.inl (HPS.out.1.all.lt b hb).2,fun t b hb=>.inl ((HPS.out.1.rows t).lt b hb).2,hoN.sl cTw_len,Nat.le_refl _,hbsl,hbbl⟩
       have HAW:=Hd_ haw
       have hNl:NX.length<=441:=by rw [hNX];exact twnX_len _ _ _
       have HNX:=Hd_ hNX
       unfold maxLen at hmN
       obtain ⟨lo3,hlo3⟩:∃ l,l=wm.heap.size:=⟨_,rfl⟩
       obtain ⟨hi3,hhi3⟩:∃ l,l=wA.heap.size:=⟨_,rfl⟩
       rw [<- hlo3,<- hhi3] at HAW
       clear haw hbM hoN hbA hNX HPS HBB hlo3 hhi3 d0 d1 d2 x0 x1 x2 x3 x4 hgm hgmw hkm hki hbsl hbbl hl0 HTX
       go_wp2_with fail
       go_loopw [3,9,42] (fun aa _ ii wr=>∃ (i:Nat) (F:Twn->Option Value) (B:Twn->List Twn),i<=NX.length/\ii=.int .i64 (i:Int)/\TwS (w.heap.size+1) W0 wr aa (w.heap.size+1+1) bb p k n (NX.take i) F B/\AwR lo3 hi3 wr aa F (w.heap.size+1+1) bb (.slice AN NX.length cN) NX) (fun _ _ ii _=>NX.length - (intOf ii).toNat)
       case atStart=>exact ⟨0,F,B,Nat.zero_le _,rfl,HTS.out,HAW.out⟩
       case round =>
        clear HTS HAW
        obtain ⟨i,F,B,hi,rfl,hts,haw⟩:=hrel
        by_cases hlt:i < NX.length
        · have hat:NX[i]?=some (NX[i]'hlt):=List.getElem?_eq_getElem hlt
          obtain ⟨⟨ia,ib,id⟩,hx⟩:∃ x,x=NX[i]'hlt:=⟨_,rfl⟩
          rw [<- hx] at hat
          obtain ⟨⟨hia1,hia2⟩,⟨hib1,hib2⟩,-⟩:=twnX_in (x:=(ia,ib,id)) (by rw [<- HNX.out];exact List.mem_of_getElem? hat) H20.out
          simp only at hia1 hia2 hib1 hib2
          have HTK:=Hd_ (show NX.take (i+1)=NX.take i ++ [(ia,ib,id)] by rw [List.take_add_one,hat];rfl)
          have HEX:=Hd_ (show (ia,ib,id) ∈ twnX p n (twnA p k) by rw [<- HNX.out];exact List.mem_of_getElem? hat)
          obtain ⟨bn,on,en,hbn1,hbn2,q0,q1,q2⟩:=haw.sl.tw hat
          simp only at q0 q1 q2
          subst en
          have hwl:=haw.le
          have hii:(i:Int) < (NX.length:Int):=by omega
          have hbnw:bn < wr.heap.size:=by omega
          have HTS:=Hd_ hts
          have HAW:=Hd_ haw
          clear hx hat haw
          obtain ⟨cur,hcur⟩:∃ cur,cur=NX.take i:=⟨_,rfl⟩
          have hcl:cur.length<=441:=by rw [hcur,List.length_take];omega
          rw [<- hcur] at hts HTS HTK
          have hlow:=listT_low (p:=p) (k:=k) (n:=n) (cur:=cur) HKL.out (by omega)
          have hkL:=(List.getElem?_eq_some_iff.1 hlow).1
          obtain ⟨g2,q2,rfl,hg2,hg2w,-,-⟩:=own_some hts.1.all (by omega)
          obtain ⟨L,hL⟩:∃ L,L=listT p k n cur:=⟨_,rfl⟩
          rw [<- hL] at hlow hkL
          have HL:=Hd_ hL
          have hki:(k:Int) < (L.length:Int):=by omega
          rw [<- hL] at hts HTS HAW ⊢
          have HCU:=Hd_ hcur
          clear hts hcur hL
          go_upto_region 13 with fail
          obtain ⟨X0,hX0⟩:∃ X,X=wr.alloc (.cells #[.int .i64 (ia:Int),.int .i64 (ib:Int),.bool id] 56):=⟨_,rfl⟩
          obtain ⟨zb,hzb⟩:∃ z,z=wr.heap.size:=⟨_,rfl⟩
          have hbz:Blk X0 zb 56 #[.int .i64 (ia:Int),.int .i64 (ib:Int),.bool id]:=by rw [hX0];exact Blk.new _ _ _ _ hzb
          have hbX:Below wr.heap.size wr X0:=by rw [hX0];exact (Below.refl _ _).alloc (Nat.le_refl _) _
          rw [<- hX0,<- hzb]
          rw [<- hzb] at hg2w
          have HTX:=Hd_ (HTS.out.below hs0 hbX)
          have HAX:=Hd_ (HAW.out.below hbX)
          have hxs:=hbz.lt
          obtain ⟨b1,o1,e1,-,-,d0,d1,d2⟩:=((Own.of_row HTX.out.1.all rfl rfl).sl cTw_len).tw (x:=twnA p k) (by rw [<- HL.out];exact hlow)
          cases e1
          rw [Nat.zero_add,<- HT.out] at d0 d1 d2
          simp only at d0 d1 d2
          have hbbz:bb < zb:=by have:=HTS.out.1.bef.lt;omega
          have hgbb:¬ g2=bb:=fun e=>HTS.out.1.bef.notRow HTS.out.1.all (by rw [e];rfl)
          have hbbg:¬ bb=g2:=fun e=>hgbb e.symm
          obtain ⟨v0,hv0⟩:∃ v0,v0=(F (ia,ib,id)).getD nilT:=⟨_,rfl⟩
          have hvz:∀ b,v0.ownBlock=some b->b < zb:=fun b hb=>by rw [hv0] at hb;have:=((HTS.out.1.rows _).lt b hb).2;omega
          have hvg:v0.ownBlock ≠ some g2:=fun hb=>by rw [hv0] at hb;exact HTS.out.1.apA _ g2 hb rfl
          have hvb:v0.ownBlock ≠ some bb:=fun hb=>by rw [hv0] at hb;exact HTS.out.1.bef.notRow (HTS.out.1.rows _) hb
          have HV0:=Hd_ hv0
          have HROW:=Hd_ (HTX.out.1.rows (ia,ib,id))
          rw [<- hv0] at HROW
          have HVZ:=Hd_ hvz
          have HVG:=Hd_ hvg
          have HVB:=Hd_ hvb
          have HBZ:=Hd_ hbz
          have HBF:=Hd_ HTX.out.1.bef
          have hml:1+2 * (k * 3969+n * 441+cur.length) < maxLen:=by unfold maxLen;omega
          have HBL:=Hd_ (show (B (ia,ib,id)).length<=8000000 by have:=HTX.out.1.bl (ia,ib,id);omega)
          obtain ⟨m,hm⟩:∃ m,m=1+2 * (k * 3969+n * 441+cur.length):=⟨_,rfl⟩
          rw [<- hm] at hml HBF
          have HM2:=Hd_ hm
          have hlow2:twLow (ia,ib,id):=⟨hia2,hib2⟩
          have HLO:=Hd_ hlow2
          have HBX:=Hd_ hbX
          have hv0':=hv0
          have HENT:=Hd_ (fun (W:World) (hW:W.heap[bb]?=X0.heap[bb]?)=>(HBF.out.block hW).entry Try.underlying71 hml HLO.out (z:=nilT) (fun u=>Try.zeroValue57 u) rfl)
          rw [<- hv0] at HENT
          clear hv0 hv0' hvz hvg hvb hbX hlow hm hlow2 hX0 hzb
          have z0:X0.cell? ⟨zb,0,none⟩=some (.int .i64 (ia:Int)):=by exact hbz.cell 0
          have z1:X0.cell? ⟨zb,1,none⟩=some (.int .i64 (ib:Int)):=by exact hbz.cell 1
          have z2:X0.cell? ⟨zb,2,none⟩=some (.bool id):=by exact hbz.cell 2
          clear hbz
          go_cut [9] (fun s9 wx=>s9=.pointer (some ⟨zb,0,none⟩)/\∃ v',FrT bb v0.ownBlock X0 wx/\TwMap wx bb (m+1) (updT F (ia,ib,id) v')/\wx.ownsRow (w.heap.size+1) 56 3 v' (B (ia,ib,id) ++ [(ta,tb,td)]).length ((B (ia,ib,id) ++ [(ta,tb,td)]).flatMap cTw)/\(v'.ownBlock=v0.ownBlock ∨ ∃ b,v'.ownBlock=some b/\X0.heap.size<=b))
          case first =>
           have nz:some zb ≠ some bb:=fun e=>by injection e;omega
           have ng:some g2 ≠ some bb:=fun e=>by injection e;omega
           have nvz:some zb ≠ v0.ownBlock:=fun e=>by have:=HVZ.out zb e.symm;omega
           have nvg:some g2 ≠ v0.ownBlock:=fun e=>HVG.out e.symm
           have hbbx:bb < X0.heap.size:=by omega
           have hlX:w.heap.size+1<=X0.heap.size:=by omega
           have NZ:=Hd_ nz
           have NG:=Hd_ ng
           have NVZ:=Hd_ nvz
           have NVG:=Hd_ nvg
           clear nz ng nvz nvg
           have HROD:=Hd_ (show X0.drew.ownsRow (w.heap.size+1) 56 3 v0 (B (ia,ib,id)).length ((B (ia,ib,id)).flatMap cTw) from HROW.out)
           have hby:((B (ia,ib,id)).length+1) * 24<=140737488355328:=by have:=HBL.out;omega
           refine F_start 11 (fun w'=>w'.cell? ⟨zb,0,none⟩=some (.int .i64 (ia:Int))/\w'.cell? ⟨zb,1,none⟩=some (.int .i64 (ib:Int))/\w'.cell? ⟨zb,2,none⟩=some (.bool id)/\w'.cell? ⟨g2,k * 3,none⟩=some (.int .i64 (ta:Int))/\w'.cell? ⟨g2,k * 3+1,none⟩=some (.int .i64 (tb:Int))/\w'.cell? ⟨g2,k * 3+2,none⟩=some (.bool td)) (by kernel_rfl) (by exact ⟨z0,z1,z2,d0,d1,d2⟩) (fun hS inv=>?_)
           refine F_tk 0 inv ?_
           try simp only [tA,tB,tC,Act.put,tE,tF,tG]
           clear inv;intro inv
           refine F_tk 1 inv ?_
           try simp only [tA,tB,tC,Act.put,tE,tF,tG]
           clear inv;intro inv
           refine F_tk 2 inv ?_
           try simp only [tA,tB,tC,Act.put,tE,tF,tG]
           clear inv;intro inv
           refine F_tk 3 inv ?_
           try simp only [tA,tB,tC,Act.put,tE,tF,tG]
           clear inv;intro inv
           refine F_tk 4 inv ?_
           try simp only [tA,tB,tC,Act.put,tE,tF,tG]
           clear inv;intro inv
           refine F_tk 5 inv ?_
           try simp only [tA,tB,tC,Act.put,tE,tF,tG]
           clear inv;intro inv
           have hS0:=hS
           refine F_o1 6 inv ?_;intro K hK
           try simp only [tA,tB,tC]
           go_simp
           refine hK.out _ _ (kA6 _ hS) (fun _ _=>?_)
           try simp only [tA,tB,tC,Act.put,tE,tF,tG]
           clear hK K inv hS;rename_i hS inv
           have hfr1:=((FrT.refl bb v0.ownBlock X0).drew).alloc (.cells #[.int .i64 (ta:Int),.int .i64 (tb:Int),.bool td] 56)
           have hlit:=heap_alloc_new X0.drew (.cells #[.int .i64 (ta:Int),.int .i64 (tb:Int),.bool td] 56)
           obtain ⟨st,Y1,hent,hg1,hsz1,hcont⟩:=HENT.out (X0.drew.alloc (.cells #[.int .i64 (ta:Int),.int .i64 (tb:Int),.bool td] 56)) (Below.heap_alloc _ _ _ hbbx)
           have hent:(Instr.mapEntry 71 (.map (some bb)) (.agg #[.int .i64 (ia:Int),.int .i64 (ib:Int),.bool id])).run Try.prog (X0.alloc (.cells #[.int .i64 (ta:Int),.int .i64 (tb:Int),.bool td] 56)).drew=.ok (.tuple #[v0,.int .i64 (st:Int)]) Y1:=hent
           have HFR:=Hd_ (hfr1.ent hg1)
           have HRY:=Hd_ (ownsRow_block (HROD.out.alloc _) fun b hb=>hg1.block b (by have:=HVZ.out b hb;simp;omega) (fun e=>HVB.out (by rw [hb,<- e])))
           have HLIT:=Hd_ ((hg1.block X0.drew.heap.size (by simp) (fun e=>by injection e with e;have h:X0.heap.size=bb:=e;omega)).trans hlit)
           have HG1:=Hd_ hg1
           have HCO:=Hd_ hcont
           have hbase:w.heap.size+1<=Y1.heap.size:=by rw [hsz1];simp;omega
           obtain ⟨Z,hZ⟩:∃ Z,Z=Y1:=⟨_,rfl⟩
           have HZ:=Hd_ (show Z.heap[bb]?=Y1.heap[bb]? by rw [hZ])
           have hbbZ:bb < Z.heap.size:=by rw [hZ,hsz1];simp;omega
           rw [<- hZ] at HFR HRY HLIT hbase
           have HZY:=Hd_ hZ
           clear hfr1 hlit hg1 hcont hsz1
           refine F_o1 7 inv ?_;intro K hK
           try simp only [tA,tB,tC]
           go_simp
           refine hK.out _ _ (kG6 HG1.out NZ.out NZ.out NZ.out NG.out NG.out NG.out hS) (fun _ _=>?_)
           try simp only [tA,tB,tC,Act.put,tE,tF,tG]
           clear hK K inv hS;rename_i hS inv
           clear hent
           refine F_tk 8 inv ?_
           try simp only [tA,tB,tC,Act.put,tE,tF,tG]
           clear inv;intro inv
           refine F_tk 10 inv ?_
           try simp only [tA,tB,tC,Act.put,tE,tF,tG]
           clear inv;intro inv
           rw [<- HZY.out] at hS ⊢
           refine F_o1 9 inv ?_;intro K hK
           try simp only [tA,tB,tC]
           refine op_append1 cTw elTw rfl _ _ rfl (w.heap.size+1) v0 (B (ia,ib,id)) (ta,tb,td) 1 _ (by rfl) HRY.out (by rfl) HLIT.out rfl (cTw_one _) hby (by decide) hbase ?_
           intro g cap Z2 hrowZ hgrZ hatZ hlZ
           obtain ⟨w3,hes,hm3,hg3⟩:=HCO.out Z2 (.slice (some ⟨g,0,none⟩) ((B (ia,ib,id)).length+1) cap) _ ((hgrZ.block bb hbbZ (fun e=>HVB.out e.symm)).trans HZ.out) rfl
           have hes:(Instr.entryStore 71 (.map (some bb)) (.int .i64 (st:Int)) (.slice (some ⟨g,0,none⟩) ((B (ia,ib,id)).length+1) cap)).run Try.prog Z2=.ok () w3:=hes
           have HROZ:=Hd_ hrowZ
           have HATZ:=Hd_ hatZ
           have HFZ:=Hd_ ((HFR.out.own hgrZ).ent hg3)
           have HGZ:=Hd_ hgrZ
           have HG3:=Hd_ hg3
           have HM3:=Hd_ hm3
           clear hrowZ hatZ hgrZ hg3 hm3
           refine hK.out _ _ (kG6 HGZ.out NVZ.out NVZ.out NVZ.out NVG.out NVG.out NVG.out hS) (fun _ _=>?_)
           try simp only [tA,tB,tC,Act.put,tE,tF,tG]
           clear hK K inv hS;rename_i hS inv
           refine F_l1 11 ?_;intro K hK
           go_simp
           refine hK _ _ ?_
           clear hK K inv hS
           go_wp2_with fail
           go_meet
           have hgb:g ≠ bb:=fun e=>by
            rcases HATZ.out with h | h
            · exact HVB.out (by rw [h,e])
            · omega
           refine ⟨rfl,_,HFZ.out,HM3.out,ownsRow_block HROZ.out fun b hb=>HG3.out.block b (HROZ.out.lt b hb).2 (fun e=>?_),?_⟩
           · have h1:some g=some b:=hb
             injection h1 with h1
             injection e with e
             exact hgb (h1.trans e)
           · rcases HATZ.out with h | h
             · exact .inl h.symm
             · exact .inr ⟨g,rfl,Nat.le_trans HFR.out.size h⟩
          case rest =>
           obtain ⟨rfl,v',hfr,hm3,hrow3,hat3⟩:=hcut
           have hput:=HTX.out.1.put (t:=(ia,ib,id)) (u:=(ta,tb,td)) (v':=v') hfr.size (by rw [<- HV0.out];exact hfr.block) hfr.os hs0 (by rw [<- HM2.out];exact hm3) hrow3 (by rw [<- HV0.out];exact hat3)
           have haw:=HAX.out.put (t:=(ia,ib,id)) (v':=v') hfr.size (by rw [<- HV0.out];exact hfr.block) (by rw [<- HV0.out];exact hat3)
           have hbef:=HTX.out.2.put (ia,ib,id)
           rw [<- HT.out] at hbef
           have hbz:=hfr.blk HBZ.out (by omega) (fun e=>by have:=HVZ.out zb e;omega)
           have hsw:=hfr.size
           rw [<- HL.out,<- HM2.out] at hput
           generalize updT F (ia,ib,id) v'=F' at hput haw
           generalize putB B (ia,ib,id) (ta,tb,td)=B' at hput hbef
           have HPU:=Hd_ hput
           have HAW:=Hd_ haw
           have HBE:=Hd_ hbef
           have HBZ:=Hd_ hbz
           clear hput haw hbef hfr hm3 hrow3 hat3 HTX HAX HBF HENT HROW HV0 d0 d1 d2 z0 z1 z2 HTS
           have z0:wc.cell? ⟨zb,0,none⟩=some (.int .i64 (ia:Int)):=by exact hbz.cell 0
           have z1:wc.cell? ⟨zb,1,none⟩=some (.int .i64 (ib:Int)):=by exact hbz.cell 1
           have z2:wc.cell? ⟨zb,2,none⟩=some (.bool id):=by exact hbz.cell 2
           have hzlt:=hbz.lt
           clear hbz
           have HTO:=Hd_ (show NX.take (i+1)=cur ++ [(ia,ib,id)] from HTK.out)
           have HME:=Hd_ (show 1+2 * (k * 3969+n * 441+(cur ++ [(ia,ib,id)]).length)=m+1+1 by rw [HM2.out,List.length_append];simp only [List.length_singleton];omega)
           have HLK:=Hd_ <| HPU.out.seen.look Try.underlying58 (Try.zeroValue4 wc) (rfl:encS (.bool false)=_) (t:=(ia,ib,id)) ⟨hia2,hib2⟩
           by_cases hmem:(ia,ib,id) ∈ L
           · have hlk:(Instr.lookup 58 (.map (some (w.heap.size+1+1))) (.agg #[.int .i64 (ia:Int),.int .i64 (ib:Int),.bool id]) false).run Try.prog wc=.ok (.bool true) wc:=by
              have h:=HLK.out
              rw [seenT,if_pos (List.contains_iff_mem.2 hmem)] at h
              exact h
             have HAD:=Hd_ (addT_has hmem)
             clear hmem
             go_wp2_with fail
             go_roundw
             case rel=>exact ⟨i+1,F',B',by omega,by go_num,by rw [HTO.out];exact ⟨by rw [HME.out,listT_snoc,<- HL.out,HAD.out];exact HPU.out.mono (Nat.le_succ _),HBE.out⟩,HAW.out⟩
             case measure=>simp [intOf];omega
           · have hlk:(Instr.lookup 58 (.map (some (w.heap.size+1+1))) (.agg #[.int .i64 (ia:Int),.int .i64 (ib:Int),.bool id]) false).run Try.prog wc=.ok (.bool false) wc:=by
              have h:=HLK.out
              rw [seenT,if_neg (fun e=>hmem (List.contains_iff_mem.1 e))] at h
              exact h
             have HAD:=Hd_ (addT_new hmem)
             have hmx:m+1 < maxLen:=by have:=HM2.out;unfold maxLen;omega
             have HLl:=Hd_ (show L.length<=882 by
              have h1:=List.IsPrefix.length_le (listT_pre (cur:=cur) (rest:=NX.drop i) HKL.out hk8 hn9 (by rw [<- HNX.out,HCU.out];exact List.take_append_drop i NX))
              rw [<- HL.out] at h1
              have h2:=allT_len (p:=p) H20.out 882
              rw [endT] at h1
              omega)
             clear hmem HLK
             go_upto_region 16 with (at_mapUpdate;(refine wpList_put_tw rfl _ _ _ 58 rfl Try.underlying58 HPU.out.seen hmx (t:=(ia,ib,id)) HLO.out (u:=.bool true) rfl rfl rfl rfl ?_);intro w4 hm4 hg4;have HM4:=Hd_ hm4;have HG4:=Hd_ hg4;clear hm4 hg4)
             have hbz4:Blk w4 zb 56 #[.int .i64 (ia:Int),.int .i64 (ib:Int),.bool id]:=(HG4.out.block zb hzlt (fun e=>by injection e;omega)).trans HBZ.out
             have hs4:=HG4.out.size
             have z0:w4.cell? ⟨zb,0,none⟩=some (.int .i64 (ia:Int)):=by exact hbz4.cell 0
             have z1:w4.cell? ⟨zb,1,none⟩=some (.int .i64 (ib:Int)):=by exact hbz4.cell 1
             have z2:w4.cell? ⟨zb,2,none⟩=some (.bool id):=by exact hbz4.cell 2
             have hzl4:=hbz4.lt
             have HAL:=Hd_ (ownsRow_block HPU.out.all fun b hb=>HG4.out.block b (HPU.out.all.lt b hb).2 (fun e=>HPU.out.seen.notRow HPU.out.all (by rw [hb,<- e])))
             have qb1:(L.length+1) * 24<=140737488355328:=by have:=HLl.out;omega
             have qb2:w.heap.size+1<=w4.heap.size:=by omega
             clear hbz4
             go_wp2_with (at_builtin;(refine wpList_append1 cTw elTw rfl _ _ rfl (w.heap.size+1) _ L (ia,ib,id) _ 1 _ (by rfl) HAL.out (by rfl) rfl rfl rfl (cTw_one _) qb1 (by decide) qb2 ?_);intro v5 w5 hrow5 hb5 hat5 hgr5)
             go_roundw
             case rel=>exact ⟨i+1,F',B',by omega,by go_num,by rw [HTO.out];exact ⟨by rw [HME.out,listT_snoc,<- HL.out,HAD.out];exact (HPU.out.add hs0 HM4.out HG4.out hrow5 hgr5 hat5).mono (Nat.le_refl _),HBE.out⟩,HAW.out.add HG4.out hgr5 hat5⟩
             case measure=>simp [intOf];omega
        · obtain rfl:i=NX.length:=by omega
          go_wp2_with fail
          go_roundw
          case rel=>exact ⟨n+1,F,B,by omega,by go_num,TwS.letter (by have h:=hts;rw [List.take_length] at h;rw [<- HNX.out];exact h)⟩
          case measure=>simp [intOf];omega
     · obtain rfl:n=9:=by omega
       go_wp2_with fail
       go_roundw
       case rel=>exact ⟨k+1,F,B,Nat.le_trans HKL.out (List.IsPrefix.length_le (allT_pre p k)),by go_num,HPS.out.pair HKL.out (by omega)⟩
       case measure=>simp [intOf];omega
  · obtain rfl:k=M:=by omega
    have hEA:=endT_eq (p:=p) (i:=k) (Nat.le_of_eq HM.out.symm) h882
    have hall:=(Own.of_row HPS.out.1.all rfl rfl).sl cTw_len
    rw [listT_zero,<- hEA] at hall
    have HALL:=Hd_ hall
    have HN:=Hd_ (show k=(endT p).length by rw [hEA];exact HM.out)
    have hbef:=HPS.out.2
    rw [HN.out] at hbef
    have HBE:=Hd_ (show BefOk p (endT p).length 0 [] B from hbef)
    have HRW:=Hd_ HPS.out.1.rows
    have HBM:=Hd_ HPS.out.1.bef
    have HBW:=Hd_ (HB0.out.trans (HPS.out.1.bel.mono (show w.heap.size<=w.heap.size+1 by omega)))
    have hws:=HPS.out.1.bel.size
    have HBPo:=Hd_ (show Blk wo w.heap.size 27 #[.slice A n1 c,.int .i64 p.first,.int .i64 p.last,.slice B0 n2 c2,.bool p.nul] from (HPS.out.1.bel.block w.heap.size (by omega)).trans HBP.out)
    have HAC:=Hd_ (fun (s:Nat) (W:World) (b:Bool) (h:Below w.heap.size w W) (hs:s < 2 ^ 21) (hb:b=accP p s)=>show Calls Try.prog 37 #[.agg #[.slice A n1 c,.int .i64 p.first,.int .i64 p.last,.slice B0 n2 c2,.bool p.nul],.int .i64 (s:Int)] W fun e w'=>e=.returned (.bool b)/\Below W.heap.size W w' by rw [hb];exact implAccepts _ p s W (HV.out.keep h) HOK.out hs)
    clear hEA hall hbef HPS hlt hk
    have hX2:(wo.alloc (.map #[] 0)).heap.size=wo.heap.size+1:=by simp
    have hini:TwD p wo ((wo.alloc (.map #[] 0)).alloc (.cells #[] 56)) (.slice (some ⟨wo.heap.size+1,0,none⟩) 0 0) wo.heap.size 0 (iniD p 0) (iniQ p 0):=by
     refine ⟨((TwMap.made wo).ext fun t _=>by rw [iniD_zero];rfl).alloc _,?_,((Below.refl _ _).alloc (Nat.le_refl _) _).alloc (by simp) _,Nat.le_refl _⟩
     have h:=World.ownsRow_lit (base:=wo.heap.size) (e:=56) (size:=3) (wo.alloc (.map #[] 0)) #[] 0 (by simp) (by decide) rfl
     rw [hX2] at h
     exact QRow.of_own h
    have HINI:=Hd_ hini
    have hk0:(0:Nat)<=k:=Nat.zero_le _
    obtain ⟨bd,hbd⟩:∃ bd,bd=wo.heap.size:=⟨_,rfl⟩
    have hgl3:w.heap.size+1<=wo.heap.size:=by omega
    clear hini hX2
    go_wp2_with fail
    rw [<- hbd] at HINI ⊢
    have HBD:=Hd_ hbd
    clear hbd
    go_loopw [11,13,72] (fun qq _ ii wr=>∃ i m:Nat,i<=k/\m<=i/\ii=.int .i64 (i:Int)/\TwD p wo wr qq bd m (iniD p i) (iniQ p i)) (fun _ _ ii _=>k - (intOf ii).toNat)
    case atStart=>exact ⟨0,0,Nat.zero_le _,Nat.le_refl _,rfl,HINI.out⟩
    case round =>
     clear HINI
     obtain ⟨i,m,hi,hmi,rfl,htd⟩:=hrel
     by_cases hlt:i < k
     · have hiN:i < (endT p).length:=by rw [<- HN.out];exact hlt
       have hat:(endT p)[i]?=some (twnA p i):=by rw [twnA,List.getD_eq_getElem?_getD,List.getElem?_eq_getElem hiN];rfl
       have HDN:=Hd_ (iniD_no (p:=p) (i:=i))
       have HDY:=Hd_ (iniD_yes hiN)
       have HQS:=Hd_ (iniQ_succ hiN)
       have HQL:=Hd_ (iniQ_len p i)
       have HMT:=Hd_ (twnA_mem hiN)
       obtain ⟨b1,o1,e1,hb1,hb2,q0,q1,q2⟩:=HALL.out.tw hat
       cases e1
       have hbw:=htd.bel.size
       have q0:=(htd.bel.cell (p:=⟨gl,0+i * 3,none⟩) hb2).trans q0
       have q1:=(htd.bel.cell (p:=⟨gl,0+i * 3+1,none⟩) hb2).trans q1
       have q2:=(htd.bel.cell (p:=⟨gl,0+i * 3+2,none⟩) hb2).trans q2
       obtain ⟨⟨ta,tb,td⟩,ht⟩:∃ t,t=twnA p i:=⟨_,rfl⟩
       rw [<- ht] at q0 q1 q2 HDN HDY HQS HMT
       rw [Nat.zero_add] at q0 q1 q2
       simp only at q0 q1 q2
       obtain ⟨hta,htb⟩:ta<=20/\tb<=20:=by
        have h1:=HMT.out
        rw [endT] at h1
        exact allT_low (i:=882) H20.out h1
       have hii:(i:Int) < (k:Int):=by omega
       have hgw:gl < wr.heap.size:=by omega
       have hbdw:=htd.dist.lt
       have HTD:=Hd_ htd
       clear htd hat ht
       go_upto_region 23 with fail
       obtain ⟨X0,hX0⟩:∃ X,X=wr.alloc (.cells #[.int .i64 (ta:Int),.int .i64 (tb:Int),.bool td] 56):=⟨_,rfl⟩
       obtain ⟨zb,hzb⟩:∃ z,z=wr.heap.size:=⟨_,rfl⟩
       have hbz:Blk X0 zb 56 #[.int .i64 (ta:Int),.int .i64 (tb:Int),.bool td]:=by rw [hX0];exact Blk.new _ _ _ _ hzb
       have hbX:Below wr.heap.size wr X0:=by rw [hX0];exact (Below.refl _ _).alloc (Nat.le_refl _) _
       rw [<- hX0,<- hzb]
       have HTD:=Hd_ (HTD.out.below hbX)
       have hbp:Blk X0 w.heap.size 27 #[.slice A n1 c,.int .i64 p.first,.int .i64 p.last,.slice B0 n2 c2,.bool p.nul]:=(HTD.out.bel.block w.heap.size (by omega)).trans HBPo.out
       have HBX:=Hd_ (HBW.out.trans (HTD.out.bel.mono (by omega)))
       have z0:X0.cell? ⟨zb,0,none⟩=some (.int .i64 (ta:Int)):=by exact hbz.cell 0
       have z1:X0.cell? ⟨zb,1,none⟩=some (.int .i64 (tb:Int)):=by exact hbz.cell 1
       have z2:X0.cell? ⟨zb,2,none⟩=some (.bool td):=by exact hbz.cell 2
       have x0:X0.cell? ⟨w.heap.size,0,none⟩=some (.slice A n1 c):=by exact hbp.cell 0
       have x1:X0.cell? ⟨w.heap.size,1,none⟩=some (.int .i64 p.first):=by exact hbp.cell 1
       have x2:X0.cell? ⟨w.heap.size,2,none⟩=some (.int .i64 p.last):=by exact hbp.cell 2
       have x3:X0.cell? ⟨w.heap.size,3,none⟩=some (.slice B0 n2 c2):=by exact hbp.cell 3
       have x4:X0.cell? ⟨w.heap.size,4,none⟩=some (.bool p.nul):=by exact hbp.cell 4
       have hl0:=hbp.lt
       have hzl:=hbz.lt
       have HBZ:=Hd_ hbz
       have hba:bit ta < 2 ^ 21:=Nat.pow_lt_pow_right (by decide) (by omega)
       have hbb:bit tb < 2 ^ 21:=Nat.pow_lt_pow_right (by decide) (by omega)
       have hsa:=shl_bit2 (s:=ta) (by omega)
       have hsb:=shl_bit2 (s:=tb) (by omega)
       have hsa3:=shl_bit3 (s:=ta) (by omega)
       have hsb3:=shl_bit3 (s:=tb) (by omega)
       obtain ⟨qa,hqa⟩:∃ q,q=accP p (bit ta):=⟨_,rfl⟩
       obtain ⟨qb,hqb⟩:∃ q,q=accP p (bit tb):=⟨_,rfl⟩
       have HG:=Hd_ (show twnG p (ta,tb,td)=(td && (qa && qb)) by rw [hqa,hqb];rfl)
       have HQA:=Hd_ hqa
       have HQB:=Hd_ hqb
       have hbdz:bd < zb:=by rw [hzb];exact hbdw
       have hmx:m < maxLen:=by unfold maxLen;omega
       clear hbp hbz hbX hX0 hqa hqb q0 q1 q2 hzb
       cases td with
       | false =>
         refine wp_region_ext_lit (by kernel_rfl) (by kernel_rfl) ?_
         repeat (go_big_quiet_step ((fail)))
         refine wpQuiet_nil ?_
         rintro _ ⟨u2,rfl⟩
         have HG2:=Hd_ (show twnG p _=false from HG.out)
         have HQ2:=Hd_ (show iniQ p (i+1)=iniQ p i by rw [HQS.out,HG2.out];simp)
         have HD2:=Hd_ (HDN.out HG2.out)
         clear x0 x1 x2 x3 x4 hsa hsb hsa3 hsb3
         go_wp2_with fail
         go_roundw
         case rel=>exact ⟨i+1,m,by omega,by omega,by go_num,by rw [HQ2.out,HD2.out];exact HTD.out.below (ext_below X0 u2)⟩
         case measure=>simp [intOf];omega
       | true =>
         cases qa with
         | false =>
           refine wp_region_ext_lit (by kernel_rfl) (by kernel_rfl) ?_
           repeat (go_big_quiet_step ((go_at_call 37;exact Calls.ext_of (HAC.out _ _ _ (below_trans HBX.out (ext_below _ _)) (by first | exact hba | exact hbb) (by first | exact HQA.out | exact HQB.out)))))
           refine wpQuiet_nil ?_
           rintro _ ⟨u2,rfl⟩
           have HG2:=Hd_ (show twnG p _=false from HG.out)
           have HQ2:=Hd_ (show iniQ p (i+1)=iniQ p i by rw [HQS.out,HG2.out];simp)
           have HD2:=Hd_ (HDN.out HG2.out)
           clear x0 x1 x2 x3 x4 hsa hsb hsa3 hsb3
           go_wp2_with fail
           go_roundw
           case rel=>exact ⟨i+1,m,by omega,by omega,by go_num,by rw [HQ2.out,HD2.out];exact HTD.out.below (ext_below X0 u2)⟩
           case measure=>simp [intOf];omega
         | true =>
           cases qb with
           | false =>
             refine wp_region_ext_lit (by kernel_rfl) (by kernel_rfl) ?_
             repeat (go_big_quiet_step ((go_at_call 37;exact Calls.ext_of (HAC.out _ _ _ (below_trans HBX.out (ext_below _ _)) (by first | exact hba | exact hbb) (by first | exact HQA.out | exact HQB.out)))))
             refine wpQuiet_nil ?_
             rintro _ ⟨u2,rfl⟩
             have HG2:=Hd_ (show twnG p _=false from HG.out)
             have HQ2:=Hd_ (show iniQ p (i+1)=iniQ p i by rw [HQS.out,HG2.out];simp)
             have HD2:=Hd_ (HDN.out HG2.out)
             clear x0 x1 x2 x3 x4 hsa hsb hsa3 hsb3
             go_wp2_with fail
             go_roundw
             case rel=>exact ⟨i+1,m,by omega,by omega,by go_num,by rw [HQ2.out,HD2.out];exact HTD.out.below (ext_below X0 u2)⟩
             case measure=>simp [intOf];omega
           | true =>
             refine wp_region_ext_lit (by kernel_rfl) (by kernel_rfl) ?_
             repeat (go_big_quiet_step ((go_at_call 37;exact Calls.ext_of (HAC.out _ _ _ (below_trans HBX.out (ext_below _ _)) (by first | exact hba | exact hbb) (by first | exact HQA.out | exact HQB.out)))))
             refine wpQuiet_nil ?_
             rintro _ ⟨u2,rfl⟩
             have HTD2:=Hd_ (HTD.out.below (ext_below X0 u2))
             have hbz2:=HBZ.out.keep (ext_below X0 u2)
             have HG2:=Hd_ (show twnG p (ta,tb,true)=true by rw [HG.out];rfl)
             have HQ2:=Hd_ (show iniQ p (i+1)=iniQ p i ++ [(ta,tb,true)] by rw [HQS.out,if_pos HG2.out])
             generalize ext X0 u2=x2 at *
             have z0:x2.cell? ⟨zb,0,none⟩=some (.int .i64 (ta:Int)):=by exact hbz2.cell 0
             have z1:x2.cell? ⟨zb,1,none⟩=some (.int .i64 (tb:Int)):=by exact hbz2.cell 1
             have z2:x2.cell? ⟨zb,2,none⟩=some (.bool true):=by exact hbz2.cell 2
             have hzl2:=hbz2.lt
             have HBZ2:=Hd_ hbz2
             clear hbz2 x0 x1 x3 x4 hsa hsb hsa3 hsb3
             have hlow2:twLow (ta,tb,true):=⟨hta,htb⟩
             have HLO:=Hd_ hlow2
             clear hlow2
             go_upto_region 25 with (at_mapUpdate;(refine wpList_put_tw rfl _ _ _ 52 rfl Try.underlying52 HTD2.out.dist hmx (t:=(ta,tb,true)) HLO.out (u:=.int .i64 0) rfl rfl rfl rfl ?_);intro w4 hm4 hg4;have HM4:=Hd_ hm4;have HG4:=Hd_ hg4;clear hm4 hg4)
             have hbz4:Blk w4 zb 56 #[.int .i64 (ta:Int),.int .i64 (tb:Int),.bool true]:=(HG4.out.block zb hzl2 (fun e=>by injection e;omega)).trans HBZ2.out
             have z0:w4.cell? ⟨zb,0,none⟩=some (.int .i64 (ta:Int)):=by exact hbz4.cell 0
             have z1:w4.cell? ⟨zb,1,none⟩=some (.int .i64 (tb:Int)):=by exact hbz4.cell 1
             have z2:w4.cell? ⟨zb,2,none⟩=some (.bool true):=by exact hbz4.cell 2
             have hzl4:=hbz4.lt
             have HQU:=Hd_ (HTD2.out.queue HG4.out)
             have qb1:((iniQ p i).length+1) * 24<=140737488355328:=by have:=HQL.out;omega
             have qb2:wo.heap.size<=w4.heap.size:=Nat.le_trans HTD2.out.bel.size HG4.out.size
             clear hbz4
             go_wp2_with (at_builtin;(refine wpList_appendQ1 cTw elTw rfl _ _ rfl wo.heap.size _ (iniQ p i) (ta,tb,true) _ 1 _ (by rfl) HQU.out (by rfl) rfl rfl rfl (cTw_one _) qb1 (by decide) qb2 ?_);intro v5 w5 hrow5 hb5 hat5 hgr5)
             go_roundw
             case rel=>exact ⟨i+1,m+1,by omega,by omega,by go_num,by rw [HQ2.out,<- HDY.out HG2.out];exact HTD2.out.add HMT.out (iniD_len p i) (Int.le_refl _) HM4.out HG4.out hrow5 hgr5⟩
             case measure=>simp [intOf];omega
     · obtain rfl:k=i:=by omega
       have HBO:=Hd_ (ini_bo p (prvB p B))
       have HQE:=Hd_ (show ∀ t ∈ iniQ p k,t ∈ endT p from fun t ht=>List.mem_of_mem_take (List.mem_filter.1 ht).1)
       have hng:=negs_le (iniD p k)
       rw [iniD_len,<- HN.out] at hng
       have hql:=iniQ_len p k
       have HD0:=Hd_ (show ∀ j,j < (endT p).length->(iniD p k).getD j 0+((2000:Nat):Int)<=2000 from fun j hj=>by rw [iniD_at hj];split <;> omega)
       rw [<- HN.out] at HBO
       have HTD:=Hd_ htd
       have HNQ:=Hd_ (show (iniQ p k).length+negs (iniD p k)<=2000 by omega)
       have HNM:=Hd_ (show m+negs (iniD p k)<=2000 by omega)
       clear hng hql htd hlt hi
       go_wp2_with fail
       go_loopg [11,15,16,17] 2000 (fun gk qq _ _ _ wr=>∃ (m:Nat) (D:List Int) (Q:List Twn),TwD p wo wr qq bd m D Q/\BO (prvB p B) (nextE (prsT p)) (goalT p) k D (Q.map (idxT p))/\(∀ t ∈ Q,t ∈ endT p)/\Q.length+negs D<=gk/\gk<=2000/\(∀ j,j < (endT p).length->D.getD j 0+(gk:Int)<=2000)/\m+negs D<=2000)
       case atStart=>exact ⟨m,iniD p k,iniQ p k,HTD.out,HBO.out,HQE.out,HNQ.out,Nat.le_refl _,HD0.out,HNM.out⟩
       case round =>
        clear HBO HQE HD0 HTD HNQ HNM
        obtain ⟨m,D,Q,htd,hbo,hqe,hqn,hgk,hdm,hmn⟩:=hrel
        have HTD:=Hd_ htd
        have HBO:=Hd_ hbo
        have HQE:=Hd_ hqe
        have HDM:=Hd_ hdm
        have hmx:m < maxLen:=by unfold maxLen;omega
        cases Q with
        | nil =>
          obtain ⟨A9,c9,rfl,hc1,hc2⟩:=htd.que.shape
          have HFN:=Hd_ (show ∀ i,i < (endT p).length->D.getD i 0=dT p i from fun i hi=>dT_eq (BO.fin (next_lt H20.out) (next_prv HBE.out H20.out) (by have h:=HBO.out;rw [HN.out] at h;exact h) i hi))
          have HBW2:=Hd_ (HBW.out.trans (htd.bel.mono (by omega)))
          have hlbd:=htd.lb
          clear htd hbo hqe hdm
          simp only [List.length_nil] at *
          go_wp2_with fail
          go_ret
          refine ⟨bd,m,_,rfl,by omega,HTD.out.dist,fun t=>?_,fun j hj=>by (have h1:=HDM.out j hj;rw [HFN.out j hj] at h1;omega),HBW2.out⟩
          rw [dV]
          by_cases ht:(endT p).contains t=true
          · rw [HFN.out _ (idxT_lt (List.contains_iff_mem.1 ht))]
            split <;> rfl
          · rw [if_neg (fun h=>ht h.1),if_neg (fun h=>ht h.1)]
            rfl
        | cons h q =>
          have hhe:=hqe h (by simp)
          have hne:=HBO.out.enter
          rw [prvB,twnA_idx hhe] at hne
          have HIN:=Hd_ hne
          have hhD:=(HBO.out.qN (idxT p h) (by simp)).2
          have HHD:=Hd_ hhD
          have HDH:=Hd_ (hdm (idxT p h) (idxT_lt hhe))
          have hdmx:=hdm
          have HHE:=Hd_ hhe
          have HQT:=Hd_ (fun t (ht:t ∈ q)=>hqe t (List.mem_cons_of_mem _ ht))
          obtain ⟨hh1,hh2⟩:h.1<=20/\h.2.1<=20:=by
           have h1:=hhe
           rw [endT] at h1
           exact allT_low (i:=882) H20.out h1
          have hsl:=(Own.of_row (HRW.out h) rfl rfl).sl cTw_len
          obtain ⟨AB,cB',hvB,hlB,hmB,-⟩:=hsl
          have hsl:=(Own.of_row (HRW.out h) rfl rfl).sl cTw_len
          rw [hvB] at hsl
          have hlk:=(HBM.out.block (htd.bel.block bb HBM.out.lt)).look Try.underlying71 (z:=nilT) (Try.zeroValue57 wr) rfl (t:=h) ⟨hh1,hh2⟩
          rw [hvB] at hlk
          obtain ⟨NB,hNB⟩:∃ NB,NB=(B h).length:=⟨_,rfl⟩
          rw [<- hNB] at hlk hlB hsl
          have HNB:=Hd_ hNB
          have HSL:=Hd_ hsl
          unfold maxLen at hmB
          obtain ⟨gq,oq,cq,rfl,hgq1,hgq2,hqc⟩:=htd.que.cell (by simp)
          have e0:=hqc 0 _ rfl
          have e1:=hqc 1 _ rfl
          have e2:=hqc 2 _ rfl
          simp only [Nat.add_zero] at e0
          have hql:q.length<=2000:=by rw [List.length_cons] at hqn;omega
          have hqn2:q.length+negs D+1<=gk:=by rw [List.length_cons] at hqn;omega
          have hlc:(h :: q).length=q.length+1:=rfl
          obtain ⟨ha,hb,hd⟩:=h
          simp only at hh1 hh2 e0 e1 e2
          have hlk:(Instr.lookup 71 (.map (some bb)) (.agg #[.int .i64 (ha:Int),.int .i64 (hb:Int),.bool hd]) false).run Try.prog wr=.ok (.slice AB NB cB') wr:=hlk
          rw [hlc]
          clear htd hbo hqe hdm hhe hne hhD hvB hNB hsl hqc hlc HBO HQE HDM hqn
          go_wp2_with fail
          clear hlk e0 e1 e2 hgq1 hgq2
          obtain ⟨H,hH⟩:∃ H:Twn,H=(ha,hb,hd):=⟨_,rfl⟩
          have HH:=Hd_ hH
          rw [<- hH] at HTD HIN HHD HDH HHE HNB HSL
          clear hH
          have HDA:=Hd_ (show ∀ j,j < (endT p).length->D.getD j 0+(gk:Int)<=2001 from fun j hj=>by have:=hdmx j hj;omega)
          go_loopw [11,15,16,17,110] (fun qq _ _ _ ii wr=>∃ (i m:Nat) (D:List Int) (Q:List Twn),i<=NB/\ii=.int .i64 (i:Int)/\TwD p wo wr qq bd m D (H :: Q)/\BI (prvB p B) (nextE (prsT p)) (goalT p) k D (Q.map (idxT p)) (idxT p H) (((B H).drop i).map (idxT p))/\(∀ t ∈ Q,t ∈ endT p)/\Q.length+negs D+1<=gk/\(∀ j,j < (endT p).length->D.getD j 0+(gk:Int)<=2001)/\D.getD (idxT p H) 0+(gk:Int)<=2000/\m+negs D<=2000) (fun _ _ _ _ ii _=>NB - (intOf ii).toNat)
          case atStart=>exact ⟨0,m,D,q,Nat.zero_le _,rfl,HTD.out,by rw [List.drop_zero];exact HIN.out,HQT.out,hqn2,HDA.out,HDH.out,hmn⟩
          case round =>
           clear HTD HIN HHD HDH HQT HDA hdmx hqn2 hmn hmx hql
           obtain ⟨i,m,D,Q,hi,rfl,htd,hbi,hqt,hqn,hda,hdh,hmn⟩:=hrel
           have HTD:=Hd_ htd
           have HBI:=Hd_ hbi
           have HQT:=Hd_ hqt
           have HDA:=Hd_ hda
           have HDH:=Hd_ hdh
           have HMN:=Hd_ hmn
           have HQN:=Hd_ hqn
           have hmx:m < maxLen:=by unfold maxLen;omega
           have hql:Q.length<=2000:=by omega
           obtain ⟨gq,oq,cq,rfl,hgq1,hgq2,hqc⟩:=htd.que.cell (by simp)
           have hcq:=htd.que.shape
           have hlc:(H :: Q).length=Q.length+1:=rfl
           rw [hlc] at hcq ⊢
           obtain ⟨A9,c9,h9,hc8,hc9⟩:=hcq
           obtain rfl:c9=cq:=by injection h9 with _ _ h;exact h.symm
           unfold maxLen at hc9
           clear h9 hlc hda hdh hqt hqn hmn
           by_cases hlt:i < NB
           · have hat:(B H)[i]?=some ((B H)[i]'(by rw [<- HNB.out];exact hlt)):=List.getElem?_eq_getElem _
             obtain ⟨⟨ta,tb,td⟩,ht⟩:∃ t,t=(B H)[i]'(by rw [<- HNB.out];exact hlt):=⟨_,rfl⟩
             rw [<- ht] at hat
             have hte:=bef_in HBE.out (List.mem_of_getElem? hat)
             have HTB:=Hd_ (List.mem_of_getElem? hat)
             have hdr:((B H).drop i).map (idxT p)=idxT p (ta,tb,td) :: ((B H).drop (i+1)).map (idxT p):=by
              rw [List.drop_eq_getElem_cons (by rw [<- HNB.out];exact hlt),<- ht]
              rfl
             rw [hdr] at hbi HBI
             obtain ⟨hta,htb⟩:ta<=20/\tb<=20:=by
              have h1:=hte
              rw [endT] at h1
              exact allT_low (i:=882) H20.out h1
             have HTE:=Hd_ hte
             obtain ⟨bn,on,en,hbn1,hbn2,q0,q1,q2⟩:=HSL.out.tw hat
             subst en
             have q0:=(htd.bel.cell (p:=⟨bn,on+i * 3,none⟩) hbn2).trans q0
             have q1:=(htd.bel.cell (p:=⟨bn,on+i * 3+1,none⟩) hbn2).trans q1
             have q2:=(htd.bel.cell (p:=⟨bn,on+i * 3+2,none⟩) hbn2).trans q2
             simp only at q0 q1 q2
             have hbs:=htd.bel.size
             have hbnw:bn < wr.heap.size:=by omega
             have hbdw:=htd.dist.lt
             have hii:(i:Int) < (NB:Int):=by omega
             have HQC:=Hd_ hqc
             have HLE:=Hd_ (show D.length=(endT p).length by rw [hbi.len];exact HN.out)
             clear hat ht hte hdr htd hbi hqc
             go_upto_region 32 with fail
             obtain ⟨X0,hX0⟩:∃ X,X=wr.alloc (.cells #[.int .i64 (ta:Int),.int .i64 (tb:Int),.bool td] 56):=⟨_,rfl⟩
             obtain ⟨zb,hzb⟩:∃ z,z=wr.heap.size:=⟨_,rfl⟩
             have hbz:Blk X0 zb 56 #[.int .i64 (ta:Int),.int .i64 (tb:Int),.bool td]:=by rw [hX0];exact Blk.new _ _ _ _ hzb
             have hbX:Below wr.heap.size wr X0:=by rw [hX0];exact (Below.refl _ _).alloc (Nat.le_refl _) _
             rw [<- hX0,<- hzb]
             have HTD:=Hd_ (HTD.out.below hbX)
             have hbdz:bd < zb:=by rw [hzb];exact hbdw
             have hgqz:gq < zb:=by rw [hzb];exact hgq2
             have z0:X0.cell? ⟨zb,0,none⟩=some (.int .i64 (ta:Int)):=by exact hbz.cell 0
             have z1:X0.cell? ⟨zb,1,none⟩=some (.int .i64 (tb:Int)):=by exact hbz.cell 1
             have z2:X0.cell? ⟨zb,2,none⟩=some (.bool td):=by exact hbz.cell 2
             have hzl:=hbz.lt
             have HBZ:=Hd_ hbz
             have HBXX:=Hd_ hbX
             have HLK:=Hd_ (HTD.out.dist.look_ok Try.underlying52 (z:=.int .i64 0) (Try.zeroValue3 X0) rfl (t:=(ta,tb,td)) ⟨hta,htb⟩)
             clear hbX hX0 hzb hbz q0 q1 q2
             obtain ⟨d,hd⟩:∃ d,d=D.getD (idxT p (ta,tb,td)) 0:=⟨_,rfl⟩
             have HD:=Hd_ hd
             by_cases hneg:d < 0
             · have hlk:(Instr.lookup 52 (.map (some bd)) (.agg #[.int .i64 (ta:Int),.int .i64 (tb:Int),.bool td]) true).run Try.prog X0=.ok (.tuple #[.int .i64 0,.bool false]) X0:=by
                have h:=HLK.out
                rw [dV_none (by rw [<- HD.out];exact hneg)] at h
                exact h
               clear hd HLK
               go_upto_region 34 with fail
               have HTDd:=Hd_ (HTD.out.below ((Below.refl _ _).drew))
               obtain ⟨dh,hdh⟩:∃ dh,dh=D.getD (idxT p H) 0:=⟨_,rfl⟩
               have hdh0:0<=dh:=by rw [hdh];exact HBI.out.hD
               have hdh9:dh<=2000:=by rw [hdh];have:=HDH.out;omega
               have hlk3:(Instr.lookup 52 (.map (some bd)) (.agg #[.int .i64 (ha:Int),.int .i64 (hb:Int),.bool hd]) false).run Try.prog X0.drew=.ok (.int .i64 dh) X0.drew:=by
                have h:=HTDd.out.dist.look Try.underlying52 (z:=.int .i64 0) (Try.zeroValue3 X0.drew) rfl (t:=H) (by rw [HH.out];exact ⟨hh1,hh2⟩)
                rw [dV_some HHE.out HBI.out.hD,<- hdh,HH.out] at h
                exact h
               have HDh:=Hd_ hdh
               obtain ⟨d1,hd1⟩:∃ d1,d1=dh+1:=⟨_,rfl⟩
               have hwr:IntKind.i64.wrap (dh+1)=d1:=by rw [IntWalk.i64_in _ (by omega)];exact hd1.symm
               obtain ⟨w4,hupd,hm4,hg4⟩:=HTDd.out.dist.put Try.underlying52 hmx (t:=(ta,tb,td)) ⟨hta,htb⟩ (v:=.int .i64 d1) rfl
               have hupd:(Instr.mapUpdate 52 (.map (some bd)) (.agg #[.int .i64 (ta:Int),.int .i64 (tb:Int),.bool td]) (.int .i64 d1)).run Try.prog X0.drew=.ok () w4:=hupd
               have HM4:=Hd_ hm4
               have HG4:=Hd_ hg4
               have HD1:=Hd_ hd1
               have e0:X0.cell? ⟨gq,oq,none⟩=some (.int .i64 (ha:Int)):=by have h:=kcell HBXX.out (HQC.out 0 _ rfl);rw [HH.out] at h;simpa using h
               have e1:X0.cell? ⟨gq,oq+1,none⟩=some (.int .i64 (hb:Int)):=by have h:=kcell HBXX.out (HQC.out 1 _ rfl);rw [HH.out] at h;exact h
               have e2:X0.cell? ⟨gq,oq+2,none⟩=some (.bool hd):=by have h:=kcell HBXX.out (HQC.out 2 _ rfl);rw [HH.out] at h;exact h
               clear hm4 hg4 hd1 hdh hlk
               refine F_start 8 (fun w'=>w'.cell? ⟨zb,0,none⟩=some (.int .i64 (ta:Int))/\w'.cell? ⟨zb,1,none⟩=some (.int .i64 (tb:Int))/\w'.cell? ⟨zb,2,none⟩=some (.bool td)/\w'.cell? ⟨gq,oq,none⟩=some (.int .i64 (ha:Int))/\w'.cell? ⟨gq,oq+1,none⟩=some (.int .i64 (hb:Int))/\w'.cell? ⟨gq,oq+2,none⟩=some (.bool hd)/\(Instr.lookup 52 (.map (some bd)) (.agg #[.int .i64 (ha:Int),.int .i64 (hb:Int),.bool hd]) false).run Try.prog w'=.ok (.int .i64 dh) w') (by kernel_rfl) (by exact ⟨z0,z1,z2,e0,e1,e2,hlk3⟩) (fun hS inv=>?_)
               refine F_tk 0 inv ?_
               try simp only [tA,tB,tC,Act.put,tE,tF,tG]
               clear inv;intro inv
               refine F_tk 1 inv ?_
               try simp only [tA,tB,tC,Act.put,tE,tF,tG]
               clear inv;intro inv
               refine F_tk 2 inv ?_
               try simp only [tA,tB,tC,Act.put,tE,tF,tG]
               clear inv;intro inv
               refine F_tk 3 inv ?_
               try simp only [tA,tB,tC,Act.put,tE,tF,tG]
               clear inv;intro inv
               refine F_tk 4 inv ?_
               try simp only [tA,tB,tC,Act.put,tE,tF,tG]
               clear inv;intro inv
               refine F_tk 5 inv ?_
               try simp only [tA,tB,tC,Act.put,tE,tF,tG]
               clear inv;intro inv
               refine F_tk 6 inv ?_
               try simp only [tA,tB,tC,Act.put,tE,tF,tG]
               clear inv;intro inv
               refine F_tk 7 inv ?_
               try simp only [tA,tB,tC,Act.put,tE,tF,tG]
               clear inv;intro inv
               refine F_l1 8 ?_;intro K hK
               go_simp
               refine hK _ _ ?_
               clear hK K inv hS
               have hbz4:Blk w4 zb 56 #[.int .i64 (ta:Int),.int .i64 (tb:Int),.bool td]:=(HG4.out.block zb hzl (fun e=>by injection e;omega)).trans HBZ.out
               have z0:w4.cell? ⟨zb,0,none⟩=some (.int .i64 (ta:Int)):=by exact hbz4.cell 0
               have z1:w4.cell? ⟨zb,1,none⟩=some (.int .i64 (tb:Int)):=by exact hbz4.cell 1
               have z2:w4.cell? ⟨zb,2,none⟩=some (.bool td):=by exact hbz4.cell 2
               have hzl4:=hbz4.lt
               have HQU:=Hd_ (HTDd.out.queue HG4.out)
               have qb1:((H :: Q).length+1) * 24<=140737488355328:=by rw [List.length_cons];omega
               have qb2:wo.heap.size<=w4.heap.size:=Nat.le_trans HTDd.out.bel.size HG4.out.size
               have hnew:=BI.new (by rw [HN.out];exact prv_next HBE.out) (by rw [HN.out];exact prv_lt HBE.out) HBI.out (by rw [prvB,twnA_idx HHE.out];exact List.mem_map.2 ⟨_,HTB.out,rfl⟩) (by rw [<- HD.out];exact hneg)
               rw [<- HDh.out,<- HD1.out] at hnew
               have HNEW:=Hd_ hnew
               have hil:idxT p (ta,tb,td) < D.length:=by rw [HLE.out];exact idxT_lt HTE.out
               have hnegs:=negs_set (d:=d1) hil (by rw [<- HD.out];exact hneg) (by have:=HD1.out;omega)
               have HNG:=Hd_ hnegs
               have HDA2:=Hd_ (show ∀ j,j < (endT p).length->(D.set (idxT p (ta,tb,td)) d1).getD j 0+(gk:Int)<=2001 from fun j hj=>by
                rw [getD_set hil]
                split
                · have:=HDH.out;have:=HDh.out;have:=HD1.out;omega
                · exact HDA.out j hj)
               have HDH2:=Hd_ (show (D.set (idxT p (ta,tb,td)) d1).getD (idxT p H) 0+(gk:Int)<=2000 by
                rw [getD_set hil,if_neg (fun e=>by have h1:=HBI.out.hD;rw [<- e,<- HD.out] at h1;omega)]
                exact HDH.out)
               have HQT2:=Hd_ (show ∀ t ∈ Q ++ [(ta,tb,td)],t ∈ endT p from fun t ht=>by
                rcases List.mem_append.1 ht with h | h
                · exact HQT.out t h
                · rw [List.mem_singleton] at h;rw [h];exact HTE.out)
               have HQN2:=Hd_ (show (Q ++ [(ta,tb,td)]).length+negs (D.set (idxT p (ta,tb,td)) d1)+1<=gk by have:=HQN.out;rw [List.length_append,List.length_singleton];omega)
               have HMN2:=Hd_ (show m+1+negs (D.set (idxT p (ta,tb,td)) d1)<=2000 by have:=HMN.out;omega)
               have hd10:0<=d1:=by have:=HD1.out;omega
               clear hbz4 hnew hnegs hlk3 hupd e0 e1 e2
               go_wp2_with (at_builtin;(refine wpList_appendQ1 cTw elTw rfl _ _ rfl wo.heap.size _ (H :: Q) (ta,tb,td) _ 1 _ (by rfl) HQU.out (by rfl) rfl rfl rfl (cTw_one _) qb1 (by decide) qb2 ?_);intro v5 w5 hrow5 hb5 hat5 hgr5)
               go_roundw
               case rel=>exact ⟨i+1,m+1,D.set (idxT p (ta,tb,td)) d1,Q ++ [(ta,tb,td)],by omega,by go_num,HTDd.out.add HTE.out HLE.out hd10 HM4.out HG4.out hrow5 hgr5,by rw [List.map_append];exact HNEW.out,HQT2.out,HQN2.out,HDA2.out,HDH2.out,HMN2.out⟩
               case measure=>simp [intOf];omega
             · have hlk:(Instr.lookup 52 (.map (some bd)) (.agg #[.int .i64 (ta:Int),.int .i64 (tb:Int),.bool td]) true).run Try.prog X0=.ok (.tuple #[.int .i64 d,.bool true]) X0:=by
                have h:=HLK.out
                rw [dV_some HTE.out (by rw [<- HD.out];omega),<- HD.out] at h
                exact h
               have HOL:=Hd_ (HBI.out.old (by rw [HN.out];exact idxT_lt HTE.out) (by rw [<- HD.out];exact hneg))
               clear hd HLK
               go_wp2_with fail
               go_roundw
               case rel=>exact ⟨i+1,m,D,Q,by omega,by go_num,HTD.out,HOL.out,HQT.out,HQN.out,HDA.out,HDH.out,HMN.out⟩
               case measure=>simp [intOf];omega
           · obtain rfl:NB=i:=by omega
             have hlv:BO (prvB p B) (nextE (prsT p)) (goalT p) k D (Q.map (idxT p)):=by
              have h:=hbi
              rw [List.drop_eq_nil_of_le (by rw [<- HNB.out];exact Nat.le_refl _)] at h
              exact h.leave
             have HLV:=Hd_ hlv
             have htail:=htd.que.tail (n:=Q.length) rfl
             have hfl:((H :: Q).flatMap cTw).drop 3=Q.flatMap cTw:=rfl
             rw [hfl] at htail
             have HDB:=Hd_ (show ∀ j,j < (endT p).length->D.getD j 0+((gk - 1:Nat):Int)<=2000 from fun j hj=>by have:=HDA.out j hj;have:=HQN.out;omega)
             have HNQ:=Hd_ (show Q.length+negs D<=gk - 1 by have:=HQN.out;omega)
             have hgp:0 < gk:=by have:=HQN.out;omega
             have HTM:=Hd_ htd.dist
             have HTL:=Hd_ htd.bel
             have hlbd:=htd.lb
             clear htd hbi hlv hqc hfl
             by_cases hc1:c9=1
             · subst hc1
               obtain rfl:Q=[]:=List.eq_nil_of_length_eq_zero (by omega)
               rw [if_pos rfl] at htail
               simp only [List.length_nil] at *
               have HT:=Hd_ htail
               clear htail
               go_wp2_with fail
               go_roundg (gk - 1)
               case measure=>omega
               case rel=>exact ⟨m,D,[],⟨HTM.out,HT.out,HTL.out,hlbd⟩,HLV.out,HQT.out,HNQ.out,by omega,HDB.out,HMN.out⟩
             · rw [if_neg hc1] at htail
               have HT:=Hd_ htail
               clear htail
               go_wp2_with fail
               go_roundg (gk - 1)
               case measure=>omega
               case rel=>exact ⟨m,D,Q,⟨HTM.out,HT.out,HTL.out,hlbd⟩,HLV.out,HQT.out,HNQ.out,by omega,HDB.out,HMN.out⟩
end Go.Proofs.Ythnapjodmndlaaa
namespace Go.Proofs.Ythnapjodmndlaaa
/-- letter k leads from S to pairs of number m -/
def ldB (p:Pz) (S:List Twn) (m k:Nat) (x:Twn):Prop:=∃ t ∈ S,x ∈ twnX p k t/\dT p (idxT p x)=(m:Int)
section
variable {p:Pz} {S N:List Twn} {m k:Nat}
theorem nxI_idx {t:Twn} (h:t ∈ endT p) (k:Nat):nxI p k (idxT p t)=(twnX p k t).map (idxT p):=by rw [nxI,twnA_idx h]
theorem twn_next2 (hp:p.lets.length<=20) {t x:Twn} (h:t ∈ endT p) (hk:k < 9) (hx:x ∈ twnX p k t):x ∈ endT p :=
 endT_closed hp h (List.mem_flatMap.2 ⟨k,List.mem_range.2 hk,hx⟩)
theorem leads_iff (hS:∀ t ∈ S,t ∈ endT p):leadsT (nxI p) (dT p) (S.map (idxT p)) m k=true ↔ ∃ x,ldB p S m k x:=by
 rw [leadsT_iff]
 constructor
 · rintro ⟨i,hi,y,hy,hd⟩
   obtain ⟨t,ht,rfl⟩:=List.mem_map.1 hi
   rw [nxI_idx (hS t ht)] at hy
   obtain ⟨x,hx,rfl⟩:=List.mem_map.1 hy
   exact ⟨x,t,ht,hx,hd⟩
 · rintro ⟨x,t,ht,hx,hd⟩
   exact ⟨_,List.mem_map.2 ⟨t,ht,rfl⟩,_,by rw [nxI_idx (hS t ht)];exact List.mem_map.2 ⟨x,hx,rfl⟩,hd⟩
theorem now_iff (hS:∀ t ∈ S,t ∈ endT p) (hN:∀ x,x ∈ N ↔ ldB p S m k x) (j:Nat):j ∈ nowT (nxI p) (dT p) (S.map (idxT p)) m k ↔ j ∈ N.map (idxT p):=by
 rw [mem_nowT,List.mem_map]
 constructor
 · rintro ⟨⟨i,hi,hj⟩,hd⟩
   obtain ⟨t,ht,rfl⟩:=List.mem_map.1 hi
   rw [nxI_idx (hS t ht)] at hj
   obtain ⟨x,hx,rfl⟩:=List.mem_map.1 hj
   exact ⟨x,(hN x).2 ⟨t,ht,hx,hd⟩,rfl⟩
 · rintro ⟨x,hx,rfl⟩
   obtain ⟨t,ht,hx2,hd⟩:=(hN x).1 hx
   exact ⟨⟨_,List.mem_map.2 ⟨t,ht,rfl⟩,by rw [nxI_idx (hS t ht)];exact List.mem_map.2 ⟨x,hx2,rfl⟩⟩,hd⟩
/-- the first letter that leads on -/
theorem amb_letter (hS:∀ t ∈ S,t ∈ endT p) (hk:k < 9) (hN:∀ x,x ∈ N ↔ ldB p S m k x) (hne:N ≠ []) (hno:∀ j,j < k->∀ x,¬ ldB p S m j x):wordT 9 (nxI p) (dT p) (m+1) (S.map (idxT p))=k :: wordT 9 (nxI p) (dT p) m (N.map (idxT p)):=by
 obtain ⟨x,hx⟩:=List.exists_mem_of_ne_nil _ hne
 rw [wordT_step hk ((leads_iff hS).2 ⟨x,(hN x).1 hx⟩) (fun j hj=>by
  cases h:leadsT (nxI p) (dT p) (S.map (idxT p)) m j with
  | false=>rfl
  | true =>
    obtain ⟨y,hy⟩:=(leads_iff hS).1 h
    exact absurd hy (hno j hj y)),wordT_congr (now_iff hS hN)]
theorem amb_some (hS:∀ t ∈ S,t ∈ endT p) (hne:S ≠ []) (hd:∀ t ∈ S,dT p (idxT p t)=((m+1:Nat):Int)) (hno:∀ j,j < 9->∀ x,¬ ldB p S m j x):False:=by
 obtain ⟨t,ht⟩:=List.exists_mem_of_ne_nil _ hne
 obtain ⟨k,hk,y,hy,hdy⟩:=amb_step (idxT_lt (hS t ht)) (hd t ht)
 rw [nxI_idx (hS t ht)] at hy
 obtain ⟨x,hx,rfl⟩:=List.mem_map.1 hy
 exact hno k hk x ⟨t,ht,hx,hdy⟩
theorem ld_end (hp:p.lets.length<=20) (hS:∀ t ∈ S,t ∈ endT p) (hk:k < 9) {x:Twn} (h:ldB p S m k x):x ∈ endT p:=by
 obtain ⟨t,ht,hx,-⟩:=h
 exact twn_next2 hp (hS t ht) hk hx
theorem ld_take {i:Nat} {t:Twn} (h:S[i]?=some t) (x:Twn):ldB p (S.take (i+1)) m k x ↔ ldB p (S.take i) m k x ∨ (x ∈ twnX p k t/\dT p (idxT p x)=(m:Int)):=by
 rw [ldB,ldB,List.take_add_one,h]
 constructor
 · rintro ⟨u,hu,hx⟩
   rcases List.mem_append.1 hu with hu | hu
   · exact .inl ⟨u,hu,hx⟩
   · have:u=t:=by simpa using hu
     subst this
     exact .inr hx
 · rintro (⟨u,hu,hx⟩ | hx)
   · exact ⟨u,List.mem_append_left _ hu,hx⟩
   · exact ⟨t,List.mem_append_right _ (by simp),hx⟩
end
theorem sub_len {N:List Twn} {p:Pz} (hp:p.lets.length<=20) (hn:N.Nodup) (h:∀ t ∈ N,t ∈ endT p):N.length<=882:=by
 have h1:(N.map (idxT p)).Nodup:=by
  rw [List.nodup_iff_pairwise_ne,List.pairwise_map]
  rw [List.nodup_iff_pairwise_ne] at hn
  exact List.Pairwise.imp_of_mem (fun ha hb hne e=>hne (by rw [<- twnA_idx (h _ ha),e,twnA_idx (h _ hb)])) hn
 have h2:=nodup_subT _ (List.range (endT p).length) h1 (fun x hx=>by
  obtain ⟨t,ht,rfl⟩:=List.mem_map.1 hx
  exact List.mem_range.2 (idxT_lt (h t ht)))
 have h3:=allT_len (p:=p) hp 882
 rw [List.length_map,List.length_range] at h2
 rw [endT] at h2
 omega
end Go.Proofs.Ythnapjodmndlaaa
