/- Parts of the proof, joined into one text: Queue, SpreadI, GoalI, DistI, FromI, DistS, Pick, Reslice, SortI, AnsI, AnsT, HelpPair, ShortI, ShortS, Tab, AllA, TwoD. -/
import Derived.Test.YtjpdembmchnbgaaGreatOnlzOBDJDCGC
import Derived.Test.YtjpdembmchnbgaaGreatOnlzCIIIGEOP
import Derived.Test.YtjpdembmchnbgaaGreatOnlzNLACFOPA
import Derived.Deep.LoopGhost
import Derived.Test.YtjpdembmchnbgaaGreatOnlzGDHJDCMK
import Derived.Test.YtjpdembmchnbgaaGreatOnlzBJPCHMFC
import Derived.Test.YtjpdembmchnbgaaGreatOnlzADEMAGKM
import Derived.Test.YtjpdembmchnbgaaGreatOnlzFDEBOKAL
import Derived.Lib.Slices
import Derived.RegionTactic
import Derived.BigRegion
set_option linter.unusedVariables false
set_option linter.unusedSimpArgs false
namespace Go.Proofs.YtjpdembmchnbgaaGreat
open Go.ChangeShapes Go.WideShapes Go.ChangeAt Go.RowKit
def QRow (w:World) (lo:Nat) (e:TypeId) (k:Nat) (v:Value) (n:Nat) (xs:List Value):Prop :=
 xs.length=n * k /\
 ((v=.slice none 0 0/\n=0) ∨
  ∃ g o cap cur,v=.slice (some ⟨g,o,none⟩) n cap/\lo<=g/\w.heap[g]?=some (.cells cur e (0,0))/\n<=cap/\cap<=maxLen/\o+cap * k<=cur.size/\(cur.toList.drop o).take (n * k)=xs)
section
variable {w w':World} {lo k n:Nat} {e:TypeId} {v:Value} {xs:List Value}
theorem QRow.of_own (h:w.ownsRow lo e k v n xs):QRow w lo e k v n xs:=by
 obtain ⟨hl,hs⟩:=h
 refine ⟨hl,?_⟩
 rcases hs with hs | ⟨g,cap,cur,hv,hg,hh,hnc,hm,hsz,htk⟩
 · exact .inl hs
 · exact .inr ⟨g,0,cap,cur,hv,hg,hh,hnc,hm,by omega,by simpa using htk⟩
theorem QRow.lt (h:QRow w lo e k v n xs):∀ g,v.ownBlock=some g->lo<=g/\g < w.heap.size:=by
 intro g hg
 rcases h.2 with ⟨rfl,_⟩ | ⟨g',o,cap,cur,rfl,hl,hh,_⟩
 · cases hg
 · have:g'=g:=by simpa [Value.ownBlock] using hg
   subst this
   refine ⟨hl,?_⟩
   rcases Nat.lt_or_ge g' w.heap.size with hlt | hge
   · exact hlt
   · rw [Array.getElem?_eq_none hge] at hh;cases hh
theorem QRow.shape (h:QRow w lo e k v n xs):∃ A c,v=.slice A n c/\n<=c/\c<=maxLen:=by
 rcases h.2 with ⟨rfl,rfl⟩ | ⟨g,o,cap,cur,rfl,_,_,h1,h2,_⟩
 · exact ⟨_,_,rfl,Nat.le_refl _,by unfold maxLen;omega⟩
 · exact ⟨_,_,rfl,h1,h2⟩
theorem QRow.block (h:QRow w lo e k v n xs) (hb:∀ g,v.ownBlock=some g->w'.heap[g]?=w.heap[g]?):QRow w' lo e k v n xs:=by
 obtain ⟨hl,hs⟩:=h
 refine ⟨hl,?_⟩
 rcases hs with hs | ⟨g,o,cap,cur,rfl,hg,hh,r⟩
 · exact .inl hs
 · exact .inr ⟨g,o,cap,cur,rfl,hg,(hb g rfl).trans hh,r⟩
theorem QRow.below (h:QRow w lo e k v n xs) {B:Nat} (hb:Below B w w') (hB:w.heap.size<=B):QRow w' lo e k v n xs :=
 h.block fun g hg=>hb.block g (by have:=(h.lt g hg).2;omega)
theorem QRow.only (h:QRow w lo e k v n xs) {l r:Nat} (hb:Only l r w w') (ho:∀ g,v.ownBlock=some g->g < l ∨ r<=g):QRow w' lo e k v n xs :=
 h.block fun g hg=>hb.block g (h.lt g hg).2 (ho g hg)
theorem QRow.alloc (h:QRow w lo e k v n xs) (o:Obj):QRow (w.alloc o) lo e k v n xs :=
 h.block fun g hg=>Below.heap_alloc w o g (h.lt g hg).2
theorem QRow.cell (h:QRow w lo e k v n xs) (hn:0 < n):∃ g o c,v=.slice (some ⟨g,o,none⟩) n c/\lo<=g/\g < w.heap.size/\∀ j u,xs[j]?=some u->w.cell? ⟨g,o+j,none⟩=some u:=by
 have hlt:=h.lt
 obtain ⟨hl,hs⟩:=h
 rcases hs with ⟨_,h0⟩ | ⟨g,o,cap,cur,rfl,hg,hh,hnc,hm,hsz,htk⟩
 · omega
 · refine ⟨g,o,cap,rfl,hg,(hlt g rfl).2,fun j u hu=>?_⟩
   rw [cell_of_row w g (o+j) cur e (0,0) hh]
   have hj:j < n * k:=by rw [<- hl];exact (List.getElem?_eq_some_iff.1 hu).1
   rw [<- htk,List.getElem?_take,if_pos hj,List.getElem?_drop] at hu
   simpa using hu
/-- v[1:] -/
theorem QRow.tail (h:QRow w lo e k v (n+1) xs) {A:Option Addr} {c:Nat} (hv:v=.slice A (n+1) c):QRow w lo e k (.slice (if c=1 then A else A.map (·.add k)) n (c - 1)) n (xs.drop k):=by
 obtain ⟨hl,hs⟩:=h
 refine ⟨by rw [List.length_drop,hl,Nat.succ_mul];omega,?_⟩
 rcases hs with ⟨_,h0⟩ | ⟨g,o,cap,cur,rfl,hg,hh,hnc,hm,hsz,htk⟩
 · omega
 · injection hv with h1 _ h3
   subst h1 h3
   by_cases hc:cap=1
   · rw [if_pos hc]
     have hn0:n=0:=by omega
     subst hn0
     refine .inr ⟨g,o,_,cur,rfl,hg,hh,by omega,by omega,by subst hc;simp only [Nat.sub_self,Nat.zero_mul];omega,?_⟩
     have:xs.drop k=[]:=by rw [List.drop_eq_nil_iff,hl];omega
     rw [this];simp
   · rw [if_neg hc]
     refine .inr ⟨g,o+k,cap - 1,cur,?_,hg,hh,by omega,by omega,?_,?_⟩
     · simp only [Option.map_some,Addr.add]
       split
       · rename_i h0;subst h0;rfl
       · rfl
     · have:cap=(cap - 1)+1:=by omega
       rw [this,Nat.succ_mul] at hsz
       omega
     · rw [<- htk,List.drop_take,List.drop_drop,Nat.succ_mul]
       congr 1
       omega
end
section
variable {P:Program} (w:World)
theorem run_append_roomQ (t ty e:TypeId) (i:TypeInfo) (ht:P.underlying t=some (.slice e)) (hi:P.info? e=some i)
 (g o sLen sCap:Nat) (cur:Array Value) (hg:w.heap[g]?=some (.cells cur e (0,0)))
 (a:Addr) (m c:Nat) (news:List Value) (hl:news.length=m * i.size) (hnews:∀ j u,news[j]?=some u->w.cell? (a.add j)=some u) (h1:∀ u ∈ news,u.oneCell'=true)
 (hroom:sLen+m<=sCap) (hfit:o+sLen * i.size+news.length<=cur.size) :
 (Builtin.append_ #[t,t] ty #[.slice (some ⟨g,o,none⟩) sLen sCap,.slice (some a) m c]).run P w =
  .ok (.slice (some ⟨g,o,none⟩) (sLen+m) sCap) (w.setRow g (cur.toList.take (o+sLen * i.size) ++ news ++ cur.toList.drop (o+sLen * i.size+news.length)).toArray):=by
 have hf:=run_firstCells_some (P:=P) w i.size m a m c news hl hnews
 have hst:=run_storeCells_at P g (o+sLen * i.size) e news 0 cur w hg (by simpa using hfit) h1
 simp only [Nat.add_zero] at hst
 have hadd:(⟨g,o,none⟩:Addr).add (sLen * i.size)=⟨g,o+sLen * i.size,none⟩:=by
  unfold Addr.add
  split
  · rename_i h0;rw [h0];rfl
  · rfl
 simp [Builtin.append_,run_underlying ht,sizeOf,typeInfo,hi,Builtin.lenOf,hroom,hf,hadd,hst]
theorem run_appendQ (base:Nat) (t ty e:TypeId) (i:TypeInfo) (z:Value) (size bytes:Nat) (ht:P.underlying t=some (.slice e)) (hi:P.info? e=some i) (hz:i.zero=some z)
 (hsize:i.size=size) (hby:i.bytes=bytes) (hzs:z.cells.size=size) (hsz:0 < size)
 (v:Value) (n:Nat) (xs:List Value) (hown:QRow w base e size v n xs)
 (a:Addr) (m c:Nat) (news:List Value) (hm0:0 < m) (hl:news.length=m * size) (hnews:∀ j u,news[j]?=some u->w.cell? (a.add j)=some u) (h1:∀ u ∈ news,u.oneCell'=true)
 (h63:n+m<=maxLen) (hbytes:(n+m) * bytes<=140737488355328) (hbase:base<=w.heap.size) :
 ∃ v' w',(Builtin.append_ #[t,t] ty #[v,.slice (some a) m c]).run P w=.ok v' w'/\QRow w' base e size v' (n+m) (xs ++ news)/\w.grownBy w' v.ownBlock/\(v'.ownBlock=v.ownBlock ∨ v'.ownBlock=some w.heap.size):=by
 rcases hown.2 with ⟨rfl,rfl⟩ | ⟨g,o,cap,cur,rfl,hbg,hg,hnc,hcm,hcs,htake⟩
 · have hx:xs=[]:=List.eq_nil_of_length_eq_zero (by simpa using hown.1)
   subst hx
   obtain ⟨v',w',hr,h2,h3,_,h5⟩:=run_append_own_at (P:=P) w base t ty e i z size bytes ht hi hz hsize hby hzs hsz (.slice none 0 0) 0 [] (World.ownsRow_nil w base e size) a m c news hl hnews h1 h63 hbytes hbase
   exact ⟨v',w',hr,QRow.of_own h2,h3,h5⟩
 · subst hsize hby
   have hsmall:n+m<=9223372036854775807:=by simp only [maxLen] at h63;omega
   have hlen:(xs ++ news).length=(n+m) * i.size:=by rw [List.length_append,hown.1,hl,Nat.add_mul]
   by_cases hroom:n+m<=cap
   · have hfit:o+n * i.size+news.length<=cur.size:=by
      rw [hl,Nat.add_assoc,<- Nat.add_mul]
      have:=Nat.mul_le_mul_right i.size hroom
      omega
     have hr:=run_append_roomQ (P:=P) w t ty e i ht hi g o n cap cur hg a m c news hl hnews h1 hroom hfit
     refine ⟨_,_,hr,⟨hlen,.inr ⟨g,o,cap,_,rfl,hbg,setRow_heap w g cur _ e _ hg,hroom,hcm,?_,?_⟩⟩,⟨rfl,rfl,rfl,by simp,fun k _ hk=>setRow_other w g k _ (fun e=>hk (by simp [Value.ownBlock,e]))⟩,.inl rfl⟩
     · simp only [List.size_toArray,List.length_append,List.length_take,List.length_drop,Array.length_toList]
       omega
     · have h2:(cur.toList.take (o+n * i.size)).drop o=xs:=by rw [List.drop_take,Nat.add_sub_cancel_left];exact htake
       have hle:o<=(cur.toList.take (o+n * i.size)).length:=by rw [List.length_take,Array.length_toList];omega
       rw [List.append_assoc,List.drop_append_of_le_length hle,h2,<- List.append_assoc,<- hlen]
       exact List.take_left
   · have holds:∀ j u,xs[j]?=some u->w.cell? ((⟨g,o,none⟩:Addr).add j)=some u:=by
      intro j u hu
      have hj:j < n * i.size:=by rw [<- hown.1];exact (List.getElem?_eq_some_iff.1 hu).1
      have hadd:(⟨g,o,none⟩:Addr).add j=⟨g,o+j,none⟩:=by
       unfold Addr.add
       split
       · rename_i h0;subst h0;rfl
       · rfl
      rw [hadd,cell_of_row w g (o+j) cur e (0,0) hg]
      rw [<- htake,List.getElem?_take,if_pos hj,List.getElem?_drop] at hu
      simpa using hu
     have hr:=run_append_grow (P:=P) w t ty e i z ht hi hz ⟨g,o,none⟩ n cap xs hown.1 holds a m c news hl hnews (by omega) (by omega) (growslice_fits (by omega) hbytes)
     have hge:=grownCap_ge w (n+m) cap e
     have hcm2:grownCap w (n+m) cap e<=maxLen:=grownCap_le_maxLen w (n+m) cap e h63
     refine ⟨_,_,hr,⟨hlen,.inr ⟨w.heap.size,0,_,_,rfl,hbase,heap_alloc_new w.drew _,hge,hcm2,?_,?_⟩⟩,⟨rfl,rfl,rfl,by simp,fun k hk _=>Below.heap_alloc w.drew _ k hk⟩,.inr rfl⟩
     · simp only [Array.size_append,List.size_toArray,size_zeroCells,hzs,hown.1,hl,<- Nat.add_mul,Nat.zero_add]
       apply Nat.le_of_eq
       congr 1
       omega
     · rw [List.drop_zero,Array.toList_append,Array.toList_append,<- hlen]
       exact List.take_left
/-- append(q, x): the one element was laid in a block of its own first -/
theorem wpList_appendQ1 {w:World} {α:Type} (E:α->List Value) {ops:Array Oper} {rest:List Oper} {o:Oper} {a:Act} {Q:Exit->Act->World->Prop} {t e:TypeId} {z:Value} {k bytes:Nat} (el:ElemOk P t e z k bytes)
 (hgd:o.guard=none) (s y:Operand) (ho:o.op=.call { callee:=.builtin .append,args:=#[s,y],argTypes:=#[t,t] })
 (base:Nat) (v:Value) (xs:List α) (x:α) (cs:Array Value) (c H:Nat) (hs:a.eval s=v) (hown:QRow w base e k v xs.length (xs.flatMap E)) (hy:a.eval y=.slice (some ⟨H,0,none⟩) 1 c) (hH:H=w.heap.size)
 (hcs:cs=(E x).toArray) (hE:(E x).length=k) (h1:∀ u ∈ E x,u.oneCell'=true) (hbytes:(xs.length+1) * bytes<=140737488355328) (hb0:0 < bytes) (hbase:base<=w.heap.size)
 (h:∀ v' w',QRow w' base e k v' (xs ++ [x]).length ((xs ++ [x]).flatMap E)->Below base w w'->(v'.ownBlock=v.ownBlock ∨ ∃ g,v'.ownBlock=some g/\w.heap.size<=g)->(w.alloc (.cells cs e)).grownBy w' v.ownBlock->wpList P ops Q rest (a.put o.dst v') w') :
 wpList P ops Q (o :: rest) a (w.alloc (.cells cs e)):=by
 subst hcs hH
 obtain ⟨i,hi,hz0,hz1,hz2⟩:=info_parts el.info
 have hlen:xs.length+1<=140737488355328:=Nat.le_trans (Nat.le_mul_of_pos_right _ hb0) hbytes
 obtain ⟨v',w',hr,h2,h3,h5⟩:=run_appendQ (P:=P) (w.alloc (.cells (E x).toArray e)) base t o.type e i z k bytes el.und hi hz0 hz1 hz2 el.zc el.pos v xs.length (xs.flatMap E) (hown.alloc _) ⟨w.heap.size,0,none⟩ 1 c (E x) (by omega) (by rw [hE,Nat.one_mul])
  (fun j u hu=>by
   have hadd:(⟨w.heap.size,0,none⟩:Addr).add j=⟨w.heap.size,j,none⟩:=by unfold Addr.add;split <;> simp_all
   rw [hadd,World.cell?_alloc_new]
   simpa using hu) h1 (by unfold maxLen;omega) hbytes (by simp;omega)
 refine wpList_plain hgd fun K hK=>?_
 unfold Oper.wp execOp
 simp only [ho,resolve,invoke,builtin,Sem.run_bind,Sem.run_pure,Result.andThen_ok,List.map_toArray,List.map_cons,List.map_nil,hs,hy,hr]
 refine hK _ _ (h v' w' (by simpa using h2) ((((Below.refl base w).alloc hbase _)).trans ((Below.refl _ _).grown h3 (by simp;omega) (fun g hg=>(hown.lt g hg).1))) ?_ h3)
 rcases h5 with h5 | h5
 · exact .inl h5
 · exact .inr ⟨_,h5,by simp⟩
end
end Go.Proofs.YtjpdembmchnbgaaGreat
namespace Go.Proofs.YtjpdembmchnbgaaGreat
open Go.ChangeShapes Go.WideShapes Go.ChangeAt Go.RowKit
attribute [local go_sem] ext_cell ext_frozen ext_lt ext_lt1 ext_lt2 ext_lt3 ltn2 ltn3 ltn13 lts1 lts2 lts3
set_option maxHeartbeats 8000000 in
set_option maxRecDepth 100000 in
theorem spread_any (v lv:Value) (N:Nat) (next:Nat->List Nat) (fs:List Nat) (w:World) (hv:SSE 0 w.heap.size w cN 1 v ((List.range N).map next)) (hl:SlE w cN 1 lv fs) (hN1:1<=N) (hN:N<=60) (hfl:fs.length<=60) (hfs:∀ i ∈ fs,i < N)
 (hnext:∀ i,i < N->∀ k ∈ next i,k < N) :
 Calls Tryz.prog 117 #[v,lv] w fun e w'=>∃ v',e=.returned v'/\Own w.heap.size w'.heap.size w' 3 cI 1 v' (spreadR N next fs)/\Below w.heap.size w w':=by
 obtain ⟨A5,c5,hv5,hl5,hm5⟩:=hv.shape
 have hlen5:((List.range N).map next).length=N:=by simp
 rw [hlen5] at hv5 hl5
 subst hv5
 obtain ⟨A6,c6,rfl,hl6,hm6,hC6⟩:=hl.form
 have HV:=Hd_ hv
 have HNX:=Hd_ hnext
 have HFS:=Hd_ hfs
 have HC6:=Hd_ hC6
 clear hv hnext hlen5 hl hC6 hfs
 obtain ⟨R,hR⟩:∃ R,R=spreadR N next fs:=⟨_,rfl⟩
 rw [<- hR]
 have HR:=Hd_ hR
 clear hR
 have hb0:Below w.heap.size w (w.alloc (.cells #[.int .i64 (-1)] 3)):=(Below.refl _ _).alloc (Nat.le_refl _) _
 have hone:SlE (w.alloc (.cells #[.int .i64 (-1)] 3)) cI 1 (.slice (some ⟨w.heap.size,0,none⟩) 1 1) [-1]:=by
  have h:=Own.of_row (xs:=[(-1:Int)]) (E:=cI) (World.ownsRow_lit (base:=0) (e:=3) (size:=1) w #[.int .i64 (-1)] 1 (Nat.zero_le _) (by decide) rfl) rfl rfl
  have h2:=h.sl cI_len
  simpa [SlE] using h2
 have HONE:=Hd_ hone
 clear hone
 go_enter Tryz.func117,Tryz.ntmps117
 go_wp2_with fail
 refine (repeat_any _ (-1) N _ hN1 (by omega) HONE.out).mono ?_
 rintro e w2 ⟨g,rfl,hrow,hb2⟩
 have hgl:=hrow.lt g rfl
 simp only [World.size_alloc] at hgl
 have hbel:=below_trans hb0 hb2
 have HROW:=Hd_ hrow
 clear hrow hb0 hb2
 go_wp2_with fail
 go_loopw [6,18] (fun qv jj wr=>∃ j:Nat,j<=fs.length/\jj=.int .i64 (j:Int)/\wr.ownsRow w.heap.size 3 1 (.slice (some ⟨g,0,none⟩) N N) N ((srcD N (fs.take j)).flatMap cI) /\
  QRow wr w2.heap.size 3 1 qv (fs.take j).length ((fs.take j).flatMap cN)/\Below w.heap.size w wr/\w2.heap.size<=wr.heap.size) (fun _ jj _=>fs.length - (intOf jj).toNat)
 case atStart =>
  refine ⟨0,Nat.zero_le _,rfl,?_,QRow.of_own (World.ownsRow_lit w2 #[] 0 (Nat.le_refl _) (by decide) rfl),hbel.alloc hbel.size _,by simp⟩
  exact ownsRow_mono ((ownsRow_below' HROW.out ((Below.refl w2.heap.size w2).alloc (Nat.le_refl _) _) (by omega))) (by simp)
 case round =>
  clear hbel
  obtain ⟨j,hj,rfl,hrow,hq,hbel,hsz⟩:=hrel
  have HROW:=Hd_ hrow
  have HQ:=Hd_ hq
  clear hrow hq
  by_cases hlt:j < fs.length
  · have hki:fs[j]?=some fs[j]:=List.getElem?_eq_getElem hlt
    have hkn:=HFS.out _ (List.getElem_mem hlt)
    generalize fs[j]=k at hki hkn
    obtain ⟨b6,o6,rfl,hb6,d6⟩:=HC6.out.nat hki
    have d6:=(hbel.cell (p:=⟨b6,o6+j,none⟩) hb6).trans d6
    have hkc:=(World.ownsRow.cellAt HROW.out k (by omega)).trans (flatI_at (getD_of (by rw [srcD_len];exact hkn)))
    have hkf:=World.ownsRow.frozenAt HROW.out k
    have hrow2:=(World.ownsRow.stored HROW.out k (.int .i64 0)).1
    rw [flatI_set,<- srcD_snoc,<- take_snoc hki] at hrow2
    have hq2:=HQ.out.only ((Only.refl g (g+1) wr).setCell (p:=⟨g,k,none⟩) (.inl ⟨Nat.le_refl _,Nat.lt_succ_self _⟩) (.int .i64 0)) (fun b hb=>.inr (by have:=(HQ.out.lt b hb).1;omega))
    have hbel2:=hbel.setCell (p:=⟨g,k,none⟩) (show w.heap.size<=g by omega) (.int .i64 0)
    have HR2:=Hd_ hrow2
    have HQ2:=Hd_ hq2
    have HKI:=Hd_ hki
    have htl:(fs.take j).length<=60:=by rw [List.length_take];omega
    have hkN:(k:Int) < (N:Int):=by omega
    clear hrow2 hq2 hki
    go_wp2_with (at_builtin;(refine wpList_appendQ1 cN elInt rfl _ _ rfl w2.heap.size _ (fs.take j) k _ 1 wr.heap.size (by rfl) HQ2.out (by rfl) (by simp) rfl rfl (cN_one _) (by omega) (by omega) (by simpa using hsz) ?_);rw [<- take_snoc HKI.out];intro v' w4 hq3 hb3 _ _)
    go_roundw
    case rel=>exact ⟨j+1,by omega,by go_num,ownsRow_below' HR2.out hb3 (by omega),hq3,hbel2.trans (hb3.mono (by omega)),by have:=hb3.size;simp at this;omega⟩
    case measure=>simp [intOf];omega
  · obtain rfl:j=fs.length:=by omega
    rw [List.take_length] at HROW HQ
    obtain ⟨F,hF⟩:∃ F,F=fs.length+N:=⟨_,rfl⟩
    have hF2:F<=120:=by omega
    have hini:=srcD_bfsI HFS.out
    rw [<- hF] at hini
    have hRF:bfs next F (srcD N fs) fs=R:=by rw [HR.out,spreadR,hF]
    have HINI:=Hd_ hini
    have HRF:=Hd_ hRF
    clear hF hini hRF
    go_wp2_with fail
    go_loopg [6] F (fun k qv wr=>∃ (D:List Int) (q:List Nat),BfsI N F k D q/\bfs next k D q=R/\wr.ownsRow w.heap.size 3 1 (.slice (some ⟨g,0,none⟩) N N) N (D.flatMap cI) /\
     QRow wr w2.heap.size 3 1 qv q.length (q.flatMap cN)/\Below w.heap.size w wr/\w2.heap.size<=wr.heap.size)
    case atStart=>exact ⟨_,_,HINI.out,HRF.out,HROW.out,HQ.out,hbel,hsz⟩
    case round =>
     clear HROW HQ hbel hsz
     obtain ⟨D,q,hI,hB,hrow,hq,hbel,hsz⟩:=hrel
     have HI:=Hd_ hI
     have HB:=Hd_ hB
     have HROW:=Hd_ hrow
     have HQ:=Hd_ hq
     clear hI hB hrow hq
     cases q with
     | nil =>
       have hfin:D=R:=by rw [<- HB.out,bfs_nil]
       obtain ⟨A4,c4,rfl,hc4,hc5⟩:=HQ.out.shape
       have HF:=Hd_ hfin
       have hown:Own w.heap.size wr.heap.size wr 3 cI 1 (.slice (some ⟨g,0,none⟩) N N) D:=Own.of_row HROW.out HI.out.len rfl
       have HO:=Hd_ hown
       clear hfin hown
       simp only [List.length_nil] at *
       go_wp2_with fail
       go_ret
       exact ⟨_,rfl,by rw [<- HF.out];exact HO.out,hbel⟩
     | cons h q =>
       obtain ⟨f,rfl⟩:∃ f,gk=f+1:=⟨gk - 1,by have:=HI.out.fuel;rw [List.length_cons] at this;omega⟩
       obtain ⟨hhN,hh0⟩:=HI.out.queue h (by simp)
       obtain ⟨b5,o5,A7,c7,rfl,-,hb5,d5,hl7,hm7,hI7,-⟩:=HV.out.row (Nat.le_refl _) (i:=h) (xs:=next h) (by simp [hhN])
       have d5:=(hbel.cell (p:=⟨b5,o5+h,none⟩) hb5).trans d5
       have hb5w:=Nat.lt_of_lt_of_le hb5 hbel.size
       obtain ⟨gq,oq,cq,rfl,hgq1,hgq2,hqc⟩:=HQ.out.cell (by simp)
       have dq:=hqc 0 _ rfl
       simp only [Nat.add_zero] at dq
       have HI7:=Hd_ hI7
       have hhx:(h:Int) < (N:Int):=by omega
       clear hqc hI7
       have hlc:(h :: q).length=q.length+1:=rfl
       rw [hlc] at HQ ⊢
       clear hlc
       go_wp2_with fail
       have htop:=HI.out.top h
       have hpop:=HI.out.pop
       obtain ⟨dd,hdd⟩:∃ dd,dd=D.getD h 0:=⟨_,rfl⟩
       rw [<- hdd] at htop hh0
       have HDD:=Hd_ hdd
       have HPOP:=Hd_ hpop
       clear hdd hpop
       go_loopw [6,42] (fun qv jj wr=>∃ (j:Nat) (D':List Int) (q':List Nat),j<=(next h).length/\jj=.int .i64 (j:Int)/\BfsI N F f D' q'/\D'.getD h 0=dd/\relax (dd+1) ((next h).drop j) D' q'=relax (dd+1) (next h) D q /\
        wr.ownsRow w.heap.size 3 1 (.slice (some ⟨g,0,none⟩) N N) N (D'.flatMap cI)/\QRow wr w2.heap.size 3 1 qv (q'.length+1) ((h :: q').flatMap cN)/\Below w.heap.size w wr/\w2.heap.size<=wr.heap.size) (fun _ jj _=>(next h).length - (intOf jj).toNat)
       case atStart=>exact ⟨0,D,q,Nat.zero_le _,rfl,HPOP.out,HDD.out.symm,by rw [List.drop_zero],HROW.out,HQ.out,hbel,hsz⟩
       case round =>
        clear d5 dq hb5w hgq1 hgq2 HROW HQ hbel hsz
        obtain ⟨j,D',q',hj,rfl,hI2,hDh,hrx,hrow,hq,hbel,hsz⟩:=hrel
        have HI2:=Hd_ hI2
        have HDH:=Hd_ hDh
        have HRX:=Hd_ hrx
        have HROW:=Hd_ hrow
        have HQ:=Hd_ hq
        clear hI2 hDh hrx hrow hq
        by_cases hlt:j < (next h).length
        · have hki:(next h)[j]?=some (next h)[j]:=List.getElem?_eq_getElem hlt
          have hdr:(next h).drop j=(next h)[j] :: (next h).drop (j+1):=List.drop_eq_getElem_cons hlt
          have hkn:=HNX.out h hhN _ (List.getElem_mem hlt)
          generalize (next h)[j]=k at hki hkn hdr
          obtain ⟨b7,o7,rfl,-,hb7,d7⟩:=HI7.out.nat hki
          have d7:=(hbel.cell (p:=⟨b7,o7+j,none⟩) hb7).trans d7
          have hb7w:=Nat.lt_of_lt_of_le hb7 hbel.size
          have hkl:k < D'.length:=by rw [HI2.out.len];exact hkn
          have hhl:h < D'.length:=by rw [HI2.out.len];exact hhN
          have hkc:=(World.ownsRow.cellAt HROW.out k (by omega)).trans (flatI_at (getD_of hkl))
          have hkf:=World.ownsRow.frozenAt HROW.out k
          have hkN:(k:Int) < (N:Int):=by omega
          have hgw:=(HROW.out.lt g rfl).2
          have HDR:=Hd_ hdr
          clear hki hdr
          by_cases hneg:D'.getD k 0 < 0
          · have hhc:=(World.ownsRow.cellAt HROW.out h (by omega)).trans (flatI_at (getD_of hhl))
            rw [HDH.out] at hhc
            have hnew:=HI2.out.new hkn hneg (d:=dd+1) (by omega) (by omega)
            have hrow2:=(World.ownsRow.stored HROW.out k (.int .i64 (dd+1))).1
            rw [flatI_set] at hrow2
            have hq2:=HQ.out.only ((Only.refl g (g+1) wr).setCell (p:=⟨g,k,none⟩) (.inl ⟨Nat.le_refl _,Nat.lt_succ_self _⟩) (.int .i64 (dd+1))) (fun b hb=>.inr (by have:=(HQ.out.lt b hb).1;omega))
            have hbel2:=hbel.setCell (p:=⟨g,k,none⟩) (show w.heap.size<=g by omega) (.int .i64 (dd+1))
            obtain ⟨gq,oq,cq,rfl,hgq1,hgq2,hqc⟩:=HQ.out.cell (by simp)
            have dq:=hqc 0 _ rfl
            simp only [Nat.add_zero] at dq
            have hrx2:relax (dd+1) ((next h).drop (j+1)) (D'.set k (dd+1)) (q' ++ [k])=relax (dd+1) (next h) D q:=by rw [<- HRX.out,HDR.out,relax_mid _ _ _ _ _ hneg]
            have hDh2:(D'.set k (dd+1)).getD h 0=dd:=by
             rw [getD_set' hkl,if_neg (by intro e;subst e;rw [HDH.out] at hneg;omega)];exact HDH.out
            have hql:q'.length<=200:=by have:=HI2.out.fuel;omega
            have HNEW:=Hd_ hnew
            have HR2:=Hd_ hrow2
            have HQ2:=Hd_ hq2
            have HRX2:=Hd_ hrx2
            have HDH2:=Hd_ hDh2
            generalize D'.getD k 0=x at hkc hneg
            have hgq9:g ≠ gq:=by omega
            clear hnew hrow2 hq2 hrx2 hDh2 hqc
            go_wp2_with (at_builtin;(refine wpList_appendQ1 cN elInt rfl _ _ rfl w2.heap.size (.slice (some ⟨gq,oq,none⟩) (q'.length+1) cq) (h :: q') k _ 1 wr.heap.size (by rfl) HQ2.out (by rfl) (by simp) rfl rfl (cN_one _) (by simp only [List.length_cons];omega) (by omega) (by simpa using hsz) ?_);intro v' w4 hq3 hb3 _ _)
            go_roundw
            case rel=>exact ⟨j+1,_,_,by omega,by go_num,HNEW.out,HDH2.out,HRX2.out,ownsRow_below' HR2.out hb3 (by omega),by simpa using hq3,hbel2.trans (hb3.mono (by omega)),by have:=hb3.size;simp at this;omega⟩
            case measure=>simp [intOf];omega
          · have hrx2:relax (dd+1) ((next h).drop (j+1)) D' q'=relax (dd+1) (next h) D q:=by rw [<- HRX.out,HDR.out,relax_old _ _ _ _ _ hneg]
            have HRX2:=Hd_ hrx2
            generalize D'.getD k 0=x at hkc hneg
            clear hrx2
            go_wp2_with fail
            go_roundw
            case rel=>exact ⟨j+1,_,_,by omega,by go_num,HI2.out,HDH.out,HRX2.out,HROW.out,HQ.out,hbel,hsz⟩
            case measure=>simp [intOf];omega
        · obtain rfl:j=(next h).length:=by omega
          have hrx2:=HRX.out
          rw [List.drop_length,relax] at hrx2
          have hBF:bfs next f D' q'=R:=by
           rw [<- HB.out,bfs,<- HDD.out,<- hrx2]
          obtain ⟨A9,c9,h9,hc8,hc9⟩:=HQ.out.shape
          obtain ⟨g5,o5,c5,rfl,-,-,-⟩:=HQ.out.cell (by omega)
          obtain rfl:c5=c9:=by injection h9
          have htail:=HQ.out.tail rfl
          simp only [List.flatMap_cons,cN,List.cons_append,List.nil_append,List.drop_succ_cons,List.drop_zero] at htail
          unfold maxLen at hc9
          have HBF:=Hd_ hBF
          clear hrx2 hBF h9
          by_cases hc1:c5=1
          · subst hc1
            obtain rfl:q'=[]:=List.eq_nil_of_length_eq_zero (by omega)
            rw [if_pos rfl] at htail
            simp only [List.length_nil] at *
            have HT:=Hd_ htail
            clear htail
            go_wp2_with fail
            go_roundg f
            case measure=>exact Nat.lt_succ_self _
            case rel=>exact ⟨_,_,HI2.out,HBF.out,HROW.out,HT.out,hbel,hsz⟩
          · rw [if_neg hc1] at htail
            have HT:=Hd_ htail
            clear htail
            go_wp2_with fail
            go_roundg f
            case measure=>exact Nat.lt_succ_self _
            case rel=>exact ⟨_,_,HI2.out,HBF.out,HROW.out,HT.out,hbel,hsz⟩
set_option maxHeartbeats 4000000 in
theorem goals_any (vg va:Value) (g:Gr) (a:Au) (y:Nat) (w:World) (hgv:GrV 0 w.heap.size w vg g) (hav:AuV 0 w.heap.size w va a) (hg:GrOk g) (ha:auOk a=true) (hy:y < g.vals.length) :
 Calls Tryz.prog 120 #[vg,va,.int .i64 (y:Int)] w fun e w'=>∃ v',e=.returned v'/\Own w.heap.size w'.heap.size w' 3 cN 1 v' (goalsL g a y)/\Below w.heap.size w w':=by
 have hav0:=hav
 obtain ⟨A1,c1,A2,c2,rfl,hl1,hm1,-,-,hC1,-⟩:=hgv.form
 obtain ⟨A3,c3,A4,c4,rfl,hl3,hm3,hl4,hm4,-⟩:=hav.form ha
 have hn5:=hg.n5
 have hn12:=(auOk_iff.1 ha).1.2
 have hxi:g.vals[y]?=some g.vals[y]:=List.getElem?_eq_getElem hy
 have hvr:=hg.vals _ (List.getElem_mem hy)
 generalize g.vals[y]=vx at hxi hvr
 obtain ⟨vx,rfl⟩:=Int.eq_ofNat_of_zero_le hvr.1
 have hva:=valAt_of hxi
 rw [Int.toNat_natCast] at hva
 obtain ⟨b1,o1,rfl,hb1,d1⟩:=hC1.int hxi
 have HAO:=Hd_ ha
 have HAV:=Hd_ hav0
 have HVA:=Hd_ hva
 have hb0:Below w.heap.size w ((w.alloc (.cells #[.slice (some ⟨b1,o1,none⟩) g.vals.length c1,.slice A2 g.edges.length c2] 27)).alloc (.cells #[.int .i64 a.start,.slice A3 a.accept.length c3,.slice A4 a.accept.length c4] 31)):=((Below.refl _ _).alloc (Nat.le_refl _) _).alloc (by simp) _
 have hyn:y * a.accept.length+a.accept.length<=60:=by have:=Nat.mul_le_mul (show y+1<=5 by omega) hn12;rw [Nat.succ_mul] at this;omega
 obtain ⟨yn,hyn2⟩:∃ yn,yn=y * a.accept.length:=⟨_,rfl⟩
 rw [<- hyn2] at hyn
 have q1:IntKind.i64.wrap ((y:Int) * (a.accept.length:Int))=(yn:Int):=by rw [IntWalk.i64_in _ (by rw [<- Int.natCast_mul,<- hyn2];omega),hyn2,Int.natCast_mul]
 have q1':(y:Int) * (a.accept.length:Int)=(yn:Int):=by rw [hyn2,Int.natCast_mul]
 have q5:IntKind.i64.wrap (yn:Int)=(yn:Int):=IntWalk.i64_in _ (by omega)
 have HYN:=Hd_ hyn2
 clear hgv hav ha hg hav0 hva hxi hC1 hyn2
 go_enter Tryz.func120,Tryz.ntmps120
 go_wp2_with fail
 obtain ⟨W0,hW0⟩:∃ W0,W0=((w.alloc (.cells #[.slice (some ⟨b1,o1,none⟩) g.vals.length c1,.slice A2 g.edges.length c2] 27)).alloc (.cells #[.int .i64 a.start,.slice A3 a.accept.length c3,.slice A4 a.accept.length c4] 31)):=⟨_,rfl⟩
 rw [<- hW0] at hb0 ⊢
 have x0:W0.cell? ⟨w.heap.size,0,none⟩=some (.slice (some ⟨b1,o1,none⟩) g.vals.length c1):=by rw [hW0];simp
 have y0:W0.cell? ⟨w.heap.size+1,0,none⟩=some (.int .i64 a.start):=by rw [hW0];simp
 have y1:W0.cell? ⟨w.heap.size+1,1,none⟩=some (.slice A3 a.accept.length c3):=by rw [hW0];simp
 have y2:W0.cell? ⟨w.heap.size+1,2,none⟩=some (.slice A4 a.accept.length c4):=by rw [hW0];simp
 have d1:=kcell hb0 d1
 have l0:w.heap.size+1 < W0.heap.size:=by rw [hW0];simp
 have hs0:w.heap.size+1+1=W0.heap.size:=by rw [hW0];simp
 rw [hs0]
 clear hW0 hs0
 go_loopw [8,9] (fun out ii wr=>∃ i:Nat,i<=a.accept.length/\ii=.int .i64 (i:Int)/\wr.ownsRow W0.heap.size 3 1 out (goalsTo g a y i).length ((goalsTo g a y i).flatMap cN)/\Below W0.heap.size W0 wr) (fun _ ii _=>a.accept.length - (intOf ii).toNat)
 case atStart=>exact ⟨0,Nat.zero_le _,rfl,World.ownsRow_lit W0 #[] 0 (Nat.le_refl _) (by decide) rfl,(Below.refl _ _).alloc (Nat.le_refl _) _⟩
 case round =>
  obtain ⟨i,hi,rfl,hrow,hbel⟩:=hrel
  have HROW:=Hd_ hrow
  have hgl:=goalsTo_len g a y i
  clear hrow
  by_cases hlt:i < a.accept.length
  · have x0:=kcell hbel x0
    have y0:=kcell hbel y0
    have y1:=kcell hbel y1
    have y2:=kcell hbel y2
    have d1:=kcell hbel d1
    have hsz:=hbel.size
    have hsz0:=hb0.size
    have k0:w.heap.size < wr.heap.size:=by omega
    have k1:w.heap.size+1 < wr.heap.size:=by omega
    have k2:b1 < wr.heap.size:=by omega
    have hbw:=below_trans hb0 hbel
    have s1:=shl_bit (s:=i) (by omega)
    have s2:=shl_bit2 (s:=i) (by omega)
    have s3:=shl_bit3 (s:=i) (by omega)
    have q2:IntKind.i64.wrap ((yn:Int)+(i:Int))=(yn:Int)+(i:Int):=IntWalk.i64_in _ (by omega)
    have hyy:(y:Int) < (g.vals.length:Int):=by omega
    cases hb:accC a vx i with
    | true =>
      have hacc:∀ W,Below w.heap.size w W->Calls Tryz.prog 99 #[.agg #[.int .i64 a.start,.slice A3 a.accept.length c3,.slice A4 a.accept.length c4],.int .i64 (bit i:Int),.int .i64 (vx:Int)] W fun e w'=>e=.returned (.bool true)/\Below W.heap.size W w':=fun W hW=>by
       have h:=acceptsAt_any _ a (bit i) vx W (HAV.out.keep hW) HAO.out (bit_lt hlt) (by omega)
       rwa [acc_one _ _ (show i < 12 by omega),hb] at h
      have HACC:=Hd_ hacc
      have hgt:=goalsTo_yes (g:=g) (a:=a) (y:=y) (i:=i) (by rw [HVA.out];exact hb)
      rw [<- HYN.out] at hgt
      have HGT:=Hd_ hgt
      clear hacc hb hgt
      go_wp2_with fail
      refine wp_region_ext_lit (by kernel_rfl) (by kernel_rfl) ?_
      repeat (go_big_quiet_step ((go_at_call 99;exact Calls.ext_of (HACC.out _ (below_trans hbw (ext_below _ _))))))
      refine wpQuiet_nil ?_
      rintro _ ⟨u2,rfl⟩
      have hbx:=ext_below wr u2
      have HROX:=Hd_ (ownsRow_below HROW.out hbx (Nat.le_refl _))
      have hszx:=hbx.size
      go_wp2_with (at_builtin;(refine wpList_append1 cN elInt rfl _ _ rfl W0.heap.size _ (goalsTo g a y i) (yn+i) _ 1 _ (by rfl) HROX.out (by rfl) rfl rfl rfl (cN_one _) (by omega) (by omega) (by omega) ?_);rw [<- HGT.out];intro v' w4 hrow' hb4 _ _)
      go_roundw
      case rel=>exact ⟨i+1,by omega,by go_num,hrow',(hbel.trans (hbx.mono hsz)).trans hb4⟩
      case measure=>simp [intOf];omega
    | false =>
      have hacc:∀ W,Below w.heap.size w W->Calls Tryz.prog 99 #[.agg #[.int .i64 a.start,.slice A3 a.accept.length c3,.slice A4 a.accept.length c4],.int .i64 (bit i:Int),.int .i64 (vx:Int)] W fun e w'=>e=.returned (.bool false)/\Below W.heap.size W w':=fun W hW=>by
       have h:=acceptsAt_any _ a (bit i) vx W (HAV.out.keep hW) HAO.out (bit_lt hlt) (by omega)
       rwa [acc_one _ _ (show i < 12 by omega),hb] at h
      have HACC:=Hd_ hacc
      have hgt:=goalsTo_no (g:=g) (a:=a) (y:=y) (i:=i) (by rw [HVA.out];exact hb)
      have HGT:=Hd_ hgt
      clear hacc hb hgt
      go_wp2_with fail
      refine wp_region_ext_lit (by kernel_rfl) (by kernel_rfl) ?_
      repeat (go_big_quiet_step ((go_at_call 99;exact Calls.ext_of (HACC.out _ (below_trans hbw (ext_below _ _))))))
      refine wpQuiet_nil ?_
      rintro _ ⟨u2,rfl⟩
      have hbx:=ext_below wr u2
      have HROX:=Hd_ (ownsRow_below HROW.out hbx (Nat.le_refl _))
      go_wp2_with fail
      go_roundw
      case rel=>exact ⟨i+1,by omega,by go_num,by rw [HGT.out];exact HROX.out,hbel.trans (hbx.mono hsz)⟩
      case measure=>simp [intOf];omega
  · obtain rfl:i=a.accept.length:=by omega
    have hown:=Own.of_row (xs:=goalsTo g a y a.accept.length) (ownsRow_mono HROW.out hb0.size) rfl rfl
    have HO:=Hd_ hown
    clear hown
    go_wp2_with fail
    go_ret
    exact ⟨_,rfl,HO.out,below_trans hb0 hbel⟩
/-- a literal of ints, laid in a block of its own -/
theorem lit_sl (w:World) (e:TypeId) (xs:List Int) (hm:xs.length<=maxLen):SlE (w.alloc (.cells (xs.map (Value.int .i64)).toArray e)) cI 1 (.slice (some ⟨w.heap.size,0,none⟩) xs.length xs.length) xs:=by
 have h1:xs.flatMap cI=(xs.map (Value.int .i64)):=by
  induction xs with
  | nil=>rfl
  | cons x xs ih=>rw [List.flatMap_cons,List.map_cons,ih (by simp at hm;omega)];rfl
 have h:=Own.of_row (xs:=xs) (E:=cI) (World.ownsRow_lit (base:=0) (e:=e) (size:=1) w (xs.map (Value.int .i64)).toArray xs.length (Nat.zero_le _) hm (by simp)) rfl (by simp [h1])
 exact (h.sl cI_len).all (Nat.le_refl _)
set_option maxHeartbeats 4000000 in
set_option maxRecDepth 100000 in
theorem implDistancesTo (vg va:Value) (g:Gr) (a:Au) (y:Int) (w:World) (hgv:GrV 0 w.heap.size w vg g) (hav:AuV 0 w.heap.size w va a) :
 Calls Tryz.prog 68 #[vg,va,.int .i64 y] w fun e w'=>∃ v',e=.returned v'/\Own w.heap.size w'.heap.size w' 3 cI 1 v' (distTo g a y)/\Below w.heap.size w w':=by
 have hgv0:=hgv
 have hav0:=hav
 obtain ⟨A1,n1,c1,A2,n2,c2,rfl⟩:=hgv.shape
 obtain ⟨A3,n3,c3,A4,n4,c4,rfl⟩:=hav.shape
 have hb0:Below w.heap.size w ((w.alloc (.cells #[.slice A1 n1 c1,.slice A2 n2 c2] 27)).alloc (.cells #[.int .i64 a.start,.slice A3 n3 c3,.slice A4 n4 c4] 31)):=((Below.refl _ _).alloc (Nat.le_refl _) _).alloc (by simp) _
 have hb1:=hb0.alloc hb0.size (.cells #[.int .i64 y] 3)
 have hst:SlE (((w.alloc (.cells #[.slice A1 n1 c1,.slice A2 n2 c2] 27)).alloc (.cells #[.int .i64 a.start,.slice A3 n3 c3,.slice A4 n4 c4] 31)).alloc (.cells #[.int .i64 y] 3)) cI 1 (.slice (some ⟨w.heap.size+1+1,0,none⟩) 1 1) [y]:=by
  have h:=lit_sl ((w.alloc (.cells #[.slice A1 n1 c1,.slice A2 n2 c2] 27)).alloc (.cells #[.int .i64 a.start,.slice A3 n3 c3,.slice A4 n4 c4] 31)) 3 [y] (by unfold maxLen;simp)
  simpa using h
 have hbo:=bothOk_any _ _ _ g a [y] _ (hgv0.keep hb1) (hav0.keep hb1) hst
 have HBO:=Hd_ hbo
 have HGV:=Hd_ hgv0
 have HAV:=Hd_ hav0
 clear hgv hav hgv0 hav0 hbo hst
 cases hk:([y].all (fun s=>wi s 0 ((g.vals.length:Int) - 1)) && (grOk g && auOk a)) with
 | false =>
   rw [hk] at HBO
   have hfin:distTo g a y=[]:=by unfold distTo;rw [if_neg];simpa using hk
   have HF:=Hd_ hfin
   clear hk hfin
   go_enter Tryz.func68,Tryz.ntmps68
   go_wp2_with fail
   refine HBO.out.mono ?_
   rintro e w1 ⟨rfl,hb2⟩
   go_wp2_with fail
   go_ret
   exact ⟨_,rfl,by rw [HF.out];exact Own.nil _ _ _ _ _ _,below_trans hb1 hb2⟩
 | true =>
   rw [hk] at HBO
   simp only [List.all_cons,List.all_nil,Bool.and_true,Bool.and_eq_true,wi_iff] at hk
   obtain ⟨⟨hy0,hy1⟩,hgo,hao⟩:=hk
   have hgo2:=grOk_iff.1 hgo
   have hfin:distTo g a y=spreadR (g.vals.length * a.accept.length) (turnL (g.vals.length * a.accept.length) (nextI g a)) (goalsL g a y.toNat):=by
    unfold distTo;rw [if_pos];simp [wi_iff,hy0,hy1,hgo,hao]
   obtain ⟨y,rfl⟩:=Int.eq_ofNat_of_zero_le hy0
   rw [Int.toNat_natCast] at hfin
   have hyn:y < g.vals.length:=by omega
   obtain ⟨N,hN⟩:∃ N,N=g.vals.length * a.accept.length:=⟨_,rfl⟩
   rw [<- hN] at hfin
   have hn5:=hgo2.n5
   have hn1:=hgo2.n1
   have hm12:=(auOk_iff.1 hao).1.2
   have hm1:=(auOk_iff.1 hao).1.1
   have hN60:N<=60:=by rw [hN];have:=Nat.mul_le_mul hn5 hm12;omega
   have hN1:1<=N:=by rw [hN];exact Nat.mul_pos hn1 hm1
   have hnl:∀ i,i < N->(nextI g a i).length<=288/\∀ k ∈ nextI g a i,k < N:=fun i _=>⟨nextV_len hgo2 _ _,fun k hk=>by rw [hN];exact nextV_lt hgo2 hao hk⟩
   have htl:∀ i,i < N->∀ k ∈ turnL N (nextI g a) i,k < N:=fun i _ k hk=>(mem_turnL.1 hk).1
   have hgl:∀ i ∈ goalsL g a y,i < N:=fun i hi=>by
    obtain ⟨s,hs,_,rfl⟩:=mem_goalsL.1 hi
    rw [hN];exact vert_lt hyn hs
   have hgll:(goalsL g a y).length<=60:=Nat.le_trans (goalsTo_len g a y _) (by omega)
   have HN:=Hd_ hN
   have HNL:=Hd_ hnl
   have HTL:=Hd_ htl
   have HGL:=Hd_ hgl
   have HGO:=Hd_ hgo2
   have HAO:=Hd_ hao
   have HF:=Hd_ hfin
   clear hN hnl htl hgl hgo hgo2 hao hfin hy0 hy1
   go_enter Tryz.func68,Tryz.ntmps68
   go_wp2_with fail
   refine HBO.out.mono ?_
   rintro e w1 ⟨rfl,hb2⟩
   have hb3:=below_trans hb1 hb2
   have b0:=(((Blk.new w 27 #[.slice A1 n1 c1,.slice A2 n2 c2] w.heap.size rfl).alloc (.cells #[.int .i64 a.start,.slice A3 n3 c3,.slice A4 n4 c4] 31)).alloc (.cells #[.int .i64 (y:Int)] 3)).keep hb2
   have b1:=((Blk.new (w.alloc (.cells #[.slice A1 n1 c1,.slice A2 n2 c2] 27)) 31 #[.int .i64 a.start,.slice A3 n3 c3,.slice A4 n4 c4] (w.heap.size+1) (by simp)).alloc (.cells #[.int .i64 (y:Int)] 3)).keep hb2
   have x0:w1.cell? ⟨w.heap.size,0,none⟩=some (.slice A1 n1 c1):=b0.cell 0
   have x1:w1.cell? ⟨w.heap.size,1,none⟩=some (.slice A2 n2 c2):=b0.cell 1
   have y0:w1.cell? ⟨w.heap.size+1,0,none⟩=some (.int .i64 a.start):=b1.cell 0
   have y1:w1.cell? ⟨w.heap.size+1,1,none⟩=some (.slice A3 n3 c3):=b1.cell 1
   have y2:w1.cell? ⟨w.heap.size+1,2,none⟩=some (.slice A4 n4 c4):=b1.cell 2
   clear hb0 hb1 hb2 b0 b1 HBO
   go_wp2_with fail
   go_region_held3 (fun w'=>w'.cell? ⟨w.heap.size,0,none⟩=some (.slice A1 n1 c1)/\w'.cell? ⟨w.heap.size,1,none⟩=some (.slice A2 n2 c2)/\w'.cell? ⟨w.heap.size+1,0,none⟩=some (.int .i64 a.start)/\w'.cell? ⟨w.heap.size+1,1,none⟩=some (.slice A3 n3 c3)/\w'.cell? ⟨w.heap.size+1,2,none⟩=some (.slice A4 n4 c4))
    (first | (exact ⟨x0,x1,y0,y1,y2⟩) | assumption | (exact kB5 hbA (by assumption)) | (exact kB5 hbB (by assumption)) | (exact kB5 hbC (by assumption)) | (exact kB5 hbD (by assumption)))
    (first | (go_at_call 119;refine (nextVertices_any _ _ g a _ (GrV.keep (w':=w1.drew) HGV.out hb3.drew) (AuV.keep (w':=w1.drew) HAV.out hb3.drew) HGO.out HAO.out).mono ?_;rintro e wA ⟨vA,rfl,hsA,hbA⟩;rw [<- HN.out] at hsA) | (go_at_call 118;refine (turned_any vA N (nextI g a) _ (hsA.mono (Nat.zero_le _) (Nat.le_refl _)) hN60 HNL.out).mono ?_;rintro e wB ⟨vB,rfl,hsB,hbB⟩) | (go_at_call 120;refine (goals_any _ _ g a y _ (HGV.out.keep (below_trans (below_trans hb3.drew hbA) hbB)) (HAV.out.keep (below_trans (below_trans hb3.drew hbA) hbB)) HGO.out HAO.out hyn).mono ?_;rintro e wC ⟨vC,rfl,hoC,hbC⟩) | (go_at_call 117;refine (spread_any vB vC N (turnL N (nextI g a)) (goalsL g a y) _ ((hsB.mono (Nat.zero_le _) (Nat.le_refl _)).keep hbC) ((hoC.sl cN_len).all (Nat.le_refl _)) hN1 hN60 hgll HGL.out HTL.out).mono ?_;rintro e wD ⟨vD,rfl,hoD,hbD⟩))
   go_wp2_with fail
   go_ret
   have hbc:=below_trans (below_trans (below_trans hb3.drew hbA) hbB) hbC
   exact ⟨_,rfl,by rw [HF.out];exact hoD.mono hbc.size (Nat.le_refl _),below_trans hbc hbD⟩
theorem lit_nat (w:World) (e:TypeId) (x:Nat):SlE (w.alloc (.cells #[.int .i64 (x:Int)] e)) cN 1 (.slice (some ⟨w.heap.size,0,none⟩) 1 1) [x]:=by
 have h:=Own.of_row (xs:=[x]) (E:=cN) (World.ownsRow_lit (base:=0) (e:=e) (size:=1) w #[.int .i64 (x:Int)] 1 (Nat.zero_le _) (by decide) rfl) rfl rfl
 exact (h.sl cN_len).all (Nat.le_refl _)
set_option maxHeartbeats 4000000 in
set_option maxRecDepth 100000 in
theorem implDistancesFrom (vg va:Value) (g:Gr) (a:Au) (x:Int) (w:World) (hgv:GrV 0 w.heap.size w vg g) (hav:AuV 0 w.heap.size w va a) :
 Calls Tryz.prog 171 #[vg,va,.int .i64 x] w fun e w'=>∃ v',e=.returned v'/\Own w.heap.size w'.heap.size w' 3 cI 1 v' (distFrom g a x)/\Below w.heap.size w w':=by
 have hgv0:=hgv
 have hav0:=hav
 obtain ⟨A1,n1,c1,A2,n2,c2,rfl⟩:=hgv.shape
 obtain ⟨ac,nx,rfl,hac,hnx⟩:=hav
 obtain ⟨A3,c3,rfl,-,-,-⟩:=SlE.form hac
 obtain ⟨A4,n4,c4,rfl⟩:=hnx.shape
 have hb0:Below w.heap.size w ((w.alloc (.cells #[.slice A1 n1 c1,.slice A2 n2 c2] 27)).alloc (.cells #[.int .i64 a.start,.slice A3 a.accept.length c3,.slice A4 n4 c4] 31)):=((Below.refl _ _).alloc (Nat.le_refl _) _).alloc (by simp) _
 have hb1:=hb0.alloc hb0.size (.cells #[.int .i64 x] 3)
 have hst:SlE (((w.alloc (.cells #[.slice A1 n1 c1,.slice A2 n2 c2] 27)).alloc (.cells #[.int .i64 a.start,.slice A3 a.accept.length c3,.slice A4 n4 c4] 31)).alloc (.cells #[.int .i64 x] 3)) cI 1 (.slice (some ⟨w.heap.size+1+1,0,none⟩) 1 1) [x]:=by
  have h:=lit_sl ((w.alloc (.cells #[.slice A1 n1 c1,.slice A2 n2 c2] 27)).alloc (.cells #[.int .i64 a.start,.slice A3 a.accept.length c3,.slice A4 n4 c4] 31)) 3 [x] (by unfold maxLen;simp)
  simpa using h
 have hbo:=bothOk_any _ _ _ g a [x] _ (hgv0.keep hb1) (hav0.keep hb1) hst
 have HBO:=Hd_ hbo
 have HGV:=Hd_ hgv0
 have HAV:=Hd_ hav0
 clear hgv hac hnx hgv0 hav0 hbo hst
 cases hk:([x].all (fun s=>wi s 0 ((g.vals.length:Int) - 1)) && (grOk g && auOk a)) with
 | false =>
   rw [hk] at HBO
   have hfin:distFrom g a x=[]:=by unfold distFrom;rw [if_neg];simpa using hk
   have HF:=Hd_ hfin
   clear hk hfin
   go_enter Tryz.func171,Tryz.ntmps171
   go_wp2_with fail
   refine HBO.out.mono ?_
   rintro e w1 ⟨rfl,hb2⟩
   go_wp2_with fail
   go_ret
   exact ⟨_,rfl,by rw [HF.out];exact Own.nil _ _ _ _ _ _,below_trans hb1 hb2⟩
 | true =>
   rw [hk] at HBO
   simp only [List.all_cons,List.all_nil,Bool.and_true,Bool.and_eq_true,wi_iff] at hk
   obtain ⟨⟨hx0,hx1⟩,hgo,hao⟩:=hk
   have hgo2:=grOk_iff.1 hgo
   obtain ⟨x,rfl⟩:=Int.eq_ofNat_of_zero_le hx0
   have hxl:x < g.vals.length:=by omega
   obtain ⟨N,hN⟩:∃ N,N=g.vals.length * a.accept.length:=⟨_,rfl⟩
   have hn5:=hgo2.n5
   have hn1:=hgo2.n1
   obtain ⟨⟨hm1,hm12⟩,⟨hst0,hst1⟩,-,-⟩:=auOk_iff.1 hao
   have hN60:N<=60:=by rw [hN];have:=Nat.mul_le_mul hn5 hm12;omega
   have hN1:1<=N:=by rw [hN];exact Nat.mul_pos hn1 hm1
   obtain ⟨s,hs⟩:∃ s:Nat,a.start=(s:Int):=⟨a.start.toNat,by omega⟩
   obtain ⟨xn,hxn⟩:∃ xn,xn=x * a.accept.length:=⟨_,rfl⟩
   have hxn2:xn+a.accept.length<=N:=by rw [hxn,hN];have:=Nat.mul_le_mul_right a.accept.length (show x+1<=g.vals.length by omega);rw [Nat.succ_mul] at this;exact this
   obtain ⟨S0,hS0⟩:∃ S0,S0=xn+s:=⟨_,rfl⟩
   have hS0N:S0 < N:=by omega
   have m1':(x:Int) * (a.accept.length:Int)=(xn:Int):=by rw [hxn,Int.natCast_mul]
   have m1:IntKind.i64.wrap ((x:Int) * (a.accept.length:Int))=(xn:Int):=by rw [m1'];exact IntWalk.i64_in _ (by omega)
   have m2':(xn:Int)+a.start=(S0:Int):=by omega
   have m2:IntKind.i64.wrap ((xn:Int)+a.start)=(S0:Int):=by rw [m2'];exact IntWalk.i64_in _ (by omega)
   have m3:IntKind.i64.wrap (xn:Int)=(xn:Int):=IntWalk.i64_in _ (by omega)
   have m4:IntKind.i64.wrap (S0:Int)=(S0:Int):=IntWalk.i64_in _ (by omega)
   have hfin:distFrom g a (x:Int)=spreadR N (nextI g a) [S0]:=by
    rw [distFrom,if_pos (by simp only [Bool.and_eq_true,wi_iff];exact ⟨by omega,hgo,hao⟩),Int.toNat_natCast,<- hxn,<- hN,hs,Int.toNat_natCast,<- hS0]
   have hnl:∀ i,i < N->∀ k ∈ nextI g a i,k < N:=fun i _ k hk=>by rw [hN];exact nextV_lt hgo2 hao hk
   have hfl:∀ i ∈ [S0],i < N:=by intro i hi;rw [List.mem_singleton] at hi;omega
   have HN:=Hd_ hN
   have HNL:=Hd_ hnl
   have HFL:=Hd_ hfl
   have HGO:=Hd_ hgo2
   have HAO:=Hd_ hao
   have HF:=Hd_ hfin
   have M1:=Hd_ m1
   have M1':=Hd_ m1'
   have M2:=Hd_ m2
   have M2':=Hd_ m2'
   have M3:=Hd_ m3
   have M4:=Hd_ m4
   clear hN hnl hfl hgo hgo2 hao hfin hx0 hx1 hs hxn hS0 m1 m1' m2 m2' m3 m4 hst0 hst1
   go_enter Tryz.func171,Tryz.ntmps171
   go_wp2_with fail
   refine HBO.out.mono ?_
   rintro e w1 ⟨rfl,hb2⟩
   have hb3:=below_trans hb1 hb2
   have b0:=(((Blk.new w 27 #[.slice A1 n1 c1,.slice A2 n2 c2] w.heap.size rfl).alloc (.cells #[.int .i64 a.start,.slice A3 a.accept.length c3,.slice A4 n4 c4] 31)).alloc (.cells #[.int .i64 (x:Int)] 3)).keep hb2
   have b1:=((Blk.new (w.alloc (.cells #[.slice A1 n1 c1,.slice A2 n2 c2] 27)) 31 #[.int .i64 a.start,.slice A3 a.accept.length c3,.slice A4 n4 c4] (w.heap.size+1) (by simp)).alloc (.cells #[.int .i64 (x:Int)] 3)).keep hb2
   have x0:w1.cell? ⟨w.heap.size,0,none⟩=some (.slice A1 n1 c1):=by exact b0.cell 0
   have x1:w1.cell? ⟨w.heap.size,1,none⟩=some (.slice A2 n2 c2):=by exact b0.cell 1
   have y0:w1.cell? ⟨w.heap.size+1,0,none⟩=some (.int .i64 a.start):=by exact b1.cell 0
   have y1:w1.cell? ⟨w.heap.size+1,1,none⟩=some (.slice A3 a.accept.length c3):=by exact b1.cell 1
   have y2:w1.cell? ⟨w.heap.size+1,2,none⟩=some (.slice A4 n4 c4):=by exact b1.cell 2
   clear hb0 hb1 hb2 b0 b1 HBO
   go_wp2_with fail
   have m1:=M1.out
   have m1':=M1'.out
   have m2:=M2.out
   have m2':=M2'.out
   have m3:=M3.out
   have m4:=M4.out
   refine F_start 13 (fun w'=>w'.cell? ⟨w.heap.size,0,none⟩=some (.slice A1 n1 c1)/\w'.cell? ⟨w.heap.size,1,none⟩=some (.slice A2 n2 c2)/\w'.cell? ⟨w.heap.size+1,0,none⟩=some (.int .i64 a.start)/\w'.cell? ⟨w.heap.size+1,1,none⟩=some (.slice A3 a.accept.length c3)/\w'.cell? ⟨w.heap.size+1,2,none⟩=some (.slice A4 n4 c4)) (by kernel_rfl) (by exact ⟨x0,x1,y0,y1,y2⟩) (fun hS inv=>?_)
   refine F_tk 0 inv ?_
   try simp only [tA,tB,tC,Act.put,tE,tF,tG]
   clear inv;intro inv
   refine F_tk 1 inv ?_
   try simp only [tA,tB,tC,Act.put,tE,tF,tG]
   clear inv;intro inv
   refine F_tk 3 inv ?_
   try simp only [tA,tB,tC,Act.put,tE,tF,tG]
   clear inv;intro inv
   refine F_tk 4 inv ?_
   try simp only [tA,tB,tC,Act.put,tE,tF,tG]
   clear inv;intro inv
   refine F_tk 5 inv ?_
   try simp only [tA,tB,tC,Act.put,tE,tF,tG]
   clear inv;intro inv
   refine F_tk 6 inv ?_
   try simp only [tA,tB,tC,Act.put,tE,tF,tG]
   clear inv;intro inv
   refine F_tk 7 inv ?_
   try simp only [tA,tB,tC,Act.put,tE,tF,tG]
   clear inv;intro inv
   refine F_tk 8 inv ?_
   try simp only [tA,tB,tC,Act.put,tE,tF,tG]
   clear inv;intro inv
   refine F_tk 9 inv ?_
   try simp only [tA,tB,tC,Act.put,tE,tF,tG]
   clear inv;intro inv
   refine F_tk 10 inv ?_
   try simp only [tA,tB,tC,Act.put,tE,tF,tG]
   clear inv;intro inv
   refine F_two (i:=2) (j:=11) (by kernel_rfl) rfl rfl rfl rfl (by omega) inv (fun K hK=>?_) (fun K hK=>?_)
   all_goals (try simp only [tA,tB,tC])
   · go_simp
     refine (nextVertices_any _ _ g a _ (GrV.keep (w':=w1.drew) HGV.out hb3.drew) (AuV.keep (w':=w1.drew) HAV.out hb3.drew) HGO.out HAO.out).mono ?_
     rintro e wA ⟨vA,rfl,hsA,hbA⟩
     rw [<- HN.out] at hsA
     refine hK.out _ _ (kB5 hbA hS) (fun _ _=>?_)
     try simp only [tA,tB,tC,Act.put,tE,tF,tG]
     clear hK K inv hS;rename_i hS inv
     refine F_o1 11 inv ?_;intro K hK
     try simp only [tA,tB,tC]
     go_simp
     refine hK.out _ _ (kA5 _ hS) (fun _ _=>?_)
     try simp only [tA,tB,tC,Act.put,tE,tF,tG]
     clear hK K inv hS;rename_i hS inv
     refine F_o1 12 inv ?_;intro K hK
     try simp only [tA,tB,tC]
     go_simp
     refine (spread_any vA _ N (nextI g a) [S0] _ ((hsA.mono (Nat.zero_le _) (Nat.le_refl _)).keep ((Below.refl _ _).alloc (Nat.le_refl _) _)) (lit_nat wA _ S0) hN1 hN60 (by simp) HFL.out HNL.out).mono ?_
     rintro e wD ⟨vD,rfl,hoD,hbD⟩
     have hbF:=below_trans hb3.drew (below_trans hbA (below_trans ((Below.refl wA.heap.size wA).alloc (Nat.le_refl _) _) hbD))
     have hsz:=(below_trans hb3.drew (below_trans hbA ((Below.refl wA.heap.size wA).alloc (Nat.le_refl _) (.cells #[.int .i64 (S0:Int)] 3)))).size
     have hoF:=hoD.mono hsz (Nat.le_refl _)
     rw [<- HF.out] at hoF
     have HOF:=Hd_ hoF
     obtain ⟨A5,n5',c5,rfl⟩:=hoD.shape
     clear hoF
     refine hK.out _ _ (kB5 hbD hS) (fun _ _=>?_)
     try simp only [tA,tB,tC,Act.put,tE,tF,tG]
     clear hK K inv hS;rename_i hS inv
     refine F_l1 13 ?_;intro K hK
     go_simp
     refine hK _ _ ?_
     clear hK K inv hS
     clear m1 m1' m2 m2' m3 m4
     go_wp2_with fail
     go_ret
     exact ⟨_,rfl,HOF.out,hbF⟩
   · go_simp
     have hsA0:=lit_nat w1.drew 3 S0
     have hba:=(Below.refl w1.drew.heap.size w1.drew).alloc (Nat.le_refl _) (.cells #[.int .i64 (S0:Int)] 3)
     have hbz:=below_trans hb3.drew hba
     refine hK.out _ _ (kA5 _ hS) (fun _ _=>?_)
     try simp only [tA,tB,tC,Act.put,tE,tF,tG]
     clear hK K inv hS;rename_i hS inv
     refine F_o1 2 inv ?_;intro K hK
     try simp only [tA,tB,tC]
     go_simp
     refine (nextVertices_any _ _ g a _ (HGV.out.keep hbz) (HAV.out.keep hbz) HGO.out HAO.out).mono ?_
     rintro e wA ⟨vA,rfl,hsA,hbA⟩
     rw [<- HN.out] at hsA
     refine hK.out _ _ (kB5 hbA hS) (fun _ _=>?_)
     try simp only [tA,tB,tC,Act.put,tE,tF,tG]
     clear hK K inv hS;rename_i hS inv
     refine F_o1 12 inv ?_;intro K hK
     try simp only [tA,tB,tC]
     go_simp
     refine (spread_any vA _ N (nextI g a) [S0] _ (hsA.mono (Nat.zero_le _) (Nat.le_refl _)) (SlE.keep hsA0 hbA) hN1 hN60 (by simp) HFL.out HNL.out).mono ?_
     rintro e wD ⟨vD,rfl,hoD,hbD⟩
     have hbF:=below_trans (below_trans hbz hbA) hbD
     have hoF:=hoD.mono (below_trans hbz hbA).size (Nat.le_refl _)
     rw [<- HF.out] at hoF
     have HOF:=Hd_ hoF
     obtain ⟨A5,n5',c5,rfl⟩:=hoD.shape
     clear hoF
     refine hK.out _ _ (kB5 hbD hS) (fun _ _=>?_)
     try simp only [tA,tB,tC,Act.put,tE,tF,tG]
     clear hK K inv hS;rename_i hS inv
     refine F_l1 13 ?_;intro K hK
     go_simp
     refine hK _ _ ?_
     clear hK K inv hS
     clear m1 m1' m2 m2' m3 m4
     go_wp2_with fail
     go_ret
     exact ⟨_,rfl,HOF.out,hbF⟩
end Go.Proofs.YtjpdembmchnbgaaGreat
namespace Go.Proofs.YtjpdembmchnbgaaGreat
open Go.ChangeShapes Go.WideShapes Go.ChangeAt Go.RowKit
theorem ownsRow_take {W:World} {base k n m g cap:Nat} {e:TypeId} {cs:List Value} (h:W.ownsRow base e k (.slice (some ⟨g,0,none⟩) n cap) n cs) (hm:m<=n):W.ownsRow base e k (.slice (some ⟨g,0,none⟩) m cap) m (cs.take (m * k)):=by
 obtain ⟨hl,hs⟩:=h
 have hmk:m * k<=n * k:=Nat.mul_le_mul_right k hm
 refine ⟨by rw [List.length_take,hl];omega,?_⟩
 rcases hs with ⟨h1,_⟩ | ⟨g',cap',cur,hv,hg,hh,hnc,hcm,hsz,htk⟩
 · cases h1
 · simp only [Value.slice.injEq,Option.some.injEq,Addr.mk.injEq,and_true,true_and] at hv
   obtain ⟨rfl,rfl⟩:=hv
   refine .inr ⟨g,cap,cur,rfl,hg,hh,by omega,hcm,hsz,?_⟩
   rw [<- htk,List.take_take]
   congr 1
   omega
end Go.Proofs.YtjpdembmchnbgaaGreat
namespace Go.Proofs.YtjpdembmchnbgaaGreat
open Go.ChangeShapes Go.WideShapes Go.ChangeAt Go.RowKit
open Go.Sort
attribute [local go_sem] ext_cell ext_frozen ext_lt ext_lt1 ext_lt2 ext_lt3 ltn2 ltn3 ltn13 lts1 lts2 lts3
theorem flatI_map (xs:List Int):xs.flatMap cI=xs.map (Value.int .i64):=by
 induction xs with
 | nil=>rfl
 | cons x xs ih=>rw [List.flatMap_cons,List.map_cons,ih];rfl
theorem only_ahead (lo hi:Nat) (w:World) (n:Nat):Only lo hi w (Sort.ahead w n):=⟨rfl,rfl,rfl,Nat.le_refl _,fun _ _ _=>rfl⟩
theorem only_grow (lo hi:Nat) (w:World) (os:Array Obj):Only lo hi w (grow w os):=⟨rfl,rfl,rfl,by simp [grow],fun n hn _=>by simp [grow,Array.getElem?_append,hn]⟩
theorem only_put {α:Type} [Inhabited α] (enc:α->Value) (w:World) (g off:Nat) (d:Array α):Only g (g+1) w (putRow enc w g off d) :=
 ⟨rfl,rfl,rfl,by simp [putRow,mapBlock],fun n hn ho=>by simp only [putRow,mapBlock,Array.getElem?_modify];rw [if_neg (by omega)]⟩
theorem row_put {w:World} {base g n cap:Nat} {e:TypeId} {cs:List Value} (h:w.ownsRow base e 1 (.slice (some ⟨g,0,none⟩) n cap) n cs) {ds:List Int} (hd:ds.length=n) :
 (putRow (Value.int .i64) w g 0 ds.toArray).ownsRow base e 1 (.slice (some ⟨g,0,none⟩) n cap) n (ds.flatMap cI):=by
 obtain ⟨hl,hs⟩:=h
 rw [flatI_map]
 refine ⟨by simp [hd],?_⟩
 rcases hs with ⟨h1,_⟩ | ⟨g',cap',cur,hv,hg,hh,hnc,hcm,hsz,htk⟩
 · cases h1
 · simp only [Value.slice.injEq,Option.some.injEq,Addr.mk.injEq,and_true,true_and] at hv
   obtain ⟨rfl,rfl⟩:=hv
   refine .inr ⟨g,cap,putCells (Value.int .i64) 0 ds.toArray cur,rfl,hg,?_,hnc,hcm,by simp [putCells,hsz],?_⟩
   · simp [putRow,mapBlock,Array.getElem?_modify,hh,onCells]
   · apply List.ext_getElem?
     intro k
     rw [List.getElem?_take]
     by_cases hk:k < n * 1
     · rw [if_pos hk]
       have hk1:k < n:=by omega
       have hkc:k < cur.size:=by omega
       have hkd:k < ds.length:=by omega
       simp [putCells,hkc,hkd,getElem!_pos]
     · rw [if_neg hk,List.getElem?_eq_none (by simp;omega)]
theorem holds_own {w:World} {base g n cap:Nat} {e:TypeId} {zs:List Int} (h:w.ownsRow base e 1 (.slice (some ⟨g,0,none⟩) n cap) n (zs.flatMap cI)) (hz:zs.length=n):Holds (Value.int .i64) w g 0 zs.toArray:=by
 intro j hj
 have hj':j < zs.length:=by simpa using hj
 refine ⟨?_,by rw [Nat.zero_add];exact World.ownsRow.frozenAt h j⟩
 rw [Nat.zero_add,World.ownsRow.cellAt h j (by omega),flatI_map,List.getElem?_map,List.getElem?_eq_getElem hj',get_bang hj']
 rfl
set_option maxHeartbeats 1000000 in
theorem copyInts_any (v:Value) (xs:List Int) (w:World) (hv:SlE w cI 1 v xs) (hn:xs.length<=1000000) :
 Calls Tryz.prog 123 #[v] w fun e w'=>∃ v',e=.returned v'/\Own w.heap.size w'.heap.size w' 3 cI 1 v' xs/\Below w.heap.size w w':=by
 have hv0:=hv
 obtain ⟨A,c,rfl,hl,hm,-⟩:=SlE.form hv
 have hba:Below w.heap.size w (w.alloc (.cells #[] 3)):=(Below.refl _ _).alloc (Nat.le_refl _) _
 have hv1:=SlE.keep hv0 hba
 have hrow:=World.ownsRow_lit (base:=w.heap.size) (e:=3) (size:=1) w #[] 0 (Nat.le_refl _) (by decide) rfl
 have HV:=Hd_ hv1
 have HR:=Hd_ hrow
 clear hv hv0 hv1 hrow
 go_enter Tryz.func123,Tryz.ntmps123
 go_wp2_with (at_builtin;(refine wpList_appendL cI elInt cI_len cI_one rfl _ _ rfl w.heap.size _ [] xs (by rfl) HR.out 0 _ _ (by rfl) HV.out (by simp;omega) (by omega) (by simp) ?_);intro v' w4 hrow' hgr4 hat4)
 have hown:=Own.of_row (xs:=xs) hrow' rfl rfl
 have hgr:=hgr4
 have hbel:=(hba.trans (own_below HR.out (by simp) hgr4))
 obtain ⟨A2,n2,c2,rfl⟩:=hown.shape
 have HO:=Hd_ hown
 clear hown hgr hgr4 hrow' hat4
 go_wp2_with fail
 go_ret
 exact ⟨_,rfl,HO.out,hbel⟩
set_option maxHeartbeats 2000000 in
theorem ascending_any (v:Value) (xs:List Int) (w:World) (hv:SlE w cI 1 v xs) (hn:xs.length<=1000000) :
 Calls Tryz.prog 129 #[v] w fun e w'=>∃ v',e=.returned v'/\Own w.heap.size w'.heap.size w' 3 cI 1 v' (ascL xs)/\Below w.heap.size w w':=by
 have hc:=copyInts_any v xs w hv hn
 have HC:=Hd_ hc
 clear hc hv
 obtain ⟨R,hR⟩:∃ R,R=ascL xs:=⟨_,rfl⟩
 rw [<- hR]
 have HR:=Hd_ hR
 clear hR
 go_enter Tryz.func129,Tryz.ntmps129
 go_wp2_with fail
 refine HC.out.mono ?_
 rintro e w1 ⟨v1,rfl,ho1,hb1⟩
 cases xs with
 | nil =>
   have hr0:R=[]:=by rw [HR.out];simp [ascL,Lib.compact,Lib.compactUpTo]
   subst hr0
   obtain ⟨A1,c1,rfl,-,-,-⟩:=ho1.form cI_len
   have HO:=Hd_ ho1
   clear ho1
   simp only [List.length_nil] at HO ⊢
   go_wp2_with fail
   refine (Tryz.slices_Sort_int_none A1 c1 _).mono ?_
   rintro e w2 ⟨rfl,rfl⟩
   go_wp2_with fail
   refine (Tryz.slices_Compact_int_empty A1 c1 _).mono ?_
   rintro e w3 ⟨rfl,rfl⟩
   go_wp2_with fail
   go_ret
   exact ⟨_,rfl,HO.out,hb1⟩
 | cons x xs =>
   obtain ⟨zs,hzs⟩:∃ zs,zs=x :: xs:=⟨_,rfl⟩
   have hz0:zs.length ≠ 0:=by rw [hzs];simp
   rw [<- hzs] at HR ho1 hn
   clear hzs HC
   have hr1:=ho1.1
   obtain ⟨g,c,rfl,hg,hgw,hcl,hcm⟩:=own_some hr1 hz0
   have hms:(zs.mergeSort fun x y=>decide (x<=y)).length=zs.length:=List.length_mergeSort _
   obtain ⟨ys,hys⟩:∃ ys,ys=zs.mergeSort fun x y=>decide (x<=y):=⟨_,rfl⟩
   rw [<- hys] at hms
   have hsort:=Tryz.slices_Sort_int g 0 c zs w1 (holds_own hr1 rfl) hgw (by omega)
   rw [<- hys] at hsort
   have HS:=Hd_ hsort
   have HR1:=Hd_ hr1
   have HRY:=Hd_ (show R=Lib.compact ys by rw [HR.out,ascL,hys])
   clear hsort hr1 hys ho1 HR
   go_wp2_with fail
   refine HS.out.mono ?_
   rintro e w2 ⟨rfl,n,os,rfl⟩
   have hon:=((only_ahead g (g+1) w1 n).trans (only_put (Value.int .i64) _ g 0 ys.toArray)).trans (only_grow g (g+1) _ os)
   have hr2:(grow (putRow (Value.int .i64) (Sort.ahead w1 n) g 0 ys.toArray) os).ownsRow w.heap.size 3 1 (.slice (some ⟨g,0,none⟩) zs.length c) zs.length (ys.flatMap cI):=by
    have h:=row_put (w:=Sort.ahead w1 n) (ds:=ys) (cs:=zs.flatMap cI) (by exact HR1.out) hms
    exact ownsRow_block h fun b hb=>by
     have hlt:=(h.lt b hb).2
     exact (only_grow 0 0 (putRow (Value.int .i64) (Sort.ahead w1 n) g 0 ys.toArray) os).block b hlt (.inr (Nat.zero_le _))
   have HON:=Hd_ hon
   have HR2:=Hd_ hr2
   generalize grow (putRow (Value.int .i64) (Sort.ahead w1 n) g 0 ys.toArray) os=w2 at *
   clear hon hr2 HS HR1
   have hcomp:=Tryz.slices_Compact_int g 0 c ys w2 (holds_own HR2.out hms) (by omega) (by omega)
   rw [hms] at hcomp
   have HCO:=Hd_ hcomp
   clear hcomp
   go_wp2_with fail
   refine HCO.out.mono ?_
   rintro e w3 ⟨rfl,q,rfl⟩
   have hcl2:=Lib.compact_length_le ys
   have hr3:(putRow (Value.int .i64) (Sort.ahead w2 q) g 0 (Lib.compact ys ++ List.replicate (zs.length - (Lib.compact ys).length) 0).toArray).ownsRow w.heap.size 3 1 (.slice (some ⟨g,0,none⟩) zs.length c) zs.length ((Lib.compact ys ++ List.replicate (zs.length - (Lib.compact ys).length) 0).flatMap cI) :=
    row_put (w:=Sort.ahead w2 q) (cs:=ys.flatMap cI) (by exact HR2.out) (by rw [List.length_append,List.length_replicate];omega)
   have hr4:=ownsRow_take hr3 (show (Lib.compact ys).length<=zs.length by omega)
   have htk:((Lib.compact ys ++ List.replicate (zs.length - (Lib.compact ys).length) 0).flatMap cI).take ((Lib.compact ys).length * 1)=(Lib.compact ys).flatMap cI:=by
    rw [List.flatMap_append,List.take_left' (by rw [flatI_map];simp)]
   rw [htk,<- HRY.out] at hr4
   have hon:=HON.out.trans ((only_ahead g (g+1) w2 q).trans (only_put (Value.int .i64) _ g 0 (Lib.compact ys ++ List.replicate (zs.length - (Lib.compact ys).length) 0).toArray))
   have hown:=Own.of_row (xs:=R) hr4 rfl rfl
   have HO:=Hd_ hown
   have hfin:Below w.heap.size w _:=hb1.trans (hon.below hg hb1.size)
   clear hr3 hr4 htk hon hown
   rw [<- HRY.out] at *
   go_wp2_with fail
   go_ret
   exact ⟨_,rfl,HO.out,hfin⟩
end Go.Proofs.YtjpdembmchnbgaaGreat
namespace Go.Proofs.YtjpdembmchnbgaaGreat
open Go.ChangeShapes Go.WideShapes Go.ChangeAt Go.RowKit
attribute [local go_sem] ext_cell ext_frozen ext_lt ext_lt1 ext_lt2 ext_lt3 ltn2 ltn3 ltn13 lts1 lts2 lts3
set_option maxHeartbeats 4000000 in
set_option maxRecDepth 100000 in
theorem implAnswersFrom (vg va:Value) (g:Gr) (a:Au) (x:Int) (w:World) (hgv:GrV 0 w.heap.size w vg g) (hav:AuV 0 w.heap.size w va a) :
 Calls Tryz.prog 143 #[vg,va,.int .i64 x] w fun e w'=>∃ v',e=.returned v'/\Own w.heap.size w'.heap.size w' 3 cI 1 v' (ansL g a x)/\Below w.heap.size w w':=by
 have hgv0:=hgv
 have hav0:=hav
 obtain ⟨A1,c1,A2,c2,rfl,hl1,hm1,hl2,hm2,hC1,-⟩:=hgv.form
 obtain ⟨ac,nx,rfl,hac,hnx⟩:=hav
 obtain ⟨A3,c3,rfl,hl3,hm3,-⟩:=SlE.form hac
 obtain ⟨A4,n4,c4,rfl⟩:=hnx.shape
 have hb0:Below w.heap.size w ((w.alloc (.cells #[.slice A1 g.vals.length c1,.slice A2 g.edges.length c2] 27)).alloc (.cells #[.int .i64 a.start,.slice A3 a.accept.length c3,.slice A4 n4 c4] 31)):=((Below.refl _ _).alloc (Nat.le_refl _) _).alloc (by simp) _
 have HGV:=Hd_ hgv0
 have HAV:=Hd_ hav0
 have HC1:=Hd_ hC1
 clear hgv hac hnx hgv0 hav0 hC1
 go_enter Tryz.func143,Tryz.ntmps143
 go_wp2_with fail
 obtain ⟨W0,hW0⟩:∃ W0,W0=((w.alloc (.cells #[.slice A1 g.vals.length c1,.slice A2 g.edges.length c2] 27)).alloc (.cells #[.int .i64 a.start,.slice A3 a.accept.length c3,.slice A4 n4 c4] 31)).alloc (.cells #[] 3):=⟨_,rfl⟩
 have hb0:Below w.heap.size w W0:=by rw [hW0];exact hb0.alloc hb0.size _
 rw [<- hW0]
 have bx:Blk W0 w.heap.size 27 #[.slice A1 g.vals.length c1,.slice A2 g.edges.length c2]:=by rw [hW0];exact ((Blk.new w _ _ w.heap.size rfl).alloc _).alloc _
 have by_:Blk W0 (w.heap.size+1) 31 #[.int .i64 a.start,.slice A3 a.accept.length c3,.slice A4 n4 c4]:=by rw [hW0];exact (Blk.new (w.alloc _) _ _ (w.heap.size+1) (by simp)).alloc _
 have hrow0:W0.ownsRow (w.heap.size+1+1) 3 1 (.slice (some ⟨w.heap.size+1+1,0,none⟩) 0 0) ([]:List Int).length (([]:List Int).flatMap cI):=by
  rw [hW0]
  have h:=World.ownsRow_lit (base:=w.heap.size+1+1) (e:=3) (size:=1) ((w.alloc (.cells #[.slice A1 g.vals.length c1,.slice A2 g.edges.length c2] 27)).alloc (.cells #[.int .i64 a.start,.slice A3 a.accept.length c3,.slice A4 n4 c4] 31)) #[] 0 (by simp) (by decide) rfl
  simpa using h
 have x0:W0.cell? ⟨w.heap.size,0,none⟩=some (.slice A1 g.vals.length c1):=by exact bx.cell 0
 have x1:W0.cell? ⟨w.heap.size,1,none⟩=some (.slice A2 g.edges.length c2):=by exact bx.cell 1
 have y0:W0.cell? ⟨w.heap.size+1,0,none⟩=some (.int .i64 a.start):=by exact by_.cell 0
 have y1:W0.cell? ⟨w.heap.size+1,1,none⟩=some (.slice A3 a.accept.length c3):=by exact by_.cell 1
 have y2:W0.cell? ⟨w.heap.size+1,2,none⟩=some (.slice A4 n4 c4):=by exact by_.cell 2
 have l0:=by_.lt
 have l00:=bx.lt
 have HROW0:=Hd_ hrow0
 have hsW:W0.heap.size=w.heap.size+1+1+1:=by rw [hW0];simp
 have hsW':w.heap.size+1+1 < W0.heap.size:=by omega
 have HSW:=Hd_ hsW
 clear hW0 bx by_ hrow0 hsW
 refine (implDistancesFrom _ _ g a x W0 (HGV.out.keep hb0) (HAV.out.keep hb0)).mono ?_
 rintro e w1 ⟨v1,rfl,ho1,hb1⟩
 have hb2:=below_trans hb0 hb1
 have x0:=kcell hb1 x0
 have x1:=kcell hb1 x1
 have y0:=kcell hb1 y0
 have y1:=kcell hb1 y1
 have y2:=kcell hb1 y2
 have hs1:=hb1.size
 have hs0:=hb0.size
 have l0:=Nat.lt_of_lt_of_le l0 hs1
 have l00:=Nat.lt_of_lt_of_le l00 hs1
 have HROW1:=Hd_ (ownsRow_below HROW0.out hb1 (Nat.le_refl _))
 have HC6:=Hd_ (ho1.sl cI_len)
 obtain ⟨A6,c6,rfl,hl6,hm6,-⟩:=ho1.form cI_len
 clear ho1 hb1 hb0 HROW0
 cases hk:(wi x 0 ((g.vals.length:Int) - 1) && (grOk g && auOk a)) with
 | false =>
   have hd0:distFrom g a x=[]:=by rw [distFrom,hk];rfl
   have hr0:ansL g a x=[]:=by rw [ansL,hk];rfl
   rw [hd0,List.length_nil]
   have has:=ascending_any (.slice (some ⟨w.heap.size+1+1,0,none⟩) 0 0) [] w1 (((Own.of_row (xs:=([]:List Int)) HROW1.out rfl rfl).sl cI_len).all (Nat.le_refl _)) (by simp)
   rw [show ascL []=[] by simp [ascL,Lib.compact,Lib.compactUpTo],<- hr0] at has
   have HAS:=Hd_ has
   clear hk hd0 hr0 has HC6
   go_wp2_with fail
   go_loopw [7,20] (fun oo ii wr=>oo=.slice (some ⟨w.heap.size+1+1,0,none⟩) 0 0/\ii=.int .i64 0/\wr=w1) (fun _ _ _=>0)
   case atStart=>exact ⟨rfl,rfl,rfl⟩
   case round =>
    obtain ⟨rfl,rfl,rfl⟩:=hrel
    go_wp2_with fail
    refine HAS.out.mono ?_
    rintro e w2 ⟨v2,rfl,ho2,hb3⟩
    have HO:=Hd_ (ho2.mono hb2.size (Nat.le_refl _))
    obtain ⟨A9,n9,c9,rfl⟩:=ho2.shape
    clear ho2
    go_wp2_with fail
    go_ret
    exact ⟨_,rfl,HO.out,below_trans hb2 hb3⟩
 | true =>
   have hasc:=ansL_asc hk
   have hdl:=distFrom_len hk
   simp only [Bool.and_eq_true,wi_iff] at hk
   obtain ⟨⟨hx0,hx1⟩,hgo,ha⟩:=hk
   have hg:=grOk_iff.1 hgo
   have hn5:=hg.n5
   have hn12:=(auOk_iff.1 ha).1.2
   have hn1:=(auOk_iff.1 ha).1.1
   obtain ⟨N,hN⟩:∃ N,N=g.vals.length * a.accept.length:=⟨_,rfl⟩
   have hN60:N<=60:=by rw [hN];exact Nat.mul_le_mul hn5 hn12
   rw [<- hN] at hdl hasc
   generalize distFrom g a x=D at *
   rw [hdl] at hl6 ⊢
   have HDL:=Hd_ hdl
   have HASC:=Hd_ hasc
   have HN:=Hd_ hN
   have HGO:=Hd_ hg
   have HAO:=Hd_ ha
   clear hdl hasc hN hg hgo ha hx0 hx1
   go_wp2_with fail
   have hsw:=HSW.out
   obtain ⟨gO,hgO⟩:∃ gO,gO=w.heap.size+1+1:=⟨_,rfl⟩
   rw [<- hgO] at HROW1 hsW' hsw ⊢
   have hgw:w.heap.size+1 < gO:=by omega
   clear hgO
   go_loopw [7,20] (fun oo ii wr=>∃ i:Nat,i<=N/\ii=.int .i64 (i:Int)/\wr.ownsRow gO 3 1 oo (ansF g a D i).length ((ansF g a D i).flatMap cI)/\Only gO (gO+1) w1 wr/\(∀ b,oo.ownBlock=some b->b=gO ∨ w1.heap.size<=b)) (fun _ ii _=>N - (intOf ii).toNat)
   case atStart=>exact ⟨0,Nat.zero_le _,rfl,HROW1.out,Only.refl _ _ _,fun b hb=>by cases hb;exact .inl rfl⟩
   case round =>
    clear HROW1
    obtain ⟨i,hi,rfl,hrow,hon,hob⟩:=hrel
    have x0:=ocell hon x0 l00 (.inl (by omega))
    have x1:=ocell hon x1 l00 (.inl (by omega))
    have y0:=ocell hon y0 l0 (.inl (by omega))
    have y1:=ocell hon y1 l0 (.inl (by omega))
    have y2:=ocell hon y2 l0 (.inl (by omega))
    have hsz:=hon.size
    have l0:=Nat.lt_of_lt_of_le l0 hsz
    have l00:=Nat.lt_of_lt_of_le l00 hsz
    have hbw:=hb2.trans (hon.below (B:=w.heap.size) (by omega) hb2.size)
    have HBW:=Hd_ hbw
    have HROW:=Hd_ hrow
    have HOB:=Hd_ hob
    have HON:=Hd_ hon
    have hfl:=ansF_len g a D i
    clear hrow hob hbw hon
    by_cases hlt:i < N
    · have hgp:g.vals.length * a.accept.length=N:=HN.out.symm
      obtain ⟨X,hX⟩:∃ X,X=i / a.accept.length:=⟨_,rfl⟩
      obtain ⟨S,hS⟩:∃ S,S=i % a.accept.length:=⟨_,rfl⟩
      have hXl:X < g.vals.length:=by rw [hX];exact Nat.div_lt_of_lt_mul (by rw [Nat.mul_comm,hgp];exact hlt)
      have hSl:S < a.accept.length:=by rw [hS];exact Nat.mod_lt _ hn1
      have t1:(i:Int).tdiv (a.accept.length:Int)=(X:Int):=by rw [hX];rfl
      have t2:(i:Int).tmod (a.accept.length:Int)=(S:Int):=by rw [hS];rfl
      have hn0:((a.accept.length:Int)==0)=false:=by simp only [beq_eq_false_iff_ne,ne_eq];omega
      have hae:a.accept ≠ []:=by intro h;rw [h] at hn1;simp at hn1
      have hdi:=getD_of (D:=D) (k:=i) (by have:=HDL.out;omega)
      obtain ⟨b6,o6,rfl,hb60,hb6,d6⟩:=HC6.out.intI hdi
      have d6:=ocell HON.out d6 hb6 (.inr (by omega))
      have hvi:g.vals[X]?=some g.vals[X]:=List.getElem?_eq_getElem hXl
      have hvr:=HGO.out.vals _ (List.getElem_mem hXl)
      generalize g.vals[X]=vx at hvi hvr
      obtain ⟨vx,rfl⟩:=Int.eq_ofNat_of_zero_le hvr.1
      have hva:=valAt_of hvi
      rw [Int.toNat_natCast] at hva
      obtain ⟨b1,o1,rfl,hb1,d1⟩:=HC1.out.int hvi
      have d1:=kcell HBW.out d1
      have hb1w:=Nat.lt_of_lt_of_le hb1 HBW.out.size
      have hb6w:=Nat.lt_of_lt_of_le hb6 hsz
      have hii:(i:Int) < (N:Int):=by omega
      have hxx:(X:Int) < (g.vals.length:Int):=by omega
      have HOK:=Hd_ (show okV g a D i=(decide (0<=D.getD i 0) && accC a vx S) by rw [okV,<- hX,<- hS,hva])
      have HY:=Hd_ (fun h:okV g a D i=true=>(ansF_yes h).trans (by rw [<- hX]:ansF g a D i ++ [((i / a.accept.length:Nat):Int)]=ansF g a D i ++ [(X:Int)]))
      have HNo:=Hd_ (fun h:okV g a D i=false=>ansF_no h)
      have HACC:=Hd_ (show ∀ W,Below w.heap.size w W->Calls Tryz.prog 99 #[.agg #[.int .i64 a.start,.slice A3 a.accept.length c3,.slice A4 n4 c4],.int .i64 (bit S:Int),.int .i64 (vx:Int)] W fun e w'=>e=.returned (.bool (accC a vx S))/\Below W.heap.size W w' from fun W hW=>by
       have h:=acceptsAt_any _ a (bit S) vx W (HAV.out.keep hW) HAO.out (bit_lt hSl) (by omega)
       rwa [acc_one _ _ (show S < 12 by omega)] at h)
      clear hX hS hgp hdi hvi hva
      generalize D.getD i 0=d at *
      generalize ansF g a D i=L at *
      by_cases hd:0<=d
      · have hd0:decide (d >= 0)=true:=by simpa using hd
        rw [show decide (0<=d)=true by simpa using hd,Bool.true_and] at HOK
        have s1:=shl_bit (s:=S) (by omega)
        have s2:=shl_bit2 (s:=S) (by omega)
        have s3:=shl_bit3 (s:=S) (by omega)
        have q1:IntKind.i64.wrap (X:Int)=(X:Int):=IntWalk.i64_in _ (by omega)
        have q2:IntKind.i64.wrap (S:Int)=(S:Int):=IntWalk.i64_in _ (by omega)
        go_wp2_with fail
        refine wp_region_ext_lit (by kernel_rfl) (by kernel_rfl) ?_
        repeat (go_big_quiet_step ((go_at_call 99;exact Calls.ext_of (HACC.out _ (below_trans HBW.out (ext_below _ _))))))
        refine wpQuiet_nil ?_
        rintro _ ⟨u2,rfl⟩
        have hbu:=ext_below wr u2
        have hsu:=hbu.size
        have HR2:=Hd_ (ownsRow_below HROW.out hbu (Nat.le_refl _))
        have HON2:=Hd_ (HON.out.trans (Only.of_below hbu gO (gO+1)))
        clear s1 s2 s3 q1 q2
        generalize ext wr u2=wx at *
        cases hc:accC a vx S with
        | true =>
          have HM:=Hd_ (HY.out (by rw [HOK.out,hc]))
          clear hc
          go_wp2_with (at_builtin;(refine wpList_append1 cI elInt rfl _ _ rfl gO _ L (X:Int) _ 1 _ (by rfl) HR2.out (by rfl) rfl rfl rfl (cI_one _) (by omega) (by omega) (by omega) ?_);intro v' w4 hrow' hb4 hat4 hgr4)
          go_roundw
          case rel =>
           refine ⟨i+1,by omega,by go_num,by rw [HM.out];exact hrow',(HON2.out.alloc _).grown hgr4 (fun b hb=>by have:=HOB.out b hb;omega),fun b hb=>?_⟩
           rcases hat4 with h1 | ⟨g1,h1,h2⟩
           · exact HOB.out b (by rw [<- h1];exact hb)
           · rw [h1] at hb
             injection hb with hb
             exact .inr (by omega)
          case measure=>simp [intOf];omega
        | false =>
          have HM:=Hd_ (HNo.out (by rw [HOK.out,hc]))
          clear hc
          go_wp2_with fail
          go_roundw
          case rel=>exact ⟨i+1,by omega,by go_num,by rw [HM.out];exact HR2.out,HON2.out,HOB.out⟩
          case measure=>simp [intOf];omega
      · have hd0:decide (d >= 0)=false:=by simpa using hd
        have HM:=Hd_ (HNo.out (by rw [HOK.out,show decide (0<=d)=false by simpa using hd];rfl))
        go_wp2_with fail
        refine wp_region_ext_lit (by kernel_rfl) (by kernel_rfl) ?_
        repeat (go_big_quiet_step (fail))
        refine wpQuiet_nil ?_
        rintro _ ⟨u2,rfl⟩
        have hbu:=ext_below wr u2
        have HR2:=Hd_ (ownsRow_below HROW.out hbu (Nat.le_refl _))
        have HON2:=Hd_ (HON.out.trans (Only.of_below hbu gO (gO+1)))
        generalize ext wr u2=wx at *
        go_wp2_with fail
        go_roundw
        case rel=>exact ⟨i+1,by omega,by go_num,by rw [HM.out];exact HR2.out,HON2.out,HOB.out⟩
        case measure=>simp [intOf];omega
    · obtain rfl:i=N:=by omega
      have hown:=Own.of_row (xs:=ansF g a D i) HROW.out rfl rfl
      have has:=ascending_any _ _ wr ((hown.sl cI_len).all (Nat.le_refl _)) (by omega)
      rw [HASC.out] at has
      have HAS:=Hd_ has
      clear has
      go_wp2_with fail
      refine HAS.out.mono ?_
      rintro e w2 ⟨v2,rfl,ho2,hb3⟩
      have HO:=Hd_ (ho2.mono HBW.out.size (Nat.le_refl _))
      obtain ⟨A9,n9,c9,rfl⟩:=ho2.shape
      clear ho2 hown
      go_wp2_with fail
      go_ret
      exact ⟨_,rfl,HO.out,below_trans HBW.out hb3⟩
theorem elPair:ElemOk Tryz.prog 52 120 (.agg #[.int .i64 0,.int .i64 0]) 2 16:=⟨Tryz.underlying52,by kernel_rfl,rfl,by omega⟩
theorem goodB0 (g:Gr) (a:Au) (x:Int):goodB g a x 0=(grOk g && (auOk a && wi x 0 ((g.vals.length:Int) - 1))):=by
 unfold goodB
 cases h:auOk a with
 | false=>simp
 | true =>
   have h1:=(auOk_iff.1 h).1.1
   have h2:wi 0 0 ((a.accept.length:Int) - 1)=true:=wi_iff.2 (by omega)
   rw [h2]
   simp
theorem goodB00 (g:Gr) (a:Au):goodB g a 0 0=(grOk g && auOk a):=by
 rw [goodB0]
 cases hg:grOk g with
 | false=>simp
 | true =>
   have h1:=(grOk_iff.1 hg).n1
   have h2:wi 0 0 ((g.vals.length:Int) - 1)=true:=wi_iff.2 (by omega)
   rw [h2]
   cases auOk a <;> simp
def allRow (g:Gr) (a:Au) (x k:Nat):List Pr:=((ansL g a (x:Int)).take k).map fun y=>((x:Int),y)
def allTo (g:Gr) (a:Au) (i:Nat):List Pr:=(List.range i).flatMap fun (x:Nat)=>allRow g a x (ansL g a (x:Int)).length
def allL (g:Gr) (a:Au):List Pr:=if (grOk g && auOk a)=true then allTo g a g.vals.length else []
theorem allRow_zero (g:Gr) (a:Au) (x:Nat):allRow g a x 0=[]:=by simp [allRow]
theorem allRow_snoc {g:Gr} {a:Au} {x k:Nat} {y:Int} (h:(ansL g a (x:Int))[k]?=some y):allRow g a x (k+1)=allRow g a x k ++ [((x:Int),y)]:=by
 rw [allRow,take_snoc h,List.map_append];rfl
theorem allRow_len (g:Gr) (a:Au) (x k:Nat):(allRow g a x k).length<=30:=by
 have:=ansL_len g a (x:Int)
 simp only [allRow,List.length_map,List.length_take];omega
theorem allTo_snoc (g:Gr) (a:Au) (i:Nat):allTo g a (i+1)=allTo g a i ++ allRow g a i (ansL g a (i:Int)).length:=by
 simp [allTo,List.range_succ]
theorem allTo_len (g:Gr) (a:Au) (i:Nat):(allTo g a i).length<=30 * i:=by
 induction i with
 | zero=>simp [allTo]
 | succ i ih =>
   have:=allRow_len g a i (ansL g a (i:Int)).length
   rw [allTo_snoc,List.length_append];omega
theorem allL_len (g:Gr) (a:Au):(allL g a).length<=150:=by
 unfold allL
 split
 · rename_i h
   simp only [Bool.and_eq_true] at h
   have:=(grOk_iff.1 h.1).n5
   have:=allTo_len g a g.vals.length
   omega
 · simp
set_option maxHeartbeats 4000000 in
set_option maxRecDepth 100000 in
theorem implAllAnswers (vg va:Value) (g:Gr) (a:Au) (w:World) (hgv:GrV 0 w.heap.size w vg g) (hav:AuV 0 w.heap.size w va a) :
 Calls Tryz.prog 94 #[vg,va] w fun e w'=>∃ v',e=.returned v'/\Own w.heap.size w'.heap.size w' 120 cPr 2 v' (allL g a)/\Below w.heap.size w w':=by
 obtain ⟨R,hR⟩:∃ R,R=allL g a:=⟨_,rfl⟩
 rw [<- hR]
 have hgv0:=hgv
 have hav0:=hav
 obtain ⟨A1,c1,A2,c2,rfl,hl1,hm1,hl2,hm2,-,-⟩:=hgv.form
 obtain ⟨A3,n3,c3,A4,n4,c4,rfl⟩:=hav.shape
 have hb0:Below w.heap.size w ((w.alloc (.cells #[.slice A1 g.vals.length c1,.slice A2 g.edges.length c2] 27)).alloc (.cells #[.int .i64 a.start,.slice A3 n3 c3,.slice A4 n4 c4] 31)):=((Below.refl _ _).alloc (Nat.le_refl _) _).alloc (by simp) _
 have HGV:=Hd_ hgv0
 have HAV:=Hd_ hav0
 have HRR:=Hd_ hR
 clear hgv hav hgv0 hav0 hR
 go_enter Tryz.func94,Tryz.ntmps94
 go_wp2_with fail
 obtain ⟨W0,hW0⟩:∃ W0,W0=((w.alloc (.cells #[.slice A1 g.vals.length c1,.slice A2 g.edges.length c2] 27)).alloc (.cells #[.int .i64 a.start,.slice A3 n3 c3,.slice A4 n4 c4] 31)):=⟨_,rfl⟩
 rw [<- hW0] at hb0 ⊢
 have x0:W0.cell? ⟨w.heap.size,0,none⟩=some (.slice A1 g.vals.length c1):=by rw [hW0];simp
 have x1:W0.cell? ⟨w.heap.size,1,none⟩=some (.slice A2 g.edges.length c2):=by rw [hW0];simp
 have y0:W0.cell? ⟨w.heap.size+1,0,none⟩=some (.int .i64 a.start):=by rw [hW0];simp
 have y1:W0.cell? ⟨w.heap.size+1,1,none⟩=some (.slice A3 n3 c3):=by rw [hW0];simp
 have y2:W0.cell? ⟨w.heap.size+1,2,none⟩=some (.slice A4 n4 c4):=by rw [hW0];simp
 have hs0:w.heap.size+1+1=W0.heap.size:=by rw [hW0];simp
 try rw [hs0]
 have l0:w.heap.size+1 < W0.heap.size:=by omega
 have l00:w.heap.size < W0.heap.size:=by omega
 clear hW0 hs0
 have hbo:=bothOk_any _ _ (.slice none 0 0) g a [] W0 (HGV.out.keep hb0) (HAV.out.keep hb0) (SlI.nil _ _ _ _ _)
 rw [List.all_nil,Bool.true_and] at hbo
 have HBO:=Hd_ hbo
 have hR:=HRR.out
 rw [allL] at hR
 clear hbo HRR
 cases hk:(grOk g && auOk a) with
 | false =>
   rw [hk] at HBO hR
   have hr0:R=[]:=hR
   subst hr0
   clear hk hR
   refine HBO.out.mono ?_
   rintro e w1 ⟨rfl,hb1⟩
   go_wp2_with fail
   go_ret
   exact ⟨_,rfl,Own.nil _ _ _ _ _ _,below_trans hb0 hb1⟩
 | true =>
   rw [hk] at HBO hR
   have hT2:R=allTo g a g.vals.length:=hR
   have hn5:=(grOk_iff.1 (Bool.and_eq_true .. ▸ hk).1).n5
   have HR:=Hd_ hT2
   clear hk hR hT2
   refine HBO.out.mono ?_
   rintro e w1 ⟨rfl,hb1⟩
   have x0:=kcell hb1 x0
   have x1:=kcell hb1 x1
   have y0:=kcell hb1 y0
   have y1:=kcell hb1 y1
   have y2:=kcell hb1 y2
   have hb2:=below_trans hb0 hb1
   have l0:=Nat.lt_of_lt_of_le l0 hb1.size
   have l00:=Nat.lt_of_lt_of_le l00 hb1.size
   clear hb1 hb0 HBO
   go_wp2_with fail
   obtain ⟨gO,hgO⟩:∃ gO,gO=w1.heap.size:=⟨_,rfl⟩
   obtain ⟨W5,hW5⟩:∃ W5,W5=w1.alloc (.cells #[] 120):=⟨_,rfl⟩
   have hrow0:W5.ownsRow gO 120 2 (.slice (some ⟨gO,0,none⟩) 0 0) ([]:List Pr).length (([]:List Pr).flatMap cPr):=by
    rw [hW5,hgO]
    have h:=World.ownsRow_lit (base:=w1.heap.size) (e:=120) (size:=2) w1 #[] 0 (by simp) (by decide) rfl
    simpa using h
   have hb4:Below w1.heap.size w1 W5:=by rw [hW5];exact (Below.refl _ _).alloc (Nat.le_refl _) _
   have hgs:gO < W5.heap.size:=by rw [hW5,hgO];simp
   rw [<- hW5,<- hgO]
   have hgw:w.heap.size+1 < gO:=by omega
   have hb5:=below_trans hb2 hb4
   have x0:=kcell hb4 x0
   have x1:=kcell hb4 x1
   have y0:=kcell hb4 y0
   have y1:=kcell hb4 y1
   have y2:=kcell hb4 y2
   have l0:=Nat.lt_of_lt_of_le l0 hb4.size
   have l00:=Nat.lt_of_lt_of_le l00 hb4.size
   have HROW0:=Hd_ hrow0
   clear hrow0 hW5 hgO hb4 hb2
   go_loopw [5,17] (fun oo ii wr=>∃ i:Nat,i<=g.vals.length/\ii=.int .i64 (i:Int)/\wr.ownsRow gO 120 2 oo (allTo g a i).length ((allTo g a i).flatMap cPr)/\Below gO W5 wr) (fun _ ii _=>g.vals.length - (intOf ii).toNat)
   case atStart=>exact ⟨0,Nat.zero_le _,rfl,HROW0.out,Below.refl _ _⟩
   case round =>
    clear HROW0
    obtain ⟨i,hi,rfl,hrow,hbel⟩:=hrel
    have x0:=(hbel.cell (p:=⟨w.heap.size,0,none⟩) (by simp only;omega)).trans x0
    have x1:=(hbel.cell (p:=⟨w.heap.size,1,none⟩) (by simp only;omega)).trans x1
    have y0:=(hbel.cell (p:=⟨w.heap.size+1,0,none⟩) (by simp only;omega)).trans y0
    have y1:=(hbel.cell (p:=⟨w.heap.size+1,1,none⟩) (by simp only;omega)).trans y1
    have y2:=(hbel.cell (p:=⟨w.heap.size+1,2,none⟩) (by simp only;omega)).trans y2
    have hsz:=hbel.size
    have l0:=Nat.lt_of_lt_of_le l0 hsz
    have l00:=Nat.lt_of_lt_of_le l00 hsz
    have hbw:=hb5.trans (hbel.mono (show w.heap.size<=gO by omega))
    have HBW:=Hd_ hbw
    have HROW:=Hd_ hrow
    have HBEL:=Hd_ hbel
    have hfl:=allTo_len g a i
    clear hrow hbw hbel
    obtain ⟨wo,rfl⟩:∃ wo:World,wo=wr:=⟨_,rfl⟩
    by_cases hlt:i < g.vals.length
    · have hii:(i:Int) < (g.vals.length:Int):=by omega
      have HAF:=Hd_ (implAnswersFrom _ _ g a (i:Int) wo (HGV.out.keep HBW.out) (HAV.out.keep HBW.out))
      go_wp2_with fail
      refine HAF.out.mono ?_
      rintro e w6 ⟨v6,rfl,ho6,hb6⟩
      clear HAF
      have hs6:=hb6.size
      have x0:=kcell hb6 x0
      have x1:=kcell hb6 x1
      have y0:=kcell hb6 y0
      have y1:=kcell hb6 y1
      have y2:=kcell hb6 y2
      have l0:=Nat.lt_of_lt_of_le l0 hs6
      have l00:=Nat.lt_of_lt_of_le l00 hs6
      have HB6:=Hd_ hb6
      have HR6:=Hd_ (ownsRow_below HROW.out hb6 (Nat.le_refl _))
      have hob6:=HROW.out.lt
      have HC6:=Hd_ (ho6.sl cI_len)
      obtain ⟨A6,c6,rfl,hl6,hm6,-⟩:=ho6.form cI_len
      have HT1:=Hd_ (allTo_snoc g a i)
      have hln:=ansL_len g a (i:Int)
      have HRW:=Hd_ (fun (k:Nat) (y:Int) (h:(ansL g a (i:Int))[k]?=some y)=>allRow_snoc (g:=g) (a:=a) (x:=i) h)
      have HR0:=Hd_ (allRow_zero g a i)
      have hrl:=allRow_len g a i
      have HRL:=Hd_ hrl
      clear ho6 hrl
      generalize ansL g a (i:Int)=l at *
      generalize allTo g a i=L at *
      obtain ⟨N,hN⟩:∃ N,N=l.length:=⟨_,rfl⟩
      rw [<- hN] at hl6 hln HT1 ⊢
      have HN:=Hd_ hN
      clear hN
      go_wp2_with fail
      go_loopw [5,25] (fun oo jj wr=>∃ j:Nat,j<=N/\jj=.int .i64 (j:Int)/\wr.ownsRow gO 120 2 oo (L ++ allRow g a i j).length ((L ++ allRow g a i j).flatMap cPr)/\Only gO wo.heap.size w6 wr/\(∀ b,oo.ownBlock=some b->(gO<=b/\b < wo.heap.size) ∨ w6.heap.size<=b)) (fun _ jj _=>N - (intOf jj).toNat)
      case atStart=>exact ⟨0,Nat.zero_le _,rfl,by rw [HR0.out,List.append_nil];exact HR6.out,Only.refl _ _ _,fun b hb=>.inl (hob6 b hb)⟩
      case round =>
       clear HR6 hob6
       obtain ⟨j,hj,rfl,hrow,hon,hob⟩:=hrel
       have x0:=ocell hon x0 l00 (.inl (by omega))
       have x1:=ocell hon x1 l00 (.inl (by omega))
       have y0:=ocell hon y0 l0 (.inl (by omega))
       have y1:=ocell hon y1 l0 (.inl (by omega))
       have y2:=ocell hon y2 l0 (.inl (by omega))
       have hsz2:=hon.size
       have HROW2:=Hd_ hrow
       have HON:=Hd_ hon
       have HOB:=Hd_ hob
       have hrl:=HRL.out j
       clear hrow hon hob
       by_cases hlj:j < N
       · have hjj:(j:Int) < (N:Int):=by omega
         have hyi:=getD_of (D:=l) (k:=j) (by have:=HN.out;omega)
         obtain ⟨b6,o6,rfl,hb60,hb6x,d6⟩:=HC6.out.intI hyi
         have d6:=ocell HON.out d6 hb6x (.inr (by omega))
         have hb6w:b6 < wr.heap.size:=by omega
         have HSN:=Hd_ (show (L ++ allRow g a i j) ++ [((i:Int),l.getD j 0)]=L ++ allRow g a i (j+1) by rw [HRW.out j _ hyi,List.append_assoc])
         have hll:(L ++ allRow g a i j).length<=1000:=by rw [List.length_append];omega
         clear hyi
         generalize l.getD j 0=yy at *
         generalize L ++ allRow g a i j=LL at *
         go_wp2_with (at_builtin;(refine wpList_append1 cPr elPair rfl _ _ rfl gO _ LL ((i:Int),yy) _ 1 _ (by rfl) HROW2.out (by rfl) rfl rfl rfl (cPr_one _) (by omega) (by omega) (by omega) ?_);intro v' w4 hrow' hb4 hat4 hgr4)
         go_roundw
         case rel =>
          refine ⟨j+1,by omega,by go_num,by rw [<- HSN.out];exact hrow',(HON.out.alloc _).grown hgr4 (fun b hb=>HOB.out b hb),fun b hb=>?_⟩
          rcases hat4 with h1 | ⟨g1,h1,h2⟩
          · exact HOB.out b (by rw [<- h1];exact hb)
          · rw [h1] at hb
            injection hb with hb
            exact .inr (by omega)
         case measure=>simp [intOf];omega
       · obtain rfl:j=N:=by omega
         rw [<- HT1.out] at HROW2
         have HBX:=Hd_ (HBEL.out.trans ((HB6.out.mono (show gO<=wo.heap.size by omega)).trans (HON.out.below (Nat.le_refl _) (by omega))))
         go_wp2_with fail
         go_roundw
         case rel=>exact ⟨i+1,by omega,by go_num,HROW2.out,HBX.out⟩
         case measure=>simp [intOf];omega
    ·
     obtain rfl:i=g.vals.length:=by omega
     have hown:=Own.of_row (xs:=allTo g a g.vals.length) HROW.out rfl rfl
     rw [<- HR.out] at hown
     obtain ⟨A9,n9,c9,rfl⟩:=hown.shape
     have HO:=Hd_ (hown.mono (show w.heap.size<=gO by omega) (Nat.le_refl _))
     clear hown
     go_wp2_with fail
     go_ret
     exact ⟨_,rfl,HO.out,HBW.out⟩
set_option maxHeartbeats 4000000 in
set_option maxRecDepth 100000 in
theorem specAllAnswers (vg va:Value) (g:Gr) (a:Au) (w:World) (hgv:GrV 0 w.heap.size w vg g) (hav:AuV 0 w.heap.size w va a) :
 Calls Tryz.prog 39 #[vg,va] w fun e w'=>∃ v',e=.returned v'/\Own w.heap.size w'.heap.size w' 120 cPr 2 v' (allL g a)/\Below w.heap.size w w':=by
 obtain ⟨R,hR⟩:∃ R,R=allL g a:=⟨_,rfl⟩
 rw [<- hR]
 have HRR:=Hd_ hR
 clear hR
 have hgv0:=hgv
 have hav0:=hav
 obtain ⟨A1,c1,A2,c2,rfl,hl1,hm1,hl2,hm2,hC1,-⟩:=hgv.form
 obtain ⟨ac,nx,rfl,hac,hnx⟩:=hav
 obtain ⟨A3,c3,rfl,hl3,hm3,-⟩:=SlE.form hac
 obtain ⟨A4,n4,c4,rfl⟩:=hnx.shape
 have hb0:Below w.heap.size w ((w.alloc (.cells #[.slice A1 g.vals.length c1,.slice A2 g.edges.length c2] 27)).alloc (.cells #[.int .i64 a.start,.slice A3 a.accept.length c3,.slice A4 n4 c4] 31)):=((Below.refl _ _).alloc (Nat.le_refl _) _).alloc (by simp) _
 have HGV:=Hd_ hgv0
 have HAV:=Hd_ hav0
 have HC1:=Hd_ hC1
 clear hgv hac hnx hgv0 hav0 hC1
 go_enter Tryz.func39,Tryz.ntmps39
 go_wp2_with fail
 obtain ⟨W0,hW0⟩:∃ W0,W0=((w.alloc (.cells #[.slice A1 g.vals.length c1,.slice A2 g.edges.length c2] 27)).alloc (.cells #[.int .i64 a.start,.slice A3 a.accept.length c3,.slice A4 n4 c4] 31)).alloc (.cells #[] 120):=⟨_,rfl⟩
 have hb0:Below w.heap.size w W0:=by rw [hW0];exact hb0.alloc hb0.size _
 rw [<- hW0]
 have bx:Blk W0 w.heap.size 27 #[.slice A1 g.vals.length c1,.slice A2 g.edges.length c2]:=by rw [hW0];exact ((Blk.new w _ _ w.heap.size rfl).alloc _).alloc _
 have by_:Blk W0 (w.heap.size+1) 31 #[.int .i64 a.start,.slice A3 a.accept.length c3,.slice A4 n4 c4]:=by rw [hW0];exact (Blk.new (w.alloc _) _ _ (w.heap.size+1) (by simp)).alloc _
 have hrow0:W0.ownsRow (w.heap.size+1+1) 120 2 (.slice (some ⟨w.heap.size+1+1,0,none⟩) 0 0) ([]:List Pr).length (([]:List Pr).flatMap cPr):=by
  rw [hW0]
  have h:=World.ownsRow_lit (base:=w.heap.size+1+1) (e:=120) (size:=2) ((w.alloc (.cells #[.slice A1 g.vals.length c1,.slice A2 g.edges.length c2] 27)).alloc (.cells #[.int .i64 a.start,.slice A3 a.accept.length c3,.slice A4 n4 c4] 31)) #[] 0 (by simp) (by decide) rfl
  simpa using h
 have x0:W0.cell? ⟨w.heap.size,0,none⟩=some (.slice A1 g.vals.length c1):=bx.cell 0
 have x1:W0.cell? ⟨w.heap.size,1,none⟩=some (.slice A2 g.edges.length c2):=bx.cell 1
 have y0:W0.cell? ⟨w.heap.size+1,0,none⟩=some (.int .i64 a.start):=by_.cell 0
 have y1:W0.cell? ⟨w.heap.size+1,1,none⟩=some (.slice A3 a.accept.length c3):=by_.cell 1
 have y2:W0.cell? ⟨w.heap.size+1,2,none⟩=some (.slice A4 n4 c4):=by_.cell 2
 have l0:=by_.lt
 have l00:=bx.lt
 have HROW0:=Hd_ hrow0
 have hsW:W0.heap.size=w.heap.size+1+1+1:=by rw [hW0];simp
 have hsW':w.heap.size+1+1 < W0.heap.size:=by omega
 have HSW:=Hd_ hsW
 clear hW0 bx by_ hrow0 hsW
 have HG:=Hd_ (fun (W:World) (hW:Below w.heap.size w W)=>show Calls Tryz.prog 80 #[_,_,.int .i64 0,.int .i64 0] W fun e w'=>e=.returned (.bool (grOk g && auOk a))/\Below W.heap.size W w' by rw [<- goodB00];exact l14Good_any _ _ g a 0 0 W (HGV.out.keep hW) (HAV.out.keep hW))
 have hR:=HRR.out
 rw [allL] at hR
 clear HRR
 cases hk:(grOk g && auOk a) with
 | false =>
   rw [hk] at HG hR
   have hr0:R=[]:=hR
   subst hr0
   have HB0:=Hd_ hb0
   clear hk hR hb0
   go_loopw [5,6] (fun oo ii wr=>oo=.slice (some ⟨w.heap.size+1+1,0,none⟩) 0 0/\ii=.int .i64 0/\wr=W0) (fun _ _ _=>0)
   case atStart=>exact ⟨rfl,rfl,rfl⟩
   case round =>
    obtain ⟨rfl,rfl,rfl⟩:=hrel
    have hO:=Hd_ ((Own.of_row (xs:=([]:List Pr)) HROW0.out rfl rfl).mono (show w.heap.size<=w.heap.size+1+1 by omega) (Nat.le_refl _))
    by_cases h0:(0:Int) < (g.vals.length:Int)
    · go_wp2_with fail
      refine (HG.out _ HB0.out).mono ?_
      rintro e w2 ⟨rfl,hb2⟩
      have HO2:=Hd_ ((hO.out.below hb2 (Nat.le_refl _)).mono (Nat.le_refl _) hb2.size)
      go_wp2_with fail
      go_ret
      exact ⟨_,rfl,HO2.out,below_trans HB0.out hb2⟩
    · go_wp2_with fail
      go_ret
      exact ⟨_,rfl,hO.out,HB0.out⟩
 | true =>
   rw [hk] at HG hR
   simp only [Bool.and_eq_true] at hk
   obtain ⟨hgo,hao⟩:=hk
   have hn5:=(grOk_iff.1 hgo).n5
   have hr1:R=allTo g a g.vals.length:=hR
   have HR:=Hd_ hr1
   have HLF:=Hd_ (fun (x:Nat) (W:World) (hW:Below w.heap.size w W) (hx:x < g.vals.length)=>l15From_any _ _ g a x W (HGV.out.keep hW) (HAV.out.keep hW) hgo hao hx)
   clear hgo hao hR hr1
   obtain ⟨gO,hgO⟩:∃ gO,gO=w.heap.size+1+1:=⟨_,rfl⟩
   rw [<- hgO] at HROW0 hsW' ⊢
   have hgw:w.heap.size+1 < gO:=by omega
   have hgs:=hsW'
   have hb5:=hb0
   obtain ⟨W5,rfl⟩:∃ W5:World,W5=W0:=⟨_,rfl⟩
   clear hgO HSW hsW' hb0
   go_loopw [5,6] (fun oo ii wr=>∃ i:Nat,i<=g.vals.length/\ii=.int .i64 (i:Int)/\wr.ownsRow gO 120 2 oo (allTo g a i).length ((allTo g a i).flatMap cPr)/\Below gO W5 wr) (fun _ ii _=>g.vals.length - (intOf ii).toNat)
   case atStart=>exact ⟨0,Nat.zero_le _,rfl,HROW0.out,Below.refl _ _⟩
   case round =>
    clear HROW0
    obtain ⟨i,hi,rfl,hrow,hbel⟩:=hrel
    have x0:=(hbel.cell (p:=⟨w.heap.size,0,none⟩) (by simp only;omega)).trans x0
    have x1:=(hbel.cell (p:=⟨w.heap.size,1,none⟩) (by simp only;omega)).trans x1
    have y0:=(hbel.cell (p:=⟨w.heap.size+1,0,none⟩) (by simp only;omega)).trans y0
    have y1:=(hbel.cell (p:=⟨w.heap.size+1,1,none⟩) (by simp only;omega)).trans y1
    have y2:=(hbel.cell (p:=⟨w.heap.size+1,2,none⟩) (by simp only;omega)).trans y2
    have hsz:=hbel.size
    have l0:=Nat.lt_of_lt_of_le l0 hsz
    have l00:=Nat.lt_of_lt_of_le l00 hsz
    have hbw:=hb5.trans (hbel.mono (show w.heap.size<=gO by omega))
    have HBW:=Hd_ hbw
    have HROW:=Hd_ hrow
    have HBEL:=Hd_ hbel
    have hfl:=allTo_len g a i
    clear hrow hbw hbel
    obtain ⟨wo,rfl⟩:∃ wo:World,wo=wr:=⟨_,rfl⟩
    by_cases hlt:i < g.vals.length
    · have hii:(i:Int) < (g.vals.length:Int):=by omega
      go_wp2_with fail
      refine (HG.out _ HBW.out).mono ?_
      rintro e w2 ⟨rfl,hb2⟩
      have hbw2:=below_trans HBW.out hb2
      have x0:=kcell hb2 x0
      have x1:=kcell hb2 x1
      have y0:=kcell hb2 y0
      have y1:=kcell hb2 y1
      have y2:=kcell hb2 y2
      have HROW:=Hd_ (ownsRow_below HROW.out hb2 (Nat.le_refl _))
      have hs2:=hb2.size
      have l0:=Nat.lt_of_lt_of_le l0 hs2
      have l00:=Nat.lt_of_lt_of_le l00 hs2
      have HBEL:=Hd_ (HBEL.out.trans (hb2.mono (show gO<=wo.heap.size by omega)))
      have hsz:=HBEL.out.size
      clear hb2
      obtain ⟨wp,rfl⟩:∃ wp:World,wp=wo:=⟨_,rfl⟩
      obtain ⟨wo,rfl⟩:∃ wo:World,wo=w2:=⟨_,rfl⟩
      go_wp2_with fail
      refine (HLF.out i _ hbw2 hlt).mono ?_
      rintro e w6 ⟨v6,rfl,ho6,hb6⟩
      have hs6:=hb6.size
      have x0:=kcell hb6 x0
      have x1:=kcell hb6 x1
      have y0:=kcell hb6 y0
      have y1:=kcell hb6 y1
      have y2:=kcell hb6 y2
      have l0:=Nat.lt_of_lt_of_le l0 hs6
      have l00:=Nat.lt_of_lt_of_le l00 hs6
      have HB6:=Hd_ hb6
      have HR6:=Hd_ (ownsRow_below HROW.out hb6 (Nat.le_refl _))
      have hob6:=HROW.out.lt
      have HC6:=Hd_ (ho6.sl cI_len)
      obtain ⟨A6,c6,rfl,hl6,hm6,-⟩:=ho6.form cI_len
      have HT1:=Hd_ (allTo_snoc g a i)
      have hln:=ansL_len g a (i:Int)
      have HRW:=Hd_ (fun (k:Nat) (y:Int) (h:(ansL g a (i:Int))[k]?=some y)=>allRow_snoc (g:=g) (a:=a) (x:=i) h)
      have HR0:=Hd_ (allRow_zero g a i)
      have hrl:=allRow_len g a i
      have HRL:=Hd_ hrl
      clear ho6 hrl
      generalize ansL g a (i:Int)=l at *
      generalize allTo g a i=L at *
      obtain ⟨N,hN⟩:∃ N,N=l.length:=⟨_,rfl⟩
      rw [<- hN] at hl6 hln HT1 ⊢
      have HN:=Hd_ hN
      clear hN
      go_wp2_with fail
      go_loopw [5,8] (fun oo jj wr=>∃ j:Nat,j<=N/\jj=.int .i64 (j:Int)/\wr.ownsRow gO 120 2 oo (L ++ allRow g a i j).length ((L ++ allRow g a i j).flatMap cPr)/\Only gO wo.heap.size w6 wr/\(∀ b,oo.ownBlock=some b->(gO<=b/\b < wo.heap.size) ∨ w6.heap.size<=b)) (fun _ jj _=>N - (intOf jj).toNat)
      case atStart=>exact ⟨0,Nat.zero_le _,rfl,by rw [HR0.out,List.append_nil];exact HR6.out,Only.refl _ _ _,fun b hb=>.inl (hob6 b hb)⟩
      case round =>
       clear HR6 hob6
       obtain ⟨j,hj,rfl,hrow,hon,hob⟩:=hrel
       have x0:=ocell hon x0 l00 (.inl (by omega))
       have x1:=ocell hon x1 l00 (.inl (by omega))
       have y0:=ocell hon y0 l0 (.inl (by omega))
       have y1:=ocell hon y1 l0 (.inl (by omega))
       have y2:=ocell hon y2 l0 (.inl (by omega))
       have hsz2:=hon.size
       have HROW2:=Hd_ hrow
       have HON:=Hd_ hon
       have HOB:=Hd_ hob
       have hrl:=HRL.out j
       clear hrow hon hob
       by_cases hlj:j < N
       · have hjj:(j:Int) < (N:Int):=by omega
         have hyi:=getD_of (D:=l) (k:=j) (by have:=HN.out;omega)
         obtain ⟨b6,o6,rfl,hb60,hb6x,d6⟩:=HC6.out.intI hyi
         have d6:=ocell HON.out d6 hb6x (.inr (by omega))
         have hb6w:b6 < wr.heap.size:=by omega
         have HSN:=Hd_ (show (L ++ allRow g a i j) ++ [((i:Int),l.getD j 0)]=L ++ allRow g a i (j+1) by rw [HRW.out j _ hyi,List.append_assoc])
         have hll:(L ++ allRow g a i j).length<=1000:=by rw [List.length_append];omega
         clear hyi
         generalize l.getD j 0=yy at *
         generalize L ++ allRow g a i j=LL at *
         go_wp2_with (at_builtin;(refine wpList_append1 cPr elPair rfl _ _ rfl gO _ LL ((i:Int),yy) _ 1 _ (by rfl) HROW2.out (by rfl) rfl rfl rfl (cPr_one _) (by omega) (by omega) (by omega) ?_);intro v' w4 hrow' hb4 hat4 hgr4)
         go_roundw
         case rel =>
          refine ⟨j+1,by omega,by go_num,by rw [<- HSN.out];exact hrow',(HON.out.alloc _).grown hgr4 (fun b hb=>HOB.out b hb),fun b hb=>?_⟩
          rcases hat4 with h1 | ⟨g1,h1,h2⟩
          · exact HOB.out b (by rw [<- h1];exact hb)
          · rw [h1] at hb
            injection hb with hb
            exact .inr (by omega)
         case measure=>simp [intOf];omega
       · obtain rfl:j=N:=by omega
         rw [<- HT1.out] at HROW2
         have HBX:=Hd_ (HBEL.out.trans ((HB6.out.mono (show gO<=wo.heap.size by omega)).trans (HON.out.below (Nat.le_refl _) (by omega))))
         go_wp2_with fail
         go_roundw
         case rel=>exact ⟨i+1,by omega,by go_num,HROW2.out,HBX.out⟩
         case measure=>simp [intOf];omega
    ·
     obtain rfl:i=g.vals.length:=by omega
     have hown:=Own.of_row (xs:=allTo g a g.vals.length) HROW.out rfl rfl
     rw [<- HR.out] at hown
     obtain ⟨A9,n9,c9,rfl⟩:=hown.shape
     have HO:=Hd_ (hown.mono (show w.heap.size<=gO by omega) (Nat.le_refl _))
     clear hown
     go_wp2_with fail
     go_ret
     exact ⟨_,rfl,HO.out,HBW.out⟩
/-- the cursor's bytes do not lie in blocks whose cells are no bytes -/
theorem Cur.off {w w':World} {b l r:Nat} (hc:Cur w b) (ho:Only l r w w') (hr:r<=b) (hn:∀ q,l<=q->q < r->∀ o (x:Int),w.cell? ⟨q,o,none⟩ ≠ some (.int .u8 x)):Cur w' b:=by
 obtain ⟨A,bs,c,i,h,h1,⟨A',c',hv,hl,hm,hx⟩,h3⟩:=hc
 have hbl:=h1.lt
 refine ⟨A,bs,c,i,h,h1.only ho (.inr hr),⟨A',c',hv,hl,hm,fun k u hk=>?_⟩,h3⟩
 obtain ⟨q,o,hA,h0,hqb,hcc⟩:=hx k u hk
 have hqr:q < l ∨ r<=q:=by
  rcases Nat.lt_or_ge q l with h5 | h5
  · exact .inl h5
  · rcases Nat.lt_or_ge q r with h6 | h6
    · exact absurd (hcc 0 _ rfl) (hn q h5 h6 _ _)
    · exact .inr h6
 exact ⟨q,o,hA,h0,hqb,fun j t ht=>(ho.cell (p:=⟨q,o+k * 1+j,none⟩) (by simp only;omega) (by simp only;omega)).trans (hcc j t ht)⟩
/-- a graph in the block gq, an automaton in aq, the cursor in b; the results' blocks r and r + 1 -/
structure GaR (b r gq aq:Nat) (w0 w:World) (gs es:Value) (g:Gr) (ac nx:Value) (a:Au):Prop where
 res1:Blk w r 27 #[.slice none 0 0,.slice none 0 0]
 res2:Blk w (r+1) 31 #[.int .i64 0,.slice none 0 0,.slice none 0 0]
 gbk:Blk w gq 27 #[gs,es]
 abk:Blk w aq 31 #[.int .i64 a.start,ac,nx]
 gv:GrV (b+1) gq w (.agg #[gs,es]) g
 av:AuV (b+1) gq w (.agg #[.int .i64 a.start,ac,nx]) a
 cur:Cur w b
 bel:Below w0.heap.size w0 w
 at0:w0.heap.size=r
 e11:g.edges.length<=11
 ord:r+1 < b/\b < gq/\gq < aq
section
variable {b r gq aq:Nat} {w0 w w':World} {gs es:Value} {g:Gr} {ac nx:Value} {a:Au}
theorem GaR.step (h:GaR b r gq aq w0 w gs es g ac nx a) (ho:Only b (b+1) w w') (hc:Cur w' b):GaR b r gq aq w0 w' gs es g ac nx a:=by
 have hd:=h.ord
 have hq:=h.abk.lt
 have h0:=h.at0
 exact ⟨h.res1.only ho (.inl (by omega)),h.res2.only ho (.inl (by omega)),h.gbk.only ho (.inr (by omega)),h.abk.only ho (.inr (by omega)),h.gv.only ho (by omega) (.inr (by omega)),h.av.only ho (by omega) (.inr (by omega)),hc,h.bel.trans (ho.below (B:=w0.heap.size) (by omega) h.bel.size),h.at0,h.e11,hd⟩
theorem GaR.keep (h:GaR b r gq aq w0 w gs es g ac nx a) (hb:Below w.heap.size w w'):GaR b r gq aq w0 w' gs es g ac nx a:=by
 have hd:=h.ord
 have hq:=h.abk.lt
 exact ⟨h.res1.keep hb,h.res2.keep hb,h.gbk.keep hb,h.abk.keep hb,h.gv.below hb (by omega),h.av.below hb (by omega),h.cur.keep hb,below_trans h.bel hb,h.at0,h.e11,hd⟩
theorem GaR.drew (h:GaR b r gq aq w0 w gs es g ac nx a):GaR b r gq aq w0 w.drew gs es g ac nx a:=h.keep (Below.refl w.heap.size w).drew
theorem GaR.grv (h:GaR b r gq aq w0 w gs es g ac nx a):GrV 0 w.heap.size w (.agg #[gs,es]) g:=h.gv.mono (Nat.zero_le _) (by have:=h.ord;have:=h.abk.lt;omega)
theorem GaR.auv (h:GaR b r gq aq w0 w gs es g ac nx a):AuV 0 w.heap.size w (.agg #[.int .i64 a.start,ac,nx]) a:=h.av.mono (Nat.zero_le _) (by have:=h.ord;have:=h.abk.lt;omega)
theorem GaR.fin (h:GaR b r gq aq w0 w gs es g ac nx a) (ho:Only r (r+2) w w') :
 w0.heap.size<=b/\GrV (b+1) w'.heap.size w' (.agg #[gs,es]) g/\g.edges.length<=11/\AuV (b+1) w'.heap.size w' (.agg #[.int .i64 a.start,ac,nx]) a/\Cur w' b/\Below w0.heap.size w0 w':=by
 have hd:=h.ord
 have h0:=h.at0
 have hq:=h.abk.lt
 have hs:=ho.size
 refine ⟨by omega,(h.gv.only ho (by omega) (.inr (by omega))).mono (Nat.le_refl _) (by omega),h.e11,(h.av.only ho (by omega) (.inr (by omega))).mono (Nat.le_refl _) (by omega),h.cur.off ho (by omega) (fun q h1 h2 o x=>?_),h.bel.trans (ho.below (B:=w0.heap.size) (by omega) h.bel.size)⟩
 obtain rfl | rfl:q=r ∨ q=r+1:=by omega
 · rw [h.res1.cell]
   rcases o with _ | _ | o <;> simp
 · rw [h.res2.cell]
   rcases o with _ | _ | _ | o <;> simp
/-- the same, the cursor forgotten -/
theorem GaR.fin0 (h:GaR b r gq aq w0 w gs es g ac nx a) (ho:Only r (r+2) w w') :
 GrV 0 w'.heap.size w' (.agg #[gs,es]) g/\g.edges.length<=11/\AuV 0 w'.heap.size w' (.agg #[.int .i64 a.start,ac,nx]) a/\Below w0.heap.size w0 w':=by
 obtain ⟨-,h1,h2,h3,-,h4⟩:=h.fin ho
 exact ⟨h1.mono (Nat.zero_le _) (Nat.le_refl _),h2,h3.mono (Nat.zero_le _) (Nat.le_refl _),h4⟩
theorem GaR.blks (h:GaR b r gq aq w0 w gs es g ac nx a) (ho:Only r (r+2) w w'):Blk w' gq 27 #[gs,es]/\Blk w' aq 31 #[.int .i64 a.start,ac,nx]:=by
 have hd:=h.ord
 exact ⟨h.gbk.only ho (.inr (by omega)),h.abk.only ho (.inr (by omega))⟩
/-- behind the first store -/
theorem GaR.put (h:GaR b r gq aq w0 w gs es g ac nx a) (v1 v2:Value) :
 Only r (r+2) w ((w.setCell ⟨r,0,none⟩ v1).setCell ⟨r,1,none⟩ v2)/\Blk ((w.setCell ⟨r,0,none⟩ v1).setCell ⟨r,1,none⟩ v2) (r+1) 31 #[.int .i64 0,.slice none 0 0,.slice none 0 0]:=by
 have ho:=Only.put2 w r v1 v2
 exact ⟨((Only.refl r (r+2) w).setCell (p:=⟨r,0,none⟩) (.inl (by simp only;omega)) _).setCell (p:=⟨r,1,none⟩) (.inl (by simp only;omega)) _,h.res2.only ho (.inr (by omega))⟩
end
def putGC (w:World) (r:Nat) (gs es st ac nx:Value):World:=((((w.setCell ⟨r,0,none⟩ gs).setCell ⟨r,1,none⟩ es).setCell ⟨r+1,0,none⟩ st).setCell ⟨r+1,1,none⟩ ac).setCell ⟨r+1,2,none⟩ nx
theorem putGC_only (w:World) (r:Nat) (gs es st ac nx:Value):Only r (r+2) w (putGC w r gs es st ac nx):=(((((Only.refl r (r+2) w).setCell (p:=⟨r,0,none⟩) (.inl (by simp only;omega)) _).setCell (p:=⟨r,1,none⟩) (.inl (by simp only;omega)) _).setCell (p:=⟨r+1,0,none⟩) (.inl (by simp only;omega)) _).setCell (p:=⟨r+1,1,none⟩) (.inl (by simp only;omega)) _).setCell (p:=⟨r+1,2,none⟩) (.inl (by simp only;omega)) _
end Go.Proofs.YtjpdembmchnbgaaGreat
