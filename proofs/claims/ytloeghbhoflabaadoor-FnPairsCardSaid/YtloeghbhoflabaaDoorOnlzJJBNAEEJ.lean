/- Parts of the proof, joined into one text: PairI, RelS, AutI, AutS, AreP, Shelf, FmtI, PrsI, SubS, EqP, EquI, RelI, Merg. -/
import Derived.Lib.SliceRun
import Derived.Test.YtloeghbhoflabaaDoorOnlzAGDFAFDM
import Derived.Test.YtloeghbhoflabaaDoorOnlzNIAMCFMI
import Derived.Shelf.Strings.Builder1
import Derived.Shelf.Strings.Builder2
import Derived.Shelf.Strings.OnBuilder
import Derived.Shelf.Small.Bits
import Derived.Shelf.Strings.BuilderF
import Derived.Shelf.Strings.BuilderK
import Derived.Shelf.Utf8.RuneCount
import Derived.Shelf.Strings.Builder2Cap
import Derived.Shelf.Strconv.Itoa0
import Derived.Shelf.Strconv.Itoa1
import Derived.Shelf.LaysM
import Derived.Shelf.Strconv.Itoa2
import Derived.Shelf.Strconv.Itoa3
import Derived.Shelf.Strings.Search1
import Derived.Shelf.Strings.Search2
import Derived.Shelf.Strings.Search3
import Derived.Shelf.Strings.Count
import Derived.Shelf.Strings.Shaped
import Derived.Shelf.Strings.Split
import Derived.Shelf.Strings.SplitShaped
import Derived.Shelf.Unicode.Decode
import Derived.Shelf.Strings.RuneCount
import Derived.Shelf.Strings.Explode
import Derived.Shelf.Unicode.DecodeSlow
import Derived.Shelf.Unicode.DecodeAny
import Derived.Shelf.Strings.BuilderCap
import Derived.Test.YtloeghbhoflabaaDoorProg
set_option linter.unusedVariables false
set_option linter.unusedSimpArgs false
namespace Go.Proofs.YtloeghbhoflabaaDoor
open Go.ChangeShapes Go.WideShapes Go.ChangeAt Go.RowKit Go.Sort
attribute [local go_sem] ext_cell ext_frozen ext_lt ext_lt1 ext_lt2 ext_lt3 ltn2 ltn3 ltn13 lts1 lts2 lts3
def cmpI (a b:Int):Int:=if a < b then -1 else if b < a then 1 else 0
def cmpP (p q:Pr):Int:=if p.1=q.1 then cmpI p.2 q.2 else cmpI p.1 q.1
theorem ltOf_cmp (p q:Pr):ltOf cmpP p q=ltP p q:=by
 have h1:=@ltP_iff p q
 rw [Bool.eq_iff_iff,h1,ltOf,decide_eq_true_eq,cmpP]
 unfold cmpI
 split <;> split <;> (try split) <;> omega
theorem swoP:SWO (ltOf cmpP):=by
 refine ⟨fun x=>?_,fun x y z h1 h2=>?_,fun x y z h1 h2=>?_⟩
 · rw [ltOf_cmp,ltP_no];omega
 · rw [ltOf_cmp] at *
   exact ltP_trans h1 h2
 · rw [ltOf_cmp,ltP_no] at *
   omega
theorem alloc2_grow (W:World) (o1 o2:Obj):(W.alloc o1).alloc o2=grow (W.drewN 0) #[o1,o2]:=by
 cases W
 simp only [World.alloc,grow,World.drewN,World.mk.injEq,and_true,true_and]
 simp [<- Array.toList_inj]
theorem compareInts_any (a b:Int) (w:World):Calls Tryd.prog 45 #[.int .i64 a,.int .i64 b] w fun e w'=>e=.returned (.int .i64 (cmpI a b))/\w'=w:=by
 unfold cmpI
 by_cases h1:a < b
 · rw [if_pos h1]
   have k1:decide (a < b)=true:=by simpa using h1
   clear h1
   go_enter Tryd.func45,Tryd.ntmps45
   go_wp2_with fail
   go_ret
   exact ⟨rfl,rfl⟩
 · rw [if_neg h1]
   have k1:decide (a < b)=false:=by simpa using h1
   by_cases h2:b < a
   · rw [if_pos h2]
     have k2:decide (a > b)=true:=by simpa using h2
     clear h1 h2
     go_enter Tryd.func45,Tryd.ntmps45
     go_wp2_with fail
     go_ret
     exact ⟨rfl,rfl⟩
   · rw [if_neg h2]
     have k2:decide (a > b)=false:=by simpa using h2
     clear h1 h2
     go_enter Tryd.func45,Tryd.ntmps45
     go_wp2_with fail
     go_ret
     exact ⟨rfl,rfl⟩
theorem comparePairs_any (p q:Pr) (w:World):Calls Tryd.prog 31 #[.agg #[.int .i64 p.1,.int .i64 p.2],.agg #[.int .i64 q.1,.int .i64 q.2]] w fun e w'=>e=.returned (.int .i64 (cmpP p q)) /\
 w'=(w.alloc (.cells #[.int .i64 p.1,.int .i64 p.2] 30)).alloc (.cells #[.int .i64 q.1,.int .i64 q.2] 30):=by
 obtain ⟨p1,p2⟩:=p
 obtain ⟨q1,q2⟩:=q
 simp only [cmpP]
 have HC:=Hd_ (fun (a b:Int) (W:World)=>compareInts_any a b W)
 by_cases h1:p1=q1
 · rw [if_pos h1]
   have k1:(p1 != q1)=false:=by simpa using h1
   clear h1
   go_enter Tryd.func31,Tryd.ntmps31
   go_wp2_with fail
   refine (HC.out p2 q2 _).mono ?_
   rintro e w1 ⟨rfl,hw⟩
   rw [hw]
   go_wp2_with fail
   go_ret
   exact ⟨rfl,rfl⟩
 · rw [if_neg h1]
   have k1:(p1 != q1)=true:=by simpa using h1
   clear h1
   go_enter Tryd.func31,Tryd.ntmps31
   go_wp2_with fail
   refine (HC.out p1 q1 _).mono ?_
   rintro e w1 ⟨rfl,hw⟩
   rw [hw]
   go_wp2_with fail
   go_ret
   exact ⟨rfl,rfl⟩
/-- slices.SortFunc over pairs: a row of the call's own is put in order -/
theorem sortPairs_any (lo g c:Nat) (xs:List Pr) (w:World) (hrow:w.ownsRow lo 30 2 (.slice (some ⟨g,0,none⟩) xs.length c) xs.length (xs.flatMap cPr)) (hn:xs.length<=2199023255552) :
 Calls Tryd.prog 36 #[.slice (some ⟨g,0,none⟩) xs.length c,.func (.func 31) #[] #[]] w fun e w'=>e=.returned (.tuple #[]) /\
  ∃ ys:List Pr,ys.length=xs.length/\(∀ x,x ∈ ys ↔ x ∈ xs)/\(∀ i j,i < j->j < ys.length->ltP (ys.getD j (0,0)) (ys.getD i (0,0))=false) /\
    w'.ownsRow lo 30 2 (.slice (some ⟨g,0,none⟩) xs.length c) xs.length (ys.flatMap cPr)/\Only g (g+1) w w':=by
 have hlt:=hrow.lt g rfl
 have eg:∀ args w,(callFunc 31 args).run Tryd.prog w=.ok (.enter 31 args) w:=enters_of Tryd.func31 (by kernel_rfl) rfl
 have hcmp:CmpLays Tryd.prog 31 #[] cPr 2 cmpP g 0 xs.toArray.size w:=fun m os dk _ x y=>by
  refine (comparePairs_any x y _).mono ?_
  rintro e w' ⟨rfl,rfl⟩
  exact ⟨rfl,0,_,alloc2_grow _ _ _⟩
 have h:=AnyQ.slices_SortFunc Tryd.laysSF 2 Tryd.isAgg30 Tryd.sizeOf30 cPr cPr_len cPr_one cmpP swoP 31 #[] g 0 c xs.toArray w eg hcmp (holds_ownK hrow rfl) hlt.2 (by simp;omega)
 have h':Calls Tryd.prog 36 #[.slice (some ⟨g,0,none⟩) xs.length c,.func (.func 31) #[] #[]] w _:=h
 refine h'.mono ?_
 rintro e w' ⟨rfl,d',n,os,hperm,hsort,rfl⟩
 obtain ⟨hsz,-,hpm⟩:=hperm
 have hsz':d'.toList.length=xs.length:=by simpa using hsz
 refine ⟨rfl,d'.toList,hsz',fun x=>?_,fun i j hij hj=>?_,?_,?_⟩
 · have h1:=hpm.mem_iff (a:=x)
   have e1:(d'.extract 0 xs.toArray.size).toList=d'.toList:=by rw [show xs.toArray.size=d'.size from hsz.symm];simp
   have e2:(xs.toArray.extract 0 xs.toArray.size).toList=xs:=by simp
   rw [e1,e2] at h1
   exact h1
 · have hj':j < xs.length:=by omega
   have h1:=hsort i j (Nat.zero_le _) hij (by simpa using hj')
   rw [ltOf_cmp] at h1
   have gd:∀ k,k < xs.length->d'.toList.getD k (0,0)=d'[k]! := fun k hk=>by
    have hk':k < d'.size:=by rw [hsz];simpa using hk
    rw [getElem!_pos d' k hk',List.getD_eq_getElem?_getD,Array.getElem?_toList,Array.getElem?_eq_getElem hk'];rfl
   rw [gd j hj',gd i (by omega)]
   exact h1
 · have h2:(Sort.ahead w n).ownsRow lo 30 2 (.slice (some ⟨g,0,none⟩) xs.length c) xs.length (xs.flatMap cPr):=hrow
   have h3:=row_putF h2 (F:=flatK cPr 2 d') (by rw [size_flatK,hsz];simp)
   have h4:(flatK cPr 2 d').toList=d'.toList.flatMap cPr:=by
    have:=flatK_list d'.toList
    simpa using this
   rw [h4] at h3
   exact ownsRow_block h3 fun b hb=>(konly_grow 0 0 (putRowK cPr 2 (Sort.ahead w n) g 0 d') os).block b (h3.lt b hb).2 (.inr (Nat.zero_le _))
 · exact ((konly_ahead g (g+1) w n).trans (konly_put id _ g 0 (flatK cPr 2 d'))).trans (konly_grow g (g+1) _ os)
theorem neqlPr (a b c d:Int) (w:World):(binOp .neq 30 (.agg #[.int .i64 a,.int .i64 b]) (.agg #[.int .i64 c,.int .i64 d])).run Tryd.prog w=.ok (.bool (!decide ((a,b)=(c,d)))) w:=by
 rw [run_neq_struct,eqPr]
 by_cases h1:a=c <;> by_cases h2:b=d <;> simp [h1,h2]
attribute [local go_sem] guardPr
theorem clear_pairs (w:World) (ty:TypeId) (g o n c:Nat) (hn:0 < n) (hc:∀ j,j < n * 2->(w.cell? ⟨g,o+j,none⟩).isSome=true) (hf:∀ j,j < n * 2->w.frozen? ⟨g,o+j,none⟩=false) :
 (Builtin.clear_ #[24] ty #[.slice (some ⟨g,o,none⟩) n c]).run Tryd.prog w=.ok (.tuple #[]) (w.setCells g o (Builtin.zeroCells #[.int .i64 0,.int .i64 0] n).toList):=by
 have hl:(Builtin.zeroCells #[Value.int .i64 0,Value.int .i64 0] n).toList.length=n * 2:=by simp [Builtin.zeroCells]
 have h1:∀ v ∈ (Builtin.zeroCells #[Value.int .i64 0,Value.int .i64 0] n).toList,v.oneCell'=true:=by
  intro v hv
  simp only [Builtin.zeroCells,Array.toList_map,List.mem_map,Array.mem_toList_iff,Array.mem_range] at hv
  obtain ⟨i,_,rfl⟩:=hv
  have:i % 2=0 ∨ i % 2=1:=by omega
  rcases this with h | h <;> simp [h] <;> rfl
 have hst:=run_storeCells_cells (P:=Tryd.prog) g o (Builtin.zeroCells #[Value.int .i64 0,Value.int .i64 0] n).toList 0 w (by simpa [hl] using hc) (by simpa [hl] using hf) h1
 simp only [Nat.add_zero] at hst
 obtain ⟨m,rfl⟩:∃ m,n=m+1:=⟨n - 1,by omega⟩
 have hz:∀ w,(zeroValue 30).run Tryd.prog w=.ok (.agg #[.int .i64 0,.int .i64 0]) w:=Tryd.zeroValue30
 have hzc:(Value.agg #[Value.int .i64 0,Value.int .i64 0]).cells=#[.int .i64 0,.int .i64 0]:=rfl
 simp [Builtin.clear_,run_underlying Tryd.underlying24,hz,hzc,hst]
theorem setCells_ownP {base k g n cap:Nat} {e:TypeId}:∀ (zs:List Value) (o:Nat) (cs:List Value) (W:World),W.ownsRow base e k (.slice (some ⟨g,0,none⟩) n cap) n cs ->
 ∃ cs',(W.setCells g o zs).ownsRow base e k (.slice (some ⟨g,0,none⟩) n cap) n cs'/\cs'.take o=cs.take o/\Only g (g+1) W (W.setCells g o zs)
 | [],o,cs,W,h=>⟨cs,h,rfl,Only.refl _ _ _⟩
 | z :: zs,o,cs,W,h=>by
   have h1:=(World.ownsRow.stored h o z).1
   obtain ⟨cs',h2,h3,h4⟩:=setCells_ownP zs (o+1) _ _ h1
   refine ⟨cs',h2,?_,((Only.refl g (g+1) W).setCell (p:=⟨g,o,none⟩) (.inl ⟨Nat.le_refl _,Nat.lt_succ_self _⟩) z).trans h4⟩
   have h5:cs'.take o=(cs'.take (o+1)).take o:=by rw [List.take_take];congr 1;omega
   rw [h5,h3,List.take_take,Nat.min_eq_left (Nat.le_succ o),List.take_set,List.set_eq_of_length_le (by rw [List.length_take];omega)]
theorem flatP_len (xs:List Pr):(xs.flatMap cPr).length=xs.length * 2:=by
 induction xs with
 | nil=>rfl
 | cons x xs ih=>rw [List.flatMap_cons,List.length_append,ih,cPr_len,List.length_cons];omega
theorem flatP_at {xs:List Pr} {i:Nat} {x:Pr} (h:xs[i]?=some x):(xs.flatMap cPr)[i * 2]?=some (.int .i64 x.1)/\(xs.flatMap cPr)[i * 2+1]?=some (.int .i64 x.2) :=
 ⟨flat_at cPr_len h 0 _ rfl,flat_at cPr_len h 1 _ rfl⟩
theorem flatP_set:∀ (xs:List Pr) (i:Nat) (x:Pr),i < xs.length->((xs.flatMap cPr).set (i * 2) (.int .i64 x.1)).set (i * 2+1) (.int .i64 x.2)=(xs.set i x).flatMap cPr
 | [],_,_,h=>absurd h (Nat.not_lt_zero _)
 | y :: ys,0,x,_=>by simp [cPr]
 | y :: ys,i+1,x,h=>by
   have ih:=flatP_set ys i x (by simpa using h)
   simp only [List.flatMap_cons,cPr,List.cons_append,List.nil_append,List.set_cons_succ,Nat.succ_mul]
   rw [<- ih]
theorem flatP_take (xs:List Pr):∀ k,(xs.flatMap cPr).take (k * 2)=(xs.take k).flatMap cPr:=by
 induction xs with
 | nil=>intro k;simp
 | cons a l ih =>
   intro k
   cases k with
   | zero=>simp
   | succ k=>rw [Nat.succ_mul];simp only [List.flatMap_cons,List.take_succ_cons,cPr,List.cons_append,List.nil_append];rw [ih]
theorem compTo_take {xs:List Pr} {k:Nat} (hk:k<=xs.length) (h:∀ j,j < k->keepP xs j=true):compTo xs k=xs.take k:=by
 induction k with
 | zero=>simp [compTo]
 | succ k ih =>
   have hx:xs[k]?=some (xs.getD k (0,0)):=by rw [List.getD_eq_getElem?_getD,List.getElem?_eq_getElem (by omega)];rfl
   rw [compTo_yes (h k (by omega)),ih (by omega) (fun j hj=>h j (by omega)),take_snoc hx]
theorem getP {xs:List Pr} {i:Nat} (h:i < xs.length):xs[i]?=some (xs.getD i (0,0)):=by rw [List.getD_eq_getElem?_getD,List.getElem?_eq_getElem h];rfl
theorem keepP_pos {xs:List Pr} {i:Nat} (h:0 < i):keepP xs i=!decide (xs.getD i (0,0)=xs.getD (i - 1) (0,0)):=by
 have h6:(i==0)=false:=by simp;omega
 rw [keepP,h6,Bool.false_or,bne]
 congr 1
 rw [Bool.eq_iff_iff,beq_iff_eq,decide_eq_true_eq]
set_option maxHeartbeats 4000000 in
set_option maxRecDepth 100000 in
theorem compactP_any (lo g c:Nat) (xs:List Pr) (w:World) (hrow:w.ownsRow lo 30 2 (.slice (some ⟨g,0,none⟩) xs.length c) xs.length (xs.flatMap cPr)) (hn:xs.length<=2199023255552) :
 Calls Tryd.prog 37 #[.slice (some ⟨g,0,none⟩) xs.length c] w fun e w'=>∃ m,e=.returned (.slice (some ⟨g,0,none⟩) m c) /\
  w'.ownsRow lo 30 2 (.slice (some ⟨g,0,none⟩) m c) (compTo xs xs.length).length ((compTo xs xs.length).flatMap cPr)/\Only g (g+1) w w':=by
 obtain ⟨hg1,hg2⟩:=hrow.lt g rfl
 obtain ⟨hlc,hcm⟩:=row_cap hrow
 obtain ⟨R,hR⟩:∃ R,R=compTo xs xs.length:=⟨_,rfl⟩
 rw [<- hR]
 have HR:=Hd_ hR
 have HROW:=Hd_ hrow
 clear hR hrow
 obtain ⟨N,hN⟩:∃ N,N=xs.length:=⟨_,rfl⟩
 rw [<- hN] at hn hlc HROW HR ⊢
 have HN:=Hd_ hN
 clear hN
 by_cases h2:N < 2
 · have hfin:R=xs:=by
    rw [HR.out,compTo_take (by have:=HN.out;omega) (fun j hj=>by obtain rfl:j=0:=(by omega);rfl),HN.out,List.take_length]
   have HF:=Hd_ hfin
   have hnz:(N:Int) < 2:=by omega
   clear hfin
   go_enter Tryd.func37,Tryd.ntmps37
   go_wp2_with fail
   go_ret
   exact ⟨_,rfl,by rw [HF.out,<- HN.out];exact HROW.out,Only.refl _ _ _⟩
 · have hnz:¬ (N:Int) < 2:=by omega
   go_enter Tryd.func37,Tryd.ntmps37
   go_wp2_with fail
   go_loopw [3] (fun ii wr=>∃ (i:Nat) (u:World),1<=i/\i<=N/\ii=.int .i64 (i:Int)/\(∀ j,j < i->keepP xs j=true)/\wr=ext w u) (fun ii _=>N - (intOf ii).toNat)
   case atStart=>exact ⟨1,w,Nat.le_refl _,by omega,rfl,(fun j hj=>by obtain rfl:j=0:=(by omega);rfl),ext_self w⟩
   case round =>
    obtain ⟨i0,u,h1,hi,rfl,hkp,rfl⟩:=hrel
    have HKP:=Hd_ hkp
    clear hkp
    by_cases hlt:i0 < N
    · have hxi:=getP (xs:=xs) (i:=i0) (by have:=HN.out;omega)
      have hxj:=getP (xs:=xs) (i:=i0 - 1) (by have:=HN.out;omega)
      have hk0:=keepP_pos (xs:=xs) h1
      obtain ⟨i1,rfl⟩:∃ i1,i0=i1+1:=⟨i0 - 1,by omega⟩
      simp only [Nat.add_sub_cancel] at hxj hk0
      have HROWu:=Hd_ (ownsRow_below HROW.out (ext_below w u) (Nat.le_refl _))
      obtain ⟨a0,a1⟩:=flatP_at hxi
      obtain ⟨b0,b1⟩:=flatP_at hxj
      have d0:=(World.ownsRow.cellAt HROW.out ((i1+1) * 2) (by omega)).trans a0
      have d1:=(World.ownsRow.cellAt HROW.out ((i1+1) * 2+1) (by omega)).trans a1
      have f0:=(World.ownsRow.cellAt HROW.out (i1 * 2) (by omega)).trans b0
      have f1:=(World.ownsRow.cellAt HROW.out (i1 * 2+1) (by omega)).trans b1
      have HXI:=Hd_ hxi
      have HXJ:=Hd_ hxj
      have HK0:=Hd_ hk0
      clear a0 a1 b0 b1 hxi hxj hk0
      generalize hx:xs.getD (i1+1) (0,0)=x at *
      generalize hy:xs.getD i1 (0,0)=y at *
      obtain ⟨xa,xb⟩:=x
      obtain ⟨ya,yb⟩:=y
      simp only at d0 d1 f0 f1
      have q1:IntKind.i64.wrap (((i1+1:Nat):Int) - 1)=(i1:Int):=by rw [IntWalk.i64_in _ (by omega)];omega
      have hii:((i1+1:Nat):Int) < (N:Int):=by omega
      have hjj:(i1:Int) < (N:Int):=by omega
      have HEQ:=Hd_ (fun (w:World)=>eqlPr xa xb ya yb w)
      obtain ⟨bb,hb2⟩:∃ bb,bb=decide ((xa,xb)=(ya,yb)):=⟨_,rfl⟩
      rw [<- hb2] at HEQ HK0
      have heq:=HEQ.out
      clear hb2 hx hy
      go_wp2_with fail
      refine wp_region_ext_lit (by kernel_rfl) (by kernel_rfl) ?_
      repeat (go_big_quiet_step (fail))
      refine wpQuiet_nil ?_
      rintro _ ⟨u2,rfl⟩
      obtain ⟨u4,hu4⟩:=ext_ext w u u2
      rw [hu4]
      have HU4:=Hd_ hu4
      clear hu4 heq HEQ
      cases bb with
      | false =>
        go_wp2_with fail
        go_roundw
        case rel =>
         refine ⟨i1+1+1,u4,by omega,by omega,by go_num,fun j hj=>?_,rfl⟩
         rcases Nat.lt_or_ge j (i1+1) with h | h
         · exact HKP.out j h
         · obtain rfl:j=i1+1:=by omega
           exact HK0.out
        case measure=>simp [intOf];omega
      | true =>
        have HST:=Hd_ (show xs.take (i1+1)=compTo xs (i1+1+1) by rw [compTo_no HK0.out,compTo_take (by have:=HN.out;omega) HKP.out])
        have hci:¬ c=i1+1:=by omega
        have HROW1:=Hd_ (ownsRow_below HROW.out (ext_below w u4) (Nat.le_refl _))
        have HON1:=Hd_ (Only.of_below (ext_below w u4) g (g+1))
        have hic:((i1+1:Nat):Int)<=(N:Int):=by omega
        generalize ext w u4=W1 at *
        clear HK0 HXI HXJ HKP HROWu d0 d1 f0 f1 q1
        go_wp2_with fail
        go_loopw [3,5] (fun ii kk wr=>∃ (i k:Nat) (L:List Pr),1<=k/\k<=N - (i1+1)/\i<=i1+k/\ii=.int .i64 (i:Int)/\kk=.int .i64 (k:Int)/\L.length=N/\L.take i=compTo xs (i1+1+k)/\L.drop (i1+k)=xs.drop (i1+k) /\
         wr.ownsRow lo 30 2 (.slice (some ⟨g,0,none⟩) N c) N (L.flatMap cPr)/\Only g (g+1) w wr) (fun _ kk _=>N - (i1+1) - (intOf kk).toNat)
        case atStart=>exact ⟨i1+1,1,xs,Nat.le_refl _,by omega,Nat.le_refl _,rfl,rfl,HN.out.symm,HST.out,rfl,HROW1.out,HON1.out⟩
        case round =>
         clear HROW1 HON1 HST
         obtain ⟨i,k,L,hk1,hkN,hik,rfl,rfl,hLn,hLt,hLd,hrow,hon⟩:=hrel
         have HLN:=Hd_ hLn
         have HLT:=Hd_ hLt
         have HLD:=Hd_ hLd
         have HROW:=Hd_ hrow
         have HON:=Hd_ hon
         have hsz:=hon.size
         clear hLn hLt hLd hrow hon
         obtain ⟨k1,rfl⟩:∃ k1,k=k1+1:=⟨k - 1,by omega⟩
         by_cases hlk:k1+1 < N - (i1+1)
         · have hxi:=getP (xs:=xs) (i:=i1+1+(k1+1)) (by have:=HN.out;omega)
           have hxj:=getP (xs:=xs) (i:=i1+1+k1) (by have:=HN.out;omega)
           have hk0:=keepP_pos (xs:=xs) (i:=i1+1+(k1+1)) (by omega)
           rw [show i1+1+(k1+1) - 1=i1+1+k1 by omega] at hk0
           have hLi:L[i1+1+(k1+1)]?=some (xs.getD (i1+1+(k1+1)) (0,0)):=by
            have h:=congrArg (fun l=>l[1]?) HLD.out
            simp only [List.getElem?_drop] at h
            rw [show i1+(k1+1)+1=i1+1+(k1+1) by omega] at h
            rw [h,hxi]
           have hLj:L[i1+1+k1]?=some (xs.getD (i1+1+k1) (0,0)):=by
            have h:=congrArg (fun l=>l[0]?) HLD.out
            simp only [List.getElem?_drop] at h
            rw [show i1+(k1+1)+0=i1+1+k1 by omega] at h
            rw [h,hxj]
           have hLo:=getP (xs:=L) (i:=i) (by have:=HLN.out;omega)
           obtain ⟨a0,a1⟩:=flatP_at hLi
           obtain ⟨b0,b1⟩:=flatP_at hLj
           obtain ⟨g0,g1⟩:=flatP_at hLo
           have d0:=(World.ownsRow.cellAt HROW.out ((i1+1+(k1+1)) * 2) (by omega)).trans a0
           have d1:=(World.ownsRow.cellAt HROW.out ((i1+1+(k1+1)) * 2+1) (by omega)).trans a1
           have f0:=(World.ownsRow.cellAt HROW.out ((i1+1+k1) * 2) (by omega)).trans b0
           have f1:=(World.ownsRow.cellAt HROW.out ((i1+1+k1) * 2+1) (by omega)).trans b1
           rw [show (i1+1+(k1+1)) * 2=(i1+1) * 2+(k1+1) * 2 by omega] at d0 d1
           rw [show (i1+1+k1) * 2=(i1+1) * 2+k1 * 2 by omega] at f0 f1
           have hgw:g < wr.heap.size:=by omega
           have HK0:=Hd_ hk0
           have HXI:=Hd_ (show ∀ h:keepP xs (i1+1+(k1+1))=true,compTo xs (i1+1+(k1+1)+1)=compTo xs (i1+1+(k1+1)) ++ [xs.getD (i1+1+(k1+1)) (0,0)] from fun h=>compTo_yes h)
           have HXJ:=Hd_ (show ∀ h:keepP xs (i1+1+(k1+1))=false,compTo xs (i1+1+(k1+1)+1)=compTo xs (i1+1+(k1+1)) from fun h=>compTo_no h)
           have HG0:=Hd_ g0
           have HG1:=Hd_ g1
           clear a0 a1 b0 b1 hxi hxj hk0 hLi hLj hLo g0 g1
           generalize hx:xs.getD (i1+1+(k1+1)) (0,0)=x at *
           generalize hy:xs.getD (i1+1+k1) (0,0)=y at *
           generalize L.getD i (0,0)=old at *
           clear hx hy
           obtain ⟨xa,xb⟩:=x
           obtain ⟨ya,yb⟩:=y
           simp only at d0 d1 f0 f1
           have q1:IntKind.i64.wrap (((k1+1:Nat):Int) - 1)=(k1:Int):=by rw [IntWalk.i64_in _ (by omega)];omega
           have hii:((k1+1:Nat):Int) < ((N - (i1+1):Nat):Int):=by omega
           have hjj:(k1:Int) < ((N - (i1+1):Nat):Int):=by omega
           have hiN:(i:Int) < (N:Int):=by omega
           have HEQ:=Hd_ (fun (w:World)=>neqlPr xa xb ya yb w)
           obtain ⟨bb,hb2⟩:∃ bb,bb=!decide ((xa,xb)=(ya,yb)):=⟨_,rfl⟩
           rw [<- hb2] at HEQ HK0
           have heq:=HEQ.out
           clear hb2
           go_wp2_with fail
           refine wp_region_ext_lit (by kernel_rfl) (by kernel_rfl) ?_
           repeat (go_big_quiet_step (fail))
           refine wpQuiet_nil ?_
           rintro _ ⟨u2,rfl⟩
           have hbu:=ext_below wr u2
           have HROWx:=Hd_ (ownsRow_below HROW.out hbu (Nat.le_refl _))
           have HONx:=Hd_ (HON.out.trans (Only.of_below hbu g (g+1)))
           have d0:=kcell hbu d0
           have d1:=kcell hbu d1
           have hgx:=Nat.lt_of_lt_of_le hgw hbu.size
           generalize ext wr u2=wx at *
           clear heq HEQ f0 f1 hbu
           cases bb with
           | true =>
             have ci0:=(World.ownsRow.cellAt HROWx.out (i * 2) (by omega)).trans HG0.out
             have ci1:=(World.ownsRow.cellAt HROWx.out (i * 2+1) (by omega)).trans HG1.out
             have fi0:=World.ownsRow.frozenAt HROWx.out (i * 2)
             have fi1:=World.ownsRow.frozenAt HROWx.out (i * 2+1)
             have hrow3:=(World.ownsRow.stored (World.ownsRow.stored HROWx.out (i * 2) (.int .i64 xa)).1 (i * 2+1) (.int .i64 xb)).1
             rw [flatP_set L i (xa,xb) (by have:=HLN.out;omega)] at hrow3
             have hon3:=(HONx.out.setCell (p:=⟨g,i * 2,none⟩) (.inl ⟨Nat.le_refl _,Nat.lt_succ_self _⟩) (.int .i64 xa)).setCell (p:=⟨g,i * 2+1,none⟩) (.inl ⟨Nat.le_refl _,Nat.lt_succ_self _⟩) (.int .i64 xb)
             have HROW3:=Hd_ hrow3
             have HON3:=Hd_ hon3
             have HL3:=Hd_ (show (L.set i (xa,xb)).length=N by rw [List.length_set];exact HLN.out)
             have HT3:=Hd_ (show (L.set i (xa,xb)).take (i+1)=compTo xs (i1+1+(k1+1+1)) by
              have h1:(L.set i (xa,xb))[i]?=some (xa,xb):=List.getElem?_set_self (by have:=HLN.out;omega)
              rw [take_snoc h1,List.take_set,List.set_eq_of_length_le (by rw [List.length_take];omega),HLT.out,show i1+1+(k1+1+1)=i1+1+(k1+1)+1 by omega,HXI.out HK0.out])
             have HD3:=Hd_ (show (L.set i (xa,xb)).drop (i1+(k1+1+1))=xs.drop (i1+(k1+1+1)) by
              rw [List.drop_set_of_lt (by omega),<- Nat.add_assoc,<- List.drop_drop,HLD.out,List.drop_drop])
             clear hrow3 hon3
             go_wp2_with fail
             go_roundw
             case rel=>exact ⟨i+1,k1+1+1,L.set i (xa,xb),by omega,by omega,by omega,by go_num,by go_num,HL3.out,HT3.out,HD3.out,HROW3.out,HON3.out⟩
             case measure=>simp [intOf];omega
           | false =>
             have HT3:=Hd_ (show L.take i=compTo xs (i1+1+(k1+1+1)) by rw [HLT.out,show i1+1+(k1+1+1)=i1+1+(k1+1)+1 by omega,HXJ.out HK0.out])
             have HD3:=Hd_ (show L.drop (i1+(k1+1+1))=xs.drop (i1+(k1+1+1)) by
              rw [<- Nat.add_assoc,<- List.drop_drop,HLD.out,List.drop_drop])
             go_wp2_with fail
             go_roundw
             case rel=>exact ⟨i,k1+1+1,L,by omega,by omega,by omega,rfl,by go_num,HLN.out,HT3.out,HD3.out,HROWx.out,HONx.out⟩
             case measure=>simp [intOf];omega
         · have hkk:k1+1=N - (i1+1):=by omega
           have hlz:¬ ((k1+1:Nat):Int) < ((N - (i1+1):Nat):Int):=by omega
           have hci2:¬ c=i:=by omega
           have hcl:∀ ty,(Builtin.clear_ #[24] ty #[.slice (some ⟨g,i * 2,none⟩) (N - i) (c - i)]).run Tryd.prog wr=.ok (.tuple #[]) (wr.setCells g (i * 2) (Builtin.zeroCells #[.int .i64 0,.int .i64 0] (N - i)).toList) :=
            fun ty=>clear_pairs wr ty g (i * 2) (N - i) (c - i) (by omega) (fun t ht=>by
             rw [World.ownsRow.cellAt HROW.out (i * 2+t) (by omega),List.getElem?_eq_getElem (by rw [flatP_len];have:=HLN.out;omega)];rfl) (fun t ht=>World.ownsRow.frozenAt HROW.out (i * 2+t))
           obtain ⟨cs',h1,h2,h3⟩:=setCells_ownP (Builtin.zeroCells #[.int .i64 0,.int .i64 0] (N - i)).toList (i * 2) _ _ HROW.out
           have h4:=ownsRow_take h1 (show i<=N by omega)
           have hfin:R=L.take i:=by rw [HR.out,HLT.out];congr 1;omega
           rw [h2,flatP_take,<- hfin] at h4
           have hRl:R.length=i:=by rw [hfin,List.length_take];have:=HLN.out;omega
           have HOWN:=Hd_ h4
           have HRL:=Hd_ hRl
           have HON2:=Hd_ (HON.out.trans h3)
           have hcz:(i:Int)<=(N:Int):=by omega
           have hcz2:(i:Int)<=(c:Int):=by omega
           clear h1 h2 h3 h4 hfin hRl hkk
           go_wp2_with fail
           go_ret
           exact ⟨_,rfl,by rw [HRL.out];exact HOWN.out,HON2.out⟩
    · obtain rfl:i0=N:=by omega
      have hfin:R=xs:=by rw [HR.out,compTo_take (by have:=HN.out;omega) HKP.out,HN.out,List.take_length]
      have HF:=Hd_ hfin
      have HROWu:=Hd_ (ownsRow_below HROW.out (ext_below w u) (Nat.le_refl _))
      clear hfin
      go_wp2_with fail
      go_ret
      exact ⟨_,rfl,by rw [HF.out,<- HN.out];exact HROWu.out,Only.of_below (ext_below w u) _ _⟩
end Go.Proofs.YtloeghbhoflabaaDoor
namespace Go.Proofs.YtloeghbhoflabaaDoor
open Go.ChangeShapes Go.WideShapes Go.ChangeAt Go.RowKit
attribute [local go_sem] ext_cell ext_frozen ext_lt ext_lt1 ext_lt2 ext_lt3 ltn2 ltn3 ltn13 lts1 lts2 lts3
theorem take_mapS {α β:Type} {f:α->β} {xs:List α} {i:Nat} {x:α} (h:xs[i]?=some x):(xs.take (i+1)).map f=(xs.take i).map f ++ [f x]:=by rw [take_snoc h,List.map_append];rfl
theorem within_any (n a b:Int) (w:World):Calls Tryd.prog 30 #[.int .i64 n,.int .i64 a,.int .i64 b] w fun e w'=>e=.returned (.bool (wi n a b))/\w'=w:=by
 unfold wi
 by_cases h1:a<=n
 · have e1:decide (a<=n)=true:=by simpa using h1
   by_cases h2:n<=b
   · go_enter Tryd.func30,Tryd.ntmps30
     go_wp2
     go_ret
     exact ⟨by simp [h1,h2],rfl⟩
   · go_enter Tryd.func30,Tryd.ntmps30
     go_wp2
     go_ret
     exact ⟨by simp [h1];try omega,rfl⟩
 · have e1:decide (a<=n)=false:=by simpa using h1
   go_enter Tryd.func30,Tryd.ntmps30
   go_wp2
   go_ret
   exact ⟨by simp [h1];try omega,rfl⟩
theorem l1In_any (n a b:Int) (w:World):Calls Tryd.prog 28 #[.int .i64 n,.int .i64 a,.int .i64 b] w fun e w'=>e=.returned (.bool (wi n a b))/\w'=w:=by
 unfold wi
 by_cases h1:a<=n
 · have e1:decide (a<=n)=true:=by simpa using h1
   by_cases h2:n<=b
   · go_enter Tryd.func28,Tryd.ntmps28
     go_wp2
     go_ret
     exact ⟨by simp [h1,h2],rfl⟩
   · go_enter Tryd.func28,Tryd.ntmps28
     go_wp2
     go_ret
     exact ⟨by simp [h1];try omega,rfl⟩
 · have e1:decide (a<=n)=false:=by simpa using h1
   go_enter Tryd.func28,Tryd.ntmps28
   go_wp2
   go_ret
   exact ⟨by simp [h1];try omega,rfl⟩
def prAt (l:List Pr) (i:Nat):Bool :=
 match l[i]? with
 | none=>true
 | some x=>wi x.1 0 4 && wi x.2 0 4 && (decide (i=0) || match l[i - 1]? with
   | some p=>ltP p x
   | none=>true)
def arePL (l:List Pr):Bool:=(List.range l.length).all (prAt l)
theorem arePL_in {l:List Pr} (h:arePL l=true):∀ p ∈ l,inB p.1/\inB p.2:=fun p hp=>by
 obtain ⟨i,hi,rfl⟩:=List.getElem_of_mem hp
 have:=(List.all_eq_true.1 h) i (List.mem_range.2 hi)
 rw [prAt,List.getElem?_eq_getElem hi] at this
 simp only [Bool.and_eq_true,wi_iff] at this
 exact ⟨this.1.1,this.1.2⟩
set_option maxHeartbeats 2000000 in
set_option maxRecDepth 100000 in
theorem implAre (v:Value) (l:List Pr) (w:World) (hv:SlE w cPr 2 v l) (hn:l.length<=1048576) :
 Calls Tryd.prog 15 #[v] w fun e w'=>e=.returned (.bool (arePL l))/\Below w.heap.size w w':=by
 have hsl:=hv
 obtain ⟨A,c,rfl,hl,hm,-⟩:=hv
 unfold maxLen at hm
 have hin:∀ (n:Int) (w:World),Calls Tryd.prog 30 #[.int .i64 n,.int .i64 0,.int .i64 4] w fun e w'=>e=.returned (.bool (wi n 0 4))/\Below w.heap.size w w':=fun n w=>by
  refine (within_any n 0 4 w).mono ?_
  rintro e w' ⟨rfl,rfl⟩
  exact ⟨rfl,Below.refl _ _⟩
 obtain ⟨R,hR⟩:∃ R,R=arePL l:=⟨_,rfl⟩
 rw [<- hR]
 have HR:=Hd_ hR
 have HSL:=Hd_ hsl
 have HIN:=Hd_ hin
 clear hR hsl hin
 go_enter Tryd.func15,Tryd.ntmps15
 go_wp2_with fail
 go_loopw [7] (fun ii wr=>∃ (i:Nat) (u:World),i<=l.length/\ii=.int .i64 (i:Int)/\(List.range i).all (prAt l)=true/\wr=ext w u) (fun ii _=>l.length - (intOf ii).toNat)
 case atStart=>exact ⟨0,_,Nat.zero_le _,rfl,rfl,ext_self _⟩
 case round =>
  obtain ⟨i,u,hi,rfl,hall,rfl⟩:=hrel
  have HA:=Hd_ hall
  clear hall
  by_cases hlt:i < l.length
  · have hxi:l[i]?=some l[i]:=List.getElem?_eq_getElem hlt
    generalize l[i]=x at hxi
    obtain ⟨b,o,rfl,⟨-,hb⟩,d0,d1⟩:=HSL.out.prA hxi
    obtain ⟨x1,x2⟩:=x
    simp only at d0 d1
    have HX:=Hd_ hxi
    have hii:(i:Int) < (l.length:Int):=by omega
    clear hxi
    have hbx:∀ o u2,∃ z,ext ((ext w u).alloc o) u2=ext w z:=fun o u2=>ext_of (below_trans (ext_below _ _) (below_trans ((Below.refl _ _).alloc (Nat.le_refl _) _) (ext_below _ _)))
    cases g1:wi x1 0 4 with
    | false =>
      have G1:=Hd_ g1
      have hfin:R=false:=by rw [HR.out];exact range_all_false hlt (by rw [prAt,HX.out];simp [G1.out])
      have HF:=Hd_ hfin
      clear hfin
      go_wp2_with fail
      refine wp_region_ext_lit (by kernel_rfl) (by kernel_rfl) ?_
      repeat (go_big_quiet_step ((first | (go_at_call 30;exact Calls.ext_of (HIN.out _ _)))))
      refine wpQuiet_nil ?_
      rintro _ ⟨u2,rfl⟩
      go_wp2_with fail
      go_ret
      exact ⟨by rw [HF.out];rfl,(below_trans (ext_below _ _) (below_trans ((Below.refl _ _).alloc (Nat.le_refl _) _) (ext_below _ _)))⟩
    | true =>
      have G1:=Hd_ g1
      cases g2:wi x2 0 4 with
      | false =>
        have G2:=Hd_ g2
        have hfin:R=false:=by rw [HR.out];exact range_all_false hlt (by rw [prAt,HX.out];simp [G1.out,G2.out])
        have HF:=Hd_ hfin
        clear hfin
        go_wp2_with fail
        refine wp_region_ext_lit (by kernel_rfl) (by kernel_rfl) ?_
        repeat (go_big_quiet_step ((first | (go_at_call 30;exact Calls.ext_of (HIN.out _ _)))))
        refine wpQuiet_nil ?_
        rintro _ ⟨u2,rfl⟩
        go_wp2_with fail
        go_ret
        exact ⟨by rw [HF.out];rfl,(below_trans (ext_below _ _) (below_trans ((Below.refl _ _).alloc (Nat.le_refl _) _) (ext_below _ _)))⟩
      | true =>
        have G2:=Hd_ g2
        by_cases hi0:i=0
        · subst hi0
          simp only [Nat.zero_mul,Nat.add_zero,Nat.zero_add] at d0 d1
          have hat:prAt l 0=true:=by rw [prAt,HX.out];simp [G1.out,G2.out]
          have HAT:=Hd_ hat
          clear hat
          go_wp2_with fail
          refine wp_region_ext_lit (by kernel_rfl) (by kernel_rfl) ?_
          repeat (go_big_quiet_step ((first | (go_at_call 30;exact Calls.ext_of (HIN.out _ _)))))
          refine wpQuiet_nil ?_
          rintro _ ⟨u2,rfl⟩
          go_wp2_with fail
          go_roundw
          case rel =>
           obtain ⟨z,hz⟩:=hbx _ u2
           exact ⟨1,z,by omega,by go_num,range_all_succ HA.out HAT.out,hz⟩
          case measure=>simp [intOf];omega
        · have hi1:0 < i:=by omega
          have hxj:l[i - 1]?=some l[i - 1]:=List.getElem?_eq_getElem (by omega)
          generalize l[i - 1]=p at hxj
          obtain ⟨b9,o9,ho9,-,p0,p1⟩:=HSL.out.prA hxj
          obtain ⟨rfl,rfl⟩:b=b9/\o=o9:=by injection ho9 with h1;injection h1 with h1 h2;exact ⟨h1,h2⟩
          obtain ⟨y1,y2⟩:=p
          simp only at p0 p1
          have HXJ:=Hd_ hxj
          have hb1':b < w.heap.size+1:=by omega
          have hi00:((i:Int) > 0):=by omega
          clear hxj ho9
          have h3:∀ w:World,Calls Tryd.prog 31 #[.agg #[.int .i64 y1,.int .i64 y2],.agg #[.int .i64 x1,.int .i64 x2]] w fun e w'=>e=.returned (.int .i64 (cmpP (y1,y2) (x1,x2)))/\Below w.heap.size w w':=fun w=>by
           refine (comparePairs_any (y1,y2) (x1,x2) w).mono ?_
           rintro e w' ⟨rfl,rfl⟩
           exact ⟨rfl,((Below.refl _ _).alloc (Nat.le_refl _) _).alloc (by simp) _⟩
          have hco:=ltOf_cmp (y1,y2) (x1,x2)
          rw [ltOf] at hco
          generalize cmpP (y1,y2) (x1,x2)=cc at h3 hco
          cases gl:ltP (y1,y2) (x1,x2) with
          | false =>
            rw [gl] at hco
            have GL:=Hd_ gl
            clear gl
            have hge:decide (cc >= 0)=true:=by simp only [decide_eq_false_iff_not,decide_eq_true_eq] at hco ⊢;omega
            clear hco
            have hfin:R=false:=by rw [HR.out];exact range_all_false hlt (by rw [prAt,HX.out];simp [G1.out,G2.out,HXJ.out,hi0,GL.out])
            have HF:=Hd_ hfin
            clear hfin
            go_wp2_with fail
            have q1:IntKind.i64.wrap ((i:Int) - 1)=(i:Int) - 1:=IntWalk.i64_in _ (by omega)
            have q2:0<=(i:Int) - 1:=by omega
            have q3:(i:Int) - 1 < (l.length:Int):=by omega
            have q4:((i:Int) - 1).toNat=i - 1:=by omega
            refine wp_region_ext_lit (by kernel_rfl) (by kernel_rfl) ?_
            repeat (go_big_quiet_step ((first | (go_at_call 30;exact Calls.ext_of (HIN.out _ _)) | (go_at_call 31;exact Calls.ext_of (h3 _)))))
            refine wpQuiet_nil ?_
            rintro _ ⟨u2,rfl⟩
            clear q1 q2 q3 q4
            go_wp2_with fail
            go_ret
            exact ⟨by rw [HF.out];rfl,(below_trans (ext_below _ _) (below_trans ((Below.refl _ _).alloc (Nat.le_refl _) _) (ext_below _ _)))⟩
          | true =>
            rw [gl] at hco
            have GL:=Hd_ gl
            clear gl
            have hge:decide (cc >= 0)=false:=by simp only [decide_eq_false_iff_not,decide_eq_true_eq] at hco ⊢;omega
            clear hco
            have hat:prAt l i=true:=by rw [prAt,HX.out];simp [G1.out,G2.out,HXJ.out,GL.out]
            have HAT:=Hd_ hat
            clear hat
            go_wp2_with fail
            have q1:IntKind.i64.wrap ((i:Int) - 1)=(i:Int) - 1:=IntWalk.i64_in _ (by omega)
            have q2:0<=(i:Int) - 1:=by omega
            have q3:(i:Int) - 1 < (l.length:Int):=by omega
            have q4:((i:Int) - 1).toNat=i - 1:=by omega
            refine wp_region_ext_lit (by kernel_rfl) (by kernel_rfl) ?_
            repeat (go_big_quiet_step ((first | (go_at_call 30;exact Calls.ext_of (HIN.out _ _)) | (go_at_call 31;exact Calls.ext_of (h3 _)))))
            refine wpQuiet_nil ?_
            rintro _ ⟨u2,rfl⟩
            clear q1 q2 q3 q4
            go_wp2_with fail
            go_roundw
            case rel =>
             obtain ⟨z,hz⟩:=hbx _ u2
             exact ⟨i+1,z,by omega,by go_num,range_all_succ HA.out HAT.out,hz⟩
            case measure=>simp [intOf];omega
  · obtain rfl:i=l.length:=by omega
    have hfin:R=true:=by rw [HR.out];exact HA.out
    have HF:=Hd_ hfin
    clear hfin
    go_wp2_with fail
    go_ret
    exact ⟨by rw [HF.out];rfl,ext_below _ _⟩
set_option maxHeartbeats 2000000 in
set_option maxRecDepth 100000 in
theorem specAre (v:Value) (l:List Pr) (w:World) (hv:SlE w cPr 2 v l) (hn:l.length<=1048576) :
 Calls Tryd.prog 14 #[v] w fun e w'=>e=.returned (.bool (arePL l))/\Below w.heap.size w w':=by
 have hsl:=hv
 obtain ⟨A,c,rfl,hl,hm,-⟩:=hv
 unfold maxLen at hm
 have hin:∀ (n:Int) (w:World),Calls Tryd.prog 28 #[.int .i64 n,.int .i64 0,.int .i64 4] w fun e w'=>e=.returned (.bool (wi n 0 4))/\Below w.heap.size w w':=fun n w=>by
  refine (l1In_any n 0 4 w).mono ?_
  rintro e w' ⟨rfl,rfl⟩
  exact ⟨rfl,Below.refl _ _⟩
 obtain ⟨R,hR⟩:∃ R,R=arePL l:=⟨_,rfl⟩
 rw [<- hR]
 have HR:=Hd_ hR
 have HSL:=Hd_ hsl
 have HIN:=Hd_ hin
 clear hR hsl hin
 go_enter Tryd.func14,Tryd.ntmps14
 go_wp2_with fail
 go_loopw [3] (fun ii wr=>∃ (i:Nat) (u:World),i<=l.length/\ii=.int .i64 (i:Int)/\(List.range i).all (prAt l)=true/\wr=ext w u) (fun ii _=>l.length - (intOf ii).toNat)
 case atStart=>exact ⟨0,_,Nat.zero_le _,rfl,rfl,ext_self _⟩
 case round =>
  obtain ⟨i,u,hi,rfl,hall,rfl⟩:=hrel
  have HA:=Hd_ hall
  clear hall
  by_cases hlt:i < l.length
  · have hxi:l[i]?=some l[i]:=List.getElem?_eq_getElem hlt
    generalize l[i]=x at hxi
    obtain ⟨b,o,rfl,⟨-,hb⟩,d0,d1⟩:=HSL.out.prA hxi
    obtain ⟨x1,x2⟩:=x
    simp only at d0 d1
    have HX:=Hd_ hxi
    have hii:(i:Int) < (l.length:Int):=by omega
    clear hxi
    have hbx:∀ u2,∃ z,ext (ext w u) u2=ext w z:=fun u2=>ext_of (below_trans (ext_below _ _) (ext_below _ _))
    cases g1:wi x1 0 4 with
    | false =>
      have G1:=Hd_ g1
      have hfin:R=false:=by rw [HR.out];exact range_all_false hlt (by rw [prAt,HX.out];simp [G1.out])
      have HF:=Hd_ hfin
      clear hfin
      go_wp2_with fail
      refine wp_region_ext_lit (by kernel_rfl) (by kernel_rfl) ?_
      repeat (go_big_quiet_step ((first | (go_at_call 28;exact Calls.ext_of (HIN.out _ _)))))
      refine wpQuiet_nil ?_
      rintro _ ⟨u2,rfl⟩
      go_wp2_with fail
      go_ret
      exact ⟨by rw [HF.out];rfl,(below_trans (ext_below _ _) (ext_below _ _))⟩
    | true =>
      have G1:=Hd_ g1
      cases g2:wi x2 0 4 with
      | false =>
        have G2:=Hd_ g2
        have hfin:R=false:=by rw [HR.out];exact range_all_false hlt (by rw [prAt,HX.out];simp [G1.out,G2.out])
        have HF:=Hd_ hfin
        clear hfin
        go_wp2_with fail
        refine wp_region_ext_lit (by kernel_rfl) (by kernel_rfl) ?_
        repeat (go_big_quiet_step ((first | (go_at_call 28;exact Calls.ext_of (HIN.out _ _)))))
        refine wpQuiet_nil ?_
        rintro _ ⟨u2,rfl⟩
        go_wp2_with fail
        go_ret
        exact ⟨by rw [HF.out];rfl,(below_trans (ext_below _ _) (ext_below _ _))⟩
      | true =>
        have G2:=Hd_ g2
        by_cases hi0:i=0
        · subst hi0
          simp only [Nat.zero_mul,Nat.add_zero,Nat.zero_add] at d0 d1
          have hat:prAt l 0=true:=by rw [prAt,HX.out];simp [G1.out,G2.out]
          have HAT:=Hd_ hat
          clear hat
          go_wp2_with fail
          refine wp_region_ext_lit (by kernel_rfl) (by kernel_rfl) ?_
          repeat (go_big_quiet_step ((first | (go_at_call 28;exact Calls.ext_of (HIN.out _ _)))))
          refine wpQuiet_nil ?_
          rintro _ ⟨u2,rfl⟩
          go_wp2_with fail
          go_roundw
          case rel =>
           obtain ⟨z,hz⟩:=hbx u2
           exact ⟨1,z,by omega,by go_num,range_all_succ HA.out HAT.out,hz⟩
          case measure=>simp [intOf];omega
        · have hi1:0 < i:=by omega
          have hxj:l[i - 1]?=some l[i - 1]:=List.getElem?_eq_getElem (by omega)
          generalize l[i - 1]=p at hxj
          obtain ⟨b9,o9,ho9,-,p0,p1⟩:=HSL.out.prA hxj
          obtain ⟨rfl,rfl⟩:b=b9/\o=o9:=by injection ho9 with h1;injection h1 with h1 h2;exact ⟨h1,h2⟩
          obtain ⟨y1,y2⟩:=p
          simp only at p0 p1
          have HXJ:=Hd_ hxj
          have hb1':b < w.heap.size+1:=by omega
          have hi00:((i:Int) > 0):=by omega
          clear hxj ho9
          have h3:=l15Less_any (y1,y2) (x1,x2)
          simp only at h3
          cases gl:ltP (y1,y2) (x1,x2) with
          | false =>
            rw [gl] at h3
            have GL:=Hd_ gl
            clear gl
            have hfin:R=false:=by rw [HR.out];exact range_all_false hlt (by rw [prAt,HX.out];simp [G1.out,G2.out,HXJ.out,hi0,GL.out])
            have HF:=Hd_ hfin
            clear hfin
            go_wp2_with fail
            have q1:IntKind.i64.wrap ((i:Int) - 1)=(i:Int) - 1:=IntWalk.i64_in _ (by omega)
            have q2:0<=(i:Int) - 1:=by omega
            have q3:(i:Int) - 1 < (l.length:Int):=by omega
            have q4:((i:Int) - 1).toNat=i - 1:=by omega
            refine wp_region_ext_lit (by kernel_rfl) (by kernel_rfl) ?_
            repeat (go_big_quiet_step ((first | (go_at_call 28;exact Calls.ext_of (HIN.out _ _)) | (go_at_call 29;exact Calls.ext_of (h3 _)))))
            refine wpQuiet_nil ?_
            rintro _ ⟨u2,rfl⟩
            clear q1 q2 q3 q4
            go_wp2_with fail
            go_ret
            exact ⟨by rw [HF.out];rfl,(below_trans (ext_below _ _) (ext_below _ _))⟩
          | true =>
            rw [gl] at h3
            have GL:=Hd_ gl
            clear gl
            have hat:prAt l i=true:=by rw [prAt,HX.out];simp [G1.out,G2.out,HXJ.out,GL.out]
            have HAT:=Hd_ hat
            clear hat
            go_wp2_with fail
            have q1:IntKind.i64.wrap ((i:Int) - 1)=(i:Int) - 1:=IntWalk.i64_in _ (by omega)
            have q2:0<=(i:Int) - 1:=by omega
            have q3:(i:Int) - 1 < (l.length:Int):=by omega
            have q4:((i:Int) - 1).toNat=i - 1:=by omega
            refine wp_region_ext_lit (by kernel_rfl) (by kernel_rfl) ?_
            repeat (go_big_quiet_step ((first | (go_at_call 28;exact Calls.ext_of (HIN.out _ _)) | (go_at_call 29;exact Calls.ext_of (h3 _)))))
            refine wpQuiet_nil ?_
            rintro _ ⟨u2,rfl⟩
            clear q1 q2 q3 q4
            go_wp2_with fail
            go_roundw
            case rel =>
             obtain ⟨z,hz⟩:=hbx u2
             exact ⟨i+1,z,by omega,by go_num,range_all_succ HA.out HAT.out,hz⟩
            case measure=>simp [intOf];omega
  · obtain rfl:i=l.length:=by omega
    have hfin:R=true:=by rw [HR.out];exact HA.out
    have HF:=Hd_ hfin
    clear hfin
    go_wp2_with fail
    go_ret
    exact ⟨by rw [HF.out];rfl,ext_below _ _⟩
end Go.Proofs.YtloeghbhoflabaaDoor
/-
 DERIVED: THE SHELF's CONTRACTS AT THIS DUMP,IN PLAIN WORDS (tools/lay-plain.mjs out of 'TrydShelf.lean',which tools/lay-shelf.mjs wrote): THE SAME DECLARATIONS UNDER THE SAME NAMES: 'import','namespace','open','def','theorem' AND NOTHING ELSE: no command of the shelf's: FOR A HAND-IN. Each laying: the table of numbers ('.._ren') and one theorem,a field a fact of the dump's own or the kernel's comparison;each contract: ONE APPLICATION.
-/
namespace Go.Proofs
open Go.Shelf
def Tryd.lays156_ren:Go.Shelf.Ren:=⟨fun | 156=>26 | 165=>41 | 166=>42 | 169=>43 | 240=>50 | 241=>51 | 276=>66 | 277=>67 | n=>n,fun | 31=>43 | 9=>9 | 3=>3 | 4=>4 | 0=>0 | 20=>20 | 72=>61 | 76=>65 | 70=>59 | 37=>22 | 75=>64 | 127=>74 | 164=>90 | 5=>5 | 80=>67 | n=>n,fun | n=>n⟩
theorem Tryd.lays156:Go.Proofs.Lays.n156 Tryd.prog Tryd.lays156_ren:={
 mixed:=by kernel_rfl
 f156:=Tryd.func26.trans (congrArg some (by kernel_rfl))
 f165:=Tryd.func41.trans (congrArg some (by kernel_rfl))
 f166:=Tryd.func42.trans (congrArg some (by kernel_rfl))
 f169:=Tryd.func43.trans (congrArg some (by kernel_rfl))
 f240:=Tryd.func50.trans (congrArg some (by kernel_rfl))
 f241:=Tryd.func51.trans (congrArg some (by kernel_rfl))
 f276:=Tryd.func66.trans (congrArg some (by kernel_rfl))
 f277:=Tryd.func67.trans (congrArg some (by kernel_rfl))
 t0:=Tryd.underlying0
 a0:=Tryd.isAgg0
 z0:=Tryd.sizeOf0
 v0:=Tryd.zeroValue0
 t3:=Tryd.underlying3
 a3:=Tryd.isAgg3
 z3:=Tryd.sizeOf3
 v3:=Tryd.zeroValue3
 t4:=Tryd.underlying4
 a4:=Tryd.isAgg4
 z4:=Tryd.sizeOf4
 v4:=Tryd.zeroValue4
 t9:=Tryd.underlying9
 a9:=Tryd.isAgg9
 z9:=Tryd.sizeOf9
 v9:=Tryd.zeroValue9
 t20:=Tryd.underlying20
 a20:=Tryd.isAgg20
 z20:=Tryd.sizeOf20
 v20:=Tryd.zeroValue20
 t31:=Tryd.underlying43
 a31:=Tryd.isAgg43
 z31:=Tryd.sizeOf43
 v31:=Tryd.zeroValue43
 t37:=Tryd.underlying22
 a37:=Tryd.isAgg22
 z37:=Tryd.sizeOf22
 v37:=Tryd.zeroValue22
 t70:=Tryd.underlying59
 a70:=Tryd.isAgg59
 z70:=Tryd.sizeOf59
 v70:=Tryd.zeroValue59
 t72:=Tryd.underlying61
 a72:=Tryd.isAgg61
 z72:=Tryd.sizeOf61
 v72:=Tryd.zeroValue61
 t75:=Tryd.underlying64
 a75:=Tryd.isAgg64
 z75:=Tryd.sizeOf64
 v75:=Tryd.zeroValue64
 t76:=Tryd.underlying65
 a76:=Tryd.isAgg65
 z76:=Tryd.sizeOf65
 v76:=Tryd.zeroValue65
 t127:=Tryd.underlying74
 a127:=Tryd.isAgg74
 z127:=Tryd.sizeOf74
 v127:=Tryd.zeroValue74
 t164:=Tryd.underlying90
 a164:=Tryd.isAgg90
 z164:=Tryd.sizeOf90
 v164:=Tryd.zeroValue90 }
theorem Tryd.Builder_Extra_156:Builder.Extra Tryd.prog Tryd.lays156_ren:={
 sizeBuilder:=by kernel_rfl
 liesBuilder:=by kernel_rfl
 t5:=Tryd.underlying5
 a5:=Tryd.isAgg5
 z5:=Tryd.sizeOf5
 v5:=Tryd.zeroValue5
 infoByte:=by kernel_rfl
 cellsByte:=by kernel_rfl
 sizeByte:=by kernel_rfl
 neB5:=by decide }
open Go.RowKit in
/-- strings.Join: "Join concatenates the elements of its first argument to create a single string. The separator string sep is placed between elements in the resulting string.": HOWEVER MANY ELEMENTS. Below the heap's end the world is as it was. (LAID: no walk: one application.) -/
theorem Tryd.strings_Join (bk o c:Nat) (xs:List ByteArray) (sep:ByteArray) (w:World) (hcells:∀ (j:Nat) x,xs[j]?=some x->w.cell? ⟨bk,o+j,none⟩=some (.string x)) (hbk:bk < w.heap.size) (hN:xs.length<=140737488355328) (hcap:xs.length<=c) (hlen:(Lib.join (xs.map (·.data.toList)) sep.data.toList).length<=140737488355328) :
 Calls Tryd.prog 26 #[.slice (some ⟨bk,o,none⟩) xs.length c,.string sep] w fun e w'=>e=.returned (.string ⟨(Lib.join (xs.map (·.data.toList)) sep.data.toList).toArray⟩)/\Below w.heap.size w w':=Any.strings_Join Tryd.lays156 Tryd.Builder_Extra_156 bk o c xs sep w hcells hbk hN hcap hlen
def Tryd.lays171_ren:Go.Shelf.Ren:=⟨fun | 171=>40 | 243=>49 | 246=>65 | 283=>77 | 284=>78 | 285=>79 | 286=>80 | 129=>64 | 317=>87 | 318=>88 | 319=>89 | 320=>90 | 337=>93 | 338=>94 | n=>n,fun | 3=>3 | 9=>9 | 2=>2 | 4=>4 | 171=>103 | 0=>0 | 53=>88 | 37=>22 | 5=>5 | 173=>105 | 212=>112 | 51=>86 | 20=>20 | 213=>113 | 46=>73 | 232=>121 | 233=>122 | n=>n,fun | 17=>1 | 18=>4 | 19=>5 | n=>n⟩
theorem Tryd.lays171:Go.Proofs.Lays.n171 Tryd.prog Tryd.lays171_ren:={
 mixed:=by kernel_rfl
 f129:=Tryd.func64.trans (congrArg some (by kernel_rfl))
 f171:=Tryd.func40.trans (congrArg some (by kernel_rfl))
 f243:=Tryd.func49.trans (congrArg some (by kernel_rfl))
 f246:=Tryd.func65.trans (congrArg some (by kernel_rfl))
 f283:=Tryd.func77.trans (congrArg some (by kernel_rfl))
 f284:=Tryd.func78.trans (congrArg some (by kernel_rfl))
 f285:=Tryd.func79.trans (congrArg some (by kernel_rfl))
 f286:=Tryd.func80.trans (congrArg some (by kernel_rfl))
 f317:=Tryd.func87.trans (congrArg some (by kernel_rfl))
 f318:=Tryd.func88.trans (congrArg some (by kernel_rfl))
 f319:=Tryd.func89.trans (congrArg some (by kernel_rfl))
 f320:=Tryd.func90.trans (congrArg some (by kernel_rfl))
 f337:=Tryd.func93.trans (congrArg some (by kernel_rfl))
 f338:=Tryd.func94.trans (congrArg some (by kernel_rfl))
 t0:=Tryd.underlying0
 a0:=Tryd.isAgg0
 z0:=Tryd.sizeOf0
 v0:=Tryd.zeroValue0
 t2:=Tryd.underlying2
 a2:=Tryd.isAgg2
 z2:=Tryd.sizeOf2
 v2:=Tryd.zeroValue2
 t3:=Tryd.underlying3
 a3:=Tryd.isAgg3
 z3:=Tryd.sizeOf3
 v3:=Tryd.zeroValue3
 t4:=Tryd.underlying4
 a4:=Tryd.isAgg4
 z4:=Tryd.sizeOf4
 v4:=Tryd.zeroValue4
 t5:=Tryd.underlying5
 a5:=Tryd.isAgg5
 z5:=Tryd.sizeOf5
 v5:=Tryd.zeroValue5
 t9:=Tryd.underlying9
 a9:=Tryd.isAgg9
 z9:=Tryd.sizeOf9
 v9:=Tryd.zeroValue9
 t20:=Tryd.underlying20
 a20:=Tryd.isAgg20
 z20:=Tryd.sizeOf20
 v20:=Tryd.zeroValue20
 t37:=Tryd.underlying22
 a37:=Tryd.isAgg22
 z37:=Tryd.sizeOf22
 v37:=Tryd.zeroValue22
 t46:=Tryd.underlying73
 a46:=Tryd.isAgg73
 z46:=Tryd.sizeOf73
 v46:=Tryd.zeroValue73
 t51:=Tryd.underlying86
 a51:=Tryd.isAgg86
 z51:=Tryd.sizeOf86
 v51:=Tryd.zeroValue86
 t53:=Tryd.underlying88
 a53:=Tryd.isAgg88
 z53:=Tryd.sizeOf88
 v53:=Tryd.zeroValue88
 t171:=Tryd.underlying103
 a171:=Tryd.isAgg103
 z171:=Tryd.sizeOf103
 v171:=Tryd.zeroValue103
 t173:=Tryd.underlying105
 a173:=Tryd.isAgg105
 z173:=Tryd.sizeOf105
 v173:=Tryd.zeroValue105
 t212:=Tryd.underlying112
 a212:=Tryd.isAgg112
 z212:=Tryd.sizeOf112
 v212:=Tryd.zeroValue112
 t213:=Tryd.underlying113
 a213:=Tryd.isAgg113
 z213:=Tryd.sizeOf113
 t232:=Tryd.underlying121
 a232:=Tryd.isAgg121
 z232:=Tryd.sizeOf121
 v232:=Tryd.zeroValue121
 t233:=Tryd.underlying122
 a233:=Tryd.isAgg122
 z233:=Tryd.sizeOf122
 v233:=Tryd.zeroValue122
 g17:=by kernel_rfl
 g18:=by kernel_rfl
 g19:=by kernel_rfl }
open Go.RowKit Go.Sort Go.Lib in
/-- THE ROAD WITHOUT THE TABLE: 0 <= i < 100: NO PREMISE ON THE WORLD, AND THE WORLD IS AS IT WAS: a row that keeps its argument in that range need list no table ('laid = []'). (LAID: no walk: one application.) -/
theorem Tryd.strconv_Itoa_small (i:Nat) (hi:i < 100) (w:World) :
 Calls Tryd.prog 40 #[.int .i64 i] w fun e w'=>e=.returned (.string ⟨(Lib.decDigits i).toArray⟩)/\w'=w:=Any.strconv_Itoa_small Tryd.lays171 i hi w
def Tryd.lays146_ren:Go.Shelf.Ren:=⟨fun | 146=>27 | 221=>44 | 268=>52 | 138=>53 | 143=>54 | 195=>68 | 197=>69 | 218=>70 | 219=>71 | 260=>81 | 217=>82 | 225=>83 | 224=>84 | 267=>85 | 266=>91 | 314=>92 | n=>n,fun | 9=>9 | 31=>43 | 3=>3 | 4=>4 | 0=>0 | 105=>94 | 21=>21 | 5=>5 | 46=>73 | 119=>115 | 139=>118 | 138=>117 | 146=>119 | 51=>86 | n=>n,fun | 1=>0 | 3=>2 | 4=>3 | n=>n⟩
theorem Tryd.lays146:Go.Proofs.Lays.n146 Tryd.prog Tryd.lays146_ren:={
 mixed:=by kernel_rfl
 f138:=Tryd.func53.trans (congrArg some (by kernel_rfl))
 f143:=Tryd.func54.trans (congrArg some (by kernel_rfl))
 f146:=Tryd.func27.trans (congrArg some (by kernel_rfl))
 f195:=Tryd.func68.trans (congrArg some (by kernel_rfl))
 f197:=Tryd.func69.trans (congrArg some (by kernel_rfl))
 f217:=Tryd.func82.trans (congrArg some (by kernel_rfl))
 f218:=Tryd.func70.trans (congrArg some (by kernel_rfl))
 f219:=Tryd.func71.trans (congrArg some (by kernel_rfl))
 f221:=Tryd.func44.trans (congrArg some (by kernel_rfl))
 f224:=Tryd.func84.trans (congrArg some (by kernel_rfl))
 f225:=Tryd.func83.trans (congrArg some (by kernel_rfl))
 f260:=Tryd.func81.trans (congrArg some (by kernel_rfl))
 f266:=Tryd.func91.trans (congrArg some (by kernel_rfl))
 f267:=Tryd.func85.trans (congrArg some (by kernel_rfl))
 f268:=Tryd.func52.trans (congrArg some (by kernel_rfl))
 f314:=Tryd.func92.trans (congrArg some (by kernel_rfl))
 t0:=Tryd.underlying0
 a0:=Tryd.isAgg0
 z0:=Tryd.sizeOf0
 v0:=Tryd.zeroValue0
 t3:=Tryd.underlying3
 a3:=Tryd.isAgg3
 z3:=Tryd.sizeOf3
 v3:=Tryd.zeroValue3
 t4:=Tryd.underlying4
 a4:=Tryd.isAgg4
 z4:=Tryd.sizeOf4
 v4:=Tryd.zeroValue4
 t5:=Tryd.underlying5
 a5:=Tryd.isAgg5
 z5:=Tryd.sizeOf5
 v5:=Tryd.zeroValue5
 t9:=Tryd.underlying9
 a9:=Tryd.isAgg9
 z9:=Tryd.sizeOf9
 v9:=Tryd.zeroValue9
 t21:=Tryd.underlying21
 a21:=Tryd.isAgg21
 z21:=Tryd.sizeOf21
 v21:=Tryd.zeroValue21
 t31:=Tryd.underlying43
 a31:=Tryd.isAgg43
 z31:=Tryd.sizeOf43
 v31:=Tryd.zeroValue43
 t46:=Tryd.underlying73
 a46:=Tryd.isAgg73
 z46:=Tryd.sizeOf73
 v46:=Tryd.zeroValue73
 t51:=Tryd.underlying86
 a51:=Tryd.isAgg86
 z51:=Tryd.sizeOf86
 v51:=Tryd.zeroValue86
 t105:=Tryd.underlying94
 a105:=Tryd.isAgg94
 z105:=Tryd.sizeOf94
 v105:=Tryd.zeroValue94
 t119:=Tryd.underlying115
 a119:=Tryd.isAgg115
 z119:=Tryd.sizeOf115
 t138:=Tryd.underlying117
 a138:=Tryd.isAgg117
 z138:=Tryd.sizeOf117
 v138:=Tryd.zeroValue117
 t139:=Tryd.underlying118
 a139:=Tryd.isAgg118
 z139:=Tryd.sizeOf118
 v139:=Tryd.zeroValue118
 t146:=Tryd.underlying119
 a146:=Tryd.isAgg119
 z146:=Tryd.sizeOf119
 v146:=Tryd.zeroValue119
 g1:=by kernel_rfl
 g3:=by kernel_rfl
 g4:=by kernel_rfl }
open Go.RowKit Go.Lib in
/-- strings.Split. (LAID: no walk: one application.) -/
theorem Tryd.strings_Split (s sep:ByteArray) (m:Int) (w:World) (hs:s.size < 4294967281) (hm:w.cell? ⟨0,0,none⟩=some (.int .i64 m)) (h1:1<=sep.size) :
 Calls Tryd.prog 27 #[.string s,.string sep] w fun e w' =>
  e=.returned (.slice (some ⟨w.heap.size,0,none⟩) (Lib.countB s sep+1) (Lib.countB s sep+1))/\w'=w.alloc (.cells ((Lib.splitB sep 0 (Lib.countB s sep) s).map Value.string).toArray 9):=Any.strings_Split Tryd.lays146 (by kernel_rfl) s sep m w hs hm h1
end Go.Proofs
namespace Go.Proofs.YtloeghbhoflabaaDoor
open Go.ChangeShapes Go.WideShapes Go.ChangeAt Go.RowKit
attribute [local go_sem] ext_cell ext_frozen ext_lt ext_lt1 ext_lt2 ext_lt3 ltn2 ltn3 ltn13 lts1 lts2 lts3
theorem okP_of {l:List Pr} (h:arePL l=true):∀ p ∈ l,okP p:=fun p hp=>by
 have h2:=arePL_in h p hp
 simp only [inB] at h2
 exact ⟨by omega,by omega⟩
theorem pdig_size {n:Int} (h:0<=n/\n<=4):(pdig n).size=1:=by
 show (pdig n).data.size=1
 rw [<- Array.length_toList,pdig_list h]
 rfl
theorem ftx_join {l:List Pr} {X:List ByteArray} (hX:X=l.map ptx):(⟨(Lib.join (X.map (·.data.toList)) [32]).toArray⟩:ByteArray)=ftx l:=by
 rw [hX,List.map_map]
 rfl
def fmtL (l:List Pr):ByteArray:=if arePL l then (if l=[] then ⟨#[110,111,110,101]⟩ else ftx l) else ⟨#[]⟩
def cS (b:ByteArray):List Value:=[.string b]
theorem cS_len (b:ByteArray):(cS b).length=1:=rfl
theorem cS_one (b:ByteArray):∀ u ∈ cS b,u.oneCell'=true:=by intro u hu;simp only [cS,List.mem_cons,List.not_mem_nil,or_false] at hu;subst hu;rfl
theorem elStr:ElemOk Tryd.prog 43 9 (.string ByteArray.empty) 1 16:=⟨Tryd.underlying43,by kernel_rfl,rfl,by omega⟩
theorem implFormatInt (n:Int) (h:0<=n/\n<=4) (w:World) :
 Calls Tryd.prog 25 #[.int .i64 n] w fun e w'=>e=.returned (.string (pdig n))/\w'=w:=by
 obtain ⟨k,rfl⟩:=Int.eq_ofNat_of_zero_le h.1
 have hk:k < 100:=by omega
 clear h
 go_enter Tryd.func25,Tryd.ntmps25
 go_wp2_with fail
 refine (Tryd.strconv_Itoa_small k hk _).mono ?_
 rintro e w' ⟨rfl,rfl⟩
 go_wp2_with fail
 go_ret
 exact ⟨rfl,rfl⟩
set_option maxHeartbeats 4000000 in
set_option maxRecDepth 100000 in
theorem implFormatPairs (v:Value) (l:List Pr) (w:World) (hv:SlE w cPr 2 v l) (hn:l.length<=1048576) :
 Calls Tryd.prog 12 #[v] w fun e w'=>e=.returned (.string (fmtL l))/\Below w.heap.size w w':=by
 have HV:=Hd_ hv
 obtain ⟨A,c,rfl,hl,hm,-⟩:=hv
 unfold maxLen at hm
 obtain ⟨R,hR⟩:∃ R,R=fmtL l:=⟨_,rfl⟩
 rw [<- hR]
 have HR:=Hd_ hR
 obtain ⟨N,hN⟩:∃ N,N=l.length:=⟨_,rfl⟩
 have HV:=Hd_ (show SlE w cPr 2 (.slice A N c) l from hN ▸ HV.out)
 rw [<- hN] at hl hn ⊢
 have HN:=Hd_ hN
 clear hR hN
 go_enter Tryd.func12,Tryd.ntmps12
 go_wp2_with fail
 refine (implAre _ l _ HV.out (by rw [<- HN.out];exact hn)).mono ?_
 rintro e w1 ⟨rfl,hb1⟩
 have HB1:=Hd_ hb1
 have HV1:=Hd_ (SlE.keep HV.out hb1)
 clear hb1 HV
 cases hok:arePL l with
 | false =>
   have HE:=Hd_ (show R=⟨#[]⟩ by rw [HR.out,fmtL,hok];rfl)
   clear hok
   go_wp2_with fail
   go_ret
   exact ⟨by rw [HE.out];rfl,HB1.out⟩
 | true =>
   have HOK:=Hd_ (okP_of hok)
   have HOT:=Hd_ hok
   clear hok
   by_cases h0:N=0
   · have HE:=Hd_ (show R=⟨#[110,111,110,101]⟩ by rw [HR.out,fmtL,HOT.out,if_pos rfl,if_pos (List.eq_nil_of_length_eq_zero (by rw [<- HN.out];exact h0))])
     subst h0
     go_wp2_with fail
     go_ret
     exact ⟨by rw [HE.out];rfl,HB1.out⟩
   · have hz:((N:Int)==0)=false:=by simpa using h0
     have hz2:(N==0)=false:=by simpa using h0
     have HNE:=Hd_ (show l ≠ [] from fun e=>h0 (by rw [HN.out,e];rfl))
     have HE:=Hd_ (show R=ftx l by rw [HR.out,fmtL,HOT.out,if_pos rfl,if_neg HNE.out])
     clear HOT
     go_wp2_with fail
     go_loopw [3,5,17] (fun oo pp ii wr=>∃ i:Nat,i<=N/\ii=.int .i64 (i:Int)/\Own w1.heap.size wr.heap.size wr 9 cS 1 oo ((l.take i).map ptx)/\Below w1.heap.size w1 wr) (fun _ _ ii _=>N - (intOf ii).toNat)
     case atStart =>
      exact ⟨0,Nat.zero_le _,rfl,Own.of_row (n:=0) (cs:=[]) (World.ownsRow_lit (base:=w1.heap.size) (e:=9) (size:=1) w1 #[] 0 (Nat.le_refl _) (by decide) rfl) rfl rfl,(Below.refl _ _).alloc (Nat.le_refl _) _⟩
     case round =>
      obtain ⟨i,hi,rfl,how,hbel⟩:=hrel
      have HOW:=Hd_ how
      have HBEL:=Hd_ hbel
      obtain ⟨A2,n2,c2,rfl⟩:=how.shape
      have hsw:=hbel.size
      clear how hbel
      by_cases hlt:i < N
      · have hxi:l[i]?=some (l[i]'(by rw [<- HN.out];exact hlt)):=List.getElem?_eq_getElem _
        generalize l[i]'(by rw [<- HN.out];exact hlt)=x at hxi
        have HX:=Hd_ (HOK.out x (List.mem_of_getElem? hxi))
        have HTK:=Hd_ (take_mapS (f:=ptx) hxi)
        obtain ⟨b1,o1,rfl,⟨-,hb1⟩,d0,d1⟩:=HV1.out.prA hxi
        obtain ⟨xa,xb⟩:=x
        simp only at d0 d1
        have d0:=kcell HBEL.out d0
        have d1:=kcell HBEL.out d1
        have hii:(i:Int) < (N:Int):=by omega
        have hal:=(Below.refl wr.heap.size wr).alloc (Nat.le_refl _) (.cells #[.int .i64 xa,.int .i64 xb] 30)
        have bk:=Blk.new wr 30 #[.int .i64 xa,.int .i64 xb] _ rfl
        clear hxi
        go_upto_region 9 with fail
        obtain ⟨W,hW⟩:∃ W,W=wr.alloc (.cells #[.int .i64 xa,.int .i64 xb] 30):=⟨_,rfl⟩
        rw [<- hW] at bk hal ⊢
        have HOW2:=Hd_ (HOW.out.below hal (Nat.le_refl _))
        have HB2:=Hd_ (HBEL.out.trans (hal.mono hsw))
        have hsz:=hal.size
        clear hW d0 d1 hal
        have x0:W.cell? ⟨wr.heap.size,0,none⟩=some (.int .i64 xa):=by exact bk.cell 0
        have x1:W.cell? ⟨wr.heap.size,1,none⟩=some (.int .i64 xb):=by exact bk.cell 1
        clear bk
        have hlen:((l.take i).map ptx).length=i:=by rw [List.length_map,List.length_take,<- HN.out];omega
        have hcat:¬ 9223372036854775807 < (pdig xa).size+(pdig xb).size:=by rw [pdig_size HX.out.1,pdig_size HX.out.2];omega
        refine F_start 9 (fun w'=>w'.cell? ⟨wr.heap.size,0,none⟩=some (.int .i64 xa)/\w'.cell? ⟨wr.heap.size,1,none⟩=some (.int .i64 xb)) (by kernel_rfl) (by exact ⟨x0,x1⟩) (fun hS inv=>?_)
        refine F_tk 0 inv ?_
        try simp only [tA,tB,tC,Act.put,tE,tF,tG]
        clear inv;intro inv
        refine F_tk 1 inv ?_
        try simp only [tA,tB,tC,Act.put,tE,tF,tG]
        clear inv;intro inv
        refine F_tk 2 inv ?_
        try simp only [tA,tB,tC,Act.put,tE,tF,tG]
        clear inv;intro inv
        refine F_tk 4 inv ?_
        try simp only [tA,tB,tC,Act.put,tE,tF,tG]
        clear inv;intro inv
        refine F_tk 5 inv ?_
        try simp only [tA,tB,tC,Act.put,tE,tF,tG]
        clear inv;intro inv
        clear x0 x1
        refine F_o1 3 inv ?_;intro K hK
        try simp only [tA,tB,tC]
        go_simp
        refine (implFormatInt xa HX.out.1 _).mono ?_
        rintro e w3 ⟨rfl,rfl⟩
        refine hK.out _ _ (hS) (fun _ _=>?_)
        try simp only [tA,tB,tC,Act.put,tE,tF,tG]
        clear hK K inv hS;rename_i hS inv
        refine F_o1 6 inv ?_;intro K hK
        try simp only [tA,tB,tC]
        go_simp
        refine (implFormatInt xb HX.out.2 _).mono ?_
        rintro e w3 ⟨rfl,rfl⟩
        refine hK.out _ _ (hS) (fun _ _=>?_)
        try simp only [tA,tB,tC,Act.put,tE,tF,tG]
        clear hK K inv hS;rename_i hS inv
        refine F_tk 7 inv ?_
        try simp only [tA,tB,tC,Act.put,tE,tF,tG]
        clear inv;intro inv
        refine F_o1 8 inv ?_;intro K hK
        try simp only [tA,tB,tC]
        go_simp
        refine hK.out _ _ (kA2 _ hS) (fun _ _=>?_)
        try simp only [tA,tB,tC,Act.put,tE,tF,tG]
        clear hK K inv hS;rename_i hS inv
        refine F_tail (i:=9) (by kernel_rfl) rfl rfl (by omega) (fun K hK=>?_)
        try simp only [tA,tB,tC]
        refine op_append1 cS elStr rfl _ _ (by rfl) w1.heap.size _ ((l.take i).map ptx) (ptx (xa,xb)) 1 _ (by rfl) ((HOW2.out.1.drew).alloc _) (by first | rfl | simp) (heap_alloc_new _ _) rfl (cS_one _) (by rw [hlen];omega) (by omega) (by simp;omega) ?_
        intro g2 cp2 w4 hown4 hgr4 hat4 hlt4
        refine hK.out _ _ ?_
        try simp only [tA,tB,tC,Act.put,tE,tF,tG]
        clear hK K
        try clear inv hS
        refine F_l1 10 ?_;intro K hK
        go_simp
        refine hK _ _ ?_
        clear hK K
        go_wp2_with fail
        go_roundw
        case rel =>
         have hgt:=Own.of_row (xs:=(l.take (i+1)).map ptx) hown4 (by rw [HTK.out]) (by rw [HTK.out])
         exact ⟨i+1,by omega,by go_num,by simpa using hgt,((HB2.out.drew).alloc (show w1.heap.size<=W.heap.size by omega) _).trans (own_below ((HOW2.out.1.drew).alloc _) (by simp;omega) hgr4)⟩
        case measure=>simp [intOf];omega
      · obtain rfl:i=N:=by omega
        have htk:l.take i=l:=List.take_of_length_le (by rw [<- HN.out];exact Nat.le_refl _)
        rw [htk] at HOW
        obtain ⟨X,hX⟩:∃ X,X=l.map ptx:=⟨_,rfl⟩
        rw [<- hX] at HOW
        have hlen:X.length=i:=by rw [hX,List.length_map];exact HN.out.symm
        obtain ⟨g,c3,hve,-,hg,hnc,-⟩:=own_some HOW.out.1 (by rw [hlen];exact h0)
        simp only [Value.slice.injEq] at hve
        obtain ⟨rfl,rfl,rfl⟩:=hve
        have HCE:=Hd_ (show ∀ (j:Nat) x,X[j]?=some x->wr.cell? ⟨g,0+j,none⟩=some (.string x) from fun j x hj=>by
         have hf:=flat_at cS_len hj 0 _ rfl
         have hjl:=(List.getElem?_eq_some_iff.1 hf).1
         rw [HOW.out.1.1] at hjl
         have:=(World.ownsRow.cellAt HOW.out.1 _ hjl).trans hf
         simpa using this)
        have hfl:=ftx_len HOK.out
        rw [<- ftx_join hX] at hfl
        rw [<- HN.out] at hfl
        have hfl2:(Lib.join (X.map (·.data.toList)) [32]).length<=140737488355328:=by
         simp only [ByteArray.size,List.size_toArray] at hfl
         omega
        have HG:=Hd_ hg
        have HNC:=Hd_ hnc
        have HFL:=Hd_ hfl2
        have HL:=Hd_ hlen
        have HRX:=Hd_ (HE.out.trans (ftx_join hX).symm)
        clear hfl hfl2 hX hlen hg hnc htk
        go_wp2_with fail
        refine (Tryd.strings_Join g 0 _ X ⟨#[32]⟩ _ HCE.out HG.out (by rw [HL.out];omega) HNC.out HFL.out).mono ?_
        rintro e w5 ⟨rfl,hb5⟩
        go_wp2_with fail
        go_ret
        exact ⟨by rw [HRX.out];rfl,below_trans HB1.out (below_trans HBEL.out hb5)⟩
theorem ptx_mk {p:Pr} (h:okP p):ptx p=⟨#[UInt8.ofNat (48+p.1.toNat),UInt8.ofNat (48+p.2.toNat)]⟩:=by
 refine ByteArray.ext (Array.toList_inj.1 ?_)
 rw [ptx_list h]
theorem ftx_pieces {l:List Pr} (hl:l ≠ []) (h:∀ p ∈ l,okP p):Lib.countB (ftx l) ⟨#[32]⟩+1=l.length:=by
 have e:=Lib.splitB_all ⟨#[32]⟩ (by decide) 0 _ (ftx l) rfl
 rw [ftx_split hl h,List.length_map] at e
 exact e.symm
theorem Blk.cellA {w:World} {g:Nat} {t:TypeId} {cs:Array Value} {i:Nat} {v:Value} (h:Blk w g t cs) (hi:cs[i]?=some v):w.cell? ⟨g,i,none⟩=some v:=(h.cell i).trans hi
def PpOut (l:List Pr) (w:World) (e:Ending) (w':World):Prop:=∃ v,e=.returned (.tuple #[v,.bool (arePL l)])/\((arePL l=true->SlE w' cPr 2 v l)/\(∃ A n c,v=.slice A n c)/\Below w.heap.size w w')
theorem elPrD:ElemOk Tryd.prog 24 30 (.agg #[.int .i64 0,.int .i64 0]) 2 16:=⟨Tryd.underlying24,by kernel_rfl,rfl,by omega⟩
theorem kA1 {w:World} {p0:Addr} {v0:Value} (o:Obj) (h:w.cell? p0=some v0):(w.alloc o).cell? p0=some v0:=kcell ((Below.refl w.heap.size w).alloc (Nat.le_refl _) o) h
theorem lit0 (w:World):SlE (w.alloc (.cells #[] 30)) cPr 2 (.slice (some ⟨w.heap.size,0,none⟩) 0 0) [] :=
 ⟨_,0,rfl,Nat.le_refl _,by unfold maxLen;omega,by simp⟩
set_option maxHeartbeats 4000000 in
set_option maxRecDepth 100000 in
theorem implParsePairs (l:List Pr) (w:World) (m:Int) (hm:w.cell? ⟨0,0,none⟩=some (.int .i64 m)) (hn:l.length<=1048576) :
 Calls Tryd.prog 13 #[.string (fmtL l)] w (PpOut l w):=by
 have hal:=(Below.refl w.heap.size w).alloc (Nat.le_refl _) (.cells #[] 30)
 have HB:=Hd_ hal
 have HM:=Hd_ (kcell hal hm)
 clear hal hm
 cases hok:arePL l with
 | false =>
   have HOK:=Hd_ hok
   rw [show fmtL l=⟨#[]⟩ by rw [fmtL,hok];rfl]
   clear hok
   go_enter Tryd.func13,Tryd.ntmps13
   go_wp2_with fail
   have HSPL:=Hd_ (Tryd.strings_Split ⟨#[]⟩ ⟨#[32]⟩ m _ (by decide) HM.out (by decide))
   rw [show Lib.countB ⟨#[]⟩ ⟨#[32]⟩=0 by decide] at HSPL
   refine HSPL.out.mono ?_
   rintro e w1 ⟨rfl,hw1⟩
   have hb1:=(Below.refl (w.alloc (.cells #[] 30)).heap.size (w.alloc (.cells #[] 30))).alloc (Nat.le_refl _) (.cells ((Lib.splitB ⟨#[32]⟩ 0 0 ⟨#[]⟩).map Value.string).toArray 9)
   rw [<- hw1] at hb1
   have hce:w1.cell? ⟨(w.alloc (.cells #[] 30)).heap.size,0,none⟩=some (.string ⟨#[]⟩):=by
    rw [hw1,World.cell?_alloc_new]
    rfl
   have HB1:=Hd_ (below_trans HB.out hb1)
   have hlt:(w.alloc (.cells #[] 30)).heap.size < w1.heap.size:=by rw [hw1];simp
   generalize (w.alloc (.cells #[] 30)).heap.size=bS at hce hlt ⊢
   clear hw1 hb1 HSPL HM HB
   go_wp2_with fail
   go_loopw [4,6,14] (fun oo pp ii wr=>ii=.int .i64 0/\wr=w1) (fun _ _ _ _=>0)
   case atStart=>exact ⟨rfl,rfl⟩
   case round =>
    obtain ⟨rfl,rfl⟩:=hrel
    go_wp2_with fail
    go_ret2
    exact ⟨_,by rw [HOK.out];rfl,fun e=>(by rw [HOK.out] at e;cases e),⟨_,_,_,rfl⟩,HB1.out⟩
 | true =>
   have HOK:=Hd_ hok
   have HOP:=Hd_ (okP_of hok)
   by_cases hl:l=[]
   · rw [show fmtL l=⟨#[110,111,110,101]⟩ by rw [fmtL,hok,if_pos rfl,if_pos hl]]
     subst hl
     clear hok
     go_enter Tryd.func13,Tryd.ntmps13
     go_wp2_with fail
     go_ret2
     exact ⟨_,by rw [HOK.out];rfl,fun _=>lit0 w,⟨_,_,_,rfl⟩,HB.out⟩
   · have HF:=Hd_ (show fmtL l=ftx l by rw [fmtL,hok,if_pos rfl,if_neg hl])
     have HNE:=Hd_ (ftx_none hl HOP.out)
     have HSP:=Hd_ (ftx_split hl HOP.out)
     have HPC:=Hd_ (ftx_pieces hl HOP.out)
     have HLN:=Hd_ (ftx_len HOP.out)
     obtain ⟨R,hR⟩:∃ R,R=fmtL l:=⟨_,rfl⟩
     rw [<- hR] at HF ⊢
     rw [<- HF.out] at HNE HSP HPC HLN
     have HRR:=Hd_ hR
     clear hR hok hl
     have hne:(R.toList==[110,111,110,101])=false:=by
      rw [ByteArray.toList_eq,beq_eq_false_iff_ne]
      exact fun e=>HNE.out (ByteArray.ext (Array.toList_inj.1 e))
     go_enter Tryd.func13,Tryd.ntmps13
     go_wp2_with fail
     clear hne
     refine (Tryd.strings_Split R ⟨#[32]⟩ m _ (by have:=HLN.out;omega) HM.out (by decide)).mono ?_
     rintro e w1 ⟨rfl,hw1⟩
     rw [HSP.out] at hw1
     rw [HPC.out]
     obtain ⟨N,hN⟩:∃ N,N=l.length:=⟨_,rfl⟩
     rw [<- hN] at hn ⊢
     have HN:=Hd_ hN
     have hb1:=(Below.refl (w.alloc (.cells #[] 30)).heap.size (w.alloc (.cells #[] 30))).alloc (Nat.le_refl _) (.cells ((l.map ptx).map Value.string).toArray 9)
     rw [<- hw1] at hb1
     obtain ⟨W,hW⟩:∃ W,W=w.alloc (.cells #[] 30):=⟨_,rfl⟩
     have hrow:W.ownsRow w.heap.size 30 2 (.slice (some ⟨w.heap.size,0,none⟩) 0 0) 0 []:=by rw [hW];exact World.ownsRow_lit (base:=w.heap.size) (e:=30) (size:=2) w #[] 0 (Nat.le_refl _) (by decide) rfl
     rw [<- hW] at HB HM hb1 hw1 ⊢
     have hbk:Blk w1 W.heap.size 9 ((l.map ptx).map Value.string).toArray:=by rw [hw1];exact Blk.new W 9 _ _ rfl
     have HR1:=Hd_ (ownsRow_below hrow hb1 (Nat.le_refl _))
     have HB1:=Hd_ (below_trans HB.out hb1)
     have hs1:=hb1.size
     have hs0:=HB.out.size
     have hlt1:W.heap.size < w1.heap.size:=by rw [hw1];simp
     obtain ⟨bS,hbS⟩:∃ bS,bS=W.heap.size:=⟨_,rfl⟩
     rw [<- hbS] at hlt1 hbk ⊢
     have HBK:=Hd_ hbk
     have hwb:w.heap.size < bS:=by rw [hbS,hW];simp
     clear hW hrow hw1 hN HB HSP HPC hb1 hbk hbS HM HLN
     go_wp2_with fail
     go_loopw [4,6,14] (fun oo pp ii wr=>∃ i:Nat,i<=N/\ii=.int .i64 (i:Int)/\Own w.heap.size wr.heap.size wr 30 cPr 2 oo (l.take i)/\oo.ownBlock ≠ some bS/\Blk wr bS 9 ((l.map ptx).map Value.string).toArray/\Below w.heap.size w wr/\w1.heap.size<=wr.heap.size) (fun _ _ ii _=>N - (intOf ii).toNat)
     case atStart =>
      exact ⟨0,Nat.zero_le _,rfl,Own.of_row HR1.out rfl rfl,(fun e=>by simp [Value.ownBlock] at e;omega),HBK.out,HB1.out,Nat.le_refl _⟩
     case round =>
      obtain ⟨i,hi,rfl,how,hnb,hbk,hbel,hsz⟩:=hrel
      have HOW:=Hd_ how
      have HBEL:=Hd_ hbel
      have HNB:=Hd_ hnb
      have HBKR:=Hd_ hbk
      obtain ⟨A2,n2,c2,rfl⟩:=how.shape
      have hsw:=hbel.size
      clear how hbel hnb hbk
      by_cases hlt:i < N
      · have hxi:l[i]?=some (l[i]'(by rw [<- HN.out];exact hlt)):=List.getElem?_eq_getElem _
        generalize l[i]'(by rw [<- HN.out];exact hlt)=x at hxi
        have hox:=HOP.out x (List.mem_of_getElem? hxi)
        have HXI:=Hd_ hxi
        have hce:wr.cell? ⟨bS,i,none⟩=some (.string (ptx x)):=HBKR.out.cellA (by simp [hxi])
        rw [ptx_mk hox] at hce
        obtain ⟨xa,xb⟩:=x
        have h0:=dig_val hox.1
        have h1:=dig_val hox.2
        simp only at h0 h1 hce
        generalize UInt8.ofNat (48+xa.toNat)=u0 at h0 hce
        generalize UInt8.ofNat (48+xb.toNat)=u1 at h1 hce
        have hii:(i:Int) < (N:Int):=by omega
        have hlb:bS < wr.heap.size:=by omega
        have H0:=Hd_ h0
        have H1:=Hd_ h1
        have HOX:=Hd_ hox
        clear hxi h0 h1 hox
        go_upto_region 9 with fail
        have x0:=hce
        refine F_start 11 (fun w'=>w'.cell? ⟨bS,i,none⟩=some (.string ⟨#[u0,u1]⟩)) (by kernel_rfl) (by exact x0) (fun hS inv=>?_)
        refine F_tk 0 inv ?_
        try simp only [tA,tB,tC,Act.put,tE,tF,tG]
        clear inv;intro inv
        refine F_tk 1 inv ?_
        try simp only [tA,tB,tC,Act.put,tE,tF,tG]
        clear inv;intro inv
        refine F_tk 2 inv ?_
        try simp only [tA,tB,tC,Act.put,tE,tF,tG]
        clear inv;intro inv
        refine F_tk 3 inv ?_
        try simp only [tA,tB,tC,Act.put,tE,tF,tG]
        clear inv;intro inv
        refine F_tk 4 inv ?_
        try simp only [tA,tB,tC,Act.put,tE,tF,tG]
        clear inv;intro inv
        refine F_tk 5 inv ?_
        try simp only [tA,tB,tC,Act.put,tE,tF,tG]
        clear inv;intro inv
        refine F_tk 6 inv ?_
        try simp only [tA,tB,tC,Act.put,tE,tF,tG]
        clear inv;intro inv
        refine F_tk 7 inv ?_
        try simp only [tA,tB,tC,Act.put,tE,tF,tG]
        clear inv;intro inv
        refine F_tk 8 inv ?_
        try simp only [tA,tB,tC,Act.put,tE,tF,tG]
        clear inv;intro inv
        refine F_tk 9 inv ?_
        try simp only [tA,tB,tC,Act.put,tE,tF,tG]
        clear inv;intro inv
        refine F_o1 10 inv ?_;intro K hK
        try simp only [tA,tB,tC]
        go_simp
        have e0:IntKind.i64.wrap (IntKind.i64.wrap (((⟨#[u0,u1]⟩:ByteArray)[0]'(by simp [ByteArray.size])).toNat:Int) - 48)=xa:=by
         show IntKind.i64.wrap (IntKind.i64.wrap (u0.toNat:Int) - 48)=xa
         rw [H0.out]
         exact five (P:=fun n=>IntKind.i64.wrap (IntKind.i64.wrap (48+n) - 48)=n) (by decide) (by decide) (by decide) (by decide) (by decide) HOX.out.1
        have e1:IntKind.i64.wrap (IntKind.i64.wrap (((⟨#[u0,u1]⟩:ByteArray)[1]'(by simp [ByteArray.size])).toNat:Int) - 48)=xb:=by
         show IntKind.i64.wrap (IntKind.i64.wrap (u1.toNat:Int) - 48)=xb
         rw [H1.out]
         exact five (P:=fun n=>IntKind.i64.wrap (IntKind.i64.wrap (48+n) - 48)=n) (by decide) (by decide) (by decide) (by decide) (by decide) HOX.out.2
        rw [e0,e1]
        clear e0 e1
        have hlen:(l.take i).length=i:=by rw [List.length_take,<- HN.out];omega
        refine hK.out _ _ (kA1 _ hS) (fun _ _=>?_)
        try simp only [tA,tB,tC,Act.put,tE,tF,tG]
        clear hK K inv hS;rename_i hS inv
        refine F_tail (i:=11) (by kernel_rfl) rfl rfl (by omega) (fun K hK=>?_)
        try simp only [tA,tB,tC]
        refine op_append1 cPr elPrD rfl _ _ (by rfl) w.heap.size _ (l.take i) (xa,xb) 1 _ (by rfl) ((HOW.out.1.drew).alloc _) (by first | rfl | simp) (heap_alloc_new _ _) rfl (cPr_one _) (by rw [hlen];omega) (by omega) (by simp;omega) ?_
        intro g2 cp2 w4 hown4 hgr4 hat4 hlt4
        refine hK.out _ _ ?_
        try simp only [tA,tB,tC,Act.put,tE,tF,tG]
        clear hK K
        try clear inv hS
        refine F_l1 12 ?_;intro K hK
        go_simp
        refine hK _ _ ?_
        clear hK K
        go_wp2_with fail
        go_roundw
        case rel =>
         have hgt:=Own.of_row (xs:=l.take (i+1)) hown4 (by rw [take_snoc HXI.out]) (by rw [take_snoc HXI.out])
         have hbA:=(Below.refl wr.heap.size wr).drew.alloc (Nat.le_refl _) (.cells #[.int .i64 xa,.int .i64 xb] 30)
         have hbB:=own_below ((HOW.out.1.drew).alloc (.cells #[.int .i64 xa,.int .i64 xb] 30)) (by simp;omega) hgr4
         have hsB:=hgr4.size
         have hsA:=hbA.size
         refine ⟨i+1,by omega,by go_num,by rw [hlen] at hgt;exact hgt,?_,(hgr4.block bS (by simp;omega) (fun e=>HNB.out e.symm)).trans (HBKR.out.keep hbA),(HBEL.out.trans (hbA.mono hsw)).trans hbB,Nat.le_trans hsz (Nat.le_trans hsA hsB)⟩
         intro e
         rcases hat4 with h | h
         · exact HNB.out (by rw [h];exact e)
         · simp only [Value.ownBlock,Option.some.injEq] at e
           simp at h
           omega
        case measure=>simp [intOf];omega
      · obtain rfl:i=N:=by omega
        have htk:l.take i=l:=List.take_of_length_le (by rw [<- HN.out];exact Nat.le_refl _)
        rw [htk] at HOW
        have HSL:=Hd_ (HOW.out.sl cPr_len)
        have HSE:=Hd_ (show SlE wr cPr 2 _ l from HSL.out.mono (Nat.zero_le _) (Nat.le_refl _))
        have HNL:=Hd_ (show l.length<=1048576 by rw [<- HN.out];exact hn)
        clear htk hlt
        go_wp2_with fail
        refine (implFormatPairs _ l _ HSE.out HNL.out).mono ?_
        rintro e w5 ⟨rfl,hb5⟩
        rw [<- HRR.out]
        have hrr:(R.toList != R.toList)=false:=by simp
        go_wp2_with fail
        go_ret2
        exact ⟨_,by rw [HOK.out];rfl,fun _=>SlE.keep HSE.out hb5,⟨_,_,_,rfl⟩,below_trans HBEL.out hb5⟩
def inP (b:List Pr) (p:Pr):Bool:=decide (p ∈ b)
def subL (a b:List Pr):List Pr:=psetL (a.filter fun p=>!inP b p)
theorem subL_pset (a b:List Pr):(psetL a).filter (fun p=>!inP b p)=subL a b:=by
 refine uniqP ?_ (psetL_asc _) fun x=>?_
 · exact (psetL_asc a).sublist List.filter_sublist
 · rw [subL,mem_psetL,List.mem_filter,List.mem_filter,mem_psetL]
set_option maxHeartbeats 2000000 in
theorem l15Has_any (v:Value) (l:List Pr) (p:Pr) (w:World) (hv:SlE w cPr 2 v l) :
 Calls Tryd.prog 24 #[v,.agg #[.int .i64 p.1,.int .i64 p.2]] w fun e w'=>e=.returned (.bool (inP l p))/\Below w.heap.size w w':=by
 have hs:=hv
 obtain ⟨A,c,rfl,hl,hm,-⟩:=hv
 unfold maxLen at hm
 have HS:=Hd_ hs
 obtain ⟨pa,pb⟩:=p
 obtain ⟨R,hR⟩:∃ R,R=inP l (pa,pb):=⟨_,rfl⟩
 have HRT:=Hd_ (fun (h:((pa,pb):Pr) ∈ l)=>show R=true by rw [hR,inP];simpa using h)
 have HRF:=Hd_ (fun (h:¬ ((pa,pb):Pr) ∈ l)=>show R=false by rw [hR,inP];simpa using h)
 simp only
 rw [<- hR]
 clear hs hR
 have hb0:Below w.heap.size w (w.alloc (.cells #[.int .i64 pa,.int .i64 pb] 30)):=(Below.refl _ _).alloc (Nat.le_refl _) _
 have bZ:=Blk.new w 30 #[.int .i64 pa,.int .i64 pb] w.heap.size rfl
 go_enter Tryd.func24,Tryd.ntmps24
 go_wp2_with fail
 obtain ⟨W1,hW1⟩:∃ W1,W1=w.alloc (.cells #[.int .i64 pa,.int .i64 pb] 30):=⟨_,rfl⟩
 rw [<- hW1] at hb0 bZ ⊢
 have z0:W1.cell? ⟨w.heap.size,0,none⟩=some (.int .i64 pa):=bZ.cell 0
 have z1:W1.cell? ⟨w.heap.size,1,none⟩=some (.int .i64 pb):=bZ.cell 1
 have lz:=bZ.lt
 have HB0:=Hd_ hb0
 clear hW1 hb0 bZ
 go_loopw [5] (fun ii wr=>∃ (i:Nat) (u:World),i<=l.length/\ii=.int .i64 (i:Int)/\(∀ j q,j < i->l[j]?=some q->q ≠ ((pa,pb):Pr))/\wr=ext W1 u) (fun ii _=>l.length - (intOf ii).toNat)
 case atStart=>exact ⟨0,W1,Nat.zero_le _,rfl,fun j q hj=>by omega,ext_self _⟩
 case round =>
  obtain ⟨i,u,hi,rfl,hno,rfl⟩:=hrel
  by_cases hlt:i < l.length
  · have hxi:l[i]?=some l[i]:=List.getElem?_eq_getElem hlt
    generalize l[i]=x at hxi
    obtain ⟨b',o,rfl,⟨-,hb⟩,d0,d1⟩:=HS.out.prA hxi
    obtain ⟨xa,xb⟩:=x
    simp only at d0 d1
    have d0:=kcell HB0.out d0
    have d1:=kcell HB0.out d1
    have hbw:b' < W1.heap.size:=by omega
    have hii:(i:Int) < (l.length:Int):=by omega
    have HMEM:=Hd_ (List.mem_of_getElem? hxi)
    have HNX:=Hd_ (fun (h:((xa,xb):Pr) ≠ (pa,pb)) j q (hj:j < i+1) (hq:l[j]?=some q)=>show q ≠ ((pa,pb):Pr) from by
     rcases Nat.lt_or_ge j i with h1 | h1
     · exact hno j q h1 hq
     · obtain rfl:j=i:=by omega
       rw [hxi] at hq
       injection hq with hq
       rw [<- hq];exact h)
    obtain ⟨bb,hbb⟩:∃ bb,bb=decide (((xa,xb):Pr)=(pa,pb)):=⟨_,rfl⟩
    have HEQ:=Hd_ (fun w=>eqlPr xa xb pa pb w)
    rw [<- hbb] at HEQ
    have HBB:=Hd_ hbb
    have heq:=HEQ.out
    clear hbb hxi hno
    cases bb with
    | true =>
      have HFN:=Hd_ (HRT.out (by have h:((xa,xb):Pr)=(pa,pb):=of_decide_eq_true HBB.out.symm;rw [<- h];exact HMEM.out))
      go_wp2_with fail
      refine wp_region_ext_lit (by kernel_rfl) (by kernel_rfl) ?_
      repeat (go_big_quiet_step (fail))
      refine wpQuiet_nil ?_
      rintro _ ⟨u2,rfl⟩
      have hbf:=below_trans HB0.out (below_trans (ext_below W1 u) (ext_below (ext W1 u) u2))
      go_wp2_with fail
      go_ret
      exact ⟨by rw [HFN.out];rfl,hbf⟩
    | false =>
      have HNY:=Hd_ (HNX.out (of_decide_eq_false HBB.out.symm))
      go_wp2_with fail
      refine wp_region_ext_lit (by kernel_rfl) (by kernel_rfl) ?_
      repeat (go_big_quiet_step (fail))
      refine wpQuiet_nil ?_
      rintro _ ⟨u2,rfl⟩
      obtain ⟨u4,hu4⟩:=ext_ext W1 u u2
      rw [hu4]
      clear hu4
      go_wp2_with fail
      go_roundw
      case rel=>exact ⟨i+1,u4,by omega,by go_num,HNY.out,rfl⟩
      case measure=>simp [intOf];omega
  · have HFN:=Hd_ (HRF.out (fun h=>by
     obtain ⟨j,hj⟩:=List.getElem?_of_mem h
     exact hno j _ (by have:=(List.getElem?_eq_some_iff.1 hj).1;omega) hj rfl))
    have hii:¬ (i:Int) < (l.length:Int):=by omega
    have hbf:=below_trans HB0.out (ext_below W1 u)
    clear hno
    go_wp2_with fail
    go_ret
    exact ⟨by rw [HFN.out];rfl,hbf⟩
theorem filt_yes {a:List Pr} {f:Pr->Bool} {i:Nat} {x:Pr} (h:a[i]?=some x) (hf:f x=true):(a.take (i+1)).filter f=(a.take i).filter f ++ [x]:=by
 rw [take_snoc h,List.filter_append];simp [hf]
theorem filt_no {a:List Pr} {f:Pr->Bool} {i:Nat} {x:Pr} (h:a[i]?=some x) (hf:f x=false):(a.take (i+1)).filter f=(a.take i).filter f:=by
 rw [take_snoc h,List.filter_append];simp [hf]
set_option maxHeartbeats 2000000 in
set_option maxRecDepth 100000 in
theorem specSubtract (va vb:Value) (a b:List Pr) (w:World) (hva:SlE w cPr 2 va a) (hvb:SlE w cPr 2 vb b) (hna:a.length<=1048576) :
 Calls Tryd.prog 10 #[va,vb] w fun e w'=>∃ v',e=.returned v'/\Own w.heap.size w'.heap.size w' 30 cPr 2 v' (subL a b)/\Below w.heap.size w w':=by
 have hsa:=hva
 have hsb:=hvb
 obtain ⟨A,ca,rfl,hla,hma,-⟩:=hva
 obtain ⟨B,cb,rfl,hlb,hmb,-⟩:=hvb
 unfold maxLen at hma hmb
 obtain ⟨R,hR⟩:∃ R,R=subL a b:=⟨_,rfl⟩
 rw [<- hR]
 have HR:=Hd_ hR
 have HSA:=Hd_ hsa
 have HSB:=Hd_ hsb
 have HHAS:=Hd_ (fun (p:Pr) (W:World) (hW:Below w.heap.size w W)=>l15Has_any _ b p W (SlE.keep hsb hW))
 clear hR hsa hsb
 go_enter Tryd.func10,Tryd.ntmps10
 go_wp2_with fail
 go_loopw [5,6] (fun oo ii wr=>∃ i:Nat,i<=a.length/\ii=.int .i64 (i:Int)/\SetR w.heap.size wr oo (psetL ((a.take i).filter fun p=>!inP b p))/\Below w.heap.size w wr) (fun _ ii _=>a.length - (intOf ii).toNat)
 case atStart=>exact ⟨0,Nat.zero_le _,rfl,SetR.lit w _ (Nat.le_refl _),(Below.refl _ _).alloc (Nat.le_refl _) _⟩
 case round =>
  obtain ⟨i,hi,rfl,hset,hbel⟩:=hrel
  have HSET:=Hd_ hset
  have hsz:=hbel.size
  clear hset
  by_cases hlt:i < a.length
  · have hxi:a[i]?=some a[i]:=List.getElem?_eq_getElem hlt
    generalize a[i]=x at hxi
    obtain ⟨b',o,rfl,⟨-,hb⟩,d0,d1⟩:=HSA.out.prA hxi
    have d0:=kcell hbel d0
    have d1:=kcell hbel d1
    obtain ⟨xa,xb⟩:=x
    simp only at d0 d1
    have hbw:b' < wr.heap.size:=by omega
    have hii:(i:Int) < (a.length:Int):=by omega
    have HY:=Hd_ (fun (h:inP b (xa,xb)=false)=>show psetL ((a.take (i+1)).filter fun p=>!inP b p)=putP (psetL ((a.take i).filter fun p=>!inP b p)) (xa,xb) from by rw [filt_yes hxi (by rw [h];rfl),psetL_snoc])
    have HN:=Hd_ (fun (h:inP b (xa,xb)=true)=>show psetL ((a.take (i+1)).filter fun p=>!inP b p)=psetL ((a.take i).filter fun p=>!inP b p) from by rw [filt_no hxi (by rw [h];rfl)])
    have hpl:(psetL ((a.take i).filter fun p=>!inP b p)).length<=2097152:=Nat.le_trans (psetL_len _) (Nat.le_trans (List.length_filter_le _ _) (by simp only [List.length_take];omega))
    clear hxi
    generalize psetL ((a.take i).filter fun p=>!inP b p)=L at *
    go_wp2_with fail
    refine (HHAS.out (xa,xb) _ hbel).mono ?_
    rintro e w3 ⟨rfl,hb3⟩
    have hbel3:=below_trans hbel hb3
    have HS3:=Hd_ (HSET.out.below hb3)
    have hsz3:=hbel3.size
    have d0:=kcell hb3 d0
    have d1:=kcell hb3 d1
    have hbw3:b' < w3.heap.size:=by have:=hb3.size;omega
    cases hc:inP b (xa,xb) with
    | true =>
      have HM:=Hd_ (HN.out hc)
      clear hc hb3
      go_wp2_with fail
      go_roundw
      case rel=>exact ⟨i+1,by omega,by go_num,by rw [HM.out];exact HS3.out,hbel3⟩
      case measure=>simp [intOf];omega
    | false =>
      have HM:=Hd_ (HY.out hc)
      have HP:=Hd_ (l15Put_any _ w.heap.size L (xa,xb) w3 HS3.out hsz3 (by omega))
      clear hc hb3
      go_wp2_with fail
      refine HP.out.mono ?_
      rintro e w4 ⟨v4,rfl,hs4,hb4⟩
      have HS4:=Hd_ hs4
      have HB4:=Hd_ (hbel3.trans (hb4.mono hsz3))
      clear hs4 hb4
      go_wp2_with fail
      go_roundw
      case rel=>exact ⟨i+1,by omega,by go_num,by rw [HM.out];exact HS4.out,HB4.out⟩
      case measure=>simp [intOf];omega
  · obtain rfl:i=a.length:=by omega
    rw [List.take_length] at HSET
    have HO:=Hd_ (show Own w.heap.size wr.heap.size wr 30 cPr 2 _ R from by rw [HR.out];exact HSET.out.own)
    obtain ⟨g,c',rfl,-⟩:=HSET.out
    go_wp2_with fail
    go_ret
    exact ⟨_,rfl,HO.out,hbel⟩
theorem neqPs (a b:Int) (w:World):(binOp .neq 30 (.agg #[.int .i64 a,.int .i64 b]) (.agg #[.int .i64 a,.int .i64 b])).run Tryd.prog w=.ok (.bool false) w:=by
 rw [run_neq_struct,eqPr]
 simp
set_option maxHeartbeats 1000000 in
theorem lawPart_any (va vb:Value) (a b:List Pr) (w:World) (ha:SlE w cPr 2 va a) (hb:SlE w cPr 2 vb b) (hna:a.length<=1048576) (bb:Bool) (hbb:bb=decide (subL a b=[])) :
 Calls Tryd.prog 11 #[va,vb] w fun e w'=>e=.returned (.bool bb)/\Below w.heap.size w w':=by
 have HA:=Hd_ ha
 have HB:=Hd_ hb
 obtain ⟨A1,n1,c1,rfl⟩:=ha.shape
 obtain ⟨A2,n2,c2,rfl⟩:=hb.shape
 have HBB:=Hd_ hbb
 clear ha hb hbb
 go_enter Tryd.func11,Tryd.ntmps11
 go_wp2_with fail
 refine (specSubtract _ _ _ _ _ HA.out HB.out hna).mono ?_
 rintro e w1 ⟨v,rfl,hov,hb1⟩
 obtain ⟨A3,c3,rfl,hl3,hm3,-⟩:=hov.form cPr_len
 have HL:=Hd_ (show bb=decide ((subL a b).length=0) from by rw [HBB.out];simp only [List.length_eq_zero_iff])
 clear hov hl3 hm3
 have h0:=HL.out
 clear HL
 generalize (subL a b).length=n at h0
 cases hn:n with
 | zero =>
   rw [hn] at h0
   obtain rfl:bb=true:=h0
   clear HBB
   subst hn
   go_wp2_with fail
   go_ret
   exact ⟨rfl,hb1⟩
 | succ m =>
   rw [hn] at h0
   obtain rfl:bb=false:=h0
   clear HBB
   subst hn
   have h1:¬ ((m+1:Nat):Int)=0:=by omega
   have h2:(((m+1:Nat):Int)==0)=false:=by simpa using h1
   go_wp2_with fail
   go_ret
   exact ⟨rfl,hb1⟩
set_option maxHeartbeats 1000000 in
theorem slEqual_same (v1 v2:Value) (xs:List Pr) (w:World) (hv1:SlE w cPr 2 v1 xs) (hv2:SlE w cPr 2 v2 xs) :
 Calls Tryd.prog 22 #[v1,v2] w fun e w'=>e=.returned (.bool true)/\Below w.heap.size w w':=by
 have H1:=Hd_ hv1
 have H2:=Hd_ hv2
 obtain ⟨A1,c1,rfl,hl1,hm1,-⟩:=hv1
 obtain ⟨A2,c2,rfl,hl2,hm2,-⟩:=hv2
 unfold maxLen at hm1 hm2
 go_enter Tryd.func22,Tryd.ntmps22
 go_wp2
 go_loopw [5,13] (fun j i wr=>∃ (k:Nat) (u:World),k<=xs.length/\i=.int .i64 k/\wr=ext w u) (fun _ i _=>xs.length - (intOf i).toNat)
 case atStart=>exact ⟨0,w,Nat.zero_le _,rfl,ext_self w⟩
 case round =>
  obtain ⟨k,u,hk,rfl,rfl⟩:=hrel
  by_cases hlt:k < xs.length
  · have hxk:xs[k]?=some xs[k]:=List.getElem?_eq_getElem hlt
    obtain ⟨b1,o1,rfl,⟨-,hb1⟩,c10,c11⟩:=H1.out.prA hxk
    obtain ⟨b2,o2,rfl,⟨-,hb2⟩,c20,c21⟩:=H2.out.prA hxk
    generalize xs[k]=x at c10 c11 c20 c21
    obtain ⟨xa,xb⟩:=x
    simp only at c10 c11 c20 c21
    have hii:(k:Int) < (xs.length:Int):=by omega
    have hneq:=neqPs xa xb
    clear hxk
    go_wp2
    refine wp_region_ext_lit (by kernel_rfl) (by kernel_rfl) ?_
    repeat (go_big_quiet_step (fail))
    refine wpQuiet_nil ?_
    rintro _ ⟨u2,rfl⟩
    go_wp2
    go_roundw
    case rel =>
     obtain ⟨y,hy⟩:=ext_ext w u u2
     exact ⟨k+1,y,by omega,by go_num,hy⟩
    case measure=>simp [intOf];omega
  · go_wp2
    go_ret
    exact ⟨rfl,ext_below _ _⟩
theorem implEqualPairs_same (v1 v2:Value) (xs:List Pr) (w:World) (hv1:SlE w cPr 2 v1 xs) (hv2:SlE w cPr 2 v2 xs) :
 Calls Tryd.prog 8 #[v1,v2] w fun e w'=>e=.returned (.bool true)/\Below w.heap.size w w':=by
 have H1:=Hd_ hv1
 have H2:=Hd_ hv2
 obtain ⟨A1,n1,c1,rfl⟩:=hv1.shape
 obtain ⟨A2,n2,c2,rfl⟩:=hv2.shape
 clear hv1 hv2
 go_enter Tryd.func8,Tryd.ntmps8
 go_wp2_with fail
 refine (slEqual_same _ _ xs _ H1.out H2.out).mono ?_
 rintro e w' ⟨rfl,hb⟩
 go_wp2_with fail
 go_ret
 exact ⟨rfl,hb⟩
theorem own_blk {W:World} {base k n:Nat} {e:TypeId} {v:Value} {cs:List Value} (h:W.ownsRow base e k v n cs) {b:Nat} (hb:v.ownBlock=some b):∃ c,v=.slice (some ⟨b,0,none⟩) n c:=by
 obtain ⟨_,hs⟩:=h
 rcases hs with ⟨rfl,_⟩ | ⟨g,cap,cur,rfl,_⟩
 · cases hb
 · injection hb with hb
   subst hb
   exact ⟨cap,rfl⟩
set_option maxHeartbeats 2000000 in
theorem pairSet_any (v:Value) (xs:List Pr) (w:World) (hv:SlE w cPr 2 v xs) (hn:xs.length<=1099511627776) :
 Calls Tryd.prog 18 #[v] w fun e w'=>∃ v',e=.returned v'/\Own w.heap.size w'.heap.size w' 30 cPr 2 v' (psetL xs)/\Below w.heap.size w w':=by
 have hv0:=hv
 obtain ⟨A,c,rfl,hl,hm,-⟩:=hv
 unfold maxLen at hm
 have hba:Below w.heap.size w (w.alloc (.cells #[] 30)):=(Below.refl _ _).alloc (Nat.le_refl _) _
 have hv1:=SlE.keep hv0 hba
 have hrow:=World.ownsRow_lit (base:=w.heap.size) (e:=30) (size:=2) w #[] 0 (Nat.le_refl _) (by decide) rfl
 obtain ⟨R,hR⟩:∃ R,R=psetL xs:=⟨_,rfl⟩
 rw [<- hR]
 have HRS:=Hd_ hR
 have HV:=Hd_ hv1
 have HR:=Hd_ hrow
 have HBA:=Hd_ hba
 clear hv0 hv1 hrow hR hba
 go_enter Tryd.func18,Tryd.ntmps18
 go_wp2_with (at_builtin;(refine wpList_appendL cPr elPair cPr_len cPr_one rfl _ _ rfl w.heap.size _ [] xs (by rfl) HR.out 0 _ _ (by rfl) HV.out (by simp;omega) (by omega) (by simp) ?_);intro v' w4 hrow' hgr4 hat4)
 simp only [List.nil_append] at hrow'
 have hb4:=HBA.out.trans (own_below HR.out (by simp) hgr4)
 have hob:∃ b,v'.ownBlock=some b:=by
  rcases hat4 with h | h
  · exact ⟨w.heap.size,h⟩
  · exact ⟨_,h⟩
 obtain ⟨g,hob⟩:=hob
 obtain ⟨c',rfl⟩:=own_blk hrow' hob
 have HS:=Hd_ (sortPairs_any w.heap.size g c' xs w4 hrow' (by omega))
 have HB4:=Hd_ hb4
 have hg1:=(hrow'.lt g rfl).1
 have hg2:=(hrow'.lt g rfl).2
 clear hrow' hgr4 hat4 hob hb4
 refine HS.out.mono ?_
 rintro e w5 ⟨rfl,ys,hyl,hym,hys,hrow5,hon5⟩
 have hset:=compTo_set hys hym
 rw [<- HRS.out] at hset
 rw [<- hyl] at hrow5
 have HC:=Hd_ (compactP_any w.heap.size g c' ys w5 hrow5 (by omega))
 rw [hset] at HC
 have HB5:=Hd_ (HB4.out.trans (hon5.below (B:=w.heap.size) hg1 (by omega)))
 have hs5:=hon5.size
 rw [<- hyl]
 clear hset hrow5 hon5 hys hym hyl HS
 go_wp2_with fail
 refine HC.out.mono ?_
 rintro e w6 ⟨m,rfl,hrow6,hon6⟩
 have HO:=Hd_ (Own.of_row (xs:=R) hrow6 rfl rfl)
 have HB6:=Hd_ (HB5.out.trans (hon6.below (B:=w.heap.size) hg1 (by omega)))
 clear hrow6 hon6
 go_wp2_with fail
 go_ret
 exact ⟨_,rfl,HO.out,HB6.out⟩
set_option maxHeartbeats 2000000 in
set_option maxRecDepth 100000 in
theorem specMerge (va vb:Value) (a b:List Pr) (w:World) (hva:SlE w cPr 2 va a) (hvb:SlE w cPr 2 vb b) (hna:a.length<=1048576) (hnb:b.length<=1048576) :
 Calls Tryd.prog 9 #[va,vb] w fun e w'=>∃ v',e=.returned v'/\Own w.heap.size w'.heap.size w' 30 cPr 2 v' (mergeL a b)/\Below w.heap.size w w':=by
 have hsa:=hva
 have hsb:=hvb
 obtain ⟨A,ca,rfl,hla,hma,-⟩:=hva
 obtain ⟨B,cb,rfl,hlb,hmb,-⟩:=hvb
 unfold maxLen at hma hmb
 obtain ⟨R,hR⟩:∃ R,R=mergeL a b:=⟨_,rfl⟩
 rw [<- hR]
 have HR:=Hd_ hR
 have HSA:=Hd_ hsa
 have HSB:=Hd_ hsb
 clear hR hsa hsb
 go_enter Tryd.func9,Tryd.ntmps9
 go_wp2_with fail
 go_loopw [5,6] (fun oo ii wr=>∃ i:Nat,i<=a.length/\ii=.int .i64 (i:Int)/\SetR w.heap.size wr oo (psetL (a.take i))/\Below w.heap.size w wr) (fun _ ii _=>a.length - (intOf ii).toNat)
 case atStart=>exact ⟨0,Nat.zero_le _,rfl,SetR.lit w _ (Nat.le_refl _),(Below.refl _ _).alloc (Nat.le_refl _) _⟩
 case round =>
  obtain ⟨i,hi,rfl,hset,hbel⟩:=hrel
  have HSET:=Hd_ hset
  have hsz:=hbel.size
  clear hset
  by_cases hlt:i < a.length
  · have hxi:a[i]?=some a[i]:=List.getElem?_eq_getElem hlt
    generalize a[i]=x at hxi
    obtain ⟨b',o,rfl,⟨-,hb⟩,d0,d1⟩:=HSA.out.prA hxi
    have d0:=kcell hbel d0
    have d1:=kcell hbel d1
    obtain ⟨xa,xb⟩:=x
    simp only at d0 d1
    have hbw:b' < wr.heap.size:=by omega
    have hii:(i:Int) < (a.length:Int):=by omega
    have HSN:=Hd_ (show psetL (a.take (i+1))=putP (psetL (a.take i)) (xa,xb) from by rw [take_snoc hxi,psetL_snoc])
    have hpl:(psetL (a.take i)).length<=2097152:=Nat.le_trans (psetL_len _) (by simp only [List.length_append,List.length_take];omega)
    clear hxi
    generalize psetL (a.take i)=L at *
    have HP:=Hd_ (l15Put_any _ w.heap.size L (xa,xb) wr HSET.out hsz (by omega))
    go_wp2_with fail
    refine HP.out.mono ?_
    rintro e w4 ⟨v4,rfl,hs4,hb4⟩
    have HS4:=Hd_ hs4
    have HB4:=Hd_ (hbel.trans (hb4.mono hsz))
    clear hs4 hb4
    go_wp2_with fail
    go_roundw
    case rel=>exact ⟨i+1,by omega,by go_num,by rw [HSN.out];exact HS4.out,HB4.out⟩
    case measure=>simp [intOf];omega
  · obtain rfl:i=a.length:=by omega
    rw [List.take_length] at HSET
    go_wp2_with fail
    go_loopw [5,7] (fun oo ii wr=>∃ i:Nat,i<=b.length/\ii=.int .i64 (i:Int)/\SetR w.heap.size wr oo (psetL (a ++ b.take i))/\Below w.heap.size w wr) (fun _ ii _=>b.length - (intOf ii).toNat)
    case atStart=>exact ⟨0,Nat.zero_le _,rfl,by rw [List.take_zero,List.append_nil];exact HSET.out,hbel⟩
    case round =>
     obtain ⟨i,hi,rfl,hset,hbel⟩:=hrel
     have HSET:=Hd_ hset
     have hsz:=hbel.size
     clear hset
     by_cases hlt:i < b.length
     · have hxi:b[i]?=some b[i]:=List.getElem?_eq_getElem hlt
       generalize b[i]=x at hxi
       obtain ⟨b',o,rfl,⟨-,hb⟩,d0,d1⟩:=HSB.out.prA hxi
       have d0:=kcell hbel d0
       have d1:=kcell hbel d1
       obtain ⟨xa,xb⟩:=x
       simp only at d0 d1
       have hbw:b' < wr.heap.size:=by omega
       have hii:(i:Int) < (b.length:Int):=by omega
       have HSN:=Hd_ (show psetL (a ++ b.take (i+1))=putP (psetL (a ++ b.take i)) (xa,xb) from by rw [take_snoc hxi,<- List.append_assoc,psetL_snoc])
       have hpl:(psetL (a ++ b.take i)).length<=2097152:=Nat.le_trans (psetL_len _) (by simp only [List.length_append,List.length_take];omega)
       clear hxi
       generalize psetL (a ++ b.take i)=L at *
       have HP:=Hd_ (l15Put_any _ w.heap.size L (xa,xb) wr HSET.out hsz (by omega))
       go_wp2_with fail
       refine HP.out.mono ?_
       rintro e w4 ⟨v4,rfl,hs4,hb4⟩
       have HS4:=Hd_ hs4
       have HB4:=Hd_ (hbel.trans (hb4.mono hsz))
       clear hs4 hb4
       go_wp2_with fail
       go_roundw
       case rel=>exact ⟨i+1,by omega,by go_num,by rw [HSN.out];exact HS4.out,HB4.out⟩
       case measure=>simp [intOf];omega
     · obtain rfl:i=b.length:=by omega
       rw [List.take_length] at HSET
       have HO:=Hd_ (show Own w.heap.size wr.heap.size wr 30 cPr 2 _ R from by rw [HR.out];exact HSET.out.own)
       obtain ⟨g,c',rfl,-⟩:=HSET.out
       go_wp2_with fail
       go_ret
       exact ⟨_,rfl,HO.out,hbel⟩
set_option maxHeartbeats 2000000 in
set_option maxRecDepth 100000 in
theorem implMerge (va vb:Value) (a b:List Pr) (w:World) (hva:SlE w cPr 2 va a) (hvb:SlE w cPr 2 vb b) (hna:a.length<=1048576) (hnb:b.length<=1048576) :
 Calls Tryd.prog 6 #[va,vb] w fun e w'=>∃ v',e=.returned v'/\Own w.heap.size w'.heap.size w' 30 cPr 2 v' (mergeL a b)/\Below w.heap.size w w':=by
 have hsa:=hva
 have hsb:=hvb
 obtain ⟨A,ca,rfl,hla,hma,-⟩:=hva
 obtain ⟨B,cb,rfl,hlb,hmb,-⟩:=hvb
 unfold maxLen at hma hmb
 have hba:Below w.heap.size w (w.alloc (.cells #[] 30)):=(Below.refl _ _).alloc (Nat.le_refl _) _
 have hv1:=SlE.keep hsa hba
 have hrow:=World.ownsRow_lit (base:=w.heap.size) (e:=30) (size:=2) w #[] 0 (Nat.le_refl _) (by decide) rfl
 obtain ⟨R,hR⟩:∃ R,R=mergeL a b:=⟨_,rfl⟩
 rw [<- hR]
 have HRS:=Hd_ hR
 have HV:=Hd_ hv1
 have HSB:=Hd_ hsb
 have HR:=Hd_ hrow
 have HBA:=Hd_ hba
 clear hsa hsb hv1 hrow hR hba
 go_enter Tryd.func6,Tryd.ntmps6
 go_wp2_with (first | (at_builtin;(refine wpList_appendL cPr elPair cPr_len cPr_one rfl _ _ rfl w.heap.size _ [] a (by rfl) HR.out 0 _ _ (by rfl) HV.out (by simp;omega) (by omega) (by simp) ?_);intro v1 w1 hrow1 hgr1 hat1;simp only [List.nil_append] at hrow1;have hb1:=HBA.out.trans (own_below HR.out (by simp) hgr1);have HR1:=Hd_ hrow1;have HB1:=Hd_ hb1;have HV1:=Hd_ (SlE.keep HSB.out hb1);have hz1:=hb1.size;clear hrow1 hgr1 hat1 hb1) | (at_builtin;(refine wpList_appendL cPr elPair cPr_len cPr_one rfl _ _ rfl w.heap.size _ a b (by rfl) HR1.out 0 _ _ (by rfl) HV1.out (by omega) (by omega) hz1 ?_);intro v2 w2 hrow2 hgr2 hat2))
 have hb2:=HB1.out.trans (own_below HR1.out hz1 hgr2)
 have hz2:=hb2.size
 have hp:=pairSet_any v2 (a ++ b) w2 (((Own.of_row (xs:=a ++ b) hrow2 rfl rfl).sl cPr_len).all (Nat.le_refl _)) (by simp only [List.length_append];omega)
 rw [show psetL (a ++ b)=R from HRS.out.symm] at hp
 have HP:=Hd_ hp
 have HB2:=Hd_ hb2
 clear hp hb2 hrow2 hgr2 hat2
 refine HP.out.mono ?_
 rintro e w5 ⟨v5,rfl,ho5,hb5⟩
 have HO:=Hd_ (ho5.mono hz2 (Nat.le_refl _))
 have HB:=Hd_ (below_trans HB2.out hb5)
 obtain ⟨A9,n9,c9,rfl⟩:=ho5.shape
 clear ho5 hb5
 go_wp2_with fail
 go_ret
 exact ⟨_,rfl,HO.out,HB.out⟩
end Go.Proofs.YtloeghbhoflabaaDoor
