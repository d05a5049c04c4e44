/- Parts of the proof, joined into one text: ParE, KnoE, AnyA, AnyB, DrwN, DrwA, PairD. -/
import Derived.Test.YteaplabkemoenaaGreatOnlzLPLCAEAG
import Derived.Test.YteaplabkemoenaaGreatOnlzKIKFHLPI
import Derived.RegionTactic
import Derived.BigRegion
set_option linter.unusedVariables false
set_option linter.unusedSimpArgs false
namespace Go.Proofs.YteaplabkemoenaaGreat
open Go.ChangeShapes Go.WideShapes Go.ChangeAt Go.RowKit
attribute [local go_sem] ext_cell ext_frozen ext_lt ext_lt1 ext_lt2 ext_lt3 ltn2 ltn3 ltn13 lts1 lts2 lts3
def cS (s:ByteArray):List Value:=[.string s]
theorem cS_len (x:ByteArray):(cS x).length=1:=rfl
theorem cS_one (x:ByteArray):∀ u ∈ cS x,u.oneCell'=true:=by intro u hu;simp only [cS,List.mem_cons,List.not_mem_nil,or_false] at hu;subst hu;rfl
theorem elStr:ElemOk Tryz.prog 166 9 (.string ⟨#[]⟩) 1 16:=⟨Tryz.underlying166,by kernel_rfl,rfl,by omega⟩
theorem kcell_own {w w':World} {base k n:Nat} {e:TypeId} {v:Value} {cs:List Value} (hg:w.grownBy w' v.ownBlock) (h:w.ownsRow base e k v n cs) {p:Addr} {u:Value} (hc:w.cell? p=some u) (hp:p.block < base):w'.cell? p=some u :=
 hg.cell hc (fun e=>by have:=(h.lt p.block e.symm).1;omega)
set_option maxHeartbeats 4000000 in
theorem l2Cut_any (s:ByteArray) (w:World) (hs:s.size<=1000) :
 Calls Tryz.prog 121 #[.string s,.int .u8 32] w fun e w'=>∃ v L,e=.returned v/\Own w.heap.size w'.heap.size w' 9 cS 1 v L/\(L.length<=1001/\∀ x ∈ L,x.size<=maxLen)/\Below w.heap.size w w':=by
 have hal:=(Below.refl w.heap.size w).alloc (Nat.le_refl _) (.cells #[] 9)
 have hrl:=World.ownsRow_lit (base:=w.heap.size) (e:=9) (size:=1) w #[] 0 (Nat.le_refl _) (by decide) rfl
 go_enter Tryz.func121,Tryz.ntmps121
 go_wp2
 go_loopw [5,6,7] (fun oo ff ii wr=>∃ (i f:Nat) (L:List ByteArray),i<=s.size/\f<=i/\L.length<=i/\(∀ x ∈ L,x.size<=maxLen)/\ff=.int .i64 (f:Int)/\ii=.int .i64 (i:Int)/\wr.ownsRow w.heap.size 9 1 oo L.length (L.flatMap cS)/\Below w.heap.size w wr) (fun _ _ ii _=>s.size - (intOf ii).toNat)
 case atStart=>exact ⟨0,0,[],by omega,by omega,by simp,by simp,rfl,rfl,hrl,hal⟩
 case round =>
  obtain ⟨i,f,L,hi,hf,hL,hx,rfl,rfl,hrow,hb⟩:=hrel
  obtain ⟨A,n,c,rfl⟩:=rowShape hrow
  have HX:=Hd_ hx
  have HR:=Hd_ hrow
  have HB:=Hd_ hb
  clear hx hrow hb hal hrl
  by_cases hlt:i < s.size
  · have hii:(i:Int) < (s.size:Int):=by omega
    cases hc:((s[i].toNat:Int)==32)
    · go_wp2_with fail
      go_roundw
      case rel=>exact ⟨i+1,f,L,by omega,by omega,by omega,HX.out,rfl,by go_num,HR.out,HB.out⟩
      case measure=>simp [intOf];omega
    · go_wp2_with (at_builtin;(refine wpList_append2 cS elStr rfl _ _ (by rfl) w.heap.size _ L (s.extract f i) 1 _ (by rfl) (HR.out.alloc _) (by rfl) (heap_alloc_new _ _) rfl (cS_one _) (by omega) (by omega) (by have:=HB.out.size;simp;omega) ?_);intro g2 cp2 w9 hown3 hgr3 hat3 hlt3;have HR9:=Hd_ hown3;have HB9:=Hd_ ((HB.out.alloc HB.out.size (.cells #[.string (s.extract f i)] 9)).trans (own_below (HR.out.alloc (.cells #[.string (s.extract f i)] 9)) (by have:=HB.out.size;simp;omega) hgr3));clear hown3 hgr3 hat3)
      have hxs:(s.extract f i).size<=maxLen:=by rw [ByteArray.size_extract];unfold maxLen;omega
      have HXS:=Hd_ hxs
      clear hxs
      go_roundw
      case rel=>exact ⟨i+1,i+1,L ++ [s.extract f i],by omega,by omega,by simp;omega,fun x hx=>by rcases List.mem_append.1 hx with h | h;exact HX.out x h;rw [List.mem_singleton] at h;rw [h];exact HXS.out,by go_num,by go_num,HR9.out,HB9.out⟩
      case measure=>simp [intOf];omega
  · obtain rfl:i=s.size:=by omega
    go_wp2_with (at_builtin;(refine wpList_append2 cS elStr rfl _ _ (by rfl) w.heap.size _ L (s.extract f s.size) 1 _ (by rfl) (HR.out.alloc _) (by rfl) (heap_alloc_new _ _) rfl (cS_one _) (by omega) (by omega) (by have:=HB.out.size;simp;omega) ?_);intro g2 cp2 w9 hown3 hgr3 hat3 hlt3;have HR9:=Hd_ hown3;have HB9:=Hd_ ((HB.out.alloc HB.out.size (.cells #[.string (s.extract f s.size)] 9)).trans (own_below (HR.out.alloc (.cells #[.string (s.extract f s.size)] 9)) (by have:=HB.out.size;simp;omega) hgr3));clear hown3 hgr3 hat3)
    have hxs:(s.extract f s.size).size<=maxLen:=by rw [ByteArray.size_extract];unfold maxLen;omega
    go_ret
    exact ⟨_,L ++ [s.extract f s.size],rfl,Own.of_row HR9.out rfl rfl,⟨by simp;omega,fun x hx=>by rcases List.mem_append.1 hx with h | h;exact HX.out x h;rw [List.mem_singleton] at h;rw [h];exact hxs⟩,HB9.out⟩
/-- an expression that is being read: in the block behind the result's -/
structure PaR (w0 w1 w:World) (ss:Value) (T:List Tok):Prop where
 res:Blk w w0.heap.size 134 #[.slice none 0 0]
 blk:Blk w (w0.heap.size+1) 134 #[ss]
 row:w.ownsRow w1.heap.size 147 4 ss T.length (T.flatMap cEd)
 only:Only (w0.heap.size+1) (w0.heap.size+2) w1 w
 base:Below w0.heap.size w0 w1
 le:w0.heap.size+2<=w1.heap.size
theorem PaR.below {w0 w1 w w':World} {ss:Value} {T:List Tok} (h:PaR w0 w1 w ss T) (hb:Below w.heap.size w w'):PaR w0 w1 w' ss T :=
 ⟨h.res.keep hb,h.blk.keep hb,ownsRow_below h.row hb (Nat.le_refl _),h.only.trans (Only.of_below hb _ _),h.base,h.le⟩
theorem PaR.push {w0 w1 w w':World} {ss:Value} {T T':List Tok} {g n c:Nat} (h:PaR w0 w1 w ss T) (hr:w'.ownsRow w1.heap.size 147 4 (.slice (some ⟨g,0,none⟩) n c) T'.length (T'.flatMap cEd)) (hg:w.grownBy w' ss.ownBlock) :
 Blk w' (w0.heap.size+1) 134 #[ss]/\PaR w0 w1 (w'.setCell ⟨w0.heap.size+1,0,none⟩ (.slice (some ⟨g,0,none⟩) n c)) (.slice (some ⟨g,0,none⟩) n c) T':=by
 have hl:=h.le
 have hb:=own_below h.row h.only.size hg
 have hgl:=(hr.lt g rfl).1
 have hbq:=h.blk.below hb (by omega)
 exact ⟨hbq,(h.res.below hb (by omega)).far (by simp only;omega) _,hbq.set_ 0 _,ownsRow_block hr (fun g' hg'=>by cases hg';exact Below.heap_setCell w' ⟨w0.heap.size+1,0,none⟩ _ g (by simp only;omega)),(h.only.andBelow hb (Nat.le_refl _)).setCell (p:=⟨w0.heap.size+1,0,none⟩) (.inl (by simp only;omega)) _,h.base,hl⟩
theorem PaR.done {w0 w1 w:World} {ss:Value} {T:List Tok} (h:PaR w0 w1 w ss T) :
 TkV w0.heap.size (w.setCell ⟨w0.heap.size,0,none⟩ ss).heap.size (w.setCell ⟨w0.heap.size,0,none⟩ ss) (.agg #[ss]) T/\T.length<=T.length/\Below w0.heap.size w0 (w.setCell ⟨w0.heap.size,0,none⟩ ss):=by
 have hl:=h.le
 have ho:=(Only.refl w0.heap.size (w0.heap.size+1) w).setCell (p:=⟨w0.heap.size,0,none⟩) (.inl ⟨Nat.le_refl _,Nat.lt_succ_self _⟩) ss
 exact ⟨⟨ss,rfl,(((Own.of_row (xs:=T) h.row rfl rfl).only ho (.inr (by omega))).sl cEd_len).mono (by omega) ho.size⟩,Nat.le_refl _,(h.base.trans (h.only.below (by omega) (by omega))).setCell (p:=⟨w0.heap.size,0,none⟩) (Nat.le_refl _) _⟩
theorem PaR.off {w0 w1 w:World} {ss:Value} {T:List Tok} (h:PaR w0 w1 w ss T) :
 TkV w0.heap.size (w.setCell ⟨w0.heap.size,0,none⟩ (.slice none 0 0)).heap.size (w.setCell ⟨w0.heap.size,0,none⟩ (.slice none 0 0)) (.agg #[.slice none 0 0]) []/\([]:List Tok).length<=100/\Below w0.heap.size w0 (w.setCell ⟨w0.heap.size,0,none⟩ (.slice none 0 0)) :=
 ⟨TkV.nil _ _ _,by simp,(h.base.trans (h.only.below (by omega) (by have:=h.base.size;omega))).setCell (p:=⟨w0.heap.size,0,none⟩) (Nat.le_refl _) _⟩
theorem PaR.view {w0 w1 w:World} {ss:Value} {T:List Tok} (h:PaR w0 w1 w ss T):SlE w cEd 4 ss T:=((Own.of_row (xs:=T) h.row rfl rfl).sl cEd_len).mono (Nat.zero_le _) (Nat.le_refl _)
set_option maxHeartbeats 8000000 in
theorem parseExpr_any (s:ByteArray) (w:World) (hs:s.size<=1000) :
 Calls Tryz.prog 110 #[.string s] w fun e w'=>∃ v l is,e=.returned (.tuple #[v,.bool is])/\(TkV w.heap.size w'.heap.size w' v l/\l.length<=100/\Below w.heap.size w w'):=by
 have hb0:=((Below.refl w.heap.size w).alloc (Nat.le_refl _) (.cells #[.slice none 0 0] 134)).alloc (by simp) (.cells #[.slice none 0 0] 134)
 have b1:=(Blk.new w 134 #[.slice none 0 0] _ rfl).alloc (.cells #[.slice none 0 0] 134)
 have b2:=Blk.new (w.alloc (.cells #[.slice none 0 0] 134)) 134 #[.slice none 0 0] (w.heap.size+1) (by simp)
 have hs0:((w.alloc (.cells #[.slice none 0 0] 134)).alloc (.cells #[.slice none 0 0] 134)).heap.size=w.heap.size+2:=by simp
 go_enter Tryz.func110,Tryz.ntmps110
 go_wp2_with fail
 generalize ((w.alloc (.cells #[.slice none 0 0] 134)).alloc (.cells #[.slice none 0 0] 134))=W0 at *
 refine (l2Cut_any s _ hs).mono ?_
 rintro e w1 ⟨v1,L,rfl,hoL,⟨hL,hxL⟩,hb1⟩
 have hc1:=b1.keep hb1
 have hc2:=b2.keep hb1
 have hbw:=below_trans hb0 hb1
 have hsz:=hb1.size
 rw [hs0] at hoL hsz
 obtain ⟨AL,cL,rfl,hlL,hmL,hxx⟩:=hoL.sl cS_len
 unfold maxLen at hmL
 obtain ⟨n,hn⟩:∃ n,n=L.length:=⟨_,rfl⟩
 rw [<- hn] at hL hlL ⊢
 have HN:=Hd_ hn
 have HXX:=Hd_ hxx
 have HXL:=Hd_ hxL
 clear hoL hxx hxL hb0 hb1 b1 b2 hs0 hn
 go_wp2_with fail
 have HP0:=Hd_ (show PaR w w1 w1 (.slice none 0 0) [] from ⟨hc1,hc2,World.ownsRow_nil _ _ _ 4,Only.refl _ _ _,hbw,hsz⟩)
 clear hc1 hc2 hbw hsz
 go_loopw [6] (fun ii wr=>∃ (i:Nat) (ss:Value) (T:List Tok),i<=25/\ii=.int .i64 (i:Int)/\T.length=i/\PaR w w1 wr ss T) (fun ii _=>30 - (intOf ii).toNat)
 case atStart=>exact ⟨0,_,[],by omega,rfl,rfl,HP0.out⟩
 case round =>
  obtain ⟨i,ss,T,hi,rfl,hT,hP⟩:=hrel
  have HT:=Hd_ hT
  have hTl:T.length<=25:=by omega
  obtain ⟨A3,n3,c3,rfl⟩:=rowShape hP.row
  have HP:=Hd_ hP
  have x0:wr.cell? ⟨w.heap.size+1,0,none⟩=some (.slice A3 n3 c3):=hP.blk.cell 0
  clear hT hP HP0
  by_cases hlt:i < n
  · have hin:(i:Int) < (n:Int):=by omega
    by_cases h24:i<=24
    · have hi24:(i:Int)<=24:=by omega
      have hxi:L[i]?=some L[i]:=List.getElem?_eq_getElem (by have:=HN.out;omega)
      obtain ⟨q,o,rfl,hq0,hq1,hcc⟩:=HXX.out i _ hxi
      have hxs:=HXL.out _ (List.mem_of_getElem? hxi)
      generalize L[i]=x at hcc hxs
      have e0:=(HP.out.only.cell (p:=⟨q,o+i * 1+0,none⟩) hq1 (.inr (by simp only;omega))).trans (hcc 0 _ rfl)
      simp only [Nat.add_zero,Nat.mul_one] at e0
      have HXS:=Hd_ hxs
      clear hcc hxi hxs
      go_wp2_with fail
      refine F_start 10 (fun w'=>w'.cell? ⟨w.heap.size+1,0,none⟩=some (.slice A3 n3 c3)/\w'.cell? ⟨q,o+i,none⟩=some (.string x)) (by kernel_rfl) (by exact ⟨x0,e0⟩) (fun hS inv=>?_)
      refine F_tk 0 inv ?_
      try simp only [tA,tB,tC,Act.put,tE,tF,tG]
      clear inv;intro inv
      refine F_tk 1 inv ?_
      try simp only [tA,tB,tC,Act.put,tE,tF,tG]
      clear inv;intro inv
      refine F_tk 2 inv ?_
      try simp only [tA,tB,tC,Act.put,tE,tF,tG]
      clear inv;intro inv
      refine F_tk 3 inv ?_
      try simp only [tA,tB,tC,Act.put,tE,tF,tG]
      clear inv;intro inv
      refine F_tk 4 inv ?_
      try simp only [tA,tB,tC,Act.put,tE,tF,tG]
      clear inv;intro inv
      refine F_tk 5 inv ?_
      try simp only [tA,tB,tC,Act.put,tE,tF,tG]
      clear inv;intro inv
      have HPd:=Hd_ (HP.out.below ((Below.refl _ _).drew))
      clear HP x0 e0
      refine F_o1 6 inv ?_;intro K hK
      try simp only [tA,tB,tC]
      go_simp
      refine (l8Read_any x _ HXS.out).mono ?_
      rintro e w2 ⟨⟨t0,t1,t2,t3⟩,rfl,hb2⟩
      have HP2:=Hd_ (HPd.out.below hb2)
      refine hK.out _ _ (⟨HP2.out.blk.cell 0,kcell hb2 hS.2⟩) (fun _ _=>?_)
      try simp only [tA,tB,tC,Act.put,tE,tF,tG]
      clear hK K inv hS;rename_i hS inv
      clear HPd
      refine F_o1 7 inv ?_;intro K hK
      try simp only [tA,tB,tC]
      go_simp
      have hal:=(Below.refl w2.heap.size w2).alloc (Nat.le_refl _) (.cells #[.int .i64 t0,.int .i64 t1,.int .i64 t2,.int .i64 t3] 147)
      have HP3:=Hd_ (HP2.out.below hal)
      refine hK.out _ _ (⟨HP3.out.blk.cell 0,kcell hal hS.2⟩) (fun _ _=>?_)
      try simp only [tA,tB,tC,Act.put,tE,tF,tG]
      clear hK K inv hS;rename_i hS inv
      clear HP2 hal
      refine F_o1 8 inv ?_;intro K hK
      try simp only [tA,tB,tC]
      refine op_append1 cEd elTok rfl _ _ (by rfl) w1.heap.size _ T (t0,t1,t2,t3) 1 _ (by rfl) HP3.out.row (by first | rfl | simp) (heap_alloc_new _ _) rfl (cEd_one _) (by omega) (by omega) HP3.out.only.size ?_
      intro g2 cp2 w9 hown3 hgr3 hat3 hlt3
      have HQ:=Hd_ (HP3.out.push hown3 hgr3)
      have hq3:w9.cell? ⟨q,o+i,none⟩=some (.string x):=kcell_own hgr3 HP3.out.row hS.2 (by simp only;omega)
      clear hown3 hgr3 hat3
      refine hK.out _ _ (⟨HQ.out.1.cell 0,hq3⟩) (fun _ _=>?_)
      try simp only [tA,tB,tC,Act.put,tE,tF,tG]
      clear hK K inv hS;rename_i hS inv
      clear hq3
      refine F_tk 9 inv ?_
      try simp only [tA,tB,tC,Act.put,tE,tF,tG]
      clear inv;intro inv
      have f0:=HQ.out.1.frozen 0
      have hlq:=HQ.out.1.lt
      refine F_l1 10 ?_;intro K hK
      go_simp
      refine hK _ _ ?_
      clear hK K inv hS
      have HQ2:=Hd_ HQ.out.2
      clear HQ f0 hlq HP3
      go_wp2_with fail
      go_roundw
      case rel=>exact ⟨i+1,_,_,by omega,by go_num,by simp [HT.out],HQ2.out⟩
      case measure=>simp [intOf];omega
    · have hi24:¬ (i:Int)<=24:=by omega
      go_wp2_with fail
      refine (isValidExpr_any _ T _ HP.out.view).mono ?_
      rintro e w9 ⟨rfl,hb9⟩
      generalize okE T=ok
      have HP9:=Hd_ (HP.out.below hb9)
      clear hb9 x0 HP
      have x0:w9.cell? ⟨w.heap.size+1,0,none⟩=some (.slice A3 n3 c3):=HP9.out.blk.cell 0
      have z0:w9.cell? ⟨w.heap.size,0,none⟩=some (.slice none 0 0):=HP9.out.res.cell 0
      have v0:=HP9.out.res.frozen 0
      have hlr:=HP9.out.res.lt
      cases ok
      · go_wp2_with fail
        exact bodyPost_ret (v:=.tuple #[.agg #[.slice none 0 0],.bool false]) (by simp [results,Tryz.results110,go_sem,z0,v0,hlr]) rfl ⟨_,[],_,rfl,HP9.out.off⟩
      · go_wp2_with fail
        have HD:=HP9.out.done
        exact bodyPost_ret (v:=.tuple #[.agg #[.slice A3 n3 c3],.bool true]) (by simp [results,Tryz.results110,go_sem,z0,v0,hlr]) rfl ⟨_,T,_,rfl,HD.1,by omega,HD.2.2⟩
  · have hin:¬ (i:Int) < (n:Int):=by omega
    go_wp2_with fail
    refine (isValidExpr_any _ T _ HP.out.view).mono ?_
    rintro e w9 ⟨rfl,hb9⟩
    generalize okE T=ok
    have HP9:=Hd_ (HP.out.below hb9)
    clear hb9 x0 HP
    have x0:w9.cell? ⟨w.heap.size+1,0,none⟩=some (.slice A3 n3 c3):=HP9.out.blk.cell 0
    have z0:w9.cell? ⟨w.heap.size,0,none⟩=some (.slice none 0 0):=HP9.out.res.cell 0
    have v0:=HP9.out.res.frozen 0
    have hlr:=HP9.out.res.lt
    cases ok
    · go_wp2_with fail
      exact bodyPost_ret (v:=.tuple #[.agg #[.slice none 0 0],.bool false]) (by simp [results,Tryz.results110,go_sem,z0,v0,hlr]) rfl ⟨_,[],_,rfl,HP9.out.off⟩
    · go_wp2_with fail
      have HD:=HP9.out.done
      exact bodyPost_ret (v:=.tuple #[.agg #[.slice A3 n3 c3],.bool true]) (by simp [results,Tryz.results110,go_sem,z0,v0,hlr]) rfl ⟨_,T,_,rfl,HD.1,by omega,HD.2.2⟩
def strOk (v:Value):Bool:=match v with | .string s=>decide (s.size<=1000) | _=>false
theorem strOk_of {v:Value} (h:strOk v=true):∃ s,v=.string s/\s.size<=1000:=by
 unfold strOk at h
 split at h
 · exact ⟨_,rfl,by simpa using h⟩
 · cases h
set_option maxHeartbeats 1000000 in
/-- a text picked out of a list that was just laid -/
theorem l1Pick_lit (b n:Nat) (cs:Array Value) (e:TypeId) (w:World) (hc:Cur w b) (hn:0 < n) (hm:n<=1000) (hcs:cs.size=n) (hall:cs.toList.all strOk=true) :
 Calls Tryz.prog 111 #[.pointer (some ⟨b,0,none⟩),.slice (some ⟨w.heap.size,0,none⟩) n n] (w.alloc (.cells cs e)) fun e' w'=>∃ r,e'=.returned (.string r)/\r.size<=1000/\Cur w' b/\Only b (b+1) (w.alloc (.cells cs e)) w':=by
 have hlt:=hc.lt
 have hal:=(Below.refl w.heap.size w).alloc (Nat.le_refl _) (.cells cs e)
 have hbk:=Blk.new w e cs _ rfl
 have HALL:=Hd_ hall
 have HCS:=Hd_ hcs
 have HC:=Hd_ (hc.keep hal)
 generalize hW:w.alloc (.cells cs e)=W at *
 clear hall hcs hal hW hc
 go_enter Tryz.func111,Tryz.ntmps111
 go_wp2_with fail
 refine (l1Below_any b _ _ HC.out).mono ?_;rintro e1 w1 ⟨r,rfl,⟨h0,-,h1⟩,hc1,ho1⟩
 have h1:=h1 (by omega)
 obtain ⟨i,rfl⟩:=Int.eq_ofNat_of_zero_le h0
 have hi:i < cs.size:=by have:=HCS.out;omega
 have hbk1:=hbk.only ho1 (.inr (by omega))
 have hci:=hbk1.cell i
 rw [Array.getElem?_eq_getElem hi] at hci
 obtain ⟨s,hs,hs2⟩:=strOk_of (List.all_eq_true.1 HALL.out cs[i] (by simp))
 rw [hs] at hci
 have HS2:=Hd_ hs2
 clear hs hs2 hbk hbk1
 go_wp2_with fail
 go_ret
 exact ⟨_,rfl,HS2.out,hc1,ho1⟩
set_option maxRecDepth 100000 in
set_option maxHeartbeats 4000000 in
theorem l8Known_any (b:Nat) (w:World) (hc:Cur w b) :
 Calls Tryz.prog 98 #[.pointer (some ⟨b,0,none⟩)] w fun e w'=>∃ v l,e=.returned v/\TkV w.heap.size w'.heap.size w' v l/\l.length<=100/\Cur w' b/\Only b (b+1) w w':=by
 have hlt:=hc.lt
 have hb0:=(Below.refl w.heap.size w).alloc (Nat.le_refl _) (.cells #[.slice none 0 0] 134)
 have hbr:=Blk.new w 134 #[.slice none 0 0] _ rfl
 go_enter Tryz.func98,Tryz.ntmps98
 go_upto_region 1 with fail
 generalize w.alloc (.cells #[.slice none 0 0] 134)=W0 at *
 go_wp2_with fail
 refine (l1Pick_lit b _ _ _ _ (hc.keep hb0) (by decide) (by decide) (by rfl) (by kernel_rfl)).mono ?_
 rintro e w1 ⟨s,rfl,hs1,hc1,ho1⟩
 have hbr1:=(hbr.alloc _).only ho1 (.inr (by omega))
 have HO1:=Hd_ (((Only.of_below hb0 b (b+1)).alloc _).trans ho1)
 have hl1:=hbr1.lt
 have HC1:=Hd_ hc1
 clear ho1 hbr hb0 hc1
 go_wp2_with fail
 refine (parseExpr_any s _ hs1).mono ?_
 rintro e w2 ⟨v,l,is,rfl,hv,hl,hb2⟩
 obtain ⟨ss,rfl,hsv⟩:=hv
 obtain ⟨A,n,c,rfl⟩:=hsv.shape
 have hal:=(Below.refl w2.heap.size w2).alloc (Nat.le_refl _) (.cells #[.slice A n c] 134)
 have hbA:=below_trans hb2 hal
 have hbr2:=hbr1.keep hbA
 have HT:=Hd_ (show TkV (w.heap.size+1) _ _ (.agg #[.slice A n c]) l from ⟨_,rfl,(hsv.below hal (Nat.le_refl _)).mono (by omega) hal.size⟩)
 have HC2:=Hd_ (HC1.out.keep hbA)
 have HO2:=Hd_ (HO1.out.trans (Only.of_below hbA b (b+1)))
 have hbn:=Blk.new w2 134 #[.slice A n c] _ rfl
 have HL:=Hd_ hl
 clear hsv hbA hb2 hal hbr1 hl hs1
 go_upto_region 2 with fail
 generalize w2.alloc (.cells #[.slice A n c] 134)=W2 at *
 have x0:W2.cell? ⟨w2.heap.size,0,none⟩=some (.slice A n c):=hbn.cell 0
 have z0:W2.cell? ⟨w.heap.size,0,none⟩=some (.slice none 0 0):=hbr2.cell 0
 have v0:=hbr2.frozen 0
 have hlr:=hbr2.lt
 clear hbn hbr2
 go_wp2_with fail
 have HD:=tk_done HT.out HC2.out HO2.out rfl hlt (.slice A n c)
 exact bodyPost_ret (v:=.agg #[.slice A n c]) (by simp [results,Tryz.results98,go_sem,z0,v0,hlr]) rfl ⟨_,l,rfl,HD.1,HL.out,HD.2.1,HD.2.2⟩
set_option maxHeartbeats 4000000 in
theorem l8Expr_any (b:Nat) (w:World) (hc:Cur w b) :
 Calls Tryz.prog 85 #[.pointer (some ⟨b,0,none⟩)] w fun e w'=>∃ v l,e=.returned v/\TkV w.heap.size w'.heap.size w' v l/\l.length<=100/\Cur w' b/\Only b (b+1) w w':=by
 have hlt:=hc.lt
 have hb0:=(Below.refl w.heap.size w).alloc (Nat.le_refl _) (.cells #[.slice none 0 0] 134)
 have hbr:=Blk.new w 134 #[.slice none 0 0] _ rfl
 go_enter Tryz.func85,Tryz.ntmps85
 go_wp2_with fail
 refine (l1Once_any b 2 _ (hc.keep hb0)).mono ?_
 rintro e w1 ⟨r,rfl,hc1,ho1⟩
 have hbr1:=hbr.only ho1 (.inr (by omega))
 have hl1:=hbr1.lt
 have HO1:=Hd_ ((Only.of_below hb0 b (b+1)).trans ho1)
 clear hbr ho1 hb0
 cases r
 · go_wp2_with fail
   refine (l1Below_any b 3 _ hc1).mono ?_
   rintro e w2 ⟨k,rfl,⟨hk0,-,hk1⟩,hc2,ho2⟩
   have hk1:=hk1 (by omega)
   obtain ⟨k,rfl⟩:=Int.eq_ofNat_of_zero_le hk0
   have hbr2:=hbr1.only ho2 (.inr (by omega))
   have HO2:=Hd_ (HO1.out.trans ho2)
   have hl2:=hbr2.lt
   clear ho2 hbr1 hc1
   go_wp2_with fail
   have hmk:=l8Make_any b (1+k) _ hc2 (by omega)
   rw [show (((1+k:Nat)):Int)=1+(k:Int) by omega] at hmk
   refine hmk.mono ?_
   rintro e w3 ⟨v,l,rfl,ht,hl3,hc3,ho3⟩
   have HB3:=Hd_ (hbr2.only ho3 (.inr (by omega)))
   have HO3:=Hd_ (HO2.out.trans ho3)
   have HC3:=Hd_ hc3
   have HT3:=Hd_ (ht.mono (lo':=w.heap.size+1) (by omega) (Nat.le_refl _))
   have hp:(2:Nat) ^ (1+k+1)<=2 ^ 4:=Nat.pow_le_pow_right (by decide) (by omega)
   have HL:=Hd_ (show l.length<=100 by simp at hp;omega)
   clear hbr2 hc3 ht ho3 hmk hp hl3
   obtain ⟨sx,rfl,hox⟩:=HT3.out
   obtain ⟨AX,nx,cx,rfl⟩:=hox.shape
   have bx:=HB3.out
   have z0:w3.cell? ⟨w.heap.size,0,none⟩=some (.slice none 0 0):=bx.cell 0
   have v0:=bx.frozen 0
   have hlr:=bx.lt
   clear bx hox
   go_wp2_with fail
   have HD:=tk_done HT3.out HC3.out HO3.out rfl hlt (.slice AX nx cx)
   refine bodyPost_ret (v:=.agg #[.slice AX nx cx]) (by simp [results,Tryz.results85,go_sem,z0,v0,hlr]) rfl ⟨_,_,rfl,HD.1,HL.out,HD.2.1,HD.2.2⟩
 · go_wp2_with fail
   refine (l8Known_any b _ hc1).mono ?_
   rintro e w3 ⟨v,l,rfl,ht,hl3,hc3,ho3⟩
   have HB3:=Hd_ (hbr1.only ho3 (.inr (by omega)))
   have HO3:=Hd_ (HO1.out.trans ho3)
   have HC3:=Hd_ hc3
   have HT3:=Hd_ (ht.mono (lo':=w.heap.size+1) (by omega) (Nat.le_refl _))
   have HL:=Hd_ hl3
   clear hbr1 hc3 ht ho3 hl3 hc1
   obtain ⟨sx,rfl,hox⟩:=HT3.out
   obtain ⟨AX,nx,cx,rfl⟩:=hox.shape
   have bx:=HB3.out
   have z0:w3.cell? ⟨w.heap.size,0,none⟩=some (.slice none 0 0):=bx.cell 0
   have v0:=bx.frozen 0
   have hlr:=bx.lt
   clear bx hox
   go_wp2_with fail
   have HD:=tk_done HT3.out HC3.out HO3.out rfl hlt (.slice AX nx cx)
   refine bodyPost_ret (v:=.agg #[.slice AX nx cx]) (by simp [results,Tryz.results85,go_sem,z0,v0,hlr]) rfl ⟨_,_,rfl,HD.1,HL.out,HD.2.1,HD.2.2⟩
theorem aut_done {b r lo:Nat} {w0 w:World} {st:Int} {ac nx:Value} {us:List Value} {acc:List Bool} {nxt:List (List Int)} (h:AuR lo w ac nx us acc nxt) (hc:Cur w b) (ho:Only b (b+1) w0 w) (hr:w0.heap.size<=r) (hlo:r < lo) (hb:b < w0.heap.size)
 (hn:acc.length=nxt.length/\0 < nxt.length/\nxt.length<=100/\∀ row ∈ nxt,row.length=9):AutCur b w0 (.returned (.agg #[.int .i64 st,ac,nx])) (put3 w r (.int .i64 st) ac nx):=by
 have hp:=put3_only w r (.int .i64 st) ac nx
 exact ⟨⟨_,_,_,us,acc,nxt,rfl,(h.only hp (by omega)).mono (by omega),hn,((ho.setCell (p:=⟨r,0,none⟩) (.inr (by simp only;omega)) _).setCell (p:=⟨r,1,none⟩) (.inr (by simp only;omega)) _).setCell (p:=⟨r,2,none⟩) (.inr (by simp only;omega)) _⟩,hc.only hp (by omega)⟩
set_option maxHeartbeats 8000000 in
theorem l11Aut_any (b:Nat) (w:World) (hc:Cur w b) :
 Calls Tryz.prog 63 #[.pointer (some ⟨b,0,none⟩)] w (AutCur b w):=by
 have hbw:=hc.lt
 have hb0:=(Below.refl w.heap.size w).alloc (Nat.le_refl _) (.cells #[.int .i64 0,.slice none 0 0,.slice none 0 0] 31)
 have hbr:=Blk.new w 31 #[.int .i64 0,.slice none 0 0,.slice none 0 0] _ rfl
 go_enter Tryz.func63,Tryz.ntmps63
 go_wp2_with fail
 refine (l1Once_any b 3 _ (hc.keep hb0)).mono ?_
 rintro e w1 ⟨o,rfl,hc1,ho1⟩
 have HBR1:=Hd_ (hbr.only ho1 (.inr (by omega)))
 have HO1:=Hd_ ((Only.of_below hb0 b (b+1)).trans ho1)
 have HC1:=Hd_ hc1
 clear hb0 hbr ho1 hc1
 cases o
 · go_wp2_with fail
   refine (l8Expr_any b _ HC1.out).mono ?_
   rintro e w2 ⟨v2,l,rfl,htk,-,hc2,ho2⟩
   have HBR2:=Hd_ (HBR1.out.only ho2 (.inr (by omega)))
   have HO2:=Hd_ (HO1.out.trans ho2)
   have HC2:=Hd_ hc2
   have HTK:=Hd_ (htk.mono (Nat.zero_le _) (Nat.le_refl _))
   clear hc2 ho2 htk HBR1 HO1 HC1
   go_wp2_with fail
   refine (buildPositions_any _ l _ HTK.out).mono ?_
   rintro e w3 ⟨v3,is3,L,F,rfl,hpv,hb3⟩
   obtain ⟨ls,fs,fi,la,nu,rfl,g1,g2,hLF⟩:=hpv
   obtain ⟨B1,m1,d1,rfl⟩:=g1.shape
   obtain ⟨B2,m2,d2,rfl⟩:=g2.shape
   have hal:=(Below.refl w3.heap.size w3).alloc (Nat.le_refl _) (.cells #[.slice B1 m1 d1,.int .i64 fi,.int .i64 la,.slice B2 m2 d2,.bool nu] 129)
   have hbA:=below_trans hb3 hal
   have hbp:=Blk.new w3 129 #[.slice B1 m1 d1,.int .i64 fi,.int .i64 la,.slice B2 m2 d2,.bool nu] _ rfl
   have HPV:=Hd_ (PosV.keep (show PosV 0 w3.heap.size w3 (.agg #[.slice B1 m1 d1,.int .i64 fi,.int .i64 la,.slice B2 m2 d2,.bool nu]) L F from ⟨_,_,_,_,_,rfl,g1.mono (Nat.zero_le _) (Nat.le_refl _),g2.mono (Nat.zero_le _) (Nat.le_refl _),hLF⟩) hal)
   have HBR3:=Hd_ (HBR2.out.keep hbA)
   have HO3:=Hd_ (HO2.out.trans (Only.of_below hbA b (b+1)))
   have HC3:=Hd_ (HC2.out.keep hbA)
   clear g1 g2 hLF hb3 hal hbA HBR2 HO2 HC2 HTK
   go_upto_region 4 with fail
   generalize w3.alloc (.cells #[.slice B1 m1 d1,.int .i64 fi,.int .i64 la,.slice B2 m2 d2,.bool nu] 129)=W3 at *
   have x0:W3.cell? ⟨w3.heap.size,0,none⟩=some (.slice B1 m1 d1):=hbp.cell 0
   have x1:W3.cell? ⟨w3.heap.size,1,none⟩=some (.int .i64 fi):=hbp.cell 1
   have x2:W3.cell? ⟨w3.heap.size,2,none⟩=some (.int .i64 la):=hbp.cell 2
   have x3:W3.cell? ⟨w3.heap.size,3,none⟩=some (.slice B2 m2 d2):=hbp.cell 3
   have x4:W3.cell? ⟨w3.heap.size,4,none⟩=some (.bool nu):=hbp.cell 4
   clear hbp
   go_wp2_with fail
   refine (l11Subsets_any _ L F _ HPV.out).mono ?_
   rintro e w4 ⟨A1,n1,c1,A2,n2,c2,st,is,rfl,hex,hb4⟩
   have hal:=(Below.refl w4.heap.size w4).alloc (Nat.le_refl _) (.cells #[.int .i64 st,.slice A1 n1 c1,.slice A2 n2 c2] 31)
   have hbA:=below_trans hb4 hal
   have hbq:=Blk.new w4 31 #[.int .i64 st,.slice A1 n1 c1,.slice A2 n2 c2] _ rfl
   have HBR4:=Hd_ (HBR3.out.keep hbA)
   have HO4:=Hd_ (HO3.out.trans (Only.of_below hbA b (b+1)))
   have HC4:=Hd_ (HC3.out.keep hbA)
   have HAL:=Hd_ hal
   have hw3:w.heap.size < W3.heap.size:=HBR3.out.lt
   clear x0 x1 x2 x3 x4 hb4 hal hbA HBR3 HO3 HC3 HPV
   go_upto_region 5 with fail
   generalize w4.alloc (.cells #[.int .i64 st,.slice A1 n1 c1,.slice A2 n2 c2] 31)=W4 at *
   cases is
   · clear hex hbq
     go_wp2_with fail
     refine (l11Random_any b _ HC4.out).mono ?_
     rintro e w9 ⟨⟨st,ac,nx,us,acc,nxt,rfl,hau,hnn,ho9⟩,hc9⟩
     obtain ⟨A1,c1,rfl,-,-,-⟩:=ownSh hau.acc
     obtain ⟨A2,c2,rfl,-,-,-⟩:=ownSh hau.nxt.own
     have hbr9:=HBR4.out.only ho9 (.inr (by omega))
     have hlw:=HBR4.out.lt
     have z0:w9.cell? ⟨w.heap.size,0,none⟩=some (.int .i64 0):=hbr9.cell 0
     have z1:w9.cell? ⟨w.heap.size,1,none⟩=some (.slice none 0 0):=hbr9.cell 1
     have z2:w9.cell? ⟨w.heap.size,2,none⟩=some (.slice none 0 0):=hbr9.cell 2
     have v0:=hbr9.frozen 0
     have v1:=hbr9.frozen 1
     have v2:=hbr9.frozen 2
     have hlr:=hbr9.lt
     have HD:=Hd_ (aut_done (r:=w.heap.size) (st:=st) hau hc9 (HO4.out.trans ho9) (Nat.le_refl _) hlw hbw hnn)
     clear hbr9 hau hnn ho9 hc9
     go_wp2_with fail
     exact bodyPost_ret (v:=.agg #[.int .i64 st,.slice A1 acc.length c1,.slice A2 us.length c2]) (by simp [results,Tryz.results63,go_sem,z0,z1,z2,v0,v1,v2,hlr]) rfl HD.out
   · obtain ⟨us,acc,nxt,hau,hnn⟩:=hex rfl
     have y0:W4.cell? ⟨w4.heap.size,0,none⟩=some (.int .i64 st):=hbq.cell 0
     have y1:W4.cell? ⟨w4.heap.size,1,none⟩=some (.slice A1 n1 c1):=hbq.cell 1
     have y2:W4.cell? ⟨w4.heap.size,2,none⟩=some (.slice A2 n2 c2):=hbq.cell 2
     have z0:W4.cell? ⟨w.heap.size,0,none⟩=some (.int .i64 0):=HBR4.out.cell 0
     have z1:W4.cell? ⟨w.heap.size,1,none⟩=some (.slice none 0 0):=HBR4.out.cell 1
     have z2:W4.cell? ⟨w.heap.size,2,none⟩=some (.slice none 0 0):=HBR4.out.cell 2
     have v0:=HBR4.out.frozen 0
     have v1:=HBR4.out.frozen 1
     have v2:=HBR4.out.frozen 2
     have hlr:=HBR4.out.lt
     have HD:=Hd_ (aut_done (r:=w.heap.size) (st:=st) (hau.below HAL.out) HC4.out HO4.out (Nat.le_refl _) hw3 hbw hnn)
     clear hau hnn hbq hex
     go_wp2_with fail
     exact bodyPost_ret (v:=.agg #[.int .i64 st,.slice A1 n1 c1,.slice A2 n2 c2]) (by simp [results,Tryz.results63,go_sem,z0,z1,z2,v0,v1,v2,hlr]) rfl HD.out
 · skip
   go_wp2_with fail
   refine (l11Random_any b _ HC1.out).mono ?_
   rintro e w9 ⟨⟨st,ac,nx,us,acc,nxt,rfl,hau,hnn,ho9⟩,hc9⟩
   obtain ⟨A1,c1,rfl,-,-,-⟩:=ownSh hau.acc
   obtain ⟨A2,c2,rfl,-,-,-⟩:=ownSh hau.nxt.own
   have hbr9:=HBR1.out.only ho9 (.inr (by omega))
   have hlw:=HBR1.out.lt
   have z0:w9.cell? ⟨w.heap.size,0,none⟩=some (.int .i64 0):=hbr9.cell 0
   have z1:w9.cell? ⟨w.heap.size,1,none⟩=some (.slice none 0 0):=hbr9.cell 1
   have z2:w9.cell? ⟨w.heap.size,2,none⟩=some (.slice none 0 0):=hbr9.cell 2
   have v0:=hbr9.frozen 0
   have v1:=hbr9.frozen 1
   have v2:=hbr9.frozen 2
   have hlr:=hbr9.lt
   have HD:=Hd_ (aut_done (r:=w.heap.size) (st:=st) hau hc9 (HO1.out.trans ho9) (Nat.le_refl _) hlw hbw hnn)
   clear hbr9 hau hnn ho9 hc9
   go_wp2_with fail
   exact bodyPost_ret (v:=.agg #[.int .i64 st,.slice A1 acc.length c1,.slice A2 us.length c2]) (by simp [results,Tryz.results63,go_sem,z0,z1,z2,v0,v1,v2,hlr]) rfl HD.out
/-- all blocks of the automaton are as they were -/
theorem AuR.same {lo:Nat} {w w':World} {ac nx:Value} {us:List Value} {acc:List Bool} {nxt:List (List Int)} (h:AuR lo w ac nx us acc nxt) (hb:∀ b,(ac.ownBlock=some b ∨ b ∈ blks (nx :: us))->w'.heap[b]?=w.heap[b]?):AuR lo w' ac nx us acc nxt :=
 ⟨ownsRow_block h.acc fun g hg=>hb g (.inl hg),h.nxt.blocks fun b hm=>hb b (.inr hm),h.apart⟩
/-- an automaton that was drawn lies in the block q; the result's block r -/
structure AyR (b r q:Nat) (w0 w:World) (st:Int) (ac nx:Value) (us:List Value) (acc:List Bool) (nxt:List (List Int)):Prop where
 res:Blk w r 31 #[.int .i64 0,.slice none 0 0,.slice none 0 0]
 blk:Blk w q 31 #[.int .i64 st,ac,nx]
 au:AuR (r+1) w ac nx us acc nxt
 farq:ac.ownBlock ≠ some q/\q ∉ blks (nx :: us)
 cur:Cur w b
 frm:Only b (b+1) w0 w
 at0:w0.heap.size=r
 ord:b < r/\r < q
section
variable {b r q:Nat} {w0 w w':World} {st:Int} {ac nx:Value} {us:List Value} {acc:List Bool} {nxt:List (List Int)}
theorem AyR.step (a:AyR b r q w0 w st ac nx us acc nxt) (ho:Only b (b+1) w w') (hc:Cur w' b):AyR b r q w0 w' st ac nx us acc nxt:=by
 have hd:=a.ord
 exact ⟨a.res.only ho (.inr (by omega)),a.blk.only ho (.inr (by omega)),a.au.only ho (by omega),a.farq,hc,a.frm.trans ho,a.at0,hd⟩
theorem AyR.below (a:AyR b r q w0 w st ac nx us acc nxt) (hb:Below w.heap.size w w'):AyR b r q w0 w' st ac nx us acc nxt:=a.step (Only.of_below hb _ _) (a.cur.keep hb)
theorem AyR.setQ (a:AyR b r q w0 w st ac nx us acc nxt) (i:Nat) (u:Value):AuR (r+1) (w.setCell ⟨q,i,none⟩ u) ac nx us acc nxt :=
 a.au.same fun g hg=>Below.heap_setCell w ⟨q,i,none⟩ _ g (fun e=>by subst e;exact hg.elim a.farq.1 a.farq.2)
theorem any_done {v x y z:Value} {m:Au} (h:AuV (r+1) w.heap.size w v m) (hc:Cur w b) (ho:Only b (b+1) w0 w) (hr:w0.heap.size=r) (hb:b < r) :
 AuV w0.heap.size (put3 w r x y z).heap.size (put3 w r x y z) v m/\Cur (put3 w r x y z) b/\Only b (b+1) w0 (put3 w r x y z):=by
 have hp:=put3_only w r x y z
 exact ⟨(h.only hp (Nat.le_refl _) (.inr (Nat.le_refl _))).mono (by omega) hp.size,hc.only hp (by omega),((ho.setCell (p:=⟨r,0,none⟩) (.inr (by simp only;omega)) _).setCell (p:=⟨r,1,none⟩) (.inr (by simp only;omega)) _).setCell (p:=⟨r,2,none⟩) (.inr (by simp only;omega)) _⟩
end
def AnyOut (b:Nat) (w:World) (e:Ending) (w':World):Prop:=∃ v m,e=.returned v/\(AuV w.heap.size w'.heap.size w' v m/\Cur w' b/\Only b (b+1) w w')
set_option maxHeartbeats 8000000 in
theorem l11Any_any (b:Nat) (w:World) (hc:Cur w b) :
 Calls Tryz.prog 65 #[.pointer (some ⟨b,0,none⟩)] w (AnyOut b w):=by
 have hbw:=hc.lt
 have hb0:=(Below.refl w.heap.size w).alloc (Nat.le_refl _) (.cells #[.int .i64 0,.slice none 0 0,.slice none 0 0] 31)
 have hbr:=Blk.new w 31 #[.int .i64 0,.slice none 0 0,.slice none 0 0] _ rfl
 have hs0:(w.alloc (.cells #[.int .i64 0,.slice none 0 0,.slice none 0 0] 31)).heap.size=w.heap.size+1:=by simp
 go_enter Tryz.func65,Tryz.ntmps65
 go_wp2_with fail
 generalize w.alloc (.cells #[.int .i64 0,.slice none 0 0,.slice none 0 0] 31)=W0 at *
 refine (l11Aut_any b _ (hc.keep hb0)).mono ?_
 rintro e w1 ⟨⟨st,ac,nx,us,acc,nxt,rfl,hau,hnn,ho1⟩,hc1⟩
 rw [hs0] at hau
 obtain ⟨A1,c1,rfl,-,-,-⟩:=ownSh hau.acc
 obtain ⟨A2,c2,rfl,-,-,hA2⟩:=ownSh hau.nxt.own
 obtain ⟨q,hq⟩:∃ q,q=w1.heap.size:=⟨_,rfl⟩
 have hz1:=ho1.size
 have hal:=(Below.refl w1.heap.size w1).alloc (Nat.le_refl _) (.cells #[.int .i64 st,.slice A1 acc.length c1,.slice A2 us.length c2] 31)
 have hlen:=hau.nxt.len
 have HA0:=Hd_ (show AyR b w.heap.size q w (w1.alloc (.cells #[.int .i64 st,.slice A1 acc.length c1,.slice A2 us.length c2] 31)) st _ _ us acc nxt from
  ⟨(hbr.only ho1 (.inr (by omega))).keep hal,Blk.new w1 _ _ _ hq,hau.below hal,⟨fun e=>by have:=(hau.acc.lt _ e).2;omega,fun e=>by have:=(hau.nxt.lt _ e).2;omega⟩,hc1.keep hal,((Only.of_below hb0 b (b+1)).trans ho1).trans (Only.of_below hal b (b+1)),rfl,by omega⟩)
 have hqr:w.heap.size < q:=by omega
 have HNN:=Hd_ hnn
 have HLEN:=Hd_ hlen
 have hup:0 < us.length:=by omega
 have haccl:acc.length<=100:=by omega
 clear hal hau hc1 ho1 hbr hb0 hs0 hz1 hnn hlen hc
 go_upto_region 2 with fail
 rw [<- hq]
 generalize w1.alloc (.cells #[.int .i64 st,.slice A1 acc.length c1,.slice A2 us.length c2] 31)=W1 at *
 clear hq
 go_wp2_with fail
 refine (l1Below_any b 14 _ HA0.out.cur).mono ?_
 rintro e w2 ⟨t,rfl,-,hc2,ho2⟩
 have HA:=Hd_ (HA0.out.step ho2 hc2)
 clear HA0 ho2 hc2
 have hlq:=HA.out.blk.lt
 have hlr0:=HA.out.res.lt
 by_cases ht0:t=0
 · subst ht0
   have HSL:=Hd_ (litD_sl w2 3 #[.int .i64 (-1),.int .i64 12,.int .i64 1] [-1,12,1] 3 (b+1) (by omega) (by decide) rfl rfl rfl)
   have HAL:=Hd_ ((Below.refl w2.heap.size w2).alloc (Nat.le_refl _) (.cells #[.int .i64 (-1),.int .i64 12,.int .i64 1] 3))
   go_wp2_with fail
   refine (l1PickInt_any b _ _ _ (HA.out.cur.keep HAL.out) (by decide) HSL.out).mono ?_
   rintro e w3 ⟨u,rfl,-,hc3,ho3⟩
   have HA3:=Hd_ ((HA.out.below HAL.out).step ho3 hc3)
   clear hc3 ho3 HSL HAL HA
   have x0:w3.cell? ⟨q,0,none⟩=some (.int .i64 st):=HA3.out.blk.cell 0
   have f0:=HA3.out.blk.frozen 0
   have hlq3:=HA3.out.blk.lt
   go_upto_region 11 with fail
   have HV:=Hd_ ((HA3.out.setQ 0 (.int .i64 u)).view u)
   have HBQ:=Hd_ (HA3.out.blk.set_ 0 (.int .i64 u))
   have HBR:=Hd_ (HA3.out.res.far (p:=⟨q,0,none⟩) (by simp only;omega) (.int .i64 u))
   have HCU:=Hd_ (HA3.out.cur.set (p:=⟨q,0,none⟩) (by simp only;omega) (.int .i64 u))
   have HFR:=Hd_ (HA3.out.frm.setCell (p:=⟨q,0,none⟩) (.inr (by simp only;omega)) (.int .i64 u))
   generalize w3.setCell ⟨q,0,none⟩ (.int .i64 u)=w4 at *
   clear x0 f0 hlq3 HA3 hlr0 hlq
   have x0:w4.cell? ⟨q,0,none⟩=some (.int .i64 (u)):=HBQ.out.cell 0
   have x1:w4.cell? ⟨q,1,none⟩=some (.slice A1 acc.length c1):=HBQ.out.cell 1
   have x2:w4.cell? ⟨q,2,none⟩=some (.slice A2 us.length c2):=HBQ.out.cell 2
   have z0:w4.cell? ⟨w.heap.size,0,none⟩=some (.int .i64 0):=HBR.out.cell 0
   have z1:w4.cell? ⟨w.heap.size,1,none⟩=some (.slice none 0 0):=HBR.out.cell 1
   have z2:w4.cell? ⟨w.heap.size,2,none⟩=some (.slice none 0 0):=HBR.out.cell 2
   have v0:=HBR.out.frozen 0
   have v1:=HBR.out.frozen 1
   have v2:=HBR.out.frozen 2
   have hlr:=HBR.out.lt
   have q1:¬ q=w.heap.size:=by omega
   have q2:¬ w.heap.size=q:=by omega
   go_wp2_with fail
   exact bodyPost_ret (v:=.agg #[.int .i64 (u),.slice A1 acc.length c1,.slice A2 us.length c2]) (by simp [results,Tryz.results65,go_sem,z0,z1,z2,v0,v1,v2,hlr]) rfl ⟨_,_,rfl,any_done HV.out HCU.out HFR.out rfl hbw⟩
 have hd0:(t==0)=false:=by simpa using ht0
 by_cases ht1:t=1
 · subst ht1
   have x1:w2.cell? ⟨q,1,none⟩=some (.slice A1 acc.length c1):=HA.out.blk.cell 1
   go_upto_region 11 with (at_builtin;(refine wpList_append2 cB elBool rfl _ _ (by rfl) (w.heap.size+1) _ acc true 1 _ (by rfl) (HA.out.au.acc.alloc _) (by rfl) (heap_alloc_new _ _) rfl (cB_one _) (by omega) (by omega) (by simp;omega) ?_);intro g2 cp2 w9 hown3 hgr3 hat3 hlt3;have hal:=(Below.refl w2.heap.size w2).alloc (Nat.le_refl _) (.cells #[.bool true] 4);have HA9:=Hd_ ((HA.out.au.below hal).pushA hgr3 hown3 (fun k hk=>by cases hk;exact hat3));have hob:=own_below (HA.out.au.acc.alloc (.cells #[.bool true] 4)) (by simp;omega) hgr3;have HBQ9:=Hd_ (show Blk w9 q _ _ from (hgr3.block q (by simp;omega) (fun e=>HA.out.farq.1 e.symm)).trans (HA.out.blk.keep hal));have HBR9:=Hd_ ((HA.out.res.keep hal).below hob (by omega));have HCU9:=Hd_ ((HA.out.cur.keep hal).below hob (by omega));have HFR9:=Hd_ ((HA.out.frm.alloc (.cells #[.bool true] 4)).andBelow hob (by omega));have HG9:=Hd_ (show g2 ≠ q from fun e=>by subst e;exact hat3.elim HA.out.farq.1 (fun e=>by simp at e;omega));have y1:w9.cell? ⟨q,1,none⟩=some (.slice A1 acc.length c1):=HBQ9.out.cell 1;have f1:=HBQ9.out.frozen 1;have hl9:=HBQ9.out.lt;clear hown3 hgr3 hat3 hal hob)
   have HV:=Hd_ ((HA9.out.same (w':=w9.setCell ⟨q,1,none⟩ (.slice (some ⟨g2,0,none⟩) (acc.length+1) cp2)) (fun g hg=>Below.heap_setCell w9 ⟨q,1,none⟩ _ g (fun e=>by subst e;exact hg.elim (fun e=>HG9.out (by cases e;rfl)) HA.out.farq.2))).view st)
   have HBQ:=Hd_ (HBQ9.out.set_ 1 (.slice (some ⟨g2,0,none⟩) (acc.length+1) cp2))
   have HBR:=Hd_ (HBR9.out.far (p:=⟨q,1,none⟩) (by simp only;omega) (.slice (some ⟨g2,0,none⟩) (acc.length+1) cp2))
   have HCU:=Hd_ (HCU9.out.set (p:=⟨q,1,none⟩) (by simp only;omega) (.slice (some ⟨g2,0,none⟩) (acc.length+1) cp2))
   have HFR:=Hd_ (HFR9.out.setCell (p:=⟨q,1,none⟩) (.inr (by simp only;omega)) (.slice (some ⟨g2,0,none⟩) (acc.length+1) cp2))
   generalize w9.setCell ⟨q,1,none⟩ (.slice (some ⟨g2,0,none⟩) (acc.length+1) cp2)=w4 at *
   clear y1 f1 hl9 x1 HA9 hlr0 hlq HBQ9 HBR9 HCU9 HFR9
   have x0:w4.cell? ⟨q,0,none⟩=some (.int .i64 (st)):=HBQ.out.cell 0
   have x1:w4.cell? ⟨q,1,none⟩=some (.slice (some ⟨g2,0,none⟩) (acc.length+1) cp2):=HBQ.out.cell 1
   have x2:w4.cell? ⟨q,2,none⟩=some (.slice A2 us.length c2):=HBQ.out.cell 2
   have z0:w4.cell? ⟨w.heap.size,0,none⟩=some (.int .i64 0):=HBR.out.cell 0
   have z1:w4.cell? ⟨w.heap.size,1,none⟩=some (.slice none 0 0):=HBR.out.cell 1
   have z2:w4.cell? ⟨w.heap.size,2,none⟩=some (.slice none 0 0):=HBR.out.cell 2
   have v0:=HBR.out.frozen 0
   have v1:=HBR.out.frozen 1
   have v2:=HBR.out.frozen 2
   have hlr:=HBR.out.lt
   have q1:¬ q=w.heap.size:=by omega
   have q2:¬ w.heap.size=q:=by omega
   go_wp2_with fail
   exact bodyPost_ret (v:=.agg #[.int .i64 (st),.slice (some ⟨g2,0,none⟩) (acc.length+1) cp2,.slice A2 us.length c2]) (by simp [results,Tryz.results65,go_sem,z0,z1,z2,v0,v1,v2,hlr]) rfl ⟨_,_,rfl,any_done HV.out HCU.out HFR.out rfl hbw⟩
 have hd1:(t==1)=false:=by simpa using ht1
 obtain ⟨gN,rfl⟩:=hA2 hup
 obtain ⟨u0,us',rfl⟩:∃ u0 us',us=u0 :: us':=by
  cases us with
  | nil=>simp at hup
  | cons u us=>exact ⟨u,us,rfl⟩
 obtain ⟨x0s,nxt',rfl⟩:∃ x0s nxt',nxt=x0s :: nxt':=by
  cases nxt with
  | nil=>have:=HNN.out.2.1;simp at this
  | cons x xs=>exact ⟨x,xs,rfl⟩
 have hrow0:=HA.out.au.nxt.rows 0 u0 x0s rfl rfl
 have h9:x0s.length=9:=HNN.out.2.2.2 x0s (by simp)
 rw [h9] at hrow0
 obtain ⟨A0,c0,rfl,hc90,-,hA0⟩:=ownSh hrow0
 obtain ⟨g0,rfl⟩:=hA0 (by omega)
 have n0:w2.cell? ⟨gN,0,none⟩=some (.slice (some ⟨g0,0,none⟩) 9 c0):=World.ownsRow.cellAt HA.out.au.nxt.own 0 (by simp)
 have x2:w2.cell? ⟨q,2,none⟩=some (.slice (some ⟨gN,0,none⟩) (us'.length+1) c2):=HA.out.blk.cell 2
 have HROW0:=Hd_ hrow0
 have H9:=Hd_ h9
 have hgNl:=(HA.out.au.nxt.own.lt gN rfl)
 have hg0l:=hrow0.lt g0 rfl
 have hun:0 < us'.length+1:=by omega
 clear hrow0 h9 hup
 by_cases ht2:t=2
 · subst ht2
   go_wp2_with fail
   refine F_start 7 (fun w'=>w'.cell? ⟨q,2,none⟩=some (.slice (some ⟨gN,0,none⟩) (us'.length+1) c2)/\w'.cell? ⟨gN,0,none⟩=some (.slice (some ⟨g0,0,none⟩) 9 c0)) (by kernel_rfl) (by exact ⟨x2,n0⟩) (fun hS inv=>?_)
   refine F_tk 0 inv ?_
   try simp only [tA,tB,tC,Act.put,tE,tF,tG]
   clear inv;intro inv
   refine F_tk 1 inv ?_
   try simp only [tA,tB,tC,Act.put,tE,tF,tG]
   clear inv;intro inv
   refine F_tk 2 inv ?_
   try simp only [tA,tB,tC,Act.put,tE,tF,tG]
   clear inv;intro inv
   refine F_tk 3 inv ?_
   try simp only [tA,tB,tC,Act.put,tE,tF,tG]
   clear inv;intro inv
   refine F_tk 4 inv ?_
   try simp only [tA,tB,tC,Act.put,tE,tF,tG]
   clear inv;intro inv
   refine F_o1 5 inv ?_;intro K hK
   try simp only [tA,tB,tC]
   go_simp
   have hal:=((Below.refl w2.heap.size w2).alloc (Nat.le_refl _) (.cells #[.int .i64 (-2),.int .i64 12,.int .i64 0] 3)).drew
   have HA3:=Hd_ (HA.out.below hal)
   have HL3:=Hd_ (show SlI (b+1) (w2.alloc (.cells #[.int .i64 (-2),.int .i64 12,.int .i64 0] 3)).drew.heap.size (w2.alloc (.cells #[.int .i64 (-2),.int .i64 12,.int .i64 0] 3)).drew cI 1 _ _ from litD_sl w2 3 #[.int .i64 (-2),.int .i64 12,.int .i64 0] [-2,12,0] 3 (b+1) (by omega) (by decide) rfl rfl rfl)
   refine hK.out _ _ (kB2 hal hS) (fun _ _=>?_)
   try simp only [tA,tB,tC,Act.put,tE,tF,tG]
   clear hK K inv hS;rename_i hS inv
   clear hal
   refine F_o1 6 inv ?_;intro K hK
   try simp only [tA,tB,tC]
   go_simp
   refine (l1PickInt_any b _ _ _ HA3.out.cur (by decide) HL3.out).mono ?_
   rintro e w3 ⟨u,rfl,-,hc3,ho3⟩
   have HA4:=Hd_ (HA3.out.step ho3 hc3)
   have hrow4:=HA4.out.au.nxt.rows 0 _ x0s rfl rfl
   rw [H9.out] at hrow4
   have hz4:=ho3.size
   refine hK.out _ _ (⟨HA4.out.blk.cell 2,World.ownsRow.cellAt HA4.out.au.nxt.own 0 (by simp)⟩) (fun _ _=>?_)
   try simp only [tA,tB,tC,Act.put,tE,tF,tG]
   clear hK K inv hS;rename_i hS inv
   clear HA3 HL3 hc3 ho3 x2 n0
   have fz0:=World.ownsRow.frozenAt hrow4 0
   have cz0:=World.ownsRow.cellAt hrow4 0 (by omega)
   obtain ⟨y0,hy0⟩:∃ y,x0s[0]?=some y:=⟨_,List.getElem?_eq_getElem (by have:=H9.out;omega)⟩
   rw [show (x0s.flatMap cI)[0]?=some (.int .i64 y0) by have:=flat_at (E:=cI) (k:=1) cI_len hy0 0 _ rfl;simpa using this] at cz0
   have hst:=(World.ownsRow.stored hrow4 0 (.int .i64 u)).1
   rw [flatI_set] at hst
   have hlg:=(hrow4.lt g0 rfl).2
   have HST:=Hd_ hst
   clear hrow4 hst hy0
   refine F_tail (i:=7) (by kernel_rfl) rfl rfl (by omega) (fun K hK=>?_)
   try simp only [tA,tB,tC]
   go_simp
   refine hK.out _ _ ?_
   try simp only [tA,tB,tC,Act.put,tE,tF,tG]
   clear hK K
   try clear inv hS
   refine F_l1 8 ?_;intro K hK
   go_simp
   refine hK _ _ ?_
   clear hK K
   have hns:=HA4.out.au.nxt.turn (i:=0) (u:=.slice (some ⟨g0,0,none⟩) 9 c0) (xs':=x0s.set 0 u) (w':=w3.setCell ⟨g0,0,none⟩ (.int .i64 u)) rfl (by rw [List.length_set,H9.out];exact HST.out) (fun k _ hk=>Below.heap_setCell w3 ⟨g0,0,none⟩ _ k (fun e=>hk (by rw [e];rfl)))
   have h0m:g0 ∈ blks (Value.slice (some ⟨gN,0,none⟩) (us'.length+1) c2 :: .slice (some ⟨g0,0,none⟩) 9 c0 :: us'):=mem_blks.2 ⟨1,_,rfl,rfl⟩
   have hau:AuR (w.heap.size+1) (w3.setCell ⟨g0,0,none⟩ (.int .i64 u)) (.slice A1 acc.length c1) (.slice (some ⟨gN,0,none⟩) (us'.length+1) c2) (.slice (some ⟨g0,0,none⟩) 9 c0 :: us') acc ((x0s :: nxt').set 0 (x0s.set 0 u)) :=
    ⟨ownsRow_block HA4.out.au.acc fun k hk=>Below.heap_setCell w3 ⟨g0,0,none⟩ _ k (fun e=>HA4.out.au.apart k hk (by rw [e];exact h0m)),hns,HA4.out.au.apart⟩
   have hg0q:q ≠ g0:=fun e=>HA4.out.farq.2 (by rw [e];exact h0m)
   have hg0r:w.heap.size < g0:=by omega
   have HV:=Hd_ (hau.view st)
   have HBQ:=Hd_ (HA4.out.blk.far (p:=⟨g0,0,none⟩) (by simpa using hg0q) (.int .i64 u))
   have HBR:=Hd_ (HA4.out.res.far (p:=⟨g0,0,none⟩) (by simp only;omega) (.int .i64 u))
   have HCU:=Hd_ (HA4.out.cur.set (p:=⟨g0,0,none⟩) (by simp only;omega) (.int .i64 u))
   have HFR:=Hd_ (HA4.out.frm.setCell (p:=⟨g0,0,none⟩) (.inr (by simp only;omega)) (.int .i64 u))
   generalize w3.setCell ⟨g0,0,none⟩ (.int .i64 u)=w4 at *
   clear hns hau fz0 cz0 HA4 HA hlr0 hlq h0m hg0q HST hlg
   have x0:w4.cell? ⟨q,0,none⟩=some (.int .i64 (st)):=HBQ.out.cell 0
   have x1:w4.cell? ⟨q,1,none⟩=some (.slice A1 acc.length c1):=HBQ.out.cell 1
   have x2:w4.cell? ⟨q,2,none⟩=some (.slice (some ⟨gN,0,none⟩) (us'.length+1) c2):=HBQ.out.cell 2
   have z0:w4.cell? ⟨w.heap.size,0,none⟩=some (.int .i64 0):=HBR.out.cell 0
   have z1:w4.cell? ⟨w.heap.size,1,none⟩=some (.slice none 0 0):=HBR.out.cell 1
   have z2:w4.cell? ⟨w.heap.size,2,none⟩=some (.slice none 0 0):=HBR.out.cell 2
   have v0:=HBR.out.frozen 0
   have v1:=HBR.out.frozen 1
   have v2:=HBR.out.frozen 2
   have hlr:=HBR.out.lt
   have q1:¬ q=w.heap.size:=by omega
   have q2:¬ w.heap.size=q:=by omega
   go_wp2_with fail
   exact bodyPost_ret (v:=.agg #[.int .i64 (st),.slice A1 acc.length c1,.slice (some ⟨gN,0,none⟩) (us'.length+1) c2]) (by simp [results,Tryz.results65,go_sem,z0,z1,z2,v0,v1,v2,hlr]) rfl ⟨_,_,rfl,any_done HV.out HCU.out HFR.out rfl hbw⟩
 have hd2:(t==2)=false:=by simpa using ht2
 by_cases ht3:t=3
 · subst ht3
   have fN:=World.ownsRow.frozenAt HA.out.au.nxt.own 0
   have hc8:8<=c0:=by omega
   have hlN:=hgNl.2
   go_wp2_with fail
   go_region
   have hst:=(World.ownsRow.stored HA.out.au.nxt.own 0 (.slice (some ⟨g0,0,none⟩) 8 c0)).1
   have hfs:((Value.slice (some ⟨g0,0,none⟩) 9 c0 :: us').flatMap cV).set 0 (.slice (some ⟨g0,0,none⟩) 8 c0)=(Value.slice (some ⟨g0,0,none⟩) 8 c0 :: us').flatMap cV:=rfl
   rw [hfs] at hst
   have hNm:gN ∈ blks (Value.slice (some ⟨gN,0,none⟩) (us'.length+1) c2 :: .slice (some ⟨g0,0,none⟩) 9 c0 :: us'):=mem_blks.2 ⟨0,_,rfl,rfl⟩
   have hdis:=HA.out.au.nxt.dis
   have hau:AuV (w.heap.size+1) (w2.setCell ⟨gN,0,none⟩ (.slice (some ⟨g0,0,none⟩) 8 c0)).heap.size (w2.setCell ⟨gN,0,none⟩ (.slice (some ⟨g0,0,none⟩) 8 c0)) (.agg #[.int .i64 st,.slice A1 acc.length c1,.slice (some ⟨gN,0,none⟩) (us'.length+1) c2]) ⟨st,acc,x0s.take 8 :: nxt'⟩:=by
    refine ⟨_,_,rfl,(Own.of_row (xs:=acc) (ownsRow_block HA.out.au.acc fun k hk=>Below.heap_setCell w2 ⟨gN,0,none⟩ _ k (fun e=>HA.out.au.apart k hk (by rw [e];exact hNm))) rfl rfl).sl cB_len,Value.slice (some ⟨g0,0,none⟩) 8 c0 :: us',(Own.of_row (xs:=Value.slice (some ⟨g0,0,none⟩) 8 c0 :: us') hst rfl rfl).sl cV_len,by have:=HA.out.au.nxt.len;simpa using this,fun i u xs hu hx=>?_⟩
    have hkeep:∀ (u:Value) (xs:List Int),(u ∈ (Value.slice (some ⟨g0,0,none⟩) 9 c0 :: us'))->w2.ownsRow (w.heap.size+1) 3 1 u xs.length (xs.flatMap cI)->(w2.setCell ⟨gN,0,none⟩ (.slice (some ⟨g0,0,none⟩) 8 c0)).ownsRow (w.heap.size+1) 3 1 u xs.length (xs.flatMap cI):=fun u xs hm h =>
     ownsRow_block h fun k hk=>Below.heap_setCell w2 ⟨gN,0,none⟩ _ k (fun e=>by
      obtain ⟨i,hi,hie⟩:=List.getElem_of_mem hm
      have h2:(Value.slice (some ⟨gN,0,none⟩) (us'.length+1) c2 :: .slice (some ⟨g0,0,none⟩) 9 c0 :: us')[i+1]?=some u:=by rw [List.getElem?_cons_succ,List.getElem?_eq_getElem hi,hie]
      have:=filterMap_inj (i:=0) (j:=i+1) hdis rfl h2 (b:=gN) rfl (by rw [hk,e])
      omega)
    cases i with
    | zero =>
      simp only [List.getElem?_cons_zero,Option.some.injEq] at hu hx
      subst hu hx
      have h:=hkeep _ x0s (by simp) (HA.out.au.nxt.rows 0 _ x0s rfl rfl)
      have h2:=(Own.of_row (xs:=x0s) h rfl rfl).sl cI_len
      exact SlI.headT (m:=8) (ys:=x0s.drop 8) (by rw [List.take_append_drop];exact h2) (by rw [List.length_take];have:=H9.out;omega)
    | succ i =>
      rw [List.getElem?_cons_succ] at hu hx
      exact (Own.of_row (xs:=xs) (hkeep u xs (List.mem_cons_of_mem _ (List.mem_of_getElem? hu)) (HA.out.au.nxt.rows (i+1) u xs (by simpa using hu) (by simpa using hx))) rfl rfl).sl cI_len
   have hgNq:q ≠ gN:=fun e=>HA.out.farq.2 (by rw [e];exact hNm)
   have hgNr:w.heap.size < gN:=by omega
   have HV:=Hd_ (show AuV (w.heap.size+1) (w2.setCell ⟨gN,0,none⟩ (.slice (some ⟨g0,0,none⟩) 8 c0)).drew.heap.size (w2.setCell ⟨gN,0,none⟩ (.slice (some ⟨g0,0,none⟩) 8 c0)).drew _ _ from hau)
   have HBQ:=Hd_ ((HA.out.blk.far (p:=⟨gN,0,none⟩) (by simpa using hgNq) (.slice (some ⟨g0,0,none⟩) 8 c0)).drew)
   have HBR:=Hd_ ((HA.out.res.far (p:=⟨gN,0,none⟩) (by simp only;omega) (.slice (some ⟨g0,0,none⟩) 8 c0)).drew)
   have HCU:=Hd_ ((HA.out.cur.set (p:=⟨gN,0,none⟩) (by simp only;omega) (.slice (some ⟨g0,0,none⟩) 8 c0)).keep ((Below.refl _ _).drew))
   have HFR:=Hd_ ((HA.out.frm.setCell (p:=⟨gN,0,none⟩) (.inr (by simp only;omega)) (.slice (some ⟨g0,0,none⟩) 8 c0)).drew)
   generalize (w2.setCell ⟨gN,0,none⟩ (.slice (some ⟨g0,0,none⟩) 8 c0)).drew=w4 at *
   clear hau hst hfs hNm hdis hgNq fN n0 x2 hlr0 hlq HA hlN
   have x0:w4.cell? ⟨q,0,none⟩=some (.int .i64 (st)):=HBQ.out.cell 0
   have x1:w4.cell? ⟨q,1,none⟩=some (.slice A1 acc.length c1):=HBQ.out.cell 1
   have x2:w4.cell? ⟨q,2,none⟩=some (.slice (some ⟨gN,0,none⟩) (us'.length+1) c2):=HBQ.out.cell 2
   have z0:w4.cell? ⟨w.heap.size,0,none⟩=some (.int .i64 0):=HBR.out.cell 0
   have z1:w4.cell? ⟨w.heap.size,1,none⟩=some (.slice none 0 0):=HBR.out.cell 1
   have z2:w4.cell? ⟨w.heap.size,2,none⟩=some (.slice none 0 0):=HBR.out.cell 2
   have v0:=HBR.out.frozen 0
   have v1:=HBR.out.frozen 1
   have v2:=HBR.out.frozen 2
   have hlr:=HBR.out.lt
   have q1:¬ q=w.heap.size:=by omega
   have q2:¬ w.heap.size=q:=by omega
   go_wp2_with fail
   exact bodyPost_ret (v:=.agg #[.int .i64 (st),.slice A1 acc.length c1,.slice (some ⟨gN,0,none⟩) (us'.length+1) c2]) (by simp [results,Tryz.results65,go_sem,z0,z1,z2,v0,v1,v2,hlr]) rfl ⟨_,_,rfl,any_done HV.out HCU.out HFR.out rfl hbw⟩
 · have hd3:(t==3)=false:=by simpa using ht3
   have HV:=Hd_ (HA.out.au.view st)
   clear n0 x2 hlr0
   have x0:w2.cell? ⟨q,0,none⟩=some (.int .i64 (st)):=HA.out.blk.cell 0
   have x1:w2.cell? ⟨q,1,none⟩=some (.slice A1 acc.length c1):=HA.out.blk.cell 1
   have x2:w2.cell? ⟨q,2,none⟩=some (.slice (some ⟨gN,0,none⟩) (us'.length+1) c2):=HA.out.blk.cell 2
   have z0:w2.cell? ⟨w.heap.size,0,none⟩=some (.int .i64 0):=HA.out.res.cell 0
   have z1:w2.cell? ⟨w.heap.size,1,none⟩=some (.slice none 0 0):=HA.out.res.cell 1
   have z2:w2.cell? ⟨w.heap.size,2,none⟩=some (.slice none 0 0):=HA.out.res.cell 2
   have v0:=HA.out.res.frozen 0
   have v1:=HA.out.res.frozen 1
   have v2:=HA.out.res.frozen 2
   have hlr:=HA.out.res.lt
   have q1:¬ q=w.heap.size:=by omega
   have q2:¬ w.heap.size=q:=by omega
   go_wp2_with fail
   exact bodyPost_ret (v:=.agg #[.int .i64 (st),.slice A1 acc.length c1,.slice (some ⟨gN,0,none⟩) (us'.length+1) c2]) (by simp [results,Tryz.results65,go_sem,z0,z1,z2,v0,v1,v2,hlr]) rfl ⟨_,_,rfl,any_done HV.out HA.out.cur HA.out.frm rfl hbw⟩
set_option maxHeartbeats 1000000 in
theorem l4Node_any (b:Nat) (A1 A2:Option Addr) (n1 c1 n2 c2:Nat) (w:World) (hc:Cur w b) (hn:n1<=maxLen) :
 Calls Tryz.prog 38 #[.pointer (some ⟨b,0,none⟩),.agg #[.slice A1 n1 c1,.slice A2 n2 c2]] w fun e w'=>∃ r:Int,e=.returned (.int .i64 r)/\Cur w' b/\Only b (b+1) w w':=by
 unfold maxLen at hn
 have hlt:=hc.lt
 have hal:=(Below.refl w.heap.size w).alloc (Nat.le_refl _) (.cells #[.slice A1 n1 c1,.slice A2 n2 c2] 27)
 have hbk:=Blk.new w 27 #[.slice A1 n1 c1,.slice A2 n2 c2] _ rfl
 go_enter Tryz.func38,Tryz.ntmps38
 go_wp2_with fail
 refine (l1Once_any b 14 _ (hc.keep hal)).mono ?_
 rintro e w1 ⟨r,rfl,hc1,ho1⟩
 have hbk1:=hbk.only ho1 (.inr (by omega))
 have x0:w1.cell? ⟨w.heap.size,0,none⟩=some (.slice A1 n1 c1):=hbk1.cell 0
 have l0:=hbk1.lt
 have ho1:=(Only.of_below hal b (b+1)).trans ho1
 have HO:=Hd_ ho1
 clear ho1 hbk hbk1 hal
 cases r
 · go_wp2_with fail
   all_goals
    refine (l1Below_any b _ _ hc1).mono ?_
    rintro e w2 ⟨r,rfl,-,hc2,ho2⟩
    go_wp2_with fail
    go_ret
    exact ⟨_,rfl,hc2,HO.out.trans ho2⟩
 · have HSL:=Hd_ (litD_sl w1 3 #[.int .i64 (-1),.int .i64 5,.int .i64 9223372036854775807] [-1,5,9223372036854775807] 3 (b+1) (by omega) (by decide) rfl rfl rfl)
   have hal2:=(Below.refl w1.heap.size w1).alloc (Nat.le_refl _) (.cells #[.int .i64 (-1),.int .i64 5,.int .i64 9223372036854775807] 3)
   have HAL:=Hd_ hal2
   clear hal2
   go_wp2_with fail
   refine (l1PickInt_any b _ _ _ (hc1.keep HAL.out) (by decide) HSL.out).mono ?_
   rintro e w2 ⟨r,rfl,-,hc2,ho2⟩
   go_wp2_with fail
   go_ret
   exact ⟨_,rfl,hc2,HO.out.trans ((Only.of_below HAL.out b (b+1)).trans ho2)⟩
theorem gv_done {b r lo:Nat} {w0 w:World} {v d0 d1:Value} {g:Gr} (h:GrV lo w.heap.size w v g) (hc:Cur w b) (ho:Only b (b+1) w0 w) (hr:w0.heap.size=r) (hlt:b < r/\r < lo) :
 GrV w0.heap.size ((w.setCell ⟨r,0,none⟩ d0).setCell ⟨r,1,none⟩ d1).heap.size ((w.setCell ⟨r,0,none⟩ d0).setCell ⟨r,1,none⟩ d1) v g/\Cur ((w.setCell ⟨r,0,none⟩ d0).setCell ⟨r,1,none⟩ d1) b/\Only b (b+1) w0 ((w.setCell ⟨r,0,none⟩ d0).setCell ⟨r,1,none⟩ d1):=by
 have hp:=Only.put2 w r d0 d1
 exact ⟨(h.only hp (Nat.le_refl _) (.inr (by omega))).mono (by omega) hp.size,hc.only hp (by omega),(ho.setCell (p:=⟨r,0,none⟩) (.inr (by simp only;omega)) _).setCell (p:=⟨r,1,none⟩) (.inr (by simp only;omega)) _⟩
/-- a graph that lies in the block q; the result's block r -/
structure GcR (b r q lo mid hi:Nat) (w0 w:World) (vs es:Value) (xs:List Int) (ys:List Ed):Prop where
 res:Blk w r 27 #[.slice none 0 0,.slice none 0 0]
 blk:Blk w q 27 #[vs,es]
 vals:Own lo mid w 3 cI 1 vs xs
 edges:Own mid hi w 110 cEd 4 es ys
 cur:Cur w b
 only:Only b (b+1) w0 w
 at0:w0.heap.size=r
 ord:b < r/\r < lo/\lo<=mid/\mid<=hi/\hi<=q
section
variable {b r q lo mid hi:Nat} {w0 w w':World} {vs es:Value} {xs:List Int} {ys:List Ed}
theorem GcR.move (h:GcR b r q lo mid hi w0 w vs es xs ys) (ho:Only b (b+1) w w') (hc:Cur w' b):GcR b r q lo mid hi w0 w' vs es xs ys:=by
 have hd:=h.ord
 exact ⟨h.res.only ho (.inr (by omega)),h.blk.only ho (.inr (by omega)),h.vals.only ho (.inr (by omega)),h.edges.only ho (.inr (by omega)),hc,h.only.trans ho,h.at0,hd⟩
theorem GcR.below (h:GcR b r q lo mid hi w0 w vs es xs ys) (hb:Below w.heap.size w w'):GcR b r q lo mid hi w0 w' vs es xs ys:=by
 have hd:=h.ord
 have hq:=h.blk.lt
 exact ⟨h.res.keep hb,h.blk.keep hb,h.vals.below hb (by omega),h.edges.below hb (by omega),h.cur.keep hb,h.only.trans (Only.of_below hb _ _),h.at0,hd⟩
theorem GcR.alloc (h:GcR b r q lo mid hi w0 w vs es xs ys) (o:Obj):GcR b r q lo mid hi w0 (w.alloc o) vs es xs ys:=h.below ((Below.refl _ _).alloc (Nat.le_refl _) _)
theorem GcR.view (h:GcR b r q lo mid hi w0 w vs es xs ys):GrV lo w.heap.size w (.agg #[vs,es]) ⟨xs,ys⟩:=by
 have hd:=h.ord
 have hq:=h.blk.lt
 exact ⟨vs,es,rfl,(h.vals.sl cI_len).mono (Nat.le_refl _) (by omega),(h.edges.sl cEd_len).mono (by omega) (by omega)⟩
theorem GcR.push {ys':List Ed} {g n c:Nat} (h:GcR b r q lo mid hi w0 w vs es xs ys) (hr:w'.ownsRow mid 110 4 (.slice (some ⟨g,0,none⟩) n c) ys'.length (ys'.flatMap cEd)) (hg:w.grownBy w' es.ownBlock) (hat:es.ownBlock=some g ∨ w.heap.size<=g) :
 Blk w' q 27 #[vs,es]/\(GrV lo (w'.setCell ⟨q,1,none⟩ (.slice (some ⟨g,0,none⟩) n c)).heap.size (w'.setCell ⟨q,1,none⟩ (.slice (some ⟨g,0,none⟩) n c)) (.agg #[vs,.slice (some ⟨g,0,none⟩) n c]) ⟨xs,ys'⟩ /\
  Blk (w'.setCell ⟨q,1,none⟩ (.slice (some ⟨g,0,none⟩) n c)) r 27 #[.slice none 0 0,.slice none 0 0]/\Blk (w'.setCell ⟨q,1,none⟩ (.slice (some ⟨g,0,none⟩) n c)) q 27 #[vs,.slice (some ⟨g,0,none⟩) n c] /\
  Cur (w'.setCell ⟨q,1,none⟩ (.slice (some ⟨g,0,none⟩) n c)) b/\Only b (b+1) w0 (w'.setCell ⟨q,1,none⟩ (.slice (some ⟨g,0,none⟩) n c))):=by
 have hd:=h.ord
 have hq:=h.blk.lt
 have hb:=own_below h.edges.1 (by omega) hg
 have hne:es.ownBlock ≠ some q:=fun e=>by have:=h.edges.2 q e;omega
 have hs:=hb.size
 have hgq:g ≠ q:=by
  rcases hat with h1 | h1
  · have:=h.edges.2 g h1;omega
  · omega
 have hbq:Blk w' q 27 #[vs,es]:=(hg.block q hq (fun e=>hne e.symm)).trans h.blk
 have hos:=(Only.refl q (q+1) w').setCell (p:=⟨q,1,none⟩) (.inl ⟨Nat.le_refl _,Nat.lt_succ_self _⟩) (.slice (some ⟨g,0,none⟩) n c)
 have hr2:=ownsRow_block hr (w':=w'.setCell ⟨q,1,none⟩ (.slice (some ⟨g,0,none⟩) n c)) (fun g' hg'=>by cases hg';exact Below.heap_setCell w' ⟨q,1,none⟩ _ g hgq)
 exact ⟨hbq,⟨_,_,rfl,(((h.vals.below hb (Nat.le_refl _)).only hos (.inl (by omega))).sl cI_len).mono (Nat.le_refl _) (Nat.le_trans (by omega) hos.size),((Own.of_row (xs:=ys') hr2 rfl rfl).sl cEd_len).mono (by omega) (Nat.le_refl _)⟩,(h.res.below hb (by omega)).far (by simp only;omega) _,hbq.set_ 1 _,(h.cur.below hb (by omega)).set (by simp only;omega) _,(h.only.andBelow hb (by have:=h.at0;omega)).setCell (.inr (by have:=h.at0;simp only;omega)) _⟩
end
set_option maxHeartbeats 4000000 in
theorem l3Any_any (b:Nat) (w:World) (hc:Cur w b) :
 Calls Tryz.prog 64 #[.pointer (some ⟨b,0,none⟩)] w fun e w'=>∃ v g,e=.returned v/\GrV w.heap.size w'.heap.size w' v g/\(g.vals.length<=5/\g.edges.length<=11)/\Cur w' b/\Only b (b+1) w w':=by
 have hlt:=hc.lt
 have hb0:=(Below.refl w.heap.size w).alloc (Nat.le_refl _) (.cells #[.slice none 0 0,.slice none 0 0] 27)
 have hbr:=Blk.new w 27 #[.slice none 0 0,.slice none 0 0] _ rfl
 go_enter Tryz.func64,Tryz.ntmps64
 go_wp2_with fail
 refine (l3Graph_any b _ (hc.keep hb0)).mono ?_
 rintro e w1 ⟨v,g,rfl,hgo,⟨hg1,hg2,hg3⟩,hc1,ho1⟩
 have hsz:(w.alloc (.cells #[.slice none 0 0,.slice none 0 0] 27)).heap.size=w.heap.size+1:=by simp
 rw [hsz] at hgo
 obtain ⟨vs,es,mid,rfl,hov,hoe,hm1,hm2⟩:=hgo
 obtain ⟨A1,n1,c1,rfl⟩:=hov.shape
 obtain ⟨A2,n2,c2,rfl⟩:=hoe.shape
 have hal:=(Below.refl w1.heap.size w1).alloc (Nat.le_refl _) (.cells #[.slice A1 n1 c1,.slice A2 n2 c2] 27)
 have HG0:=Hd_ (show GcR b w.heap.size w1.heap.size (w.heap.size+1) mid w1.heap.size w (w1.alloc (.cells #[.slice A1 n1 c1,.slice A2 n2 c2] 27)) _ _ g.vals g.edges from
  ⟨(hbr.only ho1 (.inr (by omega))).keep hal,Blk.new w1 _ _ _ rfl,hov.below hal (by omega),hoe.below hal (Nat.le_refl _),hc1.keep hal,((Only.of_below hb0 b (b+1)).trans ho1).trans (Only.of_below hal _ _),rfl,by omega⟩)
 clear hal hsz hov hoe ho1 hc1 hbr hb0
 go_wp2_with fail
 refine (l1Below_any b 14 _ HG0.out.cur).mono ?_
 rintro e w2 ⟨t,rfl,-,hc2,ho2⟩
 have HG:=Hd_ (HG0.out.move ho2 hc2)
 clear HG0 ho2 hc2
 have x0:w2.cell? ⟨w1.heap.size,0,none⟩=some (.slice A1 n1 c1):=HG.out.blk.cell 0
 have x1:w2.cell? ⟨w1.heap.size,1,none⟩=some (.slice A2 n2 c2):=HG.out.blk.cell 1
 have y0:=HG.out.blk.frozen 0
 have y1:=HG.out.blk.frozen 1
 have hlq:=HG.out.blk.lt
 have hlr:=HG.out.res.lt
 have v0:=HG.out.res.frozen 0
 have v1:=HG.out.res.frozen 1
 by_cases ht0:t=0
 · subst ht0
   have z0:w2.cell? ⟨w.heap.size,0,none⟩=some (.slice none 0 0):=HG.out.res.cell 0
   have z1:w2.cell? ⟨w.heap.size,1,none⟩=some (.slice none 0 0):=HG.out.res.cell 1
   have hvr:=HG.out.vals.1
   have hn1:∃ gV,A1=some ⟨gV,0,none⟩/\n1=g.vals.length:=by
    rcases hvr.2 with ⟨_,h2⟩ | ⟨gV,cap,cur,h1,_⟩
    · omega
    · injection h1 with h1 h2 _;exact ⟨gV,h1,h2⟩
   obtain ⟨gV,rfl,rfl⟩:=hn1
   have hvl:=HG.out.vals.lt gV rfl
   have fz0:=World.ownsRow.frozenAt hvr 0
   have cz0:=World.ownsRow.cellAt hvr 0 (by omega)
   have hx0:g.vals[0]?=some g.vals[0]:=List.getElem?_eq_getElem (by omega)
   have hfl:(g.vals.flatMap cI)[0]?=some (.int .i64 g.vals[0]):=by have:=flat_at (E:=cI) (k:=1) cI_len hx0 0 _ rfl;simpa using this
   rw [hfl] at cz0
   clear hfl hx0 hvr
   have h0n:(0:Int) < (g.vals.length:Int):=by omega
   have h0N:0 < g.vals.length:=by omega
   go_wp2_with fail
   refine F_start 5 (fun w'=>w'.cell? ⟨w1.heap.size,0,none⟩=some (.slice (some ⟨gV,0,none⟩) g.vals.length c1)) (by kernel_rfl) (by exact x0) (fun hS inv=>?_)
   refine F_tk 0 inv ?_
   try simp only [tA,tB,tC,Act.put,tE,tF,tG]
   clear inv;intro inv
   refine F_tk 1 inv ?_
   try simp only [tA,tB,tC,Act.put,tE,tF,tG]
   clear inv;intro inv
   refine F_tk 2 inv ?_
   try simp only [tA,tB,tC,Act.put,tE,tF,tG]
   clear inv;intro inv
   refine F_o1 3 inv ?_;intro K hK
   try simp only [tA,tB,tC]
   go_simp
   have hal:=((Below.refl w2.heap.size w2).alloc (Nat.le_refl _) (.cells #[.int .i64 (-1),.int .i64 3,.int .i64 2] 3)).drew
   have HG3:=Hd_ (HG.out.below hal)
   have HL3:=Hd_ (show SlI (b+1) (w2.alloc (.cells #[.int .i64 (-1),.int .i64 3,.int .i64 2] 3)).drew.heap.size (w2.alloc (.cells #[.int .i64 (-1),.int .i64 3,.int .i64 2] 3)).drew cI 1 _ _ from litD_sl w2 3 #[.int .i64 (-1),.int .i64 3,.int .i64 2] [-1,3,2] 3 (b+1) (by omega) (by decide) rfl rfl rfl)
   clear hal
   refine hK.out _ _ ((HG3.out.blk.cell 0)) (fun _ _=>?_)
   try simp only [tA,tB,tC,Act.put,tE,tF,tG]
   clear hK K inv hS;rename_i hS inv
   refine F_o1 4 inv ?_;intro K hK
   try simp only [tA,tB,tC]
   go_simp
   refine (l1PickInt_any b _ _ _ HG3.out.cur (by decide) HL3.out).mono ?_
   rintro e w3 ⟨u,rfl,-,hc3,ho3⟩
   have HG4:=Hd_ (HG3.out.move ho3 hc3)
   clear ho3 hc3 HG3 HL3 x0 x1 y0 y1 v0 v1 z0 z1 fz0 cz0 hlr hlq
   refine hK.out _ _ ((HG4.out.blk.cell 0)) (fun _ _=>?_)
   try simp only [tA,tB,tC,Act.put,tE,tF,tG]
   clear hK K inv hS;rename_i hS inv
   have hvr:=HG4.out.vals.1
   have fz0:=World.ownsRow.frozenAt hvr 0
   have cz0:=World.ownsRow.cellAt hvr 0 (by omega)
   have hx0:g.vals[0]?=some g.vals[0]:=List.getElem?_eq_getElem (by omega)
   have hfl:(g.vals.flatMap cI)[0]?=some (.int .i64 g.vals[0]):=by have:=flat_at (E:=cI) (k:=1) cI_len hx0 0 _ rfl;simpa using this
   rw [hfl] at cz0
   have hst:=(World.ownsRow.stored hvr 0 (.int .i64 u)).1
   rw [flatI_set] at hst
   have HST:=Hd_ hst
   clear hst hfl hx0 hvr
   refine F_tail (i:=5) (by kernel_rfl) rfl rfl (by omega) (fun K hK=>?_)
   try simp only [tA,tB,tC]
   go_simp
   refine hK.out _ _ ?_
   try simp only [tA,tB,tC,Act.put,tE,tF,tG]
   clear hK K
   try clear inv hS
   refine F_l1 6 ?_;intro K hK
   go_simp
   refine hK _ _ ?_
   clear hK K
   have hosv:=(Only.refl gV (gV+1) w3).setCell (p:=⟨gV,0,none⟩) (.inl ⟨Nat.le_refl _,Nat.lt_succ_self _⟩) (.int .i64 u)
   have HW:=Hd_ (show GcR b w.heap.size w1.heap.size (w.heap.size+1) mid w1.heap.size w (w3.setCell ⟨gV,0,none⟩ (.int .i64 u)) _ _ (g.vals.set 0 u) g.edges from
    ⟨HG4.out.res.far (by simp only;omega) _,HG4.out.blk.far (by simp only;omega) _,⟨by simpa using HST.out,HG4.out.vals.2⟩,HG4.out.edges.only hosv (.inr (by omega)),HG4.out.cur.set (by simp only;omega) _,HG4.out.only.setCell (.inr (by simp only;omega)) _,rfl,HG4.out.ord⟩)
   generalize w3.setCell ⟨gV,0,none⟩ (.int .i64 u)=w4 at *
   clear HST hosv fz0 cz0
   have x0:w4.cell? ⟨w1.heap.size,0,none⟩=some (.slice (some ⟨gV,0,none⟩) g.vals.length c1):=HW.out.blk.cell 0
   have x1:w4.cell? ⟨w1.heap.size,1,none⟩=some (.slice A2 n2 c2):=HW.out.blk.cell 1
   have z0:w4.cell? ⟨w.heap.size,0,none⟩=some (.slice none 0 0):=HW.out.res.cell 0
   have z1:w4.cell? ⟨w.heap.size,1,none⟩=some (.slice none 0 0):=HW.out.res.cell 1
   have v0:=HW.out.res.frozen 0
   have v1:=HW.out.res.frozen 1
   have hlr:=HW.out.res.lt
   go_wp2_with fail
   have HD:=gv_done (d0:=.slice (some ⟨gV,0,none⟩) g.vals.length c1) (d1:=.slice A2 n2 c2) HW.out.view HW.out.cur HW.out.only rfl (by omega)
   refine bodyPost_ret (v:=.agg #[.slice (some ⟨gV,0,none⟩) g.vals.length c1,.slice A2 n2 c2]) (by simp [results,Tryz.results64,go_sem,z0,z1,v0,v1]) rfl ⟨_,⟨g.vals.set 0 u,g.edges⟩,rfl,HD.1,⟨by simp;omega,by simp only;omega⟩,HD.2.1,HD.2.2⟩
 have hd0:(t==0)=false:=by simpa using ht0
 by_cases ht1:t=1
 · subst ht1
   go_wp2_with fail
   refine F_start 15 (fun w'=>w'.cell? ⟨w1.heap.size,1,none⟩=some (.slice A2 n2 c2)) (by kernel_rfl) (by exact x1) (fun hS inv=>?_)
   refine F_tk 0 inv ?_
   try simp only [tA,tB,tC,Act.put,tE,tF,tG]
   clear inv;intro inv
   refine F_tk 1 inv ?_
   try simp only [tA,tB,tC,Act.put,tE,tF,tG]
   clear inv;intro inv
   refine F_tk 2 inv ?_
   try simp only [tA,tB,tC,Act.put,tE,tF,tG]
   clear inv;intro inv
   refine F_tk 5 inv ?_
   try simp only [tA,tB,tC,Act.put,tE,tF,tG]
   clear inv;intro inv
   refine F_tk 7 inv ?_
   try simp only [tA,tB,tC,Act.put,tE,tF,tG]
   clear inv;intro inv
   refine F_tk 9 inv ?_
   try simp only [tA,tB,tC,Act.put,tE,tF,tG]
   clear inv;intro inv
   refine F_o1 3 inv ?_;intro K hK
   try simp only [tA,tB,tC]
   go_simp
   have hal:=((Below.refl w2.heap.size w2).alloc (Nat.le_refl _) (.cells #[.int .i64 0,.int .i64 1,.int .i64 99,.int .i64 100] 3)).drew
   have HG3:=Hd_ (HG.out.below hal)
   have HL3:=Hd_ (show SlI (b+1) (w2.alloc (.cells #[.int .i64 0,.int .i64 1,.int .i64 99,.int .i64 100] 3)).drew.heap.size (w2.alloc (.cells #[.int .i64 0,.int .i64 1,.int .i64 99,.int .i64 100] 3)).drew cI 1 _ _ from litD_sl w2 3 #[.int .i64 0,.int .i64 1,.int .i64 99,.int .i64 100] [0,1,99,100] 4 (b+1) (by omega) (by decide) rfl rfl rfl)
   clear hal
   refine hK.out _ _ ((HG3.out.blk.cell 1)) (fun _ _=>?_)
   try simp only [tA,tB,tC,Act.put,tE,tF,tG]
   clear hK K inv hS;rename_i hS inv
   refine F_o1 4 inv ?_;intro K hK
   try simp only [tA,tB,tC]
   go_simp
   refine (l1PickInt_any b _ _ _ HG3.out.cur (by decide) HL3.out).mono ?_
   rintro e w3 ⟨u1,rfl,-,hc3,ho3⟩
   have HG4:=Hd_ (HG3.out.move ho3 hc3)
   clear ho3 hc3 HG3 HL3 x0 x1 y0 y1 v0 v1 hlr hlq
   refine hK.out _ _ ((HG4.out.blk.cell 1)) (fun _ _=>?_)
   try simp only [tA,tB,tC,Act.put,tE,tF,tG]
   clear hK K inv hS;rename_i hS inv
   refine F_o1 6 inv ?_;intro K hK
   try simp only [tA,tB,tC]
   go_simp
   refine (l1Below_any b _ _ HG4.out.cur).mono ?_
   rintro e w4 ⟨u2,rfl,-,hc4,ho4⟩
   have HG5:=Hd_ (HG4.out.move ho4 hc4)
   clear ho4 hc4
   refine hK.out _ _ ((HG5.out.blk.cell 1)) (fun _ _=>?_)
   try simp only [tA,tB,tC,Act.put,tE,tF,tG]
   clear hK K inv hS;rename_i hS inv
   refine F_o1 8 inv ?_;intro K hK
   try simp only [tA,tB,tC]
   go_simp
   refine (l1Below_any b _ _ HG5.out.cur).mono ?_
   rintro e w5 ⟨u3,rfl,-,hc5,ho5⟩
   have HG6:=Hd_ (HG5.out.move ho5 hc5)
   clear ho5 hc5
   refine hK.out _ _ ((HG6.out.blk.cell 1)) (fun _ _=>?_)
   try simp only [tA,tB,tC,Act.put,tE,tF,tG]
   clear hK K inv hS;rename_i hS inv
   refine F_o1 10 inv ?_;intro K hK
   try simp only [tA,tB,tC]
   go_simp
   refine (l1Below_any b _ _ HG6.out.cur).mono ?_
   rintro e w6 ⟨u4,rfl,-,hc6,ho6⟩
   have HG7:=Hd_ (HG6.out.move ho6 hc6)
   clear ho6 hc6 HG4 HG5 HG6
   refine hK.out _ _ ((HG7.out.blk.cell 1)) (fun _ _=>?_)
   try simp only [tA,tB,tC,Act.put,tE,tF,tG]
   clear hK K inv hS;rename_i hS inv
   refine F_tk 11 inv ?_
   try simp only [tA,tB,tC,Act.put,tE,tF,tG]
   clear inv;intro inv
   refine F_o1 12 inv ?_;intro K hK
   try simp only [tA,tB,tC]
   go_simp
   have HG8:=Hd_ (HG7.out.alloc (.cells #[.int .i64 u1,.int .i64 u2,.int .i64 u3,.int .i64 u4] 110))
   refine hK.out _ _ ((HG8.out.blk.cell 1)) (fun _ _=>?_)
   try simp only [tA,tB,tC,Act.put,tE,tF,tG]
   clear hK K inv hS;rename_i hS inv
   refine F_o1 13 inv ?_;intro K hK
   try simp only [tA,tB,tC]
   refine op_append1 cEd elEdD rfl _ _ (by rfl) mid _ g.edges (u1,u2,u3,u4) 1 _ (by rfl) HG8.out.edges.1 (by first | rfl | simp) (heap_alloc_new _ _) rfl (cEd_one _) (by omega) (by omega) (by have h1:=HG8.out.ord;have h2:=HG8.out.blk.lt;omega) ?_
   intro g2 cp2 w9 hown3 hgr3 hat3 hlt3
   have HP:=Hd_ (HG8.out.push hown3 hgr3 hat3)
   clear hown3 hgr3 hat3
   refine hK.out _ _ ((HP.out.1.cell 1)) (fun _ _=>?_)
   try simp only [tA,tB,tC,Act.put,tE,tF,tG]
   clear hK K inv hS;rename_i hS inv
   refine F_tk 14 inv ?_
   try simp only [tA,tB,tC,Act.put,tE,tF,tG]
   clear inv;intro inv
   have y1:=HP.out.1.frozen 1
   have hlq:=HP.out.1.lt
   refine F_l1 15 ?_;intro K hK
   go_simp
   refine hK _ _ ?_
   clear hK K inv hS
   have HW:=Hd_ HP.out.2
   clear HP y1 hlq
   generalize w9.setCell ⟨w1.heap.size,1,none⟩ (.slice (some ⟨g2,0,none⟩) (g.edges.length+1) cp2)=w10 at *
   have x0:w10.cell? ⟨w1.heap.size,0,none⟩=some (.slice A1 n1 c1):=HW.out.2.2.1.cell 0
   have x1:w10.cell? ⟨w1.heap.size,1,none⟩=some (.slice (some ⟨g2,0,none⟩) (g.edges.length+1) cp2):=HW.out.2.2.1.cell 1
   have z0:w10.cell? ⟨w.heap.size,0,none⟩=some (.slice none 0 0):=HW.out.2.1.cell 0
   have z1:w10.cell? ⟨w.heap.size,1,none⟩=some (.slice none 0 0):=HW.out.2.1.cell 1
   have v0:=HW.out.2.1.frozen 0
   have v1:=HW.out.2.1.frozen 1
   have hlr:=HW.out.2.1.lt
   go_wp2_with fail
   have HD:=gv_done (d0:=.slice A1 n1 c1) (d1:=.slice (some ⟨g2,0,none⟩) (g.edges.length+1) cp2) HW.out.1 HW.out.2.2.2.1 HW.out.2.2.2.2 rfl (by omega)
   refine bodyPost_ret (v:=.agg #[.slice A1 n1 c1,.slice (some ⟨g2,0,none⟩) (g.edges.length+1) cp2]) (by simp [results,Tryz.results64,go_sem,z0,z1,v0,v1]) rfl ⟨_,_,rfl,HD.1,⟨by simp only;omega,by simp;omega⟩,HD.2.1,HD.2.2⟩
 have hd1:(t==1)=false:=by simpa using ht1
 by_cases ht2:t=2
 · subst ht2
   go_upto_region 9 with fail
   have HW:=Hd_ (show GcR b w.heap.size w1.heap.size (w.heap.size+1) mid w1.heap.size w (w2.setCell ⟨w1.heap.size,0,none⟩ (.slice none 0 0)) (.slice none 0 0) _ [] g.edges from
    ⟨HG.out.res.far (by simp only;omega) _,HG.out.blk.set_ 0 _,Own.nil _ _ _ _ _ _,HG.out.edges.only ((Only.refl w1.heap.size (w1.heap.size+1) w2).setCell (p:=⟨w1.heap.size,0,none⟩) (.inl ⟨Nat.le_refl _,Nat.lt_succ_self _⟩) _) (.inl (Nat.le_refl _)),HG.out.cur.set (by simp only;omega) _,HG.out.only.setCell (.inr (by simp only;omega)) _,rfl,HG.out.ord⟩)
   generalize w2.setCell ⟨w1.heap.size,0,none⟩ (.slice none 0 0)=w4 at *
   clear x0 x1 v0 v1 y0 y1 hlr hlq
   have x0:w4.cell? ⟨w1.heap.size,0,none⟩=some (.slice none 0 0):=HW.out.blk.cell 0
   have x1:w4.cell? ⟨w1.heap.size,1,none⟩=some (.slice A2 n2 c2):=HW.out.blk.cell 1
   have z0:w4.cell? ⟨w.heap.size,0,none⟩=some (.slice none 0 0):=HW.out.res.cell 0
   have z1:w4.cell? ⟨w.heap.size,1,none⟩=some (.slice none 0 0):=HW.out.res.cell 1
   have v0:=HW.out.res.frozen 0
   have v1:=HW.out.res.frozen 1
   have hlr:=HW.out.res.lt
   go_wp2_with fail
   have HD:=gv_done (d0:=.slice none 0 0) (d1:=.slice A2 n2 c2) HW.out.view HW.out.cur HW.out.only rfl (by omega)
   refine bodyPost_ret (v:=.agg #[.slice none 0 0,.slice A2 n2 c2]) (by simp [results,Tryz.results64,go_sem,z0,z1,v0,v1]) rfl ⟨_,⟨[],g.edges⟩,rfl,HD.1,⟨by simp,by simp only;omega⟩,HD.2.1,HD.2.2⟩
 · have hd2:(t==2)=false:=by simpa using ht2
   have z0:w2.cell? ⟨w.heap.size,0,none⟩=some (.slice none 0 0):=HG.out.res.cell 0
   have z1:w2.cell? ⟨w.heap.size,1,none⟩=some (.slice none 0 0):=HG.out.res.cell 1
   go_wp2_with fail
   have HD:=gv_done (d0:=.slice A1 n1 c1) (d1:=.slice A2 n2 c2) HG.out.view HG.out.cur HG.out.only rfl (by omega)
   refine bodyPost_ret (v:=.agg #[.slice A1 n1 c1,.slice A2 n2 c2]) (by simp [results,Tryz.results64,go_sem,z0,z1,v0,v1]) rfl ⟨_,g,rfl,HD.1,⟨by omega,by omega⟩,HD.2.1,HD.2.2⟩
/-- a graph in the block gq, an automaton in aq; the results' blocks r and r + 1 -/
structure PrR (b r gq aq:Nat) (w0 w:World) (gs es:Value) (g:Gr) (ac nx:Value) (a:Au):Prop where
 res1:Blk w r 27 #[.slice none 0 0,.slice none 0 0]
 res2:Blk w (r+1) 31 #[.int .i64 0,.slice none 0 0,.slice none 0 0]
 gbk:Blk w gq 27 #[gs,es]
 abk:Blk w aq 31 #[.int .i64 a.start,ac,nx]
 gv:∃ lo hi,GrV lo hi w (.agg #[gs,es]) g/\r+2<=lo/\hi<=w.heap.size/\(gq < lo ∨ hi<=gq)/\(aq < lo ∨ hi<=aq)
 av:∃ lo hi,AuV lo hi w (.agg #[.int .i64 a.start,ac,nx]) a/\r+2<=lo/\hi<=w.heap.size/\(gq < lo ∨ hi<=gq)/\(aq < lo ∨ hi<=aq)
 cur:Cur w b
 only:Only b (b+1) w0 w
 at0:w0.heap.size=r
 e12:g.edges.length<=11
 ord:b < r/\r+2<=gq/\gq < aq
def putGA (w:World) (r:Nat) (gs es st ac nx:Value):World:=(((((w.setCell ⟨r,0,none⟩ gs).setCell ⟨r,1,none⟩ es).setCell ⟨r+1,0,none⟩ st).setCell ⟨r+1,1,none⟩ ac).setCell ⟨r+1,2,none⟩ nx).drew
theorem putGA_only (w:World) (r:Nat) (gs es st ac nx:Value):Only r (r+2) w (putGA w r gs es st ac nx):=((((((Only.refl r (r+2) w).setCell (p:=⟨r,0,none⟩) (.inl (by simp only;omega)) _).setCell (p:=⟨r,1,none⟩) (.inl (by simp only;omega)) _).setCell (p:=⟨r+1,0,none⟩) (.inl (by simp only;omega)) _).setCell (p:=⟨r+1,1,none⟩) (.inl (by simp only;omega)) _).setCell (p:=⟨r+1,2,none⟩) (.inl (by simp only;omega)) _).drew
section
variable {b r gq aq:Nat} {w0 w w':World} {gs es:Value} {g:Gr} {ac nx:Value} {a:Au}
theorem PrR.step (h:PrR b r gq aq w0 w gs es g ac nx a) (ho:Only b (b+1) w w') (hc:Cur w' b):PrR b r gq aq w0 w' gs es g ac nx a:=by
 have hd:=h.ord
 obtain ⟨lo,hi,h1,h2,h3,h4⟩:=h.gv
 obtain ⟨lo',hi',k1,k2,k3,k4⟩:=h.av
 exact ⟨h.res1.only ho (.inr (by omega)),h.res2.only ho (.inr (by omega)),h.gbk.only ho (.inr (by omega)),h.abk.only ho (.inr (by omega)),⟨lo,hi,h1.only ho h3 (.inr (by omega)),h2,Nat.le_trans h3 ho.size,h4⟩,⟨lo',hi',k1.only ho k3 (.inr (by omega)),k2,Nat.le_trans k3 ho.size,k4⟩,hc,h.only.trans ho,h.at0,h.e12,hd⟩
theorem PrR.setG {gs' es':Value} {g':Gr} {lo:Nat} (h:PrR b r gq aq w0 w gs es g ac nx a) (hg:GrV lo w.heap.size w (.agg #[gs',es']) g') (he:g'.edges.length<=11) (hlo:aq < lo):PrR b r gq aq w0 ((w.setCell ⟨gq,0,none⟩ gs').setCell ⟨gq,1,none⟩ es') gs' es' g' ac nx a:=by
 have hd:=h.ord
 have h0:=h.at0
 have ho:=Only.put2 w gq gs' es'
 obtain ⟨lo',hi',k1,k2,k3,k4⟩:=h.av
 exact ⟨h.res1.only ho (.inl (by omega)),h.res2.only ho (.inl (by omega)),(h.gbk.set_ 0 gs').set_ 1 es',h.abk.only ho (.inr (by omega)),⟨lo,w.heap.size,hg.only ho (Nat.le_refl _) (.inr (by omega)),by omega,ho.size,.inl (by omega),.inl (by omega)⟩,⟨lo',hi',k1.only ho k3 (by omega),k2,Nat.le_trans k3 ho.size,k4⟩,h.cur.only ho (by omega),
  (h.only.setCell (p:=⟨gq,0,none⟩) (.inr (by simp only;omega)) _).setCell (p:=⟨gq,1,none⟩) (.inr (by simp only;omega)) _,h.at0,he,hd⟩
theorem PrR.setA {ac' nx':Value} {a':Au} {lo:Nat} (h:PrR b r gq aq w0 w gs es g ac nx a) (ha:AuV lo w.heap.size w (.agg #[.int .i64 a'.start,ac',nx']) a') (hlo:aq < lo):PrR b r gq aq w0 (put3 w aq (.int .i64 a'.start) ac' nx') gs es g ac' nx' a':=by
 have hd:=h.ord
 have h0:=h.at0
 have ho:=put3_only w aq (.int .i64 a'.start) ac' nx'
 obtain ⟨lo',hi',k1,k2,k3,k4⟩:=h.gv
 exact ⟨h.res1.only ho (.inl (by omega)),h.res2.only ho (.inl (by omega)),h.gbk.only ho (.inl (by omega)),((h.abk.set_ 0 (.int .i64 a'.start)).set_ 1 ac').set_ 2 nx',⟨lo',hi',k1.only ho k3 (by omega),k2,Nat.le_trans k3 ho.size,k4⟩,⟨lo,w.heap.size,ha.only ho (Nat.le_refl _) (.inr (by omega)),by omega,ho.size,.inl (by omega),.inl (by omega)⟩,h.cur.only ho (by omega),
  ((h.only.setCell (p:=⟨aq,0,none⟩) (.inr (by simp only;omega)) _).setCell (p:=⟨aq,1,none⟩) (.inr (by simp only;omega)) _).setCell (p:=⟨aq,2,none⟩) (.inr (by simp only;omega)) _,h.at0,h.e12,hd⟩
theorem PrR.done (h:PrR b r gq aq w0 w gs es g ac nx a) (v1 v2 v3 v4 v5:Value) :
 GrV w0.heap.size (putGA w r v1 v2 v3 v4 v5).heap.size (putGA w r v1 v2 v3 v4 v5) (.agg #[gs,es]) g/\g.edges.length<=11/\AuV w0.heap.size (putGA w r v1 v2 v3 v4 v5).heap.size (putGA w r v1 v2 v3 v4 v5) (.agg #[.int .i64 a.start,ac,nx]) a/\Cur (putGA w r v1 v2 v3 v4 v5) b/\Only b (b+1) w0 (putGA w r v1 v2 v3 v4 v5):=by
 have hd:=h.ord
 have h0:=h.at0
 have ho:=putGA_only w r v1 v2 v3 v4 v5
 have hs:=ho.size
 obtain ⟨lo,hi,h1,h2,h3,h4⟩:=h.gv
 obtain ⟨lo',hi',k1,k2,k3,k4⟩:=h.av
 exact ⟨(h1.only ho h3 (.inr (by omega))).mono (by omega) (by omega),h.e12,(k1.only ho k3 (.inr (by omega))).mono (by omega) (by omega),h.cur.only ho (by omega),
  (((((h.only.setCell (p:=⟨r,0,none⟩) (.inr (by simp only;omega)) _).setCell (p:=⟨r,1,none⟩) (.inr (by simp only;omega)) _).setCell (p:=⟨r+1,0,none⟩) (.inr (by simp only;omega)) _).setCell (p:=⟨r+1,1,none⟩) (.inr (by simp only;omega)) _).setCell (p:=⟨r+1,2,none⟩) (.inr (by simp only;omega)) _).drew⟩
end
def PairOut (b:Nat) (w:World) (e:Ending) (w':World):Prop:=∃ vg va g a,e=.returned (.tuple #[vg,va])/\(GrV w.heap.size w'.heap.size w' vg g/\g.edges.length<=11/\AuV w.heap.size w'.heap.size w' va a/\Cur w' b/\Only b (b+1) w w')
set_option maxHeartbeats 8000000 in
theorem l14Pair_any (b:Nat) (w:World) (hc:Cur w b) :
 Calls Tryz.prog 37 #[.pointer (some ⟨b,0,none⟩)] w (PairOut b w):=by
 have hbw:=hc.lt
 have hb0:=((Below.refl w.heap.size w).alloc (Nat.le_refl _) (.cells #[.slice none 0 0,.slice none 0 0] 27)).alloc (by simp) (.cells #[.int .i64 0,.slice none 0 0,.slice none 0 0] 31)
 have hb1:=(Blk.new w 27 #[.slice none 0 0,.slice none 0 0] _ rfl).alloc (.cells #[.int .i64 0,.slice none 0 0,.slice none 0 0] 31)
 have hb2:=Blk.new (w.alloc (.cells #[.slice none 0 0,.slice none 0 0] 27)) 31 #[.int .i64 0,.slice none 0 0,.slice none 0 0] (w.heap.size+1) (by simp)
 have hs0:((w.alloc (.cells #[.slice none 0 0,.slice none 0 0] 27)).alloc (.cells #[.int .i64 0,.slice none 0 0,.slice none 0 0] 31)).heap.size=w.heap.size+2:=by simp
 go_enter Tryz.func37,Tryz.ntmps37
 go_wp2_with fail
 refine (l3Graph_any b _ (hc.keep hb0)).mono ?_
 rintro e w1 ⟨v,g,rfl,hgo,⟨-,-,hg10⟩,hc1,ho1⟩
 have hgv:=hgo.view
 obtain ⟨A1,n1,c1,A2,n2,c2,rfl⟩:=hgv.shape
 rw [hs0] at hgv
 have hs1:=ho1.size
 rw [hs0] at hs1
 have hal1:=(Below.refl w1.heap.size w1).alloc (Nat.le_refl _) (.cells #[.slice A1 n1 c1,.slice A2 n2 c2] 27)
 have hgb:=Blk.new w1 27 #[.slice A1 n1 c1,.slice A2 n2 c2] _ rfl
 have hr1:=(hb1.only ho1 (.inr (by omega))).keep hal1
 have hr2:=(hb2.only ho1 (.inr (by omega))).keep hal1
 have hgv1:=hgv.below hal1 (Nat.le_refl _)
 have hcA:=hc1.keep hal1
 have hoA:=((Only.of_below hb0 b (b+1)).trans ho1).trans (Only.of_below hal1 b (b+1))
 have hsA:(w1.alloc (.cells #[.slice A1 n1 c1,.slice A2 n2 c2] 27)).heap.size=w1.heap.size+1:=by simp
 obtain ⟨gq,hgq⟩:∃ gq,gq=w1.heap.size:=⟨_,rfl⟩
 rw [<- hgq] at hs1 hgb hgv1 hsA
 clear hgo hgv hc1 ho1 hb1 hb2 hb0 hs0 hal1 hc
 go_wp2_with fail
 rw [<- hgq]
 generalize w1.alloc (.cells #[.slice A1 n1 c1,.slice A2 n2 c2] 27)=W1 at *
 clear hgq
 refine (l11Aut_any b _ hcA).mono ?_
 rintro e w2 ⟨⟨st,ac,nx,us,acc,nxt,rfl,hau,hnn,ho2⟩,hc2⟩
 clear hnn
 have hav:=hau.view st
 obtain ⟨a,ha⟩:∃ a:Au,a=⟨st,acc,nxt⟩:=⟨_,rfl⟩
 obtain rfl:st=a.start:=by rw [ha]
 rw [<- ha] at hav
 obtain ⟨A3,c3,rfl,-,-,-⟩:=ownSh hau.acc
 obtain ⟨A4,c4,rfl,-,-,-⟩:=ownSh hau.nxt.own
 generalize acc.length=n3 at hav ⊢
 generalize us.length=n4 at hav ⊢
 rw [hsA] at hav
 have hs2:=ho2.size
 rw [hsA] at hs2
 have hal2:=(Below.refl w2.heap.size w2).alloc (Nat.le_refl _) (.cells #[.int .i64 a.start,.slice A3 n3 c3,.slice A4 n4 c4] 31)
 have hsB:w2.heap.size<=(w2.alloc (.cells #[.int .i64 a.start,.slice A3 n3 c3,.slice A4 n4 c4] 31)).heap.size:=hal2.size
 obtain ⟨aq,haq⟩:∃ aq,aq=w2.heap.size:=⟨_,rfl⟩
 have HP:=Hd_ (show PrR b w.heap.size gq aq w (w2.alloc (.cells #[.int .i64 a.start,.slice A3 n3 c3,.slice A4 n4 c4] 31)) _ _ g _ _ a from
  ⟨(hr1.only ho2 (.inr (by omega))).keep hal2,(hr2.only ho2 (.inr (by omega))).keep hal2,(hgb.only ho2 (.inr (by omega))).keep hal2,Blk.new w2 _ _ _ haq,⟨w.heap.size+2,gq,(hgv1.only ho2 (by omega) (.inr (by omega))).below hal2 (by omega),by omega,by omega,.inr (by omega),.inr (by omega)⟩,
    ⟨gq+1,aq,(haq ▸ hav.below hal2 (Nat.le_refl _)),by omega,by omega,.inl (by omega),.inr (by omega)⟩,hc2.keep hal2,(hoA.trans ho2).trans (Only.of_below hal2 b (b+1)),rfl,by omega,by omega⟩)
 clear hau hav ho2 hc2 hr1 hr2 hgb hgv1 hcA hoA hsA hal2 hsB hs2 ha hs1 hg10
 go_upto_region 3 with fail
 rw [<- haq]
 generalize w2.alloc (.cells #[.int .i64 a.start,.slice A3 n3 c3,.slice A4 n4 c4] 31)=W2 at *
 clear haq
 go_wp2_with fail
 refine (l1Once_any b 16 _ HP.out.cur).mono ?_
 rintro e w3 ⟨t,rfl,hc3,ho3⟩
 have HP3:=Hd_ (HP.out.step ho3 hc3)
 clear HP hc3 ho3
 cases t
 · skip
   go_wp2_with fail
   refine (l1Once_any b 16 _ HP3.out.cur).mono ?_
   rintro e w5 ⟨t2,rfl,hc5,ho5⟩
   have HP5:=Hd_ (HP3.out.step ho5 hc5)
   clear HP3 hc5 ho5
   cases t2
   · skip
     have x0:w5.cell? ⟨gq,0,none⟩=some (.slice A1 n1 c1):=HP5.out.gbk.cell 0
     have x1:w5.cell? ⟨gq,1,none⟩=some (.slice A2 n2 c2):=HP5.out.gbk.cell 1
     have y0:w5.cell? ⟨aq,0,none⟩=some (.int .i64 a.start):=HP5.out.abk.cell 0
     have y1:w5.cell? ⟨aq,1,none⟩=some (.slice A3 n3 c3):=HP5.out.abk.cell 1
     have y2:w5.cell? ⟨aq,2,none⟩=some (.slice A4 n4 c4):=HP5.out.abk.cell 2
     have z0:w5.cell? ⟨w.heap.size,0,none⟩=some (.slice none 0 0):=HP5.out.res1.cell 0
     have z1:w5.cell? ⟨w.heap.size,1,none⟩=some (.slice none 0 0):=HP5.out.res1.cell 1
     have z2:w5.cell? ⟨w.heap.size+1,0,none⟩=some (.int .i64 0):=HP5.out.res2.cell 0
     have z3:w5.cell? ⟨w.heap.size+1,1,none⟩=some (.slice none 0 0):=HP5.out.res2.cell 1
     have z4:w5.cell? ⟨w.heap.size+1,2,none⟩=some (.slice none 0 0):=HP5.out.res2.cell 2
     have v0:=HP5.out.res1.frozen 0
     have v1:=HP5.out.res1.frozen 1
     have v2:=HP5.out.res2.frozen 0
     have v3:=HP5.out.res2.frozen 1
     have v4:=HP5.out.res2.frozen 2
     have hlr:=HP5.out.res1.lt
     have hls:=HP5.out.res2.lt
     have hord:=HP5.out.ord
     have q1:¬ aq=w.heap.size:=by omega
     have q2:¬ w.heap.size=aq:=by omega
     have q3:¬ aq=w.heap.size+1:=by omega
     have q4:¬ w.heap.size+1=aq:=by omega
     have q5:¬ gq=w.heap.size:=by omega
     have q6:¬ w.heap.size=gq:=by omega
     have q7:¬ gq=w.heap.size+1:=by omega
     have q8:¬ w.heap.size+1=gq:=by omega
     clear hord
     go_wp2_with fail
     go_region
     have HD:=HP5.out.done (.slice A1 n1 c1) (.slice A2 n2 c2) (.int .i64 a.start) (.slice A3 n3 c3) (.slice A4 n4 c4)
     go_wp2_with fail
     refine bodyPost_ret (v:=.tuple #[.agg #[.slice A1 n1 c1,.slice A2 n2 c2],.agg #[.int .i64 a.start,.slice A3 n3 c3,.slice A4 n4 c4]]) (by simp [results,Tryz.results37,go_sem,z0,z1,z2,z3,z4,v0,v1,v2,v3,v4]) rfl ⟨_,_,_,_,rfl,HD⟩
   · go_wp2_with fail
     refine (l11Any_any b _ HP5.out.cur).mono ?_
     rintro e w6 ⟨va,a',rfl,hau',hc6,ho6⟩
     obtain ⟨A7,n7,c7,A8,n8,c8,rfl⟩:=hau'.shape
     have HP6:=Hd_ (HP5.out.step ho6 hc6)
     have hlt5:=HP5.out.abk.lt
     have f0:=HP6.out.abk.frozen 0
     have f1:=HP6.out.abk.frozen 1
     have f2:=HP6.out.abk.frozen 2
     have u0:w6.cell? ⟨aq,0,none⟩=some (.int .i64 a.start):=HP6.out.abk.cell 0
     have u1:w6.cell? ⟨aq,1,none⟩=some (.slice A3 n3 c3):=HP6.out.abk.cell 1
     have u2:w6.cell? ⟨aq,2,none⟩=some (.slice A4 n4 c4):=HP6.out.abk.cell 2
     have hla:=HP6.out.abk.lt
     have HP7:=Hd_ (HP6.out.setA hau' hlt5)
     clear hc6 ho6 hau' HP5 HP6
     go_upto_region 7 with fail
     change Code.wp _ _ _ _ (put3 w6 aq (.int .i64 a'.start) (.slice A7 n7 c7) (.slice A8 n8 c8))
     generalize put3 w6 aq (.int .i64 a'.start) (.slice A7 n7 c7) (.slice A8 n8 c8)=w7 at *
     clear f0 f1 f2 u0 u1 u2 hla hlt5
     have x0:w7.cell? ⟨gq,0,none⟩=some (.slice A1 n1 c1):=HP7.out.gbk.cell 0
     have x1:w7.cell? ⟨gq,1,none⟩=some (.slice A2 n2 c2):=HP7.out.gbk.cell 1
     have y0:w7.cell? ⟨aq,0,none⟩=some (.int .i64 a'.start):=HP7.out.abk.cell 0
     have y1:w7.cell? ⟨aq,1,none⟩=some (.slice A7 n7 c7):=HP7.out.abk.cell 1
     have y2:w7.cell? ⟨aq,2,none⟩=some (.slice A8 n8 c8):=HP7.out.abk.cell 2
     have z0:w7.cell? ⟨w.heap.size,0,none⟩=some (.slice none 0 0):=HP7.out.res1.cell 0
     have z1:w7.cell? ⟨w.heap.size,1,none⟩=some (.slice none 0 0):=HP7.out.res1.cell 1
     have z2:w7.cell? ⟨w.heap.size+1,0,none⟩=some (.int .i64 0):=HP7.out.res2.cell 0
     have z3:w7.cell? ⟨w.heap.size+1,1,none⟩=some (.slice none 0 0):=HP7.out.res2.cell 1
     have z4:w7.cell? ⟨w.heap.size+1,2,none⟩=some (.slice none 0 0):=HP7.out.res2.cell 2
     have v0:=HP7.out.res1.frozen 0
     have v1:=HP7.out.res1.frozen 1
     have v2:=HP7.out.res2.frozen 0
     have v3:=HP7.out.res2.frozen 1
     have v4:=HP7.out.res2.frozen 2
     have hlr:=HP7.out.res1.lt
     have hls:=HP7.out.res2.lt
     have hord:=HP7.out.ord
     have q1:¬ aq=w.heap.size:=by omega
     have q2:¬ w.heap.size=aq:=by omega
     have q3:¬ aq=w.heap.size+1:=by omega
     have q4:¬ w.heap.size+1=aq:=by omega
     have q5:¬ gq=w.heap.size:=by omega
     have q6:¬ w.heap.size=gq:=by omega
     have q7:¬ gq=w.heap.size+1:=by omega
     have q8:¬ w.heap.size+1=gq:=by omega
     clear hord
     go_wp2_with fail
     go_region
     have HD:=HP7.out.done (.slice A1 n1 c1) (.slice A2 n2 c2) (.int .i64 a'.start) (.slice A7 n7 c7) (.slice A8 n8 c8)
     go_wp2_with fail
     refine bodyPost_ret (v:=.tuple #[.agg #[.slice A1 n1 c1,.slice A2 n2 c2],.agg #[.int .i64 a'.start,.slice A7 n7 c7,.slice A8 n8 c8]]) (by simp [results,Tryz.results37,go_sem,z0,z1,z2,z3,z4,v0,v1,v2,v3,v4]) rfl ⟨_,_,_,_,rfl,HD⟩
 · go_wp2_with fail
   refine (l3Any_any b _ HP3.out.cur).mono ?_
   rintro e w4 ⟨v4,g',rfl,hgv4,⟨-,hg11⟩,hc4,ho4⟩
   obtain ⟨A5,n5,c5,A6,n6,c6,rfl⟩:=hgv4.shape
   have HP4:=Hd_ (HP3.out.step ho4 hc4)
   have hlt3:=HP3.out.abk.lt
   have f0:=HP4.out.gbk.frozen 0
   have f1:=HP4.out.gbk.frozen 1
   have u0:w4.cell? ⟨gq,0,none⟩=some (.slice A1 n1 c1):=HP4.out.gbk.cell 0
   have u1:w4.cell? ⟨gq,1,none⟩=some (.slice A2 n2 c2):=HP4.out.gbk.cell 1
   have hlg:=HP4.out.gbk.lt
   have HPG:=Hd_ (HP4.out.setG hgv4 hg11 hlt3)
   clear hc4 ho4 hgv4 HP3 HP4 hg11
   go_upto_region 5 with fail
   generalize (w4.setCell ⟨gq,0,none⟩ (.slice A5 n5 c5)).setCell ⟨gq,1,none⟩ (.slice A6 n6 c6)=W4 at *
   clear f0 f1 u0 u1 hlg hlt3
   go_wp2_with fail
   refine (l1Once_any b 16 _ HPG.out.cur).mono ?_
   rintro e w5 ⟨t2,rfl,hc5,ho5⟩
   have HP5:=Hd_ (HPG.out.step ho5 hc5)
   clear HPG hc5 ho5
   cases t2
   · skip
     have x0:w5.cell? ⟨gq,0,none⟩=some (.slice A5 n5 c5):=HP5.out.gbk.cell 0
     have x1:w5.cell? ⟨gq,1,none⟩=some (.slice A6 n6 c6):=HP5.out.gbk.cell 1
     have y0:w5.cell? ⟨aq,0,none⟩=some (.int .i64 a.start):=HP5.out.abk.cell 0
     have y1:w5.cell? ⟨aq,1,none⟩=some (.slice A3 n3 c3):=HP5.out.abk.cell 1
     have y2:w5.cell? ⟨aq,2,none⟩=some (.slice A4 n4 c4):=HP5.out.abk.cell 2
     have z0:w5.cell? ⟨w.heap.size,0,none⟩=some (.slice none 0 0):=HP5.out.res1.cell 0
     have z1:w5.cell? ⟨w.heap.size,1,none⟩=some (.slice none 0 0):=HP5.out.res1.cell 1
     have z2:w5.cell? ⟨w.heap.size+1,0,none⟩=some (.int .i64 0):=HP5.out.res2.cell 0
     have z3:w5.cell? ⟨w.heap.size+1,1,none⟩=some (.slice none 0 0):=HP5.out.res2.cell 1
     have z4:w5.cell? ⟨w.heap.size+1,2,none⟩=some (.slice none 0 0):=HP5.out.res2.cell 2
     have v0:=HP5.out.res1.frozen 0
     have v1:=HP5.out.res1.frozen 1
     have v2:=HP5.out.res2.frozen 0
     have v3:=HP5.out.res2.frozen 1
     have v4:=HP5.out.res2.frozen 2
     have hlr:=HP5.out.res1.lt
     have hls:=HP5.out.res2.lt
     have hord:=HP5.out.ord
     have q1:¬ aq=w.heap.size:=by omega
     have q2:¬ w.heap.size=aq:=by omega
     have q3:¬ aq=w.heap.size+1:=by omega
     have q4:¬ w.heap.size+1=aq:=by omega
     have q5:¬ gq=w.heap.size:=by omega
     have q6:¬ w.heap.size=gq:=by omega
     have q7:¬ gq=w.heap.size+1:=by omega
     have q8:¬ w.heap.size+1=gq:=by omega
     clear hord
     go_wp2_with fail
     go_region
     have HD:=HP5.out.done (.slice A5 n5 c5) (.slice A6 n6 c6) (.int .i64 a.start) (.slice A3 n3 c3) (.slice A4 n4 c4)
     go_wp2_with fail
     refine bodyPost_ret (v:=.tuple #[.agg #[.slice A5 n5 c5,.slice A6 n6 c6],.agg #[.int .i64 a.start,.slice A3 n3 c3,.slice A4 n4 c4]]) (by simp [results,Tryz.results37,go_sem,z0,z1,z2,z3,z4,v0,v1,v2,v3,v4]) rfl ⟨_,_,_,_,rfl,HD⟩
   · go_wp2_with fail
     refine (l11Any_any b _ HP5.out.cur).mono ?_
     rintro e w6 ⟨va,a',rfl,hau',hc6,ho6⟩
     obtain ⟨A7,n7,c7,A8,n8,c8,rfl⟩:=hau'.shape
     have HP6:=Hd_ (HP5.out.step ho6 hc6)
     have hlt5:=HP5.out.abk.lt
     have f0:=HP6.out.abk.frozen 0
     have f1:=HP6.out.abk.frozen 1
     have f2:=HP6.out.abk.frozen 2
     have u0:w6.cell? ⟨aq,0,none⟩=some (.int .i64 a.start):=HP6.out.abk.cell 0
     have u1:w6.cell? ⟨aq,1,none⟩=some (.slice A3 n3 c3):=HP6.out.abk.cell 1
     have u2:w6.cell? ⟨aq,2,none⟩=some (.slice A4 n4 c4):=HP6.out.abk.cell 2
     have hla:=HP6.out.abk.lt
     have HP7:=Hd_ (HP6.out.setA hau' hlt5)
     clear hc6 ho6 hau' HP5 HP6
     go_upto_region 7 with fail
     change Code.wp _ _ _ _ (put3 w6 aq (.int .i64 a'.start) (.slice A7 n7 c7) (.slice A8 n8 c8))
     generalize put3 w6 aq (.int .i64 a'.start) (.slice A7 n7 c7) (.slice A8 n8 c8)=w7 at *
     clear f0 f1 f2 u0 u1 u2 hla hlt5
     have x0:w7.cell? ⟨gq,0,none⟩=some (.slice A5 n5 c5):=HP7.out.gbk.cell 0
     have x1:w7.cell? ⟨gq,1,none⟩=some (.slice A6 n6 c6):=HP7.out.gbk.cell 1
     have y0:w7.cell? ⟨aq,0,none⟩=some (.int .i64 a'.start):=HP7.out.abk.cell 0
     have y1:w7.cell? ⟨aq,1,none⟩=some (.slice A7 n7 c7):=HP7.out.abk.cell 1
     have y2:w7.cell? ⟨aq,2,none⟩=some (.slice A8 n8 c8):=HP7.out.abk.cell 2
     have z0:w7.cell? ⟨w.heap.size,0,none⟩=some (.slice none 0 0):=HP7.out.res1.cell 0
     have z1:w7.cell? ⟨w.heap.size,1,none⟩=some (.slice none 0 0):=HP7.out.res1.cell 1
     have z2:w7.cell? ⟨w.heap.size+1,0,none⟩=some (.int .i64 0):=HP7.out.res2.cell 0
     have z3:w7.cell? ⟨w.heap.size+1,1,none⟩=some (.slice none 0 0):=HP7.out.res2.cell 1
     have z4:w7.cell? ⟨w.heap.size+1,2,none⟩=some (.slice none 0 0):=HP7.out.res2.cell 2
     have v0:=HP7.out.res1.frozen 0
     have v1:=HP7.out.res1.frozen 1
     have v2:=HP7.out.res2.frozen 0
     have v3:=HP7.out.res2.frozen 1
     have v4:=HP7.out.res2.frozen 2
     have hlr:=HP7.out.res1.lt
     have hls:=HP7.out.res2.lt
     have hord:=HP7.out.ord
     have q1:¬ aq=w.heap.size:=by omega
     have q2:¬ w.heap.size=aq:=by omega
     have q3:¬ aq=w.heap.size+1:=by omega
     have q4:¬ w.heap.size+1=aq:=by omega
     have q5:¬ gq=w.heap.size:=by omega
     have q6:¬ w.heap.size=gq:=by omega
     have q7:¬ gq=w.heap.size+1:=by omega
     have q8:¬ w.heap.size+1=gq:=by omega
     clear hord
     go_wp2_with fail
     go_region
     have HD:=HP7.out.done (.slice A5 n5 c5) (.slice A6 n6 c6) (.int .i64 a'.start) (.slice A7 n7 c7) (.slice A8 n8 c8)
     go_wp2_with fail
     refine bodyPost_ret (v:=.tuple #[.agg #[.slice A5 n5 c5,.slice A6 n6 c6],.agg #[.int .i64 a'.start,.slice A7 n7 c7,.slice A8 n8 c8]]) (by simp [results,Tryz.results37,go_sem,z0,z1,z2,z3,z4,v0,v1,v2,v3,v4]) rfl ⟨_,_,_,_,rfl,HD⟩
end Go.Proofs.YteaplabkemoenaaGreat
