/- Parts of the proof, joined into one text: ParE, KnoE, AnyA, AnyB, DrwN, DrwA, PairD, AutI, SetI, GraphI, BothI, ArcM. -/
import Derived.Test.YtjpdembmchnbgaaGreatOnlzADEMAGKM
import Derived.Test.YtjpdembmchnbgaaGreatOnlzCIIIGEOP
import Derived.RegionTactic
import Derived.BigRegion
import Derived.Test.YtjpdembmchnbgaaGreatOnlzOBDJDCGC
import Derived.Test.YtjpdembmchnbgaaGreatOnlzBJPCHMFC
set_option linter.unusedVariables false
set_option linter.unusedSimpArgs false
namespace Go.Proofs.YtjpdembmchnbgaaGreat
open Go.ChangeShapes Go.WideShapes Go.ChangeAt Go.RowKit
attribute [local go_sem] ext_cell ext_frozen ext_lt ext_lt1 ext_lt2 ext_lt3 ltn2 ltn3 ltn13 lts1 lts2 lts3
def cS (s:ByteArray):List Value:=[.string s]
theorem cS_len (x:ByteArray):(cS x).length=1:=rfl
theorem cS_one (x:ByteArray):∀ u ∈ cS x,u.oneCell'=true:=by intro u hu;simp only [cS,List.mem_cons,List.not_mem_nil,or_false] at hu;subst hu;rfl
theorem elStr:ElemOk Tryz.prog 211 9 (.string ⟨#[]⟩) 1 16:=⟨Tryz.underlying211,by kernel_rfl,rfl,by omega⟩
theorem kcell_own {w w':World} {base k n:Nat} {e:TypeId} {v:Value} {cs:List Value} (hg:w.grownBy w' v.ownBlock) (h:w.ownsRow base e k v n cs) {p:Addr} {u:Value} (hc:w.cell? p=some u) (hp:p.block < base):w'.cell? p=some u :=
 hg.cell hc (fun e=>by have:=(h.lt p.block e.symm).1;omega)
set_option maxHeartbeats 4000000 in
theorem l2Cut_any (s:ByteArray) (w:World) (hs:s.size<=1000) :
 Calls Tryz.prog 207 #[.string s,.int .u8 32] w fun e w'=>∃ v L,e=.returned v/\Own w.heap.size w'.heap.size w' 9 cS 1 v L/\(L.length<=1001/\∀ x ∈ L,x.size<=maxLen)/\Below w.heap.size w w':=by
 have hal:=(Below.refl w.heap.size w).alloc (Nat.le_refl _) (.cells #[] 9)
 have hrl:=World.ownsRow_lit (base:=w.heap.size) (e:=9) (size:=1) w #[] 0 (Nat.le_refl _) (by decide) rfl
 go_enter Tryz.func207,Tryz.ntmps207
 go_wp2
 go_loopw [5,6,7] (fun oo ff ii wr=>∃ (i f:Nat) (L:List ByteArray),i<=s.size/\f<=i/\L.length<=i/\(∀ x ∈ L,x.size<=maxLen)/\ff=.int .i64 (f:Int)/\ii=.int .i64 (i:Int)/\wr.ownsRow w.heap.size 9 1 oo L.length (L.flatMap cS)/\Below w.heap.size w wr) (fun _ _ ii _=>s.size - (intOf ii).toNat)
 case atStart=>exact ⟨0,0,[],by omega,by omega,by simp,by simp,rfl,rfl,hrl,hal⟩
 case round =>
  obtain ⟨i,f,L,hi,hf,hL,hx,rfl,rfl,hrow,hb⟩:=hrel
  obtain ⟨A,n,c,rfl⟩:=rowShape hrow
  have HX:=Hd_ hx
  have HR:=Hd_ hrow
  have HB:=Hd_ hb
  clear hx hrow hb hal hrl
  by_cases hlt:i < s.size
  · have hii:(i:Int) < (s.size:Int):=by omega
    cases hc:((s[i].toNat:Int)==32)
    · go_wp2_with fail
      go_roundw
      case rel=>exact ⟨i+1,f,L,by omega,by omega,by omega,HX.out,rfl,by go_num,HR.out,HB.out⟩
      case measure=>simp [intOf];omega
    · go_wp2_with (at_builtin;(refine wpList_append2 cS elStr rfl _ _ (by rfl) w.heap.size _ L (s.extract f i) 1 _ (by rfl) (HR.out.alloc _) (by rfl) (heap_alloc_new _ _) rfl (cS_one _) (by omega) (by omega) (by have:=HB.out.size;simp;omega) ?_);intro g2 cp2 w9 hown3 hgr3 hat3 hlt3;have HR9:=Hd_ hown3;have HB9:=Hd_ ((HB.out.alloc HB.out.size (.cells #[.string (s.extract f i)] 9)).trans (own_below (HR.out.alloc (.cells #[.string (s.extract f i)] 9)) (by have:=HB.out.size;simp;omega) hgr3));clear hown3 hgr3 hat3)
      have hxs:(s.extract f i).size<=maxLen:=by rw [ByteArray.size_extract];unfold maxLen;omega
      have HXS:=Hd_ hxs
      clear hxs
      go_roundw
      case rel=>exact ⟨i+1,i+1,L ++ [s.extract f i],by omega,by omega,by simp;omega,fun x hx=>by rcases List.mem_append.1 hx with h | h;exact HX.out x h;rw [List.mem_singleton] at h;rw [h];exact HXS.out,by go_num,by go_num,HR9.out,HB9.out⟩
      case measure=>simp [intOf];omega
  · obtain rfl:i=s.size:=by omega
    go_wp2_with (at_builtin;(refine wpList_append2 cS elStr rfl _ _ (by rfl) w.heap.size _ L (s.extract f s.size) 1 _ (by rfl) (HR.out.alloc _) (by rfl) (heap_alloc_new _ _) rfl (cS_one _) (by omega) (by omega) (by have:=HB.out.size;simp;omega) ?_);intro g2 cp2 w9 hown3 hgr3 hat3 hlt3;have HR9:=Hd_ hown3;have HB9:=Hd_ ((HB.out.alloc HB.out.size (.cells #[.string (s.extract f s.size)] 9)).trans (own_below (HR.out.alloc (.cells #[.string (s.extract f s.size)] 9)) (by have:=HB.out.size;simp;omega) hgr3));clear hown3 hgr3 hat3)
    have hxs:(s.extract f s.size).size<=maxLen:=by rw [ByteArray.size_extract];unfold maxLen;omega
    go_ret
    exact ⟨_,L ++ [s.extract f s.size],rfl,Own.of_row HR9.out rfl rfl,⟨by simp;omega,fun x hx=>by rcases List.mem_append.1 hx with h | h;exact HX.out x h;rw [List.mem_singleton] at h;rw [h];exact hxs⟩,HB9.out⟩
/-- an expression that is being read: in the block behind the result's -/
structure PaR (w0 w1 w:World) (ss:Value) (T:List Tok):Prop where
 res:Blk w w0.heap.size 164 #[.slice none 0 0]
 blk:Blk w (w0.heap.size+1) 164 #[ss]
 row:w.ownsRow w1.heap.size 184 4 ss T.length (T.flatMap cEd)
 only:Only (w0.heap.size+1) (w0.heap.size+2) w1 w
 base:Below w0.heap.size w0 w1
 le:w0.heap.size+2<=w1.heap.size
theorem PaR.below {w0 w1 w w':World} {ss:Value} {T:List Tok} (h:PaR w0 w1 w ss T) (hb:Below w.heap.size w w'):PaR w0 w1 w' ss T :=
 ⟨h.res.keep hb,h.blk.keep hb,ownsRow_below h.row hb (Nat.le_refl _),h.only.trans (Only.of_below hb _ _),h.base,h.le⟩
theorem PaR.push {w0 w1 w w':World} {ss:Value} {T T':List Tok} {g n c:Nat} (h:PaR w0 w1 w ss T) (hr:w'.ownsRow w1.heap.size 184 4 (.slice (some ⟨g,0,none⟩) n c) T'.length (T'.flatMap cEd)) (hg:w.grownBy w' ss.ownBlock) :
 Blk w' (w0.heap.size+1) 164 #[ss]/\PaR w0 w1 (w'.setCell ⟨w0.heap.size+1,0,none⟩ (.slice (some ⟨g,0,none⟩) n c)) (.slice (some ⟨g,0,none⟩) n c) T':=by
 have hl:=h.le
 have hb:=own_below h.row h.only.size hg
 have hgl:=(hr.lt g rfl).1
 have hbq:=h.blk.below hb (by omega)
 exact ⟨hbq,(h.res.below hb (by omega)).far (by simp only;omega) _,hbq.set_ 0 _,ownsRow_block hr (fun g' hg'=>by cases hg';exact Below.heap_setCell w' ⟨w0.heap.size+1,0,none⟩ _ g (by simp only;omega)),(h.only.andBelow hb (Nat.le_refl _)).setCell (p:=⟨w0.heap.size+1,0,none⟩) (.inl (by simp only;omega)) _,h.base,hl⟩
theorem PaR.done {w0 w1 w:World} {ss:Value} {T:List Tok} (h:PaR w0 w1 w ss T) :
 TkV w0.heap.size (w.setCell ⟨w0.heap.size,0,none⟩ ss).heap.size (w.setCell ⟨w0.heap.size,0,none⟩ ss) (.agg #[ss]) T/\T.length<=T.length/\Below w0.heap.size w0 (w.setCell ⟨w0.heap.size,0,none⟩ ss):=by
 have hl:=h.le
 have ho:=(Only.refl w0.heap.size (w0.heap.size+1) w).setCell (p:=⟨w0.heap.size,0,none⟩) (.inl ⟨Nat.le_refl _,Nat.lt_succ_self _⟩) ss
 exact ⟨⟨ss,rfl,(((Own.of_row (xs:=T) h.row rfl rfl).only ho (.inr (by omega))).sl cEd_len).mono (by omega) ho.size⟩,Nat.le_refl _,(h.base.trans (h.only.below (by omega) (by omega))).setCell (p:=⟨w0.heap.size,0,none⟩) (Nat.le_refl _) _⟩
theorem PaR.off {w0 w1 w:World} {ss:Value} {T:List Tok} (h:PaR w0 w1 w ss T) :
 TkV w0.heap.size (w.setCell ⟨w0.heap.size,0,none⟩ (.slice none 0 0)).heap.size (w.setCell ⟨w0.heap.size,0,none⟩ (.slice none 0 0)) (.agg #[.slice none 0 0]) []/\([]:List Tok).length<=100/\Below w0.heap.size w0 (w.setCell ⟨w0.heap.size,0,none⟩ (.slice none 0 0)) :=
 ⟨TkV.nil _ _ _,by simp,(h.base.trans (h.only.below (by omega) (by have:=h.base.size;omega))).setCell (p:=⟨w0.heap.size,0,none⟩) (Nat.le_refl _) _⟩
theorem PaR.view {w0 w1 w:World} {ss:Value} {T:List Tok} (h:PaR w0 w1 w ss T):SlE w cEd 4 ss T:=((Own.of_row (xs:=T) h.row rfl rfl).sl cEd_len).mono (Nat.zero_le _) (Nat.le_refl _)
set_option maxHeartbeats 8000000 in
theorem parseExpr_any (s:ByteArray) (w:World) (hs:s.size<=1000) :
 Calls Tryz.prog 183 #[.string s] w fun e w'=>∃ v l is,e=.returned (.tuple #[v,.bool is])/\(TkV w.heap.size w'.heap.size w' v l/\l.length<=100/\Below w.heap.size w w'):=by
 have hb0:=((Below.refl w.heap.size w).alloc (Nat.le_refl _) (.cells #[.slice none 0 0] 164)).alloc (by simp) (.cells #[.slice none 0 0] 164)
 have b1:=(Blk.new w 164 #[.slice none 0 0] _ rfl).alloc (.cells #[.slice none 0 0] 164)
 have b2:=Blk.new (w.alloc (.cells #[.slice none 0 0] 164)) 164 #[.slice none 0 0] (w.heap.size+1) (by simp)
 have hs0:((w.alloc (.cells #[.slice none 0 0] 164)).alloc (.cells #[.slice none 0 0] 164)).heap.size=w.heap.size+2:=by simp
 go_enter Tryz.func183,Tryz.ntmps183
 go_wp2_with fail
 generalize ((w.alloc (.cells #[.slice none 0 0] 164)).alloc (.cells #[.slice none 0 0] 164))=W0 at *
 refine (l2Cut_any s _ hs).mono ?_
 rintro e w1 ⟨v1,L,rfl,hoL,⟨hL,hxL⟩,hb1⟩
 have hc1:=b1.keep hb1
 have hc2:=b2.keep hb1
 have hbw:=below_trans hb0 hb1
 have hsz:=hb1.size
 rw [hs0] at hoL hsz
 obtain ⟨AL,cL,rfl,hlL,hmL,hxx⟩:=hoL.sl cS_len
 unfold maxLen at hmL
 obtain ⟨n,hn⟩:∃ n,n=L.length:=⟨_,rfl⟩
 rw [<- hn] at hL hlL ⊢
 have HN:=Hd_ hn
 have HXX:=Hd_ hxx
 have HXL:=Hd_ hxL
 clear hoL hxx hxL hb0 hb1 b1 b2 hs0 hn
 go_wp2_with fail
 have HP0:=Hd_ (show PaR w w1 w1 (.slice none 0 0) [] from ⟨hc1,hc2,World.ownsRow_nil _ _ _ 4,Only.refl _ _ _,hbw,hsz⟩)
 clear hc1 hc2 hbw hsz
 go_loopw [6] (fun ii wr=>∃ (i:Nat) (ss:Value) (T:List Tok),i<=25/\ii=.int .i64 (i:Int)/\T.length=i/\PaR w w1 wr ss T) (fun ii _=>30 - (intOf ii).toNat)
 case atStart=>exact ⟨0,_,[],by omega,rfl,rfl,HP0.out⟩
 case round =>
  obtain ⟨i,ss,T,hi,rfl,hT,hP⟩:=hrel
  have HT:=Hd_ hT
  have hTl:T.length<=25:=by omega
  obtain ⟨A3,n3,c3,rfl⟩:=rowShape hP.row
  have HP:=Hd_ hP
  have x0:wr.cell? ⟨w.heap.size+1,0,none⟩=some (.slice A3 n3 c3):=hP.blk.cell 0
  clear hT hP HP0
  by_cases hlt:i < n
  · have hin:(i:Int) < (n:Int):=by omega
    by_cases h24:i<=24
    · have hi24:(i:Int)<=24:=by omega
      have hxi:L[i]?=some L[i]:=List.getElem?_eq_getElem (by have:=HN.out;omega)
      obtain ⟨q,o,rfl,hq0,hq1,hcc⟩:=HXX.out i _ hxi
      have hxs:=HXL.out _ (List.mem_of_getElem? hxi)
      generalize L[i]=x at hcc hxs
      have e0:=(HP.out.only.cell (p:=⟨q,o+i * 1+0,none⟩) hq1 (.inr (by simp only;omega))).trans (hcc 0 _ rfl)
      simp only [Nat.add_zero,Nat.mul_one] at e0
      have HXS:=Hd_ hxs
      clear hcc hxi hxs
      go_wp2_with fail
      refine F_start 10 (fun w'=>w'.cell? ⟨w.heap.size+1,0,none⟩=some (.slice A3 n3 c3)/\w'.cell? ⟨q,o+i,none⟩=some (.string x)) (by kernel_rfl) (by exact ⟨x0,e0⟩) (fun hS inv=>?_)
      refine F_tk 0 inv ?_
      try simp only [tA,tB,tC,Act.put,tE,tF,tG]
      clear inv;intro inv
      refine F_tk 1 inv ?_
      try simp only [tA,tB,tC,Act.put,tE,tF,tG]
      clear inv;intro inv
      refine F_tk 2 inv ?_
      try simp only [tA,tB,tC,Act.put,tE,tF,tG]
      clear inv;intro inv
      refine F_tk 3 inv ?_
      try simp only [tA,tB,tC,Act.put,tE,tF,tG]
      clear inv;intro inv
      refine F_tk 4 inv ?_
      try simp only [tA,tB,tC,Act.put,tE,tF,tG]
      clear inv;intro inv
      refine F_tk 5 inv ?_
      try simp only [tA,tB,tC,Act.put,tE,tF,tG]
      clear inv;intro inv
      have HPd:=Hd_ (HP.out.below ((Below.refl _ _).drew))
      clear HP x0 e0
      refine F_o1 6 inv ?_;intro K hK
      try simp only [tA,tB,tC]
      go_simp
      refine (l8Read_any x _ HXS.out).mono ?_
      rintro e w2 ⟨⟨t0,t1,t2,t3⟩,rfl,hb2⟩
      have HP2:=Hd_ (HPd.out.below hb2)
      refine hK.out _ _ (⟨HP2.out.blk.cell 0,kcell hb2 hS.2⟩) (fun _ _=>?_)
      try simp only [tA,tB,tC,Act.put,tE,tF,tG]
      clear hK K inv hS;rename_i hS inv
      clear HPd
      refine F_o1 7 inv ?_;intro K hK
      try simp only [tA,tB,tC]
      go_simp
      have hal:=(Below.refl w2.heap.size w2).alloc (Nat.le_refl _) (.cells #[.int .i64 t0,.int .i64 t1,.int .i64 t2,.int .i64 t3] 184)
      have HP3:=Hd_ (HP2.out.below hal)
      refine hK.out _ _ (⟨HP3.out.blk.cell 0,kcell hal hS.2⟩) (fun _ _=>?_)
      try simp only [tA,tB,tC,Act.put,tE,tF,tG]
      clear hK K inv hS;rename_i hS inv
      clear HP2 hal
      refine F_o1 8 inv ?_;intro K hK
      try simp only [tA,tB,tC]
      refine op_append1 cEd elTok rfl _ _ (by rfl) w1.heap.size _ T (t0,t1,t2,t3) 1 _ (by rfl) HP3.out.row (by first | rfl | simp) (heap_alloc_new _ _) rfl (cEd_one _) (by omega) (by omega) HP3.out.only.size ?_
      intro g2 cp2 w9 hown3 hgr3 hat3 hlt3
      have HQ:=Hd_ (HP3.out.push hown3 hgr3)
      have hq3:w9.cell? ⟨q,o+i,none⟩=some (.string x):=kcell_own hgr3 HP3.out.row hS.2 (by simp only;omega)
      clear hown3 hgr3 hat3
      refine hK.out _ _ (⟨HQ.out.1.cell 0,hq3⟩) (fun _ _=>?_)
      try simp only [tA,tB,tC,Act.put,tE,tF,tG]
      clear hK K inv hS;rename_i hS inv
      clear hq3
      refine F_tk 9 inv ?_
      try simp only [tA,tB,tC,Act.put,tE,tF,tG]
      clear inv;intro inv
      have f0:=HQ.out.1.frozen 0
      have hlq:=HQ.out.1.lt
      refine F_l1 10 ?_;intro K hK
      go_simp
      refine hK _ _ ?_
      clear hK K inv hS
      have HQ2:=Hd_ HQ.out.2
      clear HQ f0 hlq HP3
      go_wp2_with fail
      go_roundw
      case rel=>exact ⟨i+1,_,_,by omega,by go_num,by simp [HT.out],HQ2.out⟩
      case measure=>simp [intOf];omega
    · have hi24:¬ (i:Int)<=24:=by omega
      go_wp2_with fail
      refine (isValidExpr_any _ T _ HP.out.view).mono ?_
      rintro e w9 ⟨rfl,hb9⟩
      generalize okE T=ok
      have HP9:=Hd_ (HP.out.below hb9)
      clear hb9 x0 HP
      have x0:w9.cell? ⟨w.heap.size+1,0,none⟩=some (.slice A3 n3 c3):=HP9.out.blk.cell 0
      have z0:w9.cell? ⟨w.heap.size,0,none⟩=some (.slice none 0 0):=HP9.out.res.cell 0
      have v0:=HP9.out.res.frozen 0
      have hlr:=HP9.out.res.lt
      cases ok
      · go_wp2_with fail
        exact bodyPost_ret (v:=.tuple #[.agg #[.slice none 0 0],.bool false]) (by simp [results,Tryz.results183,go_sem,z0,v0,hlr]) rfl ⟨_,[],_,rfl,HP9.out.off⟩
      · go_wp2_with fail
        have HD:=HP9.out.done
        exact bodyPost_ret (v:=.tuple #[.agg #[.slice A3 n3 c3],.bool true]) (by simp [results,Tryz.results183,go_sem,z0,v0,hlr]) rfl ⟨_,T,_,rfl,HD.1,by omega,HD.2.2⟩
  · have hin:¬ (i:Int) < (n:Int):=by omega
    go_wp2_with fail
    refine (isValidExpr_any _ T _ HP.out.view).mono ?_
    rintro e w9 ⟨rfl,hb9⟩
    generalize okE T=ok
    have HP9:=Hd_ (HP.out.below hb9)
    clear hb9 x0 HP
    have x0:w9.cell? ⟨w.heap.size+1,0,none⟩=some (.slice A3 n3 c3):=HP9.out.blk.cell 0
    have z0:w9.cell? ⟨w.heap.size,0,none⟩=some (.slice none 0 0):=HP9.out.res.cell 0
    have v0:=HP9.out.res.frozen 0
    have hlr:=HP9.out.res.lt
    cases ok
    · go_wp2_with fail
      exact bodyPost_ret (v:=.tuple #[.agg #[.slice none 0 0],.bool false]) (by simp [results,Tryz.results183,go_sem,z0,v0,hlr]) rfl ⟨_,[],_,rfl,HP9.out.off⟩
    · go_wp2_with fail
      have HD:=HP9.out.done
      exact bodyPost_ret (v:=.tuple #[.agg #[.slice A3 n3 c3],.bool true]) (by simp [results,Tryz.results183,go_sem,z0,v0,hlr]) rfl ⟨_,T,_,rfl,HD.1,by omega,HD.2.2⟩
def strOk (v:Value):Bool:=match v with | .string s=>decide (s.size<=1000) | _=>false
theorem strOk_of {v:Value} (h:strOk v=true):∃ s,v=.string s/\s.size<=1000:=by
 unfold strOk at h
 split at h
 · exact ⟨_,rfl,by simpa using h⟩
 · cases h
set_option maxHeartbeats 1000000 in
/-- a text picked out of a list that was just laid -/
theorem l1Pick_lit (b n:Nat) (cs:Array Value) (e:TypeId) (w:World) (hc:Cur w b) (hn:0 < n) (hm:n<=1000) (hcs:cs.size=n) (hall:cs.toList.all strOk=true) :
 Calls Tryz.prog 184 #[.pointer (some ⟨b,0,none⟩),.slice (some ⟨w.heap.size,0,none⟩) n n] (w.alloc (.cells cs e)) fun e' w'=>∃ r,e'=.returned (.string r)/\r.size<=1000/\Cur w' b/\Only b (b+1) (w.alloc (.cells cs e)) w':=by
 have hlt:=hc.lt
 have hal:=(Below.refl w.heap.size w).alloc (Nat.le_refl _) (.cells cs e)
 have hbk:=Blk.new w e cs _ rfl
 have HALL:=Hd_ hall
 have HCS:=Hd_ hcs
 have HC:=Hd_ (hc.keep hal)
 generalize hW:w.alloc (.cells cs e)=W at *
 clear hall hcs hal hW hc
 go_enter Tryz.func184,Tryz.ntmps184
 go_wp2_with fail
 refine (l1Below_any b _ _ HC.out).mono ?_;rintro e1 w1 ⟨r,rfl,⟨h0,-,h1⟩,hc1,ho1⟩
 have h1:=h1 (by omega)
 obtain ⟨i,rfl⟩:=Int.eq_ofNat_of_zero_le h0
 have hi:i < cs.size:=by have:=HCS.out;omega
 have hbk1:=hbk.only ho1 (.inr (by omega))
 have hci:=hbk1.cell i
 rw [Array.getElem?_eq_getElem hi] at hci
 obtain ⟨s,hs,hs2⟩:=strOk_of (List.all_eq_true.1 HALL.out cs[i] (by simp))
 rw [hs] at hci
 have HS2:=Hd_ hs2
 clear hs hs2 hbk hbk1
 go_wp2_with fail
 go_ret
 exact ⟨_,rfl,HS2.out,hc1,ho1⟩
set_option maxRecDepth 100000 in
set_option maxHeartbeats 4000000 in
theorem l8Known_any (b:Nat) (w:World) (hc:Cur w b) :
 Calls Tryz.prog 161 #[.pointer (some ⟨b,0,none⟩)] w fun e w'=>∃ v l,e=.returned v/\TkV w.heap.size w'.heap.size w' v l/\l.length<=100/\Cur w' b/\Only b (b+1) w w':=by
 have hlt:=hc.lt
 have hb0:=(Below.refl w.heap.size w).alloc (Nat.le_refl _) (.cells #[.slice none 0 0] 164)
 have hbr:=Blk.new w 164 #[.slice none 0 0] _ rfl
 go_enter Tryz.func161,Tryz.ntmps161
 go_upto_region 1 with fail
 generalize w.alloc (.cells #[.slice none 0 0] 164)=W0 at *
 go_wp2_with fail
 refine (l1Pick_lit b _ _ _ _ (hc.keep hb0) (by decide) (by decide) (by rfl) (by kernel_rfl)).mono ?_
 rintro e w1 ⟨s,rfl,hs1,hc1,ho1⟩
 have hbr1:=(hbr.alloc _).only ho1 (.inr (by omega))
 have HO1:=Hd_ (((Only.of_below hb0 b (b+1)).alloc _).trans ho1)
 have hl1:=hbr1.lt
 have HC1:=Hd_ hc1
 clear ho1 hbr hb0 hc1
 go_wp2_with fail
 refine (parseExpr_any s _ hs1).mono ?_
 rintro e w2 ⟨v,l,is,rfl,hv,hl,hb2⟩
 obtain ⟨ss,rfl,hsv⟩:=hv
 obtain ⟨A,n,c,rfl⟩:=hsv.shape
 have hal:=(Below.refl w2.heap.size w2).alloc (Nat.le_refl _) (.cells #[.slice A n c] 164)
 have hbA:=below_trans hb2 hal
 have hbr2:=hbr1.keep hbA
 have HT:=Hd_ (show TkV (w.heap.size+1) _ _ (.agg #[.slice A n c]) l from ⟨_,rfl,(hsv.below hal (Nat.le_refl _)).mono (by omega) hal.size⟩)
 have HC2:=Hd_ (HC1.out.keep hbA)
 have HO2:=Hd_ (HO1.out.trans (Only.of_below hbA b (b+1)))
 have hbn:=Blk.new w2 164 #[.slice A n c] _ rfl
 have HL:=Hd_ hl
 clear hsv hbA hb2 hal hbr1 hl hs1
 go_upto_region 2 with fail
 generalize w2.alloc (.cells #[.slice A n c] 164)=W2 at *
 have x0:W2.cell? ⟨w2.heap.size,0,none⟩=some (.slice A n c):=hbn.cell 0
 have z0:W2.cell? ⟨w.heap.size,0,none⟩=some (.slice none 0 0):=hbr2.cell 0
 have v0:=hbr2.frozen 0
 have hlr:=hbr2.lt
 clear hbn hbr2
 go_wp2_with fail
 have HD:=tk_done HT.out HC2.out HO2.out rfl hlt (.slice A n c)
 exact bodyPost_ret (v:=.agg #[.slice A n c]) (by simp [results,Tryz.results161,go_sem,z0,v0,hlr]) rfl ⟨_,l,rfl,HD.1,HL.out,HD.2.1,HD.2.2⟩
set_option maxHeartbeats 4000000 in
theorem l8Expr_any (b:Nat) (w:World) (hc:Cur w b) :
 Calls Tryz.prog 133 #[.pointer (some ⟨b,0,none⟩)] w fun e w'=>∃ v l,e=.returned v/\TkV w.heap.size w'.heap.size w' v l/\l.length<=100/\Cur w' b/\Only b (b+1) w w':=by
 have hlt:=hc.lt
 have hb0:=(Below.refl w.heap.size w).alloc (Nat.le_refl _) (.cells #[.slice none 0 0] 164)
 have hbr:=Blk.new w 164 #[.slice none 0 0] _ rfl
 go_enter Tryz.func133,Tryz.ntmps133
 go_wp2_with fail
 refine (l1Once_any b 2 _ (hc.keep hb0)).mono ?_
 rintro e w1 ⟨r,rfl,hc1,ho1⟩
 have hbr1:=hbr.only ho1 (.inr (by omega))
 have hl1:=hbr1.lt
 have HO1:=Hd_ ((Only.of_below hb0 b (b+1)).trans ho1)
 clear hbr ho1 hb0
 cases r
 · go_wp2_with fail
   refine (l1Below_any b 3 _ hc1).mono ?_
   rintro e w2 ⟨k,rfl,⟨hk0,-,hk1⟩,hc2,ho2⟩
   have hk1:=hk1 (by omega)
   obtain ⟨k,rfl⟩:=Int.eq_ofNat_of_zero_le hk0
   have hbr2:=hbr1.only ho2 (.inr (by omega))
   have HO2:=Hd_ (HO1.out.trans ho2)
   have hl2:=hbr2.lt
   clear ho2 hbr1 hc1
   go_wp2_with fail
   have hmk:=l8Make_any b (1+k) _ hc2 (by omega)
   rw [show (((1+k:Nat)):Int)=1+(k:Int) by omega] at hmk
   refine hmk.mono ?_
   rintro e w3 ⟨v,l,rfl,ht,hl3,hc3,ho3⟩
   have HB3:=Hd_ (hbr2.only ho3 (.inr (by omega)))
   have HO3:=Hd_ (HO2.out.trans ho3)
   have HC3:=Hd_ hc3
   have HT3:=Hd_ (ht.mono (lo':=w.heap.size+1) (by omega) (Nat.le_refl _))
   have hp:(2:Nat) ^ (1+k+1)<=2 ^ 4:=Nat.pow_le_pow_right (by decide) (by omega)
   have HL:=Hd_ (show l.length<=100 by simp at hp;omega)
   clear hbr2 hc3 ht ho3 hmk hp hl3
   obtain ⟨sx,rfl,hox⟩:=HT3.out
   obtain ⟨AX,nx,cx,rfl⟩:=hox.shape
   have bx:=HB3.out
   have z0:w3.cell? ⟨w.heap.size,0,none⟩=some (.slice none 0 0):=bx.cell 0
   have v0:=bx.frozen 0
   have hlr:=bx.lt
   clear bx hox
   go_wp2_with fail
   have HD:=tk_done HT3.out HC3.out HO3.out rfl hlt (.slice AX nx cx)
   refine bodyPost_ret (v:=.agg #[.slice AX nx cx]) (by simp [results,Tryz.results133,go_sem,z0,v0,hlr]) rfl ⟨_,_,rfl,HD.1,HL.out,HD.2.1,HD.2.2⟩
 · go_wp2_with fail
   refine (l8Known_any b _ hc1).mono ?_
   rintro e w3 ⟨v,l,rfl,ht,hl3,hc3,ho3⟩
   have HB3:=Hd_ (hbr1.only ho3 (.inr (by omega)))
   have HO3:=Hd_ (HO1.out.trans ho3)
   have HC3:=Hd_ hc3
   have HT3:=Hd_ (ht.mono (lo':=w.heap.size+1) (by omega) (Nat.le_refl _))
   have HL:=Hd_ hl3
   clear hbr1 hc3 ht ho3 hl3 hc1
   obtain ⟨sx,rfl,hox⟩:=HT3.out
   obtain ⟨AX,nx,cx,rfl⟩:=hox.shape
   have bx:=HB3.out
   have z0:w3.cell? ⟨w.heap.size,0,none⟩=some (.slice none 0 0):=bx.cell 0
   have v0:=bx.frozen 0
   have hlr:=bx.lt
   clear bx hox
   go_wp2_with fail
   have HD:=tk_done HT3.out HC3.out HO3.out rfl hlt (.slice AX nx cx)
   refine bodyPost_ret (v:=.agg #[.slice AX nx cx]) (by simp [results,Tryz.results133,go_sem,z0,v0,hlr]) rfl ⟨_,_,rfl,HD.1,HL.out,HD.2.1,HD.2.2⟩
theorem aut_done {b r lo:Nat} {w0 w:World} {st:Int} {ac nx:Value} {us:List Value} {acc:List Bool} {nxt:List (List Int)} (h:AuR lo w ac nx us acc nxt) (hc:Cur w b) (ho:Only b (b+1) w0 w) (hr:w0.heap.size<=r) (hlo:r < lo) (hb:b < w0.heap.size)
 (hn:acc.length=nxt.length/\0 < nxt.length/\nxt.length<=100/\∀ row ∈ nxt,row.length=9):AutCur b w0 (.returned (.agg #[.int .i64 st,ac,nx])) (put3 w r (.int .i64 st) ac nx):=by
 have hp:=put3_only w r (.int .i64 st) ac nx
 exact ⟨⟨_,_,_,us,acc,nxt,rfl,(h.only hp (by omega)).mono (by omega),hn,((ho.setCell (p:=⟨r,0,none⟩) (.inr (by simp only;omega)) _).setCell (p:=⟨r,1,none⟩) (.inr (by simp only;omega)) _).setCell (p:=⟨r,2,none⟩) (.inr (by simp only;omega)) _⟩,hc.only hp (by omega)⟩
set_option maxHeartbeats 8000000 in
theorem l11Aut_any (b:Nat) (w:World) (hc:Cur w b) :
 Calls Tryz.prog 86 #[.pointer (some ⟨b,0,none⟩)] w (AutCur b w):=by
 have hbw:=hc.lt
 have hb0:=(Below.refl w.heap.size w).alloc (Nat.le_refl _) (.cells #[.int .i64 0,.slice none 0 0,.slice none 0 0] 31)
 have hbr:=Blk.new w 31 #[.int .i64 0,.slice none 0 0,.slice none 0 0] _ rfl
 go_enter Tryz.func86,Tryz.ntmps86
 go_wp2_with fail
 refine (l1Once_any b 3 _ (hc.keep hb0)).mono ?_
 rintro e w1 ⟨o,rfl,hc1,ho1⟩
 have HBR1:=Hd_ (hbr.only ho1 (.inr (by omega)))
 have HO1:=Hd_ ((Only.of_below hb0 b (b+1)).trans ho1)
 have HC1:=Hd_ hc1
 clear hb0 hbr ho1 hc1
 cases o
 · go_wp2_with fail
   refine (l8Expr_any b _ HC1.out).mono ?_
   rintro e w2 ⟨v2,l,rfl,htk,-,hc2,ho2⟩
   have HBR2:=Hd_ (HBR1.out.only ho2 (.inr (by omega)))
   have HO2:=Hd_ (HO1.out.trans ho2)
   have HC2:=Hd_ hc2
   have HTK:=Hd_ (htk.mono (Nat.zero_le _) (Nat.le_refl _))
   clear hc2 ho2 htk HBR1 HO1 HC1
   go_wp2_with fail
   refine (buildPositions_any _ l _ HTK.out).mono ?_
   rintro e w3 ⟨v3,is3,L,F,rfl,hpv,hb3⟩
   obtain ⟨ls,fs,fi,la,nu,rfl,g1,g2,hLF⟩:=hpv
   obtain ⟨B1,m1,d1,rfl⟩:=g1.shape
   obtain ⟨B2,m2,d2,rfl⟩:=g2.shape
   have hal:=(Below.refl w3.heap.size w3).alloc (Nat.le_refl _) (.cells #[.slice B1 m1 d1,.int .i64 fi,.int .i64 la,.slice B2 m2 d2,.bool nu] 159)
   have hbA:=below_trans hb3 hal
   have hbp:=Blk.new w3 159 #[.slice B1 m1 d1,.int .i64 fi,.int .i64 la,.slice B2 m2 d2,.bool nu] _ rfl
   have HPV:=Hd_ (PosV.keep (show PosV 0 w3.heap.size w3 (.agg #[.slice B1 m1 d1,.int .i64 fi,.int .i64 la,.slice B2 m2 d2,.bool nu]) L F from ⟨_,_,_,_,_,rfl,g1.mono (Nat.zero_le _) (Nat.le_refl _),g2.mono (Nat.zero_le _) (Nat.le_refl _),hLF⟩) hal)
   have HBR3:=Hd_ (HBR2.out.keep hbA)
   have HO3:=Hd_ (HO2.out.trans (Only.of_below hbA b (b+1)))
   have HC3:=Hd_ (HC2.out.keep hbA)
   clear g1 g2 hLF hb3 hal hbA HBR2 HO2 HC2 HTK
   go_upto_region 4 with fail
   generalize w3.alloc (.cells #[.slice B1 m1 d1,.int .i64 fi,.int .i64 la,.slice B2 m2 d2,.bool nu] 159)=W3 at *
   have x0:W3.cell? ⟨w3.heap.size,0,none⟩=some (.slice B1 m1 d1):=hbp.cell 0
   have x1:W3.cell? ⟨w3.heap.size,1,none⟩=some (.int .i64 fi):=hbp.cell 1
   have x2:W3.cell? ⟨w3.heap.size,2,none⟩=some (.int .i64 la):=hbp.cell 2
   have x3:W3.cell? ⟨w3.heap.size,3,none⟩=some (.slice B2 m2 d2):=hbp.cell 3
   have x4:W3.cell? ⟨w3.heap.size,4,none⟩=some (.bool nu):=hbp.cell 4
   clear hbp
   go_wp2_with fail
   refine (l11Subsets_any _ L F _ HPV.out).mono ?_
   rintro e w4 ⟨A1,n1,c1,A2,n2,c2,st,is,rfl,hex,hb4⟩
   have hal:=(Below.refl w4.heap.size w4).alloc (Nat.le_refl _) (.cells #[.int .i64 st,.slice A1 n1 c1,.slice A2 n2 c2] 31)
   have hbA:=below_trans hb4 hal
   have hbq:=Blk.new w4 31 #[.int .i64 st,.slice A1 n1 c1,.slice A2 n2 c2] _ rfl
   have HBR4:=Hd_ (HBR3.out.keep hbA)
   have HO4:=Hd_ (HO3.out.trans (Only.of_below hbA b (b+1)))
   have HC4:=Hd_ (HC3.out.keep hbA)
   have HAL:=Hd_ hal
   have hw3:w.heap.size < W3.heap.size:=HBR3.out.lt
   clear x0 x1 x2 x3 x4 hb4 hal hbA HBR3 HO3 HC3 HPV
   go_upto_region 5 with fail
   generalize w4.alloc (.cells #[.int .i64 st,.slice A1 n1 c1,.slice A2 n2 c2] 31)=W4 at *
   cases is
   · clear hex hbq
     go_wp2_with fail
     refine (l11Random_any b _ HC4.out).mono ?_
     rintro e w9 ⟨⟨st,ac,nx,us,acc,nxt,rfl,hau,hnn,ho9⟩,hc9⟩
     obtain ⟨A1,c1,rfl,-,-,-⟩:=ownSh hau.acc
     obtain ⟨A2,c2,rfl,-,-,-⟩:=ownSh hau.nxt.own
     have hbr9:=HBR4.out.only ho9 (.inr (by omega))
     have hlw:=HBR4.out.lt
     have z0:w9.cell? ⟨w.heap.size,0,none⟩=some (.int .i64 0):=hbr9.cell 0
     have z1:w9.cell? ⟨w.heap.size,1,none⟩=some (.slice none 0 0):=hbr9.cell 1
     have z2:w9.cell? ⟨w.heap.size,2,none⟩=some (.slice none 0 0):=hbr9.cell 2
     have v0:=hbr9.frozen 0
     have v1:=hbr9.frozen 1
     have v2:=hbr9.frozen 2
     have hlr:=hbr9.lt
     have HD:=Hd_ (aut_done (r:=w.heap.size) (st:=st) hau hc9 (HO4.out.trans ho9) (Nat.le_refl _) hlw hbw hnn)
     clear hbr9 hau hnn ho9 hc9
     go_wp2_with fail
     exact bodyPost_ret (v:=.agg #[.int .i64 st,.slice A1 acc.length c1,.slice A2 us.length c2]) (by simp [results,Tryz.results86,go_sem,z0,z1,z2,v0,v1,v2,hlr]) rfl HD.out
   · obtain ⟨us,acc,nxt,hau,hnn⟩:=hex rfl
     have y0:W4.cell? ⟨w4.heap.size,0,none⟩=some (.int .i64 st):=hbq.cell 0
     have y1:W4.cell? ⟨w4.heap.size,1,none⟩=some (.slice A1 n1 c1):=hbq.cell 1
     have y2:W4.cell? ⟨w4.heap.size,2,none⟩=some (.slice A2 n2 c2):=hbq.cell 2
     have z0:W4.cell? ⟨w.heap.size,0,none⟩=some (.int .i64 0):=HBR4.out.cell 0
     have z1:W4.cell? ⟨w.heap.size,1,none⟩=some (.slice none 0 0):=HBR4.out.cell 1
     have z2:W4.cell? ⟨w.heap.size,2,none⟩=some (.slice none 0 0):=HBR4.out.cell 2
     have v0:=HBR4.out.frozen 0
     have v1:=HBR4.out.frozen 1
     have v2:=HBR4.out.frozen 2
     have hlr:=HBR4.out.lt
     have HD:=Hd_ (aut_done (r:=w.heap.size) (st:=st) (hau.below HAL.out) HC4.out HO4.out (Nat.le_refl _) hw3 hbw hnn)
     clear hau hnn hbq hex
     go_wp2_with fail
     exact bodyPost_ret (v:=.agg #[.int .i64 st,.slice A1 n1 c1,.slice A2 n2 c2]) (by simp [results,Tryz.results86,go_sem,z0,z1,z2,v0,v1,v2,hlr]) rfl HD.out
 · skip
   go_wp2_with fail
   refine (l11Random_any b _ HC1.out).mono ?_
   rintro e w9 ⟨⟨st,ac,nx,us,acc,nxt,rfl,hau,hnn,ho9⟩,hc9⟩
   obtain ⟨A1,c1,rfl,-,-,-⟩:=ownSh hau.acc
   obtain ⟨A2,c2,rfl,-,-,-⟩:=ownSh hau.nxt.own
   have hbr9:=HBR1.out.only ho9 (.inr (by omega))
   have hlw:=HBR1.out.lt
   have z0:w9.cell? ⟨w.heap.size,0,none⟩=some (.int .i64 0):=hbr9.cell 0
   have z1:w9.cell? ⟨w.heap.size,1,none⟩=some (.slice none 0 0):=hbr9.cell 1
   have z2:w9.cell? ⟨w.heap.size,2,none⟩=some (.slice none 0 0):=hbr9.cell 2
   have v0:=hbr9.frozen 0
   have v1:=hbr9.frozen 1
   have v2:=hbr9.frozen 2
   have hlr:=hbr9.lt
   have HD:=Hd_ (aut_done (r:=w.heap.size) (st:=st) hau hc9 (HO1.out.trans ho9) (Nat.le_refl _) hlw hbw hnn)
   clear hbr9 hau hnn ho9 hc9
   go_wp2_with fail
   exact bodyPost_ret (v:=.agg #[.int .i64 st,.slice A1 acc.length c1,.slice A2 us.length c2]) (by simp [results,Tryz.results86,go_sem,z0,z1,z2,v0,v1,v2,hlr]) rfl HD.out
/-- all blocks of the automaton are as they were -/
theorem AuR.same {lo:Nat} {w w':World} {ac nx:Value} {us:List Value} {acc:List Bool} {nxt:List (List Int)} (h:AuR lo w ac nx us acc nxt) (hb:∀ b,(ac.ownBlock=some b ∨ b ∈ blks (nx :: us))->w'.heap[b]?=w.heap[b]?):AuR lo w' ac nx us acc nxt :=
 ⟨ownsRow_block h.acc fun g hg=>hb g (.inl hg),h.nxt.blocks fun b hm=>hb b (.inr hm),h.apart⟩
/-- an automaton that was drawn lies in the block q; the result's block r -/
structure AyR (b r q:Nat) (w0 w:World) (st:Int) (ac nx:Value) (us:List Value) (acc:List Bool) (nxt:List (List Int)):Prop where
 res:Blk w r 31 #[.int .i64 0,.slice none 0 0,.slice none 0 0]
 blk:Blk w q 31 #[.int .i64 st,ac,nx]
 au:AuR (r+1) w ac nx us acc nxt
 farq:ac.ownBlock ≠ some q/\q ∉ blks (nx :: us)
 cur:Cur w b
 frm:Only b (b+1) w0 w
 at0:w0.heap.size=r
 ord:b < r/\r < q
section
variable {b r q:Nat} {w0 w w':World} {st:Int} {ac nx:Value} {us:List Value} {acc:List Bool} {nxt:List (List Int)}
theorem AyR.step (a:AyR b r q w0 w st ac nx us acc nxt) (ho:Only b (b+1) w w') (hc:Cur w' b):AyR b r q w0 w' st ac nx us acc nxt:=by
 have hd:=a.ord
 exact ⟨a.res.only ho (.inr (by omega)),a.blk.only ho (.inr (by omega)),a.au.only ho (by omega),a.farq,hc,a.frm.trans ho,a.at0,hd⟩
theorem AyR.below (a:AyR b r q w0 w st ac nx us acc nxt) (hb:Below w.heap.size w w'):AyR b r q w0 w' st ac nx us acc nxt:=a.step (Only.of_below hb _ _) (a.cur.keep hb)
end
/-- a graph that lies in the block q; the result's block r -/
structure GcR (b r q lo mid hi:Nat) (w0 w:World) (vs es:Value) (xs:List Int) (ys:List Ed):Prop where
 res:Blk w r 27 #[.slice none 0 0,.slice none 0 0]
 blk:Blk w q 27 #[vs,es]
 vals:Own lo mid w 3 cI 1 vs xs
 edges:Own mid hi w 138 cEd 4 es ys
 cur:Cur w b
 only:Only b (b+1) w0 w
 at0:w0.heap.size=r
 ord:b < r/\r < lo/\lo<=mid/\mid<=hi/\hi<=q
section
variable {b r q lo mid hi:Nat} {w0 w w':World} {vs es:Value} {xs:List Int} {ys:List Ed}
theorem GcR.move (h:GcR b r q lo mid hi w0 w vs es xs ys) (ho:Only b (b+1) w w') (hc:Cur w' b):GcR b r q lo mid hi w0 w' vs es xs ys:=by
 have hd:=h.ord
 exact ⟨h.res.only ho (.inr (by omega)),h.blk.only ho (.inr (by omega)),h.vals.only ho (.inr (by omega)),h.edges.only ho (.inr (by omega)),hc,h.only.trans ho,h.at0,hd⟩
theorem GcR.below (h:GcR b r q lo mid hi w0 w vs es xs ys) (hb:Below w.heap.size w w'):GcR b r q lo mid hi w0 w' vs es xs ys:=by
 have hd:=h.ord
 have hq:=h.blk.lt
 exact ⟨h.res.keep hb,h.blk.keep hb,h.vals.below hb (by omega),h.edges.below hb (by omega),h.cur.keep hb,h.only.trans (Only.of_below hb _ _),h.at0,hd⟩
theorem GcR.alloc (h:GcR b r q lo mid hi w0 w vs es xs ys) (o:Obj):GcR b r q lo mid hi w0 (w.alloc o) vs es xs ys:=h.below ((Below.refl _ _).alloc (Nat.le_refl _) _)
theorem GcR.view (h:GcR b r q lo mid hi w0 w vs es xs ys):GrV lo w.heap.size w (.agg #[vs,es]) ⟨xs,ys⟩:=by
 have hd:=h.ord
 have hq:=h.blk.lt
 exact ⟨vs,es,rfl,(h.vals.sl cI_len).mono (Nat.le_refl _) (by omega),(h.edges.sl cEd_len).mono (by omega) (by omega)⟩
theorem GcR.push {ys':List Ed} {g n c:Nat} (h:GcR b r q lo mid hi w0 w vs es xs ys) (hr:w'.ownsRow mid 138 4 (.slice (some ⟨g,0,none⟩) n c) ys'.length (ys'.flatMap cEd)) (hg:w.grownBy w' es.ownBlock) (hat:es.ownBlock=some g ∨ w.heap.size<=g) :
 Blk w' q 27 #[vs,es]/\(GrV lo (w'.setCell ⟨q,1,none⟩ (.slice (some ⟨g,0,none⟩) n c)).heap.size (w'.setCell ⟨q,1,none⟩ (.slice (some ⟨g,0,none⟩) n c)) (.agg #[vs,.slice (some ⟨g,0,none⟩) n c]) ⟨xs,ys'⟩ /\
  Blk (w'.setCell ⟨q,1,none⟩ (.slice (some ⟨g,0,none⟩) n c)) r 27 #[.slice none 0 0,.slice none 0 0]/\Blk (w'.setCell ⟨q,1,none⟩ (.slice (some ⟨g,0,none⟩) n c)) q 27 #[vs,.slice (some ⟨g,0,none⟩) n c] /\
  Cur (w'.setCell ⟨q,1,none⟩ (.slice (some ⟨g,0,none⟩) n c)) b/\Only b (b+1) w0 (w'.setCell ⟨q,1,none⟩ (.slice (some ⟨g,0,none⟩) n c))):=by
 have hd:=h.ord
 have hq:=h.blk.lt
 have hb:=own_below h.edges.1 (by omega) hg
 have hne:es.ownBlock ≠ some q:=fun e=>by have:=h.edges.2 q e;omega
 have hs:=hb.size
 have hgq:g ≠ q:=by
  rcases hat with h1 | h1
  · have:=h.edges.2 g h1;omega
  · omega
 have hbq:Blk w' q 27 #[vs,es]:=(hg.block q hq (fun e=>hne e.symm)).trans h.blk
 have hos:=(Only.refl q (q+1) w').setCell (p:=⟨q,1,none⟩) (.inl ⟨Nat.le_refl _,Nat.lt_succ_self _⟩) (.slice (some ⟨g,0,none⟩) n c)
 have hr2:=ownsRow_block hr (w':=w'.setCell ⟨q,1,none⟩ (.slice (some ⟨g,0,none⟩) n c)) (fun g' hg'=>by cases hg';exact Below.heap_setCell w' ⟨q,1,none⟩ _ g hgq)
 exact ⟨hbq,⟨_,_,rfl,(((h.vals.below hb (Nat.le_refl _)).only hos (.inl (by omega))).sl cI_len).mono (Nat.le_refl _) (Nat.le_trans (by omega) hos.size),((Own.of_row (xs:=ys') hr2 rfl rfl).sl cEd_len).mono (by omega) (Nat.le_refl _)⟩,(h.res.below hb (by omega)).far (by simp only;omega) _,hbq.set_ 1 _,(h.cur.below hb (by omega)).set (by simp only;omega) _,(h.only.andBelow hb (by have:=h.at0;omega)).setCell (.inr (by have:=h.at0;simp only;omega)) _⟩
end
/-- a graph in the block gq, an automaton in aq; the results' blocks r and r + 1 -/
structure PrR (b r gq aq:Nat) (w0 w:World) (gs es:Value) (g:Gr) (ac nx:Value) (a:Au):Prop where
 res1:Blk w r 27 #[.slice none 0 0,.slice none 0 0]
 res2:Blk w (r+1) 31 #[.int .i64 0,.slice none 0 0,.slice none 0 0]
 gbk:Blk w gq 27 #[gs,es]
 abk:Blk w aq 31 #[.int .i64 a.start,ac,nx]
 gv:∃ lo hi,GrV lo hi w (.agg #[gs,es]) g/\r+2<=lo/\hi<=w.heap.size/\(gq < lo ∨ hi<=gq)/\(aq < lo ∨ hi<=aq)
 av:∃ lo hi,AuV lo hi w (.agg #[.int .i64 a.start,ac,nx]) a/\r+2<=lo/\hi<=w.heap.size/\(gq < lo ∨ hi<=gq)/\(aq < lo ∨ hi<=aq)
 cur:Cur w b
 only:Only b (b+1) w0 w
 at0:w0.heap.size=r
 e12:g.edges.length<=11
 ord:b < r/\r+2<=gq/\gq < aq
def putGA (w:World) (r:Nat) (gs es st ac nx:Value):World:=(((((w.setCell ⟨r,0,none⟩ gs).setCell ⟨r,1,none⟩ es).setCell ⟨r+1,0,none⟩ st).setCell ⟨r+1,1,none⟩ ac).setCell ⟨r+1,2,none⟩ nx).drew
theorem putGA_only (w:World) (r:Nat) (gs es st ac nx:Value):Only r (r+2) w (putGA w r gs es st ac nx):=((((((Only.refl r (r+2) w).setCell (p:=⟨r,0,none⟩) (.inl (by simp only;omega)) _).setCell (p:=⟨r,1,none⟩) (.inl (by simp only;omega)) _).setCell (p:=⟨r+1,0,none⟩) (.inl (by simp only;omega)) _).setCell (p:=⟨r+1,1,none⟩) (.inl (by simp only;omega)) _).setCell (p:=⟨r+1,2,none⟩) (.inl (by simp only;omega)) _).drew
section
variable {b r gq aq:Nat} {w0 w w':World} {gs es:Value} {g:Gr} {ac nx:Value} {a:Au}
theorem PrR.step (h:PrR b r gq aq w0 w gs es g ac nx a) (ho:Only b (b+1) w w') (hc:Cur w' b):PrR b r gq aq w0 w' gs es g ac nx a:=by
 have hd:=h.ord
 obtain ⟨lo,hi,h1,h2,h3,h4⟩:=h.gv
 obtain ⟨lo',hi',k1,k2,k3,k4⟩:=h.av
 exact ⟨h.res1.only ho (.inr (by omega)),h.res2.only ho (.inr (by omega)),h.gbk.only ho (.inr (by omega)),h.abk.only ho (.inr (by omega)),⟨lo,hi,h1.only ho h3 (.inr (by omega)),h2,Nat.le_trans h3 ho.size,h4⟩,⟨lo',hi',k1.only ho k3 (.inr (by omega)),k2,Nat.le_trans k3 ho.size,k4⟩,hc,h.only.trans ho,h.at0,h.e12,hd⟩
theorem PrR.setA {ac' nx':Value} {a':Au} {lo:Nat} (h:PrR b r gq aq w0 w gs es g ac nx a) (ha:AuV lo w.heap.size w (.agg #[.int .i64 a'.start,ac',nx']) a') (hlo:aq < lo):PrR b r gq aq w0 (put3 w aq (.int .i64 a'.start) ac' nx') gs es g ac' nx' a':=by
 have hd:=h.ord
 have h0:=h.at0
 have ho:=put3_only w aq (.int .i64 a'.start) ac' nx'
 obtain ⟨lo',hi',k1,k2,k3,k4⟩:=h.gv
 exact ⟨h.res1.only ho (.inl (by omega)),h.res2.only ho (.inl (by omega)),h.gbk.only ho (.inl (by omega)),((h.abk.set_ 0 (.int .i64 a'.start)).set_ 1 ac').set_ 2 nx',⟨lo',hi',k1.only ho k3 (by omega),k2,Nat.le_trans k3 ho.size,k4⟩,⟨lo,w.heap.size,ha.only ho (Nat.le_refl _) (.inr (by omega)),by omega,ho.size,.inl (by omega),.inl (by omega)⟩,h.cur.only ho (by omega),
  ((h.only.setCell (p:=⟨aq,0,none⟩) (.inr (by simp only;omega)) _).setCell (p:=⟨aq,1,none⟩) (.inr (by simp only;omega)) _).setCell (p:=⟨aq,2,none⟩) (.inr (by simp only;omega)) _,h.at0,h.e12,hd⟩
theorem PrR.done (h:PrR b r gq aq w0 w gs es g ac nx a) (v1 v2 v3 v4 v5:Value) :
 GrV w0.heap.size (putGA w r v1 v2 v3 v4 v5).heap.size (putGA w r v1 v2 v3 v4 v5) (.agg #[gs,es]) g/\g.edges.length<=11/\AuV w0.heap.size (putGA w r v1 v2 v3 v4 v5).heap.size (putGA w r v1 v2 v3 v4 v5) (.agg #[.int .i64 a.start,ac,nx]) a/\Cur (putGA w r v1 v2 v3 v4 v5) b/\Only b (b+1) w0 (putGA w r v1 v2 v3 v4 v5):=by
 have hd:=h.ord
 have h0:=h.at0
 have ho:=putGA_only w r v1 v2 v3 v4 v5
 have hs:=ho.size
 obtain ⟨lo,hi,h1,h2,h3,h4⟩:=h.gv
 obtain ⟨lo',hi',k1,k2,k3,k4⟩:=h.av
 exact ⟨(h1.only ho h3 (.inr (by omega))).mono (by omega) (by omega),h.e12,(k1.only ho k3 (.inr (by omega))).mono (by omega) (by omega),h.cur.only ho (by omega),
  (((((h.only.setCell (p:=⟨r,0,none⟩) (.inr (by simp only;omega)) _).setCell (p:=⟨r,1,none⟩) (.inr (by simp only;omega)) _).setCell (p:=⟨r+1,0,none⟩) (.inr (by simp only;omega)) _).setCell (p:=⟨r+1,1,none⟩) (.inr (by simp only;omega)) _).setCell (p:=⟨r+1,2,none⟩) (.inr (by simp only;omega)) _).drew⟩
end
theorem within_any (n a b:Int) (w:World):Calls Tryz.prog 45 #[.int .i64 n,.int .i64 a,.int .i64 b] w fun e w'=>e=.returned (.bool (wi n a b))/\w'=w:=by
 unfold wi
 by_cases h1:a<=n
 · have e1:decide (a<=n)=true:=by simpa using h1
   by_cases h2:n<=b
   · go_enter Tryz.func45,Tryz.ntmps45
     go_wp2
     go_ret
     exact ⟨by simp [h1,h2],rfl⟩
   · go_enter Tryz.func45,Tryz.ntmps45
     go_wp2
     go_ret
     exact ⟨by simp [h1];try omega,rfl⟩
 · have e1:decide (a<=n)=false:=by simpa using h1
   go_enter Tryz.func45,Tryz.ntmps45
   go_wp2
   go_ret
   exact ⟨by simp [h1];try omega,rfl⟩
set_option maxHeartbeats 1000000 in
theorem implValidAutomaton (v:Value) (a:Au) (w:World) (hv:AuV 0 w.heap.size w v a) :
 Calls Tryz.prog 115 #[v] w fun e w'=>e=.returned (.bool (auOk a))/\Below w.heap.size w w':=by
 obtain ⟨ac,nx,rfl,⟨A1,c1,rfl,hl1,hm1,-⟩,us,⟨A2,c2,rfl,hl2,hm2,hx2⟩,hul,hrows⟩:=hv
 rw [hul] at hl2 ⊢
 have HU:=Hd_ hul
 clear hul
 unfold maxLen at hm1 hm2
 have hb0:Below w.heap.size w (w.alloc (.cells #[.int .i64 a.start,.slice A1 a.accept.length c1,.slice A2 a.next.length c2] 31)):=(Below.refl _ _).alloc (Nat.le_refl _) _
 have HW:=Hd_ within_any
 by_cases g1:wi a.accept.length 1 12=true
 · by_cases g2:wi a.start 0 ((a.accept.length:Int) - 1)=true
   · by_cases g3:a.next.length=a.accept.length
     · have HG3:=Hd_ g3
       have g3':((a.next.length:Int) != (a.accept.length:Int))=false:=by simp;omega
       have hr:auOk a=a.next.all (rowOk a.accept.length):=by simp [auOk,g1,g2,g3]
       have HR:=Hd_ hr
       clear hr g3
       obtain ⟨hn1,hn2⟩:=wi_iff.1 g1
       go_enter Tryz.func115,Tryz.ntmps115
       go_wp2_with (go_at_call 45;refine (HW.out _ _ _ _).mono ?_;rintro e w' ⟨rfl,rfl⟩)
       go_loop [32] (fun ii=>∃ i:Nat,i<=a.next.length/\ii=.int .i64 i/\(a.next.take i).all (rowOk a.accept.length)=true) (fun ii=>a.next.length - (intOf ii).toNat)
       case atStart=>exact ⟨0,Nat.zero_le _,rfl,rfl⟩
       case round =>
        obtain ⟨i,hi,rfl,hall⟩:=hrel
        have HA:=Hd_ hall
        clear hall
        by_cases hlt:i < a.next.length
        · obtain ⟨u,hu⟩:∃ u,us[i]?=some u:=⟨_,List.getElem?_eq_getElem (by have:=HU.out;omega)⟩
          obtain ⟨b,o,rfl,-,hb1,hc⟩:=hx2 i u hu
          have hxi:a.next[i]?=some a.next[i]:=List.getElem?_eq_getElem hlt
          have hvi:=hrows i u _ hu hxi
          generalize a.next[i]=row at hvi hxi
          have c0:=hc 0 _ rfl
          simp only [Nat.mul_one,Nat.add_zero] at c0
          obtain ⟨A3,c3,rfl,hl3,hm3,hx3⟩:=hvi
          unfold maxLen at hm3
          have HX:=Hd_ hxi
          clear hc hx2 hu hxi hrows
          go_wp2_with fail
          go_loop [38] (fun jj=>∃ j:Nat,j<=row.length/\jj=.int .i64 j/\(row.take j).all (fun t=>wi t (-1) ((a.accept.length:Int) - 1))=true) (fun jj=>row.length - (intOf jj).toNat)
          case atStart=>exact ⟨0,Nat.zero_le _,rfl,rfl⟩
          case round =>
           obtain ⟨j,hj,rfl,hall2⟩:=hrel
           have HB:=Hd_ hall2
           clear hall2
           by_cases hlt2:j < row.length
           · have hxj:row[j]?=some row[j]:=List.getElem?_eq_getElem hlt2
             obtain ⟨b2,o2,rfl,-,hb2,hc2⟩:=hx3 j _ hxj
             generalize row[j]=t at hc2 hxj
             have d0:=hc2 0 _ rfl
             simp only [Nat.mul_one,Nat.add_zero] at d0
             have HXJ:=Hd_ hxj
             clear hc2 hx3 hxj
             by_cases g4:wi t (-1) ((a.accept.length:Int) - 1)=true
             · go_wp2_with (go_at_call 45;refine (HW.out _ _ _ _).mono ?_;rintro e w' ⟨rfl,rfl⟩)
               go_round
               case rel=>exact ⟨j+1,by omega,by go_num,all_take_succ HXJ.out HB.out g4⟩
               case measure=>simp [intOf];omega
             · simp only [Bool.not_eq_true] at g4
               have hfin:auOk a=false:=by
                rw [HR.out]
                refine all_false_of HX.out ?_
                rw [rowOk,all_false_of HXJ.out g4]
                rfl
               have HF:=Hd_ hfin
               clear hfin
               go_wp2_with (go_at_call 45;refine (HW.out _ _ _ _).mono ?_;rintro e w' ⟨rfl,rfl⟩)
               go_ret
               exact ⟨by rw [HF.out];rfl,hb0⟩
           · obtain rfl:j=row.length:=by omega
             have hall3:row.all (fun t=>wi t (-1) ((a.accept.length:Int) - 1))=true:=by have:=HB.out;rwa [List.take_length] at this
             have H3:=Hd_ hall3
             clear hall3
             clear hx3
             by_cases g9:row.length=9
             · have g9':((row.length:Int) != 9)=false:=by simp;omega
               have hok:rowOk a.accept.length row=true:=by rw [rowOk,H3.out,g9];rfl
               have HO:=Hd_ hok
               clear hok g9
               go_wp2_with fail
               go_round
               case rel=>exact ⟨i+1,by omega,by go_num,all_take_succ HX.out HA.out HO.out⟩
               case measure=>simp [intOf];omega
             · have g9':((row.length:Int) != 9)=true:=by simp;omega
               have hfin:auOk a=false:=by
                rw [HR.out]
                refine all_false_of HX.out ?_
                rw [rowOk]
                simp [g9]
               have HF:=Hd_ hfin
               clear hfin g9
               go_wp2_with fail
               go_ret
               exact ⟨by rw [HF.out];rfl,hb0⟩
        · obtain rfl:i=a.next.length:=by omega
          have hfin:auOk a=true:=by rw [HR.out];have:=HA.out;rwa [List.take_length] at this
          have HF:=Hd_ hfin
          clear hfin hx2 hrows
          go_wp2_with fail
          go_ret
          exact ⟨by rw [HF.out];rfl,hb0⟩
     · have g3':((a.next.length:Int) != (a.accept.length:Int))=true:=by simp;omega
       have hr:auOk a=false:=by simp [auOk,g3]
       have HR:=Hd_ hr
       clear hr g3
       go_enter Tryz.func115,Tryz.ntmps115
       go_wp2_with (go_at_call 45;refine (HW.out _ _ _ _).mono ?_;rintro e w' ⟨rfl,rfl⟩)
       go_ret
       exact ⟨by rw [HR.out];rfl,hb0⟩
   · simp only [Bool.not_eq_true] at g2
     have hr:auOk a=false:=by simp [auOk,g2]
     have HR:=Hd_ hr
     clear hr
     go_enter Tryz.func115,Tryz.ntmps115
     go_wp2_with (go_at_call 45;refine (HW.out _ _ _ _).mono ?_;rintro e w' ⟨rfl,rfl⟩)
     go_ret
     exact ⟨by rw [HR.out];rfl,hb0⟩
 · simp only [Bool.not_eq_true] at g1
   have hr:auOk a=false:=by simp [auOk,g1]
   have HR:=Hd_ hr
   clear hr
   go_enter Tryz.func115,Tryz.ntmps115
   go_wp2_with (go_at_call 45;refine (HW.out _ _ _ _).mono ?_;rintro e w' ⟨rfl,rfl⟩)
   go_ret
   exact ⟨by rw [HR.out];rfl,hb0⟩
theorem isLetter_any (n:Int) (w:World):Calls Tryz.prog 173 #[.int .i64 n] w fun e w'=>e=.returned (.bool (wi n 0 8))/\w'=w:=by
 have HW:=Hd_ within_any
 go_enter Tryz.func173,Tryz.ntmps173
 go_wp2_with (go_at_call 45;refine (HW.out _ _ _ _).mono ?_;rintro e w' ⟨rfl,rfl⟩)
 go_ret
 exact ⟨rfl,rfl⟩
def mvI (a:Au) (s l:Int):Int:=if 0<=s/\wi l 0 8=true then mv a s.toNat l.toNat else -1
theorem mvI_in {a:Au} {s l:Nat} (hl:l < 9):mvI a s l=mv a s l:=by
 rw [mvI,if_pos ⟨by omega,wi_iff.2 ⟨by omega,by omega⟩⟩];simp
set_option maxHeartbeats 1000000 in
theorem move_any (v:Value) (a:Au) (s l:Int) (w:World) (hv:AuV 0 w.heap.size w v a) (hok:auOk a=true) (hs:s < (a.accept.length:Int)) :
 Calls Tryz.prog 149 #[v,.int .i64 s,.int .i64 l] w fun e w'=>e=.returned (.int .i64 (mvI a s l))/\Below w.heap.size w w':=by
 obtain ⟨A1,c1,A2,c2,rfl,hl1,hm1,hl2,hm2,hC⟩:=hv.form hok
 have HL:=Hd_ isLetter_any
 have hb0:Below w.heap.size w (w.alloc (.cells #[.int .i64 a.start,.slice A1 a.accept.length c1,.slice A2 a.accept.length c2] 31)):=(Below.refl _ _).alloc (Nat.le_refl _) _
 have HOK:=Hd_ hok
 clear hok hv
 by_cases h0:s < 0
 · have hfin:mvI a s l=-1:=by rw [mvI,if_neg (by omega)]
   have HF:=Hd_ hfin
   clear hfin
   go_enter Tryz.func149,Tryz.ntmps149
   go_wp2_with fail
   go_ret
   exact ⟨by rw [HF.out];rfl,hb0⟩
 · obtain ⟨s,rfl⟩:=Int.eq_ofNat_of_zero_le (show 0<=s by omega)
   cases hl:wi l 0 8 with
   | false =>
     have hfin:mvI a s l=-1:=by rw [mvI,if_neg (by simp [hl])]
     have HF:=Hd_ hfin
     clear hfin
     go_enter Tryz.func149,Tryz.ntmps149
     go_wp2_with (go_at_call 173;refine (HL.out _ _).mono ?_;rintro e w' ⟨rfl,rfl⟩)
     go_ret
     exact ⟨by rw [HF.out];rfl,hb0⟩
   | true =>
     have hl0:=wi_iff.1 hl
     obtain ⟨l,rfl⟩:=Int.eq_ofNat_of_zero_le hl0.1
     obtain ⟨b2,o2,b3,o3,c3,rfl,hb2,d2,hl3,hm3,hb3,hc3⟩:=hC.row s (by omega)
     have hl9:l < 9:=by omega
     have d3:=hc3 l hl9
     have HF:=Hd_ (mvI_in (a:=a) (s:=s) (l:=l) (by omega))
     clear hc3 hC hl0
     go_enter Tryz.func149,Tryz.ntmps149
     go_wp2_with (go_at_call 173;refine (HL.out _ _).mono ?_;rintro e w' ⟨rfl,rfl⟩)
     go_ret
     exact ⟨by rw [HF.out];rfl,hb0⟩
set_option maxHeartbeats 1000000 in
theorem closure_any (v:Value) (a:Au) (s x:Nat) (w:World) (hv:AuV 0 w.heap.size w v a) (hok:auOk a=true) (hs:s < a.accept.length) (hx:x<=2) :
 Calls Tryz.prog 146 #[v,.int .i64 (s:Int),.int .i64 (x:Int)] w fun e w'=>e=.returned (.int .i64 (cls a x s:Int))/\Below w.heap.size w w':=by
 have hv0:=hv
 obtain ⟨A1,c1,A2,c2,rfl,-⟩:=hv.form hok
 clear hv
 have hn12:a.accept.length<=12:=(auOk_iff.1 hok).1.2
 have hb0:Below w.heap.size w (w.alloc (.cells #[.int .i64 a.start,.slice A1 a.accept.length c1,.slice A2 a.accept.length c2] 31)):=(Below.refl _ _).alloc (Nat.le_refl _) _
 have HV:=Hd_ hv0
 have HOK:=Hd_ hok
 clear hok
 obtain ⟨R,hR⟩:∃ R,R=cls a x s:=⟨_,rfl⟩
 rw [<- hR]
 have HR:=Hd_ hR
 clear hR hv0
 go_enter Tryz.func146,Tryz.ntmps146
 go_wp2_with fail
 go_loopw [7,8] (fun st ss wr=>∃ (f m:Nat) (s:Int) (u:World),st=.int .i64 (m:Int)/\ss=.int .i64 s/\clsF a (6+x) f s m=R/\f+(mem 12 m).length=13/\m < 2 ^ a.accept.length/\s < (a.accept.length:Int)/\wr=ext (w.alloc (.cells #[.int .i64 a.start,.slice A1 a.accept.length c1,.slice A2 a.accept.length c2] 31)) u) (fun st _ _=>13 - (mem 12 (intOf st).toNat).length)
 case atStart=>exact ⟨13,0,s,_,rfl,rfl,HR.out.symm,by simp [mem],Nat.two_pow_pos _,by omega,ext_self _⟩
 case round =>
  obtain ⟨f,m,s,u,rfl,rfl,hcl,hf,hm,hs,rfl⟩:=hrel
  have hm2:=lt12 HOK.out hm
  have hml:=mem_len 12 m
  have HC:=Hd_ hcl
  have HFC:=Hd_ hf
  have hbw:=below_trans hb0 (ext_below _ u)
  clear hcl hf
  by_cases h0:0<=s
  · obtain ⟨s,rfl⟩:=Int.eq_ofNat_of_zero_le h0
    have hs12:s < 12:=by omega
    have e1:=shl_bit (s:=s) (by omega)
    have e2:=or_ins (m:=m) (s:=s) (by omega) (by omega)
    cases hb:m.testBit s with
    | true =>
      have e3:=bit_on (by omega) (by omega) hb
      have hfin:m=R:=by rw [<- HC.out];exact (clsF_stop (.inr (by simpa using hb))).symm
      have HF:=Hd_ hfin
      clear hfin hb h0
      go_wp2_with fail
      go_ret
      exact ⟨by rw [HF.out];rfl,hbw⟩
    | false =>
      have e3:=bit_off (by omega) (by omega) hb
      have HB:=Hd_ hb
      have hmv:=mv_lt HOK.out s (6+x)
      clear hb h0
      go_wp2_with fail
      refine (move_any _ a (s:Int) _ _ (HV.out.keep hbw) HOK.out (by omega)).mono ?_
      rintro e w1 ⟨rfl,hb1⟩
      obtain ⟨u1,rfl⟩:=ext_of (below_trans (ext_below _ u) hb1)
      rw [show (6:Int)+(x:Int)=((6+x:Nat):Int) by omega,mvI_in (by omega)]
      go_wp2_with fail
      go_roundw
      case rel =>
       have h1:=cnt_or (n:=12) (m:=m) hs12 HB.out
       have h2:=HFC.out
       obtain ⟨f,rfl⟩:∃ f',f=f'+1:=⟨f - 1,by omega⟩
       refine ⟨f,ins m s,_,_,rfl,rfl,by rw [<- HC.out];exact (clsF_go HB.out).symm,by omega,ins_lt hm (by omega),by omega,rfl⟩
      case measure =>
       have h1:=cnt_or (n:=12) (m:=m) hs12 HB.out
       simp [intOf];omega
  · have hfin:m=R:=by rw [<- HC.out];exact (clsF_stop (.inl (by omega))).symm
    have h0':decide (s >= 0)=false:=by simp;omega
    have HF:=Hd_ hfin
    clear hfin
    go_wp2_with fail
    go_ret
    exact ⟨by rw [HF.out];rfl,hbw⟩
set_option maxHeartbeats 1000000 in
theorem members_any (m:Nat) (w:World) (hm:m < 4096) :
 Calls Tryz.prog 121 #[.int .i64 (m:Int)] w fun e w'=>∃ v',e=.returned v'/\Own w.heap.size w'.heap.size w' 3 cN 1 v' (mem 12 m)/\Below w.heap.size w w':=by
 obtain ⟨R,hR⟩:∃ R,R=mem 12 m:=⟨_,rfl⟩
 rw [<- hR]
 have HR:=Hd_ hR
 clear hR
 go_enter Tryz.func121,Tryz.ntmps121
 go_wp2_with fail
 go_loopw [3,4] (fun out ii wr=>∃ i:Nat,i<=12/\ii=.int .i64 (i:Int)/\wr.ownsRow w.heap.size 3 1 out (mem i m).length ((mem i m).flatMap cN)/\Below w.heap.size w wr) (fun _ ii _=>12 - (intOf ii).toNat)
 case atStart=>exact ⟨0,Nat.zero_le _,rfl,World.ownsRow_lit w #[] 0 (Nat.le_refl _) (by decide) rfl,(Below.refl _ _).alloc (Nat.le_refl _) _⟩
 case round =>
  obtain ⟨i,hi,rfl,hrow,hbel⟩:=hrel
  have HROW:=Hd_ hrow
  have hs:=hbel.size
  have hml:=mem_len i m
  clear hrow
  by_cases hlt:2 ^ i<=m
  · have e1:=shr_on (by omega) hlt
    have hi12:i < 12:=by
     rcases Nat.lt_or_ge i 12 with h | h
     · exact h
     · have:2 ^ 12<=2 ^ i:=Nat.pow_le_pow_right (by omega) h
       omega
    clear hlt
    cases hb:m.testBit i with
    | true =>
      have e3:=bit_on (by omega) (by omega) hb
      have HM:=Hd_ (mem_yes hb)
      clear hb
      go_wp2_with (at_builtin;(refine wpList_append1 cN elInt rfl _ _ rfl w.heap.size _ (mem i m) i _ 1 _ (by rfl) HROW.out (by rfl) rfl rfl rfl (cN_one _) (by omega) (by omega) hs ?_);rw [<- HM.out];intro v' w4 hrow' hb4 _ _)
      go_roundw
      case rel=>exact ⟨i+1,by omega,by go_num,hrow',hbel.trans hb4⟩
      case measure=>simp [intOf];omega
    | false =>
      have e3:=bit_off (by omega) (by omega) hb
      have HM:=Hd_ (mem_no hb)
      clear hb
      go_wp2_with fail
      go_roundw
      case rel=>exact ⟨i+1,by omega,by go_num,by rw [HM.out];exact HROW.out,hbel⟩
      case measure=>simp [intOf];omega
  · have e1:=shr_off (i:=i) (m:=m) (by omega) (by omega)
    have hfin:R=mem i m:=by rw [HR.out];exact mem_stop (by omega) hi
    have HF:=Hd_ hfin
    clear hfin hlt
    go_wp2_with fail
    go_ret
    exact ⟨_,rfl,by rw [HF.out];exact Own.of_row HROW.out rfl rfl,hbel⟩
set_option maxHeartbeats 2000000 in
theorem after_any (v:Value) (a:Au) (set x l:Nat) (w:World) (hv:AuV 0 w.heap.size w v a) (hok:auOk a=true) (hset:set < 2 ^ a.accept.length) (hx:x<=2) (hl:l < 9) :
 Calls Tryz.prog 104 #[v,.int .i64 (set:Int),.int .i64 (x:Int),.int .i64 (l:Int)] w fun e w'=>e=.returned (.int .i64 (aft a set x l:Int))/\Below w.heap.size w w':=by
 have hv0:=hv
 obtain ⟨A1,c1,A2,c2,rfl,-⟩:=hv.form hok
 clear hv
 have hn12:a.accept.length<=12:=(auOk_iff.1 hok).1.2
 have hb0:Below w.heap.size w (w.alloc (.cells #[.int .i64 a.start,.slice A1 a.accept.length c1,.slice A2 a.accept.length c2] 31)):=(Below.refl _ _).alloc (Nat.le_refl _) _
 have HV:=Hd_ hv0
 have HOK:=Hd_ hok
 have HSET:=Hd_ hset
 have h4096:=lt12 hok hset
 clear hok hv0 hset
 go_enter Tryz.func104,Tryz.ntmps104
 go_wp2_with fail
 refine (members_any set _ h4096).mono ?_
 rintro e w1 ⟨v1,rfl,ho,hb1⟩
 obtain ⟨A3,c3,rfl,hl3,hm3,hC3⟩:=ho.form cN_len
 have hml:=mem_len 12 set
 have hb2:=below_trans hb0 hb1
 have HC3:=Hd_ hC3
 have b0:=(Blk.new w _ _ w.heap.size rfl).keep hb1
 have x0:w1.cell? ⟨w.heap.size,0,none⟩=some _:=b0.cell 0
 have x1:w1.cell? ⟨w.heap.size,1,none⟩=some _:=b0.cell 1
 have x2:w1.cell? ⟨w.heap.size,2,none⟩=some _:=b0.cell 2
 have l0:=b0.lt
 clear b0
 clear hb1 hb0 ho hC3
 go_wp2_with fail
 have hfl:∀ i,((mem 12 set).take i).foldl (aftS a x l) 0 < 2 ^ a.accept.length:=fun i=>foldl_inv (P:=fun m=>m < 2 ^ a.accept.length) (fun m s hm=>aftS_lt HOK.out x l m s hm) _ _ (Nat.two_pow_pos _)
 have HFL:=Hd_ hfl
 clear hfl
 go_loopw [9,18] (fun out ii wr=>∃ (i:Nat) (u:World),i<=(mem 12 set).length/\ii=.int .i64 (i:Int)/\out=.int .i64 (((mem 12 set).take i).foldl (aftS a x l) 0:Nat)/\wr=ext w1 u) (fun _ ii _=>(mem 12 set).length - (intOf ii).toNat)
 case atStart=>exact ⟨0,w1,Nat.zero_le _,rfl,rfl,ext_self _⟩
 case round =>
  obtain ⟨i,u,hi,rfl,rfl,rfl⟩:=hrel
  by_cases hlt:i < (mem 12 set).length
  · have hsi:(mem 12 set)[i]?=some (mem 12 set)[i]:=List.getElem?_eq_getElem hlt
    have hsm:=mem_mem.1 (List.getElem_mem hlt)
    generalize (mem 12 set)[i]=s at hsi hsm
    have hsn:s < a.accept.length:=by
     rcases Nat.lt_or_ge s a.accept.length with h | h
     · exact h
     · have:=Nat.testBit_lt_two_pow (Nat.lt_of_lt_of_le HSET.out (Nat.pow_le_pow_right (by omega) h))
       rw [hsm.2] at this;cases this
    obtain ⟨b3,o3,rfl,hb3,d3⟩:=HC3.out.nat hsi
    have HFT:=Hd_ (foldl_take (f:=aftS a x l) hsi 0)
    have hbw:=below_trans hb2 (ext_below w1 u)
    have hm0:=HFL.out i
    generalize ((mem 12 set).take i).foldl (aftS a x l) 0=m0 at *
    clear hsi hsm
    go_wp2_with fail
    refine (closure_any _ a s x _ (HV.out.keep hbw) HOK.out hsn hx).mono ?_
    rintro e w2 ⟨rfl,hb5⟩
    obtain ⟨u2,rfl⟩:=ext_of (below_trans (ext_below w1 u) hb5)
    have hcl:=cls_lt HOK.out x s hsn
    have hcl4:=lt12 HOK.out hcl
    go_wp2_with fail
    refine (members_any (cls a x s) _ hcl4).mono ?_
    rintro e w3 ⟨v4,rfl,ho4,hb6⟩
    obtain ⟨A4,c4,rfl,hl4,hm4,hC4⟩:=ho4.form cN_len
    have hml4:=mem_len 12 (cls a x s)
    have hb7:=below_trans (ext_below w1 u2) hb6
    have hb8:=below_trans hb2 hb7
    have x0:=bcell hb7 x0 l0
    have x1:=bcell hb7 x1 l0
    have x2:=bcell hb7 x2 l0
    have l0:=Nat.lt_of_lt_of_le l0 hb7.size
    have HC4:=Hd_ hC4
    have HCL:=Hd_ hcl
    clear hb6 hb5 hbw ho4 hC4 hcl
    go_wp2_with fail
    go_loopw [9,28] (fun out jj wr=>∃ (j:Nat) (u:World),j<=(mem 12 (cls a x s)).length/\jj=.int .i64 (j:Int)/\out=.int .i64 (((mem 12 (cls a x s)).take j).foldl (aft1 a l) m0:Nat)/\wr=ext w3 u) (fun _ jj _=>(mem 12 (cls a x s)).length - (intOf jj).toNat)
    case atStart=>exact ⟨0,w3,Nat.zero_le _,rfl,rfl,ext_self _⟩
    case round =>
     obtain ⟨j,u3,hj,rfl,rfl,rfl⟩:=hrel
     by_cases hlt2:j < (mem 12 (cls a x s)).length
     · have hti:(mem 12 (cls a x s))[j]?=some (mem 12 (cls a x s))[j]:=List.getElem?_eq_getElem hlt2
       have htm:=mem_mem.1 (List.getElem_mem hlt2)
       generalize (mem 12 (cls a x s))[j]=t at hti htm
       have htn:t < a.accept.length:=by
        rcases Nat.lt_or_ge t a.accept.length with h | h
        · exact h
        · have:=Nat.testBit_lt_two_pow (Nat.lt_of_lt_of_le HCL.out (Nat.pow_le_pow_right (by omega) h))
          rw [htm.2] at this;cases this
       obtain ⟨b4,o4,rfl,hb4,d4⟩:=HC4.out.nat hti
       have HFT2:=Hd_ (foldl_take (f:=aft1 a l) hti m0)
       have hm1:((mem 12 (cls a x s)).take j).foldl (aft1 a l) m0 < 2 ^ a.accept.length:=foldl_inv (P:=fun m=>m < 2 ^ a.accept.length) (fun m s hm=>aft1_lt HOK.out l m s hm) _ _ hm0
       have hm14:=lt12 HOK.out hm1
       generalize ((mem 12 (cls a x s)).take j).foldl (aft1 a l) m0=m1 at *
       have hbw:=below_trans hb8 (ext_below w3 u3)
       have hmv:=mv_lt HOK.out t l
       have HA:=Hd_ (show aft1 a l m1 t=if 0<=mv a t l then ins m1 (mv a t l).toNat else m1 from rfl)
       clear hti htm hm0
       go_wp2_with fail
       refine (move_any _ a (t:Int) (l:Int) _ (HV.out.keep hbw) HOK.out (by omega)).mono ?_
       rintro e w4 ⟨rfl,hb9⟩
       obtain ⟨u4,rfl⟩:=ext_of (below_trans (ext_below w3 u3) hb9)
       rw [mvI_in hl]
       clear hb9
       by_cases h0:0<=mv a t l
       · generalize mv a t l=z at *
         obtain ⟨z,rfl⟩:=Int.eq_ofNat_of_zero_le h0
         have e1:=shl_bit (s:=z) (by omega)
         have e2:=or_ins (m:=m1) (s:=z) (by omega) (by omega)
         go_wp2_with fail
         go_roundw
         case rel=>exact ⟨j+1,u4,by omega,by go_num,by rw [HFT2.out,HA.out,if_pos h0];simp,rfl⟩
         case measure=>simp [intOf];omega
       · have h0':decide (mv a t l >= 0)=false:=by simp;omega
         go_wp2_with fail
         go_roundw
         case rel=>exact ⟨j+1,u4,by omega,by go_num,by rw [HFT2.out,HA.out,if_neg (by omega)],rfl⟩
         case measure=>simp [intOf];omega
     · obtain rfl:j=(mem 12 (cls a x s)).length:=by omega
       have HT:=Hd_ (show ((mem 12 (cls a x s)).take (mem 12 (cls a x s)).length).foldl (aft1 a l) m0=aftS a x l m0 s by rw [List.take_length];rfl)
       go_wp2_with fail
       go_roundw
       case rel =>
        obtain ⟨u5,hu5⟩:=ext_of (below_trans hb7 (ext_below w3 u3))
        exact ⟨i+1,u5,by omega,by go_num,by rw [HFT.out,HT.out],hu5⟩
       case measure=>simp [intOf];omega
  · obtain rfl:i=(mem 12 set).length:=by omega
    have HT:=Hd_ (show ((mem 12 set).take (mem 12 set).length).foldl (aftS a x l) 0=aft a set x l by rw [List.take_length];rfl)
    go_wp2_with fail
    go_ret
    exact ⟨by rw [HT.out];rfl,below_trans hb2 (ext_below w1 u)⟩
theorem bit_in {n m t:Nat} (hm:m < 2 ^ n) (ht:m.testBit t=true):t < n:=by
 rcases Nat.lt_or_ge t n with h | h
 · exact h
 · have:=Nat.testBit_lt_two_pow (Nat.lt_of_lt_of_le hm (Nat.pow_le_pow_right (by omega) h))
   rw [ht] at this;cases this
theorem any_take {α:Type} {p:α->Bool} {xs:List α} {i:Nat} {x:α} (h:xs[i]?=some x):(xs.take (i+1)).any p=((xs.take i).any p || p x):=by
 rw [take_snoc h,List.any_append];simp
theorem any_of_at {α:Type} {p:α->Bool} {xs:List α} {i:Nat} {x:α} (h:xs[i]?=some x) (hp:p x=true):xs.any p=true:=List.any_eq_true.2 ⟨x,List.mem_of_getElem? h,hp⟩
set_option maxHeartbeats 2000000 in
theorem acceptsAt_any (v:Value) (a:Au) (set x:Nat) (w:World) (hv:AuV 0 w.heap.size w v a) (hok:auOk a=true) (hset:set < 2 ^ a.accept.length) (hx:x<=2) :
 Calls Tryz.prog 99 #[v,.int .i64 (set:Int),.int .i64 (x:Int)] w fun e w'=>e=.returned (.bool (acc a set x))/\Below w.heap.size w w':=by
 have hv0:=hv
 obtain ⟨A1,c1,A2,c2,rfl,hl1,hm1,-,-,hAC,-⟩:=hv.form hok
 clear hv
 have hn12:a.accept.length<=12:=(auOk_iff.1 hok).1.2
 have hb0:Below w.heap.size w (w.alloc (.cells #[.int .i64 a.start,.slice A1 a.accept.length c1,.slice A2 a.accept.length c2] 31)):=(Below.refl _ _).alloc (Nat.le_refl _) _
 have HV:=Hd_ hv0
 have HOK:=Hd_ hok
 have HSET:=Hd_ hset
 have HAC:=Hd_ hAC
 have h4096:=lt12 hok hset
 clear hok hv0 hset hAC
 go_enter Tryz.func99,Tryz.ntmps99
 go_wp2_with fail
 refine (members_any set _ h4096).mono ?_
 rintro e w1 ⟨v1,rfl,ho,hb1⟩
 obtain ⟨A3,c3,rfl,hl3,hm3,hC3⟩:=ho.form cN_len
 have hml:=mem_len 12 set
 have hb2:=below_trans hb0 hb1
 have HC3:=Hd_ hC3
 have b0:=(Blk.new w _ _ w.heap.size rfl).keep hb1
 have x0:w1.cell? ⟨w.heap.size,0,none⟩=some _:=b0.cell 0
 have x1:w1.cell? ⟨w.heap.size,1,none⟩=some _:=b0.cell 1
 have x2:w1.cell? ⟨w.heap.size,2,none⟩=some _:=b0.cell 2
 have l0:=b0.lt
 clear b0
 clear hb1 hb0 ho hC3
 go_wp2_with fail
 go_loopw [14] (fun ii wr=>∃ (i:Nat) (u:World),i<=(mem 12 set).length/\ii=.int .i64 (i:Int)/\((mem 12 set).take i).any (accC a x)=false/\wr=ext w1 u) (fun ii _=>(mem 12 set).length - (intOf ii).toNat)
 case atStart=>exact ⟨0,w1,Nat.zero_le _,rfl,rfl,ext_self _⟩
 case round =>
  obtain ⟨i,u,hi,rfl,hno,rfl⟩:=hrel
  have HNO:=Hd_ hno
  clear hno
  by_cases hlt:i < (mem 12 set).length
  · have hsi:(mem 12 set)[i]?=some (mem 12 set)[i]:=List.getElem?_eq_getElem hlt
    have hsm:=mem_mem.1 (List.getElem_mem hlt)
    generalize (mem 12 set)[i]=s at hsi hsm
    have hsn:=bit_in HSET.out hsm.2
    obtain ⟨b3,o3,rfl,hb3,d3⟩:=HC3.out.nat hsi
    have hbw:=below_trans hb2 (ext_below w1 u)
    have HSI:=Hd_ hsi
    clear hsi hsm
    go_wp2_with fail
    refine (closure_any _ a s x _ (HV.out.keep hbw) HOK.out hsn hx).mono ?_
    rintro e w2 ⟨rfl,hb5⟩
    obtain ⟨u2,rfl⟩:=ext_of (below_trans (ext_below w1 u) hb5)
    have hcl:=cls_lt HOK.out x s hsn
    have hcl4:=lt12 HOK.out hcl
    go_wp2_with fail
    refine (members_any (cls a x s) _ hcl4).mono ?_
    rintro e w3 ⟨v4,rfl,ho4,hb6⟩
    obtain ⟨A4,c4,rfl,hl4,hm4,hC4⟩:=ho4.form cN_len
    have hml4:=mem_len 12 (cls a x s)
    have hb7:=below_trans (ext_below w1 u2) hb6
    have hb8:=below_trans hb2 hb7
    have x0:=bcell hb7 x0 l0
    have x1:=bcell hb7 x1 l0
    have x2:=bcell hb7 x2 l0
    have l0:=Nat.lt_of_lt_of_le l0 hb7.size
    have HC4:=Hd_ hC4
    have HCL:=Hd_ hcl
    have HAC3:=Hd_ (HAC.out.keep hb8)
    have HAE:=Hd_ (show accC a x s=(mem 12 (cls a x s)).any fun t=>a.accept.getD t false from rfl)
    clear hb6 hb5 hbw ho4 hC4 hcl
    go_wp2_with fail
    go_loopw [24] (fun jj wr=>∃ (j:Nat) (u:World),j<=(mem 12 (cls a x s)).length/\jj=.int .i64 (j:Int)/\((mem 12 (cls a x s)).take j).any (fun t=>a.accept.getD t false)=false/\wr=ext w3 u) (fun jj _=>(mem 12 (cls a x s)).length - (intOf jj).toNat)
    case atStart=>exact ⟨0,w3,Nat.zero_le _,rfl,rfl,ext_self _⟩
    case round =>
     obtain ⟨j,u3,hj,rfl,hno,rfl⟩:=hrel
     have HNJ:=Hd_ hno
     clear hno
     by_cases hlt2:j < (mem 12 (cls a x s)).length
     · have hti:(mem 12 (cls a x s))[j]?=some (mem 12 (cls a x s))[j]:=List.getElem?_eq_getElem hlt2
       have htm:=mem_mem.1 (List.getElem_mem hlt2)
       generalize (mem 12 (cls a x s))[j]=t at hti htm
       have htn:=bit_in HCL.out htm.2
       obtain ⟨b4,o4,rfl,hb4,d4⟩:=HC4.out.nat hti
       have hbw:=below_trans hb8 (ext_below w3 u3)
       have hai:a.accept[t]?=some a.accept[t]:=List.getElem?_eq_getElem htn
       obtain ⟨b5,o5,rfl,hb5,d5⟩:=HAC3.out.bool hai
       have hag:a.accept.getD t false=a.accept[t]:=by simp [List.getD,hai]
       generalize a.accept[t]=b at *
       have HAG:=Hd_ hag
       have HTI:=Hd_ hti
       clear hti htm hai hag
       cases b with
       | true =>
         have hfin:acc a set x=true:=any_of_at HSI.out (by rw [HAE.out];exact any_of_at HTI.out HAG.out)
         have HF:=Hd_ hfin
         clear hfin
         go_wp2_with fail
         go_ret
         exact ⟨by rw [HF.out];rfl,hbw⟩
       | false =>
         go_wp2_with fail
         go_roundw
         case rel=>exact ⟨j+1,u3,by omega,by go_num,by rw [any_take HTI.out,HNJ.out,HAG.out];rfl,rfl⟩
         case measure=>simp [intOf];omega
     · obtain rfl:j=(mem 12 (cls a x s)).length:=by omega
       have HT:=Hd_ (show accC a x s=false by have h:=HNJ.out;rw [List.take_length] at h;rw [HAE.out];exact h)
       go_wp2_with fail
       go_roundw
       case rel =>
        obtain ⟨u5,hu5⟩:=ext_of (below_trans hb7 (ext_below w3 u3))
        exact ⟨i+1,u5,by omega,by go_num,by rw [any_take HSI.out,HNO.out,HT.out];rfl,hu5⟩
       case measure=>simp [intOf];omega
  · obtain rfl:i=(mem 12 set).length:=by omega
    have HT:=Hd_ (show acc a set x=false by have h:=HNO.out;rw [List.take_length] at h;exact h)
    go_wp2_with fail
    go_ret
    exact ⟨by rw [HT.out];rfl,below_trans hb2 (ext_below w1 u)⟩
set_option maxHeartbeats 1000000 in
theorem edgeOk_any (e:Ed) (n:Nat) (w:World) (hn:n<=9223372036854775807) :
 Calls Tryz.prog 151 #[.agg #[.int .i64 e.1,.int .i64 e.2.1,.int .i64 e.2.2.1,.int .i64 e.2.2.2],.int .i64 (n:Int)] w fun en w'=>en=.returned (.bool (edOk n e))/\Below w.heap.size w w':=by
 obtain ⟨a,b,c,d⟩:=e
 have HW:=Hd_ within_any
 unfold edOk
 simp only
 have hb0:Below w.heap.size w (w.alloc (.cells #[.int .i64 a,.int .i64 b,.int .i64 c,.int .i64 d] 138)):=(Below.refl _ _).alloc (Nat.le_refl _) _
 cases g1:wi a 1 99 with
 | false =>
   have HZ:=Hd_ g1
   go_enter Tryz.func151,Tryz.ntmps151
   go_wp2_with (go_at_call 45;refine (HW.out _ _ _ _).mono ?_;rintro e w' ⟨rfl,rfl⟩)
   go_ret
   exact ⟨rfl,hb0⟩
 | true =>
   cases g2:wi b 0 ((n:Int) - 1) with
   | false =>
     go_enter Tryz.func151,Tryz.ntmps151
     go_wp2_with (go_at_call 45;refine (HW.out _ _ _ _).mono ?_;rintro e w' ⟨rfl,rfl⟩)
     go_ret
     exact ⟨rfl,hb0⟩
   | true =>
     cases g3:wi c 0 ((n:Int) - 1) with
     | false =>
       go_enter Tryz.func151,Tryz.ntmps151
       go_wp2_with (go_at_call 45;refine (HW.out _ _ _ _).mono ?_;rintro e w' ⟨rfl,rfl⟩)
       go_ret
       exact ⟨rfl,hb0⟩
     | true =>
       go_enter Tryz.func151,Tryz.ntmps151
       go_wp2_with (go_at_call 45;refine (HW.out _ _ _ _).mono ?_;rintro e w' ⟨rfl,rfl⟩)
       go_ret
       exact ⟨rfl,hb0⟩
set_option maxHeartbeats 2000000 in
theorem implValidGraph (v:Value) (g:Gr) (w:World) (hv:GrV 0 w.heap.size w v g) :
 Calls Tryz.prog 114 #[v] w fun e w'=>e=.returned (.bool (grOk g))/\Below w.heap.size w w':=by
 obtain ⟨vs,es,rfl,⟨A1,c1,rfl,hl1,hm1,hx1⟩,⟨A2,c2,rfl,hl2,hm2,hx2⟩⟩:=hv
 unfold maxLen at hm1 hm2
 have hb0:Below w.heap.size w (w.alloc (.cells #[.slice A1 g.vals.length c1,.slice A2 g.edges.length c2] 27)):=(Below.refl _ _).alloc (Nat.le_refl _) _
 have HW:=Hd_ within_any
 have HX1:=Hd_ hx1
 have HX2:=Hd_ hx2
 clear hx1 hx2
 go_enter Tryz.func114,Tryz.ntmps114
 go_wp2_with fail
 go_loop [14] (fun ii=>∃ i:Nat,i<=g.vals.length/\ii=.int .i64 i/\(g.vals.take i).all (fun v=>wi v 0 2)=true) (fun ii=>g.vals.length - (intOf ii).toNat)
 case atStart=>exact ⟨0,Nat.zero_le _,rfl,rfl⟩
 case round =>
  obtain ⟨i,hi,rfl,hall⟩:=hrel
  have HA:=Hd_ hall
  clear hall
  by_cases hlt:i < g.vals.length
  · have hxi:g.vals[i]?=some g.vals[i]:=List.getElem?_eq_getElem hlt
    obtain ⟨b,o,rfl,-,hb1,hc⟩:=HX1.out i _ hxi
    generalize g.vals[i]=x at hc hxi
    have c0:=hc 0 _ rfl
    simp only [Nat.mul_one,Nat.add_zero] at c0
    have HX:=Hd_ hxi
    clear hc hxi
    cases g4:wi x 0 2 with
    | true =>
      have G4:=Hd_ g4
      go_wp2_with (go_at_call 45;refine (HW.out _ _ _ _).mono ?_;rintro e w' ⟨rfl,rfl⟩)
      go_round
      case rel=>exact ⟨i+1,by omega,by go_num,all_take_succ HX.out HA.out G4.out⟩
      case measure=>simp [intOf];omega
    | false =>
      have hfin:grOk g=false:=by
       rw [grOk,all_false_of HX.out g4]
       rfl
      have HF:=Hd_ hfin
      clear hfin
      go_wp2_with (go_at_call 45;refine (HW.out _ _ _ _).mono ?_;rintro e w' ⟨rfl,rfl⟩)
      go_ret
      exact ⟨by rw [HF.out];rfl,hb0⟩
  · obtain rfl:i=g.vals.length:=by omega
    have hallv:g.vals.all (fun v=>wi v 0 2)=true:=by have:=HA.out;rwa [List.take_length] at this
    have HV:=Hd_ hallv
    clear hallv HA
    go_wp2_with fail
    go_loopw [25] (fun ii wr=>∃ (i:Nat) (u:World),i<=g.edges.length/\ii=.int .i64 i/\(List.range i).all (edAt g.vals.length g.edges)=true/\wr=ext (w.alloc (.cells #[.slice A1 g.vals.length c1,.slice A2 g.edges.length c2] 27)) u) (fun ii _=>g.edges.length - (intOf ii).toNat)
    case atStart=>exact ⟨0,_,Nat.zero_le _,rfl,rfl,ext_self _⟩
    case round =>
     obtain ⟨i,u,hi,rfl,hall,rfl⟩:=hrel
     have HA:=Hd_ hall
     clear hall
     by_cases hlt:i < g.edges.length
     · have hxi:g.edges[i]?=some g.edges[i]:=List.getElem?_eq_getElem hlt
       obtain ⟨b,o',rfl,-,hb1,hc⟩:=HX2.out i _ hxi
       generalize g.edges[i]=x at hc hxi
       have c0:=hc 0 _ rfl
       have c1':=hc 1 _ rfl
       have c2':=hc 2 _ rfl
       have c3:=hc 3 _ rfl
       simp only [Nat.add_zero] at c0
       have HX:=Hd_ hxi
       have hlen:g.vals.length<=9223372036854775807:=by omega
       clear hc hxi
       have hgr:grOk g=((List.range g.edges.length).all (edAt g.vals.length g.edges) && wi g.vals.length 1 5 && decide (g.edges.length<=12)):=by
        rw [grOk,HV.out];rfl
       have HGR:=Hd_ hgr
       clear hgr
       cases g4:edOk g.vals.length x with
       | false =>
         have hfin:grOk g=false:=by
          rw [HGR.out,range_all_false hlt (by rw [edAt,HX.out];simp [g4])]
          rfl
         have HF:=Hd_ hfin
         clear hfin
         go_wp2_with fail
         refine wp_region_ext_lit (by kernel_rfl) (by kernel_rfl) ?_
         repeat (go_big_quiet_step ((go_at_call 151;exact Calls.ext_of (edgeOk_any x g.vals.length _ hlen))))
         refine wpQuiet_nil ?_
         rintro _ ⟨u2,rfl⟩
         go_wp2_with fail
         go_ret
         exact ⟨by rw [HF.out];rfl,below_trans hb0 (below_trans (ext_below _ _) (below_trans ((Below.refl _ _).alloc (Nat.le_refl _) _) (ext_below _ _)))⟩
       | true =>
         have G4:=Hd_ g4
         have hbx:∀ o u2,∃ z,ext ((ext (w.alloc (.cells #[.slice A1 g.vals.length c1,.slice (some ⟨b,o',none⟩) g.edges.length c2] 27)) u).alloc o) u2=ext (w.alloc (.cells #[.slice A1 g.vals.length c1,.slice (some ⟨b,o',none⟩) g.edges.length c2] 27)) z :=
          fun o u2=>ext_of (below_trans (ext_below _ _) (below_trans ((Below.refl _ _).alloc (Nat.le_refl _) _) (ext_below _ _)))
         by_cases hi0:i=0
         · subst hi0
           have hat:edAt g.vals.length g.edges 0=true:=by rw [edAt,HX.out];simp [G4.out]
           have HAT:=Hd_ hat
           clear hat
           simp only [Nat.zero_mul,Nat.add_zero,Nat.zero_add] at c0 c1' c2' c3
           go_wp2_with fail
           refine wp_region_ext_lit (by kernel_rfl) (by kernel_rfl) ?_
           repeat (go_big_quiet_step ((go_at_call 151;exact Calls.ext_of (edgeOk_any x g.vals.length _ hlen))))
           refine wpQuiet_nil ?_
           rintro _ ⟨u2,rfl⟩
           go_wp2_with fail
           go_roundw
           case rel =>
            obtain ⟨z,hz⟩:=hbx _ u2
            exact ⟨1,z,by omega,by go_num,range_all_succ HA.out HAT.out,hz⟩
           case measure=>simp [intOf];omega
         · have hi1:0 < i:=by omega
           have hxj:g.edges[i - 1]?=some g.edges[i - 1]:=List.getElem?_eq_getElem (by omega)
           obtain ⟨b9,o9,ho9,-,-,hcj⟩:=HX2.out (i - 1) _ hxj
           obtain ⟨rfl,rfl⟩:b=b9/\o'=o9:=by injection ho9 with h1;injection h1 with h1 h2;exact ⟨h1,h2⟩
           generalize g.edges[i - 1]=p at hcj hxj
           have hb1':b < w.heap.size+1:=by omega
           have p0:=hcj 0 _ rfl
           simp only [Nat.add_zero] at p0
           have HXJ:=Hd_ hxj
           have hi00:((i:Int) > 0):=by omega
           clear hcj hxj ho9
           by_cases hlt2:p.1 < x.1
           · have hat:edAt g.vals.length g.edges i=true:=by rw [edAt,HX.out];simp [G4.out,HXJ.out,hlt2]
             have hge:decide (p.1 >= x.1)=false:=by simp;omega
             have HAT:=Hd_ hat
             clear hat
             go_wp2_with fail
             have q1:IntKind.i64.wrap ((i:Int) - 1)=(i:Int) - 1:=IntWalk.i64_in _ (by omega)
             have q2:0<=(i:Int) - 1:=by omega
             have q3:(i:Int) - 1 < (g.edges.length:Int):=by omega
             have q4:((i:Int) - 1).toNat=i - 1:=by omega
             refine wp_region_ext_lit (by kernel_rfl) (by kernel_rfl) ?_
             repeat (go_big_quiet_step ((go_at_call 151;exact Calls.ext_of (edgeOk_any x g.vals.length _ hlen))))
             refine wpQuiet_nil ?_
             rintro _ ⟨u2,rfl⟩
             clear q1 q2 q3 q4
             go_wp2_with fail
             go_roundw
             case rel =>
              obtain ⟨z,hz⟩:=hbx _ u2
              exact ⟨i+1,z,by omega,by go_num,range_all_succ HA.out HAT.out,hz⟩
             case measure=>simp [intOf];omega
           · have hfin:grOk g=false:=by
              rw [HGR.out,range_all_false hlt (by rw [edAt,HX.out];simp [G4.out,HXJ.out,hi0];omega)]
              rfl
             have hge:decide (p.1 >= x.1)=true:=by simp;omega
             have HF:=Hd_ hfin
             clear hfin
             go_wp2_with fail
             have q1:IntKind.i64.wrap ((i:Int) - 1)=(i:Int) - 1:=IntWalk.i64_in _ (by omega)
             have q2:0<=(i:Int) - 1:=by omega
             have q3:(i:Int) - 1 < (g.edges.length:Int):=by omega
             have q4:((i:Int) - 1).toNat=i - 1:=by omega
             refine wp_region_ext_lit (by kernel_rfl) (by kernel_rfl) ?_
             repeat (go_big_quiet_step ((go_at_call 151;exact Calls.ext_of (edgeOk_any x g.vals.length _ hlen))))
             refine wpQuiet_nil ?_
             rintro _ ⟨u2,rfl⟩
             clear q1 q2 q3 q4
             go_wp2_with fail
             go_ret
             exact ⟨by rw [HF.out];rfl,below_trans hb0 (below_trans (ext_below _ _) (below_trans ((Below.refl _ _).alloc (Nat.le_refl _) _) (ext_below _ _)))⟩
     · obtain rfl:i=g.edges.length:=by omega
       have hgr:grOk g=(wi g.vals.length 1 5 && decide (g.edges.length<=12)):=by
        rw [grOk,HV.out,HA.out];rfl
       have HGR:=Hd_ hgr
       clear hgr HA HV
       cases g5:wi g.vals.length 1 5 with
       | false =>
         rw [g5] at HGR
         go_wp2_with (go_at_call 45;refine (HW.out _ _ _ _).mono ?_;rintro e w' ⟨rfl,rfl⟩)
         go_ret
         exact ⟨by rw [HGR.out];rfl,below_trans hb0 (ext_below _ _)⟩
       | true =>
         rw [g5] at HGR
         have HG5:=Hd_ g5
         by_cases g6:g.edges.length<=12
         · have g6':decide ((g.edges.length:Int)<=12)=true:=by simp;omega
           have hfin:grOk g=true:=by rw [HGR.out];simp [g6]
           have HF:=Hd_ hfin
           clear hfin HGR
           go_wp2_with (go_at_call 45;refine (HW.out _ _ _ _).mono ?_;rintro e w' ⟨rfl,rfl⟩)
           go_ret
           exact ⟨by rw [HF.out];rfl,below_trans hb0 (ext_below _ _)⟩
         · have g6':decide ((g.edges.length:Int)<=12)=false:=by simp;omega
           have hfin:grOk g=false:=by rw [HGR.out];simp [g6]
           have HF:=Hd_ hfin
           clear hfin HGR
           go_wp2_with (go_at_call 45;refine (HW.out _ _ _ _).mono ?_;rintro e w' ⟨rfl,rfl⟩)
           go_ret
           exact ⟨by rw [HF.out];rfl,below_trans hb0 (ext_below _ _)⟩
set_option maxHeartbeats 1000000 in
theorem bothOk_any (vg va lv:Value) (g:Gr) (a:Au) (ss:List Int) (w:World) (hg:GrV 0 w.heap.size w vg g) (ha:AuV 0 w.heap.size w va a) (hl:SlE w cI 1 lv ss) :
 Calls Tryz.prog 66 #[vg,va,lv] w fun e w'=>e=.returned (.bool (ss.all (fun s=>wi s 0 ((g.vals.length:Int) - 1)) && (grOk g && auOk a)))/\Below w.heap.size w w':=by
 have hg0:=hg
 have ha0:=ha
 obtain ⟨A1,c1,A2,c2,rfl,hl1,hm1,-,-,-,-⟩:=hg.form
 obtain ⟨A3,n3,c3,A4,n4,c4,rfl⟩:=ha.shape
 obtain ⟨A5,c5,rfl,hl5,hm5,hC5⟩:=hl.form
 have HG:=Hd_ hg0
 have HA:=Hd_ ha0
 have HC5:=Hd_ hC5
 have HW:=Hd_ within_any
 have hb0:Below w.heap.size w ((w.alloc (.cells #[.slice A1 g.vals.length c1,.slice A2 g.edges.length c2] 27)).alloc (.cells #[.int .i64 a.start,.slice A3 n3 c3,.slice A4 n4 c4] 31)):=((Below.refl _ _).alloc (Nat.le_refl _) _).alloc (by simp) _
 clear hg ha hl hg0 ha0 hC5
 go_enter Tryz.func66,Tryz.ntmps66
 go_wp2_with fail
 go_loop [11] (fun ii=>∃ i:Nat,i<=ss.length/\ii=.int .i64 i/\(ss.take i).all (fun s=>wi s 0 ((g.vals.length:Int) - 1))=true) (fun ii=>ss.length - (intOf ii).toNat)
 case atStart=>exact ⟨0,Nat.zero_le _,rfl,rfl⟩
 case round =>
  obtain ⟨i,hi,rfl,hall⟩:=hrel
  have HALL:=Hd_ hall
  clear hall
  by_cases hlt:i < ss.length
  · have hxi:ss[i]?=some ss[i]:=List.getElem?_eq_getElem hlt
    generalize ss[i]=s at hxi
    obtain ⟨b,o,rfl,hb1,c0⟩:=HC5.out.int hxi
    have HX:=Hd_ hxi
    clear hxi
    by_cases g4:wi s 0 ((g.vals.length:Int) - 1)=true
    · go_wp2_with (go_at_call 45;refine (HW.out _ _ _ _).mono ?_;rintro e w' ⟨rfl,rfl⟩)
      go_round
      case rel=>exact ⟨i+1,by omega,by go_num,all_take_succ HX.out HALL.out g4⟩
      case measure=>simp [intOf];omega
    · simp only [Bool.not_eq_true] at g4
      have hfin:ss.all (fun s=>wi s 0 ((g.vals.length:Int) - 1))=false:=all_false_of HX.out g4
      have HF:=Hd_ hfin
      clear hfin
      go_wp2_with (go_at_call 45;refine (HW.out _ _ _ _).mono ?_;rintro e w' ⟨rfl,rfl⟩)
      go_ret
      exact ⟨by rw [HF.out];rfl,hb0⟩
  · obtain rfl:i=ss.length:=by omega
    have hfin:ss.all (fun s=>wi s 0 ((g.vals.length:Int) - 1))=true:=by have:=HALL.out;rwa [List.take_length] at this
    have HF:=Hd_ hfin
    clear hfin
    go_wp2_with fail
    refine (implValidGraph _ g _ (HG.out.keep hb0)).mono ?_
    rintro e w1 ⟨he,hb1⟩
    obtain ⟨u1,rfl⟩:=ext_of hb1
    have hb2:=below_trans hb0 hb1
    clear hb1
    subst he
    cases hgo:grOk g with
    | false =>
      have HGO:=Hd_ hgo
      clear hgo
      go_wp2_with fail
      go_ret
      exact ⟨by rw [HF.out,HGO.out];rfl,hb2⟩
    | true =>
      have HGO:=Hd_ hgo
      clear hgo
      go_wp2_with fail
      refine (implValidAutomaton _ a _ (HA.out.keep hb2)).mono ?_
      rintro e w2 ⟨rfl,hb3⟩
      go_wp2_with fail
      go_ret
      exact ⟨by rw [HF.out,HGO.out];rfl,below_trans hb2 hb3⟩
end Go.Proofs.YtjpdembmchnbgaaGreat
namespace Go.Proofs.YtjpdembmchnbgaaGreat
/-- the arcs of all nodes by the first i edges -/
def rowsTo (g:Gr) (i:Nat):List (List Arc):=(List.range g.vals.length).map fun (x:Nat)=>(g.edges.take i).flatMap (arcE (x:Int))
theorem rowsTo_at {g:Gr} {i x:Nat} (h:x < g.vals.length):(rowsTo g i)[x]?=some ((g.edges.take i).flatMap (arcE (x:Int))):=by simp [rowsTo,h]
theorem rowsTo_len (g:Gr) (i:Nat):(rowsTo g i).length=g.vals.length:=by simp [rowsTo]
theorem rowsTo_zero (g:Gr):rowsTo g 0=List.replicate g.vals.length []:=by
 apply List.ext_getElem?
 intro x
 simp only [rowsTo,List.take_zero,List.flatMap_nil,List.getElem?_map,List.getElem?_replicate,List.getElem?_range]
 by_cases h:x < g.vals.length
 · simp [h]
 · simp [h]
def rowFrom (g:Gr) (i:Nat) (e:Ed):List (List Arc):=(rowsTo g i).set e.2.1.toNat ((g.edges.take i).flatMap (arcE e.2.1) ++ [((e.1,false),arcLetter false e,e.2.2.1)])
def rowBack (g:Gr) (i:Nat) (e:Ed):List Arc:=(g.edges.take i).flatMap (arcE e.2.2.1) ++ if e.2.1=e.2.2.1 then [((e.1,false),arcLetter false e,e.2.2.1)] else []
theorem rowFrom_at {g:Gr} {i:Nat} {e:Ed} (h0:0<=e.2.1) (hn:e.2.1<=(g.vals.length:Int) - 1) (h1:0<=e.2.2.1) (h2:e.2.2.1<=(g.vals.length:Int) - 1):(rowFrom g i e)[e.2.2.1.toNat]?=some (rowBack g i e):=by
 unfold rowFrom rowBack
 rw [List.getElem?_set]
 by_cases h:e.2.1=e.2.2.1
 · rw [if_pos (by rw [h]),if_pos (by rw [rowsTo_len];omega),if_pos h,h]
 · rw [if_neg (by omega),if_neg h,rowsTo_at (by omega),Int.toNat_of_nonneg h1];simp
theorem rowsTo_push {g:Gr} {i:Nat} {e:Ed} (he:g.edges[i]?=some e) (h0:0<=e.2.1) (hn:e.2.1<=(g.vals.length:Int) - 1) (h1:0<=e.2.2.1) (h2:e.2.2.1<=(g.vals.length:Int) - 1) :
 (rowFrom g i e).set e.2.2.1.toNat (rowBack g i e ++ [((e.1,true),arcLetter true e,e.2.1)])=rowsTo g (i+1):=by
 apply List.ext_getElem?
 intro x
 by_cases hx:x < g.vals.length
 · rw [rowsTo_at hx,flat_take he,List.getElem?_set]
   unfold rowFrom rowBack
   rw [List.length_set,rowsTo_len]
   by_cases hb:e.2.2.1=(x:Int)
   · rw [if_pos (by omega),if_pos (by omega)]
     congr 1
     rw [hb,List.append_assoc]
     congr 1
     unfold arcE arcLetter
     by_cases hf:e.2.1=(x:Int)
     · simp [hf,hb]
     · simp [hf,hb]
   · rw [if_neg (by omega),List.getElem?_set,rowsTo_len]
     by_cases hf:e.2.1=(x:Int)
     · rw [if_pos (by omega),if_pos (by omega)]
       congr 1
       rw [hf]
       congr 1
       unfold arcE arcLetter
       simp [hf,hb]
     · rw [if_neg (by omega),rowsTo_at hx]
       congr 1
       unfold arcE
       simp [hf,hb]
 · rw [List.getElem?_eq_none (by rw [List.length_set,rowFrom,List.length_set,rowsTo_len];omega),List.getElem?_eq_none (by rw [rowsTo_len];omega)]
theorem rowsTo_all (g:Gr):rowsTo g g.edges.length=(List.range g.vals.length).map fun (x:Nat)=>arcsOf g (x:Int):=by
 unfold rowsTo arcsOf
 rw [List.take_length]
end Go.Proofs.YtjpdembmchnbgaaGreat
