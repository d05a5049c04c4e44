/- Parts of the proof, joined into one text: AmbI, Unam, Rec, Seat. -/
import Derived.Test.YthnapjodmndlaaaOnlzGICHGIMA
import Derived.Test.YthnapjodmndlaaaOnlzAFGOAFAH
import Derived.JoinedOf
import Derived.Test.YthnapjodmndlaaaRows
set_option linter.unusedVariables false
set_option linter.unusedSimpArgs false
namespace Go.Proofs.Ythnapjodmndlaaa
open Go.ChangeShapes Go.WideShapes Go.ChangeAt Go.RowKit Go.Maps Go.ChangeMaps
attribute [local go_sem] ext_cell ext_frozen ext_lt ext_lt1 ext_lt2 ext_lt3 ltn2 ltn3 ltn13 lts1 lts2 lts3
/-- the pairs behind a letter, as they are gathered -/
structure TwN (wk wr:World) (vn:Value) (bs:Nat) (N:List Twn):Prop where
 row:wr.ownsRow wk.heap.size 56 3 vn N.length (N.flatMap cTw)
 seen:TwMap wr bs N.length (seenT N)
 lb:wk.heap.size<=bs
 bel:Below wk.heap.size wk wr
structure AwN (lo3 hi3:Nat) (wr:World) (vn:Value) (bs:Nat) (vN:Value) (NX:List Twn):Prop where
 a:∀ b,vn.ownBlock=some b->b < lo3 ∨ hi3<=b
 sl:SlI lo3 hi3 wr cTw 3 vN NX
 le:hi3<=wr.heap.size
 ms:bs < lo3
section
variable {wk wr w4 w5:World} {vn vn' vN:Value} {bs lo3 hi3:Nat} {N NX:List Twn} {t:Twn}
theorem TwN.below (h:TwN wk wr vn bs N) (hb:Below wr.heap.size wr w4):TwN wk w4 vn bs N :=
 ⟨ownsRow_below h.row hb (Nat.le_refl _),h.seen.below hb,h.lb,h.bel.trans (hb.mono h.bel.size)⟩
theorem AwN.below (h:AwN lo3 hi3 wr vn bs vN NX) (hb:Below wr.heap.size wr w4):AwN lo3 hi3 w4 vn bs vN NX :=
 ⟨h.a,h.sl.below hb h.le,Nat.le_trans h.le hb.size,h.ms⟩
theorem TwN.add (h:TwN wk wr vn bs N) (h4:TwMap w4 bs (N.length+1) (updT (seenT N) t (.bool true))) (hg4:wr.grownBy w4 (some bs)) {o:Obj}
 (hrow:w5.ownsRow wk.heap.size 56 3 vn' (N ++ [t]).length ((N ++ [t]).flatMap cTw)) (hg:(w4.alloc o).grownBy w5 vn.ownBlock):TwN wk w5 vn' bs (N ++ [t]):=by
 have hs:=h.bel.size
 have hs4:=hg4.size
 refine ⟨hrow,?_,h.lb,?_⟩
 · rw [<- seenT_snoc,List.length_append,List.length_singleton]
   exact h4.block (by rw [hg.block bs (by have:=h4.lt;simp;omega) (fun e=>h.seen.notRow h.row e.symm),Below.heap_alloc _ _ _ h4.lt])
 · exact ((h.bel.grown hg4 hs (fun b hb=>by injection hb with hb;rw [<- hb];exact h.lb)).alloc (by omega) o).grown hg (by simp;omega) (fun b hb=>(h.row.lt b hb).1)
theorem AwN.add (h:AwN lo3 hi3 wr vn bs vN NX) (hg4:wr.grownBy w4 (some bs)) {o:Obj} (hg:(w4.alloc o).grownBy w5 vn.ownBlock) (hat:vn'.ownBlock=vn.ownBlock ∨ ∃ b,vn'.ownBlock=some b/\w4.heap.size<=b):AwN lo3 hi3 w5 vn' bs vN NX:=by
 have hms:=h.ms
 have hle:=h.le
 have hs4:=hg4.size
 have hs5:w4.heap.size<=w5.heap.size:=by have:=hg.size;simp at this;omega
 refine ⟨fun b hb=>?_,h.sl.keep_ fun b o h1 h2=>World.cell?_of_block (w:=wr) (a:=⟨b,o,none⟩) ?_,by omega,h.ms⟩
 · rcases hat with e | ⟨c,e,hge⟩
   · exact h.a b (by rw [<- e];exact hb)
   · rw [e] at hb
     cases hb
     exact .inr (by omega)
 · show w5.heap[b]?=wr.heap[b]?
   rw [hg.block b (by simp;omega) (fun e=>by have:=h.a b e.symm;omega),Below.heap_alloc _ _ _ (by omega),hg4.block b (by omega) (fun e=>by injection e;omega)]
end
/-- the pairs now, and the word -/
structure TwW (w2 wr:World) (nn oo:Value) (S:List Twn) (O:List Nat):Prop where
 now:wr.ownsRow w2.heap.size 56 3 nn S.length (S.flatMap cTw)
 word:wr.ownsRow w2.heap.size 3 1 oo O.length (O.flatMap cN)
 ap:∀ b,nn.ownBlock=some b->oo.ownBlock ≠ some b
 bel:Below w2.heap.size w2 wr
section
variable {w2 wk wr w4:World} {nn oo vn v':Value} {S N:List Twn} {O O':List Nat} {bs:Nat}
theorem TwW.below (h:TwW w2 wr nn oo S O) (hb:Below wr.heap.size wr w4):TwW w2 w4 nn oo S O :=
 ⟨ownsRow_below h.now hb (Nat.le_refl _),ownsRow_below h.word hb (Nat.le_refl _),h.ap,h.bel.trans (hb.mono h.bel.size)⟩
theorem TwW.next (h:TwW w2 wk nn oo S O) (hn:TwN wk wr vn bs N):TwW w2 wr vn oo N O :=
 ⟨ownsRow_mono hn.row h.bel.size,ownsRow_below h.word hn.bel (Nat.le_refl _),fun b hb h2=>by have:=(hn.row.lt b hb).1;have:=(h.word.lt b h2).2;omega,h.bel.trans (hn.bel.mono h.bel.size)⟩
theorem TwW.push (h:TwW w2 wr nn oo S O) {o:Obj} (hrow:w4.ownsRow w2.heap.size 3 1 v' O'.length (O'.flatMap cN)) (hg:(wr.alloc o).grownBy w4 oo.ownBlock) (hat:v'.ownBlock=oo.ownBlock ∨ ∃ b,v'.ownBlock=some b/\wr.heap.size<=b):TwW w2 w4 nn v' S O':=by
 have hs:=h.bel.size
 refine ⟨ownsRow_block h.now fun b hb=>?_,hrow,fun b hb h2=>?_,(h.bel.alloc hs o).grown hg (by simp;omega) (fun b hb=>(h.word.lt b hb).1)⟩
 · have h1:=(h.now.lt b hb).2
   rw [hg.block b (by simp;omega) (fun e=>h.ap b hb e.symm),Below.heap_alloc _ _ _ h1]
 · rcases hat with e | ⟨c,e,hge⟩
   · exact h.ap b hb (by rw [<- e];exact h2)
   · rw [e] at h2
     cases h2
     have:=(h.now.lt b hb).2
     omega
end
set_option maxRecDepth 100000 in
set_option maxHeartbeats 8000000 in
theorem implAmb (v:Value) (p:Pz) (w:World) (hv:PzV 0 w.heap.size w v p) :
 Calls Try.prog 12 #[v] w fun e w'=>∃ vo,e=.returned (.tuple #[vo,.bool (ambT p).2])/\Own w.heap.size w'.heap.size w' 3 cI 1 vo (ambO p)/\Below w.heap.size w w':=by
 obtain ⟨R1,hR1⟩:∃ R,R=ambO p:=⟨_,rfl⟩
 obtain ⟨R2,hR2⟩:∃ R,R=(ambT p).2:=⟨_,rfl⟩
 rw [<- hR1,<- hR2]
 have HR1:=Hd_ hR1
 have HR2:=Hd_ hR2
 clear hR1 hR2
 have HV:=Hd_ hv
 have HVP:=Hd_ (fun W (h:Below w.heap.size w W)=>implValidPos v p W (hv.keep h))
 obtain ⟨vq,vf,rfl,h1,h2⟩:=hv
 obtain ⟨A,n1,c,rfl⟩:=h1.shape
 obtain ⟨B0,n2,c2,rfl⟩:=h2.shape
 obtain ⟨W0,hW0⟩:∃ W0,W0=w.alloc (.cells #[.slice A n1 c,.int .i64 p.first,.int .i64 p.last,.slice B0 n2 c2,.bool p.nul] 27):=⟨_,rfl⟩
 have hbp:Blk W0 w.heap.size 27 #[.slice A n1 c,.int .i64 p.first,.int .i64 p.last,.slice B0 n2 c2,.bool p.nul]:=by rw [hW0];exact Blk.new _ _ _ _ rfl
 have hb0:Below w.heap.size w W0:=by rw [hW0];exact (Below.refl _ _).alloc (Nat.le_refl _) _
 have hsz:W0.heap.size=w.heap.size+1:=by rw [hW0];simp
 have HBP:=Hd_ hbp
 have HB0:=Hd_ hb0
 have x0:W0.cell? ⟨w.heap.size,0,none⟩=some (.slice A n1 c):=by exact hbp.cell 0
 have x1:W0.cell? ⟨w.heap.size,1,none⟩=some (.int .i64 p.first):=by exact hbp.cell 1
 have x2:W0.cell? ⟨w.heap.size,2,none⟩=some (.int .i64 p.last):=by exact hbp.cell 2
 have x3:W0.cell? ⟨w.heap.size,3,none⟩=some (.slice B0 n2 c2):=by exact hbp.cell 3
 have x4:W0.cell? ⟨w.heap.size,4,none⟩=some (.bool p.nul):=by exact hbp.cell 4
 have hl0:w.heap.size < W0.heap.size:=by omega
 clear h1 h2 hbp hb0
 go_enter Try.func12,Try.ntmps12
 go_upto_region 1 with fail
 rw [<- hW0]
 clear hW0
 go_wp2_with fail
 refine (HVP.out _ HB0.out).mono ?_
 rintro e w1 ⟨rfl,hb1⟩
 have x0:=kcell hb1 x0
 have x1:=kcell hb1 x1
 have x2:=kcell hb1 x2
 have x3:=kcell hb1 x3
 have x4:=kcell hb1 x4
 have hl0:=Nat.lt_of_lt_of_le hl0 hb1.size
 have HB1:=Hd_ (below_trans HB0.out hb1)
 have HBP:=Hd_ (HBP.out.keep hb1)
 clear hb1
 cases hok:pzOk p with
 | false =>
   have hE:ambT p=([],false):=by rw [ambT,hok];rfl
   have e1:R1=[]:=by rw [HR1.out,ambO,hE];rfl
   have e2:R2=false:=by rw [HR2.out,hE]
   subst e1 e2
   clear hE HR1 HR2
   go_wp2_with fail
   go_ret2
   exact ⟨_,rfl,Own.nil _ _ _ _ _ _,HB1.out⟩
 | true =>
   have HOK:=Hd_ hok
   have HAT:=Hd_ (show ambT p=if dT p 0 < 0 then ([],false) else (ambW p,true) by rw [ambT,hok];rfl)
   clear hok
   go_wp2_with fail
   refine (implTwinD _ p _ (HV.out.keep HB1.out) HOK.out).mono ?_
   rintro e w2 ⟨bd,md,f,rfl,hbd,hmap,hf,hd2000,hb2⟩
   have h20:=(pz_facts HOK.out).1
   have H20:=Hd_ h20
   have HMAP:=Hd_ hmap
   have HF:=Hd_ hf
   have HB2:=Hd_ (below_trans HB1.out hb2)
   have HBP:=Hd_ (HBP.out.keep hb2)
   have hbdw:=hmap.lt
   have hs2:=hb2.size
   have he0:(0,0,false) ∈ endT p:=List.mem_of_getElem? (endT_start p)
   have hi0:idxT p (0,0,false)=0:=idx_at (endT_start p)
   have HE0:=Hd_ he0
   have HI0:=Hd_ hi0
   have hNpos:0 < (endT p).length:=(List.getElem?_eq_some_iff.1 (endT_start p)).1
   have hN882:(endT p).length<=882:=by rw [endT];exact allT_len h20 882
   have hd20:=hd2000 0 hNpos
   have HLK:=Hd_ (hmap.look_ok Try.underlying52 (z:=.int .i64 0) (Try.zeroValue3 w2) rfl (t:=(0,0,false)) ⟨by decide,by decide⟩)
   clear hmap hf hb2 x0 x1 x2 x3 x4 hl0 h20 he0 hi0 hd2000
   by_cases hneg:dT p 0 < 0
   · have hE:ambT p=([],false):=by rw [HAT.out,if_pos hneg]
     have e1:R1=[]:=by rw [HR1.out,ambO,hE];rfl
     have e2:R2=false:=by rw [HR2.out,hE]
     subst e1 e2
     have hlk:(Instr.lookup 52 (.map (some bd)) (.agg #[.int .i64 0,.int .i64 0,.bool false]) true).run Try.prog w2=.ok (.tuple #[.int .i64 0,.bool false]) w2:=by
      have h:=HLK.out
      rw [HF.out,HI0.out,if_neg (fun h2=>by omega)] at h
      exact h
     clear hE HR1 HR2 HAT HLK
     go_wp2_with fail
     go_ret2
     exact ⟨_,rfl,Own.nil _ _ _ _ _ _,HB2.out⟩
   · have hE:ambT p=(ambW p,true):=by rw [HAT.out,if_neg hneg]
     have e2:R2=true:=by rw [HR2.out,hE]
     subst e2
     have HR1:=Hd_ (show R1=(ambW p).map fun n:Nat=>(n:Int) by rw [HR1.out,ambO,hE])
     clear hE HR2 HAT
     obtain ⟨n0,hn0⟩:∃ n0:Nat,n0=(dT p 0).toNat:=⟨_,rfl⟩
     have hd0:dT p 0=(n0:Int):=by omega
     have HAW:=Hd_ (show ambW p=wordT 9 (nxI p) (dT p) n0 [0] by rw [ambW,hn0])
     have hlk:(Instr.lookup 52 (.map (some bd)) (.agg #[.int .i64 0,.int .i64 0,.bool false]) true).run Try.prog w2=.ok (.tuple #[.int .i64 (n0:Int),.bool true]) w2:=by
      have h:=HLK.out
      rw [HF.out,HI0.out,if_pos ⟨List.contains_iff_mem.2 HE0.out,by omega⟩,hd0] at h
      exact h
     have HD0:=Hd_ hd0
     clear hneg hn0 hd0 HLK
     have hn2000:n0<=2000:=by have:=HD0.out;omega
     have hst:TwW w2 ((w2.alloc (.cells #[] 3)).alloc (.cells #[.int .i64 0,.int .i64 0,.bool false] 56)) (.slice (some ⟨w2.heap.size+1,0,none⟩) 1 1) (.slice (some ⟨w2.heap.size,0,none⟩) 0 0) [(0,0,false)] []:=by
      refine ⟨?_,?_,?_,((Below.refl _ _).alloc (Nat.le_refl _) _).alloc (by simp) _⟩
      · have h:=World.ownsRow_lit (base:=w2.heap.size) (e:=56) (size:=3) (w2.alloc (.cells #[] 3)) #[.int .i64 0,.int .i64 0,.bool false] 1 (by simp) (by decide) rfl
        have e:(w2.alloc (.cells #[] 3)).heap.size=w2.heap.size+1:=by simp
        rw [e] at h
        exact h
      · exact (World.ownsRow_lit (base:=w2.heap.size) (e:=3) (size:=1) w2 #[] 0 (Nat.le_refl _) (by decide) rfl).alloc _
      · intro b h1 h2
        have h1:some (w2.heap.size+1)=some b:=h1
        have h2:some w2.heap.size=some b:=h2
        cases h1
        injection h2 with h2
        omega
     have HST:=Hd_ hst
     clear hst hd20
     go_wp2_with fail
     clear hlk
     go_loopw [5,7,8,9,10,11,13,15,16,17] (fun ll oo nn _ _ _ _ _ _ _ wr=>∃ (n:Nat) (S:List Twn) (O:List Nat),ll=.int .i64 (n:Int)/\O.length+n=n0/\TwW w2 wr nn oo S O/\S ≠ []/\S.Nodup/\(∀ t ∈ S,t ∈ endT p)/\(∀ t ∈ S,dT p (idxT p t)=(n:Int))/\O ++ wordT 9 (nxI p) (dT p) n (S.map (idxT p))=ambW p) (fun ll _ _ _ _ _ _ _ _ _ _=>(intOf ll).toNat)
     case atStart=>exact ⟨n0,[(0,0,false)],[],rfl,by simp,HST.out,by simp,by simp,(fun t ht=>by rw [List.mem_singleton] at ht;rw [ht];exact HE0.out),(fun t ht=>by rw [List.mem_singleton] at ht;rw [ht,HI0.out];exact HD0.out),by rw [HAW.out];simp [HI0.out]⟩
     case round =>
      clear HST
      obtain ⟨n,S,O,rfl,hon,htw,hne,hnd,hse,hsd,haw⟩:=hrel
      obtain ⟨wo,rfl⟩:∃ wo:World,wo=wr:=⟨_,rfl⟩
      have HTW:=Hd_ htw
      have HNE:=Hd_ hne
      have HSE:=Hd_ hse
      have HSD:=Hd_ hsd
      have HOA:=Hd_ haw
      have HON:=Hd_ hon
      have hoL:O.length<=2000:=by omega
      have hn8:n<=2000:=by omega
      have hSl:=sub_len H20.out hnd hse
      obtain ⟨A9,n9,c9,rfl⟩:=(Own.of_row htw.word rfl rfl).shape
      clear hne hnd hse hsd haw hon
      by_cases hz0:n=0
      · subst hz0
        have HRW:=Hd_ htw.word
        have HBF:=Hd_ (HB2.out.trans (htw.bel.mono HB2.out.size))
        have hRE:R1=O.map fun n:Nat=>(n:Int):=by rw [HR1.out,<- HOA.out,wordT,List.append_nil]
        clear htw
        go_wp2_with fail
        go_ret2
        refine ⟨_,rfl,?_,HBF.out⟩
        have h:=HRW.out
        rw [flatN] at h
        exact (Own.of_row h (by rw [hRE,List.length_map]) (by rw [hRE])).mono HB2.out.size (Nat.le_refl _)
      · obtain ⟨m,hm⟩:∃ m,n=m+1:=⟨n - 1,by omega⟩
        have hwr1:IntKind.i64.wrap ((n:Int) - 1)=(m:Int):=by rw [IntWalk.i64_in _ (by omega)];omega
        have hmp:(0:Int) < (n:Int):=by omega
        have hm8:m<=2000:=by omega
        have hmn:m < n:=by omega
        have hmp3:0 < n:=by omega
        have hmp4:decide (0 < n)=true:=by simpa using hmp3
        rw [hm] at HOA HSD HON
        clear hm hz0
        obtain ⟨gn,cn,rfl,hgn1,hgn2,-,-⟩:=own_some htw.now (by have:=List.length_pos_iff.2 HNE.out;omega)
        clear htw hgn2
        go_wp2_with fail
        go_loopw [7,8,9,10,11,13,15,16,17] (fun oo nn kk _ _ _ _ _ _ wr=>∃ k:Nat,k<=9/\kk=.int .i64 (k:Int)/\oo=.slice A9 n9 c9/\nn=.slice (some ⟨gn,0,none⟩) S.length cn/\TwW w2 wr (.slice (some ⟨gn,0,none⟩) S.length cn) (.slice A9 n9 c9) S O/\∀ j,j < k->∀ x,¬ ldB p S m j x) (fun _ _ kk _ _ _ _ _ _ _=>9 - (intOf kk).toNat)
        case atStart=>exact ⟨0,by omega,rfl,rfl,rfl,HTW.out,fun j hj=>by omega⟩
        case round =>
         clear HTW
         obtain ⟨k,hk,rfl,rfl,rfl,htw,hno⟩:=hrel
         obtain ⟨wk,rfl⟩:∃ wk:World,wk=wr:=⟨_,rfl⟩
         have HTW:=Hd_ htw
         have HNO:=Hd_ hno
         clear hno
         by_cases hk9:k < 9
         · have hmm:=@run_makeMap Try.prog
           have hkk:(k:Int) < 9:=by omega
           have hini:TwN wk ((wk.alloc (.cells #[] 56)).alloc (.map #[] 0)) (.slice (some ⟨wk.heap.size,0,none⟩) 0 0) (wk.heap.size+1) []:=by
            have e:(wk.alloc (.cells #[] 56)).heap.size=wk.heap.size+1:=by simp
            have h1:=TwMap.made (wk.alloc (.cells #[] 56))
            rw [e] at h1
            exact ⟨(World.ownsRow_lit (base:=wk.heap.size) (e:=56) (size:=3) wk #[] 0 (Nat.le_refl _) (by decide) rfl).alloc _,h1.ext fun t _=>rfl,by omega,((Below.refl _ _).alloc (Nat.le_refl _) _).alloc (by simp) _⟩
           have HINI:=Hd_ hini
           have hw2k:=htw.bel.size
           have HBK:=Hd_ (HB2.out.trans (htw.bel.mono HB2.out.size))
           have HBPk:=Hd_ (show Blk wk w.heap.size 27 #[.slice A n1 c,.int .i64 p.first,.int .i64 p.last,.slice B0 n2 c2,.bool p.nul] from (htw.bel.block w.heap.size HBP.out.lt).trans HBP.out)
           have HMK:=Hd_ (HMAP.out.block (htw.bel.block bd hbdw))
           have hbdk:bd < wk.heap.size:=by omega
           have hplk:w.heap.size < wk.heap.size:=HBPk.out.lt
           clear hini htw
           go_wp2_with fail
           obtain ⟨bs,hbs⟩:∃ bs,bs=wk.heap.size+1:=⟨_,rfl⟩
           rw [<- hbs] at HINI ⊢
           have HBS:=Hd_ hbs
           clear hbs
           go_loopw [10,13,15,16,17,46] (fun vn _ _ _ _ ii wr=>∃ (i:Nat) (N:List Twn),i<=S.length/\ii=.int .i64 (i:Int)/\TwN wk wr vn bs N/\N.Nodup/\∀ y,y ∈ N ↔ ldB p (S.take i) m k y) (fun _ _ _ _ _ ii _=>S.length - (intOf ii).toNat)
           case atStart=>exact ⟨0,[],Nat.zero_le _,rfl,HINI.out,by simp,fun y=>by simp [ldB]⟩
           case round =>
            clear HINI
            obtain ⟨i,N,hi,rfl,htn,hnd,hmem⟩:=hrel
            have HTN:=Hd_ htn
            have HND:=Hd_ hnd
            have HME:=Hd_ hmem
            have hws:=htn.bel.size
            clear hnd hmem
            by_cases hlt:i < S.length
            · have hat:S[i]?=some (S[i]'hlt):=List.getElem?_eq_getElem hlt
              obtain ⟨⟨ta,tb,td⟩,ht⟩:∃ t,t=S[i]'hlt:=⟨_,rfl⟩
              rw [<- ht] at hat
              have hte:=HSE.out _ (List.mem_of_getElem? hat)
              have HLT:=Hd_ (fun x=>ld_take (p:=p) (m:=m) (k:=k) hat x)
              obtain ⟨hta,htb⟩:ta<=20/\tb<=20:=by
               have h1:=hte
               rw [endT] at h1
               exact allT_low (i:=882) H20.out h1
              obtain ⟨b1,o1,e1,hb1,hb2,q0,q1,q2⟩:=((Own.of_row HTW.out.now rfl rfl).sl cTw_len).tw hat
              cases e1
              have q0:=(htn.bel.cell (p:=⟨gn,0+i * 3,none⟩) hb2).trans q0
              have q1:=(htn.bel.cell (p:=⟨gn,0+i * 3+1,none⟩) hb2).trans q1
              have q2:=(htn.bel.cell (p:=⟨gn,0+i * 3+2,none⟩) hb2).trans q2
              rw [Nat.zero_add] at q0 q1 q2
              simp only at q0 q1 q2
              have HTE:=Hd_ hte
              have hii:(i:Int) < (S.length:Int):=by omega
              have hgnw:gn < wr.heap.size:=by omega
              obtain ⟨gv,mv,cv,rfl⟩:=(Own.of_row htn.row rfl rfl).shape
              clear hat ht hte htn
              go_upto_region 19 with fail
              obtain ⟨X0,hX0⟩:∃ X,X=wr.alloc (.cells #[.int .i64 (ta:Int),.int .i64 (tb:Int),.bool td] 56):=⟨_,rfl⟩
              obtain ⟨zb,hzb⟩:∃ z,z=wr.heap.size:=⟨_,rfl⟩
              have hbz:Blk X0 zb 56 #[.int .i64 (ta:Int),.int .i64 (tb:Int),.bool td]:=by rw [hX0];exact Blk.new _ _ _ _ hzb
              have hbX:Below wr.heap.size wr X0:=by rw [hX0];exact (Below.refl _ _).alloc (Nat.le_refl _) _
              rw [<- hX0,<- hzb]
              have HTN:=Hd_ (HTN.out.below hbX)
              have hbp:Blk X0 w.heap.size 27 #[.slice A n1 c,.int .i64 p.first,.int .i64 p.last,.slice B0 n2 c2,.bool p.nul]:=(HTN.out.bel.block w.heap.size hplk).trans HBPk.out
              have HBX:=Hd_ (HBK.out.trans (HTN.out.bel.mono HBK.out.size))
              have z0:X0.cell? ⟨zb,0,none⟩=some (.int .i64 (ta:Int)):=by exact hbz.cell 0
              have z1:X0.cell? ⟨zb,1,none⟩=some (.int .i64 (tb:Int)):=by exact hbz.cell 1
              have z2:X0.cell? ⟨zb,2,none⟩=some (.bool td):=by exact hbz.cell 2
              have x0:X0.cell? ⟨w.heap.size,0,none⟩=some (.slice A n1 c):=by exact hbp.cell 0
              have x1:X0.cell? ⟨w.heap.size,1,none⟩=some (.int .i64 p.first):=by exact hbp.cell 1
              have x2:X0.cell? ⟨w.heap.size,2,none⟩=some (.int .i64 p.last):=by exact hbp.cell 2
              have x3:X0.cell? ⟨w.heap.size,3,none⟩=some (.slice B0 n2 c2):=by exact hbp.cell 3
              have x4:X0.cell? ⟨w.heap.size,4,none⟩=some (.bool p.nul):=by exact hbp.cell 4
              have hl0:=hbp.lt
              have hzl:=hbz.lt
              clear hbp hbz hbX hX0 q0 q1 q2 hzb hgnw
              go_wp2_with fail
              refine (twinNext ta tb td _ p k _ (HV.out.keep HBX.out) HOK.out hta htb).mono ?_
              rintro e wA ⟨vN,rfl,hoN,hbA⟩
              obtain ⟨AN,cN',rfl,hlN,hmN,-⟩:=hoN.sl cTw_len
              obtain ⟨NX,hNX⟩:∃ NX,NX=twnX p k (ta,tb,td):=⟨_,rfl⟩
              rw [<- hNX] at hoN hlN ⊢
              have hX0s:=HTN.out.bel.size
              have haw:AwN X0.heap.size wA.heap.size wA (.slice gv mv cv) bs (.slice AN NX.length cN') NX :=
               ⟨fun b hb=>.inl (HTN.out.row.lt b hb).2,hoN.sl cTw_len,Nat.le_refl _,HTN.out.seen.lt⟩
              have HAW:=Hd_ haw
              have HTN:=Hd_ (HTN.out.below hbA)
              have HNX:=Hd_ hNX
              unfold maxLen at hmN
              have hNl:NX.length<=441:=by rw [hNX];exact twnX_len _ _ _
              obtain ⟨lo3,hlo3⟩:∃ l,l=X0.heap.size:=⟨_,rfl⟩
              obtain ⟨hi3,hhi3⟩:∃ l,l=wA.heap.size:=⟨_,rfl⟩
              rw [<- hlo3,<- hhi3] at HAW
              clear haw hoN hbA hNX hlo3 hhi3 z0 z1 z2 x0 x1 x2 x3 x4 hl0 hzl hX0s hws
              go_wp2_with fail
              go_loopw [10,15,16,17,55] (fun vn _ _ _ jj wr=>∃ (j:Nat) (N:List Twn),j<=NX.length/\jj=.int .i64 (j:Int)/\TwN wk wr vn bs N/\AwN lo3 hi3 wr vn bs (.slice AN NX.length cN') NX/\N.Nodup/\∀ y,y ∈ N ↔ ldB p (S.take i) m k y ∨ (y ∈ NX.take j/\dT p (idxT p y)=(m:Int))) (fun _ _ _ _ jj _=>NX.length - (intOf jj).toNat)
              case atStart=>exact ⟨0,N,Nat.zero_le _,rfl,HTN.out,HAW.out,HND.out,fun y=>by rw [HME.out y];simp⟩
              case round =>
               clear HTN HAW HND HME
               obtain ⟨j,N,hj,rfl,htn,haw,hnd,hmem⟩:=hrel
               have HTN:=Hd_ htn
               have HAW:=Hd_ haw
               have HND:=Hd_ hnd
               have HME:=Hd_ hmem
               have hws:=htn.bel.size
               by_cases hlj:j < NX.length
               · have hat:NX[j]?=some (NX[j]'hlj):=List.getElem?_eq_getElem hlj
                 obtain ⟨⟨xa,xb,xd⟩,hx⟩:∃ x,x=NX[j]'hlj:=⟨_,rfl⟩
                 rw [<- hx] at hat
                 have hxm:(xa,xb,xd) ∈ twnX p k (ta,tb,td):=by rw [<- HNX.out];exact List.mem_of_getElem? hat
                 obtain ⟨⟨hxa1,hxa2⟩,⟨hxb1,hxb2⟩,-⟩:=twnX_in hxm H20.out
                 simp only at hxa1 hxa2 hxb1 hxb2
                 have HXE:=Hd_ (twn_next2 H20.out HTE.out hk9 hxm)
                 have HTK:=Hd_ (show NX.take (j+1)=NX.take j ++ [(xa,xb,xd)] by rw [List.take_add_one,hat];rfl)
                 obtain ⟨bn,on,en,hbn1,hbn2,q0,q1,q2⟩:=haw.sl.tw hat
                 simp only at q0 q1 q2
                 subst en
                 have hbnw:bn < wr.heap.size:=by have:=haw.le;omega
                 have hjj:(j:Int) < (NX.length:Int):=by omega
                 obtain ⟨A7,n7,c7,rfl⟩:=(Own.of_row htn.row rfl rfl).shape
                 obtain ⟨dx,hdx⟩:∃ d,d=dT p (idxT p (xa,xb,xd)):=⟨_,rfl⟩
                 have HSK:=Hd_ (show dx ≠ (m:Int) ∨ (xa,xb,xd) ∈ N->∀ y,y ∈ N ↔ ldB p (S.take i) m k y ∨ (y ∈ NX.take (j+1)/\dT p (idxT p y)=(m:Int)) from fun hor y=>by
                  rw [HTK.out,hmem y,List.mem_append,List.mem_singleton]
                  constructor
                  · rintro (h1 | ⟨h1,h2⟩)
                    · exact .inl h1
                    · exact .inr ⟨.inl h1,h2⟩
                  · rintro (h1 | ⟨h1 | h1,h2⟩)
                    · exact .inl h1
                    · exact .inr ⟨h1,h2⟩
                    · rw [h1] at h2 ⊢
                      rcases hor with h3 | h3
                      · exact absurd (hdx.trans h2) h3
                      · exact (hmem _).1 h3)
                 have HAD:=Hd_ (show dx=(m:Int)->∀ y,y ∈ N ++ [(xa,xb,xd)] ↔ ldB p (S.take i) m k y ∨ (y ∈ NX.take (j+1)/\dT p (idxT p y)=(m:Int)) from fun he y=>by
                  rw [HTK.out,List.mem_append,hmem y,List.mem_append,List.mem_singleton]
                  constructor
                  · rintro ((h1 | ⟨h1,h2⟩) | h1)
                    · exact .inl h1
                    · exact .inr ⟨.inl h1,h2⟩
                    · exact .inr ⟨.inr h1,by rw [h1,<- hdx];exact he⟩
                  · rintro (h1 | ⟨h1 | h1,h2⟩)
                    · exact .inl (.inl h1)
                    · exact .inl (.inr ⟨h1,h2⟩)
                    · exact .inr h1)
                 have HDX:=Hd_ hdx
                 clear hx hat hxm htn haw hnd hmem hdx
                 go_upto_region 22 with fail
                 obtain ⟨X1,hX1⟩:∃ X,X=wr.alloc (.cells #[.int .i64 (xa:Int),.int .i64 (xb:Int),.bool xd] 56):=⟨_,rfl⟩
                 obtain ⟨zx,hzx⟩:∃ z,z=wr.heap.size:=⟨_,rfl⟩
                 have hbz:Blk X1 zx 56 #[.int .i64 (xa:Int),.int .i64 (xb:Int),.bool xd]:=by rw [hX1];exact Blk.new _ _ _ _ hzx
                 have hbX:Below wr.heap.size wr X1:=by rw [hX1];exact (Below.refl _ _).alloc (Nat.le_refl _) _
                 rw [<- hX1,<- hzx]
                 have hbsz:bs < zx:=by rw [hzx];exact HTN.out.seen.lt
                 have HTN:=Hd_ (HTN.out.below hbX)
                 have HAW:=Hd_ (HAW.out.below hbX)
                 have z0:X1.cell? ⟨zx,0,none⟩=some (.int .i64 (xa:Int)):=by exact hbz.cell 0
                 have z1:X1.cell? ⟨zx,1,none⟩=some (.int .i64 (xb:Int)):=by exact hbz.cell 1
                 have z2:X1.cell? ⟨zx,2,none⟩=some (.bool xd):=by exact hbz.cell 2
                 have hzl:=hbz.lt
                 have HBZ:=Hd_ hbz
                 have HLK:=Hd_ ((HMK.out.block (HTN.out.bel.block bd hbdk)).look_ok Try.underlying52 (z:=.int .i64 0) (Try.zeroValue3 X1) rfl (t:=(xa,xb,xd)) ⟨hxa2,hxb2⟩)
                 have HLS:=Hd_ (HTN.out.seen.look Try.underlying58 (z:=.bool false) (Try.zeroValue4 X1) rfl (t:=(xa,xb,xd)) ⟨hxa2,hxb2⟩)
                 clear hbz hbX hX1 hzx q0 q1 q2 hbnw hws
                 by_cases hneg:dx < 0
                 · have hlk:(Instr.lookup 52 (.map (some bd)) (.agg #[.int .i64 (xa:Int),.int .i64 (xb:Int),.bool xd]) true).run Try.prog X1=.ok (.tuple #[.int .i64 0,.bool false]) X1:=by
                    have h:=HLK.out
                    rw [HF.out,if_neg (fun h2=>by have:=h2.2;rw [<- HDX.out] at this;omega)] at h
                    exact h
                   have HS2:=Hd_ (HSK.out (.inl (by omega)))
                   clear HLK
                   go_wp2_with fail
                   go_roundw
                   case rel=>exact ⟨j+1,N,by omega,by go_num,HTN.out,HAW.out,HND.out,HS2.out⟩
                   case measure=>simp [intOf];omega
                 · have hlk:(Instr.lookup 52 (.map (some bd)) (.agg #[.int .i64 (xa:Int),.int .i64 (xb:Int),.bool xd]) true).run Try.prog X1=.ok (.tuple #[.int .i64 dx,.bool true]) X1:=by
                    have h:=HLK.out
                    rw [HF.out,if_pos ⟨List.contains_iff_mem.2 HXE.out,by rw [<- HDX.out];omega⟩,<- HDX.out] at h
                    exact h
                   clear HLK
                   by_cases hdm:dx=(m:Int)
                   · subst hdm
                     by_cases hin:(xa,xb,xd) ∈ N
                     · have hls:(Instr.lookup 58 (.map (some bs)) (.agg #[.int .i64 (xa:Int),.int .i64 (xb:Int),.bool xd]) false).run Try.prog X1=.ok (.bool true) X1:=by
                        have h:=HLS.out
                        rw [seenT,if_pos (List.contains_iff_mem.2 hin)] at h
                        exact h
                       have HS2:=Hd_ (HSK.out (.inr hin))
                       clear HLS hin
                       go_wp2_with fail
                       go_roundw
                       case rel=>exact ⟨j+1,N,by omega,by go_num,HTN.out,HAW.out,HND.out,HS2.out⟩
                       case measure=>simp [intOf];omega
                     · have hls:(Instr.lookup 58 (.map (some bs)) (.agg #[.int .i64 (xa:Int),.int .i64 (xb:Int),.bool xd]) false).run Try.prog X1=.ok (.bool false) X1:=by
                        have h:=HLS.out
                        rw [seenT,if_neg (fun e=>hin (List.contains_iff_mem.1 e))] at h
                        exact h
                       have HS2:=Hd_ (HAD.out rfl)
                       have HND2:=Hd_ (show (N ++ [(xa,xb,xd)]).Nodup by
                        rw [List.nodup_append]
                        exact ⟨HND.out,by simp,fun b hb c hc e=>hin (by rw [List.mem_singleton] at hc;rw [<- hc,<- e];exact hb)⟩)
                       have hNl2:N.length<=882:=sub_len H20.out HND.out (fun y hy=>by
                        rcases (HME.out y).1 hy with h1 | ⟨h1,-⟩
                        · exact ld_end H20.out (fun t ht=>HSE.out t (List.mem_of_mem_take ht)) hk9 h1
                        · exact twn_next2 H20.out HTE.out hk9 (by rw [<- HNX.out];exact List.mem_of_mem_take h1))
                       have hmx:N.length < maxLen:=by unfold maxLen;omega
                       have qb1:(N.length+1) * 24<=140737488355328:=by omega
                       have HLO:=Hd_ (show twLow (xa,xb,xd) from ⟨hxa2,hxb2⟩)
                       clear HLS hin
                       go_upto_region 25 with (at_mapUpdate;(refine wpList_put_tw rfl _ _ _ 58 rfl Try.underlying58 HTN.out.seen hmx (t:=(xa,xb,xd)) HLO.out (u:=.bool true) rfl rfl rfl rfl ?_);intro w4 hm4 hg4;have HM4:=Hd_ hm4;have HG4:=Hd_ hg4;clear hm4 hg4)
                       have hbz4:Blk w4 zx 56 #[.int .i64 (xa:Int),.int .i64 (xb:Int),.bool xd]:=(HG4.out.block zx hzl (fun e=>by injection e;omega)).trans HBZ.out
                       have z0:w4.cell? ⟨zx,0,none⟩=some (.int .i64 (xa:Int)):=by exact hbz4.cell 0
                       have z1:w4.cell? ⟨zx,1,none⟩=some (.int .i64 (xb:Int)):=by exact hbz4.cell 1
                       have z2:w4.cell? ⟨zx,2,none⟩=some (.bool xd):=by exact hbz4.cell 2
                       have hzl4:=hbz4.lt
                       have HRW:=Hd_ (ownsRow_block HTN.out.row fun b hb=>HG4.out.block b (HTN.out.row.lt b hb).2 (fun e=>HTN.out.seen.notRow HTN.out.row (by rw [hb,<- e])))
                       have qb2:wk.heap.size<=w4.heap.size:=Nat.le_trans HTN.out.bel.size HG4.out.size
                       clear hbz4 hlk hls
                       go_wp2_with (at_builtin;(refine wpList_append1 cTw elTw rfl _ _ rfl wk.heap.size _ N (xa,xb,xd) _ 1 _ (by rfl) HRW.out (by rfl) rfl rfl rfl (cTw_one _) qb1 (by decide) qb2 ?_);intro v5 w5 hrow5 hb5 hat5 hgr5)
                       go_roundw
                       case rel=>exact ⟨j+1,N ++ [(xa,xb,xd)],by omega,by go_num,HTN.out.add HM4.out HG4.out hrow5 hgr5,HAW.out.add HG4.out hgr5 hat5,HND2.out,HS2.out⟩
                       case measure=>simp [intOf];omega
                   · have HS2:=Hd_ (HSK.out (.inl hdm))
                     have hdb:(dx==(m:Int))=false:=by simpa using hdm
                     go_wp2_with fail
                     go_roundw
                     case rel=>exact ⟨j+1,N,by omega,by go_num,HTN.out,HAW.out,HND.out,HS2.out⟩
                     case measure=>simp [intOf];omega
               · obtain rfl:NX.length=j:=by omega
                 have HM2:=Hd_ (show ∀ y,y ∈ N ↔ ldB p (S.take (i+1)) m k y from fun y=>by rw [HME.out y,HLT.out y,List.take_length,HNX.out])
                 clear htn haw hnd hmem
                 go_wp2_with fail
                 go_roundw
                 case rel=>exact ⟨i+1,N,by omega,by go_num,HTN.out,HND.out,HM2.out⟩
                 case measure=>simp [intOf];omega
            · obtain rfl:S.length=i:=by omega
              have HM2:=Hd_ (show ∀ y,y ∈ N ↔ ldB p S m k y from fun y=>by rw [HME.out y,List.take_length])
              cases N with
              | nil =>
                obtain ⟨A7,c7,hv7,hl7,hm7,-⟩:=(Own.of_row (xs:=([]:List Twn)) htn.row rfl rfl).sl cTw_len
                subst hv7
                have HTW2:=Hd_ (show TwW w2 wr (.slice (some ⟨gn,0,none⟩) S.length cn) (.slice A9 n9 c9) S O from HTW.out.below htn.bel)
                have HNO2:=Hd_ (show ∀ j,j < k+1->∀ x,¬ ldB p S m j x from fun j hj x hx=>by
                 by_cases hjk:j=k
                 · subst hjk
                   have:=(HM2.out x).2 hx
                   simp at this
                 · exact HNO.out j (by omega) x hx)
                clear htn
                simp only [List.length_nil] at *
                go_wp2_with fail
                go_roundw
                case rel=>exact ⟨k+1,by omega,by go_num,rfl,rfl,HTW2.out,HNO2.out⟩
                case measure=>simp [intOf];omega
              | cons x N =>
                obtain ⟨A7,c7,hv7,hl7,hm7,-⟩:=(Own.of_row htn.row rfl rfl).sl cTw_len
                subst hv7
                have hpos:0 < (x :: N).length:=by simp
                obtain ⟨NL,hNL⟩:∃ NL,NL=x :: N:=⟨_,rfl⟩
                rw [<- hNL] at hpos HM2 HND HTN
                have HTW2:=Hd_ (HTW.out.next HTN.out)
                have HNE2:=Hd_ (show NL ≠ [] by rw [hNL];simp)
                have HNX2:=Hd_ (amb_letter HSE.out hk9 HM2.out HNE2.out HNO.out)
                have HSE2:=Hd_ (show ∀ t ∈ NL,t ∈ endT p from fun t ht=>ld_end H20.out HSE.out hk9 ((HM2.out t).1 ht))
                have HSD2:=Hd_ (show ∀ t ∈ NL,dT p (idxT p t)=(m:Int) from fun t ht=>by obtain ⟨u,-,-,h⟩:=(HM2.out t).1 ht;exact h)
                have qb1:(O.length+1) * 8<=140737488355328:=by omega
                have qb2:w2.heap.size<=wr.heap.size:=Nat.le_trans hw2k htn.bel.size
                have hpi:(0:Int) < (NL.length:Int):=by omega
                rw [<- hNL]
                clear htn hNL hmm
                go_wp2_with (at_builtin;(refine wpList_append1 cN elInt rfl _ _ rfl w2.heap.size _ O k _ 1 _ (by rfl) HTW2.out.word (by rfl) rfl rfl rfl (cN_one _) qb1 (by decide) qb2 ?_);intro v8 w8 hrow8 hb8 hat8 hgr8)
                go_roundw
                case rel=>exact ⟨m,NL,O ++ [k],by go_num,by rw [List.length_append,List.length_singleton];have:=HON.out;omega,HTW2.out.push hrow8 hgr8 hat8,HNE2.out,HND.out,HSE2.out,HSD2.out,by rw [<- HOA.out,HNX2.out,List.append_assoc];rfl⟩
                case measure=>(simp [intOf] <;> omega)
         · obtain rfl:k=9:=by omega
           exact (amb_some HSE.out HNE.out HSD.out HNO.out).elim
end Go.Proofs.Ythnapjodmndlaaa
namespace Go.Proofs.Ythnapjodmndlaaa
open Go.ChangeShapes Go.WideShapes Go.ChangeAt Go.RowKit
attribute [local go_sem] ext_cell ext_frozen ext_lt ext_lt1 ext_lt2 ext_lt3 ltn2 ltn3 ltn13 lts1 lts2 lts3
noncomputable def unamT (p:Pz):Bool:=pzOk p && !(ambT p).2
set_option maxRecDepth 100000 in
set_option maxHeartbeats 4000000 in
theorem implUnam (v:Value) (p:Pz) (w:World) (hv:PzV 0 w.heap.size w v p) :
 Calls Try.prog 9 #[v] w fun e w'=>e=.returned (.bool (unamT p))/\Below w.heap.size w w':=by
 obtain ⟨R,hR⟩:∃ R,R=unamT p:=⟨_,rfl⟩
 rw [<- hR]
 have HR:=Hd_ hR
 clear hR
 have HAM:=Hd_ (fun W (h:Below w.heap.size w W)=>implAmb v p W (hv.keep h))
 have HVP:=Hd_ (fun W (h:Below w.heap.size w W)=>implValidPos v p W (hv.keep h))
 obtain ⟨vq,vf,rfl,h1,h2⟩:=hv
 obtain ⟨A,n1,c,rfl⟩:=h1.shape
 obtain ⟨B0,n2,c2,rfl⟩:=h2.shape
 obtain ⟨W0,hW0⟩:∃ W0,W0=w.alloc (.cells #[.slice A n1 c,.int .i64 p.first,.int .i64 p.last,.slice B0 n2 c2,.bool p.nul] 27):=⟨_,rfl⟩
 have hbp:Blk W0 w.heap.size 27 #[.slice A n1 c,.int .i64 p.first,.int .i64 p.last,.slice B0 n2 c2,.bool p.nul]:=by rw [hW0];exact Blk.new _ _ _ _ rfl
 have hb0:Below w.heap.size w W0:=by rw [hW0];exact (Below.refl _ _).alloc (Nat.le_refl _) _
 have HB0:=Hd_ hb0
 have x0:W0.cell? ⟨w.heap.size,0,none⟩=some (.slice A n1 c):=by exact hbp.cell 0
 have x1:W0.cell? ⟨w.heap.size,1,none⟩=some (.int .i64 p.first):=by exact hbp.cell 1
 have x2:W0.cell? ⟨w.heap.size,2,none⟩=some (.int .i64 p.last):=by exact hbp.cell 2
 have x3:W0.cell? ⟨w.heap.size,3,none⟩=some (.slice B0 n2 c2):=by exact hbp.cell 3
 have x4:W0.cell? ⟨w.heap.size,4,none⟩=some (.bool p.nul):=by exact hbp.cell 4
 have hl0:w.heap.size < W0.heap.size:=hbp.lt
 obtain ⟨q1,hq1⟩:∃ q,q=pzOk p:=⟨_,rfl⟩
 obtain ⟨q2,hq2⟩:∃ q,q=(ambT p).2:=⟨_,rfl⟩
 rw [<- hq1] at HVP
 rw [<- hq2] at HAM
 have HRR:=Hd_ (show R=(q1 && !q2) by rw [HR.out,hq1,hq2];rfl)
 clear h1 h2 hbp hb0 hq1 hq2 HR
 go_enter Try.func9,Try.ntmps9
 go_upto_region 1 with fail
 rw [<- hW0]
 clear hW0
 go_wp2_with fail
 refine (HAM.out _ HB0.out).mono ?_
 rintro e w1 ⟨vo,rfl,hoo,hb1⟩
 obtain ⟨A9,n9,c9,rfl⟩:=hoo.shape
 have x0:=kcell hb1 x0
 have x1:=kcell hb1 x1
 have x2:=kcell hb1 x2
 have x3:=kcell hb1 x3
 have x4:=kcell hb1 x4
 have hl0:=Nat.lt_of_lt_of_le hl0 hb1.size
 have HB1:=Hd_ (below_trans HB0.out hb1)
 clear hb1 hoo
 go_wp2_with fail
 refine (HVP.out _ HB1.out).mono ?_
 rintro e w2 ⟨rfl,hb2⟩
 have HB2:=Hd_ (below_trans HB1.out hb2)
 clear hb2
 cases q1 with
 | false =>
   go_wp2_with fail
   go_ret
   exact ⟨by rw [HRR.out];rfl,HB2.out⟩
 | true =>
   rw [Bool.true_and] at HRR
   go_wp2_with fail
   go_ret
   exact ⟨by rw [HRR.out];rfl,HB2.out⟩
end Go.Proofs.Ythnapjodmndlaaa
namespace Go.Proofs.Ythnapjodmndlaaa
theorem seat_mayEnter:Try.pinned.checked.prog.mayEnter=true:=by kernel_rfl
theorem seat_lifts:Try.pinned.checked.prog.liftsFinal=false:=by kernel_rfl
theorem seat_laidOut:laidOutB Try.pinned.checked.prog=true:=by kernel_rfl
theorem seat_mapsRowed:mapsRowed Try.pinned.checked.prog=true:=by kernel_rfl
end Go.Proofs.Ythnapjodmndlaaa
