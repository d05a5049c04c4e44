/- Parts of the proof, joined into one text: CtrN, NthI, WalksI, ListI, NthS, ListS. -/
import Derived.Test.YteaplabkemoenaaGreatOnlzOOJCFDDE
import Derived.Deep.LoopGhost
import Derived.Test.YteaplabkemoenaaGreatOnlzCIBJHJFA
import Derived.Test.YteaplabkemoenaaGreatOnlzJGIJMECD
import Derived.Test.YteaplabkemoenaaGreatOnlzFMOOOICK
import Derived.Test.YteaplabkemoenaaGreatOnlzFJCGBBIC
set_option linter.unusedVariables false
set_option linter.unusedSimpArgs false
namespace Go.Proofs.YteaplabkemoenaaGreat
open Go.ChangeShapes Go.WideShapes Go.ChangeAt Go.RowKit Go.Maps
attribute [local go_sem] ext_cell ext_frozen ext_lt ext_lt1 ext_lt2 ext_lt3 ltn2 ltn3 ltn13 lts1 lts2 lts3
theorem Mem.new (g:Gr) (a:Au) (y:Int) (w:World):Mem g a y (w.alloc (.map #[] 0)) w.heap.size []:=⟨.map [],World.ownsMap_made w _ _ _,MemD.empty g a y⟩
set_option maxHeartbeats 4000000 in
set_option maxRecDepth 100000 in
theorem newCounter_any (v1 v2:Value) (g:Gr) (a:Au) (y:Int) (w:World) (hgv:GrV 0 w.heap.size w v1 g) (hav:AuV 0 w.heap.size w v2 a) (hgo:grOk g=true) (ha:auOk a=true) :
 Calls Tryz.prog 19 #[v1,v2,.int .i64 y] w fun e w'=>∃ bC bM,e=.returned (.pointer (some ⟨bC,0,none⟩))/\w.heap.size<=bM/\Ctr g a y w' bC bM/\Mem g a y w' bM []/\Below w.heap.size w w':=by
 have hgv0:=hgv
 have hav0:=hav
 obtain ⟨A1,c1,A2,c2,rfl,hl1,hm1,hl2,hm2,-,-⟩:=hgv.form
 obtain ⟨A3,c3,A4,c4,rfl,hl3,hm3,hl4,hm4,-⟩:=hav.form ha
 have hb0:Below w.heap.size w ((w.alloc (.cells #[.slice A1 g.vals.length c1,.slice A2 g.edges.length c2] 27)).alloc (.cells #[.int .i64 a.start,.slice A3 a.accept.length c3,.slice A4 a.accept.length c4] 31)):=((Below.refl _ _).alloc (Nat.le_refl _) _).alloc (by simp) _
 have HGV:=Hd_ hgv0
 have HAV:=Hd_ hav0
 have HAR:=Hd_ (fun (W:World) (hW:Below w.heap.size w W)=>arcs_any _ g W (HGV.out.keep hW) (grOk_iff.1 hgo))
 clear hgv hav hgv0 hav0 hgo ha
 have hmm:=@run_makeMap Tryz.prog
 go_enter Tryz.func19,Tryz.ntmps19
 go_upto_region 1 with fail
 obtain ⟨W0,hW0⟩:∃ W0,W0=((w.alloc (.cells #[.slice A1 g.vals.length c1,.slice A2 g.edges.length c2] 27)).alloc (.cells #[.int .i64 a.start,.slice A3 a.accept.length c3,.slice A4 a.accept.length c4] 31)):=⟨_,rfl⟩
 rw [<- hW0] at hb0 ⊢
 have x0:W0.cell? ⟨w.heap.size,0,none⟩=some (.slice A1 g.vals.length c1):=by rw [hW0];simp
 have x1:W0.cell? ⟨w.heap.size,1,none⟩=some (.slice A2 g.edges.length c2):=by rw [hW0];simp
 have y0:W0.cell? ⟨w.heap.size+1,0,none⟩=some (.int .i64 a.start):=by rw [hW0];simp
 have y1:W0.cell? ⟨w.heap.size+1,1,none⟩=some (.slice A3 a.accept.length c3):=by rw [hW0];simp
 have y2:W0.cell? ⟨w.heap.size+1,2,none⟩=some (.slice A4 a.accept.length c4):=by rw [hW0];simp
 have hs0:w.heap.size+1+1=W0.heap.size:=by rw [hW0];simp
 try rw [hs0]
 have l0:w.heap.size+1 < W0.heap.size:=by omega
 have l00:w.heap.size < W0.heap.size:=by omega
 clear hW0 hs0
 have hbD:=below_trans hb0 ((Below.refl W0.heap.size W0).drew)
 refine F_start 7 (fun w'=>w'.cell? ⟨w.heap.size,0,none⟩=some (.slice A1 g.vals.length c1)/\w'.cell? ⟨w.heap.size,1,none⟩=some (.slice A2 g.edges.length c2)/\w'.cell? ⟨w.heap.size+1,0,none⟩=some (.int .i64 a.start)/\w'.cell? ⟨w.heap.size+1,1,none⟩=some (.slice A3 a.accept.length c3)/\w'.cell? ⟨w.heap.size+1,2,none⟩=some (.slice A4 a.accept.length c4)) (by kernel_rfl) (by exact ⟨x0,x1,y0,y1,y2⟩) (fun hS inv=>?_)
 refine F_tk 0 inv ?_
 try simp only [tA,tB,tC,Act.put,tE,tF,tG]
 clear inv;intro inv
 refine F_tk 1 inv ?_
 try simp only [tA,tB,tC,Act.put,tE,tF,tG]
 clear inv;intro inv
 refine F_tk 2 inv ?_
 try simp only [tA,tB,tC,Act.put,tE,tF,tG]
 clear inv;intro inv
 refine F_tk 3 inv ?_
 try simp only [tA,tB,tC,Act.put,tE,tF,tG]
 clear inv;intro inv
 have hS0:=hS
 refine F_two (i:=4) (j:=5) (by kernel_rfl) rfl rfl rfl rfl (by omega) inv (fun K hK=>?_) (fun K hK=>?_)
 all_goals (try simp only [tA,tB,tC])
 · go_simp
   refine (HAR.out _ hbD).mono ?_
   rintro en wA ⟨vA,rfl,hsse,hbA⟩
   obtain ⟨A5,c5,hv5,hl5,hm5⟩:=hsse.shape
   have hlen5:((List.range g.vals.length).map fun (x:Nat)=>arcsOf g (x:Int)).length=g.vals.length:=by simp
   rw [hlen5] at hv5 hl5
   subst hv5
   have hbDA:=below_trans hbD hbA
   have HSSE:=Hd_ hsse
   have hsA:=hbA.size
   clear hsse hlen5
   refine hK.out _ _ (kB5 hbA hS) (fun _ _=>?_)
   try simp only [tA,tB,tC,Act.put,tE,tF,tG]
   clear hK K inv hS;rename_i hS inv
   refine F_o1 5 inv ?_;intro K hK
   try simp only [tA,tB,tC]
   go_simp
   have hbM:Below wA.heap.size wA (wA.alloc (.map #[] 0)):=(Below.refl _ _).alloc (Nat.le_refl _) _
   have HMM:=Hd_ (Mem.new g a y wA)
   refine hK.out _ _ (kA5 _ hS) (fun _ _=>?_)
   try simp only [tA,tB,tC,Act.put,tE,tF,tG]
   clear hK K inv hS;rename_i hS inv
   refine F_tk 6 inv ?_
   try simp only [tA,tB,tC,Act.put,tE,tF,tG]
   clear inv;intro inv
   refine F_tail (i:=7) (by kernel_rfl) rfl rfl (by omega) (fun K hK=>?_)
   try simp only [tA,tB,tC]
   go_simp
   refine hK.out _ _ ?_
   try simp only [tA,tB,tC,Act.put,tE,tF,tG]
   clear hK K
   try clear inv hS
   refine F_l1 8 ?_;intro K hK
   go_simp
   refine hK _ _ ?_
   clear hK K
   go_wp2_with fail
   have hbX:Below (wA.alloc (.map #[] 0)).heap.size (wA.alloc (.map #[] 0)) ((wA.alloc (.map #[] 0)).alloc (.cells #[.slice A1 g.vals.length c1,.slice A2 g.edges.length c2,.int .i64 a.start,.slice A3 a.accept.length c3,.slice A4 a.accept.length c4,.int .i64 y,.slice A5 g.vals.length c5,.map (some wA.heap.size)] 71)):=(Below.refl _ _).alloc (Nat.le_refl _) _
   have hbY:=below_trans hbDA (below_trans hbM hbX)
   have hbZ:=below_trans hbM hbX
   have hsw:=hbD.size
   have hszz:=hbZ.size
   go_ret
   exact ⟨_,wA.heap.size,rfl,Nat.le_trans hsw hsA,⟨w.heap.size,_,wA.heap.size,A1,A2,A3,A4,A5,c1,c2,c3,c4,c5,Blk.new _ _ _ _ (by simp),HGV.out.below hbY (Nat.le_refl _),HAV.out.below hbY (Nat.le_refl _),HSSE.out.below hbZ (Nat.le_refl _),Nat.le_trans hsw hsA,.inl (Nat.le_refl _),hszz,hbY.size,by simp⟩,HMM.out.keep hbX,hbY⟩
 · go_simp
   have hbM:Below W0.drew.heap.size W0.drew (W0.drew.alloc (.map #[] 0)):=(Below.refl _ _).alloc (Nat.le_refl _) _
   have HMM:=Hd_ (Mem.new g a y W0.drew)
   have hbDM:=below_trans hbD hbM
   refine hK.out _ _ (kA5 _ hS) (fun _ _=>?_)
   try simp only [tA,tB,tC,Act.put,tE,tF,tG]
   clear hK K inv hS;rename_i hS inv
   refine F_o1 4 inv ?_;intro K hK
   try simp only [tA,tB,tC]
   go_simp
   refine (HAR.out _ hbDM).mono ?_
   rintro en wA ⟨vA,rfl,hsse,hbA⟩
   obtain ⟨A5,c5,hv5,hl5,hm5⟩:=hsse.shape
   have hlen5:((List.range g.vals.length).map fun (x:Nat)=>arcsOf g (x:Int)).length=g.vals.length:=by simp
   rw [hlen5] at hv5 hl5
   subst hv5
   have HSSE:=Hd_ hsse
   have hsA:=hbA.size
   have hsw:=hbD.size
   have hbDA:=below_trans hbDM hbA
   clear hsse hlen5
   refine hK.out _ _ (kB5 hbA hS) (fun _ _=>?_)
   try simp only [tA,tB,tC,Act.put,tE,tF,tG]
   clear hK K inv hS;rename_i hS inv
   refine F_tk 6 inv ?_
   try simp only [tA,tB,tC,Act.put,tE,tF,tG]
   clear inv;intro inv
   refine F_tail (i:=7) (by kernel_rfl) rfl rfl (by omega) (fun K hK=>?_)
   try simp only [tA,tB,tC]
   go_simp
   refine hK.out _ _ ?_
   try simp only [tA,tB,tC,Act.put,tE,tF,tG]
   clear hK K
   try clear inv hS
   refine F_l1 8 ?_;intro K hK
   go_simp
   refine hK _ _ ?_
   clear hK K
   go_wp2_with fail
   have hbX:Below wA.heap.size wA (wA.alloc (.cells #[.slice A1 g.vals.length c1,.slice A2 g.edges.length c2,.int .i64 a.start,.slice A3 a.accept.length c3,.slice A4 a.accept.length c4,.int .i64 y,.slice A5 g.vals.length c5,.map (some W0.heap.size)] 71)):=(Below.refl _ _).alloc (Nat.le_refl _) _
   have hbY:=below_trans hbDA hbX
   have hszz:=hbX.size
   have hwM:W0.heap.size < wA.heap.size:=by simp at hsA;omega
   go_ret
   exact ⟨_,W0.heap.size,rfl,hsw,⟨w.heap.size,W0.heap.size+1,wA.heap.size,A1,A2,A3,A4,A5,c1,c2,c3,c4,c5,Blk.new _ _ _ _ rfl,HGV.out.below hbY (Nat.le_refl _),HAV.out.below hbY (Nat.le_refl _),(HSSE.out.mono (by simp) (Nat.le_refl _)).below hbX (Nat.le_refl _),hsw,.inr (Nat.lt_succ_self _),hszz,hbY.size,by omega⟩,(HMM.out.keep hbA).keep hbX,hbY⟩
theorem start_any (g:Gr) (a:Au) (y:Int) (ha:auOk a=true) (bC bM x lf:Nat) (w:World) (hc:Ctr g a y w bC bM) (hx:x<=1000000) (hlf:lf<=60) :
 Calls Tryz.prog 21 #[.pointer (some ⟨bC,0,none⟩),.int .i64 (x:Int),.int .i64 (lf:Int)] w fun e w'=>e=.returned (.agg #[.int .i64 (x:Int),.int .i64 (bit a.start.toNat:Nat),.int .i64 (lf:Int)])/\Below w.heap.size w w':=by
 obtain ⟨B,lo,hi,A1,A2,A3,A4,A5,c1,c2,c3,c4,c5,hbk,-⟩:=hc
 obtain ⟨⟨_,hn⟩,⟨h0,h1⟩,-,-⟩:=auOk_iff.1 ha
 obtain ⟨s,hs⟩:=Int.eq_ofNat_of_zero_le h0
 have z2:w.cell? ⟨bC,2,none⟩=some (.int .i64 (s:Int)):=by rw [<- hs];exact hbk.cell 2
 have lC:=hbk.lt
 have lC1:bC < w.heap.size+1:=by omega
 rw [hs,Int.toNat_natCast]
 have e1:=shl_bit (s:=s) (by omega)
 have e2:wrap64 (2 ^ min s 64)=(bit s:Int):=by rw [Nat.min_eq_left (by omega)];exact e1
 clear hbk h0 h1 hs ha
 go_enter Tryz.func21,Tryz.ntmps21
 go_wp2_with fail
 refine bodyPost_ret (v:=.agg #[.int .i64 (x:Int),.int .i64 (bit s:Int),.int .i64 (lf:Int)]) (by simp [results,Tryz.results21,go_sem,e2]) rfl ⟨rfl,?_⟩
 repeat (first | exact Below.refl _ _ | refine Below.setCell ?_ (by simp <;> omega) _ | refine Below.alloc ?_ (by simp <;> omega) _)
theorem leftN_succ {α:Type} {k:α->Nat} {l:List α} {i n:Nat} {p:α} (h:l[i]?=some p):leftN k (l.take (i+1)) n=leftN k (l.take i) n - k p:=foldl_take h n
theorem leftN_le {α:Type} (k:α->Nat):∀ (l:List α) (n:Nat),leftN k l n<=n
 | [],n=>Nat.le_refl _
 | p :: l,n=>Nat.le_trans (leftN_le k l (n - k p)) (Nat.sub_le _ _)
/-- the first that is not passed over is the one picked -/
theorem pick_here {α:Type} {k:α->Nat} {l:List α} {i n:Nat} {p:α} (h:l[i]?=some p) (hno:∀ j q,j < i->l[j]?=some q->¬ leftN k (l.take j) n < k q) (hy:leftN k (l.take i) n < k p):pick k l n=some (p,leftN k (l.take i) n):=by
 have hi:=(List.getElem?_eq_some_iff.1 h).1
 rw [pick_skip hno (by omega),List.drop_eq_getElem_cons hi,(List.getElem?_eq_some_iff.1 h).2,pick,if_pos hy]
theorem pick_end {α:Type} {k:α->Nat} {l:List α} {n:Nat} (hno:∀ j q,j < l.length->l[j]?=some q->¬ leftN k (l.take j) n < k q):pick k l n=none:=by
 rw [pick_skip hno (Nat.le_refl _),List.drop_length];rfl
theorem Blk.set3 {w:World} {g:Nat} {t:TypeId} {c0 c1 c2:Value} (h:Blk w g t #[c0,c1,c2]) (d0 d1 d2:Value):Blk (((w.setCell ⟨g,0,none⟩ d0).setCell ⟨g,1,none⟩ d1).setCell ⟨g,2,none⟩ d2) g t #[d0,d1,d2]:=by
 have h2:=((h.set_ 0 d0).set_ 1 d1).set_ 2 d2
 simpa using h2
theorem only_set3 {lo hi:Nat} {a w:World} (h:Only lo hi a w) {g:Nat} (hg:a.heap.size<=g) (d0 d1 d2:Value):Only lo hi a (((w.setCell ⟨g,0,none⟩ d0).setCell ⟨g,1,none⟩ d1).setCell ⟨g,2,none⟩ d2) :=
 ((h.setCell (p:=⟨g,0,none⟩) (.inr hg) d0).setCell (p:=⟨g,1,none⟩) (.inr hg) d1).setCell (p:=⟨g,2,none⟩) (.inr hg) d2
theorem set3_block (w:World) (g:Nat) (d0 d1 d2:Value) (b:Nat) (hb:b ≠ g):(((w.setCell ⟨g,0,none⟩ d0).setCell ⟨g,1,none⟩ d1).setCell ⟨g,2,none⟩ d2).heap[b]?=w.heap[b]?:=by
 rw [Below.heap_setCell _ _ _ _ hb,Below.heap_setCell _ _ _ _ hb,Below.heap_setCell _ _ _ _ hb]
theorem gBlockN {w w':World} {row:Option Nat} (hg:w.grownBy w' row) {b:Nat} (hb:b < w.heap.size) (hne:row ≠ some b):w'.heap[b]?=w.heap[b]?:=hg.block b hb (fun e=>hne e.symm)
theorem only_below {lo hi B:Nat} {a b c:World} (h:Only lo hi a b) (hb:Below B b c) (hB:a.heap.size<=B):Only lo hi a c :=
 ⟨hb.os.trans h.os,hb.tape.trans h.tape,hb.output.trans h.output,Nat.le_trans h.size hb.size,fun n hn ho=>(hb.block n (by omega)).trans (h.block n hn ho)⟩
theorem Mem.at_ {g:Gr} {a:Au} {y:Int} {w w':World} {bM:Nat} {M:List Plc} (h:Mem g a y w bM M) (hb:w'.heap[bM]?=w.heap[bM]?):Mem g a y w' bM M:=by
 obtain ⟨D,h1,h2⟩:=h
 exact ⟨D,ownsMap_at h1 hb,h2⟩
theorem elStepN:ElemOk Tryz.prog 37 66 (.agg #[.int .i64 0,.bool false]) 2 16:=⟨Tryz.underlying37,by kernel_rfl,rfl,by omega⟩
set_option maxHeartbeats 8000000 in
set_option maxRecDepth 100000 in
theorem nth_any (g:Gr) (a:Au) (y:Int) (hgo:grOk g=true) (ha:auOk a=true) (bC bM lf x s n:Nat) (M:List Plc) (w:World) (hc:Ctr g a y w bC bM) (hm:Mem g a y w bM M) (hx:x < g.vals.length) (hs:s < 2 ^ a.accept.length) (hlf:lf<=60) (hn:n < cw g a y lf x s) :
 Calls Tryz.prog 26 #[.pointer (some ⟨bC,0,none⟩),.agg #[.int .i64 (x:Int),.int .i64 (s:Int),.int .i64 (lf:Int)],.int .i64 (n:Int)] w fun e w'=>∃ v',e=.returned v'/\Own w.heap.size w'.heap.size w' 66 cSt 2 v' (nthL g a y lf x s n)/\Only bM (bM+1) w w'/\∃ M',Mem g a y w' bM M':=by
 have HM:=Hd_ hm
 have HCT:=Hd_ hc
 have hbMw:=hm.lt
 obtain ⟨RR,hRR⟩:∃ RR,RR=nthL g a y lf x s n:=⟨_,rfl⟩
 rw [<- hRR]
 have HRR:=Hd_ hRR
 have HN:=Hd_ hn
 have HGO:=Hd_ hgo
 have HA:=Hd_ ha
 have HS:=Hd_ hs
 have hnle:n<=1000000:=by have:=cw_le g a y lf x s;omega
 have hn5:=(grOk_iff.1 hgo).n5
 clear hm hc hRR hn hgo ha hs
 go_enter Tryz.func26,Tryz.ntmps26
 go_wp2_with fail
 have HB0:=Hd_ ((Blk.new w 55 #[.int .i64 (x:Int),.int .i64 (s:Int),.int .i64 (lf:Int)] w.heap.size rfl).alloc (.cells #[] 66))
 have hbl0:Below w.heap.size w ((w.alloc (.cells #[.int .i64 (x:Int),.int .i64 (s:Int),.int .i64 (lf:Int)] 55)).alloc (.cells #[] 66)):=((Below.refl _ _).alloc (Nat.le_refl _) _).alloc (by simp) _
 have HO0:=Hd_ (Only.of_below hbl0 bM (bM+1))
 have HM0:=Hd_ (HM.out.keep hbl0)
 have HR0:=Hd_ (show ((w.alloc (.cells #[.int .i64 (x:Int),.int .i64 (s:Int),.int .i64 (lf:Int)] 55)).alloc (.cells #[] 66)).ownsRow (w.heap.size+1) 66 2 (.slice (some ⟨w.heap.size+1,0,none⟩) 0 0) ([]:List St).length (([]:List St).flatMap cSt) from by
  have h:=World.ownsRow_lit (base:=w.heap.size+1) (e:=66) (size:=2) (w.alloc (.cells #[.int .i64 (x:Int),.int .i64 (s:Int),.int .i64 (lf:Int)] 55)) #[] 0 (by simp) (by decide) rfl
  simpa using h)
 clear hbl0
 go_loopg [2,7] lf (fun gk nn oo wr=>∃ (x' s' n':Nat) (O:List St) (M':List Plc),nn=.int .i64 (n':Int)/\gk<=lf/\x' < g.vals.length/\s' < 2 ^ a.accept.length/\n' < cw g a y gk x' s'/\O ++ nthL g a y gk x' s' n'=RR/\O.length+gk=lf /\
  Blk wr w.heap.size 55 #[.int .i64 (x':Int),.int .i64 (s':Int),.int .i64 (gk:Int)]/\wr.ownsRow (w.heap.size+1) 66 2 oo O.length (O.flatMap cSt)/\Only bM (bM+1) w wr/\Mem g a y wr bM M')
 case atStart=>exact ⟨x,s,n,[],M,rfl,Nat.le_refl _,hx,HS.out,HN.out,HRR.out.symm,by simp,HB0.out,HR0.out,HO0.out,HM0.out⟩
 case round =>
  clear HB0 HO0 HM0 HR0
  obtain ⟨x',s',n',O,M',rfl,hgk,hx',hs',hn',hO,hOl,hblk,hrow,hon,hmm⟩:=hrel
  have hs4:=lt12 HA.out hs'
  have e0:wr.cell? ⟨w.heap.size,0,none⟩=some (.int .i64 (x':Int)):=hblk.cell 0
  have e1:wr.cell? ⟨w.heap.size,1,none⟩=some (.int .i64 (s':Int)):=hblk.cell 1
  have e2:wr.cell? ⟨w.heap.size,2,none⟩=some (.int .i64 (gk:Int)):=hblk.cell 2
  have lE:=hblk.lt
  have HBK:=Hd_ hblk
  have HROW:=Hd_ hrow
  have HON:=Hd_ hon
  have HMM:=Hd_ hmm
  have HO:=Hd_ hO
  have hnle':n'<=1000000:=by have:=cw_le g a y gk x' s';omega
  by_cases h0:gk=0
  · subst h0
    have hOe:O=RR:=by rw [<- hO];simp [nthL]
    have hown:=Own.of_row (xs:=O) hrow rfl rfl
    obtain ⟨A9,n9,c9,rfl⟩:=hown.shape
    rw [hOe] at hown
    have HOW:=Hd_ (hown.mono (lo':=w.heap.size) (by omega) (Nat.le_refl _))
    clear hblk hrow hon hmm hO hn' hOl hOe hown
    go_wp2_with fail
    go_ret
    exact ⟨_,rfl,HOW.out,HON.out,_,HMM.out⟩
  · obtain ⟨f,hf⟩:∃ f,gk=f+1:=⟨gk - 1,by omega⟩
    have hpick:=pick_cw (show n' < cw g a y (f+1) x' s' by rw [<- hf];exact hn')
    have HNX:=Hd_ (fun (l:Nat) (t sid:Int) (sinv:Bool) (W:World) (hW:Ctr g a y W bC bM) (hl:l < 9)=>next_any g a y HGO.out HA.out bC bM x' s' f l t sid sinv W hW hx' hs' (by omega) hl)
    rw [<- hf] at HNX
    have HNS:=Hd_ (fun n'' p (h:pick (cwAt g a y f x' s') (arcsOf g (x':Int)) n'=some (p,n''))=>nthL_succ (y:=y) h)
    rw [<- hf] at HNS
    have hfl:f < gk:=by omega
    have hgp:(0:Int) < (gk:Int):=by omega
    have hgn:0 < gk:=by omega
    have hctr:=HCT.out.only hon
    have HC1:=Hd_ hctr
    obtain ⟨B,lo,hi,A1,A2,A3,A4,A5,c1,c2,c3,c4,c5,hbk,hgv,hav,hlv,h5,h6,h7,h8,h9⟩:=hctr
    have z6:wr.cell? ⟨bC,6,none⟩=some (.slice A5 g.vals.length c5):=hbk.cell 6
    have lC:=hbk.lt
    have hA5:∃ b5 o5,A5=some ⟨b5,o5,none⟩/\b5 < wr.heap.size/\∃ A7 c7,wr.cell? ⟨b5,o5+x',none⟩=some (.slice A7 (arcsOf g (x':Int)).length c7)/\(arcsOf g (x':Int)).length<=c7/\c7<=9223372036854775807/\SlI lo hi wr cA 4 (.slice A7 (arcsOf g (x':Int)).length c7) (arcsOf g (x':Int)):=by
     obtain ⟨b5,o5,A7,c7,q1,q2,q3,q4,q5,q6,q7,-⟩:=hlv.row h7 (i:=x') (xs:=arcsOf g (x':Int)) (by simp [hx'])
     exact ⟨b5,o5,q1,by omega,A7,c7,q4,q5,q6,q7⟩
    obtain ⟨b5,o5,rfl,hb5,A7,c7,d5,hl7,hm7,hI7⟩:=hA5
    have hal:=arcs_len (grOk_iff.1 HGO.out) (x':Int)
    have hxx:(x':Int) < (g.vals.length:Int):=by omega
    have HI7:=Hd_ hI7
    have HP:=Hd_ hpick
    have hgk60:gk<=60:=by omega
    have hol:O.length<=60:=by omega
    have HF:=Hd_ hf
    have hrlt:=hrow.lt
    have HRL:=Hd_ hrlt
    obtain ⟨wo,hwo⟩:∃ wo:World,wo=wr:=⟨_,rfl⟩
    rw [<- hwo] at HBK HROW HON HMM HC1 HI7 HRL e0 e1 e2 lE z6 lC hb5 d5 h7 ⊢
    obtain ⟨vO,rfl⟩:∃ vO,vO=u7:=⟨_,rfl⟩
    clear hwo hbk hgv hav hlv h8 hpick hblk hrow hon hmm hO hn' hI7 hf hrlt h0
    go_upto_region 3 with fail
    refine wp_region_ext_lit (by kernel_rfl) (by kernel_rfl) ?_
    repeat (go_big_quiet_step (fail))
    refine wpQuiet_nil ?_
    rintro _ ⟨u2,rfl⟩
    clear d5 z6
    have hbU:=ext_below wo u2
    go_wp2_with fail
    go_loopw [25,2,7] (fun ii nn oo wi=>∃ (i:Nat) (M2:List Plc),i<=(arcsOf g (x':Int)).length/\ii=.int .i64 (i:Int)/\oo=vO/\nn=.int .i64 (leftN (cwAt g a y f x' s') ((arcsOf g (x':Int)).take i) n':Nat)/\(∀ j q,j < i->(arcsOf g (x':Int))[j]?=some q->¬ leftN (cwAt g a y f x' s') ((arcsOf g (x':Int)).take j) n' < cwAt g a y f x' s' q)/\Only bM (bM+1) wo wi/\Mem g a y wi bM M2) (fun ii _ _ _=>(arcsOf g (x':Int)).length - (intOf ii).toNat)
    case atStart=>exact ⟨0,M',Nat.zero_le _,rfl,rfl,rfl,fun j q hj=>by omega,Only.of_below hbU _ _,HMM.out.keep hbU⟩
    case round =>
     obtain ⟨i,M2,hi,rfl,hvo,rfl,hno,hon,hmm⟩:=hrel
     subst hvo
     by_cases hlt:i < (arcsOf g (x':Int)).length
     · have hyi:(arcsOf g (x':Int))[i]?=some (arcsOf g (x':Int))[i]:=List.getElem?_eq_getElem hlt
       have hyr:=arc_range (grOk_iff.1 HGO.out) (List.getElem_mem hlt)
       generalize (arcsOf g (x':Int))[i]=p at hyi hyr
       obtain ⟨⟨sid,sinv⟩,l,t⟩:=p
       simp only at hyr
       obtain ⟨l,rfl⟩:=Int.eq_ofNat_of_zero_le hyr.1.1
       obtain ⟨t,rfl⟩:=Int.eq_ofNat_of_zero_le hyr.2.1
       obtain ⟨b7,o7,rfl,hb7l,hb7,k0,k1,k2,k3⟩:=HI7.out.arc hyi
       simp only at k0 k1 k2 k3
       have hb7M:b7 < bM ∨ bM+1<=b7:=by omega
       have hb7o:b7 < wo.heap.size:=by omega
       have k0:=ocell hon k0 hb7o hb7M
       have k1:=ocell hon k1 hb7o hb7M
       have k2:=ocell hon k2 hb7o hb7M
       have k3:=ocell hon k3 hb7o hb7M
       have hsz:=hon.size
       have e0:=ocell hon e0 lE (.inr (by omega))
       have e1:=ocell hon e1 lE (.inr (by omega))
       have e2:=ocell hon e2 lE (.inr (by omega))
       have hb7w:b7 < wr.heap.size:=by omega
       have lEr:w.heap.size < wr.heap.size:=by omega
       have hAF:=aft_lt HA.out s' (valAt g x') l
       have hKA:cwAt g a y f x' s' ((sid,sinv),(l:Int),(t:Int))=cw g a y f t (aft a s' (valAt g x') l):=by rw [cwAt];simp
       have hPH:=fun h=>pick_here hyi hno h
       have hLS:=leftN_succ (k:=cwAt g a y f x' s') (n:=n') hyi
       have hLL:=leftN_le (cwAt g a y f x' s') ((arcsOf g (x':Int)).take i) n'
       rw [hKA] at hPH hLS
       have hno2:¬ leftN (cwAt g a y f x' s') ((arcsOf g (x':Int)).take i) n' < cw g a y f t (aft a s' (valAt g x') l)->∀ j q,j < i+1->(arcsOf g (x':Int))[j]?=some q->¬ leftN (cwAt g a y f x' s') ((arcsOf g (x':Int)).take j) n' < cwAt g a y f x' s' q:=fun h j q hj hq=>by
        rcases Nat.lt_or_ge j i with h1 | h1
        · exact hno j q h1 hq
        · obtain rfl:j=i:=by omega
          rw [hyi] at hq
          injection hq with hq
          rw [<- hq,hKA];exact h
       have hNSS:=fun n'' h=>HNS.out n'' ((sid,sinv),(l:Int),(t:Int)) h
       simp only [Int.toNat_natCast] at hNSS
       have hcl2:=cw_le g a y f t (aft a s' (valAt g x') l)
       have HNC:=Hd_ (fun (W:World) (hW:Ctr g a y W bC bM)=>HNX.out l (t:Int) sid sinv W hW (by omega))
       have HRC:=Hd_ (fun (W:World) (h1:Ctr g a y W bC bM) (h2:Mem g a y W bM M2)=>count_any g a y HGO.out HA.out bC bM f t (aft a s' (valAt g x') l) M2 W h1 h2 (by omega) hAF (by omega))
       obtain ⟨CC,hCC⟩:∃ CC,CC=cw g a y f t (aft a s' (valAt g x') l):=⟨_,rfl⟩
       rw [<- hCC] at hPH hLS hno2 hcl2 HRC
       have HCC:=Hd_ hCC
       generalize aft a s' (valAt g x') l=AF at *
       have hii:(i:Int) < ((arcsOf g (x':Int)).length:Int):=by omega
       have HLS:=Hd_ hLS
       have HPH:=Hd_ hPH
       have HN2:=Hd_ hno2
       have HNSS:=Hd_ hNSS
       have HON2:=Hd_ hon
       have HMM2:=Hd_ hmm
       have hAF4:AF < 4096:=lt12 HA.out hAF
       have htl:t < g.vals.length:=by omega
       have HAF:=Hd_ hAF
       clear hyi hno hLS hPH hno2 hNSS hCC hon hmm hKA hAF
       generalize leftN (cwAt g a y f x' s') ((arcsOf g (x':Int)).take i) n'=m1 at *
       have hbE:Below wr.heap.size wr (wr.alloc (.cells #[.int .i64 sid,.bool sinv,.int .i64 (l:Int),.int .i64 (t:Int)] 73)):=(Below.refl _ _).alloc (Nat.le_refl _) _
       have a0:(wr.alloc (.cells #[.int .i64 sid,.bool sinv,.int .i64 (l:Int),.int .i64 (t:Int)] 73)).cell? ⟨wr.heap.size,0,none⟩=some (.int .i64 sid):=by simp
       have a1:(wr.alloc (.cells #[.int .i64 sid,.bool sinv,.int .i64 (l:Int),.int .i64 (t:Int)] 73)).cell? ⟨wr.heap.size,1,none⟩=some (.bool sinv):=by simp
       go_wp2_with fail
       refine (HNC.out _ ((HC1.out.only HON2.out).keep hbE)).mono ?_
       rintro en w3 ⟨rfl,hb3⟩
       have hbQ:Below w3.heap.size w3 (w3.alloc (.cells #[.int .i64 (t:Int),.int .i64 (AF:Int),.int .i64 (f:Int)] 55)):=(Below.refl _ _).alloc (Nat.le_refl _) _
       have hbEQ:=below_trans hbE (below_trans hb3 hbQ)
       have hb3Q:=below_trans hb3 hbQ
       have q0:(w3.alloc (.cells #[.int .i64 (t:Int),.int .i64 (AF:Int),.int .i64 (f:Int)] 55)).cell? ⟨w3.heap.size,0,none⟩=some (.int .i64 (t:Int)):=by simp
       have q1:(w3.alloc (.cells #[.int .i64 (t:Int),.int .i64 (AF:Int),.int .i64 (f:Int)] 55)).cell? ⟨w3.heap.size,1,none⟩=some (.int .i64 (AF:Int)):=by simp
       have q2:(w3.alloc (.cells #[.int .i64 (t:Int),.int .i64 (AF:Int),.int .i64 (f:Int)] 55)).cell? ⟨w3.heap.size,2,none⟩=some (.int .i64 (f:Int)):=by simp
       have a0:=kcell hb3Q a0
       have a1:=kcell hb3Q a1
       have hsE:wr.heap.size < w3.heap.size:=by have:=hb3.size;simp at this;omega
       have HC3:=Hd_ ((HC1.out.only HON2.out).keep hbEQ)
       have HM3:=Hd_ (HMM2.out.keep hbEQ)
       have HO3:=Hd_ (HON2.out.trans (Only.of_below hbEQ bM (bM+1)))
       have lQ:w3.heap.size < (w3.alloc (.cells #[.int .i64 (t:Int),.int .i64 (AF:Int),.int .i64 (f:Int)] 55)).heap.size:=by simp
       clear hb3 hbQ hbEQ hb3Q hbE k0 k1 k2 k3 e0 e1 e2
       go_wp2_with fail
       refine (HRC.out _ HC3.out HM3.out).mono ?_
       rintro en w4 ⟨rfl,hon4,M4,hm4,hmo4⟩
       have q0:=ocell hon4 q0 lQ (.inr (by omega))
       have q1:=ocell hon4 q1 lQ (.inr (by omega))
       have q2:=ocell hon4 q2 lQ (.inr (by omega))
       have a0:=ocell hon4 a0 (by omega) (.inr (by omega))
       have a1:=ocell hon4 a1 (by omega) (.inr (by omega))
       have hs4w:=hon4.size
       have HO4:=Hd_ (HO3.out.trans hon4)
       have HM4:=Hd_ hm4
       clear hon4 hm4 hmo4
       by_cases hpk:m1 < CC
       · have hpk1:(m1:Int) < (CC:Int):=by omega
         have HPK:=Hd_ (HPH.out hpk)
         have HNR:=Hd_ (HNSS.out m1 (HPH.out hpk))
         have honA:=HO4.out
         have hrow4:=ownsRow_block HROW.out (fun g hg=>honA.block g (HRL.out g hg).2 (.inr (by have:=(HRL.out g hg).1;omega)))
         have hbk4:=HBK.out.only honA (.inr (by omega))
         have HR4:=Hd_ hrow4
         have HBK4:=Hd_ hbk4
         have hs44:wo.heap.size<=w4.heap.size:=by omega
         have lQ4:w3.heap.size < w4.heap.size:=by omega
         clear HN2 HLS HPH HNSS hrow4 hbk4 honA
         go_upto_region 10 with (at_builtin;(refine wpList_append1 cSt elStepN rfl _ _ rfl (w.heap.size+1) _ O (sid,sinv) _ 1 _ (by rfl) HR4.out (by rfl) rfl rfl rfl (cSt_one _) (by omega) (by omega) (by omega) ?_);intro v8 w8 hrow8 hb8 hat8 hgr8)
         have hs8:=hb8.size
         have hne:∀ b,wo.heap.size<=b->u7.ownBlock ≠ some b:=fun b hb e=>by have:=(HRL.out b e).2;omega
         have hneM:u7.ownBlock ≠ some bM:=fun e=>by have:=(HRL.out bM e).1;omega
         have g8:∀ b,b < w4.heap.size->u7.ownBlock ≠ some b->w8.heap[b]?=w4.heap[b]?:=fun b hb hn=>(gBlockN hgr8 (by simp;omega) hn).trans (Below.heap_alloc _ _ _ hb)
         have q0:w8.cell? ⟨w3.heap.size,0,none⟩=some (.int .i64 (t:Int)):=(World.cell?_of_block (a:=⟨w3.heap.size,0,none⟩) (g8 _ lQ4 (hne w3.heap.size (by omega)))).trans q0
         have q1:w8.cell? ⟨w3.heap.size,1,none⟩=some (.int .i64 (AF:Int)):=(World.cell?_of_block (a:=⟨w3.heap.size,1,none⟩) (g8 _ lQ4 (hne w3.heap.size (by omega)))).trans q1
         have q2:w8.cell? ⟨w3.heap.size,2,none⟩=some (.int .i64 (f:Int)):=(World.cell?_of_block (a:=⟨w3.heap.size,2,none⟩) (g8 _ lQ4 (hne w3.heap.size (by omega)))).trans q2
         have hbk8:=HBK4.out.below hb8 (Nat.lt_succ_self _)
         have z0:w8.cell? ⟨w.heap.size,0,none⟩=some (.int .i64 (x':Int)):=hbk8.cell 0
         have z1:w8.cell? ⟨w.heap.size,1,none⟩=some (.int .i64 (s':Int)):=hbk8.cell 1
         have z2:w8.cell? ⟨w.heap.size,2,none⟩=some (.int .i64 (gk:Int)):=hbk8.cell 2
         have f0:=hbk8.frozen 0
         have f1:=hbk8.frozen 1
         have f2:=hbk8.frozen 2
         have l8:=hbk8.lt
         have lbM4:=HM4.out.lt
         have hmm8:=HM4.out.at_ (g8 bM lbM4 hneM)
         have hon8:=only_below (HON.out.trans HO4.out) hb8 (show w.heap.size<=w.heap.size+1 by omega)
         have HB8:=Hd_ (hbk8.set3 (.int .i64 (t:Int)) (.int .i64 (AF:Int)) (.int .i64 (f:Int)))
         have HR8:=Hd_ (ownsRow_block hrow8 (fun g hg=>set3_block w8 w.heap.size (.int .i64 (t:Int)) (.int .i64 (AF:Int)) (.int .i64 (f:Int)) g (by have:=(hrow8.lt g hg).1;omega)))
         have HM8:=Hd_ (hmm8.at_ (set3_block w8 w.heap.size (.int .i64 (t:Int)) (.int .i64 (AF:Int)) (.int .i64 (f:Int)) bM (by omega)))
         have HO8:=Hd_ (only_set3 hon8 (Nat.le_refl _) (.int .i64 (t:Int)) (.int .i64 (AF:Int)) (.int .i64 (f:Int)))
         clear hbk8 hrow8 hmm8 hon8 hb8 hat8 hgr8 g8 hne hneM a0 a1
         go_wp2_with fail
         go_roundg f
         case measure=>omega
         case rel=>exact ⟨t,AF,m1,O ++ [(sid,sinv)],M4,rfl,by omega,htl,HAF.out,by rw [<- HCC.out];exact hpk,by rw [<- HO.out,HNR.out,List.append_assoc];rfl,by have:=HF.out;simp;omega,HB8.out,HR8.out,HO8.out,HM8.out⟩
       · have hpk1:¬ (m1:Int) < (CC:Int):=by omega
         have hsub:IntKind.i64.wrap ((m1:Int) - (CC:Int))=((m1 - CC:Nat):Int):=by rw [IntWalk.i64_in _ (by omega)];omega
         have hsub2:(m1:Int) - (CC:Int)=((m1 - CC:Nat):Int):=by omega
         have HNO:=Hd_ (HN2.out hpk)
         clear HPH HNSS HN2
         go_wp2_with fail
         go_roundw
         case rel=>exact ⟨i+1,M4,by omega,by go_num,rfl,by rw [HLS.out],HNO.out,HO4.out,HM4.out⟩
         case measure=>simp [intOf];omega
     · obtain rfl:i=(arcsOf g (x':Int)).length:=by omega
       obtain ⟨p,n'',h1,-⟩:=HP.out
       rw [pick_end hno] at h1
       cases h1
theorem startOk {a:Au} (ha:auOk a=true):bit a.start.toNat < 2 ^ a.accept.length:=by
 obtain ⟨⟨_,hn⟩,⟨h0,h1⟩,-,-⟩:=auOk_iff.1 ha
 exact bit_lt (by omega)
theorem Left.below {g:Gr} {a:Au} {y:Int} {f:Nat} {M:List Plc} {bM:Nat} {w w':World} (h:Left g a y f M bM w w') {B:Nat} (hB:B<=bM) (hs:B<=w.heap.size):Below B w w':=h.1.below hB hs
set_option maxHeartbeats 8000000 in
set_option maxRecDepth 100000 in
theorem implCountShortest (vg va:Value) (g:Gr) (a:Au) (x y:Int) (w:World) (hgv:GrV 0 w.heap.size w vg g) (hav:AuV 0 w.heap.size w va a) :
 Calls Tryz.prog 7 #[vg,va,.int .i64 x,.int .i64 y] w fun e w'=>e=.returned (.int .i64 (cntShort g a x y))/\Below w.heap.size w w':=by
 have hgv0:=hgv
 have hav0:=hav
 obtain ⟨A1,n1,c1,A2,n2,c2,rfl⟩:=hgv.shape
 obtain ⟨A3,n3,c3,A4,n4,c4,rfl⟩:=hav.shape
 have hb0:Below w.heap.size w ((w.alloc (.cells #[.slice A1 n1 c1,.slice A2 n2 c2] 27)).alloc (.cells #[.int .i64 a.start,.slice A3 n3 c3,.slice A4 n4 c4] 31)):=((Below.refl _ _).alloc (Nat.le_refl _) _).alloc (by simp) _
 have hbG:=((Blk.new w 27 #[.slice A1 n1 c1,.slice A2 n2 c2] w.heap.size rfl).alloc (.cells #[.int .i64 a.start,.slice A3 n3 c3,.slice A4 n4 c4] 31))
 have hbA:=(Blk.new (w.alloc (.cells #[.slice A1 n1 c1,.slice A2 n2 c2] 27)) 31 #[.int .i64 a.start,.slice A3 n3 c3,.slice A4 n4 c4] (w.heap.size+1) (by simp))
 have HBG:=Hd_ hbG
 have HBA:=Hd_ hbA
 have HGV:=Hd_ hgv0
 have HAV:=Hd_ hav0
 have HB0:=Hd_ hb0
 have HSL:=Hd_ (fun (W:World) (hW:Below w.heap.size w W)=>implShortestLength _ _ g a x y W (HGV.out.keep hW) (HAV.out.keep hW))
 clear hgv hav hgv0 hav0 hb0 hbG hbA
 by_cases hneg:shortLen g a x y < 0
 · have HF:=Hd_ (show cntShort g a x y=0 from if_pos hneg)
   generalize shortLen g a x y=SL at *
   go_enter Tryz.func7,Tryz.ntmps7
   go_wp2_with fail
   refine (HSL.out _ HB0.out).mono ?_
   rintro e w1 ⟨rfl,hb1⟩
   go_wp2_with fail
   go_ret
   exact ⟨by rw [HF.out];rfl,below_trans HB0.out hb1⟩
 · have hco:=shortLen_ok (show 0<=shortLen g a x y by omega)
   obtain ⟨⟨hx0,hx1⟩,⟨hy0,hy1⟩,hgo,ha⟩:=cntOk_iff.1 hco
   have hlt:=shortLen_lt g a x y
   obtain ⟨L,hL⟩:=Int.eq_ofNat_of_zero_le (show 0<=shortLen g a x y by omega)
   have HF:=Hd_ (show cntShort g a x y=(cw g a y L x.toNat (bit a.start.toNat):Nat) by rw [cntShort,if_neg hneg,hL,Int.toNat_natCast];rfl)
   rw [hL] at HSL hlt hneg
   obtain ⟨x,rfl⟩:=Int.eq_ofNat_of_zero_le hx0
   rw [Int.toNat_natCast] at HF
   have HGO:=Hd_ hgo
   have HA:=Hd_ ha
   have HSO:=Hd_ (startOk ha)
   have hn5:=(grOk_iff.1 hgo).n5
   have hxl:x < g.vals.length:=by omega
   have hln:¬ (L:Int) < 0:=by omega
   clear hco hgo ha hL hneg hx0 hx1 hy0 hy1
   go_enter Tryz.func7,Tryz.ntmps7
   go_wp2_with fail
   refine (HSL.out _ HB0.out).mono ?_
   rintro e w1 ⟨rfl,hb1⟩
   have hb2:=below_trans HB0.out hb1
   have bG:=HBG.out.keep hb1
   have bA:=HBA.out.keep hb1
   have x0:w1.cell? ⟨w.heap.size,0,none⟩=some (.slice A1 n1 c1):=bG.cell 0
   have x1:w1.cell? ⟨w.heap.size,1,none⟩=some (.slice A2 n2 c2):=bG.cell 1
   have y0:w1.cell? ⟨w.heap.size+1,0,none⟩=some (.int .i64 a.start):=bA.cell 0
   have y1:w1.cell? ⟨w.heap.size+1,1,none⟩=some (.slice A3 n3 c3):=bA.cell 1
   have y2:w1.cell? ⟨w.heap.size+1,2,none⟩=some (.slice A4 n4 c4):=bA.cell 2
   clear bG bA
   clear hb1
   go_wp2_with fail
   refine (newCounter_any _ _ g a y _ (HGV.out.keep hb2) (HAV.out.keep hb2) HGO.out HA.out).mono ?_
   rintro e w2 ⟨bC,bM,rfl,hbM,hctr,hmem,hb3⟩
   have hb4:=below_trans hb2 hb3
   have hwM:w.heap.size<=bM:=Nat.le_trans hb2.size hbM
   have hsz3:=hb3.size
   have lbMw:=hmem.lt
   clear hb3 x0 x1 y0 y1 y2
   go_wp2_with fail
   refine (start_any g a y HA.out bC bM x L _ hctr (by omega) (by omega)).mono ?_
   rintro e w3 ⟨rfl,hb5⟩
   go_wp2_with fail
   refine (count_any g a y HGO.out HA.out bC bM L x _ [] _ (hctr.keep hb5) (hmem.keep hb5) hxl HSO.out (by omega)).mono ?_
   rintro e w4 ⟨rfl,hleft⟩
   have hb6:=below_trans hb4 hb5
   have hb7:=hb6.trans (hleft.below hwM hb6.size)
   go_wp2_with fail
   go_ret
   exact ⟨by rw [HF.out];rfl,hb7⟩
set_option maxHeartbeats 8000000 in
set_option maxRecDepth 100000 in
theorem implNthShortest (vg va:Value) (g:Gr) (a:Au) (x y n:Int) (w:World) (hgv:GrV 0 w.heap.size w vg g) (hav:AuV 0 w.heap.size w va a) :
 Calls Tryz.prog 10 #[vg,va,.int .i64 x,.int .i64 y,.int .i64 n] w fun e w'=>∃ v',e=.returned (.tuple #[v',.bool (nthShort g a x y n).2])/\WkO w.heap.size w'.heap.size w' v' (nthShort g a x y n).1/\Below w.heap.size w w':=by
 have hgv0:=hgv
 have hav0:=hav
 obtain ⟨A1,n1,c1,A2,n2,c2,rfl⟩:=hgv.shape
 obtain ⟨A3,n3,c3,A4,n4,c4,rfl⟩:=hav.shape
 have hb0:Below w.heap.size w (((w.alloc (.cells #[.slice A1 n1 c1,.slice A2 n2 c2] 27)).alloc (.cells #[.int .i64 a.start,.slice A3 n3 c3,.slice A4 n4 c4] 31)).alloc (.cells #[.int .i64 0,.slice none 0 0] 39)):=(((Below.refl _ _).alloc (Nat.le_refl _) _).alloc (by simp) _).alloc (by simp;omega) _
 have hbG:=((Blk.new w 27 #[.slice A1 n1 c1,.slice A2 n2 c2] w.heap.size rfl).alloc (.cells #[.int .i64 a.start,.slice A3 n3 c3,.slice A4 n4 c4] 31)).alloc (.cells #[.int .i64 0,.slice none 0 0] 39)
 have hbA:=(Blk.new (w.alloc (.cells #[.slice A1 n1 c1,.slice A2 n2 c2] 27)) 31 #[.int .i64 a.start,.slice A3 n3 c3,.slice A4 n4 c4] (w.heap.size+1) (by simp)).alloc (.cells #[.int .i64 0,.slice none 0 0] 39)
 have hbR:=Blk.new ((w.alloc (.cells #[.slice A1 n1 c1,.slice A2 n2 c2] 27)).alloc (.cells #[.int .i64 a.start,.slice A3 n3 c3,.slice A4 n4 c4] 31)) 39 #[.int .i64 0,.slice none 0 0] (w.heap.size+1+1) (by simp)
 have HBG:=Hd_ hbG
 have HBA:=Hd_ hbA
 have HBR:=Hd_ hbR
 have HGV:=Hd_ hgv0
 have HAV:=Hd_ hav0
 have HB0:=Hd_ hb0
 have HSL:=Hd_ (fun (W:World) (hW:Below w.heap.size w W)=>implShortestLength _ _ g a x y W (HGV.out.keep hW) (HAV.out.keep hW))
 clear hgv hav hgv0 hav0 hb0 hbG hbA hbR
 obtain ⟨R,hR⟩:∃ R,R=nthShort g a x y n:=⟨_,rfl⟩
 rw [<- hR]
 by_cases hneg:shortLen g a x y < 0
 · have HF:=Hd_ (show R=((0,[]),false) by rw [hR,nthShort,if_neg];rw [nthSh,decide_eq_false (by omega)];simp)
   generalize shortLen g a x y=SL at *
   clear hR
   go_enter Tryz.func10,Tryz.ntmps10
   go_wp2_with fail
   refine (HSL.out _ HB0.out).mono ?_
   rintro e w1 ⟨rfl,hb1⟩
   have hb2:=below_trans HB0.out hb1
   have bR:=HBR.out.keep hb1
   have r0:w1.cell? ⟨w.heap.size+1+1,0,none⟩=some (.int .i64 0):=bR.cell 0
   have r1:w1.cell? ⟨w.heap.size+1+1,1,none⟩=some (.slice none 0 0):=bR.cell 1
   have fr0:=bR.frozen 0
   have fr1:=bR.frozen 1
   have lr:=bR.lt
   clear bR
   clear hb1
   go_wp2_with fail
   refine bodyPost_ret (v:=.tuple #[.agg #[.int .i64 0,.slice none 0 0],.bool false]) (by simp [results,Tryz.results10,go_sem,r0,r1]) rfl ⟨_,by rw [HF.out],?_,(hb2.setCell (p:=⟨w.heap.size+1+1,0,none⟩) (by simp only;omega) _).setCell (p:=⟨w.heap.size+1+1,1,none⟩) (by simp only;omega) _⟩
   rw [HF.out]
   exact ⟨_,rfl,Own.nil _ _ _ _ _ _⟩
 · have hco:=shortLen_ok (show 0<=shortLen g a x y by omega)
   obtain ⟨⟨hx0,hx1⟩,⟨hy0,hy1⟩,hgo,ha⟩:=cntOk_iff.1 hco
   have hlt:=shortLen_lt g a x y
   obtain ⟨L,hL⟩:=Int.eq_ofNat_of_zero_le (show 0<=shortLen g a x y by omega)
   rw [hL] at HSL hlt hneg
   obtain ⟨x,rfl⟩:=Int.eq_ofNat_of_zero_le hx0
   have HGO:=Hd_ hgo
   have HA:=Hd_ ha
   have HSO:=Hd_ (startOk ha)
   have hn5:=(grOk_iff.1 hgo).n5
   have hxl:x < g.vals.length:=by omega
   have hln:¬ (L:Int) < 0:=by omega
   have hcle:=cw_le g a y L x (bit a.start.toNat)
   obtain ⟨C,hC⟩:∃ C,C=cw g a y L x (bit a.start.toNat):=⟨_,rfl⟩
   have hsh:nthSh g a (x:Int) y n=wi n 0 ((C:Int) - 1):=by rw [nthSh,decide_eq_true (by omega),Bool.true_and,hL,Int.toNat_natCast,hC];rfl
   rw [<- hC] at hcle
   have HC:=Hd_ hC
   have HW:=Hd_ (fun W=>within_any n 0 ((C:Int) - 1) W)
   have hgv2:=HGV
   cases hwn:wi n 0 ((C:Int) - 1) with
   | false =>
     have HF:=Hd_ (show R=((0,[]),false) by rw [hR,nthShort,if_neg];rw [hsh,hwn];simp)
     rw [hwn] at HW
     clear hco hgo ha hL hneg hx0 hx1 hy0 hy1 hR hC hsh hwn
     go_enter Tryz.func10,Tryz.ntmps10
     go_wp2_with fail
     refine (HSL.out _ HB0.out).mono ?_
     rintro e w1 ⟨rfl,hb1⟩
     have hb2:=below_trans HB0.out hb1
     have bG:=HBG.out.keep hb1
     have bA:=HBA.out.keep hb1
     have x0:w1.cell? ⟨w.heap.size,0,none⟩=some (.slice A1 n1 c1):=bG.cell 0
     have x1:w1.cell? ⟨w.heap.size,1,none⟩=some (.slice A2 n2 c2):=bG.cell 1
     have y0:w1.cell? ⟨w.heap.size+1,0,none⟩=some (.int .i64 a.start):=bA.cell 0
     have y1:w1.cell? ⟨w.heap.size+1,1,none⟩=some (.slice A3 n3 c3):=bA.cell 1
     have y2:w1.cell? ⟨w.heap.size+1,2,none⟩=some (.slice A4 n4 c4):=bA.cell 2
     clear bG bA
     have HR1:=Hd_ (HBR.out.keep hb1)
     clear hb1
     go_wp2_with fail
     refine (newCounter_any _ _ g a y _ (HGV.out.keep hb2) (HAV.out.keep hb2) HGO.out HA.out).mono ?_
     rintro e w2 ⟨bC,bM,rfl,hbM,hctr,hmem,hb3⟩
     have hb4:=below_trans hb2 hb3
     have hwM:w.heap.size<=bM:=Nat.le_trans hb2.size hbM
     have hsz3:=hb3.size
     have lbMw:=hmem.lt
     have HR2:=Hd_ (HR1.out.keep hb3)
     clear hb3 x0 x1 y0 y1 y2
     go_wp2_with fail
     refine (start_any g a y HA.out bC bM x L _ hctr (by omega) (by omega)).mono ?_
     rintro e w3 ⟨rfl,hb5⟩
     have hbQ:=(Below.refl w3.heap.size w3).alloc (Nat.le_refl _) (.cells #[.int .i64 (x:Int),.int .i64 (bit a.start.toNat:Nat),.int .i64 (L:Int)] 55)
     have hb6:=below_trans hb5 hbQ
     go_wp2_with fail
     refine (count_any g a y HGO.out HA.out bC bM L x _ [] _ (hctr.keep hb6) (hmem.keep hb6) hxl HSO.out (by omega)).mono ?_
     rintro e w4 ⟨rfl,hleft⟩
     rw [<- HC.out]
     have hb7:=below_trans hb4 hb6
     have hb8:=hb7.trans (hleft.below hwM hb7.size)
     have hR4:=(HR2.out.keep hb6).only hleft.1 (.inl (by have:=HR1.out.lt;omega))
     have bR:=hR4
     have r0:w4.cell? ⟨w.heap.size+1+1,0,none⟩=some (.int .i64 0):=bR.cell 0
     have r1:w4.cell? ⟨w.heap.size+1+1,1,none⟩=some (.slice none 0 0):=bR.cell 1
     have fr0:=bR.frozen 0
     have fr1:=bR.frozen 1
     have lr:=bR.lt
     clear bR
     clear hleft hb5 hbQ hb6 hR4
     go_wp2_with fail
     refine (HW.out _).mono ?_
     rintro e w9 ⟨rfl,hw9⟩
     rw [hw9]
     clear hw9
     go_wp2_with fail
     refine bodyPost_ret (v:=.tuple #[.agg #[.int .i64 0,.slice none 0 0],.bool false]) (by simp [results,Tryz.results10,go_sem,r0,r1]) rfl ⟨_,by rw [HF.out],?_,(hb8.setCell (p:=⟨w.heap.size+1+1,0,none⟩) (by simp only;omega) _).setCell (p:=⟨w.heap.size+1+1,1,none⟩) (by simp only;omega) _⟩
     rw [HF.out]
     exact ⟨_,rfl,Own.nil _ _ _ _ _ _⟩
   | true =>
     have hwi:=wi_iff.1 hwn
     obtain ⟨n,rfl⟩:=Int.eq_ofNat_of_zero_le hwi.1
     have HF:=Hd_ (show R=(((x:Int),nthL g a y L x (bit a.start.toNat) n),true) by rw [hR,nthShort,if_pos (by rw [hsh,hwn]),hL];rfl)
     have HNN:=Hd_ (show n < cw g a y L x (bit a.start.toNat) by rw [<- hC];omega)
     rw [hwn] at HW
     clear hco hgo ha hL hneg hx0 hx1 hy0 hy1 hR hC hsh hwn hwi
     go_enter Tryz.func10,Tryz.ntmps10
     go_wp2_with fail
     refine (HSL.out _ HB0.out).mono ?_
     rintro e w1 ⟨rfl,hb1⟩
     have hb2:=below_trans HB0.out hb1
     have bG:=HBG.out.keep hb1
     have bA:=HBA.out.keep hb1
     have x0:w1.cell? ⟨w.heap.size,0,none⟩=some (.slice A1 n1 c1):=bG.cell 0
     have x1:w1.cell? ⟨w.heap.size,1,none⟩=some (.slice A2 n2 c2):=bG.cell 1
     have y0:w1.cell? ⟨w.heap.size+1,0,none⟩=some (.int .i64 a.start):=bA.cell 0
     have y1:w1.cell? ⟨w.heap.size+1,1,none⟩=some (.slice A3 n3 c3):=bA.cell 1
     have y2:w1.cell? ⟨w.heap.size+1,2,none⟩=some (.slice A4 n4 c4):=bA.cell 2
     clear bG bA
     have HR1:=Hd_ (HBR.out.keep hb1)
     clear hb1
     go_wp2_with fail
     refine (newCounter_any _ _ g a y _ (HGV.out.keep hb2) (HAV.out.keep hb2) HGO.out HA.out).mono ?_
     rintro e w2 ⟨bC,bM,rfl,hbM,hctr,hmem,hb3⟩
     have hb4:=below_trans hb2 hb3
     have hwM:w.heap.size<=bM:=Nat.le_trans hb2.size hbM
     have hsz3:=hb3.size
     have lbMw:=hmem.lt
     have HR2:=Hd_ (HR1.out.keep hb3)
     clear hb3 x0 x1 y0 y1 y2
     go_wp2_with fail
     refine (start_any g a y HA.out bC bM x L _ hctr (by omega) (by omega)).mono ?_
     rintro e w3 ⟨rfl,hb5⟩
     have hbQ:=(Below.refl w3.heap.size w3).alloc (Nat.le_refl _) (.cells #[.int .i64 (x:Int),.int .i64 (bit a.start.toNat:Nat),.int .i64 (L:Int)] 55)
     have bQ:=Blk.new w3 55 #[.int .i64 (x:Int),.int .i64 (bit a.start.toNat:Nat),.int .i64 (L:Int)] w3.heap.size rfl
     have hb6:=below_trans hb5 hbQ
     go_wp2_with fail
     refine (count_any g a y HGO.out HA.out bC bM L x _ [] _ (hctr.keep hb6) (hmem.keep hb6) hxl HSO.out (by omega)).mono ?_
     rintro e w4 ⟨rfl,hleft⟩
     rw [<- HC.out]
     have hb7:=below_trans hb4 hb6
     have hb8:=hb7.trans (hleft.below hwM hb7.size)
     have hR4:=(HR2.out.keep hb6).only hleft.1 (.inl (by have:=HR1.out.lt;omega))
     have bQ4:=bQ.only hleft.1 (.inr (by have:=hb5.size;omega))
     have q0:w4.cell? ⟨w3.heap.size,0,none⟩=some (.int .i64 (x:Int)):=bQ4.cell 0
     have q1:w4.cell? ⟨w3.heap.size,1,none⟩=some (.int .i64 (bit a.start.toNat:Nat)):=bQ4.cell 1
     have q2:w4.cell? ⟨w3.heap.size,2,none⟩=some (.int .i64 (L:Int)):=bQ4.cell 2
     have lQ:=bQ4.lt
     obtain ⟨hon4,M4,hm4,-⟩:=hleft
     have HCT4:=Hd_ ((hctr.keep hb6).only hon4)
     have HM4:=Hd_ hm4
     have HR4:=Hd_ hR4
     clear hb5 hbQ hb6 hR4 bQ bQ4 hm4 hon4
     go_wp2_with fail
     refine (HW.out _).mono ?_
     rintro e w9 ⟨rfl,hw9⟩
     rw [hw9]
     clear hw9
     go_wp2_with fail
     refine (nth_any g a y HGO.out HA.out bC bM L x _ n M4 w4 HCT4.out HM4.out hxl HSO.out (by omega) HNN.out).mono ?_
     rintro e w5 ⟨v5,rfl,ho5,hon5,M5,hm5⟩
     have hb9:=hb8.trans (hon5.below hwM hb8.size)
     have hR5:=HR4.out.only hon5 (.inl (by have:=HR1.out.lt;omega))
     have bR:=hR5
     have r0:w5.cell? ⟨w.heap.size+1+1,0,none⟩=some (.int .i64 0):=bR.cell 0
     have r1:w5.cell? ⟨w.heap.size+1+1,1,none⟩=some (.slice none 0 0):=bR.cell 1
     have fr0:=bR.frozen 0
     have fr1:=bR.frozen 1
     have lr:=bR.lt
     clear bR
     obtain ⟨A9,n9,c9,rfl⟩:=ho5.shape
     have hsz4:=hb8.size
     have lr4:=HR4.out.lt
     have hon3:=((Only.refl (w.heap.size+1+1) (w.heap.size+1+1+1) w5).setCell (p:=⟨w.heap.size+1+1,0,none⟩) (.inl ⟨Nat.le_refl _,Nat.lt_succ_self _⟩) (.int .i64 (x:Int))).setCell (p:=⟨w.heap.size+1+1,1,none⟩) (.inl ⟨Nat.le_refl _,Nat.lt_succ_self _⟩) (.slice A9 n9 c9)
     have HO5:=Hd_ ((ho5.only hon3 (.inr (by omega))).mono (show w.heap.size<=w4.heap.size by omega) hon3.size)
     have HB5:=Hd_ (hb9.trans (hon3.below (show w.heap.size<=w.heap.size+1+1 by omega) hb9.size))
     clear ho5 hon5 hm5 hR5 hon3 q0 q1 q2
     go_wp2_with fail
     refine bodyPost_ret (v:=.tuple #[.agg #[.int .i64 (x:Int),.slice A9 n9 c9],.bool true]) (by simp [results,Tryz.results10,go_sem,r0,r1]) rfl ⟨_,by rw [HF.out],?_,HB5.out⟩
     rw [HF.out]
     exact ⟨_,rfl,HO5.out⟩
set_option maxHeartbeats 8000000 in
set_option maxRecDepth 100000 in
theorem implListShortest (vg va:Value) (g:Gr) (a:Au) (x y m:Int) (w:World) (hgv:GrV 0 w.heap.size w vg g) (hav:AuV 0 w.heap.size w va a) :
 Calls Tryz.prog 6 #[vg,va,.int .i64 x,.int .i64 y,.int .i64 m] w fun e w'=>∃ v',e=.returned v'/\NWO w.heap.size w'.heap.size w' v' (listSh g a x y m)/\Below w.heap.size w w':=by
 have hgv0:=hgv
 have hav0:=hav
 obtain ⟨A1,n1,c1,A2,n2,c2,rfl⟩:=hgv.shape
 obtain ⟨A3,n3,c3,A4,n4,c4,rfl⟩:=hav.shape
 have hb0:Below w.heap.size w ((w.alloc (.cells #[.slice A1 n1 c1,.slice A2 n2 c2] 27)).alloc (.cells #[.int .i64 a.start,.slice A3 n3 c3,.slice A4 n4 c4] 31)):=((Below.refl _ _).alloc (Nat.le_refl _) _).alloc (by simp) _
 have hbG:=((Blk.new w 27 #[.slice A1 n1 c1,.slice A2 n2 c2] w.heap.size rfl).alloc (.cells #[.int .i64 a.start,.slice A3 n3 c3,.slice A4 n4 c4] 31))
 have hbA:=(Blk.new (w.alloc (.cells #[.slice A1 n1 c1,.slice A2 n2 c2] 27)) 31 #[.int .i64 a.start,.slice A3 n3 c3,.slice A4 n4 c4] (w.heap.size+1) (by simp))
 have HBG:=Hd_ hbG
 have HBA:=Hd_ hbA
 have HGV:=Hd_ hgv0
 have HAV:=Hd_ hav0
 have HB0:=Hd_ hb0
 have HSL:=Hd_ (fun (W:World) (hW:Below w.heap.size w W)=>implShortestLength _ _ g a x y W (HGV.out.keep hW) (HAV.out.keep hW))
 clear hgv hav hgv0 hav0 hb0 hbG hbA
 have HNS:=Hd_ (fun (n:Nat) (W:World) (hW:Below w.heap.size w W)=>implNthShortest _ _ g a x y (n:Int) W (HGV.out.keep hW) (HAV.out.keep hW))
 have HW:=Hd_ (fun W=>within_any m 1 50 W)
 clear HSL
 cases hwm:wi m 1 50 with
 | false =>
   have HF:=Hd_ (show listSh g a x y m=[] by rw [listSh,listN,hwm];rfl)
   rw [hwm] at HW
   clear hwm
   go_enter Tryz.func6,Tryz.ntmps6
   go_wp2_with fail
   refine (HW.out _).mono ?_
   rintro e w9 ⟨rfl,hw9⟩
   rw [hw9]
   clear hw9
   go_wp2_with fail
   go_ret
   refine ⟨_,rfl,?_,HB0.out⟩
   rw [HF.out]
   exact ⟨[],NW.start (World.ownsRow_nil _ _ _ _),by intro b hb;simp [blks,Value.ownBlock] at hb⟩
 | true =>
   have hwi:=wi_iff.1 hwm
   obtain ⟨m,rfl⟩:=Int.eq_ofNat_of_zero_le (show 0<=m by omega)
   have hm50:m<=50:=by omega
   obtain ⟨C,hC⟩:∃ C,C=cntN g a x y:=⟨_,rfl⟩
   have HFN:=Hd_ (fun n (hn:n=min m C)=>show listSh g a x y (m:Int)=listTo g a x y n by rw [listSh,listN,if_pos hwm,Int.toNat_natCast,<- hC,hn])
   have HSN:=Hd_ (fun (n:Nat)=>show (nthShort g a x y (n:Int)).2=decide (n < C) by rw [nthShort_snd,nthSh_nat,hC])
   rw [hwm] at HW
   clear hwm hwi hC
   go_enter Tryz.func6,Tryz.ntmps6
   go_wp2_with fail
   refine (HW.out _).mono ?_
   rintro e w9 ⟨rfl,hw9⟩
   rw [hw9]
   clear hw9
   have hbE:Below w.heap.size w (((w.alloc (.cells #[.slice A1 n1 c1,.slice A2 n2 c2] 27)).alloc (.cells #[.int .i64 a.start,.slice A3 n3 c3,.slice A4 n4 c4] 31)).alloc (.cells #[] 39)):=HB0.out.alloc HB0.out.size _
   have HG1:=Hd_ (HBG.out.alloc (.cells #[] 39))
   have HA1:=Hd_ (HBA.out.alloc (.cells #[] 39))
   have HR0:=Hd_ (show (((w.alloc (.cells #[.slice A1 n1 c1,.slice A2 n2 c2] 27)).alloc (.cells #[.int .i64 a.start,.slice A3 n3 c3,.slice A4 n4 c4] 31)).alloc (.cells #[] 39)).ownsRow (w.heap.size+1+1) 39 2 (.slice (some ⟨w.heap.size+1+1,0,none⟩) 0 0) 0 [] from by
    have h:=World.ownsRow_lit (base:=w.heap.size+1+1) (e:=39) (size:=2) ((w.alloc (.cells #[.slice A1 n1 c1,.slice A2 n2 c2] 27)).alloc (.cells #[.int .i64 a.start,.slice A3 n3 c3,.slice A4 n4 c4] 31)) #[] 0 (by simp) (by decide) rfl
    simpa using h)
   go_wp2_with fail
   obtain ⟨W1,hW1⟩:∃ W1,W1=((w.alloc (.cells #[.slice A1 n1 c1,.slice A2 n2 c2] 27)).alloc (.cells #[.int .i64 a.start,.slice A3 n3 c3,.slice A4 n4 c4] 31)).alloc (.cells #[] 39):=⟨_,rfl⟩
   rw [<- hW1] at hbE HG1 HA1 HR0 ⊢
   have hs1:w.heap.size+1+1 < W1.heap.size:=by rw [hW1];simp
   have HBE:=Hd_ hbE
   clear hW1 hbE
   go_loopw [11,12] (fun oo nn wr=>∃ (n:Nat) (zs:List (Int × Value)),n<=min m C/\nn=.int .i64 (n:Int)/\NW (w.heap.size+1+1) wr oo zs (listTo g a x y n)/\Below (w.heap.size+1+1) W1 wr) (fun _ nn _=>m - (intOf nn).toNat)
   case atStart=>exact ⟨0,[],Nat.zero_le _,rfl,NW.start HR0.out,Below.refl _ _⟩
   case round =>
    obtain ⟨n,zs,hn,rfl,hns,hbel⟩:=hrel
    have hszr:=hbel.size
    have hbw:=HBE.out.trans (hbel.mono (show w.heap.size<=w.heap.size+1+1 by omega))
    have hzl:=hns.len
    rw [listTo_len] at hzl
    by_cases hlt:n < m
    · have hnm:(n:Int) < (m:Int):=by omega
      have hbG:=HG1.out.below hbel (by omega)
      have hbA:=HA1.out.below hbel (by omega)
      have x0:wr.cell? ⟨w.heap.size,0,none⟩=some (.slice A1 n1 c1):=(hbG).cell 0
      have x1:wr.cell? ⟨w.heap.size,1,none⟩=some (.slice A2 n2 c2):=(hbG).cell 1
      have y0:wr.cell? ⟨w.heap.size+1,0,none⟩=some (.int .i64 a.start):=(hbA).cell 0
      have y1:wr.cell? ⟨w.heap.size+1,1,none⟩=some (.slice A3 n3 c3):=(hbA).cell 1
      have y2:wr.cell? ⟨w.heap.size+1,2,none⟩=some (.slice A4 n4 c4):=(hbA).cell 2
      have HBW:=Hd_ hbw
      have HNSW:=Hd_ hns
      have HBL:=Hd_ hbel
      have hsn:=HSN.out n
      have HLS:=Hd_ (listTo_succ g a x y n)
      have hkl:=nthShort_len g a x y (n:Int)
      have HNN:=Hd_ (HNS.out n)
      clear hbG hbA hbel hbw hns
      obtain ⟨R,hR⟩:∃ R,R=nthShort g a x y (n:Int):=⟨_,rfl⟩
      rw [<- hR] at hsn HLS hkl HNN
      clear hR
      have hz50:zs.length<=50:=by omega
      go_wp2_with fail
      refine (HNN.out _ HBW.out).mono ?_
      rintro e w5 ⟨v5,rfl,⟨ss,rfl,hss⟩,hb5⟩
      obtain ⟨A9,n9,c9,rfl⟩:=hss.shape
      have hbB:Below wr.heap.size wr (w5.alloc (.cells #[.int .i64 R.1.1,.slice A9 n9 c9] 39)):=hb5.alloc hb5.size _
      have hn9:n9=R.1.2.length:=by
       obtain ⟨_,_,he,-⟩:=hss.sl cSt_len
       injection he
      have HBB:=Hd_ hbB
      have hs5:=hb5.size
      have HNS6:=Hd_ (HNSW.out.below hbB)
      have HBW6:=Hd_ (below_trans HBW.out hbB)
      have HBL6:=Hd_ (HBL.out.trans (hbB.mono (show w.heap.size+1+1<=wr.heap.size by omega)))
      have HU6:=Hd_ (show (w5.alloc (.cells #[.int .i64 R.1.1,.slice A9 n9 c9] 39)).ownsRow (w.heap.size+1+1) 66 2 (.slice A9 n9 c9) R.1.2.length (R.1.2.flatMap cSt) from (ownsRow_mono hss.1 (by omega)).alloc _)
      have HNB:=Hd_ (fun b (hb:(Value.slice A9 n9 c9).ownBlock=some b)=>show b ∉ blks (u11 :: snds zs) from fun hm=>by
       have h1:=(HNSW.out.lt b hm).2
       have h2:=(hss.lt b hb).1
       omega)
      clear x0 x1 y0 y1 y2 hb5 hbB hss hn9
      by_cases hnC:n < C
      · rw [decide_eq_true hnC] at hsn
        rw [hsn]
        clear hsn
        have HRW6:=Hd_ HNS6.out.own
        go_wp2_with (at_builtin;(refine wpList_append1 cWv elWk rfl _ _ rfl (w.heap.size+1+1) _ zs (R.1.1,.slice A9 n9 c9) _ 1 (w5.heap.size+1) (by rfl) HRW6.out (by rfl) (by simp) rfl rfl (cWv_one _ _ _ _) (by omega) (by omega) (by simp;omega) ?_);intro v8 w8 hrow8 hb8 hat8 hgr8)
        have hg6:=grown_alloc hgr8
        have hpush:=HNS6.out.push (n:=R.1.1) HU6.out HNB.out hg6 hrow8 (fun g hg=>by
         rcases hat8 with h | ⟨g',h,hh⟩
         · exact .inl (by rw [<- h];exact hg)
         · rw [hg] at h;injection h with h;subst h;exact .inr hh)
        have HPU:=Hd_ (show NW (w.heap.size+1+1) w8 v8 (zs ++ [(R.1.1,.slice A9 n9 c9)]) (listTo g a x y (n+1)) by rw [HLS.out];exact hpush)
        have HB8:=Hd_ (HBL6.out.trans hb8)
        clear hrow8 hb8 hat8 hgr8 hg6 hpush
        go_roundw
        case rel=>exact ⟨n+1,_,by omega,by go_num,HPU.out,HB8.out⟩
        case measure=>simp [intOf];omega
      · rw [decide_eq_false hnC] at hsn
        rw [hsn]
        clear hsn
        have HFE:=Hd_ (HFN.out n (by omega))
        go_wp2_with fail
        go_ret
        refine ⟨_,rfl,?_,HBW6.out⟩
        rw [HFE.out]
        exact (NWO.of HNS6.out).mono (by omega) (Nat.le_refl _)
    · have HFE:=Hd_ (HFN.out n (by omega))
      have HNSW:=Hd_ hns
      have HBW:=Hd_ hbw
      have hnm:¬ (n:Int) < (m:Int):=by omega
      clear hns hbel hbw
      go_wp2_with fail
      go_ret
      refine ⟨_,rfl,?_,HBW.out⟩
      rw [HFE.out]
      exact (NWO.of HNSW.out).mono (by omega) (Nat.le_refl _)
end Go.Proofs.YteaplabkemoenaaGreat
namespace Go.Proofs.YteaplabkemoenaaGreat
open Go.ChangeShapes Go.WideShapes Go.ChangeAt Go.RowKit
attribute [local go_sem] ext_cell ext_frozen ext_lt ext_lt1 ext_lt2 ext_lt3 ltn2 ltn3 ltn13 lts1 lts2 lts3
theorem RowR.pickF {g:Gr} {a:Au} {y:Int} {f x s:Nat} {N:List Key} {C:Nat->Nat} (hC:∀ i k,N[i]?=some k->C i=cw g a y f k.1 k.2) {l:List Arc} {T:List (St × Nat)} (h:RowR g a x s N l T) :
 ∀ n,(Go.Proofs.YteaplabkemoenaaGreat.pick (fun e:St × Nat=>C e.2) T n=none/\Go.Proofs.YteaplabkemoenaaGreat.pick (cwAt g a y f x s) l n=none) ∨
   ∃ p i n',Go.Proofs.YteaplabkemoenaaGreat.pick (fun e:St × Nat=>C e.2) T n=some ((p.1,i),n')/\Go.Proofs.YteaplabkemoenaaGreat.pick (cwAt g a y f x s) l n=some (p,n')/\N[i]?=some (p.2.2.toNat,aft a s (valAt g x) p.2.1.toNat)/\p ∈ l:=by
 induction h with
 | nil=>intro n;exact .inl ⟨rfl,rfl⟩
 | @skip p0 l0 T0 h1 _ ih =>
   intro n
   have hz:¬ n < cwAt g a y f x s p0:=by rw [cwAt,h1,cw_none];omega
   have hz2:n - cwAt g a y f x s p0=n:=by rw [cwAt,h1,cw_none];omega
   rcases ih n with ⟨e1,e2⟩ | ⟨p,i,n',e1,e2,e3,e4⟩
   · exact .inl ⟨e1,by rw [Go.Proofs.YteaplabkemoenaaGreat.pick,if_neg hz,hz2,e2]⟩
   · exact .inr ⟨p,i,n',e1,by rw [Go.Proofs.YteaplabkemoenaaGreat.pick,if_neg hz,hz2,e2],e3,List.mem_cons_of_mem _ e4⟩
 | @take p l T i h1 h2 _ ih =>
   intro n
   have hc:C i=cwAt g a y f x s p:=hC _ _ h2
   by_cases hn:n < cwAt g a y f x s p
   · exact .inr ⟨p,i,n,by rw [Go.Proofs.YteaplabkemoenaaGreat.pick,if_pos (by rw [hc];exact hn)],by rw [Go.Proofs.YteaplabkemoenaaGreat.pick,if_pos hn],h2,List.mem_cons_self ..⟩
   · rcases ih (n - cwAt g a y f x s p) with ⟨e1,e2⟩ | ⟨p',i',n',e1,e2,e3,e4⟩
     · exact .inl ⟨by rw [Go.Proofs.YteaplabkemoenaaGreat.pick,if_neg (by rw [hc];exact hn)];simp only [hc];exact e1,by rw [Go.Proofs.YteaplabkemoenaaGreat.pick,if_neg hn,e2]⟩
     · exact .inr ⟨p',i',n',by rw [Go.Proofs.YteaplabkemoenaaGreat.pick,if_neg (by rw [hc];exact hn)];simp only [hc];exact e1,by rw [Go.Proofs.YteaplabkemoenaaGreat.pick,if_neg hn,e2],e3,List.mem_cons_of_mem _ e4⟩
theorem LaysV.rows {g:Gr} {a:Au} {y:Int} {k0:Key} {n lo:Nat} {w:World} {v:Value} (h:LaysV g a y k0 n lo w v):∃ (b o c:Nat),v=.slice (some ⟨b,o,none⟩) (n+1) c/\b < w.heap.size/\∀ d,d<=n->∃ (gd cd:Nat) (zs:List Zr),w.cell? ⟨b,o+d,none⟩=some (.slice (some ⟨gd,0,none⟩) (layN g a k0 d).length cd)/\LayV lo w.heap.size w gd cd (layN g a k0 d) (layC g a y k0 n d) (layTn g a k0 n d) zs:=by
 obtain ⟨A,c,rfl,-,-,h⟩:=h
 obtain ⟨b,o,gd,cd,zs,rfl,hb,-,-⟩:=h 0 (Nat.zero_le _)
 refine ⟨b,o,c,rfl,hb,fun d hd=>?_⟩
 obtain ⟨b',o',gd',cd',zs',he,-,hc',hl'⟩:=h d hd
 injection he with he
 injection he with e1 e2
 subst e1 e2
 exact ⟨gd',cd',zs',hc',hl'⟩
/-- the row of a key: what is picked there, and what follows -/
theorem nthRow {g:Gr} {a:Au} {y:Int} {k0:Key} {n d i m:Nat} {k:Key} (hk:(layN g a k0 d)[i]?=some k) (hd:d < n) (hm:m < cw g a y (n - d) k.1 k.2) :
 ∃ st i2 m2 k2,pick (fun e:St × Nat=>layC g a y k0 n (d+1) e.2) (layT g a k0 d i) m=some ((st,i2),m2)/\(layN g a k0 (d+1))[i2]?=some k2/\m2 < cw g a y (n - (d+1)) k2.1 k2.2/\nthL g a y (n - d) k.1 k.2 m=st :: nthL g a y (n - (d+1)) k2.1 k2.2 m2:=by
 obtain ⟨f,hf⟩:∃ f,n - d=f+1:=⟨n - d - 1,by omega⟩
 have hf2:n - (d+1)=f:=by omega
 rw [hf] at hm ⊢
 rw [hf2]
 obtain ⟨p,m2,e1,e2,e3⟩:=pick_cw hm
 rcases (layT_row hk).pickF (C:=layC g a y k0 n (d+1)) (y:=y) (f:=f) (fun j q hq=>by rw [layC_at hq,hf2]) m with ⟨h1,h2⟩ | ⟨p',i2,m',h1,h2,h3,h4⟩
 · rw [e1] at h2;cases h2
 · rw [e1] at h2
   injection h2 with h2
   injection h2 with h2 h5
   subst h2 h5
   exact ⟨p.1,i2,m2,_,h1,h3,e2,nthL_succ e1⟩
set_option maxHeartbeats 8000000 in
set_option maxRecDepth 100000 in
theorem l19Nth_any (g:Gr) (a:Au) (y:Int) (k0:Key) (n lo:Nat) (v:Value) (x m:Int) (w:World) (hl:LaysV g a y k0 n lo w v) (hgo:grOk g=true) (ha:auOk a=true) (hk0:k0.1 < g.vals.length/\k0.2 < 2 ^ a.accept.length) (hn:n<=60) :
 Calls Tryz.prog 25 #[v,.int .i64 x,.int .i64 m] w fun e w'=>∃ v',e=.returned (.tuple #[v',.bool (wi m 0 ((cw g a y n k0.1 k0.2:Nat) - 1))])/\WkO w.heap.size w'.heap.size w' v' (if wi m 0 ((cw g a y n k0.1 k0.2:Nat) - 1)=true then (x,nthL g a y n k0.1 k0.2 m.toNat) else (0,[]))/\Below w.heap.size w w':=by
 obtain ⟨bL,oL,cL,rfl,lb,hrows⟩:=hl.rows
 have HLO:=Hd_ (fun d=>(layN_ok (grOk_iff.1 hgo) ha hk0 d).len (grOk_iff.1 hgo) ha)
 obtain ⟨g0,cd0,zs0,r0,hl0⟩:=hrows 0 (Nat.zero_le _)
 obtain ⟨z,-,-,-,-,-,-,-,r2,-,-⟩:=hl0.get (i:=0) (k:=k0) rfl
 rw [layC_at (i:=0) (k:=k0) rfl,Nat.sub_zero] at r2
 have lg:=hl0.lt
 replace r0:w.cell? ⟨bL,oL,none⟩=some (.slice (some ⟨g0,0,none⟩) 1 cd0):=by simpa [layN] using r0
 replace r2:w.cell? ⟨g0,2,none⟩=some (.int .i64 (cw g a y n k0.1 k0.2:Nat)):=by simpa using r2
 obtain ⟨C,hC⟩:∃ C,C=cw g a y n k0.1 k0.2:=⟨_,rfl⟩
 have hcle:C<=1000000:=by rw [hC];exact cw_le ..
 rw [<- hC] at r2 ⊢
 have HC:=Hd_ hC
 have HROWS:=Hd_ hrows
 have HIN:=Hd_ (fun W=>l1In_any m 0 ((C:Int) - 1) W)
 have hb0:Below w.heap.size w (w.alloc (.cells #[.int .i64 0,.slice none 0 0] 39)):=(Below.refl _ _).alloc (Nat.le_refl _) _
 have hbR:=Blk.new w 39 #[.int .i64 0,.slice none 0 0] w.heap.size rfl
 have HB0:=Hd_ hb0
 have HBR:=Hd_ hbR
 have hn1:(0:Int) < (n:Int)+1:=by omega
 obtain ⟨B,hB⟩:∃ B,B=wi m 0 ((C:Int) - 1):=⟨_,rfl⟩
 obtain ⟨RR,hRR⟩:∃ RR:Wk,RR=if B=true then (x,nthL g a y n k0.1 k0.2 m.toNat) else (0,[]):=⟨_,rfl⟩
 rw [<- hB] at HIN ⊢
 rw [<- hRR]
 have HGO:=Hd_ hgo
 clear hl hl0 hrows hgo ha hk0 hC hb0 hbR
 cases B with
 | false =>
   have HF:=Hd_ (show RR=(0,[]) from hRR)
   clear hRR hB
   have qc:IntKind.i64.wrap ((C:Int) - 1)=(C:Int) - 1:=IntWalk.i64_in _ (by omega)
   go_enter Tryz.func25,Tryz.ntmps25
   go_wp2_with fail
   clear qc
   refine (HIN.out _).mono ?_
   rintro e w9 ⟨rfl,hw9⟩
   rw [hw9]
   clear hw9
   have bR:=HBR.out
   have q0:=bR.cell 0
   have q1:=bR.cell 1
   have fr0:=bR.frozen 0
   have fr1:=bR.frozen 1
   have lr:=bR.lt
   clear bR
   go_wp2_with fail
   refine bodyPost_ret (v:=.tuple #[.agg #[.int .i64 0,.slice none 0 0],.bool false]) (by simp [results,Tryz.results25,go_sem,q0,q1]) rfl ⟨_,rfl,?_,HB0.out⟩
   rw [HF.out]
   exact ⟨_,rfl,Own.nil _ _ _ _ _ _⟩
 | true =>
   have hwi:=wi_iff.1 hB.symm
   obtain ⟨m,rfl⟩:=Int.eq_ofNat_of_zero_le hwi.1
   have hm:m < C:=by omega
   obtain ⟨SS,hSS⟩:∃ SS,SS=nthL g a y n k0.1 k0.2 m:=⟨_,rfl⟩
   have HF:=Hd_ (show RR=(x,SS) from by rw [hRR,if_pos rfl,hSS,Int.toNat_natCast])
   have HSS:=Hd_ hSS
   have HM:=Hd_ (show m < cw g a y n k0.1 k0.2 by rw [<- HC.out];exact hm)
   clear hRR hB hSS hwi
   have qc:IntKind.i64.wrap ((C:Int) - 1)=(C:Int) - 1:=IntWalk.i64_in _ (by omega)
   go_enter Tryz.func25,Tryz.ntmps25
   go_wp2_with fail
   clear qc
   refine (HIN.out _).mono ?_
   rintro e w9 ⟨rfl,hw9⟩
   rw [hw9]
   clear hw9
   go_wp2_with fail
   clear r0 r2
   have HB1:=Hd_ (HB0.out.alloc (by simp) (.cells #[.int .i64 x,.slice none 0 0] 39))
   have HBR1:=Hd_ (HBR.out.alloc (.cells #[.int .i64 x,.slice none 0 0] 39))
   have HBW1:=Hd_ (Blk.new (w.alloc (.cells #[.int .i64 0,.slice none 0 0] 39)) 39 #[.int .i64 x,.slice none 0 0] (w.heap.size+1) (by simp))
   go_wp2_with fail
   go_loopw [2,9,10] (fun nn aa dd wr=>∃ (d i n':Nat) (k:Key) (O:List St) (oo:Value),nn=.int .i64 (n':Int)/\aa=.int .i64 (i:Int)/\dd=.int .i64 (d:Int)/\d<=n/\(layN g a k0 d)[i]?=some k/\n' < cw g a y (n - d) k.1 k.2/\O ++ nthL g a y (n - d) k.1 k.2 n'=SS/\O.length=d /\
    Blk wr w.heap.size 39 #[.int .i64 0,.slice none 0 0]/\Blk wr (w.heap.size+1) 39 #[.int .i64 x,oo]/\wr.ownsRow (w.heap.size+1+1) 66 2 oo O.length (O.flatMap cSt)/\Below w.heap.size w wr) (fun _ _ dd _=>n - (intOf dd).toNat)
   case atStart=>exact ⟨0,0,m,k0,[],_,rfl,rfl,rfl,Nat.zero_le _,rfl,HM.out,HSS.out.symm,rfl,HBR1.out,HBW1.out,World.ownsRow_nil _ _ _ _,HB1.out⟩
   case round =>
    clear HB0 HBR HB1 HBR1 HBW1
    obtain ⟨d,i,n',k,O,oo,rfl,rfl,rfl,hd,hk,hn',hO,hOl,hbr,hbw,hrow,hbel⟩:=hrel
    have lw0:=hbr.lt
    have lw1:=hbw.lt
    have hszw:=hbel.size
    by_cases hdn:d < n
    · obtain ⟨st,i2,n2,k2,hp,hk2,hn2,hO2⟩:=nthRow hk hdn hn'
      obtain ⟨gd,cd,zs,h0,hld⟩:=HROWS.out d hd
      obtain ⟨gd1,cd1,zs1,h1,hl1⟩:=HROWS.out (d+1) hdn
      obtain ⟨z,hz,hz1,hz2,hz3,hz4,d0,d1,d2,d3,d4⟩:=hld.get hk
      rw [layTn_lt hdn] at hz4
      have hTin:=(layT_row hk).to_lt
      have hTl:=Nat.le_trans (layT_row hk).len (arcs_len (grOk_iff.1 HGO.out) _)
      obtain ⟨F,hF⟩:∃ F:Nat->Nat,F=layC g a y k0 n (d+1):=⟨_,rfl⟩
      obtain ⟨TT,hTT⟩:∃ TT,TT=layT g a k0 d i:=⟨_,rfl⟩
      rw [<- hF] at hp hl1
      rw [<- hTT] at hp hz4 hTin hTl
      have hFle:∀ j,F j<=1000000:=fun j=>by rw [hF];exact layC_le ..
      have hn'l:n'<=1000000:=by have:=cw_le g a y (n - d) k.1 k.2;omega
      have hosv:=hz4.1
      have hotv:=hz4.2
      have hil:=(List.getElem?_eq_some_iff.1 hk).1
      have hl20:=HLO.out d
      have hl21:=HLO.out (d+1)
      obtain ⟨L0,hL0⟩:∃ L0,L0=(layN g a k0 d).length:=⟨_,rfl⟩
      obtain ⟨L1,hL1⟩:∃ L1,L1=(layN g a k0 (d+1)).length:=⟨_,rfl⟩
      rw [<- hL0] at h0 hil hl20
      rw [<- hL1] at h1 hTin hl21
      have HL1:=Hd_ hl1
      have HL1E:=Hd_ hL1
      have HO2:=Hd_ (show (O ++ [st]) ++ nthL g a y (n - (d+1)) k2.1 k2.2 n2=SS by rw [<- hO,hO2,List.append_assoc];rfl)
      have HK2:=Hd_ hk2
      have HN2:=Hd_ hn2
      have HP:=Hd_ hp
      have HTIN:=Hd_ hTin
      have HFLE:=Hd_ hFle
      clear hz hz1 hz2 hz3 hz4 hl1 hL0 hL1 hF hTT hp hk2 hn2 hO2 hTin hFle hk hO hn'
      obtain ⟨z0,z1,z2,sv,tv⟩:=z
      simp only at d3 d4 hosv hotv
      obtain ⟨As,cs,rfl,hls,hms,hCs⟩:=hosv.form cSt_len
      obtain ⟨At,ct,rfl,hlt1,hmt,hCt⟩:=hotv.form cN_len
      rw [List.length_map] at hls hosv hlt1 hotv d3 d4
      have HCS:=Hd_ hCs
      have HCT:=Hd_ hCt
      have hgd:=hld.lt
      have h0:=kcell hbel h0
      have d0:=kcell hbel d0
      have d1:=kcell hbel d1
      have d2:=kcell hbel d2
      have d3:=kcell hbel d3
      have d4:=kcell hbel d4
      have HH1:=Hd_ h1
      clear hCs hCt hosv hotv hld h1
      have hd1:(d:Int) < (n:Int)+1:=by omega
      have hdn2:(d:Int) < (n:Int):=by omega
      have hii:(i:Int) < (L0:Int):=by omega
      obtain ⟨wo,hwo⟩:∃ wo:World,wo=wr:=⟨_,rfl⟩
      rw [<- hwo] at hbr hbw hrow hbel lw0 lw1 hszw h0 d0 d1 d2 d3 d4 ⊢
      clear hwo
      have HBR:=Hd_ hbr
      have HBW:=Hd_ hbw
      have HROW:=Hd_ hrow
      have HBEL:=Hd_ hbel
      clear hbr hbw hrow hbel
      go_wp2_with fail
      obtain ⟨wz,hwz⟩:∃ wz,wz=wo.alloc (.cells #[.int .i64 (k.1:Int),.int .i64 (k.2:Int),.int .i64 (layC g a y k0 n d i:Int),.slice As TT.length cs,.slice At TT.length ct] 58):=⟨_,rfl⟩
      have hbz:Blk wz wo.heap.size 58 #[.int .i64 (k.1:Int),.int .i64 (k.2:Int),.int .i64 (layC g a y k0 n d i:Int),.slice As TT.length cs,.slice At TT.length ct]:=by rw [hwz];exact Blk.new _ _ _ _ rfl
      have hbY:Below wo.heap.size wo wz:=by rw [hwz];exact (Below.refl _ _).alloc (Nat.le_refl _) _
      rw [<- hwz]
      have hrl:=HROW.out.lt
      have HRL:=Hd_ hrl
      have HBZ:=Hd_ hbz
      have HBY:=Hd_ hbY
      have hszz:=hbz.lt
      clear hwz hbz hbY hrl h0 d0 d1 d2 d3 d4
      go_loopw [2,9,12,13] (fun nn aa bb kk wi=>∃ (j m1 a1:Nat) (b:Bool) (O1:List St) (o1:Value),nn=.int .i64 (m1:Int)/\aa=.int .i64 (a1:Int)/\bb=.bool b/\kk=.int .i64 (j:Int)/\j<=TT.length /\
       Blk wi wo.heap.size 58 #[.int .i64 (k.1:Int),.int .i64 (k.2:Int),.int .i64 (layC g a y k0 n d i:Int),.slice As TT.length cs,.slice At TT.length ct]/\Blk wi w.heap.size 39 #[.int .i64 0,.slice none 0 0]/\Blk wi (w.heap.size+1) 39 #[.int .i64 x,o1]/\wi.ownsRow (w.heap.size+1+1) 66 2 o1 O1.length (O1.flatMap cSt)/\Below w.heap.size w wi /\
       (b=false->O1=O/\a1=i/\o1=oo/\m1=leftN (fun e:St × Nat=>F e.2) (TT.take j) n'/\∀ r q,r < j->TT[r]?=some q->¬ leftN (fun e:St × Nat=>F e.2) (TT.take r) n' < F q.2) /\
       (b=true->m1=n2/\a1=i2/\O1=O ++ [st])) (fun _ _ _ kk _=>TT.length - (intOf kk).toNat)
      case atStart=>exact ⟨0,n',i,false,O,oo,rfl,rfl,rfl,rfl,Nat.zero_le _,HBZ.out,HBR.out.keep HBY.out,HBW.out.keep HBY.out,ownsRow_block HROW.out (fun b hb=>HBY.out.block b (HRL.out b hb).2),HBEL.out.trans (HBY.out.mono hszw),fun _=>⟨rfl,rfl,rfl,rfl,fun r q hr=>by omega⟩,fun h=>by cases h⟩
      case round =>
       clear HBR HBW HBZ HBY HBEL HROW
       obtain ⟨j,m1,a1,b,O1,o1,rfl,rfl,rfl,rfl,hj,hbz,hbr,hbw,hrow,hbel,hno,hyes⟩:=hrel
       have c4:wr.cell? ⟨wo.heap.size,4,none⟩=some (.slice At TT.length ct):=hbz.cell 4
       have HBZ:=Hd_ hbz
       have HBR:=Hd_ hbr
       have HBW:=Hd_ hbw
       have HROW:=Hd_ hrow
       have HBEL:=Hd_ hbel
       cases b with
       | true =>
         obtain ⟨rfl,rfl,rfl⟩:=hyes rfl
         clear hno hyes hbz hbr hbw hrow hbel
         by_cases hlj:j < TT.length
         · have hjj:(j:Int) < (TT.length:Int):=by omega
           go_wp2_with fail
           go_roundw
           case rel=>exact ⟨d+1,a1,m1,k2,O ++ [st],o1,rfl,rfl,by go_num,by omega,HK2.out,HN2.out,HO2.out,by simp;omega,HBR.out,HBW.out,HROW.out,HBEL.out⟩
           case measure=>simp [intOf];omega
         · have hjj:¬ (j:Int) < (TT.length:Int):=by omega
           go_wp2_with fail
           go_roundw
           case rel=>exact ⟨d+1,a1,m1,k2,O ++ [st],o1,rfl,rfl,by go_num,by omega,HK2.out,HN2.out,HO2.out,by simp;omega,HBR.out,HBW.out,HROW.out,HBEL.out⟩
           case measure=>simp [intOf];omega
       | false =>
         have hno2:=hno rfl
         clear hno
         obtain ⟨rfl,rfl,rfl,rfl,hno⟩:=hno2
         by_cases hlj:j < TT.length
         · have hej:TT[j]?=some TT[j]:=List.getElem?_eq_getElem hlj
           have hin:=HTIN.out _ (List.getElem_mem hlj)
           generalize TT[j]=e at hej hin
           obtain ⟨⟨sid,sinv⟩,e2⟩:=e
           simp only at hin
           obtain ⟨b8,o8,rfl,hb8,t0⟩:=HCT.out.nat (i:=j) (x:=e2) (by rw [List.getElem?_map,hej];rfl)
           obtain ⟨b9,o9,rfl,hb9,s0,s1⟩:=HCS.out.st (i:=j) (e:=(sid,sinv)) (by rw [List.getElem?_map,hej];rfl)
           have hk1:(layN g a k0 (d+1))[e2]?=some (layN g a k0 (d+1))[e2]:=List.getElem?_eq_getElem (by rw [<- HL1E.out];exact hin)
           obtain ⟨zq,-,-,-,-,-,-,-,r2,-,-⟩:=HL1.out.get hk1
           have t0:=kcell hbel t0
           have s0:=kcell hbel s0
           have s1:=kcell hbel s1
           have r2:=kcell hbel r2
           have h1:=kcell hbel HH1.out
           have hC1:=HFLE.out e2
           have HPH:=Hd_ (fun h=>(HP.out.symm.trans (pick_here (k:=fun e:St × Nat=>F e.2) hej hno h)))
           have HLS:=Hd_ (leftN_succ (k:=fun e:St × Nat=>F e.2) (n:=n') hej)
           have hll:=leftN_le (fun e:St × Nat=>F e.2) (TT.take j) n'
           have HNO:=Hd_ (fun (h:¬ leftN (fun e:St × Nat=>F e.2) (TT.take j) n' < F e2) r q (hr:r < j+1) (hq:TT[r]?=some q)=>show ¬ leftN (fun e:St × Nat=>F e.2) (TT.take r) n' < F q.2 from by
            rcases Nat.lt_or_ge r j with h1 | h1
            · exact hno r q h1 hq
            · obtain rfl:r=j:=by omega
              rw [hej] at hq
              injection hq with hq
              rw [<- hq];exact h)
           obtain ⟨D1,hD1⟩:∃ D1,D1=d+1:=⟨_,rfl⟩
           rw [<- hD1] at h1
           have hq1:(D1:Int) < (n:Int)+1:=by omega
           have hqz:(d:Int)+1=(D1:Int):=by omega
           have hjj:(j:Int) < (TT.length:Int):=by omega
           have hee:(e2:Int) < (L1:Int):=by omega
           obtain ⟨M1,hM1⟩:∃ M1,M1=leftN (fun e:St × Nat=>F e.2) (TT.take j) n':=⟨_,rfl⟩
           rw [<- hM1] at HPH HLS HNO hll ⊢
           have HM1:=Hd_ hM1
           obtain ⟨C1,hC1e⟩:∃ C1,C1=F e2:=⟨_,rfl⟩
           have HC1:=Hd_ hC1e
           rw [<- hC1e] at r2 hC1 HNO
           have HLS2:=Hd_ (show leftN (fun e:St × Nat=>F e.2) (TT.take (j+1)) n'=M1 - C1 by rw [HLS.out,hC1e])
           have HPH2:=Hd_ (fun (h:M1 < C1)=>HPH.out (by show M1 < F e2;rw [<- hC1e];exact h))
           clear hno hej hk1 hyes hM1 hC1e HLS HPH
           obtain ⟨wq,hwq⟩:∃ wq:World,wq=wr:=⟨_,rfl⟩
           rw [<- hwq] at HBZ HBR HBW HROW HBEL hbz hbr hbw hrow hbel c4 t0 s0 s1 r2 h1 ⊢
           clear hwq
           have lq1:bL < wq.heap.size:=World.block_lt_of_cell? _ _ h1
           have lq2:wo.heap.size < wq.heap.size:=World.block_lt_of_cell? _ _ c4
           have lq3:b8 < wq.heap.size:=World.block_lt_of_cell? _ _ t0
           have lq4:gd1 < wq.heap.size:=World.block_lt_of_cell? _ _ r2
           have qw:IntKind.i64.wrap ((d:Int)+1)=(D1:Int):=by rw [IntWalk.i64_in _ (by omega),hqz]
           clear hD1 hqz
           go_upto_region 13 with fail
           refine wp_region_ext_lit (by kernel_rfl) (by kernel_rfl) ?_
           repeat (go_big_quiet_step (fail))
           refine wpQuiet_nil ?_
           rintro _ ⟨u2,rfl⟩
           clear qw
           have hbU:=ext_below wq u2
           by_cases hpk:M1 < C1
           · have hpki:(M1:Int) < (C1:Int):=by omega
             have hpe:=HPH2.out hpk
             injection hpe with hpe
             injection hpe with hp1 hp2
             injection hp1 with hp3 hp4
             obtain ⟨A9,n9,c9,ho1⟩:=(Own.of_row (xs:=O1) hrow rfl rfl).shape
             subst ho1
             have hrl:∀ b,(Value.slice A9 n9 c9).ownBlock=some b->w.heap.size+1+1<=b/\b < wo.heap.size:=HRL.out
             have v1:wq.cell? ⟨w.heap.size+1,1,none⟩=some (.slice A9 n9 c9):=hbw.cell 1
             have c3:wq.cell? ⟨wo.heap.size,3,none⟩=some (.slice (some ⟨b9,o9,none⟩) TT.length cs):=hbz.cell 3
             obtain ⟨wx,hwx⟩:∃ wx,wx=ext wq u2:=⟨_,rfl⟩
             rw [<- hwx] at hbU ⊢
             have v1:=kcell hbU v1
             have c3:=kcell hbU c3
             have c4:=kcell hbU c4
             have t0:=kcell hbU t0
             have s0:=kcell hbU s0
             have s1:=kcell hbU s1
             have HBZ:=Hd_ (hbz.keep hbU)
             have HBR:=Hd_ (hbr.keep hbU)
             have HBW:=Hd_ (hbw.keep hbU)
             have HROW:=Hd_ (ownsRow_block hrow (fun b hb=>hbU.block b (hrow.lt b hb).2))
             have HBEL:=Hd_ (below_trans hbel hbU)
             have HT0:=Hd_ t0
             have HR2:=Hd_ hrl
             have hsx:=hbU.size
             have hOl60:O1.length<=60:=by omega
             clear hwx hbz hbr hbw hrow hbel hbU t0 r2 h1 c4 hrl hOl
             go_upto_region 15 with fail
             refine F_start 10 (fun w'=>w'.cell? ⟨w.heap.size+1,1,none⟩=some (.slice A9 n9 c9)/\w'.cell? ⟨wo.heap.size,3,none⟩=some (.slice (some ⟨b9,o9,none⟩) TT.length cs)/\w'.cell? ⟨b9,o9+j * 2,none⟩=some (.int .i64 sid)/\w'.cell? ⟨b9,o9+j * 2+1,none⟩=some (.bool sinv)) (by kernel_rfl) (by exact ⟨v1,c3,s0,s1⟩) (fun hS inv=>?_)
             refine F_tk 0 inv ?_
             try simp only [tA,tB,tC,Act.put,tE,tF,tG]
             clear inv;intro inv
             refine F_tk 1 inv ?_
             try simp only [tA,tB,tC,Act.put,tE,tF,tG]
             clear inv;intro inv
             refine F_tk 2 inv ?_
             try simp only [tA,tB,tC,Act.put,tE,tF,tG]
             clear inv;intro inv
             refine F_tk 3 inv ?_
             try simp only [tA,tB,tC,Act.put,tE,tF,tG]
             clear inv;intro inv
             refine F_tk 4 inv ?_
             try simp only [tA,tB,tC,Act.put,tE,tF,tG]
             clear inv;intro inv
             refine F_tk 5 inv ?_
             try simp only [tA,tB,tC,Act.put,tE,tF,tG]
             clear inv;intro inv
             refine F_tk 6 inv ?_
             try simp only [tA,tB,tC,Act.put,tE,tF,tG]
             clear inv;intro inv
             refine F_o1 7 inv ?_;intro K hK
             try simp only [tA,tB,tC]
             go_simp
             refine hK.out _ _ (kA4 _ hS) (fun _ _=>?_)
             try simp only [tA,tB,tC,Act.put,tE,tF,tG]
             clear hK K inv hS;rename_i hS inv
             refine F_o1 8 inv ?_;intro K hK
             try simp only [tA,tB,tC]
             refine op_append1 cSt elStL rfl _ _ (by rfl) (w.heap.size+1+1) (.slice A9 n9 c9) O1 (sid,sinv) 1 _ (by rfl) (show ((wx.alloc (.cells #[.int .i64 sid,.bool sinv] 66)).drew).ownsRow (w.heap.size+1+1) 66 2 (.slice A9 n9 c9) O1.length (O1.flatMap cSt) from HROW.out.alloc _) (by first | rfl | simp) (heap_alloc_new _ _) rfl (cSt_one _) (by omega) (by omega) (by simp;omega) ?_
             intro g2 cp2 w3 hown3 hgr3 hat3 hlt3
             have hrl:=HR2.out
             have g3:∀ b,b < wx.heap.size->(Value.slice A9 n9 c9).ownBlock ≠ some b->w3.heap[b]?=wx.heap[b]?:=fun b hb hn=>(hgr3.block b (by simp;omega) (fun e=>hn e.symm)).trans (Below.heap_alloc wx _ b hb)
             have hs3:wx.heap.size < w3.heap.size:=by have:=hgr3.size;simp at this;omega
             have nz:(Value.slice A9 n9 c9).ownBlock ≠ some wo.heap.size:=fun e=>by have:=hrl _ e;omega
             have nr:(Value.slice A9 n9 c9).ownBlock ≠ some w.heap.size:=fun e=>by have:=hrl _ e;omega
             have nw:(Value.slice A9 n9 c9).ownBlock ≠ some (w.heap.size+1):=fun e=>by have:=hrl _ e;omega
             have n8:(Value.slice A9 n9 c9).ownBlock ≠ some b8:=fun e=>by have:=hrl _ e;omega
             have hbz3:=(g3 wo.heap.size (by omega) nz).trans HBZ.out
             have hbr3:=(g3 w.heap.size (by omega) nr).trans HBR.out
             have hbw3:Blk w3 (w.heap.size+1) 39 #[.int .i64 x,.slice A9 n9 c9]:=(g3 (w.heap.size+1) (by omega) nw).trans HBW.out
             have v1':w3.cell? ⟨w.heap.size+1,1,none⟩=some (.slice A9 n9 c9):=hbw3.cell 1
             have f1':=hbw3.frozen 1
             have l1':=hbw3.lt
             refine hK.out _ _ (⟨hgr3.cell hS.1 (fun e=>by have:=hrl _ e.symm;simp only at this;omega),hgr3.cell hS.2.1 (fun e=>by have:=hrl _ e.symm;simp only at this;omega),hgr3.cell hS.2.2.1 (fun e=>by have:=hrl _ e.symm;simp only at this;omega),hgr3.cell hS.2.2.2 (fun e=>by have:=hrl _ e.symm;simp only at this;omega)⟩) (fun _ _=>?_)
             try simp only [tA,tB,tC,Act.put,tE,tF,tG]
             clear hK K inv hS;rename_i hS inv
             refine F_tk 9 inv ?_
             try simp only [tA,tB,tC,Act.put,tE,tF,tG]
             clear inv;intro inv
             refine F_l1 10 ?_;intro K hK
             go_simp
             refine hK _ _ ?_
             clear hK K inv hS
             obtain ⟨w4,hw4⟩:∃ w4,w4=w3.setCell ⟨w.heap.size+1,1,none⟩ (.slice (some ⟨g2,0,none⟩) (O1.length+1) cp2):=⟨_,rfl⟩
             have hs4w:w3.heap.size=w4.heap.size:=by rw [hw4];simp [World.setCell]
             have g4:∀ b,b < w3.heap.size->b ≠ w.heap.size+1->w4.heap[b]?=w3.heap[b]?:=fun b hb hne=>by rw [hw4];exact Below.heap_setCell w3 ⟨w.heap.size+1,1,none⟩ _ b hne
             have hbz4:Blk w4 wo.heap.size 58 #[.int .i64 (k.1:Int),.int .i64 (k.2:Int),.int .i64 (layC g a y k0 n d a1:Int),.slice (some ⟨b9,o9,none⟩) TT.length cs,.slice (some ⟨b8,o8,none⟩) TT.length ct]:=(g4 _ (by omega) (by omega)).trans hbz3
             have hbr4:Blk w4 w.heap.size 39 #[.int .i64 0,.slice none 0 0]:=(g4 _ (by omega) (by omega)).trans hbr3
             have hbw4:Blk w4 (w.heap.size+1) 39 #[.int .i64 x,.slice (some ⟨g2,0,none⟩) (O1.length+1) cp2]:=by
              have h:=hbw3.set_ 1 (.slice (some ⟨g2,0,none⟩) (O1.length+1) cp2)
              rw [<- hw4] at h
              simpa using h
             have hg2:g2 ≠ w.heap.size+1:=by
              rcases hat3 with h | h
              · have:=hrl g2 h;omega
              · simp at h;omega
             have hrow4:=ownsRow_block (w':=w4) hown3 (fun b hb=>by
              have he:g2=b:=by simpa [Value.ownBlock] using hb
              exact g4 b (by omega) (by rw [<- he];exact hg2))
             have hbl4:Below w.heap.size w w4:=by
              rw [hw4]
              have h1:Below w.heap.size w ((wx.alloc (.cells #[.int .i64 sid,.bool sinv] 66)).drew):=(HBEL.out.alloc (by omega) _).drew
              exact (h1.grown hgr3 (by simp;omega) (fun b hb=>by have:=hrl b hb;omega)).setCell (by simp only;omega) _
             have t4:w4.cell? ⟨b8,o8+j,none⟩=some (.int .i64 (e2:Int)):=(World.cell?_of_block (a:=⟨b8,o8+j,none⟩) ((g4 b8 (by omega) (by omega)).trans (g3 b8 (by omega) n8))).trans HT0.out
             have c4:w4.cell? ⟨wo.heap.size,4,none⟩=some (.slice (some ⟨b8,o8,none⟩) TT.length ct):=hbz4.cell 4
             have HBZ4:=Hd_ hbz4
             have HBR4:=Hd_ hbr4
             have HBW4:=Hd_ hbw4
             have HROW4:=Hd_ hrow4
             have HBL4:=Hd_ hbl4
             have HPS:=Hd_ (And.intro hp2.symm (And.intro hp4.symm hp3))
             rw [<- hw4]
             clear hw4 hbz4 hbr4 hbw4 hrow4 hbl4 g4 g3 hbz3 hbr3 hbw3 v1' f1' l1' hown3 hgr3 hat3 hlt3 hrl nz nr nw n8 hp2 hp4 hp3 v1 c3 s0 s1
             go_wp2_with fail
             go_roundw
             case rel=>exact ⟨j+1,M1,e2,true,O1 ++ [(sid,sinv)],_,rfl,rfl,rfl,by go_num,by omega,HBZ4.out,HBR4.out,HBW4.out,HROW4.out,HBL4.out,(fun h=>by cases h),fun _=>⟨HPS.out.1,HPS.out.2.1,by rw [HPS.out.2.2]⟩⟩
             case measure=>simp [intOf];omega
           · have hpki:¬ (M1:Int) < (C1:Int):=by omega
             have HNO2:=Hd_ (HNO.out hpk)
             have hsub:(M1:Int) - (C1:Int)=((M1 - C1:Nat):Int):=by omega
             have qs:IntKind.i64.wrap ((M1:Int) - (C1:Int))=((M1 - C1:Nat):Int):=by rw [IntWalk.i64_in _ (by omega)];omega
             clear hbz hbr hbw hrow hbel t0 s0 s1 r2 h1 c4
             go_wp2_with fail
             clear qs
             go_roundw
             case rel =>
              exact ⟨j+1,M1 - C1,a1,false,O1,o1,by first | rfl | rw [hsub],rfl,rfl,by go_num,by omega,HBZ.out.keep hbU,HBR.out.keep hbU,HBW.out.keep hbU,ownsRow_block HROW.out (fun b hb=>hbU.block b (HROW.out.lt b hb).2),below_trans HBEL.out hbU,fun _=>⟨rfl,rfl,rfl,HLS2.out.symm,fun r q hr hq=>HNO2.out r q hr hq⟩,fun h=>by cases h⟩
             case measure=>simp [intOf];omega
         · obtain rfl:j=TT.length:=by omega
           have hx:=pick_end (k:=fun e:St × Nat=>F e.2) (n:=n') hno
           rw [HP.out] at hx
           cases hx
    · obtain rfl:d=n:=by omega
      rw [Nat.sub_self] at hO
      have hOe:O=SS:=by rw [<- hO];simp [nthL]
      have hown:=Own.of_row (xs:=O) hrow rfl rfl
      rw [hOe] at hown
      obtain ⟨A9,n9,c9,rfl⟩:=hown.shape
      have HOW:=Hd_ hown
      have w0:wr.cell? ⟨w.heap.size+1,0,none⟩=some (.int .i64 x):=hbw.cell 0
      have w1:wr.cell? ⟨w.heap.size+1,1,none⟩=some (.slice A9 n9 c9):=hbw.cell 1
      have q0:((wr.setCell ⟨w.heap.size,0,none⟩ (.int .i64 x)).setCell ⟨w.heap.size,1,none⟩ (.slice A9 n9 c9)).cell? ⟨w.heap.size,0,none⟩=some (.int .i64 x):=by simpa using ((hbr.set_ 0 (.int .i64 x)).set_ 1 (.slice A9 n9 c9)).cell 0
      have q1:((wr.setCell ⟨w.heap.size,0,none⟩ (.int .i64 x)).setCell ⟨w.heap.size,1,none⟩ (.slice A9 n9 c9)).cell? ⟨w.heap.size,1,none⟩=some (.slice A9 n9 c9):=by simpa using ((hbr.set_ 0 (.int .i64 x)).set_ 1 (.slice A9 n9 c9)).cell 1
      have fr0:=hbr.frozen 0
      have fr1:=hbr.frozen 1
      have q2:(wr.setCell ⟨w.heap.size,0,none⟩ (.int .i64 x)).cell? ⟨w.heap.size,0,none⟩=some (.int .i64 x):=by simpa using (hbr.set_ 0 (.int .i64 x)).cell 0
      have HQ:=Hd_ (And.intro q0 (And.intro q1 q2))
      clear q0 q1 q2
      have q0:wr.cell? ⟨w.heap.size,0,none⟩=some (.int .i64 0):=hbr.cell 0
      have q1:wr.cell? ⟨w.heap.size,1,none⟩=some (.slice none 0 0):=hbr.cell 1
      have HBEL:=Hd_ hbel
      have hbn:∀ b,b ≠ w.heap.size->((wr.setCell ⟨w.heap.size,0,none⟩ (.int .i64 x)).setCell ⟨w.heap.size,1,none⟩ (.slice A9 n9 c9)).heap[b]?=wr.heap[b]?:=fun b hb=>by rw [Below.heap_setCell _ _ _ _ hb,Below.heap_setCell _ _ _ _ hb]
      have HBN:=Hd_ hbn
      have hdd:¬ (d:Int) < (d:Int):=by omega
      clear hO hOe hown hbr hbw hrow hbel hbn hk hn'
      go_wp2_with fail
      have HBS:=Hd_ ((HBEL.out.setCell (p:=⟨w.heap.size,0,none⟩) (by simp only;omega) (.int .i64 x)).setCell (p:=⟨w.heap.size,1,none⟩) (by simp only;omega) (.slice A9 n9 c9))
      obtain ⟨hq0,hq1,hq2⟩:=HQ.out
      have hwes:((wr.setCell ⟨w.heap.size,0,none⟩ (.int .i64 x)).setCell ⟨w.heap.size,1,none⟩ (.slice A9 n9 c9)).heap.size=wr.heap.size:=by simp [World.setCell]
      refine bodyPost_ret (v:=.tuple #[.agg #[.int .i64 x,.slice A9 n9 c9],.bool true]) (by simp [results,Tryz.results25,go_sem,hq0,hq1,hq2]) rfl ⟨_,rfl,?_,HBS.out⟩
      rw [HF.out]
      exact ⟨_,rfl,(HOW.out.blocks (fun b hb=>HBN.out b (by have:=HOW.out.lt b hb;omega))).mono (by omega) (by omega)⟩
theorem LayV.ne {lo hi:Nat} {w:World} {gd c:Nat} {N:List Key} {C:Nat->Nat} {T:Nat->List (St × Nat)} {zs:List Zr} (h:LayV lo hi w gd c N C T zs) {b0:Nat} (hb:Blk w b0 39 #[]):gd ≠ b0:=by
 rintro rfl
 obtain ⟨-,h2⟩:=h.row
 rcases h2 with ⟨h3,-⟩ | ⟨g,cap,cur,h3,-,h4,-⟩
 · cases h3
 · injection h3 with h3
   injection h3 with h3
   injection h3 with h3
   subst h3
   have hb':w.heap[gd]?=some (.cells #[] 39 (0,0)):=hb
   rw [hb'] at h4
   injection h4 with h4
   injection h4 with _ h5
   exact absurd h5 (by decide)
theorem LaysV.apart {g:Gr} {a:Au} {y:Int} {k0:Key} {n lo:Nat} {w w':World} {v:Value} (h:LaysV g a y k0 n lo w v) {b0:Nat} (hb:Blk w b0 39 #[]) (ho:Only b0 (b0+1) w w') (hl:b0 < lo):LaysV g a y k0 n lo w' v:=by
 obtain ⟨A,c,rfl,h1,h2,h⟩:=h
 refine ⟨A,c,rfl,h1,h2,fun d hd=>?_⟩
 obtain ⟨b,o,gd,cd,zs,rfl,hb1,hc,hl1⟩:=h d hd
 have hne:b ≠ b0:=by
  rintro rfl
  rw [hb.cell (o+d)] at hc
  simp at hc
 have hgd:=hl1.ne hb
 have hk:∀ x,x ≠ b0->x < w.heap.size->w'.heap[x]?=w.heap[x]?:=fun x hx hl=>ho.block x hl (by omega)
 refine ⟨b,o,gd,cd,zs,rfl,by have:=ho.size;omega,(World.cell?_of_block (a:=⟨b,o+d,none⟩) (hk b hne hb1)).trans hc,(hl1.blocks (fun x hx hl2=>hk x (by rcases hx with rfl | hx;exact hgd;omega) hl2)).mono (Nat.le_refl _) ho.size⟩
theorem LaysV.firstA {g:Gr} {a:Au} {y:Int} {k0:Key} {n lo:Nat} {w:World} {v:Value} (h:LaysV g a y k0 n lo w v) {b0:Nat} (hb0:Blk w b0 39 #[]):∃ (b o c gd cd:Nat),v=.slice (some ⟨b,o,none⟩) (n+1) c/\(b < w.heap.size/\b ≠ b0)/\(gd < w.heap.size/\gd ≠ b0)/\w.cell? ⟨b,o,none⟩=some (.slice (some ⟨gd,0,none⟩) 1 cd)/\w.cell? ⟨gd,2,none⟩=some (.int .i64 (cw g a y n k0.1 k0.2:Nat)):=by
 obtain ⟨A,c,rfl,-,-,h⟩:=h
 obtain ⟨b,o,gd,cd,zs,rfl,hb,hc,hl⟩:=h 0 (Nat.zero_le _)
 obtain ⟨z,-,-,-,-,-,-,-,r2,-,-⟩:=hl.get (i:=0) (k:=k0) rfl
 have hne:b ≠ b0:=by
  rintro rfl
  rw [hb0.cell (o+0)] at hc
  simp at hc
 rw [layC_at (i:=0) (k:=k0) rfl,Nat.sub_zero] at r2
 exact ⟨b,o,c,gd,cd,rfl,⟨hb,hne⟩,⟨hl.lt,hl.ne hb0⟩,by simpa [layN] using hc,by simpa using r2⟩
set_option maxHeartbeats 8000000 in
set_option maxRecDepth 100000 in
theorem specListShortest (vg va:Value) (g:Gr) (a:Au) (x y m:Int) (w:World) (hgv:GrV 0 w.heap.size w vg g) (hav:AuV 0 w.heap.size w va a) :
 Calls Tryz.prog 9 #[vg,va,.int .i64 x,.int .i64 y,.int .i64 m] w fun e w'=>∃ v',e=.returned v'/\NWO w.heap.size w'.heap.size w' v' (listSh g a x y m)/\Below w.heap.size w w':=by
 have hgv0:=hgv
 have hav0:=hav
 obtain ⟨A1,n1,c1,A2,n2,c2,rfl⟩:=hgv.shape
 obtain ⟨A3,n3,c3,A4,n4,c4,rfl⟩:=hav.shape
 have hb0:Below w.heap.size w ((w.alloc (.cells #[.slice A1 n1 c1,.slice A2 n2 c2] 27)).alloc (.cells #[.int .i64 a.start,.slice A3 n3 c3,.slice A4 n4 c4] 31)):=((Below.refl _ _).alloc (Nat.le_refl _) _).alloc (by simp) _
 have hbG:=((Blk.new w 27 #[.slice A1 n1 c1,.slice A2 n2 c2] w.heap.size rfl).alloc (.cells #[.int .i64 a.start,.slice A3 n3 c3,.slice A4 n4 c4] 31))
 have hbA:=(Blk.new (w.alloc (.cells #[.slice A1 n1 c1,.slice A2 n2 c2] 27)) 31 #[.int .i64 a.start,.slice A3 n3 c3,.slice A4 n4 c4] (w.heap.size+1) (by simp))
 have HBG:=Hd_ hbG
 have HBA:=Hd_ hbA
 have HGV:=Hd_ hgv0
 have HAV:=Hd_ hav0
 have HB0:=Hd_ hb0
 have HSL:=Hd_ (fun (W:World) (hW:Below w.heap.size w W)=>specShortestLength _ _ g a x y W (HGV.out.keep hW) (HAV.out.keep hW))
 clear hgv hav hgv0 hav0 hb0 hbG hbA
 have HBE:=Hd_ (HB0.out.alloc HB0.out.size (.cells #[] 39))
 have HG1:=Hd_ (HBG.out.alloc (.cells #[] 39))
 have HA1:=Hd_ (HBA.out.alloc (.cells #[] 39))
 have HE1:=Hd_ (Blk.new ((w.alloc (.cells #[.slice A1 n1 c1,.slice A2 n2 c2] 27)).alloc (.cells #[.int .i64 a.start,.slice A3 n3 c3,.slice A4 n4 c4] 31)) 39 #[] (w.heap.size+1+1) (by simp))
 have HR0:=Hd_ (show (((w.alloc (.cells #[.slice A1 n1 c1,.slice A2 n2 c2] 27)).alloc (.cells #[.int .i64 a.start,.slice A3 n3 c3,.slice A4 n4 c4] 31)).alloc (.cells #[] 39)).ownsRow (w.heap.size+1+1) 39 2 (.slice (some ⟨w.heap.size+1+1,0,none⟩) 0 0) 0 [] from by
  have h:=World.ownsRow_lit (base:=w.heap.size+1+1) (e:=39) (size:=2) ((w.alloc (.cells #[.slice A1 n1 c1,.slice A2 n2 c2] 27)).alloc (.cells #[.int .i64 a.start,.slice A3 n3 c3,.slice A4 n4 c4] 31)) #[] 0 (by simp) (by decide) rfl
  simpa using h)
 have HEMP:=Hd_ (fun (W:World) (hW:Below (((w.alloc (.cells #[.slice A1 n1 c1,.slice A2 n2 c2] 27)).alloc (.cells #[.int .i64 a.start,.slice A3 n3 c3,.slice A4 n4 c4] 31)).alloc (.cells #[] 39)).heap.size (((w.alloc (.cells #[.slice A1 n1 c1,.slice A2 n2 c2] 27)).alloc (.cells #[.int .i64 a.start,.slice A3 n3 c3,.slice A4 n4 c4] 31)).alloc (.cells #[] 39)) W)=>show NWO w.heap.size W.heap.size W (.slice (some ⟨w.heap.size+1+1,0,none⟩) 0 0) [] from
  (NWO.of (NW.start (ownsRow_block HR0.out fun b hb=>hW.block b (HR0.out.lt b hb).2))).mono (by omega) (Nat.le_refl _))
 by_cases hneg:shortLen g a x y < 0
 · have HF:=Hd_ (show listSh g a x y m=[] by
    have:listN g a x y m=0:=by rw [listN,cntN,if_pos hneg];split <;> simp
    rw [listSh,this];rfl)
   generalize shortLen g a x y=SL at *
   go_enter Tryz.func9,Tryz.ntmps9
   go_wp2_with fail
   refine (HSL.out _ HBE.out).mono ?_
   rintro e w1 ⟨rfl,hb1⟩
   have HBF:=Hd_ (below_trans HBE.out hb1)
   have HB1:=Hd_ hb1
   clear hb1
   go_wp2_with fail
   go_ret
   exact ⟨_,rfl,by rw [HF.out];exact HEMP.out _ HB1.out,HBF.out⟩
 · have hco:=shortLen_ok (show 0<=shortLen g a x y by omega)
   obtain ⟨⟨hx0,hx1⟩,⟨hy0,hy1⟩,hgo,ha⟩:=cntOk_iff.1 hco
   have hlt:=shortLen_lt g a x y
   obtain ⟨L,hL⟩:=Int.eq_ofNat_of_zero_le (show 0<=shortLen g a x y by omega)
   rw [hL] at HSL hlt
   obtain ⟨x,rfl⟩:=Int.eq_ofNat_of_zero_le hx0
   have HGO:=Hd_ hgo
   have HA:=Hd_ ha
   have hxl:x < g.vals.length:=by omega
   have hln:¬ (L:Int) < 0:=by omega
   have HIN:=Hd_ (fun W=>l1In_any m 1 50 W)
   have hCe:cntN g a (x:Int) y=cw g a y L x (bit a.start.toNat):=by rw [cntN,if_neg hneg,hL,Int.toNat_natCast];rfl
   have HCW:=Hd_ hCe
   have hcl:=cw_le g a y L x (bit a.start.toNat)
   cases hwm:wi m 1 50 with
   | false =>
     have HF:=Hd_ (show listSh g a (x:Int) y m=[] by rw [listSh,listN,hwm];rfl)
     rw [hwm] at HIN
     clear hneg hco hgo ha hx0 hx1 hy0 hy1 hL hwm hCe hcl
     go_enter Tryz.func9,Tryz.ntmps9
     go_wp2_with fail
     refine (HSL.out _ HBE.out).mono ?_
     rintro e w1 ⟨rfl,hb1⟩
     have HBF:=Hd_ (below_trans HBE.out hb1)
     have HB1:=Hd_ hb1
     clear hb1
     go_wp2_with fail
     refine (HIN.out _).mono ?_
     rintro e w9 ⟨rfl,hw9⟩
     rw [hw9]
     clear hw9
     go_wp2_with fail
     go_ret
     exact ⟨_,rfl,by rw [HF.out];exact HEMP.out _ HB1.out,HBF.out⟩
   | true =>
     have hwi:=wi_iff.1 hwm
     obtain ⟨m,rfl⟩:=Int.eq_ofNat_of_zero_le (show 0<=m by omega)
     have hm50:m<=50:=by omega
     obtain ⟨C,hC⟩:∃ C,C=cntN g a (x:Int) y:=⟨_,rfl⟩
     have HFN:=Hd_ (fun n (hn:n=min m C)=>show listSh g a (x:Int) y (m:Int)=listTo g a (x:Int) y n by rw [listSh,listN,if_pos hwm,Int.toNat_natCast,<- hC,hn])
     rw [<- hC] at hCe
     have HNT:=Hd_ (fun (W:World) (v:Value) (lo n:Nat) (hn:n < C) (h:LaysV g a y (x,bit a.start.toNat) L lo W v)=>show Calls Tryz.prog 25 #[v,.int .i64 (x:Int),.int .i64 (n:Int)] W fun e w'=>∃ v',e=.returned (.tuple #[v',.bool true])/\WkO W.heap.size w'.heap.size w' v' (nthShort g a (x:Int) y (n:Int)).1/\Below W.heap.size W w' from by
      have hq:=l19Nth_any g a y (x,bit a.start.toNat) L lo v x n W h hgo ha ⟨hxl,startOk ha⟩ (by omega)
      have hw:wi (n:Int) 0 ((cw g a y L x (bit a.start.toNat):Nat) - 1)=true:=by rw [wi_iff];omega
      have hns:nthShort g a (x:Int) y (n:Int)=(((x:Int),nthL g a y L x (bit a.start.toNat) n),true):=by
       rw [nthShort,if_pos (by rw [nthSh_nat,<- hC];simpa using hn),hL];rfl
      simp only at hq
      rw [hw,if_pos rfl,Int.toNat_natCast] at hq
      rw [hns]
      exact hq)
     rw [hwm] at HIN
     rw [<- hCe] at hcl
     have HCE:=Hd_ hCe
     clear hneg hco hgo ha hx0 hx1 hy0 hy1 hL hwm hwi hC hCe HCW
     go_enter Tryz.func9,Tryz.ntmps9
     go_wp2_with fail
     refine (HSL.out _ HBE.out).mono ?_
     rintro e w1 ⟨rfl,hb1⟩
     have HB1:=Hd_ hb1
     have HBF:=Hd_ (below_trans HBE.out hb1)
     have HG2:=Hd_ (HG1.out.keep hb1)
     have HA2:=Hd_ (HA1.out.keep hb1)
     have HE2:=Hd_ (HE1.out.keep hb1)
     clear hb1
     go_wp2_with fail
     refine (HIN.out _).mono ?_
     rintro e w9 ⟨rfl,hw9⟩
     rw [hw9]
     clear hw9
     have x0:w1.cell? ⟨w.heap.size,0,none⟩=some (.slice A1 n1 c1):=(HG2.out).cell 0
     have x1:w1.cell? ⟨w.heap.size,1,none⟩=some (.slice A2 n2 c2):=(HG2.out).cell 1
     have y0:w1.cell? ⟨w.heap.size+1,0,none⟩=some (.int .i64 a.start):=(HA2.out).cell 0
     have y1:w1.cell? ⟨w.heap.size+1,1,none⟩=some (.slice A3 n3 c3):=(HA2.out).cell 1
     have y2:w1.cell? ⟨w.heap.size+1,2,none⟩=some (.slice A4 n4 c4):=(HA2.out).cell 2
     go_wp2_with fail
     refine (l19Layers_any _ _ g a x y L _ (HGV.out.keep HBF.out) (HAV.out.keep HBF.out) HGO.out HA.out hxl (by omega)).mono ?_
     rintro e w2 ⟨v2,rfl,hlv,hb3⟩
     have HLV:=Hd_ hlv
     have HE3:=Hd_ (HE2.out.keep hb3)
     obtain ⟨bL,oL,cL,gd,cd,hv2,⟨lb,nb⟩,⟨lg,ng⟩,r0,r2⟩:=hlv.firstA HE3.out
     subst hv2
     simp only at r2
     rw [<- HCE.out] at r2
     have hn1:(0:Int) < (L:Int)+1:=by omega
     have HB3:=Hd_ (below_trans HBF.out hb3)
     have hs3:=HB3.out.size
     have hse:=HE3.out.lt
     have hse1:=HE2.out.lt
     have HR3:=Hd_ (ownsRow_block HR0.out fun b hb=>(below_trans HB1.out hb3).block b (HR0.out.lt b hb).2)
     have HNT2:=Hd_ (fun (W:World) (n:Nat) (hn:n < C) (ho:Only (w.heap.size+1+1) (w.heap.size+1+1+1) w2 W)=>HNT.out W _ _ n hn (HLV.out.apart HE3.out ho (by omega)))
     clear hlv hb3 x0 x1 y0 y1 y2
     go_wp2_with fail
     go_loopw [11,14] (fun oo nn wr=>∃ (n:Nat) (zs:List (Int × Value)),n<=min m C/\nn=.int .i64 (n:Int)/\NW (w.heap.size+1+1) wr oo zs (listTo g a (x:Int) y n)/\(∀ b ∈ blks (oo :: snds zs),b=w.heap.size+1+1 ∨ w2.heap.size<=b)/\Only (w.heap.size+1+1) (w.heap.size+1+1+1) w2 wr) (fun _ nn _=>m - (intOf nn).toNat)
     case atStart=>exact ⟨0,[],Nat.zero_le _,rfl,NW.start HR3.out,by intro b hb;simp [blks,Value.ownBlock] at hb;exact .inl hb,Only.refl _ _ _⟩
     case round =>
      obtain ⟨n,zs,hn,rfl,hns,hbk,hon⟩:=hrel
      have hszr:=hon.size
      have hzl:=hns.len
      rw [listTo_len] at hzl
      have HBW:=Hd_ (HB3.out.trans (hon.below (show w.heap.size<=w.heap.size+1+1 by omega) hs3))
      have r0:=ocell hon r0 lb (by omega)
      have r2:=ocell hon r2 lg (by omega)
      have HNSW:=Hd_ hns
      have HBK:=Hd_ hbk
      have HON:=Hd_ hon
      clear hns hbk
      by_cases hlt:n < m
      · have hnm:(n:Int) < (m:Int):=by omega
        by_cases hnC:n < C
        · have hnc:(n:Int) < (C:Int):=by omega
          have HLS:=Hd_ (listTo_succ g a (x:Int) y n)
          have hkl:=nthShort_len g a (x:Int) y (n:Int)
          have HNN:=Hd_ (fun W ho=>HNT2.out W n hnC ho)
          obtain ⟨R,hR⟩:∃ R,R=nthShort g a (x:Int) y (n:Int):=⟨_,rfl⟩
          rw [<- hR] at HLS hkl HNN
          clear hR hon
          have hz50:zs.length<=50:=by omega
          go_wp2_with fail
          refine (HNN.out _ HON.out).mono ?_
          rintro e w5 ⟨v5,rfl,⟨ss,rfl,hss⟩,hb5⟩
          obtain ⟨A9,n9,c9,rfl⟩:=hss.shape
          have hbB:Below wr.heap.size wr (w5.alloc (.cells #[.int .i64 R.1.1,.slice A9 n9 c9] 39)):=hb5.alloc hb5.size _
          have HBB:=Hd_ hbB
          have hs5:=hb5.size
          have HNS6:=Hd_ (HNSW.out.below hbB)
          have HON6:=Hd_ (HON.out.trans (Only.of_below hbB (w.heap.size+1+1) (w.heap.size+1+1+1)))
          have HU6:=Hd_ (show (w5.alloc (.cells #[.int .i64 R.1.1,.slice A9 n9 c9] 39)).ownsRow (w.heap.size+1+1) 66 2 (.slice A9 n9 c9) R.1.2.length (R.1.2.flatMap cSt) from (ownsRow_mono hss.1 (by omega)).alloc _)
          have HNB:=Hd_ (fun b (hb:(Value.slice A9 n9 c9).ownBlock=some b)=>show b ∉ blks (u11 :: snds zs) from fun hm=>by
           have h1:=(HNSW.out.lt b hm).2
           have h2:=(hss.lt b hb).1
           omega)
          have HNB2:=Hd_ (fun b (hb:(Value.slice A9 n9 c9).ownBlock=some b)=>show w2.heap.size<=b from by
           have h2:=(hss.lt b hb).1
           omega)
          have HRW6:=Hd_ HNS6.out.own
          clear hb5 hbB hss r0 r2
          go_wp2_with (at_builtin;(refine wpList_append1 cWv elWk rfl _ _ rfl (w.heap.size+1+1) _ zs (R.1.1,.slice A9 n9 c9) _ 1 (w5.heap.size+1) (by rfl) HRW6.out (by rfl) (by simp) rfl rfl (cWv_one _ _ _ _) (by omega) (by omega) (by simp;omega) ?_);intro v8 w8 hrow8 hb8 hat8 hgr8)
          have hg6:=grown_alloc hgr8
          have hatn:∀ g,v8.ownBlock=some g->u11.ownBlock=some g ∨ (w5.alloc (.cells #[.int .i64 R.1.1,.slice A9 n9 c9] 39)).heap.size<=g:=fun g hg=>by
           rcases hat8 with h | ⟨g',h,hh⟩
           · exact .inl (by rw [<- h];exact hg)
           · rw [hg] at h;injection h with h;subst h;exact .inr hh
          have hpush:=HNS6.out.push (n:=R.1.1) HU6.out HNB.out hg6 hrow8 hatn
          have HPU:=Hd_ (show NW (w.heap.size+1+1) w8 v8 (zs ++ [(R.1.1,.slice A9 n9 c9)]) (listTo g a (x:Int) y (n+1)) by rw [HLS.out];exact hpush)
          have hs6:w5.heap.size+1=(w5.alloc (.cells #[.int .i64 R.1.1,.slice A9 n9 c9] 39)).heap.size:=by simp
          have HBK8:=Hd_ (show ∀ b ∈ blks (v8 :: snds (zs ++ [(R.1.1,Value.slice A9 n9 c9)])),b=w.heap.size+1+1 ∨ w2.heap.size<=b from fun b hb=>by
           obtain ⟨i,u,hu,hbu⟩:=mem_blks.1 hb
           cases i with
           | zero =>
             simp only [List.getElem?_cons_zero,Option.some.injEq] at hu
             subst hu
             rcases hatn b hbu with h | h
             · exact HBK.out b (mem_blks.2 ⟨0,_,rfl,h⟩)
             · exact .inr (by omega)
           | succ i =>
             rw [List.getElem?_cons_succ] at hu
             obtain ⟨z,hz,rfl⟩:=snds_at.1 hu
             rcases Nat.lt_or_ge i zs.length with h | h
             · rw [List.getElem?_append_left h] at hz
               exact HBK.out b (mem_blks.2 ⟨i+1,z.2,by simpa using snds_at.2 ⟨z,hz,rfl⟩,hbu⟩)
             · have hi2:=(List.getElem?_eq_some_iff.1 hz).1
               simp only [List.length_append,List.length_singleton] at hi2
               obtain rfl:i=zs.length:=by omega
               have e1:(R.1.1,Value.slice A9 n9 c9)=z:=by simpa using hz
               subst e1
               exact .inr (HNB2.out b hbu))
          have HON8:=Hd_ (show Only (w.heap.size+1+1) (w.heap.size+1+1+1) w2 w8 from
           ⟨hg6.os.trans HON6.out.os,hg6.tape.trans HON6.out.tape,hg6.output.trans HON6.out.output,Nat.le_trans HON6.out.size hg6.size,fun b hb ho=>(hg6.block b (Nat.lt_of_lt_of_le hb HON6.out.size) (fun e=>by
            have:=HBK.out b (mem_blks.2 ⟨0,_,rfl,e.symm⟩)
            omega)).trans (HON6.out.block b hb ho)⟩)
          clear hrow8 hb8 hat8 hgr8 hg6 hpush hatn hs6
          go_roundw
          case rel=>exact ⟨n+1,_,by omega,by go_num,HPU.out,HBK8.out,HON8.out⟩
          case measure=>simp [intOf];omega
        · have HFE:=Hd_ (HFN.out n (by omega))
          have hnc:¬ (n:Int) < (C:Int):=by omega
          clear hon
          go_wp2_with fail
          go_ret
          refine ⟨_,rfl,?_,HBW.out⟩
          rw [HFE.out]
          exact (NWO.of HNSW.out).mono (by omega) (Nat.le_refl _)
      · have HFE:=Hd_ (HFN.out n (by omega))
        have hnm:¬ (n:Int) < (m:Int):=by omega
        clear hon r0 r2
        go_wp2_with fail
        go_ret
        refine ⟨_,rfl,?_,HBW.out⟩
        rw [HFE.out]
        exact (NWO.of HNSW.out).mono (by omega) (Nat.le_refl _)
end Go.Proofs.YteaplabkemoenaaGreat
