/- Parts of the proof, joined into one text: DrwG, MakE, ParE, StrX, KnoE, StrY, MakX. -/
import Derived.Test.YtloeghbhoflabaaGreatOnlzNPPBGEHB
import Derived.Test.YtloeghbhoflabaaGreatOnlzMBBPDBAM
import Derived.RegionTactic
import Derived.BigRegion
set_option linter.unusedVariables false
set_option linter.unusedSimpArgs false
namespace Go.Proofs.YtloeghbhoflabaaGreat
open Go.ChangeShapes Go.WideShapes Go.ChangeAt Go.RowKit
attribute [local go_sem] ext_cell ext_frozen ext_lt ext_lt1 ext_lt2 ext_lt3 ltn2 ltn3 ltn13 lts1 lts2 lts3
theorem litD_sl (W:World) (e:TypeId) (cs:Array Value) (xs:List Int) (n lo:Nat) (hlo:lo<=W.heap.size) (hn:n<=maxLen) (h1:xs.length=n) (h2:xs.flatMap cI=cs.toList) (h3:cs.size=n * 1) :
 SlI lo (W.alloc (.cells cs e)).heap.size (W.alloc (.cells cs e)) cI 1 (.slice (some ⟨W.heap.size,0,none⟩) n n) xs :=
 (Own.of_row (xs:=xs) (E:=cI) (World.ownsRow_lit (base:=lo) (e:=e) (size:=1) W cs n hlo hn h3) h1 h2).sl cI_len
/-- a graph under way: its two lists in the block q, the values below mid, the edges from mid on -/
structure GrR (b r q mid:Nat) (w0 wr:World) (vs es:Value) (xs:List Int) (ys:List Ed):Prop where
 res:Blk wr r 40 #[.slice none 0 0,.slice none 0 0]
 blk:Blk wr q 40 #[vs,es]
 vals:wr.ownsRow (q+1) 3 1 vs xs.length (xs.flatMap cI)
 edges:wr.ownsRow mid 76 4 es ys.length (ys.flatMap cEd)
 under:∀ g,vs.ownBlock=some g->g < mid
 cur:Cur wr b
 only:Only b (b+1) w0 wr
 size:mid<=wr.heap.size
theorem GrR.move {b r q mid:Nat} {w0 w w':World} {vs es:Value} {xs:List Int} {ys:List Ed} (h:GrR b r q mid w0 w vs es xs ys) (ho:Only b (b+1) w w') (hc:Cur w' b) (hb:b < r/\r < q/\q < mid):GrR b r q mid w0 w' vs es xs ys :=
 ⟨h.res.only ho (.inr (by omega)),h.blk.only ho (.inr (by omega)),own_only h.vals ho (by omega),own_only h.edges ho (by omega),h.under,hc,h.only.trans ho,Nat.le_trans h.size ho.size⟩
theorem GrR.below {b r q mid:Nat} {w0 w w':World} {vs es:Value} {xs:List Int} {ys:List Ed} (h:GrR b r q mid w0 w vs es xs ys) (hb:Below w.heap.size w w'):GrR b r q mid w0 w' vs es xs ys :=
 ⟨h.res.keep hb,h.blk.keep hb,ownsRow_below h.vals hb (Nat.le_refl _),ownsRow_below h.edges hb (Nat.le_refl _),h.under,h.cur.keep hb,h.only.trans (Only.of_below hb _ _),Nat.le_trans h.size hb.size⟩
theorem GrR.push {b r q mid:Nat} {w0 w w':World} {vs es es':Value} {xs:List Int} {ys:List Ed} {y:Ed} (h:GrR b r q mid w0 w vs es xs ys) (hlt:b < r/\r < q/\q < mid) (hw:w0.heap.size<=r) (hb:Below mid w w')
 (hown:w'.ownsRow mid 76 4 es' (ys ++ [y]).length ((ys ++ [y]).flatMap cEd)):GrR b r q mid w0 (w'.setCell ⟨q,1,none⟩ es') vs es' xs (ys ++ [y]):=by
 have hos:Only q (q+1) w' (w'.setCell ⟨q,1,none⟩ es'):=(Only.refl q (q+1) w').setCell (p:=⟨q,1,none⟩) (.inl ⟨Nat.le_refl _,Nat.lt_succ_self _⟩) es'
 have hv:w'.ownsRow (q+1) 3 1 vs xs.length (xs.flatMap cI):=ownsRow_block h.vals fun g hg=>hb.block g (h.under g hg)
 exact ⟨(h.res.below hb (by omega)).far (by simp only;omega) _,(h.blk.below hb (by omega)).set_ 1 _,own_only hv hos (Nat.le_refl _),own_only hown hos (by omega),h.under,(h.cur.below hb (by omega)).set (by simp only;omega) _,(h.only.andBelow hb (by omega)).setCell (.inr (by simp only;omega)) _,Nat.le_trans h.size (Nat.le_trans hb.size hos.size)⟩
theorem elEdD:ElemOk Tryz.prog 38 76 (.agg #[.int .i64 0,.int .i64 0,.int .i64 0,.int .i64 0]) 4 32:=⟨Tryz.underlying38,by kernel_rfl,rfl,by omega⟩
theorem GrR.alloc {b r q mid:Nat} {w0 w:World} {vs es:Value} {xs:List Int} {ys:List Ed} (h:GrR b r q mid w0 w vs es xs ys) (o:Obj):GrR b r q mid w0 (w.alloc o) vs es xs ys:=h.below ((Below.refl _ _).alloc (Nat.le_refl _) _)
theorem GrR.done {b r q mid:Nat} {w0 w:World} {vs es:Value} {xs:List Int} {ys:List Ed} (h:GrR b r q mid w0 w vs es xs ys) (hr:w0.heap.size=r) (hlt:b < r/\r < q/\q < mid) :
 GrO w0.heap.size ((w.setCell ⟨r,0,none⟩ vs).setCell ⟨r,1,none⟩ es).heap.size ((w.setCell ⟨r,0,none⟩ vs).setCell ⟨r,1,none⟩ es) (.agg #[vs,es]) ⟨xs,ys⟩/\Cur ((w.setCell ⟨r,0,none⟩ vs).setCell ⟨r,1,none⟩ es) b/\Only b (b+1) w0 ((w.setCell ⟨r,0,none⟩ vs).setCell ⟨r,1,none⟩ es):=by
 have ho:=Only.put2 w r vs es
 have hs:=Nat.le_trans h.size ho.size
 refine ⟨⟨vs,es,mid,rfl,⟨ownsRow_mono (own_only h.vals ho (by omega)) (by omega),h.under⟩,⟨own_only h.edges ho (by omega),fun g hg=>?_⟩,by omega,hs⟩,h.cur.only ho (by omega),(h.only.setCell (p:=⟨r,0,none⟩) (.inr (by simp only;omega)) _).setCell (p:=⟨r,1,none⟩) (.inr (by simp only;omega)) _⟩
 exact Nat.lt_of_lt_of_le (h.edges.lt g hg).2 ho.size
set_option maxHeartbeats 4000000 in
theorem l3Graph_any (b:Nat) (w:World) (hc:Cur w b) :
 Calls Tryz.prog 60 #[.pointer (some ⟨b,0,none⟩)] w fun e w'=>∃ v g,e=.returned v/\GrO w.heap.size w'.heap.size w' v g/\(2<=g.vals.length/\g.vals.length<=5/\g.edges.length<=10)/\Cur w' b/\Only b (b+1) w w':=by
 have hlt:=hc.lt
 have hb0:Below w.heap.size w ((w.alloc (.cells #[.slice none 0 0,.slice none 0 0] 40)).alloc (.cells #[.slice none 0 0,.slice none 0 0] 40)):=((Below.refl _ _).alloc (Nat.le_refl _) _).alloc (by simp) _
 have hbq:Blk ((w.alloc (.cells #[.slice none 0 0,.slice none 0 0] 40)).alloc (.cells #[.slice none 0 0,.slice none 0 0] 40)) (w.heap.size+1) 40 #[.slice none 0 0,.slice none 0 0]:=Blk.new _ _ _ _ (by simp)
 have hbr:Blk ((w.alloc (.cells #[.slice none 0 0,.slice none 0 0] 40)).alloc (.cells #[.slice none 0 0,.slice none 0 0] 40)) w.heap.size 40 #[.slice none 0 0,.slice none 0 0]:=(Blk.new w _ _ _ rfl).alloc _
 go_enter Tryz.func60,Tryz.ntmps60
 go_wp2_with fail
 generalize hW0:((w.alloc (.cells #[.slice none 0 0,.slice none 0 0] 40)).alloc (.cells #[.slice none 0 0,.slice none 0 0] 40))=W0 at hb0 hbq hbr ⊢
 have hs0:W0.heap.size=w.heap.size+1+1:=by rw [<- hW0];simp
 have hbl:=(Below.refl W0.heap.size W0).alloc (Nat.le_refl _) (.cells #[.int .i64 2,.int .i64 3,.int .i64 4,.int .i64 4,.int .i64 5] 3)
 have hsl:=litD_sl W0 3 #[.int .i64 2,.int .i64 3,.int .i64 4,.int .i64 4,.int .i64 5] [2,3,4,4,5] 5 (b+1) (by omega) (by decide) rfl rfl rfl
 rw [hs0] at hsl
 refine (l1PickInt_any b _ [2,3,4,4,5] _ (hc.keep (below_trans hb0 hbl)) (by decide) hsl).mono ?_
 rintro e w1 ⟨r,rfl,hr,hc1,ho1⟩
 obtain ⟨r,rfl⟩:∃ n:Nat,r=(n:Int):=⟨r.toNat,by simp only [List.mem_cons,List.not_mem_nil,or_false] at hr;omega⟩
 have hr25:2<=r/\r<=5:=by simp only [List.mem_cons,List.not_mem_nil,or_false] at hr;omega
 have ho2:=(Only.of_below (below_trans hb0 hbl) b (b+1)).trans ho1
 have hbq1:=(hbq.keep hbl).only ho1 (.inr (by omega))
 have hbr1:=(hbr.keep hbl).only ho1 (.inr (by omega))
 clear hr hsl hbl hb0 hbq hbr hW0 ho1
 have hs1:w.heap.size+1 < w1.heap.size:=hbq1.lt
 go_wp2_with fail
 go_loopw [4] (fun nn wr=>∃ (n:Nat) (vs:Value) (xs:List Int),nn=.int .i64 (n:Int)/\xs.length+n=r/\Blk wr w.heap.size 40 #[.slice none 0 0,.slice none 0 0]/\Blk wr (w.heap.size+1) 40 #[vs,.slice none 0 0]/\wr.ownsRow (w.heap.size+1+1) 3 1 vs xs.length (xs.flatMap cI)/\Cur wr b/\Only b (b+1) w wr) (fun nn _=>(intOf nn).toNat)
 case atStart=>exact ⟨r,.slice none 0 0,[],rfl,by simp,hbr1,hbq1,World.ownsRow_nil _ _ _ 1,hc1,ho2⟩
 case round =>
  obtain ⟨n,vs,xs,rfl,hn,hres,hblk,hown,hcur,hon⟩:=hrel
  have HBLK:=Hd_ hblk
  have HRES:=Hd_ hres
  have HOWN:=Hd_ hown
  have HCUR:=Hd_ hcur
  have HON:=Hd_ hon
  have hlw:=hblk.lt
  have x0:wr.cell? ⟨w.heap.size+1,0,none⟩=some vs:=hblk.cell 0
  have y0:=hblk.frozen 0
  clear hblk hres hown hcur hon hbq1 hbr1 ho2 hc1
  rcases Nat.eq_zero_or_pos n with rfl | h0
  · obtain ⟨wm,rfl⟩:∃ wm:World,wm=wr:=⟨_,rfl⟩
    have hbl:=(Below.refl wm.heap.size wm).alloc (Nat.le_refl _) (.cells #[.int .i64 4,.int .i64 8,.int .i64 11] 3)
    have HSL:=Hd_ (litD_sl wm 3 #[.int .i64 4,.int .i64 8,.int .i64 11] [4,8,11] 3 (b+1) (by omega) (by decide) rfl rfl rfl)
    go_wp2_with fail
    refine (l1PickInt_any b _ [4,8,11] _ (HCUR.out.keep hbl) (by decide) HSL.out).mono ?_
    rintro e w2 ⟨m,rfl,hm,hc2,ho2⟩
    have hm11:4<=m/\m<=11:=by simp only [List.mem_cons,List.not_mem_nil,or_false] at hm;omega
    have ho2:=(Only.of_below hbl b (b+1)).trans ho2
    clear hm hbl
    go_wp2_with fail
    refine (l1Below_any b m _ hc2).mono ?_
    rintro e w3 ⟨z,rfl,⟨hz0,-,hz1⟩,hc3,ho3⟩
    have hz1:=hz1 (by omega)
    obtain ⟨z,rfl⟩:=Int.eq_ofNat_of_zero_le hz0
    have ho3:=ho2.trans ho3
    have HG0:=Hd_ (show GrR b w.heap.size (w.heap.size+1) wm.heap.size w w3 vs (.slice none 0 0) xs [] from ⟨HRES.out.only ho3 (.inr (by omega)),HBLK.out.only ho3 (.inr (by omega)),own_only HOWN.out ho3 (by omega),World.ownsRow_nil _ _ _ 4,fun g hg=>(HOWN.out.lt g hg).2,hc3,HON.out.trans ho3,ho3.size⟩)
    clear x0 y0 hc2 hc3 ho2 ho3 HBLK HRES HOWN HCUR HON HSL
    go_wp2_with fail
    go_loopw [5,6] (fun dd nn wr=>∃ (n:Nat) (d:Int) (es:Value) (ys:List Ed),dd=.int .i64 d/\nn=.int .i64 (n:Int)/\ys.length+n=z/\GrR b w.heap.size (w.heap.size+1) wm.heap.size w wr vs es xs ys) (fun _ nn _=>(intOf nn).toNat)
    case atStart=>exact ⟨z,0,_,[],rfl,rfl,by simp,HG0.out⟩
    case round =>
     obtain ⟨n,d,es,ys,rfl,rfl,hn2,hG⟩:=hrel
     have HG:=Hd_ hG
     clear hG HG0
     have hl2:=HG.out.blk.lt
     have x0:wr.cell? ⟨w.heap.size+1,0,none⟩=some vs:=HG.out.blk.cell 0
     have x1:wr.cell? ⟨w.heap.size+1,1,none⟩=some es:=HG.out.blk.cell 1
     have y0:=HG.out.blk.frozen 0
     have y1:=HG.out.blk.frozen 1
     obtain ⟨A1,n1,c1,rfl⟩:=rowShape HG.out.vals
     obtain ⟨A2,n2,c2,rfl⟩:=rowShape HG.out.edges
     have hsz:=HG.out.size
     rcases Nat.eq_zero_or_pos n with rfl | h0
     · have z0:wr.cell? ⟨w.heap.size,0,none⟩=some (.slice none 0 0):=HG.out.res.cell 0
       have z1:wr.cell? ⟨w.heap.size,1,none⟩=some (.slice none 0 0):=HG.out.res.cell 1
       have v0:=HG.out.res.frozen 0
       have v1:=HG.out.res.frozen 1
       have hl0:=HG.out.res.lt
       go_wp2_with fail
       have HD:=HG.out.done rfl (by omega)
       refine bodyPost_ret (v:=.agg #[.slice A1 n1 c1,.slice A2 n2 c2]) (by simp [results,Tryz.results60,go_sem,z0,z1,v0,v1]) rfl ⟨_,⟨xs,ys⟩,rfl,HD.1,⟨by simp only;omega,by simp only;omega,by simp only;omega⟩,HD.2.1,HD.2.2⟩
     · have hni:0 < (n:Int):=by omega
       go_wp2_with fail
       refine (l1Below_any b 3 _ HG.out.cur).mono ?_
       rintro e w4 ⟨t,rfl,⟨ht0,ht1,-⟩,hc4,ho4⟩
       have x0:=ho4.kc (by simp only;omega) x0
       have x1:=ho4.kc (by simp only;omega) x1
       go_wp2_with fail
       have HG4:=Hd_ (HG.out.move ho4 hc4 (by omega))
       have hlo4:=HG4.out.blk.lt
       clear ho4 hc4 hl2 y0 y1
       generalize wrap64 (wrap64 (d+1)+t)=d2
       refine F_start 20 (fun w'=>w'.cell? ⟨w.heap.size+1,0,none⟩=some (.slice A1 n1 c1)/\w'.cell? ⟨w.heap.size+1,1,none⟩=some (.slice A2 n2 c2)) (by kernel_rfl) (by exact ⟨x0,x1⟩) (fun hS inv=>?_)
       refine F_tk 0 inv ?_
       try simp only [tA,tB,tC,Act.put,tE,tF,tG]
       clear inv;intro inv
       refine F_tk 1 inv ?_
       try simp only [tA,tB,tC,Act.put,tE,tF,tG]
       clear inv;intro inv
       refine F_tk 2 inv ?_
       try simp only [tA,tB,tC,Act.put,tE,tF,tG]
       clear inv;intro inv
       refine F_tk 3 inv ?_
       try simp only [tA,tB,tC,Act.put,tE,tF,tG]
       clear inv;intro inv
       refine F_tk 4 inv ?_
       try simp only [tA,tB,tC,Act.put,tE,tF,tG]
       clear inv;intro inv
       refine F_tk 5 inv ?_
       try simp only [tA,tB,tC,Act.put,tE,tF,tG]
       clear inv;intro inv
       refine F_tk 6 inv ?_
       try simp only [tA,tB,tC,Act.put,tE,tF,tG]
       clear inv;intro inv
       refine F_tk 8 inv ?_
       try simp only [tA,tB,tC,Act.put,tE,tF,tG]
       clear inv;intro inv
       refine F_tk 9 inv ?_
       try simp only [tA,tB,tC,Act.put,tE,tF,tG]
       clear inv;intro inv
       refine F_tk 10 inv ?_
       try simp only [tA,tB,tC,Act.put,tE,tF,tG]
       clear inv;intro inv
       refine F_tk 11 inv ?_
       try simp only [tA,tB,tC,Act.put,tE,tF,tG]
       clear inv;intro inv
       refine F_tk 13 inv ?_
       try simp only [tA,tB,tC,Act.put,tE,tF,tG]
       clear inv;intro inv
       refine F_two (i:=7) (j:=14) (by kernel_rfl) rfl rfl rfl rfl (by omega) inv (fun K hK=>?_) (fun K hK=>?_)
       all_goals (try simp only [tA,tB,tC])
       · go_simp
         refine (l1Below_any b _ _ (HG4.out.cur.keep (Below.refl _ _).drew)).mono ?_
         rintro e w5 ⟨f,rfl,-,hc5,ho5⟩
         have HG5:=Hd_ (HG4.out.move ((Only.of_below (Below.refl _ _).drew b (b+1)).trans ho5) hc5 (by omega))
         refine hK.out _ _ (⟨HG5.out.blk.cell 0,HG5.out.blk.cell 1⟩) (fun _ _=>?_)
         try simp only [tA,tB,tC,Act.put,tE,tF,tG]
         clear hK K inv hS;rename_i hS inv
         clear ho5 hc5
         refine F_two (i:=12) (j:=14) (by kernel_rfl) rfl rfl rfl rfl (by omega) inv (fun K hK=>?_) (fun K hK=>?_)
         all_goals (try simp only [tA,tB,tC])
         · go_simp
           refine (l1Below_any b _ _ HG5.out.cur).mono ?_
           rintro e w6 ⟨h,rfl,-,hc6,ho6⟩
           have HG6:=Hd_ (HG5.out.move ho6 hc6 (by omega))
           refine hK.out _ _ (⟨HG6.out.blk.cell 0,HG6.out.blk.cell 1⟩) (fun _ _=>?_)
           try simp only [tA,tB,tC,Act.put,tE,tF,tG]
           clear hK K inv hS;rename_i hS inv
           clear ho6 hc6
           refine F_o1 14 inv ?_;intro K hK
           try simp only [tA,tB,tC]
           go_simp
           have HG7:=Hd_ (HG6.out.alloc (.cells #[.int .i64 0,.int .i64 0,.int .i64 1,.int .i64 2] 3))
           have HL7:=Hd_ (litD_sl w6 3 #[.int .i64 0,.int .i64 0,.int .i64 1,.int .i64 2] [0,0,1,2] 4 (b+1) (Nat.le_trans (by omega) HG6.out.size) (by decide) rfl rfl rfl)
           refine hK.out _ _ (⟨HG7.out.blk.cell 0,HG7.out.blk.cell 1⟩) (fun _ _=>?_)
           try simp only [tA,tB,tC,Act.put,tE,tF,tG]
           clear hK K inv hS;rename_i hS inv
           refine F_o1 15 inv ?_;intro K hK
           try simp only [tA,tB,tC]
           go_simp
           refine (l1PickInt_any b _ [0,0,1,2] _ HG7.out.cur (by decide) HL7.out).mono ?_
           rintro e w8 ⟨l,rfl,-,hc8,ho8⟩
           have HG8:=Hd_ (HG7.out.move ho8 hc8 (by omega))
           refine hK.out _ _ (⟨HG8.out.blk.cell 0,HG8.out.blk.cell 1⟩) (fun _ _=>?_)
           try simp only [tA,tB,tC,Act.put,tE,tF,tG]
           clear hK K inv hS;rename_i hS inv
           clear ho8 hc8 HG7 HL7
           refine F_tk 16 inv ?_
           try simp only [tA,tB,tC,Act.put,tE,tF,tG]
           clear inv;intro inv
           refine F_o1 17 inv ?_;intro K hK
           try simp only [tA,tB,tC]
           go_simp
           refine hK.out _ _ ((kB2 ((Below.refl _ _).alloc (Nat.le_refl _) _) hS)) (fun _ _=>?_)
           try simp only [tA,tB,tC,Act.put,tE,tF,tG]
           clear hK K inv hS;rename_i hS inv
           refine F_o1 18 inv ?_;intro K hK
           try simp only [tA,tB,tC]
           refine op_append1 cEd elEdD rfl _ _ (by rfl) wm.heap.size _ ys (d2,f,h,l) 1 _ (by rfl) (HG8.out.edges.alloc _) (by first | rfl | simp) (heap_alloc_new _ _) rfl (cEd_one _) (by omega) (by omega) (Nat.le_trans HG8.out.size (by simp)) ?_
           intro g2 cp2 w9 hown3 hgr3 hat3 hlt3
           have hbT:=((Below.refl wm.heap.size w8).alloc HG8.out.size (.cells #[.int .i64 d2,.int .i64 f,.int .i64 h,.int .i64 l] 76)).trans (own_below (HG8.out.edges.alloc (.cells #[.int .i64 d2,.int .i64 f,.int .i64 h,.int .i64 l] 76)) (Nat.le_trans HG8.out.size (by simp)) hgr3)
           have HB9:=Hd_ (HG8.out.blk.below hbT hlw)
           have HG9:=Hd_ (HG8.out.push (by omega) (by omega) hbT hown3)
           have z1:=HB9.out.frozen 1
           have zl:=HB9.out.lt
           clear hbT hown3 hgr3 hat3 hlt3
           refine hK.out _ _ (⟨HB9.out.cell 0,HB9.out.cell 1⟩) (fun _ _=>?_)
           try simp only [tA,tB,tC,Act.put,tE,tF,tG]
           clear hK K inv hS;rename_i hS inv
           refine F_tk 19 inv ?_
           try simp only [tA,tB,tC,Act.put,tE,tF,tG]
           clear inv;intro inv
           refine F_l1 20 ?_;intro K hK
           go_simp
           refine hK _ _ ?_
           clear hK K inv hS
           clear z1 zl x0 x1
           generalize w9.setCell ⟨w.heap.size+1,1,none⟩ (.slice (some ⟨g2,0,none⟩) (ys.length+1) cp2)=w10 at *
           go_wp2_with fail
           go_roundw
           case rel =>
            refine ⟨n - 1,d2,_,ys ++ [(d2,f,h,l)],rfl,?_,by simp;omega,HG9.out⟩
            congr 1;omega
           case measure=>simp [intOf];omega
         · go_simp
           have HG6:=Hd_ (HG5.out.alloc (.cells #[.int .i64 0,.int .i64 0,.int .i64 1,.int .i64 2] 3))
           have HL6:=Hd_ (litD_sl w5 3 #[.int .i64 0,.int .i64 0,.int .i64 1,.int .i64 2] [0,0,1,2] 4 (b+1) (Nat.le_trans (by omega) HG5.out.size) (by decide) rfl rfl rfl)
           refine hK.out _ _ (⟨HG6.out.blk.cell 0,HG6.out.blk.cell 1⟩) (fun _ _=>?_)
           try simp only [tA,tB,tC,Act.put,tE,tF,tG]
           clear hK K inv hS;rename_i hS inv
           refine F_o1 12 inv ?_;intro K hK
           try simp only [tA,tB,tC]
           go_simp
           refine (l1Below_any b _ _ HG6.out.cur).mono ?_
           rintro e w7 ⟨h,rfl,-,hc7,ho7⟩
           have HG7:=Hd_ (HG6.out.move ho7 hc7 (by omega))
           have HL7:=Hd_ ((HL6.out.only ho7 (Nat.le_refl _) (.inr (Nat.le_refl _))).mono (Nat.le_refl _) ho7.size)
           refine hK.out _ _ (⟨HG7.out.blk.cell 0,HG7.out.blk.cell 1⟩) (fun _ _=>?_)
           try simp only [tA,tB,tC,Act.put,tE,tF,tG]
           clear hK K inv hS;rename_i hS inv
           clear ho7 hc7
           refine F_o1 15 inv ?_;intro K hK
           try simp only [tA,tB,tC]
           go_simp
           refine (l1PickInt_any b _ [0,0,1,2] _ HG7.out.cur (by decide) HL7.out).mono ?_
           rintro e w8 ⟨l,rfl,-,hc8,ho8⟩
           have HG8:=Hd_ (HG7.out.move ho8 hc8 (by omega))
           refine hK.out _ _ (⟨HG8.out.blk.cell 0,HG8.out.blk.cell 1⟩) (fun _ _=>?_)
           try simp only [tA,tB,tC,Act.put,tE,tF,tG]
           clear hK K inv hS;rename_i hS inv
           clear ho8 hc8 HG7 HL7
           refine F_tk 16 inv ?_
           try simp only [tA,tB,tC,Act.put,tE,tF,tG]
           clear inv;intro inv
           refine F_o1 17 inv ?_;intro K hK
           try simp only [tA,tB,tC]
           go_simp
           refine hK.out _ _ ((kB2 ((Below.refl _ _).alloc (Nat.le_refl _) _) hS)) (fun _ _=>?_)
           try simp only [tA,tB,tC,Act.put,tE,tF,tG]
           clear hK K inv hS;rename_i hS inv
           refine F_o1 18 inv ?_;intro K hK
           try simp only [tA,tB,tC]
           refine op_append1 cEd elEdD rfl _ _ (by rfl) wm.heap.size _ ys (d2,f,h,l) 1 _ (by rfl) (HG8.out.edges.alloc _) (by first | rfl | simp) (heap_alloc_new _ _) rfl (cEd_one _) (by omega) (by omega) (Nat.le_trans HG8.out.size (by simp)) ?_
           intro g2 cp2 w9 hown3 hgr3 hat3 hlt3
           have hbT:=((Below.refl wm.heap.size w8).alloc HG8.out.size (.cells #[.int .i64 d2,.int .i64 f,.int .i64 h,.int .i64 l] 76)).trans (own_below (HG8.out.edges.alloc (.cells #[.int .i64 d2,.int .i64 f,.int .i64 h,.int .i64 l] 76)) (Nat.le_trans HG8.out.size (by simp)) hgr3)
           have HB9:=Hd_ (HG8.out.blk.below hbT hlw)
           have HG9:=Hd_ (HG8.out.push (by omega) (by omega) hbT hown3)
           have z1:=HB9.out.frozen 1
           have zl:=HB9.out.lt
           clear hbT hown3 hgr3 hat3 hlt3
           refine hK.out _ _ (⟨HB9.out.cell 0,HB9.out.cell 1⟩) (fun _ _=>?_)
           try simp only [tA,tB,tC,Act.put,tE,tF,tG]
           clear hK K inv hS;rename_i hS inv
           refine F_tk 19 inv ?_
           try simp only [tA,tB,tC,Act.put,tE,tF,tG]
           clear inv;intro inv
           refine F_l1 20 ?_;intro K hK
           go_simp
           refine hK _ _ ?_
           clear hK K inv hS
           clear z1 zl x0 x1
           generalize w9.setCell ⟨w.heap.size+1,1,none⟩ (.slice (some ⟨g2,0,none⟩) (ys.length+1) cp2)=w10 at *
           go_wp2_with fail
           go_roundw
           case rel =>
            refine ⟨n - 1,d2,_,ys ++ [(d2,f,h,l)],rfl,?_,by simp;omega,HG9.out⟩
            congr 1;omega
           case measure=>simp [intOf];omega
       · go_simp
         have HG5:=Hd_ (show GrR b w.heap.size (w.heap.size+1) wm.heap.size w (w4.alloc (.cells #[.int .i64 0,.int .i64 0,.int .i64 1,.int .i64 2] 3)).drew _ _ _ _ from HG4.out.below ((Below.refl _ _).alloc (Nat.le_refl _) _).drew)
         have HL5:=Hd_ (show SlI (b+1) (w4.alloc (.cells #[.int .i64 0,.int .i64 0,.int .i64 1,.int .i64 2] 3)).drew.heap.size (w4.alloc (.cells #[.int .i64 0,.int .i64 0,.int .i64 1,.int .i64 2] 3)).drew cI 1 _ _ from litD_sl w4 3 #[.int .i64 0,.int .i64 0,.int .i64 1,.int .i64 2] [0,0,1,2] 4 (b+1) (Nat.le_trans (by omega) HG4.out.size) (by decide) rfl rfl rfl)
         refine hK.out _ _ (⟨HG5.out.blk.cell 0,HG5.out.blk.cell 1⟩) (fun _ _=>?_)
         try simp only [tA,tB,tC,Act.put,tE,tF,tG]
         clear hK K inv hS;rename_i hS inv
         refine F_o1 7 inv ?_;intro K hK
         try simp only [tA,tB,tC]
         go_simp
         refine (l1Below_any b _ _ HG5.out.cur).mono ?_
         rintro e w6 ⟨f,rfl,-,hc6,ho6⟩
         have HG6:=Hd_ (HG5.out.move ho6 hc6 (by omega))
         have HL6:=Hd_ ((HL5.out.only ho6 (Nat.le_refl _) (.inr (Nat.le_refl _))).mono (Nat.le_refl _) ho6.size)
         refine hK.out _ _ (⟨HG6.out.blk.cell 0,HG6.out.blk.cell 1⟩) (fun _ _=>?_)
         try simp only [tA,tB,tC,Act.put,tE,tF,tG]
         clear hK K inv hS;rename_i hS inv
         clear ho6 hc6
         refine F_o1 12 inv ?_;intro K hK
         try simp only [tA,tB,tC]
         go_simp
         refine (l1Below_any b _ _ HG6.out.cur).mono ?_
         rintro e w7 ⟨h,rfl,-,hc7,ho7⟩
         have HG7:=Hd_ (HG6.out.move ho7 hc7 (by omega))
         have HL7:=Hd_ ((HL6.out.only ho7 (Nat.le_refl _) (.inr (Nat.le_refl _))).mono (Nat.le_refl _) ho7.size)
         refine hK.out _ _ (⟨HG7.out.blk.cell 0,HG7.out.blk.cell 1⟩) (fun _ _=>?_)
         try simp only [tA,tB,tC,Act.put,tE,tF,tG]
         clear hK K inv hS;rename_i hS inv
         clear ho7 hc7
         refine F_o1 15 inv ?_;intro K hK
         try simp only [tA,tB,tC]
         go_simp
         refine (l1PickInt_any b _ [0,0,1,2] _ HG7.out.cur (by decide) HL7.out).mono ?_
         rintro e w8 ⟨l,rfl,-,hc8,ho8⟩
         have HG8:=Hd_ (HG7.out.move ho8 hc8 (by omega))
         refine hK.out _ _ (⟨HG8.out.blk.cell 0,HG8.out.blk.cell 1⟩) (fun _ _=>?_)
         try simp only [tA,tB,tC,Act.put,tE,tF,tG]
         clear hK K inv hS;rename_i hS inv
         clear ho8 hc8 HG7 HL7
         refine F_tk 16 inv ?_
         try simp only [tA,tB,tC,Act.put,tE,tF,tG]
         clear inv;intro inv
         refine F_o1 17 inv ?_;intro K hK
         try simp only [tA,tB,tC]
         go_simp
         refine hK.out _ _ ((kB2 ((Below.refl _ _).alloc (Nat.le_refl _) _) hS)) (fun _ _=>?_)
         try simp only [tA,tB,tC,Act.put,tE,tF,tG]
         clear hK K inv hS;rename_i hS inv
         refine F_o1 18 inv ?_;intro K hK
         try simp only [tA,tB,tC]
         refine op_append1 cEd elEdD rfl _ _ (by rfl) wm.heap.size _ ys (d2,f,h,l) 1 _ (by rfl) (HG8.out.edges.alloc _) (by first | rfl | simp) (heap_alloc_new _ _) rfl (cEd_one _) (by omega) (by omega) (Nat.le_trans HG8.out.size (by simp)) ?_
         intro g2 cp2 w9 hown3 hgr3 hat3 hlt3
         have hbT:=((Below.refl wm.heap.size w8).alloc HG8.out.size (.cells #[.int .i64 d2,.int .i64 f,.int .i64 h,.int .i64 l] 76)).trans (own_below (HG8.out.edges.alloc (.cells #[.int .i64 d2,.int .i64 f,.int .i64 h,.int .i64 l] 76)) (Nat.le_trans HG8.out.size (by simp)) hgr3)
         have HB9:=Hd_ (HG8.out.blk.below hbT hlw)
         have HG9:=Hd_ (HG8.out.push (by omega) (by omega) hbT hown3)
         have z1:=HB9.out.frozen 1
         have zl:=HB9.out.lt
         clear hbT hown3 hgr3 hat3 hlt3
         refine hK.out _ _ (⟨HB9.out.cell 0,HB9.out.cell 1⟩) (fun _ _=>?_)
         try simp only [tA,tB,tC,Act.put,tE,tF,tG]
         clear hK K inv hS;rename_i hS inv
         refine F_tk 19 inv ?_
         try simp only [tA,tB,tC,Act.put,tE,tF,tG]
         clear inv;intro inv
         refine F_l1 20 ?_;intro K hK
         go_simp
         refine hK _ _ ?_
         clear hK K inv hS
         clear z1 zl x0 x1
         generalize w9.setCell ⟨w.heap.size+1,1,none⟩ (.slice (some ⟨g2,0,none⟩) (ys.length+1) cp2)=w10 at *
         go_wp2_with fail
         go_roundw
         case rel =>
          refine ⟨n - 1,d2,_,ys ++ [(d2,f,h,l)],rfl,?_,by simp;omega,HG9.out⟩
          congr 1;omega
         case measure=>simp [intOf];omega
  · have hni:0 < (n:Int):=by omega
    go_wp2_with fail
    refine F_start 7 (fun w'=>w'.cell? ⟨w.heap.size+1,0,none⟩=some (vs)) (by kernel_rfl) (by exact x0) (fun hS inv=>?_)
    refine F_tk 0 inv ?_
    try simp only [tA,tB,tC,Act.put,tE,tF,tG]
    clear inv;intro inv
    refine F_tk 1 inv ?_
    try simp only [tA,tB,tC,Act.put,tE,tF,tG]
    clear inv;intro inv
    refine F_tk 2 inv ?_
    try simp only [tA,tB,tC,Act.put,tE,tF,tG]
    clear inv;intro inv
    refine F_o1 3 inv ?_;intro K hK
    try simp only [tA,tB,tC]
    go_simp
    refine (l1Below_any b 3 _ (HCUR.out.keep (Below.refl _ _).drew)).mono ?_
    rintro e w2 ⟨y,rfl,-,hc2,ho2⟩
    have HR2:=Hd_ ((HRES.out.drew).only ho2 (.inr (by omega)))
    have HB2:=Hd_ ((HBLK.out.drew).only ho2 (.inr (by omega)))
    have HO2:=Hd_ (own_only HOWN.out ((Only.of_below (Below.refl _ _).drew b (b+1)).trans ho2) (by omega))
    have HN2:=Hd_ (HON.out.trans (Only.trans (Only.of_below (Below.refl _ _).drew b (b+1)) ho2))
    have hs2:=HB2.out.lt
    refine hK.out _ _ ((ho2.kc (by simp only;omega) hS)) (fun _ _=>?_)
    try simp only [tA,tB,tC,Act.put,tE,tF,tG]
    clear hK K inv hS;rename_i hS inv
    refine F_o1 4 inv ?_;intro K hK
    try simp only [tA,tB,tC]
    go_simp
    refine hK.out _ _ ((kcell ((Below.refl _ _).alloc (Nat.le_refl _) _) hS)) (fun _ _=>?_)
    try simp only [tA,tB,tC,Act.put,tE,tF,tG]
    clear hK K inv hS;rename_i hS inv
    refine F_o1 5 inv ?_;intro K hK
    try simp only [tA,tB,tC]
    refine op_append1 cI elInt rfl _ _ (by rfl) (w.heap.size+1+1) vs xs y 1 _ (by rfl) (HO2.out.alloc _) (by first | rfl | simp) (heap_alloc_new _ _) rfl (cI_one _) (by omega) (by omega) (by simp;omega) ?_
    intro g2 cp2 w3 hown3 hgr3 hat3 hlt3
    have hbT:=((Below.refl (w.heap.size+1+1) w2).alloc (by omega) (.cells #[.int .i64 y] 3)).trans (own_below (HO2.out.alloc (.cells #[.int .i64 y] 3)) (by simp;omega) hgr3)
    have HR3:=Hd_ (HR2.out.below hbT (by omega))
    have HB3:=Hd_ (HB2.out.below hbT (by omega))
    have HC3:=Hd_ (hc2.below hbT (by omega))
    have HN3:=Hd_ (HN2.out.andBelow hbT (by omega))
    have HO3:=Hd_ hown3
    have x0:w3.cell? ⟨w.heap.size+1,0,none⟩=some vs:=HB3.out.cell 0
    have y0:=HB3.out.frozen 0
    have hl3:=HB3.out.lt
    clear hbT hown3 hgr3 hat3 ho2 hc2 hs2
    refine hK.out _ _ (x0) (fun _ _=>?_)
    try simp only [tA,tB,tC,Act.put,tE,tF,tG]
    clear hK K inv hS;rename_i hS inv
    refine F_tk 6 inv ?_
    try simp only [tA,tB,tC,Act.put,tE,tF,tG]
    clear inv;intro inv
    refine F_l1 7 ?_;intro K hK
    go_simp
    refine hK _ _ ?_
    clear hK K inv hS
    clear x0 y0
    have HOS:=Hd_ ((Only.refl (w.heap.size+1) (w.heap.size+1+1) w3).setCell (p:=⟨w.heap.size+1,0,none⟩) (.inl ⟨Nat.le_refl _,Nat.lt_succ_self _⟩) (.slice (some ⟨g2,0,none⟩) (xs.length+1) cp2))
    go_wp2_with fail
    go_roundw
    case rel =>
     refine ⟨n - 1,_,xs ++ [y],?_,by simp;omega,HR3.out.far (by simp only;omega) _,HB3.out.set_ 0 _,own_only HO3.out HOS.out (Nat.le_refl _),HC3.out.set (by simp only;omega) _,HN3.out.setCell (.inr (by simp only;omega)) _⟩
     congr 1;omega
    case measure=>simp [intOf];omega
def cS (s:ByteArray):List Value:=[.string s]
theorem cS_len (x:ByteArray):(cS x).length=1:=rfl
theorem cS_one (x:ByteArray):∀ u ∈ cS x,u.oneCell'=true:=by intro u hu;simp only [cS,List.mem_cons,List.not_mem_nil,or_false] at hu;subst hu;rfl
theorem elStr:ElemOk Tryz.prog 122 9 (.string ⟨#[]⟩) 1 16:=⟨Tryz.underlying122,by kernel_rfl,rfl,by omega⟩
theorem kcell_own {w w':World} {base k n:Nat} {e:TypeId} {v:Value} {cs:List Value} (hg:w.grownBy w' v.ownBlock) (h:w.ownsRow base e k v n cs) {p:Addr} {u:Value} (hc:w.cell? p=some u) (hp:p.block < base):w'.cell? p=some u :=
 hg.cell hc (fun e=>by have:=(h.lt p.block e.symm).1;omega)
/-- an expression that is being read: in the block behind the result's -/
structure PaR (w0 w1 w:World) (ss:Value) (T:List Tok):Prop where
 res:Blk w w0.heap.size 46 #[.slice none 0 0]
 blk:Blk w (w0.heap.size+1) 46 #[ss]
 row:w.ownsRow w1.heap.size 94 4 ss T.length (T.flatMap cEd)
 only:Only (w0.heap.size+1) (w0.heap.size+2) w1 w
 base:Below w0.heap.size w0 w1
 le:w0.heap.size+2<=w1.heap.size
theorem PaR.below {w0 w1 w w':World} {ss:Value} {T:List Tok} (h:PaR w0 w1 w ss T) (hb:Below w.heap.size w w'):PaR w0 w1 w' ss T :=
 ⟨h.res.keep hb,h.blk.keep hb,ownsRow_below h.row hb (Nat.le_refl _),h.only.trans (Only.of_below hb _ _),h.base,h.le⟩
theorem PaR.push {w0 w1 w w':World} {ss:Value} {T T':List Tok} {g n c:Nat} (h:PaR w0 w1 w ss T) (hr:w'.ownsRow w1.heap.size 94 4 (.slice (some ⟨g,0,none⟩) n c) T'.length (T'.flatMap cEd)) (hg:w.grownBy w' ss.ownBlock) :
 Blk w' (w0.heap.size+1) 46 #[ss]/\PaR w0 w1 (w'.setCell ⟨w0.heap.size+1,0,none⟩ (.slice (some ⟨g,0,none⟩) n c)) (.slice (some ⟨g,0,none⟩) n c) T':=by
 have hl:=h.le
 have hb:=own_below h.row h.only.size hg
 have hgl:=(hr.lt g rfl).1
 have hbq:=h.blk.below hb (by omega)
 exact ⟨hbq,(h.res.below hb (by omega)).far (by simp only;omega) _,hbq.set_ 0 _,ownsRow_block hr (fun g' hg'=>by cases hg';exact Below.heap_setCell w' ⟨w0.heap.size+1,0,none⟩ _ g (by simp only;omega)),(h.only.andBelow hb (Nat.le_refl _)).setCell (p:=⟨w0.heap.size+1,0,none⟩) (.inl (by simp only;omega)) _,h.base,hl⟩
theorem PaR.done {w0 w1 w:World} {ss:Value} {T:List Tok} (h:PaR w0 w1 w ss T) :
 TkV w0.heap.size (w.setCell ⟨w0.heap.size,0,none⟩ ss).heap.size (w.setCell ⟨w0.heap.size,0,none⟩ ss) (.agg #[ss]) T/\T.length<=T.length/\Below w0.heap.size w0 (w.setCell ⟨w0.heap.size,0,none⟩ ss):=by
 have hl:=h.le
 have ho:=(Only.refl w0.heap.size (w0.heap.size+1) w).setCell (p:=⟨w0.heap.size,0,none⟩) (.inl ⟨Nat.le_refl _,Nat.lt_succ_self _⟩) ss
 exact ⟨⟨ss,rfl,(((Own.of_row (xs:=T) h.row rfl rfl).only ho (.inr (by omega))).sl cEd_len).mono (by omega) ho.size⟩,Nat.le_refl _,(h.base.trans (h.only.below (by omega) (by omega))).setCell (p:=⟨w0.heap.size,0,none⟩) (Nat.le_refl _) _⟩
theorem PaR.off {w0 w1 w:World} {ss:Value} {T:List Tok} (h:PaR w0 w1 w ss T) :
 TkV w0.heap.size (w.setCell ⟨w0.heap.size,0,none⟩ (.slice none 0 0)).heap.size (w.setCell ⟨w0.heap.size,0,none⟩ (.slice none 0 0)) (.agg #[.slice none 0 0]) []/\([]:List Tok).length<=100/\Below w0.heap.size w0 (w.setCell ⟨w0.heap.size,0,none⟩ (.slice none 0 0)) :=
 ⟨TkV.nil _ _ _,by simp,(h.base.trans (h.only.below (by omega) (by have:=h.base.size;omega))).setCell (p:=⟨w0.heap.size,0,none⟩) (Nat.le_refl _) _⟩
theorem PaR.view {w0 w1 w:World} {ss:Value} {T:List Tok} (h:PaR w0 w1 w ss T):SlE w cEd 4 ss T:=((Own.of_row (xs:=T) h.row rfl rfl).sl cEd_len).mono (Nat.zero_le _) (Nat.le_refl _)
set_option maxHeartbeats 4000000 in
theorem formatLetter_is (n:Nat) (ni:Int) (w:World) (hn:n < 9) (hni:ni=(n:Int)) :
 Calls Tryz.prog 105 #[.int .i64 ni] w fun e w'=>e=.returned (.string (fmtB n))/\Below w.heap.size w w':=by
 have hc:n=0 ∨ n=1 ∨ n=2 ∨ n=3 ∨ n=4 ∨ n=5 ∨ n=6 ∨ n=7 ∨ n=8:=by omega
 have hw:wi ni 0 8=true:=wi_iff.2 (by omega)
 have HW:=Hd_ hw
 clear hn hw
 rcases hc with rfl | rfl | rfl | rfl | rfl | rfl | rfl | rfl | rfl
 all_goals
  simp at hni
  subst hni
  clear HW
  go_enter Tryz.func105,Tryz.ntmps105
  go_wp2_with (refine (l2Letter_any _ _).mono ?_;rintro e w' ⟨rfl,rfl⟩)
  go_ret
  exact ⟨rfl,(Below.refl _ _).alloc (Nat.le_refl _) _⟩
def LetIs (s:ByteArray) (w:World) (e:Ending) (w':World):Prop:=e=.returned (.tuple #[.int .i64 (parL s).1,.bool (parL s).2])/\Below w.heap.size w w'
set_option maxHeartbeats 4000000 in
theorem parseLetter_is (s:ByteArray) (w:World) :
 Calls Tryz.prog 104 #[.string s] w (LetIs s w):=by
 obtain ⟨R,hR⟩:∃ R,R=parL s:=⟨_,rfl⟩
 unfold LetIs
 rw [<- hR]
 have HR:=Hd_ hR
 clear hR
 go_enter Tryz.func104,Tryz.ntmps104
 go_wp2
 go_loopw [4] (fun ii wr=>∃ i:Nat,i<=9/\ii=.int .i64 (i:Int)/\R=parF s (9 - i) i/\Below w.heap.size w wr) (fun ii _=>9 - (intOf ii).toNat)
 case atStart=>exact ⟨0,by omega,rfl,HR.out,Below.refl _ _⟩
 case round =>
  obtain ⟨i,hi,rfl,hr,hb⟩:=hrel
  have HB:=Hd_ hb
  have HRR:=Hd_ hr
  clear hb hr
  by_cases hlt:i < 9
  · have hi9:(i:Int) < 9:=by omega
    obtain ⟨m,hm⟩:∃ m,9 - i=m+1:=⟨8 - i,by omega⟩
    have HM:=Hd_ hm
    clear hm
    go_wp2_with fail
    refine (formatLetter_is i _ _ hlt rfl).mono ?_
    rintro e w2 ⟨rfl,hb2⟩
    have HB2:=Hd_ (HB.out.trans (hb2.mono HB.out.size))
    clear hb2
    obtain ⟨x,hx⟩:∃ x,x=fmtB i:=⟨_,rfl⟩
    rw [<- hx]
    have HX:=Hd_ hx
    clear hx
    cases hxx:(x.toList==s.toList)
    · have hn:R=parF s (9 - (i+1)) (i+1):=by
       have h:=HRR.out
       rw [HM.out,parF_skip (by rw [<- same_eq,<- HX.out];exact hxx)] at h
       rw [h,show 9 - (i+1)=m by have:=HM.out;omega]
      have HN:=Hd_ hn
      clear hn
      go_wp2_with fail
      go_roundw
      case rel=>exact ⟨i+1,by omega,by go_num,HN.out,HB2.out⟩
      case measure=>simp [intOf];omega
    · have hn:R=((i:Int),true):=by
       have h:=HRR.out
       rw [HM.out,parF_hit (by rw [<- same_eq,<- HX.out];exact hxx)] at h
       exact h
      clear HRR HR
      subst hn
      go_wp2_with fail
      go_ret2
      exact ⟨rfl,HB2.out⟩
  · have hi9:¬ (i:Int) < 9:=by omega
    have hn:R=(0,false):=by
     have h:=HRR.out
     rw [show 9 - i=0 by omega] at h
     exact h
    clear HRR HR
    subst hn
    go_wp2_with fail
    go_ret2
    exact ⟨rfl,HB.out⟩
set_option maxHeartbeats 4000000 in
theorem l8Token_is (k:Nat) (ki:Int) (w:World) (hk:k=1 ∨ k=2 ∨ k=4 ∨ k=5 ∨ k=6) (hki:ki=(k:Int)) :
 Calls Tryz.prog 103 #[.agg #[.int .i64 ki,.int .i64 0,.int .i64 0,.int .i64 0]] w fun e w'=>e=.returned (.string (tokB k))/\Below w.heap.size w w':=by
 rcases hk with rfl | rfl | rfl | rfl | rfl
 all_goals
  simp at hki
  subst hki
  go_enter Tryz.func103,Tryz.ntmps103
  go_wp2
  go_ret
  exact ⟨rfl,(Below.refl _ _).alloc (Nat.le_refl _) _⟩
def TokIs (s:ByteArray) (w:World) (e:Ending) (w':World):Prop:=e=.returned (.agg #[.int .i64 (readT s).1,.int .i64 (readT s).2.1,.int .i64 (readT s).2.2.1,.int .i64 (readT s).2.2.2])/\Below w.heap.size w w'
set_option maxHeartbeats 8000000 in
theorem l8Read_is (s:ByteArray) (w:World) (hs:s.size<=maxLen) :
 Calls Tryz.prog 99 #[.string s] w (TokIs s w):=by
 unfold maxLen at hs
 obtain ⟨R,hR⟩:∃ R,R=readT s:=⟨_,rfl⟩
 unfold TokIs
 rw [<- hR]
 have HR:=Hd_ hR
 clear hR
 have hb0:=(Below.refl w.heap.size w).alloc (Nat.le_refl _) (.cells #[.int .i64 0,.int .i64 0,.int .i64 0,.int .i64 0] 94)
 have bk:=Blk.new w 94 #[.int .i64 0,.int .i64 0,.int .i64 0,.int .i64 0] _ rfl
 go_enter Tryz.func99,Tryz.ntmps99
 go_wp2
 go_loopw [3] (fun ii wr=>∃ i:Nat,1<=i/\i<=7/\ii=.int .i64 (i:Int)/\R=tokF s (7 - i) i/\Below w.heap.size w wr/\Blk wr w.heap.size 94 #[.int .i64 0,.int .i64 0,.int .i64 0,.int .i64 0]) (fun ii _=>9 - (intOf ii).toNat)
 case atStart=>exact ⟨1,by omega,by omega,rfl,HR.out,hb0,bk⟩
 case round =>
  obtain ⟨i,hi1,hi7,rfl,hr,hb,hbk⟩:=hrel
  have HRR:=Hd_ hr
  clear hr
  have HB:=Hd_ hb
  have HBK:=Hd_ hbk
  clear hb hbk hb0 bk
  by_cases hlt:i < 7
  · have hi6:(i:Int)<=6:=by omega
    by_cases h3:i=3
    · subst h3
      have HN:=Hd_ (show R=tokF s (7 - 4) 4 from HRR.out.trans (tokF_skip (.inl rfl)))
      go_wp2_with fail
      go_roundw
      case rel=>exact ⟨4,by omega,by omega,rfl,HN.out,HB.out,HBK.out⟩
      case measure=>simp [intOf]
    · have q3:((i:Int) != 3)=true:=by simp;omega
      have hk:i=1 ∨ i=2 ∨ i=4 ∨ i=5 ∨ i=6:=by omega
      have HK:=Hd_ hk
      have H3:=Hd_ h3
      obtain ⟨m,hm⟩:∃ m,7 - i=m+1:=⟨6 - i,by omega⟩
      have HM:=Hd_ hm
      clear hk h3 hm
      go_wp2_with fail
      refine (l8Token_is i _ _ HK.out rfl).mono ?_
      rintro e w2 ⟨rfl,hb2⟩
      obtain ⟨x,hx0⟩:∃ x,x=tokB i:=⟨_,rfl⟩
      rw [<- hx0]
      have HX:=Hd_ hx0
      clear hx0
      have HB2:=Hd_ (HB.out.trans (hb2.mono HB.out.size))
      have hbk2:=HBK.out.keep hb2
      clear hb2
      cases hx:(x.toList==s.toList)
      · have HBK2:=Hd_ hbk2
        have hn:R=tokF s (7 - (i+1)) (i+1):=by
         have h:=HRR.out
         rw [HM.out,tokF_skip (.inr (by rw [<- same_eq,<- HX.out];exact hx))] at h
         rw [h,show 7 - (i+1)=m by have:=HM.out;omega]
        have HN:=Hd_ hn
        clear hbk2 hn
        go_wp2_with fail
        go_roundw
        case rel=>exact ⟨i+1,by omega,by omega,by go_num,HN.out,HB2.out,HBK2.out⟩
        case measure=>simp [intOf];omega
      · have hn:R=((i:Int),0,0,0):=by
         have h:=HRR.out
         rw [HM.out,tokF_hit H3.out (by rw [<- same_eq,<- HX.out];exact hx)] at h
         exact h
        clear HRR HR
        subst hn
        have z0:w2.cell? ⟨w.heap.size,0,none⟩=some (.int .i64 0):=hbk2.cell 0
        have z1:w2.cell? ⟨w.heap.size,1,none⟩=some (.int .i64 0):=hbk2.cell 1
        have z2:w2.cell? ⟨w.heap.size,2,none⟩=some (.int .i64 0):=hbk2.cell 2
        have z3:w2.cell? ⟨w.heap.size,3,none⟩=some (.int .i64 0):=hbk2.cell 3
        have v0:=hbk2.frozen 0
        have v1:=hbk2.frozen 1
        have v2:=hbk2.frozen 2
        have v3:=hbk2.frozen 3
        have hlr:=hbk2.lt
        clear hbk2
        go_wp2_with fail
        refine bodyPost_ret (v:=.agg #[.int .i64 i,.int .i64 0,.int .i64 0,.int .i64 0]) (by simp [results,Tryz.results99,go_sem,z0,z1,z2,z3,v0,v1,v2,v3,hlr]) rfl ⟨rfl,HB2.out.set4 _ _ _ _⟩
  · have hi6:¬ (i:Int)<=6:=by omega
    have hrs:R=restT s:=by
     have h:=HRR.out
     rw [show 7 - i=0 by omega] at h
     exact h
    have HRS:=Hd_ hrs
    clear HRR HR hrs
    go_wp2_with fail
    refine (parseLetter_is s _).mono ?_
    rintro e w2 ⟨rfl,hb2⟩
    obtain ⟨n,hn⟩:∃ n,n=(parL s).1:=⟨_,rfl⟩
    obtain ⟨is,his⟩:∃ is,is=(parL s).2:=⟨_,rfl⟩
    rw [<- hn,<- his]
    have HNN:=Hd_ hn
    have HIS:=Hd_ his
    clear hn his
    have HB2:=Hd_ (HB.out.trans (hb2.mono HB.out.size))
    have hbk2:=HBK.out.keep hb2
    clear hb2
    have z0:w2.cell? ⟨w.heap.size,0,none⟩=some (.int .i64 0):=hbk2.cell 0
    have z1:w2.cell? ⟨w.heap.size,1,none⟩=some (.int .i64 0):=hbk2.cell 1
    have z2:w2.cell? ⟨w.heap.size,2,none⟩=some (.int .i64 0):=hbk2.cell 2
    have z3:w2.cell? ⟨w.heap.size,3,none⟩=some (.int .i64 0):=hbk2.cell 3
    have v0:=hbk2.frozen 0
    have v1:=hbk2.frozen 1
    have v2:=hbk2.frozen 2
    have v3:=hbk2.frozen 3
    have hlr:=hbk2.lt
    clear hbk2
    cases is
    · by_cases h5:s.size=5
      · have HS5:=Hd_ h5
        have h5d:((s.size:Int)==5)=true:=by simp;omega
        have hb0:0 < s.size:=by omega
        have hb1:(1:Int) < (s.size:Int):=by omega
        have hb2:(2:Int) < (s.size:Int):=by omega
        have hb3:(3:Int) < (s.size:Int):=by omega
        have hb4:(4:Int) < (s.size:Int):=by omega
        clear h5
        cases c0:(((s[0]'(by omega)).toNat:Int)==123)
        · have hrz:R=(0,0,0,0):=by rw [HRS.out,restT,if_neg (by rw [<- HIS.out];simp),if_neg (by rw [byteAt_eq hb0,byteAt_eq (show 2 < s.size by omega),byteAt_eq (show 4 < s.size by omega)];simp [c0])]
          clear HRS
          subst hrz
          go_wp2_with fail
          exact bodyPost_ret (v:=.agg #[.int .i64 0,.int .i64 0,.int .i64 0,.int .i64 0]) (by simp [results,Tryz.results99,go_sem,z0,z1,z2,z3,v0,v1,v2,v3,hlr]) rfl ⟨rfl,HB2.out.set4 _ _ _ _⟩
        cases c2:(((s[2]'(by omega)).toNat:Int)==44)
        · have hrz:R=(0,0,0,0):=by rw [HRS.out,restT,if_neg (by rw [<- HIS.out];simp),if_neg (by rw [byteAt_eq hb0,byteAt_eq (show 2 < s.size by omega),byteAt_eq (show 4 < s.size by omega)];simp [c2])]
          clear HRS
          subst hrz
          go_wp2_with fail
          exact bodyPost_ret (v:=.agg #[.int .i64 0,.int .i64 0,.int .i64 0,.int .i64 0]) (by simp [results,Tryz.results99,go_sem,z0,z1,z2,z3,v0,v1,v2,v3,hlr]) rfl ⟨rfl,HB2.out.set4 _ _ _ _⟩
        cases c4:(((s[4]'(by omega)).toNat:Int)==125)
        · have hrz:R=(0,0,0,0):=by rw [HRS.out,restT,if_neg (by rw [<- HIS.out];simp),if_neg (by rw [byteAt_eq hb0,byteAt_eq (show 2 < s.size by omega),byteAt_eq (show 4 < s.size by omega)];simp [c4])]
          clear HRS
          subst hrz
          go_wp2_with fail
          exact bodyPost_ret (v:=.agg #[.int .i64 0,.int .i64 0,.int .i64 0,.int .i64 0]) (by simp [results,Tryz.results99,go_sem,z0,z1,z2,z3,v0,v1,v2,v3,hlr]) rfl ⟨rfl,HB2.out.set4 _ _ _ _⟩
        have hr7:R=((7,0,wrap64 (wrap64 ((s[1]'(by omega)).toNat:Int) - 48),wrap64 (wrap64 ((s[3]'(by omega)).toNat:Int) - 48)):Tok):=by
         rw [HRS.out,restT,if_neg (by rw [<- HIS.out];simp),if_pos (by rw [byteAt_eq hb0,byteAt_eq (show 2 < s.size by omega),byteAt_eq (show 4 < s.size by omega),c0,c2,c4,decide_eq_true HS5.out];rfl),byteAt_eq (show 1 < s.size by omega),byteAt_eq (show 3 < s.size by omega)]
        clear HRS
        subst hr7
        go_wp2_with fail
        go_region
        go_wp2_with fail
        exact bodyPost_ret (v:=.agg #[.int .i64 7,.int .i64 0,.int .i64 (wrap64 (wrap64 ((s[1]'(by omega)).toNat:Int) - 48)),.int .i64 (wrap64 (wrap64 ((s[3]'(by omega)).toNat:Int) - 48))]) (by simp [results,Tryz.results99,go_sem,z0,z1,z2,z3,v0,v1,v2,v3,hlr]) rfl ⟨rfl,(HB2.out.set4 _ _ _ _).drew⟩
      · have h5d:((s.size:Int)==5)=false:=by simp;omega
        have hrz:R=(0,0,0,0):=by rw [HRS.out,restT,if_neg (by rw [<- HIS.out];simp),if_neg (by rw [decide_eq_false h5];simp)]
        clear HRS
        subst hrz
        go_wp2_with fail
        refine bodyPost_ret (v:=.agg #[.int .i64 0,.int .i64 0,.int .i64 0,.int .i64 0]) (by simp [results,Tryz.results99,go_sem,z0,z1,z2,z3,v0,v1,v2,v3,hlr]) rfl ⟨rfl,HB2.out.set4 _ _ _ _⟩
    · have hr3:R=(3,n,0,0):=by rw [HRS.out,restT,if_pos (by rw [<- HIS.out]),HNN.out]
      clear HRS
      subst hr3
      go_wp2_with fail
      refine bodyPost_ret (v:=.agg #[.int .i64 3,.int .i64 n,.int .i64 0,.int .i64 0]) (by simp [results,Tryz.results99,go_sem,z0,z1,z2,z3,v0,v1,v2,v3,hlr]) rfl ⟨rfl,HB2.out.set4 _ _ _ _⟩
def strOk (v:Value):Bool:=match v with | .string s=>decide (s.size<=1000) | _=>false
theorem strOk_of {v:Value} (h:strOk v=true):∃ s,v=.string s/\s.size<=1000:=by
 unfold strOk at h
 split at h
 · exact ⟨_,rfl,by simpa using h⟩
 · cases h
theorem parE_len (s:ByteArray):(parE s).length<=25:=by
 unfold parE
 split
 · rw [rawE,List.length_map,List.length_take];omega
 · simp
def CutOut (s:ByteArray) (w:World) (e:Ending) (w':World):Prop:=∃ v,e=.returned v/\Own w.heap.size w'.heap.size w' 9 cS 1 v (cutL s)/\((cutL s).length<=1001/\∀ x ∈ cutL s,x.size<=maxLen)/\Below w.heap.size w w'
set_option maxHeartbeats 4000000 in
theorem l2Cut_is (s:ByteArray) (w:World) (hs:s.size<=1000) :
 Calls Tryz.prog 98 #[.string s,.int .u8 32] w (CutOut s w):=by
 have hal:=(Below.refl w.heap.size w).alloc (Nat.le_refl _) (.cells #[] 9)
 have hrl:=World.ownsRow_lit (base:=w.heap.size) (e:=9) (size:=1) w #[] 0 (Nat.le_refl _) (by decide) rfl
 go_enter Tryz.func98,Tryz.ntmps98
 go_wp2
 go_loopw [5,6,7] (fun oo ff ii wr=>∃ (i f:Nat) (L:List ByteArray),i<=s.size/\cutF s i=(f,L)/\f<=i/\L.length<=i/\(∀ x ∈ L,x.size<=maxLen)/\ff=.int .i64 (f:Int)/\ii=.int .i64 (i:Int)/\wr.ownsRow w.heap.size 9 1 oo L.length (L.flatMap cS)/\Below w.heap.size w wr) (fun _ _ ii _=>s.size - (intOf ii).toNat)
 case atStart=>exact ⟨0,0,[],by omega,rfl,by omega,by simp,by simp,rfl,rfl,hrl,hal⟩
 case round =>
  obtain ⟨i,f,L,hi,hcf,hf,hL,hx,rfl,rfl,hrow,hb⟩:=hrel
  have HCF:=Hd_ hcf
  clear hcf
  obtain ⟨A,n,c,rfl⟩:=rowShape hrow
  have HX:=Hd_ hx
  have HR:=Hd_ hrow
  have HB:=Hd_ hb
  clear hx hrow hb hal hrl
  by_cases hlt:i < s.size
  · have hii:(i:Int) < (s.size:Int):=by omega
    cases hc:((s[i].toNat:Int)==32)
    · have HC1:=Hd_ (show cutF s (i+1)=(f,L) by rw [cutF,if_neg (by rw [byteAt_eq hlt];simpa using hc),HCF.out])
      go_wp2_with fail
      go_roundw
      case rel=>exact ⟨i+1,f,L,by omega,HC1.out,by omega,by omega,HX.out,rfl,by go_num,HR.out,HB.out⟩
      case measure=>simp [intOf];omega
    · have HC1:=Hd_ (show cutF s (i+1)=(i+1,L ++ [s.extract f i]) by rw [cutF,if_pos (by rw [byteAt_eq hlt];simpa using hc),HCF.out])
      go_wp2_with (at_builtin;(refine wpList_append2 cS elStr rfl _ _ (by rfl) w.heap.size _ L (s.extract f i) 1 _ (by rfl) (HR.out.alloc _) (by rfl) (heap_alloc_new _ _) rfl (cS_one _) (by omega) (by omega) (by have:=HB.out.size;simp;omega) ?_);intro g2 cp2 w9 hown3 hgr3 hat3 hlt3;have HR9:=Hd_ hown3;have HB9:=Hd_ ((HB.out.alloc HB.out.size (.cells #[.string (s.extract f i)] 9)).trans (own_below (HR.out.alloc (.cells #[.string (s.extract f i)] 9)) (by have:=HB.out.size;simp;omega) hgr3));clear hown3 hgr3 hat3)
      have hxs:(s.extract f i).size<=maxLen:=by rw [ByteArray.size_extract];unfold maxLen;omega
      have HXS:=Hd_ hxs
      clear hxs
      go_roundw
      case rel=>exact ⟨i+1,i+1,L ++ [s.extract f i],by omega,HC1.out,by omega,by simp;omega,fun x hx=>by rcases List.mem_append.1 hx with h | h;exact HX.out x h;rw [List.mem_singleton] at h;rw [h];exact HXS.out,by go_num,by go_num,HR9.out,HB9.out⟩
      case measure=>simp [intOf];omega
  · obtain rfl:i=s.size:=by omega
    go_wp2_with (at_builtin;(refine wpList_append2 cS elStr rfl _ _ (by rfl) w.heap.size _ L (s.extract f s.size) 1 _ (by rfl) (HR.out.alloc _) (by rfl) (heap_alloc_new _ _) rfl (cS_one _) (by omega) (by omega) (by have:=HB.out.size;simp;omega) ?_);intro g2 cp2 w9 hown3 hgr3 hat3 hlt3;have HR9:=Hd_ hown3;have HB9:=Hd_ ((HB.out.alloc HB.out.size (.cells #[.string (s.extract f s.size)] 9)).trans (own_below (HR.out.alloc (.cells #[.string (s.extract f s.size)] 9)) (by have:=HB.out.size;simp;omega) hgr3));clear hown3 hgr3 hat3)
    have hxs:(s.extract f s.size).size<=maxLen:=by rw [ByteArray.size_extract];unfold maxLen;omega
    go_ret
    have hcl:cutL s=L ++ [s.extract f s.size]:=by rw [cutL,HCF.out]
    unfold CutOut
    rw [hcl]
    exact ⟨_,rfl,Own.of_row HR9.out rfl rfl,⟨by simp;omega,fun x hx=>by rcases List.mem_append.1 hx with h | h;exact HX.out x h;rw [List.mem_singleton] at h;rw [h];exact hxs⟩,HB9.out⟩
theorem TkO.nil (lo hi:Nat) (w:World):TkO lo hi w (.agg #[.slice none 0 0]) []:=⟨_,rfl,Own.nil _ _ _ _ _ _⟩
theorem PaR.doneO {w0 w1 w:World} {ss:Value} {T:List Tok} (h:PaR w0 w1 w ss T) :
 TkO w0.heap.size (w.setCell ⟨w0.heap.size,0,none⟩ ss).heap.size (w.setCell ⟨w0.heap.size,0,none⟩ ss) (.agg #[ss]) T/\Below w0.heap.size w0 (w.setCell ⟨w0.heap.size,0,none⟩ ss):=by
 have hl:=h.le
 have ho:=(Only.refl w0.heap.size (w0.heap.size+1) w).setCell (p:=⟨w0.heap.size,0,none⟩) (.inl ⟨Nat.le_refl _,Nat.lt_succ_self _⟩) ss
 exact ⟨⟨ss,rfl,((Own.of_row (xs:=T) h.row rfl rfl).only ho (.inr (by omega))).mono (by omega) ho.size⟩,(h.base.trans (h.only.below (by omega) (by omega))).setCell (p:=⟨w0.heap.size,0,none⟩) (Nat.le_refl _) _⟩
theorem PaR.offO {w0 w1 w:World} {ss:Value} {T:List Tok} (h:PaR w0 w1 w ss T) :
 TkO w0.heap.size (w.setCell ⟨w0.heap.size,0,none⟩ (.slice none 0 0)).heap.size (w.setCell ⟨w0.heap.size,0,none⟩ (.slice none 0 0)) (.agg #[.slice none 0 0]) []/\Below w0.heap.size w0 (w.setCell ⟨w0.heap.size,0,none⟩ (.slice none 0 0)) :=
 ⟨TkO.nil _ _ _,(h.base.trans (h.only.below (by omega) (by have:=h.base.size;omega))).setCell (p:=⟨w0.heap.size,0,none⟩) (Nat.le_refl _) _⟩
theorem tkO_done {b r:Nat} {w0 w:World} {v:Value} {l:List Tok} (h:TkO (r+1) w.heap.size w v l) (hc:Cur w b) (ho:Only b (b+1) w0 w) (hr:w0.heap.size=r) (hb:b < r) (u:Value) :
 TkO w0.heap.size (w.setCell ⟨r,0,none⟩ u).heap.size (w.setCell ⟨r,0,none⟩ u) v l/\Cur (w.setCell ⟨r,0,none⟩ u) b/\Only b (b+1) w0 (w.setCell ⟨r,0,none⟩ u):=by
 have hs:=(Only.refl r (r+1) w).setCell (p:=⟨r,0,none⟩) (.inl ⟨Nat.le_refl _,Nat.lt_succ_self _⟩) u
 exact ⟨(h.only hs (.inr (Nat.le_refl _))).mono (by omega) hs.size,hc.only hs (by omega),ho.setCell (p:=⟨r,0,none⟩) (.inr (by simp only;omega)) _⟩
def ParOut (s:ByteArray) (w:World) (e:Ending) (w':World):Prop:=∃ v is,e=.returned (.tuple #[v,.bool is])/\(TkO w.heap.size w'.heap.size w' v (parE s)/\Below w.heap.size w w')
set_option maxHeartbeats 8000000 in
theorem parseExpr_is (s:ByteArray) (w:World) (hs:s.size<=1000) :
 Calls Tryz.prog 88 #[.string s] w (ParOut s w):=by
 have hb0:=((Below.refl w.heap.size w).alloc (Nat.le_refl _) (.cells #[.slice none 0 0] 46)).alloc (by simp) (.cells #[.slice none 0 0] 46)
 have b1:=(Blk.new w 46 #[.slice none 0 0] _ rfl).alloc (.cells #[.slice none 0 0] 46)
 have b2:=Blk.new (w.alloc (.cells #[.slice none 0 0] 46)) 46 #[.slice none 0 0] (w.heap.size+1) (by simp)
 have hs0:((w.alloc (.cells #[.slice none 0 0] 46)).alloc (.cells #[.slice none 0 0] 46)).heap.size=w.heap.size+2:=by simp
 go_enter Tryz.func88,Tryz.ntmps88
 go_wp2_with fail
 generalize ((w.alloc (.cells #[.slice none 0 0] 46)).alloc (.cells #[.slice none 0 0] 46))=W0 at *
 refine (l2Cut_is s _ hs).mono ?_
 rintro e w1 ⟨v1,rfl,hoL,⟨hL,hxL⟩,hb1⟩
 obtain ⟨L,hcl⟩:∃ L,L=cutL s:=⟨_,rfl⟩
 rw [<- hcl] at hoL hL hxL
 have HCL:=Hd_ hcl
 clear hcl
 have hc1:=b1.keep hb1
 have hc2:=b2.keep hb1
 have hbw:=below_trans hb0 hb1
 have hsz:=hb1.size
 rw [hs0] at hoL hsz
 obtain ⟨AL,cL,rfl,hlL,hmL,hxx⟩:=hoL.sl cS_len
 unfold maxLen at hmL
 obtain ⟨n,hn⟩:∃ n,n=L.length:=⟨_,rfl⟩
 rw [<- hn] at hL hlL ⊢
 have HN:=Hd_ hn
 have HXX:=Hd_ hxx
 have HXL:=Hd_ hxL
 clear hoL hxx hxL hb0 hb1 b1 b2 hs0 hn
 go_wp2_with fail
 have HP0:=Hd_ (show PaR w w1 w1 (.slice none 0 0) [] from ⟨hc1,hc2,World.ownsRow_nil _ _ _ 4,Only.refl _ _ _,hbw,hsz⟩)
 clear hc1 hc2 hbw hsz
 go_loopw [6] (fun ii wr=>∃ (i:Nat) (ss:Value) (T:List Tok),i<=25/\ii=.int .i64 (i:Int)/\T.length=i/\T=(L.take i).map readT/\PaR w w1 wr ss T) (fun ii _=>30 - (intOf ii).toNat)
 case atStart=>exact ⟨0,_,[],by omega,rfl,rfl,rfl,HP0.out⟩
 case round =>
  obtain ⟨i,ss,T,hi,rfl,hT,htm,hP⟩:=hrel
  have HTM:=Hd_ htm
  clear htm
  have HT:=Hd_ hT
  have hTl:T.length<=25:=by omega
  obtain ⟨A3,n3,c3,rfl⟩:=rowShape hP.row
  have HP:=Hd_ hP
  have x0:wr.cell? ⟨w.heap.size+1,0,none⟩=some (.slice A3 n3 c3):=hP.blk.cell 0
  clear hT hP HP0
  by_cases hlt:i < n
  · have hin:(i:Int) < (n:Int):=by omega
    by_cases h24:i<=24
    · have hi24:(i:Int)<=24:=by omega
      have hxi:L[i]?=some L[i]:=List.getElem?_eq_getElem (by have:=HN.out;omega)
      obtain ⟨q,o,rfl,hq0,hq1,hcc⟩:=HXX.out i _ hxi
      have hxs:=HXL.out _ (List.mem_of_getElem? hxi)
      have HXI:=Hd_ hxi
      generalize L[i]=x at hcc hxs HXI
      have e0:=(HP.out.only.cell (p:=⟨q,o+i * 1+0,none⟩) hq1 (.inr (by simp only;omega))).trans (hcc 0 _ rfl)
      simp only [Nat.add_zero,Nat.mul_one] at e0
      have HXS:=Hd_ hxs
      clear hcc hxi hxs
      go_wp2_with fail
      refine F_start 10 (fun w'=>w'.cell? ⟨w.heap.size+1,0,none⟩=some (.slice A3 n3 c3)/\w'.cell? ⟨q,o+i,none⟩=some (.string x)) (by kernel_rfl) (by exact ⟨x0,e0⟩) (fun hS inv=>?_)
      refine F_tk 0 inv ?_
      try simp only [tA,tB,tC,Act.put,tE,tF,tG]
      clear inv;intro inv
      refine F_tk 1 inv ?_
      try simp only [tA,tB,tC,Act.put,tE,tF,tG]
      clear inv;intro inv
      refine F_tk 2 inv ?_
      try simp only [tA,tB,tC,Act.put,tE,tF,tG]
      clear inv;intro inv
      refine F_tk 3 inv ?_
      try simp only [tA,tB,tC,Act.put,tE,tF,tG]
      clear inv;intro inv
      refine F_tk 4 inv ?_
      try simp only [tA,tB,tC,Act.put,tE,tF,tG]
      clear inv;intro inv
      refine F_tk 5 inv ?_
      try simp only [tA,tB,tC,Act.put,tE,tF,tG]
      clear inv;intro inv
      have HPd:=Hd_ (HP.out.below ((Below.refl _ _).drew))
      clear HP x0 e0
      refine F_o1 6 inv ?_;intro K hK
      try simp only [tA,tB,tC]
      go_simp
      refine (l8Read_is x _ HXS.out).mono ?_
      rintro e w2 ⟨rfl,hb2⟩
      obtain ⟨⟨t0,t1,t2,t3⟩,htt⟩:∃ t,t=readT x:=⟨_,rfl⟩
      rw [<- htt]
      have HTT:=Hd_ htt
      clear htt
      simp only
      have HP2:=Hd_ (HPd.out.below hb2)
      refine hK.out _ _ (⟨HP2.out.blk.cell 0,kcell hb2 hS.2⟩) (fun _ _=>?_)
      try simp only [tA,tB,tC,Act.put,tE,tF,tG]
      clear hK K inv hS;rename_i hS inv
      clear HPd
      refine F_o1 7 inv ?_;intro K hK
      try simp only [tA,tB,tC]
      go_simp
      have hal:=(Below.refl w2.heap.size w2).alloc (Nat.le_refl _) (.cells #[.int .i64 t0,.int .i64 t1,.int .i64 t2,.int .i64 t3] 94)
      have HP3:=Hd_ (HP2.out.below hal)
      refine hK.out _ _ (⟨HP3.out.blk.cell 0,kcell hal hS.2⟩) (fun _ _=>?_)
      try simp only [tA,tB,tC,Act.put,tE,tF,tG]
      clear hK K inv hS;rename_i hS inv
      clear HP2 hal
      refine F_o1 8 inv ?_;intro K hK
      try simp only [tA,tB,tC]
      refine op_append1 cEd elTok rfl _ _ (by rfl) w1.heap.size _ T (t0,t1,t2,t3) 1 _ (by rfl) HP3.out.row (by first | rfl | simp) (heap_alloc_new _ _) rfl (cEd_one _) (by omega) (by omega) HP3.out.only.size ?_
      intro g2 cp2 w9 hown3 hgr3 hat3 hlt3
      have HQ:=Hd_ (HP3.out.push hown3 hgr3)
      have hq3:w9.cell? ⟨q,o+i,none⟩=some (.string x):=kcell_own hgr3 HP3.out.row hS.2 (by simp only;omega)
      clear hown3 hgr3 hat3
      refine hK.out _ _ (⟨HQ.out.1.cell 0,hq3⟩) (fun _ _=>?_)
      try simp only [tA,tB,tC,Act.put,tE,tF,tG]
      clear hK K inv hS;rename_i hS inv
      clear hq3
      refine F_tk 9 inv ?_
      try simp only [tA,tB,tC,Act.put,tE,tF,tG]
      clear inv;intro inv
      have f0:=HQ.out.1.frozen 0
      have hlq:=HQ.out.1.lt
      refine F_l1 10 ?_;intro K hK
      go_simp
      refine hK _ _ ?_
      clear hK K inv hS
      have HQ2:=Hd_ HQ.out.2
      clear HQ f0 hlq HP3
      go_wp2_with fail
      go_roundw
      case rel=>exact ⟨i+1,_,_,by omega,by go_num,by simp [HT.out],by rw [take_snoc HXI.out,List.map_append,<- HTM.out,List.map_singleton,<- HTT.out],HQ2.out⟩
      case measure=>simp [intOf];omega
    · have hi24:¬ (i:Int)<=24:=by omega
      go_wp2_with fail
      refine (isValidExpr_any _ T _ HP.out.view).mono ?_
      rintro e w9 ⟨rfl,hb9⟩
      obtain ⟨ok,hok⟩:∃ ok,ok=okE T:=⟨_,rfl⟩
      rw [<- hok]
      have HOK:=Hd_ hok
      clear hok
      have HRAW:=Hd_ (show rawE s=T by rw [rawE,<- HCL.out,HTM.out];congr 1;(obtain rfl:i=25:=by omega);rfl)
      have HP9:=Hd_ (HP.out.below hb9)
      clear hb9 x0 HP
      have x0:w9.cell? ⟨w.heap.size+1,0,none⟩=some (.slice A3 n3 c3):=HP9.out.blk.cell 0
      have z0:w9.cell? ⟨w.heap.size,0,none⟩=some (.slice none 0 0):=HP9.out.res.cell 0
      have v0:=HP9.out.res.frozen 0
      have hlr:=HP9.out.res.lt
      cases ok
      · go_wp2_with fail
        exact bodyPost_ret (v:=.tuple #[.agg #[.slice none 0 0],.bool false]) (by simp [results,Tryz.results88,go_sem,z0,v0,hlr]) rfl ⟨_,_,rfl,by rw [parE,HRAW.out,<- HOK.out];exact HP9.out.offO⟩
      · go_wp2_with fail
        have HD:=HP9.out.doneO
        exact bodyPost_ret (v:=.tuple #[.agg #[.slice A3 n3 c3],.bool true]) (by simp [results,Tryz.results88,go_sem,z0,v0,hlr]) rfl ⟨_,_,rfl,by rw [parE,HRAW.out,<- HOK.out];exact HD⟩
  · have hin:¬ (i:Int) < (n:Int):=by omega
    go_wp2_with fail
    refine (isValidExpr_any _ T _ HP.out.view).mono ?_
    rintro e w9 ⟨rfl,hb9⟩
    obtain ⟨ok,hok⟩:∃ ok,ok=okE T:=⟨_,rfl⟩
    rw [<- hok]
    have HOK:=Hd_ hok
    clear hok
    have HRAW:=Hd_ (show rawE s=T by rw [rawE,<- HCL.out,HTM.out];congr 1;rw [List.take_of_length_le (by have:=HN.out;have:=HT.out;omega),List.take_of_length_le (by have:=HN.out;omega)])
    have HP9:=Hd_ (HP.out.below hb9)
    clear hb9 x0 HP
    have x0:w9.cell? ⟨w.heap.size+1,0,none⟩=some (.slice A3 n3 c3):=HP9.out.blk.cell 0
    have z0:w9.cell? ⟨w.heap.size,0,none⟩=some (.slice none 0 0):=HP9.out.res.cell 0
    have v0:=HP9.out.res.frozen 0
    have hlr:=HP9.out.res.lt
    cases ok
    · go_wp2_with fail
      exact bodyPost_ret (v:=.tuple #[.agg #[.slice none 0 0],.bool false]) (by simp [results,Tryz.results88,go_sem,z0,v0,hlr]) rfl ⟨_,_,rfl,by rw [parE,HRAW.out,<- HOK.out];exact HP9.out.offO⟩
    · go_wp2_with fail
      have HD:=HP9.out.doneO
      exact bodyPost_ret (v:=.tuple #[.agg #[.slice A3 n3 c3],.bool true]) (by simp [results,Tryz.results88,go_sem,z0,v0,hlr]) rfl ⟨_,_,rfl,by rw [parE,HRAW.out,<- HOK.out];exact HD⟩
set_option maxHeartbeats 1000000 in
/-- a text picked out of a list that was just laid -/
theorem l1Pick_is (b n:Nat) (cs:Array Value) (e:TypeId) (w:World) (hc:Cur w b) (hn:0 < n) (hm:n<=1000) (hcs:cs.size=n) (hall:cs.toList.all strOk=true) :
 Calls Tryz.prog 89 #[.pointer (some ⟨b,0,none⟩),.slice (some ⟨w.heap.size,0,none⟩) n n] (w.alloc (.cells cs e)) fun e' w'=>∃ r,e'=.returned (.string r)/\(r.size<=1000/\Value.string r ∈ cs.toList)/\Cur w' b/\Only b (b+1) (w.alloc (.cells cs e)) w':=by
 have hlt:=hc.lt
 have hal:=(Below.refl w.heap.size w).alloc (Nat.le_refl _) (.cells cs e)
 have hbk:=Blk.new w e cs _ rfl
 have HALL:=Hd_ hall
 have HCS:=Hd_ hcs
 have HC:=Hd_ (hc.keep hal)
 generalize hW:w.alloc (.cells cs e)=W at *
 clear hall hcs hal hW hc
 go_enter Tryz.func89,Tryz.ntmps89
 go_wp2_with fail
 refine (l1Below_any b _ _ HC.out).mono ?_;rintro e1 w1 ⟨r,rfl,⟨h0,-,h1⟩,hc1,ho1⟩
 have h1:=h1 (by omega)
 obtain ⟨i,rfl⟩:=Int.eq_ofNat_of_zero_le h0
 have hi:i < cs.size:=by have:=HCS.out;omega
 have hbk1:=hbk.only ho1 (.inr (by omega))
 have hci:=hbk1.cell i
 rw [Array.getElem?_eq_getElem hi] at hci
 obtain ⟨s,hs,hs2⟩:=strOk_of (List.all_eq_true.1 HALL.out cs[i] (by simp))
 rw [hs] at hci
 have HS2:=Hd_ hs2
 have HME:=Hd_ (show Value.string s ∈ cs.toList by rw [<- hs];simp)
 clear hs hs2 hbk hbk1
 go_wp2_with fail
 go_ret
 exact ⟨_,rfl,⟨HS2.out,HME.out⟩,hc1,ho1⟩
set_option maxRecDepth 100000 in
set_option maxHeartbeats 4000000 in
theorem l8Known_is (b:Nat) (w:World) (hc:Cur w b) :
 Calls Tryz.prog 74 #[.pointer (some ⟨b,0,none⟩)] w fun e w'=>∃ v l,e=.returned v/\TkO w.heap.size w'.heap.size w' v l/\(0 < l.length/\l.length<=100)/\Cur w' b/\Only b (b+1) w w':=by
 have hlt:=hc.lt
 have hb0:=(Below.refl w.heap.size w).alloc (Nat.le_refl _) (.cells #[.slice none 0 0] 46)
 have hbr:=Blk.new w 46 #[.slice none 0 0] _ rfl
 go_enter Tryz.func74,Tryz.ntmps74
 go_upto_region 1 with fail
 generalize w.alloc (.cells #[.slice none 0 0] 46)=W0 at *
 go_wp2_with fail
 refine (l1Pick_is b _ _ _ _ (hc.keep hb0) (by decide) (by decide) (by rfl) (by kernel_rfl)).mono ?_
 rintro e w1 ⟨s,rfl,⟨hs1,hme⟩,hc1,ho1⟩
 have hful:fullB (.string s)=true:=List.all_eq_true.1 (show _=true by kernel_rfl) _ hme
 have HFU:=Hd_ hful
 clear hme hful
 have hbr1:=(hbr.alloc _).only ho1 (.inr (by omega))
 have HO1:=Hd_ (((Only.of_below hb0 b (b+1)).alloc _).trans ho1)
 have hl1:=hbr1.lt
 have HC1:=Hd_ hc1
 clear ho1 hbr hb0 hc1
 go_wp2_with fail
 refine (parseExpr_is s _ hs1).mono ?_
 rintro e w2 ⟨v,is,rfl,hv,hb2⟩
 obtain ⟨l,hle⟩:∃ l,l=parE s:=⟨_,rfl⟩
 rw [<- hle] at hv
 have hl:0 < l.length/\l.length<=100:=by
  have h:=HFU.out
  unfold fullB at h
  simp only at h
  rw [<- hle] at h
  refine ⟨by cases l with | nil=>simp at h | cons x xs=>simp,?_⟩
  rw [hle];exact Nat.le_trans (parE_len s) (by omega)
 clear hle HFU
 obtain ⟨ss,rfl,hsv⟩:=hv
 obtain ⟨A,n,c,rfl⟩:=hsv.shape
 have hal:=(Below.refl w2.heap.size w2).alloc (Nat.le_refl _) (.cells #[.slice A n c] 46)
 have hbA:=below_trans hb2 hal
 have hbr2:=hbr1.keep hbA
 have HT:=Hd_ (show TkO (w.heap.size+1) _ _ (.agg #[.slice A n c]) l from ⟨_,rfl,(hsv.below hal (Nat.le_refl _)).mono (by omega) hal.size⟩)
 have HC2:=Hd_ (HC1.out.keep hbA)
 have HO2:=Hd_ (HO1.out.trans (Only.of_below hbA b (b+1)))
 have hbn:=Blk.new w2 46 #[.slice A n c] _ rfl
 have HL:=Hd_ hl
 clear hsv hbA hb2 hal hbr1 hl hs1
 go_upto_region 2 with fail
 generalize w2.alloc (.cells #[.slice A n c] 46)=W2 at *
 have x0:W2.cell? ⟨w2.heap.size,0,none⟩=some (.slice A n c):=hbn.cell 0
 have z0:W2.cell? ⟨w.heap.size,0,none⟩=some (.slice none 0 0):=hbr2.cell 0
 have v0:=hbr2.frozen 0
 have hlr:=hbr2.lt
 clear hbn hbr2
 go_wp2_with fail
 have HD:=tkO_done HT.out HC2.out HO2.out rfl hlt (.slice A n c)
 exact bodyPost_ret (v:=.agg #[.slice A n c]) (by simp [results,Tryz.results74,go_sem,z0,v0,hlr]) rfl ⟨_,l,rfl,HD.1,HL.out,HD.2.1,HD.2.2⟩
set_option maxHeartbeats 8000000 in
theorem l8Make_is (b:Nat):∀ (d:Nat) (w:World),Cur w b->d<=3 ->
 Calls Tryz.prog 75 #[.pointer (some ⟨b,0,none⟩),.int .i64 (d:Int)] w fun e w'=>∃ v l,e=.returned v/\TkO w.heap.size w'.heap.size w' v l/\(0 < l.length/\l.length+1<=2 ^ (d+1))/\Cur w' b/\Only b (b+1) w w':=by
 intro d
 induction d with
 | zero =>
   intro w hc _
   have hlt:=hc.lt
   have hb0:=(Below.refl w.heap.size w).alloc (Nat.le_refl _) (.cells #[.slice none 0 0] 46)
   have hbr:=Blk.new w 46 #[.slice none 0 0] _ rfl
   go_enter Tryz.func75,Tryz.ntmps75
   go_wp2_with fail
   refine (l1Once_any b 12 _ (hc.keep hb0)).mono ?_
   rintro e w1 ⟨r,rfl,hc1,ho1⟩
   have hbr1:=hbr.only ho1 (.inr (by omega))
   have hl1:=hbr1.lt
   have HO1:=Hd_ ((Only.of_below hb0 b (b+1)).trans ho1)
   clear hbr ho1 hb0
   cases r
   · have HSL:=Hd_ (litD_sl w1 3 #[.int .i64 0,.int .i64 0,.int .i64 2,.int .i64 2,.int .i64 1,.int .i64 4,.int .i64 3,.int .i64 6,.int .i64 7] [0,0,2,2,1,4,3,6,7] 9 (b+1) (by omega) (by decide) rfl rfl rfl)
     have HAL:=Hd_ ((Below.refl w1.heap.size w1).alloc (Nat.le_refl _) (.cells #[.int .i64 0,.int .i64 0,.int .i64 2,.int .i64 2,.int .i64 1,.int .i64 4,.int .i64 3,.int .i64 6,.int .i64 7] 3))
     go_wp2_with fail
     refine (l1PickInt_any b _ _ _ (hc1.keep HAL.out) (by decide) HSL.out).mono ?_
     rintro e w2 ⟨k,rfl,-,hc2,ho2⟩
     have hbr2:=(hbr1.keep HAL.out).only ho2 (.inr (by omega))
     have HO2:=Hd_ (HO1.out.trans ((Only.of_below HAL.out b (b+1)).trans ho2))
     have hl2:=hbr2.lt
     clear ho2 hbr1 hc1 HSL HAL
     go_wp2_with fail
     refine (letterExpr_any k _).mono ?_
     rintro e w3 ⟨v,rfl,ht,hb3⟩
     have HB3:=Hd_ (hbr2.keep hb3)
     have HO3:=Hd_ (HO2.out.trans (Only.of_below hb3 b (b+1)))
     have HC3:=Hd_ (hc2.keep hb3)
     have HT3:=Hd_ (ht.mono (lo':=w.heap.size+1) (by omega) (Nat.le_refl _))
     clear hbr2 hb3 hc2 ht
     obtain ⟨sx,rfl,hox⟩:=HT3.out
     obtain ⟨AX,nx,cx,rfl⟩:=hox.shape
     have bx:=HB3.out
     have z0:w3.cell? ⟨w.heap.size,0,none⟩=some (.slice none 0 0):=bx.cell 0
     have v0:=bx.frozen 0
     have hlr:=bx.lt
     clear bx hox
     go_wp2_with fail
     have HD:=tkO_done HT3.out HC3.out HO3.out rfl hlt (.slice AX nx cx)
     refine bodyPost_ret (v:=.agg #[.slice AX nx cx]) (by simp [results,Tryz.results75,go_sem,z0,v0,hlr]) rfl ⟨_,_,rfl,HD.1,⟨by simp,by simp⟩,HD.2.1,HD.2.2⟩
   · have HSL:=Hd_ (litD_sl w1 3 #[.int .i64 1,.int .i64 2] [1,2] 2 (b+1) (by omega) (by decide) rfl rfl rfl)
     have HAL:=Hd_ ((Below.refl w1.heap.size w1).alloc (Nat.le_refl _) (.cells #[.int .i64 1,.int .i64 2] 3))
     go_wp2_with fail
     refine (l1PickInt_any b _ _ _ (hc1.keep HAL.out) (by decide) HSL.out).mono ?_
     rintro e w2 ⟨k,rfl,-,hc2,ho2⟩
     have hbr2:=(hbr1.keep HAL.out).only ho2 (.inr (by omega))
     have HO2:=Hd_ (HO1.out.trans ((Only.of_below HAL.out b (b+1)).trans ho2))
     have hl2:=hbr2.lt
     clear ho2 hbr1 hc1 HSL HAL
     go_wp2_with fail
     refine (l8Leaf_any k _).mono ?_
     rintro e w3 ⟨v,rfl,ht,hb3⟩
     have HB3:=Hd_ (hbr2.keep hb3)
     have HO3:=Hd_ (HO2.out.trans (Only.of_below hb3 b (b+1)))
     have HC3:=Hd_ (hc2.keep hb3)
     have HT3:=Hd_ (ht.mono (lo':=w.heap.size+1) (by omega) (Nat.le_refl _))
     clear hbr2 hb3 hc2 ht
     obtain ⟨sx,rfl,hox⟩:=HT3.out
     obtain ⟨AX,nx,cx,rfl⟩:=hox.shape
     have bx:=HB3.out
     have z0:w3.cell? ⟨w.heap.size,0,none⟩=some (.slice none 0 0):=bx.cell 0
     have v0:=bx.frozen 0
     have hlr:=bx.lt
     clear bx hox
     go_wp2_with fail
     have HD:=tkO_done HT3.out HC3.out HO3.out rfl hlt (.slice AX nx cx)
     refine bodyPost_ret (v:=.agg #[.slice AX nx cx]) (by simp [results,Tryz.results75,go_sem,z0,v0,hlr]) rfl ⟨_,_,rfl,HD.1,⟨by simp,by simp⟩,HD.2.1,HD.2.2⟩
 | succ d ih =>
   intro w hc hd3
   have hlt:=hc.lt
   have hpw:(2:Nat) ^ (d+1+1)=2 * 2 ^ (d+1):=by rw [Nat.pow_succ];omega
   have hp8:(2:Nat) ^ (d+1)<=8:=Nat.le_trans (Nat.pow_le_pow_right (by decide) (show d+1<=3 by omega)) (by decide)
   have hb0:=(Below.refl w.heap.size w).alloc (Nat.le_refl _) (.cells #[.slice none 0 0] 46)
   have hbr:=Blk.new w 46 #[.slice none 0 0] _ rfl
   have hds:((d:Int)+1==0)=false:=by simp;omega
   rw [hpw]
   generalize (2:Nat) ^ (d+1)=P at *
   clear hpw
   go_enter Tryz.func75,Tryz.ntmps75
   go_wp2_with fail
   refine (l1Below_any b 6 _ (hc.keep hb0)).mono ?_
   rintro e w1 ⟨t,rfl,-,hc1,ho1⟩
   have hbr1:=hbr.only ho1 (.inr (by omega))
   have hl1:=hbr1.lt
   have HB1:=Hd_ hbr1
   have HC1:=Hd_ hc1
   have HO1:=Hd_ ((Only.of_below hb0 b (b+1)).trans ho1)
   clear hbr ho1 hb0 hds hbr1 hc1 hc
   by_cases ht0:t=0
   · subst ht0
     go_wp2_with fail
     refine (ih _ HC1.out (by omega)).mono ?_
     rintro e w2 ⟨v2,l2,rfl,h2,hn2,hc2,ho2⟩
     have HB2:=Hd_ (HB1.out.only ho2 (.inr (by omega)))
     have HO2:=Hd_ (HO1.out.trans ho2)
     have H2:=Hd_ h2.view
     have HC2:=Hd_ hc2
     have hz2:=ho2.size
     clear h2 hc2 ho2
     go_wp2_with fail
     refine (ih _ HC2.out (by omega)).mono ?_
     rintro e w3 ⟨v3,l3,rfl,h3,hn3,hc3,ho3⟩
     have HB3:=Hd_ (HB2.out.only ho3 (.inr (by omega)))
     have HO3:=Hd_ (HO2.out.trans ho3)
     have H23:=Hd_ (((H2.out.only ho3 (Nat.le_refl _) (.inr (by omega))).mono (Nat.zero_le _) ho3.size))
     have H3:=Hd_ (h3.view.mono (Nat.zero_le _) (Nat.le_refl _))
     have HC3:=Hd_ hc3
     have hz3:=ho3.size
     clear h3 hc3 ho3 H2
     go_wp2_with fail
     refine (l8Join_any _ _ l2 l3 (4,0,0,0) _ H23.out H3.out (by omega) (by omega)).mono ?_
     rintro e w4 ⟨v4,rfl,h4,hb4⟩
     have HB4:=Hd_ (HB3.out.keep hb4)
     have HO4:=Hd_ (HO3.out.trans (Only.of_below hb4 b (b+1)))
     have HC4:=Hd_ (HC3.out.keep hb4)
     have H4:=Hd_ (h4.mono (lo':=w.heap.size+1) (by omega) (Nat.le_refl _))
     clear h4 hb4
     obtain ⟨sx,rfl,hox⟩:=H4.out
     obtain ⟨AX,nx,cx,rfl⟩:=hox.shape
     have bx:=HB4.out
     have z0:w4.cell? ⟨w.heap.size,0,none⟩=some (.slice none 0 0):=bx.cell 0
     have v0:=bx.frozen 0
     have hlr:=bx.lt
     clear bx hox
     go_wp2_with fail
     have HD:=tkO_done H4.out HC4.out HO4.out rfl hlt (.slice AX nx cx)
     refine bodyPost_ret (v:=.agg #[.slice AX nx cx]) (by simp [results,Tryz.results75,go_sem,z0,v0,hlr]) rfl ⟨_,_,rfl,HD.1,⟨(by simp <;> omega),(by simp;omega)⟩,HD.2.1,HD.2.2⟩
   have hd0:(t==0)=false:=by simpa using ht0
   by_cases ht1:t=1
   · subst ht1
     go_wp2_with fail
     refine (ih _ HC1.out (by omega)).mono ?_
     rintro e w2 ⟨v2,l2,rfl,h2,hn2,hc2,ho2⟩
     have HB2:=Hd_ (HB1.out.only ho2 (.inr (by omega)))
     have HO2:=Hd_ (HO1.out.trans ho2)
     have H2:=Hd_ h2.view
     have HC2:=Hd_ hc2
     have hz2:=ho2.size
     clear h2 hc2 ho2
     go_wp2_with fail
     refine (ih _ HC2.out (by omega)).mono ?_
     rintro e w3 ⟨v3,l3,rfl,h3,hn3,hc3,ho3⟩
     have HB3:=Hd_ (HB2.out.only ho3 (.inr (by omega)))
     have HO3:=Hd_ (HO2.out.trans ho3)
     have H23:=Hd_ (((H2.out.only ho3 (Nat.le_refl _) (.inr (by omega))).mono (Nat.zero_le _) ho3.size))
     have H3:=Hd_ (h3.view.mono (Nat.zero_le _) (Nat.le_refl _))
     have HC3:=Hd_ hc3
     have hz3:=ho3.size
     clear h3 hc3 ho3 H2
     go_wp2_with fail
     refine (l8Join_any _ _ l2 l3 (4,0,0,0) _ H23.out H3.out (by omega) (by omega)).mono ?_
     rintro e w4 ⟨v4,rfl,h4,hb4⟩
     have HB4:=Hd_ (HB3.out.keep hb4)
     have HO4:=Hd_ (HO3.out.trans (Only.of_below hb4 b (b+1)))
     have HC4:=Hd_ (HC3.out.keep hb4)
     have H4:=Hd_ (h4.mono (lo':=w.heap.size+1) (by omega) (Nat.le_refl _))
     clear h4 hb4
     obtain ⟨sx,rfl,hox⟩:=H4.out
     obtain ⟨AX,nx,cx,rfl⟩:=hox.shape
     have bx:=HB4.out
     have z0:w4.cell? ⟨w.heap.size,0,none⟩=some (.slice none 0 0):=bx.cell 0
     have v0:=bx.frozen 0
     have hlr:=bx.lt
     clear bx hox
     go_wp2_with fail
     have HD:=tkO_done H4.out HC4.out HO4.out rfl hlt (.slice AX nx cx)
     refine bodyPost_ret (v:=.agg #[.slice AX nx cx]) (by simp [results,Tryz.results75,go_sem,z0,v0,hlr]) rfl ⟨_,_,rfl,HD.1,⟨(by simp <;> omega),(by simp;omega)⟩,HD.2.1,HD.2.2⟩
   have hd1:(t==1)=false:=by simpa using ht1
   by_cases ht2:t=2
   · subst ht2
     go_wp2_with fail
     refine (ih _ HC1.out (by omega)).mono ?_
     rintro e w2 ⟨v2,l2,rfl,h2,hn2,hc2,ho2⟩
     have HB2:=Hd_ (HB1.out.only ho2 (.inr (by omega)))
     have HO2:=Hd_ (HO1.out.trans ho2)
     have H2:=Hd_ h2.view
     have HC2:=Hd_ hc2
     have hz2:=ho2.size
     clear h2 hc2 ho2
     go_wp2_with fail
     refine (ih _ HC2.out (by omega)).mono ?_
     rintro e w3 ⟨v3,l3,rfl,h3,hn3,hc3,ho3⟩
     have HB3:=Hd_ (HB2.out.only ho3 (.inr (by omega)))
     have HO3:=Hd_ (HO2.out.trans ho3)
     have H23:=Hd_ (((H2.out.only ho3 (Nat.le_refl _) (.inr (by omega))).mono (Nat.zero_le _) ho3.size))
     have H3:=Hd_ (h3.view.mono (Nat.zero_le _) (Nat.le_refl _))
     have HC3:=Hd_ hc3
     have hz3:=ho3.size
     clear h3 hc3 ho3 H2
     go_wp2_with fail
     refine (l8Join_any _ _ l2 l3 (5,0,0,0) _ H23.out H3.out (by omega) (by omega)).mono ?_
     rintro e w4 ⟨v4,rfl,h4,hb4⟩
     have HB4:=Hd_ (HB3.out.keep hb4)
     have HO4:=Hd_ (HO3.out.trans (Only.of_below hb4 b (b+1)))
     have HC4:=Hd_ (HC3.out.keep hb4)
     have H4:=Hd_ (h4.mono (lo':=w.heap.size+1) (by omega) (Nat.le_refl _))
     clear h4 hb4
     obtain ⟨sx,rfl,hox⟩:=H4.out
     obtain ⟨AX,nx,cx,rfl⟩:=hox.shape
     have bx:=HB4.out
     have z0:w4.cell? ⟨w.heap.size,0,none⟩=some (.slice none 0 0):=bx.cell 0
     have v0:=bx.frozen 0
     have hlr:=bx.lt
     clear bx hox
     go_wp2_with fail
     have HD:=tkO_done H4.out HC4.out HO4.out rfl hlt (.slice AX nx cx)
     refine bodyPost_ret (v:=.agg #[.slice AX nx cx]) (by simp [results,Tryz.results75,go_sem,z0,v0,hlr]) rfl ⟨_,_,rfl,HD.1,⟨(by simp <;> omega),(by simp;omega)⟩,HD.2.1,HD.2.2⟩
   have hd2:(t==2)=false:=by simpa using ht2
   by_cases ht3:t=3
   · subst ht3
     go_wp2_with fail
     refine (ih _ HC1.out (by omega)).mono ?_
     rintro e w2 ⟨v2,l2,rfl,h2,hn2,hc2,ho2⟩
     have HB2:=Hd_ (HB1.out.only ho2 (.inr (by omega)))
     have HO2:=Hd_ (HO1.out.trans ho2)
     have H2:=Hd_ h2.view
     have HC2:=Hd_ hc2
     have hz2:=ho2.size
     clear h2 hc2 ho2
     go_wp2_with fail
     refine (ih _ HC2.out (by omega)).mono ?_
     rintro e w3 ⟨v3,l3,rfl,h3,hn3,hc3,ho3⟩
     have HB3:=Hd_ (HB2.out.only ho3 (.inr (by omega)))
     have HO3:=Hd_ (HO2.out.trans ho3)
     have H23:=Hd_ (((H2.out.only ho3 (Nat.le_refl _) (.inr (by omega))).mono (Nat.zero_le _) ho3.size))
     have H3:=Hd_ (h3.view.mono (Nat.zero_le _) (Nat.le_refl _))
     have HC3:=Hd_ hc3
     have hz3:=ho3.size
     clear h3 hc3 ho3 H2
     go_wp2_with fail
     refine (l8Join_any _ _ l2 l3 (5,0,0,0) _ H23.out H3.out (by omega) (by omega)).mono ?_
     rintro e w4 ⟨v4,rfl,h4,hb4⟩
     have HB4:=Hd_ (HB3.out.keep hb4)
     have HO4:=Hd_ (HO3.out.trans (Only.of_below hb4 b (b+1)))
     have HC4:=Hd_ (HC3.out.keep hb4)
     have H4:=Hd_ (h4.mono (lo':=w.heap.size+1) (by omega) (Nat.le_refl _))
     clear h4 hb4
     obtain ⟨sx,rfl,hox⟩:=H4.out
     obtain ⟨AX,nx,cx,rfl⟩:=hox.shape
     have bx:=HB4.out
     have z0:w4.cell? ⟨w.heap.size,0,none⟩=some (.slice none 0 0):=bx.cell 0
     have v0:=bx.frozen 0
     have hlr:=bx.lt
     clear bx hox
     go_wp2_with fail
     have HD:=tkO_done H4.out HC4.out HO4.out rfl hlt (.slice AX nx cx)
     refine bodyPost_ret (v:=.agg #[.slice AX nx cx]) (by simp [results,Tryz.results75,go_sem,z0,v0,hlr]) rfl ⟨_,_,rfl,HD.1,⟨(by simp <;> omega),(by simp;omega)⟩,HD.2.1,HD.2.2⟩
   have hdd3:(t==3)=false:=by simpa using ht3
   by_cases ht4:t=4
   · subst ht4
     go_wp2_with fail
     refine (ih _ HC1.out (by omega)).mono ?_
     rintro e w2 ⟨v2,l2,rfl,h2,hn2,hc2,ho2⟩
     have HB2:=Hd_ (HB1.out.only ho2 (.inr (by omega)))
     have HO2:=Hd_ (HO1.out.trans ho2)
     have H2:=Hd_ (h2.view.mono (Nat.zero_le _) (Nat.le_refl _))
     have HC2:=Hd_ hc2
     have hz2:=ho2.size
     clear h2 hc2 ho2
     go_wp2_with fail
     refine (l8Join_any _ _ l2 [] (6,0,0,0) _ H2.out (TkV.nil _ _ _) (by omega) (by simp)).mono ?_
     rintro e w4 ⟨v4,rfl,h4,hb4⟩
     have HB4:=Hd_ (HB2.out.keep hb4)
     have HO4:=Hd_ (HO2.out.trans (Only.of_below hb4 b (b+1)))
     have HC4:=Hd_ (HC2.out.keep hb4)
     have H4:=Hd_ (h4.mono (lo':=w.heap.size+1) (by omega) (Nat.le_refl _))
     clear h4 hb4
     obtain ⟨sx,rfl,hox⟩:=H4.out
     obtain ⟨AX,nx,cx,rfl⟩:=hox.shape
     have bx:=HB4.out
     have z0:w4.cell? ⟨w.heap.size,0,none⟩=some (.slice none 0 0):=bx.cell 0
     have v0:=bx.frozen 0
     have hlr:=bx.lt
     clear bx hox
     go_wp2_with fail
     have HD:=tkO_done H4.out HC4.out HO4.out rfl hlt (.slice AX nx cx)
     refine bodyPost_ret (v:=.agg #[.slice AX nx cx]) (by simp [results,Tryz.results75,go_sem,z0,v0,hlr]) rfl ⟨_,_,rfl,HD.1,⟨(by simp <;> omega),(by simp;omega)⟩,HD.2.1,HD.2.2⟩
   have hd4:(t==4)=false:=by simpa using ht4
   clear ht0 ht1 ht2 ht3 ht4
   go_wp2_with fail
   refine (l1Below_any b 3 _ HC1.out).mono ?_
   rintro e w5 ⟨h,rfl,⟨hh0,-,hh1⟩,hc5,ho5⟩
   have hh1:=hh1 (by omega)
   have HB5:=Hd_ (HB1.out.only ho5 (.inr (by omega)))
   have HO5:=Hd_ (HO1.out.trans ho5)
   have HC5:=Hd_ hc5
   have hz5:=ho5.size
   clear hc5 ho5 hd0 hd1 hd2 hdd3 hd4
   go_wp2_with fail
   refine (ih _ HC5.out (by omega)).mono ?_
   rintro e w2 ⟨v2,l2,rfl,h2,hn2,hc2,ho2⟩
   have HB2:=Hd_ (HB5.out.only ho2 (.inr (by omega)))
   have HO2:=Hd_ (HO5.out.trans ho2)
   have H2:=Hd_ h2.view
   have HC2:=Hd_ hc2
   have hz2:=ho2.size
   clear h2 hc2 ho2
   go_wp2_with fail
   refine (l1Below_any b _ _ HC2.out).mono ?_
   rintro e w3 ⟨lo,rfl,-,hc3,ho3⟩
   have HB3:=Hd_ (HB2.out.only ho3 (.inr (by omega)))
   have HO3:=Hd_ (HO2.out.trans ho3)
   have H23:=Hd_ (((H2.out.only ho3 (Nat.le_refl _) (.inr (by omega))).mono (Nat.zero_le _) ho3.size))
   have HC3:=Hd_ hc3
   have hz3:=ho3.size
   clear hc3 ho3 H2
   go_wp2_with fail
   refine (l8Join_any _ _ l2 [] (7,0,lo,1+h) _ H23.out (TkV.nil _ _ _) (by omega) (by simp)).mono ?_
   rintro e w4 ⟨v4,rfl,h4,hb4⟩
   have HB4:=Hd_ (HB3.out.keep hb4)
   have HO4:=Hd_ (HO3.out.trans (Only.of_below hb4 b (b+1)))
   have HC4:=Hd_ (HC3.out.keep hb4)
   have H4:=Hd_ (h4.mono (lo':=w.heap.size+1) (by omega) (Nat.le_refl _))
   clear h4 hb4
   obtain ⟨sx,rfl,hox⟩:=H4.out
   obtain ⟨AX,nx,cx,rfl⟩:=hox.shape
   have bx:=HB4.out
   have z0:w4.cell? ⟨w.heap.size,0,none⟩=some (.slice none 0 0):=bx.cell 0
   have v0:=bx.frozen 0
   have hlr:=bx.lt
   clear bx hox
   go_wp2_with fail
   have HD:=tkO_done H4.out HC4.out HO4.out rfl hlt (.slice AX nx cx)
   refine bodyPost_ret (v:=.agg #[.slice AX nx cx]) (by simp [results,Tryz.results75,go_sem,z0,v0,hlr]) rfl ⟨_,_,rfl,HD.1,⟨(by simp <;> omega),(by simp;omega)⟩,HD.2.1,HD.2.2⟩
set_option maxHeartbeats 4000000 in
theorem l8Expr_is (b:Nat) (w:World) (hc:Cur w b) :
 Calls Tryz.prog 64 #[.pointer (some ⟨b,0,none⟩)] w fun e w'=>∃ v l,e=.returned v/\TkO w.heap.size w'.heap.size w' v l/\(0 < l.length/\l.length<=100)/\Cur w' b/\Only b (b+1) w w':=by
 have hlt:=hc.lt
 have hb0:=(Below.refl w.heap.size w).alloc (Nat.le_refl _) (.cells #[.slice none 0 0] 46)
 have hbr:=Blk.new w 46 #[.slice none 0 0] _ rfl
 go_enter Tryz.func64,Tryz.ntmps64
 go_wp2_with fail
 refine (l1Once_any b 2 _ (hc.keep hb0)).mono ?_
 rintro e w1 ⟨r,rfl,hc1,ho1⟩
 have hbr1:=hbr.only ho1 (.inr (by omega))
 have hl1:=hbr1.lt
 have HO1:=Hd_ ((Only.of_below hb0 b (b+1)).trans ho1)
 clear hbr ho1 hb0
 cases r
 · go_wp2_with fail
   refine (l1Below_any b 3 _ hc1).mono ?_
   rintro e w2 ⟨k,rfl,⟨hk0,-,hk1⟩,hc2,ho2⟩
   have hk1:=hk1 (by omega)
   obtain ⟨k,rfl⟩:=Int.eq_ofNat_of_zero_le hk0
   have hbr2:=hbr1.only ho2 (.inr (by omega))
   have HO2:=Hd_ (HO1.out.trans ho2)
   have hl2:=hbr2.lt
   clear ho2 hbr1 hc1
   go_wp2_with fail
   have hmk:=l8Make_is b (1+k) _ hc2 (by omega)
   rw [show (((1+k:Nat)):Int)=1+(k:Int) by omega] at hmk
   refine hmk.mono ?_
   rintro e w3 ⟨v,l,rfl,ht,hl3,hc3,ho3⟩
   have HB3:=Hd_ (hbr2.only ho3 (.inr (by omega)))
   have HO3:=Hd_ (HO2.out.trans ho3)
   have HC3:=Hd_ hc3
   have HT3:=Hd_ (ht.mono (lo':=w.heap.size+1) (by omega) (Nat.le_refl _))
   have hp:(2:Nat) ^ (1+k+1)<=2 ^ 4:=Nat.pow_le_pow_right (by decide) (by omega)
   have HL:=Hd_ (show 0 < l.length/\l.length<=100 by simp at hp;omega)
   clear hbr2 hc3 ht ho3 hmk hp hl3
   obtain ⟨sx,rfl,hox⟩:=HT3.out
   obtain ⟨AX,nx,cx,rfl⟩:=hox.shape
   have bx:=HB3.out
   have z0:w3.cell? ⟨w.heap.size,0,none⟩=some (.slice none 0 0):=bx.cell 0
   have v0:=bx.frozen 0
   have hlr:=bx.lt
   clear bx hox
   go_wp2_with fail
   have HD:=tkO_done HT3.out HC3.out HO3.out rfl hlt (.slice AX nx cx)
   refine bodyPost_ret (v:=.agg #[.slice AX nx cx]) (by simp [results,Tryz.results64,go_sem,z0,v0,hlr]) rfl ⟨_,_,rfl,HD.1,HL.out,HD.2.1,HD.2.2⟩
 · go_wp2_with fail
   refine (l8Known_is b _ hc1).mono ?_
   rintro e w3 ⟨v,l,rfl,ht,hl3,hc3,ho3⟩
   have HB3:=Hd_ (hbr1.only ho3 (.inr (by omega)))
   have HO3:=Hd_ (HO1.out.trans ho3)
   have HC3:=Hd_ hc3
   have HT3:=Hd_ (ht.mono (lo':=w.heap.size+1) (by omega) (Nat.le_refl _))
   have HL:=Hd_ hl3
   clear hbr1 hc3 ht ho3 hl3 hc1
   obtain ⟨sx,rfl,hox⟩:=HT3.out
   obtain ⟨AX,nx,cx,rfl⟩:=hox.shape
   have bx:=HB3.out
   have z0:w3.cell? ⟨w.heap.size,0,none⟩=some (.slice none 0 0):=bx.cell 0
   have v0:=bx.frozen 0
   have hlr:=bx.lt
   clear bx hox
   go_wp2_with fail
   have HD:=tkO_done HT3.out HC3.out HO3.out rfl hlt (.slice AX nx cx)
   refine bodyPost_ret (v:=.agg #[.slice AX nx cx]) (by simp [results,Tryz.results64,go_sem,z0,v0,hlr]) rfl ⟨_,_,rfl,HD.1,HL.out,HD.2.1,HD.2.2⟩
end Go.Proofs.YtloeghbhoflabaaGreat
