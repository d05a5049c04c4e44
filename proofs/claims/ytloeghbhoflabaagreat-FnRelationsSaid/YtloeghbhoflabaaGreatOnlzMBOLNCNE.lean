/- Parts of the proof, joined into one text: PrsE, AnyE, RlsD, ArcM, LetM, ShelfP, PKey, Reslice, PairI, RelS, AutI, AreP. -/
import Derived.Test.YtloeghbhoflabaaGreatOnlzIEACLFLD
import Derived.RegionTactic
import Derived.BigRegion
import Derived.Test.YtloeghbhoflabaaGreatOnlzPILNJKCD
import Derived.Test.YtloeghbhoflabaaGreatOnlzMBBPDBAM
import Derived.Shelf.SlGeneric
import Derived.Shelf.SlSortCmp.WholeK
import Derived.Ground.SlsfProg
import Derived.Test.YtloeghbhoflabaaGreatProg
import Derived.Test.YtloeghbhoflabaaGreatOnlzNPPBGEHB
import Derived.Lib.SliceRun
set_option linter.unusedVariables false
set_option linter.unusedSimpArgs false
namespace Go.Proofs.YtloeghbhoflabaaGreat
open Go.ChangeShapes Go.WideShapes Go.ChangeAt Go.RowKit
attribute [local go_sem] ext_cell ext_frozen ext_lt ext_lt1 ext_lt2 ext_lt3 ltn2 ltn3 ltn13 lts1 lts2 lts3
def TwoPr (w:World) (e:Ending) (w':World):Prop:=∃ va vb a b,e=.returned (.tuple #[va,vb])/\(SlE w' cPr 2 va a/\a.length<=7/\SlE w' cPr 2 vb b/\b.length<=7/\Below w.heap.size w w')
def IntPr (w:World) (e:Ending) (w':World):Prop:=∃ n vb b,e=.returned (.tuple #[.int .i64 n,vb])/\(SlE w' cPr 2 vb b/\b.length<=7/\Below w.heap.size w w')
def PowPr (w:World) (e:Ending) (w':World):Prop:=∃ n vb b lo hi,e=.returned (.tuple #[.int .i64 n,vb,.int .i64 lo,.int .i64 hi])/\(SlE w' cPr 2 vb b/\b.length<=7/\Below w.heap.size w w')
set_option maxHeartbeats 2000000 in
theorem drawCompose_any (v:Value) (bs:List Int) (w:World) (hv:SlI 0 w.heap.size w cU 1 v bs) :
 Calls Tryz.prog 5 #[v] w (TwoPr w):=by
 have HV:=Hd_ hv
 obtain ⟨A,n,c,rfl⟩:=hv.shape
 clear hv
 go_enter Tryz.func5,Tryz.ntmps5
 go_wp2_with fail
 refine (l1New_any _ bs _ HV.out).mono ?_
 rintro e w1 ⟨b,rfl,hbl,hc1,hbw⟩
 have HB1:=Hd_ hbw
 have hlt:=hc1.lt
 clear hbw HV
 go_wp2_with fail
 refine (l15Any_any b _ hc1).mono ?_
 rintro e w2 ⟨va,a,rfl,how,hLw2,hcw2,how2⟩
 have hzw2:=how2.size
 have Hva:=Hd_ ((how.sl cPr_len))
 have HOw2:=Hd_ how2
 clear how how2
 obtain ⟨A1,n1,c1,rfl⟩:=Hva.out.shape
 go_wp2_with fail
 refine (l15Any_any b _ hcw2).mono ?_
 rintro e w3 ⟨vb,d,rfl,how,hLw3,hcw3,how3⟩
 have hzw3:=how3.size
 have Hvb:=Hd_ ((how.sl cPr_len))
 have HOw3:=Hd_ how3
 clear how how3
 obtain ⟨A2,n2,c2,rfl⟩:=Hvb.out.shape
 have HA:=Hd_ ((Hva.out.only HOw3.out (Nat.le_refl _) (.inr (by omega))).mono (lo':=0) (Nat.zero_le _) hzw3)
 have HD:=Hd_ (Hvb.out.mono (lo':=0) (Nat.zero_le _) (Nat.le_refl _))
 have HB:=Hd_ (HB1.out.trans ((HOw2.out.trans HOw3.out).below (B:=w.heap.size) hbl HB1.out.size))
 go_wp2_with fail
 go_ret2
 exact ⟨_,_,a,d,rfl,HA.out,hLw2,HD.out,hLw3,HB.out⟩
set_option maxHeartbeats 2000000 in
theorem drawClosure_any (v:Value) (bs:List Int) (w:World) (hv:SlI 0 w.heap.size w cU 1 v bs) :
 Calls Tryz.prog 10 #[v] w (IntPr w):=by
 have HV:=Hd_ hv
 obtain ⟨A,n,c,rfl⟩:=hv.shape
 clear hv
 go_enter Tryz.func10,Tryz.ntmps10
 go_wp2_with fail
 refine (l1New_any _ bs _ HV.out).mono ?_
 rintro e w1 ⟨b,rfl,hbl,hc1,hbw⟩
 have HB1:=Hd_ hbw
 have hlt:=hc1.lt
 clear hbw HV
 go_wp2_with fail
 have HSL:=Hd_ (litD_sl w1 3 #[.int .i64 5,.int .i64 5,.int .i64 5,.int .i64 3,.int .i64 0,.int .i64 6] [5,5,5,3,0,6] 6 (b+1) (by omega) (by decide) rfl rfl rfl)
 have hal:=(Below.refl w1.heap.size w1).alloc (Nat.le_refl _) (.cells #[.int .i64 5,.int .i64 5,.int .i64 5,.int .i64 3,.int .i64 0,.int .i64 6] 3)
 have HCA:=Hd_ (hc1.keep hal)
 have HBA:=Hd_ (below_trans HB1.out hal)
 clear hal hc1 HB1
 refine (l1PickInt_any b _ _ _ HCA.out (by decide) HSL.out).mono ?_
 rintro e w2 ⟨x,rfl,-,hc2,ho2⟩
 have HB2:=Hd_ (HBA.out.trans (ho2.below (B:=w.heap.size) hbl HBA.out.size))
 clear ho2 HSL HCA HBA
 go_wp2_with fail
 refine (l15Any_any b _ hc2).mono ?_
 rintro e w3 ⟨vb,d,rfl,how,hLw3,hcw3,how3⟩
 have hzw3:=how3.size
 have Hvb:=Hd_ ((how.sl cPr_len))
 have HOw3:=Hd_ how3
 clear how how3
 obtain ⟨A2,n2,c2,rfl⟩:=Hvb.out.shape
 have HB3:=Hd_ (HB2.out.trans (HOw3.out.below (B:=w.heap.size) hbl HB2.out.size))
 have hlt2:=hc2.lt
 clear hc2 HB2
 have HD:=Hd_ (Hvb.out.mono (lo':=0) (Nat.zero_le _) (Nat.le_refl _))
 go_wp2_with fail
 go_ret2
 exact ⟨_,_,d,rfl,HD.out,hLw3,HB3.out⟩
set_option maxHeartbeats 2000000 in
theorem drawPower_any (v:Value) (bs:List Int) (w:World) (hv:SlI 0 w.heap.size w cU 1 v bs) :
 Calls Tryz.prog 15 #[v] w (PowPr w):=by
 have HV:=Hd_ hv
 obtain ⟨A,n,c,rfl⟩:=hv.shape
 clear hv
 go_enter Tryz.func15,Tryz.ntmps15
 go_wp2_with fail
 refine (l1New_any _ bs _ HV.out).mono ?_
 rintro e w1 ⟨b,rfl,hbl,hc1,hbw⟩
 have HB1:=Hd_ hbw
 have hlt:=hc1.lt
 clear hbw HV
 go_wp2_with fail
 have HSL:=Hd_ (litD_sl w1 3 #[.int .i64 5,.int .i64 5,.int .i64 5,.int .i64 3,.int .i64 0,.int .i64 6] [5,5,5,3,0,6] 6 (b+1) (by omega) (by decide) rfl rfl rfl)
 have hal:=(Below.refl w1.heap.size w1).alloc (Nat.le_refl _) (.cells #[.int .i64 5,.int .i64 5,.int .i64 5,.int .i64 3,.int .i64 0,.int .i64 6] 3)
 have HCA:=Hd_ (hc1.keep hal)
 have HBA:=Hd_ (below_trans HB1.out hal)
 clear hal hc1 HB1
 refine (l1PickInt_any b _ _ _ HCA.out (by decide) HSL.out).mono ?_
 rintro e w2 ⟨x,rfl,-,hc2,ho2⟩
 have HB2:=Hd_ (HBA.out.trans (ho2.below (B:=w.heap.size) hbl HBA.out.size))
 clear ho2 HSL HCA HBA
 go_wp2_with fail
 refine (l15Any_any b _ hc2).mono ?_
 rintro e w3 ⟨vb,d,rfl,how,hLw3,hcw3,how3⟩
 have hzw3:=how3.size
 have Hvb:=Hd_ ((how.sl cPr_len))
 have HOw3:=Hd_ how3
 clear how how3
 obtain ⟨A2,n2,c2,rfl⟩:=Hvb.out.shape
 have HB3:=Hd_ (HB2.out.trans (HOw3.out.below (B:=w.heap.size) hbl HB2.out.size))
 have hlt2:=hc2.lt
 clear hc2 HB2
 go_wp2_with fail
 refine (l1Below_any b 5 _ hcw3).mono ?_
 rintro e w4 ⟨y,rfl,-,hc4,ho4⟩
 have hb1:b+1<=w2.heap.size:=by omega
 have HD4:=Hd_ ((Hvb.out.only ho4 (Nat.le_refl _) (.inr hb1)).mono (lo':=w2.heap.size) (Nat.le_refl _) ho4.size)
 have HB4:=Hd_ (HB3.out.trans (ho4.below (B:=w.heap.size) hbl HB3.out.size))
 clear ho4
 go_wp2_with fail
 refine (l1Below_any b 6 _ hc4).mono ?_
 rintro e w5 ⟨z,rfl,-,hc5,ho5⟩
 have HD:=Hd_ ((HD4.out.only ho5 (Nat.le_refl _) (.inr hb1)).mono (lo':=0) (Nat.zero_le _) ho5.size)
 have HB5:=Hd_ (HB4.out.trans (ho5.below (B:=w.heap.size) hbl HB4.out.size))
 clear ho5
 go_wp2_with fail
 refine bodyPost_ret (v:=.tuple #[.int .i64 x,.slice A2 n2 c2,.int .i64 (wrap64 (y - 1)),.int .i64 (wrap64 (z - 1))]) (by simp [results,Tryz.results15,go_sem]) rfl ⟨_,_,d,_,_,rfl,HD.out,hLw3,HB5.out⟩
def GrLt (w:World) (e:Ending) (w':World):Prop:=∃ vg g lt,e=.returned (.tuple #[vg,.int .i64 lt])/\(GrV 0 w'.heap.size w' vg g/\g.edges.length<=11/\Below w.heap.size w w')
set_option maxHeartbeats 2000000 in
theorem drawLetter_any (v:Value) (bs:List Int) (w:World) (hv:SlI 0 w.heap.size w cU 1 v bs) :
 Calls Tryz.prog 18 #[v] w (GrLt w):=by
 have HV:=Hd_ hv
 have hb0:=(Below.refl w.heap.size w).alloc (Nat.le_refl _) (.cells #[.slice none 0 0,.slice none 0 0] 40)
 have hbr:=Blk.new w 40 #[.slice none 0 0,.slice none 0 0] _ rfl
 have hs0:(w.alloc (.cells #[.slice none 0 0,.slice none 0 0] 40)).heap.size=w.heap.size+1:=by simp
 obtain ⟨A,n,c,rfl⟩:=hv.shape
 clear hv
 go_enter Tryz.func18,Tryz.ntmps18
 go_wp2_with fail
 refine (l1New_any _ bs _ ((HV.out.below hb0 (Nat.le_refl _)).mono (Nat.le_refl _) hb0.size)).mono ?_
 rintro e w1 ⟨b,rfl,hbl,hc1,hbw⟩
 have hr1:=hbr.keep hbw
 have HB1:=Hd_ (below_trans hb0 hbw)
 have hlt:=hc1.lt
 rw [hs0] at hbl
 clear hbw hb0 hbr hs0 HV
 go_wp2_with fail
 refine (l3Any_any b _ hc1).mono ?_
 rintro e w2 ⟨vg,g,rfl,hgv,⟨-,he⟩,hc2,ho2⟩
 obtain ⟨A1,n1,c1,A2,n2,c2,rfl⟩:=hgv.shape
 have HG2:=Hd_ hgv
 have hr2:=hr1.only ho2 (.inl (by omega))
 have HB2:=Hd_ (HB1.out.trans (ho2.below (B:=w.heap.size) (by omega) HB1.out.size))
 have hs2:=ho2.size
 clear ho2 hr1 HB1 hc1 hgv
 go_wp2_with fail
 refine (l2Draw_any b _ hc2).mono ?_
 rintro e w3 ⟨lt,rfl,hc3,ho3⟩
 have HG3:=Hd_ ((HG2.out.only ho3 (Nat.le_refl _) (.inr (by omega))).mono (Nat.le_refl _) ho3.size)
 have hr3:=hr2.only ho3 (.inl (by omega))
 have HB3:=Hd_ (HB2.out.trans (ho3.below (B:=w.heap.size) (by omega) HB2.out.size))
 have z0:w3.cell? ⟨w.heap.size,0,none⟩=some (.slice none 0 0):=hr3.cell 0
 have z1:w3.cell? ⟨w.heap.size,1,none⟩=some (.slice none 0 0):=hr3.cell 1
 have v0:=hr3.frozen 0
 have v1:=hr3.frozen 1
 have hlr:=hr3.lt
 have hp:=Only.put2 w3 w.heap.size (.slice A1 n1 c1) (.slice A2 n2 c2)
 have HD:=Hd_ ((HG3.out.only hp (Nat.le_refl _) (.inr (by omega))).mono (lo':=0) (Nat.zero_le _) hp.size)
 have HB4:=Hd_ (HB3.out.trans (hp.below (B:=w.heap.size) (Nat.le_refl _) HB3.out.size))
 clear ho3 hr3 hr2 hp HB2 HB3 HG2 HG3
 go_wp2_with fail
 exact bodyPost_ret (v:=.tuple #[.agg #[.slice A1 n1 c1,.slice A2 n2 c2],.int .i64 lt]) (by simp [results,Tryz.results18,go_sem,z0,z1,v0,v1,hlr]) rfl ⟨_,g,_,rfl,HD.out,he,HB4.out⟩
/-- an expression in the block q, its tokens in a row of its own; the result's block r -/
structure AyR (b r q:Nat) (w0 w:World) (ss:Value) (L:List Tok):Prop where
 res:Blk w r 46 #[.slice none 0 0]
 blk:Blk w q 46 #[ss]
 row:w.ownsRow (r+1) 94 4 ss L.length (L.flatMap cEd)
 far:ss.ownBlock ≠ some q
 cur:Cur w b
 only:Only b (b+1) w0 w
 at0:w0.heap.size=r
 ord:b < r/\r < q
section
variable {b r q:Nat} {w0 w w':World} {ss:Value} {L:List Tok}
theorem AyR.step (h:AyR b r q w0 w ss L) (ho:Only b (b+1) w w') (hc:Cur w' b):AyR b r q w0 w' ss L:=by
 have hd:=h.ord
 exact ⟨h.res.only ho (.inr (by omega)),h.blk.only ho (.inr (by omega)),own_only h.row ho (by omega),h.far,hc,h.only.trans ho,h.at0,hd⟩
theorem AyR.keep (h:AyR b r q w0 w ss L) (hb:Below w.heap.size w w'):AyR b r q w0 w' ss L :=
 ⟨h.res.keep hb,h.blk.keep hb,ownsRow_below h.row hb (Nat.le_refl _),h.far,h.cur.keep hb,h.only.trans (Only.of_below hb b (b+1)),h.at0,h.ord⟩
theorem AyR.push {L':List Tok} {g n c:Nat} (h:AyR b r q w0 w ss L) (hr:w'.ownsRow (r+1) 94 4 (.slice (some ⟨g,0,none⟩) n c) L'.length (L'.flatMap cEd)) (hg:w.grownBy w' ss.ownBlock) (hat:ss.ownBlock=some g ∨ w.heap.size<=g) :
 Blk w' q 46 #[ss]/\AyR b r q w0 (w'.setCell ⟨q,0,none⟩ (.slice (some ⟨g,0,none⟩) n c)) (.slice (some ⟨g,0,none⟩) n c) L':=by
 have hd:=h.ord
 have hq:=h.blk.lt
 have hrl:=h.res.lt
 have hb:=own_below h.row (by omega) hg
 have hfar:g ≠ q:=by
  rcases hat with h1 | h1
  · intro e;exact h.far (by rw [h1,e])
  · omega
 have hbq:Blk w' q 46 #[ss]:=(hg.block q hq (fun e=>h.far e.symm)).trans h.blk
 exact ⟨hbq,(h.res.below hb (by omega)).far (by simp only;omega) _,hbq.set_ 0 _,ownsRow_block hr (fun g' hg'=>by cases hg';exact Below.heap_setCell w' ⟨q,0,none⟩ _ g (by simp only;omega)),(fun e=>hfar (by injection e)),(h.cur.below hb (by omega)).set (by simp only;omega) _,(h.only.andBelow hb (by have:=h.at0;omega)).setCell (.inr (by have:=h.at0;simp only;omega)) _,h.at0,hd⟩
/-- what is handed back: whatever the block reads as -/
theorem AyR.done {vs:Value} {M:List Tok} (hres:Blk w r 46 #[.slice none 0 0]) (hs:SlI (r+1) w.heap.size w cEd 4 vs M) (hc:Cur w b) (ho:Only b (b+1) w0 w) (h0:w0.heap.size=r) (hb:b < r) :
 TkV w0.heap.size (w.setCell ⟨r,0,none⟩ vs).heap.size (w.setCell ⟨r,0,none⟩ vs) (.agg #[vs]) M/\Cur (w.setCell ⟨r,0,none⟩ vs) b/\Only b (b+1) w0 (w.setCell ⟨r,0,none⟩ vs):=by
 have hp:=(Only.refl r (r+1) w).setCell (p:=⟨r,0,none⟩) (.inl ⟨Nat.le_refl _,Nat.lt_succ_self _⟩) vs
 exact ⟨⟨vs,rfl,(hs.only hp (Nat.le_refl _) (.inr (Nat.le_refl _))).mono (by omega) hp.size⟩,hc.set (by simp only;omega) _,ho.setCell (.inr (by simp only;omega)) _⟩
theorem AyR.view (h:AyR b r q w0 w ss L):SlI (r+1) w.heap.size w cEd 4 ss L:=(Own.of_row (xs:=L) h.row rfl rfl).sl cEd_len
/-- the first token turned -/
theorem AyR.turn {g n c:Nat} {x:Tok} {L:List Tok} (h:AyR b r q w0 w (.slice (some ⟨g,0,none⟩) n c) (x :: L)) (t:Tok) :
 AyR b r q w0 ((((w.setCell ⟨g,0,none⟩ (.int .i64 t.1)).setCell ⟨g,1,none⟩ (.int .i64 t.2.1)).setCell ⟨g,2,none⟩ (.int .i64 t.2.2.1)).setCell ⟨g,3,none⟩ (.int .i64 t.2.2.2)) (.slice (some ⟨g,0,none⟩) n c) (t :: L):=by
 have hd:=h.ord
 have hq:=h.blk.lt
 have hl:=h.row.lt g rfl
 have hne:g ≠ q:=fun e=>h.far (by rw [e];rfl)
 have h0:=h.at0
 have hn:=h.row
 have hlen:n=(x :: L).length:=by
  rcases hn.2 with ⟨e,_⟩ | ⟨g',cap',cur,e,_⟩
  · cases e
  · injection e
 subst hlen
 have r1:=(World.ownsRow.stored hn 0 (.int .i64 t.1)).1
 have r2:=(World.ownsRow.stored r1 1 (.int .i64 t.2.1)).1
 have r3:=(World.ownsRow.stored r2 2 (.int .i64 t.2.2.1)).1
 have r4:=(World.ownsRow.stored r3 3 (.int .i64 t.2.2.2)).1
 have ho:Only g (g+1) w ((((w.setCell ⟨g,0,none⟩ (.int .i64 t.1)).setCell ⟨g,1,none⟩ (.int .i64 t.2.1)).setCell ⟨g,2,none⟩ (.int .i64 t.2.2.1)).setCell ⟨g,3,none⟩ (.int .i64 t.2.2.2)) :=
  ((((Only.refl g (g+1) w).setCell (p:=⟨g,0,none⟩) (.inl ⟨Nat.le_refl _,Nat.lt_succ_self _⟩) _).setCell (p:=⟨g,1,none⟩) (.inl ⟨Nat.le_refl _,Nat.lt_succ_self _⟩) _).setCell (p:=⟨g,2,none⟩) (.inl ⟨Nat.le_refl _,Nat.lt_succ_self _⟩) _).setCell (p:=⟨g,3,none⟩) (.inl ⟨Nat.le_refl _,Nat.lt_succ_self _⟩) _
 exact ⟨h.res.only ho (.inl (by omega)),h.blk.only ho (by omega),by simpa [cEd] using r4,h.far,h.cur.only ho (by omega),
  ((((h.only.setCell (p:=⟨g,0,none⟩) (.inr (by simp only;omega)) _).setCell (p:=⟨g,1,none⟩) (.inr (by simp only;omega)) _).setCell (p:=⟨g,2,none⟩) (.inr (by simp only;omega)) _).setCell (p:=⟨g,3,none⟩) (.inr (by simp only;omega)) _),h0,hd⟩
end
theorem sl_drop1 {lo hi g n c:Nat} {w:World} {L:List Tok} (h:SlI lo hi w cEd 4 (.slice (some ⟨g,0,none⟩) n c) L) (h0:0 < n):SlI lo hi w cEd 4 (.slice (if c=1 then some ⟨g,0,none⟩ else some ⟨g,4,none⟩) (n - 1) (c - 1)) (L.drop 1):=by
 obtain ⟨A',c',hv,h1,h2,hx⟩:=h
 simp only [Value.slice.injEq] at hv
 obtain ⟨rfl,rfl,rfl⟩:=hv
 have hld:(L.drop 1).length=L.length - 1:=List.length_drop
 refine ⟨_,_,by rw [hld],by rw [hld];omega,by omega,fun i x hi=>?_⟩
 have hi':=(List.getElem?_eq_some_iff.1 hi).1
 rw [hld] at hi'
 rw [List.getElem?_drop] at hi
 obtain ⟨b,o,hA,h4,h5,h6⟩:=hx (1+i) x hi
 simp only [Option.some.injEq,Addr.mk.injEq,and_true] at hA
 obtain ⟨rfl,rfl⟩:=hA
 rw [if_neg (by omega)]
 refine ⟨g,4,rfl,h4,h5,fun j u hu=>?_⟩
 have h7:=h6 j u hu
 rw [Nat.zero_add,Nat.add_mul,Nat.one_mul] at h7
 exact h7
def lenO (o:Option Value):Nat:=match o with | some (.slice _ n _)=>n | _=>0
def AnyEOut (b:Nat) (w:World) (e:Ending) (w':World):Prop:=∃ v l,e=.returned v/\TkV w.heap.size w'.heap.size w' v l/\l.length<=101/\Cur w' b/\Only b (b+1) w w'
set_option maxRecDepth 100000 in
set_option maxHeartbeats 8000000 in
theorem l8Any_any (b:Nat) (w:World) (hc:Cur w b) :
 Calls Tryz.prog 46 #[.pointer (some ⟨b,0,none⟩)] w (AnyEOut b w):=by
 have hlt:=hc.lt
 have hb0:=(Below.refl w.heap.size w).alloc (Nat.le_refl _) (.cells #[.slice none 0 0] 46)
 have hbr:=Blk.new w 46 #[.slice none 0 0] _ rfl
 have hs0:(w.alloc (.cells #[.slice none 0 0] 46)).heap.size=w.heap.size+1:=by simp
 go_enter Tryz.func46,Tryz.ntmps46
 go_wp2_with fail
 refine (l8Expr_is b _ (hc.keep hb0)).mono ?_
 rintro e w1 ⟨v,L,rfl,⟨ss,rfl,how⟩,⟨hl0,hl1⟩,hc1,ho1⟩
 rw [hs0] at how
 have hs1:=ho1.size
 rw [hs0] at hs1
 have hsh:∃ g c,ss=.slice (some ⟨g,0,none⟩) L.length c:=by
  obtain ⟨⟨hn,hr⟩,-⟩:=how
  rcases hr with ⟨-,h⟩ | ⟨g,cap,cur,h,-⟩
  · omega
  · exact ⟨g,cap,h⟩
 obtain ⟨g,c,rfl⟩:=hsh
 have hgl:=how.2 g rfl
 have hal:=(Below.refl w1.heap.size w1).alloc (Nat.le_refl _) (.cells #[.slice (some ⟨g,0,none⟩) L.length c] 46)
 have HA:=Hd_ (show AyR b w.heap.size w1.heap.size w (w1.alloc (.cells #[.slice (some ⟨g,0,none⟩) L.length c] 46)) (.slice (some ⟨g,0,none⟩) L.length c) L from
  ⟨(hbr.only ho1 (.inr (by omega))).keep hal,Blk.new w1 _ _ _ rfl,ownsRow_below how.1 hal (Nat.le_refl _),(fun e=>by have e:=Option.some.inj (show some g=some w1.heap.size from e);omega),hc1.keep hal,((Only.of_below hb0 b (b+1)).trans ho1).trans (Only.of_below hal b (b+1)),rfl,by omega⟩)
 obtain ⟨q,hq⟩:∃ q,q=w1.heap.size:=⟨_,rfl⟩
 rw [<- hq] at HA
 obtain ⟨W1,hW1⟩:∃ W1,W1=w1.alloc (.cells #[.slice (some ⟨g,0,none⟩) L.length c] 46):=⟨_,rfl⟩
 rw [<- hW1] at HA
 obtain ⟨n,hn⟩:∃ n,n=L.length:=⟨_,rfl⟩
 rw [<- hn] at HA hl0 hl1 hW1 ⊢
 have HN:=Hd_ hn
 have HW1:=Hd_ hW1
 have HQ:=Hd_ hq
 clear how hal ho1 hc1 hbr hb0 hs0 hW1 hq hc hn hgl hs1
 go_upto_region 2 with fail
 rw [<- HW1.out]
 rw [<- HQ.out]
 clear HW1 HQ
 go_wp2_with fail
 refine (l1Below_any b 14 _ HA.out.cur).mono ?_
 rintro e w2 ⟨t,rfl,-,hc2,ho2⟩
 have HA2:=Hd_ (HA.out.step ho2 hc2)
 clear HA hc2 ho2
 have hord:=HA2.out.ord
 have hbl:=HA2.out.blk.lt
 by_cases ht0:t=0
 · subst ht0
   have x0:w2.cell? ⟨q,0,none⟩=some (.slice (some ⟨g,0,none⟩) n c):=HA2.out.blk.cell 0
   have f0:=HA2.out.blk.frozen 0
   have hc1:=HA2.out.row
   have hcn:n<=c:=by
    rcases hc1.2 with ⟨h,_⟩ | ⟨g',cap',cur,h,_,_,hnc,_⟩
    · cases h
    · injection h with _ h2 h3;omega
   have hnz:¬ n=0:=by omega
   have h1n:1<=n:=by omega
   have h1i:(1:Int)<=(n:Int):=by omega
   have hne:¬ q=w.heap.size:=by omega
   have hvw:=sl_drop1 HA2.out.view hl0
   have hp:=(Only.refl q (q+1) w2).setCell (p:=⟨q,0,none⟩) (.inl ⟨Nat.le_refl _,Nat.lt_succ_self _⟩) (.slice (if c=1 then some ⟨g,0,none⟩ else some ⟨g,4,none⟩) (n - 1) (c - 1))
   have hgq:g ≠ q:=fun e=>HA2.out.far (by rw [e];rfl)
   have hvw2:SlI (w.heap.size+1) (w2.setCell ⟨q,0,none⟩ (.slice (if c=1 then some ⟨g,0,none⟩ else some ⟨g,4,none⟩) (n - 1) (c - 1))).heap.size (w2.setCell ⟨q,0,none⟩ (.slice (if c=1 then some ⟨g,0,none⟩ else some ⟨g,4,none⟩) (n - 1) (c - 1))) cEd 4 (.slice (if c=1 then some ⟨g,0,none⟩ else some ⟨g,4,none⟩) (n - 1) (c - 1)) (L.drop 1):=by
    obtain ⟨A',c',e1,e2,e3,e4⟩:=hvw
    refine ⟨A',c',e1,e2,e3,fun i x hi=>?_⟩
    obtain ⟨b',o',k1,k2,k3,k4⟩:=e4 i x hi
    refine ⟨b',o',k1,k2,Nat.lt_of_lt_of_le k3 hp.size,fun j u hu=>?_⟩
    have hbg:b'=g:=by
     injection e1 with e5
     rw [k1] at e5
     split at e5 <;> (injection e5 with e5;injection e5 with e6 e7;exact e6.symm)
    exact (hp.cell (p:=⟨b',o'+i * 4+j,none⟩) k3 (by rw [hbg];simp only;omega)).trans (k4 j u hu)
   have hres:=HA2.out.res.far (p:=⟨q,0,none⟩) (by simp only;omega) (.slice (if c=1 then some ⟨g,0,none⟩ else some ⟨g,4,none⟩) (n - 1) (c - 1))
   have hbk:=HA2.out.blk.set_ 0 (.slice (if c=1 then some ⟨g,0,none⟩ else some ⟨g,4,none⟩) (n - 1) (c - 1))
   have hcu:=HA2.out.cur.set (p:=⟨q,0,none⟩) (by simp only;omega) (.slice (if c=1 then some ⟨g,0,none⟩ else some ⟨g,4,none⟩) (n - 1) (c - 1))
   have hon:=HA2.out.only.setCell (p:=⟨q,0,none⟩) (.inr (by simp only;omega)) (.slice (if c=1 then some ⟨g,0,none⟩ else some ⟨g,4,none⟩) (n - 1) (c - 1))
   have HD:=Hd_ (AyR.done hres hvw2 hcu hon rfl hlt)
   have HRES:=Hd_ hres
   have HBK:=Hd_ (show Blk _ q _ #[.slice (if c=1 then some ⟨g,0,none⟩ else some ⟨g,4,none⟩) (n - 1) (c - 1)] from hbk)
   have hdl:(L.drop 1).length<=101:=by rw [List.length_drop];have:=HN.out;omega
   have HDL:=Hd_ hdl
   clear hc1 hvw hp hvw2 hres hbk hcu hon hgq HA2 hdl
   by_cases hcc:c=1
   · subst hcc
     obtain rfl:n=1:=by omega
     simp only [if_true,Nat.sub_self] at HD HRES HBK
     go_upto_region 12 with fail
     clear x0 f0
     generalize w2.setCell ⟨q,0,none⟩ (.slice (some ⟨g,0,none⟩) 0 0)=W3 at *
     have x0:W3.cell? ⟨q,0,none⟩=some (.slice (some ⟨g,0,none⟩) 0 0):=(HBK.out).cell 0
     have z0:W3.cell? ⟨w.heap.size,0,none⟩=some (.slice none 0 0):=(HRES.out).cell 0
     have v0:=(HRES.out).frozen 0
     have hlr:=(HRES.out).lt
     go_wp2_with fail
     exact bodyPost_ret (v:=.agg #[.slice (some ⟨g,0,none⟩) 0 0]) (by simp [results,Tryz.results46,go_sem,z0,v0,hlr]) rfl ⟨_,_,rfl,HD.out.1,HDL.out,HD.out.2.1,HD.out.2.2⟩
   · simp only [if_neg hcc] at HD HRES HBK
     go_upto_region 12 with fail
     clear x0 f0
     generalize w2.setCell ⟨q,0,none⟩ (.slice (some ⟨g,4,none⟩) (n - 1) (c - 1))=W3 at *
     have x0:W3.cell? ⟨q,0,none⟩=some (.slice (some ⟨g,4,none⟩) (n - 1) (c - 1)):=(HBK.out).cell 0
     have z0:W3.cell? ⟨w.heap.size,0,none⟩=some (.slice none 0 0):=(HRES.out).cell 0
     have v0:=(HRES.out).frozen 0
     have hlr:=(HRES.out).lt
     go_wp2_with fail
     exact bodyPost_ret (v:=.agg #[.slice (some ⟨g,4,none⟩) (n - 1) (c - 1)]) (by simp [results,Tryz.results46,go_sem,z0,v0,hlr]) rfl ⟨_,_,rfl,HD.out.1,HDL.out,HD.out.2.1,HD.out.2.2⟩
 have hd0:(t==0)=false:=by simpa using ht0
 by_cases ht1:t=1
 · subst ht1
   obtain ⟨x,L1,rfl⟩:∃ x L1,L=x :: L1:=by
    cases L with
    | nil=>have:=HN.out;simp at this;omega
    | cons x L1=>exact ⟨x,L1,rfl⟩
   have h0i:(0:Int) < (n:Int):=by omega
   have x0:w2.cell? ⟨q,0,none⟩=some (.slice (some ⟨g,0,none⟩) n c):=by exact HA2.out.blk.cell 0
   go_wp2_with fail
   refine F_start 12 (fun w'=>w'.cell? ⟨q,0,none⟩=some (.slice (some ⟨g,0,none⟩) n c)) (by kernel_rfl) (by exact x0) (fun hS inv=>?_)
   refine F_tk 0 inv ?_
   try simp only [tA,tB,tC,Act.put,tE,tF,tG]
   clear inv;intro inv
   refine F_tk 1 inv ?_
   try simp only [tA,tB,tC,Act.put,tE,tF,tG]
   clear inv;intro inv
   refine F_tk 2 inv ?_
   try simp only [tA,tB,tC,Act.put,tE,tF,tG]
   clear inv;intro inv
   refine F_tk 4 inv ?_
   try simp only [tA,tB,tC,Act.put,tE,tF,tG]
   clear inv;intro inv
   refine F_tk 6 inv ?_
   try simp only [tA,tB,tC,Act.put,tE,tF,tG]
   clear inv;intro inv
   refine F_tk 8 inv ?_
   try simp only [tA,tB,tC,Act.put,tE,tF,tG]
   clear inv;intro inv
   have HAd:=Hd_ (HA2.out.keep (Below.refl w2.heap.size w2).drew)
   clear x0 HA2
   refine F_o1 3 inv ?_;intro K hK
   try simp only [tA,tB,tC]
   go_simp
   refine (l1Below_any b 9 _ HAd.out.cur).mono ?_
   rintro e w3 ⟨k3,rfl,-,hcz,hoz⟩
   have HA3:=Hd_ (HAd.out.step hoz hcz)
   clear hoz hcz HAd
   refine hK.out _ _ ((HA3.out.blk.cell 0)) (fun _ _=>?_)
   try simp only [tA,tB,tC,Act.put,tE,tF,tG]
   clear hK K inv hS;rename_i hS inv
   refine F_o1 5 inv ?_;intro K hK
   try simp only [tA,tB,tC]
   go_simp
   refine (l1Below_any b 10 _ HA3.out.cur).mono ?_
   rintro e w4 ⟨k4,rfl,-,hcz,hoz⟩
   have HA4:=Hd_ (HA3.out.step hoz hcz)
   clear hoz hcz HA3
   refine hK.out _ _ ((HA4.out.blk.cell 0)) (fun _ _=>?_)
   try simp only [tA,tB,tC,Act.put,tE,tF,tG]
   clear hK K inv hS;rename_i hS inv
   refine F_o1 7 inv ?_;intro K hK
   try simp only [tA,tB,tC]
   go_simp
   refine (l1Below_any b 3 _ HA4.out.cur).mono ?_
   rintro e w5 ⟨k5,rfl,-,hcz,hoz⟩
   have HA5:=Hd_ (HA4.out.step hoz hcz)
   clear hoz hcz HA4
   refine hK.out _ _ ((HA5.out.blk.cell 0)) (fun _ _=>?_)
   try simp only [tA,tB,tC,Act.put,tE,tF,tG]
   clear hK K inv hS;rename_i hS inv
   refine F_o1 9 inv ?_;intro K hK
   try simp only [tA,tB,tC]
   go_simp
   refine (l1Below_any b 5 _ HA5.out.cur).mono ?_
   rintro e w6 ⟨k6,rfl,-,hcz,hoz⟩
   have HA6:=Hd_ (HA5.out.step hoz hcz)
   clear hoz hcz HA5
   refine hK.out _ _ ((HA6.out.blk.cell 0)) (fun _ _=>?_)
   try simp only [tA,tB,tC,Act.put,tE,tF,tG]
   clear hK K inv hS;rename_i hS inv
   refine F_tk 10 inv ?_
   try simp only [tA,tB,tC,Act.put,tE,tF,tG]
   clear inv;intro inv
   refine F_tk 11 inv ?_
   try simp only [tA,tB,tC,Act.put,tE,tF,tG]
   clear inv;intro inv
   have HA7:=Hd_ (HA6.out.turn (k3,k4,k5,k6))
   have hrow:=HA6.out.row
   rw [<- HN.out] at hrow
   obtain ⟨x0a,x1a,x2a,x3a⟩:=x
   have c0:=World.ownsRow.cellAt hrow 0 (by omega)
   have c1:=World.ownsRow.cellAt hrow 1 (by omega)
   have c2:=World.ownsRow.cellAt hrow 2 (by omega)
   have c3:=World.ownsRow.cellAt hrow 3 (by omega)
   have f0:=World.ownsRow.frozenAt hrow 0
   have f1:=World.ownsRow.frozenAt hrow 1
   have f2:=World.ownsRow.frozenAt hrow 2
   have f3:=World.ownsRow.frozenAt hrow 3
   have hgl:=(hrow.lt g rfl).2
   simp [cEd] at c0 c1 c2 c3
   clear hrow
   refine F_l1 12 ?_;intro K hK
   go_simp
   refine hK _ _ ?_
   clear hK K
   clear c0 c1 c2 c3 f0 f1 f2 f3
   go_upto_region 12 with fail
   generalize (((w6.setCell ⟨g,0,none⟩ (.int .i64 k3)).setCell ⟨g,1,none⟩ (.int .i64 k4)).setCell ⟨g,2,none⟩ (.int .i64 k5)).setCell ⟨g,3,none⟩ (.int .i64 k6)=W7 at *
   have HD:=Hd_ (AyR.done HA7.out.res HA7.out.view HA7.out.cur HA7.out.only rfl hlt)
   have HRS:=Hd_ HA7.out.res
   have HBK:=Hd_ HA7.out.blk
   have x0:W7.cell? ⟨q,0,none⟩=some (.slice (some ⟨g,0,none⟩) n c):=(HBK.out).cell 0
   have z0:W7.cell? ⟨w.heap.size,0,none⟩=some (.slice none 0 0):=(HRS.out).cell 0
   have v0:=(HRS.out).frozen 0
   have hlr:=(HRS.out).lt
   go_wp2_with fail
   exact bodyPost_ret (v:=.agg #[.slice (some ⟨g,0,none⟩) n c]) (by simp [results,Tryz.results46,go_sem,z0,v0,hlr]) rfl ⟨_,_,rfl,HD.out.1,(by have:=HN.out;simp at this ⊢;omega),HD.out.2.1,HD.out.2.2⟩
 have hd1:(t==1)=false:=by simpa using ht1
 by_cases ht2:t=2
 · subst ht2
   go_wp2_with fail
   go_loopw [45] (fun _ wr=>∃ (ss:Value) (M:List Tok),M.length<=100/\AyR b w.heap.size q w wr ss M) (fun _ wr=>24 - lenO (wr.cell? ⟨q,0,none⟩))
   case atStart=>exact ⟨_,L,by have:=HN.out;omega,HA2.out⟩
   case round =>
    obtain ⟨ss,M,hM,hA⟩:=hrel
    have HA:=Hd_ hA
    obtain ⟨A4,m,c4,rfl⟩:=rowShape hA.row
    have hml:m=M.length:=by
     rcases hA.row.2 with ⟨e,h⟩ | ⟨g',cap',cur,e,_⟩
     · injection e with _ e2;rw [e2,h]
     · injection e
    rw [<- hml] at hM
    have HM:=Hd_ hml
    have y9:wr.cell? ⟨q,0,none⟩=some (.slice A4 m c4):=hA.blk.cell 0
    have hlq:=hA.blk.lt
    clear hA hml HA2
    by_cases hm:0 < m/\m < 24
    · obtain ⟨hm0,hm1⟩:=hm
      have hi0:(0:Int) < (m:Int):=by omega
      have hi1:(m:Int) < 24:=by omega
      have hML:M.length<=100:=by have:=HM.out;omega
      go_wp2_with (at_builtin;(refine wpList_append2 cEd elTok rfl _ _ (by rfl) (w.heap.size+1) _ M (6,0,0,0) 1 _ (by rfl) (HA.out.row.alloc _) (by rfl) (heap_alloc_new _ _) rfl (cEd_one _) (by omega) (by omega) (by have h1:=HA.out.blk.lt;have h2:=HA.out.ord;simp;omega) ?_);intro g2 cp2 w9 hown9 hgr9 hat9 hlt9;have HP:=Hd_ ((HA.out.keep ((Below.refl _ _).alloc (Nat.le_refl _) (.cells #[.int .i64 6,.int .i64 0,.int .i64 0,.int .i64 0] 94))).push hown9 hgr9 hat9);have y9:w9.cell? ⟨q,0,none⟩=some (.slice A4 m c4):=HP.out.1.cell 0;have f9:=HP.out.1.frozen 0;have lp:=HP.out.1.lt;clear hown9 hgr9 hat9)
      have HW:=Hd_ HP.out.2
      have HYN:=Hd_ (HW.out.blk.cell 0)
      have HYO:=Hd_ (HA.out.blk.cell 0)
      clear y9 f9 lp HP
      go_roundw
      case rel=>exact ⟨_,_,by simp;have:=HM.out;omega,HW.out⟩
      case measure =>
       have hyo:=HYO.out
       have hyn:_=some (Value.slice (some ⟨g2,0,none⟩) (M.length+1) cp2):=HYN.out
       rw [hyn,show wr.cell? ⟨q,0,none⟩=some (.slice A4 m c4) from hyo]
       have:=HM.out
       simp only [lenO]
       omega
    · rcases Nat.eq_zero_or_pos m with hz | hz
      · have hi0:¬ (0:Int) < (m:Int):=by omega
        clear hz hm
        go_wp2_with fail
        refine (l1Once_any b 2 _ HA.out.cur).mono ?_
        rintro e w5 ⟨t,rfl,hc5,ho5⟩
        have HA5:=Hd_ (HA.out.step ho5 hc5)
        have y9:w5.cell? ⟨q,0,none⟩=some (.slice A4 m c4):=HA5.out.blk.cell 0
        have hlq:=HA5.out.blk.lt
        clear ho5 hc5 HA
        cases t
        · clear y9
          have HD:=Hd_ (AyR.done HA5.out.res HA5.out.view HA5.out.cur HA5.out.only rfl hlt)
          have HRS:=Hd_ HA5.out.res
          have HBK:=Hd_ HA5.out.blk
          have x0:w5.cell? ⟨q,0,none⟩=some (.slice A4 m c4):=(HBK.out).cell 0
          have z0:w5.cell? ⟨w.heap.size,0,none⟩=some (.slice none 0 0):=(HRS.out).cell 0
          have v0:=(HRS.out).frozen 0
          have hlr:=(HRS.out).lt
          go_wp2_with fail
          exact bodyPost_ret (v:=.agg #[.slice A4 m c4]) (by simp [results,Tryz.results46,go_sem,z0,v0,hlr]) rfl ⟨_,_,rfl,HD.out.1,(by have:=HM.out;omega),HD.out.2.1,HD.out.2.2⟩
        · have hML:M.length<=100:=by have:=HM.out;omega
          go_upto_region 12 with (at_builtin;(refine wpList_append2 cEd elTok rfl _ _ (by rfl) (w.heap.size+1) _ M (6,0,0,0) 1 _ (by rfl) (HA5.out.row.alloc _) (by rfl) (heap_alloc_new _ _) rfl (cEd_one _) (by omega) (by omega) (by have h1:=HA5.out.blk.lt;have h2:=HA5.out.ord;simp;omega) ?_);intro g2 cp2 w9 hown9 hgr9 hat9 hlt9;have HP:=Hd_ ((HA5.out.keep ((Below.refl _ _).alloc (Nat.le_refl _) (.cells #[.int .i64 6,.int .i64 0,.int .i64 0,.int .i64 0] 94))).push hown9 hgr9 hat9);have y9:w9.cell? ⟨q,0,none⟩=some (.slice A4 m c4):=HP.out.1.cell 0;have f9:=HP.out.1.frozen 0;have lp:=HP.out.1.lt;clear hown9 hgr9 hat9)
          have HW:=Hd_ HP.out.2
          clear y9 f9 lp HP HA5
          generalize w9.setCell ⟨q,0,none⟩ (.slice (some ⟨g2,0,none⟩) (M.length+1) cp2)=W7 at *
          have HD:=Hd_ (AyR.done HW.out.res HW.out.view HW.out.cur HW.out.only rfl hlt)
          have HRS:=Hd_ HW.out.res
          have HBK:=Hd_ HW.out.blk
          have x0:W7.cell? ⟨q,0,none⟩=some (.slice (some ⟨g2,0,none⟩) (M.length+1) cp2):=(HBK.out).cell 0
          have z0:W7.cell? ⟨w.heap.size,0,none⟩=some (.slice none 0 0):=(HRS.out).cell 0
          have v0:=(HRS.out).frozen 0
          have hlr:=(HRS.out).lt
          go_wp2_with fail
          exact bodyPost_ret (v:=.agg #[.slice (some ⟨g2,0,none⟩) (M.length+1) cp2]) (by simp [results,Tryz.results46,go_sem,z0,v0,hlr]) rfl ⟨_,_,rfl,HD.out.1,(by simp;have:=HM.out;omega),HD.out.2.1,HD.out.2.2⟩
      · have hi0:(0:Int) < (m:Int):=by omega
        have hi1:¬ (m:Int) < 24:=by omega
        clear hz hm
        go_wp2_with fail
        refine (l1Once_any b 2 _ HA.out.cur).mono ?_
        rintro e w5 ⟨t,rfl,hc5,ho5⟩
        have HA5:=Hd_ (HA.out.step ho5 hc5)
        have y9:w5.cell? ⟨q,0,none⟩=some (.slice A4 m c4):=HA5.out.blk.cell 0
        have hlq:=HA5.out.blk.lt
        clear ho5 hc5 HA
        cases t
        · clear y9
          have HD:=Hd_ (AyR.done HA5.out.res HA5.out.view HA5.out.cur HA5.out.only rfl hlt)
          have HRS:=Hd_ HA5.out.res
          have HBK:=Hd_ HA5.out.blk
          have x0:w5.cell? ⟨q,0,none⟩=some (.slice A4 m c4):=(HBK.out).cell 0
          have z0:w5.cell? ⟨w.heap.size,0,none⟩=some (.slice none 0 0):=(HRS.out).cell 0
          have v0:=(HRS.out).frozen 0
          have hlr:=(HRS.out).lt
          go_wp2_with fail
          exact bodyPost_ret (v:=.agg #[.slice A4 m c4]) (by simp [results,Tryz.results46,go_sem,z0,v0,hlr]) rfl ⟨_,_,rfl,HD.out.1,(by have:=HM.out;omega),HD.out.2.1,HD.out.2.2⟩
        · have hML:M.length<=100:=by have:=HM.out;omega
          go_upto_region 12 with (at_builtin;(refine wpList_append2 cEd elTok rfl _ _ (by rfl) (w.heap.size+1) _ M (6,0,0,0) 1 _ (by rfl) (HA5.out.row.alloc _) (by rfl) (heap_alloc_new _ _) rfl (cEd_one _) (by omega) (by omega) (by have h1:=HA5.out.blk.lt;have h2:=HA5.out.ord;simp;omega) ?_);intro g2 cp2 w9 hown9 hgr9 hat9 hlt9;have HP:=Hd_ ((HA5.out.keep ((Below.refl _ _).alloc (Nat.le_refl _) (.cells #[.int .i64 6,.int .i64 0,.int .i64 0,.int .i64 0] 94))).push hown9 hgr9 hat9);have y9:w9.cell? ⟨q,0,none⟩=some (.slice A4 m c4):=HP.out.1.cell 0;have f9:=HP.out.1.frozen 0;have lp:=HP.out.1.lt;clear hown9 hgr9 hat9)
          have HW:=Hd_ HP.out.2
          clear y9 f9 lp HP HA5
          generalize w9.setCell ⟨q,0,none⟩ (.slice (some ⟨g2,0,none⟩) (M.length+1) cp2)=W7 at *
          have HD:=Hd_ (AyR.done HW.out.res HW.out.view HW.out.cur HW.out.only rfl hlt)
          have HRS:=Hd_ HW.out.res
          have HBK:=Hd_ HW.out.blk
          have x0:W7.cell? ⟨q,0,none⟩=some (.slice (some ⟨g2,0,none⟩) (M.length+1) cp2):=(HBK.out).cell 0
          have z0:W7.cell? ⟨w.heap.size,0,none⟩=some (.slice none 0 0):=(HRS.out).cell 0
          have v0:=(HRS.out).frozen 0
          have hlr:=(HRS.out).lt
          go_wp2_with fail
          exact bodyPost_ret (v:=.agg #[.slice (some ⟨g2,0,none⟩) (M.length+1) cp2]) (by simp [results,Tryz.results46,go_sem,z0,v0,hlr]) rfl ⟨_,_,rfl,HD.out.1,(by simp;have:=HM.out;omega),HD.out.2.1,HD.out.2.2⟩
 · have hd2:(t==2)=false:=by simpa using ht2
   have HD:=Hd_ (AyR.done HA2.out.res HA2.out.view HA2.out.cur HA2.out.only rfl hlt)
   have HRS:=Hd_ HA2.out.res
   have HBK:=Hd_ HA2.out.blk
   have x0:w2.cell? ⟨q,0,none⟩=some (.slice (some ⟨g,0,none⟩) n c):=(HBK.out).cell 0
   have z0:w2.cell? ⟨w.heap.size,0,none⟩=some (.slice none 0 0):=(HRS.out).cell 0
   have v0:=(HRS.out).frozen 0
   have hlr:=(HRS.out).lt
   go_wp2_with fail
   exact bodyPost_ret (v:=.agg #[.slice (some ⟨g,0,none⟩) n c]) (by simp [results,Tryz.results46,go_sem,z0,v0,hlr]) rfl ⟨_,_,rfl,HD.out.1,(by have:=HN.out;omega),HD.out.2.1,HD.out.2.2⟩
def GrEx (w:World) (e:Ending) (w':World):Prop:=∃ vg g ss l,e=.returned (.tuple #[vg,.agg #[ss]])/\(GrV 0 w'.heap.size w' vg g/\g.edges.length<=11/\SlE w' cEd 4 ss l/\l.length<=101/\Below w.heap.size w w')
set_option maxHeartbeats 4000000 in
theorem drawEvaluate_any (v:Value) (bs:List Int) (w:World) (hv:SlI 0 w.heap.size w cU 1 v bs) :
 Calls Tryz.prog 21 #[v] w (GrEx w):=by
 have HV:=Hd_ hv
 have hb0:=((Below.refl w.heap.size w).alloc (Nat.le_refl _) (.cells #[.slice none 0 0,.slice none 0 0] 40)).alloc (by simp) (.cells #[.slice none 0 0] 46)
 have hbr:=(Blk.new w 40 #[.slice none 0 0,.slice none 0 0] _ rfl).alloc (.cells #[.slice none 0 0] 46)
 have hbe:=Blk.new (w.alloc (.cells #[.slice none 0 0,.slice none 0 0] 40)) 46 #[.slice none 0 0] (w.heap.size+1) (by simp)
 have hs0:((w.alloc (.cells #[.slice none 0 0,.slice none 0 0] 40)).alloc (.cells #[.slice none 0 0] 46)).heap.size=w.heap.size+2:=by simp
 obtain ⟨A,n,c,rfl⟩:=hv.shape
 clear hv
 go_enter Tryz.func21,Tryz.ntmps21
 go_wp2_with fail
 refine (l1New_any _ bs _ ((HV.out.below hb0 (Nat.le_refl _)).mono (Nat.le_refl _) hb0.size)).mono ?_
 rintro e w1 ⟨b,rfl,hbl,hc1,hbw⟩
 have hr1:=hbr.keep hbw
 have he1:=hbe.keep hbw
 have HB1:=Hd_ (below_trans hb0 hbw)
 have hlt:=hc1.lt
 rw [hs0] at hbl
 clear hbw hb0 hbr hbe hs0 HV
 go_wp2_with fail
 refine (l3Any_any b _ hc1).mono ?_
 rintro e w2 ⟨vg,g,rfl,hgv,⟨-,he⟩,hc2,ho2⟩
 obtain ⟨A1,n1,c1,A2,n2,c2,rfl⟩:=hgv.shape
 have HG2:=Hd_ hgv
 have hr2:=hr1.only ho2 (.inl (by omega))
 have he2:=he1.only ho2 (.inl (by omega))
 have HB2:=Hd_ (HB1.out.trans (ho2.below (B:=w.heap.size) (by omega) HB1.out.size))
 have hs2:=ho2.size
 clear ho2 hr1 he1 HB1 hc1 hgv
 go_wp2_with fail
 refine (l8Any_any b _ hc2).mono ?_
 rintro e w3 ⟨ve,l,rfl,⟨ss,rfl,hsl⟩,hl,hc3,ho3⟩
 obtain ⟨A3,n3,c3,rfl⟩:=hsl.shape
 have HG3:=Hd_ ((HG2.out.only ho3 (Nat.le_refl _) (.inr (by omega))).mono (Nat.le_refl _) ho3.size)
 have HSL:=Hd_ hsl
 have hr3:=hr2.only ho3 (.inl (by omega))
 have he3:=he2.only ho3 (.inl (by omega))
 have HB3:=Hd_ (HB2.out.trans (ho3.below (B:=w.heap.size) (by omega) HB2.out.size))
 have z0:w3.cell? ⟨w.heap.size,0,none⟩=some (.slice none 0 0):=hr3.cell 0
 have z1:w3.cell? ⟨w.heap.size,1,none⟩=some (.slice none 0 0):=hr3.cell 1
 have z2:w3.cell? ⟨w.heap.size+1,0,none⟩=some (.slice none 0 0):=he3.cell 0
 have v0:=hr3.frozen 0
 have v1:=hr3.frozen 1
 have v2:=he3.frozen 0
 have hlr:=hr3.lt
 have hle:=he3.lt
 have hp:Only w.heap.size (w.heap.size+2) w3 (((w3.setCell ⟨w.heap.size,0,none⟩ (.slice A1 n1 c1)).setCell ⟨w.heap.size,1,none⟩ (.slice A2 n2 c2)).setCell ⟨w.heap.size+1,0,none⟩ (.slice A3 n3 c3)) :=
  (((Only.refl _ _ w3).setCell (p:=⟨w.heap.size,0,none⟩) (.inl (by simp only;omega)) _).setCell (p:=⟨w.heap.size,1,none⟩) (.inl (by simp only;omega)) _).setCell (p:=⟨w.heap.size+1,0,none⟩) (.inl (by simp only;omega)) _
 have hs3:=ho3.size
 have HD:=Hd_ ((HG3.out.only hp (Nat.le_refl _) (.inr (by omega))).mono (lo':=0) (Nat.zero_le _) hp.size)
 have HDE:=Hd_ ((HSL.out.only hp (Nat.le_refl _) (.inr (by omega))).mono (lo':=0) (Nat.zero_le _) hp.size)
 have HB4:=Hd_ (HB3.out.trans (hp.below (B:=w.heap.size) (Nat.le_refl _) HB3.out.size))
 clear ho3 hr3 hr2 he3 he2 hp HB2 HB3 HG2 HG3 HSL hsl
 go_wp2_with fail
 exact bodyPost_ret (v:=.tuple #[.agg #[.slice A1 n1 c1,.slice A2 n2 c2],.agg #[.slice A3 n3 c3]]) (by simp [results,Tryz.results21,go_sem,z0,z1,z2,v0,v1,v2,hlr,hle]) rfl ⟨_,g,_,l,rfl,HD.out,he,HDE.out,hl,HB4.out⟩
end Go.Proofs.YtloeghbhoflabaaGreat
namespace Go.Proofs.YtloeghbhoflabaaGreat
/-- the arcs of all nodes by the first i edges -/
def rowsTo (g:Gr) (i:Nat):List (List Arc):=(List.range g.vals.length).map fun (x:Nat)=>(g.edges.take i).flatMap (arcE (x:Int))
theorem rowsTo_at {g:Gr} {i x:Nat} (h:x < g.vals.length):(rowsTo g i)[x]?=some ((g.edges.take i).flatMap (arcE (x:Int))):=by simp [rowsTo,h]
theorem rowsTo_len (g:Gr) (i:Nat):(rowsTo g i).length=g.vals.length:=by simp [rowsTo]
theorem rowsTo_zero (g:Gr):rowsTo g 0=List.replicate g.vals.length []:=by
 apply List.ext_getElem?
 intro x
 simp only [rowsTo,List.take_zero,List.flatMap_nil,List.getElem?_map,List.getElem?_replicate,List.getElem?_range]
 by_cases h:x < g.vals.length
 · simp [h]
 · simp [h]
def rowFrom (g:Gr) (i:Nat) (e:Ed):List (List Arc):=(rowsTo g i).set e.2.1.toNat ((g.edges.take i).flatMap (arcE e.2.1) ++ [((e.1,false),arcLetter false e,e.2.2.1)])
def rowBack (g:Gr) (i:Nat) (e:Ed):List Arc:=(g.edges.take i).flatMap (arcE e.2.2.1) ++ if e.2.1=e.2.2.1 then [((e.1,false),arcLetter false e,e.2.2.1)] else []
theorem rowFrom_at {g:Gr} {i:Nat} {e:Ed} (h0:0<=e.2.1) (hn:e.2.1<=(g.vals.length:Int) - 1) (h1:0<=e.2.2.1) (h2:e.2.2.1<=(g.vals.length:Int) - 1):(rowFrom g i e)[e.2.2.1.toNat]?=some (rowBack g i e):=by
 unfold rowFrom rowBack
 rw [List.getElem?_set]
 by_cases h:e.2.1=e.2.2.1
 · rw [if_pos (by rw [h]),if_pos (by rw [rowsTo_len];omega),if_pos h,h]
 · rw [if_neg (by omega),if_neg h,rowsTo_at (by omega),Int.toNat_of_nonneg h1];simp
theorem rowsTo_push {g:Gr} {i:Nat} {e:Ed} (he:g.edges[i]?=some e) (h0:0<=e.2.1) (hn:e.2.1<=(g.vals.length:Int) - 1) (h1:0<=e.2.2.1) (h2:e.2.2.1<=(g.vals.length:Int) - 1) :
 (rowFrom g i e).set e.2.2.1.toNat (rowBack g i e ++ [((e.1,true),arcLetter true e,e.2.1)])=rowsTo g (i+1):=by
 apply List.ext_getElem?
 intro x
 by_cases hx:x < g.vals.length
 · rw [rowsTo_at hx,flat_take he,List.getElem?_set]
   unfold rowFrom rowBack
   rw [List.length_set,rowsTo_len]
   by_cases hb:e.2.2.1=(x:Int)
   · rw [if_pos (by omega),if_pos (by omega)]
     congr 1
     rw [hb,List.append_assoc]
     congr 1
     unfold arcE arcLetter
     by_cases hf:e.2.1=(x:Int)
     · simp [hf,hb]
     · simp [hf,hb]
   · rw [if_neg (by omega),List.getElem?_set,rowsTo_len]
     by_cases hf:e.2.1=(x:Int)
     · rw [if_pos (by omega),if_pos (by omega)]
       congr 1
       rw [hf]
       congr 1
       unfold arcE arcLetter
       simp [hf,hb]
     · rw [if_neg (by omega),rowsTo_at hx]
       congr 1
       unfold arcE
       simp [hf,hb]
 · rw [List.getElem?_eq_none (by rw [List.length_set,rowFrom,List.length_set,rowsTo_len];omega),List.getElem?_eq_none (by rw [rowsTo_len];omega)]
theorem rowsTo_all (g:Gr):rowsTo g g.edges.length=(List.range g.vals.length).map fun (x:Nat)=>arcsOf g (x:Int):=by
 unfold rowsTo arcsOf
 rw [List.take_length]
end Go.Proofs.YtloeghbhoflabaaGreat
namespace Go.Proofs.YtloeghbhoflabaaGreat
open Go.ChangeShapes Go.WideShapes Go.ChangeAt Go.RowKit
def selfE (g:Gr) (lt:Int) (x:Nat):List Pr:=if lt=6+g.vals.getD x 0 then [((x:Int),(x:Int))] else []
def selfL (g:Gr) (lt:Int) (n:Nat):List Pr:=(List.range n).flatMap (selfE g lt)
def edgE (lt:Int) (e:Ed):List Pr:=(if 2 * e.2.2.2=lt then [(e.2.1,e.2.2.1)] else []) ++ (if 2 * e.2.2.2+1=lt then [(e.2.2.1,e.2.1)] else [])
def specLet (g:Gr) (lt:Int):List Pr:=selfL g lt g.vals.length ++ g.edges.flatMap (edgE lt)
def letterL (g:Gr) (lt:Int):List Pr:=if grOk g then psetL (specLet g lt) else []
def arcP (lt:Int) (x:Nat) (y:Arc):List Pr:=if y.2.1=lt then [((x:Int),y.2.2)] else []
def rowP (g:Gr) (lt:Int) (x:Nat):List Pr:=(arcsOf g (x:Int)).flatMap (arcP lt x) ++ selfE g lt x
def implLet (g:Gr) (lt:Int) (n:Nat):List Pr:=(List.range n).flatMap (rowP g lt)
theorem selfL_succ (g:Gr) (lt:Int) (n:Nat):selfL g lt (n+1)=selfL g lt n ++ selfE g lt n:=by simp [selfL,List.range_succ]
theorem implLet_succ (g:Gr) (lt:Int) (n:Nat):implLet g lt (n+1)=implLet g lt n ++ rowP g lt n:=by simp [implLet,List.range_succ]
theorem selfE_len (g:Gr) (lt:Int) (x:Nat):(selfE g lt x).length<=1:=by unfold selfE;split <;> simp
theorem edgE_len (lt:Int) (e:Ed):(edgE lt e).length<=2:=by unfold edgE;split <;> split <;> simp
theorem arcP_len (lt:Int) (x:Nat) (y:Arc):(arcP lt x y).length<=1:=by unfold arcP;split <;> simp
theorem flat_le {α β:Type} {f:α->List β} {k:Nat} (hf:∀ x,(f x).length<=k):∀ l:List α,(l.flatMap f).length<=l.length * k
 | []=>by simp
 | x :: l=>by
   have:=flat_le hf l
   have:=hf x
   simp only [List.flatMap_cons,List.length_append,List.length_cons,Nat.add_mul,Nat.one_mul]
   omega
theorem selfL_len (g:Gr) (lt:Int) (n:Nat):(selfL g lt n).length<=n:=by
 have:=flat_le (selfE_len g lt) (List.range n)
 rw [List.length_range,Nat.mul_one] at this
 exact this
theorem rowP_len {g:Gr} (hg:GrOk g) (lt:Int) (x:Nat):(rowP g lt x).length<=25:=by
 have h1:=flat_le (arcP_len lt x) (arcsOf g (x:Int))
 have h2:=arcs_len hg (x:Int)
 have h3:=selfE_len g lt x
 rw [rowP,List.length_append]
 omega
theorem implLet_len {g:Gr} (hg:GrOk g) (lt:Int) (n:Nat):(implLet g lt n).length<=n * 25:=by
 have:=flat_le (rowP_len hg lt) (List.range n)
 rwa [List.length_range] at this
theorem mem_edgE {lt:Int} {e:Ed} {p:Pr}:p ∈ edgE lt e ↔ (2 * e.2.2.2=lt/\p=(e.2.1,e.2.2.1)) ∨ (2 * e.2.2.2+1=lt/\p=(e.2.2.1,e.2.1)):=by
 unfold edgE
 rw [List.mem_append]
 by_cases h1:2 * e.2.2.2=lt <;> by_cases h2:2 * e.2.2.2+1=lt <;> simp [h1,h2]
theorem letter_impl {g:Gr} (hg:GrOk g) (lt:Int):psetL (implLet g lt g.vals.length)=psetL (specLet g lt):=psetL_of fun p=>by
 simp only [implLet,specLet,selfL,rowP,List.mem_append,List.mem_flatMap,List.mem_range]
 constructor
 · rintro ⟨x,hx,⟨y,hy,hp⟩ | hp⟩
   · refine .inr ?_
     obtain ⟨e,he,hye⟩:=List.mem_flatMap.1 hy
     refine ⟨e,he,mem_edgE.2 ?_⟩
     unfold arcP at hp
     split at hp
     · rename_i hlt
       rw [List.mem_singleton] at hp
       subst hp
       rcases mem_arcE.1 hye with ⟨h1,rfl⟩ | ⟨h1,rfl⟩
       · exact .inl ⟨hlt,by simp only;rw [h1]⟩
       · exact .inr ⟨hlt,by simp only;rw [h1]⟩
     · cases hp
   · exact .inl ⟨x,hx,hp⟩
 · rintro (⟨x,hx,hp⟩ | ⟨e,he,hp⟩)
   · exact ⟨x,hx,.inr hp⟩
   · obtain ⟨-,⟨f0,f1⟩,⟨t0,t1⟩,-⟩:=hg.edges e he
     rcases mem_edgE.1 hp with ⟨h1,rfl⟩ | ⟨h1,rfl⟩
     · obtain ⟨x,hx⟩:=Int.eq_ofNat_of_zero_le f0
       refine ⟨x,by omega,.inl ⟨((e.1,false),2 * e.2.2.2,e.2.2.1),List.mem_flatMap.2 ⟨e,he,mem_arcE.2 (.inl ⟨hx,rfl⟩)⟩,?_⟩⟩
       rw [arcP,if_pos h1,List.mem_singleton,hx]
     · obtain ⟨x,hx⟩:=Int.eq_ofNat_of_zero_le t0
       refine ⟨x,by omega,.inl ⟨((e.1,true),2 * e.2.2.2+1,e.2.1),List.mem_flatMap.2 ⟨e,he,mem_arcE.2 (.inr ⟨hx,rfl⟩)⟩,?_⟩⟩
       rw [arcP,if_pos h1,List.mem_singleton,hx]
theorem letter_none {g:Gr} (hg:GrOk g) {lt:Int} (h:wi lt 0 8=false):specLet g lt=[]:=by
 have hn:¬ (0<=lt/\lt<=8):=fun hc=>by
  rw [wi_iff.2 hc] at h
  cases h
 refine List.eq_nil_iff_forall_not_mem.2 fun p hp=>hn ?_
 simp only [specLet,selfL,List.mem_append,List.mem_flatMap,List.mem_range] at hp
 rcases hp with ⟨x,hx,hp⟩ | ⟨e,he,hp⟩
 · unfold selfE at hp
   split at hp
   · rename_i hl
     have hv:=hg.vals _ (List.getElem_mem hx)
     rw [show g.vals.getD x 0=g.vals[x] by simp [List.getD,hx]] at hl
     omega
   · cases hp
 · obtain ⟨-,-,-,l0,l2⟩:=hg.edges e he
   rcases mem_edgE.1 hp with ⟨h1,-⟩ | ⟨h1,-⟩ <;> omega
end Go.Proofs.YtloeghbhoflabaaGreat
/-
 DERIVED: THE SHELF's CONTRACTS AT THIS DUMP,IN PLAIN WORDS (tools/lay-plain.mjs out of 'TryzShelfP.lean',which tools/lay-shelf.mjs wrote): THE SAME DECLARATIONS UNDER THE SAME NAMES: 'import','namespace','open','def','theorem' AND NOTHING ELSE: no command of the shelf's: FOR A HAND-IN. Each laying: the table of numbers ('.._ren') and one theorem,a field a fact of the dump's own or the kernel's comparison;each contract: ONE APPLICATION.
-/
namespace Go.Proofs
open Go.Shelf
def Tryz.laysSF_ren:Go.Shelf.Ren:=⟨fun | 6=>54 | 15=>72 | 14=>71 | 28=>86 | 29=>87 | 20=>78 | 21=>79 | 22=>80 | 23=>81 | 24=>82 | 25=>83 | 26=>84 | 27=>85 | 46=>93 | 47=>94 | 48=>95 | 49=>96 | 50=>97 | 57=>102 | n=>n,fun | 22=>24 | 24=>57 | 25=>87 | 3=>3 | 39=>105 | 0=>0 | 53=>117 | 55=>119 | 4=>4 | 46=>110 | 45=>109 | 50=>114 | 5=>5 | 9=>9 | 66=>125 | 70=>129 | 76=>134 | 77=>135 | n=>n,fun | n=>n⟩
theorem Tryz.laysSF:Go.Proofs.SlLaysF0.n6 Tryz.prog Tryz.laysSF_ren:={
 mixed:=by kernel_rfl
 f6:=⟨Tryz.f54.name,by decide,Tryz.func54.trans (congrArg some (by kernel_rfl))⟩
 f14:=⟨Tryz.f71.name,by decide,Tryz.func71.trans (congrArg some (by kernel_rfl))⟩
 f15:=Tryz.func72.trans (congrArg some (by kernel_rfl))
 f20:=⟨Tryz.f78.name,by decide,Tryz.func78.trans (congrArg some (by kernel_rfl))⟩
 f21:=⟨Tryz.f79.name,by decide,Tryz.func79.trans (congrArg some (by kernel_rfl))⟩
 f22:=⟨Tryz.f80.name,by decide,Tryz.func80.trans (congrArg some (by kernel_rfl))⟩
 f23:=⟨Tryz.f81.name,by decide,Tryz.func81.trans (congrArg some (by kernel_rfl))⟩
 f24:=⟨Tryz.f82.name,by decide,Tryz.func82.trans (congrArg some (by kernel_rfl))⟩
 f25:=⟨Tryz.f83.name,by decide,Tryz.func83.trans (congrArg some (by kernel_rfl))⟩
 f26:=⟨Tryz.f84.name,by decide,Tryz.func84.trans (congrArg some (by kernel_rfl))⟩
 f27:=⟨Tryz.f85.name,by decide,Tryz.func85.trans (congrArg some (by kernel_rfl))⟩
 f28:=Tryz.func86.trans (congrArg some (by kernel_rfl))
 f29:=Tryz.func87.trans (congrArg some (by kernel_rfl))
 f46:=⟨Tryz.f93.name,by decide,Tryz.func93.trans (congrArg some (by kernel_rfl))⟩
 f47:=Tryz.func94.trans (congrArg some (by kernel_rfl))
 f48:=Tryz.func95.trans (congrArg some (by kernel_rfl))
 f49:=⟨Tryz.f96.name,by decide,Tryz.func96.trans (congrArg some (by kernel_rfl))⟩
 f50:=⟨Tryz.f97.name,by decide,Tryz.func97.trans (congrArg some (by kernel_rfl))⟩
 f57:=⟨Tryz.f102.name,by decide,Tryz.func102.trans (congrArg some (by kernel_rfl))⟩
 t0:=Tryz.underlying0
 a0:=Tryz.isAgg0
 z0:=Tryz.sizeOf0
 v0:=Tryz.zeroValue0
 t3:=Tryz.underlying3
 a3:=Tryz.isAgg3
 z3:=Tryz.sizeOf3
 v3:=Tryz.zeroValue3
 t4:=Tryz.underlying4
 a4:=Tryz.isAgg4
 z4:=Tryz.sizeOf4
 v4:=Tryz.zeroValue4
 t5:=Tryz.underlying5
 a5:=Tryz.isAgg5
 z5:=Tryz.sizeOf5
 v5:=Tryz.zeroValue5
 t9:=Tryz.underlying9
 a9:=Tryz.isAgg9
 z9:=Tryz.sizeOf9
 v9:=Tryz.zeroValue9
 t22:=Tryz.underlying24
 a22:=Tryz.isAgg24
 z22:=Tryz.sizeOf24
 v22:=Tryz.zeroValue24
 t25:=Tryz.underlying87
 a25:=Tryz.isAgg87
 z25:=Tryz.sizeOf87
 v25:=Tryz.zeroValue87
 t39:=Tryz.underlying105
 a39:=Tryz.isAgg105
 z39:=Tryz.sizeOf105
 v39:=Tryz.zeroValue105
 t45:=Tryz.underlying109
 a45:=Tryz.isAgg109
 z45:=Tryz.sizeOf109
 v45:=Tryz.zeroValue109
 t46:=Tryz.underlying110
 a46:=Tryz.isAgg110
 z46:=Tryz.sizeOf110
 v46:=Tryz.zeroValue110
 t50:=Tryz.underlying114
 a50:=Tryz.isAgg114
 z50:=Tryz.sizeOf114
 v50:=Tryz.zeroValue114
 t53:=Tryz.underlying117
 a53:=Tryz.isAgg117
 z53:=Tryz.sizeOf117
 v53:=Tryz.zeroValue117
 t55:=Tryz.underlying119
 a55:=Tryz.isAgg119
 z55:=Tryz.sizeOf119
 v55:=Tryz.zeroValue119
 t66:=Tryz.underlying125
 a66:=Tryz.isAgg125
 z66:=Tryz.sizeOf125
 v66:=Tryz.zeroValue125
 t70:=Tryz.underlying129
 a70:=Tryz.isAgg129
 z70:=Tryz.sizeOf129
 v70:=Tryz.zeroValue129
 t76:=Tryz.underlying134
 a76:=Tryz.isAgg134
 z76:=Tryz.sizeOf134
 v76:=Tryz.zeroValue134
 t77:=Tryz.underlying135
 a77:=Tryz.isAgg135
 z77:=Tryz.sizeOf135
 v77:=Tryz.zeroValue135 }
end Go.Proofs
namespace Go.Proofs.YtloeghbhoflabaaGreat
open Go.ChangeShapes Go.WideShapes Go.ChangeAt Go.RowKit Go.Sort
theorem konly_ahead (lo hi:Nat) (w:World) (n:Nat):Only lo hi w (Sort.ahead w n):=⟨rfl,rfl,rfl,Nat.le_refl _,fun _ _ _=>rfl⟩
theorem konly_grow (lo hi:Nat) (w:World) (os:Array Obj):Only lo hi w (grow w os):=⟨rfl,rfl,rfl,by simp [grow],fun n hn _=>by simp [grow,Array.getElem?_append,hn]⟩
theorem konly_put {α:Type} [Inhabited α] (enc:α->Value) (w:World) (g off:Nat) (d:Array α):Only g (g+1) w (putRow enc w g off d) :=
 ⟨rfl,rfl,rfl,by simp [putRow,mapBlock],fun n hn ho=>by simp only [putRow,mapBlock,Array.getElem?_modify];rw [if_neg (by omega)]⟩
theorem row_putF {w:World} {base g n cap k:Nat} {e:TypeId} {cs:List Value} (h:w.ownsRow base e k (.slice (some ⟨g,0,none⟩) n cap) n cs) {F:Array Value} (hF:F.size=n * k) :
 (putRow id w g 0 F).ownsRow base e k (.slice (some ⟨g,0,none⟩) n cap) n F.toList:=by
 obtain ⟨hl,hs⟩:=h
 refine ⟨by simp [hF],?_⟩
 rcases hs with ⟨h1,_⟩ | ⟨g',cap',cur,hv,hg,hh,hnc,hcm,hsz,htk⟩
 · cases h1
 · simp only [Value.slice.injEq,Option.some.injEq,Addr.mk.injEq,and_true,true_and] at hv
   obtain ⟨rfl,rfl⟩:=hv
   have hcs:n * k<=cur.size:=by rw [hsz];exact Nat.mul_le_mul_right k hnc
   refine .inr ⟨g,cap,putCells id 0 F cur,rfl,hg,?_,hnc,hcm,by simp [putCells,hsz],?_⟩
   · simp [putRow,mapBlock,Array.getElem?_modify,hh,onCells]
   · apply List.ext_getElem?
     intro j
     rw [List.getElem?_take]
     by_cases hk:j < n * k
     · rw [if_pos hk]
       have hkc:j < cur.size:=by omega
       have hkd:j < F.size:=by omega
       simp [putCells,hkc,hkd,getElem!_pos]
     · rw [if_neg hk,List.getElem?_eq_none (by simp;omega)]
theorem flatK_list (ds:List Pr):(flatK cPr 2 ds.toArray).toList=ds.flatMap cPr:=by
 apply List.ext_getElem?
 intro t
 by_cases ht:t < ds.length * 2
 · have hi:t / 2 < ds.length:=by omega
   have hx:ds[t / 2]?=some ds[t / 2]:=List.getElem?_eq_getElem hi
   have hj:t % 2 < (cPr ds[t / 2]).length:=by rw [cPr_len];omega
   have h1:=flat_at cPr_len hx (t % 2) _ (List.getElem?_eq_getElem hj)
   rw [show t / 2 * 2+t % 2=t by omega] at h1
   rw [h1,Array.getElem?_toList,Array.getElem?_eq_getElem (by simpa using ht)]
   congr 1
   have h2:=get_flatK cPr 2 ds.toArray t (by simpa using ht)
   rw [getElem!_pos _ _ (by simpa using ht)] at h2
   rw [h2,getElem!_pos ds.toArray _ (by simpa using hi),getElem!_pos _ _ (by simpa using hj)]
   simp
 · rw [List.getElem?_eq_none (by simp;omega),List.getElem?_eq_none]
   have:(ds.flatMap cPr).length=ds.length * 2:=by
    clear ht
    induction ds with
    | nil=>rfl
    | cons d ds ih=>rw [List.flatMap_cons,List.length_append,ih,cPr_len,List.length_cons];omega
   omega
theorem holds_ownK {w:World} {base g n cap:Nat} {e:TypeId} {zs:List Pr} (h:w.ownsRow base e 2 (.slice (some ⟨g,0,none⟩) n cap) n (zs.flatMap cPr)) (hz:zs.length=n):HoldsK cPr 2 w g 0 zs.toArray:=by
 intro j hj
 have hj':j < zs.length * 2:=by simpa using hj
 refine ⟨?_,by rw [Nat.zero_add];exact World.ownsRow.frozenAt h j⟩
 rw [Nat.zero_add,World.ownsRow.cellAt h j (by omega),<- flatK_list,Array.getElem?_toList,Array.getElem?_eq_getElem hj,getElem!_pos _ j hj]
 rfl
end Go.Proofs.YtloeghbhoflabaaGreat
namespace Go.Proofs.YtloeghbhoflabaaGreat
open Go.ChangeShapes Go.WideShapes Go.ChangeAt Go.RowKit
theorem ownsRow_take {W:World} {base k n m g cap:Nat} {e:TypeId} {cs:List Value} (h:W.ownsRow base e k (.slice (some ⟨g,0,none⟩) n cap) n cs) (hm:m<=n):W.ownsRow base e k (.slice (some ⟨g,0,none⟩) m cap) m (cs.take (m * k)):=by
 obtain ⟨hl,hs⟩:=h
 have hmk:m * k<=n * k:=Nat.mul_le_mul_right k hm
 refine ⟨by rw [List.length_take,hl];omega,?_⟩
 rcases hs with ⟨h1,_⟩ | ⟨g',cap',cur,hv,hg,hh,hnc,hcm,hsz,htk⟩
 · cases h1
 · simp only [Value.slice.injEq,Option.some.injEq,Addr.mk.injEq,and_true,true_and] at hv
   obtain ⟨rfl,rfl⟩:=hv
   refine .inr ⟨g,cap,cur,rfl,hg,hh,by omega,hcm,hsz,?_⟩
   rw [<- htk,List.take_take]
   congr 1
   omega
end Go.Proofs.YtloeghbhoflabaaGreat
namespace Go.Proofs.YtloeghbhoflabaaGreat
open Go.ChangeShapes Go.WideShapes Go.ChangeAt Go.RowKit Go.Sort
attribute [local go_sem] ext_cell ext_frozen ext_lt ext_lt1 ext_lt2 ext_lt3 ltn2 ltn3 ltn13 lts1 lts2 lts3
def cmpI (a b:Int):Int:=if a < b then -1 else if b < a then 1 else 0
def cmpP (p q:Pr):Int:=if p.1=q.1 then cmpI p.2 q.2 else cmpI p.1 q.1
theorem ltOf_cmp (p q:Pr):ltOf cmpP p q=ltP p q:=by
 have h1:=@ltP_iff p q
 rw [Bool.eq_iff_iff,h1,ltOf,decide_eq_true_eq,cmpP]
 unfold cmpI
 split <;> split <;> (try split) <;> omega
theorem swoP:SWO (ltOf cmpP):=by
 refine ⟨fun x=>?_,fun x y z h1 h2=>?_,fun x y z h1 h2=>?_⟩
 · rw [ltOf_cmp,ltP_no];omega
 · rw [ltOf_cmp] at *
   exact ltP_trans h1 h2
 · rw [ltOf_cmp,ltP_no] at *
   omega
theorem alloc2_grow (W:World) (o1 o2:Obj):(W.alloc o1).alloc o2=grow (W.drewN 0) #[o1,o2]:=by
 cases W
 simp only [World.alloc,grow,World.drewN,World.mk.injEq,and_true,true_and]
 simp [<- Array.toList_inj]
theorem compareInts_any (a b:Int) (w:World):Calls Tryz.prog 73 #[.int .i64 a,.int .i64 b] w fun e w'=>e=.returned (.int .i64 (cmpI a b))/\w'=w:=by
 unfold cmpI
 by_cases h1:a < b
 · rw [if_pos h1]
   have k1:decide (a < b)=true:=by simpa using h1
   clear h1
   go_enter Tryz.func73,Tryz.ntmps73
   go_wp2_with fail
   go_ret
   exact ⟨rfl,rfl⟩
 · rw [if_neg h1]
   have k1:decide (a < b)=false:=by simpa using h1
   by_cases h2:b < a
   · rw [if_pos h2]
     have k2:decide (a > b)=true:=by simpa using h2
     clear h1 h2
     go_enter Tryz.func73,Tryz.ntmps73
     go_wp2_with fail
     go_ret
     exact ⟨rfl,rfl⟩
   · rw [if_neg h2]
     have k2:decide (a > b)=false:=by simpa using h2
     clear h1 h2
     go_enter Tryz.func73,Tryz.ntmps73
     go_wp2_with fail
     go_ret
     exact ⟨rfl,rfl⟩
theorem comparePairs_any (p q:Pr) (w:World):Calls Tryz.prog 55 #[.agg #[.int .i64 p.1,.int .i64 p.2],.agg #[.int .i64 q.1,.int .i64 q.2]] w fun e w'=>e=.returned (.int .i64 (cmpP p q)) /\
 w'=(w.alloc (.cells #[.int .i64 p.1,.int .i64 p.2] 57)).alloc (.cells #[.int .i64 q.1,.int .i64 q.2] 57):=by
 obtain ⟨p1,p2⟩:=p
 obtain ⟨q1,q2⟩:=q
 simp only [cmpP]
 have HC:=Hd_ (fun (a b:Int) (W:World)=>compareInts_any a b W)
 by_cases h1:p1=q1
 · rw [if_pos h1]
   have k1:(p1 != q1)=false:=by simpa using h1
   clear h1
   go_enter Tryz.func55,Tryz.ntmps55
   go_wp2_with fail
   refine (HC.out p2 q2 _).mono ?_
   rintro e w1 ⟨rfl,hw⟩
   rw [hw]
   go_wp2_with fail
   go_ret
   exact ⟨rfl,rfl⟩
 · rw [if_neg h1]
   have k1:(p1 != q1)=true:=by simpa using h1
   clear h1
   go_enter Tryz.func55,Tryz.ntmps55
   go_wp2_with fail
   refine (HC.out p1 q1 _).mono ?_
   rintro e w1 ⟨rfl,hw⟩
   rw [hw]
   go_wp2_with fail
   go_ret
   exact ⟨rfl,rfl⟩
/-- slices.SortFunc over pairs: a row of the call's own is put in order -/
theorem sortPairs_any (lo g c:Nat) (xs:List Pr) (w:World) (hrow:w.ownsRow lo 57 2 (.slice (some ⟨g,0,none⟩) xs.length c) xs.length (xs.flatMap cPr)) (hn:xs.length<=2199023255552) :
 Calls Tryz.prog 54 #[.slice (some ⟨g,0,none⟩) xs.length c,.func (.func 55) #[] #[]] w fun e w'=>e=.returned (.tuple #[]) /\
  ∃ ys:List Pr,ys.length=xs.length/\(∀ x,x ∈ ys ↔ x ∈ xs)/\(∀ i j,i < j->j < ys.length->ltP (ys.getD j (0,0)) (ys.getD i (0,0))=false) /\
    w'.ownsRow lo 57 2 (.slice (some ⟨g,0,none⟩) xs.length c) xs.length (ys.flatMap cPr)/\Only g (g+1) w w':=by
 have hlt:=hrow.lt g rfl
 have eg:∀ args w,(callFunc 55 args).run Tryz.prog w=.ok (.enter 55 args) w:=enters_of Tryz.func55 (by kernel_rfl) rfl
 have hcmp:CmpLays Tryz.prog 55 #[] cPr 2 cmpP g 0 xs.toArray.size w:=fun m os dk _ x y=>by
  refine (comparePairs_any x y _).mono ?_
  rintro e w' ⟨rfl,rfl⟩
  exact ⟨rfl,0,_,alloc2_grow _ _ _⟩
 have h:=AnyQ.slices_SortFunc Tryz.laysSF 2 Tryz.isAgg57 Tryz.sizeOf57 cPr cPr_len cPr_one cmpP swoP 55 #[] g 0 c xs.toArray w eg hcmp (holds_ownK hrow rfl) hlt.2 (by simp;omega)
 have h':Calls Tryz.prog 54 #[.slice (some ⟨g,0,none⟩) xs.length c,.func (.func 55) #[] #[]] w _:=h
 refine h'.mono ?_
 rintro e w' ⟨rfl,d',n,os,hperm,hsort,rfl⟩
 obtain ⟨hsz,-,hpm⟩:=hperm
 have hsz':d'.toList.length=xs.length:=by simpa using hsz
 refine ⟨rfl,d'.toList,hsz',fun x=>?_,fun i j hij hj=>?_,?_,?_⟩
 · have h1:=hpm.mem_iff (a:=x)
   have e1:(d'.extract 0 xs.toArray.size).toList=d'.toList:=by rw [show xs.toArray.size=d'.size from hsz.symm];simp
   have e2:(xs.toArray.extract 0 xs.toArray.size).toList=xs:=by simp
   rw [e1,e2] at h1
   exact h1
 · have hj':j < xs.length:=by omega
   have h1:=hsort i j (Nat.zero_le _) hij (by simpa using hj')
   rw [ltOf_cmp] at h1
   have gd:∀ k,k < xs.length->d'.toList.getD k (0,0)=d'[k]! := fun k hk=>by
    have hk':k < d'.size:=by rw [hsz];simpa using hk
    rw [getElem!_pos d' k hk',List.getD_eq_getElem?_getD,Array.getElem?_toList,Array.getElem?_eq_getElem hk'];rfl
   rw [gd j hj',gd i (by omega)]
   exact h1
 · have h2:(Sort.ahead w n).ownsRow lo 57 2 (.slice (some ⟨g,0,none⟩) xs.length c) xs.length (xs.flatMap cPr):=hrow
   have h3:=row_putF h2 (F:=flatK cPr 2 d') (by rw [size_flatK,hsz];simp)
   have h4:(flatK cPr 2 d').toList=d'.toList.flatMap cPr:=by
    have:=flatK_list d'.toList
    simpa using this
   rw [h4] at h3
   exact ownsRow_block h3 fun b hb=>(konly_grow 0 0 (putRowK cPr 2 (Sort.ahead w n) g 0 d') os).block b (h3.lt b hb).2 (.inr (Nat.zero_le _))
 · exact ((konly_ahead g (g+1) w n).trans (konly_put id _ g 0 (flatK cPr 2 d'))).trans (konly_grow g (g+1) _ os)
theorem neqlPr (a b c d:Int) (w:World):(binOp .neq 57 (.agg #[.int .i64 a,.int .i64 b]) (.agg #[.int .i64 c,.int .i64 d])).run Tryz.prog w=.ok (.bool (!decide ((a,b)=(c,d)))) w:=by
 rw [run_neq_struct,eqPr]
 by_cases h1:a=c <;> by_cases h2:b=d <;> simp [h1,h2]
attribute [local go_sem] guardPr
theorem clear_pairs (w:World) (ty:TypeId) (g o n c:Nat) (hn:0 < n) (hc:∀ j,j < n * 2->(w.cell? ⟨g,o+j,none⟩).isSome=true) (hf:∀ j,j < n * 2->w.frozen? ⟨g,o+j,none⟩=false) :
 (Builtin.clear_ #[24] ty #[.slice (some ⟨g,o,none⟩) n c]).run Tryz.prog w=.ok (.tuple #[]) (w.setCells g o (Builtin.zeroCells #[.int .i64 0,.int .i64 0] n).toList):=by
 have hl:(Builtin.zeroCells #[Value.int .i64 0,Value.int .i64 0] n).toList.length=n * 2:=by simp [Builtin.zeroCells]
 have h1:∀ v ∈ (Builtin.zeroCells #[Value.int .i64 0,Value.int .i64 0] n).toList,v.oneCell'=true:=by
  intro v hv
  simp only [Builtin.zeroCells,Array.toList_map,List.mem_map,Array.mem_toList_iff,Array.mem_range] at hv
  obtain ⟨i,_,rfl⟩:=hv
  have:i % 2=0 ∨ i % 2=1:=by omega
  rcases this with h | h <;> simp [h] <;> rfl
 have hst:=run_storeCells_cells (P:=Tryz.prog) g o (Builtin.zeroCells #[Value.int .i64 0,Value.int .i64 0] n).toList 0 w (by simpa [hl] using hc) (by simpa [hl] using hf) h1
 simp only [Nat.add_zero] at hst
 obtain ⟨m,rfl⟩:∃ m,n=m+1:=⟨n - 1,by omega⟩
 have hz:∀ w,(zeroValue 57).run Tryz.prog w=.ok (.agg #[.int .i64 0,.int .i64 0]) w:=Tryz.zeroValue57
 have hzc:(Value.agg #[Value.int .i64 0,Value.int .i64 0]).cells=#[.int .i64 0,.int .i64 0]:=rfl
 simp [Builtin.clear_,run_underlying Tryz.underlying24,hz,hzc,hst]
theorem setCells_ownP {base k g n cap:Nat} {e:TypeId}:∀ (zs:List Value) (o:Nat) (cs:List Value) (W:World),W.ownsRow base e k (.slice (some ⟨g,0,none⟩) n cap) n cs ->
 ∃ cs',(W.setCells g o zs).ownsRow base e k (.slice (some ⟨g,0,none⟩) n cap) n cs'/\cs'.take o=cs.take o/\Only g (g+1) W (W.setCells g o zs)
 | [],o,cs,W,h=>⟨cs,h,rfl,Only.refl _ _ _⟩
 | z :: zs,o,cs,W,h=>by
   have h1:=(World.ownsRow.stored h o z).1
   obtain ⟨cs',h2,h3,h4⟩:=setCells_ownP zs (o+1) _ _ h1
   refine ⟨cs',h2,?_,((Only.refl g (g+1) W).setCell (p:=⟨g,o,none⟩) (.inl ⟨Nat.le_refl _,Nat.lt_succ_self _⟩) z).trans h4⟩
   have h5:cs'.take o=(cs'.take (o+1)).take o:=by rw [List.take_take];congr 1;omega
   rw [h5,h3,List.take_take,Nat.min_eq_left (Nat.le_succ o),List.take_set,List.set_eq_of_length_le (by rw [List.length_take];omega)]
theorem flatP_len (xs:List Pr):(xs.flatMap cPr).length=xs.length * 2:=by
 induction xs with
 | nil=>rfl
 | cons x xs ih=>rw [List.flatMap_cons,List.length_append,ih,cPr_len,List.length_cons];omega
theorem flatP_at {xs:List Pr} {i:Nat} {x:Pr} (h:xs[i]?=some x):(xs.flatMap cPr)[i * 2]?=some (.int .i64 x.1)/\(xs.flatMap cPr)[i * 2+1]?=some (.int .i64 x.2) :=
 ⟨flat_at cPr_len h 0 _ rfl,flat_at cPr_len h 1 _ rfl⟩
theorem flatP_set:∀ (xs:List Pr) (i:Nat) (x:Pr),i < xs.length->((xs.flatMap cPr).set (i * 2) (.int .i64 x.1)).set (i * 2+1) (.int .i64 x.2)=(xs.set i x).flatMap cPr
 | [],_,_,h=>absurd h (Nat.not_lt_zero _)
 | y :: ys,0,x,_=>by simp [cPr]
 | y :: ys,i+1,x,h=>by
   have ih:=flatP_set ys i x (by simpa using h)
   simp only [List.flatMap_cons,cPr,List.cons_append,List.nil_append,List.set_cons_succ,Nat.succ_mul]
   rw [<- ih]
theorem flatP_take (xs:List Pr):∀ k,(xs.flatMap cPr).take (k * 2)=(xs.take k).flatMap cPr:=by
 induction xs with
 | nil=>intro k;simp
 | cons a l ih =>
   intro k
   cases k with
   | zero=>simp
   | succ k=>rw [Nat.succ_mul];simp only [List.flatMap_cons,List.take_succ_cons,cPr,List.cons_append,List.nil_append];rw [ih]
theorem compTo_take {xs:List Pr} {k:Nat} (hk:k<=xs.length) (h:∀ j,j < k->keepP xs j=true):compTo xs k=xs.take k:=by
 induction k with
 | zero=>simp [compTo]
 | succ k ih =>
   have hx:xs[k]?=some (xs.getD k (0,0)):=by rw [List.getD_eq_getElem?_getD,List.getElem?_eq_getElem (by omega)];rfl
   rw [compTo_yes (h k (by omega)),ih (by omega) (fun j hj=>h j (by omega)),take_snoc hx]
theorem getP {xs:List Pr} {i:Nat} (h:i < xs.length):xs[i]?=some (xs.getD i (0,0)):=by rw [List.getD_eq_getElem?_getD,List.getElem?_eq_getElem h];rfl
theorem keepP_pos {xs:List Pr} {i:Nat} (h:0 < i):keepP xs i=!decide (xs.getD i (0,0)=xs.getD (i - 1) (0,0)):=by
 have h6:(i==0)=false:=by simp;omega
 rw [keepP,h6,Bool.false_or,bne]
 congr 1
 rw [Bool.eq_iff_iff,beq_iff_eq,decide_eq_true_eq]
set_option maxHeartbeats 4000000 in
set_option maxRecDepth 100000 in
theorem compactP_any (lo g c:Nat) (xs:List Pr) (w:World) (hrow:w.ownsRow lo 57 2 (.slice (some ⟨g,0,none⟩) xs.length c) xs.length (xs.flatMap cPr)) (hn:xs.length<=2199023255552) :
 Calls Tryz.prog 56 #[.slice (some ⟨g,0,none⟩) xs.length c] w fun e w'=>∃ m,e=.returned (.slice (some ⟨g,0,none⟩) m c) /\
  w'.ownsRow lo 57 2 (.slice (some ⟨g,0,none⟩) m c) (compTo xs xs.length).length ((compTo xs xs.length).flatMap cPr)/\Only g (g+1) w w':=by
 obtain ⟨hg1,hg2⟩:=hrow.lt g rfl
 obtain ⟨hlc,hcm⟩:=row_cap hrow
 obtain ⟨R,hR⟩:∃ R,R=compTo xs xs.length:=⟨_,rfl⟩
 rw [<- hR]
 have HR:=Hd_ hR
 have HROW:=Hd_ hrow
 clear hR hrow
 obtain ⟨N,hN⟩:∃ N,N=xs.length:=⟨_,rfl⟩
 rw [<- hN] at hn hlc HROW HR ⊢
 have HN:=Hd_ hN
 clear hN
 by_cases h2:N < 2
 · have hfin:R=xs:=by
    rw [HR.out,compTo_take (by have:=HN.out;omega) (fun j hj=>by obtain rfl:j=0:=(by omega);rfl),HN.out,List.take_length]
   have HF:=Hd_ hfin
   have hnz:(N:Int) < 2:=by omega
   clear hfin
   go_enter Tryz.func56,Tryz.ntmps56
   go_wp2_with fail
   go_ret
   exact ⟨_,rfl,by rw [HF.out,<- HN.out];exact HROW.out,Only.refl _ _ _⟩
 · have hnz:¬ (N:Int) < 2:=by omega
   go_enter Tryz.func56,Tryz.ntmps56
   go_wp2_with fail
   go_loopw [3] (fun ii wr=>∃ (i:Nat) (u:World),1<=i/\i<=N/\ii=.int .i64 (i:Int)/\(∀ j,j < i->keepP xs j=true)/\wr=ext w u) (fun ii _=>N - (intOf ii).toNat)
   case atStart=>exact ⟨1,w,Nat.le_refl _,by omega,rfl,(fun j hj=>by obtain rfl:j=0:=(by omega);rfl),ext_self w⟩
   case round =>
    obtain ⟨i0,u,h1,hi,rfl,hkp,rfl⟩:=hrel
    have HKP:=Hd_ hkp
    clear hkp
    by_cases hlt:i0 < N
    · have hxi:=getP (xs:=xs) (i:=i0) (by have:=HN.out;omega)
      have hxj:=getP (xs:=xs) (i:=i0 - 1) (by have:=HN.out;omega)
      have hk0:=keepP_pos (xs:=xs) h1
      obtain ⟨i1,rfl⟩:∃ i1,i0=i1+1:=⟨i0 - 1,by omega⟩
      simp only [Nat.add_sub_cancel] at hxj hk0
      have HROWu:=Hd_ (ownsRow_below HROW.out (ext_below w u) (Nat.le_refl _))
      obtain ⟨a0,a1⟩:=flatP_at hxi
      obtain ⟨b0,b1⟩:=flatP_at hxj
      have d0:=(World.ownsRow.cellAt HROW.out ((i1+1) * 2) (by omega)).trans a0
      have d1:=(World.ownsRow.cellAt HROW.out ((i1+1) * 2+1) (by omega)).trans a1
      have f0:=(World.ownsRow.cellAt HROW.out (i1 * 2) (by omega)).trans b0
      have f1:=(World.ownsRow.cellAt HROW.out (i1 * 2+1) (by omega)).trans b1
      have HXI:=Hd_ hxi
      have HXJ:=Hd_ hxj
      have HK0:=Hd_ hk0
      clear a0 a1 b0 b1 hxi hxj hk0
      generalize hx:xs.getD (i1+1) (0,0)=x at *
      generalize hy:xs.getD i1 (0,0)=y at *
      obtain ⟨xa,xb⟩:=x
      obtain ⟨ya,yb⟩:=y
      simp only at d0 d1 f0 f1
      have q1:IntKind.i64.wrap (((i1+1:Nat):Int) - 1)=(i1:Int):=by rw [IntWalk.i64_in _ (by omega)];omega
      have hii:((i1+1:Nat):Int) < (N:Int):=by omega
      have hjj:(i1:Int) < (N:Int):=by omega
      have HEQ:=Hd_ (fun (w:World)=>eqlPr xa xb ya yb w)
      obtain ⟨bb,hb2⟩:∃ bb,bb=decide ((xa,xb)=(ya,yb)):=⟨_,rfl⟩
      rw [<- hb2] at HEQ HK0
      have heq:=HEQ.out
      clear hb2 hx hy
      go_wp2_with fail
      refine wp_region_ext_lit (by kernel_rfl) (by kernel_rfl) ?_
      repeat (go_big_quiet_step (fail))
      refine wpQuiet_nil ?_
      rintro _ ⟨u2,rfl⟩
      obtain ⟨u4,hu4⟩:=ext_ext w u u2
      rw [hu4]
      have HU4:=Hd_ hu4
      clear hu4 heq HEQ
      cases bb with
      | false =>
        go_wp2_with fail
        go_roundw
        case rel =>
         refine ⟨i1+1+1,u4,by omega,by omega,by go_num,fun j hj=>?_,rfl⟩
         rcases Nat.lt_or_ge j (i1+1) with h | h
         · exact HKP.out j h
         · obtain rfl:j=i1+1:=by omega
           exact HK0.out
        case measure=>simp [intOf];omega
      | true =>
        have HST:=Hd_ (show xs.take (i1+1)=compTo xs (i1+1+1) by rw [compTo_no HK0.out,compTo_take (by have:=HN.out;omega) HKP.out])
        have hci:¬ c=i1+1:=by omega
        have HROW1:=Hd_ (ownsRow_below HROW.out (ext_below w u4) (Nat.le_refl _))
        have HON1:=Hd_ (Only.of_below (ext_below w u4) g (g+1))
        have hic:((i1+1:Nat):Int)<=(N:Int):=by omega
        generalize ext w u4=W1 at *
        clear HK0 HXI HXJ HKP HROWu d0 d1 f0 f1 q1
        go_wp2_with fail
        go_loopw [3,5] (fun ii kk wr=>∃ (i k:Nat) (L:List Pr),1<=k/\k<=N - (i1+1)/\i<=i1+k/\ii=.int .i64 (i:Int)/\kk=.int .i64 (k:Int)/\L.length=N/\L.take i=compTo xs (i1+1+k)/\L.drop (i1+k)=xs.drop (i1+k) /\
         wr.ownsRow lo 57 2 (.slice (some ⟨g,0,none⟩) N c) N (L.flatMap cPr)/\Only g (g+1) w wr) (fun _ kk _=>N - (i1+1) - (intOf kk).toNat)
        case atStart=>exact ⟨i1+1,1,xs,Nat.le_refl _,by omega,Nat.le_refl _,rfl,rfl,HN.out.symm,HST.out,rfl,HROW1.out,HON1.out⟩
        case round =>
         clear HROW1 HON1 HST
         obtain ⟨i,k,L,hk1,hkN,hik,rfl,rfl,hLn,hLt,hLd,hrow,hon⟩:=hrel
         have HLN:=Hd_ hLn
         have HLT:=Hd_ hLt
         have HLD:=Hd_ hLd
         have HROW:=Hd_ hrow
         have HON:=Hd_ hon
         have hsz:=hon.size
         clear hLn hLt hLd hrow hon
         obtain ⟨k1,rfl⟩:∃ k1,k=k1+1:=⟨k - 1,by omega⟩
         by_cases hlk:k1+1 < N - (i1+1)
         · have hxi:=getP (xs:=xs) (i:=i1+1+(k1+1)) (by have:=HN.out;omega)
           have hxj:=getP (xs:=xs) (i:=i1+1+k1) (by have:=HN.out;omega)
           have hk0:=keepP_pos (xs:=xs) (i:=i1+1+(k1+1)) (by omega)
           rw [show i1+1+(k1+1) - 1=i1+1+k1 by omega] at hk0
           have hLi:L[i1+1+(k1+1)]?=some (xs.getD (i1+1+(k1+1)) (0,0)):=by
            have h:=congrArg (fun l=>l[1]?) HLD.out
            simp only [List.getElem?_drop] at h
            rw [show i1+(k1+1)+1=i1+1+(k1+1) by omega] at h
            rw [h,hxi]
           have hLj:L[i1+1+k1]?=some (xs.getD (i1+1+k1) (0,0)):=by
            have h:=congrArg (fun l=>l[0]?) HLD.out
            simp only [List.getElem?_drop] at h
            rw [show i1+(k1+1)+0=i1+1+k1 by omega] at h
            rw [h,hxj]
           have hLo:=getP (xs:=L) (i:=i) (by have:=HLN.out;omega)
           obtain ⟨a0,a1⟩:=flatP_at hLi
           obtain ⟨b0,b1⟩:=flatP_at hLj
           obtain ⟨g0,g1⟩:=flatP_at hLo
           have d0:=(World.ownsRow.cellAt HROW.out ((i1+1+(k1+1)) * 2) (by omega)).trans a0
           have d1:=(World.ownsRow.cellAt HROW.out ((i1+1+(k1+1)) * 2+1) (by omega)).trans a1
           have f0:=(World.ownsRow.cellAt HROW.out ((i1+1+k1) * 2) (by omega)).trans b0
           have f1:=(World.ownsRow.cellAt HROW.out ((i1+1+k1) * 2+1) (by omega)).trans b1
           rw [show (i1+1+(k1+1)) * 2=(i1+1) * 2+(k1+1) * 2 by omega] at d0 d1
           rw [show (i1+1+k1) * 2=(i1+1) * 2+k1 * 2 by omega] at f0 f1
           have hgw:g < wr.heap.size:=by omega
           have HK0:=Hd_ hk0
           have HXI:=Hd_ (show ∀ h:keepP xs (i1+1+(k1+1))=true,compTo xs (i1+1+(k1+1)+1)=compTo xs (i1+1+(k1+1)) ++ [xs.getD (i1+1+(k1+1)) (0,0)] from fun h=>compTo_yes h)
           have HXJ:=Hd_ (show ∀ h:keepP xs (i1+1+(k1+1))=false,compTo xs (i1+1+(k1+1)+1)=compTo xs (i1+1+(k1+1)) from fun h=>compTo_no h)
           have HG0:=Hd_ g0
           have HG1:=Hd_ g1
           clear a0 a1 b0 b1 hxi hxj hk0 hLi hLj hLo g0 g1
           generalize hx:xs.getD (i1+1+(k1+1)) (0,0)=x at *
           generalize hy:xs.getD (i1+1+k1) (0,0)=y at *
           generalize L.getD i (0,0)=old at *
           clear hx hy
           obtain ⟨xa,xb⟩:=x
           obtain ⟨ya,yb⟩:=y
           simp only at d0 d1 f0 f1
           have q1:IntKind.i64.wrap (((k1+1:Nat):Int) - 1)=(k1:Int):=by rw [IntWalk.i64_in _ (by omega)];omega
           have hii:((k1+1:Nat):Int) < ((N - (i1+1):Nat):Int):=by omega
           have hjj:(k1:Int) < ((N - (i1+1):Nat):Int):=by omega
           have hiN:(i:Int) < (N:Int):=by omega
           have HEQ:=Hd_ (fun (w:World)=>neqlPr xa xb ya yb w)
           obtain ⟨bb,hb2⟩:∃ bb,bb=!decide ((xa,xb)=(ya,yb)):=⟨_,rfl⟩
           rw [<- hb2] at HEQ HK0
           have heq:=HEQ.out
           clear hb2
           go_wp2_with fail
           refine wp_region_ext_lit (by kernel_rfl) (by kernel_rfl) ?_
           repeat (go_big_quiet_step (fail))
           refine wpQuiet_nil ?_
           rintro _ ⟨u2,rfl⟩
           have hbu:=ext_below wr u2
           have HROWx:=Hd_ (ownsRow_below HROW.out hbu (Nat.le_refl _))
           have HONx:=Hd_ (HON.out.trans (Only.of_below hbu g (g+1)))
           have d0:=kcell hbu d0
           have d1:=kcell hbu d1
           have hgx:=Nat.lt_of_lt_of_le hgw hbu.size
           generalize ext wr u2=wx at *
           clear heq HEQ f0 f1 hbu
           cases bb with
           | true =>
             have ci0:=(World.ownsRow.cellAt HROWx.out (i * 2) (by omega)).trans HG0.out
             have ci1:=(World.ownsRow.cellAt HROWx.out (i * 2+1) (by omega)).trans HG1.out
             have fi0:=World.ownsRow.frozenAt HROWx.out (i * 2)
             have fi1:=World.ownsRow.frozenAt HROWx.out (i * 2+1)
             have hrow3:=(World.ownsRow.stored (World.ownsRow.stored HROWx.out (i * 2) (.int .i64 xa)).1 (i * 2+1) (.int .i64 xb)).1
             rw [flatP_set L i (xa,xb) (by have:=HLN.out;omega)] at hrow3
             have hon3:=(HONx.out.setCell (p:=⟨g,i * 2,none⟩) (.inl ⟨Nat.le_refl _,Nat.lt_succ_self _⟩) (.int .i64 xa)).setCell (p:=⟨g,i * 2+1,none⟩) (.inl ⟨Nat.le_refl _,Nat.lt_succ_self _⟩) (.int .i64 xb)
             have HROW3:=Hd_ hrow3
             have HON3:=Hd_ hon3
             have HL3:=Hd_ (show (L.set i (xa,xb)).length=N by rw [List.length_set];exact HLN.out)
             have HT3:=Hd_ (show (L.set i (xa,xb)).take (i+1)=compTo xs (i1+1+(k1+1+1)) by
              have h1:(L.set i (xa,xb))[i]?=some (xa,xb):=List.getElem?_set_self (by have:=HLN.out;omega)
              rw [take_snoc h1,List.take_set,List.set_eq_of_length_le (by rw [List.length_take];omega),HLT.out,show i1+1+(k1+1+1)=i1+1+(k1+1)+1 by omega,HXI.out HK0.out])
             have HD3:=Hd_ (show (L.set i (xa,xb)).drop (i1+(k1+1+1))=xs.drop (i1+(k1+1+1)) by
              rw [List.drop_set_of_lt (by omega),<- Nat.add_assoc,<- List.drop_drop,HLD.out,List.drop_drop])
             clear hrow3 hon3
             go_wp2_with fail
             go_roundw
             case rel=>exact ⟨i+1,k1+1+1,L.set i (xa,xb),by omega,by omega,by omega,by go_num,by go_num,HL3.out,HT3.out,HD3.out,HROW3.out,HON3.out⟩
             case measure=>simp [intOf];omega
           | false =>
             have HT3:=Hd_ (show L.take i=compTo xs (i1+1+(k1+1+1)) by rw [HLT.out,show i1+1+(k1+1+1)=i1+1+(k1+1)+1 by omega,HXJ.out HK0.out])
             have HD3:=Hd_ (show L.drop (i1+(k1+1+1))=xs.drop (i1+(k1+1+1)) by
              rw [<- Nat.add_assoc,<- List.drop_drop,HLD.out,List.drop_drop])
             go_wp2_with fail
             go_roundw
             case rel=>exact ⟨i,k1+1+1,L,by omega,by omega,by omega,rfl,by go_num,HLN.out,HT3.out,HD3.out,HROWx.out,HONx.out⟩
             case measure=>simp [intOf];omega
         · have hkk:k1+1=N - (i1+1):=by omega
           have hlz:¬ ((k1+1:Nat):Int) < ((N - (i1+1):Nat):Int):=by omega
           have hci2:¬ c=i:=by omega
           have hcl:∀ ty,(Builtin.clear_ #[24] ty #[.slice (some ⟨g,i * 2,none⟩) (N - i) (c - i)]).run Tryz.prog wr=.ok (.tuple #[]) (wr.setCells g (i * 2) (Builtin.zeroCells #[.int .i64 0,.int .i64 0] (N - i)).toList) :=
            fun ty=>clear_pairs wr ty g (i * 2) (N - i) (c - i) (by omega) (fun t ht=>by
             rw [World.ownsRow.cellAt HROW.out (i * 2+t) (by omega),List.getElem?_eq_getElem (by rw [flatP_len];have:=HLN.out;omega)];rfl) (fun t ht=>World.ownsRow.frozenAt HROW.out (i * 2+t))
           obtain ⟨cs',h1,h2,h3⟩:=setCells_ownP (Builtin.zeroCells #[.int .i64 0,.int .i64 0] (N - i)).toList (i * 2) _ _ HROW.out
           have h4:=ownsRow_take h1 (show i<=N by omega)
           have hfin:R=L.take i:=by rw [HR.out,HLT.out];congr 1;omega
           rw [h2,flatP_take,<- hfin] at h4
           have hRl:R.length=i:=by rw [hfin,List.length_take];have:=HLN.out;omega
           have HOWN:=Hd_ h4
           have HRL:=Hd_ hRl
           have HON2:=Hd_ (HON.out.trans h3)
           have hcz:(i:Int)<=(N:Int):=by omega
           have hcz2:(i:Int)<=(c:Int):=by omega
           clear h1 h2 h3 h4 hfin hRl hkk
           go_wp2_with fail
           go_ret
           exact ⟨_,rfl,by rw [HRL.out];exact HOWN.out,HON2.out⟩
    · obtain rfl:i0=N:=by omega
      have hfin:R=xs:=by rw [HR.out,compTo_take (by have:=HN.out;omega) HKP.out,HN.out,List.take_length]
      have HF:=Hd_ hfin
      have HROWu:=Hd_ (ownsRow_below HROW.out (ext_below w u) (Nat.le_refl _))
      clear hfin
      go_wp2_with fail
      go_ret
      exact ⟨_,rfl,by rw [HF.out,<- HN.out];exact HROWu.out,Only.of_below (ext_below w u) _ _⟩
end Go.Proofs.YtloeghbhoflabaaGreat
namespace Go.Proofs.YtloeghbhoflabaaGreat
open Go.ChangeShapes Go.WideShapes Go.ChangeAt Go.RowKit
attribute [local go_sem] ext_cell ext_frozen ext_lt ext_lt1 ext_lt2 ext_lt3 ltn2 ltn3 ltn13 lts1 lts2 lts3
theorem take_mapS {α β:Type} {f:α->β} {xs:List α} {i:Nat} {x:α} (h:xs[i]?=some x):(xs.take (i+1)).map f=(xs.take i).map f ++ [f x]:=by rw [take_snoc h,List.map_append];rfl
theorem compRow_yes {p q:Pr} {b:List Pr} {j:Nat} (h:b[j]?=some q) (he:p.2=q.1):compRow p (b.take (j+1))=compRow p (b.take j) ++ [(p.1,q.2)]:=by
 simp [compRow,take_snoc h,List.filter_append,he]
theorem compRow_no {p q:Pr} {b:List Pr} {j:Nat} (h:b[j]?=some q) (he:¬ p.2=q.1):compRow p (b.take (j+1))=compRow p (b.take j):=by
 simp [compRow,take_snoc h,List.filter_append,he]
theorem compL_take {a b:List Pr} {i:Nat} {p:Pr} (h:a[i]?=some p):compL (a.take (i+1)) b=compL (a.take i) b ++ compRow p b:=by
 simp [compL,take_snoc h]
theorem compRow_len (p:Pr) (b:List Pr) (j:Nat):(compRow p (b.take j)).length<=b.length:=by
 unfold compRow
 rw [List.length_map]
 refine Nat.le_trans (List.length_filter_le _ _) ?_
 rw [List.length_take];omega
theorem compL_len (a b:List Pr):(compL a b).length<=a.length * b.length:=by
 induction a with
 | nil=>simp [compL]
 | cons p a ih =>
   have h:=compRow_len p b b.length
   rw [List.take_length] at h
   simp only [compL,List.flatMap_cons,List.length_append,List.length_cons] at *
   rw [Nat.succ_mul];omega
set_option maxHeartbeats 4000000 in
set_option maxRecDepth 100000 in
theorem specCompose (va vb:Value) (a b:List Pr) (w:World) (hva:SlE w cPr 2 va a) (hvb:SlE w cPr 2 vb b) (hna:a.length<=1048576) (hnb:b.length<=1048576) :
 Calls Tryz.prog 8 #[va,vb] w fun e w'=>∃ v',e=.returned v'/\Own w.heap.size w'.heap.size w' 57 cPr 2 v' (composeL a b)/\Below w.heap.size w w':=by
 have hsa:=hva
 have hsb:=hvb
 obtain ⟨A,ca,rfl,hla,hma,-⟩:=hva
 obtain ⟨B,cb,rfl,hlb,hmb,-⟩:=hvb
 unfold maxLen at hma hmb
 obtain ⟨R,hR⟩:∃ R,R=composeL a b:=⟨_,rfl⟩
 rw [<- hR]
 have HR:=Hd_ hR
 have HSA:=Hd_ hsa
 have HSB:=Hd_ hsb
 clear hR hsa hsb
 go_enter Tryz.func8,Tryz.ntmps8
 go_wp2_with fail
 go_loopw [5,6] (fun oo ii wr=>∃ i:Nat,i<=a.length/\ii=.int .i64 (i:Int)/\SetR w.heap.size wr oo (psetL (compL (a.take i) b))/\Below w.heap.size w wr) (fun _ ii _=>a.length - (intOf ii).toNat)
 case atStart=>exact ⟨0,Nat.zero_le _,rfl,SetR.lit w _ (Nat.le_refl _),(Below.refl _ _).alloc (Nat.le_refl _) _⟩
 case round =>
  obtain ⟨i,hi,rfl,hset,hbel⟩:=hrel
  have HSET:=Hd_ hset
  have HBEL:=Hd_ hbel
  clear hset hbel
  obtain ⟨wo,rfl⟩:∃ wo:World,wo=wr:=⟨_,rfl⟩
  by_cases hlt:i < a.length
  · have hxi:a[i]?=some a[i]:=List.getElem?_eq_getElem hlt
    generalize a[i]=x at hxi
    obtain ⟨b1,o1,rfl,⟨-,hb1⟩,d0,d1⟩:=HSA.out.prA hxi
    obtain ⟨xa,xb⟩:=x
    simp only at d0 d1
    have D0:=Hd_ d0
    have D1:=Hd_ d1
    have hii:(i:Int) < (a.length:Int):=by omega
    have HRY:=Hd_ (fun (q:Pr) (j:Nat) (h:b[j]?=some q) he=>compRow_yes (p:=(xa,xb)) h he)
    have HRN:=Hd_ (fun (q:Pr) (j:Nat) (h:b[j]?=some q) he=>compRow_no (p:=(xa,xb)) h he)
    have HTK:=Hd_ (compL_take (b:=b) hxi)
    have HRL:=Hd_ (compRow_len (xa,xb) b)
    have hcl:=compL_len (a.take i) b
    have hti:(a.take i).length<=a.length:=by rw [List.length_take];omega
    have hcl2:(compL (a.take i) b).length<=1099511627776 - 1048576:=Nat.le_trans hcl (Nat.le_trans (Nat.mul_le_mul (show (a.take i).length<=1048575 by rw [List.length_take];omega) hnb) (by omega))
    clear hxi hcl hti d0 d1
    generalize compL (a.take i) b=C at *
    go_wp2_with fail
    go_loopw [5,7] (fun oo jj wr=>∃ j:Nat,j<=b.length/\jj=.int .i64 (j:Int)/\SetR w.heap.size wr oo (psetL (C ++ compRow (xa,xb) (b.take j)))/\Below w.heap.size w wr) (fun _ jj _=>b.length - (intOf jj).toNat)
    case atStart=>exact ⟨0,Nat.zero_le _,rfl,by simpa [compRow] using HSET.out,HBEL.out⟩
    case round =>
     obtain ⟨j,hj,rfl,hset2,hbel2⟩:=hrel
     have HSET2:=Hd_ hset2
     have hsz:=hbel2.size
     clear hset2
     by_cases hlj:j < b.length
     · have hyj:b[j]?=some b[j]:=List.getElem?_eq_getElem hlj
       generalize b[j]=y at hyj
       obtain ⟨b2,o2,rfl,⟨-,hb2⟩,f0,f1⟩:=HSB.out.prA hyj
       have f0:=kcell hbel2 f0
       have f1:=kcell hbel2 f1
       have d0:=kcell hbel2 D0.out
       have d1:=kcell hbel2 D1.out
       obtain ⟨ya,yb⟩:=y
       simp only at f0 f1
       have hb1w:b1 < wr.heap.size:=by omega
       have hb2w:b2 < wr.heap.size:=by omega
       have hjj:(j:Int) < (b.length:Int):=by omega
       have HYJ:=Hd_ hyj
       have hpl:=psetL_len (C ++ compRow (xa,xb) (b.take j))
       have hrl:=HRL.out j
       rw [List.length_append] at hpl
       clear hyj
       cases hxy:(xb==ya) with
       | true =>
         have HSN:=Hd_ (show psetL (C ++ compRow (xa,xb) (b.take (j+1)))=putP (psetL (C ++ compRow (xa,xb) (b.take j))) (xa,yb) by
          rw [HRY.out _ j HYJ.out (by simpa using hxy),<- List.append_assoc,psetL_snoc])
         generalize psetL (C ++ compRow (xa,xb) (b.take j))=L at *
         go_wp2_with fail
         refine wp_region_ext_lit (by kernel_rfl) (by kernel_rfl) ?_
         repeat (go_big_quiet_step (fail))
         refine wpQuiet_nil ?_
         rintro _ ⟨u1,rfl⟩
         have hbel3:=hbel2.trans ((ext_below wr u1).mono hsz)
         have HSET3:=Hd_ (HSET2.out.below (ext_below wr u1))
         have d0:=kcell (ext_below wr u1) d0
         have d1:=kcell (ext_below wr u1) d1
         have f0:=kcell (ext_below wr u1) f0
         have f1:=kcell (ext_below wr u1) f1
         have hsz3:=hbel3.size
         have hb1w:=Nat.lt_of_lt_of_le hb1w (ext_size wr u1)
         have hb2w:=Nat.lt_of_lt_of_le hb2w (ext_size wr u1)
         generalize ext wr u1=wx at *
         go_wp2_with fail
         refine wp_region_ext_tail 12 (by kernel_rfl) (by kernel_rfl) ?_
         simp only [List.take_succ_cons,List.take_zero]
         repeat (go_big_quiet_step (fail))
         refine wpQuiet_nil ?_
         rintro _ ⟨u2,rfl⟩
         simp only [List.drop_succ_cons,List.drop_zero]
         have hbu:=ext_below wx u2
         have HP:=Hd_ (l15Put_any _ w.heap.size L (xa,yb) (ext wx u2) (HSET3.out.below hbu) (Nat.le_trans hsz3 hbu.size) (by omega))
         go_wp2_with fail
         refine HP.out.mono ?_
         rintro e w4 ⟨v4,rfl,hs4,hb4⟩
         have HS4:=Hd_ hs4
         have HB4:=Hd_ (hbel3.trans ((below_trans hbu hb4).mono hsz3))
         clear hs4 hb4 hbu
         go_wp2_with fail
         go_roundw
         case rel=>exact ⟨j+1,by omega,by go_num,by rw [HSN.out];exact HS4.out,HB4.out⟩
         case measure=>simp [intOf];omega
       | false =>
         have HSN:=Hd_ (show psetL (C ++ compRow (xa,xb) (b.take (j+1)))=psetL (C ++ compRow (xa,xb) (b.take j)) by
          rw [HRN.out _ j HYJ.out (by simpa using hxy)])
         generalize psetL (C ++ compRow (xa,xb) (b.take j))=L at *
         go_wp2_with fail
         refine wp_region_ext_lit (by kernel_rfl) (by kernel_rfl) ?_
         repeat (go_big_quiet_step (fail))
         refine wpQuiet_nil ?_
         rintro _ ⟨u1,rfl⟩
         have HB4:=Hd_ (hbel2.trans ((ext_below wr u1).mono hsz))
         have HS4:=Hd_ (HSET2.out.below (ext_below wr u1))
         generalize ext wr u1=wx at *
         go_wp2_with fail
         go_roundw
         case rel=>exact ⟨j+1,by omega,by go_num,by rw [HSN.out];exact HS4.out,HB4.out⟩
         case measure=>simp [intOf];omega
     · obtain rfl:j=b.length:=by omega
       rw [List.take_length,<- HTK.out] at HSET2
       go_wp2_with fail
       go_roundw
       case rel=>exact ⟨i+1,by omega,by go_num,HSET2.out,hbel2⟩
       case measure=>simp [intOf];omega
  · obtain rfl:i=a.length:=by omega
    rw [List.take_length] at HSET
    have HO:=Hd_ (show Own w.heap.size wo.heap.size wo 57 cPr 2 _ R from by rw [HR.out];exact HSET.out.own)
    obtain ⟨g,c',rfl,-⟩:=HSET.out
    go_wp2_with fail
    go_ret
    exact ⟨_,rfl,HO.out,HBEL.out⟩
theorem within_any (n a b:Int) (w:World):Calls Tryz.prog 29 #[.int .i64 n,.int .i64 a,.int .i64 b] w fun e w'=>e=.returned (.bool (wi n a b))/\w'=w:=by
 unfold wi
 by_cases h1:a<=n
 · have e1:decide (a<=n)=true:=by simpa using h1
   by_cases h2:n<=b
   · go_enter Tryz.func29,Tryz.ntmps29
     go_wp2
     go_ret
     exact ⟨by simp [h1,h2],rfl⟩
   · go_enter Tryz.func29,Tryz.ntmps29
     go_wp2
     go_ret
     exact ⟨by simp [h1];try omega,rfl⟩
 · have e1:decide (a<=n)=false:=by simpa using h1
   go_enter Tryz.func29,Tryz.ntmps29
   go_wp2
   go_ret
   exact ⟨by simp [h1];try omega,rfl⟩
def prAt (l:List Pr) (i:Nat):Bool :=
 match l[i]? with
 | none=>true
 | some x=>wi x.1 0 4 && wi x.2 0 4 && (decide (i=0) || match l[i - 1]? with
   | some p=>ltP p x
   | none=>true)
def arePL (l:List Pr):Bool:=(List.range l.length).all (prAt l)
theorem arePL_in {l:List Pr} (h:arePL l=true):∀ p ∈ l,inB p.1/\inB p.2:=fun p hp=>by
 obtain ⟨i,hi,rfl⟩:=List.getElem_of_mem hp
 have:=(List.all_eq_true.1 h) i (List.mem_range.2 hi)
 rw [prAt,List.getElem?_eq_getElem hi] at this
 simp only [Bool.and_eq_true,wi_iff] at this
 exact ⟨this.1.1,this.1.2⟩
set_option maxHeartbeats 2000000 in
set_option maxRecDepth 100000 in
theorem implAre (v:Value) (l:List Pr) (w:World) (hv:SlE w cPr 2 v l) (hn:l.length<=1048576) :
 Calls Tryz.prog 30 #[v] w fun e w'=>e=.returned (.bool (arePL l))/\Below w.heap.size w w':=by
 have hsl:=hv
 obtain ⟨A,c,rfl,hl,hm,-⟩:=hv
 unfold maxLen at hm
 have hin:∀ (n:Int) (w:World),Calls Tryz.prog 29 #[.int .i64 n,.int .i64 0,.int .i64 4] w fun e w'=>e=.returned (.bool (wi n 0 4))/\Below w.heap.size w w':=fun n w=>by
  refine (within_any n 0 4 w).mono ?_
  rintro e w' ⟨rfl,rfl⟩
  exact ⟨rfl,Below.refl _ _⟩
 obtain ⟨R,hR⟩:∃ R,R=arePL l:=⟨_,rfl⟩
 rw [<- hR]
 have HR:=Hd_ hR
 have HSL:=Hd_ hsl
 have HIN:=Hd_ hin
 clear hR hsl hin
 go_enter Tryz.func30,Tryz.ntmps30
 go_wp2_with fail
 go_loopw [7] (fun ii wr=>∃ (i:Nat) (u:World),i<=l.length/\ii=.int .i64 (i:Int)/\(List.range i).all (prAt l)=true/\wr=ext w u) (fun ii _=>l.length - (intOf ii).toNat)
 case atStart=>exact ⟨0,_,Nat.zero_le _,rfl,rfl,ext_self _⟩
 case round =>
  obtain ⟨i,u,hi,rfl,hall,rfl⟩:=hrel
  have HA:=Hd_ hall
  clear hall
  by_cases hlt:i < l.length
  · have hxi:l[i]?=some l[i]:=List.getElem?_eq_getElem hlt
    generalize l[i]=x at hxi
    obtain ⟨b,o,rfl,⟨-,hb⟩,d0,d1⟩:=HSL.out.prA hxi
    obtain ⟨x1,x2⟩:=x
    simp only at d0 d1
    have HX:=Hd_ hxi
    have hii:(i:Int) < (l.length:Int):=by omega
    clear hxi
    have hbx:∀ o u2,∃ z,ext ((ext w u).alloc o) u2=ext w z:=fun o u2=>ext_of (below_trans (ext_below _ _) (below_trans ((Below.refl _ _).alloc (Nat.le_refl _) _) (ext_below _ _)))
    cases g1:wi x1 0 4 with
    | false =>
      have G1:=Hd_ g1
      have hfin:R=false:=by rw [HR.out];exact range_all_false hlt (by rw [prAt,HX.out];simp [G1.out])
      have HF:=Hd_ hfin
      clear hfin
      go_wp2_with fail
      refine wp_region_ext_lit (by kernel_rfl) (by kernel_rfl) ?_
      repeat (go_big_quiet_step ((first | (go_at_call 29;exact Calls.ext_of (HIN.out _ _)))))
      refine wpQuiet_nil ?_
      rintro _ ⟨u2,rfl⟩
      go_wp2_with fail
      go_ret
      exact ⟨by rw [HF.out];rfl,(below_trans (ext_below _ _) (below_trans ((Below.refl _ _).alloc (Nat.le_refl _) _) (ext_below _ _)))⟩
    | true =>
      have G1:=Hd_ g1
      cases g2:wi x2 0 4 with
      | false =>
        have G2:=Hd_ g2
        have hfin:R=false:=by rw [HR.out];exact range_all_false hlt (by rw [prAt,HX.out];simp [G1.out,G2.out])
        have HF:=Hd_ hfin
        clear hfin
        go_wp2_with fail
        refine wp_region_ext_lit (by kernel_rfl) (by kernel_rfl) ?_
        repeat (go_big_quiet_step ((first | (go_at_call 29;exact Calls.ext_of (HIN.out _ _)))))
        refine wpQuiet_nil ?_
        rintro _ ⟨u2,rfl⟩
        go_wp2_with fail
        go_ret
        exact ⟨by rw [HF.out];rfl,(below_trans (ext_below _ _) (below_trans ((Below.refl _ _).alloc (Nat.le_refl _) _) (ext_below _ _)))⟩
      | true =>
        have G2:=Hd_ g2
        by_cases hi0:i=0
        · subst hi0
          simp only [Nat.zero_mul,Nat.add_zero,Nat.zero_add] at d0 d1
          have hat:prAt l 0=true:=by rw [prAt,HX.out];simp [G1.out,G2.out]
          have HAT:=Hd_ hat
          clear hat
          go_wp2_with fail
          refine wp_region_ext_lit (by kernel_rfl) (by kernel_rfl) ?_
          repeat (go_big_quiet_step ((first | (go_at_call 29;exact Calls.ext_of (HIN.out _ _)))))
          refine wpQuiet_nil ?_
          rintro _ ⟨u2,rfl⟩
          go_wp2_with fail
          go_roundw
          case rel =>
           obtain ⟨z,hz⟩:=hbx _ u2
           exact ⟨1,z,by omega,by go_num,range_all_succ HA.out HAT.out,hz⟩
          case measure=>simp [intOf];omega
        · have hi1:0 < i:=by omega
          have hxj:l[i - 1]?=some l[i - 1]:=List.getElem?_eq_getElem (by omega)
          generalize l[i - 1]=p at hxj
          obtain ⟨b9,o9,ho9,-,p0,p1⟩:=HSL.out.prA hxj
          obtain ⟨rfl,rfl⟩:b=b9/\o=o9:=by injection ho9 with h1;injection h1 with h1 h2;exact ⟨h1,h2⟩
          obtain ⟨y1,y2⟩:=p
          simp only at p0 p1
          have HXJ:=Hd_ hxj
          have hb1':b < w.heap.size+1:=by omega
          have hi00:((i:Int) > 0):=by omega
          clear hxj ho9
          have h3:∀ w:World,Calls Tryz.prog 55 #[.agg #[.int .i64 y1,.int .i64 y2],.agg #[.int .i64 x1,.int .i64 x2]] w fun e w'=>e=.returned (.int .i64 (cmpP (y1,y2) (x1,x2)))/\Below w.heap.size w w':=fun w=>by
           refine (comparePairs_any (y1,y2) (x1,x2) w).mono ?_
           rintro e w' ⟨rfl,rfl⟩
           exact ⟨rfl,((Below.refl _ _).alloc (Nat.le_refl _) _).alloc (by simp) _⟩
          have hco:=ltOf_cmp (y1,y2) (x1,x2)
          rw [ltOf] at hco
          generalize cmpP (y1,y2) (x1,x2)=cc at h3 hco
          cases gl:ltP (y1,y2) (x1,x2) with
          | false =>
            rw [gl] at hco
            have GL:=Hd_ gl
            clear gl
            have hge:decide (cc >= 0)=true:=by simp only [decide_eq_false_iff_not,decide_eq_true_eq] at hco ⊢;omega
            clear hco
            have hfin:R=false:=by rw [HR.out];exact range_all_false hlt (by rw [prAt,HX.out];simp [G1.out,G2.out,HXJ.out,hi0,GL.out])
            have HF:=Hd_ hfin
            clear hfin
            go_wp2_with fail
            have q1:IntKind.i64.wrap ((i:Int) - 1)=(i:Int) - 1:=IntWalk.i64_in _ (by omega)
            have q2:0<=(i:Int) - 1:=by omega
            have q3:(i:Int) - 1 < (l.length:Int):=by omega
            have q4:((i:Int) - 1).toNat=i - 1:=by omega
            refine wp_region_ext_lit (by kernel_rfl) (by kernel_rfl) ?_
            repeat (go_big_quiet_step ((first | (go_at_call 29;exact Calls.ext_of (HIN.out _ _)) | (go_at_call 55;exact Calls.ext_of (h3 _)))))
            refine wpQuiet_nil ?_
            rintro _ ⟨u2,rfl⟩
            clear q1 q2 q3 q4
            go_wp2_with fail
            go_ret
            exact ⟨by rw [HF.out];rfl,(below_trans (ext_below _ _) (below_trans ((Below.refl _ _).alloc (Nat.le_refl _) _) (ext_below _ _)))⟩
          | true =>
            rw [gl] at hco
            have GL:=Hd_ gl
            clear gl
            have hge:decide (cc >= 0)=false:=by simp only [decide_eq_false_iff_not,decide_eq_true_eq] at hco ⊢;omega
            clear hco
            have hat:prAt l i=true:=by rw [prAt,HX.out];simp [G1.out,G2.out,HXJ.out,GL.out]
            have HAT:=Hd_ hat
            clear hat
            go_wp2_with fail
            have q1:IntKind.i64.wrap ((i:Int) - 1)=(i:Int) - 1:=IntWalk.i64_in _ (by omega)
            have q2:0<=(i:Int) - 1:=by omega
            have q3:(i:Int) - 1 < (l.length:Int):=by omega
            have q4:((i:Int) - 1).toNat=i - 1:=by omega
            refine wp_region_ext_lit (by kernel_rfl) (by kernel_rfl) ?_
            repeat (go_big_quiet_step ((first | (go_at_call 29;exact Calls.ext_of (HIN.out _ _)) | (go_at_call 55;exact Calls.ext_of (h3 _)))))
            refine wpQuiet_nil ?_
            rintro _ ⟨u2,rfl⟩
            clear q1 q2 q3 q4
            go_wp2_with fail
            go_roundw
            case rel =>
             obtain ⟨z,hz⟩:=hbx _ u2
             exact ⟨i+1,z,by omega,by go_num,range_all_succ HA.out HAT.out,hz⟩
            case measure=>simp [intOf];omega
  · obtain rfl:i=l.length:=by omega
    have hfin:R=true:=by rw [HR.out];exact HA.out
    have HF:=Hd_ hfin
    clear hfin
    go_wp2_with fail
    go_ret
    exact ⟨by rw [HF.out];rfl,ext_below _ _⟩
set_option maxHeartbeats 2000000 in
set_option maxRecDepth 100000 in
theorem specAre (v:Value) (l:List Pr) (w:World) (hv:SlE w cPr 2 v l) (hn:l.length<=1048576) :
 Calls Tryz.prog 33 #[v] w fun e w'=>e=.returned (.bool (arePL l))/\Below w.heap.size w w':=by
 have hsl:=hv
 obtain ⟨A,c,rfl,hl,hm,-⟩:=hv
 unfold maxLen at hm
 have hin:∀ (n:Int) (w:World),Calls Tryz.prog 32 #[.int .i64 n,.int .i64 0,.int .i64 4] w fun e w'=>e=.returned (.bool (wi n 0 4))/\Below w.heap.size w w':=fun n w=>by
  refine (l1In_any n 0 4 w).mono ?_
  rintro e w' ⟨rfl,rfl⟩
  exact ⟨rfl,Below.refl _ _⟩
 obtain ⟨R,hR⟩:∃ R,R=arePL l:=⟨_,rfl⟩
 rw [<- hR]
 have HR:=Hd_ hR
 have HSL:=Hd_ hsl
 have HIN:=Hd_ hin
 clear hR hsl hin
 go_enter Tryz.func33,Tryz.ntmps33
 go_wp2_with fail
 go_loopw [3] (fun ii wr=>∃ (i:Nat) (u:World),i<=l.length/\ii=.int .i64 (i:Int)/\(List.range i).all (prAt l)=true/\wr=ext w u) (fun ii _=>l.length - (intOf ii).toNat)
 case atStart=>exact ⟨0,_,Nat.zero_le _,rfl,rfl,ext_self _⟩
 case round =>
  obtain ⟨i,u,hi,rfl,hall,rfl⟩:=hrel
  have HA:=Hd_ hall
  clear hall
  by_cases hlt:i < l.length
  · have hxi:l[i]?=some l[i]:=List.getElem?_eq_getElem hlt
    generalize l[i]=x at hxi
    obtain ⟨b,o,rfl,⟨-,hb⟩,d0,d1⟩:=HSL.out.prA hxi
    obtain ⟨x1,x2⟩:=x
    simp only at d0 d1
    have HX:=Hd_ hxi
    have hii:(i:Int) < (l.length:Int):=by omega
    clear hxi
    have hbx:∀ u2,∃ z,ext (ext w u) u2=ext w z:=fun u2=>ext_of (below_trans (ext_below _ _) (ext_below _ _))
    cases g1:wi x1 0 4 with
    | false =>
      have G1:=Hd_ g1
      have hfin:R=false:=by rw [HR.out];exact range_all_false hlt (by rw [prAt,HX.out];simp [G1.out])
      have HF:=Hd_ hfin
      clear hfin
      go_wp2_with fail
      refine wp_region_ext_lit (by kernel_rfl) (by kernel_rfl) ?_
      repeat (go_big_quiet_step ((first | (go_at_call 32;exact Calls.ext_of (HIN.out _ _)))))
      refine wpQuiet_nil ?_
      rintro _ ⟨u2,rfl⟩
      go_wp2_with fail
      go_ret
      exact ⟨by rw [HF.out];rfl,(below_trans (ext_below _ _) (ext_below _ _))⟩
    | true =>
      have G1:=Hd_ g1
      cases g2:wi x2 0 4 with
      | false =>
        have G2:=Hd_ g2
        have hfin:R=false:=by rw [HR.out];exact range_all_false hlt (by rw [prAt,HX.out];simp [G1.out,G2.out])
        have HF:=Hd_ hfin
        clear hfin
        go_wp2_with fail
        refine wp_region_ext_lit (by kernel_rfl) (by kernel_rfl) ?_
        repeat (go_big_quiet_step ((first | (go_at_call 32;exact Calls.ext_of (HIN.out _ _)))))
        refine wpQuiet_nil ?_
        rintro _ ⟨u2,rfl⟩
        go_wp2_with fail
        go_ret
        exact ⟨by rw [HF.out];rfl,(below_trans (ext_below _ _) (ext_below _ _))⟩
      | true =>
        have G2:=Hd_ g2
        by_cases hi0:i=0
        · subst hi0
          simp only [Nat.zero_mul,Nat.add_zero,Nat.zero_add] at d0 d1
          have hat:prAt l 0=true:=by rw [prAt,HX.out];simp [G1.out,G2.out]
          have HAT:=Hd_ hat
          clear hat
          go_wp2_with fail
          refine wp_region_ext_lit (by kernel_rfl) (by kernel_rfl) ?_
          repeat (go_big_quiet_step ((first | (go_at_call 32;exact Calls.ext_of (HIN.out _ _)))))
          refine wpQuiet_nil ?_
          rintro _ ⟨u2,rfl⟩
          go_wp2_with fail
          go_roundw
          case rel =>
           obtain ⟨z,hz⟩:=hbx u2
           exact ⟨1,z,by omega,by go_num,range_all_succ HA.out HAT.out,hz⟩
          case measure=>simp [intOf];omega
        · have hi1:0 < i:=by omega
          have hxj:l[i - 1]?=some l[i - 1]:=List.getElem?_eq_getElem (by omega)
          generalize l[i - 1]=p at hxj
          obtain ⟨b9,o9,ho9,-,p0,p1⟩:=HSL.out.prA hxj
          obtain ⟨rfl,rfl⟩:b=b9/\o=o9:=by injection ho9 with h1;injection h1 with h1 h2;exact ⟨h1,h2⟩
          obtain ⟨y1,y2⟩:=p
          simp only at p0 p1
          have HXJ:=Hd_ hxj
          have hb1':b < w.heap.size+1:=by omega
          have hi00:((i:Int) > 0):=by omega
          clear hxj ho9
          have h3:=l15Less_any (y1,y2) (x1,x2)
          simp only at h3
          cases gl:ltP (y1,y2) (x1,x2) with
          | false =>
            rw [gl] at h3
            have GL:=Hd_ gl
            clear gl
            have hfin:R=false:=by rw [HR.out];exact range_all_false hlt (by rw [prAt,HX.out];simp [G1.out,G2.out,HXJ.out,hi0,GL.out])
            have HF:=Hd_ hfin
            clear hfin
            go_wp2_with fail
            have q1:IntKind.i64.wrap ((i:Int) - 1)=(i:Int) - 1:=IntWalk.i64_in _ (by omega)
            have q2:0<=(i:Int) - 1:=by omega
            have q3:(i:Int) - 1 < (l.length:Int):=by omega
            have q4:((i:Int) - 1).toNat=i - 1:=by omega
            refine wp_region_ext_lit (by kernel_rfl) (by kernel_rfl) ?_
            repeat (go_big_quiet_step ((first | (go_at_call 32;exact Calls.ext_of (HIN.out _ _)) | (go_at_call 57;exact Calls.ext_of (h3 _)))))
            refine wpQuiet_nil ?_
            rintro _ ⟨u2,rfl⟩
            clear q1 q2 q3 q4
            go_wp2_with fail
            go_ret
            exact ⟨by rw [HF.out];rfl,(below_trans (ext_below _ _) (ext_below _ _))⟩
          | true =>
            rw [gl] at h3
            have GL:=Hd_ gl
            clear gl
            have hat:prAt l i=true:=by rw [prAt,HX.out];simp [G1.out,G2.out,HXJ.out,GL.out]
            have HAT:=Hd_ hat
            clear hat
            go_wp2_with fail
            have q1:IntKind.i64.wrap ((i:Int) - 1)=(i:Int) - 1:=IntWalk.i64_in _ (by omega)
            have q2:0<=(i:Int) - 1:=by omega
            have q3:(i:Int) - 1 < (l.length:Int):=by omega
            have q4:((i:Int) - 1).toNat=i - 1:=by omega
            refine wp_region_ext_lit (by kernel_rfl) (by kernel_rfl) ?_
            repeat (go_big_quiet_step ((first | (go_at_call 32;exact Calls.ext_of (HIN.out _ _)) | (go_at_call 57;exact Calls.ext_of (h3 _)))))
            refine wpQuiet_nil ?_
            rintro _ ⟨u2,rfl⟩
            clear q1 q2 q3 q4
            go_wp2_with fail
            go_roundw
            case rel =>
             obtain ⟨z,hz⟩:=hbx u2
             exact ⟨i+1,z,by omega,by go_num,range_all_succ HA.out HAT.out,hz⟩
            case measure=>simp [intOf];omega
  · obtain rfl:i=l.length:=by omega
    have hfin:R=true:=by rw [HR.out];exact HA.out
    have HF:=Hd_ hfin
    clear hfin
    go_wp2_with fail
    go_ret
    exact ⟨by rw [HF.out];rfl,ext_below _ _⟩
end Go.Proofs.YtloeghbhoflabaaGreat
