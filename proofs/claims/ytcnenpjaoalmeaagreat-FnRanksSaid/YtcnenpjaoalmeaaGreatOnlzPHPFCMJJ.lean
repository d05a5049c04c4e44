/- Parts of the proof, joined into one text: TwoD, WalkM, MatchM, StepI, NodesI, NodesS, Ends, WalkS, AlongS, CntM. -/
import Derived.Test.YtcnenpjaoalmeaaGreatOnlzOFLKAIBE
import Derived.Test.YtcnenpjaoalmeaaGreatOnlzAMFEKBDB
import Derived.Test.YtcnenpjaoalmeaaGreatOnlzFMIHCKLL
import Derived.RegionTactic
import Derived.BigRegion
import Derived.Test.YtcnenpjaoalmeaaGreatOnlzNBNNNJPC
import Derived.Test.YtcnenpjaoalmeaaGreatOnlzPFBPAMGP
import Derived.Test.YtcnenpjaoalmeaaGreatOnlzAAOIIFGL
set_option linter.unusedVariables false
set_option linter.unusedSimpArgs false
namespace Go.Proofs.YtcnenpjaoalmeaaGreat
open Go.ChangeShapes Go.WideShapes Go.ChangeAt Go.RowKit
attribute [local go_sem] ext_cell ext_frozen ext_lt ext_lt1 ext_lt2 ext_lt3 ltn2 ltn3 ltn13 lts1 lts2 lts3
/-- the cursor's bytes do not lie in blocks whose cells are no bytes -/
theorem Cur.off {w w':World} {b l r:Nat} (hc:Cur w b) (ho:Only l r w w') (hr:r<=b) (hn:∀ q,l<=q->q < r->∀ o (x:Int),w.cell? ⟨q,o,none⟩ ≠ some (.int .u8 x)):Cur w' b:=by
 obtain ⟨A,bs,c,i,h,h1,⟨A',c',hv,hl,hm,hx⟩,h3⟩:=hc
 have hbl:=h1.lt
 refine ⟨A,bs,c,i,h,h1.only ho (.inr hr),⟨A',c',hv,hl,hm,fun k u hk=>?_⟩,h3⟩
 obtain ⟨q,o,hA,h0,hqb,hcc⟩:=hx k u hk
 have hqr:q < l ∨ r<=q:=by
  rcases Nat.lt_or_ge q l with h5 | h5
  · exact .inl h5
  · rcases Nat.lt_or_ge q r with h6 | h6
    · exact absurd (hcc 0 _ rfl) (hn q h5 h6 _ _)
    · exact .inr h6
 exact ⟨q,o,hA,h0,hqb,fun j t ht=>(ho.cell (p:=⟨q,o+k * 1+j,none⟩) (by simp only;omega) (by simp only;omega)).trans (hcc j t ht)⟩
/-- a graph in the block gq, an automaton in aq, the cursor in b; the results' blocks r and r + 1 -/
structure GaR (b r gq aq:Nat) (w0 w:World) (gs es:Value) (g:Gr) (ac nx:Value) (a:Au):Prop where
 res1:Blk w r 27 #[.slice none 0 0,.slice none 0 0]
 res2:Blk w (r+1) 31 #[.int .i64 0,.slice none 0 0,.slice none 0 0]
 gbk:Blk w gq 27 #[gs,es]
 abk:Blk w aq 31 #[.int .i64 a.start,ac,nx]
 gv:GrV (b+1) gq w (.agg #[gs,es]) g
 av:AuV (b+1) gq w (.agg #[.int .i64 a.start,ac,nx]) a
 cur:Cur w b
 bel:Below w0.heap.size w0 w
 at0:w0.heap.size=r
 e11:g.edges.length<=11
 ord:r+1 < b/\b < gq/\gq < aq
section
variable {b r gq aq:Nat} {w0 w w':World} {gs es:Value} {g:Gr} {ac nx:Value} {a:Au}
theorem GaR.step (h:GaR b r gq aq w0 w gs es g ac nx a) (ho:Only b (b+1) w w') (hc:Cur w' b):GaR b r gq aq w0 w' gs es g ac nx a:=by
 have hd:=h.ord
 have hq:=h.abk.lt
 have h0:=h.at0
 exact ⟨h.res1.only ho (.inl (by omega)),h.res2.only ho (.inl (by omega)),h.gbk.only ho (.inr (by omega)),h.abk.only ho (.inr (by omega)),h.gv.only ho (by omega) (.inr (by omega)),h.av.only ho (by omega) (.inr (by omega)),hc,h.bel.trans (ho.below (B:=w0.heap.size) (by omega) h.bel.size),h.at0,h.e11,hd⟩
theorem GaR.keep (h:GaR b r gq aq w0 w gs es g ac nx a) (hb:Below w.heap.size w w'):GaR b r gq aq w0 w' gs es g ac nx a:=by
 have hd:=h.ord
 have hq:=h.abk.lt
 exact ⟨h.res1.keep hb,h.res2.keep hb,h.gbk.keep hb,h.abk.keep hb,h.gv.below hb (by omega),h.av.below hb (by omega),h.cur.keep hb,below_trans h.bel hb,h.at0,h.e11,hd⟩
theorem GaR.drew (h:GaR b r gq aq w0 w gs es g ac nx a):GaR b r gq aq w0 w.drew gs es g ac nx a:=h.keep (Below.refl w.heap.size w).drew
theorem GaR.grv (h:GaR b r gq aq w0 w gs es g ac nx a):GrV 0 w.heap.size w (.agg #[gs,es]) g:=h.gv.mono (Nat.zero_le _) (by have:=h.ord;have:=h.abk.lt;omega)
theorem GaR.auv (h:GaR b r gq aq w0 w gs es g ac nx a):AuV 0 w.heap.size w (.agg #[.int .i64 a.start,ac,nx]) a:=h.av.mono (Nat.zero_le _) (by have:=h.ord;have:=h.abk.lt;omega)
theorem GaR.grb (h:GaR b r gq aq w0 w gs es g ac nx a):GrV (b+1) w.heap.size w (.agg #[gs,es]) g:=h.gv.mono (Nat.le_refl _) (by have:=h.ord;have:=h.abk.lt;omega)
theorem GaR.fin (h:GaR b r gq aq w0 w gs es g ac nx a) (ho:Only r (r+2) w w') :
 w0.heap.size<=b/\GrV (b+1) w'.heap.size w' (.agg #[gs,es]) g/\g.edges.length<=11/\AuV (b+1) w'.heap.size w' (.agg #[.int .i64 a.start,ac,nx]) a/\Cur w' b/\Below w0.heap.size w0 w':=by
 have hd:=h.ord
 have h0:=h.at0
 have hq:=h.abk.lt
 have hs:=ho.size
 refine ⟨by omega,(h.gv.only ho (by omega) (.inr (by omega))).mono (Nat.le_refl _) (by omega),h.e11,(h.av.only ho (by omega) (.inr (by omega))).mono (Nat.le_refl _) (by omega),h.cur.off ho (by omega) (fun q h1 h2 o x=>?_),h.bel.trans (ho.below (B:=w0.heap.size) (by omega) h.bel.size)⟩
 obtain rfl | rfl:q=r ∨ q=r+1:=by omega
 · rw [h.res1.cell]
   rcases o with _ | _ | o <;> simp
 · rw [h.res2.cell]
   rcases o with _ | _ | _ | o <;> simp
/-- the same, the cursor forgotten -/
theorem GaR.fin0 (h:GaR b r gq aq w0 w gs es g ac nx a) (ho:Only r (r+2) w w') :
 GrV 0 w'.heap.size w' (.agg #[gs,es]) g/\g.edges.length<=11/\AuV 0 w'.heap.size w' (.agg #[.int .i64 a.start,ac,nx]) a/\Below w0.heap.size w0 w':=by
 obtain ⟨-,h1,h2,h3,-,h4⟩:=h.fin ho
 exact ⟨h1.mono (Nat.zero_le _) (Nat.le_refl _),h2,h3.mono (Nat.zero_le _) (Nat.le_refl _),h4⟩
theorem GaR.blks (h:GaR b r gq aq w0 w gs es g ac nx a) (ho:Only r (r+2) w w'):Blk w' gq 27 #[gs,es]/\Blk w' aq 31 #[.int .i64 a.start,ac,nx]:=by
 have hd:=h.ord
 exact ⟨h.gbk.only ho (.inr (by omega)),h.abk.only ho (.inr (by omega))⟩
/-- behind the first store -/
theorem GaR.put (h:GaR b r gq aq w0 w gs es g ac nx a) (v1 v2:Value) :
 Only r (r+2) w ((w.setCell ⟨r,0,none⟩ v1).setCell ⟨r,1,none⟩ v2)/\Blk ((w.setCell ⟨r,0,none⟩ v1).setCell ⟨r,1,none⟩ v2) (r+1) 31 #[.int .i64 0,.slice none 0 0,.slice none 0 0]:=by
 have ho:=Only.put2 w r v1 v2
 exact ⟨((Only.refl r (r+2) w).setCell (p:=⟨r,0,none⟩) (.inl (by simp only;omega)) _).setCell (p:=⟨r,1,none⟩) (.inl (by simp only;omega)) _,h.res2.only ho (.inr (by omega))⟩
end
def putGC (w:World) (r:Nat) (gs es st ac nx:Value):World:=((((w.setCell ⟨r,0,none⟩ gs).setCell ⟨r,1,none⟩ es).setCell ⟨r+1,0,none⟩ st).setCell ⟨r+1,1,none⟩ ac).setCell ⟨r+1,2,none⟩ nx
theorem putGC_only (w:World) (r:Nat) (gs es st ac nx:Value):Only r (r+2) w (putGC w r gs es st ac nx):=(((((Only.refl r (r+2) w).setCell (p:=⟨r,0,none⟩) (.inl (by simp only;omega)) _).setCell (p:=⟨r,1,none⟩) (.inl (by simp only;omega)) _).setCell (p:=⟨r+1,0,none⟩) (.inl (by simp only;omega)) _).setCell (p:=⟨r+1,1,none⟩) (.inl (by simp only;omega)) _).setCell (p:=⟨r+1,2,none⟩) (.inl (by simp only;omega)) _
theorem grT_len {lo hi:Nat} {w:World} {A1 A2:Option Addr} {n1 c1 n2 c2:Nat} {g:Gr} (h:GrV lo hi w (.agg #[.slice A1 n1 c1,.slice A2 n2 c2]) g):n1<=maxLen:=by
 obtain ⟨vs,es,hv,⟨A,c,rfl,hl,hm,-⟩,-⟩:=h
 simp at hv
 obtain ⟨⟨-,h2,-⟩,-⟩:=hv
 omega
theorem prAtT {lo hi:Nat} {w:World} {A:Option Addr} {n c:Nat} {xs:List Pr} (h:SlI lo hi w cPr 2 (.slice A n c) xs) {i:Nat} {x:Pr} (hx:xs[i]?=some x) :
 ∃ b o,A=some ⟨b,o,none⟩/\lo<=b/\b < hi/\w.cell? ⟨b,o+i * 2,none⟩=some (.int .i64 x.1)/\w.cell? ⟨b,o+i * 2+1,none⟩=some (.int .i64 x.2):=by
 obtain ⟨A',c',hv,_,_,h3⟩:=h
 injection hv with h1 _ _
 subst h1
 obtain ⟨b,o,e,g1,g2,hc⟩:=h3 i x hx
 exact ⟨b,o,e,g1,g2,by simpa using hc 0 _ rfl,hc 1 _ rfl⟩
def DuoOut (w:World) (e:Ending) (w':World):Prop:=∃ b vg va g a x y,e=.returned (.tuple #[.pointer (some ⟨b,0,none⟩),vg,va,.int .i64 x,.int .i64 y])/\(w.heap.size<=b/\GrV (b+1) w'.heap.size w' vg g/\g.edges.length<=11/\AuV (b+1) w'.heap.size w' va a/\Cur w' b/\Below w.heap.size w w')
set_option maxHeartbeats 8000000 in
theorem l17Two_any (v:Value) (bs:List Int) (w:World) (hv:SlI 0 w.heap.size w cU 1 v bs) :
 Calls Tryz.prog 33 #[v] w (DuoOut w):=by
 have HV:=Hd_ hv
 have hb0:=((Below.refl w.heap.size w).alloc (Nat.le_refl _) (.cells #[.slice none 0 0,.slice none 0 0] 27)).alloc (by simp) (.cells #[.int .i64 0,.slice none 0 0,.slice none 0 0] 31)
 have hb1:=(Blk.new w 27 #[.slice none 0 0,.slice none 0 0] _ rfl).alloc (.cells #[.int .i64 0,.slice none 0 0,.slice none 0 0] 31)
 have hb2:=Blk.new (w.alloc (.cells #[.slice none 0 0,.slice none 0 0] 27)) 31 #[.int .i64 0,.slice none 0 0,.slice none 0 0] (w.heap.size+1) (by simp)
 have hs0:((w.alloc (.cells #[.slice none 0 0,.slice none 0 0] 27)).alloc (.cells #[.int .i64 0,.slice none 0 0,.slice none 0 0] 31)).heap.size=w.heap.size+2:=by simp
 obtain ⟨A,n,c,rfl⟩:=hv.shape
 clear hv
 go_enter Tryz.func33,Tryz.ntmps33
 go_wp2_with fail
 refine (l1New_any _ bs _ ((HV.out.below hb0 (Nat.le_refl _)).mono (Nat.le_refl _) hb0.size)).mono ?_
 rintro e w1 ⟨b,rfl,hbl,hc1,hbw⟩
 have hr1:=hb1.keep hbw
 have hr2:=hb2.keep hbw
 have hb3:=below_trans hb0 hbw
 rw [hs0] at hbl
 clear hbw hb1 hb2 hb0 hs0 HV
 go_wp2_with fail
 refine (l14Pair_any b _ hc1).mono ?_
 rintro e w2 ⟨vg,va,g,a,rfl,hgv,he11,hav,hc2,ho2⟩
 have hlb:=hc1.lt
 obtain ⟨A1,n1,c1,A2,n2,c2,rfl⟩:=hgv.shape
 obtain ⟨A3,n3,c3,A4,n4,c4,rfl⟩:=hav.shape
 have hn1:=grT_len hgv
 have hs2:=ho2.size
 have hal:=((Below.refl w2.heap.size w2).alloc (Nat.le_refl _) (.cells #[.slice A1 n1 c1,.slice A2 n2 c2] 27)).alloc (by simp) (.cells #[.int .i64 a.start,.slice A3 n3 c3,.slice A4 n4 c4] 31)
 have bg:=(Blk.new w2 27 #[.slice A1 n1 c1,.slice A2 n2 c2] _ rfl).alloc (.cells #[.int .i64 a.start,.slice A3 n3 c3,.slice A4 n4 c4] 31)
 have ba:=Blk.new (w2.alloc (.cells #[.slice A1 n1 c1,.slice A2 n2 c2] 27)) 31 #[.int .i64 a.start,.slice A3 n3 c3,.slice A4 n4 c4] (w2.heap.size+1) (by simp)
 obtain ⟨gq,hgq⟩:∃ gq,gq=w2.heap.size:=⟨_,rfl⟩
 have HP:=Hd_ (show GaR b w.heap.size gq (gq+1) w ((w2.alloc (.cells #[.slice A1 n1 c1,.slice A2 n2 c2] 27)).alloc (.cells #[.int .i64 a.start,.slice A3 n3 c3,.slice A4 n4 c4] 31)) _ _ g _ _ a from
  ⟨(hr1.only ho2 (.inl (by omega))).keep hal,(hr2.only ho2 (.inl (by omega))).keep hal,hgq ▸ bg,hgq ▸ ba,(hgv.below hal (Nat.le_refl _)).mono (by omega) (by omega),(hav.below hal (Nat.le_refl _)).mono (by omega) (by omega),hc2.keep hal,below_trans (hb3.trans (ho2.below (B:=w.heap.size) (by omega) hb3.size)) hal,rfl,he11,by omega⟩)
 clear hal bg ba hgv hav hc2 ho2 hr1 hr2 hb3 hc1 hs2 he11
 go_upto_region 3 with fail
 rw [<- hgq]
 generalize ((w2.alloc (.cells #[.slice A1 n1 c1,.slice A2 n2 c2] 27)).alloc (.cells #[.int .i64 a.start,.slice A3 n3 c3,.slice A4 n4 c4] 31))=W at *
 clear hgq hlb
 have x0:W.cell? ⟨gq,0,none⟩=some (.slice A1 n1 c1):=HP.out.gbk.cell 0
 have x1:W.cell? ⟨gq,1,none⟩=some (.slice A2 n2 c2):=HP.out.gbk.cell 1
 have y0:W.cell? ⟨gq+1,0,none⟩=some (.int .i64 a.start):=HP.out.abk.cell 0
 have y1:W.cell? ⟨gq+1,1,none⟩=some (.slice A3 n3 c3):=HP.out.abk.cell 1
 have y2:W.cell? ⟨gq+1,2,none⟩=some (.slice A4 n4 c4):=HP.out.abk.cell 2
 go_wp2_with fail
 refine (l4Node_any b _ _ _ _ _ _ _ HP.out.cur hn1).mono ?_
 rintro e w4 ⟨x,rfl,hc4,ho4⟩
 have HP4:=Hd_ (HP.out.step ho4 hc4)
 clear ho4 hc4 HP x0 x1 y0 y1 y2
 have x0:w4.cell? ⟨gq,0,none⟩=some (.slice A1 n1 c1):=HP4.out.gbk.cell 0
 have x1:w4.cell? ⟨gq,1,none⟩=some (.slice A2 n2 c2):=HP4.out.gbk.cell 1
 have y0:w4.cell? ⟨gq+1,0,none⟩=some (.int .i64 a.start):=HP4.out.abk.cell 0
 have y1:w4.cell? ⟨gq+1,1,none⟩=some (.slice A3 n3 c3):=HP4.out.abk.cell 1
 have y2:w4.cell? ⟨gq+1,2,none⟩=some (.slice A4 n4 c4):=HP4.out.abk.cell 2
 go_wp2_with fail
 refine (l4Node_any b _ _ _ _ _ _ _ HP4.out.cur hn1).mono ?_
 rintro e w5 ⟨y,rfl,hc5,ho5⟩
 have HP5:=Hd_ (HP4.out.step ho5 hc5)
 clear ho5 hc5 HP4 x0 x1 y0 y1 y2
 have x0:w5.cell? ⟨gq,0,none⟩=some (.slice A1 n1 c1):=HP5.out.gbk.cell 0
 have x1:w5.cell? ⟨gq,1,none⟩=some (.slice A2 n2 c2):=HP5.out.gbk.cell 1
 have y0:w5.cell? ⟨gq+1,0,none⟩=some (.int .i64 a.start):=HP5.out.abk.cell 0
 have y1:w5.cell? ⟨gq+1,1,none⟩=some (.slice A3 n3 c3):=HP5.out.abk.cell 1
 have y2:w5.cell? ⟨gq+1,2,none⟩=some (.slice A4 n4 c4):=HP5.out.abk.cell 2
 go_wp2_with fail
 refine (specAllAnswers _ _ g a _ HP5.out.grv HP5.out.auv).mono ?_
 rintro e w6 ⟨vl,rfl,hol,hb6⟩
 have HP6:=Hd_ (HP5.out.keep hb6)
 have hblt:b < w5.heap.size:=by have:=HP5.out.ord;have:=HP5.out.abk.lt;omega
 have haq:gq+1 < w5.heap.size:=HP5.out.abk.lt
 obtain ⟨A6,c6,rfl,hl6,hm6,-⟩:=hol.form cPr_len
 have hsl:=hol.sl cPr_len
 obtain ⟨N,hN⟩:∃ N,N=(allL g a).length:=⟨_,rfl⟩
 rw [<- hN] at hl6 hsl ⊢
 have HL:=Hd_ hsl
 have HN:=Hd_ hN
 clear hol hsl hb6 HP5 hN x0 x1 y0 y1 y2
 by_cases h0:N=0
 · subst h0
   have x0:w6.cell? ⟨gq,0,none⟩=some (.slice A1 n1 c1):=HP6.out.gbk.cell 0
   have x1:w6.cell? ⟨gq,1,none⟩=some (.slice A2 n2 c2):=HP6.out.gbk.cell 1
   have y0:w6.cell? ⟨gq+1,0,none⟩=some (.int .i64 a.start):=HP6.out.abk.cell 0
   have y1:w6.cell? ⟨gq+1,1,none⟩=some (.slice A3 n3 c3):=HP6.out.abk.cell 1
   have y2:w6.cell? ⟨gq+1,2,none⟩=some (.slice A4 n4 c4):=HP6.out.abk.cell 2
   have z0:w6.cell? ⟨w.heap.size,0,none⟩=some (.slice none 0 0):=HP6.out.res1.cell 0
   have z1:w6.cell? ⟨w.heap.size,1,none⟩=some (.slice none 0 0):=HP6.out.res1.cell 1
   have z2:w6.cell? ⟨w.heap.size+1,0,none⟩=some (.int .i64 0):=HP6.out.res2.cell 0
   have z3:w6.cell? ⟨w.heap.size+1,1,none⟩=some (.slice none 0 0):=HP6.out.res2.cell 1
   have z4:w6.cell? ⟨w.heap.size+1,2,none⟩=some (.slice none 0 0):=HP6.out.res2.cell 2
   have v0:=HP6.out.res1.frozen 0
   have v1:=HP6.out.res1.frozen 1
   have v2:=HP6.out.res2.frozen 0
   have v3:=HP6.out.res2.frozen 1
   have v4:=HP6.out.res2.frozen 2
   have hlr:=HP6.out.res1.lt
   have hls:=HP6.out.res2.lt
   have hord:=HP6.out.ord
   have q1:¬ gq+1=w.heap.size:=by omega
   have q2:¬ w.heap.size=gq+1:=by omega
   have q3:¬ gq+1=w.heap.size+1:=by omega
   have q4:¬ w.heap.size+1=gq+1:=by omega
   have q5:¬ gq=w.heap.size:=by omega
   have q6:¬ w.heap.size=gq:=by omega
   have q7:¬ gq=w.heap.size+1:=by omega
   have q8:¬ w.heap.size+1=gq:=by omega
   clear hord
   go_wp2_with fail
   go_region
   have HD:=HP6.out.fin (putGA_only w6 w.heap.size (.slice A1 n1 c1) (.slice A2 n2 c2) (.int .i64 a.start) (.slice A3 n3 c3) (.slice A4 n4 c4))
   go_wp2_with fail
   refine bodyPost_ret (v:=.tuple #[.pointer (some ⟨b,0,none⟩),.agg #[.slice A1 n1 c1,.slice A2 n2 c2],.agg #[.int .i64 a.start,.slice A3 n3 c3,.slice A4 n4 c4],.int .i64 x,.int .i64 y]) (by simp [results,Tryz.results33,go_sem,z0,z1,z2,z3,z4,v0,v1,v2,v3,v4]) rfl ⟨_,_,_,_,_,_,_,rfl,HD⟩
 · have hN1:(0:Int) < (N:Int):=by omega
   go_wp2_with fail
   refine (l1Once_any b 3 _ HP6.out.cur).mono ?_
   rintro e w7 ⟨t,rfl,hc7,ho7⟩
   have HP7:=Hd_ (HP6.out.step ho7 hc7)
   have HL7:=Hd_ (HL.out.only ho7 (Nat.le_refl _) (.inr hblt))
   have hs7:=ho7.size
   clear HP6 hc7 ho7 HL
   cases t
   · go_wp2_with fail
     refine (l1Below_any b _ _ HP7.out.cur).mono ?_
     rintro e w8 ⟨i,rfl,⟨hi0,-,hi1⟩,hc8,ho8⟩
     have HP8:=Hd_ (HP7.out.step ho8 hc8)
     have HL8:=Hd_ (HL7.out.only ho8 hs7 (.inr hblt))
     have hs8:=ho8.size
     have hi1:=hi1 hN1
     obtain ⟨i,rfl⟩:=Int.eq_ofNat_of_zero_le hi0
     clear HP7 HL7 hc8 ho8 hi0
     have hlt:i < (allL g a).length:=by rw [<- HN.out];omega
     obtain ⟨E,hE⟩:∃ E,E=(allL g a)[i]:=⟨_,rfl⟩
     have hei:(allL g a)[i]?=some E:=by rw [hE];exact List.getElem?_eq_getElem hlt
     clear hE hlt
     obtain ⟨b6,o6,rfl,hlo6,hb6,e0,e1⟩:=prAtT HL8.out hei
     obtain ⟨e1v,e2v⟩:=E
     simp only at e0 e1
     clear hei
     have hal:=(Below.refl w8.heap.size w8).alloc (Nat.le_refl _) (.cells #[.int .i64 e1v,.int .i64 e2v] 102)
     have HP9:=Hd_ (HP8.out.keep hal)
     have bp:=Blk.new w8 102 #[.int .i64 e1v,.int .i64 e2v] _ rfl
     obtain ⟨pq,hpq⟩:∃ pq,pq=w8.heap.size:=⟨_,rfl⟩
     have hpl:gq+1 < pq:=by omega
     have hpl2:w.heap.size+1 < pq:=by have:=HP8.out.ord;omega
     rw [<- hpq] at bp
     clear hal HP8
     go_upto_region 8 with fail
     rw [<- hpq]
     generalize (w8.alloc (.cells #[.int .i64 e1v,.int .i64 e2v] 102))=W9 at *
     clear hpq e0 e1
     have e0:W9.cell? ⟨pq,0,none⟩=some (.int .i64 e1v):=bp.cell 0
     have e1:W9.cell? ⟨pq,1,none⟩=some (.int .i64 e2v):=bp.cell 1
     have r1:¬ pq=w.heap.size:=by omega
     have r2:¬ w.heap.size=pq:=by omega
     have r3:¬ pq=w.heap.size+1:=by omega
     have r4:¬ w.heap.size+1=pq:=by omega
     have r5:¬ pq=gq:=by omega
     have r6:¬ gq=pq:=by omega
     clear bp hpl hpl2
     have x0:W9.cell? ⟨gq,0,none⟩=some (.slice A1 n1 c1):=HP9.out.gbk.cell 0
     have x1:W9.cell? ⟨gq,1,none⟩=some (.slice A2 n2 c2):=HP9.out.gbk.cell 1
     have y0:W9.cell? ⟨gq+1,0,none⟩=some (.int .i64 a.start):=HP9.out.abk.cell 0
     have y1:W9.cell? ⟨gq+1,1,none⟩=some (.slice A3 n3 c3):=HP9.out.abk.cell 1
     have y2:W9.cell? ⟨gq+1,2,none⟩=some (.slice A4 n4 c4):=HP9.out.abk.cell 2
     have z0:W9.cell? ⟨w.heap.size,0,none⟩=some (.slice none 0 0):=HP9.out.res1.cell 0
     have z1:W9.cell? ⟨w.heap.size,1,none⟩=some (.slice none 0 0):=HP9.out.res1.cell 1
     have z2:W9.cell? ⟨w.heap.size+1,0,none⟩=some (.int .i64 0):=HP9.out.res2.cell 0
     have z3:W9.cell? ⟨w.heap.size+1,1,none⟩=some (.slice none 0 0):=HP9.out.res2.cell 1
     have z4:W9.cell? ⟨w.heap.size+1,2,none⟩=some (.slice none 0 0):=HP9.out.res2.cell 2
     have v0:=HP9.out.res1.frozen 0
     have v1:=HP9.out.res1.frozen 1
     have v2:=HP9.out.res2.frozen 0
     have v3:=HP9.out.res2.frozen 1
     have v4:=HP9.out.res2.frozen 2
     have hlr:=HP9.out.res1.lt
     have hls:=HP9.out.res2.lt
     have hord:=HP9.out.ord
     have q1:¬ gq+1=w.heap.size:=by omega
     have q2:¬ w.heap.size=gq+1:=by omega
     have q3:¬ gq+1=w.heap.size+1:=by omega
     have q4:¬ w.heap.size+1=gq+1:=by omega
     have q5:¬ gq=w.heap.size:=by omega
     have q6:¬ w.heap.size=gq:=by omega
     have q7:¬ gq=w.heap.size+1:=by omega
     have q8:¬ w.heap.size+1=gq:=by omega
     clear hord
     go_wp2_with fail
     go_region
     have HD:=HP9.out.fin (putGA_only W9 w.heap.size (.slice A1 n1 c1) (.slice A2 n2 c2) (.int .i64 a.start) (.slice A3 n3 c3) (.slice A4 n4 c4))
     go_wp2_with fail
     refine bodyPost_ret (v:=.tuple #[.pointer (some ⟨b,0,none⟩),.agg #[.slice A1 n1 c1,.slice A2 n2 c2],.agg #[.int .i64 a.start,.slice A3 n3 c3,.slice A4 n4 c4],.int .i64 e1v,.int .i64 e2v]) (by simp [results,Tryz.results33,go_sem,z0,z1,z2,z3,z4,v0,v1,v2,v3,v4]) rfl ⟨_,_,_,_,_,_,_,rfl,HD⟩
   · skip
     have x0:w7.cell? ⟨gq,0,none⟩=some (.slice A1 n1 c1):=HP7.out.gbk.cell 0
     have x1:w7.cell? ⟨gq,1,none⟩=some (.slice A2 n2 c2):=HP7.out.gbk.cell 1
     have y0:w7.cell? ⟨gq+1,0,none⟩=some (.int .i64 a.start):=HP7.out.abk.cell 0
     have y1:w7.cell? ⟨gq+1,1,none⟩=some (.slice A3 n3 c3):=HP7.out.abk.cell 1
     have y2:w7.cell? ⟨gq+1,2,none⟩=some (.slice A4 n4 c4):=HP7.out.abk.cell 2
     have z0:w7.cell? ⟨w.heap.size,0,none⟩=some (.slice none 0 0):=HP7.out.res1.cell 0
     have z1:w7.cell? ⟨w.heap.size,1,none⟩=some (.slice none 0 0):=HP7.out.res1.cell 1
     have z2:w7.cell? ⟨w.heap.size+1,0,none⟩=some (.int .i64 0):=HP7.out.res2.cell 0
     have z3:w7.cell? ⟨w.heap.size+1,1,none⟩=some (.slice none 0 0):=HP7.out.res2.cell 1
     have z4:w7.cell? ⟨w.heap.size+1,2,none⟩=some (.slice none 0 0):=HP7.out.res2.cell 2
     have v0:=HP7.out.res1.frozen 0
     have v1:=HP7.out.res1.frozen 1
     have v2:=HP7.out.res2.frozen 0
     have v3:=HP7.out.res2.frozen 1
     have v4:=HP7.out.res2.frozen 2
     have hlr:=HP7.out.res1.lt
     have hls:=HP7.out.res2.lt
     have hord:=HP7.out.ord
     have q1:¬ gq+1=w.heap.size:=by omega
     have q2:¬ w.heap.size=gq+1:=by omega
     have q3:¬ gq+1=w.heap.size+1:=by omega
     have q4:¬ w.heap.size+1=gq+1:=by omega
     have q5:¬ gq=w.heap.size:=by omega
     have q6:¬ w.heap.size=gq:=by omega
     have q7:¬ gq=w.heap.size+1:=by omega
     have q8:¬ w.heap.size+1=gq:=by omega
     clear hord
     go_wp2_with fail
     go_region
     have HD:=HP7.out.fin (putGA_only w7 w.heap.size (.slice A1 n1 c1) (.slice A2 n2 c2) (.int .i64 a.start) (.slice A3 n3 c3) (.slice A4 n4 c4))
     go_wp2_with fail
     refine bodyPost_ret (v:=.tuple #[.pointer (some ⟨b,0,none⟩),.agg #[.slice A1 n1 c1,.slice A2 n2 c2],.agg #[.int .i64 a.start,.slice A3 n3 c3,.slice A4 n4 c4],.int .i64 x,.int .i64 y]) (by simp [results,Tryz.results33,go_sem,z0,z1,z2,z3,z4,v0,v1,v2,v3,v4]) rfl ⟨_,_,_,_,_,_,_,rfl,HD⟩
end Go.Proofs.YtcnenpjaoalmeaaGreat
namespace Go.Proofs.YtcnenpjaoalmeaaGreat
def nodesL (g:Gr) (k:Wk):List Int:=k.1 :: k.2.map (stepTo g)
theorem nodesL_len (g:Gr) (k:Wk):(nodesL g k).length=k.2.length+1:=by simp [nodesL]
theorem nodesL_succ {g:Gr} {k:Wk} {i:Nat} {s:St} (h:k.2[i]?=some s):(nodesL g k).take (i+1+1)=(nodesL g k).take (i+1) ++ [stepTo g s]:=by
 refine take_snoc ?_
 rw [nodesL,List.getElem?_cons_succ,List.getElem?_map,h];rfl
theorem nodesL_next {g:Gr} {k:Wk} {i:Nat} {s:St} (h:k.2[i]?=some s):(nodesL g k)[i+1]?=some (stepTo g s):=by rw [nodesL,List.getElem?_cons_succ,List.getElem?_map,h];rfl
/-- the step leads from the node that the walk is at -/
def linkAt (g:Gr) (k:Wk) (i:Nat):Bool:=stepFrom g (k.2.getD i (0,false))==(nodesL g k).getD i 0
def walkOk (g:Gr) (k:Wk):Bool:=grOk g && wi k.1 0 ((g.vals.length:Int) - 1) && decide (k.2.length<=60) && (List.range k.2.length).all (linkAt g k)
/-- the nodes of a walk of the graph; none of another -/
def nodesOut (g:Gr) (k:Wk):List Int:=if walkOk g k=true then nodesL g k else []
theorem nodesOut_no {g:Gr} {k:Wk} (h:walkOk g k=false):nodesOut g k=[]:=by rw [nodesOut,h];rfl
theorem nodesOut_yes {g:Gr} {k:Wk} (h:walkOk g k=true):nodesOut g k=nodesL g k:=by rw [nodesOut,h];rfl
theorem linkAt_eq {g:Gr} {k:Wk} {i:Nat} {s:St} {x:Int} (h:k.2[i]?=some s) (hx:(nodesL g k)[i]?=some x):linkAt g k i=(stepFrom g s==x):=by
 rw [linkAt,List.getD_eq_getElem?_getD,h,List.getD_eq_getElem?_getD,hx];rfl
/-- node i of a walk -/
def nodeAt (g:Gr) (k:Wk) (i:Nat):Nat:=((nodesL g k).getD i 0).toNat
def letAt (g:Gr) (k:Wk) (i:Nat):Nat:=(stepLetter g (k.2.getD i (0,false))).toNat
/-- the states behind i steps -/
def setAt (g:Gr) (a:Au) (k:Wk):Nat->Nat
 | 0=>bit a.start.toNat
 | i+1=>aft a (setAt g a k i) (valAt g (nodeAt g k i)) (letAt g k i)
def setsL (g:Gr) (a:Au) (k:Wk) (n:Nat):List Nat:=(List.range n).map (setAt g a k)
theorem setsL_len (g:Gr) (a:Au) (k:Wk) (n:Nat):(setsL g a k n).length=n:=by simp [setsL]
theorem setsL_snoc (g:Gr) (a:Au) (k:Wk) (n:Nat):setsL g a k (n+1)=setsL g a k n ++ [setAt g a k n]:=by simp [setsL,List.range_succ]
theorem setsL_at {g:Gr} {a:Au} {k:Wk} {n i:Nat} (h:i < n):(setsL g a k n)[i]?=some (setAt g a k i):=by simp [setsL,h]
theorem setAt_lt {g:Gr} {a:Au} (ha:auOk a=true) (k:Wk) (i:Nat):setAt g a k i < 2 ^ a.accept.length:=by
 cases i with
 | zero=>exact bit_lt (by have:=(auOk_iff.1 ha).2.1;omega)
 | succ i=>exact aft_lt ha _ _ _
theorem walkOk_parts {g:Gr} {k:Wk} (h:walkOk g k=true):GrOk g/\(0<=k.1/\k.1<=(g.vals.length:Int) - 1)/\k.2.length<=60/\∀ i,i < k.2.length->linkAt g k i=true:=by
 simp only [walkOk,Bool.and_eq_true,wi_iff,decide_eq_true_eq,List.all_eq_true,List.mem_range] at h
 exact ⟨grOk_iff.1 h.1.1.1,h.1.1.2,h.1.2,h.2⟩
theorem stepTo_of {g:Gr} {s:St} {e:Ed} (h:stepEd g s.1=some e):stepTo g s=arcTo s.2 e:=by
 unfold stepTo stepFrom arcTo
 simp only [h]
 cases s.2 <;> rfl
theorem stepFrom_of {g:Gr} {s:St} {e:Ed} (h:stepEd g s.1=some e):stepFrom g s=arcTo (!s.2) e:=by
 unfold stepFrom arcTo
 simp only [h]
 cases s.2 <;> rfl
theorem stepLetter_of {g:Gr} {s:St} {e:Ed} (h:stepEd g s.1=some e):stepLetter g s=arcLetter s.2 e:=by
 unfold stepLetter arcLetter
 simp only [h]
theorem nodeAt_at {g:Gr} {k:Wk} {i:Nat} (h:i<=k.2.length):(nodesL g k)[i]?=some ((nodesL g k).getD i 0):=by
 rw [List.getD_eq_getElem?_getD,List.getElem?_eq_getElem (by rw [nodesL_len];omega)];rfl
/-- the nodes of a walk of the graph are nodes of the graph, and its steps are edges of it -/
theorem walk_parts {g:Gr} {k:Wk} (h:walkOk g k=true):∀ {i:Nat},i<=k.2.length->(0<=(nodesL g k).getD i 0/\(nodesL g k).getD i 0<=(g.vals.length:Int) - 1) /\
 (i < k.2.length->∃ s e,k.2[i]?=some s/\stepEd g s.1=some e/\stepFrom g s=(nodesL g k).getD i 0/\stepTo g s=(nodesL g k).getD (i+1) 0):=by
 obtain ⟨hg,hk,-,hl⟩:=walkOk_parts h
 have step:∀ i,i < k.2.length->0<=(nodesL g k).getD i 0->∃ s e,k.2[i]?=some s/\stepEd g s.1=some e/\stepFrom g s=(nodesL g k).getD i 0/\stepTo g s=(nodesL g k).getD (i+1) 0:=by
  intro i hi h0
  have hs:k.2[i]?=some k.2[i]:=List.getElem?_eq_getElem hi
  generalize k.2[i]=s at hs
  have hlk:=hl i hi
  rw [linkAt_eq hs (nodeAt_at (by omega)),beq_iff_eq] at hlk
  have hnx:=nodesL_next (g:=g) hs
  have hnx2:=nodeAt_at (g:=g) (k:=k) (i:=i+1) (by omega)
  rw [hnx] at hnx2
  cases he:stepEd g s.1 with
  | none =>
    have:=stepFrom_neg.2 he
    omega
  | some e=>exact ⟨s,e,hs,he,hlk,by injection hnx2⟩
 intro i
 induction i with
 | zero=>exact fun _=>⟨hk,fun hi=>step 0 hi hk.1⟩
 | succ i ih =>
   intro hi
   obtain ⟨hr,hst⟩:=ih (by omega)
   obtain ⟨s,e,hs,he,hf,ht⟩:=hst (by omega)
   have hrange:0<=stepTo g s/\stepTo g s<=(g.vals.length:Int) - 1:=by
    rw [stepTo_of he]
    obtain ⟨_,hm,_⟩:=stepEd_ok he
    have:=hg.edges e hm
    unfold arcTo
    split <;> omega
   rw [ht] at hrange
   exact ⟨hrange,fun hi2=>step (i+1) hi2 hrange.1⟩
theorem nodeAt_lt {g:Gr} {k:Wk} (h:walkOk g k=true) {i:Nat} (hi:i<=k.2.length):(nodesL g k)[i]?=some (nodeAt g k i:Int)/\nodeAt g k i < g.vals.length:=by
 have h1:=(walk_parts h hi).1
 refine ⟨?_,?_⟩
 · rw [nodeAt_at hi,nodeAt,Int.toNat_of_nonneg h1.1]
 · unfold nodeAt;omega
/-- step i: its edge, its letter, the node behind it -/
theorem walk_step {g:Gr} {k:Wk} (h:walkOk g k=true) {i:Nat} (hi:i < k.2.length):∃ s e,k.2[i]?=some s/\stepEd g s.1=some e/\arcTo s.2 e=(nodeAt g k (i+1):Int)/\arcLetter s.2 e=(letAt g k i:Int)/\stepLetter g s=(letAt g k i:Int)/\letAt g k i < 6:=by
 obtain ⟨s,e,hs,he,-,ht⟩:=(walk_parts h (Nat.le_of_lt hi)).2 hi
 obtain ⟨hg,hm,_⟩:=stepEd_ok he
 have hl:=hg.edges e hm
 have h1:=(walk_parts h (show i+1<=k.2.length from hi)).1
 have hsd:k.2.getD i (0,false)=s:=by rw [List.getD_eq_getElem?_getD,hs];rfl
 have hr:0<=arcLetter s.2 e/\arcLetter s.2 e<=5:=by
  unfold arcLetter
  split <;> omega
 have hla:(letAt g k i:Int)=arcLetter s.2 e:=by rw [letAt,hsd,stepLetter_of he,Int.toNat_of_nonneg hr.1]
 refine ⟨s,e,hs,he,?_,hla.symm,by rw [stepLetter_of he,hla],by omega⟩
 rw [<- stepTo_of he,ht,nodeAt,Int.toNat_of_nonneg h1.1]
def walkEnd (g:Gr) (k:Wk):Int:=if walkOk g k=true then (nodeAt g k k.2.length:Int) else -1
def matchB (g:Gr) (a:Au) (k:Wk):Bool:=(walkOk g k && auOk a) && acc a (setAt g a k k.2.length) (valAt g (nodeAt g k k.2.length))
def isWit (g:Gr) (a:Au) (x y:Int) (k:Wk):Bool:=(k.1==x && walkEnd g k==y) && matchB g a k
def alongS (g:Gr) (a:Au) (k:Wk):List Nat:=if (walkOk g k && auOk a)=true then setsL g a k (k.2.length+1) else []
def alongN (g:Gr) (a:Au) (k:Wk):List Int:=if (walkOk g k && auOk a)=true then nodesL g k else []
end Go.Proofs.YtcnenpjaoalmeaaGreat
namespace Go.Proofs.YtcnenpjaoalmeaaGreat
open Go.ChangeShapes Go.WideShapes Go.ChangeAt Go.RowKit
attribute [local go_sem] ext_cell ext_frozen ext_lt ext_lt1 ext_lt2 ext_lt3 ltn2 ltn3 ltn13 lts1 lts2 lts3
set_option maxHeartbeats 1000000 in
theorem implStepEdge (v:Value) (g:Gr) (s:St) (w:World) (hv:GrV 0 w.heap.size w v g) :
 Calls Tryz.prog 118 #[v,.agg #[.int .i64 s.1,.bool s.2]] w fun en w'=>∃ e:Ed,en=.returned (.tuple #[.agg #[.int .i64 e.1,.int .i64 e.2.1,.int .i64 e.2.2.1,.int .i64 e.2.2.2],.bool (stepEd g s.1).isSome])/\(∀ e',stepEd g s.1=some e'->e'=e)/\Below w.heap.size w w':=by
 have hv0:=hv
 obtain ⟨vs,es,rfl,hvs,⟨A2,c2,rfl,hl2,hm2,hx2⟩⟩:=hv
 obtain ⟨A1,n1,c1,rfl⟩:=hvs.shape
 obtain ⟨id,inv⟩:=s
 unfold maxLen at hm2
 have hb0:Below w.heap.size w (((w.alloc (.cells #[.slice A1 n1 c1,.slice A2 g.edges.length c2] 27)).alloc (.cells #[.int .i64 id,.bool inv] 74)).alloc (.cells #[.int .i64 0,.int .i64 0,.int .i64 0,.int .i64 0] 114)):=(((Below.refl _ _).alloc (Nat.le_refl _) _).alloc (by simp) _).alloc (by simp <;> omega) _
 have hspec:=edgeIdx_spec g id
 simp only
 go_enter Tryz.func118,Tryz.ntmps118
 have HS:=Hd_ hspec
 clear hspec
 go_wp2_with fail
 refine (implEdgeIndex _ g id _ (hv0.keep hb0)).mono ?_
 rintro e w1 ⟨rfl,hb1⟩
 have b0:=(((Blk.new w _ _ w.heap.size rfl).alloc _).alloc _).keep hb1
 have b2:=(Blk.new ((w.alloc _).alloc _) _ _ (w.heap.size+1+1) (by simp)).keep hb1
 have hb2:=below_trans hb0 hb1
 clear hb0 hb1
 rcases HS.out with ⟨hi,hno⟩ | ⟨i,e,hi,hx,he,hno⟩
 · have hnone:=stepEd_none hno
   have HN:=Hd_ hnone
   rw [hi]
   have z0:w1.cell? ⟨w.heap.size+1+1,0,none⟩=some _:=b2.cell 0
   have z1:w1.cell? ⟨w.heap.size+1+1,1,none⟩=some _:=b2.cell 1
   have z2:w1.cell? ⟨w.heap.size+1+1,2,none⟩=some _:=b2.cell 2
   have z3:w1.cell? ⟨w.heap.size+1+1,3,none⟩=some _:=b2.cell 3
   have f0:=b2.frozen 0
   have f1:=b2.frozen 1
   have f2:=b2.frozen 2
   have f3:=b2.frozen 3
   clear hnone hno hi HS b0
   go_wp2_with fail
   refine bodyPost_ret (v:=.tuple #[.agg #[.int .i64 0,.int .i64 0,.int .i64 0,.int .i64 0],.bool false]) (by simp [results,Tryz.results118,go_sem,z0,z1,z2,z3]) rfl ⟨(0,0,0,0),by rw [HN.out];rfl,(by rw [HN.out];intro e' he';cases he'),(((hb2.setCell (p:=⟨w.heap.size+1+1,0,none⟩) (by simp <;> omega) _).setCell (p:=⟨w.heap.size+1+1,1,none⟩) (by simp <;> omega) _).setCell (p:=⟨w.heap.size+1+1,2,none⟩) (by simp <;> omega) _).setCell (p:=⟨w.heap.size+1+1,3,none⟩) (by simp <;> omega) _⟩
 · rw [hi]
   have x0:w1.cell? ⟨w.heap.size,0,none⟩=some _:=b0.cell 0
   have x1:w1.cell? ⟨w.heap.size,1,none⟩=some _:=b0.cell 1
   have hil:i < g.edges.length:=(List.getElem?_eq_some_iff.1 hx).1
   cases hg:grOk g with
   | false =>
     have hnone:=stepEd_bad id hg
     have HN:=Hd_ hnone
     clear hnone hno HS hx
     go_wp2_with fail
     refine (implValidGraph _ g _ (hv0.keep hb2)).mono ?_
     rintro en w2 ⟨rfl,hb3⟩
     rw [hg]
     have b2:=b2.keep hb3
     have hb2:=below_trans hb2 hb3
     clear hb3 b0 x0 x1
     have z0:w2.cell? ⟨w.heap.size+1+1,0,none⟩=some _:=b2.cell 0
     have z1:w2.cell? ⟨w.heap.size+1+1,1,none⟩=some _:=b2.cell 1
     have z2:w2.cell? ⟨w.heap.size+1+1,2,none⟩=some _:=b2.cell 2
     have z3:w2.cell? ⟨w.heap.size+1+1,3,none⟩=some _:=b2.cell 3
     have f0:=b2.frozen 0
     have f1:=b2.frozen 1
     have f2:=b2.frozen 2
     have f3:=b2.frozen 3
     go_wp2_with fail
     refine bodyPost_ret (v:=.tuple #[.agg #[.int .i64 0,.int .i64 0,.int .i64 0,.int .i64 0],.bool false]) (by simp [results,Tryz.results118,go_sem,z0,z1,z2,z3]) rfl ⟨(0,0,0,0),by rw [HN.out];rfl,(by rw [HN.out];intro e' he';cases he'),(((hb2.setCell (p:=⟨w.heap.size+1+1,0,none⟩) (by simp <;> omega) _).setCell (p:=⟨w.heap.size+1+1,1,none⟩) (by simp <;> omega) _).setCell (p:=⟨w.heap.size+1+1,2,none⟩) (by simp <;> omega) _).setCell (p:=⟨w.heap.size+1+1,3,none⟩) (by simp <;> omega) _⟩
   | true =>
     have hsome:=stepEd_some hg hx he hno
     have HN:=Hd_ hsome
     obtain ⟨b9,o9,rfl,-,hb9,hc9⟩:=hx2 i e hx
     have d0:=hc9 0 _ rfl
     have d1:=hc9 1 _ rfl
     have d2:=hc9 2 _ rfl
     have d3:=hc9 3 _ rfl
     simp only [Nat.add_zero] at d0
     have HI:=Hd_ hi
     clear hsome hno HS hx hc9 hx2 he hi
     go_wp2_with fail
     refine (implValidGraph _ g _ (hv0.keep hb2)).mono ?_
     rintro en w2 ⟨rfl,hb3⟩
     rw [hg]
     have b2:=b2.keep hb3
     have b0:=b0.keep hb3
     have hb2:=below_trans hb2 hb3
     have d0:=(hb2.cell (p:=⟨b9,o9+i * 4,none⟩) hb9).trans d0
     have d1:=(hb2.cell (p:=⟨b9,o9+i * 4+1,none⟩) hb9).trans d1
     have d2:=(hb2.cell (p:=⟨b9,o9+i * 4+2,none⟩) hb9).trans d2
     have d3:=(hb2.cell (p:=⟨b9,o9+i * 4+3,none⟩) hb9).trans d3
     clear hb3 x0 x1
     have x1:w2.cell? ⟨w.heap.size,1,none⟩=some _:=b0.cell 1
     have z0:w2.cell? ⟨w.heap.size+1+1,0,none⟩=some _:=b2.cell 0
     have z1:w2.cell? ⟨w.heap.size+1+1,1,none⟩=some _:=b2.cell 1
     have z2:w2.cell? ⟨w.heap.size+1+1,2,none⟩=some _:=b2.cell 2
     have z3:w2.cell? ⟨w.heap.size+1+1,3,none⟩=some _:=b2.cell 3
     have f0:=b2.frozen 0
     have f1:=b2.frozen 1
     have f2:=b2.frozen 2
     have f3:=b2.frozen 3
     go_wp2_with fail
     refine bodyPost_ret (v:=.tuple #[.agg #[.int .i64 e.1,.int .i64 e.2.1,.int .i64 e.2.2.1,.int .i64 e.2.2.2],.bool true]) (by simp [results,Tryz.results118,go_sem,z0,z1,z2,z3]) rfl ⟨e,by rw [HN.out];rfl,(by rw [HN.out];intro e' he';injection he' with he';exact he'.symm),(((hb2.setCell (p:=⟨w.heap.size+1+1,0,none⟩) (by simp <;> omega) _).setCell (p:=⟨w.heap.size+1+1,1,none⟩) (by simp <;> omega) _).setCell (p:=⟨w.heap.size+1+1,2,none⟩) (by simp <;> omega) _).setCell (p:=⟨w.heap.size+1+1,3,none⟩) (by simp <;> omega) _⟩
set_option maxHeartbeats 1000000 in
theorem implStepFrom (v:Value) (g:Gr) (s:St) (w:World) (hv:GrV 0 w.heap.size w v g) :
 Calls Tryz.prog 103 #[v,.agg #[.int .i64 s.1,.bool s.2]] w fun en w'=>en=.returned (.int .i64 (stepFrom g s))/\Below w.heap.size w w':=by
 have hv0:=hv
 obtain ⟨A1,n1,c1,A2,n2,c2,rfl⟩:=hv.shape
 clear hv
 obtain ⟨id,inv⟩:=s
 have hb0:Below w.heap.size w ((w.alloc (.cells #[.slice A1 n1 c1,.slice A2 n2 c2] 27)).alloc (.cells #[.int .i64 id,.bool inv] 74)):=((Below.refl _ _).alloc (Nat.le_refl _) _).alloc (by simp) _
 have hc:=fun W (hW:Below w.heap.size w W)=>implStepEdge _ g (id,inv) W (hv0.keep hW)
 simp only at hc ⊢
 have HC:=Hd_ hc
 clear hc
 cases hs:stepEd g id with
 | none =>
   have hres:stepFrom g (id,inv)=-1:=by rw [stepFrom];simp [hs]
   have HR:=Hd_ hres
   rw [hs] at HC
   clear hres hs
   go_enter Tryz.func103,Tryz.ntmps103
   go_wp2_with fail
   refine (HC.out _ hb0).mono ?_
   rintro en w1 ⟨e,rfl,-,hb1⟩
   have hb2:=below_trans hb0 hb1
   clear hb0 hb1
   go_wp2_with fail
   go_ret
   exact ⟨ret_int HR.out.symm,hb2.alloc hb2.size _⟩
 | some e =>
   rw [hs] at HC
   have hres:stepFrom g (id,inv)=if inv then e.2.2.1 else e.2.1:=by rw [stepFrom];simp [hs]
   have HR:=Hd_ hres
   clear hres hs
   go_enter Tryz.func103,Tryz.ntmps103
   go_wp2_with fail
   refine (HC.out _ hb0).mono ?_
   rintro en w1 ⟨e1,rfl,he1,hb1⟩
   obtain rfl:=he1 e rfl
   have b1:=(Blk.new (w.alloc _) _ _ (w.heap.size+1) (by simp)).keep hb1
   have y1:w1.cell? ⟨w.heap.size+1,1,none⟩=some _:=b1.cell 1
   have hlt:=b1.lt
   have hb2:=below_trans hb0 hb1
   clear hb0 hb1 he1 b1
   cases inv with
   | true =>
     go_wp2_with fail
     go_ret
     exact ⟨ret_int HR.out.symm,hb2.alloc hb2.size _⟩
   | false =>
     go_wp2_with fail
     go_ret
     exact ⟨ret_int HR.out.symm,hb2.alloc hb2.size _⟩
set_option maxHeartbeats 1000000 in
theorem implStepTo (v:Value) (g:Gr) (s:St) (w:World) (hv:GrV 0 w.heap.size w v g) :
 Calls Tryz.prog 104 #[v,.agg #[.int .i64 s.1,.bool s.2]] w fun en w'=>en=.returned (.int .i64 (stepTo g s))/\Below w.heap.size w w':=by
 have hv0:=hv
 obtain ⟨A1,n1,c1,A2,n2,c2,rfl⟩:=hv.shape
 clear hv
 obtain ⟨id,inv⟩:=s
 have hb0:Below w.heap.size w ((w.alloc (.cells #[.slice A1 n1 c1,.slice A2 n2 c2] 27)).alloc (.cells #[.int .i64 id,.bool inv] 74)):=((Below.refl _ _).alloc (Nat.le_refl _) _).alloc (by simp) _
 simp only
 go_enter Tryz.func104,Tryz.ntmps104
 go_wp2_with fail
 refine (implStepFrom _ g (id,!inv) _ (hv0.keep hb0)).mono ?_
 rintro en w1 ⟨rfl,hb1⟩
 go_wp2_with fail
 go_ret
 exact ⟨rfl,below_trans hb0 hb1⟩
theorem row_shape {W:World} {base k n:Nat} {e:TypeId} {v:Value} {cs:List Value} (h:W.ownsRow base e k v n cs) (hn:n ≠ 0):∃ g c,v=.slice (some ⟨g,0,none⟩) n c/\base<=g/\g < W.heap.size/\n<=c/\c<=maxLen:=by
 have hlt:=h.lt
 obtain ⟨hl,hs⟩:=h
 rcases hs with ⟨_,h0⟩ | ⟨g,cap,cur,rfl,hg,hh,hnc,hcm,r⟩
 · exact absurd h0 hn
 · exact ⟨g,cap,rfl,hg,(hlt g rfl).2,hnc,hcm⟩
set_option maxHeartbeats 4000000 in
theorem implNodes (v1 v2:Value) (g:Gr) (k:Wk) (w:World) (hv1:GrV 0 w.heap.size w v1 g) (hv2:WkV 0 w.heap.size w v2 k) :
 Calls Tryz.prog 79 #[v1,v2] w fun en w'=>∃ v,en=.returned (.tuple #[v,.bool (walkOk g k)])/\Own w.heap.size w'.heap.size w' 3 cI 1 v (nodesOut g k)/\Below w.heap.size w w':=by
 have hv0:=hv1
 obtain ⟨vs,es,rfl,⟨A1,c1,rfl,hl1,hm1,-⟩,hes⟩:=hv1
 obtain ⟨A2,n2,c2,rfl⟩:=hes.shape
 obtain ⟨ss,rfl,⟨A3,c3,rfl,hl3,hm3,hx3⟩⟩:=hv2
 unfold maxLen at hm1 hm3
 obtain ⟨st,steps⟩:=k
 simp only at *
 have hb0:Below w.heap.size w ((w.alloc (.cells #[.slice A1 g.vals.length c1,.slice A2 n2 c2] 27)).alloc (.cells #[.int .i64 st,.slice A3 steps.length c3] 36)):=((Below.refl _ _).alloc (Nat.le_refl _) _).alloc (by simp) _
 have HX3:=Hd_ hx3
 have hwo:walkOk g (st,steps)=(grOk g && wi st 0 ((g.vals.length:Int) - 1) && decide (steps.length<=60) && (List.range steps.length).all (linkAt g (st,steps))):=rfl
 have HW:=Hd_ hwo
 clear hx3 hes hwo
 have hvg:=implValidGraph _ g _ (hv0.keep hb0)
 have HV:=Hd_ hvg
 clear hvg
 go_enter Tryz.func79,Tryz.ntmps79
 go_wp2_with fail
 refine HV.out.mono ?_
 rintro e w1 ⟨rfl,hb1⟩
 have b0:=((Blk.new w _ _ w.heap.size rfl).alloc _).keep hb1
 have b1:=(Blk.new (w.alloc _) _ _ (w.heap.size+1) (by simp)).keep hb1
 have hb2:=below_trans hb0 hb1
 clear hb0 hb1 HV
 have x0:w1.cell? ⟨w.heap.size,0,none⟩=some _:=b0.cell 0
 have x1:w1.cell? ⟨w.heap.size,1,none⟩=some _:=b0.cell 1
 have y0:w1.cell? ⟨w.heap.size+1,0,none⟩=some _:=b1.cell 0
 have y1:w1.cell? ⟨w.heap.size+1,1,none⟩=some _:=b1.cell 1
 have hlt1:=b1.lt
 have HWI:=Hd_ within_any
 cases hg:grOk g with
 | false =>
   have hfin:walkOk g (st,steps)=false:=by rw [HW.out,hg];rfl
   have HF:=Hd_ hfin
   clear HW hfin hg
   go_wp2_with fail
   go_ret2
   exact ⟨_,by rw [HF.out];rfl,by rw [nodesOut_no HF.out];exact Own.nil _ _ _ _ _ _,hb2⟩
 | true =>
   have q1:IntKind.i64.wrap ((g.vals.length:Int) - 1)=(g.vals.length:Int) - 1:=IntWalk.i64_in _ (by omega)
   cases hs:wi st 0 ((g.vals.length:Int) - 1) with
   | false =>
     have hfin:walkOk g (st,steps)=false:=by rw [HW.out,hg,hs];rfl
     have HF:=Hd_ hfin
     clear HW hfin hg
     go_wp2_with (go_at_call 37;refine (HWI.out _ _ _ _).mono ?_;rintro e w' ⟨rfl,rfl⟩)
     go_ret2
     exact ⟨_,by rw [HF.out];rfl,by rw [nodesOut_no HF.out];exact Own.nil _ _ _ _ _ _,hb2⟩
   | true =>
     by_cases hlen:steps.length<=60
     · have hlen':decide ((steps.length:Int) > 60)=false:=by simp;omega
       have hfin:walkOk g (st,steps)=(List.range steps.length).all (linkAt g (st,steps)):=by rw [HW.out,hg,hs];simp [hlen]
       have HF:=Hd_ hfin
       clear HW hfin hg
       go_wp2_with (go_at_call 37;refine (HWI.out _ _ _ _).mono ?_;rintro e w1 ⟨rfl,rfl⟩)
       have HS:=Hd_ hs
       clear hs
       go_loopw [6,34] (fun out ii wr=>∃ i:Nat,i<=steps.length/\ii=.int .i64 i/\(List.range i).all (linkAt g (st,steps))=true/\wr.ownsRow w1.heap.size 3 1 out ((nodesL g (st,steps)).take (i+1)).length (((nodesL g (st,steps)).take (i+1)).flatMap cI)/\Below w1.heap.size w1 wr) (fun _ ii _=>steps.length - (intOf ii).toNat)
       case atStart=>exact ⟨0,Nat.zero_le _,rfl,rfl,World.ownsRow_lit w1 #[.int .i64 st] 1 (Nat.le_refl _) (by decide) rfl,(Below.refl _ _).alloc (Nat.le_refl _) _⟩
       case round =>
        obtain ⟨i,hi,rfl,hal,hrow,hbel⟩:=hrel
        have HA:=Hd_ hal
        have hbw:=below_trans hb2 hbel
        have hml:((nodesL g (st,steps)).take (i+1)).length=i+1:=by rw [List.length_take,nodesL_len];simp only;omega
        clear hal
        by_cases hlt:i < steps.length
        · have hxs:steps[i]?=some steps[i]:=List.getElem?_eq_getElem hlt
          generalize steps[i]=s at hxs
          obtain ⟨sid,sinv⟩:=s
          obtain ⟨b,o,rfl,-,hb,hc⟩:=HX3.out i _ hxs
          have d0:=hc 0 _ rfl
          have d1:=hc 1 _ rfl
          simp only [Nat.add_zero] at d0
          have d0:=(hbw.cell (p:=⟨_,_,none⟩) hb).trans d0
          have d1:=(hbw.cell (p:=⟨_,_,none⟩) hb).trans d1
          obtain ⟨x,hxl⟩:∃ x,(nodesL g (st,steps))[i]?=some x:=⟨_,List.getElem?_eq_getElem (by rw [nodesL_len];simp only;omega)⟩
          obtain ⟨gb,cp,hv,hg1,hg2,hnc,hcm⟩:=row_shape hrow (by omega)
          obtain ⟨m,hm⟩:∃ m,m=i+1:=⟨_,rfl⟩
          rw [hml,<- hm] at hv
          subst hv
          have hrm:=hrow
          rw [show ((nodesL g (st,steps)).take (i+1)).length=m by rw [hml,hm]] at hrm
          have c0:=(World.ownsRow.cellAt hrm i (by omega)).trans (by have:=flat_at cI_len (xs:=(nodesL g (st,steps)).take (i+1)) (i:=i) (x:=x) (by rw [List.getElem?_take];simp [hxl]) 0 _ rfl;simpa using this)
          clear hrm
          have hf:=fun W (hW:Below w.heap.size w W)=>implStepFrom _ g (sid,sinv) W (hv0.keep hW)
          have ht:=fun W (hW:Below w.heap.size w W)=>implStepTo _ g (sid,sinv) W (hv0.keep hW)
          have hlk:=linkAt_eq (k:=(st,steps)) hxs hxl
          have HLK:=Hd_ hlk
          have HFF:=Hd_ hf
          have HTT:=Hd_ ht
          have HXS:=Hd_ hxs
          have HROW:=Hd_ hrow
          have hbx:=fun (X:Obj) u=>below_trans (hbw.alloc hbw.size X) (ext_below (wr.alloc X) u)
          have x0:=(hbel.cell (p:=⟨_,_,none⟩) (by simp only;omega)).trans x0
          have x1:=(hbel.cell (p:=⟨_,_,none⟩) (by simp only;omega)).trans x1
          have hs1:=hbel.size
          have q2:IntKind.i64.wrap ((m:Int) - 1)=(i:Int):=by rw [IntWalk.i64_in _ (by omega)];omega
          have q3:(i:Int) < (m:Int):=by omega
          have HM:=Hd_ hm
          clear hlk hf ht hxs hrow hml hm hxl hc q1 hnc hcm
          generalize stepFrom g (sid,sinv)=y at HLK HFF
          have k0:w.heap.size < wr.heap.size:=by omega
          by_cases hyx:y=x
          · have hq:(y != x)=false:=by simp [hyx]
            have HYX:=Hd_ hyx
            clear hyx
            go_wp2_with fail
            refine wp_region_ext_lit (by kernel_rfl) (by kernel_rfl) ?_
            repeat (go_big_quiet_step ((go_at_call 103;exact Calls.ext_of (HFF.out _ (hbx _ _)))))
            refine wpQuiet_nil ?_
            rintro _ ⟨u2,rfl⟩
            go_wp2_with fail
            refine (HTT.out _ (hbx _ _)).mono ?_
            rintro e w3 ⟨rfl,hb3⟩
            have hw3:=below_trans (Below.refl wr.heap.size wr |>.alloc (Nat.le_refl _) _) (below_trans (ext_below _ u2) hb3)
            have hrow3:=ownsRow_below HROW.out hw3 (Nat.le_refl _)
            have hs3:=Nat.le_trans hs1 hw3.size
            have hbel3:=below_trans hbel hw3
            have htl:((nodesL g (st,steps)).take (i+1)).length<=61:=by rw [List.length_take];omega
            clear hb3 hbx
            go_wp2_with (at_builtin;(refine wpList_append1 cI elInt rfl _ _ rfl w1.heap.size (.slice (some ⟨gb,0,none⟩) m cp) ((nodesL g (st,steps)).take (i+1)) (stepTo g (sid,sinv)) _ 1 _ (by rfl) hrow3 (by rfl) rfl rfl rfl (cI_one _) (by omega) (by omega) hs3 ?_);rw [<- nodesL_succ HXS.out];intro v' w4 hrow' hb4 _ _)
            go_roundw
            case rel=>exact ⟨i+1,by omega,by go_num,range_all_succ HA.out (by rw [HLK.out,HYX.out];simp),hrow',hbel3.trans hb4⟩
            case measure=>simp [intOf];omega
          · have hq:(y != x)=true:=by simp [hyx]
            have HYX:=Hd_ hyx
            clear hyx
            go_wp2_with fail
            refine wp_region_ext_lit (by kernel_rfl) (by kernel_rfl) ?_
            repeat (go_big_quiet_step ((go_at_call 103;exact Calls.ext_of (HFF.out _ (hbx _ _)))))
            refine wpQuiet_nil ?_
            rintro _ ⟨u2,rfl⟩
            have hfin:walkOk g (st,steps)=false:=by rw [HF.out];exact range_all_false hlt (by rw [HLK.out];simpa using HYX.out)
            have HFI:=Hd_ hfin
            clear hfin
            go_wp2_with fail
            go_ret2
            exact ⟨_,by rw [HFI.out];rfl,by rw [nodesOut_no HFI.out];exact Own.nil _ _ _ _ _ _,hbx _ _⟩
        · obtain rfl:i=steps.length:=by omega
          have hfin:walkOk g (st,steps)=true:=by rw [HF.out,HA.out]
          have HFF:=Hd_ hfin
          have htk:(nodesL g (st,steps)).take (steps.length+1)=nodesL g (st,steps):=List.take_of_length_le (by rw [nodesL_len];simp)
          rw [htk] at hrow
          have HROW:=Hd_ hrow
          clear hfin HF HA htk hml hrow
          go_wp2_with fail
          go_ret2
          exact ⟨_,by rw [HFF.out];rfl,by rw [nodesOut_yes HFF.out];exact (Own.of_row HROW.out rfl rfl).mono hb2.size (Nat.le_refl _),hbw⟩
     · have hlen':decide ((steps.length:Int) > 60)=true:=by simp;omega
       have hfin:walkOk g (st,steps)=false:=by rw [HW.out];simp [hlen]
       have HF:=Hd_ hfin
       clear HW hfin hg
       go_wp2_with (go_at_call 37;refine (HWI.out _ _ _ _).mono ?_;rintro e w' ⟨rfl,rfl⟩)
       go_ret2
       exact ⟨_,by rw [HF.out];rfl,by rw [nodesOut_no HF.out];exact Own.nil _ _ _ _ _ _,hb2⟩
theorem row_shapeS {W:World} {base k n:Nat} {e:TypeId} {v:Value} {cs:List Value} (h:W.ownsRow base e k v n cs) (hn:n ≠ 0):∃ g c,v=.slice (some ⟨g,0,none⟩) n c/\base<=g/\g < W.heap.size/\n<=c/\c<=maxLen:=by
 have hlt:=h.lt
 obtain ⟨hl,hs⟩:=h
 rcases hs with ⟨_,h0⟩ | ⟨g,cap,cur,rfl,hg,hh,hnc,hcm,r⟩
 · exact absurd h0 hn
 · exact ⟨g,cap,rfl,hg,(hlt g rfl).2,hnc,hcm⟩
set_option maxRecDepth 100000 in
set_option maxHeartbeats 8000000 in
theorem specNodes (v1 v2:Value) (g:Gr) (k:Wk) (w:World) (hv1:GrV 0 w.heap.size w v1 g) (hv2:WkV 0 w.heap.size w v2 k) :
 Calls Tryz.prog 87 #[v1,v2] w fun en w'=>∃ v,en=.returned (.tuple #[v,.bool (walkOk g k)])/\Own w.heap.size w'.heap.size w' 3 cI 1 v (nodesOut g k)/\Below w.heap.size w w':=by
 have hv0:=hv1
 obtain ⟨vs,es,rfl,⟨A1,c1,rfl,hl1,hm1,-⟩,hes⟩:=hv1
 obtain ⟨A2,c2,rfl,hl2,hm2,hx2⟩:=hes
 have HX2:=Hd_ hx2
 obtain ⟨ss,rfl,⟨A3,c3,rfl,hl3,hm3,hx3⟩⟩:=hv2
 unfold maxLen at hm1 hm2 hm3
 obtain ⟨st,steps⟩:=k
 simp only at *
 have hb0:Below w.heap.size w ((w.alloc (.cells #[.slice A1 g.vals.length c1,.slice A2 g.edges.length c2] 27)).alloc (.cells #[.int .i64 st,.slice A3 steps.length c3] 36)):=((Below.refl _ _).alloc (Nat.le_refl _) _).alloc (by simp) _
 have HX3:=Hd_ hx3
 have hwo:walkOk g (st,steps)=(grOk g && wi st 0 ((g.vals.length:Int) - 1) && decide (steps.length<=60) && (List.range steps.length).all (linkAt g (st,steps))):=rfl
 have HW:=Hd_ hwo
 clear hx3 hx2 hwo
 have hvg:=specValidGraph _ g _ (hv0.keep hb0)
 have HV:=Hd_ hvg
 clear hvg
 go_enter Tryz.func87,Tryz.ntmps87
 go_wp2_with fail
 refine HV.out.mono ?_
 rintro e w1 ⟨rfl,hb1⟩
 have b0:=((Blk.new w _ _ w.heap.size rfl).alloc _).keep hb1
 have b1:=(Blk.new (w.alloc _) _ _ (w.heap.size+1) (by simp)).keep hb1
 have hb2:=below_trans hb0 hb1
 clear hb0 hb1 HV
 have x0:w1.cell? ⟨w.heap.size,0,none⟩=some _:=b0.cell 0
 have x1:w1.cell? ⟨w.heap.size,1,none⟩=some _:=b0.cell 1
 have y0:w1.cell? ⟨w.heap.size+1,0,none⟩=some _:=b1.cell 0
 have y1:w1.cell? ⟨w.heap.size+1,1,none⟩=some _:=b1.cell 1
 have hlt1:=b1.lt
 have HWI:=Hd_ l1In_any
 cases hg:grOk g with
 | false =>
   have hfin:walkOk g (st,steps)=false:=by rw [HW.out,hg];rfl
   have HF:=Hd_ hfin
   clear HW hfin hg
   go_wp2_with fail
   go_ret2
   exact ⟨_,by rw [HF.out];rfl,by rw [nodesOut_no HF.out];exact (Own.of_row (World.ownsRow_lit _ #[] 0 (Nat.le_refl _) (by decide) rfl) rfl rfl).mono hb2.size (Nat.le_refl _),hb2.alloc hb2.size _⟩
 | true =>
   have q1:IntKind.i64.wrap ((g.vals.length:Int) - 1)=(g.vals.length:Int) - 1:=IntWalk.i64_in _ (by omega)
   cases hs:wi st 0 ((g.vals.length:Int) - 1) with
   | false =>
     have hfin:walkOk g (st,steps)=false:=by rw [HW.out,hg,hs];rfl
     have HF:=Hd_ hfin
     clear HW hfin hg
     go_wp2_with (go_at_call 42;refine (HWI.out _ _ _ _).mono ?_;rintro e w1 ⟨rfl,rfl⟩)
     go_ret2
     exact ⟨_,by rw [HF.out];rfl,by rw [nodesOut_no HF.out];exact (Own.of_row (World.ownsRow_lit _ #[] 0 (Nat.le_refl _) (by decide) rfl) rfl rfl).mono hb2.size (Nat.le_refl _),hb2.alloc hb2.size _⟩
   | true =>
     by_cases hlen:steps.length<=60
     · have hlen':decide ((steps.length:Int) > 60)=false:=by simp;omega
       have hfin:walkOk g (st,steps)=(List.range steps.length).all (linkAt g (st,steps)):=by rw [HW.out,hg,hs];simp [hlen]
       have HF:=Hd_ hfin
       have HG:=Hd_ hg
       clear HW hfin hg
       go_wp2_with (go_at_call 42;refine (HWI.out _ _ _ _).mono ?_;rintro e w1 ⟨rfl,rfl⟩)
       have hst0:0<=st:=by unfold wi at hs;simp at hs;omega
       have HS:=Hd_ hs
       clear hs
       go_loopw [6,7] (fun out ii wr=>∃ i:Nat,i<=steps.length/\ii=.int .i64 i/\(List.range i).all (linkAt g (st,steps))=true/\wr.ownsRow w1.heap.size 3 1 out ((nodesL g (st,steps)).take (i+1)).length (((nodesL g (st,steps)).take (i+1)).flatMap cI)/\(∃ x,(nodesL g (st,steps))[i]?=some x/\0<=x)/\Below w1.heap.size w1 wr) (fun _ ii _=>steps.length - (intOf ii).toNat)
       case atStart=>exact ⟨0,Nat.zero_le _,rfl,rfl,World.ownsRow_lit w1 #[.int .i64 st] 1 (Nat.le_refl _) (by decide) rfl,⟨st,rfl,hst0⟩,(Below.refl _ _).alloc (Nat.le_refl _) _⟩
       case round =>
        obtain ⟨i,hi,rfl,hal,hrow,⟨x,hxl,hx0⟩,hbel⟩:=hrel
        have HA:=Hd_ hal
        have hbw:=below_trans hb2 hbel
        have hml:((nodesL g (st,steps)).take (i+1)).length=i+1:=by rw [List.length_take,nodesL_len];simp only;omega
        clear hal
        by_cases hlt:i < steps.length
        · have hxs:steps[i]?=some steps[i]:=List.getElem?_eq_getElem hlt
          generalize steps[i]=s at hxs
          obtain ⟨sid,sinv⟩:=s
          obtain ⟨b,o,rfl,-,hb,hc⟩:=HX3.out i _ hxs
          have d0:=hc 0 _ rfl
          have d1:=hc 1 _ rfl
          simp only [Nat.add_zero] at d0
          have d0:=(hbw.cell (p:=⟨_,_,none⟩) hb).trans d0
          have d1:=(hbw.cell (p:=⟨_,_,none⟩) hb).trans d1
          obtain ⟨gb,cp,hv,hg1,hg2,hnc,hcm⟩:=row_shapeS hrow (by omega)
          obtain ⟨m,hm⟩:∃ m,m=i+1:=⟨_,rfl⟩
          rw [hml,<- hm] at hv
          subst hv
          have hrm:=hrow
          rw [show ((nodesL g (st,steps)).take (i+1)).length=m by rw [hml,hm]] at hrm
          have c0:=(World.ownsRow.cellAt hrm i (by omega)).trans (by have:=flat_at cI_len (xs:=(nodesL g (st,steps)).take (i+1)) (i:=i) (x:=x) (by rw [List.getElem?_take];simp [hxl]) 0 _ rfl;simpa using this)
          clear hrm
          have hei:=fun W (hW:Below w.heap.size w W)=>specEdgeIndex _ g sid W (hv0.keep hW)
          have hlk:=linkAt_eq (k:=(st,steps)) hxs hxl
          have HLK:=Hd_ hlk
          have HEI:=Hd_ hei
          have HXS:=Hd_ hxs
          have HROW:=Hd_ hrow
          have hbx:=fun u=>below_trans hbw (ext_below wr u)
          have x0:=(hbel.cell (p:=⟨_,_,none⟩) (by simp only;omega)).trans x0
          have x1:=(hbel.cell (p:=⟨_,_,none⟩) (by simp only;omega)).trans x1
          have y0:=(hbel.cell (p:=⟨_,_,none⟩) (by simp only;omega)).trans y0
          have y1:=(hbel.cell (p:=⟨_,_,none⟩) (by simp only;omega)).trans y1
          have hs1:=hbel.size
          have q2:IntKind.i64.wrap ((m:Int) - 1)=(i:Int):=by rw [IntWalk.i64_in _ (by omega)];omega
          have q3:(i:Int) < (m:Int):=by omega
          have HM:=Hd_ hm
          have hbw':b < wr.heap.size:=by omega
          have k0:w.heap.size < wr.heap.size:=by omega
          have k1:w.heap.size+1 < wr.heap.size:=by omega
          have hspec:=edgeIdx_spec g sid
          have HSPEC:=Hd_ hspec
          clear hlk hei hxs hrow hml hm hxl hc q1 hnc hcm hspec
          rcases HSPEC.out with ⟨hk,hno⟩ | ⟨ix,e,hk,hex,he,hno⟩
          · have hsn:=stepEd_none hno
            have hsf:stepFrom g (sid,sinv)=-1:=by rw [stepFrom];simp [hsn]
            rw [hk] at HEI
            have hfin:walkOk g (st,steps)=false:=by rw [HF.out];exact range_all_false hlt (by rw [HLK.out,hsf];simp;omega)
            have HFI:=Hd_ hfin
            clear hk hno hsn hsf hfin HSPEC
            go_wp2_with fail
            refine wp_region_ext_lit (by kernel_rfl) (by kernel_rfl) ?_
            repeat (go_big_quiet_step ((go_at_call 75;exact Calls.ext_of (HEI.out _ (hbx _)))))
            refine wpQuiet_nil ?_
            rintro _ ⟨u2,rfl⟩
            go_wp2_with fail
            go_ret2
            exact ⟨_,by rw [HFI.out];rfl,by rw [nodesOut_no HFI.out];exact (Own.of_row (World.ownsRow_lit _ #[] 0 (Nat.le_refl _) (by decide) rfl) rfl rfl).mono (hbx _).size (Nat.le_refl _),(hbx _).alloc (hbx _).size _⟩
          · have hse:=stepEd_some HG.out hex he hno
            have HSE:=Hd_ hse
            rw [hk] at HEI
            obtain ⟨b9,o9,rfl,-,hb9,hc9⟩:=HX2.out ix e hex
            have e1:=hc9 1 _ rfl
            have e2:=hc9 2 _ rfl
            have e1:=(hbw.cell (p:=⟨_,_,none⟩) hb9).trans e1
            have e2:=(hbw.cell (p:=⟨_,_,none⟩) hb9).trans e2
            have hb9':b9 < wr.heap.size:=by omega
            have hixl:ix < g.edges.length:=(List.getElem?_eq_some_iff.1 hex).1
            clear hk hno he hex hse hc9 HSPEC
            cases sinv with
            | true =>
              have hsf:stepFrom g (sid,true)=e.2.2.1:=by rw [stepFrom];simp [HSE.out]
              have hsto:stepTo g (sid,true)=e.2.1:=by rw [stepTo,stepFrom];simp [HSE.out]
              have HSF:=Hd_ hsf
              have HSTO:=Hd_ hsto
              clear hsf hsto
              by_cases hyx:e.2.2.1=x
              · have hq:(e.2.2.1 != x)=false:=by simp [hyx]
                have hto0:0<=stepTo g (sid,true):=by
                 have h1:=@stepFrom_neg g (sid,true)
                 have h2:=@stepFrom_neg g (sid,!true)
                 have h3:stepTo g (sid,true)=stepFrom g (sid,!true):=rfl
                 have h4:=HSF.out
                 rw [h3]
                 by_cases h5:0<=stepFrom g (sid,!true)
                 · exact h5
                 · have h6:=h2.1 (by omega)
                   have h7:=h1.2 h6
                   omega
                have HYX:=Hd_ hyx
                have HTO0:=Hd_ hto0
                clear hyx hto0
                go_wp2_with fail
                refine wp_region_ext_lit (by kernel_rfl) (by kernel_rfl) ?_
                repeat (go_big_quiet_step ((go_at_call 75;exact Calls.ext_of (HEI.out _ (hbx _)))))
                refine wpQuiet_nil ?_
                rintro _ ⟨u2,rfl⟩
                have hw3:=ext_below wr u2
                have hrow3:=ownsRow_below HROW.out hw3 (Nat.le_refl _)
                have hs3:=Nat.le_trans hs1 hw3.size
                have hbel3:=below_trans hbel hw3
                have htl:((nodesL g (st,steps)).take (i+1)).length<=61:=by rw [List.length_take];omega
                clear hw3
                go_wp2_with (at_builtin;(refine wpList_append1 cI elInt rfl _ _ rfl w1.heap.size (.slice (some ⟨gb,0,none⟩) m cp) ((nodesL g (st,steps)).take (i+1)) (e.2.1) _ 1 _ (by rfl) hrow3 (by rfl) rfl rfl rfl (cI_one _) (by omega) (by omega) hs3 ?_);rw [<- HSTO.out,<- nodesL_succ HXS.out];intro v' w4 hrow' hb4 _ _)
                go_roundw
                case rel=>exact ⟨i+1,by omega,by go_num,range_all_succ HA.out (by rw [HLK.out,HSF.out,HYX.out];simp),hrow',⟨_,nodesL_next HXS.out,HTO0.out⟩,hbel3.trans hb4⟩
                case measure=>simp [intOf];omega
              · have hq:(e.2.2.1 != x)=true:=by simp [hyx]
                have hfin:walkOk g (st,steps)=false:=by rw [HF.out];exact range_all_false hlt (by rw [HLK.out,HSF.out];simpa using hyx)
                have HFI:=Hd_ hfin
                clear hyx hfin
                go_wp2_with fail
                refine wp_region_ext_lit (by kernel_rfl) (by kernel_rfl) ?_
                repeat (go_big_quiet_step ((go_at_call 75;exact Calls.ext_of (HEI.out _ (hbx _)))))
                refine wpQuiet_nil ?_
                rintro _ ⟨u2,rfl⟩
                go_wp2_with fail
                go_ret2
                exact ⟨_,by rw [HFI.out];rfl,by rw [nodesOut_no HFI.out];exact (Own.of_row (World.ownsRow_lit _ #[] 0 (Nat.le_refl _) (by decide) rfl) rfl rfl).mono (hbx _).size (Nat.le_refl _),(hbx _).alloc (hbx _).size _⟩
            | false =>
              have hsf:stepFrom g (sid,false)=e.2.1:=by rw [stepFrom];simp [HSE.out]
              have hsto:stepTo g (sid,false)=e.2.2.1:=by rw [stepTo,stepFrom];simp [HSE.out]
              have HSF:=Hd_ hsf
              have HSTO:=Hd_ hsto
              clear hsf hsto
              by_cases hyx:e.2.1=x
              · have hq:(e.2.1 != x)=false:=by simp [hyx]
                have hto0:0<=stepTo g (sid,false):=by
                 have h1:=@stepFrom_neg g (sid,false)
                 have h2:=@stepFrom_neg g (sid,!false)
                 have h3:stepTo g (sid,false)=stepFrom g (sid,!false):=rfl
                 have h4:=HSF.out
                 rw [h3]
                 by_cases h5:0<=stepFrom g (sid,!false)
                 · exact h5
                 · have h6:=h2.1 (by omega)
                   have h7:=h1.2 h6
                   omega
                have HYX:=Hd_ hyx
                have HTO0:=Hd_ hto0
                clear hyx hto0
                go_wp2_with fail
                refine wp_region_ext_lit (by kernel_rfl) (by kernel_rfl) ?_
                repeat (go_big_quiet_step ((go_at_call 75;exact Calls.ext_of (HEI.out _ (hbx _)))))
                refine wpQuiet_nil ?_
                rintro _ ⟨u2,rfl⟩
                have hw3:=ext_below wr u2
                have hrow3:=ownsRow_below HROW.out hw3 (Nat.le_refl _)
                have hs3:=Nat.le_trans hs1 hw3.size
                have hbel3:=below_trans hbel hw3
                have htl:((nodesL g (st,steps)).take (i+1)).length<=61:=by rw [List.length_take];omega
                clear hw3
                go_wp2_with (at_builtin;(refine wpList_append1 cI elInt rfl _ _ rfl w1.heap.size (.slice (some ⟨gb,0,none⟩) m cp) ((nodesL g (st,steps)).take (i+1)) (e.2.2.1) _ 1 _ (by rfl) hrow3 (by rfl) rfl rfl rfl (cI_one _) (by omega) (by omega) hs3 ?_);rw [<- HSTO.out,<- nodesL_succ HXS.out];intro v' w4 hrow' hb4 _ _)
                go_roundw
                case rel=>exact ⟨i+1,by omega,by go_num,range_all_succ HA.out (by rw [HLK.out,HSF.out,HYX.out];simp),hrow',⟨_,nodesL_next HXS.out,HTO0.out⟩,hbel3.trans hb4⟩
                case measure=>simp [intOf];omega
              · have hq:(e.2.1 != x)=true:=by simp [hyx]
                have hfin:walkOk g (st,steps)=false:=by rw [HF.out];exact range_all_false hlt (by rw [HLK.out,HSF.out];simpa using hyx)
                have HFI:=Hd_ hfin
                clear hyx hfin
                go_wp2_with fail
                refine wp_region_ext_lit (by kernel_rfl) (by kernel_rfl) ?_
                repeat (go_big_quiet_step ((go_at_call 75;exact Calls.ext_of (HEI.out _ (hbx _)))))
                refine wpQuiet_nil ?_
                rintro _ ⟨u2,rfl⟩
                go_wp2_with fail
                go_ret2
                exact ⟨_,by rw [HFI.out];rfl,by rw [nodesOut_no HFI.out];exact (Own.of_row (World.ownsRow_lit _ #[] 0 (Nat.le_refl _) (by decide) rfl) rfl rfl).mono (hbx _).size (Nat.le_refl _),(hbx _).alloc (hbx _).size _⟩
        · obtain rfl:i=steps.length:=by omega
          have y1:=(hbel.cell (p:=⟨_,_,none⟩) (by simp only;omega)).trans y1
          have hlw:=hbel.size
          have k1:w.heap.size+1 < wr.heap.size:=by omega
          have hfin:walkOk g (st,steps)=true:=by rw [HF.out,HA.out]
          have HFF:=Hd_ hfin
          have htk:(nodesL g (st,steps)).take (steps.length+1)=nodesL g (st,steps):=List.take_of_length_le (by rw [nodesL_len];simp)
          rw [htk] at hrow
          have HROW:=Hd_ hrow
          clear hfin HF HA htk hml hrow
          go_wp2_with fail
          go_ret2
          exact ⟨_,by rw [HFF.out];rfl,by rw [nodesOut_yes HFF.out];exact (Own.of_row HROW.out rfl rfl).mono hb2.size (Nat.le_refl _),hbw⟩
     · have hlen':decide ((steps.length:Int) > 60)=true:=by simp;omega
       have hfin:walkOk g (st,steps)=false:=by rw [HW.out];simp [hlen]
       have HF:=Hd_ hfin
       clear HW hfin hg
       go_wp2_with (go_at_call 42;refine (HWI.out _ _ _ _).mono ?_;rintro e w1 ⟨rfl,rfl⟩)
       go_ret2
       exact ⟨_,by rw [HF.out];rfl,by rw [nodesOut_no HF.out];exact (Own.of_row (World.ownsRow_lit _ #[] 0 (Nat.le_refl _) (by decide) rfl) rfl rfl).mono hb2.size (Nat.le_refl _),hb2.alloc hb2.size _⟩
set_option maxHeartbeats 2000000 in
theorem implWalkEnd (v1 v2:Value) (g:Gr) (k:Wk) (w:World) (hv1:GrV 0 w.heap.size w v1 g) (hv2:WkV 0 w.heap.size w v2 k) :
 Calls Tryz.prog 50 #[v1,v2] w fun en w'=>en=.returned (.int .i64 (walkEnd g k))/\Below w.heap.size w w':=by
 have hv0:=hv1
 have hv3:=hv2
 obtain ⟨A1,n1,c1,A2,n2,c2,rfl⟩:=hv1.shape
 obtain ⟨A3,n3,c3,rfl⟩:=hv2.shape
 clear hv1 hv2
 have hb0:Below w.heap.size w ((w.alloc (.cells #[.slice A1 n1 c1,.slice A2 n2 c2] 27)).alloc (.cells #[.int .i64 k.1,.slice A3 n3 c3] 36)):=((Below.refl _ _).alloc (Nat.le_refl _) _).alloc (by simp) _
 have hc:=implNodes _ _ g k _ (hv0.keep hb0) (hv3.keep hb0)
 have HC:=Hd_ hc
 clear hc
 obtain ⟨R,hR⟩:∃ R,R=walkEnd g k:=⟨_,rfl⟩
 rw [<- hR]
 cases hw:walkOk g k with
 | false =>
   rw [hw] at HC
   have hfin:R=-1:=by rw [hR,walkEnd,hw];rfl
   subst hfin
   clear hR hw
   go_enter Tryz.func50,Tryz.ntmps50
   go_wp2_with fail
   refine HC.out.mono ?_
   rintro e w1 ⟨v,rfl,ho,hb1⟩
   obtain ⟨A6,c6,rfl,-,-,-⟩:=ho.form cI_len
   go_wp2_with fail
   go_ret
   exact ⟨rfl,below_trans hb0 hb1⟩
 | true =>
   rw [hw] at HC
   have hfin:R=(nodeAt g k k.2.length:Int):=by rw [hR,walkEnd,hw];rfl
   have HF:=Hd_ hfin
   have HW:=Hd_ hw
   have hl60:=(walkOk_parts hw).2.2.1
   clear hR hw hfin
   go_enter Tryz.func50,Tryz.ntmps50
   go_wp2_with fail
   refine HC.out.mono ?_
   rintro e w1 ⟨v,rfl,ho,hb1⟩
   rw [nodesOut_yes HW.out] at ho
   have hr:=ho.1
   rw [nodesL_len] at hr
   obtain ⟨gN,cN,rfl,-,hgN,-,-⟩:=own_some hr (by omega)
   have q0:=(World.ownsRow.cellAt hr k.2.length (by omega)).trans (flatI_at (nodeAt_lt HW.out (Nat.le_refl _)).1)
   have m1:((k.2.length:Int)+1) - 1=(k.2.length:Int):=by omega
   clear hr ho
   go_wp2_with fail
   go_ret
   exact ⟨by rw [HF.out];rfl,below_trans hb0 hb1⟩
set_option maxHeartbeats 2000000 in
theorem specWalkEnd (v1 v2:Value) (g:Gr) (k:Wk) (w:World) (hv1:GrV 0 w.heap.size w v1 g) (hv2:WkV 0 w.heap.size w v2 k) :
 Calls Tryz.prog 55 #[v1,v2] w fun en w'=>en=.returned (.int .i64 (walkEnd g k))/\Below w.heap.size w w':=by
 have hv0:=hv1
 have hv3:=hv2
 obtain ⟨A1,n1,c1,A2,n2,c2,rfl⟩:=hv1.shape
 obtain ⟨A3,n3,c3,rfl⟩:=hv2.shape
 clear hv1 hv2
 have hb0:Below w.heap.size w ((w.alloc (.cells #[.slice A1 n1 c1,.slice A2 n2 c2] 27)).alloc (.cells #[.int .i64 k.1,.slice A3 n3 c3] 36)):=((Below.refl _ _).alloc (Nat.le_refl _) _).alloc (by simp) _
 have hc:=specNodes _ _ g k _ (hv0.keep hb0) (hv3.keep hb0)
 have HC:=Hd_ hc
 clear hc
 obtain ⟨R,hR⟩:∃ R,R=walkEnd g k:=⟨_,rfl⟩
 rw [<- hR]
 cases hw:walkOk g k with
 | false =>
   rw [hw] at HC
   have hfin:R=-1:=by rw [hR,walkEnd,hw];rfl
   subst hfin
   clear hR hw
   go_enter Tryz.func55,Tryz.ntmps55
   go_wp2_with fail
   refine HC.out.mono ?_
   rintro e w1 ⟨v,rfl,ho,hb1⟩
   obtain ⟨A6,c6,rfl,-,-,-⟩:=ho.form cI_len
   go_wp2_with fail
   go_ret
   exact ⟨rfl,below_trans hb0 hb1⟩
 | true =>
   rw [hw] at HC
   have hfin:R=(nodeAt g k k.2.length:Int):=by rw [hR,walkEnd,hw];rfl
   have HF:=Hd_ hfin
   have HW:=Hd_ hw
   have hl60:=(walkOk_parts hw).2.2.1
   clear hR hw hfin
   go_enter Tryz.func55,Tryz.ntmps55
   go_wp2_with fail
   refine HC.out.mono ?_
   rintro e w1 ⟨v,rfl,ho,hb1⟩
   rw [nodesOut_yes HW.out] at ho
   have hr:=ho.1
   rw [nodesL_len] at hr
   obtain ⟨gN,cN,rfl,-,hgN,-,-⟩:=own_some hr (by omega)
   have q0:=(World.ownsRow.cellAt hr k.2.length (by omega)).trans (flatI_at (nodeAt_lt HW.out (Nat.le_refl _)).1)
   have m1:((k.2.length:Int)+1) - 1=(k.2.length:Int):=by omega
   clear hr ho
   go_wp2_with fail
   go_ret
   exact ⟨by rw [HF.out];rfl,below_trans hb0 hb1⟩
theorem specIsWalk (v1 v2:Value) (g:Gr) (k:Wk) (w:World) (hv1:GrV 0 w.heap.size w v1 g) (hv2:WkV 0 w.heap.size w v2 k) :
 Calls Tryz.prog 84 #[v1,v2] w fun en w'=>en=.returned (.bool (walkOk g k))/\Below w.heap.size w w':=by
 have hv0:=hv1
 have hv3:=hv2
 obtain ⟨A1,n1,c1,A2,n2,c2,rfl⟩:=hv1.shape
 obtain ⟨A3,n3,c3,rfl⟩:=hv2.shape
 clear hv1 hv2
 have hb0:Below w.heap.size w ((w.alloc (.cells #[.slice A1 n1 c1,.slice A2 n2 c2] 27)).alloc (.cells #[.int .i64 k.1,.slice A3 n3 c3] 36)):=((Below.refl _ _).alloc (Nat.le_refl _) _).alloc (by simp) _
 have hc:=specNodes _ _ g k _ (hv0.keep hb0) (hv3.keep hb0)
 have HC:=Hd_ hc
 clear hc
 generalize walkOk g k=bb at HC
 go_enter Tryz.func84,Tryz.ntmps84
 go_wp2_with fail
 refine HC.out.mono ?_
 rintro e w1 ⟨v,rfl,-,hb1⟩
 go_wp2_with fail
 go_ret
 exact ⟨rfl,below_trans hb0 hb1⟩
def foldFr (a:Au) (l set m0 q:Nat):Nat:=(mem q set).foldl (aft1 a l) m0
theorem foldFr_no {a:Au} {l set m0 q:Nat} (h:set.testBit q=false):foldFr a l set m0 (q+1)=foldFr a l set m0 q:=by rw [foldFr,mem_no h];rfl
theorem foldFr_yes {a:Au} {l set m0 q:Nat} (h:set.testBit q=true):foldFr a l set m0 (q+1)=aft1 a l (foldFr a l set m0 q) q:=by rw [foldFr,mem_yes h,List.foldl_append];rfl
theorem foldFr_lt {a:Au} (h:auOk a=true) (l set m0 q:Nat) (hm:m0 < 2 ^ a.accept.length):foldFr a l set m0 q < 2 ^ a.accept.length:=foldl_inv (P:=fun m=>m < 2 ^ a.accept.length) (fun m x hm=>aft1_lt h l m x hm) _ _ hm
def foldS (a:Au) (v l set q:Nat):Nat:=(mem q set).foldl (aftS a v l) 0
theorem foldS_no {a:Au} {v l set q:Nat} (h:set.testBit q=false):foldS a v l set (q+1)=foldS a v l set q:=by rw [foldS,mem_no h];rfl
theorem foldS_yes {a:Au} {v l set q:Nat} (ha:auOk a=true) (hq:q < a.accept.length) (h:set.testBit q=true):foldS a v l set (q+1)=foldFr a l (cls a v q) (foldS a v l set q) a.accept.length:=by
 rw [foldS,mem_yes h,List.foldl_append]
 show aftS a v l _ q=_
 rw [aftS,mem12 ha (cls_lt ha v q hq)];rfl
theorem foldS_lt {a:Au} (h:auOk a=true) (v l set q:Nat):foldS a v l set q < 2 ^ a.accept.length:=foldl_inv (P:=fun m=>m < 2 ^ a.accept.length) (fun m x hm=>aftS_lt h v l m x hm) _ _ (Nat.two_pow_pos _)
theorem foldS_all {a:Au} (h:auOk a=true) {v l set:Nat} (hs:set < 2 ^ a.accept.length):foldS a v l set a.accept.length=aft a set v l:=by rw [foldS,aft,mem12 h hs]
theorem stepEd_idx {g:Gr} {id:Int} {e:Ed} (h:stepEd g id=some e):∃ ix:Nat,edgeIdx g id=ix/\g.edges[ix]?=some e:=by
 obtain ⟨hg,hm,he⟩:=stepEd_ok h
 obtain ⟨ix,hix⟩:=List.getElem?_of_mem hm
 refine ⟨ix,?_,hix⟩
 rw [<- he]
 exact edgeIdx_at hg hix
set_option maxHeartbeats 8000000 in
set_option maxRecDepth 100000 in
theorem l18Next_any (vg va:Value) (g:Gr) (a:Au) (x SI:Nat) (st:St) (e:Ed) (l:Nat) (w:World) (hgv:GrV 0 w.heap.size w vg g) (hav:AuV 0 w.heap.size w va a) (hgo:grOk g=true) (ha:auOk a=true) (hx:x < g.vals.length) (hSI:SI < 2 ^ a.accept.length)
 (he:stepEd g st.1=some e) (hl:arcLetter st.2 e=(l:Int)) :
 Calls Tryz.prog 48 #[vg,va,.int .i64 (x:Int),.int .i64 (SI:Int),.agg #[.int .i64 st.1,.bool st.2]] w fun en w'=>en=.returned (.tuple #[.int .i64 (arcTo st.2 e),.int .i64 (aft a SI (valAt g x) l:Int)])/\Below w.heap.size w w':=by
 have hg:=grOk_iff.1 hgo
 have hav0:=hav
 have hgv0:=hgv
 obtain ⟨A1,c1,A2,c2,rfl,hl1,hm1,hl2,hm2,hC1,hC2⟩:=hgv.form
 obtain ⟨A3,c3,A4,c4,rfl,hl3,hm3,hl4,hm4,hAC⟩:=hav.form ha
 obtain ⟨sid,sinv⟩:=st
 have hn12:=(auOk_iff.1 ha).1.2
 obtain ⟨ix,hix,hei⟩:=stepEd_idx he
 have hem:=(stepEd_ok he).2.1
 have hel:=hg.edges e hem
 have hixl:ix < g.edges.length:=(List.getElem?_eq_some_iff.1 hei).1
 have hixi:(ix:Int) < (g.edges.length:Int):=by omega
 obtain ⟨b6,o6,rfl,hb6,q0,q1,q2,q3⟩:=hC2.ed hei
 have hxi:g.vals[x]?=some g.vals[x]:=List.getElem?_eq_getElem hx
 have hvr:=hg.vals _ (List.getElem_mem hx)
 generalize g.vals[x]=vx at hxi hvr
 obtain ⟨vx,rfl⟩:=Int.eq_ofNat_of_zero_le hvr.1
 have hva:=valAt_of hxi
 rw [Int.toNat_natCast] at hva
 obtain ⟨b1,o1,rfl,hb1,d1⟩:=hC1.int hxi
 have hSI4:=lt12 ha hSI
 simp only at hix hl ⊢
 obtain ⟨eid,ef,et,el⟩:=e
 simp only at q0 q1 q2 q3 hel
 obtain ⟨-,-,-,hl0,hl2e⟩:=hel
 have hl9:l < 6:=by unfold arcLetter at hl;simp only at hl;split at hl <;> omega
 obtain ⟨TO,hTO⟩:∃ TO,TO=arcTo sinv (eid,ef,et,el):=⟨_,rfl⟩
 rw [<- hTO,hva,<- foldS_all ha hSI]
 have HTO:=Hd_ (show ∀ W,Calls Tryz.prog 78 #[.agg #[.int .i64 eid,.int .i64 ef,.int .i64 et,.int .i64 el],.bool sinv] W fun en w'=>en=.returned (.int .i64 TO)/\Below W.heap.size W w' from fun W=>by
  have h:=l14To_any (eid,ef,et,el) sinv W
  rwa [<- hTO] at h)
 have HLET:=Hd_ (show ∀ W,Calls Tryz.prog 77 #[.agg #[.int .i64 eid,.int .i64 ef,.int .i64 et,.int .i64 el],.bool sinv] W fun en w'=>en=.returned (.int .i64 (l:Int))/\Below W.heap.size W w' from fun W=>by
  have h:=l14Letter_any (eid,ef,et,el) sinv W hl0 hl2e
  rwa [hl] at h)
 have HEI:=Hd_ (show ∀ W,Below w.heap.size w W->Calls Tryz.prog 75 #[.agg #[.slice (some ⟨b1,o1,none⟩) g.vals.length c1,.slice (some ⟨b6,o6,none⟩) g.edges.length c2],.int .i64 sid] W fun e w'=>e=.returned (.int .i64 (ix:Int))/\Below W.heap.size W w' from fun W hW=>by
  have h:=specEdgeIndex _ g sid W (hgv0.keep hW)
  rwa [hix] at h)
 have HGO:=Hd_ hg
 have HAO:=Hd_ ha
 have HAV:=Hd_ hav0
 have HGV:=Hd_ hgv0
 have HAC:=Hd_ hAC
 have HSI:=Hd_ hSI
 have hxx:(x:Int) < (g.vals.length:Int):=by omega
 have hb0:Below w.heap.size w (((w.alloc (.cells #[.slice (some ⟨b1,o1,none⟩) g.vals.length c1,.slice (some ⟨b6,o6,none⟩) g.edges.length c2] 27)).alloc (.cells #[.int .i64 a.start,.slice A3 a.accept.length c3,.slice A4 a.accept.length c4] 31)).alloc (.cells #[.int .i64 sid,.bool sinv] 74)):=(((Below.refl _ _).alloc (Nat.le_refl _) _).alloc (by simp) _).alloc (by simp;omega) _
 clear hgv hav ha hg hgo hav0 hgv0 hva hxi hC1 hC2 hAC hSI he hl hix hei hem hTO
 go_enter Tryz.func48,Tryz.ntmps48
 go_upto_region 1 with fail
 obtain ⟨W0,hW0⟩:∃ W0,W0=(((w.alloc (.cells #[.slice (some ⟨b1,o1,none⟩) g.vals.length c1,.slice (some ⟨b6,o6,none⟩) g.edges.length c2] 27)).alloc (.cells #[.int .i64 a.start,.slice A3 a.accept.length c3,.slice A4 a.accept.length c4] 31)).alloc (.cells #[.int .i64 sid,.bool sinv] 74)):=⟨_,rfl⟩
 rw [<- hW0] at hb0 ⊢
 have bx:Blk W0 w.heap.size 27 #[.slice (some ⟨b1,o1,none⟩) g.vals.length c1,.slice (some ⟨b6,o6,none⟩) g.edges.length c2]:=by rw [hW0];exact ((Blk.new w _ _ w.heap.size rfl).alloc _).alloc _
 have by_:Blk W0 (w.heap.size+1) 31 #[.int .i64 a.start,.slice A3 a.accept.length c3,.slice A4 a.accept.length c4]:=by rw [hW0];exact (Blk.new (w.alloc _) _ _ (w.heap.size+1) (by simp)).alloc _
 have bz:Blk W0 (w.heap.size+1+1) 74 #[.int .i64 sid,.bool sinv]:=by rw [hW0];exact Blk.new ((w.alloc _).alloc _) _ _ (w.heap.size+1+1) (by simp)
 have hs0:w.heap.size+1+1+1=W0.heap.size:=by rw [hW0];simp
 have x0:W0.cell? ⟨w.heap.size,0,none⟩=some (.slice (some ⟨b1,o1,none⟩) g.vals.length c1):=by exact bx.cell 0
 have x1:W0.cell? ⟨w.heap.size,1,none⟩=some (.slice (some ⟨b6,o6,none⟩) g.edges.length c2):=by exact bx.cell 1
 have y0:W0.cell? ⟨w.heap.size+1,0,none⟩=some (.int .i64 a.start):=by exact by_.cell 0
 have y1:W0.cell? ⟨w.heap.size+1,1,none⟩=some (.slice A3 a.accept.length c3):=by exact by_.cell 1
 have y2:W0.cell? ⟨w.heap.size+1,2,none⟩=some (.slice A4 a.accept.length c4):=by exact by_.cell 2
 have z0:W0.cell? ⟨w.heap.size+1+1,0,none⟩=some (.int .i64 sid):=by exact bz.cell 0
 have z1:W0.cell? ⟨w.heap.size+1+1,1,none⟩=some (.bool sinv):=by exact bz.cell 1
 try rw [hs0]
 have l2:=bz.lt
 have l1:=by_.lt
 have l0:=bx.lt
 clear hW0 bx by_ bz hs0
 have q0:=kcell hb0 q0
 have q1:=kcell hb0 q1
 have q2:=kcell hb0 q2
 have q3:=kcell hb0 q3
 have d1:=kcell hb0 d1
 have hbb1:b1 < W0.heap.size:=Nat.lt_of_lt_of_le hb1 hb0.size
 have ne0:=World.new_ne W0 _ x0
 have ne1:=World.new_ne W0 _ q0
 have ne2:=World.new_ne W0 _ z0
 go_cut [12] (fun s12 wx=>∃ eb,s12=.pointer (some ⟨eb,0,none⟩)/\W0.heap.size<=eb/\eb < wx.heap.size/\wx.cell? ⟨eb,0,none⟩=some (.int .i64 eid)/\wx.cell? ⟨eb,1,none⟩=some (.int .i64 ef)/\wx.cell? ⟨eb,2,none⟩=some (.int .i64 et)/\wx.cell? ⟨eb,3,none⟩=some (.int .i64 el)/\Below W0.heap.size W0 wx)
 case first =>
  go_region_held3 (fun w'=>w'.cell? ⟨w.heap.size,0,none⟩=some (.slice (some ⟨b1,o1,none⟩) g.vals.length c1)/\w'.cell? ⟨w.heap.size,1,none⟩=some (.slice (some ⟨b6,o6,none⟩) g.edges.length c2)/\w'.cell? ⟨w.heap.size+1+1,0,none⟩=some (.int .i64 sid)/\w'.cell? ⟨b6,o6+ix * 4,none⟩=some (.int .i64 eid)/\w'.cell? ⟨b6,o6+ix * 4+1,none⟩=some (.int .i64 ef)/\w'.cell? ⟨b6,o6+ix * 4+2,none⟩=some (.int .i64 et)/\w'.cell? ⟨b6,o6+ix * 4+3,none⟩=some (.int .i64 el))
   (first | (with_reducible exact kS7 ne0 ne0 ne2 ne1 ne1 ne1 ne1 (kS7 ne0 ne0 ne2 ne1 ne1 ne1 ne1 (kS7 ne0 ne0 ne2 ne1 ne1 ne1 ne1 (kS7 ne0 ne0 ne2 ne1 ne1 ne1 ne1 (by assumption))))) | (exact ⟨x0,x1,z0,q0,q1,q2,q3⟩) | assumption | (exact kB7 hbE ⟨x0,x1,z0,q0,q1,q2,q3⟩) | (exact kA7 _ ⟨x0,x1,z0,q0,q1,q2,q3⟩) | (exact kA7 _ (kB7 hbE ⟨x0,x1,z0,q0,q1,q2,q3⟩)) | (exact kB7 hbE (kA7 _ ⟨x0,x1,z0,q0,q1,q2,q3⟩)) | (exact kB7 hbE (by assumption)) | (exact kA7 _ (by assumption)) | go_keep)
   (first | (go_at_call 75;refine (HEI.out _ (by first | exact hb0.drew | exact (hb0.drew).alloc (by have:=hb0.size;simpa using this) _)).mono ?_;rintro en wE ⟨rfl,hbE⟩;have n0:=World.new_ne wE _ (kcell hbE (by first | exact x0 | exact kcell ((Below.refl _ _).alloc (Nat.le_refl _) _) x0));have n1:=World.new_ne wE _ (kcell hbE (by first | exact q0 | exact kcell ((Below.refl _ _).alloc (Nat.le_refl _) _) q0));have n2:=World.new_ne wE _ (kcell hbE (by first | exact z0 | exact kcell ((Below.refl _ _).alloc (Nat.le_refl _) _) z0)));(first | (have NC:=nc4 hbE (n:=W0.heap.size) rfl;obtain ⟨t0,t1,t2,t3,f0,f1,f2,f3⟩:=NC) | skip))
  all_goals (go_wp2_with fail)
  · go_meet
    exact ⟨_,rfl,hbE.size,by simp,by simp,by simp,by simp,by simp,(below_trans ((Below.refl W0.heap.size W0).drew) hbE).alloc hbE.size _⟩
  · go_meet
    have h9:=hbE.size
    have h8:W0.heap.size < wE.heap.size:=Nat.lt_of_lt_of_le (by simp) h9
    have h7:Below W0.heap.size W0 wE:=below_trans (((Below.refl W0.heap.size W0).alloc (Nat.le_refl _) _).drew) hbE
    exact ⟨_,rfl,Nat.le_refl _,by simpa using h8,by go_simp,by go_simp,by go_simp,by go_simp,(((h7.setCell (Nat.le_refl _) _).setCell (Nat.le_refl _) _).setCell (Nat.le_refl _) _).setCell (Nat.le_refl _) _⟩
 case rest =>
  obtain ⟨eb,rfl,hlo,hhi,e0,e1,e2,e3,hbc⟩:=hcut
  have x0:=kcell hbc x0
  have x1:=kcell hbc x1
  have y0:=kcell hbc y0
  have y1:=kcell hbc y1
  have y2:=kcell hbc y2
  have z0:=kcell hbc z0
  have z1:=kcell hbc z1
  have d1:=kcell hbc d1
  have hbw:=below_trans hb0 hbc
  have hsz:=hbc.size
  have l0:=Nat.lt_of_lt_of_le l0 hsz
  have l1:=Nat.lt_of_lt_of_le l1 hsz
  have l2:=Nat.lt_of_lt_of_le l2 hsz
  have hbb1:=Nat.lt_of_lt_of_le hbb1 hsz
  clear ne0 ne1 ne2 q0 q1 q2 q3 hb0 hbc
  go_wp2_with fail
  go_loopw [13,14] (fun mm qq wr=>∃ (q:Nat) (u:World),q<=a.accept.length/\qq=.int .i64 (q:Int)/\mm=.int .i64 (foldS a vx l SI q:Nat)/\wr=ext wc u) (fun _ qq _=>a.accept.length - (intOf qq).toNat)
  case atStart=>exact ⟨0,wc,Nat.zero_le _,rfl,rfl,ext_self _⟩
  case round =>
   obtain ⟨q,u,hq,rfl,rfl,rfl⟩:=hrel
   by_cases hlq:q < a.accept.length
   · have hqi:(q:Int) < (a.accept.length:Int):=by omega
     cases hb:SI.testBit q with
     | false =>
       have e3':=bit_off (by omega) (by omega) hb
       have HR:=Hd_ (show foldS a vx l SI q=foldS a vx l SI (q+1) from (foldS_no hb).symm)
       clear hb
       go_wp2_with fail
       go_roundw
       case rel=>exact ⟨q+1,u,by omega,by go_num,by rw [<- HR.out],rfl⟩
       case measure=>simp [intOf];omega
     | true =>
       have e3':=bit_on (by omega) (by omega) hb
       have HFS:=Hd_ (foldS_yes (v:=vx) (l:=l) HAO.out hlq hb)
       have hm0:=foldS_lt HAO.out vx l SI q
       have hcl:=cls_lt HAO.out vx q hlq
       have hcl4:=lt12 HAO.out hcl
       clear hb
       generalize foldS a vx l SI q=m0 at *
       have HM0:=Hd_ hm0
       clear hm0
       go_wp2_with fail
       refine wp_region_ext_lit (by kernel_rfl) (by kernel_rfl) ?_
       repeat (go_big_quiet_step ((go_at_call 76;exact Calls.ext_of (l14Closure_any _ a q vx _ (HAV.out.keep (below_trans hbw (below_trans (ext_below _ _) (ext_below _ _)))) HAO.out hlq (by omega)))))
       refine wpQuiet_nil ?_
       rintro _ ⟨u2,rfl⟩
       obtain ⟨u3,hu3⟩:=ext_of (below_trans (ext_below wc u) (ext_below (ext wc u) u2))
       rw [hu3]
       clear hu3 u2 u
       go_wp2_with fail
       generalize cls a vx q=C at *
       go_loopw [13,16] (fun mm rr wr=>∃ (r:Nat) (u:World),r<=a.accept.length/\rr=.int .i64 (r:Int)/\mm=.int .i64 (foldFr a l C m0 r:Nat)/\wr=ext wc u) (fun _ rr _=>a.accept.length - (intOf rr).toNat)
       case atStart=>exact ⟨0,u3,Nat.zero_le _,rfl,rfl,rfl⟩
       case round =>
        obtain ⟨r,u,hr,rfl,rfl,rfl⟩:=hrel
        by_cases hlr:r < a.accept.length
        · obtain ⟨b,o,b3,o3,c3',rfl,hbb,hrw,-,-,hb3,hmvs⟩:=HAC.out.row r hlr
          have r0:=kcell hbw hrw
          have r1:=kcell hbw (hmvs l (by omega))
          have hws:=hbw.size
          have hbb':b < wc.heap.size:=by omega
          have hb3':b3 < wc.heap.size:=by omega
          have hlri:(r:Int) < (a.accept.length:Int):=by omega
          have hlz:(l:Int) < 9:=by omega
          have hft:=foldFr_lt HAO.out l C m0 r HM0.out
          have hft4:=lt12 HAO.out hft
          have hmv:=mv_lt HAO.out r l
          have HNX:=Hd_ (show foldFr a l C m0 (r+1)=if C.testBit r=true then aft1 a l (foldFr a l C m0 r) r else foldFr a l C m0 r by by_cases hb:C.testBit r=true;rw [if_pos hb,foldFr_yes hb];rw [if_neg hb,foldFr_no (by simpa using hb)])
          have HA:=Hd_ (show aft1 a l (foldFr a l C m0 r) r=if 0<=mv a r l then ins (foldFr a l C m0 r) (mv a r l).toNat else foldFr a l C m0 r from rfl)
          generalize foldFr a l C m0 r=m1 at *
          clear hrw hmvs hft
          go_wp2_with fail
          refine wp_region_ext_lit (by kernel_rfl) (by kernel_rfl) ?_
          repeat (go_big_quiet_step ((go_at_call 77;exact Calls.ext_of (HLET.out _))))
          refine wpQuiet_nil ?_
          rintro _ ⟨u2,rfl⟩
          obtain ⟨u4,hu4⟩:=ext_of (below_trans (ext_below wc u) (ext_below (ext wc u) u2))
          rw [hu4]
          cases hb:C.testBit r with
          | false =>
            have b1f:=bit_off (by omega) (by omega) hb
            have HR:=Hd_ (show m1=foldFr a l C m0 (r+1) by rw [HNX.out,if_neg (by simp [hb])])
            clear hb
            go_wp2_with fail
            go_roundw
            case rel=>exact ⟨r+1,u4,by omega,by go_num,by rw [<- HR.out],rfl⟩
            case measure=>simp [intOf];omega
          | true =>
            have b1t:=bit_on (by omega) (by omega) hb
            have HNX:=Hd_ (HNX.out.trans (if_pos hb))
            clear hb
            by_cases h0:0<=mv a r l
            · have HR:=Hd_ (show ins m1 (mv a r l).toNat=foldFr a l C m0 (r+1) by rw [HNX.out,HA.out,if_pos h0])
              generalize mv a r l=z at *
              obtain ⟨z,rfl⟩:=Int.eq_ofNat_of_zero_le h0
              have e1':=shl_bit (s:=z) (by omega)
              have e2':=or_ins (m:=m1) (s:=z) (by omega) (by omega)
              go_wp2_with fail
              go_roundw
              case rel=>exact ⟨r+1,u4,by omega,by go_num,by rw [<- HR.out];simp,rfl⟩
              case measure=>simp [intOf];omega
            · have HR:=Hd_ (show m1=foldFr a l C m0 (r+1) by rw [HNX.out,HA.out,if_neg h0])
              have h0':decide (mv a r l >= 0)=false:=by simp;omega
              go_wp2_with fail
              go_roundw
              case rel=>exact ⟨r+1,u4,by omega,by go_num,by rw [<- HR.out],rfl⟩
              case measure=>simp [intOf];omega
        · obtain rfl:r=a.accept.length:=by omega
          go_wp2_with fail
          go_roundw
          case rel=>exact ⟨q+1,u,by omega,by go_num,by rw [HFS.out],rfl⟩
          case measure=>simp [intOf];omega
   · obtain rfl:q=a.accept.length:=by omega
     have hbE:=below_trans hbw (ext_below wc u)
     go_wp2_with fail
     refine (HTO.out _).mono ?_
     rintro en w9 ⟨rfl,hb9⟩
     go_wp2_with fail
     go_ret2
     exact ⟨rfl,below_trans hbE hb9⟩
set_option maxHeartbeats 4000000 in
theorem l18Ends_any (vg va:Value) (g:Gr) (a:Au) (x SI:Nat) (w:World) (hgv:GrV 0 w.heap.size w vg g) (hav:AuV 0 w.heap.size w va a) (hgo:grOk g=true) (ha:auOk a=true) (hx:x < g.vals.length) (hSI:SI < 2 ^ a.accept.length) :
 Calls Tryz.prog 72 #[vg,va,.int .i64 (x:Int),.int .i64 (SI:Int)] w fun en w'=>en=.returned (.bool (acc a SI (valAt g x)))/\Below w.heap.size w w':=by
 have hav0:=hav
 have hgv0:=hgv
 obtain ⟨A1,n1,c1,A2,n2,c2,rfl⟩:=hgv.shape
 obtain ⟨A3,c3,A4,c4,rfl,hl3,hm3,hl4,hm4,-⟩:=hav.form ha
 have hn12:=(auOk_iff.1 ha).1.2
 have hSI4:=lt12 ha hSI
 have hb0:Below w.heap.size w ((w.alloc (.cells #[.slice A1 n1 c1,.slice A2 n2 c2] 27)).alloc (.cells #[.int .i64 a.start,.slice A3 a.accept.length c3,.slice A4 a.accept.length c4] 31)):=((Below.refl _ _).alloc (Nat.le_refl _) _).alloc (by simp) _
 obtain ⟨R,hR⟩:∃ R,R=acc a SI (valAt g x):=⟨_,rfl⟩
 rw [<- hR]
 have HR:=Hd_ (show R=(mem a.accept.length SI).any (accC a (valAt g x)) by rw [hR,acc,mem12 ha hSI])
 have HGO:=Hd_ (grOk_iff.1 hgo)
 have HAO:=Hd_ ha
 have HAV:=Hd_ hav0
 have HGV:=Hd_ hgv0
 clear hgv hav ha hgo hav0 hgv0 hSI hR
 go_enter Tryz.func72,Tryz.ntmps72
 go_wp2_with fail
 obtain ⟨W0,hW0⟩:∃ W0,W0=((w.alloc (.cells #[.slice A1 n1 c1,.slice A2 n2 c2] 27)).alloc (.cells #[.int .i64 a.start,.slice A3 a.accept.length c3,.slice A4 a.accept.length c4] 31)):=⟨_,rfl⟩
 rw [<- hW0] at hb0 ⊢
 have x0:W0.cell? ⟨w.heap.size,0,none⟩=some (.slice A1 n1 c1):=by rw [hW0];simp
 have x1:W0.cell? ⟨w.heap.size,1,none⟩=some (.slice A2 n2 c2):=by rw [hW0];simp
 have y0:W0.cell? ⟨w.heap.size+1,0,none⟩=some (.int .i64 a.start):=by rw [hW0];simp
 have y1:W0.cell? ⟨w.heap.size+1,1,none⟩=some (.slice A3 a.accept.length c3):=by rw [hW0];simp
 have y2:W0.cell? ⟨w.heap.size+1,2,none⟩=some (.slice A4 a.accept.length c4):=by rw [hW0];simp
 have hs0:w.heap.size+1+1=W0.heap.size:=by rw [hW0];simp
 try rw [hs0]
 have l0:w.heap.size+1 < W0.heap.size:=by omega
 have l00:w.heap.size < W0.heap.size:=by omega
 clear hW0 hs0
 go_loopw [9] (fun qq wr=>∃ (q:Nat) (u:World),q<=a.accept.length/\qq=.int .i64 (q:Int)/\(mem q SI).any (accC a (valAt g x))=false/\wr=ext W0 u) (fun qq _=>a.accept.length - (intOf qq).toNat)
 case atStart=>exact ⟨0,W0,Nat.zero_le _,rfl,rfl,ext_self _⟩
 case round =>
  obtain ⟨q,u,hq,rfl,hno,rfl⟩:=hrel
  have HNO:=Hd_ hno
  clear hno
  have hbE:=below_trans hb0 (ext_below W0 u)
  by_cases hlq:q < a.accept.length
  · have hqi:(q:Int) < (a.accept.length:Int):=by omega
    cases hb:SI.testBit q with
    | false =>
      have e3':=bit_off (by omega) (by omega) hb
      have HM:=Hd_ (mem_no hb)
      clear hb
      go_wp2_with fail
      go_roundw
      case rel=>exact ⟨q+1,u,by omega,by go_num,by rw [HM.out];exact HNO.out,rfl⟩
      case measure=>simp [intOf];omega
    | true =>
      have e3':=bit_on (by omega) (by omega) hb
      have HM:=Hd_ (mem_yes hb)
      have HB:=Hd_ hb
      have hacc:=l14Accepts_any _ _ g a x q (ext W0 u) (HGV.out.keep hbE) (HAV.out.keep hbE) HGO.out HAO.out hx hlq
      have HACC:=Hd_ hacc
      clear hb hacc
      cases hc:accC a (valAt g x) q with
      | true =>
        rw [hc] at HACC
        have hfin:R=true:=by rw [HR.out];exact List.any_eq_true.2 ⟨q,mem_mem.2 ⟨hlq,HB.out⟩,hc⟩
        subst hfin
        clear HR hc
        go_wp2_with fail
        refine HACC.out.mono ?_
        rintro en w1 ⟨rfl,hb1⟩
        go_wp2_with fail
        go_ret
        exact ⟨rfl,below_trans hbE hb1⟩
      | false =>
        rw [hc] at HACC
        have HC:=Hd_ hc
        clear hc
        go_wp2_with fail
        refine HACC.out.mono ?_
        rintro en w1 ⟨rfl,hb1⟩
        obtain ⟨u4,hu4⟩:=ext_of (below_trans (ext_below W0 u) hb1)
        subst hu4
        go_wp2_with fail
        go_roundw
        case rel=>exact ⟨q+1,u4,by omega,by go_num,by rw [HM.out,List.any_append,HNO.out];simp only [List.any_cons,List.any_nil,Bool.or_false,Bool.false_or];exact HC.out,rfl⟩
        case measure=>simp [intOf];omega
  · obtain rfl:q=a.accept.length:=by omega
    have hfin:R=false:=by rw [HR.out];exact HNO.out
    subst hfin
    clear HR
    go_wp2_with fail
    go_ret
    exact ⟨rfl,hbE⟩
theorem flatN_atS {xs:List Nat} {t:Nat} {x:Nat} (h:xs[t]?=some x):(xs.flatMap cN)[t]?=some (.int .i64 (x:Int)):=by
 have:=flat_at cN_len h 0 _ rfl
 simpa using this
set_option maxHeartbeats 8000000 in
set_option maxRecDepth 100000 in
theorem l18Along_any (vg va vk:Value) (g:Gr) (a:Au) (k:Wk) (w:World) (hgv:GrV 0 w.heap.size w vg g) (hav:AuV 0 w.heap.size w va a) (hkv:WkV 0 w.heap.size w vk k) (hw:walkOk g k=true) (ha:auOk a=true) :
 Calls Tryz.prog 86 #[vg,va,vk] w fun e w'=>∃ v1,e=.returned v1/\Own w.heap.size w'.heap.size w' 3 cN 1 v1 (setsL g a k (k.2.length+1))/\Below w.heap.size w w':=by
 have hgv0:=hgv
 have hav0:=hav
 obtain ⟨A1,n1,c1,A2,n2,c2,rfl⟩:=hgv.shape
 obtain ⟨A3,n3,c3,A4,n4,c4,rfl⟩:=hav.shape
 obtain ⟨A5,c5,rfl,hl5,hm5,hC5⟩:=hkv.form
 obtain ⟨⟨hn1,hn12⟩,⟨hst0,hst1⟩,-,-⟩:=auOk_iff.1 ha
 obtain ⟨s,hs⟩:∃ s:Nat,a.start=(s:Int):=⟨a.start.toNat,by omega⟩
 obtain ⟨RS,hRS⟩:∃ RS,RS=setsL g a k (k.2.length+1):=⟨_,rfl⟩
 rw [<- hRS]
 have hk0:=nodeAt_lt hw (Nat.zero_le _)
 have hk1:k.1=(nodeAt g k 0:Int):=by have h:=hk0.1;injection h
 have HAV:=Hd_ hav0
 rw [hs] at HAV ⊢
 have hb0:Below w.heap.size w (((w.alloc (.cells #[.slice A1 n1 c1,.slice A2 n2 c2] 27)).alloc (.cells #[.int .i64 (s:Int),.slice A3 n3 c3,.slice A4 n4 c4] 31)).alloc (.cells #[.int .i64 k.1,.slice A5 k.2.length c5] 36)):=(((Below.refl _ _).alloc (Nat.le_refl _) _).alloc (by simp) _).alloc (by simp;omega) _
 have hsn:s < a.accept.length:=by omega
 have e1:=shl_bit (s:=s) (by omega)
 have hS1:setsL g a k (0+1)=[bit s]:=by simp [setsL,setAt,hs]
 have hg3:=(walkOk_parts hw).2.2.1
 have HS1:=Hd_ hS1
 have HK1:=Hd_ hk1
 have HRS:=Hd_ hRS
 have HGV:=Hd_ hgv0
 have HC5:=Hd_ hC5
 have HW:=Hd_ hw
 have HA:=Hd_ ha
 have HGO:=Hd_ (walkOk_parts hw).1
 clear hgv hav hkv hgv0 hav0 hC5 hRS hS1 hk1 hk0 hs hst0 hst1 hw ha
 go_enter Tryz.func86,Tryz.ntmps86
 go_wp2_with fail
 obtain ⟨W0,hW0⟩:∃ W0,W0=(((w.alloc (.cells #[.slice A1 n1 c1,.slice A2 n2 c2] 27)).alloc (.cells #[.int .i64 (s:Int),.slice A3 n3 c3,.slice A4 n4 c4] 31)).alloc (.cells #[.int .i64 k.1,.slice A5 k.2.length c5] 36)):=⟨_,rfl⟩
 rw [<- hW0] at hb0 ⊢
 have bx:Blk W0 w.heap.size 27 #[.slice A1 n1 c1,.slice A2 n2 c2]:=by rw [hW0];exact ((Blk.new w _ _ w.heap.size rfl).alloc _).alloc _
 have by_:Blk W0 (w.heap.size+1) 31 #[.int .i64 (s:Int),.slice A3 n3 c3,.slice A4 n4 c4]:=by rw [hW0];exact (Blk.new (w.alloc _) _ _ (w.heap.size+1) (by simp)).alloc _
 have bz:Blk W0 (w.heap.size+1+1) 36 #[.int .i64 k.1,.slice A5 k.2.length c5]:=by rw [hW0];exact Blk.new ((w.alloc _).alloc _) _ _ (w.heap.size+1+1) (by simp)
 have hs0:w.heap.size+1+1+1=W0.heap.size:=by rw [hW0];simp
 have x0:W0.cell? ⟨w.heap.size,0,none⟩=some (.slice A1 n1 c1):=by exact bx.cell 0
 have x1:W0.cell? ⟨w.heap.size,1,none⟩=some (.slice A2 n2 c2):=by exact bx.cell 1
 have y0:W0.cell? ⟨w.heap.size+1,0,none⟩=some (.int .i64 (s:Int)):=by exact by_.cell 0
 have y1:W0.cell? ⟨w.heap.size+1,1,none⟩=some (.slice A3 n3 c3):=by exact by_.cell 1
 have y2:W0.cell? ⟨w.heap.size+1,2,none⟩=some (.slice A4 n4 c4):=by exact by_.cell 2
 have z0:W0.cell? ⟨w.heap.size+1+1,0,none⟩=some (.int .i64 k.1):=by exact bz.cell 0
 have z1:W0.cell? ⟨w.heap.size+1+1,1,none⟩=some (.slice A5 k.2.length c5):=by exact bz.cell 1
 try rw [hs0]
 have l2:=bz.lt
 have l1:=by_.lt
 have l0:=bx.lt
 clear hW0 bx by_ bz hs0
 go_loopw [7,8,9] (fun ss nn ii wr=>∃ i:Nat,i<=k.2.length/\ii=.int .i64 (i:Int)/\nn=.int .i64 (nodeAt g k i:Int)/\wr.ownsRow W0.heap.size 3 1 ss (setsL g a k (i+1)).length ((setsL g a k (i+1)).flatMap cN)/\Below W0.heap.size W0 wr) (fun _ _ ii _=>k.2.length - (intOf ii).toNat)
 case atStart=>exact ⟨0,Nat.zero_le _,rfl,by rw [HK1.out],by rw [HS1.out];exact World.ownsRow_lit W0 #[.int .i64 (bit s:Int)] 1 (Nat.le_refl _) (by decide) rfl,(Below.refl _ _).alloc (Nat.le_refl _) _⟩
 case round =>
  clear HS1 HK1 e1
  obtain ⟨i,hi,rfl,rfl,hrow,hbel⟩:=hrel
  have hbw2:=below_trans hb0 hbel
  have x0:=kcell hbel x0
  have x1:=kcell hbel x1
  have y0:=kcell hbel y0
  have y1:=kcell hbel y1
  have y2:=kcell hbel y2
  have z0:=kcell hbel z0
  have z1:=kcell hbel z1
  have hsz:=hbel.size
  have l0:=Nat.lt_of_lt_of_le l0 hsz
  have l1:=Nat.lt_of_lt_of_le l1 hsz
  have l2:=Nat.lt_of_lt_of_le l2 hsz
  have HROW:=Hd_ hrow
  have HBW2:=Hd_ hbw2
  clear hrow
  by_cases hlt:i < k.2.length
  · obtain ⟨st,e,hst,he,ht,hl,-,hl6⟩:=walk_step HW.out hlt
    obtain ⟨b5,o5,rfl,hb5,p0,p1⟩:=HC5.out.st hst
    have p0:=kcell hbw2 p0
    have p1:=kcell hbw2 p1
    have hb5w:=Nat.lt_of_lt_of_le hb5 hbw2.size
    obtain ⟨hna,hnl⟩:=nodeAt_lt HW.out hi
    have hrow:=HROW.out
    rw [setsL_len] at hrow
    obtain ⟨gS,cS,rfl,hgS,hgS2,-,-⟩:=own_some hrow (by omega)
    have s0:=(World.ownsRow.cellAt hrow i (by omega)).trans (flatN_atS (setsL_at (g:=g) (a:=a) (k:=k) (show i < i+1 by omega)))
    have HSA:=Hd_ (show setAt g a k (i+1)=aft a (setAt g a k i) (valAt g (nodeAt g k i)) (letAt g k i) from rfl)
    have HSN:=Hd_ (setsL_snoc g a k (i+1))
    have hsla:=setAt_lt HA.out k i (g:=g)
    have hsla4:=lt12 HA.out hsla
    have hsal:=setsL_len g a k (i+1)
    obtain ⟨sid,sinv⟩:=st
    simp only at p0 p1
    have HNX:=Hd_ (fun (W:World) (hW:Below w.heap.size w W)=>by
     have h:=l18Next_any _ _ g a (nodeAt g k i) (setAt g a k i) (sid,sinv) e (letAt g k i) W (HGV.out.keep hW) (HAV.out.keep hW) (grOk_iff.2 HGO.out) HA.out hnl hsla he hl
     rw [ht,<- HSA.out] at h
     exact h)
    generalize setAt g a k (i+1)=SJ at *
    generalize setAt g a k i=SI at *
    obtain ⟨NJ,hNJ⟩:∃ NJ,NJ=nodeAt g k (i+1):=⟨_,rfl⟩
    have HNJ:=Hd_ hNJ
    rw [<- hNJ] at HNX
    clear hNJ
    generalize nodeAt g k i=NI at *
    generalize setsL g a k (i+1)=SX at *
    have hki:(i:Int) < (k.2.length:Int):=by omega
    have hii1:(i:Int) < (i:Int)+1:=by omega
    clear hst he ht hl hna hrow hsla
    go_wp2_with fail
    refine wp_region_ext_lit (by kernel_rfl) (by kernel_rfl) ?_
    repeat (go_big_quiet_step ((go_at_call 48;exact Calls.ext_of (HNX.out _ (below_trans HBW2.out (ext_below _ _))))))
    refine wpQuiet_nil ?_
    rintro _ ⟨u2,rfl⟩
    have hbu:=ext_below wr u2
    have HR2:=Hd_ (ownsRow_below HROW.out hbu (Nat.le_refl _))
    have hz2:W0.heap.size<=(ext wr u2).heap.size:=Nat.le_trans hsz hbu.size
    have hbel2:=hbel.trans (hbu.mono hsz)
    rw [hsal] at HR2
    generalize ext wr u2=wx at *
    go_wp2_with (at_builtin;(refine wpList_append1 cN elInt rfl _ _ rfl W0.heap.size _ SX SJ _ 1 _ (by rfl) (by rw [hsal];exact HR2.out) (by rfl) rfl rfl rfl (cN_one _) (by omega) (by omega) (by omega) ?_);intro v' w4 hrow' hb4 _ _)
    go_roundw
    case rel=>exact ⟨i+1,by omega,by go_num,by rw [HNJ.out],by rw [HSN.out];exact hrow',hbel2.trans hb4⟩
    case measure=>simp [intOf];omega
  · obtain rfl:i=k.2.length:=by omega
    have hrow:=HROW.out
    rw [setsL_len] at hrow
    obtain ⟨gS,cS,rfl,hgS,hgS2,-,-⟩:=own_some hrow (by omega)
    have hoS:=Own.of_row (xs:=setsL g a k (k.2.length+1)) (ownsRow_mono (b:=w.heap.size) HROW.out hb0.size) (by rw [setsL_len]) rfl
    rw [<- HRS.out] at hoS
    have HOS:=Hd_ hoS
    clear hrow hoS
    go_wp2_with fail
    go_ret
    exact ⟨_,rfl,HOS.out,HBW2.out⟩
set_option maxHeartbeats 4000000 in
set_option maxRecDepth 100000 in
theorem specMatchesWalk (vg va vk:Value) (g:Gr) (a:Au) (k:Wk) (w:World) (hgv:GrV 0 w.heap.size w vg g) (hav:AuV 0 w.heap.size w va a) (hkv:WkV 0 w.heap.size w vk k) :
 Calls Tryz.prog 54 #[vg,va,vk] w fun e w'=>e=.returned (.bool (matchB g a k))/\Below w.heap.size w w':=by
 have hgv0:=hgv
 have hav0:=hav
 have hkv0:=hkv
 obtain ⟨A1,n1,c1,A2,n2,c2,rfl⟩:=hgv.shape
 obtain ⟨A3,n3,c3,A4,n4,c4,rfl⟩:=hav.shape
 obtain ⟨A5,n5,c5,rfl⟩:=hkv.shape
 have hb0:Below w.heap.size w (((w.alloc (.cells #[.slice A1 n1 c1,.slice A2 n2 c2] 27)).alloc (.cells #[.int .i64 a.start,.slice A3 n3 c3,.slice A4 n4 c4] 31)).alloc (.cells #[.int .i64 k.1,.slice A5 n5 c5] 36)):=(((Below.refl _ _).alloc (Nat.le_refl _) _).alloc (by simp) _).alloc (by simp;omega) _
 obtain ⟨R,hR⟩:∃ R,R=matchB g a k:=⟨_,rfl⟩
 rw [<- hR]
 have HR:=Hd_ hR
 have HGV:=Hd_ hgv0
 have HAV:=Hd_ hav0
 have HKV:=Hd_ hkv0
 clear hgv hav hkv hgv0 hav0 hkv0 hR
 go_enter Tryz.func54,Tryz.ntmps54
 go_wp2_with fail
 obtain ⟨W0,hW0⟩:∃ W0,W0=(((w.alloc (.cells #[.slice A1 n1 c1,.slice A2 n2 c2] 27)).alloc (.cells #[.int .i64 a.start,.slice A3 n3 c3,.slice A4 n4 c4] 31)).alloc (.cells #[.int .i64 k.1,.slice A5 n5 c5] 36)):=⟨_,rfl⟩
 rw [<- hW0] at hb0 ⊢
 have bx:Blk W0 w.heap.size 27 #[.slice A1 n1 c1,.slice A2 n2 c2]:=by rw [hW0];exact ((Blk.new w _ _ w.heap.size rfl).alloc _).alloc _
 have by_:Blk W0 (w.heap.size+1) 31 #[.int .i64 a.start,.slice A3 n3 c3,.slice A4 n4 c4]:=by rw [hW0];exact (Blk.new (w.alloc _) _ _ (w.heap.size+1) (by simp)).alloc _
 have bz:Blk W0 (w.heap.size+1+1) 36 #[.int .i64 k.1,.slice A5 n5 c5]:=by rw [hW0];exact Blk.new ((w.alloc _).alloc _) _ _ (w.heap.size+1+1) (by simp)
 have x0:W0.cell? ⟨w.heap.size,0,none⟩=some (.slice A1 n1 c1):=by exact bx.cell 0
 have x1:W0.cell? ⟨w.heap.size,1,none⟩=some (.slice A2 n2 c2):=by exact bx.cell 1
 have y0:W0.cell? ⟨w.heap.size+1,0,none⟩=some (.int .i64 a.start):=by exact by_.cell 0
 have y1:W0.cell? ⟨w.heap.size+1,1,none⟩=some (.slice A3 n3 c3):=by exact by_.cell 1
 have y2:W0.cell? ⟨w.heap.size+1,2,none⟩=some (.slice A4 n4 c4):=by exact by_.cell 2
 have z0:W0.cell? ⟨w.heap.size+1+1,0,none⟩=some (.int .i64 k.1):=by exact bz.cell 0
 have z1:W0.cell? ⟨w.heap.size+1+1,1,none⟩=some (.slice A5 n5 c5):=by exact bz.cell 1
 have l2:=bz.lt
 have l1:=by_.lt
 have l0:=bx.lt
 clear hW0 bx by_ bz
 have hiw:=specIsWalk _ _ g k W0 (HGV.out.keep hb0) (HKV.out.keep hb0)
 have HIW:=Hd_ hiw
 clear hiw
 cases hw:walkOk g k with
 | false =>
   rw [hw] at HIW
   have hfin:R=false:=by rw [HR.out,matchB,hw];rfl
   subst hfin
   clear HR hw
   refine HIW.out.mono ?_
   rintro e w1 ⟨rfl,hb1⟩
   go_wp2_with fail
   go_ret
   exact ⟨rfl,below_trans hb0 hb1⟩
 | true =>
   rw [hw] at HIW
   refine HIW.out.mono ?_
   rintro e w1 ⟨rfl,hb1⟩
   have hb2:=below_trans hb0 hb1
   have x0:=kcell hb1 x0
   have x1:=kcell hb1 x1
   have y0:=kcell hb1 y0
   have y1:=kcell hb1 y1
   have y2:=kcell hb1 y2
   have z0:=kcell hb1 z0
   have z1:=kcell hb1 z1
   have hs1:=hb1.size
   have l0:=Nat.lt_of_lt_of_le l0 hs1
   have l1:=Nat.lt_of_lt_of_le l1 hs1
   have l2:=Nat.lt_of_lt_of_le l2 hs1
   have hva:=specValidAutomaton _ a w1 (HAV.out.keep hb2)
   have HVA:=Hd_ hva
   clear hva
   cases ha:auOk a with
   | false =>
     rw [ha] at HVA
     have hfin:R=false:=by rw [HR.out,matchB,hw,ha];rfl
     subst hfin
     clear HR hw ha
     go_wp2_with fail
     refine HVA.out.mono ?_
     rintro e w3 ⟨rfl,hb3⟩
     go_wp2_with fail
     go_ret
     exact ⟨rfl,below_trans hb2 hb3⟩
   | true =>
     rw [ha] at HVA
     have hfin:R=acc a (setAt g a k k.2.length) (valAt g (nodeAt g k k.2.length)):=by rw [HR.out,matchB,hw,ha];simp
     have hl60:=(walkOk_parts hw).2.2.1
     have hgo:=(walkOk_parts hw).1
     obtain ⟨hna,hnl⟩:=nodeAt_lt hw (Nat.le_refl _)
     have hsla:=setAt_lt ha k k.2.length (g:=g)
     have HLA:=Hd_ (fun (W:World) (hW:Below w.heap.size w W)=>l18Along_any _ _ _ g a k W (HGV.out.keep hW) (HAV.out.keep hW) (HKV.out.keep hW) hw ha)
     have HWE:=Hd_ (fun (W:World) (hW:Below w.heap.size w W)=>by
      have h:=specWalkEnd _ _ g k W (HGV.out.keep hW) (HKV.out.keep hW)
      rw [walkEnd,if_pos hw] at h
      exact h)
     have HLE:=Hd_ (fun (W:World) (hW:Below w.heap.size w W)=>l18Ends_any _ _ g a (nodeAt g k k.2.length) (setAt g a k k.2.length) W (HGV.out.keep hW) (HAV.out.keep hW) (grOk_iff.2 hgo) ha hnl hsla)
     rw [<- hfin] at HLE
     have hs1:=setsL_at (g:=g) (a:=a) (k:=k) (show k.2.length < k.2.length+1 by omega)
     have HS1:=Hd_ hs1
     clear HR hfin hw ha hna hnl hsla hgo hs1
     go_wp2_with fail
     refine HVA.out.mono ?_
     rintro e w3 ⟨rfl,hb3⟩
     have hb4:=below_trans hb2 hb3
     have x0:=kcell hb3 x0
     have x1:=kcell hb3 x1
     have y0:=kcell hb3 y0
     have y1:=kcell hb3 y1
     have y2:=kcell hb3 y2
     have z0:=kcell hb3 z0
     have z1:=kcell hb3 z1
     have hs3:=hb3.size
     have l0:=Nat.lt_of_lt_of_le l0 hs3
     have l1:=Nat.lt_of_lt_of_le l1 hs3
     have l2:=Nat.lt_of_lt_of_le l2 hs3
     go_wp2_with fail
     refine (HLA.out _ hb4).mono ?_
     rintro e w5 ⟨v1,rfl,ho1,hb5⟩
     have HB:=Hd_ (below_trans hb4 hb5)
     have x0:=kcell hb5 x0
     have x1:=kcell hb5 x1
     have y0:=kcell hb5 y0
     have y1:=kcell hb5 y1
     have y2:=kcell hb5 y2
     have z0:=kcell hb5 z0
     have z1:=kcell hb5 z1
     have hs5:=hb5.size
     have l0:=Nat.lt_of_lt_of_le l0 hs5
     have l1:=Nat.lt_of_lt_of_le l1 hs5
     have l2:=Nat.lt_of_lt_of_le l2 hs5
     have r1:=ho1.1
     rw [setsL_len] at r1
     obtain ⟨gS,cS,rfl,-,hgS,-,-⟩:=own_some r1 (by omega)
     have s0:=(World.ownsRow.cellAt r1 k.2.length (by omega)).trans (flatN_atS HS1.out)
     have m1:((k.2.length:Int)+1) - 1=(k.2.length:Int):=by omega
     generalize setAt g a k k.2.length=SI at *
     generalize nodeAt g k k.2.length=NI at *
     clear r1 ho1 hb0 hb1 hb2 hb3 hb4 hb5
     go_wp2_with fail
     refine wp_region_ext_lit (by kernel_rfl) (by kernel_rfl) ?_
     repeat (go_big_quiet_step ((first | (go_at_call 55;exact Calls.ext_of (HWE.out _ (below_trans HB.out (ext_below _ _)))) | (go_at_call 72;exact Calls.ext_of (HLE.out _ (below_trans HB.out (ext_below _ _)))))))
     refine wpQuiet_nil ?_
     rintro _ ⟨u2,rfl⟩
     go_wp2_with fail
     go_ret
     exact ⟨rfl,below_trans HB.out (ext_below _ _)⟩
theorem isWit_spec (g:Gr) (a:Au) (x y:Int) (k:Wk):isWit g a x y k=((matchB g a k && k.1==x) && walkEnd g k==y):=by
 unfold isWit
 cases matchB g a k <;> cases (k.1==x) <;> simp
set_option maxHeartbeats 4000000 in
theorem specIsWitness (vg va vk:Value) (g:Gr) (a:Au) (x y:Int) (k:Wk) (w:World) (hgv:GrV 0 w.heap.size w vg g) (hav:AuV 0 w.heap.size w va a) (hkv:WkV 0 w.heap.size w vk k) :
 Calls Tryz.prog 22 #[vg,va,.int .i64 x,.int .i64 y,vk] w fun e w'=>e=.returned (.bool (isWit g a x y k))/\Below w.heap.size w w':=by
 have hgv0:=hgv
 have hav0:=hav
 have hkv0:=hkv
 obtain ⟨A1,n1,c1,A2,n2,c2,rfl⟩:=hgv.shape
 obtain ⟨A3,n3,c3,A4,n4,c4,rfl⟩:=hav.shape
 obtain ⟨A5,n5,c5,rfl⟩:=hkv.shape
 have hb0:Below w.heap.size w (((w.alloc (.cells #[.slice A1 n1 c1,.slice A2 n2 c2] 27)).alloc (.cells #[.int .i64 a.start,.slice A3 n3 c3,.slice A4 n4 c4] 31)).alloc (.cells #[.int .i64 k.1,.slice A5 n5 c5] 36)):=(((Below.refl _ _).alloc (Nat.le_refl _) _).alloc (by simp) _).alloc (by simp;omega) _
 obtain ⟨R,hR⟩:∃ R,R=isWit g a x y k:=⟨_,rfl⟩
 rw [<- hR]
 have HR:=Hd_ (hR.trans (isWit_spec g a x y k))
 have HGV:=Hd_ hgv0
 have HAV:=Hd_ hav0
 have HKV:=Hd_ hkv0
 clear hgv hav hkv hgv0 hav0 hkv0 hR
 have HMW:=Hd_ (fun (W:World) (hW:Below w.heap.size w W)=>specMatchesWalk _ _ _ g a k W (HGV.out.keep hW) (HAV.out.keep hW) (HKV.out.keep hW))
 have HWE:=Hd_ (fun (W:World) (hW:Below w.heap.size w W)=>specWalkEnd _ _ g k W (HGV.out.keep hW) (HKV.out.keep hW))
 go_enter Tryz.func22,Tryz.ntmps22
 generalize walkEnd g k=we at HR HWE
 go_wp2_with fail
 obtain ⟨W0,hW0⟩:∃ W0,W0=(((w.alloc (.cells #[.slice A1 n1 c1,.slice A2 n2 c2] 27)).alloc (.cells #[.int .i64 a.start,.slice A3 n3 c3,.slice A4 n4 c4] 31)).alloc (.cells #[.int .i64 k.1,.slice A5 n5 c5] 36)):=⟨_,rfl⟩
 rw [<- hW0] at hb0 ⊢
 have bx:Blk W0 w.heap.size 27 #[.slice A1 n1 c1,.slice A2 n2 c2]:=by rw [hW0];exact ((Blk.new w _ _ w.heap.size rfl).alloc _).alloc _
 have by_:Blk W0 (w.heap.size+1) 31 #[.int .i64 a.start,.slice A3 n3 c3,.slice A4 n4 c4]:=by rw [hW0];exact (Blk.new (w.alloc _) _ _ (w.heap.size+1) (by simp)).alloc _
 have bz:Blk W0 (w.heap.size+1+1) 36 #[.int .i64 k.1,.slice A5 n5 c5]:=by rw [hW0];exact Blk.new ((w.alloc _).alloc _) _ _ (w.heap.size+1+1) (by simp)
 have x0:W0.cell? ⟨w.heap.size,0,none⟩=some (.slice A1 n1 c1):=by exact bx.cell 0
 have x1:W0.cell? ⟨w.heap.size,1,none⟩=some (.slice A2 n2 c2):=by exact bx.cell 1
 have y0:W0.cell? ⟨w.heap.size+1,0,none⟩=some (.int .i64 a.start):=by exact by_.cell 0
 have y1:W0.cell? ⟨w.heap.size+1,1,none⟩=some (.slice A3 n3 c3):=by exact by_.cell 1
 have y2:W0.cell? ⟨w.heap.size+1,2,none⟩=some (.slice A4 n4 c4):=by exact by_.cell 2
 have z0:W0.cell? ⟨w.heap.size+1+1,0,none⟩=some (.int .i64 k.1):=by exact bz.cell 0
 have z1:W0.cell? ⟨w.heap.size+1+1,1,none⟩=some (.slice A5 n5 c5):=by exact bz.cell 1
 clear hW0 bx by_ bz
 refine (HMW.out W0 hb0).mono ?_
 rintro e w1 ⟨rfl,hb1⟩
 have hb2:=below_trans hb0 hb1
 have x0:=kcell hb1 x0
 have x1:=kcell hb1 x1
 have y0:=kcell hb1 y0
 have y1:=kcell hb1 y1
 have y2:=kcell hb1 y2
 have z0:=kcell hb1 z0
 have z1:=kcell hb1 z1
 cases h0:matchB g a k with
 | false =>
   have hfin:R=false:=by rw [HR.out,h0];rfl
   subst hfin
   clear HR
   go_wp2_with fail
   go_ret
   exact ⟨rfl,hb2⟩
 | true =>
   rw [h0,Bool.true_and] at HR
   cases h1:(k.1==x) with
   | false =>
     have hfin:R=false:=by rw [HR.out,h1];rfl
     subst hfin
     clear HR
     go_wp2_with fail
     go_ret
     exact ⟨rfl,hb2⟩
   | true =>
     rw [h1,Bool.true_and] at HR
     cases h2:(we==y) with
     | false =>
       have hfin:R=false:=by rw [HR.out,h2]
       subst hfin
       clear HR
       go_wp2_with fail
       refine (HWE.out w1 hb2).mono ?_
       rintro e w3 ⟨rfl,hb3⟩
       go_wp2_with fail
       go_ret
       exact ⟨rfl,below_trans hb2 hb3⟩
     | true =>
       have hfin:R=true:=by rw [HR.out,h2]
       subst hfin
       clear HR
       go_wp2_with fail
       refine (HWE.out w1 hb2).mono ?_
       rintro e w3 ⟨rfl,hb3⟩
       go_wp2_with fail
       go_ret
       exact ⟨rfl,below_trans hb2 hb3⟩
end Go.Proofs.YtcnenpjaoalmeaaGreat
namespace Go.Proofs.YtcnenpjaoalmeaaGreat
open Go.ChangeShapes Go.WideShapes Go.ChangeAt Go.RowKit
def cntC (g:Gr) (a:Au) (rec:Nat->Nat->Nat->Int) (x s used:Nat) (n:Int) (p:Arc):Int :=
 if aft a s (valAt g x) p.2.1.toNat=0 ∨ used.testBit p.2.2.toNat=true then n
 else wrap64 (n+rec p.2.2.toNat (aft a s (valAt g x) p.2.1.toNat) (ins used p.2.2.toNat))
def cnt0 (g:Gr) (a:Au) (y:Int) (x s:Nat):Int:=if decide ((x:Int)=y) && acc a s (valAt g x) then 1 else 0
def cnt (g:Gr) (a:Au) (y:Int):Nat->Nat->Nat->Nat->Int
 | 0,_,_,_=>0
 | f+1,x,s,used=>(arcsOf g (x:Int)).foldl (cntC g a (cnt g a y f) x s used) (cnt0 g a y x s)
theorem arc_stepEd {g:Gr} (hgo:grOk g=true) {x:Int} {p:Arc} (hp:p ∈ arcsOf g x):∃ e:Ed,stepEd g p.1.1=some e/\arcLetter p.1.2 e=p.2.1/\arcTo p.1.2 e=p.2.2:=by
 have hg:=grOk_iff.1 hgo
 obtain ⟨i,e,hi,hie,hl,ht,hid,hm⟩:=arc_edge hg hp
 cases hs:stepEd g p.1.1 with
 | none =>
   rw [stepEd,if_pos hgo,List.find?_eq_none] at hs
   exact absurd (hs e hm) (by simp [hid])
 | some e2 =>
   obtain ⟨ix,h1,h2⟩:=stepEd_idx hs
   have:ix=i:=by omega
   subst this
   rw [hie] at h2
   injection h2 with h2
   subst h2
   exact ⟨e,rfl,hl.symm,ht.symm⟩
def cntOk (g:Gr) (a:Au) (x y:Int):Bool:=wi x 0 ((g.vals.length:Int) - 1) && (wi y 0 ((g.vals.length:Int) - 1) && (grOk g && auOk a))
end Go.Proofs.YtcnenpjaoalmeaaGreat
