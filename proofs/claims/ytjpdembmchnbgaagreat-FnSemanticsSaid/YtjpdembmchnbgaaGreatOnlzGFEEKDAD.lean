/- Parts of the proof, joined into one text: SrtD, SrtE, WalkM, MatchM, StepI, NodesI, NodesS, Ends, WalkS, AlongS, CntM, SrchM, CwM, NthM, ImgM, LayM, WalksM, LstM, RnkM, CmpM, WitQ. -/
import Derived.Test.YtjpdembmchnbgaaGreatOnlzBGBMJIIM
import Derived.Test.YtjpdembmchnbgaaGreatOnlzGDHJDCMK
import Derived.Test.YtjpdembmchnbgaaGreatOnlzBJPCHMFC
import Derived.RegionTactic
import Derived.BigRegion
import Derived.Test.YtjpdembmchnbgaaGreatOnlzOBDJDCGC
import Derived.Test.YtjpdembmchnbgaaGreatOnlzFDEBOKAL
import Derived.Test.YtjpdembmchnbgaaGreatOnlzCIIIGEOP
set_option linter.unusedVariables false
set_option linter.unusedSimpArgs false
namespace Go.Proofs.YtjpdembmchnbgaaGreat
open Go.ChangeShapes Go.WideShapes Go.ChangeAt Go.RowKit
attribute [local go_sem] ext_cell ext_frozen ext_lt ext_lt1 ext_lt2 ext_lt3 ltn2 ltn3 ltn13 lts1 lts2 lts3
theorem slTake {α:Type} {lo hi:Nat} {w:World} {E:α->List Value} {k n c m:Nat} {A:Option Addr} {xs:List α} (h:SlI lo hi w E k (.slice A n c) xs) (hm:m<=n):SlI lo hi w E k (.slice A m c) (xs.take m):=by
 obtain ⟨A',c',hv,hl,hc,hx⟩:=h
 injection hv with h1 h2 h3
 subst h1 h3 h2
 refine ⟨_,c,by rw [List.length_take,Nat.min_eq_left hm],by rw [List.length_take];omega,hc,fun i x hi=>hx i x ?_⟩
 rw [List.getElem?_take] at hi
 split at hi
 · exact hi
 · cases hi
/-- the graph with its first edges alone -/
def Gr.cutE (g:Gr) (m:Nat):Gr:=⟨g.vals,g.edges.take m⟩
theorem GrV.cutE {lo hi:Nat} {w:World} {vs:Value} {A:Option Addr} {n c m:Nat} {g:Gr} (h:GrV lo hi w (.agg #[vs,.slice A n c]) g) (hm:m<=n):GrV lo hi w (.agg #[vs,.slice A m c]) (g.cutE m):=by
 obtain ⟨vs',es,hv,h1,h2⟩:=h
 simp only [Value.agg.injEq,Array.mk.injEq,List.cons.injEq,and_true] at hv
 obtain ⟨rfl,rfl⟩:=hv
 exact ⟨_,_,rfl,h1,slTake h2 hm⟩
/-- a graph in the block gq, an automaton in aq, the cursor in b; the results' blocks r and r + 1; the automaton's rows lie above gq -/
structure GbR (b r gq aq:Nat) (w0 w:World) (gs es:Value) (g:Gr) (ac nx:Value) (a:Au):Prop where
 res1:Blk w r 27 #[.slice none 0 0,.slice none 0 0]
 res2:Blk w (r+1) 31 #[.int .i64 0,.slice none 0 0,.slice none 0 0]
 gbk:Blk w gq 27 #[gs,es]
 abk:Blk w aq 31 #[.int .i64 a.start,ac,nx]
 gv:GrV (b+1) gq w (.agg #[gs,es]) g
 av:∃ lo hi,AuV lo hi w (.agg #[.int .i64 a.start,ac,nx]) a/\gq < lo/\hi<=w.heap.size/\(aq < lo ∨ hi<=aq)
 cur:Cur w b
 bel:Below w0.heap.size w0 w
 at0:w0.heap.size=r
 e11:g.edges.length<=11
 ord:r+1 < b/\b < gq/\gq < aq
section
variable {b r gq aq:Nat} {w0 w w':World} {gs es:Value} {g:Gr} {ac nx:Value} {a:Au}
theorem GbR.step (h:GbR b r gq aq w0 w gs es g ac nx a) (ho:Only b (b+1) w w') (hc:Cur w' b):GbR b r gq aq w0 w' gs es g ac nx a:=by
 have hd:=h.ord
 have hq:=h.abk.lt
 have h0:=h.at0
 obtain ⟨lo,hi,k1,k2,k3,k4⟩:=h.av
 exact ⟨h.res1.only ho (.inl (by omega)),h.res2.only ho (.inl (by omega)),h.gbk.only ho (.inr (by omega)),h.abk.only ho (.inr (by omega)),h.gv.only ho (by omega) (.inr (by omega)),⟨lo,hi,k1.only ho k3 (.inr (by omega)),k2,Nat.le_trans k3 ho.size,k4⟩,hc,h.bel.trans (ho.below (B:=w0.heap.size) (by omega) h.bel.size),h.at0,h.e11,hd⟩
theorem GbR.keep (h:GbR b r gq aq w0 w gs es g ac nx a) (hb:Below w.heap.size w w'):GbR b r gq aq w0 w' gs es g ac nx a:=by
 have hd:=h.ord
 have hq:=h.abk.lt
 obtain ⟨lo,hi,k1,k2,k3,k4⟩:=h.av
 exact ⟨h.res1.keep hb,h.res2.keep hb,h.gbk.keep hb,h.abk.keep hb,h.gv.below hb (by omega),⟨lo,hi,k1.below hb k3,k2,Nat.le_trans k3 hb.size,k4⟩,h.cur.keep hb,below_trans h.bel hb,h.at0,h.e11,hd⟩
theorem GbR.drew (h:GbR b r gq aq w0 w gs es g ac nx a):GbR b r gq aq w0 w.drew gs es g ac nx a:=h.keep (Below.refl w.heap.size w).drew
theorem GbR.setA {ac' nx':Value} {a':Au} {lo:Nat} (h:GbR b r gq aq w0 w gs es g ac nx a) (ha:AuV lo w.heap.size w (.agg #[.int .i64 a'.start,ac',nx']) a') (hlo:aq < lo):GbR b r gq aq w0 (put3 w aq (.int .i64 a'.start) ac' nx') gs es g ac' nx' a':=by
 have hd:=h.ord
 have h0:=h.at0
 have hq:=h.abk.lt
 have ho:=put3_only w aq (.int .i64 a'.start) ac' nx'
 exact ⟨h.res1.only ho (.inl (by omega)),h.res2.only ho (.inl (by omega)),h.gbk.only ho (.inl (by omega)),((h.abk.set_ 0 (.int .i64 a'.start)).set_ 1 ac').set_ 2 nx',h.gv.only ho (by omega) (.inl (by omega)),⟨lo,w.heap.size,ha.only ho (Nat.le_refl _) (.inr (by omega)),by omega,ho.size,.inl (by omega)⟩,h.cur.only ho (by omega),
  h.bel.trans (ho.below (B:=w0.heap.size) (by omega) h.bel.size),h.at0,h.e11,hd⟩
theorem GbR.grv (h:GbR b r gq aq w0 w gs es g ac nx a):GrV 0 w.heap.size w (.agg #[gs,es]) g:=h.gv.mono (Nat.zero_le _) (by have:=h.ord;have:=h.abk.lt;omega)
theorem GbR.auv (h:GbR b r gq aq w0 w gs es g ac nx a):AuV 0 w.heap.size w (.agg #[.int .i64 a.start,ac,nx]) a:=by
 obtain ⟨lo,hi,k1,k2,k3,k4⟩:=h.av
 exact k1.mono (Nat.zero_le _) k3
theorem GbR.fin (h:GbR b r gq aq w0 w gs es g ac nx a) (ho:Only r (r+2) w w') :
 w0.heap.size<=b/\GrV (b+1) w'.heap.size w' (.agg #[gs,es]) g/\g.edges.length<=11/\AuV (b+1) w'.heap.size w' (.agg #[.int .i64 a.start,ac,nx]) a/\Cur w' b/\Below w0.heap.size w0 w':=by
 have hd:=h.ord
 have h0:=h.at0
 have hq:=h.abk.lt
 have hs:=ho.size
 obtain ⟨lo,hi,k1,k2,k3,k4⟩:=h.av
 refine ⟨by omega,(h.gv.only ho (by omega) (.inr (by omega))).mono (Nat.le_refl _) (by omega),h.e11,(k1.only ho k3 (.inr (by omega))).mono (by omega) (by omega),h.cur.off ho (by omega) (fun q h1 h2 o x=>?_),h.bel.trans (ho.below (B:=w0.heap.size) (by omega) h.bel.size)⟩
 obtain rfl | rfl:q=r ∨ q=r+1:=by omega
 · rw [h.res1.cell]
   rcases o with _ | _ | o <;> simp
 · rw [h.res2.cell]
   rcases o with _ | _ | _ | o <;> simp
theorem GbR.blks (h:GbR b r gq aq w0 w gs es g ac nx a) (ho:Only r (r+2) w w'):Blk w' gq 27 #[gs,es]/\Blk w' aq 31 #[.int .i64 a.start,ac,nx]:=by
 have hd:=h.ord
 exact ⟨h.gbk.only ho (.inr (by omega)),h.abk.only ho (.inr (by omega))⟩
theorem GbR.put (h:GbR b r gq aq w0 w gs es g ac nx a) (v1 v2:Value) :
 Only r (r+2) w ((w.setCell ⟨r,0,none⟩ v1).setCell ⟨r,1,none⟩ v2)/\Blk ((w.setCell ⟨r,0,none⟩ v1).setCell ⟨r,1,none⟩ v2) (r+1) 31 #[.int .i64 0,.slice none 0 0,.slice none 0 0]:=by
 have ho:=Only.put2 w r v1 v2
 exact ⟨((Only.refl r (r+2) w).setCell (p:=⟨r,0,none⟩) (.inl (by simp only;omega)) _).setCell (p:=⟨r,1,none⟩) (.inl (by simp only;omega)) _,h.res2.only ho (.inr (by omega))⟩
theorem GbR.fin0 (h:GbR b r gq aq w0 w gs es g ac nx a) (ho:Only r (r+2) w w') :
 GrV 0 w'.heap.size w' (.agg #[gs,es]) g/\g.edges.length<=11/\AuV 0 w'.heap.size w' (.agg #[.int .i64 a.start,ac,nx]) a/\Below w0.heap.size w0 w':=by
 obtain ⟨-,h1,h2,h3,-,h4⟩:=h.fin ho
 exact ⟨h1.mono (Nat.zero_le _) (Nat.le_refl _),h2,h3.mono (Nat.zero_le _) (Nat.le_refl _),h4⟩
end
def CutGOut (b:Nat) (w:World) (e:Ending) (w':World):Prop:=∃ v g,e=.returned v/\(GrV w.heap.size w'.heap.size w' v g/\g.edges.length<=11/\Cur w' b/\Only b (b+1) w w')
theorem cutG_done {b r:Nat} {w0 w:World} {d0 d1:Value} {g:Gr} {lo hi:Nat} (hg:GrV lo hi w (.agg #[d0,d1]) g) (h1:r < lo) (h2:hi<=w.heap.size) (hc:Cur w b) (hb:b < r) (ho:Only b (b+1) w0 w) (h0:w0.heap.size=r) (he:g.edges.length<=11) :
 GrV w0.heap.size ((w.setCell ⟨r,0,none⟩ d0).setCell ⟨r,1,none⟩ d1).heap.size ((w.setCell ⟨r,0,none⟩ d0).setCell ⟨r,1,none⟩ d1) (.agg #[d0,d1]) g/\g.edges.length<=11/\Cur ((w.setCell ⟨r,0,none⟩ d0).setCell ⟨r,1,none⟩ d1) b/\Only b (b+1) w0 ((w.setCell ⟨r,0,none⟩ d0).setCell ⟨r,1,none⟩ d1):=by
 have hp:=Only.put2 w r d0 d1
 have hs:=hp.size
 exact ⟨(hg.only hp h2 (.inr (by omega))).mono (by omega) (by omega),he,hc.only hp (by omega),(ho.setCell (p:=⟨r,0,none⟩) (.inr (by simp only;omega)) _).setCell (p:=⟨r,1,none⟩) (.inr (by simp only;omega)) _⟩
set_option maxHeartbeats 4000000 in
theorem l20Graph_any (b m:Nat) (mi:Int) (w:World) (hc:Cur w b) (hmi:mi=(m:Int)) (hm:m<=100) :
 Calls Tryz.prog 85 #[.pointer (some ⟨b,0,none⟩),.int .i64 mi] w (CutGOut b w):=by
 subst hmi
 have hbw:=hc.lt
 have hb0:=(Below.refl w.heap.size w).alloc (Nat.le_refl _) (.cells #[.slice none 0 0,.slice none 0 0] 27)
 have hbr:=Blk.new w 27 #[.slice none 0 0,.slice none 0 0] _ rfl
 have hs0:(w.alloc (.cells #[.slice none 0 0,.slice none 0 0] 27)).heap.size=w.heap.size+1:=by simp
 go_enter Tryz.func85,Tryz.ntmps85
 go_wp2_with fail
 refine (l3Graph_any b _ (hc.keep hb0)).mono ?_
 rintro e w1 ⟨v,g,rfl,hgo,⟨-,-,hg10⟩,hc1,ho1⟩
 have hgv:=hgo.view
 obtain ⟨A1,n1,c1,A2,n2,c2,rfl⟩:=hgv.shape
 rw [hs0] at hgv
 have hs1:=ho1.size
 rw [hs0] at hs1
 have hal:=(Below.refl w1.heap.size w1).alloc (Nat.le_refl _) (.cells #[.slice A1 n1 c1,.slice A2 n2 c2] 27)
 have hgb:=Blk.new w1 27 #[.slice A1 n1 c1,.slice A2 n2 c2] _ rfl
 have HR:=Hd_ ((hbr.only ho1 (.inr (by omega))).keep hal)
 have HGV:=Hd_ (hgv.below hal (Nat.le_refl _))
 have HC:=Hd_ (hc1.keep hal)
 have HO:=Hd_ (((Only.of_below hb0 b (b+1)).trans ho1).trans (Only.of_below hal b (b+1)))
 have hn:n2<=c2/\c2<=maxLen/\(0 < n2->∃ q o,A2=some ⟨q,o,none⟩):=by
  obtain ⟨vs,es,hv,-,⟨A',c',rfl,hl,hm',hx⟩⟩:=hgv
  simp only [Value.agg.injEq,Array.mk.injEq,List.cons.injEq,and_true,Value.slice.injEq] at hv
  obtain ⟨-,rfl,rfl,rfl⟩:=hv
  refine ⟨hl,hm',fun h=>?_⟩
  obtain ⟨q,o,hA,-⟩:=hx 0 _ (List.getElem?_eq_getElem h)
  exact ⟨q,o,hA⟩
 obtain ⟨hn2c,hc2m,hA2⟩:=hn
 unfold maxLen at hc2m
 obtain ⟨gq,hgq⟩:∃ gq,gq=w1.heap.size:=⟨_,rfl⟩
 rw [<- hgq] at hgb hs1 HGV
 have hlt:b < gq:=by omega
 clear hgo hgv hc1 ho1 hbr hb0 hs0 hc hal
 go_upto_region 2 with fail
 rw [<- hgq]
 generalize w1.alloc (.cells #[.slice A1 n1 c1,.slice A2 n2 c2] 27)=W1 at *
 clear hgq
 have hgl:=hgb.lt
 by_cases hmn:m < n2
 · obtain ⟨q,o,rfl⟩:=hA2 (by omega)
   have hde:((m:Int) < (n2:Int)):=by omega
   have x0:W1.cell? ⟨gq,0,none⟩=some (.slice A1 n1 c1):=hgb.cell 0
   have x1:W1.cell? ⟨gq,1,none⟩=some (.slice (some ⟨q,o,none⟩) n2 c2):=hgb.cell 1
   have f1:=hgb.frozen 1
   have hmc:m<=c2:=by omega
   go_upto_region 4 with fail
   have hbl:=hgb.set_ 1 (.slice (some ⟨q,o,none⟩) m c2)
   have ho2:Only gq (gq+1) W1 (W1.setCell ⟨gq,1,none⟩ (.slice (some ⟨q,o,none⟩) m c2)):=(Only.refl _ _ _).setCell (p:=⟨gq,1,none⟩) (.inl ⟨Nat.le_refl _,Nat.lt_succ_self _⟩) _
   have hgv2:=(HGV.out.cutE (m:=m) (by omega)).only ho2 (by omega) (.inl (Nat.le_refl _))
   have hc2:=HC.out.only ho2 hlt
   have hO2:=HO.out.setCell (p:=⟨gq,1,none⟩) (.inr (by simp only;omega)) (.slice (some ⟨q,o,none⟩) m c2)
   have hr2:=HR.out.only ho2 (.inl (by omega))
   clear ho2 x0 x1 f1 HGV HC HO HR hgb
   generalize W1.setCell ⟨gq,1,none⟩ (.slice (some ⟨q,o,none⟩) m c2)=W2 at *
   have x0:W2.cell? ⟨gq,0,none⟩=some (.slice A1 n1 c1):=hbl.cell 0
   have x1:W2.cell? ⟨gq,1,none⟩=some (.slice (some ⟨q,o,none⟩) m c2):=hbl.cell 1
   have z0:W2.cell? ⟨w.heap.size,0,none⟩=some (.slice none 0 0):=hr2.cell 0
   have z1:W2.cell? ⟨w.heap.size,1,none⟩=some (.slice none 0 0):=hr2.cell 1
   have v0:=hr2.frozen 0
   have v1:=hr2.frozen 1
   have hlr:=hr2.lt
   have hgl2:=hbl.lt
   have HD:=Hd_ (cutG_done (r:=w.heap.size) hgv2 (Nat.lt_succ_self _) (by omega) hc2 hbw hO2 rfl (by simp only [Gr.cutE,List.length_take];omega))
   clear hgv2 hc2 hO2 hr2 hbl
   go_wp2_with fail
   exact bodyPost_ret (v:=.agg #[.slice A1 n1 c1,.slice (some ⟨q,o,none⟩) m c2]) (by simp [results,Tryz.results85,go_sem,z0,z1,v0,v1]) rfl ⟨_,_,rfl,HD.out⟩
 · have hde:¬ ((m:Int) < (n2:Int)):=by omega
   have x0:W1.cell? ⟨gq,0,none⟩=some (.slice A1 n1 c1):=hgb.cell 0
   have x1:W1.cell? ⟨gq,1,none⟩=some (.slice A2 n2 c2):=hgb.cell 1
   have z0:W1.cell? ⟨w.heap.size,0,none⟩=some (.slice none 0 0):=HR.out.cell 0
   have z1:W1.cell? ⟨w.heap.size,1,none⟩=some (.slice none 0 0):=HR.out.cell 1
   have v0:=HR.out.frozen 0
   have v1:=HR.out.frozen 1
   have hlr:=HR.out.lt
   go_wp2_with fail
   have HD:=cutG_done (r:=w.heap.size) HGV.out (Nat.lt_succ_self _) (by omega) HC.out hbw HO.out rfl (by omega)
   exact bodyPost_ret (v:=.agg #[.slice A1 n1 c1,.slice A2 n2 c2]) (by simp [results,Tryz.results85,go_sem,z0,z1,v0,v1]) rfl ⟨_,g,rfl,HD⟩
/-- a graph in the block gq, the cursor in b; the results' blocks r and r + 1 -/
structure GoR (b r gq:Nat) (w0 w:World) (gs es:Value) (g:Gr):Prop where
 res1:Blk w r 27 #[.slice none 0 0,.slice none 0 0]
 res2:Blk w (r+1) 31 #[.int .i64 0,.slice none 0 0,.slice none 0 0]
 gbk:Blk w gq 27 #[gs,es]
 gv:GrV (b+1) gq w (.agg #[gs,es]) g
 cur:Cur w b
 bel:Below w0.heap.size w0 w
 at0:w0.heap.size=r
 e11:g.edges.length<=11
 ord:r+1 < b/\b < gq
section
variable {b r gq:Nat} {w0 w w':World} {gs es:Value} {g:Gr}
theorem GoR.step (h:GoR b r gq w0 w gs es g) (ho:Only b (b+1) w w') (hc:Cur w' b):GoR b r gq w0 w' gs es g:=by
 have hd:=h.ord
 have hq:=h.gbk.lt
 have h0:=h.at0
 exact ⟨h.res1.only ho (.inl (by omega)),h.res2.only ho (.inl (by omega)),h.gbk.only ho (.inr (by omega)),h.gv.only ho (by omega) (.inr (by omega)),hc,h.bel.trans (ho.below (B:=w0.heap.size) (by omega) h.bel.size),h.at0,h.e11,hd⟩
theorem GoR.keep (h:GoR b r gq w0 w gs es g) (hb:Below w.heap.size w w'):GoR b r gq w0 w' gs es g:=by
 have hd:=h.ord
 have hq:=h.gbk.lt
 exact ⟨h.res1.keep hb,h.res2.keep hb,h.gbk.keep hb,h.gv.below hb (by omega),h.cur.keep hb,below_trans h.bel hb,h.at0,h.e11,hd⟩
theorem GoR.drew (h:GoR b r gq w0 w gs es g):GoR b r gq w0 w.drew gs es g:=h.keep (Below.refl w.heap.size w).drew
theorem GoR.put (h:GoR b r gq w0 w gs es g) (v1 v2:Value) :
 Only r (r+2) w ((w.setCell ⟨r,0,none⟩ v1).setCell ⟨r,1,none⟩ v2)/\Blk ((w.setCell ⟨r,0,none⟩ v1).setCell ⟨r,1,none⟩ v2) (r+1) 31 #[.int .i64 0,.slice none 0 0,.slice none 0 0]:=by
 have ho:=Only.put2 w r v1 v2
 exact ⟨((Only.refl r (r+2) w).setCell (p:=⟨r,0,none⟩) (.inl (by simp only;omega)) _).setCell (p:=⟨r,1,none⟩) (.inl (by simp only;omega)) _,h.res2.only ho (.inr (by omega))⟩
theorem GoR.gb (h:GoR b r gq w0 w gs es g) (ho:Only r (r+2) w w'):Blk w' gq 27 #[gs,es]:=by
 have hd:=h.ord
 exact h.gbk.only ho (.inr (by omega))
theorem GoR.fin {lo:Nat} {va:Value} {a:Au} (h:GoR b r gq w0 w gs es g) (hv:AuV lo w.heap.size w va a) (hlo:gq < lo) (ho:Only r (r+2) w w') :
 GrV 0 w'.heap.size w' (.agg #[gs,es]) g/\g.edges.length<=11/\AuV 0 w'.heap.size w' va a/\Below w0.heap.size w0 w':=by
 have hd:=h.ord
 have h0:=h.at0
 have hq:=h.gbk.lt
 have hs:=ho.size
 exact ⟨(h.gv.only ho (by omega) (.inr (by omega))).mono (Nat.zero_le _) (by omega),h.e11,(hv.only ho (Nat.le_refl _) (.inr (by omega))).mono (Nat.zero_le _) hs,h.bel.trans (ho.below (B:=w0.heap.size) (by omega) h.bel.size)⟩
end
def SemOut (w:World) (e:Ending) (w':World):Prop:=∃ vg va g a,e=.returned (.tuple #[vg,va])/\(GrV 0 w'.heap.size w' vg g/\g.edges.length<=11/\AuV 0 w'.heap.size w' va a/\Below w.heap.size w w')
def TraOut (w:World) (e:Ending) (w':World):Prop:=∃ vg va g a B,e=.returned (.tuple #[vg,va,.int .i64 B])/\(GrV 0 w'.heap.size w' vg g/\g.edges.length<=11/\AuV 0 w'.heap.size w' va a/\Below w.heap.size w w')
set_option maxHeartbeats 8000000 in
theorem drawSemanticsGap_any (v:Value) (bs:List Int) (w:World) (hv:SlI 0 w.heap.size w cU 1 v bs) :
 Calls Tryz.prog 40 #[v] w (SemOut w):=by
 have HV:=Hd_ hv
 have hb0:=((Below.refl w.heap.size w).alloc (Nat.le_refl _) (.cells #[.slice none 0 0,.slice none 0 0] 27)).alloc (by simp) (.cells #[.int .i64 0,.slice none 0 0,.slice none 0 0] 31)
 have hb1:=(Blk.new w 27 #[.slice none 0 0,.slice none 0 0] _ rfl).alloc (.cells #[.int .i64 0,.slice none 0 0,.slice none 0 0] 31)
 have hb2:=Blk.new (w.alloc (.cells #[.slice none 0 0,.slice none 0 0] 27)) 31 #[.int .i64 0,.slice none 0 0,.slice none 0 0] (w.heap.size+1) (by simp)
 have hs0:((w.alloc (.cells #[.slice none 0 0,.slice none 0 0] 27)).alloc (.cells #[.int .i64 0,.slice none 0 0,.slice none 0 0] 31)).heap.size=w.heap.size+2:=by simp
 obtain ⟨A,n,c,rfl⟩:=hv.shape
 clear hv
 go_enter Tryz.func40,Tryz.ntmps40
 go_wp2_with fail
 refine (l1New_any _ bs _ ((HV.out.below hb0 (Nat.le_refl _)).mono (Nat.le_refl _) hb0.size)).mono ?_
 rintro e w1 ⟨b,rfl,hbl,hc1,hbw⟩
 have hr1:=hb1.keep hbw
 have hr2:=hb2.keep hbw
 have hb3:=below_trans hb0 hbw
 rw [hs0] at hbl
 clear hbw hb1 hb2 hb0 hs0 HV
 go_wp2_with fail
 refine (l20Graph_any b 5 _ _ hc1 rfl (by omega)).mono ?_
 rintro e w2 ⟨vg,g,rfl,hgv,he11,hc2,ho2⟩
 have hlb:=hc1.lt
 obtain ⟨A1,n1,c1,A2,n2,c2,rfl⟩:=hgv.shape
 have hs2:=ho2.size
 have hal:=(Below.refl w2.heap.size w2).alloc (Nat.le_refl _) (.cells #[.slice A1 n1 c1,.slice A2 n2 c2] 27)
 have bg:=Blk.new w2 27 #[.slice A1 n1 c1,.slice A2 n2 c2] _ rfl
 have hg1:=(hgv.below hal (Nat.le_refl _)).mono (lo':=b+1) (by omega) (Nat.le_refl _)
 have hq1:=(hr1.only ho2 (.inl (by omega))).keep hal
 have hq2:=(hr2.only ho2 (.inl (by omega))).keep hal
 have hq3:=hc2.keep hal
 have hq4:=below_trans (hb3.trans (ho2.below (B:=w.heap.size) (by omega) hb3.size)) hal
 obtain ⟨gq,hgq⟩:∃ gq,gq=w2.heap.size:=⟨_,rfl⟩
 rw [<- hgq] at bg hg1 hs2
 have HP:=Hd_ (show GoR b w.heap.size gq w (w2.alloc (.cells #[.slice A1 n1 c1,.slice A2 n2 c2] 27)) (.slice A1 n1 c1) (.slice A2 n2 c2) g from
  ⟨hq1,hq2,bg,hg1,hq3,hq4,rfl,he11,by omega⟩)
 clear hgv hc2 ho2 hr1 hr2 hb3 hc1 hal hq1 hq2 hq3 hq4 bg hg1 he11
 go_upto_region 3 with fail
 rw [<- hgq]
 generalize w2.alloc (.cells #[.slice A1 n1 c1,.slice A2 n2 c2] 27)=W at *
 clear hgq hs2 hlb hbl
 have x0:W.cell? ⟨gq,0,none⟩=some (.slice A1 n1 c1):=by exact HP.out.gbk.cell 0
 have x1:W.cell? ⟨gq,1,none⟩=some (.slice A2 n2 c2):=by exact HP.out.gbk.cell 1
 go_wp2_with fail
 refine F_start 4 (fun w'=>w'.cell? ⟨gq,0,none⟩=some (.slice A1 n1 c1)/\w'.cell? ⟨gq,1,none⟩=some (.slice A2 n2 c2)) (by kernel_rfl) (by exact ⟨x0,x1⟩) (fun hS inv=>?_)
 refine F_tk 0 inv ?_
 try simp only [tA,tB,tC,Act.put,tE,tF,tG]
 clear inv;intro inv
 refine F_tk 1 inv ?_
 try simp only [tA,tB,tC,Act.put,tE,tF,tG]
 clear inv;intro inv
 have HPd:=Hd_ HP.out.drew
 clear HP x0 x1
 refine F_o1 2 inv ?_;intro K hK
 try simp only [tA,tB,tC]
 go_simp
 refine (l11Aut_any b _ HPd.out.cur).mono ?_
 rintro e w3 ⟨⟨st,ac,nx,us,acc,nxt,rfl,hau,hnn,ho3⟩,hc3⟩
 clear hnn
 have hav:=hau.view st
 obtain ⟨a,ha⟩:∃ a:Au,a=⟨st,acc,nxt⟩:=⟨_,rfl⟩
 obtain rfl:st=a.start:=by rw [ha]
 rw [<- ha] at hav
 have hlg:=HPd.out.gbk.lt
 obtain ⟨A3,c3,rfl,-,-,-⟩:=ownSh hau.acc
 obtain ⟨A4,c4,rfl,-,-,-⟩:=ownSh hau.nxt.own
 generalize acc.length=n3 at hav ⊢
 generalize us.length=n4 at hav ⊢
 have HP3:=Hd_ (HPd.out.step ho3 hc3)
 have HAV:=Hd_ hav
 have HLG:=Hd_ hlg
 clear hau hav ho3 hc3 ha hlg HPd
 refine hK.out _ _ (⟨HP3.out.gbk.cell 0,HP3.out.gbk.cell 1⟩) (fun _ _=>?_)
 try simp only [tA,tB,tC,Act.put,tE,tF,tG]
 clear hK K inv hS;rename_i hS inv
 have z0:w3.cell? ⟨w.heap.size,0,none⟩=some (.slice none 0 0):=HP3.out.res1.cell 0
 have z1:w3.cell? ⟨w.heap.size,1,none⟩=some (.slice none 0 0):=HP3.out.res1.cell 1
 have z2:w3.cell? ⟨w.heap.size+1,0,none⟩=some (.int .i64 0):=HP3.out.res2.cell 0
 have z3:w3.cell? ⟨w.heap.size+1,1,none⟩=some (.slice none 0 0):=HP3.out.res2.cell 1
 have z4:w3.cell? ⟨w.heap.size+1,2,none⟩=some (.slice none 0 0):=HP3.out.res2.cell 2
 have v0:=HP3.out.res1.frozen 0
 have v1:=HP3.out.res1.frozen 1
 have v2:=HP3.out.res2.frozen 0
 have v3:=HP3.out.res2.frozen 1
 have v4:=HP3.out.res2.frozen 2
 have hlr:=HP3.out.res1.lt
 have hls:=HP3.out.res2.lt
 have HQ:=Hd_ (HP3.out.put (.slice A1 n1 c1) (.slice A2 n2 c2))
 have HQB:=Hd_ (HP3.out.gb HQ.out.1)
 refine F_o1 3 inv ?_;intro K hK
 try simp only [tA,tB,tC]
 go_simp
 refine hK.out _ _ (⟨HQB.out.cell 0,HQB.out.cell 1⟩) (fun _ _=>?_)
 try simp only [tA,tB,tC,Act.put,tE,tF,tG]
 clear hK K inv hS;rename_i hS inv
 refine F_l1 4 ?_;intro K hK
 go_simp
 refine hK _ _ ?_
 clear hK K
 have HD:=Hd_ (HP3.out.fin HAV.out HLG.out (putGC_only w3 w.heap.size (.slice A1 n1 c1) (.slice A2 n2 c2) (.int .i64 a.start) (.slice A3 n3 c3) (.slice A4 n4 c4)))
 go_wp2_with fail
 all_goals exact bodyPost_ret (v:=.tuple #[.agg #[.slice A1 n1 c1,.slice A2 n2 c2],.agg #[.int .i64 a.start,.slice A3 n3 c3,.slice A4 n4 c4]]) (by simp [results,Tryz.results40,go_sem,z0,z1,z2,z3,z4,v0,v1,v2,v3,v4,hlr,hls]) rfl ⟨_,_,g,a,rfl,HD.out⟩
set_option maxHeartbeats 8000000 in
theorem drawTrailAnswers_any (v:Value) (bs:List Int) (w:World) (hv:SlI 0 w.heap.size w cU 1 v bs) :
 Calls Tryz.prog 32 #[v] w (TraOut w):=by
 have HV:=Hd_ hv
 have hb0:=((Below.refl w.heap.size w).alloc (Nat.le_refl _) (.cells #[.slice none 0 0,.slice none 0 0] 27)).alloc (by simp) (.cells #[.int .i64 0,.slice none 0 0,.slice none 0 0] 31)
 have hb1:=(Blk.new w 27 #[.slice none 0 0,.slice none 0 0] _ rfl).alloc (.cells #[.int .i64 0,.slice none 0 0,.slice none 0 0] 31)
 have hb2:=Blk.new (w.alloc (.cells #[.slice none 0 0,.slice none 0 0] 27)) 31 #[.int .i64 0,.slice none 0 0,.slice none 0 0] (w.heap.size+1) (by simp)
 have hs0:((w.alloc (.cells #[.slice none 0 0,.slice none 0 0] 27)).alloc (.cells #[.int .i64 0,.slice none 0 0,.slice none 0 0] 31)).heap.size=w.heap.size+2:=by simp
 obtain ⟨A,n,c,rfl⟩:=hv.shape
 clear hv
 go_enter Tryz.func32,Tryz.ntmps32
 go_wp2_with fail
 refine (l1New_any _ bs _ ((HV.out.below hb0 (Nat.le_refl _)).mono (Nat.le_refl _) hb0.size)).mono ?_
 rintro e w1 ⟨b,rfl,hbl,hc1,hbw⟩
 have hr1:=hb1.keep hbw
 have hr2:=hb2.keep hbw
 have hb3:=below_trans hb0 hbw
 rw [hs0] at hbl
 clear hbw hb1 hb2 hb0 hs0 HV
 go_wp2_with fail
 refine (l20Graph_any b 6 _ _ hc1 rfl (by omega)).mono ?_
 rintro e w2 ⟨vg,g,rfl,hgv,he11,hc2,ho2⟩
 have hlb:=hc1.lt
 obtain ⟨A1,n1,c1,A2,n2,c2,rfl⟩:=hgv.shape
 have hs2:=ho2.size
 have hal:=(Below.refl w2.heap.size w2).alloc (Nat.le_refl _) (.cells #[.slice A1 n1 c1,.slice A2 n2 c2] 27)
 have bg:=Blk.new w2 27 #[.slice A1 n1 c1,.slice A2 n2 c2] _ rfl
 have hg1:=(hgv.below hal (Nat.le_refl _)).mono (lo':=b+1) (by omega) (Nat.le_refl _)
 have hq1:=(hr1.only ho2 (.inl (by omega))).keep hal
 have hq2:=(hr2.only ho2 (.inl (by omega))).keep hal
 have hq3:=hc2.keep hal
 have hq4:=below_trans (hb3.trans (ho2.below (B:=w.heap.size) (by omega) hb3.size)) hal
 obtain ⟨gq,hgq⟩:∃ gq,gq=w2.heap.size:=⟨_,rfl⟩
 rw [<- hgq] at bg hg1 hs2
 have HP:=Hd_ (show GoR b w.heap.size gq w (w2.alloc (.cells #[.slice A1 n1 c1,.slice A2 n2 c2] 27)) (.slice A1 n1 c1) (.slice A2 n2 c2) g from
  ⟨hq1,hq2,bg,hg1,hq3,hq4,rfl,he11,by omega⟩)
 clear hgv hc2 ho2 hr1 hr2 hb3 hc1 hal hq1 hq2 hq3 hq4 bg hg1 he11
 go_upto_region 3 with fail
 rw [<- hgq]
 generalize w2.alloc (.cells #[.slice A1 n1 c1,.slice A2 n2 c2] 27)=W at *
 clear hgq hs2 hlb hbl
 have x0:W.cell? ⟨gq,0,none⟩=some (.slice A1 n1 c1):=by exact HP.out.gbk.cell 0
 have x1:W.cell? ⟨gq,1,none⟩=some (.slice A2 n2 c2):=by exact HP.out.gbk.cell 1
 go_wp2_with fail
 refine F_start 8 (fun w'=>w'.cell? ⟨gq,0,none⟩=some (.slice A1 n1 c1)/\w'.cell? ⟨gq,1,none⟩=some (.slice A2 n2 c2)) (by kernel_rfl) (by exact ⟨x0,x1⟩) (fun hS inv=>?_)
 refine F_tk 0 inv ?_
 try simp only [tA,tB,tC,Act.put,tE,tF,tG]
 clear inv;intro inv
 refine F_tk 1 inv ?_
 try simp only [tA,tB,tC,Act.put,tE,tF,tG]
 clear inv;intro inv
 refine F_tk 3 inv ?_
 try simp only [tA,tB,tC,Act.put,tE,tF,tG]
 clear inv;intro inv
 have HPd:=Hd_ HP.out.drew
 clear HP x0 x1
 refine F_two (i:=2) (j:=4) (by kernel_rfl) rfl rfl rfl rfl (by omega) inv (fun K hK=>?_) (fun K hK=>?_)
 all_goals (try simp only [tA,tB,tC])
 · skip
   go_simp
   refine (l11Aut_any b _ HPd.out.cur).mono ?_
   rintro e w3 ⟨⟨st,ac,nx,us,acc,nxt,rfl,hau,hnn,ho3⟩,hc3⟩
   clear hnn
   have hav:=hau.view st
   obtain ⟨a,ha⟩:∃ a:Au,a=⟨st,acc,nxt⟩:=⟨_,rfl⟩
   obtain rfl:st=a.start:=by rw [ha]
   rw [<- ha] at hav
   have hlg:=HPd.out.gbk.lt
   obtain ⟨A3,c3,rfl,-,-,-⟩:=ownSh hau.acc
   obtain ⟨A4,c4,rfl,-,-,-⟩:=ownSh hau.nxt.own
   generalize acc.length=n3 at hav ⊢
   generalize us.length=n4 at hav ⊢
   have HP3:=Hd_ (HPd.out.step ho3 hc3)
   have HAV:=Hd_ hav
   have HLG:=Hd_ hlg
   clear hau hav ho3 hc3 ha hlg
   refine hK.out _ _ (⟨HP3.out.gbk.cell 0,HP3.out.gbk.cell 1⟩) (fun _ _=>?_)
   try simp only [tA,tB,tC,Act.put,tE,tF,tG]
   clear hK K inv hS;rename_i hS inv
   refine F_o1 4 inv ?_;intro K hK
   try simp only [tA,tB,tC]
   go_simp
   have HPL:=Hd_ (litD_sl w3 3 #[.int .i64 5000,.int .i64 5000,.int .i64 20,.int .i64 3,.int .i64 0] [5000,5000,20,3,0] 5 (b+1) (by have:=HP3.out.ord;have:=HP3.out.gbk.lt;omega) (by decide) rfl rfl rfl)
   have HBA:=Hd_ ((Below.refl _ _).alloc (Nat.le_refl _) (.cells #[.int .i64 5000,.int .i64 5000,.int .i64 20,.int .i64 3,.int .i64 0] 3):Below (w3).heap.size w3 _)
   have HPA:=Hd_ (HP3.out.keep HBA.out)
   refine hK.out _ _ (⟨HPA.out.gbk.cell 0,HPA.out.gbk.cell 1⟩) (fun _ _=>?_)
   try simp only [tA,tB,tC,Act.put,tE,tF,tG]
   clear hK K inv hS;rename_i hS inv
   refine F_o1 5 inv ?_;intro K hK
   try simp only [tA,tB,tC]
   go_simp
   refine (l1PickInt_any b _ [5000,5000,20,3,0] _ HPA.out.cur (by simp) (by simpa using HPL.out)).mono ?_
   rintro e w8 ⟨q,rfl,-,hc8,ho8⟩
   have HP8:=Hd_ (HPA.out.step ho8 hc8)
   have HOZ:=Hd_ ho8
   clear hc8 ho8
   have HAV8:=Hd_ (((HAV.out.below HBA.out (Nat.le_refl _)).only HOZ.out HBA.out.size (.inr (by have:=HPd.out.ord;have:=HPd.out.gbk.lt;omega))).mono (Nat.le_refl _) (Nat.le_trans HBA.out.size HOZ.out.size))
   clear HPd HP3 HPA HPL HAV HBA HOZ
   refine hK.out _ _ (⟨HP8.out.gbk.cell 0,HP8.out.gbk.cell 1⟩) (fun _ _=>?_)
   try simp only [tA,tB,tC,Act.put,tE,tF,tG]
   clear hK K inv hS;rename_i hS inv
   have z0:w8.cell? ⟨w.heap.size,0,none⟩=some (.slice none 0 0):=HP8.out.res1.cell 0
   have z1:w8.cell? ⟨w.heap.size,1,none⟩=some (.slice none 0 0):=HP8.out.res1.cell 1
   have z2:w8.cell? ⟨w.heap.size+1,0,none⟩=some (.int .i64 0):=HP8.out.res2.cell 0
   have z3:w8.cell? ⟨w.heap.size+1,1,none⟩=some (.slice none 0 0):=HP8.out.res2.cell 1
   have z4:w8.cell? ⟨w.heap.size+1,2,none⟩=some (.slice none 0 0):=HP8.out.res2.cell 2
   have v0:=HP8.out.res1.frozen 0
   have v1:=HP8.out.res1.frozen 1
   have v2:=HP8.out.res2.frozen 0
   have v3:=HP8.out.res2.frozen 1
   have v4:=HP8.out.res2.frozen 2
   have hlr:=HP8.out.res1.lt
   have hls:=HP8.out.res2.lt
   have HQ:=Hd_ (HP8.out.put (.slice A1 n1 c1) (.slice A2 n2 c2))
   have HQB:=Hd_ (HP8.out.gb HQ.out.1)
   have HQC:=Hd_ (HP8.out.gb (putGC_only w8 w.heap.size (.slice A1 n1 c1) (.slice A2 n2 c2) (.int .i64 a.start) (.slice A3 n3 c3) (.slice A4 n4 c4)))
   refine F_o1 6 inv ?_;intro K hK
   try simp only [tA,tB,tC]
   go_simp
   refine hK.out _ _ (⟨HQB.out.cell 0,HQB.out.cell 1⟩) (fun _ _=>?_)
   try simp only [tA,tB,tC,Act.put,tE,tF,tG]
   clear hK K inv hS;rename_i hS inv
   refine F_o1 7 inv ?_;intro K hK
   try simp only [tA,tB,tC]
   go_simp
   refine hK.out _ _ (⟨HQC.out.cell 0,HQC.out.cell 1⟩) (fun _ _=>?_)
   try simp only [tA,tB,tC,Act.put,tE,tF,tG]
   clear hK K inv hS;rename_i hS inv
   refine F_l1 8 ?_;intro K hK
   go_simp
   refine hK _ _ ?_
   clear hK K
   have HD:=Hd_ (HP8.out.fin HAV8.out HLG.out (putGC_only w8 w.heap.size (.slice A1 n1 c1) (.slice A2 n2 c2) (.int .i64 a.start) (.slice A3 n3 c3) (.slice A4 n4 c4)))
   go_wp2_with fail
   all_goals exact bodyPost_ret (v:=.tuple #[.agg #[.slice A1 n1 c1,.slice A2 n2 c2],.agg #[.int .i64 a.start,.slice A3 n3 c3,.slice A4 n4 c4],.int .i64 q]) (by simp [results,Tryz.results32,go_sem,z0,z1,z2,z3,z4,v0,v1,v2,v3,v4,hlr,hls]) rfl ⟨_,_,g,a,_,rfl,HD.out⟩
 · skip
   go_simp
   have HPL:=Hd_ (litD_sl W.drew 3 #[.int .i64 5000,.int .i64 5000,.int .i64 20,.int .i64 3,.int .i64 0] [5000,5000,20,3,0] 5 (b+1) (by have:=HPd.out.ord;have:=HPd.out.gbk.lt;omega) (by decide) rfl rfl rfl)
   have HBA:=Hd_ ((Below.refl _ _).alloc (Nat.le_refl _) (.cells #[.int .i64 5000,.int .i64 5000,.int .i64 20,.int .i64 3,.int .i64 0] 3):Below (W.drew).heap.size W.drew _)
   have HPA:=Hd_ (HPd.out.keep HBA.out)
   refine hK.out _ _ (⟨HPA.out.gbk.cell 0,HPA.out.gbk.cell 1⟩) (fun _ _=>?_)
   try simp only [tA,tB,tC,Act.put,tE,tF,tG]
   clear hK K inv hS;rename_i hS inv
   refine F_o1 2 inv ?_;intro K hK
   try simp only [tA,tB,tC]
   go_simp
   refine (l11Aut_any b _ HPA.out.cur).mono ?_
   rintro e w3 ⟨⟨st,ac,nx,us,acc,nxt,rfl,hau,hnn,ho3⟩,hc3⟩
   clear hnn
   have hav:=hau.view st
   obtain ⟨a,ha⟩:∃ a:Au,a=⟨st,acc,nxt⟩:=⟨_,rfl⟩
   obtain rfl:st=a.start:=by rw [ha]
   rw [<- ha] at hav
   have hlg:=HPA.out.gbk.lt
   obtain ⟨A3,c3,rfl,-,-,-⟩:=ownSh hau.acc
   obtain ⟨A4,c4,rfl,-,-,-⟩:=ownSh hau.nxt.own
   generalize acc.length=n3 at hav ⊢
   generalize us.length=n4 at hav ⊢
   have HP3:=Hd_ (HPA.out.step ho3 hc3)
   have HAV:=Hd_ hav
   have HLG:=Hd_ hlg
   have HOQ:=Hd_ ho3
   have HPL:=Hd_ ((HPL.out.only HOQ.out (Nat.le_refl _) (.inr (Nat.le_refl _))).mono (Nat.le_refl _) HOQ.out.size)
   clear hau hav ho3 hc3 ha hlg
   refine hK.out _ _ (⟨HP3.out.gbk.cell 0,HP3.out.gbk.cell 1⟩) (fun _ _=>?_)
   try simp only [tA,tB,tC,Act.put,tE,tF,tG]
   clear hK K inv hS;rename_i hS inv
   refine F_o1 5 inv ?_;intro K hK
   try simp only [tA,tB,tC]
   go_simp
   refine (l1PickInt_any b _ [5000,5000,20,3,0] _ HP3.out.cur (by simp) (by simpa using HPL.out)).mono ?_
   rintro e w8 ⟨q,rfl,-,hc8,ho8⟩
   have HP8:=Hd_ (HP3.out.step ho8 hc8)
   have HOZ:=Hd_ ho8
   clear hc8 ho8
   have HAV8:=Hd_ ((HAV.out.only HOZ.out (Nat.le_refl _) (.inr (by have:=HPA.out.ord;have:=HPA.out.gbk.lt;omega))).mono (Nat.le_refl _) HOZ.out.size)
   clear HPd HP3 HPA HPL HAV HBA HOZ HOQ
   refine hK.out _ _ (⟨HP8.out.gbk.cell 0,HP8.out.gbk.cell 1⟩) (fun _ _=>?_)
   try simp only [tA,tB,tC,Act.put,tE,tF,tG]
   clear hK K inv hS;rename_i hS inv
   have z0:w8.cell? ⟨w.heap.size,0,none⟩=some (.slice none 0 0):=HP8.out.res1.cell 0
   have z1:w8.cell? ⟨w.heap.size,1,none⟩=some (.slice none 0 0):=HP8.out.res1.cell 1
   have z2:w8.cell? ⟨w.heap.size+1,0,none⟩=some (.int .i64 0):=HP8.out.res2.cell 0
   have z3:w8.cell? ⟨w.heap.size+1,1,none⟩=some (.slice none 0 0):=HP8.out.res2.cell 1
   have z4:w8.cell? ⟨w.heap.size+1,2,none⟩=some (.slice none 0 0):=HP8.out.res2.cell 2
   have v0:=HP8.out.res1.frozen 0
   have v1:=HP8.out.res1.frozen 1
   have v2:=HP8.out.res2.frozen 0
   have v3:=HP8.out.res2.frozen 1
   have v4:=HP8.out.res2.frozen 2
   have hlr:=HP8.out.res1.lt
   have hls:=HP8.out.res2.lt
   have HQ:=Hd_ (HP8.out.put (.slice A1 n1 c1) (.slice A2 n2 c2))
   have HQB:=Hd_ (HP8.out.gb HQ.out.1)
   have HQC:=Hd_ (HP8.out.gb (putGC_only w8 w.heap.size (.slice A1 n1 c1) (.slice A2 n2 c2) (.int .i64 a.start) (.slice A3 n3 c3) (.slice A4 n4 c4)))
   refine F_o1 6 inv ?_;intro K hK
   try simp only [tA,tB,tC]
   go_simp
   refine hK.out _ _ (⟨HQB.out.cell 0,HQB.out.cell 1⟩) (fun _ _=>?_)
   try simp only [tA,tB,tC,Act.put,tE,tF,tG]
   clear hK K inv hS;rename_i hS inv
   refine F_o1 7 inv ?_;intro K hK
   try simp only [tA,tB,tC]
   go_simp
   refine hK.out _ _ (⟨HQC.out.cell 0,HQC.out.cell 1⟩) (fun _ _=>?_)
   try simp only [tA,tB,tC,Act.put,tE,tF,tG]
   clear hK K inv hS;rename_i hS inv
   refine F_l1 8 ?_;intro K hK
   go_simp
   refine hK _ _ ?_
   clear hK K
   have HD:=Hd_ (HP8.out.fin HAV8.out HLG.out (putGC_only w8 w.heap.size (.slice A1 n1 c1) (.slice A2 n2 c2) (.int .i64 a.start) (.slice A3 n3 c3) (.slice A4 n4 c4)))
   go_wp2_with fail
   all_goals exact bodyPost_ret (v:=.tuple #[.agg #[.slice A1 n1 c1,.slice A2 n2 c2],.agg #[.int .i64 a.start,.slice A3 n3 c3,.slice A4 n4 c4],.int .i64 q]) (by simp [results,Tryz.results32,go_sem,z0,z1,z2,z3,z4,v0,v1,v2,v3,v4,hlr,hls]) rfl ⟨_,_,g,a,_,rfl,HD.out⟩
end Go.Proofs.YtjpdembmchnbgaaGreat
namespace Go.Proofs.YtjpdembmchnbgaaGreat
def nodesL (g:Gr) (k:Wk):List Int:=k.1 :: k.2.map (stepTo g)
theorem nodesL_len (g:Gr) (k:Wk):(nodesL g k).length=k.2.length+1:=by simp [nodesL]
theorem nodesL_next {g:Gr} {k:Wk} {i:Nat} {s:St} (h:k.2[i]?=some s):(nodesL g k)[i+1]?=some (stepTo g s):=by rw [nodesL,List.getElem?_cons_succ,List.getElem?_map,h];rfl
/-- the step leads from the node that the walk is at -/
def linkAt (g:Gr) (k:Wk) (i:Nat):Bool:=stepFrom g (k.2.getD i (0,false))==(nodesL g k).getD i 0
def walkOk (g:Gr) (k:Wk):Bool:=grOk g && wi k.1 0 ((g.vals.length:Int) - 1) && decide (k.2.length<=60) && (List.range k.2.length).all (linkAt g k)
theorem linkAt_eq {g:Gr} {k:Wk} {i:Nat} {s:St} {x:Int} (h:k.2[i]?=some s) (hx:(nodesL g k)[i]?=some x):linkAt g k i=(stepFrom g s==x):=by
 rw [linkAt,List.getD_eq_getElem?_getD,h,List.getD_eq_getElem?_getD,hx];rfl
/-- node i of a walk -/
def nodeAt (g:Gr) (k:Wk) (i:Nat):Nat:=((nodesL g k).getD i 0).toNat
def letAt (g:Gr) (k:Wk) (i:Nat):Nat:=(stepLetter g (k.2.getD i (0,false))).toNat
/-- the states behind i steps -/
def setAt (g:Gr) (a:Au) (k:Wk):Nat->Nat
 | 0=>bit a.start.toNat
 | i+1=>aft a (setAt g a k i) (valAt g (nodeAt g k i)) (letAt g k i)
theorem walkOk_parts {g:Gr} {k:Wk} (h:walkOk g k=true):GrOk g/\(0<=k.1/\k.1<=(g.vals.length:Int) - 1)/\k.2.length<=60/\∀ i,i < k.2.length->linkAt g k i=true:=by
 simp only [walkOk,Bool.and_eq_true,wi_iff,decide_eq_true_eq,List.all_eq_true,List.mem_range] at h
 exact ⟨grOk_iff.1 h.1.1.1,h.1.1.2,h.1.2,h.2⟩
theorem stepTo_of {g:Gr} {s:St} {e:Ed} (h:stepEd g s.1=some e):stepTo g s=arcTo s.2 e:=by
 unfold stepTo stepFrom arcTo
 simp only [h]
 cases s.2 <;> rfl
theorem stepFrom_of {g:Gr} {s:St} {e:Ed} (h:stepEd g s.1=some e):stepFrom g s=arcTo (!s.2) e:=by
 unfold stepFrom arcTo
 simp only [h]
 cases s.2 <;> rfl
theorem stepLetter_of {g:Gr} {s:St} {e:Ed} (h:stepEd g s.1=some e):stepLetter g s=arcLetter s.2 e:=by
 unfold stepLetter arcLetter
 simp only [h]
theorem nodeAt_at {g:Gr} {k:Wk} {i:Nat} (h:i<=k.2.length):(nodesL g k)[i]?=some ((nodesL g k).getD i 0):=by
 rw [List.getD_eq_getElem?_getD,List.getElem?_eq_getElem (by rw [nodesL_len];omega)];rfl
/-- the nodes of a walk of the graph are nodes of the graph, and its steps are edges of it -/
theorem walk_parts {g:Gr} {k:Wk} (h:walkOk g k=true):∀ {i:Nat},i<=k.2.length->(0<=(nodesL g k).getD i 0/\(nodesL g k).getD i 0<=(g.vals.length:Int) - 1) /\
 (i < k.2.length->∃ s e,k.2[i]?=some s/\stepEd g s.1=some e/\stepFrom g s=(nodesL g k).getD i 0/\stepTo g s=(nodesL g k).getD (i+1) 0):=by
 obtain ⟨hg,hk,-,hl⟩:=walkOk_parts h
 have step:∀ i,i < k.2.length->0<=(nodesL g k).getD i 0->∃ s e,k.2[i]?=some s/\stepEd g s.1=some e/\stepFrom g s=(nodesL g k).getD i 0/\stepTo g s=(nodesL g k).getD (i+1) 0:=by
  intro i hi h0
  have hs:k.2[i]?=some k.2[i]:=List.getElem?_eq_getElem hi
  generalize k.2[i]=s at hs
  have hlk:=hl i hi
  rw [linkAt_eq hs (nodeAt_at (by omega)),beq_iff_eq] at hlk
  have hnx:=nodesL_next (g:=g) hs
  have hnx2:=nodeAt_at (g:=g) (k:=k) (i:=i+1) (by omega)
  rw [hnx] at hnx2
  cases he:stepEd g s.1 with
  | none =>
    have:=stepFrom_neg.2 he
    omega
  | some e=>exact ⟨s,e,hs,he,hlk,by injection hnx2⟩
 intro i
 induction i with
 | zero=>exact fun _=>⟨hk,fun hi=>step 0 hi hk.1⟩
 | succ i ih =>
   intro hi
   obtain ⟨hr,hst⟩:=ih (by omega)
   obtain ⟨s,e,hs,he,hf,ht⟩:=hst (by omega)
   have hrange:0<=stepTo g s/\stepTo g s<=(g.vals.length:Int) - 1:=by
    rw [stepTo_of he]
    obtain ⟨_,hm,_⟩:=stepEd_ok he
    have:=hg.edges e hm
    unfold arcTo
    split <;> omega
   rw [ht] at hrange
   exact ⟨hrange,fun hi2=>step (i+1) hi2 hrange.1⟩
theorem nodeAt_lt {g:Gr} {k:Wk} (h:walkOk g k=true) {i:Nat} (hi:i<=k.2.length):(nodesL g k)[i]?=some (nodeAt g k i:Int)/\nodeAt g k i < g.vals.length:=by
 have h1:=(walk_parts h hi).1
 refine ⟨?_,?_⟩
 · rw [nodeAt_at hi,nodeAt,Int.toNat_of_nonneg h1.1]
 · unfold nodeAt;omega
/-- step i: its edge, its letter, the node behind it -/
theorem walk_step {g:Gr} {k:Wk} (h:walkOk g k=true) {i:Nat} (hi:i < k.2.length):∃ s e,k.2[i]?=some s/\stepEd g s.1=some e/\arcTo s.2 e=(nodeAt g k (i+1):Int)/\arcLetter s.2 e=(letAt g k i:Int)/\stepLetter g s=(letAt g k i:Int)/\letAt g k i < 6:=by
 obtain ⟨s,e,hs,he,-,ht⟩:=(walk_parts h (Nat.le_of_lt hi)).2 hi
 obtain ⟨hg,hm,_⟩:=stepEd_ok he
 have hl:=hg.edges e hm
 have h1:=(walk_parts h (show i+1<=k.2.length from hi)).1
 have hsd:k.2.getD i (0,false)=s:=by rw [List.getD_eq_getElem?_getD,hs];rfl
 have hr:0<=arcLetter s.2 e/\arcLetter s.2 e<=5:=by
  unfold arcLetter
  split <;> omega
 have hla:(letAt g k i:Int)=arcLetter s.2 e:=by rw [letAt,hsd,stepLetter_of he,Int.toNat_of_nonneg hr.1]
 refine ⟨s,e,hs,he,?_,hla.symm,by rw [stepLetter_of he,hla],by omega⟩
 rw [<- stepTo_of he,ht,nodeAt,Int.toNat_of_nonneg h1.1]
def walkEnd (g:Gr) (k:Wk):Int:=if walkOk g k=true then (nodeAt g k k.2.length:Int) else -1
def matchB (g:Gr) (a:Au) (k:Wk):Bool:=(walkOk g k && auOk a) && acc a (setAt g a k k.2.length) (valAt g (nodeAt g k k.2.length))
def isWit (g:Gr) (a:Au) (x y:Int) (k:Wk):Bool:=(k.1==x && walkEnd g k==y) && matchB g a k
end Go.Proofs.YtjpdembmchnbgaaGreat
namespace Go.Proofs.YtjpdembmchnbgaaGreat
open Go.ChangeShapes Go.WideShapes Go.ChangeAt Go.RowKit
attribute [local go_sem] ext_cell ext_frozen ext_lt ext_lt1 ext_lt2 ext_lt3 ltn2 ltn3 ltn13 lts1 lts2 lts3
def foldFr (a:Au) (l set m0 q:Nat):Nat:=(mem q set).foldl (aft1 a l) m0
theorem foldFr_no {a:Au} {l set m0 q:Nat} (h:set.testBit q=false):foldFr a l set m0 (q+1)=foldFr a l set m0 q:=by rw [foldFr,mem_no h];rfl
theorem foldFr_yes {a:Au} {l set m0 q:Nat} (h:set.testBit q=true):foldFr a l set m0 (q+1)=aft1 a l (foldFr a l set m0 q) q:=by rw [foldFr,mem_yes h,List.foldl_append];rfl
theorem foldFr_lt {a:Au} (h:auOk a=true) (l set m0 q:Nat) (hm:m0 < 2 ^ a.accept.length):foldFr a l set m0 q < 2 ^ a.accept.length:=foldl_inv (P:=fun m=>m < 2 ^ a.accept.length) (fun m x hm=>aft1_lt h l m x hm) _ _ hm
def foldS (a:Au) (v l set q:Nat):Nat:=(mem q set).foldl (aftS a v l) 0
theorem foldS_no {a:Au} {v l set q:Nat} (h:set.testBit q=false):foldS a v l set (q+1)=foldS a v l set q:=by rw [foldS,mem_no h];rfl
theorem foldS_yes {a:Au} {v l set q:Nat} (ha:auOk a=true) (hq:q < a.accept.length) (h:set.testBit q=true):foldS a v l set (q+1)=foldFr a l (cls a v q) (foldS a v l set q) a.accept.length:=by
 rw [foldS,mem_yes h,List.foldl_append]
 show aftS a v l _ q=_
 rw [aftS,mem12 ha (cls_lt ha v q hq)];rfl
theorem foldS_lt {a:Au} (h:auOk a=true) (v l set q:Nat):foldS a v l set q < 2 ^ a.accept.length:=foldl_inv (P:=fun m=>m < 2 ^ a.accept.length) (fun m x hm=>aftS_lt h v l m x hm) _ _ (Nat.two_pow_pos _)
theorem foldS_all {a:Au} (h:auOk a=true) {v l set:Nat} (hs:set < 2 ^ a.accept.length):foldS a v l set a.accept.length=aft a set v l:=by rw [foldS,aft,mem12 h hs]
theorem stepEd_idx {g:Gr} {id:Int} {e:Ed} (h:stepEd g id=some e):∃ ix:Nat,edgeIdx g id=ix/\g.edges[ix]?=some e:=by
 obtain ⟨hg,hm,he⟩:=stepEd_ok h
 obtain ⟨ix,hix⟩:=List.getElem?_of_mem hm
 refine ⟨ix,?_,hix⟩
 rw [<- he]
 exact edgeIdx_at hg hix
set_option maxHeartbeats 8000000 in
set_option maxRecDepth 100000 in
theorem l18Next_any (vg va:Value) (g:Gr) (a:Au) (x SI:Nat) (st:St) (e:Ed) (l:Nat) (w:World) (hgv:GrV 0 w.heap.size w vg g) (hav:AuV 0 w.heap.size w va a) (hgo:grOk g=true) (ha:auOk a=true) (hx:x < g.vals.length) (hSI:SI < 2 ^ a.accept.length)
 (he:stepEd g st.1=some e) (hl:arcLetter st.2 e=(l:Int)) :
 Calls Tryz.prog 62 #[vg,va,.int .i64 (x:Int),.int .i64 (SI:Int),.agg #[.int .i64 st.1,.bool st.2]] w fun en w'=>en=.returned (.tuple #[.int .i64 (arcTo st.2 e),.int .i64 (aft a SI (valAt g x) l:Int)])/\Below w.heap.size w w':=by
 have hg:=grOk_iff.1 hgo
 have hav0:=hav
 have hgv0:=hgv
 obtain ⟨A1,c1,A2,c2,rfl,hl1,hm1,hl2,hm2,hC1,hC2⟩:=hgv.form
 obtain ⟨A3,c3,A4,c4,rfl,hl3,hm3,hl4,hm4,hAC⟩:=hav.form ha
 obtain ⟨sid,sinv⟩:=st
 have hn12:=(auOk_iff.1 ha).1.2
 obtain ⟨ix,hix,hei⟩:=stepEd_idx he
 have hem:=(stepEd_ok he).2.1
 have hel:=hg.edges e hem
 have hixl:ix < g.edges.length:=(List.getElem?_eq_some_iff.1 hei).1
 have hixi:(ix:Int) < (g.edges.length:Int):=by omega
 obtain ⟨b6,o6,rfl,hb6,q0,q1,q2,q3⟩:=hC2.ed hei
 have hxi:g.vals[x]?=some g.vals[x]:=List.getElem?_eq_getElem hx
 have hvr:=hg.vals _ (List.getElem_mem hx)
 generalize g.vals[x]=vx at hxi hvr
 obtain ⟨vx,rfl⟩:=Int.eq_ofNat_of_zero_le hvr.1
 have hva:=valAt_of hxi
 rw [Int.toNat_natCast] at hva
 obtain ⟨b1,o1,rfl,hb1,d1⟩:=hC1.int hxi
 have hSI4:=lt12 ha hSI
 simp only at hix hl ⊢
 obtain ⟨eid,ef,et,el⟩:=e
 simp only at q0 q1 q2 q3 hel
 obtain ⟨-,-,-,hl0,hl2e⟩:=hel
 have hl9:l < 6:=by unfold arcLetter at hl;simp only at hl;split at hl <;> omega
 obtain ⟨TO,hTO⟩:∃ TO,TO=arcTo sinv (eid,ef,et,el):=⟨_,rfl⟩
 rw [<- hTO,hva,<- foldS_all ha hSI]
 have HTO:=Hd_ (show ∀ W,Calls Tryz.prog 112 #[.agg #[.int .i64 eid,.int .i64 ef,.int .i64 et,.int .i64 el],.bool sinv] W fun en w'=>en=.returned (.int .i64 TO)/\Below W.heap.size W w' from fun W=>by
  have h:=l14To_any (eid,ef,et,el) sinv W
  rwa [<- hTO] at h)
 have HLET:=Hd_ (show ∀ W,Calls Tryz.prog 111 #[.agg #[.int .i64 eid,.int .i64 ef,.int .i64 et,.int .i64 el],.bool sinv] W fun en w'=>en=.returned (.int .i64 (l:Int))/\Below W.heap.size W w' from fun W=>by
  have h:=l14Letter_any (eid,ef,et,el) sinv W hl0 hl2e
  rwa [hl] at h)
 have HEI:=Hd_ (show ∀ W,Below w.heap.size w W->Calls Tryz.prog 109 #[.agg #[.slice (some ⟨b1,o1,none⟩) g.vals.length c1,.slice (some ⟨b6,o6,none⟩) g.edges.length c2],.int .i64 sid] W fun e w'=>e=.returned (.int .i64 (ix:Int))/\Below W.heap.size W w' from fun W hW=>by
  have h:=specEdgeIndex _ g sid W (hgv0.keep hW)
  rwa [hix] at h)
 have HGO:=Hd_ hg
 have HAO:=Hd_ ha
 have HAV:=Hd_ hav0
 have HGV:=Hd_ hgv0
 have HAC:=Hd_ hAC
 have HSI:=Hd_ hSI
 have hxx:(x:Int) < (g.vals.length:Int):=by omega
 have hb0:Below w.heap.size w (((w.alloc (.cells #[.slice (some ⟨b1,o1,none⟩) g.vals.length c1,.slice (some ⟨b6,o6,none⟩) g.edges.length c2] 27)).alloc (.cells #[.int .i64 a.start,.slice A3 a.accept.length c3,.slice A4 a.accept.length c4] 31)).alloc (.cells #[.int .i64 sid,.bool sinv] 81)):=(((Below.refl _ _).alloc (Nat.le_refl _) _).alloc (by simp) _).alloc (by simp;omega) _
 clear hgv hav ha hg hgo hav0 hgv0 hva hxi hC1 hC2 hAC hSI he hl hix hei hem hTO
 go_enter Tryz.func62,Tryz.ntmps62
 go_upto_region 1 with fail
 obtain ⟨W0,hW0⟩:∃ W0,W0=(((w.alloc (.cells #[.slice (some ⟨b1,o1,none⟩) g.vals.length c1,.slice (some ⟨b6,o6,none⟩) g.edges.length c2] 27)).alloc (.cells #[.int .i64 a.start,.slice A3 a.accept.length c3,.slice A4 a.accept.length c4] 31)).alloc (.cells #[.int .i64 sid,.bool sinv] 81)):=⟨_,rfl⟩
 rw [<- hW0] at hb0 ⊢
 have bx:Blk W0 w.heap.size 27 #[.slice (some ⟨b1,o1,none⟩) g.vals.length c1,.slice (some ⟨b6,o6,none⟩) g.edges.length c2]:=by rw [hW0];exact ((Blk.new w _ _ w.heap.size rfl).alloc _).alloc _
 have by_:Blk W0 (w.heap.size+1) 31 #[.int .i64 a.start,.slice A3 a.accept.length c3,.slice A4 a.accept.length c4]:=by rw [hW0];exact (Blk.new (w.alloc _) _ _ (w.heap.size+1) (by simp)).alloc _
 have bz:Blk W0 (w.heap.size+1+1) 81 #[.int .i64 sid,.bool sinv]:=by rw [hW0];exact Blk.new ((w.alloc _).alloc _) _ _ (w.heap.size+1+1) (by simp)
 have hs0:w.heap.size+1+1+1=W0.heap.size:=by rw [hW0];simp
 have x0:W0.cell? ⟨w.heap.size,0,none⟩=some (.slice (some ⟨b1,o1,none⟩) g.vals.length c1):=by exact bx.cell 0
 have x1:W0.cell? ⟨w.heap.size,1,none⟩=some (.slice (some ⟨b6,o6,none⟩) g.edges.length c2):=by exact bx.cell 1
 have y0:W0.cell? ⟨w.heap.size+1,0,none⟩=some (.int .i64 a.start):=by exact by_.cell 0
 have y1:W0.cell? ⟨w.heap.size+1,1,none⟩=some (.slice A3 a.accept.length c3):=by exact by_.cell 1
 have y2:W0.cell? ⟨w.heap.size+1,2,none⟩=some (.slice A4 a.accept.length c4):=by exact by_.cell 2
 have z0:W0.cell? ⟨w.heap.size+1+1,0,none⟩=some (.int .i64 sid):=by exact bz.cell 0
 have z1:W0.cell? ⟨w.heap.size+1+1,1,none⟩=some (.bool sinv):=by exact bz.cell 1
 try rw [hs0]
 have l2:=bz.lt
 have l1:=by_.lt
 have l0:=bx.lt
 clear hW0 bx by_ bz hs0
 have q0:=kcell hb0 q0
 have q1:=kcell hb0 q1
 have q2:=kcell hb0 q2
 have q3:=kcell hb0 q3
 have d1:=kcell hb0 d1
 have hbb1:b1 < W0.heap.size:=Nat.lt_of_lt_of_le hb1 hb0.size
 have ne0:=World.new_ne W0 _ x0
 have ne1:=World.new_ne W0 _ q0
 have ne2:=World.new_ne W0 _ z0
 go_cut [12] (fun s12 wx=>∃ eb,s12=.pointer (some ⟨eb,0,none⟩)/\W0.heap.size<=eb/\eb < wx.heap.size/\wx.cell? ⟨eb,0,none⟩=some (.int .i64 eid)/\wx.cell? ⟨eb,1,none⟩=some (.int .i64 ef)/\wx.cell? ⟨eb,2,none⟩=some (.int .i64 et)/\wx.cell? ⟨eb,3,none⟩=some (.int .i64 el)/\Below W0.heap.size W0 wx)
 case first =>
  go_region_held3 (fun w'=>w'.cell? ⟨w.heap.size,0,none⟩=some (.slice (some ⟨b1,o1,none⟩) g.vals.length c1)/\w'.cell? ⟨w.heap.size,1,none⟩=some (.slice (some ⟨b6,o6,none⟩) g.edges.length c2)/\w'.cell? ⟨w.heap.size+1+1,0,none⟩=some (.int .i64 sid)/\w'.cell? ⟨b6,o6+ix * 4,none⟩=some (.int .i64 eid)/\w'.cell? ⟨b6,o6+ix * 4+1,none⟩=some (.int .i64 ef)/\w'.cell? ⟨b6,o6+ix * 4+2,none⟩=some (.int .i64 et)/\w'.cell? ⟨b6,o6+ix * 4+3,none⟩=some (.int .i64 el))
   (first | (with_reducible exact kS7 ne0 ne0 ne2 ne1 ne1 ne1 ne1 (kS7 ne0 ne0 ne2 ne1 ne1 ne1 ne1 (kS7 ne0 ne0 ne2 ne1 ne1 ne1 ne1 (kS7 ne0 ne0 ne2 ne1 ne1 ne1 ne1 (by assumption))))) | (exact ⟨x0,x1,z0,q0,q1,q2,q3⟩) | assumption | (exact kB7 hbE ⟨x0,x1,z0,q0,q1,q2,q3⟩) | (exact kA7 _ ⟨x0,x1,z0,q0,q1,q2,q3⟩) | (exact kA7 _ (kB7 hbE ⟨x0,x1,z0,q0,q1,q2,q3⟩)) | (exact kB7 hbE (kA7 _ ⟨x0,x1,z0,q0,q1,q2,q3⟩)) | (exact kB7 hbE (by assumption)) | (exact kA7 _ (by assumption)) | go_keep)
   (first | (go_at_call 109;refine (HEI.out _ (by first | exact hb0.drew | exact (hb0.drew).alloc (by have:=hb0.size;simpa using this) _)).mono ?_;rintro en wE ⟨rfl,hbE⟩;have n0:=World.new_ne wE _ (kcell hbE (by first | exact x0 | exact kcell ((Below.refl _ _).alloc (Nat.le_refl _) _) x0));have n1:=World.new_ne wE _ (kcell hbE (by first | exact q0 | exact kcell ((Below.refl _ _).alloc (Nat.le_refl _) _) q0));have n2:=World.new_ne wE _ (kcell hbE (by first | exact z0 | exact kcell ((Below.refl _ _).alloc (Nat.le_refl _) _) z0)));(first | (have NC:=nc4 hbE (n:=W0.heap.size) rfl;obtain ⟨t0,t1,t2,t3,f0,f1,f2,f3⟩:=NC) | skip))
  all_goals (go_wp2_with fail)
  · go_meet
    exact ⟨_,rfl,hbE.size,by simp,by simp,by simp,by simp,by simp,(below_trans ((Below.refl W0.heap.size W0).drew) hbE).alloc hbE.size _⟩
  · go_meet
    have h9:=hbE.size
    have h8:W0.heap.size < wE.heap.size:=Nat.lt_of_lt_of_le (by simp) h9
    have h7:Below W0.heap.size W0 wE:=below_trans (((Below.refl W0.heap.size W0).alloc (Nat.le_refl _) _).drew) hbE
    exact ⟨_,rfl,Nat.le_refl _,by simpa using h8,by go_simp,by go_simp,by go_simp,by go_simp,(((h7.setCell (Nat.le_refl _) _).setCell (Nat.le_refl _) _).setCell (Nat.le_refl _) _).setCell (Nat.le_refl _) _⟩
 case rest =>
  obtain ⟨eb,rfl,hlo,hhi,e0,e1,e2,e3,hbc⟩:=hcut
  have x0:=kcell hbc x0
  have x1:=kcell hbc x1
  have y0:=kcell hbc y0
  have y1:=kcell hbc y1
  have y2:=kcell hbc y2
  have z0:=kcell hbc z0
  have z1:=kcell hbc z1
  have d1:=kcell hbc d1
  have hbw:=below_trans hb0 hbc
  have hsz:=hbc.size
  have l0:=Nat.lt_of_lt_of_le l0 hsz
  have l1:=Nat.lt_of_lt_of_le l1 hsz
  have l2:=Nat.lt_of_lt_of_le l2 hsz
  have hbb1:=Nat.lt_of_lt_of_le hbb1 hsz
  clear ne0 ne1 ne2 q0 q1 q2 q3 hb0 hbc
  go_wp2_with fail
  go_loopw [13,14] (fun mm qq wr=>∃ (q:Nat) (u:World),q<=a.accept.length/\qq=.int .i64 (q:Int)/\mm=.int .i64 (foldS a vx l SI q:Nat)/\wr=ext wc u) (fun _ qq _=>a.accept.length - (intOf qq).toNat)
  case atStart=>exact ⟨0,wc,Nat.zero_le _,rfl,rfl,ext_self _⟩
  case round =>
   obtain ⟨q,u,hq,rfl,rfl,rfl⟩:=hrel
   by_cases hlq:q < a.accept.length
   · have hqi:(q:Int) < (a.accept.length:Int):=by omega
     cases hb:SI.testBit q with
     | false =>
       have e3':=bit_off (by omega) (by omega) hb
       have HR:=Hd_ (show foldS a vx l SI q=foldS a vx l SI (q+1) from (foldS_no hb).symm)
       clear hb
       go_wp2_with fail
       go_roundw
       case rel=>exact ⟨q+1,u,by omega,by go_num,by rw [<- HR.out],rfl⟩
       case measure=>simp [intOf];omega
     | true =>
       have e3':=bit_on (by omega) (by omega) hb
       have HFS:=Hd_ (foldS_yes (v:=vx) (l:=l) HAO.out hlq hb)
       have hm0:=foldS_lt HAO.out vx l SI q
       have hcl:=cls_lt HAO.out vx q hlq
       have hcl4:=lt12 HAO.out hcl
       clear hb
       generalize foldS a vx l SI q=m0 at *
       have HM0:=Hd_ hm0
       clear hm0
       go_wp2_with fail
       refine wp_region_ext_lit (by kernel_rfl) (by kernel_rfl) ?_
       repeat (go_big_quiet_step ((go_at_call 110;exact Calls.ext_of (l14Closure_any _ a q vx _ (HAV.out.keep (below_trans hbw (below_trans (ext_below _ _) (ext_below _ _)))) HAO.out hlq (by omega)))))
       refine wpQuiet_nil ?_
       rintro _ ⟨u2,rfl⟩
       obtain ⟨u3,hu3⟩:=ext_of (below_trans (ext_below wc u) (ext_below (ext wc u) u2))
       rw [hu3]
       clear hu3 u2 u
       go_wp2_with fail
       generalize cls a vx q=C at *
       go_loopw [13,16] (fun mm rr wr=>∃ (r:Nat) (u:World),r<=a.accept.length/\rr=.int .i64 (r:Int)/\mm=.int .i64 (foldFr a l C m0 r:Nat)/\wr=ext wc u) (fun _ rr _=>a.accept.length - (intOf rr).toNat)
       case atStart=>exact ⟨0,u3,Nat.zero_le _,rfl,rfl,rfl⟩
       case round =>
        obtain ⟨r,u,hr,rfl,rfl,rfl⟩:=hrel
        by_cases hlr:r < a.accept.length
        · obtain ⟨b,o,b3,o3,c3',rfl,hbb,hrw,-,-,hb3,hmvs⟩:=HAC.out.row r hlr
          have r0:=kcell hbw hrw
          have r1:=kcell hbw (hmvs l (by omega))
          have hws:=hbw.size
          have hbb':b < wc.heap.size:=by omega
          have hb3':b3 < wc.heap.size:=by omega
          have hlri:(r:Int) < (a.accept.length:Int):=by omega
          have hlz:(l:Int) < 9:=by omega
          have hft:=foldFr_lt HAO.out l C m0 r HM0.out
          have hft4:=lt12 HAO.out hft
          have hmv:=mv_lt HAO.out r l
          have HNX:=Hd_ (show foldFr a l C m0 (r+1)=if C.testBit r=true then aft1 a l (foldFr a l C m0 r) r else foldFr a l C m0 r by by_cases hb:C.testBit r=true;rw [if_pos hb,foldFr_yes hb];rw [if_neg hb,foldFr_no (by simpa using hb)])
          have HA:=Hd_ (show aft1 a l (foldFr a l C m0 r) r=if 0<=mv a r l then ins (foldFr a l C m0 r) (mv a r l).toNat else foldFr a l C m0 r from rfl)
          generalize foldFr a l C m0 r=m1 at *
          clear hrw hmvs hft
          go_wp2_with fail
          refine wp_region_ext_lit (by kernel_rfl) (by kernel_rfl) ?_
          repeat (go_big_quiet_step ((go_at_call 111;exact Calls.ext_of (HLET.out _))))
          refine wpQuiet_nil ?_
          rintro _ ⟨u2,rfl⟩
          obtain ⟨u4,hu4⟩:=ext_of (below_trans (ext_below wc u) (ext_below (ext wc u) u2))
          rw [hu4]
          cases hb:C.testBit r with
          | false =>
            have b1f:=bit_off (by omega) (by omega) hb
            have HR:=Hd_ (show m1=foldFr a l C m0 (r+1) by rw [HNX.out,if_neg (by simp [hb])])
            clear hb
            go_wp2_with fail
            go_roundw
            case rel=>exact ⟨r+1,u4,by omega,by go_num,by rw [<- HR.out],rfl⟩
            case measure=>simp [intOf];omega
          | true =>
            have b1t:=bit_on (by omega) (by omega) hb
            have HNX:=Hd_ (HNX.out.trans (if_pos hb))
            clear hb
            by_cases h0:0<=mv a r l
            · have HR:=Hd_ (show ins m1 (mv a r l).toNat=foldFr a l C m0 (r+1) by rw [HNX.out,HA.out,if_pos h0])
              generalize mv a r l=z at *
              obtain ⟨z,rfl⟩:=Int.eq_ofNat_of_zero_le h0
              have e1':=shl_bit (s:=z) (by omega)
              have e2':=or_ins (m:=m1) (s:=z) (by omega) (by omega)
              go_wp2_with fail
              go_roundw
              case rel=>exact ⟨r+1,u4,by omega,by go_num,by rw [<- HR.out];simp,rfl⟩
              case measure=>simp [intOf];omega
            · have HR:=Hd_ (show m1=foldFr a l C m0 (r+1) by rw [HNX.out,HA.out,if_neg h0])
              have h0':decide (mv a r l >= 0)=false:=by simp;omega
              go_wp2_with fail
              go_roundw
              case rel=>exact ⟨r+1,u4,by omega,by go_num,by rw [<- HR.out],rfl⟩
              case measure=>simp [intOf];omega
        · obtain rfl:r=a.accept.length:=by omega
          go_wp2_with fail
          go_roundw
          case rel=>exact ⟨q+1,u,by omega,by go_num,by rw [HFS.out],rfl⟩
          case measure=>simp [intOf];omega
   · obtain rfl:q=a.accept.length:=by omega
     have hbE:=below_trans hbw (ext_below wc u)
     go_wp2_with fail
     refine (HTO.out _).mono ?_
     rintro en w9 ⟨rfl,hb9⟩
     go_wp2_with fail
     go_ret2
     exact ⟨rfl,below_trans hbE hb9⟩
set_option maxHeartbeats 4000000 in
theorem l18Ends_any (vg va:Value) (g:Gr) (a:Au) (x SI:Nat) (w:World) (hgv:GrV 0 w.heap.size w vg g) (hav:AuV 0 w.heap.size w va a) (hgo:grOk g=true) (ha:auOk a=true) (hx:x < g.vals.length) (hSI:SI < 2 ^ a.accept.length) :
 Calls Tryz.prog 101 #[vg,va,.int .i64 (x:Int),.int .i64 (SI:Int)] w fun en w'=>en=.returned (.bool (acc a SI (valAt g x)))/\Below w.heap.size w w':=by
 have hav0:=hav
 have hgv0:=hgv
 obtain ⟨A1,n1,c1,A2,n2,c2,rfl⟩:=hgv.shape
 obtain ⟨A3,c3,A4,c4,rfl,hl3,hm3,hl4,hm4,-⟩:=hav.form ha
 have hn12:=(auOk_iff.1 ha).1.2
 have hSI4:=lt12 ha hSI
 have hb0:Below w.heap.size w ((w.alloc (.cells #[.slice A1 n1 c1,.slice A2 n2 c2] 27)).alloc (.cells #[.int .i64 a.start,.slice A3 a.accept.length c3,.slice A4 a.accept.length c4] 31)):=((Below.refl _ _).alloc (Nat.le_refl _) _).alloc (by simp) _
 obtain ⟨R,hR⟩:∃ R,R=acc a SI (valAt g x):=⟨_,rfl⟩
 rw [<- hR]
 have HR:=Hd_ (show R=(mem a.accept.length SI).any (accC a (valAt g x)) by rw [hR,acc,mem12 ha hSI])
 have HGO:=Hd_ (grOk_iff.1 hgo)
 have HAO:=Hd_ ha
 have HAV:=Hd_ hav0
 have HGV:=Hd_ hgv0
 clear hgv hav ha hgo hav0 hgv0 hSI hR
 go_enter Tryz.func101,Tryz.ntmps101
 go_wp2_with fail
 obtain ⟨W0,hW0⟩:∃ W0,W0=((w.alloc (.cells #[.slice A1 n1 c1,.slice A2 n2 c2] 27)).alloc (.cells #[.int .i64 a.start,.slice A3 a.accept.length c3,.slice A4 a.accept.length c4] 31)):=⟨_,rfl⟩
 rw [<- hW0] at hb0 ⊢
 have x0:W0.cell? ⟨w.heap.size,0,none⟩=some (.slice A1 n1 c1):=by rw [hW0];simp
 have x1:W0.cell? ⟨w.heap.size,1,none⟩=some (.slice A2 n2 c2):=by rw [hW0];simp
 have y0:W0.cell? ⟨w.heap.size+1,0,none⟩=some (.int .i64 a.start):=by rw [hW0];simp
 have y1:W0.cell? ⟨w.heap.size+1,1,none⟩=some (.slice A3 a.accept.length c3):=by rw [hW0];simp
 have y2:W0.cell? ⟨w.heap.size+1,2,none⟩=some (.slice A4 a.accept.length c4):=by rw [hW0];simp
 have hs0:w.heap.size+1+1=W0.heap.size:=by rw [hW0];simp
 try rw [hs0]
 have l0:w.heap.size+1 < W0.heap.size:=by omega
 have l00:w.heap.size < W0.heap.size:=by omega
 clear hW0 hs0
 go_loopw [9] (fun qq wr=>∃ (q:Nat) (u:World),q<=a.accept.length/\qq=.int .i64 (q:Int)/\(mem q SI).any (accC a (valAt g x))=false/\wr=ext W0 u) (fun qq _=>a.accept.length - (intOf qq).toNat)
 case atStart=>exact ⟨0,W0,Nat.zero_le _,rfl,rfl,ext_self _⟩
 case round =>
  obtain ⟨q,u,hq,rfl,hno,rfl⟩:=hrel
  have HNO:=Hd_ hno
  clear hno
  have hbE:=below_trans hb0 (ext_below W0 u)
  by_cases hlq:q < a.accept.length
  · have hqi:(q:Int) < (a.accept.length:Int):=by omega
    cases hb:SI.testBit q with
    | false =>
      have e3':=bit_off (by omega) (by omega) hb
      have HM:=Hd_ (mem_no hb)
      clear hb
      go_wp2_with fail
      go_roundw
      case rel=>exact ⟨q+1,u,by omega,by go_num,by rw [HM.out];exact HNO.out,rfl⟩
      case measure=>simp [intOf];omega
    | true =>
      have e3':=bit_on (by omega) (by omega) hb
      have HM:=Hd_ (mem_yes hb)
      have HB:=Hd_ hb
      have hacc:=l14Accepts_any _ _ g a x q (ext W0 u) (HGV.out.keep hbE) (HAV.out.keep hbE) HGO.out HAO.out hx hlq
      have HACC:=Hd_ hacc
      clear hb hacc
      cases hc:accC a (valAt g x) q with
      | true =>
        rw [hc] at HACC
        have hfin:R=true:=by rw [HR.out];exact List.any_eq_true.2 ⟨q,mem_mem.2 ⟨hlq,HB.out⟩,hc⟩
        subst hfin
        clear HR hc
        go_wp2_with fail
        refine HACC.out.mono ?_
        rintro en w1 ⟨rfl,hb1⟩
        go_wp2_with fail
        go_ret
        exact ⟨rfl,below_trans hbE hb1⟩
      | false =>
        rw [hc] at HACC
        have HC:=Hd_ hc
        clear hc
        go_wp2_with fail
        refine HACC.out.mono ?_
        rintro en w1 ⟨rfl,hb1⟩
        obtain ⟨u4,hu4⟩:=ext_of (below_trans (ext_below W0 u) hb1)
        subst hu4
        go_wp2_with fail
        go_roundw
        case rel=>exact ⟨q+1,u4,by omega,by go_num,by rw [HM.out,List.any_append,HNO.out];simp only [List.any_cons,List.any_nil,Bool.or_false,Bool.false_or];exact HC.out,rfl⟩
        case measure=>simp [intOf];omega
  · obtain rfl:q=a.accept.length:=by omega
    have hfin:R=false:=by rw [HR.out];exact HNO.out
    subst hfin
    clear HR
    go_wp2_with fail
    go_ret
    exact ⟨rfl,hbE⟩
end Go.Proofs.YtjpdembmchnbgaaGreat
namespace Go.Proofs.YtjpdembmchnbgaaGreat
open Go.ChangeShapes Go.WideShapes Go.ChangeAt Go.RowKit
def cntC (g:Gr) (a:Au) (rec:Nat->Nat->Nat->Int) (x s used:Nat) (n:Int) (p:Arc):Int :=
 if aft a s (valAt g x) p.2.1.toNat=0 ∨ used.testBit p.2.2.toNat=true then n
 else wrap64 (n+rec p.2.2.toNat (aft a s (valAt g x) p.2.1.toNat) (ins used p.2.2.toNat))
def cnt0 (g:Gr) (a:Au) (y:Int) (x s:Nat):Int:=if decide ((x:Int)=y) && acc a s (valAt g x) then 1 else 0
def cnt (g:Gr) (a:Au) (y:Int):Nat->Nat->Nat->Nat->Int
 | 0,_,_,_=>0
 | f+1,x,s,used=>(arcsOf g (x:Int)).foldl (cntC g a (cnt g a y f) x s used) (cnt0 g a y x s)
theorem arc_stepEd {g:Gr} (hgo:grOk g=true) {x:Int} {p:Arc} (hp:p ∈ arcsOf g x):∃ e:Ed,stepEd g p.1.1=some e/\arcLetter p.1.2 e=p.2.1/\arcTo p.1.2 e=p.2.2:=by
 have hg:=grOk_iff.1 hgo
 obtain ⟨i,e,hi,hie,hl,ht,hid,hm⟩:=arc_edge hg hp
 cases hs:stepEd g p.1.1 with
 | none =>
   rw [stepEd,if_pos hgo,List.find?_eq_none] at hs
   exact absurd (hs e hm) (by simp [hid])
 | some e2 =>
   obtain ⟨ix,h1,h2⟩:=stepEd_idx hs
   have:ix=i:=by omega
   subst this
   rw [hie] at h2
   injection h2 with h2
   subst h2
   exact ⟨e,rfl,hl.symm,ht.symm⟩
def cntOk (g:Gr) (a:Au) (x y:Int):Bool:=wi x 0 ((g.vals.length:Int) - 1) && (wi y 0 ((g.vals.length:Int) - 1) && (grOk g && auOk a))
/-- a state that is at most lf steps from the end -/
def hopeC (D:List Int) (n x lf q:Nat):Bool:=wi (D.getD (x * n+q) 0) 0 (lf:Int)
def hope (D:List Int) (n x s lf:Nat):Bool:=(mem 12 s).any (hopeC D n x lf)
def keyA (sm:Bool) (p:Arc):Int:=if sm then p.2.2 else p.1.1
def skipA (g:Gr) (a:Au) (D:List Int) (sm:Bool) (x s:Nat) (us:List Int) (lf:Nat) (p:Arc):Bool :=
 decide (aft a s (valAt g x) p.2.1.toNat=0) || (us.contains (keyA sm p) || !hope D a.accept.length p.2.2.toNat (aft a s (valAt g x) p.2.1.toNat) lf)
abbrev Vis:=Option (List St) × Nat
def visC (g:Gr) (a:Au) (D:List Int) (sm:Bool) (rec:Nat->Nat->List Int->Nat->Vis) (x s:Nat) (us:List Int) (lf:Nat):List Arc->Nat->Vis
 | [],c=>(none,c)
 | p :: ps,c=>if skipA g a D sm x s us lf p=true then visC g a D sm rec x s us lf ps c else
   match rec p.2.2.toNat (aft a s (valAt g x) p.2.1.toNat) (us ++ [keyA sm p]) c with
   | (some r,c')=>(some (p.1 :: r),c')
   | (none,c')=>visC g a D sm rec x s us lf ps c'
def visit (g:Gr) (a:Au) (y:Int) (B:Nat) (D:List Int) (sm:Bool):Nat->Nat->Nat->List Int->Nat->Vis
 | 0,x,s,_,c=>if B<=c then (none,c) else (if (decide ((x:Int)=y) && acc a s (valAt g x))=true then some [] else none,c+1)
 | lf+1,x,s,us,c=>if B<=c then (none,c) else visC g a D sm (visit g a y B D sm lf) x s us lf (arcsOf g (x:Int)) (c+1)
/-- what is left of a visit at arc i -/
def visF (g:Gr) (a:Au) (y:Int) (B:Nat) (D:List Int) (sm:Bool) (lf x s:Nat) (us:List Int) (i c:Nat):Vis:=visC g a D sm (visit g a y B D sm lf) x s us lf ((arcsOf g (x:Int)).drop i) c
section
variable {g:Gr} {a:Au} {y:Int} {B:Nat} {D:List Int} {sm:Bool} {lf x s:Nat} {us:List Int} {i c:Nat}
theorem visit_out (h:B<=c):visit g a y B D sm lf x s us c=(none,c):=by
 cases lf with
 | zero=>rw [visit,if_pos h]
 | succ lf=>rw [visit,if_pos h]
theorem visit_zero (h:c < B):visit g a y B D sm 0 x s us c=(if (decide ((x:Int)=y) && acc a s (valAt g x))=true then some [] else none,c+1):=by rw [visit,if_neg (by omega)]
def endV (b:Bool) (c:Nat):Vis:=(if b=true then some [] else none,c)
theorem endV_some (b:Bool) (c:Nat):(endV b c).1.isSome=b:=by cases b <;> rfl
theorem endV_get (b:Bool) (c:Nat):(endV b c).1.getD []=[]:=by cases b <;> rfl
theorem endV_two (b:Bool) (c:Nat):(endV b c).2=c:=rfl
theorem visit_zeroV (h:c < B):visit g a y B D sm 0 x s us c=endV (decide ((x:Int)=y) && acc a s (valAt g x)) (c+1):=visit_zero h
theorem visit_succ (h:c < B):visit g a y B D sm (lf+1) x s us c=visF g a y B D sm lf x s us 0 (c+1):=by rw [visit,if_neg (by omega),visF,List.drop_zero]
theorem visF_end:visF g a y B D sm lf x s us (arcsOf g (x:Int)).length c=(none,c):=by rw [visF,List.drop_length,visC]
theorem drop_at {α:Type} {l:List α} {i:Nat} {p:α} (h:l[i]?=some p):l.drop i=p :: l.drop (i+1):=by
 obtain ⟨h1,h2⟩:=List.getElem?_eq_some_iff.1 h
 rw [List.drop_eq_getElem_cons h1,h2]
theorem visF_skip {p:Arc} (h:(arcsOf g (x:Int))[i]?=some p) (hs:skipA g a D sm x s us lf p=true):visF g a y B D sm lf x s us i c=visF g a y B D sm lf x s us (i+1) c:=by
 rw [visF,drop_at h,visC,if_pos hs,visF]
theorem visF_yes {p:Arc} {r:List St} {c':Nat} (h:(arcsOf g (x:Int))[i]?=some p) (hs:¬ skipA g a D sm x s us lf p=true)
 (hr:visit g a y B D sm lf p.2.2.toNat (aft a s (valAt g x) p.2.1.toNat) (us ++ [keyA sm p]) c=(some r,c')):visF g a y B D sm lf x s us i c=(some (p.1 :: r),c'):=by
 rw [visF,drop_at h,visC,if_neg hs,hr]
theorem visF_no {p:Arc} {c':Nat} (h:(arcsOf g (x:Int))[i]?=some p) (hs:¬ skipA g a D sm x s us lf p=true)
 (hr:visit g a y B D sm lf p.2.2.toNat (aft a s (valAt g x) p.2.1.toNat) (us ++ [keyA sm p]) c=(none,c')):visF g a y B D sm lf x s us i c=visF g a y B D sm lf x s us (i+1) c':=by
 rw [visF,drop_at h,visC,if_neg hs,hr,visF]
theorem skipA_eq {p:Arc} {t M:Nat} {k:Int} (ht:p.2.2=(t:Int)) (hm:aft a s (valAt g x) p.2.1.toNat=M) (hk:keyA sm p=k):skipA g a D sm x s us lf p=(decide (M=0) || (us.contains k || !hope D a.accept.length t M lf)):=by rw [skipA,hm,hk,ht,Int.toNat_natCast]
theorem visF_skip2 {p:Arc} {t M:Nat} {k:Int} (h:(arcsOf g (x:Int))[i]?=some p) (ht:p.2.2=(t:Int)) (hm:aft a s (valAt g x) p.2.1.toNat=M) (hk:keyA sm p=k) (hs:(decide (M=0) || (us.contains k || !hope D a.accept.length t M lf))=true) :
 visF g a y B D sm lf x s us i c=visF g a y B D sm lf x s us (i+1) c:=visF_skip h (by rw [skipA_eq ht hm hk,hs])
theorem visF_yes2 {p:Arc} {t M:Nat} {k:Int} {r:List St} {c':Nat} (h:(arcsOf g (x:Int))[i]?=some p) (ht:p.2.2=(t:Int)) (hm:aft a s (valAt g x) p.2.1.toNat=M) (hk:keyA sm p=k) (hs:(decide (M=0) || (us.contains k || !hope D a.accept.length t M lf))=false)
 (hr:visit g a y B D sm lf t M (us ++ [k]) c=(some r,c')):visF g a y B D sm lf x s us i c=(some (p.1 :: r),c'):=visF_yes h (by rw [skipA_eq ht hm hk,hs];simp) (by rw [hm,hk,ht,Int.toNat_natCast];exact hr)
theorem visF_no2 {p:Arc} {t M:Nat} {k:Int} {c':Nat} (h:(arcsOf g (x:Int))[i]?=some p) (ht:p.2.2=(t:Int)) (hm:aft a s (valAt g x) p.2.1.toNat=M) (hk:keyA sm p=k) (hs:(decide (M=0) || (us.contains k || !hope D a.accept.length t M lf))=false)
 (hr:visit g a y B D sm lf t M (us ++ [k]) c=(none,c')):visF g a y B D sm lf x s us i c=visF g a y B D sm lf x s us (i+1) c':=visF_no h (by rw [skipA_eq ht hm hk,hs];simp) (by rw [hm,hk,ht,Int.toNat_natCast];exact hr)
theorem visC_le {rec:Nat->Nat->List Int->Nat->Vis} {N:Nat} (hrec:∀ x s us c,c<=N->(rec x s us c).2<=N/\c<=(rec x s us c).2):∀ (l:List Arc) (c:Nat),c<=N->(visC g a D sm rec x s us lf l c).2<=N/\c<=(visC g a D sm rec x s us lf l c).2
 | [],c,h=>⟨h,Nat.le_refl _⟩
 | p :: l,c,h=>by
   rw [visC]
   split
   · exact visC_le hrec l c h
   · have h1:=hrec p.2.2.toNat (aft a s (valAt g x) p.2.1.toNat) (us ++ [keyA sm p]) c h
     split
     · rename_i r c' e
       rw [e] at h1
       exact h1
     · rename_i c' e
       rw [e] at h1
       have h2:=visC_le hrec l c' h1.1
       exact ⟨h2.1,Nat.le_trans h1.2 h2.2⟩
theorem visit_le:∀ (lf x s:Nat) (us:List Int) (c:Nat),c<=B->(visit g a y B D sm lf x s us c).2<=B/\c<=(visit g a y B D sm lf x s us c).2:=by
 intro lf
 induction lf with
 | zero =>
   intro x s us c h
   rw [visit]
   split
   · exact ⟨h,Nat.le_refl _⟩
   · simp only
     omega
 | succ lf ih =>
   intro x s us c h
   rw [visit]
   split
   · exact ⟨h,Nat.le_refl _⟩
   · have:=visC_le (g:=g) (a:=a) (D:=D) (sm:=sm) (x:=x) (s:=s) (us:=us) (lf:=lf) ih (arcsOf g (x:Int)) (c+1) (by omega)
     omega
theorem visC_len {rec:Nat->Nat->List Int->Nat->Vis} {k:Nat} (hrec:∀ x s us c r,(rec x s us c).1=some r->r.length=k):∀ (l:List Arc) (c:Nat) (r:List St),(visC g a D sm rec x s us lf l c).1=some r->r.length=k+1
 | [],c,r,h=>by cases h
 | p :: l,c,r,h=>by
   rw [visC] at h
   split at h
   · exact visC_len hrec l c r h
   · have h1:=hrec p.2.2.toNat (aft a s (valAt g x) p.2.1.toNat) (us ++ [keyA sm p]) c
     split at h
     · rename_i r' c' e
       injection h with h
       subst h
       rw [e] at h1
       rw [List.length_cons,h1 r' rfl]
     · exact visC_len hrec l _ r h
theorem visit_len:∀ (lf x s:Nat) (us:List Int) (c:Nat) (r:List St),(visit g a y B D sm lf x s us c).1=some r->r.length=lf:=by
 intro lf
 induction lf with
 | zero =>
   intro x s us c r h
   rw [visit] at h
   split at h
   · cases h
   · simp only at h
     split at h
     · injection h with h
       rw [<- h];rfl
     · cases h
 | succ lf ih =>
   intro x s us c r h
   rw [visit] at h
   split at h
   · cases h
   · exact visC_len ih _ _ r h
end
/-- one length after another -/
def srchF (g:Gr) (a:Au) (y:Int) (B:Nat) (D:List Int) (sm:Bool) (x s:Nat) (us:List Int):Nat->Nat->Nat->Wk × Int
 | 0,_,_=>((0,[]),2)
 | k+1,lf,c=>if hope D a.accept.length x s lf=true then
     match visit g a y B D sm lf x s us c with
     | (some r,_)=>(((x:Int),r),1)
     | (none,c')=>if B<=c' then ((0,[]),3) else srchF g a y B D sm x s us k (lf+1) c'
   else srchF g a y B D sm x s us k (lf+1) c
section
variable {g:Gr} {a:Au} {y:Int} {B:Nat} {D:List Int} {sm:Bool} {lf x s:Nat} {us:List Int} {k c:Nat}
theorem srchF_no (h:hope D a.accept.length x s lf=false):srchF g a y B D sm x s us (k+1) lf c=srchF g a y B D sm x s us k (lf+1) c:=by rw [srchF,h];rfl
theorem srchF_yes {r:List St} {c':Nat} (h:hope D a.accept.length x s lf=true) (hv:visit g a y B D sm lf x s us c=(some r,c')):srchF g a y B D sm x s us (k+1) lf c=(((x:Int),r),1):=by rw [srchF,if_pos h,hv]
theorem srchF_out {c':Nat} (h:hope D a.accept.length x s lf=true) (hv:visit g a y B D sm lf x s us c=(none,c')) (hc:B<=c'):srchF g a y B D sm x s us (k+1) lf c=((0,[]),3):=by
 rw [srchF,if_pos h,hv]
 simp only
 rw [if_pos hc]
theorem srchF_on {c':Nat} (h:hope D a.accept.length x s lf=true) (hv:visit g a y B D sm lf x s us c=(none,c')) (hc:¬ B<=c'):srchF g a y B D sm x s us (k+1) lf c=srchF g a y B D sm x s us k (lf+1) c':=by
 rw [srchF,if_pos h,hv]
 simp only
 rw [if_neg hc]
end
def srchN (g:Gr) (sm:Bool):Nat:=if sm then g.vals.length else g.edges.length+1
def srchU (sm:Bool) (x:Nat):List Int:=if sm then [(x:Int)] else []
def srchOk (g:Gr) (a:Au) (x y B:Int):Bool:=cntOk g a x y && wi B 1 20000
def srchL (g:Gr) (a:Au) (x y B:Int) (sm:Bool):Wk × Int :=
 if srchOk g a x y B=true then srchF g a y B.toNat (distTo g a y) sm x.toNat (bit a.start.toNat) (srchU sm x.toNat) (srchN g sm) 0 0 else ((0,[]),0)
def cwStep (g:Gr) (a:Au) (rec:Nat->Nat->Nat) (x s n:Nat) (p:Arc):Nat:=min 1000000 (n+rec p.2.2.toNat (aft a s (valAt g x) p.2.1.toNat))
/-- the walks of f steps from node x with states s to y, at most a million -/
def cw (g:Gr) (a:Au) (y:Int):Nat->Nat->Nat->Nat
 | 0,x,s=>if (decide ((x:Int)=y) && acc a s (valAt g x))=true then 1 else 0
 | f+1,x,s=>(arcsOf g (x:Int)).foldl (cwStep g a (cw g a y f) x s) 0
theorem mem_of_zero:∀ k:Nat,mem k 0=[]
 | 0=>rfl
 | k+1=>by rw [mem_no (by simp),mem_of_zero k]
theorem aft_none (a:Au) (v l:Nat):aft a 0 v l=0:=by rw [aft,mem_of_zero];rfl
theorem acc_none (a:Au) (v:Nat):acc a 0 v=false:=by rw [acc,mem_of_zero];rfl
theorem cw_none (g:Gr) (a:Au) (y:Int):∀ (f x:Nat),cw g a y f x 0=0
 | 0,x=>by rw [cw,acc_none];simp
 | f+1,x=>by
   rw [cw]
   generalize arcsOf g (x:Int)=l
   induction l with
   | nil=>rfl
   | cons p l ih =>
     rw [List.foldl_cons,cwStep,aft_none,cw_none g a y f]
     exact ih
abbrev Key:=Nat × Nat
def cntL (C:List Nat) (n:Nat) (e:St × Nat):Nat:=min 1000000 (n+C.getD e.2 0)
inductive RowR (g:Gr) (a:Au) (x s:Nat) (N:List Key):List Arc->List (St × Nat)->Prop
 | nil:RowR g a x s N [] []
 | skip {p:Arc} {l:List Arc} {T:List (St × Nat)}:aft a s (valAt g x) p.2.1.toNat=0->RowR g a x s N l T->RowR g a x s N (p :: l) T
 | take {p:Arc} {l:List Arc} {T:List (St × Nat)} {i:Nat}:aft a s (valAt g x) p.2.1.toNat ≠ 0->N[i]?=some (p.2.2.toNat,aft a s (valAt g x) p.2.1.toNat)->RowR g a x s N l T->RowR g a x s N (p :: l) ((p.1,i) :: T)
theorem RowR.more {g:Gr} {a:Au} {x s:Nat} {N:List Key} {l:List Arc} {T:List (St × Nat)} (h:RowR g a x s N l T) (N3:List Key):RowR g a x s (N ++ N3) l T:=by
 induction h with
 | nil=>exact .nil
 | skip h1 _ ih=>exact .skip h1 ih
 | take h1 h2 _ ih=>exact .take h1 (by rw [List.getElem?_append_left (List.getElem?_eq_some_iff.1 h2).1];exact h2) ih
theorem RowR.cnt {g:Gr} {a:Au} {y:Int} {f x s:Nat} {N:List Key} {C:List Nat} (hC:∀ i k,N[i]?=some k->C.getD i 0=cw g a y f k.1 k.2) {l:List Arc} {T:List (St × Nat)} (h:RowR g a x s N l T) :
 ∀ n,n<=1000000->T.foldl (cntL C) n=l.foldl (cwStep g a (cw g a y f) x s) n:=by
 induction h with
 | nil=>intro n _;rfl
 | skip h1 _ ih =>
   intro n hn
   rw [List.foldl_cons,cwStep,h1,cw_none,Nat.add_zero,Nat.min_eq_right hn]
   exact ih n hn
 | take h1 h2 _ ih =>
   intro n hn
   rw [List.foldl_cons,List.foldl_cons,cntL,cwStep,hC _ _ h2]
   exact ih _ (Nat.min_le_left _ _)
/-- the first of l before which fewer than n are counted: and what is left of n -/
def pick {α:Type} (k:α->Nat):List α->Nat->Option (α × Nat)
 | [],_=>none
 | p :: l,n=>if n < k p then some (p,n) else pick k l (n - k p)
def cwAt (g:Gr) (a:Au) (y:Int) (f x s:Nat) (p:Arc):Nat:=cw g a y f p.2.2.toNat (aft a s (valAt g x) p.2.1.toNat)
theorem RowR.pick {g:Gr} {a:Au} {y:Int} {f x s:Nat} {N:List Key} {C:List Nat} (hC:∀ i k,N[i]?=some k->C.getD i 0=cw g a y f k.1 k.2) {l:List Arc} {T:List (St × Nat)} (h:RowR g a x s N l T) :
 ∀ n,(pick (fun e:St × Nat=>C.getD e.2 0) T n=none/\Go.Proofs.YtjpdembmchnbgaaGreat.pick (cwAt g a y f x s) l n=none) ∨
   ∃ p i n',pick (fun e:St × Nat=>C.getD e.2 0) T n=some ((p.1,i),n')/\Go.Proofs.YtjpdembmchnbgaaGreat.pick (cwAt g a y f x s) l n=some (p,n')/\N[i]?=some (p.2.2.toNat,aft a s (valAt g x) p.2.1.toNat)/\p ∈ l:=by
 induction h with
 | nil=>intro n;exact .inl ⟨rfl,rfl⟩
 | @skip p0 l0 T0 h1 _ ih =>
   intro n
   have hz:¬ n < cwAt g a y f x s p0:=by rw [cwAt,h1,cw_none];omega
   have hz2:n - cwAt g a y f x s p0=n:=by rw [cwAt,h1,cw_none];omega
   rcases ih n with ⟨e1,e2⟩ | ⟨p,i,n',e1,e2,e3,e4⟩
   · exact .inl ⟨e1,by rw [Go.Proofs.YtjpdembmchnbgaaGreat.pick,if_neg hz,hz2,e2]⟩
   · exact .inr ⟨p,i,n',e1,by rw [Go.Proofs.YtjpdembmchnbgaaGreat.pick,if_neg hz,hz2,e2],e3,List.mem_cons_of_mem _ e4⟩
 | @take p l T i h1 h2 _ ih =>
   intro n
   have hc:C.getD i 0=cwAt g a y f x s p:=hC _ _ h2
   by_cases hn:n < cwAt g a y f x s p
   · exact .inr ⟨p,i,n,by rw [Go.Proofs.YtjpdembmchnbgaaGreat.pick,if_pos (by rw [hc];exact hn)],by rw [Go.Proofs.YtjpdembmchnbgaaGreat.pick,if_pos hn],h2,List.mem_cons_self ..⟩
   · rcases ih (n - cwAt g a y f x s p) with ⟨e1,e2⟩ | ⟨p',i',n',e1,e2,e3,e4⟩
     · exact .inl ⟨by rw [Go.Proofs.YtjpdembmchnbgaaGreat.pick,if_neg (by rw [hc];exact hn)];simp only [hc];exact e1,by rw [Go.Proofs.YtjpdembmchnbgaaGreat.pick,if_neg hn,e2]⟩
     · exact .inr ⟨p',i',n',by rw [Go.Proofs.YtjpdembmchnbgaaGreat.pick,if_neg (by rw [hc];exact hn)];simp only [hc];exact e1,by rw [Go.Proofs.YtjpdembmchnbgaaGreat.pick,if_neg hn,e2],e3,List.mem_cons_of_mem _ e4⟩
end Go.Proofs.YtjpdembmchnbgaaGreat
namespace Go.Proofs.YtjpdembmchnbgaaGreat
theorem nodup_subN:∀ (s l:List Nat),s.Nodup->(∀ x ∈ s,x ∈ l)->s.length<=l.length
 | [],_,_,_=>Nat.zero_le _
 | x :: s,l,hn,h=>by
   obtain ⟨h1,h2⟩:=List.nodup_cons.1 hn
   have hx:=h x (by simp)
   have:=nodup_subN s (l.erase x) h2 (fun y hy=>by
    have hne:y ≠ x:=fun e=>h1 (e ▸ hy)
    exact (List.mem_erase_of_ne hne).2 (h y (List.mem_cons_of_mem _ hy)))
   rw [List.length_erase_of_mem hx] at this
   have hp:=List.length_pos_of_mem hx
   rw [List.length_cons]
   omega
end Go.Proofs.YtjpdembmchnbgaaGreat
namespace Go.Proofs.YtjpdembmchnbgaaGreat
open Go.ChangeShapes Go.WideShapes Go.ChangeAt Go.RowKit
structure KeysOk (g:Gr) (a:Au) (N:List Key):Prop where
 nod:N.Nodup
 rng:∀ k ∈ N,k.1 < g.vals.length/\k.2 < 2 ^ a.accept.length
theorem KeysOk.push {g:Gr} {a:Au} {N:List Key} (h:KeysOk g a N) {k:Key} (hk:k ∉ N) (hr:k.1 < g.vals.length/\k.2 < 2 ^ a.accept.length):KeysOk g a (N ++ [k]):=by
 refine ⟨List.nodup_append.2 ⟨h.nod,by simp,fun b hb c hc e=>?_⟩,fun u hu=>?_⟩
 · rw [List.mem_singleton] at hc
   subst hc e
   exact hk hb
 · rcases List.mem_append.1 hu with hu | hu
   · exact h.rng u hu
   · rw [List.mem_singleton] at hu
     subst hu
     exact hr
theorem KeysOk.len {g:Gr} {a:Au} (hg:GrOk g) (ha:auOk a=true) {N:List Key} (h:KeysOk g a N):N.length<=20480:=by
 have h1:=nodup_subN (N.map fun z=>z.1 * 4096+z.2) (List.range 20480) ?_ ?_
 · simpa using h1
 · rw [List.Nodup,List.pairwise_map]
   refine List.Pairwise.imp_of_mem ?_ h.nod
   intro b c hb hc hne he
   refine hne ?_
   have hb:=lt12 ha (h.rng b hb).2
   have hc:=lt12 ha (h.rng c hc).2
   exact Prod.ext (by omega) (by omega)
 · intro u hu
   obtain ⟨z,hz,rfl⟩:=List.mem_map.1 hu
   have hb:=h.rng z hz
   have hb2:=lt12 ha hb.2
   have:=hg.n5
   rw [List.mem_range]
   omega
def cntF (C:Nat->Nat) (n:Nat) (e:St × Nat):Nat:=min 1000000 (n+C e.2)
theorem RowR.cntF {g:Gr} {a:Au} {y:Int} {f x s:Nat} {N:List Key} {C:Nat->Nat} (hC:∀ i k,N[i]?=some k->C i=cw g a y f k.1 k.2) {l:List Arc} {T:List (St × Nat)} (h:RowR g a x s N l T) :
 ∀ n,n<=1000000->T.foldl (Go.Proofs.YtjpdembmchnbgaaGreat.cntF C) n=l.foldl (cwStep g a (cw g a y f) x s) n:=by
 induction h with
 | nil=>intro n _;rfl
 | skip h1 _ ih =>
   intro n hn
   rw [List.foldl_cons,cwStep,h1,cw_none,Nat.add_zero,Nat.min_eq_right hn]
   exact ih n hn
 | take h1 h2 _ ih =>
   intro n hn
   rw [List.foldl_cons,List.foldl_cons,Go.Proofs.YtjpdembmchnbgaaGreat.cntF,cwStep,hC _ _ h2]
   exact ih _ (Nat.min_le_left _ _)
theorem RowR.len {g:Gr} {a:Au} {x s:Nat} {N:List Key} {l:List Arc} {T:List (St × Nat)} (h:RowR g a x s N l T):T.length<=l.length:=by
 induction h with
 | nil=>exact Nat.le_refl _
 | skip _ _ ih=>rw [List.length_cons];omega
 | take _ _ _ ih=>simp only [List.length_cons];omega
theorem shortLen_dist {g:Gr} {a:Au} {x y:Nat} (hg:grOk g=true) (ha:auOk a=true) (hx:x < g.vals.length) (hy:y < g.vals.length) :
 IsDist (nextI g a) (fun i=>i ∈ goalsL g a y) (x * a.accept.length+a.start.toNat) (shortLen g a (x:Int) (y:Int)):=by
 have hd:(wi (y:Int) 0 ((g.vals.length:Int) - 1) && (grOk g && auOk a))=true:=by
  simp only [Bool.and_eq_true]
  exact ⟨by rw [wi_iff];omega,hg,ha⟩
 have hN:∀ i k,i < g.vals.length * a.accept.length->k ∈ nextI g a i->k < g.vals.length * a.accept.length:=fun i k _ hk=>nextV_lt (grOk_iff.1 hg) ha hk
 have hfs:∀ i ∈ goalsL g a y,i < g.vals.length * a.accept.length:=fun i hi=>by
  obtain ⟨s,hs,_,rfl⟩:=mem_goalsL.1 hi
  calc y * a.accept.length+s < y * a.accept.length+a.accept.length:=by omega
   _=(y+1) * a.accept.length:=by rw [Nat.add_mul,Nat.one_mul]
   _<=_:=Nat.mul_le_mul_right _ hy
 obtain ⟨⟨_,hn⟩,⟨h0,h1⟩,-,-⟩:=auOk_iff.1 ha
 have hi:x * a.accept.length+a.start.toNat < g.vals.length * a.accept.length:=by
  calc x * a.accept.length+a.start.toNat < x * a.accept.length+a.accept.length:=by omega
   _=(x+1) * a.accept.length:=by rw [Nat.add_mul,Nat.one_mul]
   _<=_:=Nat.mul_le_mul_right _ hx
 rw [shortLen,if_pos (by rw [Bool.and_eq_true];exact ⟨by rw [wi_iff];omega,hd⟩),distTo,if_pos hd,Int.toNat_natCast,Int.toNat_natCast]
 exact spread_dist hfs hN _ hi
theorem cntOk_iff {g:Gr} {a:Au} {x y:Int}:cntOk g a x y=true ↔ (0<=x/\x < (g.vals.length:Int))/\(0<=y/\y < (g.vals.length:Int))/\grOk g=true/\auOk a=true:=by
 rw [cntOk]
 simp only [Bool.and_eq_true,wi_iff]
 constructor
 · rintro ⟨h1,h2,h3,h4⟩;exact ⟨by omega,by omega,h3,h4⟩
 · rintro ⟨h1,h2,h3,h4⟩;exact ⟨by omega,by omega,h3,h4⟩
def cwI (g:Gr) (a:Au) (x y:Int) (f:Nat):Nat:=cw g a y f x.toNat (bit a.start.toNat)
theorem aft1_test (a:Au) (l m t u:Nat):(aft1 a l m t).testBit u=(m.testBit u || decide (mv a t l=(u:Int))):=by
 unfold aft1
 split
 · rename_i h
   rw [ins_test]
   congr 1
   apply decide_eq_decide.2
   omega
 · rename_i h
   have:¬ mv a t l=(u:Int):=by omega
   simp [this]
theorem aftF1_test (a:Au) (l u:Nat):∀ (L:List Nat) (m:Nat),(L.foldl (aft1 a l) m).testBit u=(m.testBit u || L.any fun t=>decide (mv a t l=(u:Int)))
 | [],m=>by simp
 | t :: L,m=>by rw [List.foldl_cons,aftF1_test a l u L,aft1_test,List.any_cons,Bool.or_assoc]
theorem aftFS_test (a:Au) (v l u:Nat):∀ (L:List Nat) (m:Nat),(L.foldl (aftS a v l) m).testBit u=(m.testBit u || L.any fun s=>(mem 12 (cls a v s)).any fun t=>decide (mv a t l=(u:Int)))
 | [],m=>by simp
 | s :: L,m=>by rw [List.foldl_cons,aftFS_test a v l u L,aftS,aftF1_test,List.any_cons,Bool.or_assoc]
theorem aft_test (a:Au) (S v l u:Nat):(aft a S v l).testBit u=(mem 12 S).any fun s=>(mem 12 (cls a v s)).any fun t=>decide (mv a t l=(u:Int)):=by rw [aft,aftFS_test,Nat.zero_testBit,Bool.false_or]
theorem test_lt {n S s:Nat} (hS:S < 2 ^ n) (h:S.testBit s=true):s < n:=by
 rcases Nat.lt_or_ge s n with h1 | h1
 · exact h1
 · rw [Nat.testBit_lt_two_pow (Nat.lt_of_lt_of_le hS (Nat.pow_le_pow_right (by omega) h1))] at h;cases h
theorem aft_any {a:Au} (ha:auOk a=true) {S:Nat} (hS:S < 2 ^ a.accept.length) (v l u:Nat):(aft a S v l).testBit u=true ↔ ∃ s,S.testBit s=true/\(aft a (bit s) v l).testBit u=true:=by
 have hn:=(auOk_iff.1 ha).1.2
 rw [aft_test,List.any_eq_true]
 constructor
 · rintro ⟨s,hs,h⟩
   rw [mem_mem] at hs
   exact ⟨s,hs.2,by rw [aft_test,mem_pow hs.1,List.any_cons,h];rfl⟩
 · rintro ⟨s,hs,h⟩
   have hs12:s < 12:=by have:=test_lt hS hs;omega
   rw [aft_test,mem_pow hs12] at h
   exact ⟨s,mem_mem.2 ⟨hs12,hs⟩,by simpa using h⟩
/-- vertex (x, q) reaches an accepting end at y in exactly f steps -/
def hitK (g:Gr) (a:Au) (y f x q:Nat):Prop:=toG (nextI g a) (fun i=>i ∈ goalsL g a y) f (x * a.accept.length+q)
theorem div_vx {n x q:Nat} (hq:q < n):(x * n+q) / n=x:=by
 rw [Nat.mul_comm,Nat.mul_add_div (by omega),Nat.div_eq_of_lt hq];rfl
theorem mod_vx {n x q:Nat} (hq:q < n):(x * n+q) % n=q:=by rw [Nat.mul_comm,Nat.mul_add_mod,Nat.mod_eq_of_lt hq]
theorem mem_nextI {g:Gr} {a:Au} (ha:auOk a=true) {x q v:Nat} (hq:q < a.accept.length):v ∈ nextI g a (x * a.accept.length+q) ↔ ∃ p ∈ arcsOf g (x:Int),∃ t,(aft a (bit q) (valAt g x) p.2.1.toNat).testBit t=true/\v=p.2.2.toNat * a.accept.length+t:=by
 have hn:=(auOk_iff.1 ha).1.2
 rw [nextI,div_vx hq,mod_vx hq,nextV,List.mem_flatMap]
 constructor
 · rintro ⟨p,hp,h⟩
   obtain ⟨t,ht,rfl⟩:=List.mem_map.1 h
   exact ⟨p,hp,t,(mem_mem.1 ht).2,rfl⟩
 · rintro ⟨p,hp,t,ht,rfl⟩
   have:=test_lt (aft_lt ha (bit q) (valAt g x) p.2.1.toNat) ht
   exact ⟨p,hp,List.mem_map.2 ⟨t,mem_mem.2 ⟨by omega,ht⟩,rfl⟩⟩
theorem hit_zero {g:Gr} {a:Au} {y x q:Nat} (hq:q < a.accept.length):hitK g a y 0 x q ↔ x=y/\accC a (valAt g y) q=true:=by
 show x * a.accept.length+q ∈ goalsL g a y ↔ _
 rw [mem_goalsL]
 constructor
 · rintro ⟨s,hs,hc,he⟩
   have h1:=congrArg (· / a.accept.length) he
   have h2:=congrArg (· % a.accept.length) he
   simp only [div_vx hq,div_vx hs,mod_vx hq,mod_vx hs] at h1 h2
   subst h1 h2
   exact ⟨rfl,hc⟩
 · rintro ⟨rfl,h⟩
   exact ⟨q,hq,h,rfl⟩
theorem hit_succ {g:Gr} {a:Au} (ha:auOk a=true) {y f x q:Nat} (hq:q < a.accept.length):hitK g a y (f+1) x q ↔ ∃ p ∈ arcsOf g (x:Int),∃ t,(aft a (bit q) (valAt g x) p.2.1.toNat).testBit t=true/\hitK g a y f p.2.2.toNat t:=by
 show (∃ k ∈ nextI g a (x * a.accept.length+q),toG (nextI g a) (fun i=>i ∈ goalsL g a y) f k) ↔ _
 constructor
 · rintro ⟨k,hk,h⟩
   obtain ⟨p,hp,t,ht,rfl⟩:=(mem_nextI ha hq).1 hk
   exact ⟨p,hp,t,ht,h⟩
 · rintro ⟨p,hp,t,ht,h⟩
   exact ⟨_,(mem_nextI ha hq).2 ⟨p,hp,t,ht,rfl⟩,h⟩
theorem fold_pos {g:Gr} {a:Au} {y:Int} {f x s:Nat}:∀ (l:List Arc) (m:Nat),0 < l.foldl (cwStep g a (cw g a y f) x s) m ↔ 0 < m ∨ ∃ p ∈ l,0 < cwAt g a y f x s p
 | [],m=>by simp
 | p :: l,m=>by
   rw [List.foldl_cons,fold_pos l]
   have hs:cwStep g a (cw g a y f) x s m p=min 1000000 (m+cwAt g a y f x s p):=rfl
   rw [hs]
   constructor
   · rintro (h | ⟨q,hq,h⟩)
     · rcases Nat.eq_zero_or_pos m with h0 | h0
       · exact .inr ⟨p,List.mem_cons_self ..,by omega⟩
       · exact .inl h0
     · exact .inr ⟨q,List.mem_cons_of_mem _ hq,h⟩
   · rintro (h | ⟨q,hq,h⟩)
     · exact .inl (by omega)
     · rcases List.mem_cons.1 hq with rfl | hq
       · exact .inl (by omega)
       · exact .inr ⟨q,hq,h⟩
theorem cw_pos {g:Gr} {a:Au} (ha:auOk a=true) {y:Nat}:∀ {f x s:Nat},s < 2 ^ a.accept.length->(0 < cw g a (y:Int) f x s ↔ ∃ q,s.testBit q=true/\hitK g a y f x q)
 | 0,x,s,hs=>by
   have hn:=(auOk_iff.1 ha).1.2
   rw [cw]
   have e:(decide ((x:Int)=(y:Int)) && acc a s (valAt g x))=true ↔ ∃ q,s.testBit q=true/\hitK g a y 0 x q:=by
    rw [Bool.and_eq_true,decide_eq_true_eq,acc,List.any_eq_true]
    constructor
    · rintro ⟨hxy,q,hq,h⟩
      obtain rfl:x=y:=by omega
      have h2:=(mem_mem.1 hq).2
      exact ⟨q,h2,(hit_zero (test_lt hs h2)).2 ⟨rfl,h⟩⟩
    · rintro ⟨q,hq,h⟩
      have hql:=test_lt hs hq
      obtain ⟨rfl,h2⟩:=(hit_zero hql).1 h
      exact ⟨rfl,q,mem_mem.2 ⟨by omega,hq⟩,h2⟩
   rw [<- e]
   split <;> simp_all
 | f+1,x,s,hs=>by
   rw [cw,fold_pos]
   constructor
   · rintro (h | ⟨p,hp,h⟩)
     · omega
     · rw [cwAt,cw_pos ha (aft_lt ha _ _ _)] at h
       obtain ⟨t,ht,h⟩:=h
       obtain ⟨q,hq,ht⟩:=(aft_any ha hs _ _ _).1 ht
       exact ⟨q,hq,(hit_succ ha (test_lt hs hq)).2 ⟨p,hp,t,ht,h⟩⟩
   · rintro ⟨q,hq,h⟩
     obtain ⟨p,hp,t,ht,h⟩:=(hit_succ ha (test_lt hs hq)).1 h
     refine .inr ⟨p,hp,?_⟩
     rw [cwAt,cw_pos ha (aft_lt ha _ _ _)]
     exact ⟨t,(aft_any ha hs _ _ _).2 ⟨q,hq,ht⟩,h⟩
def keepTo (D:List Int) (n x set f:Nat):Nat->Nat
 | 0=>0
 | q+1=>if (set.testBit q && (D.getD (x * n+q) 0==(f:Int)))=true then ins (keepTo D n x set f q) q else keepTo D n x set f q
theorem keepTo_test (D:List Int) (n x set f u:Nat):∀ k,(keepTo D n x set f k).testBit u=true ↔ u < k/\set.testBit u=true/\D.getD (x * n+u) 0=(f:Int)
 | 0=>by simp [keepTo]
 | k+1=>by
   rw [keepTo]
   split
   · rename_i h
     rw [Bool.and_eq_true,beq_iff_eq] at h
     rw [ins_test,Bool.or_eq_true,keepTo_test D n x set f u k,decide_eq_true_eq]
     constructor
     · rintro (⟨h1,h2⟩ | rfl)
       · exact ⟨by omega,h2⟩
       · exact ⟨by omega,h⟩
     · rintro ⟨h1,h2⟩
       by_cases hk:k=u
       · exact .inr hk
       · exact .inl ⟨by omega,h2⟩
   · rename_i h
     rw [Bool.and_eq_true,beq_iff_eq] at h
     rw [keepTo_test D n x set f u k]
     constructor
     · rintro ⟨h1,h2⟩;exact ⟨by omega,h2⟩
     · rintro ⟨h1,h2⟩
       refine ⟨?_,h2⟩
       by_cases hk:u=k
       · subst hk;exact absurd h2 h
       · omega
def keepK (a:Au) (D:List Int) (x set f:Nat):Nat:=keepTo D a.accept.length x set f a.accept.length
def keepA (g:Gr) (a:Au) (D:List Int) (f x s:Nat) (p:Arc):Nat:=keepK a D p.2.2.toNat (aft a s (valAt g x) p.2.1.toNat) f
/-- S: the states of the walk so far; K: those of them at distance f; none is nearer -/
structure KeepI (g:Gr) (a:Au) (y f x S K:Nat):Prop where
 far:∀ q,S.testBit q=true->∀ m,m < f->¬ hitK g a y m x q
 kept:∀ q,K.testBit q=true ↔ S.testBit q=true/\hitK g a y f x q
theorem dist_eq {g:Gr} {a:Au} {y:Nat} (hg:grOk g=true) (ha:auOk a=true) (hy:y < g.vals.length) {x q:Nat} (hx:x < g.vals.length) (hq:q < a.accept.length) (f:Nat) :
 (distTo g a (y:Int)).getD (x * a.accept.length+q) 0=(f:Int) ↔ hitK g a y f x q/\∀ m,m < f->¬ hitK g a y m x q:=by
 have hd:(wi (y:Int) 0 ((g.vals.length:Int) - 1) && (grOk g && auOk a))=true:=by
  simp only [Bool.and_eq_true]
  exact ⟨by rw [wi_iff];omega,hg,ha⟩
 have hN:∀ i k,i < g.vals.length * a.accept.length->k ∈ nextI g a i->k < g.vals.length * a.accept.length:=fun i k _ hk=>nextV_lt (grOk_iff.1 hg) ha hk
 have hfs:∀ i ∈ goalsL g a y,i < g.vals.length * a.accept.length:=fun i hi=>by
  obtain ⟨s,hs,_,rfl⟩:=mem_goalsL.1 hi
  calc y * a.accept.length+s < y * a.accept.length+a.accept.length:=by omega
   _=(y+1) * a.accept.length:=by rw [Nat.add_mul,Nat.one_mul]
   _<=_:=Nat.mul_le_mul_right _ hy
 have hi:x * a.accept.length+q < g.vals.length * a.accept.length:=by
  calc x * a.accept.length+q < x * a.accept.length+a.accept.length:=by omega
   _=(x+1) * a.accept.length:=by rw [Nat.add_mul,Nat.one_mul]
   _<=_:=Nat.mul_le_mul_right _ hx
 have h:=spread_dist hfs hN _ hi
 have he:(distTo g a (y:Int)).getD (x * a.accept.length+q) 0=(spreadR (g.vals.length * a.accept.length) (turnL (g.vals.length * a.accept.length) (nextI g a)) (goalsL g a y)).getD (x * a.accept.length+q) 0:=by rw [distTo,if_pos hd,Int.toNat_natCast]
 rw [<- he] at h
 constructor
 · intro hf
   rcases h with ⟨h1,-⟩ | ⟨h1,h2,h3⟩
   · omega
   · rw [hf,Int.toNat_natCast] at h2 h3
     exact ⟨h2,h3⟩
 · rintro ⟨h1,h2⟩
   exact h.uniq (.inr ⟨by omega,by rw [Int.toNat_natCast];exact h1,by rw [Int.toNat_natCast];exact h2⟩)
theorem KeepI.step {g:Gr} {a:Au} {y:Nat} (hg:grOk g=true) (ha:auOk a=true) (hy:y < g.vals.length) {f x S K:Nat} (hS:S < 2 ^ a.accept.length) (hK:K < 2 ^ a.accept.length) (h:KeepI g a y (f+1) x S K) {p:Arc} (hp:p ∈ arcsOf g (x:Int)) :
 KeepI g a y f p.2.2.toNat (aft a S (valAt g x) p.2.1.toNat) (keepA g a (distTo g a (y:Int)) f x K p):=by
 have hr:=arc_range (grOk_iff.1 hg) hp
 have hx:p.2.2.toNat < g.vals.length:=by omega
 have far:∀ q,(aft a S (valAt g x) p.2.1.toNat).testBit q=true->∀ m,m < f->¬ hitK g a y m p.2.2.toNat q:=fun q hq m hm hh=>by
  obtain ⟨s,hs,hq⟩:=(aft_any ha hS _ _ _).1 hq
  exact h.far s hs (m+1) (by omega) ((hit_succ ha (test_lt hS hs)).2 ⟨p,hp,q,hq,hh⟩)
 refine ⟨far,fun q=>?_⟩
 rw [keepA,keepK,keepTo_test]
 constructor
 · rintro ⟨h1,h2,h3⟩
   obtain ⟨s,hs,hq⟩:=(aft_any ha hK _ _ _).1 h2
   exact ⟨(aft_any ha hS _ _ _).2 ⟨s,((h.kept s).1 hs).1,hq⟩,((dist_eq hg ha hy hx h1 f).1 h3).1⟩
 · rintro ⟨h1,h2⟩
   have hql:=test_lt (aft_lt ha S (valAt g x) p.2.1.toNat) h1
   obtain ⟨s,hs,hq⟩:=(aft_any ha hS _ _ _).1 h1
   refine ⟨hql,(aft_any ha hK _ _ _).2 ⟨s,(h.kept s).2 ⟨hs,(hit_succ ha (test_lt hS hs)).2 ⟨p,hp,q,hq,h2⟩⟩,hq⟩,(dist_eq hg ha hy hx hql f).2 ⟨h2,far q h1⟩⟩
/-- add up what is passed over, at most a million -/
def addK {α:Type} (k:α->Nat) (r:Nat) (p:α):Nat:=min 1000000 (r+k p)
def passK {α:Type} (k:α->Nat) (l:List α) (r:Nat):Nat:=l.foldl (addK k) r
/-- what is passed over ahead of step st -/
def overK (k:Arc->Nat) (l:List Arc) (st:St) (r:Nat):Nat:=passK k (l.take (l.findIdx (fun p=>p.1==st))) r
theorem overK_cons_no {k:Arc->Nat} {l:List Arc} {st:St} {r:Nat} {p:Arc} (hp:p.1 ≠ st):overK k (p :: l) st r=overK k l st (addK k r p):=by
 have:(p :: l).findIdx (fun p=>p.1==st)=l.findIdx (fun p=>p.1==st)+1:=by
  rw [List.findIdx_cons,show (p.1==st)=false by simpa using hp];rfl
 rw [overK,this,List.take_succ_cons];rfl
theorem overK_cons_yes {k:Arc->Nat} {l:List Arc} {st:St} {r:Nat} {p:Arc} (hp:p.1=st):overK k (p :: l) st r=r:=by
 have:(p :: l).findIdx (fun p=>p.1==st)=0:=by
  rw [List.findIdx_cons,show (p.1==st)=true by simpa using hp];rfl
 rw [overK,this];rfl
theorem RowR.over {g:Gr} {a:Au} {y:Int} {f x s:Nat} {N:List Key} {C:Nat->Nat} (hC:∀ i k,N[i]?=some k->C i=cw g a y f k.1 k.2) {st:St} {l:List Arc} {T:List (St × Nat)} (h:RowR g a x s N l T)
 (hne:∀ p ∈ l,p.1=st->aft a s (valAt g x) p.2.1.toNat ≠ 0) (hex:∃ p ∈ l,p.1=st):∀ r,r<=1000000 ->
 ∃ j i p,T[j]?=some (st,i)/\(∀ j' q,j' < j->T[j']?=some q->q.1 ≠ st)/\passK (fun e:St × Nat=>C e.2) (T.take j) r=overK (cwAt g a y f x s) l st r/\p ∈ l/\p.1=st/\N[i]?=some (p.2.2.toNat,aft a s (valAt g x) p.2.1.toNat):=by
 induction h with
 | nil=>obtain ⟨p,hp,_⟩:=hex;cases hp
 | @skip p0 l0 T0 h1 _ ih =>
   intro r hr
   have hp0:p0.1 ≠ st:=fun e=>hne p0 (List.mem_cons_self ..) e h1
   obtain ⟨j,i,p,e1,e2,e3,e4,e5,e6⟩:=ih (fun p hp=>hne p (List.mem_cons_of_mem _ hp)) (by
    obtain ⟨p,hp,hps⟩:=hex
    rcases List.mem_cons.1 hp with rfl | hp
    · exact absurd hps hp0
    · exact ⟨p,hp,hps⟩) r hr
   refine ⟨j,i,p,e1,e2,?_,List.mem_cons_of_mem _ e4,e5,e6⟩
   rw [e3,overK_cons_no hp0,addK,cwAt,h1,cw_none,Nat.add_zero,Nat.min_eq_right hr]
 | @take p0 l0 T0 i0 h1 h2 _ ih =>
   intro r hr
   by_cases hp0:p0.1=st
   · refine ⟨0,i0,p0,by rw [<- hp0];rfl,fun j' q hj=>by omega,?_,List.mem_cons_self ..,hp0,h2⟩
     rw [overK_cons_yes hp0];rfl
   · obtain ⟨j,i,p,e1,e2,e3,e4,e5,e6⟩:=ih (fun p hp=>hne p (List.mem_cons_of_mem _ hp)) (by
      obtain ⟨p,hp,hps⟩:=hex
      rcases List.mem_cons.1 hp with rfl | hp
      · exact absurd hps hp0
      · exact ⟨p,hp,hps⟩) (addK (cwAt g a y f x s) r p0) (Nat.min_le_left _ _)
     refine ⟨j+1,i,p,by simpa using e1,fun j' q hj hq=>?_,?_,List.mem_cons_of_mem _ e4,e5,e6⟩
     · cases j' with
       | zero=>simp only [List.getElem?_cons_zero,Option.some.injEq] at hq;rw [<- hq];exact hp0
       | succ j'=>exact e2 j' q (by omega) (by simpa using hq)
     · rw [overK_cons_no hp0,<- e3,List.take_succ_cons]
       show passK _ _ (addK (fun e:St × Nat=>C e.2) r (p0.1,i0))=_
       rw [addK,addK,hC _ _ h2];rfl
theorem arc_of_edge {g:Gr} {e:Ed} (he:e ∈ g.edges) (b:Bool):∃ p ∈ arcsOf g (arcTo (!b) e),p.1=(e.1,b):=by
 cases b with
 | false=>exact ⟨((e.1,false),2 * e.2.2.2,e.2.2.1),List.mem_flatMap.2 ⟨e,he,mem_arcE.2 (.inl ⟨rfl,rfl⟩)⟩,rfl⟩
 | true=>exact ⟨((e.1,true),2 * e.2.2.2+1,e.2.1),List.mem_flatMap.2 ⟨e,he,mem_arcE.2 (.inr ⟨rfl,rfl⟩)⟩,rfl⟩
theorem step_arc {g:Gr} {k:Wk} (h:walkOk g k=true) {i:Nat} (hi:i < k.2.length):∃ s,k.2[i]?=some s/\(∃ p ∈ arcsOf g (nodeAt g k i:Int),p.1=s)/\∀ p ∈ arcsOf g (nodeAt g k i:Int),p.1=s->p.2.1.toNat=letAt g k i/\p.2.2=(nodeAt g k (i+1):Int):=by
 obtain ⟨s,e,hs,he,h1,h2,h3,h4⟩:=walk_step h hi
 obtain ⟨s',e',hs',he',hf,-⟩:=(walk_parts h (Nat.le_of_lt hi)).2 hi
 rw [hs] at hs'
 injection hs' with hs'
 subst hs'
 rw [he] at he'
 injection he' with he'
 subst he'
 obtain ⟨hg,hm,hid⟩:=stepEd_ok he
 have hn:=(nodeAt_lt h (Nat.le_of_lt hi)).1
 rw [nodeAt_at (Nat.le_of_lt hi)] at hn
 injection hn with hn
 refine ⟨s,hs,?_,fun p hp hps=>?_⟩
 · obtain ⟨p,hp,hps⟩:=arc_of_edge hm s.2
   refine ⟨p,?_,by rw [hps,hid]⟩
   rw [<- hn,<- hf,stepFrom_of he];exact hp
 · obtain ⟨e2,g1,g2,g3⟩:=arc_stepEd (grOk_iff.2 hg) hp
   rw [hps,he] at g1
   injection g1 with g1
   subst g1
   rw [hps] at g2 g3
   exact ⟨by rw [<- g2,h2,Int.toNat_natCast],by rw [<- g3,h1]⟩
theorem setAt_none {g:Gr} {a:Au} {k:Wk} {i:Nat} (h:setAt g a k i=0):∀ j,i<=j->setAt g a k j=0:=by
 intro j hj
 obtain ⟨d,rfl⟩:=Nat.exists_eq_add_of_le hj
 induction d with
 | zero=>exact h
 | succ d ih=>rw [<- Nat.add_assoc,setAt,ih (by omega),aft_none]
theorem isWit_parts {g:Gr} {a:Au} {x y:Int} {k:Wk} (h:isWit g a x y k=true):k.1=x/\walkOk g k=true/\auOk a=true/\∀ i,i<=k.2.length->setAt g a k i ≠ 0:=by
 simp only [isWit,matchB,Bool.and_eq_true,beq_iff_eq] at h
 obtain ⟨⟨h1,-⟩,⟨h2,h3⟩,h4⟩:=h
 refine ⟨h1,h2,h3,fun i hi hz=>?_⟩
 rw [setAt_none hz _ hi,acc_none] at h4
 cases h4
theorem wit_arc {g:Gr} {a:Au} {x y:Int} {k:Wk} (h:isWit g a x y k=true) {i:Nat} (hi:i < k.2.length):∃ s,k.2[i]?=some s/\(∃ p ∈ arcsOf g (nodeAt g k i:Int),p.1=s)/\∀ p ∈ arcsOf g (nodeAt g k i:Int),p.1=s->p.2.2=(nodeAt g k (i+1):Int)/\aft a (setAt g a k i) (valAt g (nodeAt g k i)) p.2.1.toNat=setAt g a k (i+1)/\setAt g a k (i+1) ≠ 0:=by
 obtain ⟨h1,h2,h3,h4⟩:=isWit_parts h
 obtain ⟨s,hs,he,hp⟩:=step_arc h2 hi
 exact ⟨s,hs,he,fun p hpm hps=>⟨(hp p hpm hps).2,by rw [(hp p hpm hps).1,setAt],h4 _ hi⟩⟩
end Go.Proofs.YtjpdembmchnbgaaGreat
namespace Go.Proofs.YtjpdembmchnbgaaGreat
end Go.Proofs.YtjpdembmchnbgaaGreat
namespace Go.Proofs.YtjpdembmchnbgaaGreat
open Go.ChangeShapes Go.WideShapes Go.ChangeAt Go.RowKit
/-- the steps lead from node x with the states s to y, where one of the states accepts -/
def goesL (g:Gr) (a:Au) (y:Int):Nat->Nat->List St->Prop
 | x,s,[]=>(x:Int)=y/\acc a s (valAt g x)=true
 | x,s,st :: L=>∃ p ∈ arcsOf g (x:Int),p.1=st/\goesL g a y p.2.2.toNat (aft a s (valAt g x) p.2.1.toNat) L
theorem arc_steps {g:Gr} (hgo:grOk g=true) {x:Int} {p:Arc} (hp:p ∈ arcsOf g x):stepFrom g p.1=x/\stepTo g p.1=p.2.2/\stepLetter g p.1=p.2.1:=by
 have hg:=grOk_iff.1 hgo
 obtain ⟨d,hd,hl,hto⟩:=arc_stepEd hgo hp
 refine ⟨?_,by rw [stepTo_of hd,hto],by rw [stepLetter_of hd,hl]⟩
 obtain ⟨e2,he2,hye⟩:=List.mem_flatMap.1 hp
 obtain ⟨i,hi,hie⟩:=List.getElem_of_mem he2
 have hid:=edgeIdx_at hg (show g.edges[i]?=some e2 by rw [<- hie];exact List.getElem?_eq_getElem hi)
 have hdd:d=e2:=by
  obtain ⟨-,hdm,hdi⟩:=stepEd_ok hd
  obtain ⟨k,hk,hke⟩:=List.getElem_of_mem hdm
  have hkd:g.edges[k]?=some d:=by rw [<- hke];exact List.getElem?_eq_getElem hk
  have hk2:=edgeIdx_at hg hkd
  have he1:e2.1=p.1.1:=by rcases mem_arcE.1 hye with ⟨-,rfl⟩ | ⟨-,rfl⟩ <;> rfl
  rw [hdi,<- he1,hid] at hk2
  obtain rfl:i=k:=by omega
  exact hke.symm.trans hie
 subst hdd
 rw [stepFrom_of hd]
 rcases mem_arcE.1 hye with ⟨h1,rfl⟩ | ⟨h1,rfl⟩
 · exact h1
 · exact h1
/-- along a walk that goes: the nodes, the sets and the links -/
theorem goes_at {g:Gr} {a:Au} {y:Int} {k:Wk} (hgo:grOk g=true) (hk:0<=k.1) (h:goesL g a y k.1.toNat (bit a.start.toNat) k.2):∀ i,i<=k.2.length->(∀ j,j < i->linkAt g k j=true)/\(nodesL g k).getD i 0=(nodeAt g k i:Int)/\goesL g a y (nodeAt g k i) (setAt g a k i) (k.2.drop i)
 | 0,_=>by
   have e:nodeAt g k 0=k.1.toNat:=rfl
   refine ⟨fun j hj=>absurd hj (Nat.not_lt_zero j),?_,?_⟩
   · show k.1=((nodeAt g k 0:Nat):Int)
     rw [e];omega
   · rw [e];exact h
 | i+1,hi=>by
   obtain ⟨h1,h2,h3⟩:=goes_at hgo hk h i (by omega)
   have hlt:i < k.2.length:=by omega
   obtain ⟨st,hst⟩:∃ st,k.2[i]?=some st:=⟨_,List.getElem?_eq_getElem hlt⟩
   have hdr:k.2.drop i=st :: k.2.drop (i+1):=by
    rw [List.drop_eq_getElem_cons hlt]
    rw [List.getElem?_eq_getElem hlt] at hst
    injection hst with hst
    rw [hst]
   rw [hdr] at h3
   obtain ⟨p,hp,rfl,h4⟩:=h3
   obtain ⟨e1,e2,e3⟩:=arc_steps hgo hp
   have hr:=arc_range (grOk_iff.1 hgo) hp
   have hn:(nodesL g k)[i+1]?=some p.2.2:=by rw [nodesL_next hst,e2]
   have hnd:(nodesL g k).getD (i+1) 0=p.2.2:=by rw [List.getD_eq_getElem?_getD,hn];rfl
   have hna:nodeAt g k (i+1)=p.2.2.toNat:=by rw [nodeAt,hnd]
   refine ⟨fun j hj=>?_,?_,?_⟩
   · rcases Nat.lt_succ_iff_lt_or_eq.1 hj with hj | rfl
     · exact h1 j hj
     · rw [linkAt,List.getD_eq_getElem?_getD,hst,Option.getD_some,e1,h2];simp
   · rw [hnd,hna];omega
   · have hset:setAt g a k (i+1)=aft a (setAt g a k i) (valAt g (nodeAt g k i)) p.2.1.toNat:=by
      rw [setAt,letAt,List.getD_eq_getElem?_getD,hst,Option.getD_some,e3]
     rw [hna,hset]
     exact h4
theorem goes_wit {g:Gr} {a:Au} {y:Int} {k:Wk} (hgo:grOk g=true) (ha:auOk a=true) (hk:0<=k.1/\k.1 < (g.vals.length:Int)) (hl:k.2.length<=60) (h:goesL g a y k.1.toNat (bit a.start.toNat) k.2):isWit g a k.1 y k=true:=by
 obtain ⟨h1,h2,h3⟩:=goes_at hgo hk.1 h k.2.length (Nat.le_refl _)
 rw [List.drop_length] at h3
 have hw:walkOk g k=true:=by
  simp only [walkOk,Bool.and_eq_true,wi_iff,decide_eq_true_eq,List.all_eq_true,List.mem_range]
  exact ⟨⟨⟨hgo,by omega⟩,hl⟩,h1⟩
 rw [isWit,matchB,walkEnd,if_pos hw,hw,ha]
 simp only [beq_self_eq_true,Bool.true_and,Bool.and_self]
 rw [Bool.and_eq_true]
 exact ⟨by rw [h3.1];simp,h3.2⟩
theorem wit_goes {g:Gr} {a:Au} {x y:Int} {k:Wk} (h:isWit g a x y k=true):∀ d,d<=k.2.length->goesL g a y (nodeAt g k (k.2.length - d)) (setAt g a k (k.2.length - d)) (k.2.drop (k.2.length - d))
 | 0,_=>by
   rw [Nat.sub_zero,List.drop_length]
   simp only [isWit,matchB,Bool.and_eq_true,beq_iff_eq] at h
   obtain ⟨⟨-,h1⟩,⟨h2,h3⟩,h4⟩:=h
   rw [walkEnd,if_pos h2] at h1
   exact ⟨h1,h4⟩
 | d+1,hd=>by
   have hi:k.2.length - (d+1) < k.2.length:=by omega
   obtain ⟨s,hs,⟨p,hp,hps⟩,hall⟩:=wit_arc h hi
   have hdr:k.2.drop (k.2.length - (d+1))=s :: k.2.drop (k.2.length - d):=by
    rw [List.drop_eq_getElem_cons hi,show k.2.length - (d+1)+1=k.2.length - d by omega]
    rw [List.getElem?_eq_getElem hi] at hs
    injection hs with hs
    rw [hs]
   obtain ⟨h5,h6,-⟩:=hall p hp hps
   have ih:=wit_goes h d (by omega)
   rw [hdr]
   refine ⟨p,hp,hps,?_⟩
   rw [show k.2.length - (d+1)+1=k.2.length - d by omega] at h5 h6
   rw [h5,h6,Int.toNat_natCast]
   exact ih
end Go.Proofs.YtjpdembmchnbgaaGreat
