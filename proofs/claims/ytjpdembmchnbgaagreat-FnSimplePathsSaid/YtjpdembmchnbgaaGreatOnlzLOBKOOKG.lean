/- Parts of the proof, joined into one text: SrtD, WalkM, MatchM, StepI, NodesI, NodesS, Ends, WalkS. -/
import Derived.Test.YtjpdembmchnbgaaGreatOnlzHMCPMHPL
import Derived.Test.YtjpdembmchnbgaaGreatOnlzENOPMGAL
import Derived.Test.YtjpdembmchnbgaaGreatOnlzNELCFPNN
import Derived.RegionTactic
import Derived.BigRegion
import Derived.Test.YtjpdembmchnbgaaGreatOnlzALPFPLEE
import Derived.Test.YtjpdembmchnbgaaGreatOnlzLIMBOPHA
set_option linter.unusedVariables false
set_option linter.unusedSimpArgs false
namespace Go.Proofs.YtjpdembmchnbgaaGreat
open Go.ChangeShapes Go.WideShapes Go.ChangeAt Go.RowKit
attribute [local go_sem] ext_cell ext_frozen ext_lt ext_lt1 ext_lt2 ext_lt3 ltn2 ltn3 ltn13 lts1 lts2 lts3
theorem slTake {α:Type} {lo hi:Nat} {w:World} {E:α->List Value} {k n c m:Nat} {A:Option Addr} {xs:List α} (h:SlI lo hi w E k (.slice A n c) xs) (hm:m<=n):SlI lo hi w E k (.slice A m c) (xs.take m):=by
 obtain ⟨A',c',hv,hl,hc,hx⟩:=h
 injection hv with h1 h2 h3
 subst h1 h3 h2
 refine ⟨_,c,by rw [List.length_take,Nat.min_eq_left hm],by rw [List.length_take];omega,hc,fun i x hi=>hx i x ?_⟩
 rw [List.getElem?_take] at hi
 split at hi
 · exact hi
 · cases hi
/-- the graph with its first edges alone -/
def Gr.cutE (g:Gr) (m:Nat):Gr:=⟨g.vals,g.edges.take m⟩
theorem GrV.cutE {lo hi:Nat} {w:World} {vs:Value} {A:Option Addr} {n c m:Nat} {g:Gr} (h:GrV lo hi w (.agg #[vs,.slice A n c]) g) (hm:m<=n):GrV lo hi w (.agg #[vs,.slice A m c]) (g.cutE m):=by
 obtain ⟨vs',es,hv,h1,h2⟩:=h
 simp only [Value.agg.injEq,Array.mk.injEq,List.cons.injEq,and_true] at hv
 obtain ⟨rfl,rfl⟩:=hv
 exact ⟨_,_,rfl,h1,slTake h2 hm⟩
/-- a graph in the block gq, an automaton in aq, the cursor in b; the results' blocks r and r + 1; the automaton's rows lie above gq -/
structure GbR (b r gq aq:Nat) (w0 w:World) (gs es:Value) (g:Gr) (ac nx:Value) (a:Au):Prop where
 res1:Blk w r 27 #[.slice none 0 0,.slice none 0 0]
 res2:Blk w (r+1) 31 #[.int .i64 0,.slice none 0 0,.slice none 0 0]
 gbk:Blk w gq 27 #[gs,es]
 abk:Blk w aq 31 #[.int .i64 a.start,ac,nx]
 gv:GrV (b+1) gq w (.agg #[gs,es]) g
 av:∃ lo hi,AuV lo hi w (.agg #[.int .i64 a.start,ac,nx]) a/\gq < lo/\hi<=w.heap.size/\(aq < lo ∨ hi<=aq)
 cur:Cur w b
 bel:Below w0.heap.size w0 w
 at0:w0.heap.size=r
 e11:g.edges.length<=11
 ord:r+1 < b/\b < gq/\gq < aq
section
variable {b r gq aq:Nat} {w0 w w':World} {gs es:Value} {g:Gr} {ac nx:Value} {a:Au}
theorem GbR.step (h:GbR b r gq aq w0 w gs es g ac nx a) (ho:Only b (b+1) w w') (hc:Cur w' b):GbR b r gq aq w0 w' gs es g ac nx a:=by
 have hd:=h.ord
 have hq:=h.abk.lt
 have h0:=h.at0
 obtain ⟨lo,hi,k1,k2,k3,k4⟩:=h.av
 exact ⟨h.res1.only ho (.inl (by omega)),h.res2.only ho (.inl (by omega)),h.gbk.only ho (.inr (by omega)),h.abk.only ho (.inr (by omega)),h.gv.only ho (by omega) (.inr (by omega)),⟨lo,hi,k1.only ho k3 (.inr (by omega)),k2,Nat.le_trans k3 ho.size,k4⟩,hc,h.bel.trans (ho.below (B:=w0.heap.size) (by omega) h.bel.size),h.at0,h.e11,hd⟩
theorem GbR.keep (h:GbR b r gq aq w0 w gs es g ac nx a) (hb:Below w.heap.size w w'):GbR b r gq aq w0 w' gs es g ac nx a:=by
 have hd:=h.ord
 have hq:=h.abk.lt
 obtain ⟨lo,hi,k1,k2,k3,k4⟩:=h.av
 exact ⟨h.res1.keep hb,h.res2.keep hb,h.gbk.keep hb,h.abk.keep hb,h.gv.below hb (by omega),⟨lo,hi,k1.below hb k3,k2,Nat.le_trans k3 hb.size,k4⟩,h.cur.keep hb,below_trans h.bel hb,h.at0,h.e11,hd⟩
theorem GbR.drew (h:GbR b r gq aq w0 w gs es g ac nx a):GbR b r gq aq w0 w.drew gs es g ac nx a:=h.keep (Below.refl w.heap.size w).drew
theorem GbR.setA {ac' nx':Value} {a':Au} {lo:Nat} (h:GbR b r gq aq w0 w gs es g ac nx a) (ha:AuV lo w.heap.size w (.agg #[.int .i64 a'.start,ac',nx']) a') (hlo:aq < lo):GbR b r gq aq w0 (put3 w aq (.int .i64 a'.start) ac' nx') gs es g ac' nx' a':=by
 have hd:=h.ord
 have h0:=h.at0
 have hq:=h.abk.lt
 have ho:=put3_only w aq (.int .i64 a'.start) ac' nx'
 exact ⟨h.res1.only ho (.inl (by omega)),h.res2.only ho (.inl (by omega)),h.gbk.only ho (.inl (by omega)),((h.abk.set_ 0 (.int .i64 a'.start)).set_ 1 ac').set_ 2 nx',h.gv.only ho (by omega) (.inl (by omega)),⟨lo,w.heap.size,ha.only ho (Nat.le_refl _) (.inr (by omega)),by omega,ho.size,.inl (by omega)⟩,h.cur.only ho (by omega),
  h.bel.trans (ho.below (B:=w0.heap.size) (by omega) h.bel.size),h.at0,h.e11,hd⟩
theorem GbR.grv (h:GbR b r gq aq w0 w gs es g ac nx a):GrV 0 w.heap.size w (.agg #[gs,es]) g:=h.gv.mono (Nat.zero_le _) (by have:=h.ord;have:=h.abk.lt;omega)
theorem GbR.auv (h:GbR b r gq aq w0 w gs es g ac nx a):AuV 0 w.heap.size w (.agg #[.int .i64 a.start,ac,nx]) a:=by
 obtain ⟨lo,hi,k1,k2,k3,k4⟩:=h.av
 exact k1.mono (Nat.zero_le _) k3
theorem GbR.fin (h:GbR b r gq aq w0 w gs es g ac nx a) (ho:Only r (r+2) w w') :
 w0.heap.size<=b/\GrV (b+1) w'.heap.size w' (.agg #[gs,es]) g/\g.edges.length<=11/\AuV (b+1) w'.heap.size w' (.agg #[.int .i64 a.start,ac,nx]) a/\Cur w' b/\Below w0.heap.size w0 w':=by
 have hd:=h.ord
 have h0:=h.at0
 have hq:=h.abk.lt
 have hs:=ho.size
 obtain ⟨lo,hi,k1,k2,k3,k4⟩:=h.av
 refine ⟨by omega,(h.gv.only ho (by omega) (.inr (by omega))).mono (Nat.le_refl _) (by omega),h.e11,(k1.only ho k3 (.inr (by omega))).mono (by omega) (by omega),h.cur.off ho (by omega) (fun q h1 h2 o x=>?_),h.bel.trans (ho.below (B:=w0.heap.size) (by omega) h.bel.size)⟩
 obtain rfl | rfl:q=r ∨ q=r+1:=by omega
 · rw [h.res1.cell]
   rcases o with _ | _ | o <;> simp
 · rw [h.res2.cell]
   rcases o with _ | _ | _ | o <;> simp
theorem GbR.blks (h:GbR b r gq aq w0 w gs es g ac nx a) (ho:Only r (r+2) w w'):Blk w' gq 27 #[gs,es]/\Blk w' aq 31 #[.int .i64 a.start,ac,nx]:=by
 have hd:=h.ord
 exact ⟨h.gbk.only ho (.inr (by omega)),h.abk.only ho (.inr (by omega))⟩
theorem GbR.put (h:GbR b r gq aq w0 w gs es g ac nx a) (v1 v2:Value) :
 Only r (r+2) w ((w.setCell ⟨r,0,none⟩ v1).setCell ⟨r,1,none⟩ v2)/\Blk ((w.setCell ⟨r,0,none⟩ v1).setCell ⟨r,1,none⟩ v2) (r+1) 31 #[.int .i64 0,.slice none 0 0,.slice none 0 0]:=by
 have ho:=Only.put2 w r v1 v2
 exact ⟨((Only.refl r (r+2) w).setCell (p:=⟨r,0,none⟩) (.inl (by simp only;omega)) _).setCell (p:=⟨r,1,none⟩) (.inl (by simp only;omega)) _,h.res2.only ho (.inr (by omega))⟩
theorem GbR.fin0 (h:GbR b r gq aq w0 w gs es g ac nx a) (ho:Only r (r+2) w w') :
 GrV 0 w'.heap.size w' (.agg #[gs,es]) g/\g.edges.length<=11/\AuV 0 w'.heap.size w' (.agg #[.int .i64 a.start,ac,nx]) a/\Below w0.heap.size w0 w':=by
 obtain ⟨-,h1,h2,h3,-,h4⟩:=h.fin ho
 exact ⟨h1.mono (Nat.zero_le _) (Nat.le_refl _),h2,h3.mono (Nat.zero_le _) (Nat.le_refl _),h4⟩
end
def CutGOut (b:Nat) (w:World) (e:Ending) (w':World):Prop:=∃ v g,e=.returned v/\(GrV w.heap.size w'.heap.size w' v g/\g.edges.length<=11/\Cur w' b/\Only b (b+1) w w')
theorem cutG_done {b r:Nat} {w0 w:World} {d0 d1:Value} {g:Gr} {lo hi:Nat} (hg:GrV lo hi w (.agg #[d0,d1]) g) (h1:r < lo) (h2:hi<=w.heap.size) (hc:Cur w b) (hb:b < r) (ho:Only b (b+1) w0 w) (h0:w0.heap.size=r) (he:g.edges.length<=11) :
 GrV w0.heap.size ((w.setCell ⟨r,0,none⟩ d0).setCell ⟨r,1,none⟩ d1).heap.size ((w.setCell ⟨r,0,none⟩ d0).setCell ⟨r,1,none⟩ d1) (.agg #[d0,d1]) g/\g.edges.length<=11/\Cur ((w.setCell ⟨r,0,none⟩ d0).setCell ⟨r,1,none⟩ d1) b/\Only b (b+1) w0 ((w.setCell ⟨r,0,none⟩ d0).setCell ⟨r,1,none⟩ d1):=by
 have hp:=Only.put2 w r d0 d1
 have hs:=hp.size
 exact ⟨(hg.only hp h2 (.inr (by omega))).mono (by omega) (by omega),he,hc.only hp (by omega),(ho.setCell (p:=⟨r,0,none⟩) (.inr (by simp only;omega)) _).setCell (p:=⟨r,1,none⟩) (.inr (by simp only;omega)) _⟩
set_option maxHeartbeats 4000000 in
theorem l20Graph_any (b m:Nat) (mi:Int) (w:World) (hc:Cur w b) (hmi:mi=(m:Int)) (hm:m<=100) :
 Calls Tryz.prog 85 #[.pointer (some ⟨b,0,none⟩),.int .i64 mi] w (CutGOut b w):=by
 subst hmi
 have hbw:=hc.lt
 have hb0:=(Below.refl w.heap.size w).alloc (Nat.le_refl _) (.cells #[.slice none 0 0,.slice none 0 0] 27)
 have hbr:=Blk.new w 27 #[.slice none 0 0,.slice none 0 0] _ rfl
 have hs0:(w.alloc (.cells #[.slice none 0 0,.slice none 0 0] 27)).heap.size=w.heap.size+1:=by simp
 go_enter Tryz.func85,Tryz.ntmps85
 go_wp2_with fail
 refine (l3Graph_any b _ (hc.keep hb0)).mono ?_
 rintro e w1 ⟨v,g,rfl,hgo,⟨-,-,hg10⟩,hc1,ho1⟩
 have hgv:=hgo.view
 obtain ⟨A1,n1,c1,A2,n2,c2,rfl⟩:=hgv.shape
 rw [hs0] at hgv
 have hs1:=ho1.size
 rw [hs0] at hs1
 have hal:=(Below.refl w1.heap.size w1).alloc (Nat.le_refl _) (.cells #[.slice A1 n1 c1,.slice A2 n2 c2] 27)
 have hgb:=Blk.new w1 27 #[.slice A1 n1 c1,.slice A2 n2 c2] _ rfl
 have HR:=Hd_ ((hbr.only ho1 (.inr (by omega))).keep hal)
 have HGV:=Hd_ (hgv.below hal (Nat.le_refl _))
 have HC:=Hd_ (hc1.keep hal)
 have HO:=Hd_ (((Only.of_below hb0 b (b+1)).trans ho1).trans (Only.of_below hal b (b+1)))
 have hn:n2<=c2/\c2<=maxLen/\(0 < n2->∃ q o,A2=some ⟨q,o,none⟩):=by
  obtain ⟨vs,es,hv,-,⟨A',c',rfl,hl,hm',hx⟩⟩:=hgv
  simp only [Value.agg.injEq,Array.mk.injEq,List.cons.injEq,and_true,Value.slice.injEq] at hv
  obtain ⟨-,rfl,rfl,rfl⟩:=hv
  refine ⟨hl,hm',fun h=>?_⟩
  obtain ⟨q,o,hA,-⟩:=hx 0 _ (List.getElem?_eq_getElem h)
  exact ⟨q,o,hA⟩
 obtain ⟨hn2c,hc2m,hA2⟩:=hn
 unfold maxLen at hc2m
 obtain ⟨gq,hgq⟩:∃ gq,gq=w1.heap.size:=⟨_,rfl⟩
 rw [<- hgq] at hgb hs1 HGV
 have hlt:b < gq:=by omega
 clear hgo hgv hc1 ho1 hbr hb0 hs0 hc hal
 go_upto_region 2 with fail
 rw [<- hgq]
 generalize w1.alloc (.cells #[.slice A1 n1 c1,.slice A2 n2 c2] 27)=W1 at *
 clear hgq
 have hgl:=hgb.lt
 by_cases hmn:m < n2
 · obtain ⟨q,o,rfl⟩:=hA2 (by omega)
   have hde:((m:Int) < (n2:Int)):=by omega
   have x0:W1.cell? ⟨gq,0,none⟩=some (.slice A1 n1 c1):=hgb.cell 0
   have x1:W1.cell? ⟨gq,1,none⟩=some (.slice (some ⟨q,o,none⟩) n2 c2):=hgb.cell 1
   have f1:=hgb.frozen 1
   have hmc:m<=c2:=by omega
   go_upto_region 4 with fail
   have hbl:=hgb.set_ 1 (.slice (some ⟨q,o,none⟩) m c2)
   have ho2:Only gq (gq+1) W1 (W1.setCell ⟨gq,1,none⟩ (.slice (some ⟨q,o,none⟩) m c2)):=(Only.refl _ _ _).setCell (p:=⟨gq,1,none⟩) (.inl ⟨Nat.le_refl _,Nat.lt_succ_self _⟩) _
   have hgv2:=(HGV.out.cutE (m:=m) (by omega)).only ho2 (by omega) (.inl (Nat.le_refl _))
   have hc2:=HC.out.only ho2 hlt
   have hO2:=HO.out.setCell (p:=⟨gq,1,none⟩) (.inr (by simp only;omega)) (.slice (some ⟨q,o,none⟩) m c2)
   have hr2:=HR.out.only ho2 (.inl (by omega))
   clear ho2 x0 x1 f1 HGV HC HO HR hgb
   generalize W1.setCell ⟨gq,1,none⟩ (.slice (some ⟨q,o,none⟩) m c2)=W2 at *
   have x0:W2.cell? ⟨gq,0,none⟩=some (.slice A1 n1 c1):=hbl.cell 0
   have x1:W2.cell? ⟨gq,1,none⟩=some (.slice (some ⟨q,o,none⟩) m c2):=hbl.cell 1
   have z0:W2.cell? ⟨w.heap.size,0,none⟩=some (.slice none 0 0):=hr2.cell 0
   have z1:W2.cell? ⟨w.heap.size,1,none⟩=some (.slice none 0 0):=hr2.cell 1
   have v0:=hr2.frozen 0
   have v1:=hr2.frozen 1
   have hlr:=hr2.lt
   have hgl2:=hbl.lt
   have HD:=Hd_ (cutG_done (r:=w.heap.size) hgv2 (Nat.lt_succ_self _) (by omega) hc2 hbw hO2 rfl (by simp only [Gr.cutE,List.length_take];omega))
   clear hgv2 hc2 hO2 hr2 hbl
   go_wp2_with fail
   exact bodyPost_ret (v:=.agg #[.slice A1 n1 c1,.slice (some ⟨q,o,none⟩) m c2]) (by simp [results,Tryz.results85,go_sem,z0,z1,v0,v1]) rfl ⟨_,_,rfl,HD.out⟩
 · have hde:¬ ((m:Int) < (n2:Int)):=by omega
   have x0:W1.cell? ⟨gq,0,none⟩=some (.slice A1 n1 c1):=hgb.cell 0
   have x1:W1.cell? ⟨gq,1,none⟩=some (.slice A2 n2 c2):=hgb.cell 1
   have z0:W1.cell? ⟨w.heap.size,0,none⟩=some (.slice none 0 0):=HR.out.cell 0
   have z1:W1.cell? ⟨w.heap.size,1,none⟩=some (.slice none 0 0):=HR.out.cell 1
   have v0:=HR.out.frozen 0
   have v1:=HR.out.frozen 1
   have hlr:=HR.out.lt
   go_wp2_with fail
   have HD:=cutG_done (r:=w.heap.size) HGV.out (Nat.lt_succ_self _) (by omega) HC.out hbw HO.out rfl (by omega)
   exact bodyPost_ret (v:=.agg #[.slice A1 n1 c1,.slice A2 n2 c2]) (by simp [results,Tryz.results85,go_sem,z0,z1,v0,v1]) rfl ⟨_,g,rfl,HD⟩
set_option maxHeartbeats 8000000 in
theorem l20Two_any (v:Value) (bs:List Int) (w:World) (hv:SlI 0 w.heap.size w cU 1 v bs) :
 Calls Tryz.prog 64 #[v] w (DuoOut w):=by
 have HV:=Hd_ hv
 have hb0:=((Below.refl w.heap.size w).alloc (Nat.le_refl _) (.cells #[.slice none 0 0,.slice none 0 0] 27)).alloc (by simp) (.cells #[.int .i64 0,.slice none 0 0,.slice none 0 0] 31)
 have hb1:=(Blk.new w 27 #[.slice none 0 0,.slice none 0 0] _ rfl).alloc (.cells #[.int .i64 0,.slice none 0 0,.slice none 0 0] 31)
 have hb2:=Blk.new (w.alloc (.cells #[.slice none 0 0,.slice none 0 0] 27)) 31 #[.int .i64 0,.slice none 0 0,.slice none 0 0] (w.heap.size+1) (by simp)
 have hs0:((w.alloc (.cells #[.slice none 0 0,.slice none 0 0] 27)).alloc (.cells #[.int .i64 0,.slice none 0 0,.slice none 0 0] 31)).heap.size=w.heap.size+2:=by simp
 obtain ⟨A,n,c,rfl⟩:=hv.shape
 clear hv
 go_enter Tryz.func64,Tryz.ntmps64
 go_wp2_with fail
 refine (l1New_any _ bs _ ((HV.out.below hb0 (Nat.le_refl _)).mono (Nat.le_refl _) hb0.size)).mono ?_
 rintro e w1 ⟨b,rfl,hbl,hc1,hbw⟩
 have hr1:=hb1.keep hbw
 have hr2:=hb2.keep hbw
 have hb3:=below_trans hb0 hbw
 rw [hs0] at hbl
 clear hbw hb1 hb2 hb0 hs0 HV
 go_wp2_with fail
 refine (l20Graph_any b 8 _ _ hc1 rfl (by omega)).mono ?_
 rintro e w2 ⟨vg,g,rfl,hgv,he11,hc2,ho2⟩
 have hlb:=hc1.lt
 obtain ⟨A1,n1,c1,A2,n2,c2,rfl⟩:=hgv.shape
 have hn1:=grT_len hgv
 have hs2:=ho2.size
 have hal:=(Below.refl w2.heap.size w2).alloc (Nat.le_refl _) (.cells #[.slice A1 n1 c1,.slice A2 n2 c2] 27)
 have bg:=Blk.new w2 27 #[.slice A1 n1 c1,.slice A2 n2 c2] _ rfl
 have hsA:(w2.alloc (.cells #[.slice A1 n1 c1,.slice A2 n2 c2] 27)).heap.size=w2.heap.size+1:=by simp
 have hg1:=(hgv.below hal (Nat.le_refl _)).mono (lo':=b+1) (by omega) (Nat.le_refl _)
 have hq1:=(hr1.only ho2 (.inl (by omega))).keep hal
 have hq2:=(hr2.only ho2 (.inl (by omega))).keep hal
 have hq3:=hc2.keep hal
 have hq4:=below_trans (hb3.trans (ho2.below (B:=w.heap.size) (by omega) hb3.size)) hal
 obtain ⟨gq,hgq⟩:∃ gq,gq=w2.heap.size:=⟨_,rfl⟩
 rw [<- hgq] at bg hg1 hsA hs2
 have hlq:b < gq:=by omega
 clear hgv hc2 ho2 hr1 hr2 hb3 hc1 hal
 go_wp2_with fail
 rw [<- hgq]
 generalize w2.alloc (.cells #[.slice A1 n1 c1,.slice A2 n2 c2] 27)=W2 at *
 clear hgq
 refine (l11Aut_any b _ hq3).mono ?_
 rintro e w3 ⟨⟨st,ac,nx,us,acc,nxt,rfl,hau,hnn,ho3⟩,hc3⟩
 clear hnn
 have hav:=hau.view st
 obtain ⟨a,ha⟩:∃ a:Au,a=⟨st,acc,nxt⟩:=⟨_,rfl⟩
 obtain rfl:st=a.start:=by rw [ha]
 rw [<- ha] at hav
 obtain ⟨A3,c3,rfl,-,-,-⟩:=ownSh hau.acc
 obtain ⟨A4,c4,rfl,-,-,-⟩:=ownSh hau.nxt.own
 generalize acc.length=n3 at hav ⊢
 generalize us.length=n4 at hav ⊢
 rw [hsA] at hav
 have hs3:=ho3.size
 rw [hsA] at hs3
 have hal2:=(Below.refl w3.heap.size w3).alloc (Nat.le_refl _) (.cells #[.int .i64 a.start,.slice A3 n3 c3,.slice A4 n4 c4] 31)
 have hsB:w3.heap.size<=(w3.alloc (.cells #[.int .i64 a.start,.slice A3 n3 c3,.slice A4 n4 c4] 31)).heap.size:=hal2.size
 obtain ⟨aq,haq⟩:∃ aq,aq=w3.heap.size:=⟨_,rfl⟩
 have HP:=Hd_ (show GbR b w.heap.size gq aq w (w3.alloc (.cells #[.int .i64 a.start,.slice A3 n3 c3,.slice A4 n4 c4] 31)) _ _ g _ _ a from
  ⟨(hq1.only ho3 (.inl (by omega))).keep hal2,(hq2.only ho3 (.inl (by omega))).keep hal2,(bg.only ho3 (.inr (by omega))).keep hal2,Blk.new w3 _ _ _ haq,(hg1.only ho3 (by omega) (.inr (by omega))).below hal2 (by omega),
    ⟨gq+1,aq,(haq ▸ hav.below hal2 (Nat.le_refl _)),by omega,by omega,.inr (by omega)⟩,hc3.keep hal2,below_trans (hq4.trans (ho3.below (B:=w.heap.size) (by omega) hq4.size)) hal2,rfl,he11,by omega⟩)
 clear hau hav ho3 hc3 hq1 hq2 hq3 hq4 hsA hal2 hsB hs3 ha hs2 bg hg1 he11
 go_upto_region 4 with fail
 rw [<- haq]
 generalize w3.alloc (.cells #[.int .i64 a.start,.slice A3 n3 c3,.slice A4 n4 c4] 31)=W3 at *
 clear haq hlb hbl hlq
 go_wp2_with fail
 refine (l1Once_any b 16 _ HP.out.cur).mono ?_
 rintro e w4 ⟨t,rfl,hc4,ho4⟩
 have HP4:=Hd_ (HP.out.step ho4 hc4)
 clear HP hc4 ho4
 go_upto_if 19 with fail
 go_cut [9] (fun s9 wx=>∃ (a:Au) (A3 A4:Option Addr) (n3 c3 n4 c4:Nat),s9=.pointer (some ⟨aq,0,none⟩)/\GbR b w.heap.size gq aq w wx (.slice A1 n1 c1) (.slice A2 n2 c2) g (.slice A3 n3 c3) (.slice A4 n4 c4) a)
 case first =>
  cases t
  · go_wp2_with fail
    go_meet
    exact ⟨a,A3,A4,n3,c3,n4,c4,rfl,HP4.out⟩
  · go_wp2_with fail
    refine (l11Any_any b _ HP4.out.cur).mono ?_
    rintro e w6 ⟨va,a',rfl,hau',hc6,ho6⟩
    obtain ⟨A7,n7,c7,A8,n8,c8,rfl⟩:=hau'.shape
    have HP6:=Hd_ (HP4.out.step ho6 hc6)
    have hlt5:=HP4.out.abk.lt
    have f0:=HP6.out.abk.frozen 0
    have f1:=HP6.out.abk.frozen 1
    have f2:=HP6.out.abk.frozen 2
    have u0:w6.cell? ⟨aq,0,none⟩=some (.int .i64 a.start):=HP6.out.abk.cell 0
    have u1:w6.cell? ⟨aq,1,none⟩=some (.slice A3 n3 c3):=HP6.out.abk.cell 1
    have u2:w6.cell? ⟨aq,2,none⟩=some (.slice A4 n4 c4):=HP6.out.abk.cell 2
    have hla:=HP6.out.abk.lt
    have HP7:=Hd_ (HP6.out.setA hau' hlt5)
    clear hc6 ho6 hau' HP4 HP6
    go_wp2_with fail
    go_meet
    exact ⟨a',A7,A8,n7,c7,n8,c8,rfl,HP7.out⟩
 case rest =>
  obtain ⟨a,A3,A4,n3,c3,n4,c4,rfl,hp⟩:=hcut
  have HP:=Hd_ hp
  clear hp HP4
  generalize wc=W at *
  have x0:W.cell? ⟨gq,0,none⟩=some (.slice A1 n1 c1):=HP.out.gbk.cell 0
  have x1:W.cell? ⟨gq,1,none⟩=some (.slice A2 n2 c2):=HP.out.gbk.cell 1
  have y0:W.cell? ⟨aq,0,none⟩=some (.int .i64 a.start):=HP.out.abk.cell 0
  have y1:W.cell? ⟨aq,1,none⟩=some (.slice A3 n3 c3):=HP.out.abk.cell 1
  have y2:W.cell? ⟨aq,2,none⟩=some (.slice A4 n4 c4):=HP.out.abk.cell 2
  go_wp2_with fail
  refine (specAllAnswers _ _ g a _ HP.out.grv HP.out.auv).mono ?_
  rintro e w6 ⟨vl,rfl,hol,hb6⟩
  have HP6:=Hd_ (HP.out.keep hb6)
  have hblt:b < W.heap.size:=by have:=HP.out.ord;have:=HP.out.abk.lt;omega
  have haq:aq < W.heap.size:=HP.out.abk.lt
  obtain ⟨A6,c6,rfl,hl6,hm6,-⟩:=hol.form cPr_len
  have hsl:=hol.sl cPr_len
  obtain ⟨N,hN⟩:∃ N,N=(allL g a).length:=⟨_,rfl⟩
  rw [<- hN] at hl6 hsl ⊢
  have HL:=Hd_ hsl
  have HN:=Hd_ hN
  clear hol hsl hb6 HP hN x0 x1 y0 y1 y2
  by_cases h0:N=0
  · subst h0
    go_upto_region 10 with fail
    have x0:w6.cell? ⟨gq,0,none⟩=some (.slice A1 n1 c1):=HP6.out.gbk.cell 0
    have x1:w6.cell? ⟨gq,1,none⟩=some (.slice A2 n2 c2):=HP6.out.gbk.cell 1
    have y0:w6.cell? ⟨aq,0,none⟩=some (.int .i64 a.start):=HP6.out.abk.cell 0
    have y1:w6.cell? ⟨aq,1,none⟩=some (.slice A3 n3 c3):=HP6.out.abk.cell 1
    have y2:w6.cell? ⟨aq,2,none⟩=some (.slice A4 n4 c4):=HP6.out.abk.cell 2
    go_wp2_with fail
    refine F_start 13 (fun w'=>w'.cell? ⟨gq,0,none⟩=some (.slice A1 n1 c1)/\w'.cell? ⟨gq,1,none⟩=some (.slice A2 n2 c2)/\w'.cell? ⟨aq,0,none⟩=some (.int .i64 a.start)/\w'.cell? ⟨aq,1,none⟩=some (.slice A3 n3 c3)/\w'.cell? ⟨aq,2,none⟩=some (.slice A4 n4 c4)) (by kernel_rfl) (by exact ⟨x0,x1,y0,y1,y2⟩) (fun hS inv=>?_)
    refine F_tk 0 inv ?_
    try simp only [tA,tB,tC,Act.put,tE,tF,tG]
    clear inv;intro inv
    refine F_tk 1 inv ?_
    try simp only [tA,tB,tC,Act.put,tE,tF,tG]
    clear inv;intro inv
    refine F_tk 2 inv ?_
    try simp only [tA,tB,tC,Act.put,tE,tF,tG]
    clear inv;intro inv
    refine F_tk 3 inv ?_
    try simp only [tA,tB,tC,Act.put,tE,tF,tG]
    clear inv;intro inv
    refine F_tk 4 inv ?_
    try simp only [tA,tB,tC,Act.put,tE,tF,tG]
    clear inv;intro inv
    refine F_tk 6 inv ?_
    try simp only [tA,tB,tC,Act.put,tE,tF,tG]
    clear inv;intro inv
    refine F_tk 7 inv ?_
    try simp only [tA,tB,tC,Act.put,tE,tF,tG]
    clear inv;intro inv
    have HPd:=Hd_ HP6.out.drew
    clear HP6 x0 x1 y0 y1 y2
    refine F_o1 5 inv ?_;intro K hK
    try simp only [tA,tB,tC]
    go_simp
    refine (l4Node_any b _ _ _ _ _ _ _ HPd.out.cur hn1).mono ?_
    rintro e wa ⟨x,rfl,hcz,hoz⟩
    have HPa:=Hd_ (HPd.out.step hoz hcz)
    clear hoz hcz HPd
    refine hK.out _ _ (⟨HPa.out.gbk.cell 0,HPa.out.gbk.cell 1,HPa.out.abk.cell 0,HPa.out.abk.cell 1,HPa.out.abk.cell 2⟩) (fun _ _=>?_)
    try simp only [tA,tB,tC,Act.put,tE,tF,tG]
    clear hK K inv hS;rename_i hS inv
    refine F_o1 8 inv ?_;intro K hK
    try simp only [tA,tB,tC]
    go_simp
    refine (l4Node_any b _ _ _ _ _ _ _ HPa.out.cur hn1).mono ?_
    rintro e wb ⟨y,rfl,hcz,hoz⟩
    have HPb:=Hd_ (HPa.out.step hoz hcz)
    clear hoz hcz HPa
    refine hK.out _ _ (⟨HPb.out.gbk.cell 0,HPb.out.gbk.cell 1,HPb.out.abk.cell 0,HPb.out.abk.cell 1,HPb.out.abk.cell 2⟩) (fun _ _=>?_)
    try simp only [tA,tB,tC,Act.put,tE,tF,tG]
    clear hK K inv hS;rename_i hS inv
    refine F_o1 9 inv ?_;intro K hK
    try simp only [tA,tB,tC]
    go_simp
    refine hK.out _ _ (⟨HPb.out.gbk.cell 0,HPb.out.gbk.cell 1,HPb.out.abk.cell 0,HPb.out.abk.cell 1,HPb.out.abk.cell 2⟩) (fun _ _=>?_)
    try simp only [tA,tB,tC,Act.put,tE,tF,tG]
    clear hK K inv hS;rename_i hS inv
    have z0:wb.cell? ⟨w.heap.size,0,none⟩=some (.slice none 0 0):=HPb.out.res1.cell 0
    have z1:wb.cell? ⟨w.heap.size,1,none⟩=some (.slice none 0 0):=HPb.out.res1.cell 1
    have z2:wb.cell? ⟨w.heap.size+1,0,none⟩=some (.int .i64 0):=HPb.out.res2.cell 0
    have z3:wb.cell? ⟨w.heap.size+1,1,none⟩=some (.slice none 0 0):=HPb.out.res2.cell 1
    have z4:wb.cell? ⟨w.heap.size+1,2,none⟩=some (.slice none 0 0):=HPb.out.res2.cell 2
    have v0:=HPb.out.res1.frozen 0
    have v1:=HPb.out.res1.frozen 1
    have v2:=HPb.out.res2.frozen 0
    have v3:=HPb.out.res2.frozen 1
    have v4:=HPb.out.res2.frozen 2
    have hlr:=HPb.out.res1.lt
    have hls:=HPb.out.res2.lt
    have HQ:=Hd_ (HPb.out.put (.slice A1 n1 c1) (.slice A2 n2 c2))
    have HQB:=Hd_ (HPb.out.blks HQ.out.1)
    refine F_o1 10 inv ?_;intro K hK
    try simp only [tA,tB,tC]
    go_simp
    refine hK.out _ _ (⟨HQB.out.1.cell 0,HQB.out.1.cell 1,HQB.out.2.cell 0,HQB.out.2.cell 1,HQB.out.2.cell 2⟩) (fun _ _=>?_)
    try simp only [tA,tB,tC,Act.put,tE,tF,tG]
    clear hK K inv hS;rename_i hS inv
    have HQC:=Hd_ (HPb.out.blks (putGC_only wb w.heap.size (.slice A1 n1 c1) (.slice A2 n2 c2) (.int .i64 a.start) (.slice A3 n3 c3) (.slice A4 n4 c4)))
    refine F_o1 11 inv ?_;intro K hK
    try simp only [tA,tB,tC]
    go_simp
    refine hK.out _ _ (⟨HQC.out.1.cell 0,HQC.out.1.cell 1,HQC.out.2.cell 0,HQC.out.2.cell 1,HQC.out.2.cell 2⟩) (fun _ _=>?_)
    try simp only [tA,tB,tC,Act.put,tE,tF,tG]
    clear hK K inv hS;rename_i hS inv
    refine F_o1 12 inv ?_;intro K hK
    try simp only [tA,tB,tC]
    go_simp
    refine hK.out _ _ (⟨HQC.out.1.cell 0,HQC.out.1.cell 1,HQC.out.2.cell 0,HQC.out.2.cell 1,HQC.out.2.cell 2⟩) (fun _ _=>?_)
    try simp only [tA,tB,tC,Act.put,tE,tF,tG]
    clear hK K inv hS;rename_i hS inv
    refine F_l1 13 ?_;intro K hK
    go_simp
    refine hK _ _ ?_
    clear hK K
    have HD:=Hd_ (HPb.out.fin (putGC_only wb w.heap.size (.slice A1 n1 c1) (.slice A2 n2 c2) (.int .i64 a.start) (.slice A3 n3 c3) (.slice A4 n4 c4)))
    go_wp2_with fail
    all_goals exact bodyPost_ret (v:=.tuple #[.pointer (some ⟨b,0,none⟩),.agg #[.slice A1 n1 c1,.slice A2 n2 c2],.agg #[.int .i64 a.start,.slice A3 n3 c3,.slice A4 n4 c4],.int .i64 x,.int .i64 y]) (by simp [results,Tryz.results64,go_sem,z0,z1,z2,z3,z4,v0,v1,v2,v3,v4,hlr,hls]) rfl ⟨_,_,_,_,_,_,_,rfl,HD.out⟩
  · have hN1:(0:Int) < (N:Int):=by omega
    go_wp2_with fail
    refine (l1Once_any b 3 _ HP6.out.cur).mono ?_
    rintro e w7 ⟨t,rfl,hc7,ho7⟩
    have HP7:=Hd_ (HP6.out.step ho7 hc7)
    have HL7:=Hd_ (HL.out.only ho7 (Nat.le_refl _) (.inr hblt))
    have hs7:=ho7.size
    clear HP6 hc7 ho7 HL
    cases t
    · go_wp2_with fail
      refine (l1Below_any b _ _ HP7.out.cur).mono ?_
      rintro e w8 ⟨i,rfl,⟨hi0,-,hi1⟩,hc8,ho8⟩
      have HP8:=Hd_ (HP7.out.step ho8 hc8)
      have HL8:=Hd_ (HL7.out.only ho8 hs7 (.inr hblt))
      have hs8:=ho8.size
      have hi1:=hi1 hN1
      obtain ⟨i,rfl⟩:=Int.eq_ofNat_of_zero_le hi0
      clear HP7 HL7 hc8 ho8 hi0
      have hlt:i < (allL g a).length:=by rw [<- HN.out];omega
      obtain ⟨E,hE⟩:∃ E,E=(allL g a)[i]:=⟨_,rfl⟩
      have hei:(allL g a)[i]?=some E:=by rw [hE];exact List.getElem?_eq_getElem hlt
      clear hE hlt
      obtain ⟨b6,o6,rfl,hlo6,hb6,e0,e1⟩:=prAtT HL8.out hei
      obtain ⟨e1v,e2v⟩:=E
      simp only at e0 e1
      clear hei
      have hal:=(Below.refl w8.heap.size w8).alloc (Nat.le_refl _) (.cells #[.int .i64 e1v,.int .i64 e2v] 120)
      have HP9:=Hd_ (HP8.out.keep hal)
      have bp:=Blk.new w8 120 #[.int .i64 e1v,.int .i64 e2v] _ rfl
      obtain ⟨pq,hpq⟩:∃ pq,pq=w8.heap.size:=⟨_,rfl⟩
      have hpl:aq < pq:=by omega
      have hpl2:w.heap.size+1 < pq:=by have:=HP8.out.ord;omega
      have hpl3:gq < pq:=by have:=HP8.out.ord;omega
      rw [<- hpq] at bp
      clear hal HP8
      go_upto_region 9 with fail
      rw [<- hpq]
      generalize (w8.alloc (.cells #[.int .i64 e1v,.int .i64 e2v] 120))=W9 at *
      clear hpq e0 e1
      have e0:W9.cell? ⟨pq,0,none⟩=some (.int .i64 e1v):=bp.cell 0
      have e1:W9.cell? ⟨pq,1,none⟩=some (.int .i64 e2v):=bp.cell 1
      have r1:¬ pq=w.heap.size:=by omega
      have r2:¬ w.heap.size=pq:=by omega
      have r3:¬ pq=w.heap.size+1:=by omega
      have r4:¬ w.heap.size+1=pq:=by omega
      have r5:¬ pq=gq:=by omega
      have r6:¬ gq=pq:=by omega
      have r7:¬ pq=aq:=by omega
      have r8:¬ aq=pq:=by omega
      clear bp hpl hpl2 hpl3
      have x0:W9.cell? ⟨gq,0,none⟩=some (.slice A1 n1 c1):=HP9.out.gbk.cell 0
      have x1:W9.cell? ⟨gq,1,none⟩=some (.slice A2 n2 c2):=HP9.out.gbk.cell 1
      have y0:W9.cell? ⟨aq,0,none⟩=some (.int .i64 a.start):=HP9.out.abk.cell 0
      have y1:W9.cell? ⟨aq,1,none⟩=some (.slice A3 n3 c3):=HP9.out.abk.cell 1
      have y2:W9.cell? ⟨aq,2,none⟩=some (.slice A4 n4 c4):=HP9.out.abk.cell 2
      have z0:W9.cell? ⟨w.heap.size,0,none⟩=some (.slice none 0 0):=HP9.out.res1.cell 0
      have z1:W9.cell? ⟨w.heap.size,1,none⟩=some (.slice none 0 0):=HP9.out.res1.cell 1
      have z2:W9.cell? ⟨w.heap.size+1,0,none⟩=some (.int .i64 0):=HP9.out.res2.cell 0
      have z3:W9.cell? ⟨w.heap.size+1,1,none⟩=some (.slice none 0 0):=HP9.out.res2.cell 1
      have z4:W9.cell? ⟨w.heap.size+1,2,none⟩=some (.slice none 0 0):=HP9.out.res2.cell 2
      have v0:=HP9.out.res1.frozen 0
      have v1:=HP9.out.res1.frozen 1
      have v2:=HP9.out.res2.frozen 0
      have v3:=HP9.out.res2.frozen 1
      have v4:=HP9.out.res2.frozen 2
      have hlr:=HP9.out.res1.lt
      have hls:=HP9.out.res2.lt
      have hord:=HP9.out.ord
      have q1:¬ aq=w.heap.size:=by omega
      have q2:¬ w.heap.size=aq:=by omega
      have q3:¬ aq=w.heap.size+1:=by omega
      have q4:¬ w.heap.size+1=aq:=by omega
      have q5:¬ gq=w.heap.size:=by omega
      have q6:¬ w.heap.size=gq:=by omega
      have q7:¬ gq=w.heap.size+1:=by omega
      have q8:¬ w.heap.size+1=gq:=by omega
      clear hord
      go_wp2_with fail
      go_region
      have HD:=HP9.out.fin (putGA_only W9 w.heap.size (.slice A1 n1 c1) (.slice A2 n2 c2) (.int .i64 a.start) (.slice A3 n3 c3) (.slice A4 n4 c4))
      go_wp2_with fail
      exact bodyPost_ret (v:=.tuple #[.pointer (some ⟨b,0,none⟩),.agg #[.slice A1 n1 c1,.slice A2 n2 c2],.agg #[.int .i64 a.start,.slice A3 n3 c3,.slice A4 n4 c4],.int .i64 e1v,.int .i64 e2v]) (by simp [results,Tryz.results64,go_sem,z0,z1,z2,z3,z4,v0,v1,v2,v3,v4]) rfl ⟨_,_,_,_,_,_,_,rfl,HD⟩
    · go_upto_region 10 with fail
      have x0:w7.cell? ⟨gq,0,none⟩=some (.slice A1 n1 c1):=HP7.out.gbk.cell 0
      have x1:w7.cell? ⟨gq,1,none⟩=some (.slice A2 n2 c2):=HP7.out.gbk.cell 1
      have y0:w7.cell? ⟨aq,0,none⟩=some (.int .i64 a.start):=HP7.out.abk.cell 0
      have y1:w7.cell? ⟨aq,1,none⟩=some (.slice A3 n3 c3):=HP7.out.abk.cell 1
      have y2:w7.cell? ⟨aq,2,none⟩=some (.slice A4 n4 c4):=HP7.out.abk.cell 2
      go_wp2_with fail
      refine F_start 13 (fun w'=>w'.cell? ⟨gq,0,none⟩=some (.slice A1 n1 c1)/\w'.cell? ⟨gq,1,none⟩=some (.slice A2 n2 c2)/\w'.cell? ⟨aq,0,none⟩=some (.int .i64 a.start)/\w'.cell? ⟨aq,1,none⟩=some (.slice A3 n3 c3)/\w'.cell? ⟨aq,2,none⟩=some (.slice A4 n4 c4)) (by kernel_rfl) (by exact ⟨x0,x1,y0,y1,y2⟩) (fun hS inv=>?_)
      refine F_tk 0 inv ?_
      try simp only [tA,tB,tC,Act.put,tE,tF,tG]
      clear inv;intro inv
      refine F_tk 1 inv ?_
      try simp only [tA,tB,tC,Act.put,tE,tF,tG]
      clear inv;intro inv
      refine F_tk 2 inv ?_
      try simp only [tA,tB,tC,Act.put,tE,tF,tG]
      clear inv;intro inv
      refine F_tk 3 inv ?_
      try simp only [tA,tB,tC,Act.put,tE,tF,tG]
      clear inv;intro inv
      refine F_tk 4 inv ?_
      try simp only [tA,tB,tC,Act.put,tE,tF,tG]
      clear inv;intro inv
      refine F_tk 6 inv ?_
      try simp only [tA,tB,tC,Act.put,tE,tF,tG]
      clear inv;intro inv
      refine F_tk 7 inv ?_
      try simp only [tA,tB,tC,Act.put,tE,tF,tG]
      clear inv;intro inv
      have HPd:=Hd_ HP7.out.drew
      clear HP7 x0 x1 y0 y1 y2
      refine F_o1 5 inv ?_;intro K hK
      try simp only [tA,tB,tC]
      go_simp
      refine (l4Node_any b _ _ _ _ _ _ _ HPd.out.cur hn1).mono ?_
      rintro e wa ⟨x,rfl,hcz,hoz⟩
      have HPa:=Hd_ (HPd.out.step hoz hcz)
      clear hoz hcz HPd
      refine hK.out _ _ (⟨HPa.out.gbk.cell 0,HPa.out.gbk.cell 1,HPa.out.abk.cell 0,HPa.out.abk.cell 1,HPa.out.abk.cell 2⟩) (fun _ _=>?_)
      try simp only [tA,tB,tC,Act.put,tE,tF,tG]
      clear hK K inv hS;rename_i hS inv
      refine F_o1 8 inv ?_;intro K hK
      try simp only [tA,tB,tC]
      go_simp
      refine (l4Node_any b _ _ _ _ _ _ _ HPa.out.cur hn1).mono ?_
      rintro e wb ⟨y,rfl,hcz,hoz⟩
      have HPb:=Hd_ (HPa.out.step hoz hcz)
      clear hoz hcz HPa
      refine hK.out _ _ (⟨HPb.out.gbk.cell 0,HPb.out.gbk.cell 1,HPb.out.abk.cell 0,HPb.out.abk.cell 1,HPb.out.abk.cell 2⟩) (fun _ _=>?_)
      try simp only [tA,tB,tC,Act.put,tE,tF,tG]
      clear hK K inv hS;rename_i hS inv
      refine F_o1 9 inv ?_;intro K hK
      try simp only [tA,tB,tC]
      go_simp
      refine hK.out _ _ (⟨HPb.out.gbk.cell 0,HPb.out.gbk.cell 1,HPb.out.abk.cell 0,HPb.out.abk.cell 1,HPb.out.abk.cell 2⟩) (fun _ _=>?_)
      try simp only [tA,tB,tC,Act.put,tE,tF,tG]
      clear hK K inv hS;rename_i hS inv
      have z0:wb.cell? ⟨w.heap.size,0,none⟩=some (.slice none 0 0):=HPb.out.res1.cell 0
      have z1:wb.cell? ⟨w.heap.size,1,none⟩=some (.slice none 0 0):=HPb.out.res1.cell 1
      have z2:wb.cell? ⟨w.heap.size+1,0,none⟩=some (.int .i64 0):=HPb.out.res2.cell 0
      have z3:wb.cell? ⟨w.heap.size+1,1,none⟩=some (.slice none 0 0):=HPb.out.res2.cell 1
      have z4:wb.cell? ⟨w.heap.size+1,2,none⟩=some (.slice none 0 0):=HPb.out.res2.cell 2
      have v0:=HPb.out.res1.frozen 0
      have v1:=HPb.out.res1.frozen 1
      have v2:=HPb.out.res2.frozen 0
      have v3:=HPb.out.res2.frozen 1
      have v4:=HPb.out.res2.frozen 2
      have hlr:=HPb.out.res1.lt
      have hls:=HPb.out.res2.lt
      have HQ:=Hd_ (HPb.out.put (.slice A1 n1 c1) (.slice A2 n2 c2))
      have HQB:=Hd_ (HPb.out.blks HQ.out.1)
      refine F_o1 10 inv ?_;intro K hK
      try simp only [tA,tB,tC]
      go_simp
      refine hK.out _ _ (⟨HQB.out.1.cell 0,HQB.out.1.cell 1,HQB.out.2.cell 0,HQB.out.2.cell 1,HQB.out.2.cell 2⟩) (fun _ _=>?_)
      try simp only [tA,tB,tC,Act.put,tE,tF,tG]
      clear hK K inv hS;rename_i hS inv
      have HQC:=Hd_ (HPb.out.blks (putGC_only wb w.heap.size (.slice A1 n1 c1) (.slice A2 n2 c2) (.int .i64 a.start) (.slice A3 n3 c3) (.slice A4 n4 c4)))
      refine F_o1 11 inv ?_;intro K hK
      try simp only [tA,tB,tC]
      go_simp
      refine hK.out _ _ (⟨HQC.out.1.cell 0,HQC.out.1.cell 1,HQC.out.2.cell 0,HQC.out.2.cell 1,HQC.out.2.cell 2⟩) (fun _ _=>?_)
      try simp only [tA,tB,tC,Act.put,tE,tF,tG]
      clear hK K inv hS;rename_i hS inv
      refine F_o1 12 inv ?_;intro K hK
      try simp only [tA,tB,tC]
      go_simp
      refine hK.out _ _ (⟨HQC.out.1.cell 0,HQC.out.1.cell 1,HQC.out.2.cell 0,HQC.out.2.cell 1,HQC.out.2.cell 2⟩) (fun _ _=>?_)
      try simp only [tA,tB,tC,Act.put,tE,tF,tG]
      clear hK K inv hS;rename_i hS inv
      refine F_l1 13 ?_;intro K hK
      go_simp
      refine hK _ _ ?_
      clear hK K
      have HD:=Hd_ (HPb.out.fin (putGC_only wb w.heap.size (.slice A1 n1 c1) (.slice A2 n2 c2) (.int .i64 a.start) (.slice A3 n3 c3) (.slice A4 n4 c4)))
      go_wp2_with fail
      all_goals exact bodyPost_ret (v:=.tuple #[.pointer (some ⟨b,0,none⟩),.agg #[.slice A1 n1 c1,.slice A2 n2 c2],.agg #[.int .i64 a.start,.slice A3 n3 c3,.slice A4 n4 c4],.int .i64 x,.int .i64 y]) (by simp [results,Tryz.results64,go_sem,z0,z1,z2,z3,z4,v0,v1,v2,v3,v4,hlr,hls]) rfl ⟨_,_,_,_,_,_,_,rfl,HD.out⟩
set_option maxHeartbeats 1000000 in
theorem l20Budget_any (b:Nat) (w:World) (hc:Cur w b) :
 Calls Tryz.prog 65 #[.pointer (some ⟨b,0,none⟩)] w fun e w'=>∃ r:Int,e=.returned (.int .i64 r)/\Cur w' b/\Only b (b+1) w w':=by
 have hlt:=hc.lt
 have HSL:=Hd_ (litD_sl w 3 #[.int .i64 20000,.int .i64 20000,.int .i64 20000,.int .i64 10,.int .i64 3,.int .i64 0,.int .i64 1,.int .i64 20001] [20000,20000,20000,10,3,0,1,20001] 8 (b+1) (by omega) (by decide) rfl rfl rfl)
 have HAL:=Hd_ ((Below.refl w.heap.size w).alloc (Nat.le_refl _) (.cells #[.int .i64 20000,.int .i64 20000,.int .i64 20000,.int .i64 10,.int .i64 3,.int .i64 0,.int .i64 1,.int .i64 20001] 3))
 have HC:=Hd_ hc
 clear hc
 go_enter Tryz.func65,Tryz.ntmps65
 go_wp2_with fail
 refine (l1PickInt_any b _ _ _ (HC.out.keep HAL.out) (by decide) HSL.out).mono ?_
 rintro e w1 ⟨r,rfl,-,hc1,ho1⟩
 have HO:=Hd_ ((Only.of_below HAL.out b (b+1)).trans ho1)
 clear ho1
 go_wp2_with fail
 go_ret
 exact ⟨r,rfl,hc1,HO.out⟩
set_option maxHeartbeats 8000000 in
theorem drawSearchSimplePath_any (v:Value) (bs:List Int) (w:World) (hv:SlI 0 w.heap.size w cU 1 v bs) :
 Calls Tryz.prog 25 #[v] w (FiveOut w):=by
 have HV:=Hd_ hv
 have hb0:=((Below.refl w.heap.size w).alloc (Nat.le_refl _) (.cells #[.slice none 0 0,.slice none 0 0] 27)).alloc (by simp) (.cells #[.int .i64 0,.slice none 0 0,.slice none 0 0] 31)
 have hb1:=(Blk.new w 27 #[.slice none 0 0,.slice none 0 0] _ rfl).alloc (.cells #[.int .i64 0,.slice none 0 0,.slice none 0 0] 31)
 have hb2:=Blk.new (w.alloc (.cells #[.slice none 0 0,.slice none 0 0] 27)) 31 #[.int .i64 0,.slice none 0 0,.slice none 0 0] (w.heap.size+1) (by simp)
 have hs0:((w.alloc (.cells #[.slice none 0 0,.slice none 0 0] 27)).alloc (.cells #[.int .i64 0,.slice none 0 0,.slice none 0 0] 31)).heap.size=w.heap.size+2:=by simp
 obtain ⟨A,n,c,rfl⟩:=hv.shape
 clear hv
 go_enter Tryz.func25,Tryz.ntmps25
 go_wp2_with fail
 refine (l20Two_any _ bs _ ((HV.out.below hb0 (Nat.le_refl _)).mono (Nat.le_refl _) hb0.size)).mono ?_
 rintro e w2 ⟨b,vg,va,g,a,x,y,rfl,hbl,hgv,he11,hav,hc2,hbw⟩
 have hr1:=hb1.keep hbw
 have hr2:=hb2.keep hbw
 have hb3:=below_trans hb0 hbw
 rw [hs0] at hbl
 clear hbw hb1 hb2 hb0 hs0 HV
 have hlb:=hc2.lt
 obtain ⟨A1,n1,c1,A2,n2,c2,rfl⟩:=hgv.shape
 obtain ⟨A3,n3,c3,A4,n4,c4,rfl⟩:=hav.shape
 have hn1:=grT_len hgv
 have hal:=((Below.refl w2.heap.size w2).alloc (Nat.le_refl _) (.cells #[.slice A1 n1 c1,.slice A2 n2 c2] 27)).alloc (by simp) (.cells #[.int .i64 a.start,.slice A3 n3 c3,.slice A4 n4 c4] 31)
 have bg:=(Blk.new w2 27 #[.slice A1 n1 c1,.slice A2 n2 c2] _ rfl).alloc (.cells #[.int .i64 a.start,.slice A3 n3 c3,.slice A4 n4 c4] 31)
 have ba:=Blk.new (w2.alloc (.cells #[.slice A1 n1 c1,.slice A2 n2 c2] 27)) 31 #[.int .i64 a.start,.slice A3 n3 c3,.slice A4 n4 c4] (w2.heap.size+1) (by simp)
 obtain ⟨gq,hgq⟩:∃ gq,gq=w2.heap.size:=⟨_,rfl⟩
 have HP:=Hd_ (show GaR b w.heap.size gq (gq+1) w ((w2.alloc (.cells #[.slice A1 n1 c1,.slice A2 n2 c2] 27)).alloc (.cells #[.int .i64 a.start,.slice A3 n3 c3,.slice A4 n4 c4] 31)) _ _ g _ _ a from
  ⟨hr1.keep hal,hr2.keep hal,hgq ▸ bg,hgq ▸ ba,(hgv.below hal (Nat.le_refl _)).mono (by omega) (by omega),(hav.below hal (Nat.le_refl _)).mono (by omega) (by omega),hc2.keep hal,below_trans hb3 hal,rfl,he11,by omega⟩)
 clear hal bg ba hgv hav hc2 hr1 hr2 hb3 he11
 go_upto_region 2 with fail
 rw [<- hgq]
 generalize ((w2.alloc (.cells #[.slice A1 n1 c1,.slice A2 n2 c2] 27)).alloc (.cells #[.int .i64 a.start,.slice A3 n3 c3,.slice A4 n4 c4] 31))=W at *
 clear hgq hlb
 have x0:W.cell? ⟨gq,0,none⟩=some (.slice A1 n1 c1):=HP.out.gbk.cell 0
 have x1:W.cell? ⟨gq,1,none⟩=some (.slice A2 n2 c2):=HP.out.gbk.cell 1
 have y0:W.cell? ⟨gq+1,0,none⟩=some (.int .i64 a.start):=HP.out.abk.cell 0
 have y1:W.cell? ⟨gq+1,1,none⟩=some (.slice A3 n3 c3):=HP.out.abk.cell 1
 have y2:W.cell? ⟨gq+1,2,none⟩=some (.slice A4 n4 c4):=HP.out.abk.cell 2
 go_wp2_with fail
 refine F_start 10 (fun w'=>w'.cell? ⟨gq,0,none⟩=some (.slice A1 n1 c1)/\w'.cell? ⟨gq,1,none⟩=some (.slice A2 n2 c2)/\w'.cell? ⟨gq+1,0,none⟩=some (.int .i64 a.start)/\w'.cell? ⟨gq+1,1,none⟩=some (.slice A3 n3 c3)/\w'.cell? ⟨gq+1,2,none⟩=some (.slice A4 n4 c4)) (by kernel_rfl) (by exact ⟨x0,x1,y0,y1,y2⟩) (fun hS inv=>?_)
 refine F_tk 0 inv ?_
 try simp only [tA,tB,tC,Act.put,tE,tF,tG]
 clear inv;intro inv
 refine F_tk 1 inv ?_
 try simp only [tA,tB,tC,Act.put,tE,tF,tG]
 clear inv;intro inv
 refine F_tk 2 inv ?_
 try simp only [tA,tB,tC,Act.put,tE,tF,tG]
 clear inv;intro inv
 refine F_tk 3 inv ?_
 try simp only [tA,tB,tC,Act.put,tE,tF,tG]
 clear inv;intro inv
 refine F_tk 4 inv ?_
 try simp only [tA,tB,tC,Act.put,tE,tF,tG]
 clear inv;intro inv
 have HPd:=Hd_ HP.out.drew
 clear HP x0 x1 y0 y1 y2
 refine F_o1 5 inv ?_;intro K hK
 try simp only [tA,tB,tC]
 go_simp
 refine (l20Budget_any b _ HPd.out.cur).mono ?_
 rintro e w8 ⟨q,rfl,hc8,ho8⟩
 have HP8:=Hd_ (HPd.out.step ho8 hc8)
 clear ho8 hc8 HPd
 refine hK.out _ _ (⟨HP8.out.gbk.cell 0,HP8.out.gbk.cell 1,HP8.out.abk.cell 0,HP8.out.abk.cell 1,HP8.out.abk.cell 2⟩) (fun _ _=>?_)
 try simp only [tA,tB,tC,Act.put,tE,tF,tG]
 clear hK K inv hS;rename_i hS inv
 have z0:w8.cell? ⟨w.heap.size,0,none⟩=some (.slice none 0 0):=HP8.out.res1.cell 0
 have z1:w8.cell? ⟨w.heap.size,1,none⟩=some (.slice none 0 0):=HP8.out.res1.cell 1
 have z2:w8.cell? ⟨w.heap.size+1,0,none⟩=some (.int .i64 0):=HP8.out.res2.cell 0
 have z3:w8.cell? ⟨w.heap.size+1,1,none⟩=some (.slice none 0 0):=HP8.out.res2.cell 1
 have z4:w8.cell? ⟨w.heap.size+1,2,none⟩=some (.slice none 0 0):=HP8.out.res2.cell 2
 have v0:=HP8.out.res1.frozen 0
 have v1:=HP8.out.res1.frozen 1
 have v2:=HP8.out.res2.frozen 0
 have v3:=HP8.out.res2.frozen 1
 have v4:=HP8.out.res2.frozen 2
 have hlr:=HP8.out.res1.lt
 have hls:=HP8.out.res2.lt
 have HQ:=Hd_ (HP8.out.put (.slice A1 n1 c1) (.slice A2 n2 c2))
 have HQB:=Hd_ (HP8.out.blks HQ.out.1)
 refine F_o1 6 inv ?_;intro K hK
 try simp only [tA,tB,tC]
 go_simp
 refine hK.out _ _ (⟨HQB.out.1.cell 0,HQB.out.1.cell 1,HQB.out.2.cell 0,HQB.out.2.cell 1,HQB.out.2.cell 2⟩) (fun _ _=>?_)
 try simp only [tA,tB,tC,Act.put,tE,tF,tG]
 clear hK K inv hS;rename_i hS inv
 have HQC:=Hd_ (HP8.out.blks (putGC_only w8 w.heap.size (.slice A1 n1 c1) (.slice A2 n2 c2) (.int .i64 a.start) (.slice A3 n3 c3) (.slice A4 n4 c4)))
 refine F_o1 7 inv ?_;intro K hK
 try simp only [tA,tB,tC]
 go_simp
 refine hK.out _ _ (⟨HQC.out.1.cell 0,HQC.out.1.cell 1,HQC.out.2.cell 0,HQC.out.2.cell 1,HQC.out.2.cell 2⟩) (fun _ _=>?_)
 try simp only [tA,tB,tC,Act.put,tE,tF,tG]
 clear hK K inv hS;rename_i hS inv
 refine F_o1 8 inv ?_;intro K hK
 try simp only [tA,tB,tC]
 go_simp
 refine hK.out _ _ (⟨HQC.out.1.cell 0,HQC.out.1.cell 1,HQC.out.2.cell 0,HQC.out.2.cell 1,HQC.out.2.cell 2⟩) (fun _ _=>?_)
 try simp only [tA,tB,tC,Act.put,tE,tF,tG]
 clear hK K inv hS;rename_i hS inv
 refine F_o1 9 inv ?_;intro K hK
 try simp only [tA,tB,tC]
 go_simp
 refine hK.out _ _ (⟨HQC.out.1.cell 0,HQC.out.1.cell 1,HQC.out.2.cell 0,HQC.out.2.cell 1,HQC.out.2.cell 2⟩) (fun _ _=>?_)
 try simp only [tA,tB,tC,Act.put,tE,tF,tG]
 clear hK K inv hS;rename_i hS inv
 refine F_l1 10 ?_;intro K hK
 go_simp
 refine hK _ _ ?_
 clear hK K
 have HD:=Hd_ (HP8.out.fin0 (putGC_only w8 w.heap.size (.slice A1 n1 c1) (.slice A2 n2 c2) (.int .i64 a.start) (.slice A3 n3 c3) (.slice A4 n4 c4)))
 go_wp2_with fail
 all_goals exact bodyPost_ret (v:=.tuple #[.agg #[.slice A1 n1 c1,.slice A2 n2 c2],.agg #[.int .i64 a.start,.slice A3 n3 c3,.slice A4 n4 c4],.int .i64 x,.int .i64 y,.int .i64 q]) (by simp [results,Tryz.results25,go_sem,z0,z1,z2,z3,z4,v0,v1,v2,v3,v4,hlr,hls]) rfl ⟨_,_,g,a,_,_,_,rfl,HD.out⟩
end Go.Proofs.YtjpdembmchnbgaaGreat
namespace Go.Proofs.YtjpdembmchnbgaaGreat
def nodesL (g:Gr) (k:Wk):List Int:=k.1 :: k.2.map (stepTo g)
theorem nodesL_len (g:Gr) (k:Wk):(nodesL g k).length=k.2.length+1:=by simp [nodesL]
theorem nodesL_succ {g:Gr} {k:Wk} {i:Nat} {s:St} (h:k.2[i]?=some s):(nodesL g k).take (i+1+1)=(nodesL g k).take (i+1) ++ [stepTo g s]:=by
 refine take_snoc ?_
 rw [nodesL,List.getElem?_cons_succ,List.getElem?_map,h];rfl
theorem nodesL_next {g:Gr} {k:Wk} {i:Nat} {s:St} (h:k.2[i]?=some s):(nodesL g k)[i+1]?=some (stepTo g s):=by rw [nodesL,List.getElem?_cons_succ,List.getElem?_map,h];rfl
/-- the step leads from the node that the walk is at -/
def linkAt (g:Gr) (k:Wk) (i:Nat):Bool:=stepFrom g (k.2.getD i (0,false))==(nodesL g k).getD i 0
def walkOk (g:Gr) (k:Wk):Bool:=grOk g && wi k.1 0 ((g.vals.length:Int) - 1) && decide (k.2.length<=60) && (List.range k.2.length).all (linkAt g k)
/-- the nodes of a walk of the graph; none of another -/
def nodesOut (g:Gr) (k:Wk):List Int:=if walkOk g k=true then nodesL g k else []
theorem nodesOut_no {g:Gr} {k:Wk} (h:walkOk g k=false):nodesOut g k=[]:=by rw [nodesOut,h];rfl
theorem nodesOut_yes {g:Gr} {k:Wk} (h:walkOk g k=true):nodesOut g k=nodesL g k:=by rw [nodesOut,h];rfl
theorem linkAt_eq {g:Gr} {k:Wk} {i:Nat} {s:St} {x:Int} (h:k.2[i]?=some s) (hx:(nodesL g k)[i]?=some x):linkAt g k i=(stepFrom g s==x):=by
 rw [linkAt,List.getD_eq_getElem?_getD,h,List.getD_eq_getElem?_getD,hx];rfl
/-- node i of a walk -/
def nodeAt (g:Gr) (k:Wk) (i:Nat):Nat:=((nodesL g k).getD i 0).toNat
def letAt (g:Gr) (k:Wk) (i:Nat):Nat:=(stepLetter g (k.2.getD i (0,false))).toNat
/-- the states behind i steps -/
def setAt (g:Gr) (a:Au) (k:Wk):Nat->Nat
 | 0=>bit a.start.toNat
 | i+1=>aft a (setAt g a k i) (valAt g (nodeAt g k i)) (letAt g k i)
def setsL (g:Gr) (a:Au) (k:Wk) (n:Nat):List Nat:=(List.range n).map (setAt g a k)
theorem setsL_len (g:Gr) (a:Au) (k:Wk) (n:Nat):(setsL g a k n).length=n:=by simp [setsL]
theorem setsL_snoc (g:Gr) (a:Au) (k:Wk) (n:Nat):setsL g a k (n+1)=setsL g a k n ++ [setAt g a k n]:=by simp [setsL,List.range_succ]
theorem setsL_at {g:Gr} {a:Au} {k:Wk} {n i:Nat} (h:i < n):(setsL g a k n)[i]?=some (setAt g a k i):=by simp [setsL,h]
theorem setAt_lt {g:Gr} {a:Au} (ha:auOk a=true) (k:Wk) (i:Nat):setAt g a k i < 2 ^ a.accept.length:=by
 cases i with
 | zero=>exact bit_lt (by have:=(auOk_iff.1 ha).2.1;omega)
 | succ i=>exact aft_lt ha _ _ _
theorem walkOk_parts {g:Gr} {k:Wk} (h:walkOk g k=true):GrOk g/\(0<=k.1/\k.1<=(g.vals.length:Int) - 1)/\k.2.length<=60/\∀ i,i < k.2.length->linkAt g k i=true:=by
 simp only [walkOk,Bool.and_eq_true,wi_iff,decide_eq_true_eq,List.all_eq_true,List.mem_range] at h
 exact ⟨grOk_iff.1 h.1.1.1,h.1.1.2,h.1.2,h.2⟩
theorem stepTo_of {g:Gr} {s:St} {e:Ed} (h:stepEd g s.1=some e):stepTo g s=arcTo s.2 e:=by
 unfold stepTo stepFrom arcTo
 simp only [h]
 cases s.2 <;> rfl
theorem stepFrom_of {g:Gr} {s:St} {e:Ed} (h:stepEd g s.1=some e):stepFrom g s=arcTo (!s.2) e:=by
 unfold stepFrom arcTo
 simp only [h]
 cases s.2 <;> rfl
theorem stepLetter_of {g:Gr} {s:St} {e:Ed} (h:stepEd g s.1=some e):stepLetter g s=arcLetter s.2 e:=by
 unfold stepLetter arcLetter
 simp only [h]
theorem nodeAt_at {g:Gr} {k:Wk} {i:Nat} (h:i<=k.2.length):(nodesL g k)[i]?=some ((nodesL g k).getD i 0):=by
 rw [List.getD_eq_getElem?_getD,List.getElem?_eq_getElem (by rw [nodesL_len];omega)];rfl
/-- the nodes of a walk of the graph are nodes of the graph, and its steps are edges of it -/
theorem walk_parts {g:Gr} {k:Wk} (h:walkOk g k=true):∀ {i:Nat},i<=k.2.length->(0<=(nodesL g k).getD i 0/\(nodesL g k).getD i 0<=(g.vals.length:Int) - 1) /\
 (i < k.2.length->∃ s e,k.2[i]?=some s/\stepEd g s.1=some e/\stepFrom g s=(nodesL g k).getD i 0/\stepTo g s=(nodesL g k).getD (i+1) 0):=by
 obtain ⟨hg,hk,-,hl⟩:=walkOk_parts h
 have step:∀ i,i < k.2.length->0<=(nodesL g k).getD i 0->∃ s e,k.2[i]?=some s/\stepEd g s.1=some e/\stepFrom g s=(nodesL g k).getD i 0/\stepTo g s=(nodesL g k).getD (i+1) 0:=by
  intro i hi h0
  have hs:k.2[i]?=some k.2[i]:=List.getElem?_eq_getElem hi
  generalize k.2[i]=s at hs
  have hlk:=hl i hi
  rw [linkAt_eq hs (nodeAt_at (by omega)),beq_iff_eq] at hlk
  have hnx:=nodesL_next (g:=g) hs
  have hnx2:=nodeAt_at (g:=g) (k:=k) (i:=i+1) (by omega)
  rw [hnx] at hnx2
  cases he:stepEd g s.1 with
  | none =>
    have:=stepFrom_neg.2 he
    omega
  | some e=>exact ⟨s,e,hs,he,hlk,by injection hnx2⟩
 intro i
 induction i with
 | zero=>exact fun _=>⟨hk,fun hi=>step 0 hi hk.1⟩
 | succ i ih =>
   intro hi
   obtain ⟨hr,hst⟩:=ih (by omega)
   obtain ⟨s,e,hs,he,hf,ht⟩:=hst (by omega)
   have hrange:0<=stepTo g s/\stepTo g s<=(g.vals.length:Int) - 1:=by
    rw [stepTo_of he]
    obtain ⟨_,hm,_⟩:=stepEd_ok he
    have:=hg.edges e hm
    unfold arcTo
    split <;> omega
   rw [ht] at hrange
   exact ⟨hrange,fun hi2=>step (i+1) hi2 hrange.1⟩
theorem nodeAt_lt {g:Gr} {k:Wk} (h:walkOk g k=true) {i:Nat} (hi:i<=k.2.length):(nodesL g k)[i]?=some (nodeAt g k i:Int)/\nodeAt g k i < g.vals.length:=by
 have h1:=(walk_parts h hi).1
 refine ⟨?_,?_⟩
 · rw [nodeAt_at hi,nodeAt,Int.toNat_of_nonneg h1.1]
 · unfold nodeAt;omega
/-- step i: its edge, its letter, the node behind it -/
theorem walk_step {g:Gr} {k:Wk} (h:walkOk g k=true) {i:Nat} (hi:i < k.2.length):∃ s e,k.2[i]?=some s/\stepEd g s.1=some e/\arcTo s.2 e=(nodeAt g k (i+1):Int)/\arcLetter s.2 e=(letAt g k i:Int)/\stepLetter g s=(letAt g k i:Int)/\letAt g k i < 6:=by
 obtain ⟨s,e,hs,he,-,ht⟩:=(walk_parts h (Nat.le_of_lt hi)).2 hi
 obtain ⟨hg,hm,_⟩:=stepEd_ok he
 have hl:=hg.edges e hm
 have h1:=(walk_parts h (show i+1<=k.2.length from hi)).1
 have hsd:k.2.getD i (0,false)=s:=by rw [List.getD_eq_getElem?_getD,hs];rfl
 have hr:0<=arcLetter s.2 e/\arcLetter s.2 e<=5:=by
  unfold arcLetter
  split <;> omega
 have hla:(letAt g k i:Int)=arcLetter s.2 e:=by rw [letAt,hsd,stepLetter_of he,Int.toNat_of_nonneg hr.1]
 refine ⟨s,e,hs,he,?_,hla.symm,by rw [stepLetter_of he,hla],by omega⟩
 rw [<- stepTo_of he,ht,nodeAt,Int.toNat_of_nonneg h1.1]
def walkEnd (g:Gr) (k:Wk):Int:=if walkOk g k=true then (nodeAt g k k.2.length:Int) else -1
def matchB (g:Gr) (a:Au) (k:Wk):Bool:=(walkOk g k && auOk a) && acc a (setAt g a k k.2.length) (valAt g (nodeAt g k k.2.length))
def isWit (g:Gr) (a:Au) (x y:Int) (k:Wk):Bool:=(k.1==x && walkEnd g k==y) && matchB g a k
def alongS (g:Gr) (a:Au) (k:Wk):List Nat:=if (walkOk g k && auOk a)=true then setsL g a k (k.2.length+1) else []
def alongN (g:Gr) (a:Au) (k:Wk):List Int:=if (walkOk g k && auOk a)=true then nodesL g k else []
end Go.Proofs.YtjpdembmchnbgaaGreat
namespace Go.Proofs.YtjpdembmchnbgaaGreat
open Go.ChangeShapes Go.WideShapes Go.ChangeAt Go.RowKit
attribute [local go_sem] ext_cell ext_frozen ext_lt ext_lt1 ext_lt2 ext_lt3 ltn2 ltn3 ltn13 lts1 lts2 lts3
set_option maxHeartbeats 1000000 in
theorem implStepEdge (v:Value) (g:Gr) (s:St) (w:World) (hv:GrV 0 w.heap.size w v g) :
 Calls Tryz.prog 175 #[v,.agg #[.int .i64 s.1,.bool s.2]] w fun en w'=>∃ e:Ed,en=.returned (.tuple #[.agg #[.int .i64 e.1,.int .i64 e.2.1,.int .i64 e.2.2.1,.int .i64 e.2.2.2],.bool (stepEd g s.1).isSome])/\(∀ e',stepEd g s.1=some e'->e'=e)/\Below w.heap.size w w':=by
 have hv0:=hv
 obtain ⟨vs,es,rfl,hvs,⟨A2,c2,rfl,hl2,hm2,hx2⟩⟩:=hv
 obtain ⟨A1,n1,c1,rfl⟩:=hvs.shape
 obtain ⟨id,inv⟩:=s
 unfold maxLen at hm2
 have hb0:Below w.heap.size w (((w.alloc (.cells #[.slice A1 n1 c1,.slice A2 g.edges.length c2] 27)).alloc (.cells #[.int .i64 id,.bool inv] 81)).alloc (.cells #[.int .i64 0,.int .i64 0,.int .i64 0,.int .i64 0] 138)):=(((Below.refl _ _).alloc (Nat.le_refl _) _).alloc (by simp) _).alloc (by simp <;> omega) _
 have hspec:=edgeIdx_spec g id
 simp only
 go_enter Tryz.func175,Tryz.ntmps175
 have HS:=Hd_ hspec
 clear hspec
 go_wp2_with fail
 refine (implEdgeIndex _ g id _ (hv0.keep hb0)).mono ?_
 rintro e w1 ⟨rfl,hb1⟩
 have b0:=(((Blk.new w _ _ w.heap.size rfl).alloc _).alloc _).keep hb1
 have b2:=(Blk.new ((w.alloc _).alloc _) _ _ (w.heap.size+1+1) (by simp)).keep hb1
 have hb2:=below_trans hb0 hb1
 clear hb0 hb1
 rcases HS.out with ⟨hi,hno⟩ | ⟨i,e,hi,hx,he,hno⟩
 · have hnone:=stepEd_none hno
   have HN:=Hd_ hnone
   rw [hi]
   have z0:w1.cell? ⟨w.heap.size+1+1,0,none⟩=some _:=b2.cell 0
   have z1:w1.cell? ⟨w.heap.size+1+1,1,none⟩=some _:=b2.cell 1
   have z2:w1.cell? ⟨w.heap.size+1+1,2,none⟩=some _:=b2.cell 2
   have z3:w1.cell? ⟨w.heap.size+1+1,3,none⟩=some _:=b2.cell 3
   have f0:=b2.frozen 0
   have f1:=b2.frozen 1
   have f2:=b2.frozen 2
   have f3:=b2.frozen 3
   clear hnone hno hi HS b0
   go_wp2_with fail
   refine bodyPost_ret (v:=.tuple #[.agg #[.int .i64 0,.int .i64 0,.int .i64 0,.int .i64 0],.bool false]) (by simp [results,Tryz.results175,go_sem,z0,z1,z2,z3]) rfl ⟨(0,0,0,0),by rw [HN.out];rfl,(by rw [HN.out];intro e' he';cases he'),(((hb2.setCell (p:=⟨w.heap.size+1+1,0,none⟩) (by simp <;> omega) _).setCell (p:=⟨w.heap.size+1+1,1,none⟩) (by simp <;> omega) _).setCell (p:=⟨w.heap.size+1+1,2,none⟩) (by simp <;> omega) _).setCell (p:=⟨w.heap.size+1+1,3,none⟩) (by simp <;> omega) _⟩
 · rw [hi]
   have x0:w1.cell? ⟨w.heap.size,0,none⟩=some _:=b0.cell 0
   have x1:w1.cell? ⟨w.heap.size,1,none⟩=some _:=b0.cell 1
   have hil:i < g.edges.length:=(List.getElem?_eq_some_iff.1 hx).1
   cases hg:grOk g with
   | false =>
     have hnone:=stepEd_bad id hg
     have HN:=Hd_ hnone
     clear hnone hno HS hx
     go_wp2_with fail
     refine (implValidGraph _ g _ (hv0.keep hb2)).mono ?_
     rintro en w2 ⟨rfl,hb3⟩
     rw [hg]
     have b2:=b2.keep hb3
     have hb2:=below_trans hb2 hb3
     clear hb3 b0 x0 x1
     have z0:w2.cell? ⟨w.heap.size+1+1,0,none⟩=some _:=b2.cell 0
     have z1:w2.cell? ⟨w.heap.size+1+1,1,none⟩=some _:=b2.cell 1
     have z2:w2.cell? ⟨w.heap.size+1+1,2,none⟩=some _:=b2.cell 2
     have z3:w2.cell? ⟨w.heap.size+1+1,3,none⟩=some _:=b2.cell 3
     have f0:=b2.frozen 0
     have f1:=b2.frozen 1
     have f2:=b2.frozen 2
     have f3:=b2.frozen 3
     go_wp2_with fail
     refine bodyPost_ret (v:=.tuple #[.agg #[.int .i64 0,.int .i64 0,.int .i64 0,.int .i64 0],.bool false]) (by simp [results,Tryz.results175,go_sem,z0,z1,z2,z3]) rfl ⟨(0,0,0,0),by rw [HN.out];rfl,(by rw [HN.out];intro e' he';cases he'),(((hb2.setCell (p:=⟨w.heap.size+1+1,0,none⟩) (by simp <;> omega) _).setCell (p:=⟨w.heap.size+1+1,1,none⟩) (by simp <;> omega) _).setCell (p:=⟨w.heap.size+1+1,2,none⟩) (by simp <;> omega) _).setCell (p:=⟨w.heap.size+1+1,3,none⟩) (by simp <;> omega) _⟩
   | true =>
     have hsome:=stepEd_some hg hx he hno
     have HN:=Hd_ hsome
     obtain ⟨b9,o9,rfl,-,hb9,hc9⟩:=hx2 i e hx
     have d0:=hc9 0 _ rfl
     have d1:=hc9 1 _ rfl
     have d2:=hc9 2 _ rfl
     have d3:=hc9 3 _ rfl
     simp only [Nat.add_zero] at d0
     have HI:=Hd_ hi
     clear hsome hno HS hx hc9 hx2 he hi
     go_wp2_with fail
     refine (implValidGraph _ g _ (hv0.keep hb2)).mono ?_
     rintro en w2 ⟨rfl,hb3⟩
     rw [hg]
     have b2:=b2.keep hb3
     have b0:=b0.keep hb3
     have hb2:=below_trans hb2 hb3
     have d0:=(hb2.cell (p:=⟨b9,o9+i * 4,none⟩) hb9).trans d0
     have d1:=(hb2.cell (p:=⟨b9,o9+i * 4+1,none⟩) hb9).trans d1
     have d2:=(hb2.cell (p:=⟨b9,o9+i * 4+2,none⟩) hb9).trans d2
     have d3:=(hb2.cell (p:=⟨b9,o9+i * 4+3,none⟩) hb9).trans d3
     clear hb3 x0 x1
     have x1:w2.cell? ⟨w.heap.size,1,none⟩=some _:=b0.cell 1
     have z0:w2.cell? ⟨w.heap.size+1+1,0,none⟩=some _:=b2.cell 0
     have z1:w2.cell? ⟨w.heap.size+1+1,1,none⟩=some _:=b2.cell 1
     have z2:w2.cell? ⟨w.heap.size+1+1,2,none⟩=some _:=b2.cell 2
     have z3:w2.cell? ⟨w.heap.size+1+1,3,none⟩=some _:=b2.cell 3
     have f0:=b2.frozen 0
     have f1:=b2.frozen 1
     have f2:=b2.frozen 2
     have f3:=b2.frozen 3
     go_wp2_with fail
     refine bodyPost_ret (v:=.tuple #[.agg #[.int .i64 e.1,.int .i64 e.2.1,.int .i64 e.2.2.1,.int .i64 e.2.2.2],.bool true]) (by simp [results,Tryz.results175,go_sem,z0,z1,z2,z3]) rfl ⟨e,by rw [HN.out];rfl,(by rw [HN.out];intro e' he';injection he' with he';exact he'.symm),(((hb2.setCell (p:=⟨w.heap.size+1+1,0,none⟩) (by simp <;> omega) _).setCell (p:=⟨w.heap.size+1+1,1,none⟩) (by simp <;> omega) _).setCell (p:=⟨w.heap.size+1+1,2,none⟩) (by simp <;> omega) _).setCell (p:=⟨w.heap.size+1+1,3,none⟩) (by simp <;> omega) _⟩
set_option maxHeartbeats 1000000 in
theorem implStepFrom (v:Value) (g:Gr) (s:St) (w:World) (hv:GrV 0 w.heap.size w v g) :
 Calls Tryz.prog 154 #[v,.agg #[.int .i64 s.1,.bool s.2]] w fun en w'=>en=.returned (.int .i64 (stepFrom g s))/\Below w.heap.size w w':=by
 have hv0:=hv
 obtain ⟨A1,n1,c1,A2,n2,c2,rfl⟩:=hv.shape
 clear hv
 obtain ⟨id,inv⟩:=s
 have hb0:Below w.heap.size w ((w.alloc (.cells #[.slice A1 n1 c1,.slice A2 n2 c2] 27)).alloc (.cells #[.int .i64 id,.bool inv] 81)):=((Below.refl _ _).alloc (Nat.le_refl _) _).alloc (by simp) _
 have hc:=fun W (hW:Below w.heap.size w W)=>implStepEdge _ g (id,inv) W (hv0.keep hW)
 simp only at hc ⊢
 have HC:=Hd_ hc
 clear hc
 cases hs:stepEd g id with
 | none =>
   have hres:stepFrom g (id,inv)=-1:=by rw [stepFrom];simp [hs]
   have HR:=Hd_ hres
   rw [hs] at HC
   clear hres hs
   go_enter Tryz.func154,Tryz.ntmps154
   go_wp2_with fail
   refine (HC.out _ hb0).mono ?_
   rintro en w1 ⟨e,rfl,-,hb1⟩
   have hb2:=below_trans hb0 hb1
   clear hb0 hb1
   go_wp2_with fail
   go_ret
   exact ⟨ret_int HR.out.symm,hb2.alloc hb2.size _⟩
 | some e =>
   rw [hs] at HC
   have hres:stepFrom g (id,inv)=if inv then e.2.2.1 else e.2.1:=by rw [stepFrom];simp [hs]
   have HR:=Hd_ hres
   clear hres hs
   go_enter Tryz.func154,Tryz.ntmps154
   go_wp2_with fail
   refine (HC.out _ hb0).mono ?_
   rintro en w1 ⟨e1,rfl,he1,hb1⟩
   obtain rfl:=he1 e rfl
   have b1:=(Blk.new (w.alloc _) _ _ (w.heap.size+1) (by simp)).keep hb1
   have y1:w1.cell? ⟨w.heap.size+1,1,none⟩=some _:=b1.cell 1
   have hlt:=b1.lt
   have hb2:=below_trans hb0 hb1
   clear hb0 hb1 he1 b1
   cases inv with
   | true =>
     go_wp2_with fail
     go_ret
     exact ⟨ret_int HR.out.symm,hb2.alloc hb2.size _⟩
   | false =>
     go_wp2_with fail
     go_ret
     exact ⟨ret_int HR.out.symm,hb2.alloc hb2.size _⟩
set_option maxHeartbeats 1000000 in
theorem implStepTo (v:Value) (g:Gr) (s:St) (w:World) (hv:GrV 0 w.heap.size w v g) :
 Calls Tryz.prog 155 #[v,.agg #[.int .i64 s.1,.bool s.2]] w fun en w'=>en=.returned (.int .i64 (stepTo g s))/\Below w.heap.size w w':=by
 have hv0:=hv
 obtain ⟨A1,n1,c1,A2,n2,c2,rfl⟩:=hv.shape
 clear hv
 obtain ⟨id,inv⟩:=s
 have hb0:Below w.heap.size w ((w.alloc (.cells #[.slice A1 n1 c1,.slice A2 n2 c2] 27)).alloc (.cells #[.int .i64 id,.bool inv] 81)):=((Below.refl _ _).alloc (Nat.le_refl _) _).alloc (by simp) _
 simp only
 go_enter Tryz.func155,Tryz.ntmps155
 go_wp2_with fail
 refine (implStepFrom _ g (id,!inv) _ (hv0.keep hb0)).mono ?_
 rintro en w1 ⟨rfl,hb1⟩
 go_wp2_with fail
 go_ret
 exact ⟨rfl,below_trans hb0 hb1⟩
theorem row_shape {W:World} {base k n:Nat} {e:TypeId} {v:Value} {cs:List Value} (h:W.ownsRow base e k v n cs) (hn:n ≠ 0):∃ g c,v=.slice (some ⟨g,0,none⟩) n c/\base<=g/\g < W.heap.size/\n<=c/\c<=maxLen:=by
 have hlt:=h.lt
 obtain ⟨hl,hs⟩:=h
 rcases hs with ⟨_,h0⟩ | ⟨g,cap,cur,rfl,hg,hh,hnc,hcm,r⟩
 · exact absurd h0 hn
 · exact ⟨g,cap,rfl,hg,(hlt g rfl).2,hnc,hcm⟩
set_option maxHeartbeats 4000000 in
theorem implNodes (v1 v2:Value) (g:Gr) (k:Wk) (w:World) (hv1:GrV 0 w.heap.size w v1 g) (hv2:WkV 0 w.heap.size w v2 k) :
 Calls Tryz.prog 127 #[v1,v2] w fun en w'=>∃ v,en=.returned (.tuple #[v,.bool (walkOk g k)])/\Own w.heap.size w'.heap.size w' 3 cI 1 v (nodesOut g k)/\Below w.heap.size w w':=by
 have hv0:=hv1
 obtain ⟨vs,es,rfl,⟨A1,c1,rfl,hl1,hm1,-⟩,hes⟩:=hv1
 obtain ⟨A2,n2,c2,rfl⟩:=hes.shape
 obtain ⟨ss,rfl,⟨A3,c3,rfl,hl3,hm3,hx3⟩⟩:=hv2
 unfold maxLen at hm1 hm3
 obtain ⟨st,steps⟩:=k
 simp only at *
 have hb0:Below w.heap.size w ((w.alloc (.cells #[.slice A1 g.vals.length c1,.slice A2 n2 c2] 27)).alloc (.cells #[.int .i64 st,.slice A3 steps.length c3] 39)):=((Below.refl _ _).alloc (Nat.le_refl _) _).alloc (by simp) _
 have HX3:=Hd_ hx3
 have hwo:walkOk g (st,steps)=(grOk g && wi st 0 ((g.vals.length:Int) - 1) && decide (steps.length<=60) && (List.range steps.length).all (linkAt g (st,steps))):=rfl
 have HW:=Hd_ hwo
 clear hx3 hes hwo
 have hvg:=implValidGraph _ g _ (hv0.keep hb0)
 have HV:=Hd_ hvg
 clear hvg
 go_enter Tryz.func127,Tryz.ntmps127
 go_wp2_with fail
 refine HV.out.mono ?_
 rintro e w1 ⟨rfl,hb1⟩
 have b0:=((Blk.new w _ _ w.heap.size rfl).alloc _).keep hb1
 have b1:=(Blk.new (w.alloc _) _ _ (w.heap.size+1) (by simp)).keep hb1
 have hb2:=below_trans hb0 hb1
 clear hb0 hb1 HV
 have x0:w1.cell? ⟨w.heap.size,0,none⟩=some _:=b0.cell 0
 have x1:w1.cell? ⟨w.heap.size,1,none⟩=some _:=b0.cell 1
 have y0:w1.cell? ⟨w.heap.size+1,0,none⟩=some _:=b1.cell 0
 have y1:w1.cell? ⟨w.heap.size+1,1,none⟩=some _:=b1.cell 1
 have hlt1:=b1.lt
 have HWI:=Hd_ within_any
 cases hg:grOk g with
 | false =>
   have hfin:walkOk g (st,steps)=false:=by rw [HW.out,hg];rfl
   have HF:=Hd_ hfin
   clear HW hfin hg
   go_wp2_with fail
   go_ret2
   exact ⟨_,by rw [HF.out];rfl,by rw [nodesOut_no HF.out];exact Own.nil _ _ _ _ _ _,hb2⟩
 | true =>
   have q1:IntKind.i64.wrap ((g.vals.length:Int) - 1)=(g.vals.length:Int) - 1:=IntWalk.i64_in _ (by omega)
   cases hs:wi st 0 ((g.vals.length:Int) - 1) with
   | false =>
     have hfin:walkOk g (st,steps)=false:=by rw [HW.out,hg,hs];rfl
     have HF:=Hd_ hfin
     clear HW hfin hg
     go_wp2_with (go_at_call 45;refine (HWI.out _ _ _ _).mono ?_;rintro e w' ⟨rfl,rfl⟩)
     go_ret2
     exact ⟨_,by rw [HF.out];rfl,by rw [nodesOut_no HF.out];exact Own.nil _ _ _ _ _ _,hb2⟩
   | true =>
     by_cases hlen:steps.length<=60
     · have hlen':decide ((steps.length:Int) > 60)=false:=by simp;omega
       have hfin:walkOk g (st,steps)=(List.range steps.length).all (linkAt g (st,steps)):=by rw [HW.out,hg,hs];simp [hlen]
       have HF:=Hd_ hfin
       clear HW hfin hg
       go_wp2_with (go_at_call 45;refine (HWI.out _ _ _ _).mono ?_;rintro e w1 ⟨rfl,rfl⟩)
       have HS:=Hd_ hs
       clear hs
       go_loopw [6,34] (fun out ii wr=>∃ i:Nat,i<=steps.length/\ii=.int .i64 i/\(List.range i).all (linkAt g (st,steps))=true/\wr.ownsRow w1.heap.size 3 1 out ((nodesL g (st,steps)).take (i+1)).length (((nodesL g (st,steps)).take (i+1)).flatMap cI)/\Below w1.heap.size w1 wr) (fun _ ii _=>steps.length - (intOf ii).toNat)
       case atStart=>exact ⟨0,Nat.zero_le _,rfl,rfl,World.ownsRow_lit w1 #[.int .i64 st] 1 (Nat.le_refl _) (by decide) rfl,(Below.refl _ _).alloc (Nat.le_refl _) _⟩
       case round =>
        obtain ⟨i,hi,rfl,hal,hrow,hbel⟩:=hrel
        have HA:=Hd_ hal
        have hbw:=below_trans hb2 hbel
        have hml:((nodesL g (st,steps)).take (i+1)).length=i+1:=by rw [List.length_take,nodesL_len];simp only;omega
        clear hal
        by_cases hlt:i < steps.length
        · have hxs:steps[i]?=some steps[i]:=List.getElem?_eq_getElem hlt
          generalize steps[i]=s at hxs
          obtain ⟨sid,sinv⟩:=s
          obtain ⟨b,o,rfl,-,hb,hc⟩:=HX3.out i _ hxs
          have d0:=hc 0 _ rfl
          have d1:=hc 1 _ rfl
          simp only [Nat.add_zero] at d0
          have d0:=(hbw.cell (p:=⟨_,_,none⟩) hb).trans d0
          have d1:=(hbw.cell (p:=⟨_,_,none⟩) hb).trans d1
          obtain ⟨x,hxl⟩:∃ x,(nodesL g (st,steps))[i]?=some x:=⟨_,List.getElem?_eq_getElem (by rw [nodesL_len];simp only;omega)⟩
          obtain ⟨gb,cp,hv,hg1,hg2,hnc,hcm⟩:=row_shape hrow (by omega)
          obtain ⟨m,hm⟩:∃ m,m=i+1:=⟨_,rfl⟩
          rw [hml,<- hm] at hv
          subst hv
          have hrm:=hrow
          rw [show ((nodesL g (st,steps)).take (i+1)).length=m by rw [hml,hm]] at hrm
          have c0:=(World.ownsRow.cellAt hrm i (by omega)).trans (by have:=flat_at cI_len (xs:=(nodesL g (st,steps)).take (i+1)) (i:=i) (x:=x) (by rw [List.getElem?_take];simp [hxl]) 0 _ rfl;simpa using this)
          clear hrm
          have hf:=fun W (hW:Below w.heap.size w W)=>implStepFrom _ g (sid,sinv) W (hv0.keep hW)
          have ht:=fun W (hW:Below w.heap.size w W)=>implStepTo _ g (sid,sinv) W (hv0.keep hW)
          have hlk:=linkAt_eq (k:=(st,steps)) hxs hxl
          have HLK:=Hd_ hlk
          have HFF:=Hd_ hf
          have HTT:=Hd_ ht
          have HXS:=Hd_ hxs
          have HROW:=Hd_ hrow
          have hbx:=fun (X:Obj) u=>below_trans (hbw.alloc hbw.size X) (ext_below (wr.alloc X) u)
          have x0:=(hbel.cell (p:=⟨_,_,none⟩) (by simp only;omega)).trans x0
          have x1:=(hbel.cell (p:=⟨_,_,none⟩) (by simp only;omega)).trans x1
          have hs1:=hbel.size
          have q2:IntKind.i64.wrap ((m:Int) - 1)=(i:Int):=by rw [IntWalk.i64_in _ (by omega)];omega
          have q3:(i:Int) < (m:Int):=by omega
          have HM:=Hd_ hm
          clear hlk hf ht hxs hrow hml hm hxl hc q1 hnc hcm
          generalize stepFrom g (sid,sinv)=y at HLK HFF
          have k0:w.heap.size < wr.heap.size:=by omega
          by_cases hyx:y=x
          · have hq:(y != x)=false:=by simp [hyx]
            have HYX:=Hd_ hyx
            clear hyx
            go_wp2_with fail
            refine wp_region_ext_lit (by kernel_rfl) (by kernel_rfl) ?_
            repeat (go_big_quiet_step ((go_at_call 154;exact Calls.ext_of (HFF.out _ (hbx _ _)))))
            refine wpQuiet_nil ?_
            rintro _ ⟨u2,rfl⟩
            go_wp2_with fail
            refine (HTT.out _ (hbx _ _)).mono ?_
            rintro e w3 ⟨rfl,hb3⟩
            have hw3:=below_trans (Below.refl wr.heap.size wr |>.alloc (Nat.le_refl _) _) (below_trans (ext_below _ u2) hb3)
            have hrow3:=ownsRow_below HROW.out hw3 (Nat.le_refl _)
            have hs3:=Nat.le_trans hs1 hw3.size
            have hbel3:=below_trans hbel hw3
            have htl:((nodesL g (st,steps)).take (i+1)).length<=61:=by rw [List.length_take];omega
            clear hb3 hbx
            go_wp2_with (at_builtin;(refine wpList_append1 cI elInt rfl _ _ rfl w1.heap.size (.slice (some ⟨gb,0,none⟩) m cp) ((nodesL g (st,steps)).take (i+1)) (stepTo g (sid,sinv)) _ 1 _ (by rfl) hrow3 (by rfl) rfl rfl rfl (cI_one _) (by omega) (by omega) hs3 ?_);rw [<- nodesL_succ HXS.out];intro v' w4 hrow' hb4 _ _)
            go_roundw
            case rel=>exact ⟨i+1,by omega,by go_num,range_all_succ HA.out (by rw [HLK.out,HYX.out];simp),hrow',hbel3.trans hb4⟩
            case measure=>simp [intOf];omega
          · have hq:(y != x)=true:=by simp [hyx]
            have HYX:=Hd_ hyx
            clear hyx
            go_wp2_with fail
            refine wp_region_ext_lit (by kernel_rfl) (by kernel_rfl) ?_
            repeat (go_big_quiet_step ((go_at_call 154;exact Calls.ext_of (HFF.out _ (hbx _ _)))))
            refine wpQuiet_nil ?_
            rintro _ ⟨u2,rfl⟩
            have hfin:walkOk g (st,steps)=false:=by rw [HF.out];exact range_all_false hlt (by rw [HLK.out];simpa using HYX.out)
            have HFI:=Hd_ hfin
            clear hfin
            go_wp2_with fail
            go_ret2
            exact ⟨_,by rw [HFI.out];rfl,by rw [nodesOut_no HFI.out];exact Own.nil _ _ _ _ _ _,hbx _ _⟩
        · obtain rfl:i=steps.length:=by omega
          have hfin:walkOk g (st,steps)=true:=by rw [HF.out,HA.out]
          have HFF:=Hd_ hfin
          have htk:(nodesL g (st,steps)).take (steps.length+1)=nodesL g (st,steps):=List.take_of_length_le (by rw [nodesL_len];simp)
          rw [htk] at hrow
          have HROW:=Hd_ hrow
          clear hfin HF HA htk hml hrow
          go_wp2_with fail
          go_ret2
          exact ⟨_,by rw [HFF.out];rfl,by rw [nodesOut_yes HFF.out];exact (Own.of_row HROW.out rfl rfl).mono hb2.size (Nat.le_refl _),hbw⟩
     · have hlen':decide ((steps.length:Int) > 60)=true:=by simp;omega
       have hfin:walkOk g (st,steps)=false:=by rw [HW.out];simp [hlen]
       have HF:=Hd_ hfin
       clear HW hfin hg
       go_wp2_with (go_at_call 45;refine (HWI.out _ _ _ _).mono ?_;rintro e w' ⟨rfl,rfl⟩)
       go_ret2
       exact ⟨_,by rw [HF.out];rfl,by rw [nodesOut_no HF.out];exact Own.nil _ _ _ _ _ _,hb2⟩
theorem row_shapeS {W:World} {base k n:Nat} {e:TypeId} {v:Value} {cs:List Value} (h:W.ownsRow base e k v n cs) (hn:n ≠ 0):∃ g c,v=.slice (some ⟨g,0,none⟩) n c/\base<=g/\g < W.heap.size/\n<=c/\c<=maxLen:=by
 have hlt:=h.lt
 obtain ⟨hl,hs⟩:=h
 rcases hs with ⟨_,h0⟩ | ⟨g,cap,cur,rfl,hg,hh,hnc,hcm,r⟩
 · exact absurd h0 hn
 · exact ⟨g,cap,rfl,hg,(hlt g rfl).2,hnc,hcm⟩
set_option maxRecDepth 100000 in
set_option maxHeartbeats 8000000 in
theorem specNodes (v1 v2:Value) (g:Gr) (k:Wk) (w:World) (hv1:GrV 0 w.heap.size w v1 g) (hv2:WkV 0 w.heap.size w v2 k) :
 Calls Tryz.prog 83 #[v1,v2] w fun en w'=>∃ v,en=.returned (.tuple #[v,.bool (walkOk g k)])/\Own w.heap.size w'.heap.size w' 3 cI 1 v (nodesOut g k)/\Below w.heap.size w w':=by
 have hv0:=hv1
 obtain ⟨vs,es,rfl,⟨A1,c1,rfl,hl1,hm1,-⟩,hes⟩:=hv1
 obtain ⟨A2,c2,rfl,hl2,hm2,hx2⟩:=hes
 have HX2:=Hd_ hx2
 obtain ⟨ss,rfl,⟨A3,c3,rfl,hl3,hm3,hx3⟩⟩:=hv2
 unfold maxLen at hm1 hm2 hm3
 obtain ⟨st,steps⟩:=k
 simp only at *
 have hb0:Below w.heap.size w ((w.alloc (.cells #[.slice A1 g.vals.length c1,.slice A2 g.edges.length c2] 27)).alloc (.cells #[.int .i64 st,.slice A3 steps.length c3] 39)):=((Below.refl _ _).alloc (Nat.le_refl _) _).alloc (by simp) _
 have HX3:=Hd_ hx3
 have hwo:walkOk g (st,steps)=(grOk g && wi st 0 ((g.vals.length:Int) - 1) && decide (steps.length<=60) && (List.range steps.length).all (linkAt g (st,steps))):=rfl
 have HW:=Hd_ hwo
 clear hx3 hx2 hwo
 have hvg:=specValidGraph _ g _ (hv0.keep hb0)
 have HV:=Hd_ hvg
 clear hvg
 go_enter Tryz.func83,Tryz.ntmps83
 go_wp2_with fail
 refine HV.out.mono ?_
 rintro e w1 ⟨rfl,hb1⟩
 have b0:=((Blk.new w _ _ w.heap.size rfl).alloc _).keep hb1
 have b1:=(Blk.new (w.alloc _) _ _ (w.heap.size+1) (by simp)).keep hb1
 have hb2:=below_trans hb0 hb1
 clear hb0 hb1 HV
 have x0:w1.cell? ⟨w.heap.size,0,none⟩=some _:=b0.cell 0
 have x1:w1.cell? ⟨w.heap.size,1,none⟩=some _:=b0.cell 1
 have y0:w1.cell? ⟨w.heap.size+1,0,none⟩=some _:=b1.cell 0
 have y1:w1.cell? ⟨w.heap.size+1,1,none⟩=some _:=b1.cell 1
 have hlt1:=b1.lt
 have HWI:=Hd_ l1In_any
 cases hg:grOk g with
 | false =>
   have hfin:walkOk g (st,steps)=false:=by rw [HW.out,hg];rfl
   have HF:=Hd_ hfin
   clear HW hfin hg
   go_wp2_with fail
   go_ret2
   exact ⟨_,by rw [HF.out];rfl,by rw [nodesOut_no HF.out];exact (Own.of_row (World.ownsRow_lit _ #[] 0 (Nat.le_refl _) (by decide) rfl) rfl rfl).mono hb2.size (Nat.le_refl _),hb2.alloc hb2.size _⟩
 | true =>
   have q1:IntKind.i64.wrap ((g.vals.length:Int) - 1)=(g.vals.length:Int) - 1:=IntWalk.i64_in _ (by omega)
   cases hs:wi st 0 ((g.vals.length:Int) - 1) with
   | false =>
     have hfin:walkOk g (st,steps)=false:=by rw [HW.out,hg,hs];rfl
     have HF:=Hd_ hfin
     clear HW hfin hg
     go_wp2_with (go_at_call 52;refine (HWI.out _ _ _ _).mono ?_;rintro e w1 ⟨rfl,rfl⟩)
     go_ret2
     exact ⟨_,by rw [HF.out];rfl,by rw [nodesOut_no HF.out];exact (Own.of_row (World.ownsRow_lit _ #[] 0 (Nat.le_refl _) (by decide) rfl) rfl rfl).mono hb2.size (Nat.le_refl _),hb2.alloc hb2.size _⟩
   | true =>
     by_cases hlen:steps.length<=60
     · have hlen':decide ((steps.length:Int) > 60)=false:=by simp;omega
       have hfin:walkOk g (st,steps)=(List.range steps.length).all (linkAt g (st,steps)):=by rw [HW.out,hg,hs];simp [hlen]
       have HF:=Hd_ hfin
       have HG:=Hd_ hg
       clear HW hfin hg
       go_wp2_with (go_at_call 52;refine (HWI.out _ _ _ _).mono ?_;rintro e w1 ⟨rfl,rfl⟩)
       have hst0:0<=st:=by unfold wi at hs;simp at hs;omega
       have HS:=Hd_ hs
       clear hs
       go_loopw [6,7] (fun out ii wr=>∃ i:Nat,i<=steps.length/\ii=.int .i64 i/\(List.range i).all (linkAt g (st,steps))=true/\wr.ownsRow w1.heap.size 3 1 out ((nodesL g (st,steps)).take (i+1)).length (((nodesL g (st,steps)).take (i+1)).flatMap cI)/\(∃ x,(nodesL g (st,steps))[i]?=some x/\0<=x)/\Below w1.heap.size w1 wr) (fun _ ii _=>steps.length - (intOf ii).toNat)
       case atStart=>exact ⟨0,Nat.zero_le _,rfl,rfl,World.ownsRow_lit w1 #[.int .i64 st] 1 (Nat.le_refl _) (by decide) rfl,⟨st,rfl,hst0⟩,(Below.refl _ _).alloc (Nat.le_refl _) _⟩
       case round =>
        obtain ⟨i,hi,rfl,hal,hrow,⟨x,hxl,hx0⟩,hbel⟩:=hrel
        have HA:=Hd_ hal
        have hbw:=below_trans hb2 hbel
        have hml:((nodesL g (st,steps)).take (i+1)).length=i+1:=by rw [List.length_take,nodesL_len];simp only;omega
        clear hal
        by_cases hlt:i < steps.length
        · have hxs:steps[i]?=some steps[i]:=List.getElem?_eq_getElem hlt
          generalize steps[i]=s at hxs
          obtain ⟨sid,sinv⟩:=s
          obtain ⟨b,o,rfl,-,hb,hc⟩:=HX3.out i _ hxs
          have d0:=hc 0 _ rfl
          have d1:=hc 1 _ rfl
          simp only [Nat.add_zero] at d0
          have d0:=(hbw.cell (p:=⟨_,_,none⟩) hb).trans d0
          have d1:=(hbw.cell (p:=⟨_,_,none⟩) hb).trans d1
          obtain ⟨gb,cp,hv,hg1,hg2,hnc,hcm⟩:=row_shapeS hrow (by omega)
          obtain ⟨m,hm⟩:∃ m,m=i+1:=⟨_,rfl⟩
          rw [hml,<- hm] at hv
          subst hv
          have hrm:=hrow
          rw [show ((nodesL g (st,steps)).take (i+1)).length=m by rw [hml,hm]] at hrm
          have c0:=(World.ownsRow.cellAt hrm i (by omega)).trans (by have:=flat_at cI_len (xs:=(nodesL g (st,steps)).take (i+1)) (i:=i) (x:=x) (by rw [List.getElem?_take];simp [hxl]) 0 _ rfl;simpa using this)
          clear hrm
          have hei:=fun W (hW:Below w.heap.size w W)=>specEdgeIndex _ g sid W (hv0.keep hW)
          have hlk:=linkAt_eq (k:=(st,steps)) hxs hxl
          have HLK:=Hd_ hlk
          have HEI:=Hd_ hei
          have HXS:=Hd_ hxs
          have HROW:=Hd_ hrow
          have hbx:=fun u=>below_trans hbw (ext_below wr u)
          have x0:=(hbel.cell (p:=⟨_,_,none⟩) (by simp only;omega)).trans x0
          have x1:=(hbel.cell (p:=⟨_,_,none⟩) (by simp only;omega)).trans x1
          have y0:=(hbel.cell (p:=⟨_,_,none⟩) (by simp only;omega)).trans y0
          have y1:=(hbel.cell (p:=⟨_,_,none⟩) (by simp only;omega)).trans y1
          have hs1:=hbel.size
          have q2:IntKind.i64.wrap ((m:Int) - 1)=(i:Int):=by rw [IntWalk.i64_in _ (by omega)];omega
          have q3:(i:Int) < (m:Int):=by omega
          have HM:=Hd_ hm
          have hbw':b < wr.heap.size:=by omega
          have k0:w.heap.size < wr.heap.size:=by omega
          have k1:w.heap.size+1 < wr.heap.size:=by omega
          have hspec:=edgeIdx_spec g sid
          have HSPEC:=Hd_ hspec
          clear hlk hei hxs hrow hml hm hxl hc q1 hnc hcm hspec
          rcases HSPEC.out with ⟨hk,hno⟩ | ⟨ix,e,hk,hex,he,hno⟩
          · have hsn:=stepEd_none hno
            have hsf:stepFrom g (sid,sinv)=-1:=by rw [stepFrom];simp [hsn]
            rw [hk] at HEI
            have hfin:walkOk g (st,steps)=false:=by rw [HF.out];exact range_all_false hlt (by rw [HLK.out,hsf];simp;omega)
            have HFI:=Hd_ hfin
            clear hk hno hsn hsf hfin HSPEC
            go_wp2_with fail
            refine wp_region_ext_lit (by kernel_rfl) (by kernel_rfl) ?_
            repeat (go_big_quiet_step ((go_at_call 109;exact Calls.ext_of (HEI.out _ (hbx _)))))
            refine wpQuiet_nil ?_
            rintro _ ⟨u2,rfl⟩
            go_wp2_with fail
            go_ret2
            exact ⟨_,by rw [HFI.out];rfl,by rw [nodesOut_no HFI.out];exact (Own.of_row (World.ownsRow_lit _ #[] 0 (Nat.le_refl _) (by decide) rfl) rfl rfl).mono (hbx _).size (Nat.le_refl _),(hbx _).alloc (hbx _).size _⟩
          · have hse:=stepEd_some HG.out hex he hno
            have HSE:=Hd_ hse
            rw [hk] at HEI
            obtain ⟨b9,o9,rfl,-,hb9,hc9⟩:=HX2.out ix e hex
            have e1:=hc9 1 _ rfl
            have e2:=hc9 2 _ rfl
            have e1:=(hbw.cell (p:=⟨_,_,none⟩) hb9).trans e1
            have e2:=(hbw.cell (p:=⟨_,_,none⟩) hb9).trans e2
            have hb9':b9 < wr.heap.size:=by omega
            have hixl:ix < g.edges.length:=(List.getElem?_eq_some_iff.1 hex).1
            clear hk hno he hex hse hc9 HSPEC
            cases sinv with
            | true =>
              have hsf:stepFrom g (sid,true)=e.2.2.1:=by rw [stepFrom];simp [HSE.out]
              have hsto:stepTo g (sid,true)=e.2.1:=by rw [stepTo,stepFrom];simp [HSE.out]
              have HSF:=Hd_ hsf
              have HSTO:=Hd_ hsto
              clear hsf hsto
              by_cases hyx:e.2.2.1=x
              · have hq:(e.2.2.1 != x)=false:=by simp [hyx]
                have hto0:0<=stepTo g (sid,true):=by
                 have h1:=@stepFrom_neg g (sid,true)
                 have h2:=@stepFrom_neg g (sid,!true)
                 have h3:stepTo g (sid,true)=stepFrom g (sid,!true):=rfl
                 have h4:=HSF.out
                 rw [h3]
                 by_cases h5:0<=stepFrom g (sid,!true)
                 · exact h5
                 · have h6:=h2.1 (by omega)
                   have h7:=h1.2 h6
                   omega
                have HYX:=Hd_ hyx
                have HTO0:=Hd_ hto0
                clear hyx hto0
                go_wp2_with fail
                refine wp_region_ext_lit (by kernel_rfl) (by kernel_rfl) ?_
                repeat (go_big_quiet_step ((go_at_call 109;exact Calls.ext_of (HEI.out _ (hbx _)))))
                refine wpQuiet_nil ?_
                rintro _ ⟨u2,rfl⟩
                have hw3:=ext_below wr u2
                have hrow3:=ownsRow_below HROW.out hw3 (Nat.le_refl _)
                have hs3:=Nat.le_trans hs1 hw3.size
                have hbel3:=below_trans hbel hw3
                have htl:((nodesL g (st,steps)).take (i+1)).length<=61:=by rw [List.length_take];omega
                clear hw3
                go_wp2_with (at_builtin;(refine wpList_append1 cI elInt rfl _ _ rfl w1.heap.size (.slice (some ⟨gb,0,none⟩) m cp) ((nodesL g (st,steps)).take (i+1)) (e.2.1) _ 1 _ (by rfl) hrow3 (by rfl) rfl rfl rfl (cI_one _) (by omega) (by omega) hs3 ?_);rw [<- HSTO.out,<- nodesL_succ HXS.out];intro v' w4 hrow' hb4 _ _)
                go_roundw
                case rel=>exact ⟨i+1,by omega,by go_num,range_all_succ HA.out (by rw [HLK.out,HSF.out,HYX.out];simp),hrow',⟨_,nodesL_next HXS.out,HTO0.out⟩,hbel3.trans hb4⟩
                case measure=>simp [intOf];omega
              · have hq:(e.2.2.1 != x)=true:=by simp [hyx]
                have hfin:walkOk g (st,steps)=false:=by rw [HF.out];exact range_all_false hlt (by rw [HLK.out,HSF.out];simpa using hyx)
                have HFI:=Hd_ hfin
                clear hyx hfin
                go_wp2_with fail
                refine wp_region_ext_lit (by kernel_rfl) (by kernel_rfl) ?_
                repeat (go_big_quiet_step ((go_at_call 109;exact Calls.ext_of (HEI.out _ (hbx _)))))
                refine wpQuiet_nil ?_
                rintro _ ⟨u2,rfl⟩
                go_wp2_with fail
                go_ret2
                exact ⟨_,by rw [HFI.out];rfl,by rw [nodesOut_no HFI.out];exact (Own.of_row (World.ownsRow_lit _ #[] 0 (Nat.le_refl _) (by decide) rfl) rfl rfl).mono (hbx _).size (Nat.le_refl _),(hbx _).alloc (hbx _).size _⟩
            | false =>
              have hsf:stepFrom g (sid,false)=e.2.1:=by rw [stepFrom];simp [HSE.out]
              have hsto:stepTo g (sid,false)=e.2.2.1:=by rw [stepTo,stepFrom];simp [HSE.out]
              have HSF:=Hd_ hsf
              have HSTO:=Hd_ hsto
              clear hsf hsto
              by_cases hyx:e.2.1=x
              · have hq:(e.2.1 != x)=false:=by simp [hyx]
                have hto0:0<=stepTo g (sid,false):=by
                 have h1:=@stepFrom_neg g (sid,false)
                 have h2:=@stepFrom_neg g (sid,!false)
                 have h3:stepTo g (sid,false)=stepFrom g (sid,!false):=rfl
                 have h4:=HSF.out
                 rw [h3]
                 by_cases h5:0<=stepFrom g (sid,!false)
                 · exact h5
                 · have h6:=h2.1 (by omega)
                   have h7:=h1.2 h6
                   omega
                have HYX:=Hd_ hyx
                have HTO0:=Hd_ hto0
                clear hyx hto0
                go_wp2_with fail
                refine wp_region_ext_lit (by kernel_rfl) (by kernel_rfl) ?_
                repeat (go_big_quiet_step ((go_at_call 109;exact Calls.ext_of (HEI.out _ (hbx _)))))
                refine wpQuiet_nil ?_
                rintro _ ⟨u2,rfl⟩
                have hw3:=ext_below wr u2
                have hrow3:=ownsRow_below HROW.out hw3 (Nat.le_refl _)
                have hs3:=Nat.le_trans hs1 hw3.size
                have hbel3:=below_trans hbel hw3
                have htl:((nodesL g (st,steps)).take (i+1)).length<=61:=by rw [List.length_take];omega
                clear hw3
                go_wp2_with (at_builtin;(refine wpList_append1 cI elInt rfl _ _ rfl w1.heap.size (.slice (some ⟨gb,0,none⟩) m cp) ((nodesL g (st,steps)).take (i+1)) (e.2.2.1) _ 1 _ (by rfl) hrow3 (by rfl) rfl rfl rfl (cI_one _) (by omega) (by omega) hs3 ?_);rw [<- HSTO.out,<- nodesL_succ HXS.out];intro v' w4 hrow' hb4 _ _)
                go_roundw
                case rel=>exact ⟨i+1,by omega,by go_num,range_all_succ HA.out (by rw [HLK.out,HSF.out,HYX.out];simp),hrow',⟨_,nodesL_next HXS.out,HTO0.out⟩,hbel3.trans hb4⟩
                case measure=>simp [intOf];omega
              · have hq:(e.2.1 != x)=true:=by simp [hyx]
                have hfin:walkOk g (st,steps)=false:=by rw [HF.out];exact range_all_false hlt (by rw [HLK.out,HSF.out];simpa using hyx)
                have HFI:=Hd_ hfin
                clear hyx hfin
                go_wp2_with fail
                refine wp_region_ext_lit (by kernel_rfl) (by kernel_rfl) ?_
                repeat (go_big_quiet_step ((go_at_call 109;exact Calls.ext_of (HEI.out _ (hbx _)))))
                refine wpQuiet_nil ?_
                rintro _ ⟨u2,rfl⟩
                go_wp2_with fail
                go_ret2
                exact ⟨_,by rw [HFI.out];rfl,by rw [nodesOut_no HFI.out];exact (Own.of_row (World.ownsRow_lit _ #[] 0 (Nat.le_refl _) (by decide) rfl) rfl rfl).mono (hbx _).size (Nat.le_refl _),(hbx _).alloc (hbx _).size _⟩
        · obtain rfl:i=steps.length:=by omega
          have y1:=(hbel.cell (p:=⟨_,_,none⟩) (by simp only;omega)).trans y1
          have hlw:=hbel.size
          have k1:w.heap.size+1 < wr.heap.size:=by omega
          have hfin:walkOk g (st,steps)=true:=by rw [HF.out,HA.out]
          have HFF:=Hd_ hfin
          have htk:(nodesL g (st,steps)).take (steps.length+1)=nodesL g (st,steps):=List.take_of_length_le (by rw [nodesL_len];simp)
          rw [htk] at hrow
          have HROW:=Hd_ hrow
          clear hfin HF HA htk hml hrow
          go_wp2_with fail
          go_ret2
          exact ⟨_,by rw [HFF.out];rfl,by rw [nodesOut_yes HFF.out];exact (Own.of_row HROW.out rfl rfl).mono hb2.size (Nat.le_refl _),hbw⟩
     · have hlen':decide ((steps.length:Int) > 60)=true:=by simp;omega
       have hfin:walkOk g (st,steps)=false:=by rw [HW.out];simp [hlen]
       have HF:=Hd_ hfin
       clear HW hfin hg
       go_wp2_with (go_at_call 52;refine (HWI.out _ _ _ _).mono ?_;rintro e w1 ⟨rfl,rfl⟩)
       go_ret2
       exact ⟨_,by rw [HF.out];rfl,by rw [nodesOut_no HF.out];exact (Own.of_row (World.ownsRow_lit _ #[] 0 (Nat.le_refl _) (by decide) rfl) rfl rfl).mono hb2.size (Nat.le_refl _),hb2.alloc hb2.size _⟩
set_option maxHeartbeats 2000000 in
theorem implWalkEnd (v1 v2:Value) (g:Gr) (k:Wk) (w:World) (hv1:GrV 0 w.heap.size w v1 g) (hv2:WkV 0 w.heap.size w v2 k) :
 Calls Tryz.prog 102 #[v1,v2] w fun en w'=>en=.returned (.int .i64 (walkEnd g k))/\Below w.heap.size w w':=by
 have hv0:=hv1
 have hv3:=hv2
 obtain ⟨A1,n1,c1,A2,n2,c2,rfl⟩:=hv1.shape
 obtain ⟨A3,n3,c3,rfl⟩:=hv2.shape
 clear hv1 hv2
 have hb0:Below w.heap.size w ((w.alloc (.cells #[.slice A1 n1 c1,.slice A2 n2 c2] 27)).alloc (.cells #[.int .i64 k.1,.slice A3 n3 c3] 39)):=((Below.refl _ _).alloc (Nat.le_refl _) _).alloc (by simp) _
 have hc:=implNodes _ _ g k _ (hv0.keep hb0) (hv3.keep hb0)
 have HC:=Hd_ hc
 clear hc
 obtain ⟨R,hR⟩:∃ R,R=walkEnd g k:=⟨_,rfl⟩
 rw [<- hR]
 cases hw:walkOk g k with
 | false =>
   rw [hw] at HC
   have hfin:R=-1:=by rw [hR,walkEnd,hw];rfl
   subst hfin
   clear hR hw
   go_enter Tryz.func102,Tryz.ntmps102
   go_wp2_with fail
   refine HC.out.mono ?_
   rintro e w1 ⟨v,rfl,ho,hb1⟩
   obtain ⟨A6,c6,rfl,-,-,-⟩:=ho.form cI_len
   go_wp2_with fail
   go_ret
   exact ⟨rfl,below_trans hb0 hb1⟩
 | true =>
   rw [hw] at HC
   have hfin:R=(nodeAt g k k.2.length:Int):=by rw [hR,walkEnd,hw];rfl
   have HF:=Hd_ hfin
   have HW:=Hd_ hw
   have hl60:=(walkOk_parts hw).2.2.1
   clear hR hw hfin
   go_enter Tryz.func102,Tryz.ntmps102
   go_wp2_with fail
   refine HC.out.mono ?_
   rintro e w1 ⟨v,rfl,ho,hb1⟩
   rw [nodesOut_yes HW.out] at ho
   have hr:=ho.1
   rw [nodesL_len] at hr
   obtain ⟨gN,cN,rfl,-,hgN,-,-⟩:=own_some hr (by omega)
   have q0:=(World.ownsRow.cellAt hr k.2.length (by omega)).trans (flatI_at (nodeAt_lt HW.out (Nat.le_refl _)).1)
   have m1:((k.2.length:Int)+1) - 1=(k.2.length:Int):=by omega
   clear hr ho
   go_wp2_with fail
   go_ret
   exact ⟨by rw [HF.out];rfl,below_trans hb0 hb1⟩
end Go.Proofs.YtjpdembmchnbgaaGreat
