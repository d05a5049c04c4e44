/- 'laws.FnExactEvaluateExpr' returns true for all arguments, without any condition: the program's EvaluateExpr equals the reference's, leaves its arguments alone, and its result shares no memory with them or with another result. -/
import Derived.Test.YtloeghbhoflabaaOnlzAHMCLFHH
import Derived.Test.YtloeghbhoflabaaOnlzGFOHOABB
import Derived.Test.YtloeghbhoflabaaOnlzEOMOOFLD
import Derived.Deep.RegionHeld3
set_option linter.unusedVariables false
set_option linter.unusedSimpArgs false
namespace Go.Proofs.Ytloeghbhoflabaa.fnExactEvaluateExpr
open Go.ChangeShapes Go.WideShapes Go.ChangeAt Go.RowKit
attribute [local go_sem] ext_cell ext_frozen ext_lt ext_lt1 ext_lt2 ext_lt3 ltn2 ltn3 ltn13 lts1 lts2 lts3
set_option maxRecDepth 100000 in
set_option maxHeartbeats 8000000 in
theorem walk (w:World) (v0:Value) (g:Gr) (hv0:GrV 0 w.heap.size w v0 g) (v1:Value) (l:List Ed) (hv1:ExV 0 w.heap.size w v1 l) :
 Calls Try.prog 3 #[v0,v1] w fun e w'=>e=.returned (.bool true)/\Below w.heap.size w w':=by
 have hlen:(evalE g l).1.length<=25:=evalE_len g l
 have hvo0:=hv0
 obtain ⟨A0,n0,c0,B0,m0,d0,rfl⟩:=hv0.shape
 clear hv0
 have hvo1:=hv1
 obtain ⟨A1,n1,c1,rfl⟩:=hv1.shape
 clear hv1
 have hb0:Below w.heap.size w ((w.alloc (.cells #[.slice A0 n0 c0,.slice B0 m0 d0] 25)).alloc (.cells #[.slice A1 n1 c1] 28)):=((Below.refl _ _).alloc (Nat.le_refl _) _).alloc (by simp <;> omega) _
 go_enter Try.func3,Try.ntmps3
 go_wp2_with fail
 refine (szGraph_any _ g 1048576 _ (hvo0.keep hb0) (by omega) (by omega)).mono ?_
 rintro e ws0 ⟨rfl,hbn⟩
 have bl0:=((Blk.new w _ _ w.heap.size rfl).alloc _).keep hbn
 have l0:=bl0.lt
 have y0_0:ws0.cell? ⟨w.heap.size,0,none⟩=some (.slice A0 n0 c0):=bl0.cell 0
 have y0_1:ws0.cell? ⟨w.heap.size,1,none⟩=some (.slice B0 m0 d0):=bl0.cell 1
 have bl1:=(Blk.new (w.alloc _) _ _ (w.heap.size+1) (by simp)).keep hbn
 have l1:=bl1.lt
 have y1_0:ws0.cell? ⟨w.heap.size+1,0,none⟩=some (.slice A1 n1 c1):=bl1.cell 0
 have hb:=below_trans hb0 hbn
 clear bl0 bl1 hb0 hbn
 by_cases hz:(szGr g 1048576) < 0
 · have hzd:decide ((szGr g 1048576) < 0)=true:=by simpa using hz
   clear hz
   go_wp2_with fail
   go_ret
   exact ⟨rfl,hb⟩
 have hzd:decide ((szGr g 1048576) < 0)=false:=by simpa using hz
 obtain ⟨ha0,hc0,hz0,hzm⟩:=szGr_le g 1048576 hz
 have ha0:g.vals.length<=1048576:=by omega
 have hc0:g.edges.length<=1048576:=by omega
 generalize (szGr g 1048576)=z0 at hzd hz0 hzm ⊢
 clear hz
 have hzm0:z0<=1048576:=by omega
 have hz00:=hz0
 clear hz0 hzm
 go_wp2_with fail
 clear hzd
 refine (szExpr_any _ l z0 _ (hvo1.keep hb) (by omega) (by omega)).mono ?_
 rintro e ws1 ⟨rfl,hbn⟩
 replace y0_0:=kcell hbn y0_0
 replace y0_1:=kcell hbn y0_1
 replace y1_0:=kcell hbn y1_0
 replace l0:=Nat.lt_of_lt_of_le l0 hbn.size
 replace l1:=Nat.lt_of_lt_of_le l1 hbn.size
 have z_ws1:=hbn.size
 replace hb:=below_trans hb hbn
 clear hbn
 by_cases hz:(szEx l z0) < 0
 · have hzd:decide ((szEx l z0) < 0)=true:=by simpa using hz
   clear hz
   go_wp2_with fail
   go_ret
   exact ⟨rfl,hb⟩
 have hzd:decide ((szEx l z0) < 0)=false:=by simpa using hz
 obtain ⟨ha1,hz0,hzm⟩:=szEx_le l z0 hz
 have ha1:l.length<=1048576:=by omega
 generalize (szEx l z0)=z1 at hzd hz0 hzm ⊢
 clear hz
 have hzm1:z1<=1048576:=by omega
 have hz01:=hz0
 clear hz0 hzm
 go_wp2_with fail
 clear hzd
 clear hzm1 hz01
 clear hzm0 hz00
 have zw:w.heap.size+2<=ws1.heap.size:=by omega
 go_region_held3 (fun w'=>Below ws1.heap.size ws1 w'/\ws1.heap.size<=w'.heap.size/\w'.cell? ⟨w.heap.size,0,none⟩=some (.slice A0 n0 c0)/\w'.cell? ⟨w.heap.size,1,none⟩=some (.slice B0 m0 d0)/\w'.cell? ⟨w.heap.size+1,0,none⟩=some (.slice A1 n1 c1))
  (first | (exact ⟨(Below.refl _ _).drew,Nat.le_refl _,y0_0,y0_1,y1_0⟩) | (exact hold3 l0 l0 l1 (by assumption) (by assumption)))
  (first | (go_at_call 10;refine (toGraph_any _ g _ (hvo0.keep (below_trans hb (hold_below (by assumption)))) ha0 hc0).mono ?_;rintro e wc0a ⟨vc0a,rfl,hoc0a,hbc0a⟩) | (go_at_call 11;refine (toExpr_any _ l _ (hvo1.keep (below_trans hb (hold_below (by assumption)))) ha1).mono ?_;rintro e wc1a ⟨vc1a,rfl,hoc1a,hbc1a⟩) | (go_at_call 9;refine (specEvaluateX vc0a vc1a g l _ (by first | exact (hoc0a.view.all (Nat.le_refl _)) | exact ((hoc0a.view.all (Nat.le_refl _)).keep hbc1a)) (by first | exact (hoc1a.view.all (Nat.le_refl _)) | exact ((hoc1a.view.all (Nat.le_refl _)).keep hbc0a))).mono ?_;rintro e wres ⟨vr,rfl,hor,hbres⟩))
 all_goals clear y0_0 y0_1 y1_0
 all_goals (rename_i hh;obtain ⟨hbn,-,y0_0,y0_1,y1_0⟩:=hh)
 all_goals replace l0:=Nat.lt_of_lt_of_le l0 hbn.size
 all_goals replace l1:=Nat.lt_of_lt_of_le l1 hbn.size
 all_goals have z_wres:=hbn.size
 all_goals replace hb:=below_trans hb hbn
 all_goals clear hbn
 all_goals have hr:=hor
 all_goals have hrs:wres.heap.size<=wres.heap.size:=Nat.le_refl _
 all_goals clear hor
 all_goals go_wp2_with fail
 all_goals (refine (toGraph_any _ g _ (hvo0.keep hb) ha0 hc0).mono ?_;rintro e wk0 ⟨vk0,rfl,hx0,hbn⟩)
 all_goals obtain ⟨C0,p0,e0,D0,q0,f0,rfl⟩:=hx0.view.shape
 all_goals replace y0_0:=kcell hbn y0_0
 all_goals replace y0_1:=kcell hbn y0_1
 all_goals replace y1_0:=kcell hbn y1_0
 all_goals replace l0:=Nat.lt_of_lt_of_le l0 hbn.size
 all_goals replace l1:=Nat.lt_of_lt_of_le l1 hbn.size
 all_goals replace hr:=hr.below hbn hrs
 all_goals replace hrs:=Nat.le_trans hrs hbn.size
 all_goals have z_wk0:=hbn.size
 all_goals replace hb:=below_trans hb hbn
 all_goals clear hbn
 all_goals have hx0s:wk0.heap.size<=wk0.heap.size:=Nat.le_refl _
 all_goals go_wp2_with fail
 all_goals have bz:=Blk.new wk0 36 #[.slice C0 p0 e0,.slice D0 q0 f0] wk0.heap.size rfl
 all_goals have hbn:Below wk0.heap.size wk0 (wk0.alloc (.cells #[.slice C0 p0 e0,.slice D0 q0 f0] 36)):=(Below.refl _ _).alloc (Nat.le_refl _) _
 all_goals generalize wk0.alloc (.cells #[.slice C0 p0 e0,.slice D0 q0 f0] 36)=wl0 at hbn bz ⊢
 all_goals replace y0_0:=kcell hbn y0_0
 all_goals replace y0_1:=kcell hbn y0_1
 all_goals replace y1_0:=kcell hbn y1_0
 all_goals replace l0:=Nat.lt_of_lt_of_le l0 hbn.size
 all_goals replace l1:=Nat.lt_of_lt_of_le l1 hbn.size
 all_goals replace hr:=hr.below hbn hrs
 all_goals replace hrs:=Nat.le_trans hrs hbn.size
 all_goals replace hx0:=hx0.below hbn hx0s
 all_goals replace hx0s:=Nat.le_trans hx0s hbn.size
 all_goals have z_wl0:=hbn.size
 all_goals replace hb:=below_trans hb hbn
 all_goals clear hbn
 all_goals have l2:=bz.lt
 all_goals have y2_0:wl0.cell? ⟨wk0.heap.size,0,none⟩=some (.slice C0 p0 e0):=bz.cell 0
 all_goals have y2_1:wl0.cell? ⟨wk0.heap.size,1,none⟩=some (.slice D0 q0 f0):=bz.cell 1
 all_goals clear bz
 all_goals (refine (toExpr_any _ l _ (hvo1.keep hb) ha1).mono ?_;rintro e wk1 ⟨vk1,rfl,hx1,hbn⟩)
 all_goals obtain ⟨C1,p1,e1,rfl⟩:=hx1.view.shape
 all_goals replace y0_0:=kcell hbn y0_0
 all_goals replace y0_1:=kcell hbn y0_1
 all_goals replace y1_0:=kcell hbn y1_0
 all_goals replace y2_0:=kcell hbn y2_0
 all_goals replace y2_1:=kcell hbn y2_1
 all_goals replace l0:=Nat.lt_of_lt_of_le l0 hbn.size
 all_goals replace l1:=Nat.lt_of_lt_of_le l1 hbn.size
 all_goals replace l2:=Nat.lt_of_lt_of_le l2 hbn.size
 all_goals replace hr:=hr.below hbn hrs
 all_goals replace hrs:=Nat.le_trans hrs hbn.size
 all_goals replace hx0:=hx0.below hbn hx0s
 all_goals replace hx0s:=Nat.le_trans hx0s hbn.size
 all_goals have z_wk1:=hbn.size
 all_goals replace hb:=below_trans hb hbn
 all_goals clear hbn
 all_goals have hx1s:wk1.heap.size<=wk1.heap.size:=Nat.le_refl _
 all_goals go_wp2_with fail
 all_goals have bz:=Blk.new wk1 40 #[.slice C1 p1 e1] wk1.heap.size rfl
 all_goals have hbn:Below wk1.heap.size wk1 (wk1.alloc (.cells #[.slice C1 p1 e1] 40)):=(Below.refl _ _).alloc (Nat.le_refl _) _
 all_goals generalize wk1.alloc (.cells #[.slice C1 p1 e1] 40)=wl1 at hbn bz ⊢
 all_goals replace y0_0:=kcell hbn y0_0
 all_goals replace y0_1:=kcell hbn y0_1
 all_goals replace y1_0:=kcell hbn y1_0
 all_goals replace y2_0:=kcell hbn y2_0
 all_goals replace y2_1:=kcell hbn y2_1
 all_goals replace l0:=Nat.lt_of_lt_of_le l0 hbn.size
 all_goals replace l1:=Nat.lt_of_lt_of_le l1 hbn.size
 all_goals replace l2:=Nat.lt_of_lt_of_le l2 hbn.size
 all_goals replace hr:=hr.below hbn hrs
 all_goals replace hrs:=Nat.le_trans hrs hbn.size
 all_goals replace hx0:=hx0.below hbn hx0s
 all_goals replace hx0s:=Nat.le_trans hx0s hbn.size
 all_goals replace hx1:=hx1.below hbn hx1s
 all_goals replace hx1s:=Nat.le_trans hx1s hbn.size
 all_goals have z_wl1:=hbn.size
 all_goals replace hb:=below_trans hb hbn
 all_goals clear hbn
 all_goals have l3:=bz.lt
 all_goals have y3_0:wl1.cell? ⟨wk1.heap.size,0,none⟩=some (.slice C1 p1 e1):=bz.cell 0
 all_goals clear bz
 all_goals (refine (implEvaluateX _ _ g l _ (hx0.view.all hx0s) (hx1.view.all hx1s)).mono ?_;rintro e wg ⟨vg,rfl,hg,hbn⟩)
 all_goals replace y0_0:=kcell hbn y0_0
 all_goals replace y0_1:=kcell hbn y0_1
 all_goals replace y1_0:=kcell hbn y1_0
 all_goals replace y2_0:=kcell hbn y2_0
 all_goals replace y2_1:=kcell hbn y2_1
 all_goals replace y3_0:=kcell hbn y3_0
 all_goals replace l0:=Nat.lt_of_lt_of_le l0 hbn.size
 all_goals replace l1:=Nat.lt_of_lt_of_le l1 hbn.size
 all_goals replace l2:=Nat.lt_of_lt_of_le l2 hbn.size
 all_goals replace l3:=Nat.lt_of_lt_of_le l3 hbn.size
 all_goals replace hr:=hr.below hbn hrs
 all_goals replace hrs:=Nat.le_trans hrs hbn.size
 all_goals replace hx0:=hx0.below hbn hx0s
 all_goals replace hx0s:=Nat.le_trans hx0s hbn.size
 all_goals replace hx1:=hx1.below hbn hx1s
 all_goals replace hx1s:=Nat.le_trans hx1s hbn.size
 all_goals have z_wg:=hbn.size
 all_goals replace hb:=below_trans hb hbn
 all_goals clear hbn
 all_goals have hgs:wg.heap.size<=wg.heap.size:=Nat.le_refl _
 all_goals go_wp2_with fail
 all_goals (refine (eqPairS_same _ _ ((evalE g l).1) _ ((hg.sl cPr_len).all hgs) ((hr.sl cPr_len).all hrs)).mono ?_;rintro e wq0 ⟨rfl,hbn⟩)
 all_goals replace y0_0:=kcell hbn y0_0
 all_goals replace y0_1:=kcell hbn y0_1
 all_goals replace y1_0:=kcell hbn y1_0
 all_goals replace y2_0:=kcell hbn y2_0
 all_goals replace y2_1:=kcell hbn y2_1
 all_goals replace y3_0:=kcell hbn y3_0
 all_goals replace l0:=Nat.lt_of_lt_of_le l0 hbn.size
 all_goals replace l1:=Nat.lt_of_lt_of_le l1 hbn.size
 all_goals replace l2:=Nat.lt_of_lt_of_le l2 hbn.size
 all_goals replace l3:=Nat.lt_of_lt_of_le l3 hbn.size
 all_goals replace hr:=hr.below hbn hrs
 all_goals replace hrs:=Nat.le_trans hrs hbn.size
 all_goals replace hx0:=hx0.below hbn hx0s
 all_goals replace hx0s:=Nat.le_trans hx0s hbn.size
 all_goals replace hx1:=hx1.below hbn hx1s
 all_goals replace hx1s:=Nat.le_trans hx1s hbn.size
 all_goals replace hg:=hg.below hbn hgs
 all_goals replace hgs:=Nat.le_trans hgs hbn.size
 all_goals have z_wq0:=hbn.size
 all_goals replace hb:=below_trans hb hbn
 all_goals clear hbn
 all_goals go_wp2_with fail
 all_goals go_region_held3 (fun w'=>Below wq0.heap.size wq0 w'/\wq0.heap.size<=w'.heap.size/\w'.cell? ⟨w.heap.size,0,none⟩=some (.slice A0 n0 c0)/\w'.cell? ⟨w.heap.size,1,none⟩=some (.slice B0 m0 d0)/\w'.cell? ⟨w.heap.size+1,0,none⟩=some (.slice A1 n1 c1)/\w'.cell? ⟨wk0.heap.size,0,none⟩=some (.slice C0 p0 e0)/\w'.cell? ⟨wk0.heap.size,1,none⟩=some (.slice D0 q0 f0)/\w'.cell? ⟨wk1.heap.size,0,none⟩=some (.slice C1 p1 e1))
  (first | (exact ⟨(Below.refl _ _).drew,Nat.le_refl _,y0_0,y0_1,y1_0,y2_0,y2_1,y3_0⟩) | (exact hold6 l0 l0 l1 l2 l2 l3 (by assumption) (by assumption)))
  (first | (go_at_call 10;refine (toGraph_any _ g _ (hvo0.keep (below_trans hb (hold_below (by assumption)))) ha0 hc0).mono ?_;rintro e wd0 ⟨vd0,rfl,hod0,hbd0⟩) | (go_at_call 14;refine (eqGraph_same _ _ g _ ((hx0.view.all hx0s).keep (hold_below (by assumption))) (hod0.view.all (Nat.le_refl _))).mono ?_;rintro e we0 ⟨rfl,hbe0⟩))
 all_goals clear y0_0 y0_1 y1_0 y2_0 y2_1 y3_0
 all_goals (rename_i hh;obtain ⟨hbn,-,y0_0,y0_1,y1_0,y2_0,y2_1,y3_0⟩:=hh)
 all_goals replace l0:=Nat.lt_of_lt_of_le l0 hbn.size
 all_goals replace l1:=Nat.lt_of_lt_of_le l1 hbn.size
 all_goals replace l2:=Nat.lt_of_lt_of_le l2 hbn.size
 all_goals replace l3:=Nat.lt_of_lt_of_le l3 hbn.size
 all_goals replace hr:=hr.below hbn hrs
 all_goals replace hrs:=Nat.le_trans hrs hbn.size
 all_goals replace hx0:=hx0.below hbn hx0s
 all_goals replace hx0s:=Nat.le_trans hx0s hbn.size
 all_goals replace hx1:=hx1.below hbn hx1s
 all_goals replace hx1s:=Nat.le_trans hx1s hbn.size
 all_goals replace hg:=hg.below hbn hgs
 all_goals replace hgs:=Nat.le_trans hgs hbn.size
 all_goals have z_we0:=hbn.size
 all_goals replace hb:=below_trans hb hbn
 all_goals clear hbn
 all_goals clear hod0 hbd0 hbe0
 all_goals go_wp2_with fail
 all_goals go_region_held3 (fun w'=>Below we0.heap.size we0 w'/\we0.heap.size<=w'.heap.size/\w'.cell? ⟨w.heap.size,0,none⟩=some (.slice A0 n0 c0)/\w'.cell? ⟨w.heap.size,1,none⟩=some (.slice B0 m0 d0)/\w'.cell? ⟨w.heap.size+1,0,none⟩=some (.slice A1 n1 c1)/\w'.cell? ⟨wk0.heap.size,0,none⟩=some (.slice C0 p0 e0)/\w'.cell? ⟨wk0.heap.size,1,none⟩=some (.slice D0 q0 f0)/\w'.cell? ⟨wk1.heap.size,0,none⟩=some (.slice C1 p1 e1))
  (first | (exact ⟨(Below.refl _ _).drew,Nat.le_refl _,y0_0,y0_1,y1_0,y2_0,y2_1,y3_0⟩) | (exact hold6 l0 l0 l1 l2 l2 l3 (by assumption) (by assumption)))
  (first | (go_at_call 11;refine (toExpr_any _ l _ (hvo1.keep (below_trans hb (hold_below (by assumption)))) ha1).mono ?_;rintro e wd1 ⟨vd1,rfl,hod1,hbd1⟩) | (go_at_call 15;refine (eqExpr_same _ _ l _ ((hx1.view.all hx1s).keep (hold_below (by assumption))) (hod1.view.all (Nat.le_refl _))).mono ?_;rintro e we1 ⟨rfl,hbe1⟩))
 all_goals clear y0_0 y0_1 y1_0 y2_0 y2_1 y3_0
 all_goals (rename_i hh;obtain ⟨hbn,-,y0_0,y0_1,y1_0,y2_0,y2_1,y3_0⟩:=hh)
 all_goals replace l0:=Nat.lt_of_lt_of_le l0 hbn.size
 all_goals replace l1:=Nat.lt_of_lt_of_le l1 hbn.size
 all_goals replace l2:=Nat.lt_of_lt_of_le l2 hbn.size
 all_goals replace l3:=Nat.lt_of_lt_of_le l3 hbn.size
 all_goals replace hr:=hr.below hbn hrs
 all_goals replace hrs:=Nat.le_trans hrs hbn.size
 all_goals replace hx0:=hx0.below hbn hx0s
 all_goals replace hx0s:=Nat.le_trans hx0s hbn.size
 all_goals replace hx1:=hx1.below hbn hx1s
 all_goals replace hx1s:=Nat.le_trans hx1s hbn.size
 all_goals replace hg:=hg.below hbn hgs
 all_goals replace hgs:=Nat.le_trans hgs hbn.size
 all_goals have z_we1:=hbn.size
 all_goals replace hb:=below_trans hb hbn
 all_goals clear hbn
 all_goals clear hod1 hbd1 hbe1
 all_goals go_wp2_with fail
 all_goals (refine (markGraph_any _ _ _ g 1 _ hx0 hx0s (by omega) ha0 hc0 (by omega)).mono ?_;rintro e wm0 ⟨k0,rfl,hk0,hkm0,ho⟩)
 all_goals clear y2_0 y2_1 l2
 all_goals clear hx0 hx0s
 all_goals replace y0_0:=(ho.cell (p:=⟨w.heap.size,0,none⟩) l0 (by simp only;omega)).trans y0_0
 all_goals replace y0_1:=(ho.cell (p:=⟨w.heap.size,1,none⟩) l0 (by simp only;omega)).trans y0_1
 all_goals replace y1_0:=(ho.cell (p:=⟨w.heap.size+1,0,none⟩) l1 (by simp only;omega)).trans y1_0
 all_goals replace y3_0:=(ho.cell (p:=⟨wk1.heap.size,0,none⟩) l3 (by simp only;omega)).trans y3_0
 all_goals replace l0:=Nat.lt_of_lt_of_le l0 ho.size
 all_goals replace l1:=Nat.lt_of_lt_of_le l1 ho.size
 all_goals replace l3:=Nat.lt_of_lt_of_le l3 ho.size
 all_goals replace hr:=hr.only ho (by omega)
 all_goals replace hrs:=Nat.le_trans hrs ho.size
 all_goals replace hx1:=hx1.only ho (by omega)
 all_goals replace hx1s:=Nat.le_trans hx1s ho.size
 all_goals replace hg:=hg.only ho (by omega)
 all_goals replace hgs:=Nat.le_trans hgs ho.size
 all_goals have z_wm0:=ho.size
 all_goals replace hb:=hb.trans (ho.below (by omega) (by omega))
 all_goals clear ho
 all_goals go_wp2_with fail
 all_goals (refine (markExpr_any _ _ _ l k0 _ hx1 hx1s (by omega) ha1 (by omega)).mono ?_;rintro e wm1 ⟨rfl,hxm,ho⟩)
 all_goals clear y3_0 l3
 all_goals clear hxm
 all_goals clear hx1 hx1s
 all_goals replace y0_0:=(ho.cell (p:=⟨w.heap.size,0,none⟩) l0 (by simp only;omega)).trans y0_0
 all_goals replace y0_1:=(ho.cell (p:=⟨w.heap.size,1,none⟩) l0 (by simp only;omega)).trans y0_1
 all_goals replace y1_0:=(ho.cell (p:=⟨w.heap.size+1,0,none⟩) l1 (by simp only;omega)).trans y1_0
 all_goals replace l0:=Nat.lt_of_lt_of_le l0 ho.size
 all_goals replace l1:=Nat.lt_of_lt_of_le l1 ho.size
 all_goals replace hr:=hr.only ho (by omega)
 all_goals replace hrs:=Nat.le_trans hrs ho.size
 all_goals replace hg:=hg.only ho (by omega)
 all_goals replace hgs:=Nat.le_trans hgs ho.size
 all_goals have z_wm1:=ho.size
 all_goals replace hb:=hb.trans (ho.below (by omega) (by omega))
 all_goals clear ho
 all_goals obtain ⟨k1,hk1⟩:∃ k1:Int,k1=k0+4 * ((l.length:Nat):Int):=⟨_,rfl⟩
 all_goals rw [<- hk1]
 all_goals have hkm1:0<=k1/\k1<=k0+4194304:=by omega
 all_goals clear hk1
 all_goals have hkd:decide (k1 < 0)=false:=by simp;omega
 all_goals go_wp2_with fail
 all_goals clear hkd hkm1 hk0 hkm0
 all_goals (refine (eqPairS_same _ _ ((evalE g l).1) _ ((hg.sl cPr_len).all hgs) ((hr.sl cPr_len).all hrs)).mono ?_;rintro e wq1 ⟨rfl,hbn⟩)
 all_goals replace y0_0:=kcell hbn y0_0
 all_goals replace y0_1:=kcell hbn y0_1
 all_goals replace y1_0:=kcell hbn y1_0
 all_goals replace l0:=Nat.lt_of_lt_of_le l0 hbn.size
 all_goals replace l1:=Nat.lt_of_lt_of_le l1 hbn.size
 all_goals replace hr:=hr.below hbn hrs
 all_goals replace hrs:=Nat.le_trans hrs hbn.size
 all_goals replace hg:=hg.below hbn hgs
 all_goals replace hgs:=Nat.le_trans hgs hbn.size
 all_goals have z_wq1:=hbn.size
 all_goals replace hb:=below_trans hb hbn
 all_goals clear hbn
 all_goals go_wp2_with fail
 all_goals (refine (markPairS_any _ _ _ _ ((evalE g l).1) 1 _ hg (by omega) (by omega)).mono ?_;rintro e wmg ⟨rfl,hgm,ho⟩)
 all_goals clear hg
 all_goals have hg:=hgm
 all_goals clear hgm
 all_goals replace y0_0:=(ho.cell (p:=⟨w.heap.size,0,none⟩) l0 (by simp only;omega)).trans y0_0
 all_goals replace y0_1:=(ho.cell (p:=⟨w.heap.size,1,none⟩) l0 (by simp only;omega)).trans y0_1
 all_goals replace y1_0:=(ho.cell (p:=⟨w.heap.size+1,0,none⟩) l1 (by simp only;omega)).trans y1_0
 all_goals replace l0:=Nat.lt_of_lt_of_le l0 ho.size
 all_goals replace l1:=Nat.lt_of_lt_of_le l1 ho.size
 all_goals replace hr:=hr.only ho (by omega)
 all_goals replace hrs:=Nat.le_trans hrs ho.size
 all_goals replace hgs:=Nat.le_trans hgs ho.size
 all_goals have z_wmg:=ho.size
 all_goals replace hb:=hb.trans (ho.below (by omega) (by omega))
 all_goals clear ho
 all_goals go_wp2_with fail
 all_goals (refine (heldPairS_any _ ((evalE g l).1).length 1 _ ((hg.sl cPr_len).all hgs) (by omega) (by omega)).mono ?_;rintro e wh0 ⟨rfl,hbn⟩)
 all_goals replace y0_0:=kcell hbn y0_0
 all_goals replace y0_1:=kcell hbn y0_1
 all_goals replace y1_0:=kcell hbn y1_0
 all_goals replace l0:=Nat.lt_of_lt_of_le l0 hbn.size
 all_goals replace l1:=Nat.lt_of_lt_of_le l1 hbn.size
 all_goals replace hr:=hr.below hbn hrs
 all_goals replace hrs:=Nat.le_trans hrs hbn.size
 all_goals replace hg:=hg.below hbn hgs
 all_goals replace hgs:=Nat.le_trans hgs hbn.size
 all_goals have z_wh0:=hbn.size
 all_goals replace hb:=below_trans hb hbn
 all_goals clear hbn
 all_goals have t0:decide (1+2 * (((evalE g l).1).length:Int) < 0)=false:=by simp;omega
 all_goals have t1:(1+2 * (((evalE g l).1).length:Int) != 1+2 * (((evalE g l).1).length:Int))=false:=by simp
 all_goals go_wp2_with fail
 all_goals clear t0 t1
 all_goals go_region_held3 (fun w'=>Below wh0.heap.size wh0 w'/\wh0.heap.size<=w'.heap.size/\w'.cell? ⟨w.heap.size,0,none⟩=some (.slice A0 n0 c0)/\w'.cell? ⟨w.heap.size,1,none⟩=some (.slice B0 m0 d0)/\w'.cell? ⟨w.heap.size+1,0,none⟩=some (.slice A1 n1 c1))
  (first | (exact ⟨(Below.refl _ _).drew,Nat.le_refl _,y0_0,y0_1,y1_0⟩) | (exact hold3 l0 l0 l1 (by assumption) (by assumption)))
  (first | (go_at_call 10;refine (toGraph_any _ g _ (hvo0.keep (below_trans hb (hold_below (by assumption)))) ha0 hc0).mono ?_;rintro e wc0b ⟨vc0b,rfl,hoc0b,hbc0b⟩) | (go_at_call 11;refine (toExpr_any _ l _ (hvo1.keep (below_trans hb (hold_below (by assumption)))) ha1).mono ?_;rintro e wc1b ⟨vc1b,rfl,hoc1b,hbc1b⟩) | (go_at_call 12;refine (implEvaluateX vc0b vc1b g l _ (by first | exact (hoc0b.view.all (Nat.le_refl _)) | exact ((hoc0b.view.all (Nat.le_refl _)).keep hbc1b)) (by first | exact (hoc1b.view.all (Nat.le_refl _)) | exact ((hoc1b.view.all (Nat.le_refl _)).keep hbc0b))).mono ?_;rintro e wres2 ⟨vh,rfl,hoh,hbres2⟩))
 all_goals clear y0_0 y0_1 y1_0
 all_goals (rename_i hh;obtain ⟨hbn,-,y0_0,y0_1,y1_0⟩:=hh)
 all_goals replace l0:=Nat.lt_of_lt_of_le l0 hbn.size
 all_goals replace l1:=Nat.lt_of_lt_of_le l1 hbn.size
 all_goals replace hr:=hr.below hbn hrs
 all_goals replace hrs:=Nat.le_trans hrs hbn.size
 all_goals replace hg:=hg.below hbn hgs
 all_goals replace hgs:=Nat.le_trans hgs hbn.size
 all_goals have z_wres2:=hbn.size
 all_goals replace hb:=below_trans hb hbn
 all_goals clear hbn
 all_goals go_wp2_with fail
 all_goals (refine (eqPairS_same _ _ ((evalE g l).1) _ ((hoh.sl cPr_len).all (Nat.le_refl _)) ((hr.sl cPr_len).all hrs)).mono ?_;rintro e wq2 ⟨rfl,hbn⟩)
 all_goals replace y0_0:=kcell hbn y0_0
 all_goals replace y0_1:=kcell hbn y0_1
 all_goals replace y1_0:=kcell hbn y1_0
 all_goals replace l0:=Nat.lt_of_lt_of_le l0 hbn.size
 all_goals replace l1:=Nat.lt_of_lt_of_le l1 hbn.size
 all_goals replace hr:=hr.below hbn hrs
 all_goals replace hrs:=Nat.le_trans hrs hbn.size
 all_goals replace hg:=hg.below hbn hgs
 all_goals replace hgs:=Nat.le_trans hgs hbn.size
 all_goals have z_wq2:=hbn.size
 all_goals replace hb:=below_trans hb hbn
 all_goals clear hbn
 all_goals go_wp2_with fail
 all_goals (refine (heldPairS_any _ ((evalE g l).1).length 1 _ ((hg.sl cPr_len).all hgs) (by omega) (by omega)).mono ?_;rintro e wh1 ⟨rfl,hbn⟩)
 all_goals replace y0_0:=kcell hbn y0_0
 all_goals replace y0_1:=kcell hbn y0_1
 all_goals replace y1_0:=kcell hbn y1_0
 all_goals replace l0:=Nat.lt_of_lt_of_le l0 hbn.size
 all_goals replace l1:=Nat.lt_of_lt_of_le l1 hbn.size
 all_goals replace hr:=hr.below hbn hrs
 all_goals replace hrs:=Nat.le_trans hrs hbn.size
 all_goals replace hg:=hg.below hbn hgs
 all_goals replace hgs:=Nat.le_trans hgs hbn.size
 all_goals have z_wh1:=hbn.size
 all_goals replace hb:=below_trans hb hbn
 all_goals clear hbn
 all_goals have t0:decide (1+2 * (((evalE g l).1).length:Int) < 0)=false:=by simp;omega
 all_goals have t1:(1+2 * (((evalE g l).1).length:Int) != 1+2 * (((evalE g l).1).length:Int))=false:=by simp
 all_goals go_wp2_with fail
 all_goals clear t0 t1
 all_goals go_ret
 all_goals exact ⟨rfl,hb⟩
end Go.Proofs.Ytloeghbhoflabaa.fnExactEvaluateExpr
namespace Go.Proofs.Ytloeghbhoflabaa.fnExactEvaluateExpr
open Go.ChangeShapes Go.WideShapes Go.ChangeAt Go.RowKit
theorem own:ownKnob Try.prog.godebug=none:=by kernel_rfl
theorem laidOut:laidOutB Try.prog=true:=by kernel_rfl
set_option maxRecDepth 100000 in
theorem lifted (os:Os) (started:os.Started) (H:Type) (enc:TypeId × Value->H) :
 ReturnsInHanded {} Try.checked os 3 .any (Rows.fnExactEvaluateExprSpec.pre6 enc Try.prog Try.f3 Rows.fnExactEvaluateExprRow.domain false) (Rows.fnExactEvaluateExprSpec.post enc Try.prog Try.f3 false true false false):=by
 refine returnsInHanded_of_change (C:=Try.checked) own started (by kernel_rfl) Try.func3
  (ChangeSpec.witness6 (enc:=enc) (C:=Try.checked) false ⟨#[],#[.agg #[.slice none 0 0,.slice none 0 0],.agg #[.slice none 0 0]],[]⟩ 8 (by kernel_rfl) (by kernel_rfl) (by kernel_rfl) (by kernel_rfl)) ?_
 intro W base args ds gs before hval0 hW hcnd _
 have hval:∀ (j:Nat) t v,Try.f3.params[j]?=some t->args[j]?=some v->Value.okWide Try.prog W .any base t v:=hval0
 have hW':=hW
 obtain ⟨p,q,hA0,hV,rfl,hfz,hnd⟩:=hW
 have hA:DataW.TrodAll enc Try.prog W 0 (fun _=>true) true Try.f3.params.toList args.toList ds p:=hA0
 rw [Try.params3] at hA hval
 obtain ⟨v0,vs0,d0,ds0,p0,q0,hargs,rfl,rfl,h0,r0⟩:=trodAll_cons hA
 obtain ⟨v1,vs1,d1,ds1,p1,q1,rfl,rfl,rfl,h1,r1⟩:=trodAll_cons r0
 obtain ⟨rfl,rfl,rfl⟩:=trodAll_nil r1
 obtain rfl:args=#[v0,v1]:=by cases args;simp_all
 obtain ⟨rfl,rfl⟩:=trodVars_none hV
 obtain ⟨a0,w0⟩:=openGraph (hval 0 25 v0 rfl rfl) h0
 obtain ⟨a1,w1⟩:=openExpr (hval 1 28 v1 rfl rfl) h1
 refine (walk W v0 a0 w0 v1 a1 w1).mono fun e W' ⟨he,hb⟩=>?_
 subst he
 exact ⟨_,rfl,law_post laidOut (by kernel_rfl) rfl Try.underlying4 rfl rfl hW' hb⟩
theorem unf:Try.pinned.checked.prog.unfollowed 3=true:=by kernel_rfl
theorem inpl:Try.pinned.checked.prog.inPlace 3=[]:=by kernel_rfl
theorem vnam:Try.pinned.checked.prog.varsNamed 3=[]:=by kernel_rfl
theorem rec_:Try.pinned.checked.prog.recurses 3=true:=by rw [Program.recurses,unf,Bool.true_or]
theorem over:Rows.fnExactEvaluateExprRow.holds Try.pinned (OpenSpec.ofChange Rows.fnExactEvaluateExprSpec) :=
 OpenClaim.holds_of_wide 3 Try.f3 rfl rfl rfl rfl rfl rfl rfl ⟨rfl,rfl,rfl,rfl,rfl⟩ rfl rfl rfl rfl rfl (by kernel_rfl) Try.func3 (by unfold joinedFacts;rw [seat_mayEnter,seat_lifts,seat_laidOut,seat_mapsRowed,unf,rec_,inpl,vnam];kernel_rfl)
  (of_decide_eq_true (by kernel_rfl)) (by unfold Func.isWrapper;first | (rw [if_pos (by decide +kernel)];kernel_rfl) | (rw [if_neg (by decide +kernel)];exact ⟨rfl,rfl⟩))
  (fun os started H enc _=>lifted os started H enc)
theorem proved:Rows.FnExactEvaluateExprSaid:=over
end Go.Proofs.Ytloeghbhoflabaa.fnExactEvaluateExpr
