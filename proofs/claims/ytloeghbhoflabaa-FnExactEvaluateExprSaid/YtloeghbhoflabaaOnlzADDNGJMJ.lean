/- Parts of the proof, joined into one text: ProdI, DistM, NextM, NextI, LetI, RelT. -/
import Derived.Test.YtloeghbhoflabaaOnlzGFOHOABB
import Derived.Test.YtloeghbhoflabaaOnlzKDDNPOOL
import Derived.Test.YtloeghbhoflabaaOnlzAHMCLFHH
import Derived.Test.YtloeghbhoflabaaOnlzLMLMOJCI
set_option linter.unusedVariables false
set_option linter.unusedSimpArgs false
namespace Go.Proofs.Ytloeghbhoflabaa
open Go.ChangeShapes Go.WideShapes Go.ChangeAt Go.RowKit
attribute [local go_sem] ext_cell ext_frozen ext_lt ext_lt1 ext_lt2 ext_lt3 ltn2 ltn3 ltn13 lts1 lts2 lts3
/-- an arc as four cells -/
def cA (y:Arc):List Value:=[.int .i64 y.1.1,.bool y.1.2,.int .i64 y.2.1,.int .i64 y.2.2]
theorem cA_len (y:Arc):(cA y).length=4:=rfl
theorem cA_one (y:Arc):∀ u ∈ cA y,u.oneCell'=true:=by intro u hu;simp only [cA,List.mem_cons,List.not_mem_nil,or_false] at hu;rcases hu with rfl | rfl | rfl | rfl <;> rfl
theorem reads_any (e:Ed) (b:Bool) (w:World) (h0:0<=e.2.2.2) (h2:e.2.2.2<=2) :
 Calls Try.prog 117 #[.agg #[.int .i64 e.1,.int .i64 e.2.1,.int .i64 e.2.2.1,.int .i64 e.2.2.2],.bool b] w fun en w'=>en=.returned (.int .i64 (arcLetter b e))/\Below w.heap.size w w':=by
 obtain ⟨a,f,t,l⟩:=e
 simp only at h0 h2 ⊢
 cases b
 all_goals
  go_enter Try.func117,Try.ntmps117
  go_wp2_with fail
  go_ret
  exact ⟨rfl,(Below.refl _ _).alloc (Nat.le_refl _) _⟩
theorem elArc:ElemOk Try.prog 152 156 (.agg #[.int .i64 0,.bool false,.int .i64 0,.int .i64 0]) 4 32:=⟨Try.underlying152,by kernel_rfl,rfl,by omega⟩
theorem elArcs:ElemOk Try.prog 150 152 (.slice none 0 0) 1 24:=⟨Try.underlying150,by kernel_rfl,rfl,by omega⟩
set_option maxHeartbeats 4000000 in
set_option maxRecDepth 100000 in
theorem arcs_any (v:Value) (g:Gr) (w:World) (hv:GrV 0 w.heap.size w v g) (hg:GrOk g) :
 Calls Try.prog 106 #[v] w fun e w'=>∃ v',e=.returned v'/\SSE w.heap.size w'.heap.size w' cA 4 v' ((List.range g.vals.length).map fun (x:Nat)=>arcsOf g (x:Int))/\Below w.heap.size w w':=by
 obtain ⟨A1,c1,A2,c2,rfl,hl1,hm1,hl2,hm2,hC1,hC2⟩:=hv.form
 have hn5:=hg.n5
 have he12:=hg.e12
 have HG:=Hd_ hg
 have HC2:=Hd_ hC2
 clear hC1 hC2 hv hg
 obtain ⟨R,hR⟩:∃ R,R=(List.range g.vals.length).map fun (x:Nat)=>arcsOf g (x:Int):=⟨_,rfl⟩
 rw [<- hR]
 have HR:=Hd_ hR
 clear hR
 go_enter Try.func106,Try.ntmps106
 go_wp2_with (at_make;refine wpList_makeE (P:=Try.prog) cV (.slice none 0 0) elArcs rfl rfl rfl _ _ rfl (w.heap.size+1) g.vals.length _ (by rfl) (by rfl) rfl (by omega) (by unfold maxLen;omega) (by simp) ?_;intro w1 hrow1 hbel1
              have b0:=(Blk.new w _ _ w.heap.size rfl).below hbel1 (by simp)
              have hb1:Below w.heap.size w w1:=((Below.refl _ _).alloc (Nat.le_refl _) _).trans (hbel1.mono (by simp))
              simp only [World.size_alloc] at hrow1 ⊢
              have hr1:=Rws.made (base:=w.heap.size+1) (α:=Arc) (E:=cA) (k:=4) (rT:=156) hrow1
              have HR1:=Hd_ hr1
              have x0:w1.cell? ⟨w.heap.size,0,none⟩=some (.slice A1 g.vals.length c1):=b0.cell 0
              have x1:w1.cell? ⟨w.heap.size,1,none⟩=some (.slice A2 g.edges.length c2):=b0.cell 1
              clear hbel1 hrow1 b0 hr1)
 generalize hgb:w.heap.size+1=gb at *
 have hgw:w.heap.size < gb:=by omega
 clear hgb
 go_loopw [13] (fun ii wr=>∃ (i:Nat) (hs:List Value),i<=g.edges.length/\ii=.int .i64 (i:Int)/\Rws wr gb 152 156 cA 4 gb hs (rowsTo g i)/\Below w.heap.size w wr) (fun ii _=>g.edges.length - (intOf ii).toNat)
 case atStart=>exact ⟨0,_,Nat.zero_le _,rfl,by rw [rowsTo_zero];exact HR1.out,hb1⟩
 case round =>
  obtain ⟨i,hs,hi,rfl,hrow,hbel⟩:=hrel
  clear hb1 HR1 x0 x1
  by_cases hlt:i < g.edges.length
  · have hei:g.edges[i]?=some g.edges[i]:=List.getElem?_eq_getElem hlt
    have hge:=HG.out.edges _ (List.getElem_mem hlt)
    generalize g.edges[i]=e at hei hge
    obtain ⟨-,⟨hf0,hf1⟩,⟨ht0,ht1⟩,hl0,hl2⟩:=hge
    obtain ⟨b,o,rfl,hb,q0,q1,q2,q3⟩:=HC2.out.ed hei
    have d0:=bcell hbel q0 hb
    have d1:=bcell hbel q1 hb
    have d2:=bcell hbel q2 hb
    have d3:=bcell hbel q3 hb
    have hbw:=Nat.lt_of_lt_of_le hb hbel.size
    have HEI:=Hd_ hei
    clear hei q0 q1 q2 q3
    have hgl:=hrow.gLt
    have hfh:e.2.1.toNat < hs.length:=by rw [hrow.len,rowsTo_len];omega
    have hhf:hs[e.2.1.toNat]?=some hs[e.2.1.toNat]:=List.getElem?_eq_getElem hfh
    generalize hs[e.2.1.toNat]=hv1 at hhf
    have hx1:=rowsTo_at (g:=g) (i:=i) (x:=e.2.1.toNat) (by omega)
    rw [Int.toNat_of_nonneg hf0] at hx1
    obtain ⟨eid,ef,et,el⟩:=e
    simp only at *
    have hfn:ef.toNat < g.vals.length:=by omega
    obtain ⟨ef,rfl⟩:=Int.eq_ofNat_of_zero_le hf0
    obtain ⟨et,rfl⟩:=Int.eq_ofNat_of_zero_le ht0
    simp only [Int.toNat_natCast] at *
    have hfi:(ef:Int) < (g.vals.length:Int):=by omega
    have hti:(et:Int) < (g.vals.length:Int):=by omega
    have hcf:=hrow.cell hhf
    have hff:=hrow.frozen ef
    have HROW:=Hd_ hrow
    have HX1:=Hd_ hx1
    have HHF:=Hd_ hhf
    have hfar:=hrow.far _ _ hhf
    have HFAR:=Hd_ hfar
    have hgs:=hgl.2
    have hlv:hs.length=g.vals.length:=by rw [hrow.len,rowsTo_len]
    have hgv:gb < wr.heap.size:=hgl.2
    have hsz:=hbel.size
    clear hrow hx1 hhf hfar hgl hfh hlv
    go_wp2_with fail
    have e0:(wr.alloc (.cells #[.int .i64 eid,.int .i64 (ef:Int),.int .i64 (et:Int),.int .i64 el] 111)).cell? ⟨wr.heap.size,0,none⟩=some (.int .i64 eid):=by simp
    have e1:(wr.alloc (.cells #[.int .i64 eid,.int .i64 (ef:Int),.int .i64 (et:Int),.int .i64 el] 111)).cell? ⟨wr.heap.size,1,none⟩=some (.int .i64 (ef:Int)):=by simp
    have e2:(wr.alloc (.cells #[.int .i64 eid,.int .i64 (ef:Int),.int .i64 (et:Int),.int .i64 el] 111)).cell? ⟨wr.heap.size,2,none⟩=some (.int .i64 (et:Int)):=by simp
    have e3:(wr.alloc (.cells #[.int .i64 eid,.int .i64 (ef:Int),.int .i64 (et:Int),.int .i64 el] 111)).cell? ⟨wr.heap.size,3,none⟩=some (.int .i64 el):=by simp
    generalize hW:(wr.alloc (.cells #[.int .i64 eid,.int .i64 (ef:Int),.int .i64 (et:Int),.int .i64 el] 111))=wE
    rw [hW] at e0 e1 e2 e3
    have hbE:Below wr.heap.size wr wE:=by rw [<- hW];exact (Below.refl _ _).alloc (Nat.le_refl _) _
    have hcE:wE.cell? ⟨gb,ef,none⟩=some hv1:=bcell hbE hcf hgs
    have hfE:wE.frozen? ⟨gb,ef,none⟩=false:=by rw [hbE.frozen (p:=⟨gb,ef,none⟩) hgs];exact hff
    have hsE:wr.heap.size < wE.heap.size:=by rw [<- hW];simp
    have hgE:gb < wE.heap.size:=by omega
    have hgE1:wr.heap.size ≠ gb:=by omega
    have HRE:=Hd_ (HROW.out.below hbE)
    have HBE:=Hd_ (hbel.trans (hbE.mono hsz))
    have hne1:some wr.heap.size ≠ hv1.ownBlock:=fun h=>by have:=((HROW.out.row ef hv1 _ HHF.out HX1.out).lt _ h.symm).2;omega
    have hne2:some gb ≠ hv1.ownBlock:=Ne.symm HFAR.out
    have hneR0:∀ (j:Nat) (h:Value),hs[j]?=some h->some wr.heap.size ≠ h.ownBlock:=fun j h hj e9=>by
     have hjx:j < (rowsTo g i).length:=by rw [<- HROW.out.len];exact (List.getElem?_eq_some_iff.1 hj).1
     have:=((HROW.out.row j h _ hj (List.getElem?_eq_getElem hjx)).lt _ e9.symm).2
     omega
    have HNER:=Hd_ hneR0
    clear hneR0
    have HRO:=Hd_ (HRE.out.row ef hv1 _ HHF.out HX1.out)
    have hrl:((g.edges.take i).flatMap (arcE (ef:Int))).length<=24:=by
     have h1:=flat_len (arcE_len (ef:Int)) (g.edges.take i)
     rw [List.length_take] at h1
     omega
    clear hW hbE hcf hff HROW hbel
    obtain ⟨row1,hrow1⟩:∃ row1,row1=(g.edges.take i).flatMap (arcE (ef:Int)):=⟨_,rfl⟩
    rw [<- hrow1] at hrl HRO HX1
    have HROW1:=Hd_ hrow1
    clear hrow1
    refine F_start 19 (fun w'=>w'.cell? ⟨wr.heap.size,0,none⟩=some (.int .i64 eid)/\w'.cell? ⟨wr.heap.size,1,none⟩=some (.int .i64 (ef:Int))/\w'.cell? ⟨wr.heap.size,2,none⟩=some (.int .i64 (et:Int))/\w'.cell? ⟨wr.heap.size,3,none⟩=some (.int .i64 el)/\w'.cell? ⟨gb,ef,none⟩=some hv1) (by kernel_rfl) (by exact ⟨e0,e1,e2,e3,hcE⟩) (fun hS inv=>?_)
    refine F_tk 0 inv ?_
    try simp only [tA,tB,tC,Act.put,tE,tF,tG]
    clear inv;intro inv
    refine F_tk 1 inv ?_
    try simp only [tA,tB,tC,Act.put,tE,tF,tG]
    clear inv;intro inv
    refine F_tk 2 inv ?_
    try simp only [tA,tB,tC,Act.put,tE,tF,tG]
    clear inv;intro inv
    refine F_tk 3 inv ?_
    try simp only [tA,tB,tC,Act.put,tE,tF,tG]
    clear inv;intro inv
    refine F_tk 4 inv ?_
    try simp only [tA,tB,tC,Act.put,tE,tF,tG]
    clear inv;intro inv
    refine F_tk 5 inv ?_
    try simp only [tA,tB,tC,Act.put,tE,tF,tG]
    clear inv;intro inv
    refine F_tk 6 inv ?_
    try simp only [tA,tB,tC,Act.put,tE,tF,tG]
    clear inv;intro inv
    refine F_tk 7 inv ?_
    try simp only [tA,tB,tC,Act.put,tE,tF,tG]
    clear inv;intro inv
    refine F_tk 8 inv ?_
    try simp only [tA,tB,tC,Act.put,tE,tF,tG]
    clear inv;intro inv
    refine F_tk 9 inv ?_
    try simp only [tA,tB,tC,Act.put,tE,tF,tG]
    clear inv;intro inv
    refine F_tk 10 inv ?_
    try simp only [tA,tB,tC,Act.put,tE,tF,tG]
    clear inv;intro inv
    refine F_tk 11 inv ?_
    try simp only [tA,tB,tC,Act.put,tE,tF,tG]
    clear inv;intro inv
    refine F_tk 13 inv ?_
    try simp only [tA,tB,tC,Act.put,tE,tF,tG]
    clear inv;intro inv
    refine F_tk 14 inv ?_
    try simp only [tA,tB,tC,Act.put,tE,tF,tG]
    clear inv;intro inv
    refine F_o1 12 inv ?_;intro K hK
    try simp only [tA,tB,tC]
    go_simp
    refine (reads_any (eid,(ef:Int),(et:Int),el) false _ hl0 hl2).mono ?_
    rintro en wR ⟨rfl,hbR⟩
    have hbR:=below_trans (Below.refl wE.heap.size wE).drew hbR
    have hcR:=kcell hbR hcE
    have hfR:=kfb hbR hcE hfE
    have hsR:=hbR.size
    have HRX:=Hd_ (ownsRow_below HRO.out hbR (Nat.le_refl _))
    refine hK.out _ _ (kB5 hbR ⟨e0,e1,e2,e3,hcE⟩) (fun _ _=>?_)
    try simp only [tA,tB,tC,Act.put,tE,tF,tG]
    clear hK K inv hS;rename_i hS inv
    refine F_tk 15 inv ?_
    try simp only [tA,tB,tC,Act.put,tE,tF,tG]
    clear inv;intro inv
    refine F_o1 16 inv ?_;intro K hK
    try simp only [tA,tB,tC]
    go_simp
    refine hK.out _ _ (kA5 _ hS) (fun _ _=>?_)
    try simp only [tA,tB,tC,Act.put,tE,tF,tG]
    clear hK K inv hS;rename_i hS inv
    refine F_o1 17 inv ?_;intro K hK
    try simp only [tA,tB,tC]
    refine op_append1 cA elArc rfl _ _ (by rfl) gb hv1 row1 ((eid,false),arcLetter false (eid,(ef:Int),(et:Int),el),(et:Int)) 1 _ (by rfl) (HRX.out.alloc _) (by rfl) (heap_alloc_new _ _) rfl (cA_one _) (by omega) (by omega) (by simp;omega) ?_
    intro g2 cp2 w3 hown3 hgr3 hat3 hlt3
    have HO3:=Hd_ hown3
    have HG3:=Hd_ hgr3
    have HA3:=Hd_ hat3
    clear hown3 hgr3 hat3
    refine hK.out _ _ (kG5 HG3.out hne1 hne1 hne1 hne1 hne2 hS) (fun _ _=>?_)
    try simp only [tA,tB,tC,Act.put,tE,tF,tG]
    clear hK K inv hS;rename_i hS inv
    refine F_tk 18 inv ?_
    try simp only [tA,tB,tC,Act.put,tE,tF,tG]
    clear inv;intro inv
    have hcz:=HG3.out.cell (kcell ((Below.refl _ _).alloc (Nat.le_refl _) _) hcR) hne2
    have hfz:=kfg HG3.out (p:=⟨gb,ef,none⟩) hne2 (kcell ((Below.refl _ _).alloc (Nat.le_refl _) _) hcR) (kfb ((Below.refl _ _).alloc (Nat.le_refl _) _) hcR hfR)
    refine F_l1 19 ?_;intro K hK
    go_simp
    refine hK _ _ ?_
    clear hK K inv hS
    have hbA:Below wE.heap.size wE (wR.alloc (.cells #[.int .i64 eid,.bool false,.int .i64 (arcLetter false (eid,(ef:Int),(et:Int),el)),.int .i64 (et:Int)] 156)):=hbR.alloc hsR _
    have hrF:=Rws.push (HRE.out.below hbA) HHF.out HX1.out HO3.out HG3.out rfl HA3.out
    have hbF:Below w.heap.size w (w3.setCell ⟨gb,ef,none⟩ (.slice (some ⟨g2,0,none⟩) (row1.length+1) cp2)) :=
     ((HBE.out.trans (hbA.mono HBE.out.size)).grown HG3.out (Nat.le_trans HBE.out.size hbA.size) (fun b hb=>by have:=(HRX.out.lt b hb).1;omega)).setCell (by simp only;omega) _
    have f0:=(World.cell?_setCell_far w3 ⟨gb,ef,none⟩ ⟨wr.heap.size,0,none⟩ (.slice (some ⟨g2,0,none⟩) (row1.length+1) cp2) (Ne.symm hgE1)).trans (HG3.out.cell (kcell hbA e0) hne1)
    have f1:=(World.cell?_setCell_far w3 ⟨gb,ef,none⟩ ⟨wr.heap.size,1,none⟩ (.slice (some ⟨g2,0,none⟩) (row1.length+1) cp2) (Ne.symm hgE1)).trans (HG3.out.cell (kcell hbA e1) hne1)
    have f2:=(World.cell?_setCell_far w3 ⟨gb,ef,none⟩ ⟨wr.heap.size,2,none⟩ (.slice (some ⟨g2,0,none⟩) (row1.length+1) cp2) (Ne.symm hgE1)).trans (HG3.out.cell (kcell hbA e2) hne1)
    have f3:=(World.cell?_setCell_far w3 ⟨gb,ef,none⟩ ⟨wr.heap.size,3,none⟩ (.slice (some ⟨g2,0,none⟩) (row1.length+1) cp2) (Ne.symm hgE1)).trans (HG3.out.cell (kcell hbA e3) hne1)
    have hg23:some wr.heap.size ≠ (Value.slice (some ⟨g2,0,none⟩) (row1.length+1) cp2).ownBlock:=by
     simp only [Value.ownBlock,ne_eq,Option.some.injEq]
     intro e9;subst e9
     rcases HA3.out with h9 | h9
     · exact hne1 h9.symm
     · have:=hbA.size;omega
    rw [show (rowsTo g i).set ef (row1 ++ [((eid,false),arcLetter false (eid,(ef:Int),(et:Int),el),(et:Int))])=rowFrom g i (eid,(ef:Int),(et:Int),el) by rw [HROW1.out];rfl] at hrF
    generalize (w3.setCell ⟨gb,ef,none⟩ (.slice (some ⟨g2,0,none⟩) (row1.length+1) cp2))=wF at *
    have hethF:et < (hs.set ef (.slice (some ⟨g2,0,none⟩) (row1.length+1) cp2)).length:=by rw [List.length_set,HRE.out.len,rowsTo_len];omega
    have hhb:(hs.set ef (.slice (some ⟨g2,0,none⟩) (row1.length+1) cp2))[et]?=some (hs.set ef (.slice (some ⟨g2,0,none⟩) (row1.length+1) cp2))[et]:=List.getElem?_eq_getElem hethF
    generalize (hs.set ef (.slice (some ⟨g2,0,none⟩) (row1.length+1) cp2))[et]=hv2 at hhb
    have hx2:(rowFrom g i (eid,(ef:Int),(et:Int),el))[et]?=some (rowBack g i (eid,(ef:Int),(et:Int),el)):=by have:=rowFrom_at (g:=g) (i:=i) (e:=(eid,(ef:Int),(et:Int),el)) (by simp only;omega) (by simp only;omega) (by simp only;omega) (by simp only;omega);simpa using this
    have hne3:some wr.heap.size ≠ hv2.ownBlock:=by
     rw [List.getElem?_set] at hhb
     split at hhb
     · split at hhb
       · injection hhb with hhb;rw [<- hhb];exact hg23
       · cases hhb
     · exact HNER.out et hv2 hhb
    have hne4:some gb ≠ hv2.ownBlock:=Ne.symm (hrF.far _ _ hhb)
    have hcF:=hrF.cell hhb
    have hfF:=hrF.frozen et
    have hgF:=hrF.gLt.2
    have HRO2:=Hd_ (hrF.row et hv2 _ hhb hx2)
    have hlq:wr.heap.size < wF.heap.size:=World.block_lt_of_cell? wF _ f0
    have hrl2:(rowBack g i (eid,(ef:Int),(et:Int),el)).length<=25:=by
     have h1:=flat_len (arcE_len (et:Int)) (g.edges.take i)
     rw [List.length_take] at h1
     unfold rowBack
     rw [List.length_append]
     split
     · simp only [List.length_singleton];omega
     · simp only [List.length_nil];omega
    have HHB:=Hd_ hhb
    have HX2:=Hd_ hx2
    have HRF:=Hd_ hrF
    have HBF:=Hd_ hbF
    clear hhb hx2 hrF hbF hbA hethF
    obtain ⟨row2,hrow2⟩:∃ row2,row2=rowBack g i (eid,(ef:Int),(et:Int),el):=⟨_,rfl⟩
    rw [<- hrow2] at hrl2 HRO2 HX2
    have HROW2:=Hd_ hrow2
    clear hrow2 hcz hfz hbR hcR hfR hsR HRX HO3 HG3 HA3 e0 e1 e2 e3 hcE hfE hsE hgE HRE HBE hne1 hne2 HRO hrl HNER hg23 hlt3
    go_wp2_with fail
    refine F_start 19 (fun w'=>w'.cell? ⟨wr.heap.size,0,none⟩=some (.int .i64 eid)/\w'.cell? ⟨wr.heap.size,1,none⟩=some (.int .i64 (ef:Int))/\w'.cell? ⟨wr.heap.size,2,none⟩=some (.int .i64 (et:Int))/\w'.cell? ⟨wr.heap.size,3,none⟩=some (.int .i64 el)/\w'.cell? ⟨gb,et,none⟩=some hv2) (by kernel_rfl) (by exact ⟨f0,f1,f2,f3,hcF⟩) (fun hS inv=>?_)
    refine F_tk 0 inv ?_
    try simp only [tA,tB,tC,Act.put,tE,tF,tG]
    clear inv;intro inv
    refine F_tk 1 inv ?_
    try simp only [tA,tB,tC,Act.put,tE,tF,tG]
    clear inv;intro inv
    refine F_tk 2 inv ?_
    try simp only [tA,tB,tC,Act.put,tE,tF,tG]
    clear inv;intro inv
    refine F_tk 3 inv ?_
    try simp only [tA,tB,tC,Act.put,tE,tF,tG]
    clear inv;intro inv
    refine F_tk 4 inv ?_
    try simp only [tA,tB,tC,Act.put,tE,tF,tG]
    clear inv;intro inv
    refine F_tk 5 inv ?_
    try simp only [tA,tB,tC,Act.put,tE,tF,tG]
    clear inv;intro inv
    refine F_tk 6 inv ?_
    try simp only [tA,tB,tC,Act.put,tE,tF,tG]
    clear inv;intro inv
    refine F_tk 7 inv ?_
    try simp only [tA,tB,tC,Act.put,tE,tF,tG]
    clear inv;intro inv
    refine F_tk 8 inv ?_
    try simp only [tA,tB,tC,Act.put,tE,tF,tG]
    clear inv;intro inv
    refine F_tk 9 inv ?_
    try simp only [tA,tB,tC,Act.put,tE,tF,tG]
    clear inv;intro inv
    refine F_tk 10 inv ?_
    try simp only [tA,tB,tC,Act.put,tE,tF,tG]
    clear inv;intro inv
    refine F_tk 11 inv ?_
    try simp only [tA,tB,tC,Act.put,tE,tF,tG]
    clear inv;intro inv
    refine F_tk 13 inv ?_
    try simp only [tA,tB,tC,Act.put,tE,tF,tG]
    clear inv;intro inv
    refine F_tk 14 inv ?_
    try simp only [tA,tB,tC,Act.put,tE,tF,tG]
    clear inv;intro inv
    refine F_o1 12 inv ?_;intro K hK
    try simp only [tA,tB,tC]
    go_simp
    refine (reads_any (eid,(ef:Int),(et:Int),el) true _ hl0 hl2).mono ?_
    rintro en wS ⟨rfl,hbR⟩
    have hbR:=below_trans (Below.refl wF.heap.size wF).drew hbR
    have hcR:=kcell hbR hcF
    have hfR:=kfb hbR hcF hfF
    have hsR:=hbR.size
    have HRX:=Hd_ (ownsRow_below HRO2.out hbR (Nat.le_refl _))
    refine hK.out _ _ (kB5 hbR ⟨f0,f1,f2,f3,hcF⟩) (fun _ _=>?_)
    try simp only [tA,tB,tC,Act.put,tE,tF,tG]
    clear hK K inv hS;rename_i hS inv
    refine F_tk 15 inv ?_
    try simp only [tA,tB,tC,Act.put,tE,tF,tG]
    clear inv;intro inv
    refine F_o1 16 inv ?_;intro K hK
    try simp only [tA,tB,tC]
    go_simp
    refine hK.out _ _ (kA5 _ hS) (fun _ _=>?_)
    try simp only [tA,tB,tC,Act.put,tE,tF,tG]
    clear hK K inv hS;rename_i hS inv
    refine F_o1 17 inv ?_;intro K hK
    try simp only [tA,tB,tC]
    refine op_append1 cA elArc rfl _ _ (by rfl) gb hv2 row2 ((eid,true),arcLetter true (eid,(ef:Int),(et:Int),el),(ef:Int)) 1 _ (by rfl) (HRX.out.alloc _) (by rfl) (heap_alloc_new _ _) rfl (cA_one _) (by omega) (by omega) (by simp;omega) ?_
    intro g3 cp3 w4 hown3 hgr3 hat3 hlt3
    have HO3:=Hd_ hown3
    have HG3:=Hd_ hgr3
    have HA3:=Hd_ hat3
    clear hown3 hgr3 hat3
    refine hK.out _ _ (kG5 HG3.out hne3 hne3 hne3 hne3 hne4 hS) (fun _ _=>?_)
    try simp only [tA,tB,tC,Act.put,tE,tF,tG]
    clear hK K inv hS;rename_i hS inv
    refine F_tk 18 inv ?_
    try simp only [tA,tB,tC,Act.put,tE,tF,tG]
    clear inv;intro inv
    have hcz:=HG3.out.cell (kcell ((Below.refl _ _).alloc (Nat.le_refl _) _) hcR) hne4
    have hfz:=kfg HG3.out (p:=⟨gb,et,none⟩) hne4 (kcell ((Below.refl _ _).alloc (Nat.le_refl _) _) hcR) (kfb ((Below.refl _ _).alloc (Nat.le_refl _) _) hcR hfR)
    refine F_l1 19 ?_;intro K hK
    go_simp
    refine hK _ _ ?_
    clear hK K inv hS
    have hbA:Below wF.heap.size wF (wS.alloc (.cells #[.int .i64 eid,.bool true,.int .i64 (arcLetter true (eid,(ef:Int),(et:Int),el)),.int .i64 (ef:Int)] 156)):=hbR.alloc hsR _
    have hrG:=Rws.push (HRF.out.below hbA) HHB.out HX2.out HO3.out HG3.out rfl HA3.out
    have hbG:Below w.heap.size w (w4.setCell ⟨gb,et,none⟩ (.slice (some ⟨g3,0,none⟩) (row2.length+1) cp3)) :=
     ((HBF.out.trans (hbA.mono HBF.out.size)).grown HG3.out (Nat.le_trans HBF.out.size hbA.size) (fun b hb=>by have:=(HRX.out.lt b hb).1;omega)).setCell (by simp only;omega) _
    have hpush:=rowsTo_push (g:=g) HEI.out (by simp only;omega) (by simp only;omega) (by simp only;omega) (by simp only;omega)
    simp only [Int.toNat_natCast] at hpush
    rw [HROW2.out,hpush] at hrG
    have HRG:=Hd_ hrG
    have HBG:=Hd_ hbG
    clear hrG hbG hbA hpush hcz hfz hbR hcR hfR
    rw [<- HROW2.out] at HRG
    go_wp2_with fail
    go_roundw
    case rel=>exact ⟨i+1,_,by omega,by go_num,HRG.out,HBG.out⟩
    case measure=>simp [intOf];omega
  · obtain rfl:i=g.edges.length:=by omega
    have hs1:=hrow.sse cA_len (lo:=w.heap.size) (by omega) (by omega)
    have hln:hs.length=g.vals.length:=by rw [hrow.len,rowsTo_len]
    rw [rowsTo_all,hln] at hs1
    have HS1:=Hd_ hs1
    clear hrow hs1 hln
    go_wp2_with fail
    go_ret
    exact ⟨_,rfl,by rw [HR.out];exact HS1.out,hbel⟩
end Go.Proofs.Ytloeghbhoflabaa
namespace Go.Proofs.Ytloeghbhoflabaa
/-- a goal is n steps away from i -/
def toG (next:Nat->List Nat) (goal:Nat->Prop):Nat->Nat->Prop
 | 0,i=>goal i
 | n+1,i=>∃ k ∈ next i,toG next goal n k
def IsDist (next:Nat->List Nat) (goal:Nat->Prop) (i:Nat) (d:Int):Prop :=
 (d=-1/\∀ n,¬ toG next goal n i) ∨ (0<=d/\toG next goal d.toNat i/\∀ m:Nat,m < d.toNat->¬ toG next goal m i)
section
variable {prev next:Nat->List Nat} {goal:Nat->Prop} {N:Nat} {D:List Int} {q:List Nat}
structure BO (prev next:Nat->List Nat) (goal:Nat->Prop) (N:Nat) (D:List Int) (q:List Nat):Prop where
 len:D.length=N
 sound:∀ i,i < N->0<=D.getD i 0->toG next goal (D.getD i 0).toNat i
 src:∀ i,i < N->goal i->D.getD i 0=0
 done:∀ k,k < N->0<=D.getD k 0->k ∉ q->∀ i ∈ prev k,0<=D.getD i 0/\D.getD i 0<=D.getD k 0+1
 top:∀ h r,q=h :: r->∀ i,i < N->D.getD i 0<=D.getD h 0+1
 sorted:q.Pairwise (fun a b=>D.getD a 0<=D.getD b 0)
 qN:∀ x ∈ q,x < N/\0<=D.getD x 0
 low:∀ i,i < N->-1<=D.getD i 0
structure BI (prev next:Nat->List Nat) (goal:Nat->Prop) (N:Nat) (D:List Int) (q:List Nat) (h:Nat) (l:List Nat):Prop where
 len:D.length=N
 hN:h < N
 hD:0<=D.getD h 0
 sound:∀ i,i < N->0<=D.getD i 0->toG next goal (D.getD i 0).toNat i
 src:∀ i,i < N->goal i->D.getD i 0=0
 done:∀ k,k < N->0<=D.getD k 0->k ∉ q->k ≠ h->∀ i ∈ prev k,0<=D.getD i 0/\D.getD i 0<=D.getD k 0+1
 here:∀ i ∈ prev h,i ∈ l ∨ (0<=D.getD i 0/\D.getD i 0<=D.getD h 0+1)
 top:∀ i,i < N->D.getD i 0<=D.getD h 0+1
 qs:∀ x ∈ q,D.getD h 0<=D.getD x 0
 sorted:q.Pairwise (fun a b=>D.getD a 0<=D.getD b 0)
 qN:∀ x ∈ q,x < N/\0<=D.getD x 0
 low:∀ i,i < N->-1<=D.getD i 0
theorem BO.enter {h:Nat} (b:BO prev next goal N D (h :: q)):BI prev next goal N D q h (prev h) :=
 ⟨b.len,(b.qN h (by simp)).1,(b.qN h (by simp)).2,b.sound,b.src,fun k hk h0 hq hh=>b.done k hk h0 (by simp [hq,hh]),fun i hi=>.inl hi,b.top h q rfl,
  fun x hx=>(List.pairwise_cons.1 b.sorted).1 x hx,(List.pairwise_cons.1 b.sorted).2,fun x hx=>b.qN x (List.mem_cons_of_mem _ hx),b.low⟩
theorem BI.leave {h:Nat} (b:BI prev next goal N D q h []):BO prev next goal N D q:=by
 refine ⟨b.len,b.sound,b.src,fun k hk h0 hq=>?_,fun x r hx i hi=>?_,b.sorted,b.qN,b.low⟩
 · by_cases hkh:k=h
   · subst hkh
     intro i hi
     rcases b.here i hi with h | h
     · simp at h
     · exact h
   · exact b.done k hk h0 hq hkh
 · have h1:=b.top i hi
   have h2:=b.qs x (by rw [hx];simp)
   omega
theorem BI.old {h k:Nat} {l:List Nat} (b:BI prev next goal N D q h (k :: l)) (hk:k < N) (h0:¬ D.getD k 0 < 0):BI prev next goal N D q h l:=by
 refine ⟨b.len,b.hN,b.hD,b.sound,b.src,b.done,fun i hi=>?_,b.top,b.qs,b.sorted,b.qN,b.low⟩
 rcases b.here i hi with h1 | h1
 · rcases List.mem_cons.1 h1 with rfl | h1
   · exact .inr ⟨by omega,b.top _ hk⟩
   · exact .inl h1
 · exact .inr h1
theorem BI.new {h k:Nat} {l:List Nat} (hpn:∀ i k,i < N->k < N->i ∈ prev k->k ∈ next i) (hpN:∀ i k,k < N->i ∈ prev k->i < N) (b:BI prev next goal N D q h (k :: l)) (hkp:k ∈ prev h) (h0:D.getD k 0 < 0) :
 BI prev next goal N (D.set k (D.getD h 0+1)) (q ++ [k]) h l:=by
 have hk:k < N:=hpN k h b.hN hkp
 have hkl:k < D.length:=by rw [b.len];exact hk
 have hD:=b.hD
 have hkh:k ≠ h:=by intro e;subst e;omega
 have hh:(D.set k (D.getD h 0+1)).getD h 0=D.getD h 0:=by rw [getD_set' hkl,if_neg (Ne.symm hkh)]
 have hset:∀ x,x ≠ k->(D.set k (D.getD h 0+1)).getD x 0=D.getD x 0:=fun x hx=>by rw [getD_set' hkl,if_neg hx]
 have hsk:(D.set k (D.getD h 0+1)).getD k 0=D.getD h 0+1:=by rw [getD_set' hkl,if_pos rfl]
 have hkq:∀ x ∈ q,x ≠ k:=fun x hx e=>by subst e;have:=(b.qN x hx).2;omega
 refine ⟨by rw [List.length_set];exact b.len,b.hN,by rw [hh];exact hD,fun i hi h1=>?_,fun i hi hg=>?_,fun x hx h1 hxq hxh i hi=>?_,fun i hi=>?_,fun i hi=>?_,fun x hx=>?_,?_,fun x hx=>?_,fun i hi=>?_⟩
 · by_cases e:i=k
   · subst e
     rw [hsk]
     have h2:=b.sound h b.hN hD
     rw [show (D.getD h 0+1).toNat=(D.getD h 0).toNat+1 by omega]
     exact ⟨h,hpn i h hi b.hN hkp,h2⟩
   · rw [hset i e] at h1 ⊢
     exact b.sound i hi h1
 · have e:i ≠ k:=by
    intro e;subst e
    have:=b.src i hi hg
    omega
   rw [hset i e]
   exact b.src i hi hg
 · have e:x ≠ k:=by intro e;subst e;simp at hxq
   rw [hset x e] at h1 ⊢
   have h2:=b.done x hx h1 (fun h=>hxq (by simp [h])) hxh i hi
   have e2:i ≠ k:=by intro e2;subst e2;omega
   rw [hset i e2]
   exact h2
 · rw [hh]
   by_cases e:i=k
   · subst e
     refine .inr ?_
     rw [hsk]
     omega
   · rw [hset i e]
     rcases b.here i hi with h1 | h1
     · rcases List.mem_cons.1 h1 with h1 | h1
       · exact absurd h1 e
       · exact .inl h1
     · exact .inr h1
 · rw [hh]
   by_cases e:i=k
   · subst e;rw [hsk];omega
   · rw [hset i e];exact b.top i hi
 · rw [hh]
   rcases List.mem_append.1 hx with hx | hx
   · rw [hset x (hkq x hx)];exact b.qs x hx
   · have:x=k:=by simpa using hx
     subst this
     rw [hsk];omega
 · rw [List.pairwise_append]
   refine ⟨?_,by simp,fun x hx y hy=>?_⟩
   · refine List.Pairwise.imp_of_mem (fun {x y} hx hy hxy=>?_) b.sorted
     rw [hset x (hkq x hx),hset y (hkq y hy)]
     exact hxy
   · have:y=k:=by simpa using hy
     subst this
     rw [hset x (hkq x hx),hsk]
     exact b.top x (b.qN x hx).1
 · rcases List.mem_append.1 hx with hx | hx
   · rw [hset x (hkq x hx)];exact b.qN x hx
   · have:x=k:=by simpa using hx
     subst this
     rw [hsk]
     exact ⟨hk,by omega⟩
 · by_cases e:i=k
   · subst e;rw [hsk];omega
   · rw [hset i e];exact b.low i hi
theorem BI.all (hpn:∀ i k,i < N->k < N->i ∈ prev k->k ∈ next i) (hpN:∀ i k,k < N->i ∈ prev k->i < N) {h:Nat}:∀ (l:List Nat) (D:List Int) (q:List Nat) (d:Int),d=D.getD h 0+1->BI prev next goal N D q h l->(∀ k ∈ l,k ∈ prev h) ->
 BO prev next goal N (relax d l D q).1 (relax d l D q).2/\(relax d l D q).2.length+negs (relax d l D q).1=q.length+negs D
 | [],_,_,_,_,b,_=>⟨b.leave,rfl⟩
 | k :: l,D,q,d,hd,b,hl=>by
   have hk:k < N:=hpN k h b.hN (hl k (by simp))
   rw [relax]
   by_cases h0:D.getD k 0 < 0
   · rw [if_pos h0]
     have hkl:k < D.length:=by rw [b.len];exact hk
     have hkh:k ≠ h:=by intro e;subst e;have:=b.hD;omega
     have h1:=BI.new hpn hpN b (hl k (by simp)) h0
     rw [<- hd] at h1
     have:=BI.all hpn hpN l (D.set k d) (q ++ [k]) d (by rw [getD_set' hkl,if_neg (Ne.symm hkh)];exact hd) h1 (fun x hx=>hl x (List.mem_cons_of_mem _ hx))
     refine ⟨this.1,this.2.trans ?_⟩
     have h3:=negs_set hkl h0 (d:=d) (by have:=b.hD;omega)
     rw [List.length_append,List.length_singleton]
     omega
   · rw [if_neg h0]
     exact BI.all hpn hpN l D q d hd (b.old hk h0) (fun x hx=>hl x (List.mem_cons_of_mem _ hx))
/-- after the sweeps up to d: the distances up to d are known -/
def SwO (next:Nat->List Nat) (goal:Nat->Prop) (N:Nat) (D:List Int) (d:Nat):Prop :=
 D.length=N/\∀ i,i < N->(D.getD i 0=-1/\∀ m,m<=d->¬ toG next goal m i) ∨ (0<=D.getD i 0/\D.getD i 0<=d/\IsDist next goal i (D.getD i 0))
/-- within the sweep for d + 1: the vertices below j are done -/
def SwI (next:Nat->List Nat) (goal:Nat->Prop) (N:Nat) (D:List Int) (d j:Nat) (ch:Bool):Prop :=
 D.length=N/\(∀ i,i < N->(D.getD i 0=-1/\(∀ m,m<=d->¬ toG next goal m i)/\(i < j->¬ toG next goal (d+1) i)) ∨ (0<=D.getD i 0/\D.getD i 0<=(d:Int)+1/\IsDist next goal i (D.getD i 0))) /\
  (ch=false->∀ i,i < N->D.getD i 0<=d)
theorem SwO.enter {d:Nat} (h:SwO next goal N D d):SwI next goal N D d 0 false:=by
 refine ⟨h.1,fun i hi=>?_,fun _ i hi=>?_⟩
 · rcases h.2 i hi with h1 | h1
   · exact .inl ⟨h1.1,h1.2,fun h=>by omega⟩
   · exact .inr ⟨h1.1,by omega,h1.2.2⟩
 · rcases h.2 i hi with h1 | h1 <;> omega
theorem SwI.leave {d:Nat} {ch:Bool} (h:SwI next goal N D d N ch):SwO next goal N D (d+1):=by
 refine ⟨h.1,fun i hi=>?_⟩
 rcases h.2.1 i hi with h1 | h1
 · refine .inl ⟨h1.1,fun m hm=>?_⟩
   by_cases e:m=d+1
   · subst e;exact h1.2.2 hi
   · exact h1.2.1 m (by omega)
 · exact .inr ⟨h1.1,by omega,h1.2.2⟩
theorem SwI.put {d j k:Nat} {ch:Bool} (h:SwI next goal N D d j ch) (hj:j < N) (h0:D.getD j 0 < 0) (hk:k ∈ next j) (hkd:D.getD k 0=d) (hnN:∀ i k,i < N->k ∈ next i->k < N):SwI next goal N (D.set j ((d:Int)+1)) d (j+1) true:=by
 have hjl:j < D.length:=by rw [h.1];exact hj
 have hkN:=hnN j k hj hk
 refine ⟨by rw [List.length_set];exact h.1,fun i hi=>?_,fun h=>by cases h⟩
 by_cases e:i=j
 · subst e
   rw [getD_set' hjl,if_pos rfl]
   rcases h.2.1 i hi with h1 | h1
   · refine .inr ⟨by omega,by omega,.inr ⟨by omega,?_,fun m hm=>h1.2.1 m (by omega)⟩⟩
     rcases h.2.1 k hkN with h2 | h2
     · omega
     · rcases h2.2.2 with h3 | h3
       · omega
       · have h4:=h3.2.1
         rw [hkd] at h4
         rw [show ((d:Int)+1).toNat=d+1 by omega]
         exact ⟨k,hk,by simpa using h4⟩
   · omega
 · rw [getD_set' hjl,if_neg e]
   rcases h.2.1 i hi with h1 | h1
   · exact .inl ⟨h1.1,h1.2.1,fun hij=>h1.2.2 (by omega)⟩
   · exact .inr h1
end
end Go.Proofs.Ytloeghbhoflabaa
namespace Go.Proofs.Ytloeghbhoflabaa
open Go.ChangeShapes Go.WideShapes Go.ChangeAt Go.RowKit
attribute [local go_sem] ext_cell ext_frozen ext_lt ext_lt1 ext_lt2 ext_lt3 ltn2 ltn3 ltn13 lts1 lts2 lts3
theorem SlI.arc {lo hi:Nat} {w:World} {A:Option Addr} {n c:Nat} {xs:List Arc} (h:SlI lo hi w cA 4 (.slice A n c) xs) {i:Nat} {y:Arc} (hx:xs[i]?=some y) :
 ∃ b o,A=some ⟨b,o,none⟩/\lo<=b/\b < hi/\w.cell? ⟨b,o+i * 4,none⟩=some (.int .i64 y.1.1)/\w.cell? ⟨b,o+i * 4+1,none⟩=some (.bool y.1.2)/\w.cell? ⟨b,o+i * 4+2,none⟩=some (.int .i64 y.2.1)/\w.cell? ⟨b,o+i * 4+3,none⟩=some (.int .i64 y.2.2):=by
 obtain ⟨A',c',hv,_,_,h3⟩:=h
 injection hv with h1 _ _
 subst h1
 obtain ⟨b,o,e,g1,g2,hc⟩:=h3 i y hx
 exact ⟨b,o,e,g1,g2,by simpa using hc 0 _ rfl,hc 1 _ rfl,hc 2 _ rfl,hc 3 _ rfl⟩
def rowTo (g:Gr) (lt:Int) (x j:Nat):List Pr:=((arcsOf g (x:Int)).take j).flatMap (arcP lt x)
theorem rowTo_yes {g:Gr} {lt:Int} {x j:Nat} {y:Arc} (h:(arcsOf g (x:Int))[j]?=some y) (e:y.2.1=lt):rowTo g lt x (j+1)=rowTo g lt x j ++ [((x:Int),y.2.2)]:=by rw [rowTo,flat_take h,arcP,if_pos e];rfl
theorem rowTo_no {g:Gr} {lt:Int} {x j:Nat} {y:Arc} (h:(arcsOf g (x:Int))[j]?=some y) (e:¬ y.2.1=lt):rowTo g lt x (j+1)=rowTo g lt x j:=by rw [rowTo,flat_take h,arcP,if_neg e,List.append_nil];rfl
theorem rowTo_len {g:Gr} (hg:GrOk g) (lt:Int) (x j:Nat):(rowTo g lt x j).length<=24:=by
 have h1:=flat_le (arcP_len lt x) ((arcsOf g (x:Int)).take j)
 have h2:=arcs_len hg (x:Int)
 rw [List.length_take] at h1
 rw [rowTo]
 omega
theorem implLet_next (g:Gr) (lt:Int) (x:Nat):implLet g lt (x+1)=implLet g lt x ++ rowTo g lt x (arcsOf g (x:Int)).length ++ selfE g lt x:=by
 rw [implLet_succ,rowP,rowTo,List.take_length,List.append_assoc]
set_option maxHeartbeats 8000000 in
set_option maxRecDepth 100000 in
theorem implLetter (v:Value) (g:Gr) (lt:Int) (w:World) (hv:GrV 0 w.heap.size w v g) :
 Calls Try.prog 86 #[v,.int .i64 lt] w fun e w'=>∃ v',e=.returned v'/\Own w.heap.size w'.heap.size w' 82 cPr 2 v' (letterL g lt)/\Below w.heap.size w w':=by
 have hvo:=hv
 obtain ⟨A1,n1,c1,A2,n2,c2,rfl⟩:=hv.shape
 have hb0:Below w.heap.size w (w.alloc (.cells #[.slice A1 n1 c1,.slice A2 n2 c2] 36)):=(Below.refl _ _).alloc (Nat.le_refl _) _
 have hvg:=implValidGraph _ g _ (hvo.keep hb0)
 have HGV:=Hd_ hvo
 have HVG:=Hd_ hvg
 obtain ⟨R,hR⟩:∃ R,R=letterL g lt:=⟨_,rfl⟩
 rw [<- hR]
 clear hv hvo hvg
 cases hgk:grOk g with
 | false =>
   have HE:=Hd_ (show R=[] by rw [hR];simp [letterL,hgk])
   rw [hgk] at HVG
   clear hgk hR
   go_enter Try.func86,Try.ntmps86
   go_wp2_with fail
   refine HVG.out.mono ?_
   rintro e w1 ⟨rfl,hb1⟩
   have hb2:=below_trans hb0 hb1
   go_wp2_with fail
   go_ret
   exact ⟨_,rfl,by rw [HE.out];exact Own.nil _ _ _ _ _ _,hb2⟩
 | true =>
   have hgo:=grOk_iff.1 hgk
   rw [hgk] at HVG
   cases hlt:wi lt 0 8 with
   | false =>
     have HE:=Hd_ (show R=[] by rw [hR,letterL,hgk,letter_none hgo hlt];rfl)
     have HIL:=Hd_ (fun W=>isLetter_any lt W)
     rw [hlt] at HIL
     clear hgk hR hgo hlt
     go_enter Try.func86,Try.ntmps86
     go_wp2_with fail
     refine HVG.out.mono ?_
     rintro e w1 ⟨rfl,hb1⟩
     have hb2:=below_trans hb0 hb1
     go_wp2_with fail
     refine (HIL.out _).mono ?_
     rintro e w1 ⟨rfl,rfl⟩
     go_wp2_with fail
     go_ret
     exact ⟨_,rfl,by rw [HE.out];exact Own.nil _ _ _ _ _ _,hb2⟩
   | true =>
     have HR:=Hd_ (show R=psetL (implLet g lt g.vals.length) by rw [hR,letterL,hgk,letter_impl hgo];rfl)
     have HIL:=Hd_ (fun W=>isLetter_any lt W)
     rw [hlt] at HIL
     have HGO:=Hd_ hgo
     have hn5:=hgo.n5
     clear hgk hR hgo hlt
     go_enter Try.func86,Try.ntmps86
     go_wp2_with fail
     refine HVG.out.mono ?_
     rintro e w1 ⟨rfl,hb1⟩
     have hb2:=below_trans hb0 hb1
     have b1:=(Blk.new w 36 #[.slice A1 n1 c1,.slice A2 n2 c2] w.heap.size rfl).keep hb1
     have x0:w1.cell? ⟨w.heap.size,0,none⟩=some (.slice A1 n1 c1):=b1.cell 0
     have x1:w1.cell? ⟨w.heap.size,1,none⟩=some (.slice A2 n2 c2):=b1.cell 1
     have l1:=b1.lt
     clear b1 hb1 hb0 HVG
     go_wp2_with fail
     refine (HIL.out _).mono ?_
     rintro e w1 ⟨rfl,rfl⟩
     obtain ⟨gO,hgO⟩:∃ gO,gO=w1.heap.size:=⟨_,rfl⟩
     obtain ⟨W0,hW0⟩:∃ W0,W0=w1.alloc (.cells #[] 82):=⟨_,rfl⟩
     have hbn:Below w1.heap.size w1 W0:=by rw [hW0];exact (Below.refl _ _).alloc (Nat.le_refl _) _
     have hrow0:W0.ownsRow gO 82 2 (.slice (some ⟨gO,0,none⟩) 0 0) 0 []:=by
      rw [hW0,hgO]
      exact World.ownsRow_lit w1 #[] 0 (Nat.le_refl _) (by decide) rfl
     have hgs:gO < W0.heap.size:=by rw [hW0,hgO];simp
     have hbW:=below_trans hb2 hbn
     have x0:=kcell hbn x0
     have x1:=kcell hbn x1
     have lW:w.heap.size < W0.heap.size:=by omega
     have harc:=arcs_any _ g W0 (HGV.out.keep hbW) HGO.out
     have HARC:=Hd_ harc
     have HROW0:=Hd_ hrow0
     have HBW:=Hd_ hbW
     have hlg:w.heap.size < gO:=by omega
     clear hrow0 harc hb2 hbn hbW HIL
     go_wp2_with fail
     rw [<- hW0,<- hgO]
     clear hW0 hgO
     refine HARC.out.mono ?_
     rintro e w2 ⟨vA,rfl,hsA,hbA⟩
     have HB2:=Hd_ (below_trans HBW.out hbA)
     have HROW2:=Hd_ (ownsRow_below HROW0.out hbA (Nat.le_refl _))
     have hs2:=hbA.size
     have x0:=kcell hbA x0
     have x1:=kcell hbA x1
     obtain ⟨A5,c5,hv5,hl5,hm5⟩:=hsA.shape
     have hlen5:((List.range g.vals.length).map fun (x:Nat)=>arcsOf g (x:Int)).length=g.vals.length:=by simp
     rw [hlen5] at hv5 hl5
     subst hv5
     have HSA:=Hd_ hsA
     clear hsA hbA HARC HROW0 hlen5 HBW
     go_wp2_with fail
     go_loopw [5,22] (fun oo ii wr=>∃ i:Nat,i<=g.vals.length/\ii=.int .i64 (i:Int)/\wr.ownsRow gO 82 2 oo (implLet g lt i).length ((implLet g lt i).flatMap cPr)/\Only gO (gO+1) w2 wr/\(∀ b,oo.ownBlock=some b->b=gO ∨ w2.heap.size<=b)) (fun _ ii _=>g.vals.length - (intOf ii).toNat)
     case atStart=>exact ⟨0,Nat.zero_le _,rfl,HROW2.out,Only.refl _ _ _,fun b hb=>by cases hb;exact .inl rfl⟩
     case round =>
      clear HROW2
      obtain ⟨i,hi,rfl,hrow,hon,hob⟩:=hrel
      have HROW:=Hd_ hrow
      have HON:=Hd_ hon
      have HOB:=Hd_ hob
      have hsz:=hon.size
      have HIL:=Hd_ (implLet_len HGO.out lt i)
      have hil:=implLet_len HGO.out lt i
      clear hrow hon hob
      obtain ⟨wo,rfl⟩:∃ wo:World,wo=wr:=⟨_,rfl⟩
      by_cases hlt:i < g.vals.length
      · obtain ⟨b5,o5,A7,c7,rfl,hlo5,hb5,d5,hl7,hm7,hI7,-⟩:=HSA.out.row (Nat.le_refl _) (i:=i) (xs:=arcsOf g (i:Int)) (by simp [hlt])
        have d5:=ocellI HON.out d5 hb5 (.inr (by omega))
        have HI7:=Hd_ hI7
        have hb5w:b5 < wo.heap.size:=by omega
        have hii:(i:Int) < (g.vals.length:Int):=by omega
        have hal:=arcs_len HGO.out (i:Int)
        have hxi:g.vals[i]?=some g.vals[i]:=List.getElem?_eq_getElem hlt
        have hgd:g.vals.getD i 0=g.vals[i]:=by simp [List.getD,hlt]
        generalize g.vals[i]=av at hxi hgd
        have HXI:=Hd_ hxi
        have HNX:=Hd_ (show implLet g lt (i+1)=implLet g lt i ++ rowTo g lt i (arcsOf g (i:Int)).length ++ (if lt=6+av then [((i:Int),(i:Int))] else []) by rw [implLet_next,selfE,hgd])
        have HRL:=Hd_ (fun j=>rowTo_len HGO.out lt i j)
        have hrl0:rowTo g lt i 0=[]:=rfl
        have HR0:=Hd_ hrl0
        have hil2:(implLet g lt i).length<=125:=by omega
        clear hI7 hrl0 hil hxi hgd
        generalize implLet g lt i=C at *
        go_wp2_with fail
        go_loopw [5,29] (fun oo jj wr=>∃ j:Nat,j<=(arcsOf g (i:Int)).length/\jj=.int .i64 (j:Int)/\wr.ownsRow gO 82 2 oo (C ++ rowTo g lt i j).length ((C ++ rowTo g lt i j).flatMap cPr) /\
         Only gO (gO+1) w2 wr/\(∀ b,oo.ownBlock=some b->(b=gO ∨ w2.heap.size<=b))) (fun _ jj _=>(arcsOf g (i:Int)).length - (intOf jj).toNat)
        case atStart=>exact ⟨0,Nat.zero_le _,rfl,by rw [HR0.out,List.append_nil];exact HROW.out,HON.out,HOB.out⟩
        case round =>
         clear HROW HON HOB d5 hb5w hsz
         obtain ⟨j,hj,rfl,hrow2,hon2,hob2⟩:=hrel
         have HROW2:=Hd_ hrow2
         have HON2:=Hd_ hon2
         have HOB2:=Hd_ hob2
         have hsz2:=hon2.size
         have hrl:=HRL.out j
         have hll:(C ++ rowTo g lt i j).length<=1000:=by rw [List.length_append];omega
         clear hrow2 hon2 hob2
         by_cases hlj:j < (arcsOf g (i:Int)).length
         · have hyj:(arcsOf g (i:Int))[j]?=some (arcsOf g (i:Int))[j]:=List.getElem?_eq_getElem hlj
           have HRY:=Hd_ (fun e=>rowTo_yes (lt:=lt) hyj e)
           have HRN:=Hd_ (fun e=>rowTo_no (lt:=lt) hyj e)
           generalize (arcsOf g (i:Int))[j]=y at hyj HRY HRN
           obtain ⟨b7,o7,rfl,hlo7,hb7,z0,z1,z2,z3⟩:=HI7.out.arc hyj
           have z0:=ocellI HON2.out z0 hb7 (.inr (by omega))
           have z1:=ocellI HON2.out z1 hb7 (.inr (by omega))
           have z2:=ocellI HON2.out z2 hb7 (.inr (by omega))
           have z3:=ocellI HON2.out z3 hb7 (.inr (by omega))
           have hb7w:b7 < wr.heap.size:=by omega
           obtain ⟨⟨sid,sinv⟩,l,t⟩:=y
           simp only at z0 z1 z2 z3 HRY HRN
           have hjj:(j:Int) < ((arcsOf g (i:Int)).length:Int):=by omega
           clear hyj
           have HRA:=Hd_ (HROW2.out.alloc (.cells #[.int .i64 sid,.bool sinv,.int .i64 l,.int .i64 t] 156))
           have HRA2:=Hd_ (HRA.out.alloc (.cells #[.int .i64 (i:Int),.int .i64 t] 82))
           have HOA2:=Hd_ (HON2.out.alloc (.cells #[.int .i64 sid,.bool sinv,.int .i64 l,.int .i64 t] 156))
           by_cases hxy:l=lt
           · have HSN:=Hd_ (show C ++ rowTo g lt i (j+1)=(C ++ rowTo g lt i j) ++ [((i:Int),t)] by rw [HRY.out hxy,List.append_assoc])
             generalize C ++ rowTo g lt i j=L at *
             subst hxy
             go_wp2_with (at_builtin;(refine wpList_append1 cPr elPair rfl _ _ rfl gO _ L ((i:Int),t) _ 1 (wr.heap.size+1) (by rfl) HRA.out (by rfl) (by simp) rfl rfl (cPr_one _) (by omega) (by omega) (by simp;omega) ?_);intro v' w4 hrow' hb4 hat4 hgr4)
             go_roundw
             case rel =>
              refine ⟨j+1,by omega,by go_num,by rw [HSN.out];exact hrow',onlyGrown (HOA2.out.alloc _) hgr4 (fun b hb=>by have:=HOB2.out b hb;omega),fun b hb=>?_⟩
              rcases hat4 with h1 | ⟨g1,h1,h2⟩
              · exact HOB2.out b (by rw [<- h1];exact hb)
              · rw [h1] at hb
                injection hb with hb
                simp at h2
                exact .inr (by omega)
             case measure=>simp [intOf];omega
           · have hxf:(l==lt)=false:=by simpa using hxy
             have HSN:=Hd_ (show C ++ rowTo g lt i (j+1)=C ++ rowTo g lt i j by rw [HRN.out hxy])
             generalize C ++ rowTo g lt i j=L at *
             go_wp2_with fail
             go_roundw
             case rel=>exact ⟨j+1,by omega,by go_num,by rw [HSN.out];exact HRA.out,HOA2.out,HOB2.out⟩
             case measure=>simp [intOf];omega
         · obtain rfl:j=(arcsOf g (i:Int)).length:=by omega
           have x0:=ocellI HON2.out x0 (by omega) (.inl (by omega))
           have x1:=ocellI HON2.out x1 (by omega) (.inl (by omega))
           have hbw:=HB2.out.trans (HON2.out.below (B:=w.heap.size) (by omega) HB2.out.size)
           have hh:=implHolds _ g wr (HGV.out.keep hbw) HGO.out i av HXI.out lt
           have hlw:w.heap.size < wr.heap.size:=by omega
           clear hrl HRL HR0 HI7 hbw
           generalize C ++ rowTo g lt i (arcsOf g (i:Int)).length=L at *
           by_cases he:lt=6+av
           · rw [show decide (lt=6+av)=true by simp [he]] at hh
             rw [if_pos he] at HNX
             have HH:=Hd_ hh
             clear hh he
             go_wp2_with fail
             refine HH.out.mono ?_
             rintro e w4 ⟨rfl,hb4⟩
             have HR4:=Hd_ (ownsRow_below HROW2.out hb4 (Nat.le_refl _))
             have HO4:=Hd_ (HON2.out.trans (Only.of_below hb4 gO (gO+1)))
             have hs4:=hb4.size
             clear hb4
             go_wp2_with (at_builtin;(refine wpList_append1 cPr elPair rfl _ _ rfl gO _ L ((i:Int),(i:Int)) _ 1 w4.heap.size (by rfl) HR4.out (by rfl) rfl rfl rfl (cPr_one _) (by omega) (by omega) (by omega) ?_);intro v' w5 hrow' hb5 hat4 hgr4)
             go_roundw
             case rel =>
              refine ⟨i+1,by omega,by go_num,by rw [HNX.out];exact hrow',onlyGrown (HO4.out.alloc _) hgr4 (fun b hb=>by have:=HOB2.out b hb;omega),fun b hb=>?_⟩
              rcases hat4 with h1 | ⟨g1,h1,h2⟩
              · exact HOB2.out b (by rw [<- h1];exact hb)
              · rw [h1] at hb
                injection hb with hb
                exact .inr (by omega)
             case measure=>simp [intOf];omega
           · rw [show decide (lt=6+av)=false by simp [he]] at hh
             rw [if_neg he,List.append_nil] at HNX
             have HH:=Hd_ hh
             clear hh he
             go_wp2_with fail
             refine HH.out.mono ?_
             rintro e w4 ⟨rfl,hb4⟩
             have HR4:=Hd_ (ownsRow_below HROW2.out hb4 (Nat.le_refl _))
             have HO4:=Hd_ (HON2.out.trans (Only.of_below hb4 gO (gO+1)))
             clear hb4
             go_wp2_with fail
             go_roundw
             case rel=>exact ⟨i+1,by omega,by go_num,by rw [HNX.out];exact HR4.out,HO4.out,HOB2.out⟩
             case measure=>simp [intOf];omega
      · obtain rfl:i=g.vals.length:=by omega
        have hown:=Own.of_row (xs:=implLet g lt g.vals.length) HROW.out rfl rfl
        have HP:=Hd_ (pairSet_any _ (implLet g lt g.vals.length) wo ((hown.sl cPr_len).all (Nat.le_refl _)) (by omega))
        rw [<- HR.out] at HP
        have HBW:=Hd_ (HB2.out.trans (HON.out.below (B:=w.heap.size) (by omega) HB2.out.size))
        clear hown
        go_wp2_with fail
        refine HP.out.mono ?_
        rintro e w5 ⟨v5,rfl,ho5,hb5⟩
        have HO:=Hd_ (ho5.mono HBW.out.size (Nat.le_refl _))
        have HB:=Hd_ (below_trans HBW.out hb5)
        obtain ⟨A9,n9,c9,rfl⟩:=ho5.shape
        clear ho5 hb5
        go_wp2_with fail
        go_ret
        exact ⟨_,rfl,HO.out,HB.out⟩
def RelOut (l:List Pr) (w:World) (e:Ending) (w':World):Prop:=∃ v',e=.returned v'/\Own w.heap.size w'.heap.size w' 82 cPr 2 v' l/\Below w.heap.size w w'
theorem RelOut.up {l:List Pr} {w w1:World} (hb:Below w.heap.size w w1) {e:Ending} {w':World} (h:RelOut l w1 e w'):RelOut l w e w':=by
 obtain ⟨v',rfl,h1,h2⟩:=h
 exact ⟨v',rfl,h1.mono hb.size (Nat.le_refl _),below_trans hb h2⟩
theorem ar_one {t:Tok} (h:ar t=some 1):t.1=6 ∨ t.1=7:=by
 unfold ar at h
 split at h
 · split at h <;> cases h
 · split at h
   · split at h <;> cases h
   · split at h
     · split at h <;> cases h
     · split at h
       · rename_i hk;exact .inl hk
       · split at h
         · rename_i hk;exact .inr hk
         · cases h
theorem ar_two {t:Tok} (h:ar t=some 2):t.1=4 ∨ t.1=5:=by
 unfold ar at h
 split at h
 · split at h <;> cases h
 · split at h
   · split at h <;> cases h
   · split at h
     · rename_i hk;exact hk
     · split at h
       · split at h <;> cases h
       · split at h
         · split at h <;> cases h
         · cases h
theorem GrV.n1 {lo hi:Nat} {w:World} {A1 A2:Option Addr} {n1 c1 n2 c2:Nat} {g:Gr} (h:GrV lo hi w (.agg #[.slice A1 n1 c1,.slice A2 n2 c2]) g):n1=g.vals.length:=by
 obtain ⟨vs,es,hv,⟨A,c,rfl,-⟩,-⟩:=h
 simp only [Value.agg.injEq,Array.mk.injEq,List.cons.injEq,Value.slice.injEq,and_true] at hv
 exact hv.1.2.1
set_option maxRecDepth 100000 in
set_option maxHeartbeats 4000000 in
theorem rel_leaf {g:Gr} {t:Tok} (hok:ar t=some 0) (b:Nat) (vg:Value) (w:World) (ht:TreeAt w none b (.leaf t)) (hgv:GrV 0 w.heap.size w vg g) :
 Calls Try.prog 50 #[.pointer (some ⟨b,0,none⟩),vg] w (RelOut (evalT g (.leaf t)) w):=by
 obtain ⟨R,hR⟩:∃ R,R=evalT g (.leaf t):=⟨_,rfl⟩
 rw [<- hR]
 have HR:=Hd_ hR
 clear hR
 have hk:=ar_leaf hok
 obtain ⟨tk,tl,tlo,thi⟩:=t
 simp only at hk
 have HOK:=Hd_ hok
 clear hok
 obtain ⟨A1,n1,c1,A2,n2,c2,rfl⟩:=hgv.shape
 have hn1:=hgv.n1
 have hal:=(Below.refl w.heap.size w).alloc (Nat.le_refl _) (.cells #[.slice A1 n1 c1,.slice A2 n2 c2] 36)
 have hgb:=Blk.new w 36 #[.slice A1 n1 c1,.slice A2 n2 c2] _ rfl
 have HGV:=Hd_ (hgv.keep hal)
 have HAL:=Hd_ hal
 have HT:=Hd_ (ht.below hal)
 have HN1:=Hd_ hn1
 obtain ⟨gq,hgq⟩:∃ gq,gq=w.heap.size:=⟨_,rfl⟩
 obtain ⟨W,hW⟩:∃ W,W=w.alloc (.cells #[.slice A1 n1 c1,.slice A2 n2 c2] 36):=⟨_,rfl⟩
 rw [<- hW] at hgb HGV HAL HT
 rw [<- hgq] at hgb
 have hHW:=Hd_ hW
 have hHG:=Hd_ hgq
 clear hal hgv ht hn1 hW hgq
 have g0:W.cell? ⟨gq,0,none⟩=some (.slice A1 n1 c1):=by exact hgb.cell 0
 have g1:W.cell? ⟨gq,1,none⟩=some (.slice A2 n2 c2):=by exact hgb.cell 1
 clear hgb
 obtain ⟨-,ks,hbk⟩:=HT.out
 have e0:W.cell? ⟨b,0,none⟩=some (.int .i64 tk):=by exact hbk.cell 0
 have e1:W.cell? ⟨b,1,none⟩=some (.int .i64 tl):=by exact hbk.cell 1
 clear hbk
 rcases hk with rfl | rfl | rfl
 · have hl:=World.ownsRow_lit (base:=w.heap.size) (e:=82) (size:=2) W #[] 0 HAL.out.size (by decide) rfl
   have HO:=Hd_ (Own.of_row (E:=cPr) (xs:=[]) hl rfl rfl)
   have HB:=Hd_ (below_trans HAL.out ((Below.refl W.heap.size W).alloc (Nat.le_refl _) (.cells #[] 82)))
   have hr:R=[]:=by rw [HR.out];rfl
   clear HR hl
   subst hr
   go_enter Try.func50,Try.ntmps50
   go_upto_region 1 with fail
   rw [<- hHW.out]
   rw [<- hHG.out]
   go_wp2_with fail
   go_ret
   exact ⟨_,rfl,HO.out,HB.out⟩
 · have hr:R=identityOf (n1:Int):=by rw [HR.out,HN1.out];rfl
   have HRI:=Hd_ hr
   clear HR hr
   go_enter Try.func50,Try.ntmps50
   go_upto_region 1 with fail
   rw [<- hHW.out]
   rw [<- hHG.out]
   go_wp2_with fail
   refine (implIdentity (n1:Int) _).mono ?_
   rintro e w' ⟨v',rfl,hO,hB⟩
   have HO:=Hd_ (show Own w.heap.size w'.heap.size w' 82 cPr 2 v' R by rw [HRI.out];exact hO.mono HAL.out.size (Nat.le_refl _))
   have HB:=Hd_ (below_trans HAL.out hB)
   clear hO hB
   go_wp2_with fail
   go_ret
   exact ⟨_,rfl,HO.out,HB.out⟩
 · have hr:R=letterL g tl:=by rw [HR.out];rfl
   have HRI:=Hd_ hr
   clear HR hr
   go_enter Try.func50,Try.ntmps50
   go_upto_region 1 with fail
   rw [<- hHW.out]
   rw [<- hHG.out]
   go_wp2_with fail
   refine F_start 7 (fun w'=>w'.cell? ⟨gq,0,none⟩=some (.slice A1 n1 c1)/\w'.cell? ⟨gq,1,none⟩=some (.slice A2 n2 c2)/\w'.cell? ⟨b,1,none⟩=some (.int .i64 tl)) (by kernel_rfl) (by exact ⟨g0,g1,e1⟩) (fun hS inv=>?_)
   refine F_tk 0 inv ?_
   try simp only [tA,tB,tC,Act.put,tE,tF,tG]
   clear inv;intro inv
   refine F_tk 1 inv ?_
   try simp only [tA,tB,tC,Act.put,tE,tF,tG]
   clear inv;intro inv
   refine F_tk 2 inv ?_
   try simp only [tA,tB,tC,Act.put,tE,tF,tG]
   clear inv;intro inv
   refine F_tk 3 inv ?_
   try simp only [tA,tB,tC,Act.put,tE,tF,tG]
   clear inv;intro inv
   refine F_tk 4 inv ?_
   try simp only [tA,tB,tC,Act.put,tE,tF,tG]
   clear inv;intro inv
   refine F_tk 5 inv ?_
   try simp only [tA,tB,tC,Act.put,tE,tF,tG]
   clear inv;intro inv
   have hd:=(Below.refl W.heap.size W).drew
   have HGD:=Hd_ (HGV.out.keep hd)
   have HD:=Hd_ (below_trans HAL.out hd)
   clear hd g0 g1 e0 e1
   refine F_o1 6 inv ?_;intro K hK
   try simp only [tA,tB,tC]
   go_simp
   refine (implLetter _ g tl _ HGD.out).mono ?_
   rintro e w' ⟨v',rfl,hO,hB⟩
   have HO:=Hd_ (show Own w.heap.size w'.heap.size w' 82 cPr 2 v' R by rw [HRI.out];exact hO.mono HAL.out.size (Nat.le_refl _))
   have HBB:=Hd_ hB
   have HB:=Hd_ (below_trans HD.out hB)
   clear hO hB
   refine hK.out _ _ (⟨kcell HBB.out hS.1,kcell HBB.out hS.2.1,kcell HBB.out hS.2.2⟩) (fun _ _=>?_)
   try simp only [tA,tB,tC,Act.put,tE,tF,tG]
   clear hK K inv hS;rename_i hS inv
   refine F_l1 7 ?_;intro K hK
   go_simp
   refine hK _ _ ?_
   clear hK K
   go_wp2_with fail
   go_ret
   exact ⟨_,rfl,HO.out,HB.out⟩
/-- a call of the relation, further down the tree -/
def RelIH (g:Gr) (r:Tr):Prop:=∀ (b:Nat) (vg:Value) (w:World),TreeAt w none b r->GrV 0 w.heap.size w vg g->Calls Try.prog 50 #[.pointer (some ⟨b,0,none⟩),vg] w (RelOut (evalT g r) w)
set_option maxRecDepth 100000 in
set_option maxHeartbeats 8000000 in
theorem rel_un {g:Gr} (hg:GrOk g) {t:Tok} {a:Tr} (hok:ar t=some 1) (ih:RelIH g a) (b:Nat) (vg:Value) (w:World) (ht:TreeAt w none b (.un t a)) (hgv:GrV 0 w.heap.size w vg g) :
 Calls Try.prog 50 #[.pointer (some ⟨b,0,none⟩),vg] w (RelOut (evalT g (.un t a)) w):=by
 obtain ⟨R,hR⟩:∃ R,R=evalT g (.un t a):=⟨_,rfl⟩
 rw [<- hR]
 have HR:=Hd_ hR
 clear hR
 have hk:=ar_one hok
 obtain ⟨tk,tl,tlo,thi⟩:=t
 simp only at hk
 have HIH:=Hd_ ih
 have HLN:=Hd_ (eval_len hg a)
 clear hok ih hg
 obtain ⟨A1,n1,c1,A2,n2,c2,rfl⟩:=hgv.shape
 have hn1:=hgv.n1
 have hal:=(Below.refl w.heap.size w).alloc (Nat.le_refl _) (.cells #[.slice A1 n1 c1,.slice A2 n2 c2] 36)
 have hgb:=Blk.new w 36 #[.slice A1 n1 c1,.slice A2 n2 c2] _ rfl
 have HGV:=Hd_ (hgv.keep hal)
 have HAL:=Hd_ hal
 have HT:=Hd_ (ht.below hal)
 have HN1:=Hd_ hn1
 obtain ⟨gq,hgq⟩:∃ gq,gq=w.heap.size:=⟨_,rfl⟩
 obtain ⟨W,hW⟩:∃ W,W=w.alloc (.cells #[.slice A1 n1 c1,.slice A2 n2 c2] 36):=⟨_,rfl⟩
 rw [<- hW] at hgb HGV HAL HT
 rw [<- hgq] at hgb
 have hHW:=Hd_ hW
 have hHG:=Hd_ hgq
 clear hal hgv ht hn1 hW hgq
 have g0:W.cell? ⟨gq,0,none⟩=some (.slice A1 n1 c1):=by exact hgb.cell 0
 have g1:W.cell? ⟨gq,1,none⟩=some (.slice A2 n2 c2):=by exact hgb.cell 1
 clear hgb
 obtain ⟨-,q,o,c,p,hbk,-,hql,hcp,hta⟩:=HT.out
 have e0:W.cell? ⟨b,0,none⟩=some (.int .i64 tk):=by exact hbk.cell 0
 have e2:W.cell? ⟨b,2,none⟩=some (.int .i64 tlo):=by exact hbk.cell 2
 have e3:W.cell? ⟨b,3,none⟩=some (.int .i64 thi):=by exact hbk.cell 3
 have e4:W.cell? ⟨b,4,none⟩=some (.slice (some ⟨q,o,none⟩) 1 c):=by exact hbk.cell 4
 have p0:=hcp
 have HTA:=Hd_ hta
 clear hbk hcp hta HT hql
 rcases hk with rfl | rfl
 · have hr:R=closureL (n1:Int) (evalT g a):=by rw [HR.out,HN1.out];rfl
   have HRI:=Hd_ hr
   clear HR hr
   go_enter Try.func50,Try.ntmps50
   go_upto_region 1 with fail
   rw [<- hHW.out]
   rw [<- hHG.out]
   go_wp2_with fail
   refine F_start 10 (fun w'=>w'.cell? ⟨gq,0,none⟩=some (.slice A1 n1 c1)/\w'.cell? ⟨gq,1,none⟩=some (.slice A2 n2 c2)/\w'.cell? ⟨b,4,none⟩=some (.slice (some ⟨q,o,none⟩) 1 c)/\w'.cell? ⟨q,o,none⟩=some (.pointer (some ⟨p,0,none⟩))) (by kernel_rfl) (by exact ⟨g0,g1,e4,p0⟩) (fun hS inv=>?_)
   refine F_tk 0 inv ?_
   try simp only [tA,tB,tC,Act.put,tE,tF,tG]
   clear inv;intro inv
   refine F_tk 1 inv ?_
   try simp only [tA,tB,tC,Act.put,tE,tF,tG]
   clear inv;intro inv
   refine F_tk 2 inv ?_
   try simp only [tA,tB,tC,Act.put,tE,tF,tG]
   clear inv;intro inv
   refine F_tk 3 inv ?_
   try simp only [tA,tB,tC,Act.put,tE,tF,tG]
   clear inv;intro inv
   refine F_tk 4 inv ?_
   try simp only [tA,tB,tC,Act.put,tE,tF,tG]
   clear inv;intro inv
   refine F_tk 5 inv ?_
   try simp only [tA,tB,tC,Act.put,tE,tF,tG]
   clear inv;intro inv
   refine F_tk 6 inv ?_
   try simp only [tA,tB,tC,Act.put,tE,tF,tG]
   clear inv;intro inv
   refine F_tk 7 inv ?_
   try simp only [tA,tB,tC,Act.put,tE,tF,tG]
   clear inv;intro inv
   have hd:=(Below.refl W.heap.size W).drew
   have HGD:=Hd_ (HGV.out.keep hd)
   have HTD:=Hd_ (HTA.out.below hd)
   have HD:=Hd_ (below_trans HAL.out hd)
   clear hd g0 g1 e0 e2 e3 e4 p0 HTA HGV
   refine F_o1 8 inv ?_;intro K hK
   try simp only [tA,tB,tC]
   go_simp
   refine ((HIH).out _ _ _ HTD.out HGD.out).mono ?_
   rintro e w3 ⟨v3,rfl,hO,hB⟩
   have HV3:=Hd_ ((hO.sl cPr_len).mono (lo':=0) (Nat.zero_le _) (Nat.le_refl _))
   have HB3:=Hd_ hB
   clear hO hB
   refine hK.out _ _ (⟨kcell HB3.out hS.1,kcell HB3.out hS.2.1,kcell HB3.out hS.2.2.1,kcell HB3.out hS.2.2.2⟩) (fun _ _=>?_)
   try simp only [tA,tB,tC,Act.put,tE,tF,tG]
   clear hK K inv hS;rename_i hS inv
   refine F_o1 9 inv ?_;intro K hK
   try simp only [tA,tB,tC]
   go_simp
   refine (implClosure (n1:Int) _ _ _ HV3.out (Nat.le_trans HLN.out (by omega))).mono ?_
   rintro e w4 ⟨v4,rfl,hO,hB⟩
   have HO:=Hd_ (show Own w.heap.size w4.heap.size w4 82 cPr 2 v4 R by rw [HRI.out];exact hO.mono (below_trans HD.out HB3.out).size (Nat.le_refl _))
   have HBB:=Hd_ hB
   have HB:=Hd_ (below_trans (below_trans HD.out HB3.out) hB)
   clear hO hB
   refine hK.out _ _ (⟨kcell HBB.out hS.1,kcell HBB.out hS.2.1,kcell HBB.out hS.2.2.1,kcell HBB.out hS.2.2.2⟩) (fun _ _=>?_)
   try simp only [tA,tB,tC,Act.put,tE,tF,tG]
   clear hK K inv hS;rename_i hS inv
   refine F_l1 10 ?_;intro K hK
   go_simp
   refine hK _ _ ?_
   clear hK K
   go_wp2_with fail
   go_ret
   exact ⟨_,rfl,HO.out,HB.out⟩
 · have hr:R=powerL (n1:Int) (evalT g a) tlo thi:=by rw [HR.out,HN1.out];rfl
   have HRI:=Hd_ hr
   clear HR hr
   go_enter Try.func50,Try.ntmps50
   go_upto_region 1 with fail
   rw [<- hHW.out]
   rw [<- hHG.out]
   go_wp2_with fail
   refine F_start 20 (fun w'=>w'.cell? ⟨gq,0,none⟩=some (.slice A1 n1 c1)/\w'.cell? ⟨gq,1,none⟩=some (.slice A2 n2 c2)/\w'.cell? ⟨b,2,none⟩=some (.int .i64 tlo)/\w'.cell? ⟨b,3,none⟩=some (.int .i64 thi)/\w'.cell? ⟨b,4,none⟩=some (.slice (some ⟨q,o,none⟩) 1 c)/\w'.cell? ⟨q,o,none⟩=some (.pointer (some ⟨p,0,none⟩))) (by kernel_rfl) (by exact ⟨g0,g1,e2,e3,e4,p0⟩) (fun hS inv=>?_)
   refine F_tk 0 inv ?_
   try simp only [tA,tB,tC,Act.put,tE,tF,tG]
   clear inv;intro inv
   refine F_tk 1 inv ?_
   try simp only [tA,tB,tC,Act.put,tE,tF,tG]
   clear inv;intro inv
   refine F_tk 2 inv ?_
   try simp only [tA,tB,tC,Act.put,tE,tF,tG]
   clear inv;intro inv
   refine F_tk 3 inv ?_
   try simp only [tA,tB,tC,Act.put,tE,tF,tG]
   clear inv;intro inv
   refine F_tk 4 inv ?_
   try simp only [tA,tB,tC,Act.put,tE,tF,tG]
   clear inv;intro inv
   refine F_tk 5 inv ?_
   try simp only [tA,tB,tC,Act.put,tE,tF,tG]
   clear inv;intro inv
   refine F_tk 6 inv ?_
   try simp only [tA,tB,tC,Act.put,tE,tF,tG]
   clear inv;intro inv
   refine F_tk 7 inv ?_
   try simp only [tA,tB,tC,Act.put,tE,tF,tG]
   clear inv;intro inv
   refine F_tk 9 inv ?_
   try simp only [tA,tB,tC,Act.put,tE,tF,tG]
   clear inv;intro inv
   refine F_tk 10 inv ?_
   try simp only [tA,tB,tC,Act.put,tE,tF,tG]
   clear inv;intro inv
   refine F_tk 11 inv ?_
   try simp only [tA,tB,tC,Act.put,tE,tF,tG]
   clear inv;intro inv
   refine F_tk 12 inv ?_
   try simp only [tA,tB,tC,Act.put,tE,tF,tG]
   clear inv;intro inv
   refine F_tk 13 inv ?_
   try simp only [tA,tB,tC,Act.put,tE,tF,tG]
   clear inv;intro inv
   refine F_tk 14 inv ?_
   try simp only [tA,tB,tC,Act.put,tE,tF,tG]
   clear inv;intro inv
   refine F_tk 15 inv ?_
   try simp only [tA,tB,tC,Act.put,tE,tF,tG]
   clear inv;intro inv
   refine F_tk 16 inv ?_
   try simp only [tA,tB,tC,Act.put,tE,tF,tG]
   clear inv;intro inv
   refine F_tk 17 inv ?_
   try simp only [tA,tB,tC,Act.put,tE,tF,tG]
   clear inv;intro inv
   refine F_tk 18 inv ?_
   try simp only [tA,tB,tC,Act.put,tE,tF,tG]
   clear inv;intro inv
   have hd:=(Below.refl W.heap.size W).drew
   have HGD:=Hd_ (HGV.out.keep hd)
   have HTD:=Hd_ (HTA.out.below hd)
   have HD:=Hd_ (below_trans HAL.out hd)
   clear hd g0 g1 e0 e2 e3 e4 p0 HTA HGV
   refine F_o1 8 inv ?_;intro K hK
   try simp only [tA,tB,tC]
   go_simp
   refine ((HIH).out _ _ _ HTD.out HGD.out).mono ?_
   rintro e w3 ⟨v3,rfl,hO,hB⟩
   have HV3:=Hd_ ((hO.sl cPr_len).mono (lo':=0) (Nat.zero_le _) (Nat.le_refl _))
   have HB3:=Hd_ hB
   clear hO hB
   refine hK.out _ _ (⟨kcell HB3.out hS.1,kcell HB3.out hS.2.1,kcell HB3.out hS.2.2.1,kcell HB3.out hS.2.2.2.1,kcell HB3.out hS.2.2.2.2.1,kcell HB3.out hS.2.2.2.2.2⟩) (fun _ _=>?_)
   try simp only [tA,tB,tC,Act.put,tE,tF,tG]
   clear hK K inv hS;rename_i hS inv
   refine F_o1 19 inv ?_;intro K hK
   try simp only [tA,tB,tC]
   go_simp
   refine (implPower (n1:Int) _ _ tlo thi _ HV3.out (Nat.le_trans HLN.out (by omega))).mono ?_
   rintro e w4 ⟨v4,rfl,hO,hB⟩
   have HO:=Hd_ (show Own w.heap.size w4.heap.size w4 82 cPr 2 v4 R by rw [HRI.out];exact hO.mono (below_trans HD.out HB3.out).size (Nat.le_refl _))
   have HBB:=Hd_ hB
   have HB:=Hd_ (below_trans (below_trans HD.out HB3.out) hB)
   clear hO hB
   refine hK.out _ _ (⟨kcell HBB.out hS.1,kcell HBB.out hS.2.1,kcell HBB.out hS.2.2.1,kcell HBB.out hS.2.2.2.1,kcell HBB.out hS.2.2.2.2.1,kcell HBB.out hS.2.2.2.2.2⟩) (fun _ _=>?_)
   try simp only [tA,tB,tC,Act.put,tE,tF,tG]
   clear hK K inv hS;rename_i hS inv
   refine F_l1 20 ?_;intro K hK
   go_simp
   refine hK _ _ ?_
   clear hK K
   go_wp2_with fail
   go_ret
   exact ⟨_,rfl,HO.out,HB.out⟩
set_option maxRecDepth 100000 in
set_option maxHeartbeats 8000000 in
theorem rel_bin {g:Gr} (hg:GrOk g) {t:Tok} {a d:Tr} (hok:ar t=some 2) (iha:RelIH g a) (ihd:RelIH g d) (b:Nat) (vg:Value) (w:World) (ht:TreeAt w none b (.bin t a d)) (hgv:GrV 0 w.heap.size w vg g) :
 Calls Try.prog 50 #[.pointer (some ⟨b,0,none⟩),vg] w (RelOut (evalT g (.bin t a d)) w):=by
 obtain ⟨R,hR⟩:∃ R,R=evalT g (.bin t a d):=⟨_,rfl⟩
 rw [<- hR]
 have HR:=Hd_ hR
 clear hR
 have hk:=ar_two hok
 obtain ⟨tk,tl,tlo,thi⟩:=t
 simp only at hk
 have HIA:=Hd_ iha
 have HID:=Hd_ ihd
 have HLA:=Hd_ (eval_len hg a)
 have HLD:=Hd_ (eval_len hg d)
 clear hok iha ihd hg
 obtain ⟨A1,n1,c1,A2,n2,c2,rfl⟩:=hgv.shape
 have hn1:=hgv.n1
 have hal:=(Below.refl w.heap.size w).alloc (Nat.le_refl _) (.cells #[.slice A1 n1 c1,.slice A2 n2 c2] 36)
 have hgb:=Blk.new w 36 #[.slice A1 n1 c1,.slice A2 n2 c2] _ rfl
 have HGV:=Hd_ (hgv.keep hal)
 have HAL:=Hd_ hal
 have HT:=Hd_ (ht.below hal)
 have HN1:=Hd_ hn1
 obtain ⟨gq,hgq⟩:∃ gq,gq=w.heap.size:=⟨_,rfl⟩
 obtain ⟨W,hW⟩:∃ W,W=w.alloc (.cells #[.slice A1 n1 c1,.slice A2 n2 c2] 36):=⟨_,rfl⟩
 rw [<- hW] at hgb HGV HAL HT
 rw [<- hgq] at hgb
 have hHW:=Hd_ hW
 have hHG:=Hd_ hgq
 clear hal hgv ht hn1 hW hgq
 have g0:W.cell? ⟨gq,0,none⟩=some (.slice A1 n1 c1):=by exact hgb.cell 0
 have g1:W.cell? ⟨gq,1,none⟩=some (.slice A2 n2 c2):=by exact hgb.cell 1
 clear hgb
 obtain ⟨-,q,o,c,p,p',hbk,-,hql,hcp,hcq,hta,htb⟩:=HT.out
 have e0:W.cell? ⟨b,0,none⟩=some (.int .i64 tk):=by exact hbk.cell 0
 have e4:W.cell? ⟨b,4,none⟩=some (.slice (some ⟨q,o,none⟩) 2 c):=by exact hbk.cell 4
 have p0:=hcp
 have p1:=hcq
 have HTA:=Hd_ hta
 have HTB:=Hd_ htb
 clear hbk hcp hcq hta htb HT hql
 rcases hk with rfl | rfl
 · have hr:R=composeL (evalT g a) (evalT g d):=by rw [HR.out];rfl
   have HRI:=Hd_ hr
   clear HR hr
   go_enter Try.func50,Try.ntmps50
   go_upto_region 1 with fail
   rw [<- hHW.out]
   rw [<- hHG.out]
   go_wp2_with fail
   refine F_start 17 (fun w'=>w'.cell? ⟨gq,0,none⟩=some (.slice A1 n1 c1)/\w'.cell? ⟨gq,1,none⟩=some (.slice A2 n2 c2)/\w'.cell? ⟨b,4,none⟩=some (.slice (some ⟨q,o,none⟩) 2 c)/\w'.cell? ⟨q,o,none⟩=some (.pointer (some ⟨p,0,none⟩))/\w'.cell? ⟨q,o+1,none⟩=some (.pointer (some ⟨p',0,none⟩))) (by kernel_rfl) (by exact ⟨g0,g1,e4,p0,p1⟩) (fun hS inv=>?_)
   refine F_tk 0 inv ?_
   try simp only [tA,tB,tC,Act.put,tE,tF,tG]
   clear inv;intro inv
   refine F_tk 1 inv ?_
   try simp only [tA,tB,tC,Act.put,tE,tF,tG]
   clear inv;intro inv
   refine F_tk 2 inv ?_
   try simp only [tA,tB,tC,Act.put,tE,tF,tG]
   clear inv;intro inv
   refine F_tk 3 inv ?_
   try simp only [tA,tB,tC,Act.put,tE,tF,tG]
   clear inv;intro inv
   refine F_tk 4 inv ?_
   try simp only [tA,tB,tC,Act.put,tE,tF,tG]
   clear inv;intro inv
   refine F_tk 5 inv ?_
   try simp only [tA,tB,tC,Act.put,tE,tF,tG]
   clear inv;intro inv
   refine F_tk 6 inv ?_
   try simp only [tA,tB,tC,Act.put,tE,tF,tG]
   clear inv;intro inv
   refine F_tk 8 inv ?_
   try simp only [tA,tB,tC,Act.put,tE,tF,tG]
   clear inv;intro inv
   refine F_tk 9 inv ?_
   try simp only [tA,tB,tC,Act.put,tE,tF,tG]
   clear inv;intro inv
   refine F_tk 10 inv ?_
   try simp only [tA,tB,tC,Act.put,tE,tF,tG]
   clear inv;intro inv
   refine F_tk 11 inv ?_
   try simp only [tA,tB,tC,Act.put,tE,tF,tG]
   clear inv;intro inv
   refine F_tk 12 inv ?_
   try simp only [tA,tB,tC,Act.put,tE,tF,tG]
   clear inv;intro inv
   refine F_tk 13 inv ?_
   try simp only [tA,tB,tC,Act.put,tE,tF,tG]
   clear inv;intro inv
   refine F_tk 14 inv ?_
   try simp only [tA,tB,tC,Act.put,tE,tF,tG]
   clear inv;intro inv
   have hd:=(Below.refl W.heap.size W).drew
   have HGD:=Hd_ (HGV.out.keep hd)
   have HTD:=Hd_ (HTA.out.below hd)
   have HTE:=Hd_ (HTB.out.below hd)
   have HD:=Hd_ (below_trans HAL.out hd)
   clear hd g0 g1 e0 e4 p0 p1 HTA HTB HGV
   refine F_o1 7 inv ?_;intro K hK
   try simp only [tA,tB,tC]
   go_simp
   refine ((HIA).out _ _ _ HTD.out HGD.out).mono ?_
   rintro e w3 ⟨v3,rfl,hO,hB⟩
   have HV3:=Hd_ ((hO.sl cPr_len).mono (lo':=0) (Nat.zero_le _) (Nat.le_refl _))
   have HB3:=Hd_ hB
   clear hO hB
   refine hK.out _ _ (⟨kcell HB3.out hS.1,kcell HB3.out hS.2.1,kcell HB3.out hS.2.2.1,kcell HB3.out hS.2.2.2.1,kcell HB3.out hS.2.2.2.2⟩) (fun _ _=>?_)
   try simp only [tA,tB,tC,Act.put,tE,tF,tG]
   clear hK K inv hS;rename_i hS inv
   have HGD:=Hd_ (HGD.out.keep HB3.out)
   have HTE:=Hd_ (HTE.out.below HB3.out)
   refine F_o1 15 inv ?_;intro K hK
   try simp only [tA,tB,tC]
   go_simp
   refine ((HID).out _ _ _ HTE.out HGD.out).mono ?_
   rintro e w4 ⟨v4,rfl,hO,hB⟩
   have HV4:=Hd_ ((hO.sl cPr_len).mono (lo':=0) (Nat.zero_le _) (Nat.le_refl _))
   have HB4:=Hd_ hB
   clear hO hB
   refine hK.out _ _ (⟨kcell HB4.out hS.1,kcell HB4.out hS.2.1,kcell HB4.out hS.2.2.1,kcell HB4.out hS.2.2.2.1,kcell HB4.out hS.2.2.2.2⟩) (fun _ _=>?_)
   try simp only [tA,tB,tC,Act.put,tE,tF,tG]
   clear hK K inv hS;rename_i hS inv
   have HV3:=Hd_ (SlE.keep HV3.out HB4.out)
   refine F_o1 16 inv ?_;intro K hK
   try simp only [tA,tB,tC]
   go_simp
   refine (implCompose _ _ _ _ _ HV3.out HV4.out (Nat.le_trans HLA.out (by omega)) (Nat.le_trans HLD.out (by omega))).mono ?_
   rintro e w5 ⟨v5,rfl,hO,hB⟩
   have HO:=Hd_ (show Own w.heap.size w5.heap.size w5 82 cPr 2 v5 R by rw [HRI.out];exact hO.mono (below_trans (below_trans HD.out HB3.out) HB4.out).size (Nat.le_refl _))
   have HBB:=Hd_ hB
   have HB:=Hd_ (below_trans (below_trans (below_trans HD.out HB3.out) HB4.out) hB)
   clear hO hB
   refine hK.out _ _ (⟨kcell HBB.out hS.1,kcell HBB.out hS.2.1,kcell HBB.out hS.2.2.1,kcell HBB.out hS.2.2.2.1,kcell HBB.out hS.2.2.2.2⟩) (fun _ _=>?_)
   try simp only [tA,tB,tC,Act.put,tE,tF,tG]
   clear hK K inv hS;rename_i hS inv
   refine F_l1 17 ?_;intro K hK
   go_simp
   refine hK _ _ ?_
   clear hK K
   go_wp2_with fail
   go_ret
   exact ⟨_,rfl,HO.out,HB.out⟩
 · have hr:R=mergeL (evalT g a) (evalT g d):=by rw [HR.out];rfl
   have HRI:=Hd_ hr
   clear HR hr
   go_enter Try.func50,Try.ntmps50
   go_upto_region 1 with fail
   rw [<- hHW.out]
   rw [<- hHG.out]
   go_wp2_with fail
   refine F_start 17 (fun w'=>w'.cell? ⟨gq,0,none⟩=some (.slice A1 n1 c1)/\w'.cell? ⟨gq,1,none⟩=some (.slice A2 n2 c2)/\w'.cell? ⟨b,4,none⟩=some (.slice (some ⟨q,o,none⟩) 2 c)/\w'.cell? ⟨q,o,none⟩=some (.pointer (some ⟨p,0,none⟩))/\w'.cell? ⟨q,o+1,none⟩=some (.pointer (some ⟨p',0,none⟩))) (by kernel_rfl) (by exact ⟨g0,g1,e4,p0,p1⟩) (fun hS inv=>?_)
   refine F_tk 0 inv ?_
   try simp only [tA,tB,tC,Act.put,tE,tF,tG]
   clear inv;intro inv
   refine F_tk 1 inv ?_
   try simp only [tA,tB,tC,Act.put,tE,tF,tG]
   clear inv;intro inv
   refine F_tk 2 inv ?_
   try simp only [tA,tB,tC,Act.put,tE,tF,tG]
   clear inv;intro inv
   refine F_tk 3 inv ?_
   try simp only [tA,tB,tC,Act.put,tE,tF,tG]
   clear inv;intro inv
   refine F_tk 4 inv ?_
   try simp only [tA,tB,tC,Act.put,tE,tF,tG]
   clear inv;intro inv
   refine F_tk 5 inv ?_
   try simp only [tA,tB,tC,Act.put,tE,tF,tG]
   clear inv;intro inv
   refine F_tk 6 inv ?_
   try simp only [tA,tB,tC,Act.put,tE,tF,tG]
   clear inv;intro inv
   refine F_tk 8 inv ?_
   try simp only [tA,tB,tC,Act.put,tE,tF,tG]
   clear inv;intro inv
   refine F_tk 9 inv ?_
   try simp only [tA,tB,tC,Act.put,tE,tF,tG]
   clear inv;intro inv
   refine F_tk 10 inv ?_
   try simp only [tA,tB,tC,Act.put,tE,tF,tG]
   clear inv;intro inv
   refine F_tk 11 inv ?_
   try simp only [tA,tB,tC,Act.put,tE,tF,tG]
   clear inv;intro inv
   refine F_tk 12 inv ?_
   try simp only [tA,tB,tC,Act.put,tE,tF,tG]
   clear inv;intro inv
   refine F_tk 13 inv ?_
   try simp only [tA,tB,tC,Act.put,tE,tF,tG]
   clear inv;intro inv
   refine F_tk 14 inv ?_
   try simp only [tA,tB,tC,Act.put,tE,tF,tG]
   clear inv;intro inv
   have hd:=(Below.refl W.heap.size W).drew
   have HGD:=Hd_ (HGV.out.keep hd)
   have HTD:=Hd_ (HTA.out.below hd)
   have HTE:=Hd_ (HTB.out.below hd)
   have HD:=Hd_ (below_trans HAL.out hd)
   clear hd g0 g1 e0 e4 p0 p1 HTA HTB HGV
   refine F_o1 7 inv ?_;intro K hK
   try simp only [tA,tB,tC]
   go_simp
   refine ((HIA).out _ _ _ HTD.out HGD.out).mono ?_
   rintro e w3 ⟨v3,rfl,hO,hB⟩
   have HV3:=Hd_ ((hO.sl cPr_len).mono (lo':=0) (Nat.zero_le _) (Nat.le_refl _))
   have HB3:=Hd_ hB
   clear hO hB
   refine hK.out _ _ (⟨kcell HB3.out hS.1,kcell HB3.out hS.2.1,kcell HB3.out hS.2.2.1,kcell HB3.out hS.2.2.2.1,kcell HB3.out hS.2.2.2.2⟩) (fun _ _=>?_)
   try simp only [tA,tB,tC,Act.put,tE,tF,tG]
   clear hK K inv hS;rename_i hS inv
   have HGD:=Hd_ (HGD.out.keep HB3.out)
   have HTE:=Hd_ (HTE.out.below HB3.out)
   refine F_o1 15 inv ?_;intro K hK
   try simp only [tA,tB,tC]
   go_simp
   refine ((HID).out _ _ _ HTE.out HGD.out).mono ?_
   rintro e w4 ⟨v4,rfl,hO,hB⟩
   have HV4:=Hd_ ((hO.sl cPr_len).mono (lo':=0) (Nat.zero_le _) (Nat.le_refl _))
   have HB4:=Hd_ hB
   clear hO hB
   refine hK.out _ _ (⟨kcell HB4.out hS.1,kcell HB4.out hS.2.1,kcell HB4.out hS.2.2.1,kcell HB4.out hS.2.2.2.1,kcell HB4.out hS.2.2.2.2⟩) (fun _ _=>?_)
   try simp only [tA,tB,tC,Act.put,tE,tF,tG]
   clear hK K inv hS;rename_i hS inv
   have HV3:=Hd_ (SlE.keep HV3.out HB4.out)
   refine F_o1 16 inv ?_;intro K hK
   try simp only [tA,tB,tC]
   go_simp
   refine (implMerge _ _ _ _ _ HV3.out HV4.out (Nat.le_trans HLA.out (by omega)) (Nat.le_trans HLD.out (by omega))).mono ?_
   rintro e w5 ⟨v5,rfl,hO,hB⟩
   have HO:=Hd_ (show Own w.heap.size w5.heap.size w5 82 cPr 2 v5 R by rw [HRI.out];exact hO.mono (below_trans (below_trans HD.out HB3.out) HB4.out).size (Nat.le_refl _))
   have HBB:=Hd_ hB
   have HB:=Hd_ (below_trans (below_trans (below_trans HD.out HB3.out) HB4.out) hB)
   clear hO hB
   refine hK.out _ _ (⟨kcell HBB.out hS.1,kcell HBB.out hS.2.1,kcell HBB.out hS.2.2.1,kcell HBB.out hS.2.2.2.1,kcell HBB.out hS.2.2.2.2⟩) (fun _ _=>?_)
   try simp only [tA,tB,tC,Act.put,tE,tF,tG]
   clear hK K inv hS;rename_i hS inv
   refine F_l1 17 ?_;intro K hK
   go_simp
   refine hK _ _ ?_
   clear hK K
   go_wp2_with fail
   go_ret
   exact ⟨_,rfl,HO.out,HB.out⟩
theorem relation_any {g:Gr} (hg:GrOk g):∀ {r:Tr},r.ok->RelIH g r
 | .leaf _,h=>fun b vg w ht hgv=>rel_leaf h b vg w ht hgv
 | .un _ _,h=>fun b vg w ht hgv=>rel_un hg h.1 (relation_any hg h.2) b vg w ht hgv
 | .bin _ _ _,h=>fun b vg w ht hgv=>rel_bin hg h.1 (relation_any hg h.2.1) (relation_any hg h.2.2) b vg w ht hgv
end Go.Proofs.Ytloeghbhoflabaa
