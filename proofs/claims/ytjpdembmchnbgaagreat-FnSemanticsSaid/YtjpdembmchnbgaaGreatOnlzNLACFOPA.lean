/- Parts of the proof, joined into one text: ProdI, NextI, TurnI, Shelf, RepeatI. -/
import Derived.Test.YtjpdembmchnbgaaGreatOnlzBJPCHMFC
import Derived.Test.YtjpdembmchnbgaaGreatOnlzGDHJDCMK
import Derived.Test.YtjpdembmchnbgaaGreatOnlzCIIIGEOP
import Derived.Shelf.Small.Bits
import Derived.Shelf.Small.Wraps
import Derived.Shelf.Strconv.Itoa0
import Derived.Shelf.Sort.Plain
import Derived.Shelf.Bits.Mul64
import Derived.Shelf.Slices.Turned
import Derived.Ground.Names2Prog
import Derived.Shelf.Slices.CompactI
import Derived.Shelf.Slices.SearchI
import Derived.Shelf.Slices.Cells
import Derived.Shelf.Slices.In.SortNone
import Derived.Test.YtjpdembmchnbgaaGreatProg
import Derived.Laws.CopyOwn
import Derived.Deep.RegionLaw
set_option linter.unusedVariables false
set_option linter.unusedSimpArgs false
namespace Go.Proofs.YtjpdembmchnbgaaGreat
open Go.ChangeShapes Go.WideShapes Go.ChangeAt Go.RowKit
attribute [local go_sem] ext_cell ext_frozen ext_lt ext_lt1 ext_lt2 ext_lt3 ltn2 ltn3 ltn13 lts1 lts2 lts3
/-- an arc as four cells -/
def cA (y:Arc):List Value:=[.int .i64 y.1.1,.bool y.1.2,.int .i64 y.2.1,.int .i64 y.2.2]
theorem cA_len (y:Arc):(cA y).length=4:=rfl
theorem cA_one (y:Arc):∀ u ∈ cA y,u.oneCell'=true:=by intro u hu;simp only [cA,List.mem_cons,List.not_mem_nil,or_false] at hu;rcases hu with rfl | rfl | rfl | rfl <;> rfl
theorem reads_any (e:Ed) (b:Bool) (w:World) (h0:0<=e.2.2.2) (h2:e.2.2.2<=2) :
 Calls Tryz.prog 116 #[.agg #[.int .i64 e.1,.int .i64 e.2.1,.int .i64 e.2.2.1,.int .i64 e.2.2.2],.bool b] w fun en w'=>en=.returned (.int .i64 (arcLetter b e))/\Below w.heap.size w w':=by
 obtain ⟨a,f,t,l⟩:=e
 simp only at h0 h2 ⊢
 cases b
 all_goals
  go_enter Tryz.func116,Tryz.ntmps116
  go_wp2_with fail
  go_ret
  exact ⟨rfl,(Below.refl _ _).alloc (Nat.le_refl _) _⟩
theorem elArc:ElemOk Tryz.prog 82 88 (.agg #[.int .i64 0,.bool false,.int .i64 0,.int .i64 0]) 4 32:=⟨Tryz.underlying82,by kernel_rfl,rfl,by omega⟩
theorem elArcs:ElemOk Tryz.prog 83 82 (.slice none 0 0) 1 24:=⟨Tryz.underlying83,by kernel_rfl,rfl,by omega⟩
set_option maxHeartbeats 4000000 in
set_option maxRecDepth 100000 in
theorem arcs_any (v:Value) (g:Gr) (w:World) (hv:GrV 0 w.heap.size w v g) (hg:GrOk g) :
 Calls Tryz.prog 67 #[v] w fun e w'=>∃ v',e=.returned v'/\SSE w.heap.size w'.heap.size w' cA 4 v' ((List.range g.vals.length).map fun (x:Nat)=>arcsOf g (x:Int))/\Below w.heap.size w w':=by
 obtain ⟨A1,c1,A2,c2,rfl,hl1,hm1,hl2,hm2,hC1,hC2⟩:=hv.form
 have hn5:=hg.n5
 have he12:=hg.e12
 have HG:=Hd_ hg
 have HC2:=Hd_ hC2
 clear hC1 hC2 hv hg
 obtain ⟨R,hR⟩:∃ R,R=(List.range g.vals.length).map fun (x:Nat)=>arcsOf g (x:Int):=⟨_,rfl⟩
 rw [<- hR]
 have HR:=Hd_ hR
 clear hR
 go_enter Tryz.func67,Tryz.ntmps67
 go_wp2_with (at_make;refine wpList_makeE (P:=Tryz.prog) cV (.slice none 0 0) elArcs rfl rfl rfl _ _ rfl (w.heap.size+1) g.vals.length _ (by rfl) (by rfl) rfl (by omega) (by unfold maxLen;omega) (by simp) ?_;intro w1 hrow1 hbel1
              have b0:=(Blk.new w _ _ w.heap.size rfl).below hbel1 (by simp)
              have hb1:Below w.heap.size w w1:=((Below.refl _ _).alloc (Nat.le_refl _) _).trans (hbel1.mono (by simp))
              simp only [World.size_alloc] at hrow1 ⊢
              have hr1:=Rws.made (base:=w.heap.size+1) (α:=Arc) (E:=cA) (k:=4) (rT:=88) hrow1
              have HR1:=Hd_ hr1
              have x0:w1.cell? ⟨w.heap.size,0,none⟩=some (.slice A1 g.vals.length c1):=b0.cell 0
              have x1:w1.cell? ⟨w.heap.size,1,none⟩=some (.slice A2 g.edges.length c2):=b0.cell 1
              clear hbel1 hrow1 b0 hr1)
 generalize hgb:w.heap.size+1=gb at *
 have hgw:w.heap.size < gb:=by omega
 clear hgb
 go_loopw [13] (fun ii wr=>∃ (i:Nat) (hs:List Value),i<=g.edges.length/\ii=.int .i64 (i:Int)/\Rws wr gb 82 88 cA 4 gb hs (rowsTo g i)/\Below w.heap.size w wr) (fun ii _=>g.edges.length - (intOf ii).toNat)
 case atStart=>exact ⟨0,_,Nat.zero_le _,rfl,by rw [rowsTo_zero];exact HR1.out,hb1⟩
 case round =>
  obtain ⟨i,hs,hi,rfl,hrow,hbel⟩:=hrel
  clear hb1 HR1 x0 x1
  by_cases hlt:i < g.edges.length
  · have hei:g.edges[i]?=some g.edges[i]:=List.getElem?_eq_getElem hlt
    have hge:=HG.out.edges _ (List.getElem_mem hlt)
    generalize g.edges[i]=e at hei hge
    obtain ⟨-,⟨hf0,hf1⟩,⟨ht0,ht1⟩,hl0,hl2⟩:=hge
    obtain ⟨b,o,rfl,hb,q0,q1,q2,q3⟩:=HC2.out.ed hei
    have d0:=bcell hbel q0 hb
    have d1:=bcell hbel q1 hb
    have d2:=bcell hbel q2 hb
    have d3:=bcell hbel q3 hb
    have hbw:=Nat.lt_of_lt_of_le hb hbel.size
    have HEI:=Hd_ hei
    clear hei q0 q1 q2 q3
    have hgl:=hrow.gLt
    have hfh:e.2.1.toNat < hs.length:=by rw [hrow.len,rowsTo_len];omega
    have hhf:hs[e.2.1.toNat]?=some hs[e.2.1.toNat]:=List.getElem?_eq_getElem hfh
    generalize hs[e.2.1.toNat]=hv1 at hhf
    have hx1:=rowsTo_at (g:=g) (i:=i) (x:=e.2.1.toNat) (by omega)
    rw [Int.toNat_of_nonneg hf0] at hx1
    obtain ⟨eid,ef,et,el⟩:=e
    simp only at *
    have hfn:ef.toNat < g.vals.length:=by omega
    obtain ⟨ef,rfl⟩:=Int.eq_ofNat_of_zero_le hf0
    obtain ⟨et,rfl⟩:=Int.eq_ofNat_of_zero_le ht0
    simp only [Int.toNat_natCast] at *
    have hfi:(ef:Int) < (g.vals.length:Int):=by omega
    have hti:(et:Int) < (g.vals.length:Int):=by omega
    have hcf:=hrow.cell hhf
    have hff:=hrow.frozen ef
    have HROW:=Hd_ hrow
    have HX1:=Hd_ hx1
    have HHF:=Hd_ hhf
    have hfar:=hrow.far _ _ hhf
    have HFAR:=Hd_ hfar
    have hgs:=hgl.2
    have hlv:hs.length=g.vals.length:=by rw [hrow.len,rowsTo_len]
    have hgv:gb < wr.heap.size:=hgl.2
    have hsz:=hbel.size
    clear hrow hx1 hhf hfar hgl hfh hlv
    go_wp2_with fail
    have e0:(wr.alloc (.cells #[.int .i64 eid,.int .i64 (ef:Int),.int .i64 (et:Int),.int .i64 el] 138)).cell? ⟨wr.heap.size,0,none⟩=some (.int .i64 eid):=by simp
    have e1:(wr.alloc (.cells #[.int .i64 eid,.int .i64 (ef:Int),.int .i64 (et:Int),.int .i64 el] 138)).cell? ⟨wr.heap.size,1,none⟩=some (.int .i64 (ef:Int)):=by simp
    have e2:(wr.alloc (.cells #[.int .i64 eid,.int .i64 (ef:Int),.int .i64 (et:Int),.int .i64 el] 138)).cell? ⟨wr.heap.size,2,none⟩=some (.int .i64 (et:Int)):=by simp
    have e3:(wr.alloc (.cells #[.int .i64 eid,.int .i64 (ef:Int),.int .i64 (et:Int),.int .i64 el] 138)).cell? ⟨wr.heap.size,3,none⟩=some (.int .i64 el):=by simp
    generalize hW:(wr.alloc (.cells #[.int .i64 eid,.int .i64 (ef:Int),.int .i64 (et:Int),.int .i64 el] 138))=wE
    rw [hW] at e0 e1 e2 e3
    have hbE:Below wr.heap.size wr wE:=by rw [<- hW];exact (Below.refl _ _).alloc (Nat.le_refl _) _
    have hcE:wE.cell? ⟨gb,ef,none⟩=some hv1:=bcell hbE hcf hgs
    have hfE:wE.frozen? ⟨gb,ef,none⟩=false:=by rw [hbE.frozen (p:=⟨gb,ef,none⟩) hgs];exact hff
    have hsE:wr.heap.size < wE.heap.size:=by rw [<- hW];simp
    have hgE:gb < wE.heap.size:=by omega
    have hgE1:wr.heap.size ≠ gb:=by omega
    have HRE:=Hd_ (HROW.out.below hbE)
    have HBE:=Hd_ (hbel.trans (hbE.mono hsz))
    have hne1:some wr.heap.size ≠ hv1.ownBlock:=fun h=>by have:=((HROW.out.row ef hv1 _ HHF.out HX1.out).lt _ h.symm).2;omega
    have hne2:some gb ≠ hv1.ownBlock:=Ne.symm HFAR.out
    have hneR0:∀ (j:Nat) (h:Value),hs[j]?=some h->some wr.heap.size ≠ h.ownBlock:=fun j h hj e9=>by
     have hjx:j < (rowsTo g i).length:=by rw [<- HROW.out.len];exact (List.getElem?_eq_some_iff.1 hj).1
     have:=((HROW.out.row j h _ hj (List.getElem?_eq_getElem hjx)).lt _ e9.symm).2
     omega
    have HNER:=Hd_ hneR0
    clear hneR0
    have HRO:=Hd_ (HRE.out.row ef hv1 _ HHF.out HX1.out)
    have hrl:((g.edges.take i).flatMap (arcE (ef:Int))).length<=24:=by
     have h1:=flat_len (arcE_len (ef:Int)) (g.edges.take i)
     rw [List.length_take] at h1
     omega
    clear hW hbE hcf hff HROW hbel
    obtain ⟨row1,hrow1⟩:∃ row1,row1=(g.edges.take i).flatMap (arcE (ef:Int)):=⟨_,rfl⟩
    rw [<- hrow1] at hrl HRO HX1
    have HROW1:=Hd_ hrow1
    clear hrow1
    refine F_start 19 (fun w'=>w'.cell? ⟨wr.heap.size,0,none⟩=some (.int .i64 eid)/\w'.cell? ⟨wr.heap.size,1,none⟩=some (.int .i64 (ef:Int))/\w'.cell? ⟨wr.heap.size,2,none⟩=some (.int .i64 (et:Int))/\w'.cell? ⟨wr.heap.size,3,none⟩=some (.int .i64 el)/\w'.cell? ⟨gb,ef,none⟩=some hv1) (by kernel_rfl) (by exact ⟨e0,e1,e2,e3,hcE⟩) (fun hS inv=>?_)
    refine F_tk 0 inv ?_
    try simp only [tA,tB,tC,Act.put,tE,tF,tG]
    clear inv;intro inv
    refine F_tk 1 inv ?_
    try simp only [tA,tB,tC,Act.put,tE,tF,tG]
    clear inv;intro inv
    refine F_tk 2 inv ?_
    try simp only [tA,tB,tC,Act.put,tE,tF,tG]
    clear inv;intro inv
    refine F_tk 3 inv ?_
    try simp only [tA,tB,tC,Act.put,tE,tF,tG]
    clear inv;intro inv
    refine F_tk 4 inv ?_
    try simp only [tA,tB,tC,Act.put,tE,tF,tG]
    clear inv;intro inv
    refine F_tk 5 inv ?_
    try simp only [tA,tB,tC,Act.put,tE,tF,tG]
    clear inv;intro inv
    refine F_tk 6 inv ?_
    try simp only [tA,tB,tC,Act.put,tE,tF,tG]
    clear inv;intro inv
    refine F_tk 7 inv ?_
    try simp only [tA,tB,tC,Act.put,tE,tF,tG]
    clear inv;intro inv
    refine F_tk 8 inv ?_
    try simp only [tA,tB,tC,Act.put,tE,tF,tG]
    clear inv;intro inv
    refine F_tk 9 inv ?_
    try simp only [tA,tB,tC,Act.put,tE,tF,tG]
    clear inv;intro inv
    refine F_tk 10 inv ?_
    try simp only [tA,tB,tC,Act.put,tE,tF,tG]
    clear inv;intro inv
    refine F_tk 11 inv ?_
    try simp only [tA,tB,tC,Act.put,tE,tF,tG]
    clear inv;intro inv
    refine F_tk 13 inv ?_
    try simp only [tA,tB,tC,Act.put,tE,tF,tG]
    clear inv;intro inv
    refine F_tk 14 inv ?_
    try simp only [tA,tB,tC,Act.put,tE,tF,tG]
    clear inv;intro inv
    refine F_o1 12 inv ?_;intro K hK
    try simp only [tA,tB,tC]
    go_simp
    refine (reads_any (eid,(ef:Int),(et:Int),el) false _ hl0 hl2).mono ?_
    rintro en wR ⟨rfl,hbR⟩
    have hbR:=below_trans (Below.refl wE.heap.size wE).drew hbR
    have hcR:=kcell hbR hcE
    have hfR:=kfb hbR hcE hfE
    have hsR:=hbR.size
    have HRX:=Hd_ (ownsRow_below HRO.out hbR (Nat.le_refl _))
    refine hK.out _ _ (kB5 hbR ⟨e0,e1,e2,e3,hcE⟩) (fun _ _=>?_)
    try simp only [tA,tB,tC,Act.put,tE,tF,tG]
    clear hK K inv hS;rename_i hS inv
    refine F_tk 15 inv ?_
    try simp only [tA,tB,tC,Act.put,tE,tF,tG]
    clear inv;intro inv
    refine F_o1 16 inv ?_;intro K hK
    try simp only [tA,tB,tC]
    go_simp
    refine hK.out _ _ (kA5 _ hS) (fun _ _=>?_)
    try simp only [tA,tB,tC,Act.put,tE,tF,tG]
    clear hK K inv hS;rename_i hS inv
    refine F_o1 17 inv ?_;intro K hK
    try simp only [tA,tB,tC]
    refine op_append1 cA elArc rfl _ _ (by rfl) gb hv1 row1 ((eid,false),arcLetter false (eid,(ef:Int),(et:Int),el),(et:Int)) 1 _ (by rfl) (HRX.out.alloc _) (by rfl) (heap_alloc_new _ _) rfl (cA_one _) (by omega) (by omega) (by simp;omega) ?_
    intro g2 cp2 w3 hown3 hgr3 hat3 hlt3
    have HO3:=Hd_ hown3
    have HG3:=Hd_ hgr3
    have HA3:=Hd_ hat3
    clear hown3 hgr3 hat3
    refine hK.out _ _ (kG5 HG3.out hne1 hne1 hne1 hne1 hne2 hS) (fun _ _=>?_)
    try simp only [tA,tB,tC,Act.put,tE,tF,tG]
    clear hK K inv hS;rename_i hS inv
    refine F_tk 18 inv ?_
    try simp only [tA,tB,tC,Act.put,tE,tF,tG]
    clear inv;intro inv
    have hcz:=HG3.out.cell (kcell ((Below.refl _ _).alloc (Nat.le_refl _) _) hcR) hne2
    have hfz:=kfg HG3.out (p:=⟨gb,ef,none⟩) hne2 (kcell ((Below.refl _ _).alloc (Nat.le_refl _) _) hcR) (kfb ((Below.refl _ _).alloc (Nat.le_refl _) _) hcR hfR)
    refine F_l1 19 ?_;intro K hK
    go_simp
    refine hK _ _ ?_
    clear hK K inv hS
    have hbA:Below wE.heap.size wE (wR.alloc (.cells #[.int .i64 eid,.bool false,.int .i64 (arcLetter false (eid,(ef:Int),(et:Int),el)),.int .i64 (et:Int)] 88)):=hbR.alloc hsR _
    have hrF:=Rws.push (HRE.out.below hbA) HHF.out HX1.out HO3.out HG3.out rfl HA3.out
    have hbF:Below w.heap.size w (w3.setCell ⟨gb,ef,none⟩ (.slice (some ⟨g2,0,none⟩) (row1.length+1) cp2)) :=
     ((HBE.out.trans (hbA.mono HBE.out.size)).grown HG3.out (Nat.le_trans HBE.out.size hbA.size) (fun b hb=>by have:=(HRX.out.lt b hb).1;omega)).setCell (by simp only;omega) _
    have f0:=(World.cell?_setCell_far w3 ⟨gb,ef,none⟩ ⟨wr.heap.size,0,none⟩ (.slice (some ⟨g2,0,none⟩) (row1.length+1) cp2) (Ne.symm hgE1)).trans (HG3.out.cell (kcell hbA e0) hne1)
    have f1:=(World.cell?_setCell_far w3 ⟨gb,ef,none⟩ ⟨wr.heap.size,1,none⟩ (.slice (some ⟨g2,0,none⟩) (row1.length+1) cp2) (Ne.symm hgE1)).trans (HG3.out.cell (kcell hbA e1) hne1)
    have f2:=(World.cell?_setCell_far w3 ⟨gb,ef,none⟩ ⟨wr.heap.size,2,none⟩ (.slice (some ⟨g2,0,none⟩) (row1.length+1) cp2) (Ne.symm hgE1)).trans (HG3.out.cell (kcell hbA e2) hne1)
    have f3:=(World.cell?_setCell_far w3 ⟨gb,ef,none⟩ ⟨wr.heap.size,3,none⟩ (.slice (some ⟨g2,0,none⟩) (row1.length+1) cp2) (Ne.symm hgE1)).trans (HG3.out.cell (kcell hbA e3) hne1)
    have hg23:some wr.heap.size ≠ (Value.slice (some ⟨g2,0,none⟩) (row1.length+1) cp2).ownBlock:=by
     simp only [Value.ownBlock,ne_eq,Option.some.injEq]
     intro e9;subst e9
     rcases HA3.out with h9 | h9
     · exact hne1 h9.symm
     · have:=hbA.size;omega
    rw [show (rowsTo g i).set ef (row1 ++ [((eid,false),arcLetter false (eid,(ef:Int),(et:Int),el),(et:Int))])=rowFrom g i (eid,(ef:Int),(et:Int),el) by rw [HROW1.out];rfl] at hrF
    generalize (w3.setCell ⟨gb,ef,none⟩ (.slice (some ⟨g2,0,none⟩) (row1.length+1) cp2))=wF at *
    have hethF:et < (hs.set ef (.slice (some ⟨g2,0,none⟩) (row1.length+1) cp2)).length:=by rw [List.length_set,HRE.out.len,rowsTo_len];omega
    have hhb:(hs.set ef (.slice (some ⟨g2,0,none⟩) (row1.length+1) cp2))[et]?=some (hs.set ef (.slice (some ⟨g2,0,none⟩) (row1.length+1) cp2))[et]:=List.getElem?_eq_getElem hethF
    generalize (hs.set ef (.slice (some ⟨g2,0,none⟩) (row1.length+1) cp2))[et]=hv2 at hhb
    have hx2:(rowFrom g i (eid,(ef:Int),(et:Int),el))[et]?=some (rowBack g i (eid,(ef:Int),(et:Int),el)):=by have:=rowFrom_at (g:=g) (i:=i) (e:=(eid,(ef:Int),(et:Int),el)) (by simp only;omega) (by simp only;omega) (by simp only;omega) (by simp only;omega);simpa using this
    have hne3:some wr.heap.size ≠ hv2.ownBlock:=by
     rw [List.getElem?_set] at hhb
     split at hhb
     · split at hhb
       · injection hhb with hhb;rw [<- hhb];exact hg23
       · cases hhb
     · exact HNER.out et hv2 hhb
    have hne4:some gb ≠ hv2.ownBlock:=Ne.symm (hrF.far _ _ hhb)
    have hcF:=hrF.cell hhb
    have hfF:=hrF.frozen et
    have hgF:=hrF.gLt.2
    have HRO2:=Hd_ (hrF.row et hv2 _ hhb hx2)
    have hlq:wr.heap.size < wF.heap.size:=World.block_lt_of_cell? wF _ f0
    have hrl2:(rowBack g i (eid,(ef:Int),(et:Int),el)).length<=25:=by
     have h1:=flat_len (arcE_len (et:Int)) (g.edges.take i)
     rw [List.length_take] at h1
     unfold rowBack
     rw [List.length_append]
     split
     · simp only [List.length_singleton];omega
     · simp only [List.length_nil];omega
    have HHB:=Hd_ hhb
    have HX2:=Hd_ hx2
    have HRF:=Hd_ hrF
    have HBF:=Hd_ hbF
    clear hhb hx2 hrF hbF hbA hethF
    obtain ⟨row2,hrow2⟩:∃ row2,row2=rowBack g i (eid,(ef:Int),(et:Int),el):=⟨_,rfl⟩
    rw [<- hrow2] at hrl2 HRO2 HX2
    have HROW2:=Hd_ hrow2
    clear hrow2 hcz hfz hbR hcR hfR hsR HRX HO3 HG3 HA3 e0 e1 e2 e3 hcE hfE hsE hgE HRE HBE hne1 hne2 HRO hrl HNER hg23 hlt3
    go_wp2_with fail
    refine F_start 19 (fun w'=>w'.cell? ⟨wr.heap.size,0,none⟩=some (.int .i64 eid)/\w'.cell? ⟨wr.heap.size,1,none⟩=some (.int .i64 (ef:Int))/\w'.cell? ⟨wr.heap.size,2,none⟩=some (.int .i64 (et:Int))/\w'.cell? ⟨wr.heap.size,3,none⟩=some (.int .i64 el)/\w'.cell? ⟨gb,et,none⟩=some hv2) (by kernel_rfl) (by exact ⟨f0,f1,f2,f3,hcF⟩) (fun hS inv=>?_)
    refine F_tk 0 inv ?_
    try simp only [tA,tB,tC,Act.put,tE,tF,tG]
    clear inv;intro inv
    refine F_tk 1 inv ?_
    try simp only [tA,tB,tC,Act.put,tE,tF,tG]
    clear inv;intro inv
    refine F_tk 2 inv ?_
    try simp only [tA,tB,tC,Act.put,tE,tF,tG]
    clear inv;intro inv
    refine F_tk 3 inv ?_
    try simp only [tA,tB,tC,Act.put,tE,tF,tG]
    clear inv;intro inv
    refine F_tk 4 inv ?_
    try simp only [tA,tB,tC,Act.put,tE,tF,tG]
    clear inv;intro inv
    refine F_tk 5 inv ?_
    try simp only [tA,tB,tC,Act.put,tE,tF,tG]
    clear inv;intro inv
    refine F_tk 6 inv ?_
    try simp only [tA,tB,tC,Act.put,tE,tF,tG]
    clear inv;intro inv
    refine F_tk 7 inv ?_
    try simp only [tA,tB,tC,Act.put,tE,tF,tG]
    clear inv;intro inv
    refine F_tk 8 inv ?_
    try simp only [tA,tB,tC,Act.put,tE,tF,tG]
    clear inv;intro inv
    refine F_tk 9 inv ?_
    try simp only [tA,tB,tC,Act.put,tE,tF,tG]
    clear inv;intro inv
    refine F_tk 10 inv ?_
    try simp only [tA,tB,tC,Act.put,tE,tF,tG]
    clear inv;intro inv
    refine F_tk 11 inv ?_
    try simp only [tA,tB,tC,Act.put,tE,tF,tG]
    clear inv;intro inv
    refine F_tk 13 inv ?_
    try simp only [tA,tB,tC,Act.put,tE,tF,tG]
    clear inv;intro inv
    refine F_tk 14 inv ?_
    try simp only [tA,tB,tC,Act.put,tE,tF,tG]
    clear inv;intro inv
    refine F_o1 12 inv ?_;intro K hK
    try simp only [tA,tB,tC]
    go_simp
    refine (reads_any (eid,(ef:Int),(et:Int),el) true _ hl0 hl2).mono ?_
    rintro en wS ⟨rfl,hbR⟩
    have hbR:=below_trans (Below.refl wF.heap.size wF).drew hbR
    have hcR:=kcell hbR hcF
    have hfR:=kfb hbR hcF hfF
    have hsR:=hbR.size
    have HRX:=Hd_ (ownsRow_below HRO2.out hbR (Nat.le_refl _))
    refine hK.out _ _ (kB5 hbR ⟨f0,f1,f2,f3,hcF⟩) (fun _ _=>?_)
    try simp only [tA,tB,tC,Act.put,tE,tF,tG]
    clear hK K inv hS;rename_i hS inv
    refine F_tk 15 inv ?_
    try simp only [tA,tB,tC,Act.put,tE,tF,tG]
    clear inv;intro inv
    refine F_o1 16 inv ?_;intro K hK
    try simp only [tA,tB,tC]
    go_simp
    refine hK.out _ _ (kA5 _ hS) (fun _ _=>?_)
    try simp only [tA,tB,tC,Act.put,tE,tF,tG]
    clear hK K inv hS;rename_i hS inv
    refine F_o1 17 inv ?_;intro K hK
    try simp only [tA,tB,tC]
    refine op_append1 cA elArc rfl _ _ (by rfl) gb hv2 row2 ((eid,true),arcLetter true (eid,(ef:Int),(et:Int),el),(ef:Int)) 1 _ (by rfl) (HRX.out.alloc _) (by rfl) (heap_alloc_new _ _) rfl (cA_one _) (by omega) (by omega) (by simp;omega) ?_
    intro g3 cp3 w4 hown3 hgr3 hat3 hlt3
    have HO3:=Hd_ hown3
    have HG3:=Hd_ hgr3
    have HA3:=Hd_ hat3
    clear hown3 hgr3 hat3
    refine hK.out _ _ (kG5 HG3.out hne3 hne3 hne3 hne3 hne4 hS) (fun _ _=>?_)
    try simp only [tA,tB,tC,Act.put,tE,tF,tG]
    clear hK K inv hS;rename_i hS inv
    refine F_tk 18 inv ?_
    try simp only [tA,tB,tC,Act.put,tE,tF,tG]
    clear inv;intro inv
    have hcz:=HG3.out.cell (kcell ((Below.refl _ _).alloc (Nat.le_refl _) _) hcR) hne4
    have hfz:=kfg HG3.out (p:=⟨gb,et,none⟩) hne4 (kcell ((Below.refl _ _).alloc (Nat.le_refl _) _) hcR) (kfb ((Below.refl _ _).alloc (Nat.le_refl _) _) hcR hfR)
    refine F_l1 19 ?_;intro K hK
    go_simp
    refine hK _ _ ?_
    clear hK K inv hS
    have hbA:Below wF.heap.size wF (wS.alloc (.cells #[.int .i64 eid,.bool true,.int .i64 (arcLetter true (eid,(ef:Int),(et:Int),el)),.int .i64 (ef:Int)] 88)):=hbR.alloc hsR _
    have hrG:=Rws.push (HRF.out.below hbA) HHB.out HX2.out HO3.out HG3.out rfl HA3.out
    have hbG:Below w.heap.size w (w4.setCell ⟨gb,et,none⟩ (.slice (some ⟨g3,0,none⟩) (row2.length+1) cp3)) :=
     ((HBF.out.trans (hbA.mono HBF.out.size)).grown HG3.out (Nat.le_trans HBF.out.size hbA.size) (fun b hb=>by have:=(HRX.out.lt b hb).1;omega)).setCell (by simp only;omega) _
    have hpush:=rowsTo_push (g:=g) HEI.out (by simp only;omega) (by simp only;omega) (by simp only;omega) (by simp only;omega)
    simp only [Int.toNat_natCast] at hpush
    rw [HROW2.out,hpush] at hrG
    have HRG:=Hd_ hrG
    have HBG:=Hd_ hbG
    clear hrG hbG hbA hpush hcz hfz hbR hcR hfR
    rw [<- HROW2.out] at HRG
    go_wp2_with fail
    go_roundw
    case rel=>exact ⟨i+1,_,by omega,by go_num,HRG.out,HBG.out⟩
    case measure=>simp [intOf];omega
  · obtain rfl:i=g.edges.length:=by omega
    have hs1:=hrow.sse cA_len (lo:=w.heap.size) (by omega) (by omega)
    have hln:hs.length=g.vals.length:=by rw [hrow.len,rowsTo_len]
    rw [rowsTo_all,hln] at hs1
    have HS1:=Hd_ hs1
    clear hrow hs1 hln
    go_wp2_with fail
    go_ret
    exact ⟨_,rfl,by rw [HR.out];exact HS1.out,hbel⟩
theorem SlI.arc {lo hi:Nat} {w:World} {A:Option Addr} {n c:Nat} {xs:List Arc} (h:SlI lo hi w cA 4 (.slice A n c) xs) {i:Nat} {y:Arc} (hx:xs[i]?=some y) :
 ∃ b o,A=some ⟨b,o,none⟩/\lo<=b/\b < hi/\w.cell? ⟨b,o+i * 4,none⟩=some (.int .i64 y.1.1)/\w.cell? ⟨b,o+i * 4+1,none⟩=some (.bool y.1.2)/\w.cell? ⟨b,o+i * 4+2,none⟩=some (.int .i64 y.2.1)/\w.cell? ⟨b,o+i * 4+3,none⟩=some (.int .i64 y.2.2):=by
 obtain ⟨A',c',hv,_,_,h3⟩:=h
 injection hv with h1 _ _
 subst h1
 obtain ⟨b,o,e,g1,g2,hc⟩:=h3 i y hx
 exact ⟨b,o,e,g1,g2,by simpa using hc 0 _ rfl,hc 1 _ rfl,hc 2 _ rfl,hc 3 _ rfl⟩
theorem elInts:ElemOk Tryz.prog 29 24 (.slice none 0 0) 1 24:=⟨Tryz.underlying29,by kernel_rfl,rfl,by omega⟩
set_option maxHeartbeats 8000000 in
set_option maxRecDepth 100000 in
theorem nextVertices_any (vg va:Value) (g:Gr) (a:Au) (w:World) (hgv:GrV 0 w.heap.size w vg g) (hav:AuV 0 w.heap.size w va a) (hg:GrOk g) (ha:auOk a=true) :
 Calls Tryz.prog 119 #[vg,va] w fun e w'=>∃ v',e=.returned v'/\SSE w.heap.size w'.heap.size w' cN 1 v' ((List.range (g.vals.length * a.accept.length)).map (nextI g a))/\Below w.heap.size w w':=by
 have hgv0:=hgv
 have hav0:=hav
 obtain ⟨A1,c1,A2,c2,rfl,hl1,hm1,hl2,hm2,hC1,-⟩:=hgv.form
 obtain ⟨A3,c3,A4,c4,rfl,hl3,hm3,hl4,hm4,-⟩:=hav.form ha
 have hn5:=hg.n5
 have hn12:=(auOk_iff.1 ha).1.2
 have hn1:=(auOk_iff.1 ha).1.1
 have HGO:=Hd_ hg
 have HAO:=Hd_ ha
 have HGV:=Hd_ hgv0
 have HAV:=Hd_ hav0
 have HC1:=Hd_ hC1
 clear hgv hav hgv0 hav0 hg ha hC1
 obtain ⟨R,hR⟩:∃ R,R=(List.range (g.vals.length * a.accept.length)).map (nextI g a):=⟨_,rfl⟩
 rw [<- hR]
 have HR:=Hd_ hR
 clear hR
 have hNm:g.vals.length * a.accept.length<=60:=by have:=Nat.mul_le_mul hn5 hn12;omega
 obtain ⟨N,hN⟩:∃ N,N=g.vals.length * a.accept.length:=⟨_,rfl⟩
 rw [<- hN] at hNm
 have q0:IntKind.i64.wrap ((a.accept.length:Int) * (g.vals.length:Int))=(N:Int):=by rw [IntWalk.i64_in _ (by rw [Int.mul_comm,<- Int.natCast_mul,<- hN];omega)];rw [hN,Int.natCast_mul,Int.mul_comm]
 have q0':(a.accept.length:Int) * (g.vals.length:Int)=(N:Int):=by rw [hN,Int.natCast_mul,Int.mul_comm]
 have HN:=Hd_ hN
 clear hN
 have hb0:Below w.heap.size w ((w.alloc (.cells #[.slice A1 g.vals.length c1,.slice A2 g.edges.length c2] 27)).alloc (.cells #[.int .i64 a.start,.slice A3 a.accept.length c3,.slice A4 a.accept.length c4] 31)):=((Below.refl _ _).alloc (Nat.le_refl _) _).alloc (by simp) _
 go_enter Tryz.func119,Tryz.ntmps119
 go_wp2_with (at_make;refine wpList_makeE (P:=Tryz.prog) cV (.slice none 0 0) elInts rfl rfl rfl _ _ rfl (w.heap.size+1+1) N (N:Int) (by first | rfl | simp [q0']) (by first | rfl | simp [q0']) rfl (by omega) (by unfold maxLen;omega) (by simp) ?_;intro w1 hrow1 hbel1
              have b0:=((Blk.new w 27 #[.slice A1 g.vals.length c1,.slice A2 g.edges.length c2] w.heap.size rfl).alloc (.cells #[.int .i64 a.start,.slice A3 a.accept.length c3,.slice A4 a.accept.length c4] 31)).below hbel1 (by simp <;> omega)
              have b1:=(Blk.new (w.alloc (.cells #[.slice A1 g.vals.length c1,.slice A2 g.edges.length c2] 27)) 31 #[.int .i64 a.start,.slice A3 a.accept.length c3,.slice A4 a.accept.length c4] (w.heap.size+1) (by simp)).below hbel1 (by simp <;> omega)
              have hb1:Below w.heap.size w w1:=hb0.trans (hbel1.mono (by simp <;> omega))
              simp only [World.size_alloc] at hrow1 ⊢
              have HROW1:=Hd_ hrow1
              have x0:w1.cell? ⟨w.heap.size,0,none⟩=some (.slice A1 g.vals.length c1):=b0.cell 0
              have x1:w1.cell? ⟨w.heap.size,1,none⟩=some (.slice A2 g.edges.length c2):=b0.cell 1
              have y0:w1.cell? ⟨w.heap.size+1,0,none⟩=some (.int .i64 a.start):=b1.cell 0
              have y1:w1.cell? ⟨w.heap.size+1,1,none⟩=some (.slice A3 a.accept.length c3):=b1.cell 1
              have y2:w1.cell? ⟨w.heap.size+1,2,none⟩=some (.slice A4 a.accept.length c4):=b1.cell 2
              clear hbel1 hrow1 b0 b1)
 refine (arcs_any _ g _ (HGV.out.keep hb1) HGO.out).mono ?_
 rintro e w2 ⟨v2,rfl,hsse,hb2⟩
 have hrw:=Rws.made (base:=w2.heap.size) (α:=Nat) (E:=cN) (k:=1) (rT:=3) (ownsRow_below HROW1.out hb2 (Nat.le_refl _))
 rw [<- fill_zero N (nextI g a)] at hrw
 have x0:=kcell hb2 x0
 have x1:=kcell hb2 x1
 have y0:=kcell hb2 y0
 have y1:=kcell hb2 y1
 have y2:=kcell hb2 y2
 have hgl:=hrw.gLt.2
 have hg1:w.heap.size+1+1 < w1.heap.size:=(HROW1.out.lt _ rfl).2
 obtain ⟨A5,c5,hv5,hl5,hm5⟩:=hsse.shape
 have hlen5:((List.range g.vals.length).map fun (x:Nat)=>arcsOf g (x:Int)).length=g.vals.length:=by simp
 rw [hlen5] at hv5 hl5
 subst hv5
 have hbw:=below_trans hb1 hb2
 have HRW:=Hd_ hrw
 have HSSE:=Hd_ hsse
 have hg9:w.heap.size+1 < w2.heap.size:=by omega
 clear hrw hsse hlen5 hb1 hb2
 generalize hgb:w.heap.size+1+1=gb at *
 have hgw:w.heap.size+1 < gb:=by omega
 clear hgb
 go_wp2_with fail
 go_loopw [26] (fun xx wr=>∃ (x:Nat) (hs:List Value),x<=g.vals.length/\xx=.int .i64 (x:Int)/\Rws wr w2.heap.size 24 3 cN 1 gb hs (fillTo N (nextI g a) (x * a.accept.length) [])/\Only gb (gb+1) w2 wr) (fun xx _=>g.vals.length - (intOf xx).toNat)
 case atStart=>exact ⟨0,_,Nat.zero_le _,rfl,by rw [Nat.zero_mul];exact HRW.out,Only.refl _ _ _⟩
 case round =>
  obtain ⟨x,hs,hx,rfl,hrw,hon⟩:=hrel
  have HRW:=Hd_ hrw
  clear hrw
  by_cases hlt:x < g.vals.length
  · obtain ⟨xn,hxn⟩:∃ xn,xn=x * a.accept.length:=⟨_,rfl⟩
    have hxn2:xn+a.accept.length<=N:=by rw [hxn,HN.out];have:=Nat.mul_le_mul_right a.accept.length (show x+1<=g.vals.length by omega);rw [Nat.succ_mul] at this;exact this
    rw [<- hxn] at HRW
    have q1:IntKind.i64.wrap ((x:Int) * (a.accept.length:Int))=(xn:Int):=by rw [IntWalk.i64_in _ (by rw [<- Int.natCast_mul,<- hxn];omega),hxn,Int.natCast_mul]
    have q1':(x:Int) * (a.accept.length:Int)=(xn:Int):=by rw [hxn,Int.natCast_mul]
    have HXN:=Hd_ hxn
    clear hxn
    obtain ⟨b5,o5,A6,c6,rfl,hlo5,hb5,d5,hl6,hm6,hI6,-⟩:=HSSE.out.row (Nat.le_refl _) (i:=x) (xs:=arcsOf g (x:Int)) (by simp [hlt])
    have d5:=ocell hon d5 hb5 (.inr (by omega))
    have hxi:g.vals[x]?=some g.vals[x]:=List.getElem?_eq_getElem hlt
    have hvr:=HGO.out.vals _ (List.getElem_mem hlt)
    generalize g.vals[x]=vx at hxi hvr
    obtain ⟨vx,rfl⟩:=Int.eq_ofNat_of_zero_le hvr.1
    have hva:=valAt_of hxi
    rw [Int.toNat_natCast] at hva
    obtain ⟨b1,o1,rfl,hbb1,dv⟩:=HC1.out.int hxi
    have dv2:=kcell hbw dv
    have hAL:=arcs_len HGO.out (x:Int)
    have HVA:=Hd_ hva
    have HI6:=Hd_ hI6
    clear hva hI6 hxi dv
    go_wp2_with fail
    go_loopw [9] (fun ss wr=>∃ (s:Nat) (hs:List Value),s<=a.accept.length/\ss=.int .i64 (s:Int)/\Rws wr w2.heap.size 24 3 cN 1 gb hs (fillTo N (nextI g a) (xn+s) [])/\Only gb (gb+1) w2 wr) (fun ss _=>a.accept.length - (intOf ss).toNat)
    case atStart=>exact ⟨0,_,Nat.zero_le _,rfl,HRW.out,hon⟩
    case round =>
     clear d5 hon HRW
     obtain ⟨s,hs,hs1,rfl,hrw,hon⟩:=hrel
     have HRW:=Hd_ hrw
     clear hrw
     by_cases hlt2:s < a.accept.length
     · have hs12:s < 12:=by omega
       have hix:xn+s < N:=by omega
       have q2:IntKind.i64.wrap ((xn:Int)+(s:Int))=(xn:Int)+(s:Int):=IntWalk.i64_in _ (by omega)
       have q2a:(0:Int)<=(xn:Int)+(s:Int):=by omega
       have q2b:(xn:Int)+(s:Int) < (N:Int):=by omega
       have q2c:((xn:Int)+(s:Int)).toNat=xn+s:=by omega
       go_wp2_with fail
       go_loopw [38] (fun jj wr=>∃ (j:Nat) (hs:List Value),j<=(arcsOf g (x:Int)).length/\jj=.int .i64 (j:Int)/\Rws wr w2.heap.size 24 3 cN 1 gb hs (fillTo N (nextI g a) (xn+s) (((arcsOf g (x:Int)).take j).flatMap (nextA g a x s)))/\Only gb (gb+1) w2 wr) (fun jj _=>(arcsOf g (x:Int)).length - (intOf jj).toNat)
       case atStart=>exact ⟨0,_,Nat.zero_le _,rfl,HRW.out,hon⟩
       case round =>
        clear hon HRW
        obtain ⟨j,hs,hj,rfl,hrw,hon⟩:=hrel
        have HRW:=Hd_ hrw
        clear hrw
        by_cases hlt3:j < (arcsOf g (x:Int)).length
        · have hyj:(arcsOf g (x:Int))[j]?=some (arcsOf g (x:Int))[j]:=List.getElem?_eq_getElem hlt3
          have hyr:=arc_range HGO.out (List.getElem_mem hlt3)
          generalize (arcsOf g (x:Int))[j]=y at hyj hyr
          obtain ⟨⟨yid,yinv⟩,yl,yt⟩:=y
          simp only at hyr
          obtain ⟨⟨hyl0,hyl5⟩,hyt0,hyt1⟩:=hyr
          obtain ⟨yl,rfl⟩:=Int.eq_ofNat_of_zero_le hyl0
          obtain ⟨yt,rfl⟩:=Int.eq_ofNat_of_zero_le hyt0
          obtain ⟨b6,o6,rfl,hlo6,hb6,z0,z1,z2,z3⟩:=HI6.out.arc hyj
          have z0:=ocell hon z0 hb6 (.inr (by omega))
          have z1:=ocell hon z1 hb6 (.inr (by omega))
          have z2:=ocell hon z2 hb6 (.inr (by omega))
          have z3:=ocell hon z3 hb6 (.inr (by omega))
          have HYJ:=Hd_ hyj
          clear hyj
          go_wp2_with fail
          have e2:(wr.alloc (.cells #[.int .i64 yid,.bool yinv,.int .i64 (yl:Int),.int .i64 (yt:Int)] 88)).cell? ⟨wr.heap.size,2,none⟩=some (.int .i64 (yl:Int)):=by simp
          have e3:(wr.alloc (.cells #[.int .i64 yid,.bool yinv,.int .i64 (yl:Int),.int .i64 (yt:Int)] 88)).cell? ⟨wr.heap.size,3,none⟩=some (.int .i64 (yt:Int)):=by simp
          generalize hW:(wr.alloc (.cells #[.int .i64 yid,.bool yinv,.int .i64 (yl:Int),.int .i64 (yt:Int)] 88))=wE at e2 e3 ⊢
          have hbE:Below wr.heap.size wr wE:=by rw [<- hW];exact (Below.refl _ _).alloc (Nat.le_refl _) _
          have hsE:wr.heap.size < wE.heap.size:=by rw [<- hW];simp
          have hsW:=hon.size
          have yE0:=kcell hbE (ocell hon y0 hg9 (.inl (by omega)))
          have yE1:=kcell hbE (ocell hon y1 hg9 (.inl (by omega)))
          have yE2:=kcell hbE (ocell hon y2 hg9 (.inl (by omega)))
          have xE0:=kcell hbE (ocell hon x0 (by omega) (.inl (by omega)))
          have dE:=kcell hbE (ocell hon dv2 (Nat.lt_of_lt_of_le hbb1 (by omega)) (.inl (by omega)))
          have hbwE:Below w.heap.size w wE:=below_trans (hbw.trans (hon.below (by omega) (by omega))) hbE
          have HRE:=Hd_ (HRW.out.below hbE)
          have HBWE:=Hd_ hbwE
          have HNB:=Hd_ (show ∀ (i:Nat) (hv:Value),hs[i]?=some hv->∀ b,hv.ownBlock=some b->b < wr.heap.size from fun i hv hi b hb=>by
           have hjx:i < (fillTo N (nextI g a) (xn+s) (((arcsOf g (x:Int)).take j).flatMap (nextA g a x s))).length:=by rw [<- HRW.out.len];exact (List.getElem?_eq_some_iff.1 hi).1
           exact ((HRW.out.row i hv _ hi (List.getElem?_eq_getElem hjx)).lt _ hb).2)
          have hfl:=aft_lt HAO.out (bit s) vx yl
          have hfl4:=lt12 HAO.out hfl
          have s1:=shl_bit (s:=s) (by omega)
          have s2:=shl_bit2 (s:=s) (by omega)
          have s3:=shl_bit3 (s:=s) (by omega)
          have HFL:=Hd_ hfl
          clear hW z0 z1 z2 z3 HRW hbwE hfl
          go_region_held3 (fun w'=>w'.cell? ⟨w.heap.size+1,0,none⟩=some (.int .i64 a.start)/\w'.cell? ⟨w.heap.size+1,1,none⟩=some (.slice A3 a.accept.length c3)/\w'.cell? ⟨w.heap.size+1,2,none⟩=some (.slice A4 a.accept.length c4)/\w'.cell? ⟨w.heap.size,0,none⟩=some (.slice (some ⟨b1,o1,none⟩) g.vals.length c1)/\w'.cell? ⟨b1,o1+x,none⟩=some (.int .i64 (vx:Int))/\w'.cell? ⟨wr.heap.size,2,none⟩=some (.int .i64 (yl:Int)))
           (first | (exact ⟨yE0,yE1,yE2,xE0,dE,e2⟩) | (exact kB6 hbA (by assumption)) | (exact kB6 hbM (by assumption)))
           (first | (go_at_call 104;refine (after_any _ a (bit s) vx yl _ (AuV.keep (w':=wE.drew) HAV.out HBWE.out.drew) HAO.out (bit_lt hlt2) (by omega) (by omega)).mono ?_;rintro e wA ⟨rfl,hbA⟩) | (go_at_call 121;refine (members_any (aft a (bit s) vx yl) _ hfl4).mono ?_;rintro e wM ⟨vM,rfl,hoM,hbM⟩;obtain ⟨A7,c7,rfl,hl7,hm7,-⟩:=hoM.form cN_len))
          have hbX:Below wE.heap.size wE wM:=below_trans (below_trans (Below.refl wE.heap.size wE).drew hbA) hbM
          have hM:=hoM.form cN_len
          have hoI:=hoM.sl cN_len
          rename_i hh
          have e3M:=kcell hbX e3
          have hsM:=hbX.size
          have hmA:wE.heap.size<=wA.heap.size:=hbA.size
          have HRM:=Hd_ (HRE.out.below hbX)
          have HONM:=Hd_ (((hon.trans (Only.of_below hbE gb (gb+1))).trans (Only.of_below hbX gb (gb+1))))
          have HOI:=Hd_ (hoI.mono hmA (Nat.le_refl _))
          have hml7:=mem_len 12 (aft a (bit s) vx yl)
          have HNA:=Hd_ (show nextA g a x s ((yid,yinv),(yl:Int),(yt:Int))=(mem 12 (aft a (bit s) vx yl)).map fun t=>yt * a.accept.length+t by rw [nextA,HVA.out];simp)
          have hytn:yt * a.accept.length+a.accept.length<=N:=by rw [HN.out];have:=Nat.mul_le_mul_right a.accept.length (show yt+1<=g.vals.length by omega);rw [Nat.succ_mul] at this;exact this
          obtain ⟨yn,hyn⟩:∃ yn,yn=yt * a.accept.length:=⟨_,rfl⟩
          rw [<- hyn] at hytn HNA
          have q3:IntKind.i64.wrap ((yt:Int) * (a.accept.length:Int))=(yn:Int):=by rw [IntWalk.i64_in _ (by rw [<- Int.natCast_mul,<- hyn];omega),hyn,Int.natCast_mul]
          have q3':(yt:Int) * (a.accept.length:Int)=(yn:Int):=by rw [hyn,Int.natCast_mul]
          obtain ⟨ms,hms⟩:∃ ms,ms=mem 12 (aft a (bit s) vx yl):=⟨_,rfl⟩
          have hmsn:∀ t ∈ ms,t < a.accept.length:=fun t ht=>by rw [hms] at ht;exact bit_in HFL.out (mem_mem.1 ht).2
          rw [<- hms] at HOI HNA hml7 hl7
          have HMS:=Hd_ hmsn
          obtain ⟨cur,hcur⟩:∃ cur,cur=((arcsOf g (x:Int)).take j).flatMap (nextA g a x s):=⟨_,rfl⟩
          have hcl:cur.length<=288:=by
           have h1:∀ y,(nextA g a x s y).length<=12:=fun y=>by rw [nextA,List.length_map];exact mem_len _ _
           have h2:=flat_len h1 ((arcsOf g (x:Int)).take j)
           rw [List.length_take] at h2
           rw [hcur];omega
          rw [<- hcur] at HRM
          have hix2:∀ hv,hs[xn+s]?=some hv->∀ b,hv.ownBlock=some b->b < wr.heap.size ∨ wM.heap.size<=b:=fun hv hi b hb=>by
           have hr:=HRE.out.row (xn+s) hv _ hi (fill_cur (cur:=((arcsOf g (x:Int)).take j).flatMap (nextA g a x s)) hix)
           exact .inl (HNB.out _ _ hi _ hb)
          have HIX:=Hd_ hix2
          have HCUR:=Hd_ hcur
          rw [<- hms]
          have HMQ:=Hd_ hms
          have hgr:=hon.size
          clear hbA hbM hoM hh hM hoI hbX hon hbE HRE HBWE yE0 yE1 yE2 xE0 dE e2 e3 s1 s2 s3 hyn hms hcur hix2 hfl4 hmsn
          go_wp2_with fail
          obtain ⟨wo,rfl⟩:∃ wo:World,wo=wr:=⟨_,rfl⟩
          go_loopw [55] (fun kk w'=>∃ (k:Nat) (hs:List Value),k<=ms.length/\kk=.int .i64 (k:Int)/\Rws w' w2.heap.size 24 3 cN 1 gb hs (fillTo N (nextI g a) (xn+s) (cur ++ (ms.take k).map (fun t=>yn+t)))/\Only gb (gb+1) w2 w'/\Only 0 wo.heap.size wM w' /\
           (∀ hv,hs[xn+s]?=some hv->∀ b,hv.ownBlock=some b->b < wo.heap.size ∨ wM.heap.size<=b)) (fun kk _=>ms.length - (intOf kk).toNat)
          case atStart=>exact ⟨0,_,Nat.zero_le _,rfl,by simpa using HRM.out,HONM.out,Only.refl _ _ _,HIX.out⟩
          case round =>
           clear HRM HONM HIX
           obtain ⟨k,hs,hk,rfl,hrw,hon,hon2,hix2⟩:=hrel
           have HRW:=Hd_ hrw
           have HIX:=Hd_ hix2
           clear hrw hix2
           by_cases hlt4:k < ms.length
           · have hti:ms[k]?=some ms[k]:=List.getElem?_eq_getElem hlt4
             have htn:=HMS.out _ (List.getElem_mem hlt4)
             generalize ms[k]=t at hti htn
             obtain ⟨b7,o7,rfl,hlo7,hb7,d7⟩:=(HOI.out.only hon2 (Nat.le_refl _) (.inr (Nat.le_of_lt hsE))).nat hti
             have hb7w:=Nat.lt_of_lt_of_le hb7 hon2.size
             have f3:=ocell hon2 e3M (Nat.lt_of_lt_of_le hsE hsM) (.inr (Nat.le_refl _))
             have hil:xn+s < hs.length:=by rw [HRW.out.len,fill_len];exact hix
             have hhi:hs[xn+s]?=some hs[xn+s]:=List.getElem?_eq_getElem hil
             generalize hs[xn+s]=hv at hhi
             have hcv:=HRW.out.cell hhi
             have hfv:=HRW.out.frozen (xn+s)
             have hro:=HRW.out.row (xn+s) hv _ hhi (fill_cur hix)
             have hgw2:=HRW.out.gLt.2
             have hne1:some gb ≠ hv.ownBlock:=Ne.symm (HRW.out.far _ _ hhi)
             have hne2:some wo.heap.size ≠ hv.ownBlock:=fun e9=>by
              have:=HIX.out hv hhi _ e9.symm
              omega
             have hneg:wo.heap.size ≠ gb:=by omega
             obtain ⟨row,hrow⟩:∃ row,row=cur ++ (ms.take k).map (fun t=>yn+t):=⟨_,rfl⟩
             have hrl:row.length<=300:=by rw [hrow,List.length_append,List.length_map,List.length_take];omega
             rw [<- hrow] at hro
             have HRO:=Hd_ hro
             have HROW:=Hd_ hrow
             have HTI:=Hd_ hti
             have HHI:=Hd_ hhi
             have HNE1:=Hd_ hne1
             have HNE2:=Hd_ hne2
             have q4:IntKind.i64.wrap ((yn:Int)+(t:Int))=(yn:Int)+(t:Int):=IntWalk.i64_in _ (by omega)
             have hsw2:=hon.size
             have q5:IntKind.i64.wrap (xn:Int)=(xn:Int):=IntWalk.i64_in _ (by omega)
             have q6:IntKind.i64.wrap (yn:Int)=(yn:Int):=IntWalk.i64_in _ (by omega)
             clear hro hrow hti hhi hne1 hne2
             go_wp2_with fail
             refine F_start 23 (fun w'=>w'.cell? ⟨gb,xn+s,none⟩=some hv/\w'.cell? ⟨wo.heap.size,3,none⟩=some (.int .i64 (yt:Int))) (by kernel_rfl) (by exact ⟨hcv,f3⟩) (fun hS inv=>?_)
             refine F_tk 0 inv ?_
             try simp only [tA,tB,tC,Act.put,tE,tF,tG]
             clear inv;intro inv
             refine F_tk 1 inv ?_
             try simp only [tA,tB,tC,Act.put,tE,tF,tG]
             clear inv;intro inv
             refine F_tk 2 inv ?_
             try simp only [tA,tB,tC,Act.put,tE,tF,tG]
             clear inv;intro inv
             refine F_tk 3 inv ?_
             try simp only [tA,tB,tC,Act.put,tE,tF,tG]
             clear inv;intro inv
             refine F_tk 4 inv ?_
             try simp only [tA,tB,tC,Act.put,tE,tF,tG]
             clear inv;intro inv
             refine F_tk 5 inv ?_
             try simp only [tA,tB,tC,Act.put,tE,tF,tG]
             clear inv;intro inv
             refine F_tk 6 inv ?_
             try simp only [tA,tB,tC,Act.put,tE,tF,tG]
             clear inv;intro inv
             refine F_tk 7 inv ?_
             try simp only [tA,tB,tC,Act.put,tE,tF,tG]
             clear inv;intro inv
             refine F_tk 8 inv ?_
             try simp only [tA,tB,tC,Act.put,tE,tF,tG]
             clear inv;intro inv
             refine F_tk 9 inv ?_
             try simp only [tA,tB,tC,Act.put,tE,tF,tG]
             clear inv;intro inv
             refine F_tk 10 inv ?_
             try simp only [tA,tB,tC,Act.put,tE,tF,tG]
             clear inv;intro inv
             refine F_tk 11 inv ?_
             try simp only [tA,tB,tC,Act.put,tE,tF,tG]
             clear inv;intro inv
             refine F_tk 12 inv ?_
             try simp only [tA,tB,tC,Act.put,tE,tF,tG]
             clear inv;intro inv
             refine F_tk 13 inv ?_
             try simp only [tA,tB,tC,Act.put,tE,tF,tG]
             clear inv;intro inv
             refine F_tk 14 inv ?_
             try simp only [tA,tB,tC,Act.put,tE,tF,tG]
             clear inv;intro inv
             refine F_tk 15 inv ?_
             try simp only [tA,tB,tC,Act.put,tE,tF,tG]
             clear inv;intro inv
             refine F_tk 16 inv ?_
             try simp only [tA,tB,tC,Act.put,tE,tF,tG]
             clear inv;intro inv
             refine F_tk 17 inv ?_
             try simp only [tA,tB,tC,Act.put,tE,tF,tG]
             clear inv;intro inv
             refine F_tk 18 inv ?_
             try simp only [tA,tB,tC,Act.put,tE,tF,tG]
             clear inv;intro inv
             refine F_tk 19 inv ?_
             try simp only [tA,tB,tC,Act.put,tE,tF,tG]
             clear inv;intro inv
             refine F_o1 20 inv ?_;intro K hK
             try simp only [tA,tB,tC]
             go_simp
             refine hK.out _ _ (kA2 _ hS) (fun _ _=>?_)
             try simp only [tA,tB,tC,Act.put,tE,tF,tG]
             clear hK K inv hS;rename_i hS inv
             refine F_o1 21 inv ?_;intro K hK
             try simp only [tA,tB,tC]
             refine op_append1 cN elInt rfl _ _ (by rfl) w2.heap.size hv row (yn+t) 1 _ (by rfl) (HRO.out.alloc _) (by first | rfl | simp) (heap_alloc_new _ _) rfl (cN_one _) (by omega) (by omega) (by simp;omega) ?_
             intro g2 cp2 w3 hown3 hgr3 hat3 hlt3
             have HO3:=Hd_ hown3
             have HG3:=Hd_ hgr3
             have HA3:=Hd_ hat3
             clear hown3 hgr3 hat3
             refine hK.out _ _ (kG2 HG3.out HNE1.out HNE2.out hS) (fun _ _=>?_)
             try simp only [tA,tB,tC,Act.put,tE,tF,tG]
             clear hK K inv hS;rename_i hS inv
             refine F_tk 22 inv ?_
             try simp only [tA,tB,tC,Act.put,tE,tF,tG]
             clear inv;intro inv
             have hcz:=HG3.out.cell (kcell ((Below.refl _ _).alloc (Nat.le_refl _) _) hcv) HNE1.out
             have hfz:=kfg HG3.out (p:=⟨gb,xn+s,none⟩) HNE1.out (kcell ((Below.refl _ _).alloc (Nat.le_refl _) _) hcv) (kfb ((Below.refl _ _).alloc (Nat.le_refl _) _) hcv hfv)
             refine F_l1 23 ?_;intro K hK
             go_simp
             refine hK _ _ ?_
             clear hK K inv hS
             have hrF:=Rws.push (HRW.out.below (w':=wr.drew.alloc (.cells #[.int .i64 ((yn:Int)+(t:Int))] 3)) ((Below.refl _ _).drew.alloc (Nat.le_refl _) _)) HHI.out (by rw [<- HROW.out];exact fill_cur hix) HO3.out HG3.out rfl HA3.out
             rw [fill_push _ hix] at hrF
             have hpF:row ++ [yn+t]=cur ++ (ms.take (k+1)).map (fun t=>yn+t):=by rw [HROW.out,take_snoc HTI.out,List.map_append,List.append_assoc];rfl
             rw [hpF] at hrF
             have hon3:=Only.pushed (lo:=gb) (hi:=gb+1) (u:=.slice (some ⟨g2,0,none⟩) (row.length+1) cp2) (i:=xn+s) (g:=gb) ((hon.drew).alloc (.cells #[.int .i64 ((yn:Int)+(t:Int))] 3)) HG3.out (fun b hb=>.inr (HRO.out.lt b hb).1) (.inl ⟨Nat.le_refl _,Nat.lt_succ_self _⟩)
             have hon4:=Only.pushed (lo:=0) (hi:=wo.heap.size) (u:=.slice (some ⟨g2,0,none⟩) (row.length+1) cp2) (i:=xn+s) (g:=gb) ((hon2.drew).alloc (.cells #[.int .i64 ((yn:Int)+(t:Int))] 3)) HG3.out (fun b hb=>(HIX.out hv HHI.out b hb).imp (fun h=>⟨Nat.zero_le _,h⟩) id) (.inl ⟨Nat.zero_le _,by omega⟩)
             have hixF:∀ hv',(hs.set (xn+s) (.slice (some ⟨g2,0,none⟩) (row.length+1) cp2))[xn+s]?=some hv'->∀ b,hv'.ownBlock=some b->b < wo.heap.size ∨ wM.heap.size<=b:=fun hv' hi b hb=>by
              rw [List.getElem?_set,if_pos rfl,if_pos hil] at hi
              injection hi with hi
              subst hi
              injection hb with hb
              subst hb
              rcases HA3.out with h9 | h9
              · exact HIX.out hv HHI.out _ h9
              · have:=hon2.size
                simp at h9
                exact .inr (show wM.heap.size<=g2 by omega)
             have HRF:=Hd_ hrF
             have HO5:=Hd_ hon3
             have HO6:=Hd_ hon4
             have HIXF:=Hd_ hixF
             clear hrF hpF hon3 hon4 hixF hcz hfz
             go_wp2_with fail
             go_roundw
             case rel=>exact ⟨k+1,_,by omega,by go_num,HRF.out,HO5.out,HO6.out,HIXF.out⟩
             case measure=>simp [intOf];omega
           · obtain rfl:k=ms.length:=by omega
             have hall:cur ++ (ms.take ms.length).map (fun t=>yn+t)=((arcsOf g (x:Int)).take (j+1)).flatMap (nextA g a x s):=by rw [List.take_length,flat_take HYJ.out,<- HCUR.out,HNA.out]
             rw [hall] at HRW
             clear hall
             go_wp2_with fail
             go_roundw
             case rel=>exact ⟨j+1,_,by omega,by go_num,HRW.out,hon⟩
             case measure=>simp [intOf];omega
        · obtain rfl:j=(arcsOf g (x:Int)).length:=by omega
          have hall:((arcsOf g (x:Int)).take (arcsOf g (x:Int)).length).flatMap (nextA g a x s)=nextI g a (xn+s):=by rw [List.take_length,HXN.out,nextI_at hlt2];rfl
          rw [hall,fill_next] at HRW
          clear hall
          go_wp2_with fail
          go_roundw
          case rel=>exact ⟨s+1,_,by omega,by go_num,HRW.out,hon⟩
          case measure=>simp [intOf];omega
     · obtain rfl:s=a.accept.length:=by omega
       have hall:xn+a.accept.length=(x+1) * a.accept.length:=by rw [HXN.out,Nat.succ_mul]
       rw [hall] at HRW
       clear hall
       go_wp2_with fail
       go_roundw
       case rel=>exact ⟨x+1,_,by omega,by go_num,HRW.out,hon⟩
       case measure=>simp [intOf];omega
  · obtain rfl:x=g.vals.length:=by omega
    have hs1:=HRW.out
    rw [<- HN.out,fill_all] at hs1
    have hln:hs.length=N:=by rw [hs1.len];simp
    have hs2:=hs1.sse cN_len (lo:=w.heap.size) (by omega) (by omega)
    rw [hln] at hs2
    have HS2:=Hd_ hs2
    have HBF:=Hd_ (hbw.trans (hon.below (B:=w.heap.size) (by omega) (by omega)))
    clear hs1 hs2 hln
    go_wp2_with fail
    go_ret
    exact ⟨_,rfl,by rw [HR.out,<- HN.out];exact HS2.out,HBF.out⟩
theorem elIntsT:ElemOk Tryz.prog 29 24 (.slice none 0 0) 1 24:=⟨Tryz.underlying29,by kernel_rfl,rfl,by omega⟩
theorem turn_row_len {N i k M:Nat} {next:Nat->List Nat} {cur row:List Nat} (h:k < N) (hr:(turnTo N next i cur)[k]?=some row) (hn:∀ m,m < i->(next m).length<=M) (hc:cur.length<=M):row.length<=(i+1) * M:=by
 rw [turn_at h] at hr
 injection hr with hr
 rw [<- hr,List.length_append]
 have h1:∀ (l:List Nat) (f:Nat->Option Nat),(l.filterMap f).length<=l.length:=fun l f=>List.length_filterMap_le f l
 have h2:∀ j,j<=i->((List.range j).flatMap fun m=>(next m).filterMap fun x=>if x=k then some m else none).length<=j * M:=by
  intro j
  induction j with
  | zero=>intro _;simp
  | succ j ih =>
    intro hj
    rw [List.range_succ,List.flatMap_append,List.length_append,Nat.succ_mul]
    have h3:=ih (by omega)
    have h4:=h1 (next j) (fun x=>if x=k then some j else none)
    have h5:=hn j (by omega)
    simp only [List.flatMap_cons,List.flatMap_nil,List.append_nil]
    omega
 have h6:=h2 i (Nat.le_refl _)
 have h7:=h1 cur (fun x=>if x=k then some i else none)
 rw [Nat.succ_mul]
 omega
set_option maxHeartbeats 4000000 in
set_option maxRecDepth 100000 in
theorem turned_any (v:Value) (N:Nat) (next:Nat->List Nat) (w:World) (hv:SSE 0 w.heap.size w cN 1 v ((List.range N).map next)) (hN:N<=60) (hnext:∀ i,i < N->(next i).length<=288/\∀ k ∈ next i,k < N) :
 Calls Tryz.prog 118 #[v] w fun e w'=>∃ v',e=.returned v'/\SSE w.heap.size w'.heap.size w' cN 1 v' ((List.range N).map (turnL N next))/\Below w.heap.size w w':=by
 obtain ⟨A5,c5,hv5,hl5,hm5⟩:=hv.shape
 have hlen5:((List.range N).map next).length=N:=by simp
 rw [hlen5] at hv5 hl5
 subst hv5
 have HV:=Hd_ hv
 have HNX:=Hd_ hnext
 clear hv hnext hlen5
 obtain ⟨R,hR⟩:∃ R,R=(List.range N).map (turnL N next):=⟨_,rfl⟩
 rw [<- hR]
 have HR:=Hd_ hR
 clear hR
 go_enter Tryz.func118,Tryz.ntmps118
 go_wp2_with (at_make;refine wpList_makeE (P:=Tryz.prog) cV (.slice none 0 0) elIntsT rfl rfl rfl _ _ rfl w.heap.size N _ (by rfl) (by rfl) rfl (by omega) (by unfold maxLen;omega) (by simp) ?_;intro w1 hrow1 hbel1
              have hrw:=Rws.made (base:=w.heap.size) (α:=Nat) (E:=cN) (k:=1) (rT:=3) hrow1
              rw [<- turn_zero N next] at hrw
              have HRW:=Hd_ hrw
              have hg1:=hrw.gLt.2
              clear hrow1 hrw)
 generalize hgb:w.heap.size=gb at *
 have HGB:=Hd_ hgb
 clear hgb
 go_loopw [13] (fun ii wr=>∃ (i:Nat) (hs:List Value),i<=N/\ii=.int .i64 (i:Int)/\Rws wr gb 24 3 cN 1 gb hs (turnTo N next i [])/\Below gb w wr) (fun ii _=>N - (intOf ii).toNat)
 case atStart=>exact ⟨0,_,Nat.zero_le _,rfl,HRW.out,hbel1⟩
 case round =>
  clear HRW hbel1
  obtain ⟨i,hs,hi,rfl,hrw,hbel⟩:=hrel
  have HRW:=Hd_ hrw
  clear hrw
  by_cases hlt:i < N
  · obtain ⟨b5,o5,A6,c6,rfl,-,hb5,d5,hl6,hm6,hI6,-⟩:=HV.out.row (by rw [HGB.out];exact Nat.le_refl _) (i:=i) (xs:=next i) (by simp [hlt])
    have d5:=(hbel.cell (p:=⟨b5,o5+i,none⟩) hb5).trans d5
    have hni:=HNX.out i hlt
    have HI6:=Hd_ hI6
    obtain ⟨hnl,hnk⟩:=hni
    have HNK:=Hd_ hnk
    clear hI6 hnk
    go_wp2_with fail
    go_loopw [20] (fun jj wr=>∃ (j:Nat) (hs:List Value),j<=(next i).length/\jj=.int .i64 (j:Int)/\Rws wr gb 24 3 cN 1 gb hs (turnTo N next i ((next i).take j))/\Below gb w wr) (fun jj _=>(next i).length - (intOf jj).toNat)
    case atStart=>exact ⟨0,_,Nat.zero_le _,rfl,HRW.out,hbel⟩
    case round =>
     clear d5 HRW hbel
     obtain ⟨j,hs,hj,rfl,hrw,hbel⟩:=hrel
     have HRW:=Hd_ hrw
     clear hrw
     by_cases hlt2:j < (next i).length
     · have hki:(next i)[j]?=some (next i)[j]:=List.getElem?_eq_getElem hlt2
       have hkn:=HNK.out _ (List.getElem_mem hlt2)
       generalize (next i)[j]=k at hki hkn
       obtain ⟨b7,o7,rfl,-,hb7,d7⟩:=HI6.out.nat hki
       have d7:=(hbel.cell (p:=⟨b7,o7+j,none⟩) hb7).trans d7
       have hb7w:=Nat.lt_trans hb7 HRW.out.gLt.2
       have hil:k < hs.length:=by rw [HRW.out.len,turn_len];exact hkn
       have hhi:hs[k]?=some hs[k]:=List.getElem?_eq_getElem hil
       generalize hs[k]=hv at hhi
       have hcv:=HRW.out.cell hhi
       have hfv:=HRW.out.frozen k
       have hxr:k < (turnTo N next i ((next i).take j)).length:=by rw [turn_len];exact hkn
       have hxk:(turnTo N next i ((next i).take j))[k]?=some (turnTo N next i ((next i).take j))[k]:=List.getElem?_eq_getElem hxr
       generalize (turnTo N next i ((next i).take j))[k]=row at hxk
       have hrl:row.length<=100000:=by
        have h1:=turn_row_len hkn hxk (M:=288) (fun m hm=>(HNX.out m (by omega)).1) (by rw [List.length_take];omega)
        have h2:=Nat.mul_le_mul_right 288 (show i+1<=60 by omega)
        omega
       have hro:=HRW.out.row k hv row hhi hxk
       have hgw:=HRW.out.gLt.2
       have hne1:some gb ≠ hv.ownBlock:=Ne.symm (HRW.out.far _ _ hhi)
       have HRO:=Hd_ hro
       have HHI:=Hd_ hhi
       have HXK:=Hd_ hxk
       have HKI:=Hd_ hki
       have HNE1:=Hd_ hne1
       clear hro hhi hxk hki hne1
       have hkN:(k:Int) < (N:Int):=by omega
       have hsw:=hbel.size
       rw [HGB.out] at hsw
       go_wp2_with (at_builtin;(refine wpList_append2 cN elInt rfl _ _ rfl gb hv row i 1 _ (by rfl) (HRO.out.alloc _) (by rfl) (heap_alloc_new _ _) rfl (cN_one _) (by omega) (by omega) (by simp;omega) ?_);intro g2 cp2 w3 hown3 hgr3 hat3 hlt3
                    have hcz:=hgr3.cell (kcell ((Below.refl _ _).alloc (Nat.le_refl _) _) hcv) HNE1.out
                    have hfz:=kfg hgr3 (p:=⟨gb,k,none⟩) HNE1.out (kcell ((Below.refl _ _).alloc (Nat.le_refl _) _) hcv) (kfb ((Below.refl _ _).alloc (Nat.le_refl _) _) hcv hfv)
                    have HO3:=Hd_ hown3
                    have HG3:=Hd_ hgr3
                    have HA3:=Hd_ hat3
                    clear hown3 hgr3 hat3)
       have hrF:=Rws.push (HRW.out.below (w':=wr.alloc (.cells #[.int .i64 (i:Int)] 3)) ((Below.refl _ _).alloc (Nat.le_refl _) _)) HHI.out HXK.out HO3.out HG3.out rfl HA3.out
       rw [turn_push hkn HXK.out,<- take_snoc HKI.out] at hrF
       have hbF:Below gb w (w3.setCell ⟨gb,k,none⟩ (.slice (some ⟨g2,0,none⟩) (row.length+1) cp2)) :=
        ((hbel.alloc (by omega) _).grown HG3.out (by simp;omega) (fun b hb=>(HRO.out.lt b hb).1)).setCell (Nat.le_refl _) _
       have HRF:=Hd_ hrF
       have HBF:=Hd_ hbF
       clear hrF hbF hcz hfz
       go_roundw
       case rel=>exact ⟨j+1,_,by omega,by go_num,HRF.out,HBF.out⟩
       case measure=>simp [intOf];omega
     · obtain rfl:j=(next i).length:=by omega
       have hall:turnTo N next i ((next i).take (next i).length)=turnTo N next (i+1) []:=by rw [List.take_length,turn_next]
       rw [hall] at HRW
       clear hall
       go_wp2_with fail
       go_roundw
       case rel=>exact ⟨i+1,_,by omega,by go_num,HRW.out,hbel⟩
       case measure=>simp [intOf];omega
  · obtain rfl:i=N:=by omega
    have hs1:=HRW.out
    rw [turn_all] at hs1
    have hln:hs.length=i:=by rw [hs1.len];simp
    have hs2:=hs1.sse cN_len (lo:=gb) (Nat.le_refl _) (Nat.le_refl _)
    rw [hln] at hs2
    have HS2:=Hd_ hs2
    clear hs1 hs2 hln
    go_wp2_with fail
    go_ret
    exact ⟨_,rfl,by rw [HR.out,HGB.out];exact HS2.out,by rw [HGB.out];exact hbel⟩
end Go.Proofs.YtjpdembmchnbgaaGreat
/-
 DERIVED: THE SHELF's CONTRACTS AT THIS DUMP,IN PLAIN WORDS (tools/lay-plain.mjs out of 'TryzShelf.lean',which tools/lay-shelf.mjs wrote): THE SAME DECLARATIONS UNDER THE SAME NAMES: 'import','namespace','open','def','theorem' AND NOTHING ELSE: no command of the shelf's: FOR A HAND-IN. Each laying: the table of numbers ('.._ren') and one theorem,a field a fact of the dump's own or the kernel's comparison;each contract: ONE APPLICATION.
-/
namespace Go.Proofs
open Go.Shelf
def Tryz.lays189_ren:Go.Shelf.Ren:=⟨fun | 189=>157 | 125=>177 | 257=>176 | 128=>202 | 129=>203 | 294=>193 | 295=>194 | 296=>195 | 297=>196 | 298=>197 | 299=>198 | 216=>199 | 300=>200 | 301=>201 | 328=>220 | 329=>221 | 330=>222 | 331=>223 | 332=>224 | 215=>225 | 343=>232 | n=>n,fun | 28=>24 | 3=>3 | 46=>197 | 0=>0 | 51=>215 | 53=>218 | 4=>4 | 183=>223 | 182=>222 | 131=>127 | 5=>5 | 9=>9 | 218=>242 | 222=>246 | 228=>252 | 229=>94 | n=>n,fun | n=>n⟩
theorem Tryz.lays189:Go.Proofs.Lays.n189 Tryz.prog Tryz.lays189_ren:={
 mixed:=by kernel_rfl
 f125:=Tryz.func177.trans (congrArg some (by kernel_rfl))
 f128:=Tryz.func202.trans (congrArg some (by kernel_rfl))
 f129:=Tryz.func203.trans (congrArg some (by kernel_rfl))
 f189:=Tryz.func157.trans (congrArg some (by kernel_rfl))
 f215:=Tryz.func225.trans (congrArg some (by kernel_rfl))
 f216:=Tryz.func199.trans (congrArg some (by kernel_rfl))
 f257:=Tryz.func176.trans (congrArg some (by kernel_rfl))
 f294:=Tryz.func193.trans (congrArg some (by kernel_rfl))
 f295:=Tryz.func194.trans (congrArg some (by kernel_rfl))
 f296:=Tryz.func195.trans (congrArg some (by kernel_rfl))
 f297:=Tryz.func196.trans (congrArg some (by kernel_rfl))
 f298:=Tryz.func197.trans (congrArg some (by kernel_rfl))
 f299:=Tryz.func198.trans (congrArg some (by kernel_rfl))
 f300:=Tryz.func200.trans (congrArg some (by kernel_rfl))
 f301:=Tryz.func201.trans (congrArg some (by kernel_rfl))
 f328:=Tryz.func220.trans (congrArg some (by kernel_rfl))
 f329:=Tryz.func221.trans (congrArg some (by kernel_rfl))
 f330:=Tryz.func222.trans (congrArg some (by kernel_rfl))
 f331:=Tryz.func223.trans (congrArg some (by kernel_rfl))
 f332:=Tryz.func224.trans (congrArg some (by kernel_rfl))
 f343:=Tryz.func232.trans (congrArg some (by kernel_rfl))
 t0:=Tryz.underlying0
 a0:=Tryz.isAgg0
 z0:=Tryz.sizeOf0
 v0:=Tryz.zeroValue0
 t3:=Tryz.underlying3
 a3:=Tryz.isAgg3
 z3:=Tryz.sizeOf3
 v3:=Tryz.zeroValue3
 t4:=Tryz.underlying4
 a4:=Tryz.isAgg4
 z4:=Tryz.sizeOf4
 v4:=Tryz.zeroValue4
 t5:=Tryz.underlying5
 a5:=Tryz.isAgg5
 z5:=Tryz.sizeOf5
 v5:=Tryz.zeroValue5
 t9:=Tryz.underlying9
 a9:=Tryz.isAgg9
 z9:=Tryz.sizeOf9
 v9:=Tryz.zeroValue9
 t28:=Tryz.underlying24
 a28:=Tryz.isAgg24
 z28:=Tryz.sizeOf24
 v28:=Tryz.zeroValue24
 t46:=Tryz.underlying197
 a46:=Tryz.isAgg197
 z46:=Tryz.sizeOf197
 v46:=Tryz.zeroValue197
 t51:=Tryz.underlying215
 a51:=Tryz.isAgg215
 z51:=Tryz.sizeOf215
 v51:=Tryz.zeroValue215
 t53:=Tryz.underlying218
 a53:=Tryz.isAgg218
 z53:=Tryz.sizeOf218
 v53:=Tryz.zeroValue218
 t131:=Tryz.underlying127
 a131:=Tryz.isAgg127
 z131:=Tryz.sizeOf127
 v131:=Tryz.zeroValue127
 t182:=Tryz.underlying222
 a182:=Tryz.isAgg222
 z182:=Tryz.sizeOf222
 v182:=Tryz.zeroValue222
 t183:=Tryz.underlying223
 a183:=Tryz.isAgg223
 z183:=Tryz.sizeOf223
 v183:=Tryz.zeroValue223
 t218:=Tryz.underlying242
 a218:=Tryz.isAgg242
 z218:=Tryz.sizeOf242
 v218:=Tryz.zeroValue242
 t222:=Tryz.underlying246
 a222:=Tryz.isAgg246
 z222:=Tryz.sizeOf246
 v222:=Tryz.zeroValue246
 t228:=Tryz.underlying252
 a228:=Tryz.isAgg252
 z228:=Tryz.sizeOf252
 v228:=Tryz.zeroValue252
 t229:=Tryz.underlying94
 a229:=Tryz.isAgg94
 z229:=Tryz.sizeOf94
 v229:=Tryz.zeroValue94 }
open Go.Sort Go.RowKit in
theorem Tryz.slices_Sort_int (blk off cap:Nat) (zs:List Int) (w:World) (hH:Holds (Value.int .i64) w blk off zs.toArray) (hblk:blk < w.heap.size) (hsz:zs.length < 4611686018427387904) :
 Calls Tryz.prog 157 #[.slice (some ⟨blk,off,none⟩) zs.length cap] w fun e w' =>
  e=.returned (.tuple #[])/\∃ n os,w'=grow (putRow (Value.int .i64) (Sort.ahead w n) blk off (zs.mergeSort fun x y=>decide (x<=y)).toArray) os:=Any.slices_Sort_int Tryz.lays189 blk off cap zs w hH hblk hsz
def Tryz.lays212_ren:Go.Shelf.Ren:=⟨fun | 212=>174 | 263=>190 | 264=>191 | n=>n,fun | 46=>197 | 51=>215 | 146=>216 | 53=>218 | 148=>219 | n=>n,fun | n=>n⟩
theorem Tryz.lays212:Go.Proofs.Lays.n212 Tryz.prog Tryz.lays212_ren:={
 mixed:=by kernel_rfl
 f212:=Tryz.func174.trans (congrArg some (by kernel_rfl))
 f263:=Tryz.func190.trans (congrArg some (by kernel_rfl))
 f264:=Tryz.func191.trans (congrArg some (by kernel_rfl))
 t46:=Tryz.underlying197
 a46:=Tryz.isAgg197
 z46:=Tryz.sizeOf197
 v46:=Tryz.zeroValue197
 t51:=Tryz.underlying215
 a51:=Tryz.isAgg215
 z51:=Tryz.sizeOf215
 v51:=Tryz.zeroValue215
 t53:=Tryz.underlying218
 a53:=Tryz.isAgg218
 z53:=Tryz.sizeOf218
 v53:=Tryz.zeroValue218
 t146:=Tryz.underlying216
 a146:=Tryz.isAgg216
 z146:=Tryz.sizeOf216
 v146:=Tryz.zeroValue216
 t148:=Tryz.underlying219
 a148:=Tryz.isAgg219
 z148:=Tryz.sizeOf219
 v148:=Tryz.zeroValue219 }
open Go.RowKit Go.Lib in
/-- math/bits.Mul: "Mul returns the full-width product of x and y": on a machine of 64 bits: Mul64's. (LAID: no walk: one application.) -/
theorem Tryz.bits_Mul (x y:Nat) (hx:x < 18446744073709551616) (hy:y < 18446744073709551616) (w:World) :
 Calls Tryz.prog 174 #[.int .u64 x,.int .u64 y] w fun e w'=>e=.returned (.tuple #[.int .u64 ((x * y / 18446744073709551616:Nat):Int),.int .u64 ((x * y % 18446744073709551616:Nat):Int)])/\w'=w:=Any.bits_Mul Tryz.lays212 x y hx hy w
def Tryz.lays107_ren:Go.Shelf.Ren:=⟨fun | 107=>122 | 108=>153 | n=>n,fun | 28=>24 | 3=>3 | 4=>4 | 0=>0 | n=>n,fun | n=>n⟩
theorem Tryz.lays107:Go.Proofs.Lays.n107 Tryz.prog Tryz.lays107_ren:={
 mixed:=by kernel_rfl
 f107:=Tryz.func122.trans (congrArg some (by kernel_rfl))
 f108:=Tryz.func153.trans (congrArg some (by kernel_rfl))
 t0:=Tryz.underlying0
 a0:=Tryz.isAgg0
 z0:=Tryz.sizeOf0
 v0:=Tryz.zeroValue0
 t3:=Tryz.underlying3
 a3:=Tryz.isAgg3
 z3:=Tryz.sizeOf3
 v3:=Tryz.zeroValue3
 t4:=Tryz.underlying4
 a4:=Tryz.isAgg4
 z4:=Tryz.sizeOf4
 v4:=Tryz.zeroValue4
 t28:=Tryz.underlying24
 a28:=Tryz.isAgg24
 z28:=Tryz.sizeOf24
 v28:=Tryz.zeroValue24 }
open Go.Lib in
/-- slices.Contains at []int: "Contains reports whether v is present in s.": IT RETURNS 'elements.contains v'; the world is as it was. ITS CALLEE slices.Index IS MET BY ITS OWN CONTRACT OFF THE SHELF (lay that first): no loop is walked here. (LAID: no walk: one application.) -/
theorem Tryz.slices_Contains_int (b off n c:Nat) (zs:List Int) (x:Int) (w:World) (hz:n<=zs.length) (hbig:n<=9223372036854775807) (hc:∀ j,j < zs.length->w.cell? ⟨b,off+j,none⟩=some (.int .i64 (zs.getD j 0))) :
 Calls Tryz.prog 122 #[.slice (some ⟨b,off,none⟩) n c,.int .i64 x] w fun e w'=>e=.returned (.bool ((zs.take n).contains x))/\w'=w:=Any.slices_Contains_int Tryz.lays107 b off n c zs x w hz hbig hc
open Go.Lib in
/-- The same at a slice of length 0, a nil one too. (LAID: no walk: one application.) -/
theorem Tryz.slices_Contains_int_empty (a:Option Addr) (c:Nat) (x:Int) (w:World) :
 Calls Tryz.prog 122 #[.slice a 0 c,.int .i64 x] w fun e w'=>e=.returned (.bool false)/\w'=w:=Any.slices_Contains_int_empty Tryz.lays107 a c x w
def Tryz.laysNm220_ren:Go.Shelf.Ren:=⟨fun | 20=>158 | n=>n,fun | 22=>24 | 3=>3 | 4=>4 | 0=>0 | n=>n,fun | n=>n⟩
theorem Tryz.laysNm220:Go.Proofs.Lays2.n20 Tryz.prog Tryz.laysNm220_ren:={
 mixed:=by kernel_rfl
 f20:=Tryz.func158.trans (congrArg some (by kernel_rfl))
 t0:=Tryz.underlying0
 a0:=Tryz.isAgg0
 z0:=Tryz.sizeOf0
 v0:=Tryz.zeroValue0
 t3:=Tryz.underlying3
 a3:=Tryz.isAgg3
 z3:=Tryz.sizeOf3
 v3:=Tryz.zeroValue3
 t4:=Tryz.underlying4
 a4:=Tryz.isAgg4
 z4:=Tryz.sizeOf4
 v4:=Tryz.zeroValue4
 t22:=Tryz.underlying24
 a22:=Tryz.isAgg24
 z22:=Tryz.sizeOf24
 v22:=Tryz.zeroValue24
 i3:=by kernel_rfl }
open Go.RowKit Go.Lib Go.Sort in
/-- slices.Compact at []int: "Compact replaces consecutive runs of equal elements with a single copy. This is like the uniq command found on Unix. Compact modifies the contents of the slice s and returns the modified slice, which may have a smaller length. Compact zeroes the elements between the new length and the original length. The result preserves the nilness of s.": IT RETURNS THE SLICE CUT TO 'Lib.compact zs'; ITS CELLS HOLD 'Lib.compact zs', THEN ZERO VALUES up to the old length; all else is as it was, but for the count of draws. IN THE WORDS OF slices.Sort's CONTRACT ('Holds', 'putRow'): so the everyday 'slices.Sort(xs); xs = slices.Compact(xs)' goes from the one contract to the other. It asks 'zs.length ≤ cap' (every slice's: the reslicing 's[:k]' looks at it). Length 0, nil: '.._empty'. (LAID: no walk: one application.) -/
theorem Tryz.slices_Compact_int (blk off cap:Nat) (zs:List Int) (w:World) (hH:Holds (Value.int .i64) w blk off zs.toArray) (hsz:zs.length<=9223372036854775807) (hcap:zs.length<=cap) :
 Calls Tryz.prog 158 #[.slice (some ⟨blk,off,none⟩) zs.length cap] w fun e w'=>e=.returned (.slice (some ⟨blk,off,none⟩) (Lib.compact zs).length cap)/\∃ q,w'=putRow (Value.int .i64) (Sort.ahead w q) blk off (Lib.compact zs ++ List.replicate (zs.length - (Lib.compact zs).length) 0).toArray:=Any.slices_Compact_int Tryz.laysNm220 blk off cap zs w hH hsz hcap
open Go.RowKit Go.Lib Go.Sort in
/-- The same at a slice of length 0, a nil one too: it comes back as it is. (LAID: no walk: one application.) -/
theorem Tryz.slices_Compact_int_empty (a:Option Addr) (cap:Nat) (w:World) :
 Calls Tryz.prog 158 #[.slice a 0 cap] w fun e w'=>e=.returned (.slice a 0 cap)/\w'=w:=Any.slices_Compact_int_empty Tryz.laysNm220 a cap w
open Go.RowKit Go.Sort in
/-- .. and plain. (LAID: no walk: one application.) -/
theorem Tryz.slices_Sort_int_none (p:Option Addr) (cap:Nat) (w:World) :
 Calls Tryz.prog 157 #[.slice p 0 cap] w fun e w'=>e=.returned (.tuple #[])/\w'=w:=Any.slices_Sort_int_none Tryz.lays189 p cap w
end Go.Proofs
namespace Go.Proofs.YtjpdembmchnbgaaGreat
open Go.ChangeShapes Go.WideShapes Go.ChangeAt Go.RowKit
attribute [local go_sem] ext_cell ext_frozen ext_lt ext_lt1 ext_lt2 ext_lt3 ltn2 ltn3 ltn13 lts1 lts2 lts3
theorem own_full {w:World} {base g n:Nat} {e:TypeId} {xs:List Value} (h:w.ownsRow base e 1 (.slice (some ⟨g,0,none⟩) n n) n xs):w.heap[g]?=some (.cells xs.toArray e (0,0)):=by
 obtain ⟨hl,h⟩:=h
 rcases h with ⟨h,_⟩ | ⟨g',cap,cur,hv,_,hg,_,_,hs,ht⟩
 · cases h
 · simp only [Value.slice.injEq,Option.some.injEq,Addr.mk.injEq,and_true,true_and] at hv
   obtain ⟨rfl,rfl⟩:=hv
   rw [hg,<- ht,List.take_of_length_le (by rw [Array.length_toList,hs];exact Nat.le_refl _)]
theorem full_own {w:World} {base g n:Nat} {e:TypeId} {xs:List Value} (h:w.heap[g]?=some (.cells xs.toArray e (0,0))) (hn:xs.length=n) (hb:base<=g) (hm:n<=maxLen):w.ownsRow base e 1 (.slice (some ⟨g,0,none⟩) n n) n xs :=
 ⟨by rw [hn,Nat.mul_one],.inr ⟨g,n,xs.toArray,rfl,hb,h,Nat.le_refl _,hm,by simpa using hn,by rw [Nat.mul_one,<- hn];simp⟩⟩
theorem op_copy {P:Program} {o:Oper} {a:Act} {w:World} {K:Act->World->Prop} {Q:Exit->Act->World->Prop} (hgd:o.guard=none) (d s:Operand) (dT sT:TypeId)
 (ho:o.op=.call { callee:=.builtin .copy,args:=#[d,s],argTypes:=#[dT,sT] }) (elem:TypeId) (hu:P.underlying dT=some (.slice elem)) (hsz:(P.info? elem).map (·.size)=some 1)
 (dp sp:Option Addr) (dLen dCap sLen sCap:Nat) (hd:a.eval d=.slice dp dLen dCap) (hs:a.eval s=.slice sp sLen sCap)
 (g off:Nat) (cur:List Value) (t:TypeId) (hg:w.heap[g]?=some (.cells cur.toArray t (0,0))) (cs:List Value) (hn:cs.length=Nat.min sLen dLen)
 (hpos:0 < cs.length->dp=some ⟨g,off,none⟩/\∃ ad,sp=some ad/\∀ j v,cs[j]?=some v->w.cell? (ad.add j)=some v)
 (hfit:off+cs.length<=cur.length) (h1:∀ v ∈ cs,v.oneCell'=true) (B:Nat) (w0:World) (hb:RowKit.Below B w0 w) (hBg:B<=g)
 (h:∀ w',RowKit.Hid (w'.heap[g]?=some (.cells (splice cur off cs).toArray t (0,0)))->RowKit.Below B w0 w'->K (a.put o.dst (goInt cs.length)) w'):Oper.wp P o a w K Q:=by
 have h2:=step_copy_splice (ops:=#[]) (E:=True) (Q:=Q) (K:=K) hgd d s dT sT ho elem hu hsz dp sp dLen dCap sLen sCap hd hs g off cur t hg cs hn hpos hfit h1 B w0 hb hBg h
 have hw:Region.wanted o (yielded #[] a.tmps)=true:=by simp [Region.wanted,hgd]
 rwa [if_pos hw] at h2
theorem flatI_rep (n:Nat) (x:Int):(List.replicate n x).flatMap cI=List.replicate n (.int .i64 x):=by
 induction n with
 | zero=>rfl
 | succ n ih=>rw [List.replicate_succ,List.flatMap_cons,ih];rfl
/-- n of x, then zeros -/
def repTo (x:Int) (N n:Nat):List Value:=List.replicate n (.int .i64 x) ++ List.replicate (N - n) (.int .i64 0)
theorem repTo_len {x:Int} {N n:Nat} (h:n<=N):(repTo x N n).length=N:=by simp [repTo];omega
theorem repTo_step {x:Int} {N n k:Nat} (h:n+k<=N):splice (repTo x N n) n (List.replicate k (.int .i64 x))=repTo x N (n+k):=by
 unfold splice repTo
 rw [List.take_append_of_le_length (by simp),List.take_of_length_le (by simp),List.drop_append,List.length_replicate,List.length_replicate]
 rw [List.drop_eq_nil_of_le (by simp),List.nil_append,List.drop_replicate,<- List.append_assoc,List.replicate_append_replicate]
 congr 2
 omega
set_option maxHeartbeats 2000000 in
set_option maxRecDepth 100000 in
theorem repeat_any (lv:Value) (x:Int) (N:Nat) (w:World) (hN:1<=N) (hN2:N<=100000) (hl:SlE w cI 1 lv [x]) :
 Calls Tryz.prog 152 #[lv,.int .i64 (N:Int)] w fun e w'=>∃ g,e=.returned (.slice (some ⟨g,0,none⟩) N N)/\w'.ownsRow w.heap.size 3 1 (.slice (some ⟨g,0,none⟩) N N) N ((List.replicate N x).flatMap cI)/\Below w.heap.size w w':=by
 obtain ⟨A1,c1,rfl,hl1,hm1,hC⟩:=hl.form
 obtain ⟨b,o,rfl,hb,hc⟩:=hC.int (i:=0) rfl
 have u1:IntKind.u64.wrap (1:Int)=1:=by rfl
 have u2:IntKind.u64.wrap (N:Int)=(N:Int):=by rw [IntKind.wrap_u64];omega
 have u3:((1 * N / 18446744073709551616:Nat):Int)=0:=by rw [Nat.one_mul,Nat.div_eq_of_lt (by omega)];rfl
 have u4:((1 * N % 18446744073709551616:Nat):Int)=(N:Int):=by rw [Nat.one_mul,Nat.mod_eq_of_lt (by omega)]
 have hmul:∀ w:World,Calls Tryz.prog 174 #[.int .u64 1,.int .u64 (N:Int)] w fun e w'=>e=.returned (.tuple #[.int .u64 0,.int .u64 (N:Int)])/\w'=w:=fun w=>(Tryz.bits_Mul 1 N (by omega) (by omega) w).mono fun e w' ⟨he,hw⟩=>⟨by rw [he,u3,u4],hw⟩
 have HMUL:=Hd_ hmul
 clear hl hC u3 u4 hmul
 simp only [List.length_singleton] at *
 go_enter Tryz.func152,Tryz.ntmps152
 go_wp2_with fail
 refine (HMUL.out _).mono ?_
 rintro e w' ⟨rfl,rfl⟩
 have u5:IntKind.i64.wrap (N:Int)=(N:Int):=IntWalk.i64_in _ (by omega)
 have hn0:decide ((N:Int) > 9223372036854775807)=false:=by simp;omega
 have hnews:∀ (w1:World),w1.cell? ⟨b,o,none⟩=some (.int .i64 x)->∀ (j:Nat) (v:Value),(List.replicate 1 (Value.int .i64 x))[j]?=some v->w1.cell? ((⟨b,o,none⟩:Addr).add j)=some v:=fun w1 h j v hj=>by
  rw [List.getElem?_replicate] at hj
  split at hj
  · obtain rfl:j=0:=by omega
    injection hj with hj
    subst hj
    simpa [Addr.add] using h
  · cases hj
 have HNEWS:=Hd_ hnews
 clear hnews
 go_wp2_with (first | (at_make;refine wpList_makeE (P:=Tryz.prog) cI 0 elInt rfl rfl rfl _ _ rfl w'.heap.size N _ (by rfl) (by rfl) rfl (by omega) (by unfold maxLen;omega) (by simp) ?_;intro w1 hrow1 hbel1;have HB1:=Hd_ (own_full hrow1);have hlt1:=(hrow1.lt _ rfl).2;have hc1:=kcell hbel1 hc;clear hrow1) | (refine wpList_copy_splice rfl (.tmp 31) (.tmp 32) 24 24 rfl 3 Tryz.underlying24 (by kernel_rfl) (some ⟨w'.heap.size,0,none⟩) (some ⟨b,o,none⟩) N N 1 c1 (by rfl) (by rfl) w'.heap.size 0 (repTo x N 0) 3 (by have h:=HB1.out;rw [flatI_rep] at h;simpa [repTo] using h) (List.replicate 1 (.int .i64 x)) (by simp [Nat.min_def];omega) (fun _=>⟨rfl,_,rfl,HNEWS.out _ hc1⟩) (by rw [repTo_len (Nat.zero_le _)];simp;omega) (by intro v hv;rw [List.eq_of_mem_replicate hv];rfl) w'.heap.size w' hbel1 (Nat.le_refl _) ?_;intro w2 hh2 hbel2;rw [repTo_step (by omega)] at hh2))
 obtain ⟨w0,rfl⟩:∃ w0:World,w0=w':=⟨_,rfl⟩
 go_loopw [8] (fun nn wr=>∃ n:Nat,1<=n/\n<=N/\nn=.int .i64 (n:Int)/\wr.heap[w0.heap.size]?=some (.cells (repTo x N n).toArray 3 (0,0))/\Below w0.heap.size w0 wr) (fun nn _=>N - (intOf nn).toNat)
 case atStart=>exact ⟨1,Nat.le_refl _,hN,rfl,by simpa using hh2.out,hbel2⟩
 case round =>
  clear hh2 hbel2
  obtain ⟨n,hn1,hn2,rfl,hblk,hbel⟩:=hrel
  have HB:=Hd_ hblk
  clear hblk
  by_cases hlt:n < N
  · obtain ⟨m,hm⟩:∃ m,m=Nat.min n (N - n):=⟨_,rfl⟩
    have hm1:1<=m/\m<=n/\n+m<=N:=by rw [hm];show 1<=min n (N - n)/\min n (N - n)<=n/\n+min n (N - n)<=N;omega
    have HM:=Hd_ hm
    clear hm
    have hsrc:∀ j v,(List.replicate m (Value.int .i64 x))[j]?=some v->wr.drew.cell? ((⟨w0.heap.size,0,none⟩:Addr).add j)=some v:=fun j v hj=>by
     rw [List.getElem?_replicate] at hj
     split at hj
     · injection hj with hj
       subst hj
       have hadd:(⟨w0.heap.size,0,none⟩:Addr).add j=⟨w0.heap.size,j,none⟩:=by unfold Addr.add;split <;> simp_all
       rw [hadd]
       show wr.cell? _=_
       rw [cell_of_row wr _ j _ _ _ HB.out]
       have hjn:j < n:=by omega
       simp [repTo,List.getElem?_append,hjn]
     · cases hj
    have HSRC:=Hd_ hsrc
    have hNn:¬ N=n:=by omega
    have q1:IntKind.i64.wrap ((n:Int)+(m:Int))=(n:Int)+(m:Int):=IntWalk.i64_in _ (by omega)
    clear hsrc
    go_wp2_with fail
    refine F_start 9 (fun _=>True) (by kernel_rfl) trivial (fun hS inv=>?_)
    refine F_tk 0 inv ?_
    try simp only [tA,tB,tC,Act.put,tE,tF,tG]
    clear inv;intro inv
    refine F_tk 1 inv ?_
    try simp only [tA,tB,tC,Act.put,tE,tF,tG]
    clear inv;intro inv
    refine F_tk 2 inv ?_
    try simp only [tA,tB,tC,Act.put,tE,tF,tG]
    clear inv;intro inv
    refine F_tk 3 inv ?_
    try simp only [tA,tB,tC,Act.put,tE,tF,tG]
    clear inv;intro inv
    refine F_tk 4 inv ?_
    try simp only [tA,tB,tC,Act.put,tE,tF,tG]
    clear inv;intro inv
    refine F_tk 5 inv ?_
    try simp only [tA,tB,tC,Act.put,tE,tF,tG]
    clear inv;intro inv
    refine F_tk 6 inv ?_
    try simp only [tA,tB,tC,Act.put,tE,tF,tG]
    clear inv;intro inv
    refine F_o1 7 inv ?_;intro K hK
    try simp only [tA,tB,tC]
    refine op_copy rfl _ _ 24 24 rfl 3 Tryz.underlying24 (by kernel_rfl) (some ⟨w0.heap.size,n,none⟩) (some ⟨w0.heap.size,0,none⟩) (N - n) (N - n) n N (by rfl) (by rfl) w0.heap.size n (repTo x N n) 3 HB.out (List.replicate m (.int .i64 x)) (by rw [List.length_replicate,HM.out]) (fun _=>⟨rfl,_,rfl,HSRC.out⟩) (by rw [repTo_len (by omega),List.length_replicate];omega) (by intro v hv;rw [List.eq_of_mem_replicate hv];rfl) w0.heap.size w0 hbel.drew (Nat.le_refl _) ?_
    intro w3 hh3 hbel3
    rw [repTo_step (by omega)] at hh3
    simp only [List.length_replicate,goInt]
    refine hK.out _ _ (trivial) (fun _ _=>?_)
    try simp only [tA,tB,tC,Act.put,tE,tF,tG]
    clear hK K inv hS;rename_i hS inv
    refine F_tk 8 inv ?_
    try simp only [tA,tB,tC,Act.put,tE,tF,tG]
    clear inv;intro inv
    refine F_l1 9 ?_;intro K hK
    go_simp
    refine hK _ _ ?_
    clear hK K inv hS
    go_wp2_with fail
    go_roundw
    case rel=>exact ⟨n+m,by omega,by omega,by go_num,hh3.out,hbel3⟩
    case measure=>simp [intOf];omega
  · obtain rfl:n=N:=by omega
    have hown:=full_own (base:=w0.heap.size) (n:=n) HB.out (repTo_len (Nat.le_refl _)) (Nat.le_refl _) (by unfold maxLen;omega)
    have hfl:repTo x n n=(List.replicate n x).flatMap cI:=by rw [flatI_rep];simp [repTo]
    rw [hfl] at hown
    have HO:=Hd_ hown
    clear hown hfl
    go_wp2_with fail
    go_ret
    exact ⟨_,rfl,HO.out,hbel⟩
end Go.Proofs.YtjpdembmchnbgaaGreat
