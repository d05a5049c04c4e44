/- 'laws.FnRelations' returns true for every list of bytes, without any condition: inversion reverses composition, a closure is reflexive and transitive, and the reversed expression has the inverse relation. -/
import Derived.Test.YtloeghbhoflabaaGreatOnlzMBBPDBAM
import Derived.Test.YtloeghbhoflabaaGreatOnlzMBOLNCNE
import Derived.Test.YtloeghbhoflabaaGreatOnlzJDDHLKGG
import Derived.Test.YtloeghbhoflabaaGreatOnlzGLOCKGLP
import Derived.Test.YtloeghbhoflabaaGreatOnlzBNJPFELJ
import Derived.Deep.DeepCutAuto
set_option linter.unusedVariables false
set_option linter.unusedSimpArgs false
namespace Go.Proofs.YtloeghbhoflabaaGreat.fnRelations
open Go.ChangeShapes Go.WideShapes Go.ChangeAt Go.RowKit
attribute [local go_sem] ext_cell ext_frozen ext_lt ext_lt1 ext_lt2 ext_lt3 ltn2 ltn3 ltn13 lts1 lts2 lts3
theorem inv_len (l:List Pr):(invertL l).length<=l.length:=by simpa [invertL] using psetL_len (l.map fun p=>(p.2,p.1))
theorem comp_len {a b:List Pr} {n m:Nat} (ha:a.length<=n) (hb:b.length<=m):(composeL a b).length<=n * m:=Nat.le_trans (psetL_len _) (Nat.le_trans (compL_len a b) (Nat.mul_le_mul ha hb))
theorem ident_len (n:Int):(identityOf n).length<=5:=by
 rw [identityOf]
 split
 · simp
 · simp [idPairs];omega
theorem nil_part {l:List Pr} (h:l=[]):true=decide (l=[]):=by rw [h];rfl
theorem same_eval (g:Gr) (l:List Tok):invertL (evalE g l).1=(evalE g (revE l)).1/\(evalE g (revE l)).2=(evalE g l).2:=by
 rw [eval_rev]
 exact ⟨rfl,rfl⟩
set_option maxRecDepth 100000 in
set_option maxHeartbeats 16000000 in
theorem walk (w:World) (v0:Value) (bs:List Int) (hv0:SlI 0 w.heap.size w cU 1 v0 bs) :
 Calls Tryz.prog 3 #[v0] w fun e w'=>e=.returned (.bool true)/\Below w.heap.size w w':=by
 have HV:=Hd_ hv0
 obtain ⟨A0,c0,rfl,hl0,hm0,-⟩:=hv0
 by_cases hbig:1048576 < bs.length
 · go_enter Tryz.func3,Tryz.ntmps3
   go_wp2_with fail
   refine (big_yes _ _ _ _ hbig (by omega)).mono ?_
   rintro e w' ⟨rfl,rfl⟩
   go_wp2_with fail
   go_ret
   exact ⟨rfl,Below.refl _ _⟩
 go_enter Tryz.func3,Tryz.ntmps3
 go_wp2_with fail
 refine (big_no _ _ _ _ hbig).mono ?_
 rintro e w' ⟨rfl,rfl⟩
 clear hbig hl0 hm0
 go_wp2_with fail
 refine (drawCompose_any _ bs _ HV.out).mono ?_
 rintro e w1 ⟨va,vb,a,b,rfl,ha,hla,hb,hlb,hbz⟩
 have HVA:=Hd_ ha
 have HVB:=Hd_ hb
 have HB:=Hd_ hbz
 have HLA:=Hd_ hla
 have HLB:=Hd_ hlb
 have HV:=Hd_ (SlE.keep HV.out hbz)
 clear ha hb hla hlb hbz
 go_wp2_with fail
 refine (implCompose _ _ a b _ HVA.out HVB.out (Nat.le_trans HLA.out (by omega)) (Nat.le_trans HLB.out (by omega))).mono ?_
 rintro e w2 ⟨vx,rfl,hov,hbz⟩
 have HX:=Hd_ ((hov.sl cPr_len).mono (Nat.zero_le _) (Nat.le_refl _))
 have HB:=Hd_ (below_trans HB.out hbz)
 clear hov
 have HV:=Hd_ (SlE.keep HV.out hbz)
 have HVA:=Hd_ (SlE.keep HVA.out hbz)
 have HVB:=Hd_ (SlE.keep HVB.out hbz)
 clear hbz
 go_wp2_with fail
 refine (specCompose _ _ a b _ HVA.out HVB.out (Nat.le_trans HLA.out (by omega)) (Nat.le_trans HLB.out (by omega))).mono ?_
 rintro e w3 ⟨vx2,rfl,hov,hbz⟩
 have HX2:=Hd_ ((hov.sl cPr_len).mono (Nat.zero_le _) (Nat.le_refl _))
 have HB:=Hd_ (below_trans HB.out hbz)
 clear hov
 have HV:=Hd_ (SlE.keep HV.out hbz)
 have HVA:=Hd_ (SlE.keep HVA.out hbz)
 have HVB:=Hd_ (SlE.keep HVB.out hbz)
 have HX:=Hd_ (SlE.keep HX.out hbz)
 clear hbz
 go_wp2_with fail
 refine (specEqualPairs_same _ _ _ _ HX.out HX2.out).mono ?_
 rintro e w4 ⟨rfl,hbz⟩
 have HB:=Hd_ (below_trans HB.out hbz)
 have HV:=Hd_ (SlE.keep HV.out hbz)
 have HVA:=Hd_ (SlE.keep HVA.out hbz)
 have HVB:=Hd_ (SlE.keep HVB.out hbz)
 have HX:=Hd_ (SlE.keep HX.out hbz)
 clear hbz HX2
 go_wp2_with fail
 refine (implInvert _ _ _ HX.out (Nat.le_trans (comp_len HLA.out HLB.out) (by omega))).mono ?_
 rintro e w5 ⟨vi,rfl,hov,hbz⟩
 have HI:=Hd_ ((hov.sl cPr_len).mono (Nat.zero_le _) (Nat.le_refl _))
 have HB:=Hd_ (below_trans HB.out hbz)
 clear hov
 have HV:=Hd_ (SlE.keep HV.out hbz)
 have HVA:=Hd_ (SlE.keep HVA.out hbz)
 have HVB:=Hd_ (SlE.keep HVB.out hbz)
 clear hbz HX
 go_wp2_with fail
 refine (implInvert _ _ _ HVB.out (Nat.le_trans HLB.out (by omega))).mono ?_
 rintro e w6 ⟨vib,rfl,hov,hbz⟩
 have HIB:=Hd_ ((hov.sl cPr_len).mono (Nat.zero_le _) (Nat.le_refl _))
 have HB:=Hd_ (below_trans HB.out hbz)
 clear hov
 have HV:=Hd_ (SlE.keep HV.out hbz)
 have HVA:=Hd_ (SlE.keep HVA.out hbz)
 have HI:=Hd_ (SlE.keep HI.out hbz)
 clear hbz HVB
 go_wp2_with fail
 refine (implInvert _ _ _ HVA.out (Nat.le_trans HLA.out (by omega))).mono ?_
 rintro e w7 ⟨via,rfl,hov,hbz⟩
 have HIA:=Hd_ ((hov.sl cPr_len).mono (Nat.zero_le _) (Nat.le_refl _))
 have HB:=Hd_ (below_trans HB.out hbz)
 clear hov
 have HV:=Hd_ (SlE.keep HV.out hbz)
 have HIB:=Hd_ (SlE.keep HIB.out hbz)
 have HI:=Hd_ (SlE.keep HI.out hbz)
 clear hbz HVA
 go_wp2_with fail
 refine (implCompose _ _ (invertL b) (invertL a) _ HIB.out HIA.out (Nat.le_trans (inv_len b) (Nat.le_trans HLB.out (by omega))) (Nat.le_trans (inv_len a) (Nat.le_trans HLA.out (by omega)))).mono ?_
 rintro e w8 ⟨vj,rfl,hov,hbz⟩
 have HJ:=Hd_ ((hov.sl cPr_len).mono (Nat.zero_le _) (Nat.le_refl _))
 have HB:=Hd_ (below_trans HB.out hbz)
 clear hov
 have HV:=Hd_ (SlE.keep HV.out hbz)
 have HI:=Hd_ (SlE.keep HI.out hbz)
 clear hbz HIA HIB
 have HJ:=Hd_ (show SlE w8 cPr 2 vj (invertL (composeL a b)) by rw [inv_comp];exact HJ.out)
 go_wp2_with fail
 refine (specEqualPairs_same _ _ _ _ HI.out HJ.out).mono ?_
 rintro e w9 ⟨rfl,hbz⟩
 have HB:=Hd_ (below_trans HB.out hbz)
 have HV:=Hd_ (SlE.keep HV.out hbz)
 clear hbz HI HJ HLA HLB
 go_wp2_with fail
 refine (drawClosure_any _ bs _ HV.out).mono ?_
 rintro e u1 ⟨n,vr,r,rfl,hr,hlr,hbz⟩
 have HR:=Hd_ hr
 have HLR:=Hd_ hlr
 have HB:=Hd_ (below_trans HB.out hbz)
 have HV:=Hd_ (SlE.keep HV.out hbz)
 clear hr hlr hbz
 go_wp2_with fail
 refine (implClosure n _ r _ HR.out (Nat.le_trans HLR.out (by omega))).mono ?_
 rintro e u2 ⟨vc,rfl,hov,hbz⟩
 have HC:=Hd_ ((hov.sl cPr_len).mono (Nat.zero_le _) (Nat.le_refl _))
 have HB:=Hd_ (below_trans HB.out hbz)
 clear hov
 have HV:=Hd_ (SlE.keep HV.out hbz)
 have HR:=Hd_ (SlE.keep HR.out hbz)
 clear hbz
 have hcv:=HC.out
 obtain ⟨A1,c1,rfl,hl1,hm1,-⟩:=hcv
 obtain ⟨N,hN⟩:∃ N,(closureL n r).length=N:=⟨_,rfl⟩
 have HC:=Hd_ (show SlE u2 cPr 2 (.slice A1 N c1) (closureL n r) from hN ▸ HC.out)
 rw [hN] at hl1 ⊢
 have HN:=Hd_ hN
 clear hl1 hm1 hN
 go_upto_region 9 with fail
 go_cut [93] (fun s93 wx=>s93=.bool false/\Below u2.heap.size u2 wx)
 case first =>
  clear HV HB
  have HB:=Hd_ (Below.refl u2.heap.size u2)
  go_wp2_with fail
  refine (specClosure n _ r _ HR.out (Nat.le_trans HLR.out (by omega))).mono ?_
  rintro e u3 ⟨vc2,rfl,hov,hbz⟩
  have HC2:=Hd_ ((hov.sl cPr_len).mono (Nat.zero_le _) (Nat.le_refl _))
  have HB:=Hd_ (below_trans HB.out hbz)
  clear hov
  have HR:=Hd_ (SlE.keep HR.out hbz)
  have HC:=Hd_ (SlE.keep HC.out hbz)
  clear hbz
  go_wp2_with fail
  refine (specEqualPairs_same _ _ _ _ HC.out HC2.out).mono ?_
  rintro e u4 ⟨rfl,hbz⟩
  have HB:=Hd_ (below_trans HB.out hbz)
  have HR:=Hd_ (SlE.keep HR.out hbz)
  have HC:=Hd_ (SlE.keep HC.out hbz)
  clear hbz HC2
  have hcl:0 < (closureL n r).length->_:=fun h=>clos_laws h
  have hle:=closure_len n r
  rw [HN.out] at hcl hle
  have HLE:=Hd_ (show (closureL n r).length<=25 from closure_len n r)
  clear HN hle
  obtain ⟨L,hL⟩:∃ L,closureL n r=L:=⟨_,rfl⟩
  rw [hL] at HC hcl HLE
  clear hL
  by_cases h0:0 < N
  · have hk:=hcl h0
    have HP1:=Hd_ hk.1
    have HP2:=Hd_ hk.2.1
    have HP5:=Hd_ hk.2.2
    have hgt:decide ((N:Int) > 0)=true:=by simpa using h0
    have hgt2:decide (0 < (N:Int))=true:=by simpa using h0
    have hgt3:decide (0 < N)=true:=by simpa using h0
    clear hk hcl h0
    go_wp2_with fail
    refine (implIdentity n _).mono ?_
    rintro e u5 ⟨vi,rfl,hov,hbz⟩
    have HI:=Hd_ ((hov.sl cPr_len).mono (Nat.zero_le _) (Nat.le_refl _))
    have HB:=Hd_ (below_trans HB.out hbz)
    clear hov
    have HR:=Hd_ (SlE.keep HR.out hbz)
    have HC:=Hd_ (SlE.keep HC.out hbz)
    clear hbz
    go_wp2_with fail
    refine (lawPart_any _ _ _ _ _ HI.out HC.out (Nat.le_trans (ident_len n) (by omega)) true (nil_part HP1.out)).mono ?_
    rintro e u6 ⟨rfl,hbz⟩
    have HB:=Hd_ (below_trans HB.out hbz)
    have HR:=Hd_ (SlE.keep HR.out hbz)
    have HC:=Hd_ (SlE.keep HC.out hbz)
    clear hbz HI hgt hgt2 hgt3
    go_wp2_with fail
    refine (implCompose _ _ L L _ HC.out HC.out (Nat.le_trans HLE.out (by omega)) (Nat.le_trans HLE.out (by omega))).mono ?_
    rintro e u7 ⟨vk,rfl,hov,hbz⟩
    have HK:=Hd_ ((hov.sl cPr_len).mono (Nat.zero_le _) (Nat.le_refl _))
    have HB:=Hd_ (below_trans HB.out hbz)
    clear hov
    have HR:=Hd_ (SlE.keep HR.out hbz)
    have HC:=Hd_ (SlE.keep HC.out hbz)
    clear hbz
    go_wp2_with fail
    refine (lawPart_any _ _ _ _ _ HK.out HC.out (Nat.le_trans (comp_len HLE.out HLE.out) (by omega)) true (nil_part HP2.out)).mono ?_
    rintro e u8 ⟨rfl,hbz⟩
    have HB:=Hd_ (below_trans HB.out hbz)
    have HR:=Hd_ (SlE.keep HR.out hbz)
    have HC:=Hd_ (SlE.keep HC.out hbz)
    clear hbz HK
    by_cases h5:n=5
    · have h5d:decide (n=5)=true:=by simpa using h5
      have HP6:=Hd_ (HP5.out h5)
      have h5e:(n==5)=true:=by simpa using h5
      clear HP5 h5
      go_wp2_with fail
      refine (lawPart_any _ _ _ _ _ HR.out HC.out (Nat.le_trans HLR.out (by omega)) true (nil_part HP6.out)).mono ?_
      rintro e u9 ⟨rfl,hbz⟩
      have HB:=Hd_ (below_trans HB.out hbz)
      clear hbz
      go_wp2_with fail
      go_meet
      exact ⟨rfl,HB.out⟩
    · have h5d:decide (n=5)=false:=by simpa using h5
      have h5e:(n==5)=false:=by simpa using h5
      clear HP5
      go_wp2_with fail
      go_meet
      exact ⟨rfl,HB.out⟩
  · have hgt:decide ((N:Int) > 0)=false:=by simpa using h0
    have hgt2:decide (0 < (N:Int))=false:=by simpa using h0
    have hgt3:decide (0 < N)=false:=by simpa using h0
    clear h0 hcl
    go_wp2_with fail
    go_meet
    exact ⟨rfl,HB.out⟩
 case rest =>
  obtain ⟨rfl,hbc⟩:=hcut
  have HB:=Hd_ (below_trans HB.out hbc)
  have HV:=Hd_ (SlE.keep HV.out hbc)
  clear hbc HC HR HLR HN
  go_wp2_with fail
  refine (drawPower_any _ bs _ HV.out).mono ?_
  rintro e p1 ⟨m,vp,p,lo,hi,rfl,hp,hlp,hbz⟩
  have HP:=Hd_ hp
  have HLP:=Hd_ hlp
  have HB:=Hd_ (below_trans HB.out hbz)
  have HV:=Hd_ (SlE.keep HV.out hbz)
  clear hp hlp hbz
  go_wp2_with fail
  refine (implPower m _ p lo hi _ HP.out (Nat.le_trans HLP.out (by omega))).mono ?_
  rintro e p2 ⟨vq,rfl,hov,hbz⟩
  have HQ:=Hd_ ((hov.sl cPr_len).mono (Nat.zero_le _) (Nat.le_refl _))
  have HB:=Hd_ (below_trans HB.out hbz)
  clear hov
  have HV:=Hd_ (SlE.keep HV.out hbz)
  have HP:=Hd_ (SlE.keep HP.out hbz)
  clear hbz
  go_wp2_with fail
  refine (specPower m _ p lo hi _ HP.out (Nat.le_trans HLP.out (by omega))).mono ?_
  rintro e p3 ⟨vq2,rfl,hov,hbz⟩
  have HQ2:=Hd_ ((hov.sl cPr_len).mono (Nat.zero_le _) (Nat.le_refl _))
  have HB:=Hd_ (below_trans HB.out hbz)
  clear hov
  have HV:=Hd_ (SlE.keep HV.out hbz)
  have HQ:=Hd_ (SlE.keep HQ.out hbz)
  clear hbz HP HLP
  go_wp2_with fail
  refine (specEqualPairs_same _ _ _ _ HQ.out HQ2.out).mono ?_
  rintro e p4 ⟨rfl,hbz⟩
  have HB:=Hd_ (below_trans HB.out hbz)
  have HV:=Hd_ (SlE.keep HV.out hbz)
  clear hbz HQ HQ2
  go_wp2_with fail
  refine (drawLetter_any _ bs _ HV.out).mono ?_
  rintro e q1 ⟨vg,g,lt,rfl,hgv,-,hbz⟩
  obtain ⟨A1,n1,c1,A2,n2,c2,rfl⟩:=hgv.shape
  have hal:=(Below.refl q1.heap.size q1).alloc (Nat.le_refl _) (.cells #[.slice A1 n1 c1,.slice A2 n2 c2] 40)
  have bg:=Blk.new q1 40 #[.slice A1 n1 c1,.slice A2 n2 c2] _ rfl
  have HGV:=Hd_ (hgv.keep hal)
  have HB:=Hd_ (below_trans HB.out (below_trans hbz hal))
  have HV:=Hd_ (SlE.keep HV.out hbz)
  have HV:=Hd_ (SlE.keep HV.out hal)
  clear hal hgv hbz
  go_upto_region 15 with fail
  generalize (q1.alloc (.cells #[.slice A1 n1 c1,.slice A2 n2 c2] 40))=W at *
  have x0:W.cell? ⟨q1.heap.size,0,none⟩=some (.slice A1 n1 c1):=by exact bg.cell 0
  have x1:W.cell? ⟨q1.heap.size,1,none⟩=some (.slice A2 n2 c2):=by exact bg.cell 1
  clear bg
  refine F_start 7 (fun w'=>w'.cell? ⟨q1.heap.size,0,none⟩=some (.slice A1 n1 c1)/\w'.cell? ⟨q1.heap.size,1,none⟩=some (.slice A2 n2 c2)) (by kernel_rfl) (by exact ⟨x0,x1⟩) (fun hS inv=>?_)
  refine F_tk 0 inv ?_
  try simp only [tA,tB,tC,Act.put,tE,tF,tG]
  clear inv;intro inv
  refine F_tk 1 inv ?_
  try simp only [tA,tB,tC,Act.put,tE,tF,tG]
  clear inv;intro inv
  refine F_tk 3 inv ?_
  try simp only [tA,tB,tC,Act.put,tE,tF,tG]
  clear inv;intro inv
  refine F_tk 4 inv ?_
  try simp only [tA,tB,tC,Act.put,tE,tF,tG]
  clear inv;intro inv
  have hd:=(Below.refl W.heap.size W).drew
  have HGV:=Hd_ (HGV.out.keep hd)
  have HB:=Hd_ (below_trans HB.out hd)
  have HV:=Hd_ (SlE.keep (w':=W.drew) HV.out hd)
  clear x0 x1 hd
  refine F_o1 2 inv ?_;intro K hK
  try simp only [tA,tB,tC]
  go_simp
  refine (implLetter _ g lt _ HGV.out).mono ?_
  rintro e q2 ⟨vl,rfl,hov,hbz⟩
  have HL:=Hd_ ((hov.sl cPr_len).mono (Nat.zero_le _) (Nat.le_refl _))
  have HB:=Hd_ (below_trans HB.out hbz)
  clear hov
  refine hK.out _ _ (kB2 hbz hS) (fun _ _=>?_)
  try simp only [tA,tB,tC,Act.put,tE,tF,tG]
  clear hK K inv hS;rename_i hS inv
  have HGV:=Hd_ (HGV.out.keep hbz)
  have HV:=Hd_ (SlE.keep HV.out hbz)
  clear hbz
  refine F_o1 5 inv ?_;intro K hK
  try simp only [tA,tB,tC]
  go_simp
  refine (specLetter _ g lt _ HGV.out).mono ?_
  rintro e q3 ⟨vl2,rfl,hov,hbz⟩
  have HL2:=Hd_ ((hov.sl cPr_len).mono (Nat.zero_le _) (Nat.le_refl _))
  have HB:=Hd_ (below_trans HB.out hbz)
  clear hov
  refine hK.out _ _ (kB2 hbz hS) (fun _ _=>?_)
  try simp only [tA,tB,tC,Act.put,tE,tF,tG]
  clear hK K inv hS;rename_i hS inv
  have HV:=Hd_ (SlE.keep HV.out hbz)
  have HL:=Hd_ (SlE.keep HL.out hbz)
  clear hbz HGV
  refine F_o1 6 inv ?_;intro K hK
  try simp only [tA,tB,tC]
  go_simp
  refine (specEqualPairs_same _ _ _ _ HL.out HL2.out).mono ?_
  rintro e q4 ⟨rfl,hbz⟩
  have HB:=Hd_ (below_trans HB.out hbz)
  refine hK.out _ _ (kB2 hbz hS) (fun _ _=>?_)
  try simp only [tA,tB,tC,Act.put,tE,tF,tG]
  clear hK K inv hS;rename_i hS inv
  have HV:=Hd_ (SlE.keep HV.out hbz)
  clear hbz HL HL2
  refine F_l1 7 ?_;intro K hK
  go_simp
  refine hK _ _ ?_
  clear hK K
  go_wp2_with fail
  refine (drawEvaluate_any _ bs _ HV.out).mono ?_
  rintro e r1 ⟨vg,g,ss,l,rfl,hgv,-,hsl,hll,hbz⟩
  obtain ⟨A1,n1,c1,A2,n2,c2,rfl⟩:=hgv.shape
  obtain ⟨A3,n3,c3,rfl⟩:=SlI.shape hsl
  have hal:=((Below.refl r1.heap.size r1).alloc (Nat.le_refl _) (.cells #[.slice A1 n1 c1,.slice A2 n2 c2] 40)).alloc (by simp) (.cells #[.slice A3 n3 c3] 46)
  have bg:=(Blk.new r1 40 #[.slice A1 n1 c1,.slice A2 n2 c2] _ rfl).alloc (.cells #[.slice A3 n3 c3] 46)
  have be:=Blk.new (r1.alloc (.cells #[.slice A1 n1 c1,.slice A2 n2 c2] 40)) 46 #[.slice A3 n3 c3] (r1.heap.size+1) (by simp)
  have HGV:=Hd_ (hgv.keep hal)
  have HSL:=Hd_ (SlE.keep hsl hal)
  have HLL:=Hd_ hll
  have HB:=Hd_ (below_trans HB.out (below_trans hbz hal))
  clear hal hgv hsl hbz HV hll
  go_upto_region 18 with fail
  generalize ((r1.alloc (.cells #[.slice A1 n1 c1,.slice A2 n2 c2] 40)).alloc (.cells #[.slice A3 n3 c3] 46))=U at *
  have x0:U.cell? ⟨r1.heap.size,0,none⟩=some (.slice A1 n1 c1):=by exact bg.cell 0
  have x1:U.cell? ⟨r1.heap.size,1,none⟩=some (.slice A2 n2 c2):=by exact bg.cell 1
  have y0:U.cell? ⟨r1.heap.size+1,0,none⟩=some (.slice A3 n3 c3):=by exact be.cell 0
  clear bg be
  have hse:=same_eval g l
  have hel:=evalE_len g l
  have HEI:=Hd_ (implEvaluate _ _ g l U HGV.out HSL.out)
  have HEJ:=Hd_ (fun (ss:Value) (W:World) h1 h2=>implEvaluate (.agg #[.slice A1 n1 c1,.slice A2 n2 c2]) ss g (revE l) W h1 h2)
  unfold EvOut at HEI HEJ
  obtain ⟨E,hE⟩:∃ E,E=evalE g l:=⟨_,rfl⟩
  obtain ⟨E2,hE2⟩:∃ E2,E2=evalE g (revE l):=⟨_,rfl⟩
  rw [<- hE] at hse hel HEI
  rw [<- hE2] at hse HEJ
  clear hE hE2
  obtain ⟨X,one⟩:=E
  obtain ⟨Y,two⟩:=E2
  simp only at hse hel HEI HEJ
  obtain ⟨hx,rfl⟩:=hse
  have HX:=Hd_ hx
  have HEL:=Hd_ hel
  clear hx hel
  go_wp2_with fail
  refine HEI.out.mono ?_
  rintro e r2 ⟨vy,rfl,hov,hbz⟩
  have HY:=Hd_ ((hov.sl cPr_len).mono (Nat.zero_le _) (Nat.le_refl _))
  have HB:=Hd_ (below_trans HB.out hbz)
  have HGV:=Hd_ (HGV.out.keep hbz)
  have HSL:=Hd_ (SlE.keep HSL.out hbz)
  have x0:=kcell hbz x0
  have x1:=kcell hbz x1
  have y0:=kcell hbz y0
  clear hov hbz HEI
  go_wp2_with fail
  refine (reverseExpr_any _ l _ HSL.out (Nat.le_trans HLL.out (by omega))).mono ?_
  rintro e r3 ⟨vf,is,rfl,hfs,hbz⟩
  obtain ⟨A4,n4,c4,rfl⟩:=SlI.shape hfs
  have hal:=(Below.refl r3.heap.size r3).alloc (Nat.le_refl _) (.cells #[.slice A4 n4 c4] 46)
  have bf:=Blk.new r3 46 #[.slice A4 n4 c4] _ rfl
  have hbx:=below_trans hbz hal
  have HF:=Hd_ (SlE.keep hfs hal)
  have HB:=Hd_ (below_trans HB.out hbx)
  have HGV:=Hd_ (HGV.out.keep hbx)
  have HY:=Hd_ (SlE.keep HY.out hbx)
  have x0:=kcell hbx x0
  have x1:=kcell hbx x1
  have y0:=kcell hbx y0
  clear hbx hal hbz hfs HSL
  go_upto_region 20 with fail
  generalize (r3.alloc (.cells #[.slice A4 n4 c4] 46))=U3 at *
  have z0:U3.cell? ⟨r3.heap.size,0,none⟩=some (.slice A4 n4 c4):=by exact bf.cell 0
  clear bf
  go_wp2_with fail
  refine (HEJ.out _ _ HGV.out HF.out).mono ?_
  rintro e r4 ⟨vz,rfl,hov,hbz⟩
  have HZ:=Hd_ ((hov.sl cPr_len).mono (Nat.zero_le _) (Nat.le_refl _))
  have HB:=Hd_ (below_trans HB.out hbz)
  have HY:=Hd_ (SlE.keep HY.out hbz)
  clear hov hbz HEJ x0 x1 y0 z0 HF HGV
  have hoo:(two==two)=true:=by simp
  go_wp2_with fail
  refine (implInvert _ _ _ HY.out (Nat.le_trans HEL.out (by omega))).mono ?_
  rintro e r5 ⟨vi,rfl,hov,hbz⟩
  have HI:=Hd_ ((hov.sl cPr_len).mono (Nat.zero_le _) (Nat.le_refl _))
  have HB:=Hd_ (below_trans HB.out hbz)
  clear hov
  have HZ:=Hd_ (SlE.keep HZ.out hbz)
  clear hbz HY
  have HI:=Hd_ (show SlE r5 cPr 2 vi Y from HX.out ▸ HI.out)
  go_wp2_with fail
  refine (specEqualPairs_same _ _ _ _ HI.out HZ.out).mono ?_
  rintro e r6 ⟨rfl,hbz⟩
  have HB:=Hd_ (below_trans HB.out hbz)
  go_wp2_with fail
  go_ret
  exact ⟨rfl,HB.out⟩
end Go.Proofs.YtloeghbhoflabaaGreat.fnRelations
namespace Go.Proofs.YtloeghbhoflabaaGreat.fnRelations
open Go.ChangeShapes Go.WideShapes Go.ChangeAt Go.RowKit
theorem own:ownKnob Tryz.prog.godebug=none:=by kernel_rfl
theorem laidOut:laidOutB Tryz.prog=true:=by kernel_rfl
set_option maxRecDepth 100000 in
theorem lifted (os:Os) (started:os.Started) (H:Type) (enc:TypeId × Value->H) :
 ReturnsInHanded {} Tryz.checked os 3 .any (Rows.fnRelationsSpec.pre6 enc Tryz.prog Tryz.f3 Rows.fnRelationsRow.domain false) (Rows.fnRelationsSpec.post enc Tryz.prog Tryz.f3 false true false false):=by
 refine returnsInHanded_of_change (C:=Tryz.checked) own started (by kernel_rfl) Tryz.func3
  (ChangeSpec.witness6 (enc:=enc) (C:=Tryz.checked) false ⟨#[],#[.slice none 0 0],[]⟩ 8 (by kernel_rfl) (by kernel_rfl) (by kernel_rfl) (by kernel_rfl)) ?_
 intro W base args ds gs before hval0 hW hcnd _
 have hval:∀ (j:Nat) t v,Tryz.f3.params[j]?=some t->args[j]?=some v->Value.okWide Tryz.prog W .any base t v:=hval0
 have hW':=hW
 obtain ⟨p,q,hA0,hV,rfl,hfz,hnd⟩:=hW
 have hA:DataW.TrodAll enc Tryz.prog W 0 (fun _=>true) true Tryz.f3.params.toList args.toList ds p:=hA0
 rw [Tryz.params3] at hA hval
 obtain ⟨v0,vs0,d0,ds0,p0,q0,hargs,rfl,rfl,h0,r0⟩:=trodAll_cons hA
 obtain ⟨rfl,rfl,rfl⟩:=trodAll_nil r0
 obtain rfl:args=#[v0]:=by cases args;simp_all
 obtain ⟨rfl,rfl⟩:=trodVars_none hV
 obtain ⟨a0,w0⟩:=openBytes (hval 0 22 v0 rfl rfl) h0
 refine (walk W v0 a0 w0).mono fun e W' ⟨he,hb⟩=>?_
 subst he
 exact ⟨_,rfl,law_post laidOut (by kernel_rfl) rfl Tryz.underlying4 rfl rfl hW' hb⟩
theorem unf:Tryz.pinned.checked.prog.unfollowed 3=true:=by kernel_rfl
theorem inpl:Tryz.pinned.checked.prog.inPlace 3=[]:=by kernel_rfl
theorem vnam:Tryz.pinned.checked.prog.varsNamed 3=[]:=by kernel_rfl
theorem rec_:Tryz.pinned.checked.prog.recurses 3=true:=by rw [Program.recurses,unf,Bool.true_or]
theorem over:Rows.fnRelationsRow.holds Tryz.pinned (OpenSpec.ofChange Rows.fnRelationsSpec) :=
 OpenClaim.holds_of_wide 3 Tryz.f3 rfl rfl rfl rfl rfl rfl rfl ⟨rfl,rfl,rfl,rfl,rfl⟩ rfl rfl rfl rfl rfl (by kernel_rfl) Tryz.func3 (by unfold joinedFacts;rw [seat_mayEnter,seat_lifts,seat_laidOut,seat_mapsRowed,unf,rec_,inpl,vnam];kernel_rfl)
  (of_decide_eq_true (by kernel_rfl)) (by unfold Func.isWrapper;first | (rw [if_pos (by decide +kernel)];kernel_rfl) | (rw [if_neg (by decide +kernel)];exact ⟨rfl,rfl⟩))
  (fun os started H enc _=>lifted os started H enc)
theorem proved:Rows.FnRelationsSaid:=over
end Go.Proofs.YtloeghbhoflabaaGreat.fnRelations
