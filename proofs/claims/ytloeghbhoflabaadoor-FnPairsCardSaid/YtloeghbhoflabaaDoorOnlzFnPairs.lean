/- 'laws.FnPairs' returns true for every list of bytes, wherever internal/bytealg.MaxLen holds a number: merging and subtracting agree with the reference, a list of pairs that is well formed is read back from its text, and what is left of a beside b has b's pairs as its rest. -/
import Derived.Test.YtloeghbhoflabaaDoorOnlzNIAMCFMI
import Derived.Test.YtloeghbhoflabaaDoorOnlzAGDFAFDM
import Derived.Test.YtloeghbhoflabaaDoorOnlzJJBNAEEJ
import Derived.Test.YtloeghbhoflabaaDoorOnlzAAENOIMK
import Derived.Deep.DeepCutAuto
import Derived.Test.YtloeghbhoflabaaDoorCards
import Derived.Test.YtloeghbhoflabaaDoorTie
import Derived.HandedShaped
import Derived.LaidMore
import Derived.Lay
import Derived.SevenTiedAt
set_option linter.unusedVariables false
set_option linter.unusedSimpArgs false
namespace Go.Proofs.YtloeghbhoflabaaDoor.fnPairs
open Go.ChangeShapes Go.WideShapes Go.ChangeAt Go.RowKit
attribute [local go_sem] ext_cell ext_frozen ext_lt ext_lt1 ext_lt2 ext_lt3 ltn2 ltn3 ltn13 lts1 lts2 lts3
theorem nil_part {l:List Pr} (h:l=[]):true=decide (l=[]):=by rw [h];rfl
theorem some_part {l:List Pr} (h:0 < l.length):false=decide (l=[]):=by cases l with | nil=>cases h | cons _ _=>rfl
theorem sub_len {a:List Pr} (b:List Pr) {n:Nat} (ha:a.length<=n):(subL a b).length<=n:=Nat.le_trans (psetL_len _) (Nat.le_trans (List.length_filter_le _ _) ha)
theorem lit1 (w:World) (x:Pr):SlE (w.alloc (.cells #[.int .i64 x.1,.int .i64 x.2] 30)) cPr 2 (.slice (some ⟨w.heap.size,0,none⟩) 1 1) [x] :=
 ((Own.of_row (xs:=[x]) (E:=cPr) (World.ownsRow_lit (base:=w.heap.size) (e:=30) (size:=2) w #[.int .i64 x.1,.int .i64 x.2] 1 (Nat.le_refl _) (by decide) rfl) rfl rfl).sl cPr_len).mono (Nat.zero_le _) (Nat.le_refl _)
set_option maxRecDepth 100000 in
set_option maxHeartbeats 16000000 in
theorem walk (w:World) (m:Int) (hm:w.cell? ⟨0,0,none⟩=some (.int .i64 m)) (v0:Value) (bs:List Int) (hv0:SlI 0 w.heap.size w cU 1 v0 bs) :
 Calls Tryd.prog 3 #[v0] w fun e w'=>e=.returned (.bool true)/\Below w.heap.size w w':=by
 have HV:=Hd_ hv0
 have HM:=Hd_ hm
 clear hm
 obtain ⟨A0,c0,rfl,hl0,hm0,-⟩:=hv0
 by_cases hbig:1048576 < bs.length
 · go_enter Tryd.func3,Tryd.ntmps3
   go_wp2_with fail
   refine (big_yes _ _ _ _ hbig (by omega)).mono ?_
   rintro e w' ⟨rfl,rfl⟩
   go_wp2_with fail
   go_ret
   exact ⟨rfl,Below.refl _ _⟩
 go_enter Tryd.func3,Tryd.ntmps3
 go_wp2_with fail
 refine (big_no _ _ _ _ hbig).mono ?_
 rintro e w' ⟨rfl,rfl⟩
 clear hbig hl0 hm0
 go_wp2_with fail
 refine (drawMerge_any _ bs _ HV.out).mono ?_
 rintro e w1 ⟨va,vb,a,b,rfl,ha,hla,hb,hlb,hbz⟩
 have HVA:=Hd_ ha
 have HVB:=Hd_ hb
 have HB:=Hd_ hbz
 have HLA:=Hd_ hla
 have HLB:=Hd_ hlb
 clear ha hb hla hlb hbz HV
 go_wp2_with fail
 refine (implMerge _ _ a b _ HVA.out HVB.out (Nat.le_trans HLA.out (by omega)) (Nat.le_trans HLB.out (by omega))).mono ?_
 rintro e w2 ⟨vm,rfl,hov,hbz⟩
 have HMG:=Hd_ ((hov.sl cPr_len).mono (Nat.zero_le _) (Nat.le_refl _))
 have HB:=Hd_ (below_trans HB.out hbz)
 clear hov
 have HVA:=Hd_ (SlE.keep HVA.out hbz)
 have HVB:=Hd_ (SlE.keep HVB.out hbz)
 clear hbz
 go_wp2_with fail
 refine (implSubtract _ _ a b _ HVA.out HVB.out (Nat.le_trans HLA.out (by omega))).mono ?_
 rintro e w3 ⟨vd,rfl,hov,hbz⟩
 have HD:=Hd_ ((hov.sl cPr_len).mono (Nat.zero_le _) (Nat.le_refl _))
 have HB:=Hd_ (below_trans HB.out hbz)
 clear hov
 have HVA:=Hd_ (SlE.keep HVA.out hbz)
 have HVB:=Hd_ (SlE.keep HVB.out hbz)
 have HMG:=Hd_ (SlE.keep HMG.out hbz)
 clear hbz
 go_wp2_with fail
 refine (specMerge _ _ a b _ HVA.out HVB.out (Nat.le_trans HLA.out (by omega)) (Nat.le_trans HLB.out (by omega))).mono ?_
 rintro e w4 ⟨vm2,rfl,hov,hbz⟩
 have HM2:=Hd_ ((hov.sl cPr_len).mono (Nat.zero_le _) (Nat.le_refl _))
 have HB:=Hd_ (below_trans HB.out hbz)
 clear hov
 have HVA:=Hd_ (SlE.keep HVA.out hbz)
 have HVB:=Hd_ (SlE.keep HVB.out hbz)
 have HMG:=Hd_ (SlE.keep HMG.out hbz)
 have HD:=Hd_ (SlE.keep HD.out hbz)
 clear hbz
 go_wp2_with fail
 refine (implEqualPairs_same _ _ _ _ HMG.out HM2.out).mono ?_
 rintro e w5 ⟨rfl,hbz⟩
 have HB:=Hd_ (below_trans HB.out hbz)
 have HVA:=Hd_ (SlE.keep HVA.out hbz)
 have HVB:=Hd_ (SlE.keep HVB.out hbz)
 have HMG:=Hd_ (SlE.keep HMG.out hbz)
 have HD:=Hd_ (SlE.keep HD.out hbz)
 clear hbz HM2
 go_wp2_with fail
 refine (specSubtract _ _ a b _ HVA.out HVB.out (Nat.le_trans HLA.out (by omega))).mono ?_
 rintro e w6 ⟨vd2,rfl,hov,hbz⟩
 have HD2:=Hd_ ((hov.sl cPr_len).mono (Nat.zero_le _) (Nat.le_refl _))
 have HB:=Hd_ (below_trans HB.out hbz)
 clear hov
 have HVA:=Hd_ (SlE.keep HVA.out hbz)
 have HVB:=Hd_ (SlE.keep HVB.out hbz)
 have HMG:=Hd_ (SlE.keep HMG.out hbz)
 have HD:=Hd_ (SlE.keep HD.out hbz)
 clear hbz
 go_wp2_with fail
 refine (implEqualPairs_same _ _ _ _ HD.out HD2.out).mono ?_
 rintro e w7 ⟨rfl,hbz⟩
 have HB:=Hd_ (below_trans HB.out hbz)
 have HVA:=Hd_ (SlE.keep HVA.out hbz)
 have HVB:=Hd_ (SlE.keep HVB.out hbz)
 have HMG:=Hd_ (SlE.keep HMG.out hbz)
 have HD:=Hd_ (SlE.keep HD.out hbz)
 clear hbz HD2
 go_wp2_with fail
 refine (lawPart_any _ _ _ _ _ HVA.out HMG.out (Nat.le_trans HLA.out (by omega)) true (nil_part (merge_left a b))).mono ?_
 rintro e w8 ⟨rfl,hbz⟩
 have HB:=Hd_ (below_trans HB.out hbz)
 have HVA:=Hd_ (SlE.keep HVA.out hbz)
 have HVB:=Hd_ (SlE.keep HVB.out hbz)
 have HMG:=Hd_ (SlE.keep HMG.out hbz)
 have HD:=Hd_ (SlE.keep HD.out hbz)
 clear hbz
 go_wp2_with fail
 refine (lawPart_any _ _ _ _ _ HVB.out HMG.out (Nat.le_trans HLB.out (by omega)) true (nil_part (merge_right a b))).mono ?_
 rintro e w9 ⟨rfl,hbz⟩
 have HB:=Hd_ (below_trans HB.out hbz)
 have HVA:=Hd_ (SlE.keep HVA.out hbz)
 have HVB:=Hd_ (SlE.keep HVB.out hbz)
 have HD:=Hd_ (SlE.keep HD.out hbz)
 clear hbz HMG
 go_wp2_with fail
 refine (lawPart_any _ _ _ _ _ HD.out HVA.out (Nat.le_trans (sub_len b HLA.out) (by omega)) true (nil_part (sub_part a b))).mono ?_
 rintro e w10 ⟨rfl,hbz⟩
 have HB:=Hd_ (below_trans HB.out hbz)
 have HVA:=Hd_ (SlE.keep HVA.out hbz)
 have HVB:=Hd_ (SlE.keep HVB.out hbz)
 have HD:=Hd_ (SlE.keep HD.out hbz)
 clear hbz
 have HDL:=Hd_ (sub_len b HLA.out)
 have HDM:=Hd_ (merge_sub a b)
 have HEA:=Hd_ (fun (p:Pr) (h:p ∈ subL a b)=>sub_each h)
 obtain ⟨D,hD⟩:∃ D,D=subL a b:=⟨_,rfl⟩
 rw [<- hD] at HD HDL HDM HEA
 clear hD
 have hdv:=HD.out
 obtain ⟨A1,c1,rfl,hl1,hm1,-⟩:=hdv
 obtain ⟨N,hN⟩:∃ N,N=D.length:=⟨_,rfl⟩
 have HD:=Hd_ (show SlE w10 cPr 2 (.slice A1 N c1) D from hN ▸ HD.out)
 rw [<- hN] at hl1 ⊢
 have HN:=Hd_ hN
 have hN7:N<=7:=by rw [hN];exact HDL.out
 clear hl1 hm1 hN
 go_wp2_with fail
 go_loopw [7] (fun ii wr=>∃ i:Nat,i<=N/\ii=.int .i64 (i:Int)/\Below w10.heap.size w10 wr) (fun ii _=>N - (intOf ii).toNat)
 case atStart=>exact ⟨0,Nat.zero_le _,rfl,Below.refl _ _⟩
 case round =>
  obtain ⟨i,hi,rfl,hbel⟩:=hrel
  have HBEL:=Hd_ hbel
  have hsw:=hbel.size
  by_cases hlt:i < N
  · have hxi:D[i]?=some (D[i]'(by rw [<- HN.out];exact hlt)):=List.getElem?_eq_getElem _
    generalize D[i]'(by rw [<- HN.out];exact hlt)=x at hxi
    have HX:=Hd_ (HEA.out x (List.mem_of_getElem? hxi))
    obtain ⟨b1,o1,rfl,⟨-,hb1⟩,d0,d1⟩:=HD.out.prA hxi
    obtain ⟨xa,xb⟩:=x
    simp only at d0 d1
    have d0:=kcell hbel d0
    have d1:=kcell hbel d1
    have hii:(i:Int) < (N:Int):=by omega
    have HVA:=Hd_ (SlE.keep HVA.out hbel)
    have HVB:=Hd_ (SlE.keep HVB.out hbel)
    have hal:=(Below.refl wr.heap.size wr).alloc (Nat.le_refl _) (.cells #[.int .i64 xa,.int .i64 xb] 30)
    have HL:=Hd_ (lit1 wr (xa,xb))
    clear hxi hbel
    go_wp2_with fail
    refine (lawPart_any _ _ [(xa,xb)] a _ HL.out (SlE.keep HVA.out hal) (by simp) true (nil_part HX.out.1)).mono ?_
    rintro e w11 ⟨rfl,hb11⟩
    have hbx:=below_trans hal hb11
    have HVB:=Hd_ (SlE.keep HVB.out hbx)
    have d0:=kcell hbx d0
    have d1:=kcell hbx d1
    have HBX:=Hd_ (HBEL.out.trans (hbx.mono hsw))
    have hs11:=hbx.size
    have hal:=(Below.refl w11.heap.size w11).alloc (Nat.le_refl _) (.cells #[.int .i64 xa,.int .i64 xb] 30)
    have HL:=Hd_ (lit1 w11 (xa,xb))
    clear hb11 hbx
    go_wp2_with fail
    refine (lawPart_any _ _ [(xa,xb)] b _ HL.out (SlE.keep HVB.out hal) (by simp) false (some_part HX.out.2)).mono ?_
    rintro e w12 ⟨rfl,hb12⟩
    have hbx:=below_trans hal hb12
    clear hb12 hal d0 d1
    go_wp2_with fail
    go_roundw
    case rel=>exact ⟨i+1,by omega,by go_num,HBX.out.trans (hbx.mono (by omega))⟩
    case measure=>simp [intOf];omega
  · obtain rfl:i=N:=by omega
    have HB:=Hd_ (below_trans HB.out HBEL.out)
    have HVA:=Hd_ (SlE.keep HVA.out HBEL.out)
    have HVB:=Hd_ (SlE.keep HVB.out HBEL.out)
    have HD:=Hd_ (SlE.keep HD.out HBEL.out)
    clear HBEL hsw hlt hbel
    go_wp2_with fail
    refine (implFormatPairs _ a _ HVA.out (Nat.le_trans HLA.out (by omega))).mono ?_
    rintro e w11 ⟨rfl,hbz⟩
    have HB:=Hd_ (below_trans HB.out hbz)
    have HVA:=Hd_ (SlE.keep HVA.out hbz)
    have HVB:=Hd_ (SlE.keep HVB.out hbz)
    have HD:=Hd_ (SlE.keep HD.out hbz)
    clear hbz
    obtain ⟨S,hS⟩:∃ S,fmtL a=S:=⟨_,rfl⟩
    have HP:=Hd_ (hS ▸ implParsePairs a w11 m (kcell HB.out HM.out) (Nat.le_trans HLA.out (by omega)))
    rw [hS]
    clear hS
    go_wp2_with fail
    refine HP.out.mono ?_
    rintro e w12 ⟨vx,rfl,hx,-,hbz⟩
    have HB:=Hd_ (below_trans HB.out hbz)
    have HVA:=Hd_ (SlE.keep HVA.out hbz)
    have HVB:=Hd_ (SlE.keep HVB.out hbz)
    have HD:=Hd_ (SlE.keep HD.out hbz)
    clear hbz HP
    have HSA:=Hd_ (fun (W:World) (h:SlE W cPr 2 va a)=>specAre va a W h (Nat.le_trans HLA.out (by omega)))
    have HIA:=Hd_ (fun (W:World) (h:SlE W cPr 2 va a)=>implAre va a W h (Nat.le_trans HLA.out (by omega)))
    obtain ⟨r,hr⟩:∃ r,r=arePL a:=⟨_,rfl⟩
    rw [<- hr] at hx HSA HIA ⊢
    have HXX:=Hd_ hx
    clear hr hx
    go_wp2_with fail
    refine (HSA.out _ HVA.out).mono ?_
    rintro e w13 ⟨rfl,hbz⟩
    have HB:=Hd_ (below_trans HB.out hbz)
    have HVA:=Hd_ (SlE.keep HVA.out hbz)
    have HVB:=Hd_ (SlE.keep HVB.out hbz)
    have HD:=Hd_ (SlE.keep HD.out hbz)
    have HXX:=Hd_ (fun h=>SlE.keep (HXX.out h) hbz)
    clear hbz HSA
    have hrr:(r==r)=true:=by simp
    go_wp2_with fail
    refine (HIA.out _ HVA.out).mono ?_
    rintro e w14 ⟨rfl,hbz⟩
    have HB:=Hd_ (below_trans HB.out hbz)
    have HVA:=Hd_ (SlE.keep HVA.out hbz)
    have HVB:=Hd_ (SlE.keep HVB.out hbz)
    have HD:=Hd_ (SlE.keep HD.out hbz)
    have HXX:=Hd_ (fun h=>SlE.keep (HXX.out h) hbz)
    clear hbz HIA
    cases r with
    | true =>
      have HXY:=Hd_ (HXX.out rfl)
      clear HXX hrr
      go_wp2_with fail
      refine (implEqualPairs_same _ _ _ _ HXY.out HVA.out).mono ?_
      rintro e w15 ⟨rfl,hbz⟩
      have HB:=Hd_ (below_trans HB.out hbz)
      have HVA:=Hd_ (SlE.keep HVA.out hbz)
      have HVB:=Hd_ (SlE.keep HVB.out hbz)
      have HD:=Hd_ (SlE.keep HD.out hbz)
      clear hbz HXY
      go_wp2_with fail
      refine (implMerge _ _ D b _ HD.out HVB.out (Nat.le_trans HDL.out (by omega)) (Nat.le_trans HLB.out (by omega))).mono ?_
      rintro e w16 ⟨vk,rfl,hov,hbz⟩
      have HK:=Hd_ ((hov.sl cPr_len).mono (Nat.zero_le _) (Nat.le_refl _))
      have HB:=Hd_ (below_trans HB.out hbz)
      clear hov
      have HVA:=Hd_ (SlE.keep HVA.out hbz)
      have HVB:=Hd_ (SlE.keep HVB.out hbz)
      clear hbz
      go_wp2_with fail
      refine (specMerge _ _ a b _ HVA.out HVB.out (Nat.le_trans HLA.out (by omega)) (Nat.le_trans HLB.out (by omega))).mono ?_
      rintro e w17 ⟨vk2,rfl,hov,hbz⟩
      have HK2:=Hd_ ((hov.sl cPr_len).mono (Nat.zero_le _) (Nat.le_refl _))
      have HB:=Hd_ (below_trans HB.out hbz)
      clear hov
      have HK:=Hd_ (SlE.keep HK.out hbz)
      clear hbz
      have HK:=Hd_ (show SlE w17 cPr 2 vk (mergeL a b) from HDM.out ▸ HK.out)
      go_wp2_with fail
      refine (implEqualPairs_same _ _ _ _ HK.out HK2.out).mono ?_
      rintro e w18 ⟨rfl,hbz⟩
      have HB:=Hd_ (below_trans HB.out hbz)
      go_wp2_with fail
      go_ret
      exact ⟨rfl,HB.out⟩
    | false =>
      clear HXX hrr
      go_wp2_with fail
      refine (implMerge _ _ D b _ HD.out HVB.out (Nat.le_trans HDL.out (by omega)) (Nat.le_trans HLB.out (by omega))).mono ?_
      rintro e w16 ⟨vk,rfl,hov,hbz⟩
      have HK:=Hd_ ((hov.sl cPr_len).mono (Nat.zero_le _) (Nat.le_refl _))
      have HB:=Hd_ (below_trans HB.out hbz)
      clear hov
      have HVA:=Hd_ (SlE.keep HVA.out hbz)
      have HVB:=Hd_ (SlE.keep HVB.out hbz)
      clear hbz
      go_wp2_with fail
      refine (specMerge _ _ a b _ HVA.out HVB.out (Nat.le_trans HLA.out (by omega)) (Nat.le_trans HLB.out (by omega))).mono ?_
      rintro e w17 ⟨vk2,rfl,hov,hbz⟩
      have HK2:=Hd_ ((hov.sl cPr_len).mono (Nat.zero_le _) (Nat.le_refl _))
      have HB:=Hd_ (below_trans HB.out hbz)
      clear hov
      have HK:=Hd_ (SlE.keep HK.out hbz)
      clear hbz
      have HK:=Hd_ (show SlE w17 cPr 2 vk (mergeL a b) from HDM.out ▸ HK.out)
      go_wp2_with fail
      refine (implEqualPairs_same _ _ _ _ HK.out HK2.out).mono ?_
      rintro e w18 ⟨rfl,hbz⟩
      have HB:=Hd_ (below_trans HB.out hbz)
      go_wp2_with fail
      go_ret
      exact ⟨rfl,HB.out⟩
end Go.Proofs.YtloeghbhoflabaaDoor.fnPairs
namespace Go.Proofs.YtloeghbhoflabaaDoor.fnPairs
open Go.ChangeShapes Go.WideShapes Go.ChangeAt Go.RowKit
theorem own:ownKnob Tryd.prog.godebug=none:=by kernel_rfl
theorem laidOut:laidOutB Tryd.prog=true:=by kernel_rfl
/-- the wrap with the world's shape kept and a condition on the world -/
theorem handed_shaped_and {H:Type} {enc:TypeId × Value->H} {a:Assume} {C:Checked} {os:Os} {f:FuncId} {fn:Func} {s:ChangeSpec} {conds:List PathCond} {apart fresh handsOn again:Bool} {X:World->Array Value->Prop}
 (hX:∀ (w w':World) (args:Array Value),w.heap=w'.heap->X w args->X w' args)
 (own:ownKnob C.prog.godebug=none) (started:os.Started) (noInit:C.prog.inits.idxOf? f=none) (hfn:C.prog.funcs[f]?=some fn)
 (witness:∃ (w:World) (tape:Tape) (i:Input),w.os=os/\(w.forCall tape i).Shaped C.prog/\i.vars=[]/\Input.okWide C.prog (w.forCall tape i) .any w.heap.size f i /\
  ((s.pre enc C.prog fn conds apart (w.forCall tape i).memory i.args/\X (w.forCall tape i).memory i.args)/\sizedMet enc C.prog fn (OpenSpec.ofChange s) apart (w.forCall tape i).memory i.args)/\a.holds C.prog (lone (Frame.enter C.prog f i.args .normal) [] (w.forCall tape i)))
 (contract:∀ (W:World) (base:Nat) (args:Array Value) (ds gs:List (DataW H)) (before:List MemPlace),
  (∀ (j:Nat) t v,fn.params[j]?=some t->args[j]?=some v->Value.okWide C.prog W .any base t v) ->
  DataW.Whole enc C.prog fn.params.toList s.vars apart W args.toList ds gs before ->
  W.ShapedOpen C.prog ->
  Calls C.prog f args W fun e W'=>∃ v,e=.returned v/\s.post enc C.prog fn apart fresh handsOn again W args v W') :
 ReturnsInHanded a C os f .any (fun w args=>(s.pre enc C.prog fn conds apart w args/\X w args)/\sizedMet enc C.prog fn (OpenSpec.ofChange s) apart w args) (s.post enc C.prog fn apart fresh handsOn again):=by
 refine returnsInHanded_of_calls own started noInit witness ?_
 intro w tape i _ hsh _ hok hpre hholds
 obtain ⟨_,_,_,fn',hfn',_,_,_,_,hval⟩:=hok
 have e:fn'=fn:=Option.some.inj (hfn'.symm.trans hfn)
 subst e
 obtain ⟨⟨⟨ds,gs,before,hw,hc⟩,hx⟩,hz⟩:=hpre
 have hw':=DataW.Whole.of_heap (w':=w.forCall tape i) (by rfl) hw
 refine (contract (w.forCall tape i) w.heap.size i.args ds gs before hval hw' hsh).mono fun e W' ⟨v,he,hp⟩=>?_
 subst he
 exact ChangeSpec.post_blind hp
theorem maxLen_cell (W:World) (h:W.ShapedOpen Tryd.prog):∃ m,W.cell? ⟨0,0,none⟩=some (.int .i64 m) :=
 cell_of_shapedOpen_int (zero:=#[.int .i64 0]) (t:=3) h (of_decide_eq_true (by kernel_rfl)) (by kernel_rfl) rfl (by kernel_rfl) (by kernel_rfl) Tryd.underlying3
set_option maxRecDepth 100000 in
theorem lifted (os:Os) (started:os.Started) (H:Type) (enc:TypeId × Value->H) :
 ReturnsInHanded {} Tryd.checked os 3 .any (fun w args=>(Rows.fnPairsSpec.pre enc Tryd.prog Tryd.f3 Rows.fnPairsRow.domain false w args/\laidMetH Tryd.prog Rows.fnPairsRow.laid w)/\sizedMet enc Tryd.prog Tryd.f3 (OpenSpec.ofChange Rows.fnPairsSpec) false w args)
  (Rows.fnPairsSpec.post enc Tryd.prog Tryd.f3 false true false false):=by
 refine handed_shaped_and (C:=Tryd.checked) (X:=fun w _=>laidMetH Tryd.prog Rows.fnPairsRow.laid w) (fun _ _ _ hh h=>h.of_heap hh) own started (by kernel_rfl) Tryd.func3
  (ChangeSpec.witness_shaped (enc:=enc) (C:=Tryd.checked) (os:=os) (X:=fun w _=>laidMetH Tryd.prog Rows.fnPairsRow.laid w) false (World.laidAll Tryd.prog os Rows.fnPairsRow.laid) #[.slice none 0 0] 8 (World.laidAll_os _ _ _)
   (World.shaped_of_ZipB (by kernel_rfl) (by kernel_rfl)) (by kernel_rfl) (by kernel_rfl) (by kernel_rfl)
   (by rw [MakeChecks.laidMetH_plain _ _ _ (by kernel_rfl)];exact laidMet_laidAll _ (by kernel_rfl) (by kernel_rfl))) ?_
 intro W base args ds gs before hval0 hW hsh
 have hval:∀ (j:Nat) t v,Tryd.f3.params[j]?=some t->args[j]?=some v->Value.okWide Tryd.prog W .any base t v:=hval0
 have hW':=hW
 obtain ⟨p,q,hA0,hV,rfl,hfz,hnd⟩:=hW
 have hA:DataW.TrodAll enc Tryd.prog W 0 (fun _=>true) true Tryd.f3.params.toList args.toList ds p:=hA0
 rw [Tryd.params3] at hA hval
 obtain ⟨v0,vs0,d0,ds0,p0,q0,hargs,rfl,rfl,h0,r0⟩:=trodAll_cons hA
 obtain ⟨rfl,rfl,rfl⟩:=trodAll_nil r0
 obtain rfl:args=#[v0]:=by cases args;simp_all
 obtain ⟨rfl,rfl⟩:=trodVars_none hV
 obtain ⟨a0,w0⟩:=openBytes (hval 0 22 v0 rfl rfl) h0
 obtain ⟨m,hm⟩:=maxLen_cell W hsh
 refine (walk W m hm v0 a0 w0).mono fun e W' ⟨he,hb⟩=>?_
 subst he
 exact ⟨_,rfl,law_post laidOut (by kernel_rfl) rfl Tryd.underlying4 rfl rfl hW' hb⟩
theorem unf:Tryd.pinned.checked.prog.unfollowed 3=true:=by kernel_rfl
theorem rec_:Tryd.pinned.checked.prog.recurses 3=true:=by rw [Program.recurses,unf,Bool.true_or]
theorem inpl:Tryd.pinned.checked.prog.inPlace 3=Rows.fnPairsRow.inPlace:=by kernel_rfl
theorem vnam:Tryd.pinned.checked.prog.varsNamed 3=Rows.fnPairsRow.named:=by kernel_rfl
theorem over:Rows.fnPairsRow.holds Tryd.pinned (OpenSpec.ofChange Rows.fnPairsSpec) :=
 OpenClaim.holds_of_wide 3 Tryd.f3 rfl rfl rfl rfl rfl rfl rfl ⟨rfl,rfl,rfl,rfl,rfl⟩ rfl rfl rfl rfl rfl (by kernel_rfl) Tryd.func3 (by unfold joinedFacts;rw [seat_mayEnter,seat_lifts,seat_laidOut,seat_mapsRowed,unf,rec_,inpl,vnam];kernel_rfl)
  (of_decide_eq_true (by kernel_rfl)) (by unfold Func.isWrapper;first | (rw [if_pos (by decide +kernel)];kernel_rfl) | (rw [if_neg (by decide +kernel)];exact ⟨rfl,rfl⟩))
  (fun os started H enc _=>lifted os started H enc)
theorem proved:Rows.FnPairsCardSaid :=
 Claim7.holds_tied_plain_at .later [] [.data, .data, .data, .data, .pinned] true (true, "2ad29af34066e025f3114e6f37783f32767500d4d8a15ef48a459cf77fe02f17") false over (fun _ h => by cases h) (by kernel_rfl) (fun _ h => by cases h) fnPairs_row_tie rfl ⟨rfl, rfl⟩ (by kernel_rfl) rfl
  (fun f fn hf hfn=>by
   obtain rfl : f = 3 := Option.some.inj ((show Tryd.prog.funcNamed "loop.example/g01922/laws.FnPairs" = some 3 by kernel_rfl).symm.trans hf) |>.symm
   obtain rfl:fn=Tryd.f3:=(Option.some.inj (Tryd.func3.symm.trans hfn)).symm
   exact ⟨by kernel_rfl,fun j t ht=>by
    rw [Tryd.params3] at ht
    have hm:t ∈ [22]:=by simpa using Array.mem_of_getElem? ht
    have hall:([22].all fun u=>!Tryd.prog.wantsStandIn u)=true:=by kernel_rfl
    exact (show Tryd.prog.wantsStandIn t=false by simpa using List.all_eq_true.1 hall t hm)⟩)
  (by kernel_rfl)
end Go.Proofs.YtloeghbhoflabaaDoor.fnPairs
