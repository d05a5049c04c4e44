/- Parts of the proof, joined into one text: PosW, SlotS, TwnP, TwnF, PosI, TwnI, PrR, PairS, PosC. -/
import Derived.Test.YthnapjodmndlaaaOnlzDNHGMCJG
import Derived.Test.YthnapjodmndlaaaOnlzALIKEGPF
import Derived.Test.YthnapjodmndlaaaOnlzDGFIJDJD
set_option linter.unusedVariables false
set_option linter.unusedSimpArgs false
namespace Go.Proofs.Ythnapjodmndlaaa
open Go.ChangeShapes Go.WideShapes Go.ChangeAt Go.RowKit
attribute [local go_sem] ext_cell ext_frozen ext_lt ext_lt1 ext_lt2 ext_lt3 ltn2 ltn3 ltn13 lts1 lts2 lts3
theorem wi_set {n:Nat} (hn:n<=20) (s:Int):wi s 0 ((bit n:Int) - 1)=setP n s:=by
 have hb:((bit n:Nat):Int)=2 ^ n:=by rw [bit];push_cast;rfl
 rw [hb]
 cases h:setP n s with
 | true =>
   simp only [setP,Bool.and_eq_true,decide_eq_true_eq] at h
   exact wi_iff.2 h
 | false =>
   rw [Bool.eq_false_iff] at h ⊢
   intro h2
   have:=wi_iff.1 h2
   exact h (by simp only [setP,Bool.and_eq_true,decide_eq_true_eq];exact this)
def okTo (p:Pz) (i:Nat):Prop:=(∀ k ∈ p.lets.take i,0<=k/\k<=8)/\(∀ s ∈ p.fol.take i,setP p.lets.length s=true)
theorem okTo_zero (p:Pz):okTo p 0:=⟨by simp,by simp⟩
theorem okTo_step {p:Pz} {i:Nat} {x y:Int} (h:okTo p i) (hx:p.lets[i]?=some x) (hy:p.fol[i]?=some y) (h3:wi x 0 8=true) (h4:setP p.lets.length y=true):okTo p (i+1):=by
 refine ⟨fun k hk=>?_,fun s hs=>?_⟩
 · rw [take_snoc hx,List.mem_append] at hk
   rcases hk with hk | hk
   · exact h.1 k hk
   · obtain rfl:=List.mem_singleton.1 hk
     exact wi_iff.1 h3
 · rw [take_snoc hy,List.mem_append] at hs
   rcases hs with hs | hs
   · exact h.2 s hs
   · obtain rfl:=List.mem_singleton.1 hs
     exact h4
theorem okTo_no {p:Pz} {i:Nat} {x y:Int} (hx:p.lets[i]?=some x) (hy:p.fol[i]?=some y) (h:wi x 0 8=false ∨ setP p.lets.length y=false):¬ pzOk p=true:=fun hp=>by
 have f:=pz_facts hp
 rcases h with h | h
 · have:=wi_iff.2 (f.2.2.1 x (List.mem_of_getElem? hx))
   rw [h] at this
   cases this
 · have:=f.2.2.2.1 y (List.mem_of_getElem? hy)
   rw [h] at this
   cases this
theorem okTo_all {p:Pz} (h20:p.lets.length<=20) (hf:p.fol.length=p.lets.length) (h:okTo p p.lets.length) (h1:setP p.lets.length p.first=true) (h2:setP p.lets.length p.last=true):pzOk p=true:=by
 obtain ⟨a,b⟩:=h
 rw [List.take_length] at a
 rw [<- hf,List.take_length,hf] at b
 simp only [pzOk,Bool.and_eq_true,decide_eq_true_eq,List.all_eq_true]
 exact ⟨h20,hf,a,b,h1,h2⟩
theorem pz_no {p:Pz} (h:¬ pzOk p=true):pzOk p=false:=by simpa using h
set_option maxRecDepth 100000 in
set_option maxHeartbeats 4000000 in
theorem specValidPos (v:Value) (p:Pz) (w:World) (hv:PzV 0 w.heap.size w v p) :
 Calls Try.prog 20 #[v] w fun e w'=>e=.returned (.bool (pzOk p))/\Below w.heap.size w w':=by
 obtain ⟨R,hR⟩:∃ R,R=pzOk p:=⟨_,rfl⟩
 rw [<- hR]
 have HR:=Hd_ hR
 clear hR
 obtain ⟨vl,vf,rfl,⟨A,c,rfl,hl,hm,hC⟩,⟨B,d,rfl,hl2,hm2,hC2⟩⟩:=hv
 unfold maxLen at hm hm2
 obtain ⟨N,hN⟩:∃ N,N=p.lets.length:=⟨_,rfl⟩
 obtain ⟨K,hK⟩:∃ K,K=p.fol.length:=⟨_,rfl⟩
 rw [<- hN] at hl ⊢
 rw [<- hK] at hl2 ⊢
 have HN:=Hd_ hN
 have HK:=Hd_ hK
 have HIN:=Hd_ (show ∀ (n a b:Int) (W:World),Calls Try.prog 33 #[.int .i64 n,.int .i64 a,.int .i64 b] W fun e w'=>e=.returned (.bool (wi n a b))/\Below W.heap.size W w' from fun n a b W=>(l1In_any n a b W).mono fun e w' ⟨he,hw⟩=>⟨he,hw ▸ Below.refl _ _⟩)
 obtain ⟨W0,hW0⟩:∃ W0,W0=w.alloc (.cells #[.slice A N c,.int .i64 p.first,.int .i64 p.last,.slice B K d,.bool p.nul] 27):=⟨_,rfl⟩
 have hbk:Blk W0 w.heap.size 27 #[.slice A N c,.int .i64 p.first,.int .i64 p.last,.slice B K d,.bool p.nul]:=by rw [hW0];exact Blk.new w _ _ _ rfl
 have hb0:Below w.heap.size w W0:=by rw [hW0];exact (Below.refl _ _).alloc (Nat.le_refl _) _
 have hsz:w.heap.size < W0.heap.size:=by rw [hW0];simp
 have HB0:=Hd_ hb0
 have HLT:=Hd_ (show ∀ (n:Int) (W:World),Calls Try.prog 34 #[.int .i64 n] W fun e w'=>e=.returned (.bool (wi n 0 8))/\Below W.heap.size W w' from fun n W=>(l2Letter_any n W).mono fun e w' ⟨he,hw⟩=>⟨he,hw ▸ Below.refl _ _⟩)
 have HC:=Hd_ (show ∀ (i:Nat) x,p.lets[i]?=some x->∃ b o,A=some ⟨b,o,none⟩/\b < W0.heap.size/\W0.cell? ⟨b,o+i,none⟩=some (.int .i64 x) from fun i x hx=>by
  obtain ⟨b,o,hA,-,hb,hc⟩:=hC i x hx
  refine ⟨b,o,hA,by omega,kcell hb0 ?_⟩
  simpa using hc 0 _ rfl)
 have HC2:=Hd_ (show ∀ (i:Nat) x,p.fol[i]?=some x->∃ b o,B=some ⟨b,o,none⟩/\b < W0.heap.size/\W0.cell? ⟨b,o+i,none⟩=some (.int .i64 x) from fun i x hx=>by
  obtain ⟨b,o,hA,-,hb,hc⟩:=hC2 i x hx
  refine ⟨b,o,hA,by omega,kcell hb0 ?_⟩
  simpa using hc 0 _ rfl)
 clear hN hK hb0 hC hC2
 go_enter Try.func20,Try.ntmps20
 have x0:W0.cell? ⟨w.heap.size,0,none⟩=some (.slice A N c):=by exact hbk.cell 0
 have x1:W0.cell? ⟨w.heap.size,1,none⟩=some (.int .i64 p.first):=by exact hbk.cell 1
 have x2:W0.cell? ⟨w.heap.size,2,none⟩=some (.int .i64 p.last):=by exact hbk.cell 2
 have x3:W0.cell? ⟨w.heap.size,3,none⟩=some (.slice B K d):=by exact hbk.cell 3
 clear hbk
 go_upto_region 1 with fail
 rw [<- hW0]
 clear hW0
 by_cases h20:N<=20
 · have hgt:¬ (N:Int) > 20:=by omega
   have hgd:decide ((N:Int) > 20)=false:=decide_eq_false hgt
   by_cases hKN:K=N
   · subst hKN
     have hkk:((K:Int) != (K:Int))=false:=by simp
     have hsh:=shl_bit2 (s:=K) (by omega)
     have hsh3:=shl_bit3 (s:=K) (by omega)
     have hbl:bit K<=2 ^ 20:=Nat.pow_le_pow_right (by decide) h20
     have hsub:IntKind.i64.wrap ((bit K:Int) - 1)=(bit K:Int) - 1:=IntWalk.i64_in _ (by omega)
     have HW:=Hd_ (wi_set h20)
     cases h1:setP K p.first with
     | false =>
       have hw1:wi p.first 0 ((bit K:Int) - 1)=false:=by rw [HW.out];exact h1
       have HF:=Hd_ (show R=false by rw [HR.out];exact pz_no fun h=>by have:=(pz_facts h).2.2.2.2.1;rw [<- HN.out,h1] at this;cases this)
       clear h1
       go_upto_region 2 with fail
       refine wp_region_ext_lit (by kernel_rfl) (by kernel_rfl) ?_
       repeat (go_big_quiet_step ((go_at_call 33;exact Calls.ext_of (HIN.out _ _ _ _))))
       refine wpQuiet_nil ?_
       rintro _ ⟨u2,rfl⟩
       go_wp2_with fail
       go_ret
       exact ⟨by rw [HF.out];rfl,below_trans HB0.out (ext_below _ _)⟩
     | true =>
       have hw1:wi p.first 0 ((bit K:Int) - 1)=true:=by rw [HW.out];exact h1
       have HS1:=Hd_ h1
       clear h1
       cases h2:setP K p.last with
       | false =>
         have hw2:wi p.last 0 ((bit K:Int) - 1)=false:=by rw [HW.out];exact h2
         have HF:=Hd_ (show R=false by rw [HR.out];exact pz_no fun h=>by have:=(pz_facts h).2.2.2.2.2;rw [<- HN.out,h2] at this;cases this)
         clear h2
         go_upto_region 2 with fail
         refine wp_region_ext_lit (by kernel_rfl) (by kernel_rfl) ?_
         repeat (go_big_quiet_step ((go_at_call 33;exact Calls.ext_of (HIN.out _ _ _ _))))
         refine wpQuiet_nil ?_
         rintro _ ⟨u2,rfl⟩
         go_wp2_with fail
         go_ret
         exact ⟨by rw [HF.out];rfl,below_trans HB0.out (ext_below _ _)⟩
       | true =>
         have hw2:wi p.last 0 ((bit K:Int) - 1)=true:=by rw [HW.out];exact h2
         have HS2:=Hd_ h2
         clear h2
         go_upto_region 2 with fail
         refine wp_region_ext_lit (by kernel_rfl) (by kernel_rfl) ?_
         repeat (go_big_quiet_step ((go_at_call 33;exact Calls.ext_of (HIN.out _ _ _ _))))
         refine wpQuiet_nil ?_
         rintro _ ⟨u2,rfl⟩
         clear hw1 hw2
         go_wp2_with fail
         go_loopw [4] (fun ii wr=>∃ (i:Nat) (u:World),i<=K/\ii=.int .i64 (i:Int)/\wr=ext W0 u/\okTo p i) (fun ii _=>K - (intOf ii).toNat)
         case atStart=>exact ⟨0,u2,Nat.zero_le _,rfl,rfl,okTo_zero p⟩
         case round =>
          obtain ⟨i,u,hi,rfl,rfl,hto⟩:=hrel
          have HTO:=Hd_ hto
          clear hto
          by_cases hlt:i < K
          · have hxi:p.lets[i]?=some (p.lets[i]'(by rw [<- HN.out];exact hlt)):=List.getElem?_eq_getElem _
            have hyi:p.fol[i]?=some (p.fol[i]'(by rw [<- HK.out];exact hlt)):=List.getElem?_eq_getElem _
            generalize p.lets[i]'(by rw [<- HN.out];exact hlt)=x at hxi
            generalize p.fol[i]'(by rw [<- HK.out];exact hlt)=y at hyi
            obtain ⟨b1,o1,rfl,hb1,d0⟩:=HC.out i x hxi
            obtain ⟨b2,o2,rfl,hb2,e0⟩:=HC2.out i y hyi
            have HOX:=Hd_ (okTo_step HTO.out hxi hyi)
            have HNX:=Hd_ (okTo_no (p:=p) hxi hyi)
            have hii:(i:Int) < (K:Int):=by omega
            clear hxi hyi
            cases h3:wi x 0 8 with
            | false =>
              have HF:=Hd_ (show R=false by rw [HR.out];exact pz_no fun h=>HNX.out (.inl h3) h)
              go_wp2_with fail
              refine wp_region_ext_lit (by kernel_rfl) (by kernel_rfl) ?_
              repeat (go_big_quiet_step ((first | (go_at_call 33;exact Calls.ext_of (HIN.out _ _ _ _)) | (go_at_call 34;exact Calls.ext_of (HLT.out _ _)))))
              refine wpQuiet_nil ?_
              rintro _ ⟨u3,rfl⟩
              go_wp2_with fail
              go_ret
              exact ⟨by rw [HF.out];rfl,below_trans HB0.out (below_trans (ext_below _ _) (ext_below _ _))⟩
            | true =>
              cases h4:setP K y with
              | false =>
                have hw4:wi y 0 ((bit K:Int) - 1)=false:=by rw [HW.out];exact h4
                have HF:=Hd_ (show R=false by rw [HR.out];exact pz_no fun h=>HNX.out (.inr (by rw [<- HN.out];exact h4)) h)
                clear h4
                go_wp2_with fail
                refine wp_region_ext_lit (by kernel_rfl) (by kernel_rfl) ?_
                repeat (go_big_quiet_step ((first | (go_at_call 33;exact Calls.ext_of (HIN.out _ _ _ _)) | (go_at_call 34;exact Calls.ext_of (HLT.out _ _)))))
                refine wpQuiet_nil ?_
                rintro _ ⟨u3,rfl⟩
                go_wp2_with fail
                go_ret
                exact ⟨by rw [HF.out];rfl,below_trans HB0.out (below_trans (ext_below _ _) (ext_below _ _))⟩
              | true =>
                have hw4:wi y 0 ((bit K:Int) - 1)=true:=by rw [HW.out];exact h4
                have HNW:=Hd_ (HOX.out h3 (by rw [<- HN.out];exact h4))
                clear h4
                go_wp2_with fail
                refine wp_region_ext_lit (by kernel_rfl) (by kernel_rfl) ?_
                repeat (go_big_quiet_step ((first | (go_at_call 33;exact Calls.ext_of (HIN.out _ _ _ _)) | (go_at_call 34;exact Calls.ext_of (HLT.out _ _)))))
                refine wpQuiet_nil ?_
                rintro _ ⟨u3,rfl⟩
                go_wp2_with fail
                go_roundw
                case rel =>
                 obtain ⟨z,hz⟩:=ext_ext W0 u u3
                 exact ⟨i+1,z,by omega,by go_num,hz,HNW.out⟩
                case measure=>simp [intOf];omega
          · obtain rfl:i=K:=by omega
            have HF:=Hd_ (show R=true by rw [HR.out];exact okTo_all (by rw [<- HN.out];exact h20) (by rw [<- HK.out,<- HN.out]) (by rw [<- HN.out];exact HTO.out) (by rw [<- HN.out];exact HS1.out) (by rw [<- HN.out];exact HS2.out))
            clear hlt
            go_wp2_with fail
            go_ret
            exact ⟨by rw [HF.out];rfl,below_trans HB0.out (ext_below _ _)⟩
   · have hkk:((K:Int) != (N:Int))=true:=by simpa using fun h=>hKN (by omega)
     have HF:=Hd_ (show R=false by rw [HR.out];exact pz_no fun h=>hKN (by rw [HK.out,HN.out];exact (pz_facts h).2.1))
     go_upto_region 2 with fail
     refine wp_region_ext_lit (by kernel_rfl) (by kernel_rfl) ?_
     repeat (go_big_quiet_step ((go_at_call 33;exact Calls.ext_of (HIN.out _ _ _ _))))
     refine wpQuiet_nil ?_
     rintro _ ⟨u2,rfl⟩
     go_wp2_with fail
     go_ret
     exact ⟨by rw [HF.out];rfl,below_trans HB0.out (ext_below _ _)⟩
 · have hgt:(N:Int) > 20:=by omega
   have hgd:decide ((N:Int) > 20)=true:=decide_eq_true hgt
   have hgd2:decide (20 < N)=true:=decide_eq_true (by omega)
   have HF:=Hd_ (show R=false by rw [HR.out];exact pz_no fun h=>h20 (by rw [HN.out];exact (pz_facts h).1))
   go_upto_region 2 with fail
   refine wp_region_ext_lit (by kernel_rfl) (by kernel_rfl) ?_
   repeat (go_big_quiet_step ((go_at_call 33;exact Calls.ext_of (HIN.out _ _ _ _))))
   refine wpQuiet_nil ?_
   rintro _ ⟨u2,rfl⟩
   go_wp2_with fail
   go_ret
   exact ⟨by rw [HF.out];rfl,below_trans HB0.out (ext_below _ _)⟩
set_option maxHeartbeats 1000000 in
theorem l10Slot_any (a b:Nat) (d:Bool) (x y:Int) (ha:a<=20) (hb:b<=20) (w:World) :
 Calls Try.prog 43 #[.agg #[.int .i64 (a:Int),.int .i64 (b:Int),.bool d,.int .i64 x,.int .i64 y]] w fun e w'=>e=.returned (.int .i64 ((slotT (a,b,d):Nat):Int))/\Below w.heap.size w w':=by
 obtain ⟨R,hR⟩:∃ R,R=slotT (a,b,d):=⟨_,rfl⟩
 rw [<- hR]
 have HR:=Hd_ hR
 clear hR
 have hal:=(Below.refl w.heap.size w).alloc (Nat.le_refl _) (.cells #[.int .i64 (a:Int),.int .i64 (b:Int),.bool d,.int .i64 x,.int .i64 y] 67)
 have HAL:=Hd_ hal
 clear hal
 cases d with
 | false =>
   have HE:=Hd_ (show (R:Int)=2 * ((a:Int) * 21+(b:Int)) by rw [HR.out,slotT];push_cast;simp)
   go_enter Try.func43,Try.ntmps43
   go_wp2_with fail
   go_ret
   exact ⟨by rw [HE.out];rfl,HAL.out⟩
 | true =>
   have HE:=Hd_ (show (R:Int)=2 * ((a:Int) * 21+(b:Int))+1 by rw [HR.out,slotT];push_cast;simp)
   go_enter Try.func43,Try.ntmps43
   go_wp2_with fail
   go_ret
   exact ⟨by rw [HE.out];rfl,HAL.out⟩
end Go.Proofs.Ythnapjodmndlaaa
namespace Go.Proofs.Ythnapjodmndlaaa
def outB (p:Pz) (t:Twn) (n:Nat):List Twn:=(List.range n).flatMap fun k=>twnX p k t
def listT (p:Pz) (k n:Nat) (cur:List Twn):List Twn:=cur.foldl addT ((outB p (twnA p k) n).foldl addT (allT p k))
def edgT (p:Pz) (k n:Nat) (cur:List Twn):List (Nat × Nat × Nat):=((List.range k).flatMap (edI p) ++ (List.range n).flatMap (edT p k)) ++ cur.map fun x=>(k,n,idxT p x)
theorem outB_succ (p:Pz) (t:Twn) (n:Nat):outB p t (n+1)=outB p t n ++ twnX p n t:=by
 rw [outB,List.range_succ,List.flatMap_append]
 simp [outB]
theorem listT_zero (p:Pz) (k:Nat):listT p k 0 []=allT p k:=rfl
theorem listT_next (p:Pz) (k n:Nat):listT p k n (twnX p n (twnA p k))=listT p k (n+1) []:=by
 rw [listT,listT,outB_succ,List.foldl_append]
 rfl
theorem edgT_next (p:Pz) (k n:Nat):edgT p k n (twnX p n (twnA p k))=edgT p k (n+1) []:=by
 rw [edgT,edgT,List.range_succ,List.flatMap_append]
 simp [edT]
theorem edgT_nine (p:Pz) (k:Nat):edgT p k 9 []=edgT p (k+1) 0 []:=by
 rw [edgT,edgT,List.range_succ (n:=k),List.flatMap_append]
 simp [edI]
theorem endT_all {p:Pz} {k:Nat} (hk:k < (allT p k).length) (h9:k<=882):(allT p k)[k]?=some (twnA p k):=by
 have h1:=List.getElem?_eq_getElem hk
 have h2:=endT_at h1 h9
 rw [h1,twnA,List.getD_eq_getElem?_getD,h2]
 rfl
theorem listT_nine {p:Pz} {k:Nat} (hk:k < (allT p k).length) (h9:k<=882):listT p k 9 []=allT p (k+1):=by
 rw [allT,endT_all hk h9]
 rfl
theorem allT_endT (p:Pz) {i:Nat} (h:i<=882):allT p i <+: endT p:=by
 have:=allT_pre2 p i (882 - i)
 rw [show i+(882 - i)=882 by omega] at this
 rw [endT]
 exact this
theorem listT_pre {p:Pz} {k n:Nat} {cur rest:List Twn} (hk:k < (allT p k).length) (h9:k < 882) (hn:n < 9) (hc:cur ++ rest=twnX p n (twnA p k)):listT p k n cur <+: endT p:=by
 have h1:listT p k n cur <+: listT p k (n+1) []:=by
  rw [<- listT_next,<- hc,listT,listT,List.foldl_append]
  exact foldT_pre _ _
 have h2:∀ d,listT p k (n+1) [] <+: listT p k (n+1+d) []:=by
  intro d
  induction d with
  | zero=>exact List.prefix_refl _
  | succ d ih =>
    refine ih.trans ?_
    rw [<- Nat.add_assoc,<- listT_next]
    exact foldT_pre _ _
 have h3:=h2 (9 - (n+1))
 rw [show n+1+(9 - (n+1))=9 by omega,listT_nine hk (by omega)] at h3
 exact (h1.trans h3).trans (allT_endT p (by omega))
theorem listT_start {p:Pz} {k n:Nat} {cur:List Twn}:(listT p k n cur)[0]?=some (0,0,false):=by
 have h0:allT p 0 <+: allT p k:=by have:=allT_pre2 p 0 k;rwa [Nat.zero_add] at this
 have h1:=(h0.trans (foldT_pre (outB p (twnA p k) n) _)).trans (foldT_pre cur _)
 obtain ⟨r,hr⟩:=h1
 rw [listT,<- hr]
 rfl
theorem listT_low {p:Pz} {k:Nat} (hk:k < (allT p k).length) (h9:k<=882) {n:Nat} {cur:List Twn}:(listT p k n cur)[k]?=some (twnA p k):=by
 have h1:=(foldT_pre (outB p (twnA p k) n) (allT p k)).trans (foldT_pre cur _)
 obtain ⟨r,hr⟩:=h1
 rw [listT,<- hr,List.getElem?_append_left hk]
 exact endT_all hk h9
theorem idx_at {p:Pz} {q:Nat} {z:Twn} (h:(endT p)[q]?=some z):idxT p z=q:=by
 have hq:=(List.getElem?_eq_some_iff.1 h).1
 have:=idx_twnA hq
 rwa [twnA,List.getD_eq_getElem?_getD,h,Option.getD_some] at this
theorem pre_at {α:Type} {l r:List α} (h:l <+: r) {q:Nat} {z:α} (hz:l[q]?=some z):r[q]?=some z:=by
 obtain ⟨s,rfl⟩:=h
 rw [List.getElem?_append_left (List.getElem?_eq_some_iff.1 hz).1]
 exact hz
/-- the table of places -/
structure TabOk (L:List Twn) (T:List Int):Prop where
 len:T.length=882
 some_:∀ (q:Nat) (t:Twn),L[q]?=some t->T.getD (slotT t) 0=(q:Int)
 none_:∀ s:Nat,(∀ t ∈ L,slotT t ≠ s)->T.getD s 0=0
theorem TabOk.start:TabOk [(0,0,false)] (List.replicate 882 (0:Int)):=by
 have h:∀ s,(List.replicate 882 (0:Int)).getD s 0=0:=fun s=>by
  rw [List.getD_eq_getElem?_getD,List.getElem?_replicate]
  split <;> rfl
 refine ⟨List.length_replicate,fun q t hq=>?_,fun s _=>h s⟩
 cases q with
 | zero=>exact h _
 | succ q=>simp at hq
theorem TabOk.hit {p:Pz} {L:List Twn} {T:List Int} {z:Twn} (h:TabOk L T) (hp:L <+: endT p) (hz:z ∈ L):T.getD (slotT z) 0=(idxT p z:Int):=by
 obtain ⟨q,hq,hqz⟩:=List.getElem_of_mem hz
 have h1:L[q]?=some z:=by rw [<- hqz];exact List.getElem?_eq_getElem hq
 rw [h.some_ q z h1,idx_at (pre_at hp h1)]
theorem TabOk.miss {L:List Twn} {T:List Int} {z:Twn} (h:TabOk L T) (hz:z ∉ L) (hb:z.2.1<=20) (hl:∀ t ∈ L,t.2.1<=20):T.getD (slotT z) 0=0 :=
 h.none_ _ fun t ht e=>hz (slotT_inj (hl t ht) hb e ▸ ht)
theorem TabOk.add {L:List Twn} {T:List Int} {z:Twn} (h:TabOk L T) (hz:z ∉ L) (ha:z.1<=20) (hb:z.2.1<=20) (hl:∀ t ∈ L,t.2.1<=20):TabOk (L ++ [z]) (T.set (slotT z) (L.length:Int)):=by
 have hs:slotT z < T.length:=by rw [h.len];exact slotT_lt ha hb
 refine ⟨by rw [List.length_set];exact h.len,fun q t hq=>?_,fun s hs0=>?_⟩
 · rw [getD_set hs]
   rcases Nat.lt_or_ge q L.length with hlt | hge
   · rw [List.getElem?_append_left hlt] at hq
     have ht:t ∈ L:=List.mem_of_getElem? hq
     have hne:¬ slotT z=slotT t:=fun e=>hz (slotT_inj (hl t ht) hb e.symm ▸ ht)
     rw [if_neg hne]
     exact h.some_ q t hq
   · rw [List.getElem?_append_right hge] at hq
     have hq0:q - L.length=0:=by
      have:=(List.getElem?_eq_some_iff.1 hq).1
      simp at this
      omega
     rw [hq0] at hq
     have:z=t:=by simpa using hq
     subst this
     rw [if_pos rfl]
     omega
 · rw [getD_set hs,if_neg (fun e=>hs0 z (by simp) e)]
   exact h.none_ s fun t ht=>hs0 t (by simp [ht])
theorem addT_has {L:List Twn} {z:Twn} (h:z ∈ L):addT L z=L:=by rw [addT,if_pos (List.contains_iff_mem.2 h)]
theorem addT_new {L:List Twn} {z:Twn} (h:z ∉ L):addT L z=L ++ [z]:=by rw [addT,if_neg (fun e=>h (List.contains_iff_mem.1 e))]
theorem idx_pos {p:Pz} {z:Twn} (h:z ∈ endT p) (hz:1<=z.1):1<=idxT p z:=by
 rcases Nat.eq_zero_or_pos (idxT p z) with e | e
 · have h1:=twnA_idx h
   rw [e,twnA,List.getD_eq_getElem?_getD,endT_start,Option.getD_some] at h1
   rw [<- h1] at hz
   simp at hz
 · exact e
theorem listT_snoc (p:Pz) (k n:Nat) (cur:List Twn) (z:Twn):listT p k n (cur ++ [z])=addT (listT p k n cur) z:=by
 rw [listT,List.foldl_append]
 rfl
theorem edgT_snoc (p:Pz) (k n:Nat) (cur:List Twn) (z:Twn):edgT p k n (cur ++ [z])=edgT p k n cur ++ [(k,n,idxT p z)]:=by
 rw [edgT,List.map_append,<- List.append_assoc]
 rfl
def rlxP (s:List Int × Bool) (e:Nat × Nat):List Int × Bool:=(rlx s.1 e,s.2 || rlxB s.1 e)
def passT (es:List (Nat × Nat)) (F:List Int) (i:Nat):List Int × Bool:=(es.take i).foldl rlxP (F,false)
theorem passT_succ {es:List (Nat × Nat)} {i:Nat} {e:Nat × Nat} (h:es[i]?=some e) (F:List Int):passT es F (i+1)=rlxP (passT es F i) e:=by
 rw [passT,List.take_add_one,h,List.foldl_append]
 rfl
theorem foldP_all {es:List (Nat × Nat)} {goal:Nat->Prop} {N:Nat} (hr:∀ e ∈ es,e.1 < N/\e.2 < N):∀ (l:List (Nat × Nat)) (F:List Int) (b:Bool),(∀ e ∈ l,e ∈ es)->FarI es goal N F ->
 FarI es goal N (l.foldl rlxP (F,b)).1/\farW N (l.foldl rlxP (F,b)).1<=farW N F/\((l.foldl rlxP (F,b)).2=true->b=true ∨ farW N (l.foldl rlxP (F,b)).1 < farW N F)/\((l.foldl rlxP (F,b)).2=false->(l.foldl rlxP (F,b)).1=F/\∀ e ∈ l,rlxB F e=false)
 | [],F,b,_,h=>⟨h,Nat.le_refl _,fun hb=>.inl hb,fun _=>⟨rfl,by simp⟩⟩
 | e :: l,F,b,hl,h=>by
   have he:=hl e List.mem_cons_self
   have hee:=hr e he
   have h1:=foldP_all hr l (rlx F e) (b || rlxB F e) (fun x hx=>hl x (List.mem_cons_of_mem _ hx)) (h.relax he hee.1 hee.2)
   rw [List.foldl_cons,show rlxP (F,b) e=(rlx F e,b || rlxB F e) from rfl]
   obtain ⟨a1,a2,a3,a4⟩:=h1
   cases hb:rlxB F e with
   | true =>
     have hf:=h.falls hee.1 hee.2 hb
     rw [hb] at a1 a2 a3 a4
     refine ⟨a1,by omega,fun _=>.inr (by omega),fun hx=>?_⟩
     have htr:∀ (l:List (Nat × Nat)) (s:List Int × Bool),s.2=true->(l.foldl rlxP s).2=true:=by
      intro l
      induction l with
      | nil=>exact fun s h=>h
      | cons x l ih=>exact fun s h=>ih _ (by rw [rlxP,h];rfl)
     have:=htr l (rlx F e,b || true) (by simp)
     rw [hx] at this
     cases this
   | false =>
     have hF:rlx F e=F:=by rw [rlx,hb];rfl
     rw [hb] at a1 a2 a3 a4
     rw [hF,Bool.or_false] at a1 a2 a3 a4 ⊢
     refine ⟨a1,a2,a3,fun hx=>⟨(a4 hx).1,fun x hx2=>?_⟩⟩
     rcases List.mem_cons.1 hx2 with rfl | hx2
     · exact hb
     · exact (a4 hx).2 x hx2
/-- the numbers at the start -/
def farZ (p:Pz) (k:Nat):List Int:=((endT p).take k).map fun t=>if twnG p t=true then 0 else -1
theorem farZ_len (p:Pz) {k:Nat} (h:k<=(endT p).length):(farZ p k).length=k:=by rw [farZ,List.length_map,List.length_take];omega
theorem farZ_succ {p:Pz} {k:Nat} {t:Twn} (h:(endT p)[k]?=some t):farZ p (k+1)=farZ p k ++ [if twnG p t=true then 0 else -1]:=by
 rw [farZ,List.take_add_one,h,List.map_append]
 rfl
theorem farZ_at {p:Pz} {i:Nat} (h:i < (endT p).length):(farZ p (endT p).length).getD i 0=if twnG p (twnA p i)=true then 0 else -1:=by
 have e1:twnA p i=(endT p)[i]:=by rw [twnA,List.getD_eq_getElem?_getD,List.getElem?_eq_getElem h,Option.getD_some]
 rw [farZ,List.take_length,List.getD_eq_getElem?_getD,List.getElem?_map,List.getElem?_eq_getElem h,e1]
 rfl
theorem farZ_ok (p:Pz):FarI (prsT p) (goalT p) (endT p).length (farZ p (endT p).length):=by
 refine FarI.init (farZ_len p (Nat.le_refl _)) fun i hi=>?_
 rw [farZ_at hi]
 exact ⟨fun hg=>if_pos hg,fun hg=>if_neg hg⟩
theorem far_end {p:Pz} (hp:p.lets.length<=20) {F:List Int} (h:FarI (prsT p) (goalT p) (endT p).length F) (hs:∀ e ∈ prsT p,rlxB F e=false):∀ i,i < (endT p).length->F.getD i 0=dT p i :=
 fun i hi=>dT_eq (h.stop (prsT_lt hp) hs i hi)
theorem prsT_at {p:Pz} {i:Nat} {e:Nat × Nat × Nat} (h:(edsT p)[i]?=some e):(prsT p)[i]?=some (e.1,e.2.2):=by
 rw [prsT,List.getElem?_map,h]
 rfl
theorem prsT_len (p:Pz):(prsT p).length=(edsT p).length:=by rw [prsT,List.length_map]
theorem FarI.lt {es:List (Nat × Nat)} {goal:Nat->Prop} {N:Nat} {F:List Int} (h:FarI es goal N F) {i:Nat} (hi:i < N):F.getD i 0 < (N:Int):=by
 have h1:=h.top i hi
 have h2:=nonneg_le F
 rw [h.len] at h2
 omega
def onE (H:List Bool) (F:List Int) (n:Nat) (e:Nat × Nat × Nat):Bool:=H.getD e.1 false && decide (F.getD e.2.2 0=(n:Int))
def letE (H:List Bool) (F:List Int) (n:Nat) (l:List (Nat × Nat × Nat)):Nat:=l.foldl (fun m e=>if onE H F n e=true then min m e.2.1 else m) 9
def setE (H:List Bool) (F:List Int) (n k N:Nat) (l:List (Nat × Nat × Nat)):List Bool:=l.foldl (fun G e=>if (onE H F n e && decide (e.2.1=k))=true then G.set e.2.2 true else G) (List.replicate N false)
theorem letE_succ {H:List Bool} {F:List Int} {n i:Nat} {l:List (Nat × Nat × Nat)} {e:Nat × Nat × Nat} (h:l[i]?=some e):letE H F n (l.take (i+1))=if onE H F n e=true then min (letE H F n (l.take i)) e.2.1 else letE H F n (l.take i):=by
 rw [letE,List.take_add_one,h,List.foldl_append]
 rfl
theorem setE_succ {H:List Bool} {F:List Int} {n k N i:Nat} {l:List (Nat × Nat × Nat)} {e:Nat × Nat × Nat} (h:l[i]?=some e):setE H F n k N (l.take (i+1))=if (onE H F n e && decide (e.2.1=k))=true then (setE H F n k N (l.take i)).set e.2.2 true else setE H F n k N (l.take i):=by
 rw [setE,List.take_add_one,h,List.foldl_append]
 rfl
theorem letE_le (H:List Bool) (F:List Int) (n:Nat) (l:List (Nat × Nat × Nat)):letE H F n l<=9:=by
 have:∀ (l:List (Nat × Nat × Nat)) (m:Nat),m<=9->l.foldl (fun m e=>if onE H F n e=true then min m e.2.1 else m) m<=9:=by
  intro l
  induction l with
  | nil=>exact fun _ h=>h
  | cons x l ih =>
    intro m hm
    refine ih _ ?_
    show (if onE H F n x=true then min m x.2.1 else m)<=9
    split <;> omega
 exact this l 9 (Nat.le_refl _)
theorem letE_low {H:List Bool} {F:List Int} {n:Nat}:∀ (l:List (Nat × Nat × Nat)) (m:Nat),(∀ e ∈ l,onE H F n e=true->l.foldl (fun m e=>if onE H F n e=true then min m e.2.1 else m) m<=e.2.1)/\l.foldl (fun m e=>if onE H F n e=true then min m e.2.1 else m) m<=m /\
 (l.foldl (fun m e=>if onE H F n e=true then min m e.2.1 else m) m=m ∨ ∃ e ∈ l,onE H F n e=true/\e.2.1=l.foldl (fun m e=>if onE H F n e=true then min m e.2.1 else m) m)
 | [],m=>⟨by simp,Nat.le_refl _,.inl rfl⟩
 | x :: l,m=>by
   obtain ⟨h1,h2,h3⟩:=letE_low (H:=H) (F:=F) (n:=n) l (if onE H F n x=true then min m x.2.1 else m)
   rw [List.foldl_cons]
   generalize l.foldl (fun m e=>if onE H F n e=true then min m e.2.1 else m) (if onE H F n x=true then min m x.2.1 else m)=r at *
   refine ⟨fun e he ho=>?_,?_,?_⟩
   · rcases List.mem_cons.1 he with rfl | he
     · rw [if_pos ho] at h2;omega
     · exact h1 e he ho
   · split at h2 <;> omega
   · rcases h3 with h3 | ⟨e,he,ho,hk⟩
     · split at h3
       · rename_i ho
         rcases Nat.lt_or_ge x.2.1 m with hlt | hge
         · exact .inr ⟨x,List.mem_cons_self,ho,by omega⟩
         · exact .inl (by omega)
       · exact .inl h3
     · exact .inr ⟨e,List.mem_cons_of_mem _ he,ho,hk⟩
/-- H tells the set S -/
structure TellB (N:Nat) (H:List Bool) (S:List Nat):Prop where
 len:H.length=N
 low:∀ i ∈ S,i < N
 at_:∀ i,i < N->(H.getD i false=true ↔ i ∈ S)
theorem getD_setB {H:List Bool} {i j:Nat} (hi:i < H.length):(H.set i true).getD j false=if i=j then true else H.getD j false:=by
 rw [List.getD_eq_getElem?_getD,List.getElem?_set]
 by_cases h:i=j
 · subst h
   rw [if_pos rfl,if_pos rfl,if_pos hi]
   rfl
 · rw [if_neg h,if_neg h,List.getD_eq_getElem?_getD]
theorem setE_tell {H:List Bool} {F:List Int} {n k N:Nat}:∀ (l:List (Nat × Nat × Nat)),(∀ e ∈ l,e.2.2 < N)->(setE H F n k N l).length=N/\∀ i,i < N->((setE H F n k N l).getD i false=true ↔ ∃ e ∈ l,onE H F n e=true/\e.2.1=k/\e.2.2=i):=by
 have key:∀ (l:List (Nat × Nat × Nat)) (G:List Bool),G.length=N->(∀ e ∈ l,e.2.2 < N)->(l.foldl (fun G e=>if (onE H F n e && decide (e.2.1=k))=true then G.set e.2.2 true else G) G).length=N /\
  ∀ i,i < N->((l.foldl (fun G e=>if (onE H F n e && decide (e.2.1=k))=true then G.set e.2.2 true else G) G).getD i false=true ↔ G.getD i false=true ∨ ∃ e ∈ l,onE H F n e=true/\e.2.1=k/\e.2.2=i):=by
  intro l
  induction l with
  | nil=>intro G hG _;exact ⟨hG,fun i _=>by simp⟩
  | cons x l ih =>
    intro G hG hl
    rw [List.foldl_cons]
    have hx:=hl x List.mem_cons_self
    by_cases hc:(onE H F n x && decide (x.2.1=k))=true
    · rw [if_pos hc]
      have h1:=ih (G.set x.2.2 true) (by rw [List.length_set];exact hG) (fun e he=>hl e (List.mem_cons_of_mem _ he))
      refine ⟨h1.1,fun i hi=>?_⟩
      rw [h1.2 i hi,getD_setB (by omega)]
      rw [Bool.and_eq_true,decide_eq_true_eq] at hc
      constructor
      · rintro (h2 | ⟨e,he,h2⟩)
        · split at h2
          · rename_i hxi
            exact .inr ⟨x,List.mem_cons_self,hc.1,hc.2,hxi⟩
          · exact .inl h2
        · exact .inr ⟨e,List.mem_cons_of_mem _ he,h2⟩
      · rintro (h2 | ⟨e,he,h2⟩)
        · refine .inl ?_
          split
          · rfl
          · exact h2
        · rcases List.mem_cons.1 he with rfl | he
          · exact .inl (by rw [if_pos h2.2.2])
          · exact .inr ⟨e,he,h2⟩
    · rw [if_neg hc]
      have h1:=ih G hG (fun e he=>hl e (List.mem_cons_of_mem _ he))
      refine ⟨h1.1,fun i hi=>?_⟩
      rw [h1.2 i hi]
      constructor
      · rintro (h2 | ⟨e,he,h2⟩)
        · exact .inl h2
        · exact .inr ⟨e,List.mem_cons_of_mem _ he,h2⟩
      · rintro (h2 | ⟨e,he,h2⟩)
        · exact .inl h2
        · rcases List.mem_cons.1 he with rfl | he
          · exact absurd (by rw [h2.1,decide_eq_true h2.2.1];rfl) hc
          · exact .inr ⟨e,he,h2⟩
 intro l hl
 have h:=key l (List.replicate N false) (by simp) hl
 refine ⟨h.1,fun i hi=>?_⟩
 rw [setE,h.2 i hi]
 have:(List.replicate N false).getD i false=false:=by
  rw [List.getD_eq_getElem?_getD,List.getElem?_replicate]
  split <;> rfl
 rw [this]
 simp
theorem on_iff {p:Pz} {H:List Bool} {F:List Int} {S:List Nat} {n:Nat} (hp:p.lets.length<=20) (hF:∀ i,i < (endT p).length->F.getD i 0=dT p i) (hH:TellB (endT p).length H S) {e:Nat × Nat × Nat} (he:e ∈ edsT p) :
 onE H F n e=true ↔ e.1 ∈ S/\dT p e.2.2=(n:Int)/\e.2.2 ∈ nxI p e.2.1 e.1:=by
 obtain ⟨h1,h2,x,hx,h3⟩:=mem_edsT.1 he
 have h4:e.2.2 < (endT p).length:=by rw [h3];exact idxT_lt (twn_next hp h1 h2 hx)
 rw [onE,Bool.and_eq_true,decide_eq_true_eq,hH.at_ _ h1,hF _ h4]
 exact ⟨fun h=>⟨h.1,h.2,List.mem_map.2 ⟨x,hx,h3.symm⟩⟩,fun h=>⟨h.1,h.2.1⟩⟩
theorem eds_of {p:Pz} {i j k:Nat} (hi:i < (endT p).length) (hk:k < 9) (h:j ∈ nxI p k i):(i,k,j) ∈ edsT p:=by
 obtain ⟨x,hx,rfl⟩:=List.mem_map.1 h
 exact mem_edsT.2 ⟨hi,hk,x,hx,rfl⟩
/-- one letter: what both loops over the edges give -/
theorem amb_round {p:Pz} {H:List Bool} {F:List Int} {S:List Nat} {n:Nat} (hp:p.lets.length<=20) (hF:∀ i,i < (endT p).length->F.getD i 0=dT p i) (hH:TellB (endT p).length H S) (hne:∃ i,i ∈ S) (hS:∀ i ∈ S,dT p i=((n+1:Nat):Int)) :
 ∃ k,letE H F n (edsT p)=k/\k < 9/\wordT 9 (nxI p) (dT p) (n+1) S=k :: wordT 9 (nxI p) (dT p) n (nowT (nxI p) (dT p) S n k)/\TellB (endT p).length (setE H F n k (endT p).length (edsT p)) (nowT (nxI p) (dT p) S n k) /\
   (∃ i,i ∈ nowT (nxI p) (dT p) S n k)/\∀ i ∈ nowT (nxI p) (dT p) S n k,dT p i=(n:Int):=by
 obtain ⟨h1,h2,h3⟩:=letE_low (H:=H) (F:=F) (n:=n) (edsT p) 9
 have hk0:letE H F n (edsT p)=(edsT p).foldl (fun m e=>if onE H F n e=true then min m e.2.1 else m) 9:=rfl
 rw [<- hk0] at h1 h2 h3
 obtain ⟨i0,hi0⟩:=hne
 have hiN:=hH.low i0 hi0
 obtain ⟨k0,hk9,j0,hj0,hd0⟩:=amb_step hiN (hS i0 hi0)
 have he0:=eds_of hiN hk9 hj0
 have hon0:=(on_iff (n:=n) hp hF hH he0).2 ⟨hi0,hd0,hj0⟩
 have hlt:letE H F n (edsT p) < 9:=by have:=h1 _ he0 hon0;simp only at this;omega
 have hlead:leadsT (nxI p) (dT p) S n (letE H F n (edsT p))=true:=by
  rcases h3 with h3 | ⟨e,he,ho,hek⟩
  · omega
  · have ho:=(on_iff hp hF hH he).1 ho
    rw [hek] at ho
    exact leadsT_iff.2 ⟨e.1,ho.1,e.2.2,ho.2.2,ho.2.1⟩
 have hleast:∀ j,j < letE H F n (edsT p)->leadsT (nxI p) (dT p) S n j=false:=by
  intro j hj
  cases hl:leadsT (nxI p) (dT p) S n j with
  | false=>rfl
  | true =>
    obtain ⟨t,ht,x,hx,hd⟩:=leadsT_iff.1 hl
    have he:=eds_of (hH.low t ht) (by omega) hx
    have:=h1 _ he ((on_iff (n:=n) hp hF hH he).2 ⟨ht,hd,hx⟩)
    simp only at this
    omega
 refine ⟨_,rfl,hlt,wordT_step hlt hlead hleast,?_,nowT_ne hlead,fun i hi=>(mem_nowT.1 hi).2⟩
 have hN:∀ e ∈ edsT p,e.2.2 < (endT p).length:=fun e he=>by
  obtain ⟨g1,g2,x,hx,g3⟩:=mem_edsT.1 he
  rw [g3]
  exact idxT_lt (twn_next hp g1 g2 hx)
 have ht:=setE_tell (H:=H) (F:=F) (n:=n) (k:=letE H F n (edsT p)) (edsT p) hN
 refine ⟨ht.1,fun i hi=>?_,fun i hi=>?_⟩
 · obtain ⟨⟨t,hts,hx⟩,-⟩:=mem_nowT.1 hi
   exact nxI_lt hp (hH.low t hts) hlt hx
 · rw [ht.2 i hi,mem_nowT]
   constructor
   · rintro ⟨e,he,ho,hk,rfl⟩
     have ho:=(on_iff hp hF hH he).1 ho
     rw [hk] at ho
     exact ⟨⟨e.1,ho.1,ho.2.2⟩,ho.2.1⟩
   · rintro ⟨⟨t,hts,hx⟩,hd⟩
     have he:=eds_of (hH.low t hts) hlt hx
     exact ⟨_,he,(on_iff hp hF hH he).2 ⟨hts,hd,hx⟩,rfl,rfl⟩
end Go.Proofs.Ythnapjodmndlaaa
namespace Go.Proofs.Ythnapjodmndlaaa
open Go.ChangeShapes Go.WideShapes Go.ChangeAt Go.RowKit
attribute [local go_sem] ext_cell ext_frozen ext_lt ext_lt1 ext_lt2 ext_lt3 ltn2 ltn3 ltn13 lts1 lts2 lts3
set_option maxRecDepth 100000 in
set_option maxHeartbeats 4000000 in
theorem implAfter (v:Value) (p:Pz) (s:Nat) (k:Int) (w:World) (hv:PzV 0 w.heap.size w v p) (hok:pzOk p=true) (hs:s < 2 ^ 21) :
 Calls Try.prog 36 #[v,.int .i64 (s:Int),.int .i64 k] w fun e w'=>e=.returned (.int .i64 ((aftP p s k:Nat):Int))/\Below w.heap.size w w':=by
 obtain ⟨R,hR⟩:∃ R,R=aftP p s k:=⟨_,rfl⟩
 rw [<- hR]
 have HR:=Hd_ hR
 clear hR
 obtain ⟨vl,vf,rfl,⟨A,c,rfl,hl,hm,hC⟩,⟨B,d,rfl,hl2,hm2,hC2⟩⟩:=hv
 have hpf:=pz_facts hok
 have HOK:=Hd_ hok
 have HFL:=Hd_ (folP_lt hok s)
 have HF0:=Hd_ (setP_lt hpf.1 hpf.2.2.2.2.1)
 have HFO:=Hd_ (fun x hx=>setP_lt hpf.1 (hpf.2.2.2.1 x hx))
 have HLF:=Hd_ hpf.2.1
 have h20:=hpf.1
 unfold maxLen at hm hm2
 obtain ⟨N,hN⟩:∃ N,N=p.lets.length:=⟨_,rfl⟩
 rw [hpf.2.1] at hl2
 rw [<- hN] at h20 hl hl2 ⊢
 have HN:=Hd_ hN
 obtain ⟨W0,hW0⟩:∃ W0,W0=w.alloc (.cells #[.slice A N c,.int .i64 p.first,.int .i64 p.last,.slice B p.fol.length d,.bool p.nul] 27):=⟨_,rfl⟩
 have hbk:Blk W0 w.heap.size 27 #[.slice A N c,.int .i64 p.first,.int .i64 p.last,.slice B p.fol.length d,.bool p.nul]:=by rw [hW0];exact Blk.new w _ _ _ rfl
 have hb0:Below w.heap.size w W0:=by rw [hW0];exact (Below.refl _ _).alloc (Nat.le_refl _) _
 have hsz:W0.heap.size=w.heap.size+1:=by rw [hW0];simp
 have HC:=Hd_ (show ∀ (i:Nat) x,p.lets[i]?=some x->∃ b o,A=some ⟨b,o,none⟩/\b < w.heap.size/\W0.cell? ⟨b,o+i,none⟩=some (.int .i64 x) from fun i x hx=>by
  obtain ⟨b,o,hA,-,hb,hc⟩:=hC i x hx
  refine ⟨b,o,hA,hb,kcell hb0 ?_⟩
  simpa using hc 0 _ rfl)
 have HC2:=Hd_ (show ∀ (i:Nat) x,p.fol[i]?=some x->∃ b o,B=some ⟨b,o,none⟩/\b < w.heap.size/\W0.cell? ⟨b,o+i,none⟩=some (.int .i64 x) from fun i x hx=>by
  obtain ⟨b,o,hA,-,hb,hc⟩:=hC2 i x hx
  refine ⟨b,o,hA,hb,kcell hb0 ?_⟩
  simpa using hc 0 _ rfl)
 have HB0:=Hd_ hb0
 clear hpf hok hC hC2 hN hb0
 go_enter Try.func36,Try.ntmps36
 clear hl hl2 hm hm2
 have x0:W0.cell? ⟨w.heap.size,0,none⟩=some (.slice A N c):=by exact hbk.cell 0
 have x1:W0.cell? ⟨w.heap.size,1,none⟩=some (.int .i64 p.first):=by exact hbk.cell 1
 have x3:W0.cell? ⟨w.heap.size,3,none⟩=some (.slice B p.fol.length d):=by exact hbk.cell 3
 clear hbk
 have HA1:=Hd_ (and_one (s:=s) (by omega))
 go_upto_region 1 with fail
 rw [<- hW0]
 clear hW0
 go_upto_if 15 with fail
 go_cut [7] (fun mm wx=>mm=.int .i64 ((folP p s 0:Nat):Int)/\wx=W0)
 case first =>
  have HF:=Hd_ (folP_zero p s)
  cases hb:s.testBit 0 with
  | true =>
    rw [hb,if_pos rfl] at HA1 HF
    have hc:(bits .and .i64 (s:Int) 1==1)=true:=by rw [HA1.out];rfl
    have HE:=Hd_ (show (p.first)=((folP p s 0:Nat):Int) by rw [HF.out];have:=HF0.out.1;omega)
    clear hb
    go_wp2_with fail
    go_meet
    exact ⟨by rw [<- HE.out],rfl⟩
  | false =>
    rw [hb,if_neg (by simp)] at HA1 HF
    have hc:(bits .and .i64 (s:Int) 1==1)=false:=by rw [HA1.out];rfl
    clear hb
    go_wp2_with fail
    go_meet
    exact ⟨by rw [HF.out];rfl,rfl⟩
 case rest =>
  obtain ⟨rfl,rfl⟩:=hcut
  clear HA1 HF0
  go_wp2_with fail
  go_loopw [7,8,9,21] (fun mm _ _ ii wr=>∃ i:Nat,i<=N/\ii=.int .i64 (i:Int)/\mm=.int .i64 ((folP p s i:Nat):Int)/\wr=wc) (fun _ _ _ ii _=>N - (intOf ii).toNat)
  case atStart=>exact ⟨0,Nat.zero_le _,rfl,rfl,rfl⟩
  case round =>
   obtain ⟨i,hi,rfl,rfl,rfl⟩:=hrel
   by_cases hlt:i < N
   · have hxi:p.fol[i]?=some (p.fol[i]'(by rw [HLF.out,<- HN.out];exact hlt)):=List.getElem?_eq_getElem _
     have HX:=Hd_ (HFO.out _ (List.mem_of_getElem? hxi))
     have HGD:=Hd_ (show p.fol.getD i 0=_ by rw [List.getD_eq_getElem?_getD,hxi])
     generalize p.fol[i]'(by rw [HLF.out,<- HN.out];exact hlt)=x at hxi HX HGD
     obtain ⟨b1,o1,rfl,hb1,d0⟩:=HC2.out i x hxi
     obtain ⟨y,rfl⟩:∃ y:Nat,x=(y:Int):=⟨x.toNat,by have:=HX.out.1;omega⟩
     have HFS:=Hd_ (folP_succ p s i)
     have hii:(i:Int) < (N:Int):=by omega
     have hi2:(i:Int) < (p.fol.length:Int):=by rw [HLF.out,<- HN.out];omega
     clear hxi
     cases hb:s.testBit (i+1) with
     | false =>
       rw [hb,if_neg (by simp)] at HFS
       have hc:(bits .and .i64 ((s:Int) / 2 ^ (i+1)) 1==1)=false:=by rw [bit_off (by omega) (by omega) hb];rfl
       clear hb
       go_wp2_with fail
       go_roundw
       case rel=>exact ⟨i+1,by omega,by go_num,by rw [HFS.out],trivial⟩
       case measure=>simp [intOf];omega
     | true =>
       rw [hb,if_pos rfl,HGD.out] at HFS
       have hc:(bits .and .i64 ((s:Int) / 2 ^ (i+1)) 1==1)=true:=by rw [bit_on (by omega) (by omega) hb];rfl
       have hor:bits .or .i64 ((folP p s i:Nat):Int) (y:Int)=((folP p s (i+1):Nat):Int):=by
        have h1:=HFL.out i
        have h2:=HX.out.2
        rw [HFS.out]
        exact i64_or_nat _ _ (by omega) (by simp at h2;omega)
       clear hb
       go_wp2_with fail
       go_roundw
       case rel=>exact ⟨i+1,by omega,by go_num,rfl,trivial⟩
       case measure=>simp [intOf];omega
   · obtain rfl:i=N:=by omega
     obtain ⟨wo,rfl⟩:∃ wo:World,wo=wr:=⟨_,rfl⟩
     obtain ⟨M,hM⟩:∃ M,M=folP p s i:=⟨_,rfl⟩
     have hml:M < 2 ^ 20:=by rw [hM];exact HFL.out i
     rw [<- hM]
     have HMM:=Hd_ hM
     clear hM hlt hi HFL
     have hi3:¬ (i:Int) < (p.fol.length:Int):=by rw [HLF.out,<- HN.out];omega
     have hi4:decide ((i:Int) < (p.fol.length:Int))=false:=decide_eq_false hi3
     have hi5:¬ i < p.fol.length:=by omega
     go_wp2_with fail
     go_loopw [10,11,12,39] (fun oo _ _ ii wr=>∃ j:Nat,j<=i/\ii=.int .i64 (j:Int)/\oo=.int .i64 ((aftI p M k j:Nat):Int)/\wr=wo) (fun _ _ _ ii _=>i - (intOf ii).toNat)
     case atStart=>exact ⟨0,Nat.zero_le _,rfl,rfl,rfl⟩
     case round =>
      obtain ⟨j,hj,rfl,rfl,rfl⟩:=hrel
      by_cases hlj:j < i
      · have hxj:p.lets[j]?=some (p.lets[j]'(by rw [<- HN.out];exact hlj)):=List.getElem?_eq_getElem _
        have HGD:=Hd_ (show p.lets.getD j 0=_ by rw [List.getD_eq_getElem?_getD,hxj])
        generalize p.lets[j]'(by rw [<- HN.out];exact hlj)=x at hxj HGD
        obtain ⟨b1,o1,rfl,hb1,d0⟩:=HC.out j x hxj
        have HAS:=Hd_ (aftI_succ p M k j)
        have hal:=aftI_lt p M k j (by omega)
        have hii:(j:Int) < (i:Int):=by omega
        simp only [Option.getD_some] at HGD
        rw [HGD.out] at HAS
        clear hxj HGD
        by_cases hk:x=k
        · rw [decide_eq_true hk,Bool.and_true] at HAS
          have hkb:(x==k)=true:=by simpa using hk
          have hkd:decide (x=k)=true:=by simpa using hk
          clear hk
          cases hb:M.testBit j with
          | false =>
            rw [hb,if_neg (by simp)] at HAS
            have hc:(bits .and .i64 ((M:Int) / 2 ^ j) 1==1)=false:=by rw [bit_off (by omega) (by omega) hb];rfl
            clear hb
            go_wp2_with fail
            go_roundw
            case rel=>exact ⟨j+1,by omega,by go_num,by rw [HAS.out],trivial⟩
            case measure=>simp [intOf];omega
          | true =>
            rw [hb,if_pos rfl] at HAS
            have hc:(bits .and .i64 ((M:Int) / 2 ^ j) 1==1)=true:=by rw [bit_on (by omega) (by omega) hb];rfl
            have hsh:=shl_bit2 (s:=j+1) (by omega)
            have hsh3:=shl_bit3 (s:=j+1) (by omega)
            have hor:=or_ins (m:=aftI p M k j) (s:=j+1) (by omega) (by omega)
            rw [<- HAS.out] at hor
            clear hb
            go_wp2_with fail
            go_roundw
            case rel=>exact ⟨j+1,by omega,by go_num,rfl,trivial⟩
            case measure=>simp [intOf];omega
        · rw [decide_eq_false hk,Bool.and_false,if_neg (by simp)] at HAS
          have hkb:(x==k)=false:=by simpa using hk
          have hkd:decide (x=k)=false:=by simpa using hk
          clear hk
          go_wp2_with fail
          go_roundw
          case rel=>exact ⟨j+1,by omega,by go_num,by rw [HAS.out],trivial⟩
          case measure=>simp [intOf];omega
      · obtain rfl:j=i:=by omega
        go_wp2_with fail
        go_ret
        exact ⟨by rw [HR.out,aftP,<- HN.out,<- HMM.out];rfl,HB0.out⟩
def cTw (t:Twn):List Value:=[.int .i64 (t.1:Int),.int .i64 (t.2.1:Int),.bool t.2.2]
theorem cTw_len (t:Twn):(cTw t).length=3:=rfl
theorem cTw_one (t:Twn):∀ u ∈ cTw t,u.oneCell'=true:=by intro u hu;simp only [cTw,List.mem_cons,List.not_mem_nil,or_false] at hu;rcases hu with rfl | rfl | rfl <;> rfl
def rowT (d:Bool) (i Y m:Nat):List Twn:=(mem m Y).map fun j=>(i,j,d || decide (i ≠ j))
def upT (d:Bool) (X Y n:Nat):List Twn:=(mem n X).flatMap fun i=>rowT d i Y 21
theorem rowT_len (d:Bool) (i Y m:Nat):(rowT d i Y m).length<=m:=by rw [rowT,List.length_map];exact mem_len m Y
theorem upT_len (d:Bool) (X Y:Nat):∀ n,(upT d X Y n).length<=n * 21
 | 0=>by simp [upT,mem_zero]
 | n+1=>by
   have ih:=upT_len d X Y n
   have hr:=rowT_len d n Y 21
   rw [upT,mem_succ,List.flatMap_append,List.length_append]
   have e:((mem n X).flatMap fun i=>rowT d i Y 21)=upT d X Y n:=rfl
   rw [e]
   split
   · simp only [List.flatMap_cons,List.flatMap_nil,List.append_nil];omega
   · simp;omega
theorem elTw:ElemOk Try.prog 57 56 (.agg #[.int .i64 0,.int .i64 0,.bool false]) 3 24:=⟨Try.underlying57,by kernel_rfl,rfl,by omega⟩
set_option maxRecDepth 100000 in
set_option maxHeartbeats 4000000 in
theorem twinNext (a b:Nat) (d:Bool) (v:Value) (p:Pz) (k:Nat) (w:World) (hv:PzV 0 w.heap.size w v p) (hok:pzOk p=true) (ha:a<=20) (hb:b<=20) :
 Calls Try.prog 30 #[.agg #[.int .i64 (a:Int),.int .i64 (b:Int),.bool d],v,.int .i64 (k:Int)] w fun e w'=>∃ v',e=.returned v'/\Own w.heap.size w'.heap.size w' 56 cTw 3 v' (twnX p k (a,b,d))/\Below w.heap.size w w':=by
 obtain ⟨R,hR⟩:∃ R,R=twnX p k (a,b,d):=⟨_,rfl⟩
 rw [<- hR]
 have HR:=Hd_ hR
 clear hR
 have HV:=Hd_ hv
 have HOK:=Hd_ hok
 obtain ⟨vl,vf,rfl,h1,h2⟩:=hv
 obtain ⟨A,n,c,rfl⟩:=h1.shape
 obtain ⟨B,n2,c2,rfl⟩:=h2.shape
 have hXl:=aftI_lt p (folP p (bit a) p.lets.length) (k:Int) p.lets.length (pz_facts hok).1
 have hYl:=aftI_lt p (folP p (bit b) p.lets.length) (k:Int) p.lets.length (pz_facts hok).1
 have hba:bit a < 2 ^ 21:=Nat.pow_lt_pow_right (by decide) (by omega)
 have hbb:bit b < 2 ^ 21:=Nat.pow_lt_pow_right (by decide) (by omega)
 have hsa:=shl_bit2 (s:=a) (by omega)
 have hsb:=shl_bit2 (s:=b) (by omega)
 have hsa3:=shl_bit3 (s:=a) (by omega)
 have hsb3:=shl_bit3 (s:=b) (by omega)
 clear h1 h2 hok
 obtain ⟨W0,hW0⟩:∃ W0,W0=((w.alloc (.cells #[.int .i64 (a:Int),.int .i64 (b:Int),.bool d] 56)).alloc (.cells #[.slice A n c,.int .i64 p.first,.int .i64 p.last,.slice B n2 c2,.bool p.nul] 27)).alloc (.cells #[] 56):=⟨_,rfl⟩
 have hbk:Blk W0 w.heap.size 56 #[.int .i64 (a:Int),.int .i64 (b:Int),.bool d]:=by rw [hW0];exact ((Blk.new w _ _ _ rfl).alloc _).alloc _
 have hbp:Blk W0 (w.heap.size+1) 27 #[.slice A n c,.int .i64 p.first,.int .i64 p.last,.slice B n2 c2,.bool p.nul]:=by rw [hW0];exact (Blk.new _ _ _ _ (by simp)).alloc _
 have hb0:Below w.heap.size w W0:=by rw [hW0];exact (((Below.refl _ _).alloc (Nat.le_refl _) _).alloc (by simp) _).alloc (by simp;omega) _
 have hsz:W0.heap.size=w.heap.size+3:=by rw [hW0];simp
 have hrow:W0.ownsRow (w.heap.size+2) 56 3 (.slice (some ⟨w.heap.size+2,0,none⟩) 0 0) 0 []:=by
  have h:=World.ownsRow_lit (base:=w.heap.size+2) (e:=56) (size:=3) ((w.alloc (.cells #[.int .i64 (a:Int),.int .i64 (b:Int),.bool d] 56)).alloc (.cells #[.slice A n c,.int .i64 p.first,.int .i64 p.last,.slice B n2 c2,.bool p.nul] 27)) #[] 0 (by simp) (by decide) rfl
  rw [hW0]
  simpa using h
 have HROW:=Hd_ hrow
 have HB0:=Hd_ hb0
 have HAF:=Hd_ (fun (s:Nat) (W:World) (h:Below w.heap.size w W) (hs:s < 2 ^ 21)=>implAfter _ p s (k:Int) W (HV.out.keep h) HOK.out hs)
 clear hrow
 go_enter Try.func30,Try.ntmps30
 have x0:W0.cell? ⟨w.heap.size,0,none⟩=some (.int .i64 (a:Int)):=by exact hbk.cell 0
 have x1:W0.cell? ⟨w.heap.size,1,none⟩=some (.int .i64 (b:Int)):=by exact hbk.cell 1
 have x2:W0.cell? ⟨w.heap.size,2,none⟩=some (.bool d):=by exact hbk.cell 2
 have y0:W0.cell? ⟨w.heap.size+1,0,none⟩=some (.slice A n c):=by exact hbp.cell 0
 have y1:W0.cell? ⟨w.heap.size+1,1,none⟩=some (.int .i64 p.first):=by exact hbp.cell 1
 have y2:W0.cell? ⟨w.heap.size+1,2,none⟩=some (.int .i64 p.last):=by exact hbp.cell 2
 have y3:W0.cell? ⟨w.heap.size+1,3,none⟩=some (.slice B n2 c2):=by exact hbp.cell 3
 have y4:W0.cell? ⟨w.heap.size+1,4,none⟩=some (.bool p.nul):=by exact hbp.cell 4
 clear hbk hbp
 have hl0:w.heap.size < W0.heap.size:=by omega
 have hl1:w.heap.size+1 < W0.heap.size:=by omega
 go_upto_region 2 with fail
 rw [<- hW0]
 clear hW0 hb0
 refine wp_region_ext_lit (by kernel_rfl) (by kernel_rfl) ?_
 repeat (go_big_quiet_step ((go_at_call 36;exact Calls.ext_of (HAF.out _ _ (below_trans HB0.out (ext_below _ _)) (by first | exact hba | exact hbb)))))
 refine wpQuiet_nil ?_
 rintro _ ⟨u2,rfl⟩
 have hb1:=below_trans HB0.out (ext_below W0 u2)
 have HROW1:=Hd_ (ownsRow_below HROW.out (ext_below W0 u2) (Nat.le_refl _))
 have x2:=kcell (ext_below W0 u2) x2
 obtain ⟨X,hX⟩:∃ X,X=aftP p (bit a) (k:Int):=⟨_,rfl⟩
 obtain ⟨Y,hY⟩:∃ Y,Y=aftP p (bit b) (k:Int):=⟨_,rfl⟩
 have hXl:X < 2 ^ 21:=by rw [hX];exact hXl
 have hYl:Y < 2 ^ 21:=by rw [hY];exact hYl
 have HRX:=Hd_ (show R=upT d X Y 21 by rw [HR.out,hX,hY];rfl)
 rw [<- hX,<- hY]
 have hs1:=(ext_below W0 u2).size
 generalize ext W0 u2=W1 at *
 have HB1:=Hd_ hb1
 have HX2:=Hd_ x2
 clear hX hY HR hb1 x0 x1 x2 y0 y1 y2 y3 y4 HAF HB0 HROW hsa hsb hsa3 hsb3 HV HOK
 go_wp2_with fail
 go_loopw [7,10,11] (fun oo ii _ wr=>∃ i:Nat,i<=21/\ii=.int .i64 (i:Int)/\Own (w.heap.size+1+1) wr.heap.size wr 56 cTw 3 oo (upT d X Y i)/\Below (w.heap.size+1+1) W1 wr) (fun _ ii _ _=>21 - (intOf ii).toNat)
 case atStart=>exact ⟨0,by omega,rfl,Own.of_row HROW1.out rfl rfl,Below.refl _ _⟩
 case round =>
  obtain ⟨i,hi,rfl,how,hbel⟩:=hrel
  obtain ⟨wo,rfl⟩:∃ wo:World,wo=wr:=⟨_,rfl⟩
  have HOW:=Hd_ how
  have HBEL:=Hd_ hbel
  obtain ⟨A2,m2,d2,rfl⟩:=how.shape
  clear how hbel
  by_cases hle:2 ^ i<=X
  · have hi21:i < 21:=by
     by_cases h:i < 21
     · exact h
     · have:=Nat.pow_le_pow_right (n:=2) (by decide) (show 21<=i by omega)
       omega
    have hon:=shr_on (by omega) hle
    have hz:=HBEL.out.size
    clear hle
    go_wp2_with fail
    clear hon
    obtain ⟨L,hL⟩:∃ L,L=upT d X Y i:=⟨_,rfl⟩
    have hLl:=upT_len d X Y i
    rw [<- hL] at HOW hLl
    have HLL:=Hd_ hL
    clear hL
    cases hbi:X.testBit i with
    | false =>
      have HU:=Hd_ (show upT d X Y (i+1)=L by rw [HLL.out,upT,mem_no hbi];rfl)
      have hci:(bits .and .i64 ((X:Int) / 2 ^ i) 1==1)=false:=by rw [bit_off (by omega) (by omega) hbi];rfl
      clear hbi
      go_loopw [7,11] (fun oo jj wr=>∃ j:Nat,j<=21/\jj=.int .i64 (j:Int)/\oo=.slice A2 m2 d2/\wr=wo) (fun _ jj _=>21 - (intOf jj).toNat)
      case atStart=>exact ⟨0,by omega,rfl,rfl,rfl⟩
      case round =>
       obtain ⟨j,hj,rfl,rfl,rfl⟩:=hrel
       by_cases hle:2 ^ j<=Y
       · have hj21:j < 21:=by
          by_cases h:j < 21
          · exact h
          · have:=Nat.pow_le_pow_right (n:=2) (by decide) (show 21<=j by omega)
            omega
         have hon:=shr_on (by omega) hle
         clear hle
         go_wp2_with fail
         go_roundw
         case rel=>exact ⟨j+1,by omega,by go_num,rfl,trivial⟩
         case measure=>simp [intOf];omega
       · have hoff:=shr_off (m:=Y) (i:=j) (by omega) (by omega)
         clear hle
         go_wp2_with fail
         go_roundw
         case rel=>exact ⟨i+1,by omega,by go_num,by rw [HU.out];exact HOW.out,HBEL.out⟩
         case measure=>simp [intOf];omega
    | true =>
      have HU:=Hd_ (show upT d X Y (i+1)=L ++ rowT d i Y 21 by rw [HLL.out,upT,mem_yes hbi,List.flatMap_append];simp [upT])
      have hci:(bits .and .i64 ((X:Int) / 2 ^ i) 1==1)=true:=by rw [bit_on (by omega) (by omega) hbi];rfl
      clear hbi
      go_loopw [7,11] (fun oo jj wr=>∃ j:Nat,j<=21/\jj=.int .i64 (j:Int)/\Own (w.heap.size+1+1) wr.heap.size wr 56 cTw 3 oo (L ++ rowT d i Y j)/\Below (w.heap.size+1+1) W1 wr) (fun _ jj _=>21 - (intOf jj).toNat)
      case atStart=>exact ⟨0,by omega,rfl,by simpa [rowT,mem_zero] using HOW.out,HBEL.out⟩
      case round =>
       obtain ⟨j,hj,rfl,how,hbel⟩:=hrel
       have HOW2:=Hd_ how
       have HBEL2:=Hd_ hbel
       obtain ⟨A3,m3,d3,rfl⟩:=how.shape
       have hz2:=hbel.size
       have x2:wr.cell? ⟨w.heap.size,2,none⟩=some (.bool d):=(hbel.cell (p:=⟨w.heap.size,2,none⟩) (by simp only;omega)).trans HX2.out
       clear how hbel
       by_cases hle:2 ^ j<=Y
       · have hj21:j < 21:=by
          by_cases h:j < 21
          · exact h
          · have:=Nat.pow_le_pow_right (n:=2) (by decide) (show 21<=j by omega)
            omega
         have hon:=shr_on (by omega) hle
         have hrl:=rowT_len d i Y j
         obtain ⟨Q,hQ⟩:∃ Q,Q=L ++ rowT d i Y j:=⟨_,rfl⟩
         have hql:Q.length<=1000:=by rw [hQ,List.length_append];omega
         rw [<- hQ] at HOW2
         have HQ:=Hd_ hQ
         clear hle hQ
         cases hbj:Y.testBit j with
         | false =>
           have HT:=Hd_ (show L ++ rowT d i Y (j+1)=Q by rw [HQ.out,rowT,mem_no hbj];rfl)
           have hcj:(bits .and .i64 ((Y:Int) / 2 ^ j) 1==1)=false:=by rw [bit_off (by omega) (by omega) hbj];rfl
           clear hbj
           go_wp2_with fail
           go_roundw
           case rel=>exact ⟨j+1,by omega,by go_num,by rw [HT.out];exact HOW2.out,HBEL2.out⟩
           case measure=>simp [intOf];omega
         | true =>
           have HT:=Hd_ (show L ++ rowT d i Y (j+1)=Q ++ [(i,j,d || decide (i ≠ j))] by rw [HQ.out,rowT,mem_yes hbj,List.map_append,<- List.append_assoc];rfl)
           have hcj:(bits .and .i64 ((Y:Int) / 2 ^ j) 1==1)=true:=by rw [bit_on (by omega) (by omega) hbj];rfl
           have hij:((i:Int) != (j:Int))=decide (i ≠ j):=by
            by_cases h:i=j
            · subst h;simp
            · have h2:¬ (i:Int)=(j:Int):=by omega
              rw [decide_eq_true h]
              simpa using h2
           clear hbj
           obtain ⟨D,hD⟩:∃ D,D=(d || decide (i ≠ j)):=⟨_,rfl⟩
           rw [<- hD] at HT
           cases d with
           | true =>
             obtain rfl:D=true:=by rw [hD];rfl
             clear hD hij
             go_wp2_with (at_builtin;(refine wpList_append1 cTw elTw rfl _ _ rfl (w.heap.size+1+1) _ Q (i,j,true) _ 1 _ (by rfl) HOW2.out.1 (by rfl) rfl rfl rfl (cTw_one _) (by omega) (by omega) (by omega) ?_);intro v' w4 hrow' hb4 hat4 hgr4)
             go_wp2_with fail
             go_roundw
             case rel=>exact ⟨j+1,by omega,by go_num,by rw [HT.out];exact Own.of_row hrow' rfl rfl,HBEL2.out.trans hb4⟩
             case measure=>simp [intOf];omega
           | false =>
             have HD:=Hd_ (show D=decide (i ≠ j) by rw [hD];rfl)
             rw [show decide (i ≠ j)=D from HD.out.symm] at hij
             clear hD HD
             go_wp2_with (at_builtin;(refine wpList_append1 cTw elTw rfl _ _ rfl (w.heap.size+1+1) _ Q (i,j,D) _ 1 _ (by rfl) HOW2.out.1 (by rfl) rfl rfl rfl (cTw_one _) (by omega) (by omega) (by omega) ?_);intro v' w4 hrow' hb4 hat4 hgr4)
             go_wp2_with fail
             go_roundw
             case rel=>exact ⟨j+1,by omega,by go_num,by rw [HT.out];exact Own.of_row hrow' rfl rfl,HBEL2.out.trans hb4⟩
             case measure=>simp [intOf];omega
       · have hoff:=shr_off (m:=Y) (i:=j) (by omega) (by omega)
         have HEQ:=Hd_ (show rowT d i Y 21=rowT d i Y j by rw [rowT,rowT,mem_stop (show Y < 2 ^ j by omega) hj])
         clear hle
         go_wp2_with fail
         go_roundw
         case rel=>exact ⟨i+1,by omega,by go_num,by rw [HU.out,HEQ.out];exact HOW2.out,HBEL2.out⟩
         case measure=>simp [intOf];omega
  · have hoff:=shr_off (m:=X) (i:=i) (by omega) (by omega)
    have HEND:=Hd_ (show upT d X Y 21=upT d X Y i by rw [upT,upT,mem_stop (show X < 2 ^ i by omega) hi])
    clear hle
    go_wp2_with fail
    go_ret
    exact ⟨_,rfl,by rw [HRX.out,HEND.out];exact ⟨ownsRow_mono HOW.out.1 (by omega),HOW.out.2⟩,HB1.out.trans (HBEL.out.mono (by omega))⟩
end Go.Proofs.Ythnapjodmndlaaa
namespace Go.Proofs.Ythnapjodmndlaaa
open Go.ChangeShapes Go.WideShapes Go.ChangeAt Go.RowKit
def cNt (t:Twn):List Value:=[.int .i64 (t.1:Int),.int .i64 (t.2.1:Int),.bool t.2.2,.int .i64 0,.int .i64 0]
theorem cNt_len (t:Twn):(cNt t).length=5:=rfl
theorem cNt_one (t:Twn):∀ u ∈ cNt t,u.oneCell'=true:=by intro u hu;simp only [cNt,List.mem_cons,List.not_mem_nil,or_false] at hu;rcases hu with rfl | rfl | rfl | rfl | rfl <;> rfl
abbrev Tri:=Nat × Nat × Nat
def cEg (e:Tri):List Value:=[.int .i64 (e.1:Int),.int .i64 (e.2.1:Int),.int .i64 (e.2.2:Int)]
theorem cEg_len (e:Tri):(cEg e).length=3:=rfl
theorem cEg_one (e:Tri):∀ u ∈ cEg e,u.oneCell'=true:=by intro u hu;simp only [cEg,List.mem_cons,List.not_mem_nil,or_false] at hu;rcases hu with rfl | rfl | rfl <;> rfl
theorem SlI.nt {lo hi:Nat} {w:World} {A:Option Addr} {n c:Nat} {xs:List Twn} (h:SlI lo hi w cNt 5 (.slice A n c) xs) {i:Nat} {x:Twn} (hx:xs[i]?=some x) :
 ∃ b o,A=some ⟨b,o,none⟩/\b < hi/\w.cell? ⟨b,o+i * 5,none⟩=some (.int .i64 (x.1:Int))/\w.cell? ⟨b,o+i * 5+1,none⟩=some (.int .i64 (x.2.1:Int))/\w.cell? ⟨b,o+i * 5+2,none⟩=some (.bool x.2.2):=by
 obtain ⟨A',c',hv,-,-,h⟩:=h
 cases hv
 obtain ⟨b,o,hA,-,h2,hc⟩:=h i x hx
 exact ⟨b,o,hA,h2,hc 0 _ rfl,hc 1 _ rfl,hc 2 _ rfl⟩
theorem SlI.eg {lo hi:Nat} {w:World} {A:Option Addr} {n c:Nat} {xs:List Tri} (h:SlI lo hi w cEg 3 (.slice A n c) xs) {i:Nat} {x:Tri} (hx:xs[i]?=some x) :
 ∃ b o,A=some ⟨b,o,none⟩/\b < hi/\w.cell? ⟨b,o+i * 3,none⟩=some (.int .i64 (x.1:Int))/\w.cell? ⟨b,o+i * 3+1,none⟩=some (.int .i64 (x.2.1:Int))/\w.cell? ⟨b,o+i * 3+2,none⟩=some (.int .i64 (x.2.2:Int)):=by
 obtain ⟨A',c',hv,-,-,h⟩:=h
 cases hv
 obtain ⟨b,o,hA,-,h2,hc⟩:=h i x hx
 exact ⟨b,o,hA,h2,hc 0 _ rfl,hc 1 _ rfl,hc 2 _ rfl⟩
/-- the second row of a round, as far as it has come -/
def rowC (bi d:Bool) (i Y j:Nat):List Twn:=if bi=true then rowT d i Y j else []
theorem rowC_one (bi d:Bool) (i:Nat) {Y:Nat} (h:Y.testBit 0=false):rowC bi d i Y 1=[]:=by
 rw [rowC,rowT,mem_no h]
 split <;> rfl
theorem rowC_no {bi d:Bool} {i Y j:Nat} (h:(bi && Y.testBit j)=false):rowC bi d i Y (j+1)=rowC bi d i Y j:=by
 rw [rowC,rowC]
 cases bi with
 | false=>rfl
 | true=>rw [Bool.true_and] at h;rw [rowT,mem_no h];rfl
theorem rowC_yes {bi d:Bool} {i Y j:Nat} (h1:bi=true) (h:Y.testBit j=true):rowC bi d i Y (j+1)=rowC bi d i Y j ++ [(i,j,d || decide (i ≠ j))]:=by
 rw [rowC,rowC,if_pos h1,if_pos h1,rowT,mem_yes h,List.map_append]
 rfl
theorem rowC_end {bi d:Bool} {i Y j:Nat} (h:Y < 2 ^ j) (hj:j<=21):rowC bi d i Y 21=rowC bi d i Y j:=by rw [rowC,rowC,rowT,rowT,mem_stop h hj]
theorem upT_succ (d:Bool) (X Y i:Nat):upT d X Y (i+1)=upT d X Y i ++ rowC (X.testBit i) d i Y 21:=by
 cases hb:X.testBit i with
 | false=>rw [upT,mem_no hb];simp [upT,rowC]
 | true=>rw [upT,mem_yes hb,List.flatMap_append];simp [upT,rowC]
theorem upT_one (d:Bool) {X:Nat} (Y:Nat) (h:X.testBit 0=false):upT d X Y 1=[]:=by rw [upT,mem_no h];rfl
theorem upT_end (d:Bool) {X i:Nat} (Y:Nat) (h:X < 2 ^ i) (hi:i<=21):upT d X Y 21=upT d X Y i:=by rw [upT,upT,mem_stop h hi]
theorem rowC_len (bi d:Bool) (i Y:Nat) {j:Nat} (hj:j<=21):(rowC bi d i Y j).length<=21:=by
 rw [rowC]
 split
 · exact Nat.le_trans (rowT_len d i Y j) hj
 · simp
theorem aftP_zero (p:Pz) (s:Nat) (k:Int):(aftP p s k).testBit 0=false:=by
 cases h:(aftP p s k).testBit 0 with
 | false=>rfl
 | true=>have:=aftP_bit h;omega
theorem aftP_lt2 (p:Pz) (s:Nat) (k:Int):aftP p s k < 2 ^ (p.lets.length+1):=by
 refine Nat.lt_pow_two_of_testBit _ fun i hi=>?_
 cases h:(aftP p s k).testBit i with
 | false=>rfl
 | true=>have:=aftP_bit h;omega
theorem twnX_up (p:Pz) (k:Nat) (t:Twn):upT t.2.2 (aftP p (bit t.1) (k:Int)) (aftP p (bit t.2.1) (k:Int)) 21=twnX p k t:=rfl
theorem twnX_len (p:Pz) (k:Nat) (t:Twn):(twnX p k t).length<=441:=by rw [<- twnX_up];exact upT_len _ _ _ 21
theorem edT_len (p:Pz) (i k:Nat):(edT p i k).length<=441:=by rw [edT,List.length_map];exact twnX_len _ _ _
theorem flat_lenN {α:Type} {f:Nat->List α} {m:Nat} (h:∀ i,(f i).length<=m) (n:Nat):((List.range n).flatMap f).length<=n * m:=by
 induction n with
 | zero=>simp
 | succ n ih =>
   rw [List.range_succ,List.flatMap_append,List.length_append,Nat.succ_mul]
   have:=h n
   simp only [List.flatMap_cons,List.flatMap_nil,List.append_nil]
   omega
theorem edI_len (p:Pz) (i:Nat):(edI p i).length<=9 * 441:=flat_lenN (edT_len p i) 9
theorem edgT_len (p:Pz) {k n:Nat} (cur:List Twn) (hk:k<=882) (hn:n<=9) (hc:cur.length<=1000):(edgT p k n cur).length<=4000000:=by
 rw [edgT,List.length_append,List.length_append,List.length_map]
 have h1:=flat_lenN (edI_len p) k
 have h2:=flat_lenN (edT_len p k) n
 have h3:k * (9 * 441)<=882 * (9 * 441):=Nat.mul_le_mul_right _ hk
 have h4:n * 441<=9 * 441:=Nat.mul_le_mul_right _ hn
 omega
theorem elNt:ElemOk Try.prog 44 67 (.agg #[.int .i64 0,.int .i64 0,.bool false,.int .i64 0,.int .i64 0]) 5 40:=⟨Try.underlying44,by kernel_rfl,rfl,by omega⟩
theorem elEg:ElemOk Try.prog 45 51 (.agg #[.int .i64 0,.int .i64 0,.int .i64 0]) 3 24:=⟨Try.underlying45,by kernel_rfl,rfl,by omega⟩
structure PrR (lo:Nat) (w0 wr:World) (vl ve:Value) (g:Nat) (L:List Twn) (E:List Tri) (T:List Int):Prop where
 ls:wr.ownsRow lo 67 5 vl L.length (L.flatMap cNt)
 es:wr.ownsRow lo 51 3 ve E.length (E.flatMap cEg)
 ts:wr.ownsRow lo 3 1 (.slice (some ⟨g,0,none⟩) 882 882) 882 (T.flatMap cI)
 d1:∀ b,vl.ownBlock=some b->ve.ownBlock ≠ some b
 d2:vl.ownBlock ≠ some g
 d3:ve.ownBlock ≠ some g
 bel:Below lo w0 wr
section
variable {lo:Nat} {w0 wr w4:World} {vl ve v':Value} {g:Nat} {L:List Twn} {E:List Tri} {T:List Int}
theorem PrR.gLt (h:PrR lo w0 wr vl ve g L E T):lo<=g/\g < wr.heap.size:=h.ts.lt g rfl
theorem PrR.below (h:PrR lo w0 wr vl ve g L E T) (hs:lo<=w0.heap.size) (hb:Below wr.heap.size wr w4):PrR lo w0 w4 vl ve g L E T :=
 ⟨ownsRow_below h.ls hb (Nat.le_refl _),ownsRow_below h.es hb (Nat.le_refl _),ownsRow_below h.ts hb (Nat.le_refl _),h.d1,h.d2,h.d3,h.bel.trans (hb.mono (Nat.le_trans hs h.bel.size))⟩
theorem PrR.node (h:PrR lo w0 wr vl ve g L E T) (hs:lo<=w0.heap.size) {L':List Twn} {o:Obj} (hrow:w4.ownsRow lo 67 5 v' L'.length (L'.flatMap cNt)) (hg:(wr.alloc o).grownBy w4 vl.ownBlock) (hat:v'.ownBlock=vl.ownBlock ∨ ∃ b,v'.ownBlock=some b/\wr.heap.size<=b) :
 PrR lo w0 w4 v' ve g L' E T:=by
 have hl:=h.ls.lt
 have he:=h.es.lt
 have ht:=h.gLt
 refine ⟨hrow,?_,?_,?_,?_,h.d3,?_⟩
 · refine ownsRow_block h.es fun b hb=>?_
   have h1:=he b hb
   rw [hg.block b (by simp;omega) (fun e=>h.d1 b e.symm hb),Below.heap_alloc _ _ _ h1.2]
 · refine ownsRow_block h.ts fun b hb=>?_
   have hb:some g=some b:=hb
   cases hb
   rw [hg.block g (by simp;omega) (fun e=>h.d2 e.symm),Below.heap_alloc _ _ _ ht.2]
 · intro b hb hb2
   rcases hat with e | ⟨c,e,hge⟩
   · exact h.d1 b (by rw [<- e];exact hb) hb2
   · rw [e] at hb
     cases hb
     have:=(he b hb2).2
     omega
 · intro hb
   rcases hat with e | ⟨c,e,hge⟩
   · exact h.d2 (by rw [<- e];exact hb)
   · rw [e] at hb
     cases hb
     omega
 · exact (h.bel.alloc (Nat.le_trans hs h.bel.size) o).grown hg (by have:=h.bel.size;simp;omega) (fun b hb=>(hl b hb).1)
theorem PrR.edge (h:PrR lo w0 wr vl ve g L E T) (hs:lo<=w0.heap.size) {E':List Tri} {o:Obj} (hrow:w4.ownsRow lo 51 3 v' E'.length (E'.flatMap cEg)) (hg:(wr.alloc o).grownBy w4 ve.ownBlock) (hat:v'.ownBlock=ve.ownBlock ∨ ∃ b,v'.ownBlock=some b/\wr.heap.size<=b) :
 PrR lo w0 w4 vl v' g L E' T:=by
 have hl:=h.ls.lt
 have he:=h.es.lt
 have ht:=h.gLt
 refine ⟨?_,hrow,?_,?_,h.d2,?_,?_⟩
 · refine ownsRow_block h.ls fun b hb=>?_
   have h1:=hl b hb
   rw [hg.block b (by simp;omega) (fun e=>h.d1 b hb e.symm),Below.heap_alloc _ _ _ h1.2]
 · refine ownsRow_block h.ts fun b hb=>?_
   have hb:some g=some b:=hb
   cases hb
   rw [hg.block g (by simp;omega) (fun e=>h.d3 e.symm),Below.heap_alloc _ _ _ ht.2]
 · intro b hb hb2
   rcases hat with e | ⟨c,e,hge⟩
   · exact h.d1 b hb (by rw [<- e];exact hb2)
   · rw [e] at hb2
     cases hb2
     have:=(hl b hb).2
     omega
 · intro hb
   rcases hat with e | ⟨c,e,hge⟩
   · exact h.d3 (by rw [<- e];exact hb)
   · rw [e] at hb
     cases hb
     omega
 · exact (h.bel.alloc (Nat.le_trans hs h.bel.size) o).grown hg (by have:=h.bel.size;simp;omega) (fun b hb=>(he b hb).1)
theorem PrR.put (h:PrR lo w0 wr vl ve g L E T) (s:Nat) (x:Int):PrR lo w0 (wr.setCell ⟨g,s,none⟩ (.int .i64 x)) vl ve g L E (T.set s x):=by
 have ht:=h.gLt
 have hst:=(World.ownsRow.stored h.ts s (.int .i64 x)).1
 rw [flatI_set] at hst
 refine ⟨?_,?_,hst,h.d1,h.d2,h.d3,h.bel.setCell ht.1 _⟩
 · exact ownsRow_block h.ls fun b hb=>Below.heap_setCell _ _ _ _ (by intro e;simp only at e;subst e;exact h.d2 hb)
 · exact ownsRow_block h.es fun b hb=>Below.heap_setCell _ _ _ _ (by intro e;simp only at e;subst e;exact h.d3 hb)
theorem PrR.cellT (h:PrR lo w0 wr vl ve g L E T) (hT:T.length=882) {s:Nat} (hs:s < 882):wr.cell? ⟨g,s,none⟩=some (.int .i64 (T.getD s 0))/\wr.frozen? ⟨g,s,none⟩=false :=
 ⟨(World.ownsRow.cellAt h.ts s (by omega)).trans (flatI_at (getD_of (by omega))),World.ownsRow.frozenAt h.ts s⟩
end
end Go.Proofs.Ythnapjodmndlaaa
namespace Go.Proofs.Ythnapjodmndlaaa
open Go.ChangeShapes Go.WideShapes Go.ChangeAt Go.RowKit
attribute [local go_sem] ext_cell ext_frozen ext_lt ext_lt1 ext_lt2 ext_lt3 ltn2 ltn3 ltn13 lts1 lts2 lts3
def PrS (lo:Nat) (w0 wr:World) (vl ve:Value) (g:Nat) (p:Pz) (k n:Nat) (cur:List Twn):Prop:=∃ T,PrR lo w0 wr vl ve g (listT p k n cur) (edgT p k n cur) T/\TabOk (listT p k n cur) T
theorem PrS.below {lo:Nat} {w0 wr w4:World} {vl ve:Value} {g:Nat} {p:Pz} {k n:Nat} {cur:List Twn} (h:PrS lo w0 wr vl ve g p k n cur) (hs:lo<=w0.heap.size) (hb:Below wr.heap.size wr w4):PrS lo w0 w4 vl ve g p k n cur:=by
 obtain ⟨T,h1,h2⟩:=h
 exact ⟨T,h1.below hs hb,h2⟩
theorem PrS.bel {lo:Nat} {w0 wr:World} {vl ve:Value} {g:Nat} {p:Pz} {k n:Nat} {cur:List Twn} (h:PrS lo w0 wr vl ve g p k n cur):Below lo w0 wr:=by
 obtain ⟨T,h1,h2⟩:=h
 exact h1.bel
theorem PrS.pair {lo:Nat} {w0 wr:World} {vl ve:Value} {g:Nat} {p:Pz} {k:Nat} (h:PrS lo w0 wr vl ve g p k 9 []) (hk:k < (allT p k).length) (h9:k<=882):PrS lo w0 wr vl ve g p (k+1) 0 []:=by
 unfold PrS at h ⊢
 rw [listT_nine hk h9,edgT_nine] at h
 exact h
theorem PrS.letter {lo:Nat} {w0 wr:World} {vl ve:Value} {g:Nat} {p:Pz} {k n:Nat} (h:PrS lo w0 wr vl ve g p k n (twnX p n (twnA p k))):PrS lo w0 wr vl ve g p k (n+1) []:=by
 unfold PrS at h ⊢
 rw [listT_next,edgT_next] at h
 exact h
theorem mem_pre (X:Nat) {i n:Nat} (h:i<=n):mem i X <+: mem n X:=by
 induction n with
 | zero=>rw [show i=0 by omega];exact List.prefix_refl _
 | succ n ih =>
   rcases Nat.lt_or_ge n i with h1 | h1
   · rw [show i=n+1 by omega];exact List.prefix_refl _
   · rw [mem_succ];exact (ih h1).trans (List.prefix_append _ _)
theorem upC_pre (d:Bool) (X Y i j:Nat) (hi:i<=20) (hj:j<=21):(upT d X Y i ++ rowC (X.testBit i) d i Y j) <+: upT d X Y 21:=by
 have h1:upT d X Y (i+1) <+: upT d X Y 21:=by
  obtain ⟨r,hr⟩:=mem_pre X (show i+1<=21 by omega)
  rw [upT,upT,<- hr,List.flatMap_append]
  exact List.prefix_append _ _
 refine List.IsPrefix.trans ?_ h1
 rw [upT_succ]
 refine (List.prefix_append_right_inj _).2 ?_
 rw [rowC,rowC]
 split
 · obtain ⟨r,hr⟩:=mem_pre Y hj
   rw [rowT,rowT,<- hr,List.map_append]
   exact List.prefix_append _ _
 · exact List.prefix_refl _
theorem PrS.start {w w0 w1:World} {p:Pz} (hsz:w0.heap.size=w.heap.size+1) (hrow:w1.ownsRow w0.heap.size 3 1 (.slice (some ⟨w.heap.size+1+1+1,0,none⟩) 882 882) 882 ((List.replicate 882 (0:Int)).flatMap cI))
 (hb:Below (w.heap.size+1+1+1) ((w0.alloc (.cells #[.int .i64 0,.int .i64 0,.bool false,.int .i64 0,.int .i64 0] 67)).alloc (.cells #[] 51)) w1) :
 PrS (w.heap.size+1) w0 w1 (.slice (some ⟨w.heap.size+1,0,none⟩) 1 1) (.slice (some ⟨w.heap.size+1+1,0,none⟩) 0 0) (w.heap.size+1+1+1) p 0 0 []:=by
 refine ⟨List.replicate 882 0,⟨?_,?_,?_,?_,?_,?_,?_⟩,TabOk.start⟩
 · have h:=World.ownsRow_lit (base:=w.heap.size+1) (e:=67) (size:=5) w0 #[.int .i64 0,.int .i64 0,.bool false,.int .i64 0,.int .i64 0] 1 (by omega) (by decide) rfl
   rw [hsz] at h
   exact ownsRow_below (h.alloc (.cells #[] 51)) hb (by simp;omega)
 · have h:=World.ownsRow_lit (base:=w.heap.size+1) (e:=51) (size:=3) (w0.alloc (.cells #[.int .i64 0,.int .i64 0,.bool false,.int .i64 0,.int .i64 0] 67)) #[] 0 (by simp;omega) (by decide) rfl
   have e:(w0.alloc (.cells #[.int .i64 0,.int .i64 0,.bool false,.int .i64 0,.int .i64 0] 67)).heap.size=w.heap.size+1+1:=by simp;omega
   rw [e] at h
   exact ownsRow_below h hb (by simp;omega)
 · have h:=hrow
   rw [hsz] at h
   exact h
 · intro b h1 h2
   simp only [Value.ownBlock,Option.map_some,Option.some.injEq] at h1 h2
   omega
 · simp only [Value.ownBlock,Option.map_some,ne_eq,Option.some.injEq]
   omega
 · simp only [Value.ownBlock,Option.map_some,ne_eq,Option.some.injEq]
   omega
 · exact (((Below.refl _ _).alloc (by omega) _).alloc (by simp;omega) _).trans (hb.mono (by omega))
set_option maxRecDepth 100000 in
set_option maxHeartbeats 8000000 in
theorem specPairs (v:Value) (p:Pz) (w:World) (hv:PzV 0 w.heap.size w v p) (hok:pzOk p=true) :
 Calls Try.prog 27 #[v] w fun e w'=>∃ vl ve,e=.returned (.tuple #[vl,ve])/\Own w.heap.size w'.heap.size w' 67 cNt 5 vl (endT p)/\Own w.heap.size w'.heap.size w' 51 cEg 3 ve (edsT p)/\Below w.heap.size w w':=by
 have HV:=Hd_ hv
 have HOK:=Hd_ hok
 have hpf:=pz_facts hok
 have h20:=hpf.1
 obtain ⟨vl,vf,rfl,⟨A,c,rfl,-,-,-⟩,h2⟩:=hv
 obtain ⟨B,n2,c2,rfl⟩:=h2.shape
 obtain ⟨N,hN⟩:∃ N,N=p.lets.length:=⟨_,rfl⟩
 rw [<- hN] at h20
 have HN:=Hd_ hN
 have HAF:=Hd_ (fun (s k:Nat) (W:World) (h:Below w.heap.size w W) (hs:s < 2 ^ 21)=>specAfter _ p s (k:Int) W (HV.out.keep h) HOK.out hs)
 rw [<- hN] at HAF ⊢
 obtain ⟨W0,hW0⟩:∃ W0,W0=w.alloc (.cells #[.slice A N c,.int .i64 p.first,.int .i64 p.last,.slice B n2 c2,.bool p.nul] 27):=⟨_,rfl⟩
 have hbp:Blk W0 w.heap.size 27 #[.slice A N c,.int .i64 p.first,.int .i64 p.last,.slice B n2 c2,.bool p.nul]:=by rw [hW0];exact Blk.new _ _ _ _ rfl
 have hb0:Below w.heap.size w W0:=by rw [hW0];exact (Below.refl _ _).alloc (Nat.le_refl _) _
 have hsz:W0.heap.size=w.heap.size+1:=by rw [hW0];simp
 have HBP:=Hd_ hbp
 have HB0:=Hd_ hb0
 clear hpf h2 hok hN hbp hb0
 go_enter Try.func27,Try.ntmps27
 go_upto_region 1 with fail
 rw [<- hW0]
 clear hW0
 go_wp2_with (at_make;refine wpList_makeE (P:=Try.prog) cI (0:Int) elInt rfl rfl rfl _ _ rfl W0.heap.size 882 _ (by rfl) (by rfl) rfl (by omega) (by unfold maxLen;omega) (by simp;omega) ?_;intro w1 hrow1 hbel1)
 have esz:∀ a b,((W0.alloc a).alloc b).heap.size=w.heap.size+1+1+1:=fun a b=>by simp [hsz]
 rw [esz] at hrow1 hbel1
 have hst:=PrS.start (p:=p) hsz hrow1 hbel1
 have HST:=Hd_ hst
 clear hst esz hrow1 hbel1
 have hs0:w.heap.size+1<=W0.heap.size:=by omega
 go_loopw [4,5,7,8,9,10,11,12,13] (fun ll ee kk _ _ _ _ _ _ wr=>∃ k:Nat,k<=(allT p k).length/\kk=.int .i64 (k:Int)/\PrS (w.heap.size+1) W0 wr ll ee (w.heap.size+1+1+1) p k 0 []) (fun _ _ kk _ _ _ _ _ _ _=>882 - (intOf kk).toNat)
 case atStart=>exact ⟨0,Nat.zero_le _,rfl,HST.out⟩
 case round =>
  clear HST
  obtain ⟨k,hk,rfl,hps⟩:=hrel
  obtain ⟨wo,rfl⟩:∃ wo:World,wo=wr:=⟨_,rfl⟩
  have HPS:=Hd_ hps
  have h882:=allT_len (p:=p) (by rw [<- HN.out];exact h20) k
  have hLpos:(allT p k).length ≠ 0:=by
   have h1:=(List.getElem?_eq_some_iff.1 (listT_start (p:=p) (k:=k) (n:=0) (cur:=[]))).1
   rw [listT_zero] at h1
   omega
  obtain ⟨M,hM⟩:∃ M,M=(allT p k).length:=⟨_,rfl⟩
  rw [<- hM] at hk h882 hLpos
  obtain ⟨T,hpr,htab⟩:=hps
  have hls:=hpr.ls
  rw [listT_zero,<- hM] at hls
  obtain ⟨gl,cl,rfl,-⟩:=own_some hls hLpos
  obtain ⟨A5,n5,c5,rfl⟩:=(Own.of_row hpr.es rfl rfl).shape
  have HM:=Hd_ hM
  clear hpr htab hls hLpos hM
  by_cases hlt:k < M
  · go_wp2_with fail
    have HKL:=Hd_ (show k < (allT p k).length by rw [<- HM.out];exact hlt)
    have hk8:k < 882:=by omega
    clear hlt
    go_loopw [4,5,8,9,10,11,12,13] (fun ll ee nn _ _ _ _ _ wr=>∃ n:Nat,n<=9/\nn=.int .i64 (n:Int)/\PrS (w.heap.size+1) W0 wr ll ee (w.heap.size+1+1+1) p k n []) (fun _ _ nn _ _ _ _ _ _=>9 - (intOf nn).toNat)
    case atStart=>exact ⟨0,by omega,rfl,HPS.out⟩
    case round =>
     clear HPS
     obtain ⟨n,hn,rfl,hps⟩:=hrel
     obtain ⟨wm,rfl⟩:∃ wm:World,wm=wr:=⟨_,rfl⟩
     have HPS:=Hd_ hps
     by_cases hn9:n < 9
     · have hbl:=hps.bel
       have hbb:=HB0.out.trans (hbl.mono (show w.heap.size<=w.heap.size+1 by omega))
       have hbp:Blk wm w.heap.size 27 #[.slice A N c,.int .i64 p.first,.int .i64 p.last,.slice B n2 c2,.bool p.nul]:=(hbl.block w.heap.size (by omega)).trans HBP.out
       have hat:=listT_low (p:=p) (k:=k) (n:=n) (cur:=[]) HKL.out (by omega)
       obtain ⟨T,hpr,htab⟩:=hps
       have hkm:=(List.getElem?_eq_some_iff.1 hat).1
       obtain ⟨ML,hML⟩:∃ ML,ML=(listT p k n []).length:=⟨_,rfl⟩
       have hls:=hpr.ls
       rw [<- hML] at hls hkm
       obtain ⟨gm,cm,rfl,hgm,hgmw,-,-⟩:=own_some hls (by omega)
       obtain ⟨b1,o1,e1,-,d0,d1,d2⟩:=((Own.of_row hpr.ls rfl rfl).sl cNt_len).nt hat
       cases e1
       have hki:(k:Int) < (ML:Int):=by omega
       rw [Nat.zero_add] at d0 d1 d2
       obtain ⟨⟨ta,tb,td⟩,ht⟩:∃ t,t=twnA p k:=⟨_,rfl⟩
       rw [<- ht] at d0 d1 d2
       have HT:=Hd_ ht
       obtain ⟨hta,htb⟩:ta<=20/\tb<=20:=by
        have:=allT_low (p:=p) (by rw [<- HN.out];exact h20) (List.mem_of_getElem? (endT_all (p:=p) (k:=k) HKL.out (by omega)))
        rw [<- ht] at this
        exact this
       simp only at d0 d1 d2
       have hba:bit ta < 2 ^ 21:=Nat.pow_lt_pow_right (by decide) (by omega)
       have hbb1:bit tb < 2 ^ 21:=Nat.pow_lt_pow_right (by decide) (by omega)
       have hsa:=shl_bit2 (s:=ta) (by omega)
       have hsb:=shl_bit2 (s:=tb) (by omega)
       have hsa3:=shl_bit3 (s:=ta) (by omega)
       have hsb3:=shl_bit3 (s:=tb) (by omega)
       have hnn:(n:Int) < 9:=by omega
       have x0:wm.cell? ⟨w.heap.size,0,none⟩=some (.slice A N c):=by exact hbp.cell 0
       have x1:wm.cell? ⟨w.heap.size,1,none⟩=some (.int .i64 p.first):=by exact hbp.cell 1
       have x2:wm.cell? ⟨w.heap.size,2,none⟩=some (.int .i64 p.last):=by exact hbp.cell 2
       have x3:wm.cell? ⟨w.heap.size,3,none⟩=some (.slice B n2 c2):=by exact hbp.cell 3
       have x4:wm.cell? ⟨w.heap.size,4,none⟩=some (.bool p.nul):=by exact hbp.cell 4
       have hl0:=hbp.lt
       have HBB:=Hd_ hbb
       have HBL:=Hd_ hbl
       clear hpr htab hat ht hML hbp hbb hbl hls
       obtain ⟨X,hX⟩:∃ X,X=aftP p (bit ta) (n:Int):=⟨_,rfl⟩
       obtain ⟨Y,hY⟩:∃ Y,Y=aftP p (bit tb) (n:Int):=⟨_,rfl⟩
       have HCA:=Hd_ (fun (W:World) (h:Below w.heap.size w W)=>HAF.out (bit ta) n W h hba)
       have HCB:=Hd_ (fun (W:World) (h:Below w.heap.size w W)=>HAF.out (bit tb) n W h hbb1)
       rw [<- hX] at HCA
       rw [<- hY] at HCB
       have hX2:=aftP_lt2 p (bit ta) (n:Int)
       have hY2:=aftP_lt2 p (bit tb) (n:Int)
       have hX0:=aftP_zero p (bit ta) (n:Int)
       have hY0:=aftP_zero p (bit tb) (n:Int)
       rw [<- hX,<- HN.out] at hX2
       rw [<- hY,<- HN.out] at hY2
       rw [<- hX] at hX0
       rw [<- hY] at hY0
       have HTX:=Hd_ (show twnX p n (twnA p k)=upT td X Y 21 by rw [<- HT.out,hX,hY];rfl)
       clear hX hY
       go_upto_region 10 with fail
       refine wp_region_ext_lit (by kernel_rfl) (by kernel_rfl) ?_
       repeat (go_big_quiet_step ((go_at_call 42;exact Calls.ext_of (HCA.out _ (below_trans HBB.out (ext_below _ _))))))
       refine wpQuiet_nil ?_
       rintro _ ⟨u2,rfl⟩
       have x0:=kcell (ext_below wm u2) x0
       have x1:=kcell (ext_below wm u2) x1
       have x2:=kcell (ext_below wm u2) x2
       have x3:=kcell (ext_below wm u2) x3
       have x4:=kcell (ext_below wm u2) x4
       have d0:=kcell (ext_below wm u2) d0
       have d1:=kcell (ext_below wm u2) d1
       have d2:=kcell (ext_below wm u2) d2
       have hs2:=(ext_below wm u2).size
       have HBB:=Hd_ (below_trans HBB.out (ext_below wm u2))
       have HPS:=Hd_ (HPS.out.below hs0 (ext_below wm u2))
       generalize ext wm u2=wn at *
       have hgw:=Nat.lt_of_lt_of_le hgmw hs2
       have hlw:=Nat.lt_of_lt_of_le hl0 hs2
       go_upto_region 11 with fail
       refine wp_region_ext_lit (by kernel_rfl) (by kernel_rfl) ?_
       repeat (go_big_quiet_step ((go_at_call 42;exact Calls.ext_of (HCB.out _ (below_trans HBB.out (ext_below _ _))))))
       refine wpQuiet_nil ?_
       rintro _ ⟨u3,rfl⟩
       have HPS:=Hd_ (show PrS (w.heap.size+1) W0 (ext wn u3) (.slice (some ⟨gm,0,none⟩) ML cm) _ (w.heap.size+1+1+1) p k n (upT td X Y 1) by rw [upT_one td Y hX0];exact HPS.out.below hs0 (ext_below wn u3))
       generalize ext wn u3=wq at *
       clear hX0 d0 d1 d2 x0 x1 x2 x3 x4 hsa hsb hsa3 hsb3 hba hbb1 HCA HCB hki HBL HBB hs2 hl0 hkm hgmw hgm hgw hlw
       have hX21:X < 2 ^ 21:=Nat.lt_of_lt_of_le hX2 (Nat.pow_le_pow_right (by decide) (by omega))
       have hY21:Y < 2 ^ 21:=Nat.lt_of_lt_of_le hY2 (Nat.pow_le_pow_right (by decide) (by omega))
       have HX2:=Hd_ hX2
       have HY2:=Hd_ hY2
       have HY0:=Hd_ hY0
       clear hX2 hY2 hY0
       go_wp2_with fail
       go_loopw [4,5,11,12,13] (fun ll ee ii _ _ wr=>∃ i:Nat,1<=i/\i<=N+1/\ii=.int .i64 (i:Int)/\PrS (w.heap.size+1) W0 wr ll ee (w.heap.size+1+1+1) p k n (upT td X Y i)) (fun _ _ ii _ _ _=>N+1 - (intOf ii).toNat)
       case atStart=>exact ⟨1,by omega,by omega,rfl,HPS.out⟩
       case round =>
        clear HPS
        obtain ⟨i,hi1,hiN,rfl,hps⟩:=hrel
        obtain ⟨wi,rfl⟩:∃ wi:World,wi=wr:=⟨_,rfl⟩
        have HPS:=Hd_ hps
        have hbp:Blk wi w.heap.size 27 #[.slice A N c,.int .i64 p.first,.int .i64 p.last,.slice B n2 c2,.bool p.nul]:=(hps.bel.block w.heap.size (by omega)).trans HBP.out
        have x0:wi.cell? ⟨w.heap.size,0,none⟩=some (.slice A N c):=hbp.cell 0
        have hl0:=hbp.lt
        clear hbp hps
        by_cases hle:i<=N
        · have hii:(i:Int)<=(N:Int):=by omega
          by_cases hxp:0 < X
          · have hxx:(0:Int) < (X:Int):=by omega
            have HUS:=Hd_ (upT_succ td X Y i)
            obtain ⟨bi,hbi⟩:∃ bi,bi=X.testBit i:=⟨_,rfl⟩
            rw [<- hbi] at HUS
            have HBI:=Hd_ hbi
            clear hbi
            go_wp2_with fail
            go_loopw [4,5,12,13] (fun ll ee jj _ wr=>∃ j:Nat,1<=j/\j<=N+1/\jj=.int .i64 (j:Int)/\PrS (w.heap.size+1) W0 wr ll ee (w.heap.size+1+1+1) p k n (upT td X Y i ++ rowC bi td i Y j)) (fun _ _ jj _ _=>N+1 - (intOf jj).toNat)
            case atStart=>exact ⟨1,by omega,by omega,rfl,by rw [rowC_one bi td i HY0.out,List.append_nil];exact HPS.out⟩
            case round =>
             clear HPS x0 hl0
             obtain ⟨j,hj1,hjN,rfl,hps⟩:=hrel
             obtain ⟨wj,rfl⟩:∃ wj:World,wj=wr:=⟨_,rfl⟩
             have HPS:=Hd_ hps
             have hbp:Blk wj w.heap.size 27 #[.slice A N c,.int .i64 p.first,.int .i64 p.last,.slice B n2 c2,.bool p.nul]:=(hps.bel.block w.heap.size (by omega)).trans HBP.out
             have x0:wj.cell? ⟨w.heap.size,0,none⟩=some (.slice A N c):=hbp.cell 0
             have hl0:=hbp.lt
             clear hbp hps
             by_cases hlj:j<=N
             · have hjj:(j:Int)<=(N:Int):=by omega
               by_cases hyp:0 < Y
               · have hyy:(0:Int) < (Y:Int):=by omega
                 cases hbb:(bi && Y.testBit j) with
                 | false =>
                   have HNX:=Hd_ (rowC_no (d:=td) (i:=i) hbb)
                   have hc1:bi=false ∨ (bi=true/\Y.testBit j=false):=by cases bi <;> simp_all
                   clear hbb
                   rcases hc1 with hb | ⟨hb,hb2⟩
                   · have hci:(bits .and .i64 ((X:Int) / 2 ^ i) 1==0)=true:=by rw [bit_off (by omega) (by omega) (by rw [<- HBI.out];exact hb)];rfl
                     clear hb
                     go_wp2_with fail
                     go_roundw
                     case rel=>exact ⟨j+1,by omega,by omega,by go_num,by rw [HNX.out];exact HPS.out⟩
                     case measure=>simp [intOf];omega
                   · have hci:(bits .and .i64 ((X:Int) / 2 ^ i) 1==0)=false:=by rw [bit_on (by omega) (by omega) (by rw [<- HBI.out];exact hb)];rfl
                     have hcj:(bits .and .i64 ((Y:Int) / 2 ^ j) 1==0)=true:=by rw [bit_off (by omega) (by omega) hb2];rfl
                     clear hb hb2
                     go_wp2_with fail
                     go_roundw
                     case rel=>exact ⟨j+1,by omega,by omega,by go_num,by rw [HNX.out];exact HPS.out⟩
                     case measure=>simp [intOf];omega
                 | true =>
                   rw [Bool.and_eq_true] at hbb
                   obtain ⟨rfl,hbj⟩:=hbb
                   have hci:(bits .and .i64 ((X:Int) / 2 ^ i) 1==0)=false:=by rw [bit_on (by omega) (by omega) HBI.out.symm];rfl
                   have hcj:(bits .and .i64 ((Y:Int) / 2 ^ j) 1==0)=false:=by rw [bit_on (by omega) (by omega) hbj];rfl
                   have HNX:=Hd_ (rowC_yes (bi:=true) (d:=td) (i:=i) rfl hbj)
                   have hij:((i:Int) != (j:Int))=decide (i ≠ j):=by
                    by_cases h:i=j
                    · subst h;simp
                    · have h2:¬ (i:Int)=(j:Int):=by omega
                      rw [decide_eq_true h]
                      simpa using h2
                   have HPRE:=Hd_ (upC_pre td X Y i (j+1) (by omega) (by omega))
                   rw [<- HBI.out,HNX.out] at HPRE
                   have HCL:=Hd_ (show (upT td X Y i ++ rowC true td i Y j).length<=500 by
                    have h1:=upT_len td X Y i
                    have h2:=rowC_len true td i Y (j:=j) (by omega)
                    rw [List.length_append]
                    omega)
                   rw [<- List.append_assoc] at HPRE
                   obtain ⟨C,hC⟩:∃ C,C=upT td X Y i ++ rowC true td i Y j:=⟨_,rfl⟩
                   rw [<- hC] at HPRE HPS HCL
                   obtain ⟨D,hD⟩:∃ D,D=(td || decide (i ≠ j)):=⟨_,rfl⟩
                   rw [<- hD] at HPRE HNX
                   have HC:=Hd_ (show upT td X Y i ++ rowC true td i Y (j+1)=C ++ [(i,j,D)] by rw [HNX.out,hC,List.append_assoc])
                   obtain ⟨T,hpr,htab⟩:=HPS.out
                   have hlow:=listT_low (n:=n) (cur:=C) HKL.out (by omega)
                   have HLP:=Hd_ (by obtain ⟨r,hr⟩:=HPRE.out;exact listT_pre (cur:=C ++ [(i,j,D)]) (rest:=r) HKL.out hk8 hn9 (by rw [HTX.out];exact hr))
                   have HEL:=Hd_ (edgT_len p (k:=k) (n:=n) C (by omega) (by omega) (by have:=HCL.out;omega))
                   rw [listT_snoc] at HLP
                   obtain ⟨L,hL⟩:∃ L,L=listT p k n C:=⟨_,rfl⟩
                   obtain ⟨E,hE⟩:∃ E,E=edgT p k n C:=⟨_,rfl⟩
                   rw [<- hL] at hlow hpr htab HLP
                   rw [<- hE] at hpr HEL
                   have HL:=Hd_ hL
                   have HE:=Hd_ hE
                   have hkL:=(List.getElem?_eq_some_iff.1 hlow).1
                   obtain ⟨g2,q2,rfl,hg2,hg2w,-,-⟩:=own_some hpr.ls (by omega)
                   obtain ⟨A6,n6,c6,rfl⟩:=(Own.of_row hpr.es rfl rfl).shape
                   obtain ⟨b1,o1,e1,-,-,-,d2⟩:=((Own.of_row hpr.ls rfl rfl).sl cNt_len).nt hlow
                   cases e1
                   rw [Nat.zero_add,<- HT.out] at d2
                   simp only at d2
                   have hki:(k:Int) < (L.length:Int):=by omega
                   have HPR:=Hd_ hpr
                   have HTAB:=Hd_ htab
                   clear hbj HPS HNX hlow hpr htab hL hE hC HPRE
                   go_upto_region 19 with fail
                   go_cut [13] (fun zz wx=>zz=.pointer (some ⟨wj.heap.size,0,none⟩)/\Blk wx wj.heap.size 67 #[.int .i64 (i:Int),.int .i64 (j:Int),.bool D,.int .i64 0,.int .i64 0]/\Below wj.heap.size wj wx)
                   case first =>
                    have hbz:=Blk.new wj 67 #[.int .i64 0,.int .i64 0,.bool false,.int .i64 0,.int .i64 0] _ rfl
                    have HBZ:=Hd_ hbz
                    clear hbz
                    cases td with
                    | true =>
                      obtain rfl:D=true:=by rw [hD];rfl
                      clear hD hij
                      go_wp2_with fail
                      go_meet
                      exact ⟨rfl,Blk.new _ _ _ _ rfl,(Below.refl _ _).alloc (Nat.le_refl _) _⟩
                    | false =>
                      rw [Bool.false_or] at hD
                      rw [<- hD] at hij
                      clear hD
                      go_wp2_with fail
                      go_meet
                      exact ⟨rfl,Blk.new _ _ _ _ rfl,(Below.refl _ _).alloc (Nat.le_refl _) _⟩
                   case rest =>
                    obtain ⟨rfl,hbz,hbx⟩:=hcut
                    obtain ⟨zb,hzb⟩:∃ zb,zb=wj.heap.size:=⟨_,rfl⟩
                    have HPX:=Hd_ (HPR.out.below hs0 hbx)
                    have hsx:=hbx.size
                    have hgz:w.heap.size+1+1+1 < zb:=by rw [hzb];exact HPR.out.gLt.2
                    have hg2z:g2 < zb:=by rw [hzb];exact hg2w
                    rw [<- hzb] at hbz ⊢
                    have hzlt:=hbz.lt
                    have HBZ:=Hd_ hbz
                    have z0:(wc).cell? ⟨zb,0,none⟩=some (.int .i64 (i:Int)):=(hbz).cell 0
                    have z1:(wc).cell? ⟨zb,1,none⟩=some (.int .i64 (j:Int)):=(hbz).cell 1
                    have z2:(wc).cell? ⟨zb,2,none⟩=some (.bool D):=(hbz).cell 2
                    have z3:(wc).cell? ⟨zb,3,none⟩=some (.int .i64 0):=(hbz).cell 3
                    have z4:(wc).cell? ⟨zb,4,none⟩=some (.int .i64 0):=(hbz).cell 4
                    obtain ⟨S,hS⟩:∃ S,S=slotT (i,j,D):=⟨_,rfl⟩
                    have hS8:S < 882:=by rw [hS];exact slotT_lt (by simp only;omega) (by simp only;omega)
                    have HSL:=Hd_ (fun W=>l10Slot_any i j D 0 0 (by omega) (by omega) W)
                    rw [<- hS] at HSL
                    have HS:=Hd_ hS
                    have HLW:=Hd_ (show ∀ t ∈ L,t.2.1<=20 from fun t ht=>by
                     have h1:=(HLP.out.subset (foldT_pre [(i,j,D)] L |>.subset ht))
                     have h2:=HLP.out
                     exact (allT_low (p:=p) (i:=882) (by rw [<- HN.out];exact h20) (by rw [endT] at h1;exact h1)).2)
                    have HZM:=Hd_ (show (i,j,D) ∈ addT L (i,j,D) from addT_mem.2 (.inr rfl))
                    clear hbz hbx hS d2 hD hij hzb
                    go_wp2_with fail
                    refine (HSL.out _).mono ?_
                    rintro e w5 ⟨rfl,hb5⟩
                    have HPX:=Hd_ (HPX.out.below hs0 hb5)
                    have hc5:=HPX.out.cellT HTAB.out.len hS8
                    have hg5:=HPX.out.gLt.2
                    have hbz:=HBZ.out.keep hb5
                    have HBZ:=Hd_ hbz
                    have hzlt:=hbz.lt
                    have z0:(w5).cell? ⟨zb,0,none⟩=some (.int .i64 (i:Int)):=(hbz).cell 0
                    have z1:(w5).cell? ⟨zb,1,none⟩=some (.int .i64 (j:Int)):=(hbz).cell 1
                    have z2:(w5).cell? ⟨zb,2,none⟩=some (.bool D):=(hbz).cell 2
                    have z3:(w5).cell? ⟨zb,3,none⟩=some (.int .i64 0):=(hbz).cell 3
                    have z4:(w5).cell? ⟨zb,4,none⟩=some (.int .i64 0):=(hbz).cell 4
                    obtain ⟨hc5,hf5⟩:=hc5
                    have hSi:(S:Int) < 882:=by omega
                    clear hbz hb5 hsx
                    by_cases hmem:(i,j,D) ∈ L
                    · have HT5:=Hd_ (HTAB.out.hit (by have h:=HLP.out;rw [addT_has hmem] at h;exact h) hmem)
                      have hpos:=idx_pos (HLP.out.subset HZM.out) hi1
                      rw [<- HS.out] at HT5
                      rw [HT5.out] at hc5
                      have HAD:=Hd_ (addT_has hmem)
                      obtain ⟨I,hI⟩:∃ I,I=idxT p (i,j,D):=⟨_,rfl⟩
                      rw [<- hI] at hpos hc5 HT5
                      have HI:=Hd_ hI
                      have hne:((I:Int)==0)=false:=by simpa using (show ¬ I=0 by omega)
                      have hel:=HEL.out
                      clear hI hmem
                      go_wp2_with fail
                      refine (HSL.out _).mono ?_
                      rintro e w6 ⟨rfl,hb6⟩
                      have HPY:=Hd_ (HPX.out.below hs0 hb6)
                      obtain ⟨hc6,hf6⟩:=HPY.out.cellT HTAB.out.len hS8
                      rw [HT5.out] at hc6
                      have hg6:=HPY.out.gLt.2
                      have hs6:=hb6.size
                      have hsW:=HPY.out.bel.size
                      clear hc5 hf5 hg5 hb6
                      have qb1:(E.length+1) * 24<=140737488355328:=by omega
                      have qb2:w.heap.size+1<=w6.heap.size:=by omega
                      go_wp2_with (at_builtin;(refine wpList_append1 cEg elEg rfl _ _ rfl (w.heap.size+1) _ E (k,n,I) _ 1 _ (by rfl) HPY.out.es (by rfl) rfl rfl rfl (cEg_one _) qb1 (by decide) qb2 ?_);intro v7 w7 hrow7 hb7 hat7 hgr7)
                      go_roundw
                      case rel=>exact ⟨j+1,by omega,by omega,by go_num,by rw [HC.out];exact ⟨T,by rw [listT_snoc,edgT_snoc,<- HL.out,<- HE.out,HAD.out,<- HI.out];exact HPY.out.edge hs0 hrow7 hgr7 hat7,by rw [listT_snoc,<- HL.out,HAD.out];exact HTAB.out⟩⟩
                      case measure=>simp [intOf];omega
                    · have HT5:=Hd_ (HTAB.out.miss hmem (by simp only;omega) HLW.out)
                      rw [<- HS.out] at HT5
                      rw [HT5.out] at hc5
                      have HAD:=Hd_ (addT_new hmem)
                      have hel:=HEL.out
                      have hLl:L.length<=882:=by
                       have h1:=List.IsPrefix.length_le HLP.out
                       rw [HAD.out,List.length_append] at h1
                       have h2:=allT_len (p:=p) (by rw [<- HN.out];exact h20) 882
                       rw [endT] at h1
                       omega
                      have HTA:=Hd_ (HTAB.out.add hmem (by simp only;omega) (by simp only;omega) HLW.out)
                      rw [<- HS.out] at HTA
                      have HT9:=Hd_ (HTA.out.hit (z:=(i,j,D)) (by have h:=HLP.out;rw [HAD.out] at h;exact h) (List.mem_append_right _ (List.mem_singleton.2 rfl)))
                      rw [<- HS.out] at HT9
                      clear hmem
                      go_wp2_with fail
                      refine (HSL.out _).mono ?_
                      rintro e w6 ⟨rfl,hb6⟩
                      have HPY:=Hd_ (HPX.out.below hs0 hb6)
                      obtain ⟨hc6,hf6⟩:=HPY.out.cellT HTAB.out.len hS8
                      have hg6:=HPY.out.gLt.2
                      have HBZ:=Hd_ (HBZ.out.keep hb6)
                      have hzlt:=HBZ.out.lt
                      have hs6:=hb6.size
                      clear hc5 hf5 hg5 hb6 z0 z1 z2 z3 z4
                      go_upto_region 22 with fail
                      have HPZ:=Hd_ (HPY.out.put S (L.length:Int))
                      have hbz7:=HBZ.out.far (p:=⟨w.heap.size+1+1+1,S,none⟩) (by simp only;omega) (.int .i64 (L.length:Int))
                      have hs7:(w6.setCell ⟨w.heap.size+1+1+1,S,none⟩ (.int .i64 (L.length:Int))).heap.size=w6.heap.size:=by simp [World.setCell]
                      generalize w6.setCell ⟨w.heap.size+1+1+1,S,none⟩ (.int .i64 (L.length:Int))=w7 at *
                      have HBZ7:=Hd_ hbz7
                      have z0:(w7).cell? ⟨zb,0,none⟩=some (.int .i64 (i:Int)):=(hbz7).cell 0
                      have z1:(w7).cell? ⟨zb,1,none⟩=some (.int .i64 (j:Int)):=(hbz7).cell 1
                      have z2:(w7).cell? ⟨zb,2,none⟩=some (.bool D):=(hbz7).cell 2
                      have z3:(w7).cell? ⟨zb,3,none⟩=some (.int .i64 0):=(hbz7).cell 3
                      have z4:(w7).cell? ⟨zb,4,none⟩=some (.int .i64 0):=(hbz7).cell 4
                      have hzlt7:=hbz7.lt
                      have hsW:=HPZ.out.bel.size
                      have qb1:(L.length+1) * 40<=140737488355328:=by omega
                      have qb2:w.heap.size+1<=w7.heap.size:=by omega
                      have qb3:(E.length+1) * 24<=140737488355328:=by omega
                      have qb4:∀ x y:Nat,g2=x->x=zb->False:=fun x y h1 h2=>by omega
                      clear hbz7 hc6 hf6 hg6 hs7 hs6 hel hLl
                      go_wp2_with (at_builtin;(refine wpList_append1 cNt elNt rfl _ _ rfl (w.heap.size+1) _ L (i,j,D) _ 1 _ (by rfl) HPZ.out.ls (by rfl) rfl rfl rfl (cNt_one _) qb1 (by decide) qb2 ?_);intro v8 w8 hrow8 hb8 hat8 hgr8;have HP8:=Hd_ (HPZ.out.node hs0 hrow8 hgr8 hat8);have hbz8:Blk w8 zb 67 #[.int .i64 (i:Int),.int .i64 (j:Int),.bool D,.int .i64 0,.int .i64 0]:=(hgr8.block zb (by simp;omega) (fun e=>by simp only [Value.ownBlock,Option.map_some,Option.some.injEq] at e;exact qb4 _ 0 rfl e.symm)).trans (HBZ7.out.alloc _);have z0:=hbz8.cell 0;have z1:=hbz8.cell 1;have z2:=hbz8.cell 2;have z3:=hbz8.cell 3;have z4:=hbz8.cell 4;have hzlt8:=hbz8.lt;clear hbz8)
                      refine (HSL.out _).mono ?_
                      rintro e w9 ⟨rfl,hb9⟩
                      have HPY:=Hd_ (HP8.out.below hs0 hb9)
                      obtain ⟨hc6,hf6⟩:=HPY.out.cellT HTA.out.len hS8
                      obtain ⟨I,hI⟩:∃ I,I=idxT p (i,j,D):=⟨_,rfl⟩
                      rw [<- hI] at HT9
                      rw [HT9.out] at hc6
                      have HI:=Hd_ hI
                      have hg6:=HPY.out.gLt.2
                      have hsW:=HPY.out.bel.size
                      have qb2:w.heap.size+1<=w9.heap.size:=Nat.le_trans hs0 hsW
                      clear hI hb9 hsW z0 z1 z2 z3 z4
                      go_wp2_with (at_builtin;(refine wpList_append1 cEg elEg rfl _ _ rfl (w.heap.size+1) _ E (k,n,I) _ 1 _ (by rfl) HPY.out.es (by rfl) rfl rfl rfl (cEg_one _) qb3 (by decide) qb2 ?_);intro v7 w10 hrow7 hb7 hat7 hgr7)
                      go_roundw
                      case rel=>exact ⟨j+1,by omega,by omega,by go_num,by rw [HC.out];exact ⟨T.set S (L.length:Int),by rw [listT_snoc,edgT_snoc,<- HL.out,<- HE.out,HAD.out,<- HI.out];exact HPY.out.edge hs0 hrow7 hgr7 hat7,by rw [listT_snoc,<- HL.out,HAD.out];exact HTA.out⟩⟩
                      case measure=>simp [intOf];omega
               · have hyy:¬ (0:Int) < (Y:Int):=by omega
                 have HEND:=Hd_ (rowC_end (bi:=bi) (d:=td) (i:=i) (show Y < 2 ^ j by have:=Nat.two_pow_pos j;omega) (by omega))
                 clear hyp
                 go_wp2_with fail
                 go_roundw
                 case rel=>exact ⟨i+1,by omega,by omega,by go_num,by rw [HUS.out,HEND.out];exact HPS.out⟩
                 case measure=>simp [intOf];omega
             · have hjj:¬ (j:Int)<=(N:Int):=by omega
               have HEND:=Hd_ (rowC_end (bi:=bi) (d:=td) (i:=i) (show Y < 2 ^ j by rw [show j=N+1 by omega];exact HY2.out) (by omega))
               go_wp2_with fail
               go_roundw
               case rel=>exact ⟨i+1,by omega,by omega,by go_num,by rw [HUS.out,HEND.out];exact HPS.out⟩
               case measure=>simp [intOf];omega
          · have hxx:¬ (0:Int) < (X:Int):=by omega
            have HEND:=Hd_ (upT_end td (X:=X) (i:=i) Y (by have:=Nat.two_pow_pos i;omega) (by omega))
            clear hxp
            go_wp2_with fail
            go_roundw
            case rel=>exact ⟨n+1,by omega,by go_num,PrS.letter (by rw [HTX.out,HEND.out];exact HPS.out)⟩
            case measure=>simp [intOf];omega
        · have hii:¬ (i:Int)<=(N:Int):=by omega
          have HEND:=Hd_ (upT_end td (X:=X) (i:=i) Y (by rw [show i=N+1 by omega];exact HX2.out) (by omega))
          go_wp2_with fail
          go_roundw
          case rel=>exact ⟨n+1,by omega,by go_num,PrS.letter (by rw [HTX.out,HEND.out];exact HPS.out)⟩
          case measure=>simp [intOf];omega
     · obtain rfl:n=9:=by omega
       go_wp2_with fail
       go_roundw
       case rel=>exact ⟨k+1,Nat.le_trans HKL.out (List.IsPrefix.length_le (allT_pre p k)),by go_num,HPS.out.pair HKL.out (by omega)⟩
       case measure=>simp [intOf];omega
  · obtain rfl:k=M:=by omega
    have HE1:=Hd_ (endT_eq (p:=p) (i:=k) (Nat.le_of_eq HM.out.symm) h882)
    have HE2:=Hd_ (show edsT p=edgT p k 0 [] by rw [edsT,HE1.out,<- HM.out,edgT];simp)
    go_wp2_with fail
    go_ret2
    obtain ⟨T,hpr,-⟩:=HPS.out
    rw [HE1.out,HE2.out]
    have hl:=hpr.ls
    have he:=hpr.es
    exact ⟨_,_,rfl,(Own.of_row hpr.ls rfl rfl).mono (by omega) (Nat.le_refl _),(Own.of_row hpr.es rfl rfl).mono (by omega) (Nat.le_refl _),HB0.out.trans (hpr.bel.mono (by omega))⟩
set_option maxRecDepth 100000 in
set_option maxHeartbeats 2000000 in
theorem implAccepts (v:Value) (p:Pz) (s:Nat) (w:World) (hv:PzV 0 w.heap.size w v p) (hok:pzOk p=true) (hs:s < 2 ^ 21) :
 Calls Try.prog 37 #[v,.int .i64 (s:Int)] w fun e w'=>e=.returned (.bool (accP p s))/\Below w.heap.size w w':=by
 obtain ⟨R,hR⟩:∃ R,R=accP p s:=⟨_,rfl⟩
 rw [<- hR]
 have HR:=Hd_ hR
 clear hR
 obtain ⟨vl,vf,rfl,h1,h2⟩:=hv
 obtain ⟨A,n,c,rfl⟩:=h1.shape
 obtain ⟨B,n2,d,rfl⟩:=h2.shape
 have hL:=setP_lt (pz_facts hok).1 (pz_facts hok).2.2.2.2.2
 have HA1:=Hd_ (and_one (s:=s) (by omega))
 obtain ⟨pl,pf,pla,po,nul⟩:=p
 simp only at hL
 obtain ⟨y,rfl⟩:∃ y:Nat,pla=(y:Int):=⟨pla.toNat,by omega⟩
 simp only [Int.toNat_natCast] at hL
 have hdv:(s:Int) / 2 ^ 1=((s >>> 1:Nat):Int):=by rw [Nat.shiftRight_eq_div_pow];exact shr_nat s 1 (by omega)
 have hdv2:(s:Int) / 2=((s >>> 1:Nat):Int):=by rw [<- hdv];rfl
 have hsl:s >>> 1 < 2 ^ 62:=by rw [Nat.shiftRight_eq_div_pow];omega
 have hand:=i64_and_nat (s >>> 1) y hsl (by omega)
 have HRR:=Hd_ (show R=((s.testBit 0 && nul) || decide (s >>> 1 &&& y ≠ 0)) from HR.out)
 have hal:Below w.heap.size w (w.alloc (.cells #[.slice A n c,.int .i64 pf,.int .i64 (y:Int),.slice B n2 d,.bool nul] 27)):=(Below.refl _ _).alloc (Nat.le_refl _) _
 have HAL:=Hd_ hal
 have hq:((((s >>> 1 &&& y:Nat):Int) != 0))=decide (s >>> 1 &&& y ≠ 0):=by
  by_cases h0:s >>> 1 &&& y=0
  · rw [h0];rfl
  · rw [decide_eq_true h0];simpa using h0
 clear hok h1 h2 HR hsl hal hs hL
 obtain ⟨Q,hQ⟩:∃ Q,Q=s >>> 1 &&& y:=⟨_,rfl⟩
 rw [<- hQ] at hand hq HRR
 obtain ⟨q,hqq⟩:∃ q,q=decide (Q ≠ 0):=⟨_,rfl⟩
 rw [<- hqq] at hq HRR
 rw [<- hdv2] at hand
 rw [<- hand] at hq
 have HQ:=Hd_ hq
 clear hQ hqq hdv hdv2 hand hq
 cases hb:s.testBit 0 with
 | false =>
   rw [hb,if_neg (by simp)] at HA1
   rw [hb,Bool.false_and,Bool.false_or,<- HQ.out] at HRR
   have hc:(bits .and .i64 (s:Int) 1==1)=false:=by rw [HA1.out];rfl
   clear hb HA1
   go_enter Try.func37,Try.ntmps37
   go_wp2_with fail
   go_ret
   exact ⟨by rw [HRR.out];rfl,HAL.out⟩
 | true =>
   rw [hb,if_pos rfl] at HA1
   rw [hb,Bool.true_and] at HRR
   have hc:(bits .and .i64 (s:Int) 1==1)=true:=by rw [HA1.out];rfl
   clear hb HA1
   cases nul with
   | true =>
     rw [Bool.true_or] at HRR
     go_enter Try.func37,Try.ntmps37
     go_wp2_with fail
     go_ret
     exact ⟨by rw [HRR.out];rfl,HAL.out⟩
   | false =>
     rw [Bool.false_or,<- HQ.out] at HRR
     go_enter Try.func37,Try.ntmps37
     go_wp2_with fail
     go_ret
     exact ⟨by rw [HRR.out];rfl,HAL.out⟩
set_option maxRecDepth 100000 in
set_option maxHeartbeats 2000000 in
theorem specAccepts (v:Value) (p:Pz) (s:Nat) (w:World) (hv:PzV 0 w.heap.size w v p) (hok:pzOk p=true) (hs:s < 2 ^ 21) :
 Calls Try.prog 44 #[v,.int .i64 (s:Int)] w fun e w'=>e=.returned (.bool (accP p s))/\Below w.heap.size w w':=by
 obtain ⟨R,hR⟩:∃ R,R=accP p s:=⟨_,rfl⟩
 rw [<- hR]
 have HR:=Hd_ hR
 clear hR
 obtain ⟨vl,vf,rfl,h1,h2⟩:=hv
 obtain ⟨A,n,c,rfl⟩:=h1.shape
 obtain ⟨B,n2,d,rfl⟩:=h2.shape
 have hL:=setP_lt (pz_facts hok).1 (pz_facts hok).2.2.2.2.2
 have HA1:=Hd_ (and_one (s:=s) (by omega))
 obtain ⟨pl,pf,pla,po,nul⟩:=p
 simp only at hL
 obtain ⟨y,rfl⟩:∃ y:Nat,pla=(y:Int):=⟨pla.toNat,by omega⟩
 simp only [Int.toNat_natCast] at hL
 have hdv:(s:Int) / 2 ^ 1=((s >>> 1:Nat):Int):=by rw [Nat.shiftRight_eq_div_pow];exact shr_nat s 1 (by omega)
 have hdv2:(s:Int) / 2=((s >>> 1:Nat):Int):=by rw [<- hdv];rfl
 have hsl:s >>> 1 < 2 ^ 62:=by rw [Nat.shiftRight_eq_div_pow];omega
 have hand:=i64_and_nat (s >>> 1) y hsl (by omega)
 have HRR:=Hd_ (show R=((s.testBit 0 && nul) || decide (s >>> 1 &&& y ≠ 0)) from HR.out)
 have hal:Below w.heap.size w (w.alloc (.cells #[.slice A n c,.int .i64 pf,.int .i64 (y:Int),.slice B n2 d,.bool nul] 27)):=(Below.refl _ _).alloc (Nat.le_refl _) _
 have HAL:=Hd_ hal
 have hq:((((s >>> 1 &&& y:Nat):Int) != 0))=decide (s >>> 1 &&& y ≠ 0):=by
  by_cases h0:s >>> 1 &&& y=0
  · rw [h0];rfl
  · rw [decide_eq_true h0];simpa using h0
 clear hok h1 h2 HR hsl hal hs hL
 obtain ⟨Q,hQ⟩:∃ Q,Q=s >>> 1 &&& y:=⟨_,rfl⟩
 rw [<- hQ] at hand hq HRR
 obtain ⟨q,hqq⟩:∃ q,q=decide (Q ≠ 0):=⟨_,rfl⟩
 rw [<- hqq] at hq HRR
 rw [<- hdv2] at hand
 rw [<- hand] at hq
 have HQ:=Hd_ hq
 clear hQ hqq hdv hdv2 hand hq
 cases hb:s.testBit 0 with
 | false =>
   rw [hb,if_neg (by simp)] at HA1
   rw [hb,Bool.false_and,Bool.false_or,<- HQ.out] at HRR
   have hc:(bits .and .i64 (s:Int) 1==1)=false:=by rw [HA1.out];rfl
   clear hb HA1
   go_enter Try.func44,Try.ntmps44
   go_wp2_with fail
   go_ret
   exact ⟨by rw [HRR.out];rfl,HAL.out⟩
 | true =>
   rw [hb,if_pos rfl] at HA1
   rw [hb,Bool.true_and] at HRR
   have hc:(bits .and .i64 (s:Int) 1==1)=true:=by rw [HA1.out];rfl
   clear hb HA1
   cases nul with
   | true =>
     rw [Bool.true_or] at HRR
     go_enter Try.func44,Try.ntmps44
     go_wp2_with fail
     go_ret
     exact ⟨by rw [HRR.out];rfl,HAL.out⟩
   | false =>
     rw [Bool.false_or,<- HQ.out] at HRR
     go_enter Try.func44,Try.ntmps44
     go_wp2_with fail
     go_ret
     exact ⟨by rw [HRR.out];rfl,HAL.out⟩
end Go.Proofs.Ythnapjodmndlaaa
