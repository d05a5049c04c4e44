/- Parts of the proof, joined into one text: SzE, TimE, ExpE. -/
import Derived.Test.YtjpdembmchnbgaaGreatOnlzOBDJDCGC
import Derived.Deep.Cut
import Derived.Test.YtjpdembmchnbgaaGreatOnlzBJPCHMFC
import Derived.Deep.DeepCutAuto
set_option linter.unusedVariables false
set_option linter.unusedSimpArgs false
namespace Go.Proofs.YtjpdembmchnbgaaGreat
open Go.ChangeShapes Go.WideShapes Go.ChangeAt Go.RowKit
attribute [local go_sem] ext_cell ext_frozen ext_lt ext_lt1 ext_lt2 ext_lt3 ltn2 ltn3 ltn13 lts1 lts2 lts3
theorem SlI.headT {α:Type} {lo hi:Nat} {w:World} {E:α->List Value} {k n c m:Nat} {A:Option Addr} {xs ys:List α} (h:SlI lo hi w E k (.slice A n c) (xs ++ ys)) (hm:xs.length=m):SlI lo hi w E k (.slice A m c) xs:=by
 obtain ⟨A',c',hv,hl,hc,hx⟩:=h
 injection hv with h1 h2 h3
 subst h1 h3 hm
 rw [List.length_append] at hl
 refine ⟨_,c,rfl,by omega,hc,fun i x hi=>hx i x ?_⟩
 rw [List.getElem?_append_left (List.getElem?_eq_some_iff.1 hi).1]
 exact hi
theorem SlI.tailT {α:Type} {lo hi:Nat} {w:World} {E:α->List Value} {k n c m j d q o:Nat} {xs ys:List α} (h:SlI lo hi w E k (.slice (some ⟨q,o,none⟩) n c) (xs ++ ys)) (hm:xs.length=m) (hj:ys.length=j) (hd:d=c - m):SlI lo hi w E k (.slice (some ⟨q,o+m * k,none⟩) j d) ys:=by
 obtain ⟨A',c',hv,hl,hc,hx⟩:=h
 injection hv with h1 h2 h3
 subst h1 h3 hm hj hd
 rw [List.length_append] at hl
 refine ⟨_,_,rfl,by omega,by omega,fun i x hi=>?_⟩
 obtain ⟨b,o',e,g1,g2,g3⟩:=hx (xs.length+i) x (by rw [List.getElem?_append_right (by omega),Nat.add_sub_cancel_left];exact hi)
 injection e with e
 injection e with e1 e2
 subst e1 e2
 refine ⟨q,o+xs.length * k,rfl,g1,g2,fun t u hu=>?_⟩
 have:=g3 t u hu
 rw [Nat.add_mul,<- Nat.add_assoc] at this
 exact this
theorem ar_leaf {t:Tok} (h:ar t=some 0):t.1=1 ∨ t.1=2 ∨ t.1=3:=by
 unfold ar at h
 split at h
 · rename_i hk;exact hk.elim .inl (fun e=>.inr (.inl e))
 · split at h
   · rename_i hk;exact .inr (.inr hk)
   · split at h
     · split at h <;> cases h
     · split at h
       · split at h <;> cases h
       · split at h
         · split at h <;> cases h
         · cases h
theorem ar_un {t:Tok} (h:ar t=some 1):t=(6,0,0,0) ∨ (t.1=7/\t.2.1=0/\1<=t.2.2.2/\t.2.2.2<=3/\0<=t.2.2.1/\t.2.2.1<=t.2.2.2):=by
 obtain ⟨k,l,lo,hi⟩:=t
 unfold ar at h
 simp only at h
 split at h
 · split at h <;> cases h
 · split at h
   · split at h <;> cases h
   · split at h
     · split at h <;> cases h
     · split at h
       · rename_i hk
         split at h
         · rename_i hp
           simp only [tokPlain,Bool.and_eq_true,beq_iff_eq] at hp
           obtain ⟨rfl,rfl,rfl⟩:=hp
           exact .inl (by rw [hk])
         · cases h
       · split at h
         · rename_i hk
           split at h
           · rename_i hp;exact .inr ⟨hk,hp⟩
           · cases h
         · cases h
set_option maxHeartbeats 8000000 in
set_option maxRecDepth 100000 in
theorem l10Size_any:∀ (r:Tr) (ss:Value) (w:World),r.ok->SlE w cEd 4 ss (post r)->(post r).length<=1048576 ->
 Calls Tryz.prog 179 #[ss] w fun e w'=>e=.returned (.int .i64 (sizeT r:Int))/\Below w.heap.size w w'
 | .leaf t,ss,w,hr,hsl,hlen=>by
   obtain ⟨t0,t1,t2,t3⟩:=t
   have hk:=ar_leaf hr
   simp only at hk
   rw [post] at hsl
   obtain ⟨A,c,rfl,hl,hm,hx⟩:=hsl
   unfold maxLen at hm
   obtain ⟨q,o,rfl,-,hq,hcc⟩:=hx 0 (t0,t1,t2,t3) rfl
   have e0:=hcc 0 _ rfl
   have e1:=hcc 1 _ rfl
   have e2:=hcc 2 _ rfl
   have e3:=hcc 3 _ rfl
   simp only [Nat.add_zero,Nat.zero_mul,Nat.add_zero] at e0 e1 e2 e3
   rw [show (sizeT (.leaf (t0,t1,t2,t3)):Int)=1 by simp [sizeT]]
   clear hx hcc hlen hr
   have hb0:=(Below.refl w.heap.size w).alloc (Nat.le_refl _) (.cells #[.int .i64 t0,.int .i64 t1,.int .i64 t2,.int .i64 t3] 184)
   have HB:=Hd_ hb0
   clear hb0
   rcases hk with rfl | rfl | rfl
   all_goals
    go_enter Tryz.func179,Tryz.ntmps179
    go_wp2_with fail
    go_ret
    exact ⟨rfl,HB.out⟩
 | .un t a,ss,w,hr,hsl,hlen=>by
   have ht:=ar_un hr.1
   obtain ⟨m,hm0⟩:∃ m,m=(post a).length:=⟨_,rfl⟩
   rw [post] at hsl hlen
   have hlq:(post a ++ [t]).length=m+1:=by rw [List.length_append,hm0];rfl
   rw [hlq] at hlen
   have h0:=hsl
   obtain ⟨A,c,rfl,hl,hm,hx⟩:=hsl
   rw [hlq] at hl h0 ⊢
   unfold maxLen at hm
   have hxi:(post a ++ [t])[m]?=some t:=by rw [List.getElem?_append_right (by omega)];simp [hm0]
   obtain ⟨q,o,rfl,-,hq,hcc⟩:=hx _ t hxi
   obtain ⟨t0,t1,t2,t3⟩:=t
   have e0:=hcc 0 _ rfl
   have e1:=hcc 1 _ rfl
   have e2:=hcc 2 _ rfl
   have e3:=hcc 3 _ rfl
   simp only [Nat.add_zero] at e0
   have hb0:=(Below.refl w.heap.size w).alloc (Nat.le_refl _) (.cells #[.int .i64 t0,.int .i64 t1,.int .i64 t2,.int .i64 t3] 184)
   have bk:=Blk.new w 184 #[.int .i64 t0,.int .i64 t1,.int .i64 t2,.int .i64 t3] _ rfl
   have h2:SlE w cEd 4 (.slice (some ⟨q,o,none⟩) m c) (post a):=SlI.headT h0 hm0.symm
   have HSA:=Hd_ (fun (W:World) (hW:Below w.heap.size w W)=>l10Size_any a _ W hr.2 (h2.keep hW) (by omega))
   have hsa:=sizeT_le a
   obtain ⟨R,hR⟩:∃ R:Nat,R=sizeT (.un (t0,t1,t2,t3) a):=⟨_,rfl⟩
   rw [<- hR]
   rw [sizeT] at hR
   generalize sizeT a=sa at *
   have HB:=Hd_ hb0
   clear hx hcc hxi h0 h2 hr hm0 hlq
   rcases ht with ht | ⟨ht0,ht1,ht2,ht3,ht4,ht5⟩
   · injection ht with ht0 ht1
     injection ht1 with ht1 ht2
     injection ht2 with ht2 ht3
     subst ht0 ht1 ht2 ht3
     have HR:=Hd_ (show R=min 100000 (sa+1) by simpa using hR)
     clear hR
     go_enter Tryz.func179,Tryz.ntmps179
     go_wp2_with fail
     refine (HSA.out _ HB.out).mono ?_
     rintro e w1 ⟨rfl,hb1⟩
     have HB1:=Hd_ (below_trans HB.out hb1)
     clear hb1 e0 e1 e2 e3 bk HSA HB hm hl
     obtain ⟨S,hS⟩:∃ S:Int,S=(sa:Int):=⟨_,rfl⟩
     rw [<- hS]
     have HS:=Hd_ hS
     have hs1:1<=S:=by omega
     have hs2:S<=100000:=by omega
     clear hS hsa
     by_cases hlt:S+1 < 100000
     · have hf:R=sa+1:=by rw [HR.out];have:=HS.out;omega
       have HF:=Hd_ hf
       clear hf HR
       go_wp2_with fail
       go_ret
       exact ⟨ret_int (by rw [HF.out,HS.out];rfl),HB1.out⟩
     · have hf:R=100000:=by rw [HR.out];have:=HS.out;omega
       have HF:=Hd_ hf
       clear hf HR
       go_wp2_with fail
       go_ret
       exact ⟨ret_int (by rw [HF.out];rfl),HB1.out⟩
   · simp only at ht0 ht1 ht2 ht3 ht4 ht5
     subst ht0 ht1
     obtain ⟨h,rfl⟩:=Int.eq_ofNat_of_zero_le (show 0<=t3 by omega)
     have HR:=Hd_ (show R=min 100000 ((sa+3) * h+1) by simpa using hR)
     have hh:h=1 ∨ h=2 ∨ h=3:=by omega
     clear hR ht2 ht3 ht5
     rcases hh with rfl | rfl | rfl
     · skip
       go_enter Tryz.func179,Tryz.ntmps179
       go_upto_region 11 with fail
       have hbk:Blk (w.alloc (.cells #[.int .i64 7,.int .i64 0,.int .i64 t2,.int .i64 _] 184)) w.heap.size 184 #[.int .i64 7,.int .i64 0,.int .i64 t2,.int .i64 _]:=bk
       clear e0 e1 e2 e3 bk
       generalize w.alloc (.cells #[.int .i64 7,.int .i64 0,.int .i64 t2,.int .i64 _] 184)=W0 at *
       have HSA2:=Hd_ (fun (u:World)=>HSA.out (ext W0 u) (below_trans HB.out (ext_below W0 u)))
       have hlw:=hbk.lt
       have x3:=hbk.cell 3
       clear hbk HSA
       refine wp_region_ext_lit (by kernel_rfl) (by kernel_rfl) ?_
       repeat (go_big_quiet_step ((with_reducible exact Calls.ext_of (HSA2.out _))))
       refine wpQuiet_nil ?_
       rintro _ ⟨u,rfl⟩
       have hif:(if (sa:Int)+3+1 < 100000 then (sa:Int)+3+1 else 100000)=(R:Int):=by rw [HR.out];split <;> omega
       rw [hif]
       clear hif hsa HR
       go_wp2_with fail
       go_ret
       exact ⟨rfl,below_trans HB.out (ext_below _ _)⟩
     · skip
       go_enter Tryz.func179,Tryz.ntmps179
       go_upto_region 11 with fail
       have hbk:Blk (w.alloc (.cells #[.int .i64 7,.int .i64 0,.int .i64 t2,.int .i64 _] 184)) w.heap.size 184 #[.int .i64 7,.int .i64 0,.int .i64 t2,.int .i64 _]:=bk
       clear e0 e1 e2 e3 bk
       generalize w.alloc (.cells #[.int .i64 7,.int .i64 0,.int .i64 t2,.int .i64 _] 184)=W0 at *
       have HSA2:=Hd_ (fun (u:World)=>HSA.out (ext W0 u) (below_trans HB.out (ext_below W0 u)))
       have hlw:=hbk.lt
       have x3:=hbk.cell 3
       clear hbk HSA
       refine wp_region_ext_lit (by kernel_rfl) (by kernel_rfl) ?_
       repeat (go_big_quiet_step ((with_reducible exact Calls.ext_of (HSA2.out _))))
       refine wpQuiet_nil ?_
       rintro _ ⟨u,rfl⟩
       have hif:(if ((sa:Int)+3) * 2+1 < 100000 then ((sa:Int)+3) * 2+1 else 100000)=(R:Int):=by rw [HR.out];split <;> omega
       rw [hif]
       clear hif hsa HR
       go_wp2_with fail
       go_ret
       exact ⟨rfl,below_trans HB.out (ext_below _ _)⟩
     · skip
       go_enter Tryz.func179,Tryz.ntmps179
       go_upto_region 11 with fail
       have hbk:Blk (w.alloc (.cells #[.int .i64 7,.int .i64 0,.int .i64 t2,.int .i64 _] 184)) w.heap.size 184 #[.int .i64 7,.int .i64 0,.int .i64 t2,.int .i64 _]:=bk
       clear e0 e1 e2 e3 bk
       generalize w.alloc (.cells #[.int .i64 7,.int .i64 0,.int .i64 t2,.int .i64 _] 184)=W0 at *
       have HSA2:=Hd_ (fun (u:World)=>HSA.out (ext W0 u) (below_trans HB.out (ext_below W0 u)))
       have hlw:=hbk.lt
       have x3:=hbk.cell 3
       clear hbk HSA
       refine wp_region_ext_lit (by kernel_rfl) (by kernel_rfl) ?_
       repeat (go_big_quiet_step ((with_reducible exact Calls.ext_of (HSA2.out _))))
       refine wpQuiet_nil ?_
       rintro _ ⟨u,rfl⟩
       have hif:(if ((sa:Int)+3) * 3+1 < 100000 then ((sa:Int)+3) * 3+1 else 100000)=(R:Int):=by rw [HR.out];split <;> omega
       rw [hif]
       clear hif hsa HR
       go_wp2_with fail
       go_ret
       exact ⟨rfl,below_trans HB.out (ext_below _ _)⟩
 | .bin t a b,ss,w,hr,hsl,hlen=>by
   have ht:=ar_bin hr.1
   obtain ⟨m,hm0⟩:∃ m,m=(post a).length:=⟨_,rfl⟩
   obtain ⟨j,hj0⟩:∃ j,j=(post b).length:=⟨_,rfl⟩
   have hj1:0 < j:=by rw [hj0];exact post_pos b
   rw [post] at hsl hlen
   have hlq:((post a ++ post b) ++ [t]).length=m+j+1:=by rw [List.length_append,List.length_append,hm0,hj0];rfl
   rw [hlq] at hlen
   have h0:=hsl
   obtain ⟨A,c,rfl,hl,hm,hx⟩:=hsl
   rw [hlq] at hl h0 ⊢
   unfold maxLen at hm
   have hxi:((post a ++ post b) ++ [t])[m+j]?=some t:=by rw [List.getElem?_append_right (by simp [hm0,hj0])];simp [hm0,hj0]
   obtain ⟨q,o,rfl,-,hq,hcc⟩:=hx _ t hxi
   obtain ⟨t0,t1,t2,t3⟩:=t
   have e0:=hcc 0 _ rfl
   have e1:=hcc 1 _ rfl
   have e2:=hcc 2 _ rfl
   have e3:=hcc 3 _ rfl
   simp only [Nat.add_zero] at e0
   have hb0:=(Below.refl w.heap.size w).alloc (Nat.le_refl _) (.cells #[.int .i64 t0,.int .i64 t1,.int .i64 t2,.int .i64 t3] 184)
   have bk:=Blk.new w 184 #[.int .i64 t0,.int .i64 t1,.int .i64 t2,.int .i64 t3] _ rfl
   have h1:SlE w cEd 4 (.slice (some ⟨q,o,none⟩) (m+j) c) (post a ++ post b):=SlI.headT h0 (by simp [hm0,hj0])
   have h2:SlE w cEd 4 (.slice (some ⟨q,o,none⟩) m c) (post a):=SlI.headT h1 hm0.symm
   have h3:SlE w cEd 4 (.slice (some ⟨q,o+m * 4,none⟩) j (c - m)) (post b):=SlI.tailT h1 hm0.symm hj0.symm rfl
   have HST:=Hd_ (fun (W:World) (hW:Below w.heap.size w W)=>l8Start_any _ (post a) b W (h1.keep hW) hr.2.2 (by simp [<- hm0,<- hj0];omega))
   have HSA:=Hd_ (fun (W:World) (hW:Below w.heap.size w W)=>l10Size_any a _ W hr.2.1 (h2.keep hW) (by omega))
   have HSB:=Hd_ (fun (W:World) (hW:Below w.heap.size w W)=>l10Size_any b _ W hr.2.2 (h3.keep hW) (by omega))
   have hsa:=sizeT_le a
   have hsb:=sizeT_le b
   obtain ⟨R,hR⟩:∃ R:Nat,R=sizeT (.bin (t0,t1,t2,t3) a b):=⟨_,rfl⟩
   rw [<- hR]
   have HR:=Hd_ (show R=min 100000 (sizeT a+sizeT b+1) by rw [hR,sizeT])
   rw [<- hm0] at HST
   have HMC:=Hd_ (show ¬ c=m by omega)
   generalize sizeT a=sa at *
   generalize sizeT b=sb at *
   have HB:=Hd_ hb0
   clear hx hcc hxi h0 h1 h2 h3 hr hm0 hj0 hlq hR
   rcases ht with ht | ht
   all_goals
    injection ht with ht0 ht1
    injection ht1 with ht1 ht2
    injection ht2 with ht2 ht3
    subst ht0 ht1 ht2 ht3
    go_enter Tryz.func179,Tryz.ntmps179
    go_wp2_with fail
    refine (HST.out _ HB.out).mono ?_
    rintro e w1 ⟨rfl,hb1⟩
    have HB1:=Hd_ (below_trans HB.out hb1)
    have hmc:=HMC.out
    clear hb1 e0 e1 e2 e3 bk
    have HSA2:=Hd_ (fun (u:World)=>HSA.out (ext w1 u) (below_trans HB1.out (ext_below w1 u)))
    have HSB2:=Hd_ (fun (u:World)=>HSB.out (ext w1 u) (below_trans HB1.out (ext_below w1 u)))
    clear HSA HSB HST HMC HB
    go_upto_region 7 with fail
    refine wp_region_ext_lit (by kernel_rfl) (by kernel_rfl) ?_
    repeat (go_big_quiet_step ((first | with_reducible exact Calls.ext_of (HSA2.out _) | with_reducible exact Calls.ext_of (HSB2.out _))))
    refine wpQuiet_nil ?_
    rintro _ ⟨u,rfl⟩
    have hif:(if (sa:Int)+(sb:Int)+1 < 100000 then (sa:Int)+(sb:Int)+1 else 100000)=(R:Int):=by rw [HR.out];split <;> omega
    rw [hif]
    clear hif hsa hsb HR
    go_wp2_with fail
    go_ret
    exact ⟨rfl,below_trans HB1.out (ext_below _ _)⟩
theorem TkV.drew {lo hi:Nat} {w:World} {v:Value} {l:List Tok} (h:TkV lo hi w v l):TkV lo hi w.drew v l:=h
/-- an expression in the cell q, its tokens apart from it -/
structure CelX (W0 w:World) (q:Nat) (ss:Value) (T:List Tok):Prop where
 blk:Blk w q 164 #[ss]
 row:∃ lo hi,Own lo hi w 184 cEd 4 ss T/\W0.heap.size<=lo/\hi<=w.heap.size
 ge:W0.heap.size<=q
 below:Below W0.heap.size W0 w
theorem CelX.view {W0 w:World} {q:Nat} {ss:Value} {T:List Tok} (h:CelX W0 w q ss T):TkV W0.heap.size w.heap.size w (.agg #[ss]) T:=by
 obtain ⟨lo,hi,h1,h2,h3⟩:=h.row
 exact ⟨ss,rfl,(h1.sl cEd_len).mono h2 h3⟩
theorem CelX.done {W0 w w0:World} {q:Nat} {ss:Value} {T:List Tok} (h:CelX W0 w q ss T) (hb:Below w0.heap.size w0 W0) {r:Nat} (hr:w0.heap.size<=r) (hr2:r < W0.heap.size) (u:Value) :
 TkO w0.heap.size (w.setCell ⟨r,0,none⟩ u).heap.size (w.setCell ⟨r,0,none⟩ u) (.agg #[ss]) T/\Below w0.heap.size w0 (w.setCell ⟨r,0,none⟩ u):=by
 obtain ⟨lo,hi,h1,h2,h3⟩:=h.row
 have ho:=(Only.refl r (r+1) w).setCell (p:=⟨r,0,none⟩) (.inl ⟨Nat.le_refl _,Nat.lt_succ_self _⟩) u
 have hs:=h.below.size
 exact ⟨⟨ss,rfl,(h1.only ho (.inr (by omega))).mono (by omega) (Nat.le_trans h3 ho.size)⟩,(below_trans hb h.below).setCell (p:=⟨r,0,none⟩) hr _⟩
set_option maxHeartbeats 8000000 in
theorem l10Times_any (a:Tr) (hla:(post a).length<=5000):∀ (h low:Nat) (va:Value) (w:World),TkV 0 w.heap.size w va (post a)->h<=3->low<=3 ->
 Calls Tryz.prog 205 #[va,.int .i64 (low:Int),.int .i64 (h:Int)] w fun e w'=>∃ v,e=.returned v/\TkO w.heap.size w'.heap.size w' v (post (timesT a low h))/\Below w.heap.size w w'
 | 0,low,va,w,hva,_,_=>by
   rw [timesT,post]
   obtain ⟨sa,rfl,hsa⟩:=hva
   obtain ⟨A1,n1,c1,rfl⟩:=hsa.shape
   have hb0:=((Below.refl w.heap.size w).alloc (Nat.le_refl _) (.cells #[.slice A1 n1 c1] 164)).alloc (by simp) (.cells #[.slice none 0 0] 164)
   have hbr:=Blk.new (w.alloc (.cells #[.slice A1 n1 c1] 164)) 164 #[.slice none 0 0] (w.heap.size+1) (by simp)
   clear hsa
   go_enter Tryz.func205,Tryz.ntmps205
   go_wp2_with fail
   generalize ((w.alloc (.cells #[.slice A1 n1 c1] 164)).alloc (.cells #[.slice none 0 0] 164))=W0 at *
   refine (l8Leaf_any 2 _).mono ?_
   rintro e w1 ⟨v1,rfl,⟨s1,rfl,h1⟩,hb1⟩
   obtain ⟨A3,n3,c3,rfl⟩:=h1.shape
   have hbr1:=hbr.keep hb1
   have z0:w1.cell? ⟨w.heap.size+1,0,none⟩=some (.slice none 0 0):=hbr1.cell 0
   have v0:=hbr1.frozen 0
   have hlr:=hbr1.lt
   have hlr0:=hbr.lt
   have ho:=(Only.refl (w.heap.size+1) (w.heap.size+2) w1).setCell (p:=⟨w.heap.size+1,0,none⟩) (.inl ⟨Nat.le_refl _,Nat.lt_succ_self _⟩) (.slice A3 n3 c3)
   have HO:=Hd_ ((h1.only ho (.inr (by omega))).mono (lo':=w.heap.size) (by omega) ho.size)
   have HB:=Hd_ ((below_trans hb0 hb1).setCell (p:=⟨w.heap.size+1,0,none⟩) (by simp only;omega) (.slice A3 n3 c3))
   clear h1 hb1 hbr hbr1 hb0 ho
   go_wp2_with fail
   exact bodyPost_ret (v:=.agg #[.slice A3 n3 c3]) (by simp [results,Tryz.results205,go_sem,z0,v0,hlr]) rfl ⟨_,rfl,⟨_,rfl,HO.out⟩,HB.out⟩
 | h+1,low,va,w,hva,hh,hlo=>by
   obtain ⟨T1,hT1⟩:∃ T1,T1=post (timesT a (low - 1) h):=⟨_,rfl⟩
   have hTl:T1.length<=20000:=by
    have:=timesT_len a h (low - 1)
    have h2:((post a).length+3) * h<=5003 * 3:=Nat.mul_le_mul (by omega) (by omega)
    rw [hT1];omega
   obtain ⟨sa,rfl,hsa⟩:=hva
   obtain ⟨A1,n1,c1,rfl⟩:=hsa.shape
   have hva:TkV 0 w.heap.size w (.agg #[.slice A1 n1 c1]) (post a):=⟨_,rfl,hsa⟩
   have hb0:=((Below.refl w.heap.size w).alloc (Nat.le_refl _) (.cells #[.slice A1 n1 c1] 164)).alloc (by simp) (.cells #[.slice none 0 0] 164)
   have hbx:=(Blk.new w 164 #[.slice A1 n1 c1] _ rfl).alloc (.cells #[.slice none 0 0] 164)
   have hbr:=Blk.new (w.alloc (.cells #[.slice A1 n1 c1] 164)) 164 #[.slice none 0 0] (w.heap.size+1) (by simp)
   have hds:((h:Int)+1==0)=false:=by simp;omega
   have hs0:((w.alloc (.cells #[.slice A1 n1 c1] 164)).alloc (.cells #[.slice none 0 0] 164)).heap.size=w.heap.size+2:=by simp
   clear hsa
   rcases low with _ | l
   · have HT:Hid (post (timesT a 0 (h+1))=(post a ++ T1 ++ [(4,0,0,0)]) ++ [(2,0,0,0)] ++ [(5,0,0,0)]):=Hd_ (by rw [hT1];simp [timesT,post,tCat,tAlt,tEmp])
     rw [HT.out]
     simp only [Nat.zero_sub] at hT1
     go_enter Tryz.func205,Tryz.ntmps205
     go_upto_region 3 with fail
     generalize ((w.alloc (.cells #[.slice A1 n1 c1] 164)).alloc (.cells #[.slice none 0 0] 164))=W0 at *
     have x0:W0.cell? ⟨w.heap.size,0,none⟩=some (.slice A1 n1 c1):=hbx.cell 0
     have HIH:=Hd_ (show ∀ (W:World) (z z':Int),z=0->z'=(h:Int)->Below W0.heap.size W0 W->Calls Tryz.prog 205 #[.agg #[.slice A1 n1 c1],.int .i64 z,.int .i64 z'] W fun e w'=>∃ v,e=.returned v/\TkO W.heap.size w'.heap.size w' v T1/\Below W.heap.size W w' from
      fun W z z' hz hz' hW=>by rw [hz,hz',hT1];exact l10Times_any a hla h 0 _ W (hva.keep (below_trans hb0 hW)) (by omega) (by omega))
     have HVA:=Hd_ (hva.keep hb0)
     have HBR:=Hd_ hbr
     have HB0:=Hd_ hb0
     have hs1:w.heap.size+1 < W0.heap.size:=by omega
     clear hT1 hva hb0 hbx hbr hs0
     go_wp2_with fail
     go_cut [7] (fun p wx=>∃ (q:Nat) (A:Option Addr) (n c:Nat),p=.pointer (some ⟨q,0,none⟩)/\CelX W0 wx q (.slice A n c) (post a ++ T1 ++ [(4,0,0,0)]))
     case first =>
      refine F_start 11 (fun w'=>w'.cell? ⟨w.heap.size,0,none⟩=some (.slice A1 n1 c1)) (by kernel_rfl) (by exact x0) (fun hS inv=>?_)
      refine F_tk 0 inv ?_
      try simp only [tA,tB,tC,Act.put,tE,tF,tG]
      clear inv;intro inv
      refine F_tk 1 inv ?_
      try simp only [tA,tB,tC,Act.put,tE,tF,tG]
      clear inv;intro inv
      refine F_tk 2 inv ?_
      try simp only [tA,tB,tC,Act.put,tE,tF,tG]
      clear inv;intro inv
      refine F_tk 3 inv ?_
      try simp only [tA,tB,tC,Act.put,tE,tF,tG]
      clear inv;intro inv
      refine F_tk 4 inv ?_
      try simp only [tA,tB,tC,Act.put,tE,tF,tG]
      clear inv;intro inv
      refine F_tk 5 inv ?_
      try simp only [tA,tB,tC,Act.put,tE,tF,tG]
      clear inv;intro inv
      refine F_tk 6 inv ?_
      try simp only [tA,tB,tC,Act.put,tE,tF,tG]
      clear inv;intro inv
      refine F_tk 8 inv ?_
      try simp only [tA,tB,tC,Act.put,tE,tF,tG]
      clear inv;intro inv
      have hbd:Below W0.heap.size W0 W0.drew:=(Below.refl _ _).drew
      refine F_two (i:=7) (j:=10) (by kernel_rfl) rfl rfl rfl rfl (by omega) inv (fun K hK=>?_) (fun K hK=>?_)
      all_goals (try simp only [tA,tB,tC])
      · go_simp
        refine (HIH.out _ _ _ (by first | rfl | (rw [IntWalk.i64_in _ (by omega)];first | done | (split <;> omega) | omega)) (by rw [IntWalk.i64_in _ (by omega)]) hbd).mono ?_
        rintro e w2 ⟨v2,rfl,h2,hb2⟩
        have hp:=below_trans hbd hb2
        have H2:=Hd_ (h2.view.mono (Nat.zero_le _) (Nat.le_refl _))
        refine hK.out _ _ (kcell hb2 hS) (fun _ _=>?_)
        try simp only [tA,tB,tC,Act.put,tE,tF,tG]
        clear hK K inv hS;rename_i hS inv
        clear h2 hb2
        refine F_two (i:=9) (j:=10) (by kernel_rfl) rfl rfl rfl rfl (by omega) inv (fun K hK=>?_) (fun K hK=>?_)
        all_goals (try simp only [tA,tB,tC])
        · go_simp
          refine (l8Join_any _ _ (post a) T1 (4,0,0,0) _ (HVA.out.keep hp) H2.out (by omega) (by omega)).mono ?_
          rintro e w3 ⟨v3,rfl,⟨s3,rfl,h3⟩,hb3⟩
          obtain ⟨A3,n3,c3,rfl⟩:=h3.shape
          have hp3:=below_trans hp hb3
          refine hK.out _ _ (kcell hb3 hS) (fun _ _=>?_)
          try simp only [tA,tB,tC,Act.put,tE,tF,tG]
          clear hK K inv hS;rename_i hS inv
          refine F_o1 10 inv ?_;intro K hK
          try simp only [tA,tB,tC]
          go_simp
          have hal:=(Below.refl w3.heap.size w3).alloc (Nat.le_refl _) (.cells #[.slice none 0 0] 164)
          refine hK.out _ _ (kcell hal hS) (fun _ _=>?_)
          try simp only [tA,tB,tC,Act.put,tE,tF,tG]
          clear hK K inv hS;rename_i hS inv
          refine F_l1 11 ?_;intro K hK
          go_simp
          refine hK _ _ ?_
          clear hK K inv hS
          have hal2:=(Below.refl w3.heap.size w3).alloc (Nat.le_refl _) (.cells #[.slice A3 n3 c3] 164)
          have hcx:CelX W0 (w3.alloc (.cells #[.slice A3 n3 c3] 164)) w3.heap.size (.slice A3 n3 c3) (post a ++ T1 ++ [(4,0,0,0)]):=⟨Blk.new _ _ _ _ rfl,⟨_,_,h3.below hal2 (Nat.le_refl _),hp.size,hal2.size⟩,hp3.size,below_trans hp3 hal2⟩
          go_wp2_with fail
          all_goals (go_meet;exact ⟨_,_,_,_,rfl,hcx⟩)
        · go_simp
          have hal:=(Below.refl w2.heap.size w2).alloc (Nat.le_refl _) (.cells #[.slice none 0 0] 164)
          have hbz:=Blk.new w2 164 #[.slice none 0 0] w2.heap.size rfl
          have hpa:=below_trans hp hal
          refine hK.out _ _ (kcell hal hS) (fun _ _=>?_)
          try simp only [tA,tB,tC,Act.put,tE,tF,tG]
          clear hK K inv hS;rename_i hS inv
          refine F_o1 9 inv ?_;intro K hK
          try simp only [tA,tB,tC]
          go_simp
          refine (l8Join_any _ _ (post a) T1 (4,0,0,0) _ (HVA.out.keep hpa) (H2.out.keep hal) (by omega) (by omega)).mono ?_
          rintro e w3 ⟨v3,rfl,⟨s3,rfl,h3⟩,hb3⟩
          obtain ⟨A3,n3,c3,rfl⟩:=h3.shape
          have hp3:=below_trans hpa hb3
          have hbz3:=hbz.keep hb3
          have z0:w3.cell? ⟨w2.heap.size,0,none⟩=some (.slice none 0 0):=hbz3.cell 0
          have v0:=hbz3.frozen 0
          have hlz:=hbz3.lt
          have hzl:w2.heap.size < (w2.alloc (.cells #[.slice none 0 0] 164)).heap.size:=hbz.lt
          refine hK.out _ _ (kcell hb3 hS) (fun _ _=>?_)
          try simp only [tA,tB,tC,Act.put,tE,tF,tG]
          clear hK K inv hS;rename_i hS inv
          refine F_l1 11 ?_;intro K hK
          go_simp
          refine hK _ _ ?_
          clear hK K inv hS
          have hcx:CelX W0 (w3.setCell ⟨w2.heap.size,0,none⟩ (.slice A3 n3 c3)) w2.heap.size (.slice A3 n3 c3) (post a ++ T1 ++ [(4,0,0,0)]) :=
           ⟨hbz3.set_ 0 _,⟨_,_,h3.only ((Only.refl w2.heap.size (w2.heap.size+1) w3).setCell (p:=⟨w2.heap.size,0,none⟩) (.inl ⟨Nat.le_refl _,Nat.lt_succ_self _⟩) _) (.inr hzl),hpa.size,by simp [World.setCell]⟩,hp.size,hp3.setCell (p:=⟨w2.heap.size,0,none⟩) hp.size _⟩
          go_wp2_with fail
          all_goals (go_meet;exact ⟨_,_,_,_,rfl,hcx⟩)
      · go_simp
        have hal:=((Below.refl W0.heap.size W0).alloc (Nat.le_refl _) (.cells #[.slice none 0 0] 164)).drew
        have hbz:Blk (W0.alloc (.cells #[.slice none 0 0] 164)).drew W0.heap.size 164 #[.slice none 0 0]:=Blk.new W0 164 #[.slice none 0 0] W0.heap.size rfl
        refine hK.out _ _ (kcell hal hS) (fun _ _=>?_)
        try simp only [tA,tB,tC,Act.put,tE,tF,tG]
        clear hK K inv hS;rename_i hS inv
        refine F_o1 7 inv ?_;intro K hK
        try simp only [tA,tB,tC]
        go_simp
        refine (HIH.out _ _ _ (by first | rfl | (rw [IntWalk.i64_in _ (by omega)];first | done | (split <;> omega) | omega)) (by rw [IntWalk.i64_in _ (by omega)]) hal).mono ?_
        rintro e w2 ⟨v2,rfl,h2,hb2⟩
        have hp:=below_trans hal hb2
        have H2:=Hd_ (h2.view.mono (Nat.zero_le _) (Nat.le_refl _))
        have hbz2:=hbz.keep hb2
        refine hK.out _ _ (kcell hb2 hS) (fun _ _=>?_)
        try simp only [tA,tB,tC,Act.put,tE,tF,tG]
        clear hK K inv hS;rename_i hS inv
        clear h2 hb2
        refine F_o1 9 inv ?_;intro K hK
        try simp only [tA,tB,tC]
        go_simp
        refine (l8Join_any _ _ (post a) T1 (4,0,0,0) _ (HVA.out.keep hp) H2.out (by omega) (by omega)).mono ?_
        rintro e w3 ⟨v3,rfl,⟨s3,rfl,h3⟩,hb3⟩
        obtain ⟨A3,n3,c3,rfl⟩:=h3.shape
        have hp3:=below_trans hp hb3
        have hbz3:=hbz2.keep hb3
        have z0:w3.cell? ⟨W0.heap.size,0,none⟩=some (.slice none 0 0):=hbz3.cell 0
        have v0:=hbz3.frozen 0
        have hlz:=hbz3.lt
        have hzl:W0.heap.size < w2.heap.size:=hbz2.lt
        refine hK.out _ _ (kcell hb3 hS) (fun _ _=>?_)
        try simp only [tA,tB,tC,Act.put,tE,tF,tG]
        clear hK K inv hS;rename_i hS inv
        refine F_l1 11 ?_;intro K hK
        go_simp
        refine hK _ _ ?_
        clear hK K inv hS
        have hcx:CelX W0 (w3.setCell ⟨W0.heap.size,0,none⟩ (.slice A3 n3 c3)) W0.heap.size (.slice A3 n3 c3) (post a ++ T1 ++ [(4,0,0,0)]) :=
         ⟨hbz3.set_ 0 _,⟨_,_,h3.only ((Only.refl W0.heap.size (W0.heap.size+1) w3).setCell (p:=⟨W0.heap.size,0,none⟩) (.inl ⟨Nat.le_refl _,Nat.lt_succ_self _⟩) _) (.inr hzl),hp.size,by simp [World.setCell]⟩,Nat.le_refl _,hp3.setCell (p:=⟨W0.heap.size,0,none⟩) (Nat.le_refl _) _⟩
        go_wp2_with fail
        all_goals (go_meet;exact ⟨_,_,_,_,rfl,hcx⟩)
     case rest =>
      obtain ⟨q,A,n,c,rfl,hcx⟩:=hcut
      have HCX:=Hd_ hcx
      have y0:wc.cell? ⟨q,0,none⟩=some (.slice A n c):=hcx.blk.cell 0
      have hbr:=HBR.out.keep hcx.below
      have z0:wc.cell? ⟨w.heap.size+1,0,none⟩=some (.slice none 0 0):=hbr.cell 0
      have v0:=hbr.frozen 0
      have hlr:=hbr.lt
      clear hcx x0
      obtain ⟨T2,hT2⟩:∃ T2,T2=post a ++ T1 ++ [(4,0,0,0)]:=⟨_,rfl⟩
      have HT2:=Hd_ hT2
      have HVW:=Hd_ (show TkV 0 wc.heap.size wc (.agg #[.slice A n c]) T2 by rw [hT2];exact HCX.out.view.mono (Nat.zero_le _) (Nat.le_refl _))
      have hl2:T2.length<=30000:=by rw [hT2];simp;omega
      clear hT2
      go_wp2_with fail
      refine F_start 4 (fun w'=>w'.cell? ⟨q,0,none⟩=some (.slice A n c)) (by kernel_rfl) (by exact y0) (fun hS inv=>?_)
      refine F_tk 0 inv ?_
      try simp only [tA,tB,tC,Act.put,tE,tF,tG]
      clear inv;intro inv
      refine F_tk 2 inv ?_
      try simp only [tA,tB,tC,Act.put,tE,tF,tG]
      clear inv;intro inv
      have hbd:Below wc.heap.size wc wc.drew:=(Below.refl _ _).drew
      refine F_o1 1 inv ?_;intro K hK
      try simp only [tA,tB,tC]
      go_simp
      refine (l8Leaf_any 2 _).mono ?_
      rintro e w5 ⟨v5,rfl,h5,hb5⟩
      have hp5:=below_trans hbd hb5
      refine hK.out _ _ (kcell hb5 hS) (fun _ _=>?_)
      try simp only [tA,tB,tC,Act.put,tE,tF,tG]
      clear hK K inv hS;rename_i hS inv
      refine F_o1 3 inv ?_;intro K hK
      try simp only [tA,tB,tC]
      go_simp
      refine (l8Join_any _ _ T2 [(2,0,0,0)] (5,0,0,0) _ (HVW.out.keep hp5) (h5.view.mono (Nat.zero_le _) (Nat.le_refl _)) (by omega) (by simp)).mono ?_
      rintro e w6 ⟨v6,rfl,⟨s6,rfl,h6⟩,hb6⟩
      obtain ⟨A6,n6,c6,rfl⟩:=h6.shape
      have hp6:=below_trans hp5 hb6
      refine hK.out _ _ (kcell hb6 hS) (fun _ _=>?_)
      try simp only [tA,tB,tC,Act.put,tE,tF,tG]
      clear hK K inv hS;rename_i hS inv
      have hbr6:=hbr.keep hp6
      have z6:w6.cell? ⟨w.heap.size+1,0,none⟩=some (.slice none 0 0):=hbr6.cell 0
      have v6:=hbr6.frozen 0
      have hlr6:=hbr6.lt
      clear z0 v0 hlr
      refine F_l1 4 ?_;intro K hK
      go_simp
      refine hK _ _ ?_
      clear hK K inv hS
      have hpc:=HCX.out.below.size
      have hps:=hp5.size
      have ho:=(Only.refl (w.heap.size+1) (w.heap.size+2) w6).setCell (p:=⟨w.heap.size+1,0,none⟩) (.inl ⟨Nat.le_refl _,Nat.lt_succ_self _⟩) (.slice A6 n6 c6)
      have HO:=Hd_ ((h6.only ho (.inr (by omega))).mono (lo':=w.heap.size) (by omega) ho.size)
      have HB:=Hd_ ((below_trans (below_trans HB0.out HCX.out.below) hp6).setCell (p:=⟨w.heap.size+1,0,none⟩) (by simp only;omega) (.slice A6 n6 c6))
      clear h6 hb6 ho hp6 hp5
      go_wp2_with fail
      refine bodyPost_ret (v:=.agg #[.slice A6 n6 c6]) (by simp [results,Tryz.results205,go_sem,z6,v6,hlr6]) rfl ⟨_,rfl,⟨_,rfl,?_⟩,HB.out⟩
      rw [<- HT2.out]
      exact HO.out
   · have HT:Hid (post (timesT a (l+1) (h+1))=post a ++ T1 ++ [(4,0,0,0)]):=Hd_ (by rw [hT1];simp [timesT,post,tCat,tAlt,tEmp])
     rw [HT.out]
     rw [Nat.add_sub_cancel] at hT1
     go_enter Tryz.func205,Tryz.ntmps205
     go_upto_region 3 with fail
     generalize ((w.alloc (.cells #[.slice A1 n1 c1] 164)).alloc (.cells #[.slice none 0 0] 164))=W0 at *
     have x0:W0.cell? ⟨w.heap.size,0,none⟩=some (.slice A1 n1 c1):=hbx.cell 0
     have HIH:=Hd_ (show ∀ (W:World) (z z':Int),z=(l:Int)->z'=(h:Int)->Below W0.heap.size W0 W->Calls Tryz.prog 205 #[.agg #[.slice A1 n1 c1],.int .i64 z,.int .i64 z'] W fun e w'=>∃ v,e=.returned v/\TkO W.heap.size w'.heap.size w' v T1/\Below W.heap.size W w' from
      fun W z z' hz hz' hW=>by rw [hz,hz',hT1];exact l10Times_any a hla h l _ W (hva.keep (below_trans hb0 hW)) (by omega) (by omega))
     have HVA:=Hd_ (hva.keep hb0)
     have HBR:=Hd_ hbr
     have HB0:=Hd_ hb0
     have hs1:w.heap.size+1 < W0.heap.size:=by omega
     clear hT1 hva hb0 hbx hbr hs0
     go_wp2_with fail
     go_cut [7] (fun p wx=>∃ (q:Nat) (A:Option Addr) (n c:Nat),p=.pointer (some ⟨q,0,none⟩)/\CelX W0 wx q (.slice A n c) (post a ++ T1 ++ [(4,0,0,0)]))
     case first =>
      refine F_start 11 (fun w'=>w'.cell? ⟨w.heap.size,0,none⟩=some (.slice A1 n1 c1)) (by kernel_rfl) (by exact x0) (fun hS inv=>?_)
      refine F_tk 0 inv ?_
      try simp only [tA,tB,tC,Act.put,tE,tF,tG]
      clear inv;intro inv
      refine F_tk 1 inv ?_
      try simp only [tA,tB,tC,Act.put,tE,tF,tG]
      clear inv;intro inv
      refine F_tk 2 inv ?_
      try simp only [tA,tB,tC,Act.put,tE,tF,tG]
      clear inv;intro inv
      refine F_tk 3 inv ?_
      try simp only [tA,tB,tC,Act.put,tE,tF,tG]
      clear inv;intro inv
      refine F_tk 4 inv ?_
      try simp only [tA,tB,tC,Act.put,tE,tF,tG]
      clear inv;intro inv
      refine F_tk 5 inv ?_
      try simp only [tA,tB,tC,Act.put,tE,tF,tG]
      clear inv;intro inv
      refine F_tk 6 inv ?_
      try simp only [tA,tB,tC,Act.put,tE,tF,tG]
      clear inv;intro inv
      refine F_tk 8 inv ?_
      try simp only [tA,tB,tC,Act.put,tE,tF,tG]
      clear inv;intro inv
      have hbd:Below W0.heap.size W0 W0.drew:=(Below.refl _ _).drew
      refine F_two (i:=7) (j:=10) (by kernel_rfl) rfl rfl rfl rfl (by omega) inv (fun K hK=>?_) (fun K hK=>?_)
      all_goals (try simp only [tA,tB,tC])
      · go_simp
        refine (HIH.out _ _ _ (by first | rfl | (rw [IntWalk.i64_in _ (by omega)];first | done | (split <;> omega) | omega)) (by rw [IntWalk.i64_in _ (by omega)]) hbd).mono ?_
        rintro e w2 ⟨v2,rfl,h2,hb2⟩
        have hp:=below_trans hbd hb2
        have H2:=Hd_ (h2.view.mono (Nat.zero_le _) (Nat.le_refl _))
        refine hK.out _ _ (kcell hb2 hS) (fun _ _=>?_)
        try simp only [tA,tB,tC,Act.put,tE,tF,tG]
        clear hK K inv hS;rename_i hS inv
        clear h2 hb2
        refine F_two (i:=9) (j:=10) (by kernel_rfl) rfl rfl rfl rfl (by omega) inv (fun K hK=>?_) (fun K hK=>?_)
        all_goals (try simp only [tA,tB,tC])
        · go_simp
          refine (l8Join_any _ _ (post a) T1 (4,0,0,0) _ (HVA.out.keep hp) H2.out (by omega) (by omega)).mono ?_
          rintro e w3 ⟨v3,rfl,⟨s3,rfl,h3⟩,hb3⟩
          obtain ⟨A3,n3,c3,rfl⟩:=h3.shape
          have hp3:=below_trans hp hb3
          refine hK.out _ _ (kcell hb3 hS) (fun _ _=>?_)
          try simp only [tA,tB,tC,Act.put,tE,tF,tG]
          clear hK K inv hS;rename_i hS inv
          refine F_o1 10 inv ?_;intro K hK
          try simp only [tA,tB,tC]
          go_simp
          have hal:=(Below.refl w3.heap.size w3).alloc (Nat.le_refl _) (.cells #[.slice none 0 0] 164)
          refine hK.out _ _ (kcell hal hS) (fun _ _=>?_)
          try simp only [tA,tB,tC,Act.put,tE,tF,tG]
          clear hK K inv hS;rename_i hS inv
          refine F_l1 11 ?_;intro K hK
          go_simp
          refine hK _ _ ?_
          clear hK K inv hS
          have hal2:=(Below.refl w3.heap.size w3).alloc (Nat.le_refl _) (.cells #[.slice A3 n3 c3] 164)
          have hcx:CelX W0 (w3.alloc (.cells #[.slice A3 n3 c3] 164)) w3.heap.size (.slice A3 n3 c3) (post a ++ T1 ++ [(4,0,0,0)]):=⟨Blk.new _ _ _ _ rfl,⟨_,_,h3.below hal2 (Nat.le_refl _),hp.size,hal2.size⟩,hp3.size,below_trans hp3 hal2⟩
          go_wp2_with fail
          all_goals (go_meet;exact ⟨_,_,_,_,rfl,hcx⟩)
        · go_simp
          have hal:=(Below.refl w2.heap.size w2).alloc (Nat.le_refl _) (.cells #[.slice none 0 0] 164)
          have hbz:=Blk.new w2 164 #[.slice none 0 0] w2.heap.size rfl
          have hpa:=below_trans hp hal
          refine hK.out _ _ (kcell hal hS) (fun _ _=>?_)
          try simp only [tA,tB,tC,Act.put,tE,tF,tG]
          clear hK K inv hS;rename_i hS inv
          refine F_o1 9 inv ?_;intro K hK
          try simp only [tA,tB,tC]
          go_simp
          refine (l8Join_any _ _ (post a) T1 (4,0,0,0) _ (HVA.out.keep hpa) (H2.out.keep hal) (by omega) (by omega)).mono ?_
          rintro e w3 ⟨v3,rfl,⟨s3,rfl,h3⟩,hb3⟩
          obtain ⟨A3,n3,c3,rfl⟩:=h3.shape
          have hp3:=below_trans hpa hb3
          have hbz3:=hbz.keep hb3
          have z0:w3.cell? ⟨w2.heap.size,0,none⟩=some (.slice none 0 0):=hbz3.cell 0
          have v0:=hbz3.frozen 0
          have hlz:=hbz3.lt
          have hzl:w2.heap.size < (w2.alloc (.cells #[.slice none 0 0] 164)).heap.size:=hbz.lt
          refine hK.out _ _ (kcell hb3 hS) (fun _ _=>?_)
          try simp only [tA,tB,tC,Act.put,tE,tF,tG]
          clear hK K inv hS;rename_i hS inv
          refine F_l1 11 ?_;intro K hK
          go_simp
          refine hK _ _ ?_
          clear hK K inv hS
          have hcx:CelX W0 (w3.setCell ⟨w2.heap.size,0,none⟩ (.slice A3 n3 c3)) w2.heap.size (.slice A3 n3 c3) (post a ++ T1 ++ [(4,0,0,0)]) :=
           ⟨hbz3.set_ 0 _,⟨_,_,h3.only ((Only.refl w2.heap.size (w2.heap.size+1) w3).setCell (p:=⟨w2.heap.size,0,none⟩) (.inl ⟨Nat.le_refl _,Nat.lt_succ_self _⟩) _) (.inr hzl),hpa.size,by simp [World.setCell]⟩,hp.size,hp3.setCell (p:=⟨w2.heap.size,0,none⟩) hp.size _⟩
          go_wp2_with fail
          all_goals (go_meet;exact ⟨_,_,_,_,rfl,hcx⟩)
      · go_simp
        have hal:=((Below.refl W0.heap.size W0).alloc (Nat.le_refl _) (.cells #[.slice none 0 0] 164)).drew
        have hbz:Blk (W0.alloc (.cells #[.slice none 0 0] 164)).drew W0.heap.size 164 #[.slice none 0 0]:=Blk.new W0 164 #[.slice none 0 0] W0.heap.size rfl
        refine hK.out _ _ (kcell hal hS) (fun _ _=>?_)
        try simp only [tA,tB,tC,Act.put,tE,tF,tG]
        clear hK K inv hS;rename_i hS inv
        refine F_o1 7 inv ?_;intro K hK
        try simp only [tA,tB,tC]
        go_simp
        refine (HIH.out _ _ _ (by first | rfl | (rw [IntWalk.i64_in _ (by omega)];first | done | (split <;> omega) | omega)) (by rw [IntWalk.i64_in _ (by omega)]) hal).mono ?_
        rintro e w2 ⟨v2,rfl,h2,hb2⟩
        have hp:=below_trans hal hb2
        have H2:=Hd_ (h2.view.mono (Nat.zero_le _) (Nat.le_refl _))
        have hbz2:=hbz.keep hb2
        refine hK.out _ _ (kcell hb2 hS) (fun _ _=>?_)
        try simp only [tA,tB,tC,Act.put,tE,tF,tG]
        clear hK K inv hS;rename_i hS inv
        clear h2 hb2
        refine F_o1 9 inv ?_;intro K hK
        try simp only [tA,tB,tC]
        go_simp
        refine (l8Join_any _ _ (post a) T1 (4,0,0,0) _ (HVA.out.keep hp) H2.out (by omega) (by omega)).mono ?_
        rintro e w3 ⟨v3,rfl,⟨s3,rfl,h3⟩,hb3⟩
        obtain ⟨A3,n3,c3,rfl⟩:=h3.shape
        have hp3:=below_trans hp hb3
        have hbz3:=hbz2.keep hb3
        have z0:w3.cell? ⟨W0.heap.size,0,none⟩=some (.slice none 0 0):=hbz3.cell 0
        have v0:=hbz3.frozen 0
        have hlz:=hbz3.lt
        have hzl:W0.heap.size < w2.heap.size:=hbz2.lt
        refine hK.out _ _ (kcell hb3 hS) (fun _ _=>?_)
        try simp only [tA,tB,tC,Act.put,tE,tF,tG]
        clear hK K inv hS;rename_i hS inv
        refine F_l1 11 ?_;intro K hK
        go_simp
        refine hK _ _ ?_
        clear hK K inv hS
        have hcx:CelX W0 (w3.setCell ⟨W0.heap.size,0,none⟩ (.slice A3 n3 c3)) W0.heap.size (.slice A3 n3 c3) (post a ++ T1 ++ [(4,0,0,0)]) :=
         ⟨hbz3.set_ 0 _,⟨_,_,h3.only ((Only.refl W0.heap.size (W0.heap.size+1) w3).setCell (p:=⟨W0.heap.size,0,none⟩) (.inl ⟨Nat.le_refl _,Nat.lt_succ_self _⟩) _) (.inr hzl),hp.size,by simp [World.setCell]⟩,Nat.le_refl _,hp3.setCell (p:=⟨W0.heap.size,0,none⟩) (Nat.le_refl _) _⟩
        go_wp2_with fail
        all_goals (go_meet;exact ⟨_,_,_,_,rfl,hcx⟩)
     case rest =>
      obtain ⟨q,A,n,c,rfl,hcx⟩:=hcut
      have HCX:=Hd_ hcx
      have y0:wc.cell? ⟨q,0,none⟩=some (.slice A n c):=hcx.blk.cell 0
      have hbr:=HBR.out.keep hcx.below
      have z0:wc.cell? ⟨w.heap.size+1,0,none⟩=some (.slice none 0 0):=hbr.cell 0
      have v0:=hbr.frozen 0
      have hlr:=hbr.lt
      clear hcx x0
      have HD:=HCX.out.done HB0.out (r:=w.heap.size+1) (by omega) hs1 (.slice A n c)
      have hl0:0 < (l:Int)+1:=by omega
      go_wp2_with fail
      exact bodyPost_ret (v:=.agg #[.slice A n c]) (by simp [results,Tryz.results205,go_sem,z0,v0,hlr]) rfl ⟨_,rfl,HD.1,HD.2⟩
theorem tko_done {w0 w:World} {r:Nat} {ss:Value} {l:List Tok} {lo:Nat} (h:Own lo w.heap.size w 184 cEd 4 ss l) (hb:Below w0.heap.size w0 w) (hr:w0.heap.size<=r) (hlo:r < lo) (u:Value) :
 TkO w0.heap.size (w.setCell ⟨r,0,none⟩ u).heap.size (w.setCell ⟨r,0,none⟩ u) (.agg #[ss]) l/\Below w0.heap.size w0 (w.setCell ⟨r,0,none⟩ u):=by
 have ho:=(Only.refl r (r+1) w).setCell (p:=⟨r,0,none⟩) (.inl ⟨Nat.le_refl _,Nat.lt_succ_self _⟩) u
 exact ⟨⟨ss,rfl,(h.only ho (.inr (by omega))).mono (by omega) ho.size⟩,hb.setCell (p:=⟨r,0,none⟩) hr _⟩
set_option maxRecDepth 100000 in
set_option maxHeartbeats 8000000 in
theorem l10Expand_any:∀ (r:Tr) (ss:Value) (w:World),r.ok->SlE w cEd 4 ss (post r)->(post r).length<=1048576->sizeT r<=5000 ->
 Calls Tryz.prog 180 #[ss] w fun e w'=>∃ v,e=.returned v/\TkO w.heap.size w'.heap.size w' v (post (expT r))/\Below w.heap.size w w'
 | .leaf t,ss,w,hr,hsl,hlen,hsz=>by
   obtain ⟨t0,t1,t2,t3⟩:=t
   have hk:=ar_leaf hr
   simp only at hk
   rw [expT,post]
   rw [post] at hsl
   obtain ⟨A,c,rfl,hl,hm,hx⟩:=hsl
   unfold maxLen at hm
   obtain ⟨q,o,rfl,-,hq,hcc⟩:=hx 0 (t0,t1,t2,t3) rfl
   have e0:=hcc 0 _ rfl
   have e1:=hcc 1 _ rfl
   have e2:=hcc 2 _ rfl
   have e3:=hcc 3 _ rfl
   simp only [Nat.add_zero,Nat.zero_mul,Nat.add_zero] at e0 e1 e2 e3
   clear hx hcc hlen hr hsz
   have hb0:=((Below.refl w.heap.size w).alloc (Nat.le_refl _) (.cells #[.slice none 0 0] 164)).alloc (by simp) (.cells #[.int .i64 t0,.int .i64 t1,.int .i64 t2,.int .i64 t3] 184)
   have hbr:=(Blk.new w 164 #[.slice none 0 0] _ rfl).alloc (.cells #[.int .i64 t0,.int .i64 t1,.int .i64 t2,.int .i64 t3] 184)
   have hbt:=Blk.new (w.alloc (.cells #[.slice none 0 0] 164)) 184 #[.int .i64 t0,.int .i64 t1,.int .i64 t2,.int .i64 t3] (w.heap.size+1) (by simp)
   have hs0:((w.alloc (.cells #[.slice none 0 0] 164)).alloc (.cells #[.int .i64 t0,.int .i64 t1,.int .i64 t2,.int .i64 t3] 184)).heap.size=w.heap.size+2:=by simp
   rcases hk with rfl | rfl | rfl
   · skip
     go_enter Tryz.func180,Tryz.ntmps180
     go_upto_region 3 with fail
     generalize ((w.alloc (.cells #[.slice none 0 0] 164)).alloc (.cells #[.int .i64 1,.int .i64 t1,.int .i64 t2,.int .i64 t3] 184))=W0 at *
     clear e0 e1 e2 e3
     have x0:W0.cell? ⟨w.heap.size+1,0,none⟩=some (.int .i64 (1)):=hbt.cell 0
     have x1:W0.cell? ⟨w.heap.size+1,1,none⟩=some (.int .i64 (t1)):=hbt.cell 1
     have x2:W0.cell? ⟨w.heap.size+1,2,none⟩=some (.int .i64 (t2)):=hbt.cell 2
     have x3:W0.cell? ⟨w.heap.size+1,3,none⟩=some (.int .i64 (t3)):=hbt.cell 3
     have HBR:=Hd_ hbr
     have HB0:=Hd_ hb0
     have hlt1:=hbt.lt
     clear hbr hb0 hbt
     have hal:=(Below.refl W0.heap.size W0).alloc (Nat.le_refl _) (.cells #[.int .i64 1,.int .i64 t1,.int .i64 t2,.int .i64 t3] 184)
     have hrl:=World.ownsRow_lit (base:=w.heap.size+1) (e:=184) (size:=4) W0 #[.int .i64 1,.int .i64 t1,.int .i64 t2,.int .i64 t3] 1 (by omega) (by decide) rfl
     have HD:=tko_done (r:=w.heap.size) (Own.of_row (xs:=[((1,t1,t2,t3):Tok)]) (E:=cEd) hrl rfl rfl) (below_trans HB0.out hal) (Nat.le_refl _) (Nat.lt_succ_self _) (.slice (some ⟨W0.heap.size,0,none⟩) 1 1)
     have z0:W0.cell? ⟨w.heap.size,0,none⟩=some (.slice none 0 0):=HBR.out.cell 0
     have v0:=HBR.out.frozen 0
     have hlr:=HBR.out.lt
     have HHE:=Hd_ HD
     rw [World.setCell_alloc_past _ _ _ _ hlr] at HD
     have HHD:=Hd_ HD
     clear HD hrl hal hs0
     go_wp2_with fail
     first
      | exact bodyPost_ret (v:=.agg #[.slice (some ⟨W0.heap.size,0,none⟩) 1 1]) (by simp [results,Tryz.results180,go_sem,z0,v0,hlr]) rfl ⟨_,rfl,HHD.out.1,HHD.out.2⟩
      | exact bodyPost_ret (v:=.agg #[.slice (some ⟨W0.heap.size,0,none⟩) 1 1]) (by simp [results,Tryz.results180,go_sem,z0,v0,hlr]) rfl ⟨_,rfl,HHE.out.1,HHE.out.2⟩
   · skip
     go_enter Tryz.func180,Tryz.ntmps180
     go_upto_region 3 with fail
     generalize ((w.alloc (.cells #[.slice none 0 0] 164)).alloc (.cells #[.int .i64 2,.int .i64 t1,.int .i64 t2,.int .i64 t3] 184))=W0 at *
     clear e0 e1 e2 e3
     have x0:W0.cell? ⟨w.heap.size+1,0,none⟩=some (.int .i64 (2)):=hbt.cell 0
     have x1:W0.cell? ⟨w.heap.size+1,1,none⟩=some (.int .i64 (t1)):=hbt.cell 1
     have x2:W0.cell? ⟨w.heap.size+1,2,none⟩=some (.int .i64 (t2)):=hbt.cell 2
     have x3:W0.cell? ⟨w.heap.size+1,3,none⟩=some (.int .i64 (t3)):=hbt.cell 3
     have HBR:=Hd_ hbr
     have HB0:=Hd_ hb0
     have hlt1:=hbt.lt
     clear hbr hb0 hbt
     have hal:=(Below.refl W0.heap.size W0).alloc (Nat.le_refl _) (.cells #[.int .i64 2,.int .i64 t1,.int .i64 t2,.int .i64 t3] 184)
     have hrl:=World.ownsRow_lit (base:=w.heap.size+1) (e:=184) (size:=4) W0 #[.int .i64 2,.int .i64 t1,.int .i64 t2,.int .i64 t3] 1 (by omega) (by decide) rfl
     have HD:=tko_done (r:=w.heap.size) (Own.of_row (xs:=[((2,t1,t2,t3):Tok)]) (E:=cEd) hrl rfl rfl) (below_trans HB0.out hal) (Nat.le_refl _) (Nat.lt_succ_self _) (.slice (some ⟨W0.heap.size,0,none⟩) 1 1)
     have z0:W0.cell? ⟨w.heap.size,0,none⟩=some (.slice none 0 0):=HBR.out.cell 0
     have v0:=HBR.out.frozen 0
     have hlr:=HBR.out.lt
     have HHE:=Hd_ HD
     rw [World.setCell_alloc_past _ _ _ _ hlr] at HD
     have HHD:=Hd_ HD
     clear HD hrl hal hs0
     go_wp2_with fail
     first
      | exact bodyPost_ret (v:=.agg #[.slice (some ⟨W0.heap.size,0,none⟩) 1 1]) (by simp [results,Tryz.results180,go_sem,z0,v0,hlr]) rfl ⟨_,rfl,HHD.out.1,HHD.out.2⟩
      | exact bodyPost_ret (v:=.agg #[.slice (some ⟨W0.heap.size,0,none⟩) 1 1]) (by simp [results,Tryz.results180,go_sem,z0,v0,hlr]) rfl ⟨_,rfl,HHE.out.1,HHE.out.2⟩
   · skip
     go_enter Tryz.func180,Tryz.ntmps180
     go_upto_region 3 with fail
     generalize ((w.alloc (.cells #[.slice none 0 0] 164)).alloc (.cells #[.int .i64 3,.int .i64 t1,.int .i64 t2,.int .i64 t3] 184))=W0 at *
     clear e0 e1 e2 e3
     have x0:W0.cell? ⟨w.heap.size+1,0,none⟩=some (.int .i64 (3)):=hbt.cell 0
     have x1:W0.cell? ⟨w.heap.size+1,1,none⟩=some (.int .i64 (t1)):=hbt.cell 1
     have x2:W0.cell? ⟨w.heap.size+1,2,none⟩=some (.int .i64 (t2)):=hbt.cell 2
     have x3:W0.cell? ⟨w.heap.size+1,3,none⟩=some (.int .i64 (t3)):=hbt.cell 3
     have HBR:=Hd_ hbr
     have HB0:=Hd_ hb0
     have hlt1:=hbt.lt
     clear hbr hb0 hbt
     have hal:=(Below.refl W0.heap.size W0).alloc (Nat.le_refl _) (.cells #[.int .i64 3,.int .i64 t1,.int .i64 t2,.int .i64 t3] 184)
     have hrl:=World.ownsRow_lit (base:=w.heap.size+1) (e:=184) (size:=4) W0 #[.int .i64 3,.int .i64 t1,.int .i64 t2,.int .i64 t3] 1 (by omega) (by decide) rfl
     have HD:=tko_done (r:=w.heap.size) (Own.of_row (xs:=[((3,t1,t2,t3):Tok)]) (E:=cEd) hrl rfl rfl) (below_trans HB0.out hal) (Nat.le_refl _) (Nat.lt_succ_self _) (.slice (some ⟨W0.heap.size,0,none⟩) 1 1)
     have z0:W0.cell? ⟨w.heap.size,0,none⟩=some (.slice none 0 0):=HBR.out.cell 0
     have v0:=HBR.out.frozen 0
     have hlr:=HBR.out.lt
     have HHE:=Hd_ HD
     rw [World.setCell_alloc_past _ _ _ _ hlr] at HD
     have HHD:=Hd_ HD
     clear HD hrl hal hs0
     go_wp2_with fail
     first
      | exact bodyPost_ret (v:=.agg #[.slice (some ⟨W0.heap.size,0,none⟩) 1 1]) (by simp [results,Tryz.results180,go_sem,z0,v0,hlr]) rfl ⟨_,rfl,HHD.out.1,HHD.out.2⟩
      | exact bodyPost_ret (v:=.agg #[.slice (some ⟨W0.heap.size,0,none⟩) 1 1]) (by simp [results,Tryz.results180,go_sem,z0,v0,hlr]) rfl ⟨_,rfl,HHE.out.1,HHE.out.2⟩
 | .un t a,ss,w,hr,hsl,hlen,hsz=>by
   have ht:=ar_un hr.1
   obtain ⟨m,hm0⟩:∃ m,m=(post a).length:=⟨_,rfl⟩
   rw [post] at hsl hlen
   have hlq:(post a ++ [t]).length=m+1:=by rw [List.length_append,hm0];rfl
   rw [hlq] at hlen
   have h0:=hsl
   obtain ⟨A,c,rfl,hl,hm,hx⟩:=hsl
   rw [hlq] at hl h0 ⊢
   unfold maxLen at hm
   have hxi:(post a ++ [t])[m]?=some t:=by rw [List.getElem?_append_right (by omega)];simp [hm0]
   obtain ⟨q,o,rfl,-,hq,hcc⟩:=hx _ t hxi
   obtain ⟨t0,t1,t2,t3⟩:=t
   have e0:=hcc 0 _ rfl
   have e1:=hcc 1 _ rfl
   have e2:=hcc 2 _ rfl
   have e3:=hcc 3 _ rfl
   simp only [Nat.add_zero] at e0
   have hmc1:m<=c:=by omega
   have hsa:sizeT a<=5000:=by
    rw [sizeT] at hsz
    split at hsz
    · omega
    · rename_i h6
      rcases ht with ht | ht
      · exact absurd (by rw [ht]) h6
      · have h1:(sizeT a+3) * 1<=(sizeT a+3) * t3.toNat:=Nat.mul_le_mul_left _ (by simp only at ht;omega)
        simp only at hsz
        omega
   have h2:SlE w cEd 4 (.slice (some ⟨q,o,none⟩) m c) (post a):=SlI.headT h0 hm0.symm
   have HSA:=Hd_ (fun (W:World) (hW:Below w.heap.size w W)=>l10Expand_any a _ W hr.2 (h2.keep hW) (by omega) hsa)
   have hla:=expT_len hsa
   clear hx hcc hxi h0 h2 hm0 hlq hsz
   have hb0:=((Below.refl w.heap.size w).alloc (Nat.le_refl _) (.cells #[.slice none 0 0] 164)).alloc (by simp) (.cells #[.int .i64 t0,.int .i64 t1,.int .i64 t2,.int .i64 t3] 184)
   have hbr:=(Blk.new w 164 #[.slice none 0 0] _ rfl).alloc (.cells #[.int .i64 t0,.int .i64 t1,.int .i64 t2,.int .i64 t3] 184)
   have hbt:=Blk.new (w.alloc (.cells #[.slice none 0 0] 164)) 184 #[.int .i64 t0,.int .i64 t1,.int .i64 t2,.int .i64 t3] (w.heap.size+1) (by simp)
   have hs0:((w.alloc (.cells #[.slice none 0 0] 164)).alloc (.cells #[.int .i64 t0,.int .i64 t1,.int .i64 t2,.int .i64 t3] 184)).heap.size=w.heap.size+2:=by simp
   rcases ht with ht | ⟨ht0,ht1,ht2,ht3,ht4,ht5⟩
   · injection ht with ht0 ht1
     injection ht1 with ht1 ht2
     injection ht2 with ht2 ht3
     subst ht0 ht1 ht2 ht3
     rw [show post (expT (.un (6,0,0,0) a))=post (expT a) ++ [] ++ [(6,0,0,0)] by simp [expT,post]]
     clear hr
     go_enter Tryz.func180,Tryz.ntmps180
     go_upto_region 3 with fail
     generalize ((w.alloc (.cells #[.slice none 0 0] 164)).alloc (.cells #[.int .i64 6,.int .i64 0,.int .i64 0,.int .i64 0] 184))=W0 at *
     clear e0 e1 e2 e3
     have x0:W0.cell? ⟨w.heap.size+1,0,none⟩=some (.int .i64 (6)):=hbt.cell 0
     have x1:W0.cell? ⟨w.heap.size+1,1,none⟩=some (.int .i64 (0)):=hbt.cell 1
     have x2:W0.cell? ⟨w.heap.size+1,2,none⟩=some (.int .i64 (0)):=hbt.cell 2
     have x3:W0.cell? ⟨w.heap.size+1,3,none⟩=some (.int .i64 (0)):=hbt.cell 3
     have HBR:=Hd_ hbr
     have HB0:=Hd_ hb0
     have hlt1:=hbt.lt
     clear hbr hb0 hbt
     go_wp2_with fail
     refine F_start 7 (fun w'=>w'.cell? ⟨w.heap.size+1,0,none⟩=some (.int .i64 (6))/\w'.cell? ⟨w.heap.size+1,1,none⟩=some (.int .i64 (0))/\w'.cell? ⟨w.heap.size+1,2,none⟩=some (.int .i64 (0))/\w'.cell? ⟨w.heap.size+1,3,none⟩=some (.int .i64 (0))) (by kernel_rfl) (by exact ⟨x0,x1,x2,x3⟩) (fun hS inv=>?_)
     refine F_tk 0 inv ?_
     try simp only [tA,tB,tC,Act.put,tE,tF,tG]
     clear inv;intro inv
     refine F_tk 1 inv ?_
     try simp only [tA,tB,tC,Act.put,tE,tF,tG]
     clear inv;intro inv
     refine F_tk 2 inv ?_
     try simp only [tA,tB,tC,Act.put,tE,tF,tG]
     clear inv;intro inv
     refine F_tk 4 inv ?_
     try simp only [tA,tB,tC,Act.put,tE,tF,tG]
     clear inv;intro inv
     refine F_tk 5 inv ?_
     try simp only [tA,tB,tC,Act.put,tE,tF,tG]
     clear inv;intro inv
     have hbd:Below W0.heap.size W0 W0.drew:=(Below.refl _ _).drew
     refine F_o1 3 inv ?_;intro K hK
     try simp only [tA,tB,tC]
     go_simp
     refine (HSA.out _ (below_trans HB0.out hbd)).mono ?_
     rintro e w2 ⟨v2,rfl,h2,hb2⟩
     have hp2:=below_trans hbd hb2
     refine hK.out _ _ (kB4 hb2 hS) (fun _ _=>?_)
     try simp only [tA,tB,tC,Act.put,tE,tF,tG]
     clear hK K inv hS;rename_i hS inv
     refine F_o1 6 inv ?_;intro K hK
     try simp only [tA,tB,tC]
     go_simp
     refine (l8Join_any _ _ _ [] (6,0,0,0) _ (h2.view.mono (Nat.zero_le _) (Nat.le_refl _)) (TkV.nil _ _ _) (by omega) (by simp)).mono ?_
     rintro e w3 ⟨v3,rfl,hr9,hb3⟩
     have hpl:=hp2.size
     obtain ⟨s9,rfl,h9⟩:=hr9
     obtain ⟨A9,n9,c9,rfl⟩:=h9.shape
     have hp9:=below_trans hp2 hb3
     have hbr9:=HBR.out.keep hp9
     have z0:w3.cell? ⟨w.heap.size,0,none⟩=some (.slice none 0 0):=hbr9.cell 0
     have v0:=hbr9.frozen 0
     have hlr:=hbr9.lt
     refine hK.out _ _ (kB4 hb3 hS) (fun _ _=>?_)
     try simp only [tA,tB,tC,Act.put,tE,tF,tG]
     clear hK K inv hS;rename_i hS inv
     refine F_l1 7 ?_;intro K hK
     go_simp
     refine hK _ _ ?_
     clear hK K inv hS
     have HD:=Hd_ (tko_done (r:=w.heap.size) h9 (below_trans HB0.out hp9) (Nat.le_refl _) (by have h1:=HB0.out.size;have h2:=hpl;omega) (.slice A9 n9 c9))
     clear h9 hbr9 hp9 hpl
     go_wp2_with fail
     exact bodyPost_ret (v:=.agg #[.slice A9 n9 c9]) (by simp [results,Tryz.results180,go_sem,z0,v0,hlr]) rfl ⟨_,rfl,HD.out.1,HD.out.2⟩
   · simp only at ht0 ht1 ht2 ht3 ht4 ht5
     subst ht0 ht1
     obtain ⟨h,rfl⟩:=Int.eq_ofNat_of_zero_le (show 0<=t3 by omega)
     obtain ⟨l,rfl⟩:=Int.eq_ofNat_of_zero_le ht4
     rw [show post (expT (.un (7,0,(l:Int),(h:Int)) a))=post (timesT (expT a) l h) by simp [expT]]
     clear hr
     go_enter Tryz.func180,Tryz.ntmps180
     go_upto_region 3 with fail
     generalize ((w.alloc (.cells #[.slice none 0 0] 164)).alloc (.cells #[.int .i64 7,.int .i64 0,.int .i64 (l:Int),.int .i64 (h:Int)] 184))=W0 at *
     clear e0 e1 e2 e3
     have x0:W0.cell? ⟨w.heap.size+1,0,none⟩=some (.int .i64 (7)):=hbt.cell 0
     have x1:W0.cell? ⟨w.heap.size+1,1,none⟩=some (.int .i64 (0)):=hbt.cell 1
     have x2:W0.cell? ⟨w.heap.size+1,2,none⟩=some (.int .i64 ((l:Int))):=hbt.cell 2
     have x3:W0.cell? ⟨w.heap.size+1,3,none⟩=some (.int .i64 ((h:Int))):=hbt.cell 3
     have HBR:=Hd_ hbr
     have HB0:=Hd_ hb0
     have hlt1:=hbt.lt
     clear hbr hb0 hbt
     go_wp2_with fail
     refine F_start 9 (fun w'=>w'.cell? ⟨w.heap.size+1,0,none⟩=some (.int .i64 (7))/\w'.cell? ⟨w.heap.size+1,1,none⟩=some (.int .i64 (0))/\w'.cell? ⟨w.heap.size+1,2,none⟩=some (.int .i64 ((l:Int)))/\w'.cell? ⟨w.heap.size+1,3,none⟩=some (.int .i64 ((h:Int)))) (by kernel_rfl) (by exact ⟨x0,x1,x2,x3⟩) (fun hS inv=>?_)
     refine F_tk 0 inv ?_
     try simp only [tA,tB,tC,Act.put,tE,tF,tG]
     clear inv;intro inv
     refine F_tk 1 inv ?_
     try simp only [tA,tB,tC,Act.put,tE,tF,tG]
     clear inv;intro inv
     refine F_tk 2 inv ?_
     try simp only [tA,tB,tC,Act.put,tE,tF,tG]
     clear inv;intro inv
     refine F_tk 4 inv ?_
     try simp only [tA,tB,tC,Act.put,tE,tF,tG]
     clear inv;intro inv
     refine F_tk 5 inv ?_
     try simp only [tA,tB,tC,Act.put,tE,tF,tG]
     clear inv;intro inv
     refine F_tk 6 inv ?_
     try simp only [tA,tB,tC,Act.put,tE,tF,tG]
     clear inv;intro inv
     refine F_tk 7 inv ?_
     try simp only [tA,tB,tC,Act.put,tE,tF,tG]
     clear inv;intro inv
     have hbd:Below W0.heap.size W0 W0.drew:=(Below.refl _ _).drew
     refine F_o1 3 inv ?_;intro K hK
     try simp only [tA,tB,tC]
     go_simp
     refine (HSA.out _ (below_trans HB0.out hbd)).mono ?_
     rintro e w2 ⟨v2,rfl,h2,hb2⟩
     have hp2:=below_trans hbd hb2
     refine hK.out _ _ (kB4 hb2 hS) (fun _ _=>?_)
     try simp only [tA,tB,tC,Act.put,tE,tF,tG]
     clear hK K inv hS;rename_i hS inv
     refine F_o1 8 inv ?_;intro K hK
     try simp only [tA,tB,tC]
     go_simp
     refine (l10Times_any (expT a) (by omega) h l _ _ (h2.view.mono (Nat.zero_le _) (Nat.le_refl _)) (by omega) (by omega)).mono ?_
     rintro e w3 ⟨v3,rfl,hr9,hb3⟩
     have hpl:=hp2.size
     obtain ⟨s9,rfl,h9⟩:=hr9
     obtain ⟨A9,n9,c9,rfl⟩:=h9.shape
     have hp9:=below_trans hp2 hb3
     have hbr9:=HBR.out.keep hp9
     have z0:w3.cell? ⟨w.heap.size,0,none⟩=some (.slice none 0 0):=hbr9.cell 0
     have v0:=hbr9.frozen 0
     have hlr:=hbr9.lt
     refine hK.out _ _ (kB4 hb3 hS) (fun _ _=>?_)
     try simp only [tA,tB,tC,Act.put,tE,tF,tG]
     clear hK K inv hS;rename_i hS inv
     refine F_l1 9 ?_;intro K hK
     go_simp
     refine hK _ _ ?_
     clear hK K inv hS
     have HD:=Hd_ (tko_done (r:=w.heap.size) h9 (below_trans HB0.out hp9) (Nat.le_refl _) (by have h1:=HB0.out.size;have h2:=hpl;omega) (.slice A9 n9 c9))
     clear h9 hbr9 hp9 hpl
     go_wp2_with fail
     exact bodyPost_ret (v:=.agg #[.slice A9 n9 c9]) (by simp [results,Tryz.results180,go_sem,z0,v0,hlr]) rfl ⟨_,rfl,HD.out.1,HD.out.2⟩
 | .bin t a b,ss,w,hr,hsl,hlen,hsz=>by
   have ht:=ar_bin hr.1
   obtain ⟨m,hm0⟩:∃ m,m=(post a).length:=⟨_,rfl⟩
   obtain ⟨j,hj0⟩:∃ j,j=(post b).length:=⟨_,rfl⟩
   have hj1:0 < j:=by rw [hj0];exact post_pos b
   rw [post] at hsl hlen
   obtain ⟨N,hN⟩:∃ N,N=(post a ++ post b).length:=⟨_,rfl⟩
   have hNm:N=m+j:=by rw [hN,List.length_append,hm0,hj0]
   have hlq:((post a ++ post b) ++ [t]).length=N+1:=by rw [List.length_append,hN];rfl
   rw [hlq] at hlen
   have h0:=hsl
   obtain ⟨A,c,rfl,hl,hm,hx⟩:=hsl
   rw [hlq] at hl h0 ⊢
   unfold maxLen at hm
   have hxi:((post a ++ post b) ++ [t])[N]?=some t:=by rw [List.getElem?_append_right (by omega)];simp [hN]
   obtain ⟨q,o,rfl,-,hq,hcc⟩:=hx _ t hxi
   obtain ⟨t0,t1,t2,t3⟩:=t
   have e0:=hcc 0 _ rfl
   have e1:=hcc 1 _ rfl
   have e2:=hcc 2 _ rfl
   have e3:=hcc 3 _ rfl
   simp only [Nat.add_zero] at e0
   have hsab:sizeT a<=5000/\sizeT b<=5000:=by rw [sizeT] at hsz;omega
   have h1:SlE w cEd 4 (.slice (some ⟨q,o,none⟩) N c) (post a ++ post b):=SlI.headT h0 hN.symm
   have h2:SlE w cEd 4 (.slice (some ⟨q,o,none⟩) m c) (post a):=SlI.headT h1 hm0.symm
   have h3:SlE w cEd 4 (.slice (some ⟨q,o+m * 4,none⟩) (N - m) (c - m)) (post b):=SlI.tailT h1 hm0.symm (by omega) rfl
   have HST:=Hd_ (fun (W:World) (hW:Below w.heap.size w W)=>l8Start_any _ (post a) b W (h1.keep hW) hr.2.2 (by rw [<- hN];omega))
   have HSA:=Hd_ (fun (W:World) (hW:Below w.heap.size w W)=>l10Expand_any a _ W hr.2.1 (h2.keep hW) (by omega) hsab.1)
   have HSB:=Hd_ (fun (W:World) (hW:Below w.heap.size w W)=>l10Expand_any b _ W hr.2.2 (h3.keep hW) (by omega) hsab.2)
   have hla:=expT_len hsab.1
   have hlb:=expT_len hsab.2
   have hsab1:=hsab.1
   have hsab2:=hsab.2
   rw [<- hm0] at HST
   have hmc:¬ c=m:=by omega
   have hmc1:m<=c:=by omega
   have hmc2:N<=c:=by omega
   have hmc3:m<=N:=by omega
   clear hx hcc hxi h0 h1 h2 h3 hr hm0 hj0 hlq hsz hsab hNm hN
   rw [show post (expT (.bin (t0,t1,t2,t3) a b))=post (expT a) ++ post (expT b) ++ [(t0,t1,t2,t3)] by simp [expT,post]]
   have hb0:=((Below.refl w.heap.size w).alloc (Nat.le_refl _) (.cells #[.slice none 0 0] 164)).alloc (by simp) (.cells #[.int .i64 t0,.int .i64 t1,.int .i64 t2,.int .i64 t3] 184)
   have hbr:=(Blk.new w 164 #[.slice none 0 0] _ rfl).alloc (.cells #[.int .i64 t0,.int .i64 t1,.int .i64 t2,.int .i64 t3] 184)
   have hbt:=Blk.new (w.alloc (.cells #[.slice none 0 0] 164)) 184 #[.int .i64 t0,.int .i64 t1,.int .i64 t2,.int .i64 t3] (w.heap.size+1) (by simp)
   have hs0:((w.alloc (.cells #[.slice none 0 0] 164)).alloc (.cells #[.int .i64 t0,.int .i64 t1,.int .i64 t2,.int .i64 t3] 184)).heap.size=w.heap.size+2:=by simp
   rcases ht with ht | ht
   · injection ht with ht0 ht1
     injection ht1 with ht1 ht2
     injection ht2 with ht2 ht3
     subst ht0 ht1 ht2 ht3
     go_enter Tryz.func180,Tryz.ntmps180
     go_upto_region 3 with fail
     generalize ((w.alloc (.cells #[.slice none 0 0] 164)).alloc (.cells #[.int .i64 4,.int .i64 0,.int .i64 0,.int .i64 0] 184))=W0 at *
     clear e0 e1 e2 e3
     have x0:W0.cell? ⟨w.heap.size+1,0,none⟩=some (.int .i64 (4)):=hbt.cell 0
     have x1:W0.cell? ⟨w.heap.size+1,1,none⟩=some (.int .i64 (0)):=hbt.cell 1
     have x2:W0.cell? ⟨w.heap.size+1,2,none⟩=some (.int .i64 (0)):=hbt.cell 2
     have x3:W0.cell? ⟨w.heap.size+1,3,none⟩=some (.int .i64 (0)):=hbt.cell 3
     have HBR:=Hd_ hbr
     have HB0:=Hd_ hb0
     have hlt1:=hbt.lt
     clear hbr hb0 hbt
     go_wp2_with fail
     refine (HST.out _ HB0.out).mono ?_
     rintro e w1 ⟨rfl,hb1⟩
     have x0:=kcell hb1 x0
     have x1:=kcell hb1 x1
     have x2:=kcell hb1 x2
     have x3:=kcell hb1 x3
     have hlt1:w.heap.size+1 < w1.heap.size:=Nat.lt_of_lt_of_le hlt1 hb1.size
     have HB1:=Hd_ hb1
     clear hb1
     go_upto_region 7 with fail
     refine F_start 11 (fun w'=>w'.cell? ⟨w.heap.size+1,0,none⟩=some (.int .i64 (4))/\w'.cell? ⟨w.heap.size+1,1,none⟩=some (.int .i64 (0))/\w'.cell? ⟨w.heap.size+1,2,none⟩=some (.int .i64 (0))/\w'.cell? ⟨w.heap.size+1,3,none⟩=some (.int .i64 (0))) (by kernel_rfl) (by exact ⟨x0,x1,x2,x3⟩) (fun hS inv=>?_)
     refine F_tk 0 inv ?_
     try simp only [tA,tB,tC,Act.put,tE,tF,tG]
     clear inv;intro inv
     refine F_tk 1 inv ?_
     try simp only [tA,tB,tC,Act.put,tE,tF,tG]
     clear inv;intro inv
     refine F_tk 2 inv ?_
     try simp only [tA,tB,tC,Act.put,tE,tF,tG]
     clear inv;intro inv
     refine F_tk 4 inv ?_
     try simp only [tA,tB,tC,Act.put,tE,tF,tG]
     clear inv;intro inv
     refine F_tk 5 inv ?_
     try simp only [tA,tB,tC,Act.put,tE,tF,tG]
     clear inv;intro inv
     refine F_tk 6 inv ?_
     try simp only [tA,tB,tC,Act.put,tE,tF,tG]
     clear inv;intro inv
     refine F_tk 7 inv ?_
     try simp only [tA,tB,tC,Act.put,tE,tF,tG]
     clear inv;intro inv
     refine F_tk 9 inv ?_
     try simp only [tA,tB,tC,Act.put,tE,tF,tG]
     clear inv;intro inv
     have hbd:=below_trans HB1.out ((Below.refl w1.heap.size w1).drew)
     refine F_o1 3 inv ?_;intro K hK
     try simp only [tA,tB,tC]
     go_simp
     refine (HSA.out _ (below_trans HB0.out hbd)).mono ?_
     rintro e w2 ⟨v2,rfl,h2,hb2⟩
     have hp2:=below_trans hbd hb2
     refine hK.out _ _ (kB4 hb2 hS) (fun _ _=>?_)
     try simp only [tA,tB,tC,Act.put,tE,tF,tG]
     clear hK K inv hS;rename_i hS inv
     refine F_o1 8 inv ?_;intro K hK
     try simp only [tA,tB,tC]
     go_simp
     refine (HSB.out _ (below_trans HB0.out hp2)).mono ?_
     rintro e w3 ⟨v3,rfl,h3,hb3⟩
     have hp3:=below_trans hp2 hb3
     refine hK.out _ _ (kB4 hb3 hS) (fun _ _=>?_)
     try simp only [tA,tB,tC,Act.put,tE,tF,tG]
     clear hK K inv hS;rename_i hS inv
     refine F_o1 10 inv ?_;intro K hK
     try simp only [tA,tB,tC]
     go_simp
     refine (l8Join_any _ _ _ _ (4,0,0,0) _ ((h2.view.mono (Nat.zero_le _) (Nat.le_refl _)).keep hb3) (h3.view.mono (Nat.zero_le _) (Nat.le_refl _)) (by omega) (by omega)).mono ?_
     rintro e w4 ⟨v4,rfl,hr9,hb4⟩
     have hpl:=hp3.size
     obtain ⟨s9,rfl,h9⟩:=hr9
     obtain ⟨A9,n9,c9,rfl⟩:=h9.shape
     have hp9:=below_trans hp3 hb4
     have hbr9:=HBR.out.keep hp9
     have z0:w4.cell? ⟨w.heap.size,0,none⟩=some (.slice none 0 0):=hbr9.cell 0
     have v0:=hbr9.frozen 0
     have hlr:=hbr9.lt
     refine hK.out _ _ (kB4 hb4 hS) (fun _ _=>?_)
     try simp only [tA,tB,tC,Act.put,tE,tF,tG]
     clear hK K inv hS;rename_i hS inv
     refine F_l1 11 ?_;intro K hK
     go_simp
     refine hK _ _ ?_
     clear hK K inv hS
     have HD:=Hd_ (tko_done (r:=w.heap.size) h9 (below_trans HB0.out hp9) (Nat.le_refl _) (by have h1:=HB0.out.size;have h2:=hpl;omega) (.slice A9 n9 c9))
     clear h9 hbr9 hp9 hpl
     go_wp2_with fail
     exact bodyPost_ret (v:=.agg #[.slice A9 n9 c9]) (by simp [results,Tryz.results180,go_sem,z0,v0,hlr]) rfl ⟨_,rfl,HD.out.1,HD.out.2⟩
   · injection ht with ht0 ht1
     injection ht1 with ht1 ht2
     injection ht2 with ht2 ht3
     subst ht0 ht1 ht2 ht3
     go_enter Tryz.func180,Tryz.ntmps180
     go_upto_region 3 with fail
     generalize ((w.alloc (.cells #[.slice none 0 0] 164)).alloc (.cells #[.int .i64 5,.int .i64 0,.int .i64 0,.int .i64 0] 184))=W0 at *
     clear e0 e1 e2 e3
     have x0:W0.cell? ⟨w.heap.size+1,0,none⟩=some (.int .i64 (5)):=hbt.cell 0
     have x1:W0.cell? ⟨w.heap.size+1,1,none⟩=some (.int .i64 (0)):=hbt.cell 1
     have x2:W0.cell? ⟨w.heap.size+1,2,none⟩=some (.int .i64 (0)):=hbt.cell 2
     have x3:W0.cell? ⟨w.heap.size+1,3,none⟩=some (.int .i64 (0)):=hbt.cell 3
     have HBR:=Hd_ hbr
     have HB0:=Hd_ hb0
     have hlt1:=hbt.lt
     clear hbr hb0 hbt
     go_wp2_with fail
     refine (HST.out _ HB0.out).mono ?_
     rintro e w1 ⟨rfl,hb1⟩
     have x0:=kcell hb1 x0
     have x1:=kcell hb1 x1
     have x2:=kcell hb1 x2
     have x3:=kcell hb1 x3
     have hlt1:w.heap.size+1 < w1.heap.size:=Nat.lt_of_lt_of_le hlt1 hb1.size
     have HB1:=Hd_ hb1
     clear hb1
     go_upto_region 7 with fail
     refine F_start 11 (fun w'=>w'.cell? ⟨w.heap.size+1,0,none⟩=some (.int .i64 (5))/\w'.cell? ⟨w.heap.size+1,1,none⟩=some (.int .i64 (0))/\w'.cell? ⟨w.heap.size+1,2,none⟩=some (.int .i64 (0))/\w'.cell? ⟨w.heap.size+1,3,none⟩=some (.int .i64 (0))) (by kernel_rfl) (by exact ⟨x0,x1,x2,x3⟩) (fun hS inv=>?_)
     refine F_tk 0 inv ?_
     try simp only [tA,tB,tC,Act.put,tE,tF,tG]
     clear inv;intro inv
     refine F_tk 1 inv ?_
     try simp only [tA,tB,tC,Act.put,tE,tF,tG]
     clear inv;intro inv
     refine F_tk 2 inv ?_
     try simp only [tA,tB,tC,Act.put,tE,tF,tG]
     clear inv;intro inv
     refine F_tk 4 inv ?_
     try simp only [tA,tB,tC,Act.put,tE,tF,tG]
     clear inv;intro inv
     refine F_tk 5 inv ?_
     try simp only [tA,tB,tC,Act.put,tE,tF,tG]
     clear inv;intro inv
     refine F_tk 6 inv ?_
     try simp only [tA,tB,tC,Act.put,tE,tF,tG]
     clear inv;intro inv
     refine F_tk 7 inv ?_
     try simp only [tA,tB,tC,Act.put,tE,tF,tG]
     clear inv;intro inv
     refine F_tk 9 inv ?_
     try simp only [tA,tB,tC,Act.put,tE,tF,tG]
     clear inv;intro inv
     have hbd:=below_trans HB1.out ((Below.refl w1.heap.size w1).drew)
     refine F_o1 3 inv ?_;intro K hK
     try simp only [tA,tB,tC]
     go_simp
     refine (HSA.out _ (below_trans HB0.out hbd)).mono ?_
     rintro e w2 ⟨v2,rfl,h2,hb2⟩
     have hp2:=below_trans hbd hb2
     refine hK.out _ _ (kB4 hb2 hS) (fun _ _=>?_)
     try simp only [tA,tB,tC,Act.put,tE,tF,tG]
     clear hK K inv hS;rename_i hS inv
     refine F_o1 8 inv ?_;intro K hK
     try simp only [tA,tB,tC]
     go_simp
     refine (HSB.out _ (below_trans HB0.out hp2)).mono ?_
     rintro e w3 ⟨v3,rfl,h3,hb3⟩
     have hp3:=below_trans hp2 hb3
     refine hK.out _ _ (kB4 hb3 hS) (fun _ _=>?_)
     try simp only [tA,tB,tC,Act.put,tE,tF,tG]
     clear hK K inv hS;rename_i hS inv
     refine F_o1 10 inv ?_;intro K hK
     try simp only [tA,tB,tC]
     go_simp
     refine (l8Join_any _ _ _ _ (5,0,0,0) _ ((h2.view.mono (Nat.zero_le _) (Nat.le_refl _)).keep hb3) (h3.view.mono (Nat.zero_le _) (Nat.le_refl _)) (by omega) (by omega)).mono ?_
     rintro e w4 ⟨v4,rfl,hr9,hb4⟩
     have hpl:=hp3.size
     obtain ⟨s9,rfl,h9⟩:=hr9
     obtain ⟨A9,n9,c9,rfl⟩:=h9.shape
     have hp9:=below_trans hp3 hb4
     have hbr9:=HBR.out.keep hp9
     have z0:w4.cell? ⟨w.heap.size,0,none⟩=some (.slice none 0 0):=hbr9.cell 0
     have v0:=hbr9.frozen 0
     have hlr:=hbr9.lt
     refine hK.out _ _ (kB4 hb4 hS) (fun _ _=>?_)
     try simp only [tA,tB,tC,Act.put,tE,tF,tG]
     clear hK K inv hS;rename_i hS inv
     refine F_l1 11 ?_;intro K hK
     go_simp
     refine hK _ _ ?_
     clear hK K inv hS
     have HD:=Hd_ (tko_done (r:=w.heap.size) h9 (below_trans HB0.out hp9) (Nat.le_refl _) (by have h1:=HB0.out.size;have h2:=hpl;omega) (.slice A9 n9 c9))
     clear h9 hbr9 hp9 hpl
     go_wp2_with fail
     exact bodyPost_ret (v:=.agg #[.slice A9 n9 c9]) (by simp [results,Tryz.results180,go_sem,z0,v0,hlr]) rfl ⟨_,rfl,HD.out.1,HD.out.2⟩
def ExpOut (w:World) (e:Ending) (w':World):Prop:=∃ v is,e=.returned (.tuple #[v,.bool is])/\(∃ A n c,v=.agg #[.slice A n c])/\(is=true->∃ r:Tr,r.ok/\(post r).length<=5000/\TkV w.heap.size w'.heap.size w' v (post r))/\Below w.heap.size w w'
set_option maxRecDepth 100000 in
set_option maxHeartbeats 4000000 in
theorem expandExpr_any (va:Value) (l:List Tok) (w:World) (hv:TkV 0 w.heap.size w va l) :
 Calls Tryz.prog 159 #[va] w (ExpOut w):=by
 obtain ⟨sa,rfl,hsa⟩:=hv
 have HSA:=Hd_ hsa
 obtain ⟨A1,n1,c1,rfl⟩:=hsa.shape
 clear hsa
 have hb0:=((Below.refl w.heap.size w).alloc (Nat.le_refl _) (.cells #[.slice A1 n1 c1] 164)).alloc (by simp) (.cells #[.slice none 0 0] 164)
 have hbx:=(Blk.new w 164 #[.slice A1 n1 c1] _ rfl).alloc (.cells #[.slice none 0 0] 164)
 have hbr:=Blk.new (w.alloc (.cells #[.slice A1 n1 c1] 164)) 164 #[.slice none 0 0] (w.heap.size+1) (by simp)
 have hs0:((w.alloc (.cells #[.slice A1 n1 c1] 164)).alloc (.cells #[.slice none 0 0] 164)).heap.size=w.heap.size+2:=by simp
 have hsl0:SlE (((w.alloc (.cells #[.slice A1 n1 c1] 164)).alloc (.cells #[.slice none 0 0] 164))) cEd 4 (.slice A1 n1 c1) l:=SlE.keep HSA.out hb0
 go_enter Tryz.func159,Tryz.ntmps159
 go_wp2_with fail
 generalize ((w.alloc (.cells #[.slice A1 n1 c1] 164)).alloc (.cells #[.slice none 0 0] 164))=W0 at *
 refine (isValidExpr_any _ l _ hsl0).mono ?_
 rintro e w1 ⟨rfl,hb1⟩
 have hsl1:=SlE.keep hsl0 hb1
 have hbx1:=hbx.keep hb1
 have hbr1:=hbr.keep hb1
 have HB1:=Hd_ (below_trans hb0 hb1)
 have hz1:=hb1.size
 have HSL1:=Hd_ hsl1
 have x0:w1.cell? ⟨w.heap.size,0,none⟩=some (.slice A1 n1 c1):=hbx1.cell 0
 have z0:w1.cell? ⟨w.heap.size+1,0,none⟩=some (.slice none 0 0):=hbr1.cell 0
 have v0:=hbr1.frozen 0
 have hlr:=hbr1.lt
 have HBR1:=Hd_ hbr1
 have HBX1:=Hd_ hbx1
 have hs1:w.heap.size+2<=w1.heap.size:=by omega
 clear hsl0 hsl1 hbx hbr hbx1 hbr1 hb0 hb1 hs0 hz1
 cases hok:okE l
 · go_wp2_with fail
   exact bodyPost_ret (v:=.tuple #[.agg #[.slice none 0 0],.bool false]) (by simp [results,Tryz.results159,go_sem,z0,v0,hlr]) rfl ⟨_,_,rfl,⟨_,_,_,rfl⟩,(fun h=>by cases h),HB1.out.setCell (p:=⟨w.heap.size+1,0,none⟩) (by simp only;omega) _⟩
 · have htr:∃ r,treeL l=some r/\l.length<=24:=by
    simp only [okE,Bool.and_eq_true,decide_eq_true_eq] at hok
    obtain ⟨r,hr⟩:=Option.isSome_iff_exists.1 hok.2
    exact ⟨r,hr,hok.1⟩
   obtain ⟨r,hr,hl24⟩:=htr
   obtain ⟨hrok,hrp⟩:=treeL_post hr
   rw [<- hrp] at HSL1 hl24
   have HOK:=Hd_ hrok
   clear hok hr hrp hrok
   have hsz:=sizeT_le r
   go_wp2_with fail
   refine (l10Size_any r _ _ HOK.out HSL1.out (by omega)).mono ?_
   rintro e w2 ⟨rfl,hb2⟩
   have HSL2:=Hd_ (SlE.keep HSL1.out hb2)
   have x0:=kcell hb2 x0
   have z0:=kcell hb2 z0
   have HBR2:=Hd_ (HBR1.out.keep hb2)
   have HB2:=Hd_ (below_trans HB1.out hb2)
   have v0:=HBR2.out.frozen 0
   have hlr:=HBR2.out.lt
   have hs2:=hb2.size
   clear hb2 HSL1 HBR1 HBX1
   obtain ⟨S,hS⟩:∃ S,S=sizeT r:=⟨_,rfl⟩
   rw [<- hS] at hsz ⊢
   have HS:=Hd_ hS
   clear hS
   by_cases h5:S<=5000
   · have h5i:¬ 5000 < (S:Int):=by omega
     have h5r:sizeT r<=5000:=by rw [<- HS.out];exact h5
     have HEL:=Hd_ (expT_len h5r)
     clear hsz
     go_wp2_with fail
     refine (l10Expand_any r _ _ HOK.out HSL2.out (by omega) h5r).mono ?_
     rintro e w3 ⟨v3,rfl,⟨s3,rfl,h3⟩,hb3⟩
     obtain ⟨A3,n3,c3,hs3,hn3⟩:∃ A n c,s3=.slice A n c/\n=(post (expT r)).length:=by
      obtain ⟨A,c,h,-⟩:=h3.sl cEd_len
      exact ⟨A,_,c,h,rfl⟩
     subst hs3
     have hn5:n3<=5000:=by rw [hn3];have:=HEL.out;omega
     have hal:=(Below.refl w3.heap.size w3).alloc (Nat.le_refl _) (.cells #[.slice A3 n3 c3] 164)
     have hbA:=below_trans hb3 hal
     have hbr4:=HBR2.out.keep hbA
     have hbn:=Blk.new w3 164 #[.slice A3 n3 c3] _ rfl
     have h4:=(h3.below hal (Nat.le_refl _)).mono (Nat.le_refl _) hal.size
     have HB4:=Hd_ (below_trans HB2.out hbA)
     clear hn3 h3 hb3 hal hbA x0 z0 v0 hlr h5r h5 h5i
     go_upto_region 4 with fail
     generalize w3.alloc (.cells #[.slice A3 n3 c3] 164)=W4 at *
     have H4:=Hd_ h4
     have y0:W4.cell? ⟨w3.heap.size,0,none⟩=some (.slice A3 n3 c3):=hbn.cell 0
     have z0:W4.cell? ⟨w.heap.size+1,0,none⟩=some (.slice none 0 0):=hbr4.cell 0
     have v0:=hbr4.frozen 0
     have hlr:=hbr4.lt
     clear hbn hbr4 h4
     by_cases h4c:400 < n3
     · have h4i:400 < (n3:Int):=by omega
       go_wp2_with fail
       exact bodyPost_ret (v:=.tuple #[.agg #[.slice none 0 0],.bool false]) (by simp [results,Tryz.results159,go_sem,z0,v0,hlr]) rfl ⟨_,_,rfl,⟨_,_,_,rfl⟩,(fun h=>by cases h),HB4.out.setCell (p:=⟨w.heap.size+1,0,none⟩) (by simp only;omega) _⟩
     · have h4i:¬ 400 < (n3:Int):=by omega
       go_wp2_with fail
       have ho:=(Only.refl (w.heap.size+1) (w.heap.size+2) W4).setCell (p:=⟨w.heap.size+1,0,none⟩) (.inl ⟨Nat.le_refl _,Nat.lt_succ_self _⟩) (.slice A3 n3 c3)
       exact bodyPost_ret (v:=.tuple #[.agg #[.slice A3 n3 c3],.bool true]) (by simp [results,Tryz.results159,go_sem,z0,v0,hlr]) rfl ⟨_,_,rfl,⟨_,_,_,rfl⟩,(fun _=>⟨expT r,expT_ok HOK.out,by have:=HEL.out;rw [<- HS.out] at this;omega,⟨_,rfl,((H4.out.only ho (.inr (by omega))).sl cEd_len).mono (by omega) ho.size⟩⟩),HB4.out.setCell (p:=⟨w.heap.size+1,0,none⟩) (by simp only;omega) _⟩
   · have h5i:5000 < (S:Int):=by omega
     clear hsz
     go_wp2_with fail
     exact bodyPost_ret (v:=.tuple #[.agg #[.slice none 0 0],.bool false]) (by simp [results,Tryz.results159,go_sem,z0,v0,hlr]) rfl ⟨_,_,rfl,⟨_,_,_,rfl⟩,(fun h=>by cases h),HB2.out.setCell (p:=⟨w.heap.size+1,0,none⟩) (by simp only;omega) _⟩
end Go.Proofs.YtjpdembmchnbgaaGreat
