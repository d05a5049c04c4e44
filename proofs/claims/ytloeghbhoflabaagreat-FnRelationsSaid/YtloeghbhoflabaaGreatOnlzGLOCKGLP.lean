/- Parts of the proof, joined into one text: RevS, LetS, EvlS, EvlE, EqP, Rec, Seat. -/
import Derived.Test.YtloeghbhoflabaaGreatOnlzJDDHLKGG
import Derived.Test.YtloeghbhoflabaaGreatOnlzNPPBGEHB
import Derived.Test.YtloeghbhoflabaaGreatOnlzBNJPFELJ
import Derived.Test.YtloeghbhoflabaaGreatOnlzIEACLFLD
import Derived.Test.YtloeghbhoflabaaGreatOnlzMBOLNCNE
import Derived.Test.YtloeghbhoflabaaGreatOnlzDPCIHGBO
import Derived.Test.YtloeghbhoflabaaGreatOnlzMBBPDBAM
import Derived.JoinedOf
import Derived.Test.YtloeghbhoflabaaGreatRows
set_option linter.unusedVariables false
set_option linter.unusedSimpArgs false
namespace Go.Proofs.YtloeghbhoflabaaGreat
open Go.ChangeShapes Go.WideShapes Go.ChangeAt Go.RowKit
attribute [local go_sem] ext_cell ext_frozen ext_lt ext_lt1 ext_lt2 ext_lt3 ltn2 ltn3 ltn13 lts1 lts2 lts3
theorem inverse_any (n:Int) (w:World) (h0:0<=n) (h8:n<=8) :
 Calls Tryz.prog 70 #[.int .i64 n] w fun e w'=>e=.returned (.int .i64 (invLt n))/\w'=w:=by
 have hc:n=0 ∨ n=1 ∨ n=2 ∨ n=3 ∨ n=4 ∨ n=5 ∨ n=6 ∨ n=7 ∨ n=8:=by omega
 clear h0 h8
 rcases hc with rfl | rfl | rfl | rfl | rfl | rfl | rfl | rfl | rfl
 all_goals
  go_enter Tryz.func70,Tryz.ntmps70
  go_wp2
  go_ret
  exact ⟨rfl,rfl⟩
/-- a row of tokens of the call's own -/
def RvO (l:List Tok) (w:World) (e:Ending) (w':World):Prop:=∃ g c,e=.returned (.slice (some ⟨g,0,none⟩) l.length c)/\w'.ownsRow w.heap.size 94 4 (.slice (some ⟨g,0,none⟩) l.length c) l.length (l.flatMap cEd)/\Below w.heap.size w w'
def RvIH (r:Tr):Prop:=∀ (ss:Value) (w:World),SlE w cEd 4 ss (post r)->(post r).length<=1048576->Calls Tryz.prog 51 #[ss] w (RvO (post (revT r)) w)
theorem arI_is {t:Tok} {n:Nat} (h:ar t=some n) (w:World) :
 Calls Tryz.prog 68 #[.agg #[.int .i64 t.1,.int .i64 t.2.1,.int .i64 t.2.2.1,.int .i64 t.2.2.2]] w fun e w'=>e=.returned (.int .i64 (n:Int))/\Below w.heap.size w w':=by
 have:=l8Arity_any t w
 rwa [arI_some h] at this
theorem rv_lit (w0 W:World) (t:Tok) (hb:Below w0.heap.size w0 W):W.alloc (.cells (cEd t).toArray 94) |>.ownsRow w0.heap.size 94 4 (.slice (some ⟨W.heap.size,0,none⟩) 1 1) 1 ([t].flatMap cEd):=by
 have h:=World.ownsRow_lit (base:=w0.heap.size) (e:=94) (size:=4) W (cEd t).toArray 1 hb.size (by decide) rfl
 simpa using h
set_option maxRecDepth 100000 in
set_option maxHeartbeats 4000000 in
theorem rv_leaf {t:Tok} (hok:ar t=some 0) (ss:Value) (w:World) (hsl:SlE w cEd 4 ss (post (.leaf t))) :
 Calls Tryz.prog 51 #[ss] w (RvO (post (revT (.leaf t))) w):=by
 have hk:=ar_leaf hok
 have HAR:=Hd_ (fun w=>arI_is hok w)
 obtain ⟨tk,tl,tlo,thi⟩:=t
 simp only at hk
 have hl8:tk=3->0<=tl/\tl<=8:=by
  intro h;subst h
  simp only [ar] at hok
  rw [if_neg (by decide),if_pos trivial] at hok
  split at hok
  · rename_i h;exact ⟨h.1,h.2.1⟩
  · cases hok
 rw [post] at hsl
 obtain ⟨A,c,rfl,hl,hm,hx⟩:=hsl
 unfold maxLen at hm
 obtain ⟨q,o,rfl,-,hq,hcc⟩:=hx 0 (tk,tl,tlo,thi) rfl
 have e0:=hcc 0 _ rfl
 have e1:=hcc 1 _ rfl
 have e2:=hcc 2 _ rfl
 have e3:=hcc 3 _ rfl
 simp only [Nat.add_zero,Nat.zero_mul,Nat.add_zero] at e0 e1 e2 e3
 have hal:=(Below.refl w.heap.size w).alloc (Nat.le_refl _) (.cells #[.int .i64 tk,.int .i64 tl,.int .i64 tlo,.int .i64 thi] 94)
 have htb:=Blk.new w 94 #[.int .i64 tk,.int .i64 tl,.int .i64 tlo,.int .i64 thi] _ rfl
 have HAL:=Hd_ hal
 have HTB:=Hd_ htb
 have HL8:=Hd_ hl8
 clear hx hcc hok hal htb hl8
 rcases hk with rfl | rfl | rfl
 · skip
   go_enter Tryz.func51,Tryz.ntmps51
   go_wp2_with fail
   refine (HAR.out _).mono ?_
   rintro e w1 ⟨rfl,hb1⟩
   have htb:=HTB.out.keep hb1
   have HB1:=Hd_ (below_trans HAL.out hb1)
   have x0:w1.cell? ⟨w.heap.size,0,none⟩=some (.int .i64 1):=htb.cell 0
   have x1:w1.cell? ⟨w.heap.size,1,none⟩=some (.int .i64 tl):=htb.cell 1
   have x2:w1.cell? ⟨w.heap.size,2,none⟩=some (.int .i64 tlo):=htb.cell 2
   have x3:w1.cell? ⟨w.heap.size,3,none⟩=some (.int .i64 thi):=htb.cell 3
   have HR:=Hd_ (rv_lit w w1 (1,tl,tlo,thi) HB1.out)
   have HBB:=Hd_ (below_trans HB1.out ((Below.refl w1.heap.size w1).alloc (Nat.le_refl _) (.cells (cEd (1,tl,tlo,thi)).toArray 94)))
   clear hb1 htb e0 e1 e2 e3
   go_wp2_with fail
   go_ret
   exact ⟨_,_,rfl,HR.out,HBB.out⟩
 · skip
   go_enter Tryz.func51,Tryz.ntmps51
   go_wp2_with fail
   refine (HAR.out _).mono ?_
   rintro e w1 ⟨rfl,hb1⟩
   have htb:=HTB.out.keep hb1
   have HB1:=Hd_ (below_trans HAL.out hb1)
   have x0:w1.cell? ⟨w.heap.size,0,none⟩=some (.int .i64 2):=htb.cell 0
   have x1:w1.cell? ⟨w.heap.size,1,none⟩=some (.int .i64 tl):=htb.cell 1
   have x2:w1.cell? ⟨w.heap.size,2,none⟩=some (.int .i64 tlo):=htb.cell 2
   have x3:w1.cell? ⟨w.heap.size,3,none⟩=some (.int .i64 thi):=htb.cell 3
   have HR:=Hd_ (rv_lit w w1 (2,tl,tlo,thi) HB1.out)
   have HBB:=Hd_ (below_trans HB1.out ((Below.refl w1.heap.size w1).alloc (Nat.le_refl _) (.cells (cEd (2,tl,tlo,thi)).toArray 94)))
   clear hb1 htb e0 e1 e2 e3
   go_wp2_with fail
   go_ret
   exact ⟨_,_,rfl,HR.out,HBB.out⟩
 · have HIN:=Hd_ (fun w=>inverse_any tl w (HL8.out rfl).1 (HL8.out rfl).2)
   have HRV:=Hd_ (show post (revT (.leaf (3,tl,tlo,thi)))=[(3,invLt tl,tlo,thi)] from rfl)
   obtain ⟨il,hil⟩:∃ il,il=invLt tl:=⟨_,rfl⟩
   rw [<- hil] at HIN HRV
   clear hil HL8
   go_enter Tryz.func51,Tryz.ntmps51
   go_wp2_with fail
   refine (HAR.out _).mono ?_
   rintro e w1 ⟨rfl,hb1⟩
   have htb:=HTB.out.keep hb1
   have HB1:=Hd_ (below_trans HAL.out hb1)
   have x0:w1.cell? ⟨w.heap.size,0,none⟩=some (.int .i64 3):=htb.cell 0
   have x1:w1.cell? ⟨w.heap.size,1,none⟩=some (.int .i64 tl):=htb.cell 1
   have x2:w1.cell? ⟨w.heap.size,2,none⟩=some (.int .i64 tlo):=htb.cell 2
   have x3:w1.cell? ⟨w.heap.size,3,none⟩=some (.int .i64 thi):=htb.cell 3
   have f1:=htb.frozen 1
   have hlb:=htb.lt
   have HTB2:=Hd_ (htb.set_ 1 (.int .i64 il))
   have HB2:=Hd_ (HB1.out.setCell (p:=⟨w.heap.size,1,none⟩) (Nat.le_refl _) (.int .i64 il))
   clear hb1 htb e0 e1 e2 e3
   go_wp2_with fail
   refine (HIN.out _).mono ?_
   rintro e w2 ⟨rfl,rfl⟩
   go_upto_region 13 with fail
   generalize w2.setCell ⟨w.heap.size,1,none⟩ (.int .i64 il)=W3 at *
   clear x0 x1 x2 x3 f1 hlb
   have x0:W3.cell? ⟨w.heap.size,0,none⟩=some (.int .i64 3):=HTB2.out.cell 0
   have x1:W3.cell? ⟨w.heap.size,1,none⟩=some (.int .i64 il):=HTB2.out.cell 1
   have x2:W3.cell? ⟨w.heap.size,2,none⟩=some (.int .i64 tlo):=HTB2.out.cell 2
   have x3:W3.cell? ⟨w.heap.size,3,none⟩=some (.int .i64 thi):=HTB2.out.cell 3
   have HR:=Hd_ (rv_lit w W3 (3,il,tlo,thi) HB2.out)
   have HBB:=Hd_ (below_trans HB2.out ((Below.refl W3.heap.size W3).alloc (Nat.le_refl _) (.cells (cEd (3,il,tlo,thi)).toArray 94)))
   go_wp2_with fail
   go_ret
   rw [HRV.out]
   exact ⟨_,_,rfl,HR.out,HBB.out⟩
theorem rv_done {w w8 w9:World} {B0 g2 c2:Nat} {v:Value} {X:List Tok} {t:Tok} (hw:Below w.heap.size w w8) (hB:w.heap.size<=B0) (hr:w8.ownsRow B0 94 4 v X.length (X.flatMap cEd)) (hB8:B0<=w8.heap.size) (hgr:w8.grownBy w9 v.ownBlock)
 (hrow:w9.ownsRow B0 94 4 (.slice (some ⟨g2,0,none⟩) (X.length+1) c2) (X ++ [t]).length ((X ++ [t]).flatMap cEd)) :
 w9.ownsRow w.heap.size 94 4 (.slice (some ⟨g2,0,none⟩) (X ++ [t]).length c2) (X ++ [t]).length ((X ++ [t]).flatMap cEd)/\Below w.heap.size w w9/\Below B0 w8 w9:=by
 have hb:=own_below hr hB8 hgr
 have e:X.length+1=(X ++ [t]).length:=by simp
 rw [e] at hrow
 exact ⟨ownsRow_mono hrow hB,hw.trans (hb.mono hB),hb⟩
set_option maxRecDepth 100000 in
set_option maxHeartbeats 8000000 in
theorem rv_un {t:Tok} {a:Tr} (hok:ar t=some 1) (ih:RvIH a) (ss:Value) (w:World) (hsl:SlE w cEd 4 ss (post (.un t a))) (hlen:(post (.un t a)).length<=1048576) :
 Calls Tryz.prog 51 #[ss] w (RvO (post (revT (.un t a))) w):=by
 have HAR:=Hd_ (fun w=>arI_is hok w)
 have HIH:=Hd_ ih
 obtain ⟨m,hm0⟩:∃ m,m=(post a).length:=⟨_,rfl⟩
 rw [post] at hsl hlen
 have hlq:(post a ++ [t]).length=m+1:=by rw [List.length_append,hm0];rfl
 rw [hlq] at hlen
 have h0:=hsl
 obtain ⟨A,c,rfl,hl,hm,hx⟩:=hsl
 rw [hlq] at hl h0 ⊢
 unfold maxLen at hm
 have hxi:(post a ++ [t])[m]?=some t:=by rw [List.getElem?_append_right (by omega)];simp [hm0]
 obtain ⟨q,o,rfl,-,hq,hcc⟩:=hx _ t hxi
 obtain ⟨tk,tl,tlo,thi⟩:=t
 have e0:=hcc 0 _ rfl
 have e1:=hcc 1 _ rfl
 have e2:=hcc 2 _ rfl
 have e3:=hcc 3 _ rfl
 simp only [Nat.add_zero] at e0
 have HSA:=Hd_ (show SlE w cEd 4 (.slice (some ⟨q,o,none⟩) m c) (post a) from SlI.headT h0 hm0.symm)
 have HPA:=Hd_ (show (post a).length<=1048576 by omega)
 have hmc:m<=c:=by omega
 have hmi:(m:Int)<=(c:Int):=by omega
 obtain ⟨X,hX⟩:∃ X,X=post (revT a):=⟨_,rfl⟩
 have hXl:X.length<=1048576:=by rw [hX,rev_len];omega
 have HX:=Hd_ hX
 have HRV:=Hd_ (show post (revT (.un (tk,tl,tlo,thi) a))=X ++ [(tk,tl,tlo,thi)] by rw [hX];rfl)
 have hal:=(Below.refl w.heap.size w).alloc (Nat.le_refl _) (.cells #[.int .i64 tk,.int .i64 tl,.int .i64 tlo,.int .i64 thi] 94)
 have htb:=Blk.new w 94 #[.int .i64 tk,.int .i64 tl,.int .i64 tlo,.int .i64 thi] _ rfl
 have HAL:=Hd_ hal
 have HTB:=Hd_ htb
 unfold RvIH at HIH
 rw [<- hX] at HIH
 rw [HRV.out]
 clear hx hcc hxi h0 hm0 hlq hok ih hal htb hX HRV
 go_enter Tryz.func51,Tryz.ntmps51
 go_wp2_with fail
 refine (HAR.out _).mono ?_
 rintro e w1 ⟨rfl,hb1⟩
 have HT:=Hd_ (HTB.out.keep hb1)
 have HW:=Hd_ (below_trans HAL.out hb1)
 have htq:w.heap.size < w1.heap.size:=HT.out.lt
 have x0:w1.cell? ⟨w.heap.size,0,none⟩=some (.int .i64 tk):=by exact HT.out.cell 0
 have x1:w1.cell? ⟨w.heap.size,1,none⟩=some (.int .i64 tl):=by exact HT.out.cell 1
 have x2:w1.cell? ⟨w.heap.size,2,none⟩=some (.int .i64 tlo):=by exact HT.out.cell 2
 have x3:w1.cell? ⟨w.heap.size,3,none⟩=some (.int .i64 thi):=by exact HT.out.cell 3
 clear hb1 e0 e1 e2 e3 HTB HAL HAR
 go_wp2_with fail
 refine F_start 7 (fun w'=>w'.cell? ⟨w.heap.size,0,none⟩=some (.int .i64 tk)/\w'.cell? ⟨w.heap.size,1,none⟩=some (.int .i64 tl)/\w'.cell? ⟨w.heap.size,2,none⟩=some (.int .i64 tlo)/\w'.cell? ⟨w.heap.size,3,none⟩=some (.int .i64 thi)) (by kernel_rfl) (by exact ⟨x0,x1,x2,x3⟩) (fun hS inv=>?_)
 refine F_tk 0 inv ?_
 try simp only [tA,tB,tC,Act.put,tE,tF,tG]
 clear inv;intro inv
 refine F_tk 1 inv ?_
 try simp only [tA,tB,tC,Act.put,tE,tF,tG]
 clear inv;intro inv
 refine F_tk 2 inv ?_
 try simp only [tA,tB,tC,Act.put,tE,tF,tG]
 clear inv;intro inv
 refine F_tk 4 inv ?_
 try simp only [tA,tB,tC,Act.put,tE,tF,tG]
 clear inv;intro inv
 have HTD:=Hd_ (HT.out.keep (Below.refl w1.heap.size w1).drew)
 have HWD:=Hd_ (below_trans HW.out (Below.refl w1.heap.size w1).drew)
 have htd:w.heap.size < w1.drew.heap.size:=HTD.out.lt
 clear x0 x1 x2 x3 HT HW
 generalize w1.drew=W at *
 refine F_two (i:=3) (j:=5) (by kernel_rfl) rfl rfl rfl rfl (by omega) inv (fun K hK=>?_) (fun K hK=>?_)
 all_goals (try simp only [tA,tB,tC])
 · skip
   go_simp
   refine (HIH.out _ _ (SlE.keep HSA.out HWD.out) HPA.out).mono ?_
   rintro e w3 ⟨gw3,cw3,rfl,hrow,hb⟩
   have Hw3:=Hd_ hb
   have Rw3:=Hd_ hrow
   clear hrow hb
   have HT3:=Hd_ (HTD.out.keep Hw3.out)
   refine hK.out _ _ (⟨HT3.out.cell 0,HT3.out.cell 1,HT3.out.cell 2,HT3.out.cell 3⟩) (fun _ _=>?_)
   try simp only [tA,tB,tC,Act.put,tE,tF,tG]
   clear hK K inv hS;rename_i hS inv
   refine F_o1 5 inv ?_;intro K hK
   try simp only [tA,tB,tC]
   go_simp
   have HT4:=Hd_ (HT3.out.alloc (.cells #[.int .i64 tk,.int .i64 tl,.int .i64 tlo,.int .i64 thi] 94))
   have hba:=(Below.refl w3.heap.size w3).alloc (Nat.le_refl _) (.cells #[.int .i64 tk,.int .i64 tl,.int .i64 tlo,.int .i64 thi] 94)
   have HBA:=Hd_ hba
   have HNL:=Hd_ (heap_alloc_new w3 (.cells (cEd (tk,tl,tlo,thi)).toArray 94))
   have hs4:W.heap.size<=(w3.alloc (.cells #[.int .i64 tk,.int .i64 tl,.int .i64 tlo,.int .i64 thi] 94)).heap.size:=Nat.le_trans Hw3.out.size hba.size
   clear hba
   refine hK.out _ _ (⟨HT4.out.cell 0,HT4.out.cell 1,HT4.out.cell 2,HT4.out.cell 3⟩) (fun _ _=>?_)
   try simp only [tA,tB,tC,Act.put,tE,tF,tG]
   clear hK K inv hS;rename_i hS inv
   refine F_o1 6 inv ?_;intro K hK
   try simp only [tA,tB,tC]
   refine op_append1 cEd elTok rfl _ _ (by rfl) W.heap.size _ X (tk,tl,tlo,thi) 1 _ (by rfl) (Rw3.out.alloc _) (by rfl) HNL.out rfl (cEd_one _) (by omega) (by omega) hs4 ?_
   intro g2 cp2 w9 hown9 hgr9 hat9 hlt9
   have HD:=Hd_ (rv_done (below_trans (below_trans HWD.out Hw3.out) HBA.out) HWD.out.size (Rw3.out.alloc _) hs4 hgr9 hown9)
   have HT9:=Hd_ (HT4.out.below HD.out.2.2 htd)
   clear hown9 hgr9 hat9 hlt9
   refine hK.out _ _ (⟨HT9.out.cell 0,HT9.out.cell 1,HT9.out.cell 2,HT9.out.cell 3⟩) (fun _ _=>?_)
   try simp only [tA,tB,tC,Act.put,tE,tF,tG]
   clear hK K inv hS;rename_i hS inv
   refine F_l1 7 ?_;intro K hK
   go_simp
   refine hK _ _ ?_
   clear hK K
   go_wp2_with fail
   go_ret
   exact ⟨g2,cp2,by simp,HD.out.1,HD.out.2.1⟩
 · skip
   go_simp
   have HT3:=Hd_ (HTD.out.alloc (.cells #[.int .i64 tk,.int .i64 tl,.int .i64 tlo,.int .i64 thi] 94))
   have HBL:=Hd_ (Blk.new W 94 (cEd (tk,tl,tlo,thi)).toArray _ rfl)
   have HWA:=Hd_ (below_trans HWD.out ((Below.refl W.heap.size W).alloc (Nat.le_refl _) (.cells #[.int .i64 tk,.int .i64 tl,.int .i64 tlo,.int .i64 thi] 94)))
   refine hK.out _ _ (⟨HT3.out.cell 0,HT3.out.cell 1,HT3.out.cell 2,HT3.out.cell 3⟩) (fun _ _=>?_)
   try simp only [tA,tB,tC,Act.put,tE,tF,tG]
   clear hK K inv hS;rename_i hS inv
   refine F_o1 3 inv ?_;intro K hK
   try simp only [tA,tB,tC]
   go_simp
   refine (HIH.out _ _ (SlE.keep HSA.out HWA.out) HPA.out).mono ?_
   rintro e w3 ⟨gw3,cw3,rfl,hrow,hb⟩
   have Hw3:=Hd_ hb
   have Rw3:=Hd_ hrow
   clear hrow hb
   have HT4:=Hd_ (HT3.out.keep Hw3.out)
   have HBL4:=Hd_ (HBL.out.keep Hw3.out)
   refine hK.out _ _ (⟨HT4.out.cell 0,HT4.out.cell 1,HT4.out.cell 2,HT4.out.cell 3⟩) (fun _ _=>?_)
   try simp only [tA,tB,tC,Act.put,tE,tF,tG]
   clear hK K inv hS;rename_i hS inv
   refine F_o1 6 inv ?_;intro K hK
   try simp only [tA,tB,tC]
   refine op_append1 cEd elTok rfl _ _ (by rfl) _ _ X (tk,tl,tlo,thi) 1 _ (by rfl) Rw3.out (by rfl) HBL4.out rfl (cEd_one _) (by omega) (by omega) Hw3.out.size ?_
   intro g2 cp2 w9 hown9 hgr9 hat9 hlt9
   have HD:=Hd_ (rv_done (below_trans HWA.out Hw3.out) HWA.out.size Rw3.out Hw3.out.size hgr9 hown9)
   have HT9:=Hd_ (HT4.out.below HD.out.2.2 (HT3.out.lt))
   clear hown9 hgr9 hat9 hlt9
   refine hK.out _ _ (⟨HT9.out.cell 0,HT9.out.cell 1,HT9.out.cell 2,HT9.out.cell 3⟩) (fun _ _=>?_)
   try simp only [tA,tB,tC,Act.put,tE,tF,tG]
   clear hK K inv hS;rename_i hS inv
   refine F_l1 7 ?_;intro K hK
   go_simp
   refine hK _ _ ?_
   clear hK K
   go_wp2_with fail
   go_ret
   exact ⟨g2,cp2,by simp,HD.out.1,HD.out.2.1⟩
set_option maxRecDepth 100000 in
set_option maxHeartbeats 16000000 in
theorem rv_bin {t:Tok} {a d:Tr} (hok:ar t=some 2) (hrd:d.ok) (iha:RvIH a) (ihd:RvIH d) (ss:Value) (w:World) (hsl:SlE w cEd 4 ss (post (.bin t a d))) (hlen:(post (.bin t a d)).length<=1048576) :
 Calls Tryz.prog 51 #[ss] w (RvO (post (revT (.bin t a d))) w):=by
 have hk:=ar_two hok
 have HAR:=Hd_ (fun w=>arI_is hok w)
 have HIA:=Hd_ iha
 have HID:=Hd_ ihd
 obtain ⟨m,hm0⟩:∃ m,m=(post a).length:=⟨_,rfl⟩
 obtain ⟨j,hj0⟩:∃ j,j=(post d).length:=⟨_,rfl⟩
 have hj1:0 < j:=by rw [hj0];exact post_pos d
 rw [post] at hsl hlen
 have hlq:((post a ++ post d) ++ [t]).length=m+j+1:=by rw [List.length_append,List.length_append,hm0,hj0];rfl
 rw [hlq] at hlen
 have h0:=hsl
 obtain ⟨A,c,rfl,hl,hm,hx⟩:=hsl
 rw [hlq] at hl h0 ⊢
 unfold maxLen at hm
 have hxi:((post a ++ post d) ++ [t])[m+j]?=some t:=by rw [List.getElem?_append_right (by simp [hm0,hj0])];simp [hm0,hj0]
 obtain ⟨q,o,rfl,-,hq,hcc⟩:=hx _ t hxi
 obtain ⟨tk,tl,tlo,thi⟩:=t
 simp only at hk
 have e0:=hcc 0 _ rfl
 have e1:=hcc 1 _ rfl
 have e2:=hcc 2 _ rfl
 have e3:=hcc 3 _ rfl
 simp only [Nat.add_zero] at e0
 have h1:SlE w cEd 4 (.slice (some ⟨q,o,none⟩) (m+j) c) (post a ++ post d):=SlI.headT h0 (by simp [hm0,hj0])
 have HSA:=Hd_ (show SlE w cEd 4 (.slice (some ⟨q,o,none⟩) m c) (post a) from SlI.headT h1 hm0.symm)
 have HSB:=Hd_ (show SlE w cEd 4 (.slice (some ⟨q,o+m * 4,none⟩) j (c - m)) (post d) from SlI.tailT h1 hm0.symm hj0.symm rfl)
 have HST:=Hd_ (fun (W:World) (hW:Below w.heap.size w W)=>l8Start_any _ (post a) d W (h1.keep hW) hrd (by simp [<- hm0,<- hj0];omega))
 rw [<- hm0] at HST
 have HPA:=Hd_ (show (post a).length<=1048576 by omega)
 have HPD:=Hd_ (show (post d).length<=1048576 by omega)
 have hmc:¬ c=m:=by omega
 have hm1:m<=c:=by omega
 have hm2:m+j<=c:=by omega
 have hm3:(m:Int)<=(m:Int)+(j:Int):=by omega
 have hm4:m<=m+j:=by omega
 have hm5:(0:Int)<=(m:Int)+(j:Int):=by omega
 have hm6:(m:Int)+(j:Int)<=(c:Int):=by omega
 have hm7:((m:Int)+(j:Int)).toNat=m+j:=by omega
 have hm8:m+j - m=j:=by omega
 obtain ⟨X,hX⟩:∃ X,X=post (revT a):=⟨_,rfl⟩
 obtain ⟨Y,hY⟩:∃ Y,Y=post (revT d):=⟨_,rfl⟩
 have hXl:X.length<=1048576:=by rw [hX,rev_len];omega
 have hYl:Y.length<=1048576:=by rw [hY,rev_len];omega
 have HX:=Hd_ hX
 have HY:=Hd_ hY
 have hal:=(Below.refl w.heap.size w).alloc (Nat.le_refl _) (.cells #[.int .i64 tk,.int .i64 tl,.int .i64 tlo,.int .i64 thi] 94)
 have htb:=Blk.new w 94 #[.int .i64 tk,.int .i64 tl,.int .i64 tlo,.int .i64 thi] _ rfl
 have HAL:=Hd_ hal
 have HTB:=Hd_ htb
 unfold RvIH at HIA HID
 rw [<- hX] at HIA
 rw [<- hY] at HID
 clear hx hcc hxi h0 h1 hm0 hj0 hlq hok iha ihd hrd hal htb hX hY
 rcases hk with hk | hk
 · rw [show post (revT (.bin (tk,tl,tlo,thi) a d))=(Y ++ X) ++ [(tk,tl,tlo,thi)] by rw [HX.out,HY.out,revT,if_pos (show (tk,tl,tlo,thi).1=4 from hk)];rfl]
   have hk4:(tk==4)=true:=by simp [hk]
   clear hk
   go_enter Tryz.func51,Tryz.ntmps51
   go_wp2_with fail
   refine (HAR.out _).mono ?_
   rintro e w1 ⟨rfl,hb1⟩
   have HT:=Hd_ (HTB.out.keep hb1)
   have HW:=Hd_ (below_trans HAL.out hb1)
   have htq:w.heap.size < w1.heap.size:=HT.out.lt
   have x0:w1.cell? ⟨w.heap.size,0,none⟩=some (.int .i64 tk):=by exact HT.out.cell 0
   have x1:w1.cell? ⟨w.heap.size,1,none⟩=some (.int .i64 tl):=by exact HT.out.cell 1
   have x2:w1.cell? ⟨w.heap.size,2,none⟩=some (.int .i64 tlo):=by exact HT.out.cell 2
   have x3:w1.cell? ⟨w.heap.size,3,none⟩=some (.int .i64 thi):=by exact HT.out.cell 3
   clear hb1 e0 e1 e2 e3 HTB HAL HAR
   go_wp2_with fail
   refine (HST.out _ HW.out).mono ?_
   rintro e w2 ⟨rfl,hb2⟩
   have HT:=Hd_ (HT.out.keep hb2)
   have HW:=Hd_ (below_trans HW.out hb2)
   have x0:=kcell hb2 x0
   have x1:=kcell hb2 x1
   have x2:=kcell hb2 x2
   have x3:=kcell hb2 x3
   clear hb2 HST
   go_wp2_with fail
   refine F_start 13 (fun w'=>w'.cell? ⟨w.heap.size,0,none⟩=some (.int .i64 tk)/\w'.cell? ⟨w.heap.size,1,none⟩=some (.int .i64 tl)/\w'.cell? ⟨w.heap.size,2,none⟩=some (.int .i64 tlo)/\w'.cell? ⟨w.heap.size,3,none⟩=some (.int .i64 thi)) (by kernel_rfl) (by exact ⟨x0,x1,x2,x3⟩) (fun hS inv=>?_)
   refine F_tk 0 inv ?_
   try simp only [tA,tB,tC,Act.put,tE,tF,tG]
   clear inv;intro inv
   refine F_tk 1 inv ?_
   try simp only [tA,tB,tC,Act.put,tE,tF,tG]
   clear inv;intro inv
   refine F_tk 2 inv ?_
   try simp only [tA,tB,tC,Act.put,tE,tF,tG]
   clear inv;intro inv
   refine F_tk 3 inv ?_
   try simp only [tA,tB,tC,Act.put,tE,tF,tG]
   clear inv;intro inv
   refine F_tk 5 inv ?_
   try simp only [tA,tB,tC,Act.put,tE,tF,tG]
   clear inv;intro inv
   refine F_tk 6 inv ?_
   try simp only [tA,tB,tC,Act.put,tE,tF,tG]
   clear inv;intro inv
   refine F_tk 7 inv ?_
   try simp only [tA,tB,tC,Act.put,tE,tF,tG]
   clear inv;intro inv
   refine F_tk 10 inv ?_
   try simp only [tA,tB,tC,Act.put,tE,tF,tG]
   clear inv;intro inv
   have HTD:=Hd_ (HT.out.keep (Below.refl w2.heap.size w2).drew)
   have HWD:=Hd_ (below_trans HW.out (Below.refl w2.heap.size w2).drew)
   have htd:w.heap.size < w2.drew.heap.size:=HTD.out.lt
   clear x0 x1 x2 x3 HT HW
   generalize w2.drew=W at *
   refine F_two (i:=4) (j:=11) (by kernel_rfl) rfl rfl rfl rfl (by omega) inv (fun K hK=>?_) (fun K hK=>?_)
   all_goals (try simp only [tA,tB,tC])
   · skip
     go_simp
     refine (HID.out _ _ (SlE.keep HSB.out HWD.out) HPD.out).mono ?_
     rintro e wa ⟨ga,ca,rfl,hrow,hb1⟩
     have Ha:=Hd_ hb1
     have Ra:=Hd_ hrow
     have HTa:=Hd_ (HTD.out.keep hb1)
     have HWa:=Hd_ (below_trans HWD.out hb1)
     clear hrow hb1
     refine hK.out _ _ (⟨HTa.out.cell 0,HTa.out.cell 1,HTa.out.cell 2,HTa.out.cell 3⟩) (fun _ _=>?_)
     try simp only [tA,tB,tC,Act.put,tE,tF,tG]
     clear hK K inv hS;rename_i hS inv
     refine F_two (i:=8) (j:=11) (by kernel_rfl) rfl rfl rfl rfl (by omega) inv (fun K hK=>?_) (fun K hK=>?_)
     all_goals (try simp only [tA,tB,tC])
     · skip
       go_simp
       refine (HIA.out _ _ (SlE.keep HSA.out HWa.out) HPA.out).mono ?_
       rintro e wb ⟨gb,cb,rfl,hrow,hb2⟩
       have Hb:=Hd_ hb2
       have Yb:=Hd_ (((Own.of_row (xs:=X) hrow rfl rfl).sl cEd_len).mono (Nat.zero_le _) (Nat.le_refl _))
       have HTb:=Hd_ (HTa.out.keep hb2)
       have HWb:=Hd_ (below_trans HWa.out hb2)
       clear hrow hb2
       refine hK.out _ _ (⟨HTb.out.cell 0,HTb.out.cell 1,HTb.out.cell 2,HTb.out.cell 3⟩) (fun _ _=>?_)
       try simp only [tA,tB,tC,Act.put,tE,tF,tG]
       clear hK K inv hS;rename_i hS inv
       have Rb:=Hd_ (ownsRow_below Ra.out Hb.out (Nat.le_refl _))
       have hsb:W.heap.size<=wb.heap.size:=Nat.le_trans Ha.out.size Hb.out.size
       refine F_two (i:=9) (j:=11) (by kernel_rfl) rfl rfl rfl rfl (by omega) inv (fun K hK=>?_) (fun K hK=>?_)
       all_goals (try simp only [tA,tB,tC])
       · skip
         refine op_appendL cEd elTok cEd_len cEd_one _ _ rfl W.heap.size _ Y X (by rfl) (Rb.out) 0 _ _ (by rfl) (Yb.out) (by omega) (by omega) (hsb) ?_
         intro v5 w5 hrow5 hgr5 hat5
         obtain ⟨A5,n5,c5,rfl⟩:=rowShape hrow5
         have hob5:=own_below (Rb.out) (hsb) hgr5
         have HO5:=Hd_ hob5
         have HR5:=Hd_ hrow5
         have HG5:=Hd_ hgr5
         have HT5:=Hd_ (HTb.out.below hob5 (htd))
         have HW5:=Hd_ (HWb.out.trans (hob5.mono HWD.out.size))
         clear hrow5 hgr5 hat5 hob5
         refine hK.out _ _ (⟨HT5.out.cell 0,HT5.out.cell 1,HT5.out.cell 2,HT5.out.cell 3⟩) (fun _ _=>?_)
         try simp only [tA,tB,tC,Act.put,tE,tF,tG]
         clear hK K inv hS;rename_i hS inv
         refine F_o1 11 inv ?_;intro K hK
         try simp only [tA,tB,tC]
         go_simp
         have HTL:=Hd_ (HT5.out.alloc (.cells #[.int .i64 tk,.int .i64 tl,.int .i64 tlo,.int .i64 thi] 94))
         have HBL:=Hd_ (show Blk ((w5).alloc (.cells #[.int .i64 tk,.int .i64 tl,.int .i64 tlo,.int .i64 thi] 94)) (w5).heap.size 94 (cEd (tk,tl,tlo,thi)).toArray from Blk.new w5 94 (cEd (tk,tl,tlo,thi)).toArray _ rfl)
         have HAB:=Hd_ ((Below.refl (w5).heap.size w5).alloc (Nat.le_refl _) (.cells #[.int .i64 tk,.int .i64 tl,.int .i64 tlo,.int .i64 thi] 94))
         obtain ⟨Wl,hWl⟩:∃ Wl,Wl=(w5).alloc (.cells #[.int .i64 tk,.int .i64 tl,.int .i64 tlo,.int .i64 thi] 94):=⟨_,rfl⟩
         obtain ⟨hb,hhb⟩:∃ hb,hb=(w5).heap.size:=⟨_,rfl⟩
         have HHB:=Hd_ hhb
         rw [<- hhb] at HBL ⊢
         rw [<- hWl] at HTL HBL HAB ⊢
         clear hWl hhb
         refine hK.out _ _ (⟨HTL.out.cell 0,HTL.out.cell 1,HTL.out.cell 2,HTL.out.cell 3⟩) (fun _ _=>?_)
         try simp only [tA,tB,tC,Act.put,tE,tF,tG]
         clear hK K inv hS;rename_i hS inv
         have hs5:W.heap.size<=Wl.heap.size:=Nat.le_trans hsb (Nat.le_trans HO5.out.size HAB.out.size)
         refine F_o1 12 inv ?_;intro K hK
         try simp only [tA,tB,tC]
         refine op_append1 cEd elTok rfl _ _ (by rfl) W.heap.size _ (Y ++ X) (tk,tl,tlo,thi) 1 _ (by rfl) (ownsRow_below HR5.out HAB.out (Nat.le_refl _)) (by rfl) (HBL.out) rfl (cEd_one _) (by rw [List.length_append];omega) (by omega) (hs5) ?_
         intro g2 cp2 w9 hown9 hgr9 hat9 hlt9
         have HD:=Hd_ (rv_done (below_trans HW5.out HAB.out) (HWD.out.size) (ownsRow_below HR5.out HAB.out (Nat.le_refl _)) (hs5) hgr9 hown9)
         have HT9:=Hd_ (HTL.out.below HD.out.2.2 (htd))
         clear hown9 hgr9 hat9 hlt9
         refine hK.out _ _ (⟨HT9.out.cell 0,HT9.out.cell 1,HT9.out.cell 2,HT9.out.cell 3⟩) (fun _ _=>?_)
         try simp only [tA,tB,tC,Act.put,tE,tF,tG]
         clear hK K inv hS;rename_i hS inv
         refine F_l1 13 ?_;intro K hK
         go_simp
         refine hK _ _ ?_
         clear hK K
         go_wp2_with fail
         go_ret
         exact ⟨g2,cp2,by simp <;> omega,HD.out.1,HD.out.2.1⟩
       · skip
         go_simp
         have HTL:=Hd_ (HTb.out.alloc (.cells #[.int .i64 tk,.int .i64 tl,.int .i64 tlo,.int .i64 thi] 94))
         have HBL:=Hd_ (show Blk ((wb).alloc (.cells #[.int .i64 tk,.int .i64 tl,.int .i64 tlo,.int .i64 thi] 94)) (wb).heap.size 94 (cEd (tk,tl,tlo,thi)).toArray from Blk.new wb 94 (cEd (tk,tl,tlo,thi)).toArray _ rfl)
         have HAB:=Hd_ ((Below.refl (wb).heap.size wb).alloc (Nat.le_refl _) (.cells #[.int .i64 tk,.int .i64 tl,.int .i64 tlo,.int .i64 thi] 94))
         obtain ⟨Wl,hWl⟩:∃ Wl,Wl=(wb).alloc (.cells #[.int .i64 tk,.int .i64 tl,.int .i64 tlo,.int .i64 thi] 94):=⟨_,rfl⟩
         obtain ⟨hb,hhb⟩:∃ hb,hb=(wb).heap.size:=⟨_,rfl⟩
         have HHB:=Hd_ hhb
         rw [<- hhb] at HBL ⊢
         rw [<- hWl] at HTL HBL HAB ⊢
         clear hWl hhb
         refine hK.out _ _ (⟨HTL.out.cell 0,HTL.out.cell 1,HTL.out.cell 2,HTL.out.cell 3⟩) (fun _ _=>?_)
         try simp only [tA,tB,tC,Act.put,tE,tF,tG]
         clear hK K inv hS;rename_i hS inv
         have hs5:W.heap.size<=Wl.heap.size:=Nat.le_trans hsb HAB.out.size
         have Rl:=Hd_ (ownsRow_below Rb.out HAB.out (Nat.le_refl _))
         have Yl:=Hd_ (SlE.keep Yb.out HAB.out)
         have hga:ga < wb.heap.size:=(Rb.out.lt ga rfl).2
         have hga2:ga < hb:=by rw [HHB.out];exact hga
         have hbl:hb < Wl.heap.size:=HBL.out.lt
         refine F_o1 9 inv ?_;intro K hK
         try simp only [tA,tB,tC]
         refine op_appendL cEd elTok cEd_len cEd_one _ _ rfl W.heap.size _ Y X (by rfl) (Rl.out) 0 _ _ (by rfl) (Yl.out) (by omega) (by omega) (hs5) ?_
         intro v5 w5 hrow5 hgr5 hat5
         obtain ⟨A5,n5,c5,rfl⟩:=rowShape hrow5
         have hob5:=own_below (Rl.out) (hs5) hgr5
         have HO5:=Hd_ hob5
         have HR5:=Hd_ hrow5
         have HG5:=Hd_ hgr5
         have HT5:=Hd_ (HTL.out.below hob5 (htd))
         have HW5:=Hd_ ((below_trans HWb.out HAB.out).trans (hob5.mono HWD.out.size))
         clear hrow5 hgr5 hat5 hob5
         refine hK.out _ _ (⟨HT5.out.cell 0,HT5.out.cell 1,HT5.out.cell 2,HT5.out.cell 3⟩) (fun _ _=>?_)
         try simp only [tA,tB,tC,Act.put,tE,tF,tG]
         clear hK K inv hS;rename_i hS inv
         have HBL5:=Hd_ ((HG5.out.block hb hbl (fun e=>absurd (Option.some.inj (show some hb=some ga from e)) (by omega))).trans HBL.out)
         have hs6:W.heap.size<=w5.heap.size:=Nat.le_trans hs5 HO5.out.size
         refine F_o1 12 inv ?_;intro K hK
         try simp only [tA,tB,tC]
         refine op_append1 cEd elTok rfl _ _ (by rfl) W.heap.size _ (Y ++ X) (tk,tl,tlo,thi) 1 _ (by rfl) (HR5.out) (by rfl) (HBL5.out) rfl (cEd_one _) (by rw [List.length_append];omega) (by omega) (hs6) ?_
         intro g2 cp2 w9 hown9 hgr9 hat9 hlt9
         have HD:=Hd_ (rv_done (HW5.out) (HWD.out.size) (HR5.out) (hs6) hgr9 hown9)
         have HT9:=Hd_ (HT5.out.below HD.out.2.2 (htd))
         clear hown9 hgr9 hat9 hlt9
         refine hK.out _ _ (⟨HT9.out.cell 0,HT9.out.cell 1,HT9.out.cell 2,HT9.out.cell 3⟩) (fun _ _=>?_)
         try simp only [tA,tB,tC,Act.put,tE,tF,tG]
         clear hK K inv hS;rename_i hS inv
         refine F_l1 13 ?_;intro K hK
         go_simp
         refine hK _ _ ?_
         clear hK K
         go_wp2_with fail
         go_ret
         exact ⟨g2,cp2,by simp <;> omega,HD.out.1,HD.out.2.1⟩
     · skip
       go_simp
       have HTL:=Hd_ (HTa.out.alloc (.cells #[.int .i64 tk,.int .i64 tl,.int .i64 tlo,.int .i64 thi] 94))
       have HBL:=Hd_ (show Blk ((wa).alloc (.cells #[.int .i64 tk,.int .i64 tl,.int .i64 tlo,.int .i64 thi] 94)) (wa).heap.size 94 (cEd (tk,tl,tlo,thi)).toArray from Blk.new wa 94 (cEd (tk,tl,tlo,thi)).toArray _ rfl)
       have HAB:=Hd_ ((Below.refl (wa).heap.size wa).alloc (Nat.le_refl _) (.cells #[.int .i64 tk,.int .i64 tl,.int .i64 tlo,.int .i64 thi] 94))
       obtain ⟨Wl,hWl⟩:∃ Wl,Wl=(wa).alloc (.cells #[.int .i64 tk,.int .i64 tl,.int .i64 tlo,.int .i64 thi] 94):=⟨_,rfl⟩
       obtain ⟨hb,hhb⟩:∃ hb,hb=(wa).heap.size:=⟨_,rfl⟩
       have HHB:=Hd_ hhb
       rw [<- hhb] at HBL ⊢
       rw [<- hWl] at HTL HBL HAB ⊢
       clear hWl hhb
       refine hK.out _ _ (⟨HTL.out.cell 0,HTL.out.cell 1,HTL.out.cell 2,HTL.out.cell 3⟩) (fun _ _=>?_)
       try simp only [tA,tB,tC,Act.put,tE,tF,tG]
       clear hK K inv hS;rename_i hS inv
       have hga:ga < wa.heap.size:=(Ra.out.lt ga rfl).2
       have hga2:ga < hb:=by rw [HHB.out];exact hga
       have Rl:=Hd_ (ownsRow_below Ra.out HAB.out (Nat.le_refl _))
       have HWl:=Hd_ (below_trans HWa.out HAB.out)
       refine F_o1 8 inv ?_;intro K hK
       try simp only [tA,tB,tC]
       go_simp
       refine (HIA.out _ _ (SlE.keep HSA.out HWl.out) HPA.out).mono ?_
       rintro e wb ⟨gb,cb,rfl,hrow,hb2⟩
       have Hb:=Hd_ hb2
       have Yb:=Hd_ (((Own.of_row (xs:=X) hrow rfl rfl).sl cEd_len).mono (Nat.zero_le _) (Nat.le_refl _))
       have HTb:=Hd_ (HTL.out.keep hb2)
       have HWb:=Hd_ (below_trans HWl.out hb2)
       clear hrow hb2
       refine hK.out _ _ (⟨HTb.out.cell 0,HTb.out.cell 1,HTb.out.cell 2,HTb.out.cell 3⟩) (fun _ _=>?_)
       try simp only [tA,tB,tC,Act.put,tE,tF,tG]
       clear hK K inv hS;rename_i hS inv
       have Rb:=Hd_ (ownsRow_below Rl.out Hb.out (Nat.le_refl _))
       have HBLb:=Hd_ (HBL.out.keep Hb.out)
       have hsb:W.heap.size<=wb.heap.size:=Nat.le_trans Ha.out.size (Nat.le_trans HAB.out.size Hb.out.size)
       have hbl:hb < wb.heap.size:=HBLb.out.lt
       refine F_o1 9 inv ?_;intro K hK
       try simp only [tA,tB,tC]
       refine op_appendL cEd elTok cEd_len cEd_one _ _ rfl W.heap.size _ Y X (by rfl) (Rb.out) 0 _ _ (by rfl) (Yb.out) (by omega) (by omega) (hsb) ?_
       intro v5 w5 hrow5 hgr5 hat5
       obtain ⟨A5,n5,c5,rfl⟩:=rowShape hrow5
       have hob5:=own_below (Rb.out) (hsb) hgr5
       have HO5:=Hd_ hob5
       have HR5:=Hd_ hrow5
       have HG5:=Hd_ hgr5
       have HT5:=Hd_ (HTb.out.below hob5 (htd))
       have HW5:=Hd_ (HWb.out.trans (hob5.mono HWD.out.size))
       clear hrow5 hgr5 hat5 hob5
       refine hK.out _ _ (⟨HT5.out.cell 0,HT5.out.cell 1,HT5.out.cell 2,HT5.out.cell 3⟩) (fun _ _=>?_)
       try simp only [tA,tB,tC,Act.put,tE,tF,tG]
       clear hK K inv hS;rename_i hS inv
       have HBL5:=Hd_ ((HG5.out.block hb hbl (fun e=>absurd (Option.some.inj (show some hb=some ga from e)) (by omega))).trans HBLb.out)
       have hs6:W.heap.size<=w5.heap.size:=Nat.le_trans hsb HO5.out.size
       refine F_o1 12 inv ?_;intro K hK
       try simp only [tA,tB,tC]
       refine op_append1 cEd elTok rfl _ _ (by rfl) W.heap.size _ (Y ++ X) (tk,tl,tlo,thi) 1 _ (by rfl) (HR5.out) (by rfl) (HBL5.out) rfl (cEd_one _) (by rw [List.length_append];omega) (by omega) (hs6) ?_
       intro g2 cp2 w9 hown9 hgr9 hat9 hlt9
       have HD:=Hd_ (rv_done (HW5.out) (HWD.out.size) (HR5.out) (hs6) hgr9 hown9)
       have HT9:=Hd_ (HT5.out.below HD.out.2.2 (htd))
       clear hown9 hgr9 hat9 hlt9
       refine hK.out _ _ (⟨HT9.out.cell 0,HT9.out.cell 1,HT9.out.cell 2,HT9.out.cell 3⟩) (fun _ _=>?_)
       try simp only [tA,tB,tC,Act.put,tE,tF,tG]
       clear hK K inv hS;rename_i hS inv
       refine F_l1 13 ?_;intro K hK
       go_simp
       refine hK _ _ ?_
       clear hK K
       go_wp2_with fail
       go_ret
       exact ⟨g2,cp2,by simp <;> omega,HD.out.1,HD.out.2.1⟩
   · skip
     go_simp
     have HTL:=Hd_ (HTD.out.alloc (.cells #[.int .i64 tk,.int .i64 tl,.int .i64 tlo,.int .i64 thi] 94))
     have HBL:=Hd_ (show Blk ((W).alloc (.cells #[.int .i64 tk,.int .i64 tl,.int .i64 tlo,.int .i64 thi] 94)) (W).heap.size 94 (cEd (tk,tl,tlo,thi)).toArray from Blk.new W 94 (cEd (tk,tl,tlo,thi)).toArray _ rfl)
     have HAB:=Hd_ ((Below.refl (W).heap.size W).alloc (Nat.le_refl _) (.cells #[.int .i64 tk,.int .i64 tl,.int .i64 tlo,.int .i64 thi] 94))
     obtain ⟨Wl,hWl⟩:∃ Wl,Wl=(W).alloc (.cells #[.int .i64 tk,.int .i64 tl,.int .i64 tlo,.int .i64 thi] 94):=⟨_,rfl⟩
     obtain ⟨hb,hhb⟩:∃ hb,hb=(W).heap.size:=⟨_,rfl⟩
     have HHB:=Hd_ hhb
     rw [<- hhb] at HBL ⊢
     rw [<- hWl] at HTL HBL HAB ⊢
     clear hWl hhb
     refine hK.out _ _ (⟨HTL.out.cell 0,HTL.out.cell 1,HTL.out.cell 2,HTL.out.cell 3⟩) (fun _ _=>?_)
     try simp only [tA,tB,tC,Act.put,tE,tF,tG]
     clear hK K inv hS;rename_i hS inv
     have HWl:=Hd_ (below_trans HWD.out HAB.out)
     have htl:w.heap.size < Wl.heap.size:=HTL.out.lt
     have hbl0:hb < Wl.heap.size:=HBL.out.lt
     refine F_o1 4 inv ?_;intro K hK
     try simp only [tA,tB,tC]
     go_simp
     refine (HID.out _ _ (SlE.keep HSB.out HWl.out) HPD.out).mono ?_
     rintro e wa ⟨ga,ca,rfl,hrow,hb1⟩
     have Ha:=Hd_ hb1
     have Ra:=Hd_ hrow
     have HTa:=Hd_ (HTL.out.keep hb1)
     have HWa:=Hd_ (below_trans HWl.out hb1)
     clear hrow hb1
     refine hK.out _ _ (⟨HTa.out.cell 0,HTa.out.cell 1,HTa.out.cell 2,HTa.out.cell 3⟩) (fun _ _=>?_)
     try simp only [tA,tB,tC,Act.put,tE,tF,tG]
     clear hK K inv hS;rename_i hS inv
     have HBLa:=Hd_ (HBL.out.keep Ha.out)
     have hga:Wl.heap.size<=ga:=(Ra.out.lt ga rfl).1
     refine F_o1 8 inv ?_;intro K hK
     try simp only [tA,tB,tC]
     go_simp
     refine (HIA.out _ _ (SlE.keep HSA.out HWa.out) HPA.out).mono ?_
     rintro e wb ⟨gb,cb,rfl,hrow,hb2⟩
     have Hb:=Hd_ hb2
     have Yb:=Hd_ (((Own.of_row (xs:=X) hrow rfl rfl).sl cEd_len).mono (Nat.zero_le _) (Nat.le_refl _))
     have HTb:=Hd_ (HTa.out.keep hb2)
     have HWb:=Hd_ (below_trans HWa.out hb2)
     clear hrow hb2
     refine hK.out _ _ (⟨HTb.out.cell 0,HTb.out.cell 1,HTb.out.cell 2,HTb.out.cell 3⟩) (fun _ _=>?_)
     try simp only [tA,tB,tC,Act.put,tE,tF,tG]
     clear hK K inv hS;rename_i hS inv
     have Rb:=Hd_ (ownsRow_below Ra.out Hb.out (Nat.le_refl _))
     have HBLb:=Hd_ (HBLa.out.keep Hb.out)
     have hsb:Wl.heap.size<=wb.heap.size:=Nat.le_trans Ha.out.size Hb.out.size
     have hbl:hb < wb.heap.size:=HBLb.out.lt
     refine F_o1 9 inv ?_;intro K hK
     try simp only [tA,tB,tC]
     refine op_appendL cEd elTok cEd_len cEd_one _ _ rfl Wl.heap.size _ Y X (by rfl) (Rb.out) 0 _ _ (by rfl) (Yb.out) (by omega) (by omega) (hsb) ?_
     intro v5 w5 hrow5 hgr5 hat5
     obtain ⟨A5,n5,c5,rfl⟩:=rowShape hrow5
     have hob5:=own_below (Rb.out) (hsb) hgr5
     have HO5:=Hd_ hob5
     have HR5:=Hd_ hrow5
     have HG5:=Hd_ hgr5
     have HT5:=Hd_ (HTb.out.below hob5 (htl))
     have HW5:=Hd_ (HWb.out.trans (hob5.mono HWl.out.size))
     clear hrow5 hgr5 hat5 hob5
     refine hK.out _ _ (⟨HT5.out.cell 0,HT5.out.cell 1,HT5.out.cell 2,HT5.out.cell 3⟩) (fun _ _=>?_)
     try simp only [tA,tB,tC,Act.put,tE,tF,tG]
     clear hK K inv hS;rename_i hS inv
     have HBL5:=Hd_ ((HG5.out.block hb hbl (fun e=>absurd (Option.some.inj (show some hb=some ga from e)) (by omega))).trans HBLb.out)
     have hs6:Wl.heap.size<=w5.heap.size:=Nat.le_trans hsb HO5.out.size
     refine F_o1 12 inv ?_;intro K hK
     try simp only [tA,tB,tC]
     refine op_append1 cEd elTok rfl _ _ (by rfl) Wl.heap.size _ (Y ++ X) (tk,tl,tlo,thi) 1 _ (by rfl) (HR5.out) (by rfl) (HBL5.out) rfl (cEd_one _) (by rw [List.length_append];omega) (by omega) (hs6) ?_
     intro g2 cp2 w9 hown9 hgr9 hat9 hlt9
     have HD:=Hd_ (rv_done (HW5.out) (HWl.out.size) (HR5.out) (hs6) hgr9 hown9)
     have HT9:=Hd_ (HT5.out.below HD.out.2.2 (htl))
     clear hown9 hgr9 hat9 hlt9
     refine hK.out _ _ (⟨HT9.out.cell 0,HT9.out.cell 1,HT9.out.cell 2,HT9.out.cell 3⟩) (fun _ _=>?_)
     try simp only [tA,tB,tC,Act.put,tE,tF,tG]
     clear hK K inv hS;rename_i hS inv
     refine F_l1 13 ?_;intro K hK
     go_simp
     refine hK _ _ ?_
     clear hK K
     go_wp2_with fail
     go_ret
     exact ⟨g2,cp2,by simp <;> omega,HD.out.1,HD.out.2.1⟩
 · rw [show post (revT (.bin (tk,tl,tlo,thi) a d))=(X ++ Y) ++ [(tk,tl,tlo,thi)] by rw [HX.out,HY.out,revT,if_neg (show ¬ (tk,tl,tlo,thi).1=4 by simp only;omega)];rfl]
   have hk4:(tk==4)=false:=by simp [hk]
   clear hk
   go_enter Tryz.func51,Tryz.ntmps51
   go_wp2_with fail
   refine (HAR.out _).mono ?_
   rintro e w1 ⟨rfl,hb1⟩
   have HT:=Hd_ (HTB.out.keep hb1)
   have HW:=Hd_ (below_trans HAL.out hb1)
   have htq:w.heap.size < w1.heap.size:=HT.out.lt
   have x0:w1.cell? ⟨w.heap.size,0,none⟩=some (.int .i64 tk):=by exact HT.out.cell 0
   have x1:w1.cell? ⟨w.heap.size,1,none⟩=some (.int .i64 tl):=by exact HT.out.cell 1
   have x2:w1.cell? ⟨w.heap.size,2,none⟩=some (.int .i64 tlo):=by exact HT.out.cell 2
   have x3:w1.cell? ⟨w.heap.size,3,none⟩=some (.int .i64 thi):=by exact HT.out.cell 3
   clear hb1 e0 e1 e2 e3 HTB HAL HAR
   go_wp2_with fail
   refine (HST.out _ HW.out).mono ?_
   rintro e w2 ⟨rfl,hb2⟩
   have HT:=Hd_ (HT.out.keep hb2)
   have HW:=Hd_ (below_trans HW.out hb2)
   have x0:=kcell hb2 x0
   have x1:=kcell hb2 x1
   have x2:=kcell hb2 x2
   have x3:=kcell hb2 x3
   clear hb2 HST
   go_wp2_with fail
   refine F_start 13 (fun w'=>w'.cell? ⟨w.heap.size,0,none⟩=some (.int .i64 tk)/\w'.cell? ⟨w.heap.size,1,none⟩=some (.int .i64 tl)/\w'.cell? ⟨w.heap.size,2,none⟩=some (.int .i64 tlo)/\w'.cell? ⟨w.heap.size,3,none⟩=some (.int .i64 thi)) (by kernel_rfl) (by exact ⟨x0,x1,x2,x3⟩) (fun hS inv=>?_)
   refine F_tk 0 inv ?_
   try simp only [tA,tB,tC,Act.put,tE,tF,tG]
   clear inv;intro inv
   refine F_tk 1 inv ?_
   try simp only [tA,tB,tC,Act.put,tE,tF,tG]
   clear inv;intro inv
   refine F_tk 2 inv ?_
   try simp only [tA,tB,tC,Act.put,tE,tF,tG]
   clear inv;intro inv
   refine F_tk 4 inv ?_
   try simp only [tA,tB,tC,Act.put,tE,tF,tG]
   clear inv;intro inv
   refine F_tk 5 inv ?_
   try simp only [tA,tB,tC,Act.put,tE,tF,tG]
   clear inv;intro inv
   refine F_tk 6 inv ?_
   try simp only [tA,tB,tC,Act.put,tE,tF,tG]
   clear inv;intro inv
   refine F_tk 7 inv ?_
   try simp only [tA,tB,tC,Act.put,tE,tF,tG]
   clear inv;intro inv
   refine F_tk 10 inv ?_
   try simp only [tA,tB,tC,Act.put,tE,tF,tG]
   clear inv;intro inv
   have HTD:=Hd_ (HT.out.keep (Below.refl w2.heap.size w2).drew)
   have HWD:=Hd_ (below_trans HW.out (Below.refl w2.heap.size w2).drew)
   have htd:w.heap.size < w2.drew.heap.size:=HTD.out.lt
   clear x0 x1 x2 x3 HT HW
   generalize w2.drew=W at *
   refine F_two (i:=3) (j:=11) (by kernel_rfl) rfl rfl rfl rfl (by omega) inv (fun K hK=>?_) (fun K hK=>?_)
   all_goals (try simp only [tA,tB,tC])
   · skip
     go_simp
     refine (HIA.out _ _ (SlE.keep HSA.out HWD.out) HPA.out).mono ?_
     rintro e wa ⟨ga,ca,rfl,hrow,hb1⟩
     have Ha:=Hd_ hb1
     have Ra:=Hd_ hrow
     have HTa:=Hd_ (HTD.out.keep hb1)
     have HWa:=Hd_ (below_trans HWD.out hb1)
     clear hrow hb1
     refine hK.out _ _ (⟨HTa.out.cell 0,HTa.out.cell 1,HTa.out.cell 2,HTa.out.cell 3⟩) (fun _ _=>?_)
     try simp only [tA,tB,tC,Act.put,tE,tF,tG]
     clear hK K inv hS;rename_i hS inv
     refine F_two (i:=8) (j:=11) (by kernel_rfl) rfl rfl rfl rfl (by omega) inv (fun K hK=>?_) (fun K hK=>?_)
     all_goals (try simp only [tA,tB,tC])
     · skip
       go_simp
       refine (HID.out _ _ (SlE.keep HSB.out HWa.out) HPD.out).mono ?_
       rintro e wb ⟨gb,cb,rfl,hrow,hb2⟩
       have Hb:=Hd_ hb2
       have Yb:=Hd_ (((Own.of_row (xs:=Y) hrow rfl rfl).sl cEd_len).mono (Nat.zero_le _) (Nat.le_refl _))
       have HTb:=Hd_ (HTa.out.keep hb2)
       have HWb:=Hd_ (below_trans HWa.out hb2)
       clear hrow hb2
       refine hK.out _ _ (⟨HTb.out.cell 0,HTb.out.cell 1,HTb.out.cell 2,HTb.out.cell 3⟩) (fun _ _=>?_)
       try simp only [tA,tB,tC,Act.put,tE,tF,tG]
       clear hK K inv hS;rename_i hS inv
       have Rb:=Hd_ (ownsRow_below Ra.out Hb.out (Nat.le_refl _))
       have hsb:W.heap.size<=wb.heap.size:=Nat.le_trans Ha.out.size Hb.out.size
       refine F_two (i:=9) (j:=11) (by kernel_rfl) rfl rfl rfl rfl (by omega) inv (fun K hK=>?_) (fun K hK=>?_)
       all_goals (try simp only [tA,tB,tC])
       · skip
         refine op_appendL cEd elTok cEd_len cEd_one _ _ rfl W.heap.size _ X Y (by rfl) (Rb.out) 0 _ _ (by rfl) (Yb.out) (by omega) (by omega) (hsb) ?_
         intro v5 w5 hrow5 hgr5 hat5
         obtain ⟨A5,n5,c5,rfl⟩:=rowShape hrow5
         have hob5:=own_below (Rb.out) (hsb) hgr5
         have HO5:=Hd_ hob5
         have HR5:=Hd_ hrow5
         have HG5:=Hd_ hgr5
         have HT5:=Hd_ (HTb.out.below hob5 (htd))
         have HW5:=Hd_ (HWb.out.trans (hob5.mono HWD.out.size))
         clear hrow5 hgr5 hat5 hob5
         refine hK.out _ _ (⟨HT5.out.cell 0,HT5.out.cell 1,HT5.out.cell 2,HT5.out.cell 3⟩) (fun _ _=>?_)
         try simp only [tA,tB,tC,Act.put,tE,tF,tG]
         clear hK K inv hS;rename_i hS inv
         refine F_o1 11 inv ?_;intro K hK
         try simp only [tA,tB,tC]
         go_simp
         have HTL:=Hd_ (HT5.out.alloc (.cells #[.int .i64 tk,.int .i64 tl,.int .i64 tlo,.int .i64 thi] 94))
         have HBL:=Hd_ (show Blk ((w5).alloc (.cells #[.int .i64 tk,.int .i64 tl,.int .i64 tlo,.int .i64 thi] 94)) (w5).heap.size 94 (cEd (tk,tl,tlo,thi)).toArray from Blk.new w5 94 (cEd (tk,tl,tlo,thi)).toArray _ rfl)
         have HAB:=Hd_ ((Below.refl (w5).heap.size w5).alloc (Nat.le_refl _) (.cells #[.int .i64 tk,.int .i64 tl,.int .i64 tlo,.int .i64 thi] 94))
         obtain ⟨Wl,hWl⟩:∃ Wl,Wl=(w5).alloc (.cells #[.int .i64 tk,.int .i64 tl,.int .i64 tlo,.int .i64 thi] 94):=⟨_,rfl⟩
         obtain ⟨hb,hhb⟩:∃ hb,hb=(w5).heap.size:=⟨_,rfl⟩
         have HHB:=Hd_ hhb
         rw [<- hhb] at HBL ⊢
         rw [<- hWl] at HTL HBL HAB ⊢
         clear hWl hhb
         refine hK.out _ _ (⟨HTL.out.cell 0,HTL.out.cell 1,HTL.out.cell 2,HTL.out.cell 3⟩) (fun _ _=>?_)
         try simp only [tA,tB,tC,Act.put,tE,tF,tG]
         clear hK K inv hS;rename_i hS inv
         have hs5:W.heap.size<=Wl.heap.size:=Nat.le_trans hsb (Nat.le_trans HO5.out.size HAB.out.size)
         refine F_o1 12 inv ?_;intro K hK
         try simp only [tA,tB,tC]
         refine op_append1 cEd elTok rfl _ _ (by rfl) W.heap.size _ (X ++ Y) (tk,tl,tlo,thi) 1 _ (by rfl) (ownsRow_below HR5.out HAB.out (Nat.le_refl _)) (by rfl) (HBL.out) rfl (cEd_one _) (by rw [List.length_append];omega) (by omega) (hs5) ?_
         intro g2 cp2 w9 hown9 hgr9 hat9 hlt9
         have HD:=Hd_ (rv_done (below_trans HW5.out HAB.out) (HWD.out.size) (ownsRow_below HR5.out HAB.out (Nat.le_refl _)) (hs5) hgr9 hown9)
         have HT9:=Hd_ (HTL.out.below HD.out.2.2 (htd))
         clear hown9 hgr9 hat9 hlt9
         refine hK.out _ _ (⟨HT9.out.cell 0,HT9.out.cell 1,HT9.out.cell 2,HT9.out.cell 3⟩) (fun _ _=>?_)
         try simp only [tA,tB,tC,Act.put,tE,tF,tG]
         clear hK K inv hS;rename_i hS inv
         refine F_l1 13 ?_;intro K hK
         go_simp
         refine hK _ _ ?_
         clear hK K
         go_wp2_with fail
         go_ret
         exact ⟨g2,cp2,by simp <;> omega,HD.out.1,HD.out.2.1⟩
       · skip
         go_simp
         have HTL:=Hd_ (HTb.out.alloc (.cells #[.int .i64 tk,.int .i64 tl,.int .i64 tlo,.int .i64 thi] 94))
         have HBL:=Hd_ (show Blk ((wb).alloc (.cells #[.int .i64 tk,.int .i64 tl,.int .i64 tlo,.int .i64 thi] 94)) (wb).heap.size 94 (cEd (tk,tl,tlo,thi)).toArray from Blk.new wb 94 (cEd (tk,tl,tlo,thi)).toArray _ rfl)
         have HAB:=Hd_ ((Below.refl (wb).heap.size wb).alloc (Nat.le_refl _) (.cells #[.int .i64 tk,.int .i64 tl,.int .i64 tlo,.int .i64 thi] 94))
         obtain ⟨Wl,hWl⟩:∃ Wl,Wl=(wb).alloc (.cells #[.int .i64 tk,.int .i64 tl,.int .i64 tlo,.int .i64 thi] 94):=⟨_,rfl⟩
         obtain ⟨hb,hhb⟩:∃ hb,hb=(wb).heap.size:=⟨_,rfl⟩
         have HHB:=Hd_ hhb
         rw [<- hhb] at HBL ⊢
         rw [<- hWl] at HTL HBL HAB ⊢
         clear hWl hhb
         refine hK.out _ _ (⟨HTL.out.cell 0,HTL.out.cell 1,HTL.out.cell 2,HTL.out.cell 3⟩) (fun _ _=>?_)
         try simp only [tA,tB,tC,Act.put,tE,tF,tG]
         clear hK K inv hS;rename_i hS inv
         have hs5:W.heap.size<=Wl.heap.size:=Nat.le_trans hsb HAB.out.size
         have Rl:=Hd_ (ownsRow_below Rb.out HAB.out (Nat.le_refl _))
         have Yl:=Hd_ (SlE.keep Yb.out HAB.out)
         have hga:ga < wb.heap.size:=(Rb.out.lt ga rfl).2
         have hga2:ga < hb:=by rw [HHB.out];exact hga
         have hbl:hb < Wl.heap.size:=HBL.out.lt
         refine F_o1 9 inv ?_;intro K hK
         try simp only [tA,tB,tC]
         refine op_appendL cEd elTok cEd_len cEd_one _ _ rfl W.heap.size _ X Y (by rfl) (Rl.out) 0 _ _ (by rfl) (Yl.out) (by omega) (by omega) (hs5) ?_
         intro v5 w5 hrow5 hgr5 hat5
         obtain ⟨A5,n5,c5,rfl⟩:=rowShape hrow5
         have hob5:=own_below (Rl.out) (hs5) hgr5
         have HO5:=Hd_ hob5
         have HR5:=Hd_ hrow5
         have HG5:=Hd_ hgr5
         have HT5:=Hd_ (HTL.out.below hob5 (htd))
         have HW5:=Hd_ ((below_trans HWb.out HAB.out).trans (hob5.mono HWD.out.size))
         clear hrow5 hgr5 hat5 hob5
         refine hK.out _ _ (⟨HT5.out.cell 0,HT5.out.cell 1,HT5.out.cell 2,HT5.out.cell 3⟩) (fun _ _=>?_)
         try simp only [tA,tB,tC,Act.put,tE,tF,tG]
         clear hK K inv hS;rename_i hS inv
         have HBL5:=Hd_ ((HG5.out.block hb hbl (fun e=>absurd (Option.some.inj (show some hb=some ga from e)) (by omega))).trans HBL.out)
         have hs6:W.heap.size<=w5.heap.size:=Nat.le_trans hs5 HO5.out.size
         refine F_o1 12 inv ?_;intro K hK
         try simp only [tA,tB,tC]
         refine op_append1 cEd elTok rfl _ _ (by rfl) W.heap.size _ (X ++ Y) (tk,tl,tlo,thi) 1 _ (by rfl) (HR5.out) (by rfl) (HBL5.out) rfl (cEd_one _) (by rw [List.length_append];omega) (by omega) (hs6) ?_
         intro g2 cp2 w9 hown9 hgr9 hat9 hlt9
         have HD:=Hd_ (rv_done (HW5.out) (HWD.out.size) (HR5.out) (hs6) hgr9 hown9)
         have HT9:=Hd_ (HT5.out.below HD.out.2.2 (htd))
         clear hown9 hgr9 hat9 hlt9
         refine hK.out _ _ (⟨HT9.out.cell 0,HT9.out.cell 1,HT9.out.cell 2,HT9.out.cell 3⟩) (fun _ _=>?_)
         try simp only [tA,tB,tC,Act.put,tE,tF,tG]
         clear hK K inv hS;rename_i hS inv
         refine F_l1 13 ?_;intro K hK
         go_simp
         refine hK _ _ ?_
         clear hK K
         go_wp2_with fail
         go_ret
         exact ⟨g2,cp2,by simp <;> omega,HD.out.1,HD.out.2.1⟩
     · skip
       go_simp
       have HTL:=Hd_ (HTa.out.alloc (.cells #[.int .i64 tk,.int .i64 tl,.int .i64 tlo,.int .i64 thi] 94))
       have HBL:=Hd_ (show Blk ((wa).alloc (.cells #[.int .i64 tk,.int .i64 tl,.int .i64 tlo,.int .i64 thi] 94)) (wa).heap.size 94 (cEd (tk,tl,tlo,thi)).toArray from Blk.new wa 94 (cEd (tk,tl,tlo,thi)).toArray _ rfl)
       have HAB:=Hd_ ((Below.refl (wa).heap.size wa).alloc (Nat.le_refl _) (.cells #[.int .i64 tk,.int .i64 tl,.int .i64 tlo,.int .i64 thi] 94))
       obtain ⟨Wl,hWl⟩:∃ Wl,Wl=(wa).alloc (.cells #[.int .i64 tk,.int .i64 tl,.int .i64 tlo,.int .i64 thi] 94):=⟨_,rfl⟩
       obtain ⟨hb,hhb⟩:∃ hb,hb=(wa).heap.size:=⟨_,rfl⟩
       have HHB:=Hd_ hhb
       rw [<- hhb] at HBL ⊢
       rw [<- hWl] at HTL HBL HAB ⊢
       clear hWl hhb
       refine hK.out _ _ (⟨HTL.out.cell 0,HTL.out.cell 1,HTL.out.cell 2,HTL.out.cell 3⟩) (fun _ _=>?_)
       try simp only [tA,tB,tC,Act.put,tE,tF,tG]
       clear hK K inv hS;rename_i hS inv
       have hga:ga < wa.heap.size:=(Ra.out.lt ga rfl).2
       have hga2:ga < hb:=by rw [HHB.out];exact hga
       have Rl:=Hd_ (ownsRow_below Ra.out HAB.out (Nat.le_refl _))
       have HWl:=Hd_ (below_trans HWa.out HAB.out)
       refine F_o1 8 inv ?_;intro K hK
       try simp only [tA,tB,tC]
       go_simp
       refine (HID.out _ _ (SlE.keep HSB.out HWl.out) HPD.out).mono ?_
       rintro e wb ⟨gb,cb,rfl,hrow,hb2⟩
       have Hb:=Hd_ hb2
       have Yb:=Hd_ (((Own.of_row (xs:=Y) hrow rfl rfl).sl cEd_len).mono (Nat.zero_le _) (Nat.le_refl _))
       have HTb:=Hd_ (HTL.out.keep hb2)
       have HWb:=Hd_ (below_trans HWl.out hb2)
       clear hrow hb2
       refine hK.out _ _ (⟨HTb.out.cell 0,HTb.out.cell 1,HTb.out.cell 2,HTb.out.cell 3⟩) (fun _ _=>?_)
       try simp only [tA,tB,tC,Act.put,tE,tF,tG]
       clear hK K inv hS;rename_i hS inv
       have Rb:=Hd_ (ownsRow_below Rl.out Hb.out (Nat.le_refl _))
       have HBLb:=Hd_ (HBL.out.keep Hb.out)
       have hsb:W.heap.size<=wb.heap.size:=Nat.le_trans Ha.out.size (Nat.le_trans HAB.out.size Hb.out.size)
       have hbl:hb < wb.heap.size:=HBLb.out.lt
       refine F_o1 9 inv ?_;intro K hK
       try simp only [tA,tB,tC]
       refine op_appendL cEd elTok cEd_len cEd_one _ _ rfl W.heap.size _ X Y (by rfl) (Rb.out) 0 _ _ (by rfl) (Yb.out) (by omega) (by omega) (hsb) ?_
       intro v5 w5 hrow5 hgr5 hat5
       obtain ⟨A5,n5,c5,rfl⟩:=rowShape hrow5
       have hob5:=own_below (Rb.out) (hsb) hgr5
       have HO5:=Hd_ hob5
       have HR5:=Hd_ hrow5
       have HG5:=Hd_ hgr5
       have HT5:=Hd_ (HTb.out.below hob5 (htd))
       have HW5:=Hd_ (HWb.out.trans (hob5.mono HWD.out.size))
       clear hrow5 hgr5 hat5 hob5
       refine hK.out _ _ (⟨HT5.out.cell 0,HT5.out.cell 1,HT5.out.cell 2,HT5.out.cell 3⟩) (fun _ _=>?_)
       try simp only [tA,tB,tC,Act.put,tE,tF,tG]
       clear hK K inv hS;rename_i hS inv
       have HBL5:=Hd_ ((HG5.out.block hb hbl (fun e=>absurd (Option.some.inj (show some hb=some ga from e)) (by omega))).trans HBLb.out)
       have hs6:W.heap.size<=w5.heap.size:=Nat.le_trans hsb HO5.out.size
       refine F_o1 12 inv ?_;intro K hK
       try simp only [tA,tB,tC]
       refine op_append1 cEd elTok rfl _ _ (by rfl) W.heap.size _ (X ++ Y) (tk,tl,tlo,thi) 1 _ (by rfl) (HR5.out) (by rfl) (HBL5.out) rfl (cEd_one _) (by rw [List.length_append];omega) (by omega) (hs6) ?_
       intro g2 cp2 w9 hown9 hgr9 hat9 hlt9
       have HD:=Hd_ (rv_done (HW5.out) (HWD.out.size) (HR5.out) (hs6) hgr9 hown9)
       have HT9:=Hd_ (HT5.out.below HD.out.2.2 (htd))
       clear hown9 hgr9 hat9 hlt9
       refine hK.out _ _ (⟨HT9.out.cell 0,HT9.out.cell 1,HT9.out.cell 2,HT9.out.cell 3⟩) (fun _ _=>?_)
       try simp only [tA,tB,tC,Act.put,tE,tF,tG]
       clear hK K inv hS;rename_i hS inv
       refine F_l1 13 ?_;intro K hK
       go_simp
       refine hK _ _ ?_
       clear hK K
       go_wp2_with fail
       go_ret
       exact ⟨g2,cp2,by simp <;> omega,HD.out.1,HD.out.2.1⟩
   · skip
     go_simp
     have HTL:=Hd_ (HTD.out.alloc (.cells #[.int .i64 tk,.int .i64 tl,.int .i64 tlo,.int .i64 thi] 94))
     have HBL:=Hd_ (show Blk ((W).alloc (.cells #[.int .i64 tk,.int .i64 tl,.int .i64 tlo,.int .i64 thi] 94)) (W).heap.size 94 (cEd (tk,tl,tlo,thi)).toArray from Blk.new W 94 (cEd (tk,tl,tlo,thi)).toArray _ rfl)
     have HAB:=Hd_ ((Below.refl (W).heap.size W).alloc (Nat.le_refl _) (.cells #[.int .i64 tk,.int .i64 tl,.int .i64 tlo,.int .i64 thi] 94))
     obtain ⟨Wl,hWl⟩:∃ Wl,Wl=(W).alloc (.cells #[.int .i64 tk,.int .i64 tl,.int .i64 tlo,.int .i64 thi] 94):=⟨_,rfl⟩
     obtain ⟨hb,hhb⟩:∃ hb,hb=(W).heap.size:=⟨_,rfl⟩
     have HHB:=Hd_ hhb
     rw [<- hhb] at HBL ⊢
     rw [<- hWl] at HTL HBL HAB ⊢
     clear hWl hhb
     refine hK.out _ _ (⟨HTL.out.cell 0,HTL.out.cell 1,HTL.out.cell 2,HTL.out.cell 3⟩) (fun _ _=>?_)
     try simp only [tA,tB,tC,Act.put,tE,tF,tG]
     clear hK K inv hS;rename_i hS inv
     have HWl:=Hd_ (below_trans HWD.out HAB.out)
     have htl:w.heap.size < Wl.heap.size:=HTL.out.lt
     have hbl0:hb < Wl.heap.size:=HBL.out.lt
     refine F_o1 3 inv ?_;intro K hK
     try simp only [tA,tB,tC]
     go_simp
     refine (HIA.out _ _ (SlE.keep HSA.out HWl.out) HPA.out).mono ?_
     rintro e wa ⟨ga,ca,rfl,hrow,hb1⟩
     have Ha:=Hd_ hb1
     have Ra:=Hd_ hrow
     have HTa:=Hd_ (HTL.out.keep hb1)
     have HWa:=Hd_ (below_trans HWl.out hb1)
     clear hrow hb1
     refine hK.out _ _ (⟨HTa.out.cell 0,HTa.out.cell 1,HTa.out.cell 2,HTa.out.cell 3⟩) (fun _ _=>?_)
     try simp only [tA,tB,tC,Act.put,tE,tF,tG]
     clear hK K inv hS;rename_i hS inv
     have HBLa:=Hd_ (HBL.out.keep Ha.out)
     have hga:Wl.heap.size<=ga:=(Ra.out.lt ga rfl).1
     refine F_o1 8 inv ?_;intro K hK
     try simp only [tA,tB,tC]
     go_simp
     refine (HID.out _ _ (SlE.keep HSB.out HWa.out) HPD.out).mono ?_
     rintro e wb ⟨gb,cb,rfl,hrow,hb2⟩
     have Hb:=Hd_ hb2
     have Yb:=Hd_ (((Own.of_row (xs:=Y) hrow rfl rfl).sl cEd_len).mono (Nat.zero_le _) (Nat.le_refl _))
     have HTb:=Hd_ (HTa.out.keep hb2)
     have HWb:=Hd_ (below_trans HWa.out hb2)
     clear hrow hb2
     refine hK.out _ _ (⟨HTb.out.cell 0,HTb.out.cell 1,HTb.out.cell 2,HTb.out.cell 3⟩) (fun _ _=>?_)
     try simp only [tA,tB,tC,Act.put,tE,tF,tG]
     clear hK K inv hS;rename_i hS inv
     have Rb:=Hd_ (ownsRow_below Ra.out Hb.out (Nat.le_refl _))
     have HBLb:=Hd_ (HBLa.out.keep Hb.out)
     have hsb:Wl.heap.size<=wb.heap.size:=Nat.le_trans Ha.out.size Hb.out.size
     have hbl:hb < wb.heap.size:=HBLb.out.lt
     refine F_o1 9 inv ?_;intro K hK
     try simp only [tA,tB,tC]
     refine op_appendL cEd elTok cEd_len cEd_one _ _ rfl Wl.heap.size _ X Y (by rfl) (Rb.out) 0 _ _ (by rfl) (Yb.out) (by omega) (by omega) (hsb) ?_
     intro v5 w5 hrow5 hgr5 hat5
     obtain ⟨A5,n5,c5,rfl⟩:=rowShape hrow5
     have hob5:=own_below (Rb.out) (hsb) hgr5
     have HO5:=Hd_ hob5
     have HR5:=Hd_ hrow5
     have HG5:=Hd_ hgr5
     have HT5:=Hd_ (HTb.out.below hob5 (htl))
     have HW5:=Hd_ (HWb.out.trans (hob5.mono HWl.out.size))
     clear hrow5 hgr5 hat5 hob5
     refine hK.out _ _ (⟨HT5.out.cell 0,HT5.out.cell 1,HT5.out.cell 2,HT5.out.cell 3⟩) (fun _ _=>?_)
     try simp only [tA,tB,tC,Act.put,tE,tF,tG]
     clear hK K inv hS;rename_i hS inv
     have HBL5:=Hd_ ((HG5.out.block hb hbl (fun e=>absurd (Option.some.inj (show some hb=some ga from e)) (by omega))).trans HBLb.out)
     have hs6:Wl.heap.size<=w5.heap.size:=Nat.le_trans hsb HO5.out.size
     refine F_o1 12 inv ?_;intro K hK
     try simp only [tA,tB,tC]
     refine op_append1 cEd elTok rfl _ _ (by rfl) Wl.heap.size _ (X ++ Y) (tk,tl,tlo,thi) 1 _ (by rfl) (HR5.out) (by rfl) (HBL5.out) rfl (cEd_one _) (by rw [List.length_append];omega) (by omega) (hs6) ?_
     intro g2 cp2 w9 hown9 hgr9 hat9 hlt9
     have HD:=Hd_ (rv_done (HW5.out) (HWl.out.size) (HR5.out) (hs6) hgr9 hown9)
     have HT9:=Hd_ (HT5.out.below HD.out.2.2 (htl))
     clear hown9 hgr9 hat9 hlt9
     refine hK.out _ _ (⟨HT9.out.cell 0,HT9.out.cell 1,HT9.out.cell 2,HT9.out.cell 3⟩) (fun _ _=>?_)
     try simp only [tA,tB,tC,Act.put,tE,tF,tG]
     clear hK K inv hS;rename_i hS inv
     refine F_l1 13 ?_;intro K hK
     go_simp
     refine hK _ _ ?_
     clear hK K
     go_wp2_with fail
     go_ret
     exact ⟨g2,cp2,by simp <;> omega,HD.out.1,HD.out.2.1⟩
theorem l8Reverse_any:∀ {r:Tr},r.ok->RvIH r
 | .leaf _,h=>fun ss w hsl _=>rv_leaf h ss w hsl
 | .un _ _,h=>fun ss w hsl hl=>rv_un h.1 (l8Reverse_any h.2) ss w hsl hl
 | .bin _ _ _,h=>fun ss w hsl hl=>rv_bin h.1 h.2.2 (l8Reverse_any h.2.1) (l8Reverse_any h.2.2) ss w hsl hl
def RevOut (l:List Tok) (w:World) (e:Ending) (w':World):Prop:=∃ v is,e=.returned (.tuple #[.agg #[v],.bool is])/\SlE w' cEd 4 v (revE l)/\Below w.heap.size w w'
set_option maxRecDepth 100000 in
set_option maxHeartbeats 4000000 in
theorem reverseExpr_any (ss:Value) (l:List Tok) (w:World) (hv:SlE w cEd 4 ss l) (hl:l.length<=1048576) :
 Calls Tryz.prog 23 #[.agg #[ss]] w (RevOut l w):=by
 obtain ⟨A,n,c,rfl⟩:=hv.shape
 have hal:=((Below.refl w.heap.size w).alloc (Nat.le_refl _) (.cells #[.slice A n c] 46)).alloc (by simp) (.cells #[.slice none 0 0] 46)
 have heb:=(Blk.new w 46 #[.slice A n c] _ rfl).alloc (.cells #[.slice none 0 0] 46)
 have hrb:=Blk.new (w.alloc (.cells #[.slice A n c] 46)) 46 #[.slice none 0 0] (w.heap.size+1) (by simp)
 obtain ⟨gq,hgq⟩:∃ gq,gq=w.heap.size:=⟨_,rfl⟩
 obtain ⟨W,hW⟩:∃ W,W=(w.alloc (.cells #[.slice A n c] 46)).alloc (.cells #[.slice none 0 0] 46):=⟨_,rfl⟩
 have HV:=Hd_ (SlE.keep hv hal)
 have HAL:=Hd_ hal
 rw [<- hW] at heb hrb HV HAL
 rw [<- hgq] at heb hrb
 have hHW:=Hd_ hW
 have hHG:=Hd_ hgq
 clear hal hW hgq hv
 obtain ⟨bt,hbt⟩:∃ bt,bt=(treeL l).isSome:=⟨_,rfl⟩
 have HIS:=Hd_ (hbt ▸ isExpr_any _ l _ HV.out)
 have HBT:=Hd_ hbt
 have HL:=Hd_ hl
 clear hbt hl
 have x0:W.cell? ⟨gq,0,none⟩=some (.slice A n c):=heb.cell 0
 have HEB:=Hd_ heb
 have HRB:=Hd_ hrb
 clear heb hrb
 go_enter Tryz.func23,Tryz.ntmps23
 go_upto_region 1 with fail
 rw [<- hHW.out]
 rw [<- hHG.out]
 go_wp2_with fail
 refine HIS.out.mono ?_
 rintro e w1 ⟨rfl,hb1⟩
 have hrb:=HRB.out.keep hb1
 have x0:=kcell hb1 x0
 have HB1:=Hd_ (below_trans HAL.out hb1)
 have HV1:=Hd_ (SlE.keep HV.out hb1)
 clear hb1 HIS HEB HRB
 cases bt with
 | false =>
   have z0:w1.cell? ⟨gq+1,0,none⟩=some (.slice none 0 0):=hrb.cell 0
   have v0:=hrb.frozen 0
   have hlr:=hrb.lt
   have HRE:=Hd_ (show revE l=[] by
    have h:=HBT.out.symm
    rw [Option.isSome_eq_false_iff,Option.isNone_iff_eq_none] at h
    rw [revE,h])
   have HBZ:=Hd_ (HB1.out.setCell (p:=⟨gq+1,0,none⟩) (by rw [hHG.out];simp only;omega) (.slice none 0 0))
   clear hrb
   go_wp2_with fail
   exact bodyPost_ret (v:=.tuple #[.agg #[.slice none 0 0],.bool false]) (by simp [results,Tryz.results23,go_sem,z0,v0,hlr]) rfl ⟨_,_,rfl,by rw [HRE.out];exact SlI.nil _ _ _ _ _,HBZ.out⟩
 | true =>
   obtain ⟨r,hr⟩:∃ r,treeL l=some r:=Option.isSome_iff_exists.1 HBT.out.symm
   obtain ⟨hok,hpo⟩:=treeL_post hr
   have HRE:=Hd_ (show revE l=post (revT r) by rw [revE,hr])
   have HOK:=Hd_ hok
   have HVP:=Hd_ (show SlE w1 cEd 4 (.slice A n c) (post r) by rw [hpo];exact HV1.out)
   have HLP:=Hd_ (show (post r).length<=1048576 by rw [hpo];exact HL.out)
   clear hok hpo hr HBT
   go_wp2_with fail
   refine (l8Reverse_any HOK.out _ _ HVP.out HLP.out).mono ?_
   rintro e w2 ⟨g,cc,rfl,hrow,hb2⟩
   have hrb2:=hrb.keep hb2
   have hgr:=hrow.lt g rfl
   have hgl:gq+1 < w1.heap.size:=hrb.lt
   have HS:=Hd_ ((Own.of_row (xs:=post (revT r)) hrow rfl rfl).sl cEd_len)
   have HB2:=Hd_ (below_trans HB1.out hb2)
   have z0:w2.cell? ⟨gq+1,0,none⟩=some (.slice none 0 0):=hrb2.cell 0
   have v0:=hrb2.frozen 0
   have hlr:=hrb2.lt
   obtain ⟨N,hN⟩:∃ N,N=(post (revT r)).length:=⟨_,rfl⟩
   rw [<- hN] at HS ⊢
   clear hrow hb2 hrb hrb2 hgr x0 hN
   have hoz:=(Only.refl (gq+1) (gq+2) w2).setCell (p:=⟨gq+1,0,none⟩) (.inl ⟨Nat.le_refl _,Nat.lt_succ_self _⟩) (.slice (some ⟨g,0,none⟩) N cc)
   have HSZ:=Hd_ ((HS.out.only hoz (Nat.le_refl _) (.inr (by omega))).mono (lo':=0) (Nat.zero_le _) hoz.size)
   have HBZ:=Hd_ (HB2.out.setCell (p:=⟨gq+1,0,none⟩) (by rw [hHG.out];simp only;omega) (.slice (some ⟨g,0,none⟩) N cc))
   clear hoz
   go_wp2_with fail
   exact bodyPost_ret (v:=.tuple #[.agg #[.slice (some ⟨g,0,none⟩) N cc],.bool true]) (by simp [results,Tryz.results23,go_sem,z0,v0,hlr]) rfl ⟨_,_,rfl,by rw [HRE.out];exact HSZ.out,HBZ.out⟩
set_option maxHeartbeats 4000000 in
set_option maxRecDepth 100000 in
theorem specLetter (v:Value) (g:Gr) (lt:Int) (w:World) (hv:GrV 0 w.heap.size w v g) :
 Calls Tryz.prog 20 #[v,.int .i64 lt] w fun e w'=>∃ v',e=.returned v'/\Own w.heap.size w'.heap.size w' 57 cPr 2 v' (letterL g lt)/\Below w.heap.size w w':=by
 have hvo:=hv
 obtain ⟨vs,es,rfl,⟨A1,c1,rfl,hl1,hm1,hC1⟩,⟨A2,c2,rfl,hl2,hm2,hC2⟩⟩:=hv
 unfold maxLen at hm1 hm2
 obtain ⟨Wb,hWb⟩:∃ Wb,Wb=w.alloc (.cells #[.slice A1 g.vals.length c1,.slice A2 g.edges.length c2] 40):=⟨_,rfl⟩
 have hbb:Below w.heap.size w Wb:=by rw [hWb];exact (Below.refl _ _).alloc (Nat.le_refl _) _
 have hWs:Wb.heap.size=w.heap.size+1:=by rw [hWb];simp
 obtain ⟨W0,hW0⟩:∃ W0,W0=Wb.alloc (.cells #[] 57):=⟨_,rfl⟩
 have hb0:Below w.heap.size w W0:=by rw [hW0];exact hbb.alloc (by omega) _
 have hs0:SetR w.heap.size W0 (.slice (some ⟨w.heap.size+1,0,none⟩) 0 0) []:=by
  rw [hW0,<- hWs]
  exact SetR.lit Wb _ (by omega)
 have hbl:Blk W0 w.heap.size 40 #[.slice A1 g.vals.length c1,.slice A2 g.edges.length c2]:=by
  rw [hW0,hWb]
  exact (Blk.new w _ _ w.heap.size rfl).alloc _
 have hvg:=specValidGraph _ g W0 (hvo.keep hb0)
 have HGV:=Hd_ hvo
 have HB0:=Hd_ hb0
 have HS0:=Hd_ hs0
 have HBL:=Hd_ hbl
 have HC2:=Hd_ hC2
 have HSW:=Hd_ (show W0=(w.alloc (.cells #[.slice A1 g.vals.length c1,.slice A2 g.edges.length c2] 40)).alloc (.cells #[] 57) by rw [hW0,hWb])
 have hsz0:=hb0.size
 clear hb0 hs0 hbl hbb hW0 hWb hWs hvo hC1 hC2
 cases hgk:grOk g with
 | false =>
   rw [hgk] at hvg
   have HVG:=Hd_ hvg
   have HE:=Hd_ (show letterL g lt=[] by simp [letterL,hgk])
   clear hvg hgk
   rw [HE.out]
   go_enter Tryz.func20,Tryz.ntmps20
   go_wp2_with fail
   rw [<- HSW.out]
   refine HVG.out.mono ?_
   rintro e w2 ⟨rfl,hb2⟩
   have HO:=Hd_ ((HS0.out.below hb2).own)
   have HB:=Hd_ (below_trans HB0.out hb2)
   clear hb2
   go_wp2_with fail
   go_ret
   exact ⟨_,rfl,HO.out,HB.out⟩
 | true =>
   rw [hgk] at hvg
   have HVG:=Hd_ hvg
   have HGO:=Hd_ (grOk_iff.1 hgk)
   have HE:=Hd_ (show letterL g lt=psetL (selfL g lt g.vals.length ++ g.edges.flatMap (edgE lt)) by simp [letterL,hgk,specLet])
   have hn5:=HGO.out.n5
   have he12:=HGO.out.e12
   clear hvg hgk
   generalize letterL g lt=R at *
   go_enter Tryz.func20,Tryz.ntmps20
   go_wp2_with fail
   rw [<- HSW.out]
   refine HVG.out.mono ?_
   rintro e w2 ⟨rfl,hb2⟩
   have HS2:=Hd_ (HS0.out.below hb2)
   have HB2:=Hd_ (below_trans HB0.out hb2)
   have b2:=HBL.out.keep hb2
   have z0:w2.cell? ⟨w.heap.size,0,none⟩=some (.slice A1 g.vals.length c1):=b2.cell 0
   have z1:w2.cell? ⟨w.heap.size,1,none⟩=some (.slice A2 g.edges.length c2):=b2.cell 1
   clear hb2 b2
   go_wp2_with fail
   go_loopw [5,6] (fun oo ii wr=>∃ i:Nat,i<=g.vals.length/\ii=.int .i64 (i:Int)/\SetR w.heap.size wr oo (psetL (selfL g lt i))/\Below w.heap.size w wr/\wr.cell? ⟨w.heap.size,0,none⟩=some (.slice A1 g.vals.length c1)/\wr.cell? ⟨w.heap.size,1,none⟩=some (.slice A2 g.edges.length c2)) (fun _ ii _=>g.vals.length - (intOf ii).toNat)
   case atStart=>exact ⟨0,Nat.zero_le _,rfl,HS2.out,HB2.out,z0,z1⟩
   case round =>
    obtain ⟨i,hi,rfl,hset,hbel,y0,y1⟩:=hrel
    clear z0 z1
    have HSET:=Hd_ hset
    have hsz:=hbel.size
    have hpl:=psetL_len (selfL g lt i)
    have hsl:=selfL_len g lt i
    clear hset
    by_cases hlt:i < g.vals.length
    · have hxi:g.vals[i]?=some g.vals[i]:=List.getElem?_eq_getElem hlt
      have hgd:g.vals.getD i 0=g.vals[i]:=by simp [List.getD,hlt]
      generalize g.vals[i]=a at hxi hgd
      have hii:(i:Int) < (g.vals.length:Int):=by omega
      have hh:=specHolds _ g wr (HGV.out.keep hbel) HGO.out i a hxi lt
      have HSS:=Hd_ (selfL_succ g lt i)
      clear hxi
      by_cases he:lt=6+a
      · have HSN:=Hd_ (show psetL (selfL g lt (i+1))=putP (psetL (selfL g lt i)) ((i:Int),(i:Int)) by rw [HSS.out,selfE,hgd,if_pos he,psetL_snoc])
        rw [show decide (lt=6+a)=true by simp [he]] at hh
        have HH:=Hd_ hh
        clear hh he hgd
        generalize psetL (selfL g lt i)=L at *
        go_wp2_with fail
        refine HH.out.mono ?_
        rintro e w4 ⟨rfl,hb4⟩
        have HP:=Hd_ (l15Put_any _ w.heap.size L ((i:Int),(i:Int)) w4 (HSET.out.below hb4) (Nat.le_trans hsz hb4.size) (by omega))
        have hbel4:=below_trans hbel hb4
        have hsz4:=hbel4.size
        have y0:=kcell hb4 y0
        have y1:=kcell hb4 y1
        clear hb4
        go_wp2_with fail
        refine HP.out.mono ?_
        rintro e w5 ⟨v5,rfl,hs5,hb5⟩
        have HS5:=Hd_ hs5
        have HB5:=Hd_ (hbel4.trans (hb5.mono hsz4))
        have y0:=kcell hb5 y0
        have y1:=kcell hb5 y1
        clear hs5 hb5
        go_wp2_with fail
        go_roundw
        case rel=>exact ⟨i+1,by omega,by go_num,by rw [HSN.out];exact HS5.out,HB5.out,y0,y1⟩
        case measure=>simp [intOf];omega
      · have HSN:=Hd_ (show psetL (selfL g lt (i+1))=psetL (selfL g lt i) by rw [HSS.out,selfE,hgd,if_neg he,List.append_nil])
        rw [show decide (lt=6+a)=false by simp [he]] at hh
        have HH:=Hd_ hh
        clear hh he hgd
        generalize psetL (selfL g lt i)=L at *
        go_wp2_with fail
        refine HH.out.mono ?_
        rintro e w4 ⟨rfl,hb4⟩
        have HS4:=Hd_ (HSET.out.below hb4)
        have HB4:=Hd_ (below_trans hbel hb4)
        have y0:=kcell hb4 y0
        have y1:=kcell hb4 y1
        clear hb4
        go_wp2_with fail
        go_roundw
        case rel=>exact ⟨i+1,by omega,by go_num,by rw [HSN.out];exact HS4.out,HB4.out,y0,y1⟩
        case measure=>simp [intOf];omega
    · obtain rfl:i=g.vals.length:=by omega
      generalize selfL g lt g.vals.length=S at *
      go_wp2_with fail
      go_loopw [5,7] (fun oo ii wr=>∃ i:Nat,i<=g.edges.length/\ii=.int .i64 (i:Int)/\SetR w.heap.size wr oo (psetL (S ++ (g.edges.take i).flatMap (edgE lt)))/\Below w.heap.size w wr/\wr.cell? ⟨w.heap.size,0,none⟩=some (.slice A1 g.vals.length c1)/\wr.cell? ⟨w.heap.size,1,none⟩=some (.slice A2 g.edges.length c2)) (fun _ ii _=>g.edges.length - (intOf ii).toNat)
      case atStart=>exact ⟨0,Nat.zero_le _,rfl,by rw [List.take_zero,List.flatMap_nil,List.append_nil];exact HSET.out,hbel,y0,y1⟩
      case round =>
       clear HSET hbel y0 y1 hsz hpl hi hlt
       obtain ⟨i,hi,rfl,hset,hbel,y0,y1⟩:=hrel
       have HSET:=Hd_ hset
       have hsz:=hbel.size
       clear hset
       by_cases hlt:i < g.edges.length
       · have hxi:g.edges[i]?=some g.edges[i]:=List.getElem?_eq_getElem hlt
         generalize g.edges[i]=x at hxi
         obtain ⟨b,o,rfl,-,hb,hc⟩:=HC2.out i x hxi
         obtain ⟨x0,x1,x2,x3⟩:=x
         obtain ⟨-,-,-,l0,l2⟩:=HGO.out.edges _ (List.mem_of_getElem? hxi)
         simp only at l0 l2
         have d0:=kcell hbel (hc 0 _ rfl)
         have d1:=kcell hbel (hc 1 _ rfl)
         have d2:=kcell hbel (hc 2 _ rfl)
         have d3:=kcell hbel (hc 3 _ rfl)
         simp only [Nat.add_zero] at d0
         have hbw:b < wr.heap.size:=by omega
         have hii:(i:Int) < (g.edges.length:Int):=by omega
         have hpl:(psetL (S ++ (g.edges.take i).flatMap (edgE lt))).length<=100:=by
          have h1:=psetL_len (S ++ (g.edges.take i).flatMap (edgE lt))
          have h2:=flat_le (edgE_len lt) (g.edges.take i)
          rw [List.length_append] at h1
          rw [List.length_take] at h2
          omega
         have HSN:=Hd_ (show psetL (S ++ (g.edges.take (i+1)).flatMap (edgE lt))=(edgE lt (x0,x1,x2,x3)).foldl putP (psetL (S ++ (g.edges.take i).flatMap (edgE lt))) by rw [take_snoc hxi,List.flatMap_append,List.flatMap_cons,List.flatMap_nil,List.append_nil,<- List.append_assoc,psetL_app])
         have hq0:IntKind.i64.wrap (2 * x3)=2 * x3:=IntWalk.i64_in _ (by omega)
         have hq1:IntKind.i64.wrap (2 * x3+1)=2 * x3+1:=IntWalk.i64_in _ (by omega)
         have HBA:=Hd_ (hbel.alloc hsz (.cells #[.int .i64 x0,.int .i64 x1,.int .i64 x2,.int .i64 x3] 76))
         have HSA:=Hd_ (HSET.out.below ((Below.refl wr.heap.size wr).alloc (Nat.le_refl _) (.cells #[.int .i64 x0,.int .i64 x1,.int .i64 x2,.int .i64 x3] 76)))
         clear hxi hc
         generalize psetL (S ++ (g.edges.take i).flatMap (edgE lt))=L at *
         have HBX:=Hd_ (Blk.new wr 76 #[.int .i64 x0,.int .i64 x1,.int .i64 x2,.int .i64 x3] wr.heap.size rfl)
         have hal:Below wr.heap.size wr (wr.alloc (.cells #[.int .i64 x0,.int .i64 x1,.int .i64 x2,.int .i64 x3] 76)):=(Below.refl wr.heap.size wr).alloc (Nat.le_refl _) _
         have hzz:w.heap.size<=(wr.alloc (.cells #[.int .i64 x0,.int .i64 x1,.int .i64 x2,.int .i64 x3] 76)).heap.size:=Nat.le_trans hsz hal.size
         have ya0:=kcell hal y0
         have ya1:=kcell hal y1
         have HAL:=Hd_ hal
         clear hal
         by_cases h1:2 * x3=lt
         · have h2:¬ 2 * x3+1=lt:=by omega
           have HSN2:=Hd_ (HSN.out.trans (show (edgE lt (x0,x1,x2,x3)).foldl putP L=putP L (x1,x2) by rw [edgE,if_pos h1,if_neg h2];rfl))
           have HP:=Hd_ (l15Put_any _ w.heap.size L (x1,x2) _ HSA.out hzz (by omega))
           have HYA:=Hd_ (And.intro ya0 ya1)
           clear ya0 ya1
           go_wp2_with fail
           refine HP.out.mono ?_
           rintro e w5 ⟨v5,rfl,hs5,hb5⟩
           have HS5:=Hd_ hs5
           have HB5:=Hd_ (HBA.out.trans (hb5.mono hzz))
           have HY5:=Hd_ (And.intro (kcell hb5 HYA.out.1) (kcell hb5 HYA.out.2))
           have bx:=HBX.out.keep hb5
           have e0:w5.cell? ⟨wr.heap.size,0,none⟩=some (.int .i64 x0):=bx.cell 0
           have e1:w5.cell? ⟨wr.heap.size,1,none⟩=some (.int .i64 x1):=bx.cell 1
           have e2:w5.cell? ⟨wr.heap.size,2,none⟩=some (.int .i64 x2):=bx.cell 2
           have e3:w5.cell? ⟨wr.heap.size,3,none⟩=some (.int .i64 x3):=bx.cell 3
           clear hs5 hb5 bx
           go_wp2_with fail
           go_roundw
           case rel=>exact ⟨i+1,by omega,by go_num,by rw [HSN2.out];exact HS5.out,HB5.out,HY5.out.1,HY5.out.2⟩
           case measure=>simp [intOf];omega
         · by_cases h2:2 * x3+1=lt
           · have HSN2:=Hd_ (HSN.out.trans (show (edgE lt (x0,x1,x2,x3)).foldl putP L=putP L (x2,x1) by rw [edgE,if_neg h1,if_pos h2];rfl))
             have HP:=Hd_ (l15Put_any _ w.heap.size L (x2,x1) _ HSA.out hzz (by omega))
             have HYA:=Hd_ (And.intro ya0 ya1)
             clear ya0 ya1
             go_wp2_with fail
             refine HP.out.mono ?_
             rintro e w5 ⟨v5,rfl,hs5,hb5⟩
             have HS5:=Hd_ hs5
             have HB5:=Hd_ (HBA.out.trans (hb5.mono hzz))
             have HY5:=Hd_ (And.intro (kcell hb5 HYA.out.1) (kcell hb5 HYA.out.2))
             have bx:=HBX.out.keep hb5
             have e0:w5.cell? ⟨wr.heap.size,0,none⟩=some (.int .i64 x0):=bx.cell 0
             have e1:w5.cell? ⟨wr.heap.size,1,none⟩=some (.int .i64 x1):=bx.cell 1
             have e2:w5.cell? ⟨wr.heap.size,2,none⟩=some (.int .i64 x2):=bx.cell 2
             have e3:w5.cell? ⟨wr.heap.size,3,none⟩=some (.int .i64 x3):=bx.cell 3
             clear hs5 hb5 bx
             go_wp2_with fail
             go_roundw
             case rel=>exact ⟨i+1,by omega,by go_num,by rw [HSN2.out];exact HS5.out,HB5.out,HY5.out.1,HY5.out.2⟩
             case measure=>simp [intOf];omega
           · have HSN2:=Hd_ (HSN.out.trans (show (edgE lt (x0,x1,x2,x3)).foldl putP L=L by rw [edgE,if_neg h1,if_neg h2];rfl))
             go_wp2_with fail
             go_roundw
             case rel=>exact ⟨i+1,by omega,by go_num,by rw [HSN2.out];exact HSA.out,HBA.out,ya0,ya1⟩
             case measure=>simp [intOf];omega
       · obtain rfl:i=g.edges.length:=by omega
         rw [List.take_length] at HSET
         rw [<- HE.out] at HSET
         have HO:=Hd_ HSET.out.own
         obtain ⟨g9,c9,rfl,-⟩:=HSET.out
         go_wp2_with fail
         go_ret
         exact ⟨_,rfl,HO.out,hbel⟩
theorem eval_yes {g:Gr} {l:List Tok} {r:Tr} (hg:grOk g=true) (h24:l.length<=24) (ht:treeL l=some r):evalE g l=(evalT g r,true):=by
 rw [evalE,if_pos (by rw [hg,exprOk,ht,decide_eq_true h24];rfl),ht]
theorem eval_noG {g:Gr} {l:List Tok} (hg:grOk g=false):evalE g l=([],false):=by
 rw [evalE,if_neg (by rw [hg];simp)]
theorem eval_noE {g:Gr} {l:List Tok} (hl:exprOk l=false):evalE g l=([],false):=by
 rw [evalE,if_neg (by rw [hl];simp)]
set_option maxHeartbeats 1000000 in
theorem implIsExpr_any (ss:Value) (l:List Tok) (w:World) (hv:SlE w cEd 4 ss l) (h24:l.length<=24) :
 Calls Tryz.prog 65 #[.agg #[ss]] w fun e w'=>e=.returned (.bool (treeL l).isSome)/\Below w.heap.size w w':=by
 have hb0:Below w.heap.size w (w.alloc (.cells #[ss] 46)):=(Below.refl _ _).alloc (Nat.le_refl _) _
 obtain ⟨A,n,c,rfl⟩:=hv.shape
 have HV:=Hd_ (SlE.keep hv hb0)
 have HB:=Hd_ hb0
 have H24:=Hd_ h24
 clear hv hb0 h24
 go_enter Tryz.func65,Tryz.ntmps65
 go_wp2_with fail
 refine (treeOf_any _ l _ HV.out H24.out).mono ?_
 rintro e w' ⟨⟨ht,rfl⟩ | ⟨r,b,ht,rfl,-⟩,hb⟩
 · have HBB:=Hd_ (below_trans HB.out hb)
   have HT:=Hd_ ht
   clear ht hb HV H24
   go_wp2_with fail
   go_ret
   exact ⟨by rw [HT.out];rfl,HBB.out⟩
 · have HBB:=Hd_ (below_trans HB.out hb)
   have HT:=Hd_ ht
   clear ht hb HV H24
   go_wp2_with fail
   go_ret
   exact ⟨by rw [HT.out];rfl,HBB.out⟩
set_option maxHeartbeats 1000000 in
theorem implValidExpr_any (ss:Value) (l:List Tok) (w:World) (hv:SlE w cEd 4 ss l) :
 Calls Tryz.prog 47 #[.agg #[ss]] w fun e w'=>e=.returned (.bool (exprOk l))/\Below w.heap.size w w':=by
 have hb0:Below w.heap.size w (w.alloc (.cells #[ss] 46)):=(Below.refl _ _).alloc (Nat.le_refl _) _
 have HV:=Hd_ (SlE.keep hv hb0)
 obtain ⟨A,c,rfl,hl,hm,-⟩:=hv
 obtain ⟨n,hn⟩:∃ n,n=l.length:=⟨_,rfl⟩
 rw [<- hn] at hl HV hb0 ⊢
 unfold maxLen at hm
 have HB:=Hd_ hb0
 have HN:=Hd_ hn
 clear hb0 hn
 by_cases h24:n<=24
 · have hii:(n:Int)<=24:=by omega
   have HE:=Hd_ (show exprOk l=(treeL l).isSome by rw [exprOk,decide_eq_true (by rw [<- HN.out];exact h24),Bool.true_and])
   have H24:=Hd_ (show l.length<=24 by rw [<- HN.out];exact h24)
   obtain ⟨bb,hbb⟩:∃ bb,bb=(treeL l).isSome:=⟨_,rfl⟩
   have HBB:=Hd_ hbb
   have HI:=Hd_ (hbb ▸ implIsExpr_any _ l _ HV.out H24.out)
   clear hbb h24 HV
   go_enter Tryz.func47,Tryz.ntmps47
   go_wp2_with fail
   refine HI.out.mono ?_
   rintro e w' ⟨rfl,hb⟩
   have HBC:=Hd_ (below_trans HB.out hb)
   clear hb HI
   go_wp2_with fail
   go_ret
   exact ⟨by rw [HE.out,HBB.out];rfl,HBC.out⟩
 · have hii:¬ (n:Int)<=24:=by omega
   have HE:=Hd_ (show exprOk l=false by rw [exprOk,decide_eq_false (by rw [<- HN.out];exact h24),Bool.false_and])
   clear h24 HV
   go_enter Tryz.func47,Tryz.ntmps47
   go_wp2_with fail
   go_ret
   exact ⟨by rw [HE.out];rfl,HB.out⟩
def EvOut (g:Gr) (l:List Tok) (w:World) (e:Ending) (w':World):Prop:=∃ v',e=.returned (.tuple #[v',.bool (evalE g l).2])/\Own w.heap.size w'.heap.size w' 57 cPr 2 v' (evalE g l).1/\Below w.heap.size w w'
set_option maxRecDepth 100000 in
set_option maxHeartbeats 4000000 in
theorem implEvaluate (vg ss:Value) (g:Gr) (l:List Tok) (w:World) (hgv:GrV 0 w.heap.size w vg g) (hv:SlE w cEd 4 ss l) :
 Calls Tryz.prog 22 #[vg,.agg #[ss]] w (EvOut g l w):=by
 obtain ⟨A1,n1,c1,A2,n2,c2,rfl⟩:=hgv.shape
 obtain ⟨A,n,c,rfl⟩:=hv.shape
 have hal:=((Below.refl w.heap.size w).alloc (Nat.le_refl _) (.cells #[.slice A1 n1 c1,.slice A2 n2 c2] 40)).alloc (by simp) (.cells #[.slice A n c] 46)
 have hgb:=(Blk.new w 40 #[.slice A1 n1 c1,.slice A2 n2 c2] _ rfl).alloc (.cells #[.slice A n c] 46)
 have htb:=Blk.new (w.alloc (.cells #[.slice A1 n1 c1,.slice A2 n2 c2] 40)) 46 #[.slice A n c] (w.heap.size+1) (by simp)
 have HGV:=Hd_ (hgv.keep hal)
 have HV:=Hd_ (SlE.keep hv hal)
 have HAL:=Hd_ hal
 obtain ⟨gq,hgq⟩:∃ gq,gq=w.heap.size:=⟨_,rfl⟩
 obtain ⟨W,hW⟩:∃ W,W=(w.alloc (.cells #[.slice A1 n1 c1,.slice A2 n2 c2] 40)).alloc (.cells #[.slice A n c] 46):=⟨_,rfl⟩
 rw [<- hW] at hgb htb HGV HAL HV
 rw [<- hgq] at hgb htb
 have hHW:=Hd_ hW
 have hHG:=Hd_ hgq
 clear hal hgv hv hW hgq
 have g0:W.cell? ⟨gq,0,none⟩=some (.slice A1 n1 c1):=by exact hgb.cell 0
 have g1:W.cell? ⟨gq,1,none⟩=some (.slice A2 n2 c2):=by exact hgb.cell 1
 have t0:W.cell? ⟨gq+1,0,none⟩=some (.slice A n c):=by exact htb.cell 0
 clear hgb htb
 obtain ⟨bg,hbg⟩:∃ bg,bg=grOk g:=⟨_,rfl⟩
 have HVG:=Hd_ (hbg ▸ implValidGraph _ g _ HGV.out)
 have HBG:=Hd_ hbg
 clear hbg
 go_enter Tryz.func22,Tryz.ntmps22
 go_upto_region 1 with fail
 rw [<- hHW.out]
 rw [<- hHG.out]
 go_wp2_with fail
 refine HVG.out.mono ?_
 rintro e w1 ⟨rfl,hb1⟩
 have g0:=kcell hb1 g0
 have g1:=kcell hb1 g1
 have t0:=kcell hb1 t0
 have HGV:=Hd_ (HGV.out.keep hb1)
 have HV:=Hd_ (SlE.keep HV.out hb1)
 have HAL:=Hd_ (below_trans HAL.out hb1)
 clear hb1 HVG
 cases bg with
 | false =>
   have HL:=Hd_ (eval_noG (l:=l) HBG.out.symm)
   go_wp2_with fail
   go_ret2
   exact ⟨_,by rw [HL.out];rfl,by rw [HL.out];exact Own.nil _ _ _ _ _ _,HAL.out⟩
 | true =>
   obtain ⟨be,hbe⟩:∃ be,be=exprOk l:=⟨_,rfl⟩
   have HVE:=Hd_ (hbe ▸ implValidExpr_any _ l _ HV.out)
   have HBE:=Hd_ hbe
   clear hbe
   go_wp2_with fail
   refine HVE.out.mono ?_
   rintro e w2 ⟨rfl,hb2⟩
   have g0:=kcell hb2 g0
   have g1:=kcell hb2 g1
   have t0:=kcell hb2 t0
   have HGV:=Hd_ (HGV.out.keep hb2)
   have HV:=Hd_ (SlE.keep HV.out hb2)
   have HAL:=Hd_ (below_trans HAL.out hb2)
   clear hb2 HVE
   cases be with
   | false =>
     have HL:=Hd_ (eval_noE (g:=g) HBE.out.symm)
     go_wp2_with fail
     go_ret2
     exact ⟨_,by rw [HL.out];rfl,by rw [HL.out];exact Own.nil _ _ _ _ _ _,HAL.out⟩
   | true =>
     have hk:l.length<=24/\∃ r,treeL l=some r:=by
      have h:=HBE.out.symm
      rw [exprOk,Bool.and_eq_true,decide_eq_true_eq,Option.isSome_iff_exists] at h
      exact h
     obtain ⟨h24,r,hr⟩:=hk
     have HL:=Hd_ (eval_yes HBG.out.symm h24 hr)
     have HOK:=Hd_ (treeL_post hr).1
     have HGO:=Hd_ (grOk_iff.1 HBG.out.symm)
     have H24:=Hd_ h24
     have HR:=Hd_ hr
     clear h24 hr HBE HBG
     go_wp2_with fail
     refine F_start 5 (fun w'=>w'.cell? ⟨gq,0,none⟩=some (.slice A1 n1 c1)/\w'.cell? ⟨gq,1,none⟩=some (.slice A2 n2 c2)/\w'.cell? ⟨gq+1,0,none⟩=some (.slice A n c)) (by kernel_rfl) (by exact ⟨g0,g1,t0⟩) (fun hS inv=>?_)
     refine F_tk 0 inv ?_
     try simp only [tA,tB,tC,Act.put,tE,tF,tG]
     clear inv;intro inv
     refine F_tk 2 inv ?_
     try simp only [tA,tB,tC,Act.put,tE,tF,tG]
     clear inv;intro inv
     have hd:=(Below.refl w2.heap.size w2).drew
     have HGD:=Hd_ (HGV.out.keep hd)
     have HVD:=Hd_ (SlE.keep HV.out hd)
     have HD:=Hd_ (below_trans HAL.out hd)
     clear hd g0 g1 t0 HGV HV HAL
     refine F_o1 1 inv ?_;intro K hK
     try simp only [tA,tB,tC]
     go_simp
     refine (treeOf_any _ l _ HVD.out H24.out).mono ?_
     rintro e w3 ⟨⟨ht,rfl⟩ | ⟨r',b,ht,rfl,htr⟩,hb⟩
     · rw [HR.out] at ht
       cases ht
     · rw [HR.out] at ht
       injection ht with ht
       subst ht
       have HT:=Hd_ htr
       have HB3:=Hd_ hb
       have HGD:=Hd_ (HGD.out.keep hb)
       have HD:=Hd_ (below_trans HD.out hb)
       clear htr hb
       refine hK.out _ _ (⟨kcell HB3.out hS.1,kcell HB3.out hS.2.1,kcell HB3.out hS.2.2⟩) (fun _ _=>?_)
       try simp only [tA,tB,tC,Act.put,tE,tF,tG]
       clear hK K inv hS;rename_i hS inv
       refine F_o1 3 inv ?_;intro K hK
       try simp only [tA,tB,tC]
       go_simp
       refine (relation_any HGO.out HOK.out _ _ _ HT.out HGD.out).mono ?_
       rintro e w4 ⟨v4,rfl,hO,hB⟩
       have HO:=Hd_ (show Own w.heap.size w4.heap.size w4 57 cPr 2 v4 (evalE g l).1 by rw [HL.out];exact hO.mono HD.out.size (Nat.le_refl _))
       have HB4:=Hd_ hB
       have HB:=Hd_ (below_trans HD.out hB)
       clear hO hB
       refine hK.out _ _ (⟨kcell HB4.out hS.1,kcell HB4.out hS.2.1,kcell HB4.out hS.2.2⟩) (fun _ _=>?_)
       try simp only [tA,tB,tC,Act.put,tE,tF,tG]
       clear hK K inv hS;rename_i hS inv
       refine F_o1 4 inv ?_;intro K hK
       try simp only [tA,tB,tC]
       go_simp
       refine hK.out _ _ (hS) (fun _ _=>?_)
       try simp only [tA,tB,tC,Act.put,tE,tF,tG]
       clear hK K inv hS;rename_i hS inv
       refine F_l1 5 ?_;intro K hK
       go_simp
       refine hK _ _ ?_
       clear hK K
       go_wp2_with fail
       go_ret2
       exact ⟨_,by rw [HL.out];rfl,HO.out,HB.out⟩
theorem neqPs (a b:Int) (w:World):(binOp .neq 57 (.agg #[.int .i64 a,.int .i64 b]) (.agg #[.int .i64 a,.int .i64 b])).run Tryz.prog w=.ok (.bool false) w:=by
 rw [run_neq_struct,eqPr]
 simp
set_option maxHeartbeats 1000000 in
theorem specEqualPairs_same (v1 v2:Value) (xs:List Pr) (w:World) (hv1:SlE w cPr 2 v1 xs) (hv2:SlE w cPr 2 v2 xs) :
 Calls Tryz.prog 7 #[v1,v2] w fun e w'=>e=.returned (.bool true)/\Below w.heap.size w w':=by
 have H1:=Hd_ hv1
 have H2:=Hd_ hv2
 obtain ⟨A1,c1,rfl,hl1,hm1,-⟩:=hv1
 obtain ⟨A2,c2,rfl,hl2,hm2,-⟩:=hv2
 unfold maxLen at hm1 hm2
 go_enter Tryz.func7,Tryz.ntmps7
 go_wp2
 go_loopw [5] (fun i wr=>∃ (k:Nat) (u:World),k<=xs.length/\i=.int .i64 k/\wr=ext w u) (fun i _=>xs.length - (intOf i).toNat)
 case atStart=>exact ⟨0,w,Nat.zero_le _,rfl,ext_self w⟩
 case round =>
  obtain ⟨k,u,hk,rfl,rfl⟩:=hrel
  by_cases hlt:k < xs.length
  · have hxk:xs[k]?=some xs[k]:=List.getElem?_eq_getElem hlt
    obtain ⟨b1,o1,rfl,⟨-,hb1⟩,c10,c11⟩:=H1.out.prA hxk
    obtain ⟨b2,o2,rfl,⟨-,hb2⟩,c20,c21⟩:=H2.out.prA hxk
    generalize xs[k]=x at c10 c11 c20 c21
    obtain ⟨xa,xb⟩:=x
    simp only at c10 c11 c20 c21
    have hii:(k:Int) < (xs.length:Int):=by omega
    have hneq:=neqPs xa xb
    clear hxk
    go_wp2
    refine wp_region_ext_lit (by kernel_rfl) (by kernel_rfl) ?_
    repeat (go_big_quiet_step (fail))
    refine wpQuiet_nil ?_
    rintro _ ⟨u2,rfl⟩
    go_wp2
    go_roundw
    case rel =>
     obtain ⟨y,hy⟩:=ext_ext w u u2
     exact ⟨k+1,y,by omega,by go_num,hy⟩
    case measure=>simp [intOf];omega
  · go_wp2
    go_ret
    exact ⟨rfl,ext_below _ _⟩
set_option maxHeartbeats 1000000 in
theorem lawPart_any (va vb:Value) (a b:List Pr) (w:World) (ha:SlE w cPr 2 va a) (hb:SlE w cPr 2 vb b) (hna:a.length<=1048576) (bb:Bool) (hbb:bb=decide (subL a b=[])) :
 Calls Tryz.prog 13 #[va,vb] w fun e w'=>e=.returned (.bool bb)/\Below w.heap.size w w':=by
 have HA:=Hd_ ha
 have HB:=Hd_ hb
 obtain ⟨A1,n1,c1,rfl⟩:=ha.shape
 obtain ⟨A2,n2,c2,rfl⟩:=hb.shape
 have HBB:=Hd_ hbb
 clear ha hb hbb
 go_enter Tryz.func13,Tryz.ntmps13
 go_wp2_with fail
 refine (specSubtract _ _ _ _ _ HA.out HB.out hna).mono ?_
 rintro e w1 ⟨v,rfl,hov,hb1⟩
 obtain ⟨A3,c3,rfl,hl3,hm3,-⟩:=hov.form cPr_len
 have HL:=Hd_ (show bb=decide ((subL a b).length=0) from by rw [HBB.out];simp only [List.length_eq_zero_iff])
 clear hov hl3 hm3
 have h0:=HL.out
 clear HL
 generalize (subL a b).length=n at h0
 cases hn:n with
 | zero =>
   rw [hn] at h0
   obtain rfl:bb=true:=h0
   clear HBB
   subst hn
   go_wp2_with fail
   go_ret
   exact ⟨rfl,hb1⟩
 | succ m =>
   rw [hn] at h0
   obtain rfl:bb=false:=h0
   clear HBB
   subst hn
   have h1:¬ ((m+1:Nat):Int)=0:=by omega
   have h2:(((m+1:Nat):Int)==0)=false:=by simpa using h1
   go_wp2_with fail
   go_ret
   exact ⟨rfl,hb1⟩
end Go.Proofs.YtloeghbhoflabaaGreat
namespace Go.Proofs.YtloeghbhoflabaaGreat
theorem seat_mayEnter:Tryz.pinned.checked.prog.mayEnter=true:=by kernel_rfl
theorem seat_lifts:Tryz.pinned.checked.prog.liftsFinal=false:=by kernel_rfl
theorem seat_laidOut:laidOutB Tryz.pinned.checked.prog=true:=by kernel_rfl
theorem seat_mapsRowed:mapsRowed Tryz.pinned.checked.prog=true:=by kernel_rfl
end Go.Proofs.YtloeghbhoflabaaGreat
