/- Parts of the proof, joined into one text: TimE, ExpE, PosL. -/
import Derived.Test.YthnapjodmndlaaaOnlzALIKEGPF
import Derived.Test.YthnapjodmndlaaaOnlzDGFIJDJD
import Derived.Deep.DeepCutAuto
import Derived.RegionTactic
import Derived.BigRegion
set_option linter.unusedVariables false
set_option linter.unusedSimpArgs false
namespace Go.Proofs.Ythnapjodmndlaaa
open Go.ChangeShapes Go.WideShapes Go.ChangeAt Go.RowKit
attribute [local go_sem] ext_cell ext_frozen ext_lt ext_lt1 ext_lt2 ext_lt3 ltn2 ltn3 ltn13 lts1 lts2 lts3
theorem TkV.drew {lo hi:Nat} {w:World} {v:Value} {l:List Tok} (h:TkV lo hi w v l):TkV lo hi w.drew v l:=h
/-- an expression in the cell q, its tokens apart from it -/
structure CelX (W0 w:World) (q:Nat) (ss:Value) (T:List Tok):Prop where
 blk:Blk w q 76 #[ss]
 row:∃ lo hi,Own lo hi w 86 cEd 4 ss T/\W0.heap.size<=lo/\hi<=w.heap.size
 ge:W0.heap.size<=q
 below:Below W0.heap.size W0 w
theorem CelX.view {W0 w:World} {q:Nat} {ss:Value} {T:List Tok} (h:CelX W0 w q ss T):TkV W0.heap.size w.heap.size w (.agg #[ss]) T:=by
 obtain ⟨lo,hi,h1,h2,h3⟩:=h.row
 exact ⟨ss,rfl,(h1.sl cEd_len).mono h2 h3⟩
theorem CelX.done {W0 w w0:World} {q:Nat} {ss:Value} {T:List Tok} (h:CelX W0 w q ss T) (hb:Below w0.heap.size w0 W0) {r:Nat} (hr:w0.heap.size<=r) (hr2:r < W0.heap.size) (u:Value) :
 TkO w0.heap.size (w.setCell ⟨r,0,none⟩ u).heap.size (w.setCell ⟨r,0,none⟩ u) (.agg #[ss]) T/\Below w0.heap.size w0 (w.setCell ⟨r,0,none⟩ u):=by
 obtain ⟨lo,hi,h1,h2,h3⟩:=h.row
 have ho:=(Only.refl r (r+1) w).setCell (p:=⟨r,0,none⟩) (.inl ⟨Nat.le_refl _,Nat.lt_succ_self _⟩) u
 have hs:=h.below.size
 exact ⟨⟨ss,rfl,(h1.only ho (.inr (by omega))).mono (by omega) (Nat.le_trans h3 ho.size)⟩,(below_trans hb h.below).setCell (p:=⟨r,0,none⟩) hr _⟩
set_option maxHeartbeats 8000000 in
theorem l10Times_any (a:Tr) (hla:(post a).length<=5000):∀ (h low:Nat) (va:Value) (w:World),TkV 0 w.heap.size w va (post a)->h<=3->low<=3 ->
 Calls Try.prog 66 #[va,.int .i64 (low:Int),.int .i64 (h:Int)] w fun e w'=>∃ v,e=.returned v/\TkO w.heap.size w'.heap.size w' v (post (timesT a low h))/\Below w.heap.size w w'
 | 0,low,va,w,hva,_,_=>by
   rw [timesT,post]
   obtain ⟨sa,rfl,hsa⟩:=hva
   obtain ⟨A1,n1,c1,rfl⟩:=hsa.shape
   have hb0:=((Below.refl w.heap.size w).alloc (Nat.le_refl _) (.cells #[.slice A1 n1 c1] 76)).alloc (by simp) (.cells #[.slice none 0 0] 76)
   have hbr:=Blk.new (w.alloc (.cells #[.slice A1 n1 c1] 76)) 76 #[.slice none 0 0] (w.heap.size+1) (by simp)
   clear hsa
   go_enter Try.func66,Try.ntmps66
   go_wp2_with fail
   generalize ((w.alloc (.cells #[.slice A1 n1 c1] 76)).alloc (.cells #[.slice none 0 0] 76))=W0 at *
   refine (l8Leaf_any 2 _).mono ?_
   rintro e w1 ⟨v1,rfl,⟨s1,rfl,h1⟩,hb1⟩
   obtain ⟨A3,n3,c3,rfl⟩:=h1.shape
   have hbr1:=hbr.keep hb1
   have z0:w1.cell? ⟨w.heap.size+1,0,none⟩=some (.slice none 0 0):=hbr1.cell 0
   have v0:=hbr1.frozen 0
   have hlr:=hbr1.lt
   have hlr0:=hbr.lt
   have ho:=(Only.refl (w.heap.size+1) (w.heap.size+2) w1).setCell (p:=⟨w.heap.size+1,0,none⟩) (.inl ⟨Nat.le_refl _,Nat.lt_succ_self _⟩) (.slice A3 n3 c3)
   have HO:=Hd_ ((h1.only ho (.inr (by omega))).mono (lo':=w.heap.size) (by omega) ho.size)
   have HB:=Hd_ ((below_trans hb0 hb1).setCell (p:=⟨w.heap.size+1,0,none⟩) (by simp only;omega) (.slice A3 n3 c3))
   clear h1 hb1 hbr hbr1 hb0 ho
   go_wp2_with fail
   exact bodyPost_ret (v:=.agg #[.slice A3 n3 c3]) (by simp [results,Try.results66,go_sem,z0,v0,hlr]) rfl ⟨_,rfl,⟨_,rfl,HO.out⟩,HB.out⟩
 | h+1,low,va,w,hva,hh,hlo=>by
   obtain ⟨T1,hT1⟩:∃ T1,T1=post (timesT a (low - 1) h):=⟨_,rfl⟩
   have hTl:T1.length<=20000:=by
    have:=timesT_len a h (low - 1)
    have h2:((post a).length+3) * h<=5003 * 3:=Nat.mul_le_mul (by omega) (by omega)
    rw [hT1];omega
   obtain ⟨sa,rfl,hsa⟩:=hva
   obtain ⟨A1,n1,c1,rfl⟩:=hsa.shape
   have hva:TkV 0 w.heap.size w (.agg #[.slice A1 n1 c1]) (post a):=⟨_,rfl,hsa⟩
   have hb0:=((Below.refl w.heap.size w).alloc (Nat.le_refl _) (.cells #[.slice A1 n1 c1] 76)).alloc (by simp) (.cells #[.slice none 0 0] 76)
   have hbx:=(Blk.new w 76 #[.slice A1 n1 c1] _ rfl).alloc (.cells #[.slice none 0 0] 76)
   have hbr:=Blk.new (w.alloc (.cells #[.slice A1 n1 c1] 76)) 76 #[.slice none 0 0] (w.heap.size+1) (by simp)
   have hds:((h:Int)+1==0)=false:=by simp;omega
   have hs0:((w.alloc (.cells #[.slice A1 n1 c1] 76)).alloc (.cells #[.slice none 0 0] 76)).heap.size=w.heap.size+2:=by simp
   clear hsa
   rcases low with _ | l
   · have HT:Hid (post (timesT a 0 (h+1))=(post a ++ T1 ++ [(4,0,0,0)]) ++ [(2,0,0,0)] ++ [(5,0,0,0)]):=Hd_ (by rw [hT1];simp [timesT,post,tCat,tAlt,tEmp])
     rw [HT.out]
     simp only [Nat.zero_sub] at hT1
     go_enter Try.func66,Try.ntmps66
     go_upto_region 3 with fail
     generalize ((w.alloc (.cells #[.slice A1 n1 c1] 76)).alloc (.cells #[.slice none 0 0] 76))=W0 at *
     have x0:W0.cell? ⟨w.heap.size,0,none⟩=some (.slice A1 n1 c1):=hbx.cell 0
     have HIH:=Hd_ (show ∀ (W:World) (z z':Int),z=0->z'=(h:Int)->Below W0.heap.size W0 W->Calls Try.prog 66 #[.agg #[.slice A1 n1 c1],.int .i64 z,.int .i64 z'] W fun e w'=>∃ v,e=.returned v/\TkO W.heap.size w'.heap.size w' v T1/\Below W.heap.size W w' from
      fun W z z' hz hz' hW=>by rw [hz,hz',hT1];exact l10Times_any a hla h 0 _ W (hva.keep (below_trans hb0 hW)) (by omega) (by omega))
     have HVA:=Hd_ (hva.keep hb0)
     have HBR:=Hd_ hbr
     have HB0:=Hd_ hb0
     have hs1:w.heap.size+1 < W0.heap.size:=by omega
     clear hT1 hva hb0 hbx hbr hs0
     go_wp2_with fail
     go_cut [7] (fun p wx=>∃ (q:Nat) (A:Option Addr) (n c:Nat),p=.pointer (some ⟨q,0,none⟩)/\CelX W0 wx q (.slice A n c) (post a ++ T1 ++ [(4,0,0,0)]))
     case first =>
      refine F_start 11 (fun w'=>w'.cell? ⟨w.heap.size,0,none⟩=some (.slice A1 n1 c1)) (by kernel_rfl) (by exact x0) (fun hS inv=>?_)
      refine F_tk 0 inv ?_
      try simp only [tA,tB,tC,Act.put,tE,tF,tG]
      clear inv;intro inv
      refine F_tk 1 inv ?_
      try simp only [tA,tB,tC,Act.put,tE,tF,tG]
      clear inv;intro inv
      refine F_tk 2 inv ?_
      try simp only [tA,tB,tC,Act.put,tE,tF,tG]
      clear inv;intro inv
      refine F_tk 3 inv ?_
      try simp only [tA,tB,tC,Act.put,tE,tF,tG]
      clear inv;intro inv
      refine F_tk 4 inv ?_
      try simp only [tA,tB,tC,Act.put,tE,tF,tG]
      clear inv;intro inv
      refine F_tk 5 inv ?_
      try simp only [tA,tB,tC,Act.put,tE,tF,tG]
      clear inv;intro inv
      refine F_tk 6 inv ?_
      try simp only [tA,tB,tC,Act.put,tE,tF,tG]
      clear inv;intro inv
      refine F_tk 8 inv ?_
      try simp only [tA,tB,tC,Act.put,tE,tF,tG]
      clear inv;intro inv
      have hbd:Below W0.heap.size W0 W0.drew:=(Below.refl _ _).drew
      refine F_two (i:=7) (j:=10) (by kernel_rfl) rfl rfl rfl rfl (by omega) inv (fun K hK=>?_) (fun K hK=>?_)
      all_goals (try simp only [tA,tB,tC])
      · go_simp
        refine (HIH.out _ _ _ (by first | rfl | (rw [IntWalk.i64_in _ (by omega)];first | done | (split <;> omega) | omega)) (by rw [IntWalk.i64_in _ (by omega)]) hbd).mono ?_
        rintro e w2 ⟨v2,rfl,h2,hb2⟩
        have hp:=below_trans hbd hb2
        have H2:=Hd_ (h2.view.mono (Nat.zero_le _) (Nat.le_refl _))
        refine hK.out _ _ (kcell hb2 hS) (fun _ _=>?_)
        try simp only [tA,tB,tC,Act.put,tE,tF,tG]
        clear hK K inv hS;rename_i hS inv
        clear h2 hb2
        refine F_two (i:=9) (j:=10) (by kernel_rfl) rfl rfl rfl rfl (by omega) inv (fun K hK=>?_) (fun K hK=>?_)
        all_goals (try simp only [tA,tB,tC])
        · go_simp
          refine (l8Join_any _ _ (post a) T1 (4,0,0,0) _ (HVA.out.keep hp) H2.out (by omega) (by omega)).mono ?_
          rintro e w3 ⟨v3,rfl,⟨s3,rfl,h3⟩,hb3⟩
          obtain ⟨A3,n3,c3,rfl⟩:=h3.shape
          have hp3:=below_trans hp hb3
          refine hK.out _ _ (kcell hb3 hS) (fun _ _=>?_)
          try simp only [tA,tB,tC,Act.put,tE,tF,tG]
          clear hK K inv hS;rename_i hS inv
          refine F_o1 10 inv ?_;intro K hK
          try simp only [tA,tB,tC]
          go_simp
          have hal:=(Below.refl w3.heap.size w3).alloc (Nat.le_refl _) (.cells #[.slice none 0 0] 76)
          refine hK.out _ _ (kcell hal hS) (fun _ _=>?_)
          try simp only [tA,tB,tC,Act.put,tE,tF,tG]
          clear hK K inv hS;rename_i hS inv
          refine F_l1 11 ?_;intro K hK
          go_simp
          refine hK _ _ ?_
          clear hK K inv hS
          have hal2:=(Below.refl w3.heap.size w3).alloc (Nat.le_refl _) (.cells #[.slice A3 n3 c3] 76)
          have hcx:CelX W0 (w3.alloc (.cells #[.slice A3 n3 c3] 76)) w3.heap.size (.slice A3 n3 c3) (post a ++ T1 ++ [(4,0,0,0)]):=⟨Blk.new _ _ _ _ rfl,⟨_,_,h3.below hal2 (Nat.le_refl _),hp.size,hal2.size⟩,hp3.size,below_trans hp3 hal2⟩
          go_wp2_with fail
          all_goals (go_meet;exact ⟨_,_,_,_,rfl,hcx⟩)
        · go_simp
          have hal:=(Below.refl w2.heap.size w2).alloc (Nat.le_refl _) (.cells #[.slice none 0 0] 76)
          have hbz:=Blk.new w2 76 #[.slice none 0 0] w2.heap.size rfl
          have hpa:=below_trans hp hal
          refine hK.out _ _ (kcell hal hS) (fun _ _=>?_)
          try simp only [tA,tB,tC,Act.put,tE,tF,tG]
          clear hK K inv hS;rename_i hS inv
          refine F_o1 9 inv ?_;intro K hK
          try simp only [tA,tB,tC]
          go_simp
          refine (l8Join_any _ _ (post a) T1 (4,0,0,0) _ (HVA.out.keep hpa) (H2.out.keep hal) (by omega) (by omega)).mono ?_
          rintro e w3 ⟨v3,rfl,⟨s3,rfl,h3⟩,hb3⟩
          obtain ⟨A3,n3,c3,rfl⟩:=h3.shape
          have hp3:=below_trans hpa hb3
          have hbz3:=hbz.keep hb3
          have z0:w3.cell? ⟨w2.heap.size,0,none⟩=some (.slice none 0 0):=hbz3.cell 0
          have v0:=hbz3.frozen 0
          have hlz:=hbz3.lt
          have hzl:w2.heap.size < (w2.alloc (.cells #[.slice none 0 0] 76)).heap.size:=hbz.lt
          refine hK.out _ _ (kcell hb3 hS) (fun _ _=>?_)
          try simp only [tA,tB,tC,Act.put,tE,tF,tG]
          clear hK K inv hS;rename_i hS inv
          refine F_l1 11 ?_;intro K hK
          go_simp
          refine hK _ _ ?_
          clear hK K inv hS
          have hcx:CelX W0 (w3.setCell ⟨w2.heap.size,0,none⟩ (.slice A3 n3 c3)) w2.heap.size (.slice A3 n3 c3) (post a ++ T1 ++ [(4,0,0,0)]) :=
           ⟨hbz3.set_ 0 _,⟨_,_,h3.only ((Only.refl w2.heap.size (w2.heap.size+1) w3).setCell (p:=⟨w2.heap.size,0,none⟩) (.inl ⟨Nat.le_refl _,Nat.lt_succ_self _⟩) _) (.inr hzl),hpa.size,by simp [World.setCell]⟩,hp.size,hp3.setCell (p:=⟨w2.heap.size,0,none⟩) hp.size _⟩
          go_wp2_with fail
          all_goals (go_meet;exact ⟨_,_,_,_,rfl,hcx⟩)
      · go_simp
        have hal:=((Below.refl W0.heap.size W0).alloc (Nat.le_refl _) (.cells #[.slice none 0 0] 76)).drew
        have hbz:Blk (W0.alloc (.cells #[.slice none 0 0] 76)).drew W0.heap.size 76 #[.slice none 0 0]:=Blk.new W0 76 #[.slice none 0 0] W0.heap.size rfl
        refine hK.out _ _ (kcell hal hS) (fun _ _=>?_)
        try simp only [tA,tB,tC,Act.put,tE,tF,tG]
        clear hK K inv hS;rename_i hS inv
        refine F_o1 7 inv ?_;intro K hK
        try simp only [tA,tB,tC]
        go_simp
        refine (HIH.out _ _ _ (by first | rfl | (rw [IntWalk.i64_in _ (by omega)];first | done | (split <;> omega) | omega)) (by rw [IntWalk.i64_in _ (by omega)]) hal).mono ?_
        rintro e w2 ⟨v2,rfl,h2,hb2⟩
        have hp:=below_trans hal hb2
        have H2:=Hd_ (h2.view.mono (Nat.zero_le _) (Nat.le_refl _))
        have hbz2:=hbz.keep hb2
        refine hK.out _ _ (kcell hb2 hS) (fun _ _=>?_)
        try simp only [tA,tB,tC,Act.put,tE,tF,tG]
        clear hK K inv hS;rename_i hS inv
        clear h2 hb2
        refine F_o1 9 inv ?_;intro K hK
        try simp only [tA,tB,tC]
        go_simp
        refine (l8Join_any _ _ (post a) T1 (4,0,0,0) _ (HVA.out.keep hp) H2.out (by omega) (by omega)).mono ?_
        rintro e w3 ⟨v3,rfl,⟨s3,rfl,h3⟩,hb3⟩
        obtain ⟨A3,n3,c3,rfl⟩:=h3.shape
        have hp3:=below_trans hp hb3
        have hbz3:=hbz2.keep hb3
        have z0:w3.cell? ⟨W0.heap.size,0,none⟩=some (.slice none 0 0):=hbz3.cell 0
        have v0:=hbz3.frozen 0
        have hlz:=hbz3.lt
        have hzl:W0.heap.size < w2.heap.size:=hbz2.lt
        refine hK.out _ _ (kcell hb3 hS) (fun _ _=>?_)
        try simp only [tA,tB,tC,Act.put,tE,tF,tG]
        clear hK K inv hS;rename_i hS inv
        refine F_l1 11 ?_;intro K hK
        go_simp
        refine hK _ _ ?_
        clear hK K inv hS
        have hcx:CelX W0 (w3.setCell ⟨W0.heap.size,0,none⟩ (.slice A3 n3 c3)) W0.heap.size (.slice A3 n3 c3) (post a ++ T1 ++ [(4,0,0,0)]) :=
         ⟨hbz3.set_ 0 _,⟨_,_,h3.only ((Only.refl W0.heap.size (W0.heap.size+1) w3).setCell (p:=⟨W0.heap.size,0,none⟩) (.inl ⟨Nat.le_refl _,Nat.lt_succ_self _⟩) _) (.inr hzl),hp.size,by simp [World.setCell]⟩,Nat.le_refl _,hp3.setCell (p:=⟨W0.heap.size,0,none⟩) (Nat.le_refl _) _⟩
        go_wp2_with fail
        all_goals (go_meet;exact ⟨_,_,_,_,rfl,hcx⟩)
     case rest =>
      obtain ⟨q,A,n,c,rfl,hcx⟩:=hcut
      have HCX:=Hd_ hcx
      have y0:wc.cell? ⟨q,0,none⟩=some (.slice A n c):=hcx.blk.cell 0
      have hbr:=HBR.out.keep hcx.below
      have z0:wc.cell? ⟨w.heap.size+1,0,none⟩=some (.slice none 0 0):=hbr.cell 0
      have v0:=hbr.frozen 0
      have hlr:=hbr.lt
      clear hcx x0
      obtain ⟨T2,hT2⟩:∃ T2,T2=post a ++ T1 ++ [(4,0,0,0)]:=⟨_,rfl⟩
      have HT2:=Hd_ hT2
      have HVW:=Hd_ (show TkV 0 wc.heap.size wc (.agg #[.slice A n c]) T2 by rw [hT2];exact HCX.out.view.mono (Nat.zero_le _) (Nat.le_refl _))
      have hl2:T2.length<=30000:=by rw [hT2];simp;omega
      clear hT2
      go_wp2_with fail
      refine F_start 4 (fun w'=>w'.cell? ⟨q,0,none⟩=some (.slice A n c)) (by kernel_rfl) (by exact y0) (fun hS inv=>?_)
      refine F_tk 0 inv ?_
      try simp only [tA,tB,tC,Act.put,tE,tF,tG]
      clear inv;intro inv
      refine F_tk 2 inv ?_
      try simp only [tA,tB,tC,Act.put,tE,tF,tG]
      clear inv;intro inv
      have hbd:Below wc.heap.size wc wc.drew:=(Below.refl _ _).drew
      refine F_o1 1 inv ?_;intro K hK
      try simp only [tA,tB,tC]
      go_simp
      refine (l8Leaf_any 2 _).mono ?_
      rintro e w5 ⟨v5,rfl,h5,hb5⟩
      have hp5:=below_trans hbd hb5
      refine hK.out _ _ (kcell hb5 hS) (fun _ _=>?_)
      try simp only [tA,tB,tC,Act.put,tE,tF,tG]
      clear hK K inv hS;rename_i hS inv
      refine F_o1 3 inv ?_;intro K hK
      try simp only [tA,tB,tC]
      go_simp
      refine (l8Join_any _ _ T2 [(2,0,0,0)] (5,0,0,0) _ (HVW.out.keep hp5) (h5.view.mono (Nat.zero_le _) (Nat.le_refl _)) (by omega) (by simp)).mono ?_
      rintro e w6 ⟨v6,rfl,⟨s6,rfl,h6⟩,hb6⟩
      obtain ⟨A6,n6,c6,rfl⟩:=h6.shape
      have hp6:=below_trans hp5 hb6
      refine hK.out _ _ (kcell hb6 hS) (fun _ _=>?_)
      try simp only [tA,tB,tC,Act.put,tE,tF,tG]
      clear hK K inv hS;rename_i hS inv
      have hbr6:=hbr.keep hp6
      have z6:w6.cell? ⟨w.heap.size+1,0,none⟩=some (.slice none 0 0):=hbr6.cell 0
      have v6:=hbr6.frozen 0
      have hlr6:=hbr6.lt
      clear z0 v0 hlr
      refine F_l1 4 ?_;intro K hK
      go_simp
      refine hK _ _ ?_
      clear hK K inv hS
      have hpc:=HCX.out.below.size
      have hps:=hp5.size
      have ho:=(Only.refl (w.heap.size+1) (w.heap.size+2) w6).setCell (p:=⟨w.heap.size+1,0,none⟩) (.inl ⟨Nat.le_refl _,Nat.lt_succ_self _⟩) (.slice A6 n6 c6)
      have HO:=Hd_ ((h6.only ho (.inr (by omega))).mono (lo':=w.heap.size) (by omega) ho.size)
      have HB:=Hd_ ((below_trans (below_trans HB0.out HCX.out.below) hp6).setCell (p:=⟨w.heap.size+1,0,none⟩) (by simp only;omega) (.slice A6 n6 c6))
      clear h6 hb6 ho hp6 hp5
      go_wp2_with fail
      refine bodyPost_ret (v:=.agg #[.slice A6 n6 c6]) (by simp [results,Try.results66,go_sem,z6,v6,hlr6]) rfl ⟨_,rfl,⟨_,rfl,?_⟩,HB.out⟩
      rw [<- HT2.out]
      exact HO.out
   · have HT:Hid (post (timesT a (l+1) (h+1))=post a ++ T1 ++ [(4,0,0,0)]):=Hd_ (by rw [hT1];simp [timesT,post,tCat,tAlt,tEmp])
     rw [HT.out]
     rw [Nat.add_sub_cancel] at hT1
     go_enter Try.func66,Try.ntmps66
     go_upto_region 3 with fail
     generalize ((w.alloc (.cells #[.slice A1 n1 c1] 76)).alloc (.cells #[.slice none 0 0] 76))=W0 at *
     have x0:W0.cell? ⟨w.heap.size,0,none⟩=some (.slice A1 n1 c1):=hbx.cell 0
     have HIH:=Hd_ (show ∀ (W:World) (z z':Int),z=(l:Int)->z'=(h:Int)->Below W0.heap.size W0 W->Calls Try.prog 66 #[.agg #[.slice A1 n1 c1],.int .i64 z,.int .i64 z'] W fun e w'=>∃ v,e=.returned v/\TkO W.heap.size w'.heap.size w' v T1/\Below W.heap.size W w' from
      fun W z z' hz hz' hW=>by rw [hz,hz',hT1];exact l10Times_any a hla h l _ W (hva.keep (below_trans hb0 hW)) (by omega) (by omega))
     have HVA:=Hd_ (hva.keep hb0)
     have HBR:=Hd_ hbr
     have HB0:=Hd_ hb0
     have hs1:w.heap.size+1 < W0.heap.size:=by omega
     clear hT1 hva hb0 hbx hbr hs0
     go_wp2_with fail
     go_cut [7] (fun p wx=>∃ (q:Nat) (A:Option Addr) (n c:Nat),p=.pointer (some ⟨q,0,none⟩)/\CelX W0 wx q (.slice A n c) (post a ++ T1 ++ [(4,0,0,0)]))
     case first =>
      refine F_start 11 (fun w'=>w'.cell? ⟨w.heap.size,0,none⟩=some (.slice A1 n1 c1)) (by kernel_rfl) (by exact x0) (fun hS inv=>?_)
      refine F_tk 0 inv ?_
      try simp only [tA,tB,tC,Act.put,tE,tF,tG]
      clear inv;intro inv
      refine F_tk 1 inv ?_
      try simp only [tA,tB,tC,Act.put,tE,tF,tG]
      clear inv;intro inv
      refine F_tk 2 inv ?_
      try simp only [tA,tB,tC,Act.put,tE,tF,tG]
      clear inv;intro inv
      refine F_tk 3 inv ?_
      try simp only [tA,tB,tC,Act.put,tE,tF,tG]
      clear inv;intro inv
      refine F_tk 4 inv ?_
      try simp only [tA,tB,tC,Act.put,tE,tF,tG]
      clear inv;intro inv
      refine F_tk 5 inv ?_
      try simp only [tA,tB,tC,Act.put,tE,tF,tG]
      clear inv;intro inv
      refine F_tk 6 inv ?_
      try simp only [tA,tB,tC,Act.put,tE,tF,tG]
      clear inv;intro inv
      refine F_tk 8 inv ?_
      try simp only [tA,tB,tC,Act.put,tE,tF,tG]
      clear inv;intro inv
      have hbd:Below W0.heap.size W0 W0.drew:=(Below.refl _ _).drew
      refine F_two (i:=7) (j:=10) (by kernel_rfl) rfl rfl rfl rfl (by omega) inv (fun K hK=>?_) (fun K hK=>?_)
      all_goals (try simp only [tA,tB,tC])
      · go_simp
        refine (HIH.out _ _ _ (by first | rfl | (rw [IntWalk.i64_in _ (by omega)];first | done | (split <;> omega) | omega)) (by rw [IntWalk.i64_in _ (by omega)]) hbd).mono ?_
        rintro e w2 ⟨v2,rfl,h2,hb2⟩
        have hp:=below_trans hbd hb2
        have H2:=Hd_ (h2.view.mono (Nat.zero_le _) (Nat.le_refl _))
        refine hK.out _ _ (kcell hb2 hS) (fun _ _=>?_)
        try simp only [tA,tB,tC,Act.put,tE,tF,tG]
        clear hK K inv hS;rename_i hS inv
        clear h2 hb2
        refine F_two (i:=9) (j:=10) (by kernel_rfl) rfl rfl rfl rfl (by omega) inv (fun K hK=>?_) (fun K hK=>?_)
        all_goals (try simp only [tA,tB,tC])
        · go_simp
          refine (l8Join_any _ _ (post a) T1 (4,0,0,0) _ (HVA.out.keep hp) H2.out (by omega) (by omega)).mono ?_
          rintro e w3 ⟨v3,rfl,⟨s3,rfl,h3⟩,hb3⟩
          obtain ⟨A3,n3,c3,rfl⟩:=h3.shape
          have hp3:=below_trans hp hb3
          refine hK.out _ _ (kcell hb3 hS) (fun _ _=>?_)
          try simp only [tA,tB,tC,Act.put,tE,tF,tG]
          clear hK K inv hS;rename_i hS inv
          refine F_o1 10 inv ?_;intro K hK
          try simp only [tA,tB,tC]
          go_simp
          have hal:=(Below.refl w3.heap.size w3).alloc (Nat.le_refl _) (.cells #[.slice none 0 0] 76)
          refine hK.out _ _ (kcell hal hS) (fun _ _=>?_)
          try simp only [tA,tB,tC,Act.put,tE,tF,tG]
          clear hK K inv hS;rename_i hS inv
          refine F_l1 11 ?_;intro K hK
          go_simp
          refine hK _ _ ?_
          clear hK K inv hS
          have hal2:=(Below.refl w3.heap.size w3).alloc (Nat.le_refl _) (.cells #[.slice A3 n3 c3] 76)
          have hcx:CelX W0 (w3.alloc (.cells #[.slice A3 n3 c3] 76)) w3.heap.size (.slice A3 n3 c3) (post a ++ T1 ++ [(4,0,0,0)]):=⟨Blk.new _ _ _ _ rfl,⟨_,_,h3.below hal2 (Nat.le_refl _),hp.size,hal2.size⟩,hp3.size,below_trans hp3 hal2⟩
          go_wp2_with fail
          all_goals (go_meet;exact ⟨_,_,_,_,rfl,hcx⟩)
        · go_simp
          have hal:=(Below.refl w2.heap.size w2).alloc (Nat.le_refl _) (.cells #[.slice none 0 0] 76)
          have hbz:=Blk.new w2 76 #[.slice none 0 0] w2.heap.size rfl
          have hpa:=below_trans hp hal
          refine hK.out _ _ (kcell hal hS) (fun _ _=>?_)
          try simp only [tA,tB,tC,Act.put,tE,tF,tG]
          clear hK K inv hS;rename_i hS inv
          refine F_o1 9 inv ?_;intro K hK
          try simp only [tA,tB,tC]
          go_simp
          refine (l8Join_any _ _ (post a) T1 (4,0,0,0) _ (HVA.out.keep hpa) (H2.out.keep hal) (by omega) (by omega)).mono ?_
          rintro e w3 ⟨v3,rfl,⟨s3,rfl,h3⟩,hb3⟩
          obtain ⟨A3,n3,c3,rfl⟩:=h3.shape
          have hp3:=below_trans hpa hb3
          have hbz3:=hbz.keep hb3
          have z0:w3.cell? ⟨w2.heap.size,0,none⟩=some (.slice none 0 0):=hbz3.cell 0
          have v0:=hbz3.frozen 0
          have hlz:=hbz3.lt
          have hzl:w2.heap.size < (w2.alloc (.cells #[.slice none 0 0] 76)).heap.size:=hbz.lt
          refine hK.out _ _ (kcell hb3 hS) (fun _ _=>?_)
          try simp only [tA,tB,tC,Act.put,tE,tF,tG]
          clear hK K inv hS;rename_i hS inv
          refine F_l1 11 ?_;intro K hK
          go_simp
          refine hK _ _ ?_
          clear hK K inv hS
          have hcx:CelX W0 (w3.setCell ⟨w2.heap.size,0,none⟩ (.slice A3 n3 c3)) w2.heap.size (.slice A3 n3 c3) (post a ++ T1 ++ [(4,0,0,0)]) :=
           ⟨hbz3.set_ 0 _,⟨_,_,h3.only ((Only.refl w2.heap.size (w2.heap.size+1) w3).setCell (p:=⟨w2.heap.size,0,none⟩) (.inl ⟨Nat.le_refl _,Nat.lt_succ_self _⟩) _) (.inr hzl),hpa.size,by simp [World.setCell]⟩,hp.size,hp3.setCell (p:=⟨w2.heap.size,0,none⟩) hp.size _⟩
          go_wp2_with fail
          all_goals (go_meet;exact ⟨_,_,_,_,rfl,hcx⟩)
      · go_simp
        have hal:=((Below.refl W0.heap.size W0).alloc (Nat.le_refl _) (.cells #[.slice none 0 0] 76)).drew
        have hbz:Blk (W0.alloc (.cells #[.slice none 0 0] 76)).drew W0.heap.size 76 #[.slice none 0 0]:=Blk.new W0 76 #[.slice none 0 0] W0.heap.size rfl
        refine hK.out _ _ (kcell hal hS) (fun _ _=>?_)
        try simp only [tA,tB,tC,Act.put,tE,tF,tG]
        clear hK K inv hS;rename_i hS inv
        refine F_o1 7 inv ?_;intro K hK
        try simp only [tA,tB,tC]
        go_simp
        refine (HIH.out _ _ _ (by first | rfl | (rw [IntWalk.i64_in _ (by omega)];first | done | (split <;> omega) | omega)) (by rw [IntWalk.i64_in _ (by omega)]) hal).mono ?_
        rintro e w2 ⟨v2,rfl,h2,hb2⟩
        have hp:=below_trans hal hb2
        have H2:=Hd_ (h2.view.mono (Nat.zero_le _) (Nat.le_refl _))
        have hbz2:=hbz.keep hb2
        refine hK.out _ _ (kcell hb2 hS) (fun _ _=>?_)
        try simp only [tA,tB,tC,Act.put,tE,tF,tG]
        clear hK K inv hS;rename_i hS inv
        clear h2 hb2
        refine F_o1 9 inv ?_;intro K hK
        try simp only [tA,tB,tC]
        go_simp
        refine (l8Join_any _ _ (post a) T1 (4,0,0,0) _ (HVA.out.keep hp) H2.out (by omega) (by omega)).mono ?_
        rintro e w3 ⟨v3,rfl,⟨s3,rfl,h3⟩,hb3⟩
        obtain ⟨A3,n3,c3,rfl⟩:=h3.shape
        have hp3:=below_trans hp hb3
        have hbz3:=hbz2.keep hb3
        have z0:w3.cell? ⟨W0.heap.size,0,none⟩=some (.slice none 0 0):=hbz3.cell 0
        have v0:=hbz3.frozen 0
        have hlz:=hbz3.lt
        have hzl:W0.heap.size < w2.heap.size:=hbz2.lt
        refine hK.out _ _ (kcell hb3 hS) (fun _ _=>?_)
        try simp only [tA,tB,tC,Act.put,tE,tF,tG]
        clear hK K inv hS;rename_i hS inv
        refine F_l1 11 ?_;intro K hK
        go_simp
        refine hK _ _ ?_
        clear hK K inv hS
        have hcx:CelX W0 (w3.setCell ⟨W0.heap.size,0,none⟩ (.slice A3 n3 c3)) W0.heap.size (.slice A3 n3 c3) (post a ++ T1 ++ [(4,0,0,0)]) :=
         ⟨hbz3.set_ 0 _,⟨_,_,h3.only ((Only.refl W0.heap.size (W0.heap.size+1) w3).setCell (p:=⟨W0.heap.size,0,none⟩) (.inl ⟨Nat.le_refl _,Nat.lt_succ_self _⟩) _) (.inr hzl),hp.size,by simp [World.setCell]⟩,Nat.le_refl _,hp3.setCell (p:=⟨W0.heap.size,0,none⟩) (Nat.le_refl _) _⟩
        go_wp2_with fail
        all_goals (go_meet;exact ⟨_,_,_,_,rfl,hcx⟩)
     case rest =>
      obtain ⟨q,A,n,c,rfl,hcx⟩:=hcut
      have HCX:=Hd_ hcx
      have y0:wc.cell? ⟨q,0,none⟩=some (.slice A n c):=hcx.blk.cell 0
      have hbr:=HBR.out.keep hcx.below
      have z0:wc.cell? ⟨w.heap.size+1,0,none⟩=some (.slice none 0 0):=hbr.cell 0
      have v0:=hbr.frozen 0
      have hlr:=hbr.lt
      clear hcx x0
      have HD:=HCX.out.done HB0.out (r:=w.heap.size+1) (by omega) hs1 (.slice A n c)
      have hl0:0 < (l:Int)+1:=by omega
      go_wp2_with fail
      exact bodyPost_ret (v:=.agg #[.slice A n c]) (by simp [results,Try.results66,go_sem,z0,v0,hlr]) rfl ⟨_,rfl,HD.1,HD.2⟩
theorem tko_done {w0 w:World} {r:Nat} {ss:Value} {l:List Tok} {lo:Nat} (h:Own lo w.heap.size w 86 cEd 4 ss l) (hb:Below w0.heap.size w0 w) (hr:w0.heap.size<=r) (hlo:r < lo) (u:Value) :
 TkO w0.heap.size (w.setCell ⟨r,0,none⟩ u).heap.size (w.setCell ⟨r,0,none⟩ u) (.agg #[ss]) l/\Below w0.heap.size w0 (w.setCell ⟨r,0,none⟩ u):=by
 have ho:=(Only.refl r (r+1) w).setCell (p:=⟨r,0,none⟩) (.inl ⟨Nat.le_refl _,Nat.lt_succ_self _⟩) u
 exact ⟨⟨ss,rfl,(h.only ho (.inr (by omega))).mono (by omega) ho.size⟩,hb.setCell (p:=⟨r,0,none⟩) hr _⟩
set_option maxRecDepth 100000 in
set_option maxHeartbeats 8000000 in
theorem l10Expand_any:∀ (r:Tr) (ss:Value) (w:World),r.ok->SlE w cEd 4 ss (post r)->(post r).length<=1048576->sizeT r<=5000 ->
 Calls Try.prog 57 #[ss] w fun e w'=>∃ v,e=.returned v/\TkO w.heap.size w'.heap.size w' v (post (expT r))/\Below w.heap.size w w'
 | .leaf t,ss,w,hr,hsl,hlen,hsz=>by
   obtain ⟨t0,t1,t2,t3⟩:=t
   have hk:=ar_leaf hr
   simp only at hk
   rw [expT,post]
   rw [post] at hsl
   obtain ⟨A,c,rfl,hl,hm,hx⟩:=hsl
   unfold maxLen at hm
   obtain ⟨q,o,rfl,-,hq,hcc⟩:=hx 0 (t0,t1,t2,t3) rfl
   have e0:=hcc 0 _ rfl
   have e1:=hcc 1 _ rfl
   have e2:=hcc 2 _ rfl
   have e3:=hcc 3 _ rfl
   simp only [Nat.add_zero,Nat.zero_mul,Nat.add_zero] at e0 e1 e2 e3
   clear hx hcc hlen hr hsz
   have hb0:=((Below.refl w.heap.size w).alloc (Nat.le_refl _) (.cells #[.slice none 0 0] 76)).alloc (by simp) (.cells #[.int .i64 t0,.int .i64 t1,.int .i64 t2,.int .i64 t3] 86)
   have hbr:=(Blk.new w 76 #[.slice none 0 0] _ rfl).alloc (.cells #[.int .i64 t0,.int .i64 t1,.int .i64 t2,.int .i64 t3] 86)
   have hbt:=Blk.new (w.alloc (.cells #[.slice none 0 0] 76)) 86 #[.int .i64 t0,.int .i64 t1,.int .i64 t2,.int .i64 t3] (w.heap.size+1) (by simp)
   have hs0:((w.alloc (.cells #[.slice none 0 0] 76)).alloc (.cells #[.int .i64 t0,.int .i64 t1,.int .i64 t2,.int .i64 t3] 86)).heap.size=w.heap.size+2:=by simp
   rcases hk with rfl | rfl | rfl
   · skip
     go_enter Try.func57,Try.ntmps57
     go_upto_region 3 with fail
     generalize ((w.alloc (.cells #[.slice none 0 0] 76)).alloc (.cells #[.int .i64 1,.int .i64 t1,.int .i64 t2,.int .i64 t3] 86))=W0 at *
     clear e0 e1 e2 e3
     have x0:W0.cell? ⟨w.heap.size+1,0,none⟩=some (.int .i64 (1)):=hbt.cell 0
     have x1:W0.cell? ⟨w.heap.size+1,1,none⟩=some (.int .i64 (t1)):=hbt.cell 1
     have x2:W0.cell? ⟨w.heap.size+1,2,none⟩=some (.int .i64 (t2)):=hbt.cell 2
     have x3:W0.cell? ⟨w.heap.size+1,3,none⟩=some (.int .i64 (t3)):=hbt.cell 3
     have HBR:=Hd_ hbr
     have HB0:=Hd_ hb0
     have hlt1:=hbt.lt
     clear hbr hb0 hbt
     have hal:=(Below.refl W0.heap.size W0).alloc (Nat.le_refl _) (.cells #[.int .i64 1,.int .i64 t1,.int .i64 t2,.int .i64 t3] 86)
     have hrl:=World.ownsRow_lit (base:=w.heap.size+1) (e:=86) (size:=4) W0 #[.int .i64 1,.int .i64 t1,.int .i64 t2,.int .i64 t3] 1 (by omega) (by decide) rfl
     have HD:=tko_done (r:=w.heap.size) (Own.of_row (xs:=[((1,t1,t2,t3):Tok)]) (E:=cEd) hrl rfl rfl) (below_trans HB0.out hal) (Nat.le_refl _) (Nat.lt_succ_self _) (.slice (some ⟨W0.heap.size,0,none⟩) 1 1)
     have z0:W0.cell? ⟨w.heap.size,0,none⟩=some (.slice none 0 0):=HBR.out.cell 0
     have v0:=HBR.out.frozen 0
     have hlr:=HBR.out.lt
     have HHE:=Hd_ HD
     rw [World.setCell_alloc_past _ _ _ _ hlr] at HD
     have HHD:=Hd_ HD
     clear HD hrl hal hs0
     go_wp2_with fail
     first
      | exact bodyPost_ret (v:=.agg #[.slice (some ⟨W0.heap.size,0,none⟩) 1 1]) (by simp [results,Try.results57,go_sem,z0,v0,hlr]) rfl ⟨_,rfl,HHD.out.1,HHD.out.2⟩
      | exact bodyPost_ret (v:=.agg #[.slice (some ⟨W0.heap.size,0,none⟩) 1 1]) (by simp [results,Try.results57,go_sem,z0,v0,hlr]) rfl ⟨_,rfl,HHE.out.1,HHE.out.2⟩
   · skip
     go_enter Try.func57,Try.ntmps57
     go_upto_region 3 with fail
     generalize ((w.alloc (.cells #[.slice none 0 0] 76)).alloc (.cells #[.int .i64 2,.int .i64 t1,.int .i64 t2,.int .i64 t3] 86))=W0 at *
     clear e0 e1 e2 e3
     have x0:W0.cell? ⟨w.heap.size+1,0,none⟩=some (.int .i64 (2)):=hbt.cell 0
     have x1:W0.cell? ⟨w.heap.size+1,1,none⟩=some (.int .i64 (t1)):=hbt.cell 1
     have x2:W0.cell? ⟨w.heap.size+1,2,none⟩=some (.int .i64 (t2)):=hbt.cell 2
     have x3:W0.cell? ⟨w.heap.size+1,3,none⟩=some (.int .i64 (t3)):=hbt.cell 3
     have HBR:=Hd_ hbr
     have HB0:=Hd_ hb0
     have hlt1:=hbt.lt
     clear hbr hb0 hbt
     have hal:=(Below.refl W0.heap.size W0).alloc (Nat.le_refl _) (.cells #[.int .i64 2,.int .i64 t1,.int .i64 t2,.int .i64 t3] 86)
     have hrl:=World.ownsRow_lit (base:=w.heap.size+1) (e:=86) (size:=4) W0 #[.int .i64 2,.int .i64 t1,.int .i64 t2,.int .i64 t3] 1 (by omega) (by decide) rfl
     have HD:=tko_done (r:=w.heap.size) (Own.of_row (xs:=[((2,t1,t2,t3):Tok)]) (E:=cEd) hrl rfl rfl) (below_trans HB0.out hal) (Nat.le_refl _) (Nat.lt_succ_self _) (.slice (some ⟨W0.heap.size,0,none⟩) 1 1)
     have z0:W0.cell? ⟨w.heap.size,0,none⟩=some (.slice none 0 0):=HBR.out.cell 0
     have v0:=HBR.out.frozen 0
     have hlr:=HBR.out.lt
     have HHE:=Hd_ HD
     rw [World.setCell_alloc_past _ _ _ _ hlr] at HD
     have HHD:=Hd_ HD
     clear HD hrl hal hs0
     go_wp2_with fail
     first
      | exact bodyPost_ret (v:=.agg #[.slice (some ⟨W0.heap.size,0,none⟩) 1 1]) (by simp [results,Try.results57,go_sem,z0,v0,hlr]) rfl ⟨_,rfl,HHD.out.1,HHD.out.2⟩
      | exact bodyPost_ret (v:=.agg #[.slice (some ⟨W0.heap.size,0,none⟩) 1 1]) (by simp [results,Try.results57,go_sem,z0,v0,hlr]) rfl ⟨_,rfl,HHE.out.1,HHE.out.2⟩
   · skip
     go_enter Try.func57,Try.ntmps57
     go_upto_region 3 with fail
     generalize ((w.alloc (.cells #[.slice none 0 0] 76)).alloc (.cells #[.int .i64 3,.int .i64 t1,.int .i64 t2,.int .i64 t3] 86))=W0 at *
     clear e0 e1 e2 e3
     have x0:W0.cell? ⟨w.heap.size+1,0,none⟩=some (.int .i64 (3)):=hbt.cell 0
     have x1:W0.cell? ⟨w.heap.size+1,1,none⟩=some (.int .i64 (t1)):=hbt.cell 1
     have x2:W0.cell? ⟨w.heap.size+1,2,none⟩=some (.int .i64 (t2)):=hbt.cell 2
     have x3:W0.cell? ⟨w.heap.size+1,3,none⟩=some (.int .i64 (t3)):=hbt.cell 3
     have HBR:=Hd_ hbr
     have HB0:=Hd_ hb0
     have hlt1:=hbt.lt
     clear hbr hb0 hbt
     have hal:=(Below.refl W0.heap.size W0).alloc (Nat.le_refl _) (.cells #[.int .i64 3,.int .i64 t1,.int .i64 t2,.int .i64 t3] 86)
     have hrl:=World.ownsRow_lit (base:=w.heap.size+1) (e:=86) (size:=4) W0 #[.int .i64 3,.int .i64 t1,.int .i64 t2,.int .i64 t3] 1 (by omega) (by decide) rfl
     have HD:=tko_done (r:=w.heap.size) (Own.of_row (xs:=[((3,t1,t2,t3):Tok)]) (E:=cEd) hrl rfl rfl) (below_trans HB0.out hal) (Nat.le_refl _) (Nat.lt_succ_self _) (.slice (some ⟨W0.heap.size,0,none⟩) 1 1)
     have z0:W0.cell? ⟨w.heap.size,0,none⟩=some (.slice none 0 0):=HBR.out.cell 0
     have v0:=HBR.out.frozen 0
     have hlr:=HBR.out.lt
     have HHE:=Hd_ HD
     rw [World.setCell_alloc_past _ _ _ _ hlr] at HD
     have HHD:=Hd_ HD
     clear HD hrl hal hs0
     go_wp2_with fail
     first
      | exact bodyPost_ret (v:=.agg #[.slice (some ⟨W0.heap.size,0,none⟩) 1 1]) (by simp [results,Try.results57,go_sem,z0,v0,hlr]) rfl ⟨_,rfl,HHD.out.1,HHD.out.2⟩
      | exact bodyPost_ret (v:=.agg #[.slice (some ⟨W0.heap.size,0,none⟩) 1 1]) (by simp [results,Try.results57,go_sem,z0,v0,hlr]) rfl ⟨_,rfl,HHE.out.1,HHE.out.2⟩
 | .un t a,ss,w,hr,hsl,hlen,hsz=>by
   have ht:=ar_un hr.1
   obtain ⟨m,hm0⟩:∃ m,m=(post a).length:=⟨_,rfl⟩
   rw [post] at hsl hlen
   have hlq:(post a ++ [t]).length=m+1:=by rw [List.length_append,hm0];rfl
   rw [hlq] at hlen
   have h0:=hsl
   obtain ⟨A,c,rfl,hl,hm,hx⟩:=hsl
   rw [hlq] at hl h0 ⊢
   unfold maxLen at hm
   have hxi:(post a ++ [t])[m]?=some t:=by rw [List.getElem?_append_right (by omega)];simp [hm0]
   obtain ⟨q,o,rfl,-,hq,hcc⟩:=hx _ t hxi
   obtain ⟨t0,t1,t2,t3⟩:=t
   have e0:=hcc 0 _ rfl
   have e1:=hcc 1 _ rfl
   have e2:=hcc 2 _ rfl
   have e3:=hcc 3 _ rfl
   simp only [Nat.add_zero] at e0
   have hmc1:m<=c:=by omega
   have hsa:sizeT a<=5000:=by
    rw [sizeT] at hsz
    split at hsz
    · omega
    · rename_i h6
      rcases ht with ht | ht
      · exact absurd (by rw [ht]) h6
      · have h1:(sizeT a+3) * 1<=(sizeT a+3) * t3.toNat:=Nat.mul_le_mul_left _ (by simp only at ht;omega)
        simp only at hsz
        omega
   have h2:SlE w cEd 4 (.slice (some ⟨q,o,none⟩) m c) (post a):=SlI.headT h0 hm0.symm
   have HSA:=Hd_ (fun (W:World) (hW:Below w.heap.size w W)=>l10Expand_any a _ W hr.2 (h2.keep hW) (by omega) hsa)
   have hla:=expT_len hsa
   clear hx hcc hxi h0 h2 hm0 hlq hsz
   have hb0:=((Below.refl w.heap.size w).alloc (Nat.le_refl _) (.cells #[.slice none 0 0] 76)).alloc (by simp) (.cells #[.int .i64 t0,.int .i64 t1,.int .i64 t2,.int .i64 t3] 86)
   have hbr:=(Blk.new w 76 #[.slice none 0 0] _ rfl).alloc (.cells #[.int .i64 t0,.int .i64 t1,.int .i64 t2,.int .i64 t3] 86)
   have hbt:=Blk.new (w.alloc (.cells #[.slice none 0 0] 76)) 86 #[.int .i64 t0,.int .i64 t1,.int .i64 t2,.int .i64 t3] (w.heap.size+1) (by simp)
   have hs0:((w.alloc (.cells #[.slice none 0 0] 76)).alloc (.cells #[.int .i64 t0,.int .i64 t1,.int .i64 t2,.int .i64 t3] 86)).heap.size=w.heap.size+2:=by simp
   rcases ht with ht | ⟨ht0,ht1,ht2,ht3,ht4,ht5⟩
   · injection ht with ht0 ht1
     injection ht1 with ht1 ht2
     injection ht2 with ht2 ht3
     subst ht0 ht1 ht2 ht3
     rw [show post (expT (.un (6,0,0,0) a))=post (expT a) ++ [] ++ [(6,0,0,0)] by simp [expT,post]]
     clear hr
     go_enter Try.func57,Try.ntmps57
     go_upto_region 3 with fail
     generalize ((w.alloc (.cells #[.slice none 0 0] 76)).alloc (.cells #[.int .i64 6,.int .i64 0,.int .i64 0,.int .i64 0] 86))=W0 at *
     clear e0 e1 e2 e3
     have x0:W0.cell? ⟨w.heap.size+1,0,none⟩=some (.int .i64 (6)):=hbt.cell 0
     have x1:W0.cell? ⟨w.heap.size+1,1,none⟩=some (.int .i64 (0)):=hbt.cell 1
     have x2:W0.cell? ⟨w.heap.size+1,2,none⟩=some (.int .i64 (0)):=hbt.cell 2
     have x3:W0.cell? ⟨w.heap.size+1,3,none⟩=some (.int .i64 (0)):=hbt.cell 3
     have HBR:=Hd_ hbr
     have HB0:=Hd_ hb0
     have hlt1:=hbt.lt
     clear hbr hb0 hbt
     go_wp2_with fail
     refine F_start 7 (fun w'=>w'.cell? ⟨w.heap.size+1,0,none⟩=some (.int .i64 (6))/\w'.cell? ⟨w.heap.size+1,1,none⟩=some (.int .i64 (0))/\w'.cell? ⟨w.heap.size+1,2,none⟩=some (.int .i64 (0))/\w'.cell? ⟨w.heap.size+1,3,none⟩=some (.int .i64 (0))) (by kernel_rfl) (by exact ⟨x0,x1,x2,x3⟩) (fun hS inv=>?_)
     refine F_tk 0 inv ?_
     try simp only [tA,tB,tC,Act.put,tE,tF,tG]
     clear inv;intro inv
     refine F_tk 1 inv ?_
     try simp only [tA,tB,tC,Act.put,tE,tF,tG]
     clear inv;intro inv
     refine F_tk 2 inv ?_
     try simp only [tA,tB,tC,Act.put,tE,tF,tG]
     clear inv;intro inv
     refine F_tk 4 inv ?_
     try simp only [tA,tB,tC,Act.put,tE,tF,tG]
     clear inv;intro inv
     refine F_tk 5 inv ?_
     try simp only [tA,tB,tC,Act.put,tE,tF,tG]
     clear inv;intro inv
     have hbd:Below W0.heap.size W0 W0.drew:=(Below.refl _ _).drew
     refine F_o1 3 inv ?_;intro K hK
     try simp only [tA,tB,tC]
     go_simp
     refine (HSA.out _ (below_trans HB0.out hbd)).mono ?_
     rintro e w2 ⟨v2,rfl,h2,hb2⟩
     have hp2:=below_trans hbd hb2
     refine hK.out _ _ (kB4 hb2 hS) (fun _ _=>?_)
     try simp only [tA,tB,tC,Act.put,tE,tF,tG]
     clear hK K inv hS;rename_i hS inv
     refine F_o1 6 inv ?_;intro K hK
     try simp only [tA,tB,tC]
     go_simp
     refine (l8Join_any _ _ _ [] (6,0,0,0) _ (h2.view.mono (Nat.zero_le _) (Nat.le_refl _)) (TkV.nil _ _ _) (by omega) (by simp)).mono ?_
     rintro e w3 ⟨v3,rfl,hr9,hb3⟩
     have hpl:=hp2.size
     obtain ⟨s9,rfl,h9⟩:=hr9
     obtain ⟨A9,n9,c9,rfl⟩:=h9.shape
     have hp9:=below_trans hp2 hb3
     have hbr9:=HBR.out.keep hp9
     have z0:w3.cell? ⟨w.heap.size,0,none⟩=some (.slice none 0 0):=hbr9.cell 0
     have v0:=hbr9.frozen 0
     have hlr:=hbr9.lt
     refine hK.out _ _ (kB4 hb3 hS) (fun _ _=>?_)
     try simp only [tA,tB,tC,Act.put,tE,tF,tG]
     clear hK K inv hS;rename_i hS inv
     refine F_l1 7 ?_;intro K hK
     go_simp
     refine hK _ _ ?_
     clear hK K inv hS
     have HD:=Hd_ (tko_done (r:=w.heap.size) h9 (below_trans HB0.out hp9) (Nat.le_refl _) (by have h1:=HB0.out.size;have h2:=hpl;omega) (.slice A9 n9 c9))
     clear h9 hbr9 hp9 hpl
     go_wp2_with fail
     exact bodyPost_ret (v:=.agg #[.slice A9 n9 c9]) (by simp [results,Try.results57,go_sem,z0,v0,hlr]) rfl ⟨_,rfl,HD.out.1,HD.out.2⟩
   · simp only at ht0 ht1 ht2 ht3 ht4 ht5
     subst ht0 ht1
     obtain ⟨h,rfl⟩:=Int.eq_ofNat_of_zero_le (show 0<=t3 by omega)
     obtain ⟨l,rfl⟩:=Int.eq_ofNat_of_zero_le ht4
     rw [show post (expT (.un (7,0,(l:Int),(h:Int)) a))=post (timesT (expT a) l h) by simp [expT]]
     clear hr
     go_enter Try.func57,Try.ntmps57
     go_upto_region 3 with fail
     generalize ((w.alloc (.cells #[.slice none 0 0] 76)).alloc (.cells #[.int .i64 7,.int .i64 0,.int .i64 (l:Int),.int .i64 (h:Int)] 86))=W0 at *
     clear e0 e1 e2 e3
     have x0:W0.cell? ⟨w.heap.size+1,0,none⟩=some (.int .i64 (7)):=hbt.cell 0
     have x1:W0.cell? ⟨w.heap.size+1,1,none⟩=some (.int .i64 (0)):=hbt.cell 1
     have x2:W0.cell? ⟨w.heap.size+1,2,none⟩=some (.int .i64 ((l:Int))):=hbt.cell 2
     have x3:W0.cell? ⟨w.heap.size+1,3,none⟩=some (.int .i64 ((h:Int))):=hbt.cell 3
     have HBR:=Hd_ hbr
     have HB0:=Hd_ hb0
     have hlt1:=hbt.lt
     clear hbr hb0 hbt
     go_wp2_with fail
     refine F_start 9 (fun w'=>w'.cell? ⟨w.heap.size+1,0,none⟩=some (.int .i64 (7))/\w'.cell? ⟨w.heap.size+1,1,none⟩=some (.int .i64 (0))/\w'.cell? ⟨w.heap.size+1,2,none⟩=some (.int .i64 ((l:Int)))/\w'.cell? ⟨w.heap.size+1,3,none⟩=some (.int .i64 ((h:Int)))) (by kernel_rfl) (by exact ⟨x0,x1,x2,x3⟩) (fun hS inv=>?_)
     refine F_tk 0 inv ?_
     try simp only [tA,tB,tC,Act.put,tE,tF,tG]
     clear inv;intro inv
     refine F_tk 1 inv ?_
     try simp only [tA,tB,tC,Act.put,tE,tF,tG]
     clear inv;intro inv
     refine F_tk 2 inv ?_
     try simp only [tA,tB,tC,Act.put,tE,tF,tG]
     clear inv;intro inv
     refine F_tk 4 inv ?_
     try simp only [tA,tB,tC,Act.put,tE,tF,tG]
     clear inv;intro inv
     refine F_tk 5 inv ?_
     try simp only [tA,tB,tC,Act.put,tE,tF,tG]
     clear inv;intro inv
     refine F_tk 6 inv ?_
     try simp only [tA,tB,tC,Act.put,tE,tF,tG]
     clear inv;intro inv
     refine F_tk 7 inv ?_
     try simp only [tA,tB,tC,Act.put,tE,tF,tG]
     clear inv;intro inv
     have hbd:Below W0.heap.size W0 W0.drew:=(Below.refl _ _).drew
     refine F_o1 3 inv ?_;intro K hK
     try simp only [tA,tB,tC]
     go_simp
     refine (HSA.out _ (below_trans HB0.out hbd)).mono ?_
     rintro e w2 ⟨v2,rfl,h2,hb2⟩
     have hp2:=below_trans hbd hb2
     refine hK.out _ _ (kB4 hb2 hS) (fun _ _=>?_)
     try simp only [tA,tB,tC,Act.put,tE,tF,tG]
     clear hK K inv hS;rename_i hS inv
     refine F_o1 8 inv ?_;intro K hK
     try simp only [tA,tB,tC]
     go_simp
     refine (l10Times_any (expT a) (by omega) h l _ _ (h2.view.mono (Nat.zero_le _) (Nat.le_refl _)) (by omega) (by omega)).mono ?_
     rintro e w3 ⟨v3,rfl,hr9,hb3⟩
     have hpl:=hp2.size
     obtain ⟨s9,rfl,h9⟩:=hr9
     obtain ⟨A9,n9,c9,rfl⟩:=h9.shape
     have hp9:=below_trans hp2 hb3
     have hbr9:=HBR.out.keep hp9
     have z0:w3.cell? ⟨w.heap.size,0,none⟩=some (.slice none 0 0):=hbr9.cell 0
     have v0:=hbr9.frozen 0
     have hlr:=hbr9.lt
     refine hK.out _ _ (kB4 hb3 hS) (fun _ _=>?_)
     try simp only [tA,tB,tC,Act.put,tE,tF,tG]
     clear hK K inv hS;rename_i hS inv
     refine F_l1 9 ?_;intro K hK
     go_simp
     refine hK _ _ ?_
     clear hK K inv hS
     have HD:=Hd_ (tko_done (r:=w.heap.size) h9 (below_trans HB0.out hp9) (Nat.le_refl _) (by have h1:=HB0.out.size;have h2:=hpl;omega) (.slice A9 n9 c9))
     clear h9 hbr9 hp9 hpl
     go_wp2_with fail
     exact bodyPost_ret (v:=.agg #[.slice A9 n9 c9]) (by simp [results,Try.results57,go_sem,z0,v0,hlr]) rfl ⟨_,rfl,HD.out.1,HD.out.2⟩
 | .bin t a b,ss,w,hr,hsl,hlen,hsz=>by
   have ht:=ar_bin hr.1
   obtain ⟨m,hm0⟩:∃ m,m=(post a).length:=⟨_,rfl⟩
   obtain ⟨j,hj0⟩:∃ j,j=(post b).length:=⟨_,rfl⟩
   have hj1:0 < j:=by rw [hj0];exact post_pos b
   rw [post] at hsl hlen
   obtain ⟨N,hN⟩:∃ N,N=(post a ++ post b).length:=⟨_,rfl⟩
   have hNm:N=m+j:=by rw [hN,List.length_append,hm0,hj0]
   have hlq:((post a ++ post b) ++ [t]).length=N+1:=by rw [List.length_append,hN];rfl
   rw [hlq] at hlen
   have h0:=hsl
   obtain ⟨A,c,rfl,hl,hm,hx⟩:=hsl
   rw [hlq] at hl h0 ⊢
   unfold maxLen at hm
   have hxi:((post a ++ post b) ++ [t])[N]?=some t:=by rw [List.getElem?_append_right (by omega)];simp [hN]
   obtain ⟨q,o,rfl,-,hq,hcc⟩:=hx _ t hxi
   obtain ⟨t0,t1,t2,t3⟩:=t
   have e0:=hcc 0 _ rfl
   have e1:=hcc 1 _ rfl
   have e2:=hcc 2 _ rfl
   have e3:=hcc 3 _ rfl
   simp only [Nat.add_zero] at e0
   have hsab:sizeT a<=5000/\sizeT b<=5000:=by rw [sizeT] at hsz;omega
   have h1:SlE w cEd 4 (.slice (some ⟨q,o,none⟩) N c) (post a ++ post b):=SlI.headT h0 hN.symm
   have h2:SlE w cEd 4 (.slice (some ⟨q,o,none⟩) m c) (post a):=SlI.headT h1 hm0.symm
   have h3:SlE w cEd 4 (.slice (some ⟨q,o+m * 4,none⟩) (N - m) (c - m)) (post b):=SlI.tailT h1 hm0.symm (by omega) rfl
   have HST:=Hd_ (fun (W:World) (hW:Below w.heap.size w W)=>l8Start_any _ (post a) b W (h1.keep hW) hr.2.2 (by rw [<- hN];omega))
   have HSA:=Hd_ (fun (W:World) (hW:Below w.heap.size w W)=>l10Expand_any a _ W hr.2.1 (h2.keep hW) (by omega) hsab.1)
   have HSB:=Hd_ (fun (W:World) (hW:Below w.heap.size w W)=>l10Expand_any b _ W hr.2.2 (h3.keep hW) (by omega) hsab.2)
   have hla:=expT_len hsab.1
   have hlb:=expT_len hsab.2
   have hsab1:=hsab.1
   have hsab2:=hsab.2
   rw [<- hm0] at HST
   have hmc:¬ c=m:=by omega
   have hmc1:m<=c:=by omega
   have hmc2:N<=c:=by omega
   have hmc3:m<=N:=by omega
   clear hx hcc hxi h0 h1 h2 h3 hr hm0 hj0 hlq hsz hsab hNm hN
   rw [show post (expT (.bin (t0,t1,t2,t3) a b))=post (expT a) ++ post (expT b) ++ [(t0,t1,t2,t3)] by simp [expT,post]]
   have hb0:=((Below.refl w.heap.size w).alloc (Nat.le_refl _) (.cells #[.slice none 0 0] 76)).alloc (by simp) (.cells #[.int .i64 t0,.int .i64 t1,.int .i64 t2,.int .i64 t3] 86)
   have hbr:=(Blk.new w 76 #[.slice none 0 0] _ rfl).alloc (.cells #[.int .i64 t0,.int .i64 t1,.int .i64 t2,.int .i64 t3] 86)
   have hbt:=Blk.new (w.alloc (.cells #[.slice none 0 0] 76)) 86 #[.int .i64 t0,.int .i64 t1,.int .i64 t2,.int .i64 t3] (w.heap.size+1) (by simp)
   have hs0:((w.alloc (.cells #[.slice none 0 0] 76)).alloc (.cells #[.int .i64 t0,.int .i64 t1,.int .i64 t2,.int .i64 t3] 86)).heap.size=w.heap.size+2:=by simp
   rcases ht with ht | ht
   · injection ht with ht0 ht1
     injection ht1 with ht1 ht2
     injection ht2 with ht2 ht3
     subst ht0 ht1 ht2 ht3
     go_enter Try.func57,Try.ntmps57
     go_upto_region 3 with fail
     generalize ((w.alloc (.cells #[.slice none 0 0] 76)).alloc (.cells #[.int .i64 4,.int .i64 0,.int .i64 0,.int .i64 0] 86))=W0 at *
     clear e0 e1 e2 e3
     have x0:W0.cell? ⟨w.heap.size+1,0,none⟩=some (.int .i64 (4)):=hbt.cell 0
     have x1:W0.cell? ⟨w.heap.size+1,1,none⟩=some (.int .i64 (0)):=hbt.cell 1
     have x2:W0.cell? ⟨w.heap.size+1,2,none⟩=some (.int .i64 (0)):=hbt.cell 2
     have x3:W0.cell? ⟨w.heap.size+1,3,none⟩=some (.int .i64 (0)):=hbt.cell 3
     have HBR:=Hd_ hbr
     have HB0:=Hd_ hb0
     have hlt1:=hbt.lt
     clear hbr hb0 hbt
     go_wp2_with fail
     refine (HST.out _ HB0.out).mono ?_
     rintro e w1 ⟨rfl,hb1⟩
     have x0:=kcell hb1 x0
     have x1:=kcell hb1 x1
     have x2:=kcell hb1 x2
     have x3:=kcell hb1 x3
     have hlt1:w.heap.size+1 < w1.heap.size:=Nat.lt_of_lt_of_le hlt1 hb1.size
     have HB1:=Hd_ hb1
     clear hb1
     go_upto_region 7 with fail
     refine F_start 11 (fun w'=>w'.cell? ⟨w.heap.size+1,0,none⟩=some (.int .i64 (4))/\w'.cell? ⟨w.heap.size+1,1,none⟩=some (.int .i64 (0))/\w'.cell? ⟨w.heap.size+1,2,none⟩=some (.int .i64 (0))/\w'.cell? ⟨w.heap.size+1,3,none⟩=some (.int .i64 (0))) (by kernel_rfl) (by exact ⟨x0,x1,x2,x3⟩) (fun hS inv=>?_)
     refine F_tk 0 inv ?_
     try simp only [tA,tB,tC,Act.put,tE,tF,tG]
     clear inv;intro inv
     refine F_tk 1 inv ?_
     try simp only [tA,tB,tC,Act.put,tE,tF,tG]
     clear inv;intro inv
     refine F_tk 2 inv ?_
     try simp only [tA,tB,tC,Act.put,tE,tF,tG]
     clear inv;intro inv
     refine F_tk 4 inv ?_
     try simp only [tA,tB,tC,Act.put,tE,tF,tG]
     clear inv;intro inv
     refine F_tk 5 inv ?_
     try simp only [tA,tB,tC,Act.put,tE,tF,tG]
     clear inv;intro inv
     refine F_tk 6 inv ?_
     try simp only [tA,tB,tC,Act.put,tE,tF,tG]
     clear inv;intro inv
     refine F_tk 7 inv ?_
     try simp only [tA,tB,tC,Act.put,tE,tF,tG]
     clear inv;intro inv
     refine F_tk 9 inv ?_
     try simp only [tA,tB,tC,Act.put,tE,tF,tG]
     clear inv;intro inv
     have hbd:=below_trans HB1.out ((Below.refl w1.heap.size w1).drew)
     refine F_o1 3 inv ?_;intro K hK
     try simp only [tA,tB,tC]
     go_simp
     refine (HSA.out _ (below_trans HB0.out hbd)).mono ?_
     rintro e w2 ⟨v2,rfl,h2,hb2⟩
     have hp2:=below_trans hbd hb2
     refine hK.out _ _ (kB4 hb2 hS) (fun _ _=>?_)
     try simp only [tA,tB,tC,Act.put,tE,tF,tG]
     clear hK K inv hS;rename_i hS inv
     refine F_o1 8 inv ?_;intro K hK
     try simp only [tA,tB,tC]
     go_simp
     refine (HSB.out _ (below_trans HB0.out hp2)).mono ?_
     rintro e w3 ⟨v3,rfl,h3,hb3⟩
     have hp3:=below_trans hp2 hb3
     refine hK.out _ _ (kB4 hb3 hS) (fun _ _=>?_)
     try simp only [tA,tB,tC,Act.put,tE,tF,tG]
     clear hK K inv hS;rename_i hS inv
     refine F_o1 10 inv ?_;intro K hK
     try simp only [tA,tB,tC]
     go_simp
     refine (l8Join_any _ _ _ _ (4,0,0,0) _ ((h2.view.mono (Nat.zero_le _) (Nat.le_refl _)).keep hb3) (h3.view.mono (Nat.zero_le _) (Nat.le_refl _)) (by omega) (by omega)).mono ?_
     rintro e w4 ⟨v4,rfl,hr9,hb4⟩
     have hpl:=hp3.size
     obtain ⟨s9,rfl,h9⟩:=hr9
     obtain ⟨A9,n9,c9,rfl⟩:=h9.shape
     have hp9:=below_trans hp3 hb4
     have hbr9:=HBR.out.keep hp9
     have z0:w4.cell? ⟨w.heap.size,0,none⟩=some (.slice none 0 0):=hbr9.cell 0
     have v0:=hbr9.frozen 0
     have hlr:=hbr9.lt
     refine hK.out _ _ (kB4 hb4 hS) (fun _ _=>?_)
     try simp only [tA,tB,tC,Act.put,tE,tF,tG]
     clear hK K inv hS;rename_i hS inv
     refine F_l1 11 ?_;intro K hK
     go_simp
     refine hK _ _ ?_
     clear hK K inv hS
     have HD:=Hd_ (tko_done (r:=w.heap.size) h9 (below_trans HB0.out hp9) (Nat.le_refl _) (by have h1:=HB0.out.size;have h2:=hpl;omega) (.slice A9 n9 c9))
     clear h9 hbr9 hp9 hpl
     go_wp2_with fail
     exact bodyPost_ret (v:=.agg #[.slice A9 n9 c9]) (by simp [results,Try.results57,go_sem,z0,v0,hlr]) rfl ⟨_,rfl,HD.out.1,HD.out.2⟩
   · injection ht with ht0 ht1
     injection ht1 with ht1 ht2
     injection ht2 with ht2 ht3
     subst ht0 ht1 ht2 ht3
     go_enter Try.func57,Try.ntmps57
     go_upto_region 3 with fail
     generalize ((w.alloc (.cells #[.slice none 0 0] 76)).alloc (.cells #[.int .i64 5,.int .i64 0,.int .i64 0,.int .i64 0] 86))=W0 at *
     clear e0 e1 e2 e3
     have x0:W0.cell? ⟨w.heap.size+1,0,none⟩=some (.int .i64 (5)):=hbt.cell 0
     have x1:W0.cell? ⟨w.heap.size+1,1,none⟩=some (.int .i64 (0)):=hbt.cell 1
     have x2:W0.cell? ⟨w.heap.size+1,2,none⟩=some (.int .i64 (0)):=hbt.cell 2
     have x3:W0.cell? ⟨w.heap.size+1,3,none⟩=some (.int .i64 (0)):=hbt.cell 3
     have HBR:=Hd_ hbr
     have HB0:=Hd_ hb0
     have hlt1:=hbt.lt
     clear hbr hb0 hbt
     go_wp2_with fail
     refine (HST.out _ HB0.out).mono ?_
     rintro e w1 ⟨rfl,hb1⟩
     have x0:=kcell hb1 x0
     have x1:=kcell hb1 x1
     have x2:=kcell hb1 x2
     have x3:=kcell hb1 x3
     have hlt1:w.heap.size+1 < w1.heap.size:=Nat.lt_of_lt_of_le hlt1 hb1.size
     have HB1:=Hd_ hb1
     clear hb1
     go_upto_region 7 with fail
     refine F_start 11 (fun w'=>w'.cell? ⟨w.heap.size+1,0,none⟩=some (.int .i64 (5))/\w'.cell? ⟨w.heap.size+1,1,none⟩=some (.int .i64 (0))/\w'.cell? ⟨w.heap.size+1,2,none⟩=some (.int .i64 (0))/\w'.cell? ⟨w.heap.size+1,3,none⟩=some (.int .i64 (0))) (by kernel_rfl) (by exact ⟨x0,x1,x2,x3⟩) (fun hS inv=>?_)
     refine F_tk 0 inv ?_
     try simp only [tA,tB,tC,Act.put,tE,tF,tG]
     clear inv;intro inv
     refine F_tk 1 inv ?_
     try simp only [tA,tB,tC,Act.put,tE,tF,tG]
     clear inv;intro inv
     refine F_tk 2 inv ?_
     try simp only [tA,tB,tC,Act.put,tE,tF,tG]
     clear inv;intro inv
     refine F_tk 4 inv ?_
     try simp only [tA,tB,tC,Act.put,tE,tF,tG]
     clear inv;intro inv
     refine F_tk 5 inv ?_
     try simp only [tA,tB,tC,Act.put,tE,tF,tG]
     clear inv;intro inv
     refine F_tk 6 inv ?_
     try simp only [tA,tB,tC,Act.put,tE,tF,tG]
     clear inv;intro inv
     refine F_tk 7 inv ?_
     try simp only [tA,tB,tC,Act.put,tE,tF,tG]
     clear inv;intro inv
     refine F_tk 9 inv ?_
     try simp only [tA,tB,tC,Act.put,tE,tF,tG]
     clear inv;intro inv
     have hbd:=below_trans HB1.out ((Below.refl w1.heap.size w1).drew)
     refine F_o1 3 inv ?_;intro K hK
     try simp only [tA,tB,tC]
     go_simp
     refine (HSA.out _ (below_trans HB0.out hbd)).mono ?_
     rintro e w2 ⟨v2,rfl,h2,hb2⟩
     have hp2:=below_trans hbd hb2
     refine hK.out _ _ (kB4 hb2 hS) (fun _ _=>?_)
     try simp only [tA,tB,tC,Act.put,tE,tF,tG]
     clear hK K inv hS;rename_i hS inv
     refine F_o1 8 inv ?_;intro K hK
     try simp only [tA,tB,tC]
     go_simp
     refine (HSB.out _ (below_trans HB0.out hp2)).mono ?_
     rintro e w3 ⟨v3,rfl,h3,hb3⟩
     have hp3:=below_trans hp2 hb3
     refine hK.out _ _ (kB4 hb3 hS) (fun _ _=>?_)
     try simp only [tA,tB,tC,Act.put,tE,tF,tG]
     clear hK K inv hS;rename_i hS inv
     refine F_o1 10 inv ?_;intro K hK
     try simp only [tA,tB,tC]
     go_simp
     refine (l8Join_any _ _ _ _ (5,0,0,0) _ ((h2.view.mono (Nat.zero_le _) (Nat.le_refl _)).keep hb3) (h3.view.mono (Nat.zero_le _) (Nat.le_refl _)) (by omega) (by omega)).mono ?_
     rintro e w4 ⟨v4,rfl,hr9,hb4⟩
     have hpl:=hp3.size
     obtain ⟨s9,rfl,h9⟩:=hr9
     obtain ⟨A9,n9,c9,rfl⟩:=h9.shape
     have hp9:=below_trans hp3 hb4
     have hbr9:=HBR.out.keep hp9
     have z0:w4.cell? ⟨w.heap.size,0,none⟩=some (.slice none 0 0):=hbr9.cell 0
     have v0:=hbr9.frozen 0
     have hlr:=hbr9.lt
     refine hK.out _ _ (kB4 hb4 hS) (fun _ _=>?_)
     try simp only [tA,tB,tC,Act.put,tE,tF,tG]
     clear hK K inv hS;rename_i hS inv
     refine F_l1 11 ?_;intro K hK
     go_simp
     refine hK _ _ ?_
     clear hK K inv hS
     have HD:=Hd_ (tko_done (r:=w.heap.size) h9 (below_trans HB0.out hp9) (Nat.le_refl _) (by have h1:=HB0.out.size;have h2:=hpl;omega) (.slice A9 n9 c9))
     clear h9 hbr9 hp9 hpl
     go_wp2_with fail
     exact bodyPost_ret (v:=.agg #[.slice A9 n9 c9]) (by simp [results,Try.results57,go_sem,z0,v0,hlr]) rfl ⟨_,rfl,HD.out.1,HD.out.2⟩
def ExpOut (w:World) (e:Ending) (w':World):Prop:=∃ v is,e=.returned (.tuple #[v,.bool is])/\(∃ A n c,v=.agg #[.slice A n c])/\(is=true->∃ r:Tr,r.ok/\(post r).length<=5000/\TkV w.heap.size w'.heap.size w' v (post r))/\Below w.heap.size w w'
set_option maxRecDepth 100000 in
set_option maxHeartbeats 4000000 in
theorem expandExpr_any (va:Value) (l:List Tok) (w:World) (hv:TkV 0 w.heap.size w va l) :
 Calls Try.prog 49 #[va] w (ExpOut w):=by
 obtain ⟨sa,rfl,hsa⟩:=hv
 have HSA:=Hd_ hsa
 obtain ⟨A1,n1,c1,rfl⟩:=hsa.shape
 clear hsa
 have hb0:=((Below.refl w.heap.size w).alloc (Nat.le_refl _) (.cells #[.slice A1 n1 c1] 76)).alloc (by simp) (.cells #[.slice none 0 0] 76)
 have hbx:=(Blk.new w 76 #[.slice A1 n1 c1] _ rfl).alloc (.cells #[.slice none 0 0] 76)
 have hbr:=Blk.new (w.alloc (.cells #[.slice A1 n1 c1] 76)) 76 #[.slice none 0 0] (w.heap.size+1) (by simp)
 have hs0:((w.alloc (.cells #[.slice A1 n1 c1] 76)).alloc (.cells #[.slice none 0 0] 76)).heap.size=w.heap.size+2:=by simp
 have hsl0:SlE (((w.alloc (.cells #[.slice A1 n1 c1] 76)).alloc (.cells #[.slice none 0 0] 76))) cEd 4 (.slice A1 n1 c1) l:=SlE.keep HSA.out hb0
 go_enter Try.func49,Try.ntmps49
 go_wp2_with fail
 generalize ((w.alloc (.cells #[.slice A1 n1 c1] 76)).alloc (.cells #[.slice none 0 0] 76))=W0 at *
 refine (isValidExpr_any _ l _ hsl0).mono ?_
 rintro e w1 ⟨rfl,hb1⟩
 have hsl1:=SlE.keep hsl0 hb1
 have hbx1:=hbx.keep hb1
 have hbr1:=hbr.keep hb1
 have HB1:=Hd_ (below_trans hb0 hb1)
 have hz1:=hb1.size
 have HSL1:=Hd_ hsl1
 have x0:w1.cell? ⟨w.heap.size,0,none⟩=some (.slice A1 n1 c1):=hbx1.cell 0
 have z0:w1.cell? ⟨w.heap.size+1,0,none⟩=some (.slice none 0 0):=hbr1.cell 0
 have v0:=hbr1.frozen 0
 have hlr:=hbr1.lt
 have HBR1:=Hd_ hbr1
 have HBX1:=Hd_ hbx1
 have hs1:w.heap.size+2<=w1.heap.size:=by omega
 clear hsl0 hsl1 hbx hbr hbx1 hbr1 hb0 hb1 hs0 hz1
 cases hok:okE l
 · go_wp2_with fail
   exact bodyPost_ret (v:=.tuple #[.agg #[.slice none 0 0],.bool false]) (by simp [results,Try.results49,go_sem,z0,v0,hlr]) rfl ⟨_,_,rfl,⟨_,_,_,rfl⟩,(fun h=>by cases h),HB1.out.setCell (p:=⟨w.heap.size+1,0,none⟩) (by simp only;omega) _⟩
 · have htr:∃ r,treeL l=some r/\l.length<=24:=by
    simp only [okE,Bool.and_eq_true,decide_eq_true_eq] at hok
    obtain ⟨r,hr⟩:=Option.isSome_iff_exists.1 hok.2
    exact ⟨r,hr,hok.1⟩
   obtain ⟨r,hr,hl24⟩:=htr
   obtain ⟨hrok,hrp⟩:=treeL_post hr
   rw [<- hrp] at HSL1 hl24
   have HOK:=Hd_ hrok
   clear hok hr hrp hrok
   have hsz:=sizeT_le r
   go_wp2_with fail
   refine (l10Size_any r _ _ HOK.out HSL1.out (by omega)).mono ?_
   rintro e w2 ⟨rfl,hb2⟩
   have HSL2:=Hd_ (SlE.keep HSL1.out hb2)
   have x0:=kcell hb2 x0
   have z0:=kcell hb2 z0
   have HBR2:=Hd_ (HBR1.out.keep hb2)
   have HB2:=Hd_ (below_trans HB1.out hb2)
   have v0:=HBR2.out.frozen 0
   have hlr:=HBR2.out.lt
   have hs2:=hb2.size
   clear hb2 HSL1 HBR1 HBX1
   obtain ⟨S,hS⟩:∃ S,S=sizeT r:=⟨_,rfl⟩
   rw [<- hS] at hsz ⊢
   have HS:=Hd_ hS
   clear hS
   by_cases h5:S<=5000
   · have h5i:¬ 5000 < (S:Int):=by omega
     have h5r:sizeT r<=5000:=by rw [<- HS.out];exact h5
     have HEL:=Hd_ (expT_len h5r)
     clear hsz
     go_wp2_with fail
     refine (l10Expand_any r _ _ HOK.out HSL2.out (by omega) h5r).mono ?_
     rintro e w3 ⟨v3,rfl,⟨s3,rfl,h3⟩,hb3⟩
     obtain ⟨A3,n3,c3,hs3,hn3⟩:∃ A n c,s3=.slice A n c/\n=(post (expT r)).length:=by
      obtain ⟨A,c,h,-⟩:=h3.sl cEd_len
      exact ⟨A,_,c,h,rfl⟩
     subst hs3
     have hn5:n3<=5000:=by rw [hn3];have:=HEL.out;omega
     have hal:=(Below.refl w3.heap.size w3).alloc (Nat.le_refl _) (.cells #[.slice A3 n3 c3] 76)
     have hbA:=below_trans hb3 hal
     have hbr4:=HBR2.out.keep hbA
     have hbn:=Blk.new w3 76 #[.slice A3 n3 c3] _ rfl
     have h4:=(h3.below hal (Nat.le_refl _)).mono (Nat.le_refl _) hal.size
     have HB4:=Hd_ (below_trans HB2.out hbA)
     clear hn3 h3 hb3 hal hbA x0 z0 v0 hlr h5r h5 h5i
     go_upto_region 4 with fail
     generalize w3.alloc (.cells #[.slice A3 n3 c3] 76)=W4 at *
     have H4:=Hd_ h4
     have y0:W4.cell? ⟨w3.heap.size,0,none⟩=some (.slice A3 n3 c3):=hbn.cell 0
     have z0:W4.cell? ⟨w.heap.size+1,0,none⟩=some (.slice none 0 0):=hbr4.cell 0
     have v0:=hbr4.frozen 0
     have hlr:=hbr4.lt
     clear hbn hbr4 h4
     by_cases h4c:400 < n3
     · have h4i:400 < (n3:Int):=by omega
       go_wp2_with fail
       exact bodyPost_ret (v:=.tuple #[.agg #[.slice none 0 0],.bool false]) (by simp [results,Try.results49,go_sem,z0,v0,hlr]) rfl ⟨_,_,rfl,⟨_,_,_,rfl⟩,(fun h=>by cases h),HB4.out.setCell (p:=⟨w.heap.size+1,0,none⟩) (by simp only;omega) _⟩
     · have h4i:¬ 400 < (n3:Int):=by omega
       go_wp2_with fail
       have ho:=(Only.refl (w.heap.size+1) (w.heap.size+2) W4).setCell (p:=⟨w.heap.size+1,0,none⟩) (.inl ⟨Nat.le_refl _,Nat.lt_succ_self _⟩) (.slice A3 n3 c3)
       exact bodyPost_ret (v:=.tuple #[.agg #[.slice A3 n3 c3],.bool true]) (by simp [results,Try.results49,go_sem,z0,v0,hlr]) rfl ⟨_,_,rfl,⟨_,_,_,rfl⟩,(fun _=>⟨expT r,expT_ok HOK.out,by have:=HEL.out;rw [<- HS.out] at this;omega,⟨_,rfl,((H4.out.only ho (.inr (by omega))).sl cEd_len).mono (by omega) ho.size⟩⟩),HB4.out.setCell (p:=⟨w.heap.size+1,0,none⟩) (by simp only;omega) _⟩
   · have h5i:5000 < (S:Int):=by omega
     clear hsz
     go_wp2_with fail
     exact bodyPost_ret (v:=.tuple #[.agg #[.slice none 0 0],.bool false]) (by simp [results,Try.results49,go_sem,z0,v0,hlr]) rfl ⟨_,_,rfl,⟨_,_,_,rfl⟩,(fun h=>by cases h),HB2.out.setCell (p:=⟨w.heap.size+1,0,none⟩) (by simp only;omega) _⟩
theorem ownSl {lo k n:Nat} {e:TypeId} {v:Value} {cs:List Value} {w:World} (h:w.ownsRow lo e k v n cs):∃ A c,v=.slice A n c/\n<=c/\c<=9223372036854775807/\(0 < n->∃ q,A=some ⟨q,0,none⟩):=by
 obtain ⟨_,hs⟩:=h
 rcases hs with ⟨rfl,rfl⟩ | ⟨g,cap,cur,rfl,_,_,h1,h2,_⟩
 · exact ⟨none,0,rfl,Nat.le_refl _,by omega,fun h=>absurd h (Nat.lt_irrefl _)⟩
 · exact ⟨_,_,rfl,h1,by simpa [maxLen] using h2,fun _=>⟨g,rfl⟩⟩
/-- positions under way in the block p: letters and followers, each in a row of the call's own -/
structure PosR (p:Nat) (w:World) (ls fs:Value) (fi la:Int) (nu:Bool) (L F:List Int):Prop where
 blk:Blk w p 27 #[ls,.int .i64 fi,.int .i64 la,fs,.bool nu]
 lets:w.ownsRow (p+1) 3 1 ls L.length (L.flatMap cI)
 fol:w.ownsRow (p+1) 3 1 fs F.length (F.flatMap cI)
 apart:∀ b,ls.ownBlock=some b->fs.ownBlock ≠ some b
/-- what else lies in memory is as it was -/
structure PosF (p:Nat) (ls fs ls' fs':Value) (w w':World):Prop where
 os:w'.os=w.os
 tape:w'.tape=w.tape
 output:w'.output=w.output
 size:w.heap.size<=w'.heap.size
 block:∀ n,n < w.heap.size->n ≠ p->ls.ownBlock ≠ some n->fs.ownBlock ≠ some n->w'.heap[n]?=w.heap[n]?
 newl:∀ n,ls'.ownBlock=some n->ls.ownBlock=some n ∨ w.heap.size<=n
 newf:∀ n,fs'.ownBlock=some n->fs.ownBlock=some n ∨ w.heap.size<=n
theorem PosF.refl (p:Nat) (ls fs:Value) (w:World):PosF p ls fs ls fs w w:=⟨rfl,rfl,rfl,Nat.le_refl _,fun _ _ _ _ _=>rfl,fun _ h=>.inl h,fun _ h=>.inl h⟩
theorem PosF.trans {p:Nat} {ls fs ls' fs' ls'' fs'':Value} {a b c:World} (h:PosF p ls fs ls' fs' a b) (k:PosF p ls' fs' ls'' fs'' b c):PosF p ls fs ls'' fs'' a c :=
 ⟨k.os.trans h.os,k.tape.trans h.tape,k.output.trans h.output,Nat.le_trans h.size k.size,
  fun n h1 h2 h3 h4=>(k.block n (Nat.lt_of_lt_of_le h1 h.size) h2 (fun e=>(h.newl n e).elim h3 (fun e=>by omega)) (fun e=>(h.newf n e).elim h4 (fun e=>by omega))).trans (h.block n h1 h2 h3 h4),
  fun n e=>(k.newl n e).elim (fun e=>h.newl n e) (fun e=>.inr (Nat.le_trans h.size e)),fun n e=>(k.newf n e).elim (fun e=>h.newf n e) (fun e=>.inr (Nat.le_trans h.size e))⟩
theorem PosF.below {p:Nat} {ls fs:Value} {w w':World} (hb:Below w.heap.size w w'):PosF p ls fs ls fs w w':=⟨hb.os,hb.tape,hb.output,hb.size,fun n h _ _ _=>hb.block n h,fun _ h=>.inl h,fun _ h=>.inl h⟩
theorem PosR.below {p:Nat} {w w':World} {ls fs:Value} {fi la:Int} {nu:Bool} {L F:List Int} (h:PosR p w ls fs fi la nu L F) (hb:Below w.heap.size w w'):PosR p w' ls fs fi la nu L F :=
 ⟨h.blk.keep hb,ownsRow_below h.lets hb (Nat.le_refl _),ownsRow_below h.fol hb (Nat.le_refl _),h.apart⟩
/-- blocks that are no part of the positions are kept -/
theorem PosF.blk {p g:Nat} {t:TypeId} {cs:Array Value} {ls fs ls' fs':Value} {w w':World} (h:PosF p ls fs ls' fs' w w') (hb:Blk w g t cs) (h1:g ≠ p) (h2:ls.ownBlock ≠ some g) (h3:fs.ownBlock ≠ some g):Blk w' g t cs:=(h.block g hb.lt h1 h2 h3).trans hb
/-- what lies below p is kept -/
theorem PosF.under {p:Nat} {L F:List Int} {fi la:Int} {nu:Bool} {ls fs ls' fs':Value} {w w':World} (h:PosF p ls fs ls' fs' w w') (hr:PosR p w ls fs fi la nu L F):Below p w w' :=
 ⟨h.os,h.tape,h.output,h.size,fun n hn=>h.block n (Nat.lt_trans hn hr.blk.lt) (by omega) (fun e=>by have:=(hr.lets.lt n e).1;omega) (fun e=>by have:=(hr.fol.lt n e).1;omega)⟩
/-- a follower turned -/
theorem PosR.setF {p:Nat} {w:World} {ls:Value} {g n c:Nat} {fi la:Int} {nu:Bool} {L F:List Int} (h:PosR p w ls (.slice (some ⟨g,0,none⟩) n c) fi la nu L F) (hn:F.length=n) (i:Nat) (x:Int) :
 PosR p (w.setCell ⟨g,i,none⟩ (.int .i64 x)) ls (.slice (some ⟨g,0,none⟩) n c) fi la nu L (F.set i x)/\PosF p ls (.slice (some ⟨g,0,none⟩) n c) ls (.slice (some ⟨g,0,none⟩) n c) w (w.setCell ⟨g,i,none⟩ (.int .i64 x)):=by
 have hg:=h.fol.lt g rfl
 have hr:=h.fol
 rw [hn] at hr
 have hst:=(World.ownsRow.stored hr i (.int .i64 x)).1
 rw [flatI_set] at hst
 refine ⟨⟨h.blk.far (by simp only;omega) _,ownsRow_block h.lets (fun b hb=>Below.heap_setCell w ⟨g,i,none⟩ _ b (fun e=>h.apart b hb (by rw [e];rfl))),by simpa [hn] using hst,h.apart⟩,
  ⟨rfl,rfl,rfl,by simp [World.setCell],fun b hb h1 h2 h3=>Below.heap_setCell w ⟨g,i,none⟩ _ b (fun e=>h3 (by rw [e];rfl)),fun _ h=>.inl h,fun _ h=>.inl h⟩⟩
theorem PosR.pushL {p:Nat} {w w':World} {ls fs:Value} {g n c:Nat} {fi la:Int} {nu:Bool} {L L' F:List Int} (h:PosR p w ls fs fi la nu L F) (hr:w'.ownsRow (p+1) 3 1 (.slice (some ⟨g,0,none⟩) n c) L'.length (L'.flatMap cI)) (hg:w.grownBy w' ls.ownBlock) (hat:ls.ownBlock=some g ∨ w.heap.size<=g) :
 Blk w' p 27 #[ls,.int .i64 fi,.int .i64 la,fs,.bool nu]/\PosR p (w'.setCell ⟨p,0,none⟩ (.slice (some ⟨g,0,none⟩) n c)) (.slice (some ⟨g,0,none⟩) n c) fs fi la nu L' F/\PosF p ls fs (.slice (some ⟨g,0,none⟩) n c) fs w (w'.setCell ⟨p,0,none⟩ (.slice (some ⟨g,0,none⟩) n c)):=by
 have hlp:=h.blk.lt
 have hgl:=(hr.lt g rfl).1
 have hb:Blk w' p 27 #[ls,.int .i64 fi,.int .i64 la,fs,.bool nu]:=(hg.block p hlp (fun e=>by have:=(h.lets.lt p e.symm).1;omega)).trans h.blk
 have hf:w'.ownsRow (p+1) 3 1 fs F.length (F.flatMap cI):=ownsRow_block h.fol fun b hb=>hg.block b (h.fol.lt b hb).2 (fun e=>h.apart b e.symm hb)
 refine ⟨hb,⟨hb.set_ 0 _,ownsRow_block hr (fun b hb=>by cases hb;exact Below.heap_setCell w' ⟨p,0,none⟩ _ g (by simp only;omega)),ownsRow_block hf (fun b hb=>Below.heap_setCell w' ⟨p,0,none⟩ _ b (by have:=(hf.lt b hb).1;simp only;omega)),fun b hb1 hb2=>?_⟩,?_⟩
 · cases hb1
   rcases hat with h1 | h1
   · exact h.apart g h1 hb2
   · have:=(h.fol.lt g hb2).2;omega
 · refine ⟨hg.os,hg.tape,hg.output,by simpa [World.setCell] using hg.size,fun b hb h1 h2 h3=>?_,fun b hb=>?_,fun b hb=>.inl hb⟩
   · rw [Below.heap_setCell w' ⟨p,0,none⟩ _ b (by simpa using h1)]
     exact hg.block b hb (fun e=>h2 e.symm)
   · cases hb
     exact hat
theorem PosR.pushF {p:Nat} {w w':World} {ls fs:Value} {g n c:Nat} {fi la:Int} {nu:Bool} {L F F':List Int} (h:PosR p w ls fs fi la nu L F) (hr:w'.ownsRow (p+1) 3 1 (.slice (some ⟨g,0,none⟩) n c) F'.length (F'.flatMap cI)) (hg:w.grownBy w' fs.ownBlock) (hat:fs.ownBlock=some g ∨ w.heap.size<=g) :
 Blk w' p 27 #[ls,.int .i64 fi,.int .i64 la,fs,.bool nu]/\PosR p (w'.setCell ⟨p,3,none⟩ (.slice (some ⟨g,0,none⟩) n c)) ls (.slice (some ⟨g,0,none⟩) n c) fi la nu L F'/\PosF p ls fs ls (.slice (some ⟨g,0,none⟩) n c) w (w'.setCell ⟨p,3,none⟩ (.slice (some ⟨g,0,none⟩) n c)):=by
 have hlp:=h.blk.lt
 have hgl:=(hr.lt g rfl).1
 have hb:Blk w' p 27 #[ls,.int .i64 fi,.int .i64 la,fs,.bool nu]:=(hg.block p hlp (fun e=>by have:=(h.fol.lt p e.symm).1;omega)).trans h.blk
 have hf:w'.ownsRow (p+1) 3 1 ls L.length (L.flatMap cI):=ownsRow_block h.lets fun b hb=>hg.block b (h.lets.lt b hb).2 (fun e=>h.apart b hb e.symm)
 refine ⟨hb,⟨hb.set_ 3 _,ownsRow_block hf (fun b hb=>Below.heap_setCell w' ⟨p,3,none⟩ _ b (by have:=(hf.lt b hb).1;simp only;omega)),ownsRow_block hr (fun b hb=>by cases hb;exact Below.heap_setCell w' ⟨p,3,none⟩ _ g (by simp only;omega)),fun b hb1 hb2=>?_⟩,?_⟩
 · cases hb2
   rcases hat with h1 | h1
   · exact h.apart g hb1 h1
   · have:=(h.lets.lt g hb1).2;omega
 · refine ⟨hg.os,hg.tape,hg.output,by simpa [World.setCell] using hg.size,fun b hb h1 h2 h3=>?_,fun b hb=>.inl hb,fun b hb=>?_⟩
   · rw [Below.heap_setCell w' ⟨p,3,none⟩ _ b (by simpa using h1)]
     exact hg.block b hb (fun e=>h3 e.symm)
   · cases hb
     exact hat
def LinkOut (p n:Nat) (ls fs:Value) (fi la:Int) (nu:Bool) (L:List Int) (w:World) (e:Ending) (w':World):Prop:=e=.returned (.tuple #[])/\∃ F',F'.length=n/\PosR p w' ls fs fi la nu L F'/\PosF p ls fs ls fs w w'
set_option maxHeartbeats 4000000 in
theorem l10Link_any (p:Nat) (ls fs:Value) (fi la:Int) (nu:Bool) (L F:List Int) (x y:Int) (w:World) (h:PosR p w ls fs fi la nu L F) :
 Calls Try.prog 59 #[.pointer (some ⟨p,0,none⟩),.int .i64 x,.int .i64 y] w (LinkOut p F.length ls fs fi la nu L w):=by
 obtain ⟨A,c,rfl,hnc,hcm,hA⟩:=ownSl h.fol
 obtain ⟨n,hn⟩:∃ n,n=F.length:=⟨_,rfl⟩
 rw [<- hn] at hnc hA h ⊢
 have H0:=Hd_ h
 have HN:=Hd_ hn
 clear h hn
 go_enter Try.func59,Try.ntmps59
 go_wp2_with fail
 go_loopw [6] (fun ii wr=>∃ (i:Nat) (F':List Int),i<=n/\ii=.int .i64 (i:Int)/\F'.length=n/\PosR p wr ls (.slice A n c) fi la nu L F'/\PosF p ls (.slice A n c) ls (.slice A n c) w wr) (fun ii _=>n - (intOf ii).toNat)
 case atStart=>exact ⟨0,F,Nat.zero_le _,rfl,HN.out.symm,H0.out,PosF.refl _ _ _ _⟩
 case round =>
  obtain ⟨i,F',hi,rfl,hF,hR,hP⟩:=hrel
  have HF:=Hd_ hF
  have HR:=Hd_ hR
  have HP:=Hd_ hP
  have x3:wr.cell? ⟨p,3,none⟩=some (.slice A n c):=hR.blk.cell 3
  have hlp:=hR.blk.lt
  clear hF hR hP H0
  by_cases hlt:i < n
  · have hii:(i:Int) < (n:Int):=by omega
    obtain ⟨g,rfl⟩:=hA (by omega)
    have hrow:wr.ownsRow (p+1) 3 1 (.slice (some ⟨g,0,none⟩) n c) n (F'.flatMap cI):=by
     have h:=HR.out.fol
     rw [HF.out] at h
     exact h
    have e0:=World.ownsRow.cellAt hrow i (by omega)
    have f0:=World.ownsRow.frozenAt hrow i
    have hiF:i < F'.length:=by have:=HF.out;omega
    obtain ⟨z,hxi⟩:∃ z,F'[i]?=some z:=⟨_,List.getElem?_eq_getElem hiF⟩
    rw [show (F'.flatMap cI)[i]?=some (.int .i64 z) by have:=flat_at (E:=cI) (k:=1) cI_len hxi 0 _ rfl;simpa using this] at e0
    have hgl:=(hrow.lt g rfl).2
    have hgp:=(hrow.lt g rfl).1
    have HST:=Hd_ (fun u:Int=>HR.out.setF HF.out i u)
    clear hrow hxi hiF
    go_wp2_with fail
    · go_region
      go_wp2_with fail
      go_roundw
      case rel=>exact ⟨i+1,F'.set i _,by omega,by go_num,by rw [List.length_set];exact HF.out,(HST.out _).1.below ((Below.refl _ _).drew),HP.out.trans ((HST.out _).2.trans (PosF.below ((Below.refl _ _).drew)))⟩
      case measure=>simp [intOf];omega
    · go_roundw
      case rel=>exact ⟨i+1,F',by omega,by go_num,HF.out,HR.out,HP.out⟩
      case measure=>simp [intOf];omega
  · have hii:¬ (i:Int) < (n:Int):=by omega
    go_wp2_with fail
    go_end0
    exact ⟨rfl,F',HF.out,HR.out,HP.out⟩
/-- positions that were laid: they read as letters and followers -/
def PosV (lo hi:Nat) (w:World) (v:Value) (L F:List Int):Prop:=∃ ls fs fi la nu,v=.agg #[ls,.int .i64 fi,.int .i64 la,fs,.bool nu]/\SlI lo hi w cI 1 ls L/\SlI lo hi w cI 1 fs F/\L.length=F.length
theorem PosV.below {lo hi:Nat} {w w':World} {v:Value} {L F:List Int} (h:PosV lo hi w v L F) {B:Nat} (hb:Below B w w') (hB:hi<=B):PosV lo hi w' v L F:=by
 obtain ⟨ls,fs,fi,la,nu,rfl,h1,h2,h3⟩:=h
 exact ⟨ls,fs,fi,la,nu,rfl,h1.below hb hB,h2.below hb hB,h3⟩
theorem PosV.mono {lo hi lo' hi':Nat} {w:World} {v:Value} {L F:List Int} (h:PosV lo hi w v L F) (h1:lo'<=lo) (h2:hi<=hi'):PosV lo' hi' w v L F:=by
 obtain ⟨ls,fs,fi,la,nu,rfl,g1,g2,g3⟩:=h
 exact ⟨ls,fs,fi,la,nu,rfl,g1.mono h1 h2,g2.mono h1 h2,g3⟩
theorem PosV.keep {w w':World} {v:Value} {L F:List Int} (h:PosV 0 w.heap.size w v L F) (hb:Below w.heap.size w w'):PosV 0 w'.heap.size w' v L F:=(h.below hb (Nat.le_refl _)).mono (Nat.le_refl _) hb.size
theorem PosV.only {lo hi:Nat} {w w':World} {v:Value} {L F:List Int} (h:PosV lo hi w v L F) {a b:Nat} (hb:Only a b w w') (hh:hi<=w.heap.size) (ho:hi<=a ∨ b<=lo):PosV lo hi w' v L F:=by
 obtain ⟨ls,fs,fi,la,nu,rfl,h1,h2,h3⟩:=h
 exact ⟨ls,fs,fi,la,nu,rfl,h1.only hb hh ho,h2.only hb hh ho,h3⟩
theorem PosV.zero (lo hi:Nat) (w:World):PosV lo hi w (.agg #[.slice none 0 0,.int .i64 0,.int .i64 0,.slice none 0 0,.bool false]) [] []:=⟨_,_,_,_,_,rfl,SlI.nil _ _ _ _ _,SlI.nil _ _ _ _ _,rfl⟩
end Go.Proofs.Ythnapjodmndlaaa
