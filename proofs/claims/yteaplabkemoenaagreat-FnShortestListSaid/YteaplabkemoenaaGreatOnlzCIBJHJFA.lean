/- Parts of the proof, joined into one text: Lay1, WalksM. -/
import Derived.Test.YteaplabkemoenaaGreatOnlzPICOOABE
import Derived.Test.YteaplabkemoenaaGreatOnlzNELIBLED
import Derived.Test.YteaplabkemoenaaGreatOnlzKIKFHLPI
set_option linter.unusedVariables false
set_option linter.unusedSimpArgs false
namespace Go.Proofs.YteaplabkemoenaaGreat
open Go.ChangeShapes Go.WideShapes Go.ChangeAt Go.RowKit
attribute [local go_sem] ext_cell ext_frozen ext_lt ext_lt1 ext_lt2 ext_lt3 ltn2 ltn3 ltn13 lts1 lts2 lts3
theorem layTo_at (g:Gr) (a:Au) (N:List Key) {i j:Nat} {k:Key} (h:N[i]?=some k) (hi:i<=N.length) (hj:j < i):(layTo g a N (i+1)).2.getD j []=(layTo g a N i).2.getD j []:=by
 have hl:=(layTo_row g a N i hi).1
 rw [layTo_succ h]
 simp only
 rw [List.getD_eq_getElem?_getD,List.getD_eq_getElem?_getD,List.getElem?_append_left (by omega)]
theorem layTo_new (g:Gr) (a:Au) (N:List Key) {i:Nat} {k:Key} (h:N[i]?=some k) (hi:i<=N.length):(layTo g a N (i+1)).2.getD i []=(rowL g a (layTo g a N i).1 k.1 k.2).2:=by
 have hl:=(layTo_row g a N i hi).1
 rw [layTo_succ h]
 simp only
 rw [List.getD_eq_getElem?_getD,List.getElem?_append_right (by omega),hl,Nat.sub_self];rfl
theorem layTo_past (g:Gr) (a:Au) (N:List Key) {i j:Nat} (hi:i<=N.length) (hj:i<=j):(layTo g a N i).2.getD j []=[]:=by
 have hl:=(layTo_row g a N i hi).1
 rw [List.getD_eq_getElem?_getD,List.getElem?_eq_none (by omega)];rfl
theorem rawZ_one (k:Key):∀ u ∈ cZ (rawZ k),u.oneCell'=true:=by
 intro u hu
 simp only [cZ,rawZ,List.mem_cons,List.not_mem_nil,or_false] at hu
 rcases hu with rfl | rfl | rfl | rfl | rfl <;> rfl
theorem elStL:ElemOk Tryz.prog 37 66 (.agg #[.int .i64 0,.bool false]) 2 16:=⟨Tryz.underlying37,by kernel_rfl,rfl,by omega⟩
theorem elNL:ElemOk Tryz.prog 24 3 (.int .i64 0) 1 8:=⟨Tryz.underlying24,by kernel_rfl,rfl,by omega⟩
theorem only_past {lo hi B:Nat} {a b c:World} (h:Only lo hi a b) (hb:Below B b c) (hB:a.heap.size<=B):Only lo hi a c :=
 ⟨hb.os.trans h.os,hb.tape.trans h.tape,hb.output.trans h.output,Nat.le_trans h.size hb.size,fun n hn ho=>(hb.block n (by omega)).trans (h.block n hn ho)⟩
theorem only_new {lo hi l r:Nat} {a b c:World} (h:Only lo hi a b) (k:Only l r b c) (hl:a.heap.size<=l):Only lo hi a c :=
 ⟨k.os.trans h.os,k.tape.trans h.tape,k.output.trans h.output,Nat.le_trans h.size k.size,fun n hn ho=>(k.block n (Nat.lt_of_lt_of_le hn h.size) (.inl (by omega))).trans (h.block n hn ho)⟩
theorem only_row {w w':World} {o:Obj} {g:Nat} (hg:(w.alloc o).grownBy w' (some g)):Only g (g+1) w w' :=
 ⟨hg.os,hg.tape,hg.output,by have:=hg.size;simp at this;omega,fun n hn ho=>(hg.block n (by simp;omega) (fun e=>by injection e with e;omega)).trans (Below.heap_alloc _ _ _ hn)⟩
set_option maxHeartbeats 16000000 in
set_option maxRecDepth 100000 in
theorem l19Layer_any (vg va:Value) (g:Gr) (a:Au) (B0:Nat) (N:List Key) (gl cl lo hi:Nat) (w:World) (hgv:GrV 0 B0 w vg g) (hav:AuV 0 B0 w va a) (hB0:B0<=gl) (hgo:grOk g=true) (ha:auOk a=true) (hN:KeysOk g a N)
 (hl:LayV lo hi w gl cl N (fun _=>0) (fun _=>[]) (N.map rawZ)) :
 Calls Tryz.prog 47 #[vg,va,.slice (some ⟨gl,0,none⟩) N.length cl] w fun e w'=>∃ gn cn zs,e=.returned (.slice (some ⟨gn,0,none⟩) (layA g a N).1.length cn)/\w.heap.size<=gn /\
  w'.ownsRow w.heap.size 58 5 (.slice (some ⟨gn,0,none⟩) (layA g a N).1.length cn) (layA g a N).1.length (((layA g a N).1.map rawZ).flatMap cZ) /\
  LayV w.heap.size w'.heap.size w' gl cl N (fun _=>0) (fun i=>(layA g a N).2.getD i []) zs/\Only gl (gl+1) w w':=by
 have hgl:=hl.lt
 have hNl:=hN.len (grOk_iff.1 hgo) ha
 have hgs:=hgv.shape
 have has:=hav.shape
 obtain ⟨A1,n1,c1,A2,n2,c2,rfl⟩:=hgs
 obtain ⟨A3,n3,c3,A4,n4,c4,rfl⟩:=has
 obtain ⟨W0,hW0⟩:∃ W0,W0=(w.alloc (.cells #[.slice A1 n1 c1,.slice A2 n2 c2] 27)).alloc (.cells #[.int .i64 a.start,.slice A3 n3 c3,.slice A4 n4 c4] 31):=⟨_,rfl⟩
 have hb0:Below w.heap.size w W0:=by rw [hW0];exact ((Below.refl _ _).alloc (Nat.le_refl _) _).alloc (by simp) _
 have hs0:W0.heap.size=w.heap.size+1+1:=by rw [hW0];simp
 have x0:W0.cell? ⟨w.heap.size,0,none⟩=some (.slice A1 n1 c1):=by rw [hW0];simp
 have x1:W0.cell? ⟨w.heap.size,1,none⟩=some (.slice A2 n2 c2):=by rw [hW0];simp
 have y0:W0.cell? ⟨w.heap.size+1,0,none⟩=some (.int .i64 a.start):=by rw [hW0];simp
 have y1:W0.cell? ⟨w.heap.size+1,1,none⟩=some (.slice A3 n3 c3):=by rw [hW0];simp
 have y2:W0.cell? ⟨w.heap.size+1,2,none⟩=some (.slice A4 n4 c4):=by rw [hW0];simp
 have HGW:=Hd_ (fun (W:World) (hW:Only gl (gl+1) W0 W)=>(((hgv.below hb0 (by omega)).only hW (by omega) (.inl hB0)).mono (Nat.le_refl 0) (show B0<=W.heap.size by have:=hW.size;omega)))
 have HAW:=Hd_ (fun (W:World) (hW:Only gl (gl+1) W0 W)=>(((hav.below hb0 (by omega)).only hW (by omega) (.inl hB0)).mono (Nat.le_refl 0) (show B0<=W.heap.size by have:=hW.size;omega)))
 have HL:=Hd_ (hl.below hb0)
 have HB0:=Hd_ hb0
 have HN:=Hd_ hN
 have HGO:=Hd_ hgo
 have HA:=Hd_ ha
 have he12:=(grOk_iff.1 hgo).e12
 have HX:=Hd_ (And.intro x0 (And.intro x1 (And.intro y0 (And.intro y1 y2))))
 clear hgv hav hl hb0 hN hgo ha x0 x1 y0 y1 y2
 go_enter Tryz.func47,Tryz.ntmps47
 go_wp2_with fail
 rw [<- hW0]
 have HR0:=Hd_ (show (W0.alloc (.cells #[] 58)).ownsRow W0.heap.size 58 5 (.slice (some ⟨W0.heap.size,0,none⟩) 0 0) (layTo g a N 0).1.length (((layTo g a N 0).1.map rawZ).flatMap cZ) from
  World.ownsRow_lit (base:=W0.heap.size) (e:=58) (size:=5) W0 #[] 0 (Nat.le_refl _) (by decide) rfl)
 have hbL:Below W0.heap.size W0 (W0.alloc (.cells #[] 58)):=(Below.refl _ _).alloc (Nat.le_refl _) _
 have HL0:=Hd_ (((HL.out.below hbL).congr (T':=fun j=>(layTo g a N 0).2.getD j []) (fun _ _=>rfl) (fun j _=>by simp [layTo])))
 have HO0:=Hd_ (Only.of_below hbL gl (gl+1))
 rw [show w.heap.size+1+1=W0.heap.size from hs0.symm]
 have hs0a:W0.heap.size<=w.heap.size+1+1:=Nat.le_of_eq hs0
 have hs0b:w.heap.size+1+1<=W0.heap.size:=Nat.le_of_eq hs0.symm
 clear hW0 hbL HL hs0
 try go_wp2_with fail
 go_loopw [7,8] (fun nx ii wr=>∃ (i gn cn:Nat) (zs:List Zr),i<=N.length/\ii=.int .i64 (i:Int)/\nx=.slice (some ⟨gn,0,none⟩) (layTo g a N i).1.length cn /\
  wr.ownsRow W0.heap.size 58 5 (.slice (some ⟨gn,0,none⟩) (layTo g a N i).1.length cn) (layTo g a N i).1.length (((layTo g a N i).1.map rawZ).flatMap cZ) /\
  LayV W0.heap.size wr.heap.size wr gl cl N (fun _=>0) (fun j=>(layTo g a N i).2.getD j []) zs/\(∀ j k,i<=j->N[j]?=some k->zs[j]?=some (rawZ k))/\Only gl (gl+1) W0 wr) (fun _ ii _=>N.length - (intOf ii).toNat)
 case atStart =>
  refine ⟨0,W0.heap.size,0,N.map rawZ,Nat.zero_le _,rfl,rfl,HR0.out,?_,fun j k _ hk=>rawZ_at hk,HO0.out⟩
  exact ⟨HL0.out.row,HL0.out.len,fun i k z hk hz=>by
   obtain ⟨h1,h2,h3,-⟩:=HL0.out.at_ i k z hk hz
   rw [rawZ_at hk] at hz
   injection hz with hz
   subst hz
   exact ⟨h1,h2,h3,RowV.nil _ _ _ _⟩⟩
 case round =>
  clear HR0 HL0 HO0
  obtain ⟨i,gn,cn,zs,hi,rfl,rfl,hrow,hlay,hraw,hon⟩:=hrel
  have hsz:=hon.size
  by_cases hlt:i < N.length
  · have hk:N[i]?=some N[i]:=List.getElem?_eq_getElem hlt
    have hkr:=HN.out.rng N[i] (List.getElem_mem hlt)
    generalize N[i]=k at hk hkr
    obtain ⟨x,s⟩:=k
    simp only at hkr
    obtain ⟨z,hz,hz1,hz2,hz3,hz4,d0,d1,-⟩:=hlay.get hk
    simp only at d0 d1
    have x0:=ocell hon HX.out.1 (by omega) (.inr (by omega))
    have x1:=ocell hon HX.out.2.1 (by omega) (.inr (by omega))
    have HLF:=Hd_ (fun (W:World) (hW:Only gl (gl+1) W0 W)=>l4From_any _ g (x:Int) W (HGW.out W hW) he12)
    have hgnr:=hrow.lt gn rfl
    have hgll:=hlay.lt
    have HROW:=Hd_ hrow
    have HLAY:=Hd_ hlay
    have HRAW:=Hd_ hraw
    have HON:=Hd_ hon
    have HK:=Hd_ hk
    have hs4:=lt12 HA.out hkr.2
    have hii:(i:Int) < (N.length:Int):=by omega
    have hal:=arcs_len (grOk_iff.1 HGO.out) (x:Int)
    have HNS:=Hd_ (layTo_succ (g:=g) (a:=a) hk)
    have HTA:=Hd_ (fun j (hj:j < i)=>layTo_at g a N hk hi hj)
    have HTN:=Hd_ (layTo_new g a N hk hi)
    have HTP:=Hd_ (fun j hj=>layTo_past g a N hi (j:=j) hj)
    have HKO:=Hd_ (fun k=>(rowTk_ok (grOk_iff.1 HGO.out) HA.out (layTo_ok (grOk_iff.1 HGO.out) HA.out N i) x s k).len (grOk_iff.1 HGO.out) HA.out)
    have HTL:=Hd_ (rowTk_len g a (layTo g a N i).1 x s)
    have hlr:w.heap.size < wr.heap.size:=by omega
    have hgl1:gl+1<=w.heap.size:=by omega
    obtain ⟨wo,hwo⟩:∃ wo:World,wo=wr:=⟨_,rfl⟩
    rw [<- hwo] at HROW HLAY HON hsz hgnr hgll hlr x0 x1 d0 d1 ⊢
    clear hwo hrow hlay hraw hon hk hz hz1 hz2 hz3 hz4
    go_upto_region 5 with fail
    refine F_start 7 (fun w'=>w'.cell? ⟨w.heap.size,0,none⟩=some (.slice A1 n1 c1)/\w'.cell? ⟨w.heap.size,1,none⟩=some (.slice A2 n2 c2)/\w'.cell? ⟨gl,i * 5,none⟩=some (.int .i64 (x:Int))) (by kernel_rfl) (by exact ⟨x0,x1,d0⟩) (fun hS inv=>?_)
    refine F_tk 0 inv ?_
    try simp only [tA,tB,tC,Act.put,tE,tF,tG]
    clear inv;intro inv
    refine F_tk 1 inv ?_
    try simp only [tA,tB,tC,Act.put,tE,tF,tG]
    clear inv;intro inv
    refine F_tk 2 inv ?_
    try simp only [tA,tB,tC,Act.put,tE,tF,tG]
    clear inv;intro inv
    refine F_tk 3 inv ?_
    try simp only [tA,tB,tC,Act.put,tE,tF,tG]
    clear inv;intro inv
    refine F_tk 4 inv ?_
    try simp only [tA,tB,tC,Act.put,tE,tF,tG]
    clear inv;intro inv
    refine F_tk 5 inv ?_
    try simp only [tA,tB,tC,Act.put,tE,tF,tG]
    clear inv;intro inv
    refine F_o1 6 inv ?_;intro K hK
    try simp only [tA,tB,tC]
    go_simp
    refine (HLF.out _ HON.out.drew).mono ?_
    rintro en w1 ⟨v1,rfl,ho1,hb1⟩
    have hbD:=below_trans ((Below.refl wo.heap.size wo).drew) hb1
    obtain ⟨A6,c6,rfl,hl6,hm6,-⟩:=ho1.form cSt_len
    rw [List.length_map] at ho1 hl6
    have HO1:=Hd_ (show Own wo.heap.size w1.heap.size w1 66 cSt 2 (.slice A6 (arcsOf g (x:Int)).length c6) ((arcsOf g (x:Int)).map (·.1)) from ho1)
    clear ho1
    refine hK.out _ _ (kB3 hb1 hS) (fun _ _=>?_)
    try simp only [tA,tB,tC,Act.put,tE,tF,tG]
    clear hK K inv hS;rename_i hS inv
    refine F_l1 7 ?_;intro K hK
    go_simp
    refine hK _ _ ?_
    clear hK K inv hS
    try simp only [List.length_map]
    obtain ⟨nA,hnA⟩:∃ nA,nA=(arcsOf g (x:Int)).length:=⟨_,rfl⟩
    have hnA2:=hnA
    rw [<- hnA] at HO1 hl6 ⊢
    have hnA3:nA<=24:=by omega
    have HNA:=Hd_ hnA2
    have hsD:=hbD.size
    have HON1:=Hd_ (HON.out.trans (Only.of_below hbD gl (gl+1)))
    have HLR:=Hd_ (LayR.start (HLAY.out.below hbD) hsD HRAW.out)
    have HRO:=Hd_ (ownsRow_below HROW.out hbD (Nat.le_refl _))
    clear hnA hnA2 x0 x1 d0 d1 hb1 hbD HROW HLAY HRAW
    go_wp2_with fail
    go_loopw [7,10] (fun nx kk wi=>∃ (k gm cm:Nat) (zs':List Zr),k<=nA/\kk=.int .i64 (k:Int)/\nx=.slice (some ⟨gm,0,none⟩) (rowTk g a (layTo g a N i).1 x s k).1.length cm /\
     wi.ownsRow W0.heap.size 58 5 (.slice (some ⟨gm,0,none⟩) (rowTk g a (layTo g a N i).1 x s k).1.length cm) (rowTk g a (layTo g a N i).1 x s k).1.length (((rowTk g a (layTo g a N i).1 x s k).1.map rawZ).flatMap cZ) /\
     LayR W0.heap.size w1.heap.size i wi gl cl N (fun j=>(layTo g a N i).2.getD j []) (rowTk g a (layTo g a N i).1 x s k).2 zs'/\Only gl (gl+1) W0 wi /\
     Own wo.heap.size w1.heap.size wi 66 cSt 2 (.slice A6 nA c6) ((arcsOf g (x:Int)).map (·.1))/\w1.heap.size<=wi.heap.size) (fun _ kk _=>nA - (intOf kk).toNat)
    case atStart=>exact ⟨0,gn,cn,zs,Nat.zero_le _,rfl,rfl,HRO.out,HLR.out,HON1.out,HO1.out,Nat.le_refl _⟩
    case round =>
     clear HRO HLR HON1 HO1
     obtain ⟨k,gm,cm,zs',hk',rfl,rfl,hrow,hlr',hon,hown,hsz1⟩:=hrel
     by_cases hlk:k < nA
     · have hlka:k < (arcsOf g (x:Int)).length:=by rw [<- HNA.out];exact hlk
       have hyi:(arcsOf g (x:Int))[k]?=some (arcsOf g (x:Int))[k]:=List.getElem?_eq_getElem hlka
       have hym:=List.getElem_mem hlka
       generalize (arcsOf g (x:Int))[k]=p at hyi hym
       have hyr:=arc_range (grOk_iff.1 HGO.out) hym
       obtain ⟨e,he,hel,het⟩:=arc_stepEd HGO.out hym
       have HY:=Hd_ hyi
       have HRS:=Hd_ (rowTk_succ (a:=a) (N:=(layTo g a N i).1) (s:=s) hyi)
       have hko:=HKO.out k
       have htl:=HTL.out k
       obtain ⟨⟨sid,sinv⟩,l,t⟩:=p
       simp only at hyr he hel het
       obtain ⟨l,rfl⟩:=Int.eq_ofNat_of_zero_le hyr.1.1
       obtain ⟨t,rfl⟩:=Int.eq_ofNat_of_zero_le hyr.2.1
       have HNX:=Hd_ (fun (W:World) (hW:Only gl (gl+1) W0 W)=>by
        have h:=l18Next_any _ _ g a x s (sid,sinv) e l W (HGW.out W hW) (HAW.out W hW) HGO.out HA.out hkr.1 hkr.2 he hel
        rw [het] at h
        exact h)
       have hMl:=aft_lt HA.out s (valAt g x) l
       have hM4:=lt12 HA.out hMl
       have HAL0:=Hd_ (fun (h:aft a s (valAt g x) l=0)=>show arcL g a x s (rowTk g a (layTo g a N i).1 x s k) ((sid,sinv),(l:Int),(t:Int))=rowTk g a (layTo g a N i).1 x s k by rw [arcL];simp [h])
       have HALs:=Hd_ (fun (h:aft a s (valAt g x) l ≠ 0) (i0:Nat) (hf:findK (rowTk g a (layTo g a N i).1 x s k).1 (t,aft a s (valAt g x) l)=some i0)=>show arcL g a x s (rowTk g a (layTo g a N i).1 x s k) ((sid,sinv),(l:Int),(t:Int))=((rowTk g a (layTo g a N i).1 x s k).1,(rowTk g a (layTo g a N i).1 x s k).2 ++ [((sid,sinv),i0)]) by rw [arcL];simp [h,hf])
       have HALn:=Hd_ (fun (h:aft a s (valAt g x) l ≠ 0) (hf:findK (rowTk g a (layTo g a N i).1 x s k).1 (t,aft a s (valAt g x) l)=none)=>show arcL g a x s (rowTk g a (layTo g a N i).1 x s k) ((sid,sinv),(l:Int),(t:Int))=((rowTk g a (layTo g a N i).1 x s k).1 ++ [(t,aft a s (valAt g x) l)],(rowTk g a (layTo g a N i).1 x s k).2 ++ [((sid,sinv),(rowTk g a (layTo g a N i).1 x s k).1.length)]) by rw [arcL];simp [h,hf])
       obtain ⟨st,hst⟩:∃ st,st=rowTk g a (layTo g a N i).1 x s k:=⟨_,rfl⟩
       rw [<- hst] at HRS hko htl HAL0 HALs HALn hrow hlr' ⊢
       obtain ⟨z,hz,hz1,hz2,hz3,hz4,d0,d1,d2,d3,d4⟩:=hlr'.get HK.out
       simp only at d0 d1 hz1 hz2
       have x0:=ocell hon HX.out.1 (by omega) (.inr (by omega))
       have x1:=ocell hon HX.out.2.1 (by omega) (.inr (by omega))
       have y0:=ocell hon HX.out.2.2.1 (by omega) (.inr (by omega))
       have y1:=ocell hon HX.out.2.2.2.1 (by omega) (.inr (by omega))
       have y2:=ocell hon HX.out.2.2.2.2 (by omega) (.inr (by omega))
       have hsl:=hown.sl cSt_len
       obtain ⟨b6,o6,rfl,hb6,e0,e1⟩:=hsl.stI (i:=k) (x:=(sid,sinv)) (by rw [List.getElem?_map,hyi];rfl)
       simp only at e0 e1
       have hgmr:=hrow.lt gm rfl
       have hgll2:=hlr'.lt
       have hszi:=hon.size
       have hkk:(k:Int) < (nA:Int):=by omega
       have hb6w:b6 < wr.heap.size:=by omega
       have lw0:w.heap.size < wr.heap.size:=by omega
       have lw1:w.heap.size+1 < wr.heap.size:=by omega
       have HROW:=Hd_ hrow
       have HLR:=Hd_ hlr'
       have HON:=Hd_ hon
       have HOWN:=Hd_ hown
       have HZ:=Hd_ (And.intro hz (And.intro hz1 (And.intro hz2 (And.intro hz3 hz4))))
       obtain ⟨M,hM⟩:∃ M,M=aft a s (valAt g x) l:=⟨_,rfl⟩
       rw [<- hM] at HNX hMl hM4 HAL0 HALs HALn
       clear hst hrow hlr' hon hown hyi hym he hel het hz hz1 hz2 hz3 hz4 hsl hM
       go_upto_region 9 with fail
       refine wp_region_ext_lit (by kernel_rfl) (by kernel_rfl) ?_
       repeat (go_big_quiet_step ((go_at_call 34;exact Calls.ext_of (HNX.out _ (HON.out.trans (Only.of_below (ext_below _ _) gl (gl+1)))))))
       refine wpQuiet_nil ?_
       rintro _ ⟨u2,rfl⟩
       have hbX:=ext_below wr u2
       have HROX:=Hd_ (ownsRow_below HROW.out hbX (Nat.le_refl _))
       have HLRX:=Hd_ (HLR.out.below hbX)
       have HONX:=Hd_ (HON.out.trans (Only.of_below hbX gl (gl+1)))
       have HOWX:=Hd_ (HOWN.out.below (B:=wr.heap.size) hbX (by omega))
       have hsX:=hbX.size
       by_cases hM0:M=0
       · have HE:=Hd_ (HRS.out.trans (HAL0.out hM0))
         subst hM0
         clear HAL0 HALs HALn HRS hbX
         go_wp2_with fail
         go_roundw
         case rel=>exact ⟨k+1,gm,cm,zs',by omega,by go_num,by rw [HE.out],by rw [HE.out];exact HROX.out,by rw [HE.out];exact HLRX.out,HONX.out,HOWX.out,by omega⟩
         case measure=>simp [intOf];omega
       · have hMi:((M:Int)==0)=false:=by simp;omega
         have hMi2:decide ((M:Int)=0)=false:=by simp;omega
         have hfd:=l19Find_any (.slice (some ⟨gm,0,none⟩) st.1.length cm) st.1 t M (ext wr u2) (((Own.of_row (xs:=st.1.map rawZ) HROX.out (by simp) rfl).sl cZ_len).all (Nat.le_refl _))
         have HFD:=Hd_ hfd
         obtain ⟨wx,hwx⟩:∃ wx,wx=ext wr u2:=⟨_,rfl⟩
         rw [<- hwx] at HFD HROX HLRX HONX HOWX hsX ⊢
         clear hfd hbX hwx HAL0 HROW HLR HON HOWN HNX x0 x1 y0 y1 y2 d0 d1 d2 d3 d4 e0 e1 HZ
         go_wp2_with fail
         refine HFD.out.mono ?_
         rintro en w9 ⟨rfl,hw9⟩
         rw [hw9]
         clear hw9 HFD
         go_upto_if 62 with fail
         go_cut [13,7] (fun at' nx wy=>∃ (i0 gy cy:Nat) (N':List Key),at'=.int .i64 (i0:Int)/\nx=.slice (some ⟨gy,0,none⟩) N'.length cy/\arcL g a x s st ((sid,sinv),(l:Int),(t:Int))=(N',st.2 ++ [((sid,sinv),i0)]) /\
          wy.ownsRow W0.heap.size 58 5 (.slice (some ⟨gy,0,none⟩) N'.length cy) N'.length ((N'.map rawZ).flatMap cZ)/\Only gm (gm+1) wx wy)
         case first =>
          cases hf:findK st.1 (t,M) with
          | some i0 =>
            have hfi:findI st.1 (t,M)=(i0:Int):=by rw [findI,hf]
            have HAL:=Hd_ (HALs.out hM0 i0 hf)
            rw [hfi]
            clear hfi hf HALs HALn
            go_wp2_with fail
            go_meet
            exact ⟨i0,gm,cm,st.1,rfl,rfl,HAL.out,HROX.out,Only.refl _ _ _⟩
          | none =>
            have hfi:findI st.1 (t,M)=-1:=by rw [findI,hf]
            have HAL:=Hd_ (HALn.out hM0 hf)
            rw [hfi]
            clear hfi hf HALs HALn
            have HROX':=Hd_ (show wx.ownsRow W0.heap.size 58 5 (.slice (some ⟨gm,0,none⟩) st.1.length cm) (st.1.map rawZ).length ((st.1.map rawZ).flatMap cZ) by rw [List.length_map];exact HROX.out)
            have hml:(st.1.map rawZ).length<=20480:=by rw [List.length_map];exact hko
            go_wp2_with (at_builtin;(refine wpList_append1 cZ elZ rfl _ _ rfl W0.heap.size _ (st.1.map rawZ) (rawZ (t,M)) _ 1 _ (by rfl) HROX'.out (by rfl) rfl rfl rfl (rawZ_one _) (by omega) (by omega) (by omega) ?_);intro v8 w8 hrow8 hb8 hat8 hgr8)
            obtain ⟨gS,cS,rfl,-,-,-,-⟩:=own_some hrow8 (by simp)
            go_meet
            exact ⟨st.1.length,gS,cS,st.1 ++ [(t,M)],rfl,by simp,HAL.out,by simpa using hrow8,only_row hgr8⟩
         case rest =>
          obtain ⟨i0,gy,cy,N',rfl,rfl,hal2,hrowy,hony⟩:=hcut
          have hsy:=hony.size
          have hLRY:=HLRX.out.other HROX.out (by omega) hsy (fun b hb hl=>hony.block b hl (by omega))
          have hOWY:=HOWX.out.blocks (fun b hb=>hony.block b (HOWX.out.lt b hb).2.2 (by
           have:=own_ne HOWX.out.1 HROX.out (Ne.symm tyZS) hb
           simp only [Value.ownBlock,ne_eq,Option.some.injEq] at this
           omega))
          have hONY:=only_new HONX.out hony hgmr.1
          obtain ⟨z,hz,hz1,hz2,hz3,hz4,d0,d1,d2,d3,d4⟩:=hLRY.get HK.out
          simp only at hz1 hz2 d0 d1
          obtain ⟨b7,o7,eA,-,e0,e1⟩:=(hOWY.sl cSt_len).stI (i:=k) (x:=(sid,sinv)) (by rw [List.getElem?_map,HY.out];rfl)
          simp only [Option.some.injEq,Addr.mk.injEq,and_true] at eA
          obtain ⟨rfl,rfl⟩:=eA
          simp only at e0 e1
          have hgly:=hLRY.lt
          have hgyl:=(hrowy.lt gy rfl)
          have HE:=Hd_ (HRS.out.trans hal2)
          have HROY:=Hd_ hrowy
          have HLRY:=Hd_ hLRY
          have HOWY:=Hd_ hOWY
          have HONY:=Hd_ hONY
          have hosv:=hz4.1
          have hotv:=hz4.2
          clear hz hz1 hz2 hz3 hz4
          generalize z.sv=sv at *
          generalize z.tv=tv at *
          obtain ⟨As,ns,cs,rfl⟩:=hosv.shape
          obtain ⟨At,nt,ct,rfl⟩:=hotv.shape
          have HZ:=Hd_ (And.intro hosv hotv)
          have hwcs:w1.heap.size<=wc.heap.size:=by omega
          clear hal2 hrowy hony hLRY hOWY hONY hosv hotv HALs HALn HRS HROX HLRX HONX HOWX
          have hz4:=HZ.out
          obtain ⟨wz,hwz⟩:∃ wz,wz=wc.alloc (.cells #[.int .i64 (x:Int),.int .i64 (s:Int),.int .i64 0,.slice As ns cs,.slice At nt ct] 58):=⟨_,rfl⟩
          have hbZ:Below wc.heap.size wc wz:=by rw [hwz];exact (Below.refl _ _).alloc (Nat.le_refl _) _
          have hbk:Blk wz wc.heap.size 58 #[.int .i64 (x:Int),.int .i64 (s:Int),.int .i64 0,.slice As ns cs,.slice At nt ct]:=by rw [hwz];exact Blk.new _ _ _ _ rfl
          have hszz:=hbk.lt
          have hsv:=hz4.1.below hbZ (Nat.le_refl _)
          have htv:=hz4.2.below hbZ (Nat.le_refl _)
          have hsvl:∀ b,(Value.slice As ns cs).ownBlock=some b->w1.heap.size<=b/\b < wc.heap.size:=fun b hb=>⟨(hsv.lt b hb).1,(hsv.lt b hb).2.1⟩
          have htvl:∀ b,(Value.slice At nt ct).ownBlock=some b->w1.heap.size<=b/\b < wc.heap.size:=fun b hb=>⟨(htv.lt b hb).1,(htv.lt b hb).2.1⟩
          have hstv:∀ b,(Value.slice At nt ct).ownBlock=some b->(Value.slice As ns cs).ownBlock ≠ some b:=fun b hb=>own_ne htv.1 hsv.1 (Ne.symm tySI) hb
          have hnsv:(Value.slice As ns cs).ownBlock ≠ some gy:=by
           intro e
           exact own_ne hz4.1.1 HROY.out (Ne.symm tyZS) e rfl
          have hntv:(Value.slice At nt ct).ownBlock ≠ some gy:=by
           intro e
           exact own_ne hz4.2.1 HROY.out (Ne.symm tyZI) e rfl
          have b3:wz.cell? ⟨wc.heap.size,3,none⟩=some (.slice As ns cs):=hbk.cell 3
          have e0:=kcell hbZ e0
          have e1:=kcell hbZ e1
          have hTl:(st.2.map (·.1)).length<=24:=by rw [List.length_map];omega
          have hTl2:(st.2.map (·.2)).length<=24:=by rw [List.length_map];omega
          have HSV:=Hd_ hsv
          have HTV:=Hd_ htv
          have HBK:=Hd_ hbk
          have HBZ:=Hd_ hbZ
          have HSVL:=Hd_ (And.intro hsvl (And.intro htvl (And.intro hstv (And.intro hnsv hntv))))
          have lb6:b6 < wz.heap.size:=by omega
          clear hsv htv hbk hbZ hsvl htvl hstv hnsv hntv hz4
          go_upto_region 16 with fail
          rw [<- hwz]
          have HD:=Hd_ (And.intro d0 (And.intro d1 (And.intro d2 (And.intro d3 d4))))
          clear hwz d0 d1 d2 d3 d4
          refine F_start 9 (fun w'=>w'.cell? ⟨wc.heap.size,3,none⟩=some (.slice As ns cs)/\w'.cell? ⟨b6,o6+k * 2,none⟩=some (.int .i64 sid)/\w'.cell? ⟨b6,o6+k * 2+1,none⟩=some (.bool sinv)) (by kernel_rfl) (by exact ⟨b3,e0,e1⟩) (fun hS inv=>?_)
          refine F_tk 0 inv ?_
          try simp only [tA,tB,tC,Act.put,tE,tF,tG]
          clear inv;intro inv
          refine F_tk 1 inv ?_
          try simp only [tA,tB,tC,Act.put,tE,tF,tG]
          clear inv;intro inv
          refine F_tk 2 inv ?_
          try simp only [tA,tB,tC,Act.put,tE,tF,tG]
          clear inv;intro inv
          refine F_tk 3 inv ?_
          try simp only [tA,tB,tC,Act.put,tE,tF,tG]
          clear inv;intro inv
          refine F_tk 4 inv ?_
          try simp only [tA,tB,tC,Act.put,tE,tF,tG]
          clear inv;intro inv
          refine F_tk 5 inv ?_
          try simp only [tA,tB,tC,Act.put,tE,tF,tG]
          clear inv;intro inv
          refine F_o1 6 inv ?_;intro K hK
          try simp only [tA,tB,tC]
          go_simp
          refine hK.out _ _ (kA3 _ hS) (fun _ _=>?_)
          try simp only [tA,tB,tC,Act.put,tE,tF,tG]
          clear hK K inv hS;rename_i hS inv
          refine F_o1 7 inv ?_;intro K hK
          try simp only [tA,tB,tC]
          refine op_append1 cSt elStL rfl _ _ (by rfl) w1.heap.size (.slice As ns cs) (st.2.map (fun e:St × Nat=>e.1)) (sid,sinv) 1 _ (by rfl) (show ((wz.alloc (.cells #[.int .i64 sid,.bool sinv] 66)).drew).ownsRow w1.heap.size 66 2 (.slice As ns cs) (st.2.map (fun e:St × Nat=>e.1)).length ((st.2.map (fun e:St × Nat=>e.1)).flatMap cSt) from HSV.out.1.alloc _) (by first | rfl | simp) (heap_alloc_new _ _) rfl (cSt_one _) (by omega) (by omega) (by simp;omega) ?_
          intro g2 cp2 w3 hown3 hgr3 hat3 hlt3
          have hsvl:=HSVL.out.1
          have g3:∀ b,b < wz.heap.size->(Value.slice As ns cs).ownBlock ≠ some b->w3.heap[b]?=wz.heap[b]?:=fun b hb hn=>(hgr3.block b (by simp;omega) (fun e=>hn e.symm)).trans (Below.heap_alloc wz _ b hb)
          have hs3:wz.heap.size < w3.heap.size:=by have:=hgr3.size;simp at this;omega
          have hbk3:Blk w3 wc.heap.size 58 #[.int .i64 (x:Int),.int .i64 (s:Int),.int .i64 0,.slice As ns cs,.slice At nt ct]:=(g3 wc.heap.size hszz (fun e=>by have:=hsvl _ e;omega)).trans HBK.out
          have b3':w3.cell? ⟨wc.heap.size,3,none⟩=some (.slice As ns cs):=hbk3.cell 3
          have f3':=hbk3.frozen 3
          have l3':=hbk3.lt
          refine hK.out _ _ (⟨hgr3.cell hS.1 (fun e=>by have:=hsvl _ e.symm;simp only at this;omega),hgr3.cell hS.2.1 (fun e=>by have:=hsvl _ e.symm;simp only at this;omega),hgr3.cell hS.2.2 (fun e=>by have:=hsvl _ e.symm;simp only at this;omega)⟩) (fun _ _=>?_)
          try simp only [tA,tB,tC,Act.put,tE,tF,tG]
          clear hK K inv hS;rename_i hS inv
          refine F_tk 8 inv ?_
          try simp only [tA,tB,tC,Act.put,tE,tF,tG]
          clear inv;intro inv
          refine F_l1 9 ?_;intro K hK
          go_simp
          refine hK _ _ ?_
          clear hK K inv hS
          rw [List.length_map] at hown3
          obtain ⟨-,htvl,hstv,hnsv,hntv⟩:=HSVL.out
          obtain ⟨w4,hw4⟩:∃ w4,w4=w3.setCell ⟨wc.heap.size,3,none⟩ (.slice (some ⟨g2,0,none⟩) (st.2.length+1) cp2):=⟨_,rfl⟩
          have hbk4:Blk w4 wc.heap.size 58 #[.int .i64 (x:Int),.int .i64 (s:Int),.int .i64 0,.slice (some ⟨g2,0,none⟩) (st.2.length+1) cp2,.slice At nt ct]:=by
           have h:=hbk3.set_ 3 (.slice (some ⟨g2,0,none⟩) (st.2.length+1) cp2)
           rw [<- hw4] at h
           simpa using h
          have hs4w:w3.heap.size=w4.heap.size:=by rw [hw4];simp [World.setCell]
          have g4:∀ b,b < wz.heap.size->(Value.slice As ns cs).ownBlock ≠ some b->b ≠ wc.heap.size->w4.heap[b]?=wz.heap[b]?:=fun b hb hn hne=>by
           rw [hw4];exact (Below.heap_setCell w3 ⟨wc.heap.size,3,none⟩ _ b hne).trans (g3 b hb hn)
          have hg2:w1.heap.size<=g2/\g2 ≠ wc.heap.size:=by
           rcases hat3 with h | h
           · have:=hsvl g2 h;omega
           · simp at h;omega
          have hsv4:w4.ownsRow w1.heap.size 66 2 (Value.slice (some ⟨g2,0,none⟩) (st.2.length+1) cp2) ((st.2.map (fun e:St × Nat=>e.1)) ++ [(sid,sinv)]).length (((st.2.map (fun e:St × Nat=>e.1)) ++ [(sid,sinv)]).flatMap cSt) :=
           ownsRow_block hown3 (fun b hb=>by
            have:g2=b:=by simpa [Value.ownBlock] using hb
            rw [hw4];exact Below.heap_setCell w3 ⟨wc.heap.size,3,none⟩ _ b (by rw [<- this];exact hg2.2))
          have htv4:w4.ownsRow w1.heap.size 3 1 (.slice At nt ct) (st.2.map (fun e:St × Nat=>e.2)).length ((st.2.map (fun e:St × Nat=>e.2)).flatMap cN):=ownsRow_block HTV.out.1 (fun b hb=>g4 b (HTV.out.lt b hb).2.2 (hstv b hb) (by have:=htvl b hb;omega))
          have hbl4:Below w1.heap.size wc w4:=by
           rw [hw4]
           have h1:Below w1.heap.size wc ((wz.alloc (.cells #[.int .i64 sid,.bool sinv] 66)).drew):=((HBZ.out.mono hwcs).alloc (by omega) _).drew
           exact (h1.grown hgr3 (by simp;omega) (fun b hb=>(hsvl b hb).1)).setCell (by simp only;omega) _
          have b4:w4.cell? ⟨wc.heap.size,4,none⟩=some (.slice At nt ct):=hbk4.cell 4
          have l4:=hbk4.lt
          have HSV4:=Hd_ hsv4
          have HTV4:=Hd_ htv4
          have HBK4:=Hd_ hbk4
          have HBL4:=Hd_ hbl4
          have HG4:=Hd_ g4
          have HG2:=Hd_ hg2
          have hws:w1.heap.size<=w4.heap.size:=by omega
          have hwz4:wz.heap.size<=w4.heap.size:=by omega
          rw [<- hw4]
          clear hw4 hsv4 htv4 hbk4 hbl4 g4 hg2 hbk3 b3' f3' l3' g3 hown3 hgr3 hat3 hlt3 hsvl htvl hstv hnsv hntv HSV HTV HBK
          go_upto_region 18 with (at_builtin;(refine wpList_append1 cN elNL rfl _ _ rfl w1.heap.size _ (st.2.map (fun e:St × Nat=>e.2)) i0 _ 1 _ (by rfl) HTV4.out (by rfl) rfl rfl rfl (cN_one _) (by omega) (by omega) (by omega) ?_);intro v6 w6 hrow6 hb6' hat6 hgr6;obtain ⟨g6,cp6,rfl,hg6a,hg6b,-,-⟩:=own_some hrow6 (by simp);have hbk6:Blk w6 wc.heap.size 58 #[.int .i64 (x:Int),.int .i64 (s:Int),.int .i64 0,.slice (some ⟨g2,0,none⟩) (st.2.length+1) cp2,.slice At nt ct]:=(hgr6.block wc.heap.size (by simp;omega) (fun e=>by have:=HSVL.out.2.1 _ e.symm;omega)).trans ((Below.heap_alloc w4 _ _ l4).trans HBK4.out);have b46:w6.cell? ⟨wc.heap.size,4,none⟩=some (.slice At nt ct):=hbk6.cell 4;have f46:=hbk6.frozen 4;have l46:=hbk6.lt)
          obtain ⟨hsvl,htvl,hstv,hnsv,hntv⟩:=HSVL.out
          have hrow6':w6.ownsRow w1.heap.size 3 1 (Value.slice (some ⟨g6,0,none⟩) (st.2.length+1) cp6) ((st.2.map (fun e:St × Nat=>e.2)) ++ [i0]).length (((st.2.map (fun e:St × Nat=>e.2)) ++ [i0]).flatMap cN):=by
           have h:=hrow6
           rw [show ((st.2.map (fun e:St × Nat=>e.2)) ++ [i0]).length=st.2.length+1 by simp] at h ⊢
           exact h
          obtain ⟨w7,hw7⟩:∃ w7,w7=w6.setCell ⟨wc.heap.size,4,none⟩ (.slice (some ⟨g6,0,none⟩) (st.2.length+1) cp6):=⟨_,rfl⟩
          have hbk7:Blk w7 wc.heap.size 58 #[.int .i64 (x:Int),.int .i64 (s:Int),.int .i64 0,(.slice (some ⟨g2,0,none⟩) (st.2.length+1) cp2),(.slice (some ⟨g6,0,none⟩) (st.2.length+1) cp6)]:=by
           have h:=hbk6.set_ 4 (.slice (some ⟨g6,0,none⟩) (st.2.length+1) cp6)
           rw [<- hw7] at h
           simpa using h
          have hs6:w4.heap.size<=w6.heap.size:=by have:=hgr6.size;simp at this;omega
          have hs7:w6.heap.size=w7.heap.size:=by rw [hw7];simp [World.setCell]
          have g7:∀ b,b < w4.heap.size->(Value.slice At nt ct).ownBlock ≠ some b->b ≠ wc.heap.size->w7.heap[b]?=w4.heap[b]?:=fun b hb hn hne=>by
           rw [hw7];exact (Below.heap_setCell w6 ⟨wc.heap.size,4,none⟩ _ b hne).trans ((hgr6.block b (by simp;omega) (fun e=>hn e.symm)).trans (Below.heap_alloc w4 _ b hb))
          have hg6:g6 ≠ wc.heap.size:=by
           rcases hat6 with h | ⟨g',h,h'⟩
           · have:=htvl g6 h.symm;omega
           · simp [Value.ownBlock] at h;omega
          have hsv7:w7.ownsRow w1.heap.size 66 2 (.slice (some ⟨g2,0,none⟩) (st.2.length+1) cp2) ((st.2.map (fun e:St × Nat=>e.1)) ++ [(sid,sinv)]).length (((st.2.map (fun e:St × Nat=>e.1)) ++ [(sid,sinv)]).flatMap cSt) :=
           ownsRow_block HSV4.out (fun b hb=>g7 b (HSV4.out.lt b hb).2 (own_ne HSV4.out HTV4.out tySI hb) (by
            have:g2=b:=by simpa [Value.ownBlock] using hb
            have:=HG2.out.2;omega))
          have htv7:w7.ownsRow w1.heap.size 3 1 (.slice (some ⟨g6,0,none⟩) (st.2.length+1) cp6) ((st.2.map (fun e:St × Nat=>e.2)) ++ [i0]).length (((st.2.map (fun e:St × Nat=>e.2)) ++ [i0]).flatMap cN) :=
           ownsRow_block hrow6' (fun b hb=>by
            have:g6=b:=by simpa [Value.ownBlock] using hb
            rw [hw7];exact Below.heap_setCell w6 ⟨wc.heap.size,4,none⟩ _ b (by rw [<- this];exact hg6))
          have hbl7:Below w1.heap.size wc w7:=by
           rw [hw7]
           exact (((HBL4.out.alloc (by omega) _).grown hgr6 (by simp;omega) (fun b hb=>(htvl b hb).1)).setCell (by simp only;omega) _)
          have hglH:gl < w1.heap.size:=by omega
          have hgap:∀ b,b < w1.heap.size->b < wc.heap.size->w7.heap[b]?=wc.heap[b]?:=fun b hb _=>hbl7.block b hb
          obtain ⟨hrow7,-⟩:=HLRY.out.rowTurn hglH hgap
          have hrv7:RowV w1.heap.size w7.heap.size w7 ⟨x,s,0,(.slice (some ⟨g2,0,none⟩) (st.2.length+1) cp2),(.slice (some ⟨g6,0,none⟩) (st.2.length+1) cp6)⟩ (st.2 ++ [((sid,sinv),i0)]):=by
           refine ⟨⟨?_,fun b hb=>(hsv7.lt b hb).2⟩,⟨?_,fun b hb=>(htv7.lt b hb).2⟩⟩
           · rw [List.map_append];exact hsv7
           · rw [List.map_append];exact htv7
          have hput:=HLRY.out.put (z:=⟨x,s,0,(.slice (some ⟨g2,0,none⟩) (st.2.length+1) cp2),(.slice (some ⟨g6,0,none⟩) (st.2.length+1) cp6)⟩) hglH hgap HK.out rfl rfl rfl hrv7
          have hnx7:=ownsRow_block HROY.out (w':=w7) (fun b hb=>by
           have e:gy=b:=by simpa [Value.ownBlock] using hb
           subst e
           exact (g7 gy (by omega) hntv (by omega)).trans ((HG4.out gy (by omega) hnsv (by omega)).trans (HBZ.out.block gy hgyl.2)))
          have hnx8:=ownsRow_block hnx7 (w':=put5 w7 gl (i * 5) ⟨x,s,0,(.slice (some ⟨g2,0,none⟩) (st.2.length+1) cp2),(.slice (some ⟨g6,0,none⟩) (st.2.length+1) cp6)⟩) (fun b hb=>by
           have e:gy=b:=by simpa [Value.ownBlock] using hb
           exact put5_block _ _ _ _ b (by omega))
          have hon8:=(only_past HONY.out hbl7 (show W0.heap.size<=w1.heap.size by omega)).trans (put5_only w7 gl (i * 5) ⟨x,s,0,(.slice (some ⟨g2,0,none⟩) (st.2.length+1) cp2),(.slice (some ⟨g6,0,none⟩) (st.2.length+1) cp6)⟩)
          have how7:=HOWY.out.below hbl7 (Nat.le_refl _)
          have how8:=how7.blocks (w':=put5 w7 gl (i * 5) ⟨x,s,0,(.slice (some ⟨g2,0,none⟩) (st.2.length+1) cp2),(.slice (some ⟨g6,0,none⟩) (st.2.length+1) cp6)⟩) (fun b hb=>put5_block _ _ _ _ b (fun e=>by
           subst e
           exact own_ne how7.1 hrow7 (Ne.symm tyZS) hb rfl))
          have hs8:=put5_size w7 gl (i * 5) ⟨x,s,0,(.slice (some ⟨g2,0,none⟩) (st.2.length+1) cp2),(.slice (some ⟨g6,0,none⟩) (st.2.length+1) cp6)⟩
          have hs8':w1.heap.size<=(put5 w7 gl (i * 5) ⟨x,s,0,(.slice (some ⟨g2,0,none⟩) (st.2.length+1) cp2),(.slice (some ⟨g6,0,none⟩) (st.2.length+1) cp6)⟩).heap.size:=by omega
          have d0:w7.cell? ⟨gl,i * 5,none⟩=some (.int .i64 (x:Int)):=(World.cell?_of_block (a:=⟨gl,i * 5,none⟩) (hgap gl hglH (by omega))).trans HD.out.1
          have d1:w7.cell? ⟨gl,i * 5+1,none⟩=some (.int .i64 (s:Int)):=(World.cell?_of_block (a:=⟨gl,i * 5+1,none⟩) (hgap gl hglH (by omega))).trans HD.out.2.1
          have d2:w7.cell? ⟨gl,i * 5+2,none⟩=some (.int .i64 0):=(World.cell?_of_block (a:=⟨gl,i * 5+2,none⟩) (hgap gl hglH (by omega))).trans HD.out.2.2.1
          have d3:w7.cell? ⟨gl,i * 5+3,none⟩=some (.slice As ns cs):=(World.cell?_of_block (a:=⟨gl,i * 5+3,none⟩) (hgap gl hglH (by omega))).trans HD.out.2.2.2.1
          have d4:w7.cell? ⟨gl,i * 5+4,none⟩=some (.slice At nt ct):=(World.cell?_of_block (a:=⟨gl,i * 5+4,none⟩) (hgap gl hglH (by omega))).trans HD.out.2.2.2.2
          have f0:=World.ownsRow.frozenAt hrow7 (i * 5)
          have f1:=World.ownsRow.frozenAt hrow7 (i * 5+1)
          have f2:=World.ownsRow.frozenAt hrow7 (i * 5+2)
          have f3:=World.ownsRow.frozenAt hrow7 (i * 5+3)
          have f4:=World.ownsRow.frozenAt hrow7 (i * 5+4)
          have c0:w7.cell? ⟨wc.heap.size,0,none⟩=some (.int .i64 (x:Int)):=hbk7.cell 0
          have c1':w7.cell? ⟨wc.heap.size,1,none⟩=some (.int .i64 (s:Int)):=hbk7.cell 1
          have c2':w7.cell? ⟨wc.heap.size,2,none⟩=some (.int .i64 0):=hbk7.cell 2
          have c3':w7.cell? ⟨wc.heap.size,3,none⟩=some (.slice (some ⟨g2,0,none⟩) (st.2.length+1) cp2):=hbk7.cell 3
          have c4':w7.cell? ⟨wc.heap.size,4,none⟩=some (.slice (some ⟨g6,0,none⟩) (st.2.length+1) cp6):=hbk7.cell 4
          have lgl7:gl < w7.heap.size:=by omega
          have lbx7:=hbk7.lt
          have HPUT:=Hd_ hput
          have HNX8:=Hd_ hnx8
          have HON8:=Hd_ hon8
          have HOW8:=Hd_ how8
          have hii2:(i:Int) < (N.length:Int):=by omega
          rw [<- hw7]
          clear hw7 hbk7 g7 hg6 hsv7 htv7 hbl7 hgap hrow7 hrv7 hput hnx7 hnx8 hon8 how7 how8 hbk6 b46 f46 l46 hrow6 hrow6' hb6' hat6 hgr6 hsvl htvl hstv hnsv hntv HSVL b4 l4 hs8
          go_wp2_with fail
          rw [show ((((w7.setCell ⟨gl,i * 5,none⟩ (.int .i64 (x:Int))).setCell ⟨gl,i * 5+1,none⟩ (.int .i64 (s:Int))).setCell ⟨gl,i * 5+2,none⟩ (.int .i64 0)).setCell ⟨gl,i * 5+3,none⟩ (.slice (some ⟨g2,0,none⟩) (st.2.length+1) cp2)).setCell ⟨gl,i * 5+4,none⟩ (.slice (some ⟨g6,0,none⟩) (st.2.length+1) cp6)=put5 w7 gl (i * 5) ⟨x,s,0,(.slice (some ⟨g2,0,none⟩) (st.2.length+1) cp2),(.slice (some ⟨g6,0,none⟩) (st.2.length+1) cp6)⟩ from rfl]
          go_roundw
          case rel=>exact ⟨k+1,gy,cy,_,by omega,by go_num,by rw [HE.out],by rw [HE.out];exact HNX8.out,by rw [HE.out];exact HPUT.out,HON8.out,HOW8.out,hs8'⟩
          case measure=>simp [intOf];omega
     · obtain rfl:k=nA:=by omega
       rw [HNA.out,rowTk_all] at hrow hlr' ⊢
       have hLV:=hlr'.done (T':=fun j=>(layTo g a N (i+1)).2.getD j []) (by omega) hsz1 (fun j hj hjn=>by
        rcases Nat.lt_or_ge j i with h | h
        · exact HTA.out j h
        · rw [HTP.out j h,layTo_past g a N (by omega) (by omega)]) HTN.out
       have HRO:=Hd_ (show wr.ownsRow W0.heap.size 58 5 (.slice (some ⟨gm,0,none⟩) (layTo g a N (i+1)).1.length cm) (layTo g a N (i+1)).1.length (((layTo g a N (i+1)).1.map rawZ).flatMap cZ) by rw [HNS.out];exact hrow)
       have HLV:=Hd_ hLV
       have HRW:=Hd_ (show ∀ j k,i+1<=j->N[j]?=some k->zs'[j]?=some (rawZ k) from fun j k hj hk=>hlr'.raw j k (by omega) hk)
       have HNS1:=Hd_ (show (rowL g a (layTo g a N i).1 x s).1=(layTo g a N (i+1)).1 by rw [HNS.out])
       clear hLV hrow hlr' hown
       rw [HNS1.out]
       have hlk2:¬ ((arcsOf g (x:Int)).length:Int) < ((arcsOf g (x:Int)).length:Int):=by omega
       go_wp2_with fail
       go_roundw
       case rel=>exact ⟨i+1,gm,cm,zs',by omega,by go_num,rfl,HRO.out,HLV.out,HRW.out,hon⟩
       case measure=>simp [intOf];omega
  · obtain rfl:i=N.length:=by omega
    have hgn:=(hrow.lt gn rfl).1
    have HROW:=Hd_ (ownsRow_mono hrow (show w.heap.size<=W0.heap.size by omega))
    have HLAY:=Hd_ (hlay.mono (show w.heap.size<=W0.heap.size by omega) (Nat.le_refl _))
    have HON:=Hd_ ((Only.of_below HB0.out gl (gl+1)).trans hon)
    clear hrow hlay hraw hon
    go_wp2_with fail
    go_ret
    exact ⟨gn,cn,zs,rfl,by omega,HROW.out,HLAY.out,HON.out⟩
end Go.Proofs.YteaplabkemoenaaGreat
namespace Go.Proofs.YteaplabkemoenaaGreat
open Go.ChangeShapes Go.WideShapes Go.ChangeAt Go.RowKit
theorem dist_chain {next:Nat->List Nat} {goal:Nat->Prop} {N:Nat} (hn:∀ i k,i < N->k ∈ next i->k < N):∀ (d i:Nat),i < N->toG next goal d i->(∀ m,m < d->¬ toG next goal m i) ->
 ∃ L:List Nat,L.length=d+1/\(∀ v ∈ L,v < N)/\(∀ e v,L[e]?=some v->toG next goal (d - e) v/\∀ m,m < d - e->¬ toG next goal m v)
 | 0,i,hi,hg,hm=>⟨[i],rfl,fun v hv=>by rw [List.mem_singleton] at hv;subst hv;exact hi,fun e v he=>by
  cases e with
  | zero=>simp only [List.getElem?_cons_zero,Option.some.injEq] at he;subst he;exact ⟨hg,hm⟩
  | succ e=>simp at he⟩
 | d+1,i,hi,hg,hm=>by
   obtain ⟨k,hk,hg2⟩:=hg
   obtain ⟨L,h1,h2,h3⟩:=dist_chain hn d k (hn i k hi hk) hg2 (fun m hmd hgm=>hm (m+1) (by omega) ⟨k,hk,hgm⟩)
   refine ⟨i :: L,by simp [h1],fun v hv=>?_,fun e v he=>?_⟩
   · rcases List.mem_cons.1 hv with rfl | hv
     · exact hi
     · exact h2 v hv
   · cases e with
     | zero=>simp only [List.getElem?_cons_zero,Option.some.injEq] at he;subst he;exact ⟨⟨k,hk,hg2⟩,hm⟩
     | succ e =>
       simp only [List.getElem?_cons_succ] at he
       have:=h3 e v he
       rwa [show d+1 - (e+1)=d - e by omega]
theorem nodup_le:∀ {L:List Nat} {N:Nat},L.Nodup->(∀ v ∈ L,v < N)->L.length<=N:=by
 intro L N h1 h2
 have:=nodup_subN L (List.range N) h1 (fun v hv=>List.mem_range.2 (h2 v hv))
 simpa using this
theorem dist_lt {next:Nat->List Nat} {goal:Nat->Prop} {N i:Nat} {d:Int} (hn:∀ i k,i < N->k ∈ next i->k < N) (hi:i < N) (h:IsDist next goal i d):d < (N:Int):=by
 rcases h with ⟨rfl,_⟩ | ⟨h0,h1,h2⟩
 · omega
 · obtain ⟨L,e1,e2,e3⟩:=dist_chain hn d.toNat i hi h1 h2
   have hnd:L.Nodup:=by
    rw [List.Nodup,List.pairwise_iff_getElem]
    intro p q hp hq hpq he
    have f1:=e3 p L[p] (List.getElem?_eq_getElem hp)
    have f2:=e3 q L[q] (List.getElem?_eq_getElem hq)
    rw [<- he] at f2
    exact f1.2 _ (by omega) f2.1
   have:=nodup_le hnd e2
   omega
theorem shortLen_dist {g:Gr} {a:Au} {x y:Nat} (hg:grOk g=true) (ha:auOk a=true) (hx:x < g.vals.length) (hy:y < g.vals.length) :
 IsDist (nextI g a) (fun i=>i ∈ goalsL g a y) (x * a.accept.length+a.start.toNat) (shortLen g a (x:Int) (y:Int)):=by
 have hd:(wi (y:Int) 0 ((g.vals.length:Int) - 1) && (grOk g && auOk a))=true:=by
  simp only [Bool.and_eq_true]
  exact ⟨by rw [wi_iff];omega,hg,ha⟩
 have hN:∀ i k,i < g.vals.length * a.accept.length->k ∈ nextI g a i->k < g.vals.length * a.accept.length:=fun i k _ hk=>nextV_lt (grOk_iff.1 hg) ha hk
 have hfs:∀ i ∈ goalsL g a y,i < g.vals.length * a.accept.length:=fun i hi=>by
  obtain ⟨s,hs,_,rfl⟩:=mem_goalsL.1 hi
  calc y * a.accept.length+s < y * a.accept.length+a.accept.length:=by omega
   _=(y+1) * a.accept.length:=by rw [Nat.add_mul,Nat.one_mul]
   _<=_:=Nat.mul_le_mul_right _ hy
 obtain ⟨⟨_,hn⟩,⟨h0,h1⟩,-,-⟩:=auOk_iff.1 ha
 have hi:x * a.accept.length+a.start.toNat < g.vals.length * a.accept.length:=by
  calc x * a.accept.length+a.start.toNat < x * a.accept.length+a.accept.length:=by omega
   _=(x+1) * a.accept.length:=by rw [Nat.add_mul,Nat.one_mul]
   _<=_:=Nat.mul_le_mul_right _ hx
 rw [shortLen,if_pos (by rw [Bool.and_eq_true];exact ⟨by rw [wi_iff];omega,hd⟩),distTo,if_pos hd,Int.toNat_natCast,Int.toNat_natCast]
 exact spread_dist hfs hN _ hi
theorem shortLen_ok {g:Gr} {a:Au} {x y:Int} (h:0<=shortLen g a x y):cntOk g a x y=true:=by
 rcases hc:cntOk g a x y with _ | _
 · have:shortLen g a x y=-1:=by
    rw [shortLen,if_neg]
    rw [cntOk] at hc
    rw [hc];simp
   omega
 · rfl
theorem cntOk_iff {g:Gr} {a:Au} {x y:Int}:cntOk g a x y=true ↔ (0<=x/\x < (g.vals.length:Int))/\(0<=y/\y < (g.vals.length:Int))/\grOk g=true/\auOk a=true:=by
 rw [cntOk]
 simp only [Bool.and_eq_true,wi_iff]
 constructor
 · rintro ⟨h1,h2,h3,h4⟩;exact ⟨by omega,by omega,h3,h4⟩
 · rintro ⟨h1,h2,h3,h4⟩;exact ⟨by omega,by omega,h3,h4⟩
theorem shortLen_lt (g:Gr) (a:Au) (x y:Int):shortLen g a x y<=59:=by
 rcases Int.lt_or_le (shortLen g a x y) 0 with h | h
 · omega
 · obtain ⟨⟨hx0,hx1⟩,⟨hy0,hy1⟩,hg,ha⟩:=cntOk_iff.1 (shortLen_ok h)
   obtain ⟨x,rfl⟩:=Int.eq_ofNat_of_zero_le hx0
   obtain ⟨y,rfl⟩:=Int.eq_ofNat_of_zero_le hy0
   have hd:=shortLen_dist hg ha (show x < g.vals.length by omega) (show y < g.vals.length by omega)
   have hN:∀ i k,i < g.vals.length * a.accept.length->k ∈ nextI g a i->k < g.vals.length * a.accept.length:=fun i k _ hk=>nextV_lt (grOk_iff.1 hg) ha hk
   obtain ⟨⟨_,hn⟩,⟨h0,h1⟩,-,-⟩:=auOk_iff.1 ha
   have hi:x * a.accept.length+a.start.toNat < g.vals.length * a.accept.length:=by
    calc x * a.accept.length+a.start.toNat < x * a.accept.length+a.accept.length:=by omega
     _=(x+1) * a.accept.length:=by rw [Nat.add_mul,Nat.one_mul]
     _<=_:=Nat.mul_le_mul_right _ (by omega)
   have h5:=dist_lt hN hi hd
   have h6:g.vals.length * a.accept.length<=5 * 12:=Nat.mul_le_mul (grOk_iff.1 hg).n5 hn
   omega
def cwI (g:Gr) (a:Au) (x y:Int) (f:Nat):Nat:=cw g a y f x.toNat (bit a.start.toNat)
def nthI (g:Gr) (a:Au) (x y:Int) (f n:Nat):List St:=nthL g a y f x.toNat (bit a.start.toNat) n
def cntShort (g:Gr) (a:Au) (x y:Int):Int:=if shortLen g a x y < 0 then 0 else (cwI g a x y (shortLen g a x y).toNat:Nat)
def nthSh (g:Gr) (a:Au) (x y n:Int):Bool:=decide (0<=shortLen g a x y) && wi n 0 ((cwI g a x y (shortLen g a x y).toNat:Nat) - 1)
def nthShort (g:Gr) (a:Au) (x y n:Int):Wk × Bool:=if nthSh g a x y n=true then ((x,nthI g a x y (shortLen g a x y).toNat n.toNat),true) else ((0,[]),false)
theorem nthShort_len (g:Gr) (a:Au) (x y n:Int):(nthShort g a x y n).1.2.length<=60:=by
 unfold nthShort
 split
 · rename_i h
   rw [nthSh,Bool.and_eq_true,wi_iff,decide_eq_true_eq] at h
   have h2:=shortLen_lt g a x y
   show (nthI ..).length<=60
   rw [nthI,nthL_len]
   · omega
   · have:n.toNat < cwI g a x y (shortLen g a x y).toNat:=by omega
     exact this
 · simp
theorem pick_some {α:Type} {k:α->Nat}:∀ {l:List α} {n n':Nat} {p:α},pick k l n=some (p,n')->p ∈ l/\n' < k p
 | [],n,n',p,h=>by cases h
 | q :: l,n,n',p,h=>by
   rw [pick] at h
   split at h
   · rename_i hn
     injection h with h
     injection h with h1 h2
     subst h1 h2
     exact ⟨List.mem_cons_self ..,hn⟩
   · have:=pick_some h
     exact ⟨List.mem_cons_of_mem _ this.1,this.2⟩
end Go.Proofs.YteaplabkemoenaaGreat
