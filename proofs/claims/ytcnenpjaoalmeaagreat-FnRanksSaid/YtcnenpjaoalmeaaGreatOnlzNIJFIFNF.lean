/- Parts of the proof, joined into one text: RnkD, LstM, RnkM, CmpM, WitQ, WitR. -/
import Derived.Test.YtcnenpjaoalmeaaGreatOnlzLFBGJJGP
import Derived.Test.YtcnenpjaoalmeaaGreatOnlzACPBJODD
import Derived.Deep.DeepCutAuto
import Derived.Test.YtcnenpjaoalmeaaGreatOnlzAAOIIFGL
import Derived.Test.YtcnenpjaoalmeaaGreatOnlzIELAFJOL
import Derived.Test.YtcnenpjaoalmeaaGreatOnlzPHPFCMJJ
import Derived.Test.YtcnenpjaoalmeaaGreatOnlzNBNNNJPC
set_option linter.unusedVariables false
set_option linter.unusedSimpArgs false
namespace Go.Proofs.YtcnenpjaoalmeaaGreat
open Go.ChangeShapes Go.WideShapes Go.ChangeAt Go.RowKit
attribute [local go_sem] ext_cell ext_frozen ext_lt ext_lt1 ext_lt2 ext_lt3 ltn2 ltn3 ltn13 lts1 lts2 lts3
def RnkOut (w:World) (e:Ending) (w':World):Prop:=∃ vg va vk g a x y k,e=.returned (.tuple #[vg,va,.int .i64 x,.int .i64 y,vk])/\(GrV w.heap.size w'.heap.size w' vg g/\AuV w.heap.size w'.heap.size w' va a/\WkV w.heap.size w'.heap.size w' vk k/\Below w.heap.size w w')
/-- the walk in its box wq, its steps in blocks from lo on -/
structure BoxW (r wq lo hi:Nat) (w:World) (k:Wk) (ss:Value):Prop where
 box:Blk w wq 36 #[.int .i64 k.1,ss]
 wk:WkV lo hi w (.agg #[.int .i64 k.1,ss]) k
 le:hi<=w.heap.size
 ord:r < wq/\r < lo
set_option maxHeartbeats 16000000 in
theorem drawRankShortest_any (v:Value) (bs:List Int) (w:World) (hv:SlI 0 w.heap.size w cU 1 v bs) :
 Calls Tryz.prog 29 #[v] w (RnkOut w):=by
 have HV:=Hd_ hv
 have hb0:=(((Below.refl w.heap.size w).alloc (Nat.le_refl _) (.cells #[.slice none 0 0,.slice none 0 0] 27)).alloc (by simp) (.cells #[.int .i64 0,.slice none 0 0,.slice none 0 0] 31)).alloc (by simp;omega) (.cells #[.int .i64 0,.slice none 0 0] 36)
 have hb1:=((Blk.new w 27 #[.slice none 0 0,.slice none 0 0] _ rfl).alloc (.cells #[.int .i64 0,.slice none 0 0,.slice none 0 0] 31)).alloc (.cells #[.int .i64 0,.slice none 0 0] 36)
 have hb2:=(Blk.new (w.alloc (.cells #[.slice none 0 0,.slice none 0 0] 27)) 31 #[.int .i64 0,.slice none 0 0,.slice none 0 0] (w.heap.size+1) (by simp)).alloc (.cells #[.int .i64 0,.slice none 0 0] 36)
 have hbw:=Blk.new ((w.alloc (.cells #[.slice none 0 0,.slice none 0 0] 27)).alloc (.cells #[.int .i64 0,.slice none 0 0,.slice none 0 0] 31)) 36 #[.int .i64 0,.slice none 0 0] (w.heap.size+1+1) (by simp)
 have hs0:(((w.alloc (.cells #[.slice none 0 0,.slice none 0 0] 27)).alloc (.cells #[.int .i64 0,.slice none 0 0,.slice none 0 0] 31)).alloc (.cells #[.int .i64 0,.slice none 0 0] 36)).heap.size=w.heap.size+3:=by simp
 obtain ⟨A,n,c,rfl⟩:=hv.shape
 clear hv
 go_enter Tryz.func29,Tryz.ntmps29
 go_wp2_with fail
 refine (l17Two_any _ bs _ ((HV.out.below hb0 (Nat.le_refl _)).mono (Nat.le_refl _) hb0.size)).mono ?_
 rintro e w2 ⟨b,vg,va,g,a,x,y,rfl,hbl,hgv,he11,hav,hc2,hbx⟩
 have hr1:=hb1.keep hbx
 have hr2:=hb2.keep hbx
 have hrw:=hbw.keep hbx
 have hb3:=below_trans hb0 hbx
 rw [hs0] at hbl
 clear hbx hb1 hb2 hbw hb0 hs0 HV
 have hlb:=hc2.lt
 obtain ⟨A1,n1,c1,A2,n2,c2,rfl⟩:=hgv.shape
 obtain ⟨A3,n3,c3,A4,n4,c4,rfl⟩:=hav.shape
 have hal:=((Below.refl w2.heap.size w2).alloc (Nat.le_refl _) (.cells #[.slice A1 n1 c1,.slice A2 n2 c2] 27)).alloc (by simp) (.cells #[.int .i64 a.start,.slice A3 n3 c3,.slice A4 n4 c4] 31)
 have bg:=(Blk.new w2 27 #[.slice A1 n1 c1,.slice A2 n2 c2] _ rfl).alloc (.cells #[.int .i64 a.start,.slice A3 n3 c3,.slice A4 n4 c4] 31)
 have ba:=Blk.new (w2.alloc (.cells #[.slice A1 n1 c1,.slice A2 n2 c2] 27)) 31 #[.int .i64 a.start,.slice A3 n3 c3,.slice A4 n4 c4] (w2.heap.size+1) (by simp)
 obtain ⟨gq,hgq⟩:∃ gq,gq=w2.heap.size:=⟨_,rfl⟩
 have HP:=Hd_ (show GaR b w.heap.size gq (gq+1) w ((w2.alloc (.cells #[.slice A1 n1 c1,.slice A2 n2 c2] 27)).alloc (.cells #[.int .i64 a.start,.slice A3 n3 c3,.slice A4 n4 c4] 31)) _ _ g _ _ a from
  ⟨hr1.keep hal,hr2.keep hal,hgq ▸ bg,hgq ▸ ba,(hgv.below hal (Nat.le_refl _)).mono (by omega) (by omega),(hav.below hal (Nat.le_refl _)).mono (by omega) (by omega),hc2.keep hal,below_trans hb3 hal,rfl,he11,by omega⟩)
 have HR:=Hd_ (hrw.keep hal)
 have hrb:w.heap.size+2 < b:=by omega
 clear hal bg ba hgv hav hc2 hr1 hr2 hrw hb3
 go_upto_region 2 with fail
 rw [<- hgq]
 generalize ((w2.alloc (.cells #[.slice A1 n1 c1,.slice A2 n2 c2] 27)).alloc (.cells #[.int .i64 a.start,.slice A3 n3 c3,.slice A4 n4 c4] 31))=W at *
 clear hgq hlb hbl
 have x0:W.cell? ⟨gq,0,none⟩=some (.slice A1 n1 c1):=HP.out.gbk.cell 0
 have x1:W.cell? ⟨gq,1,none⟩=some (.slice A2 n2 c2):=HP.out.gbk.cell 1
 have y0:W.cell? ⟨gq+1,0,none⟩=some (.int .i64 a.start):=HP.out.abk.cell 0
 have y1:W.cell? ⟨gq+1,1,none⟩=some (.slice A3 n3 c3):=HP.out.abk.cell 1
 have y2:W.cell? ⟨gq+1,2,none⟩=some (.slice A4 n4 c4):=HP.out.abk.cell 2
 go_cut [12,13] (fun s12 s13 wx=>∃ (wq lo hi:Nat) (kk:Wk) (A5:Option Addr) (n5 c5:Nat) (is:Bool),s12=.pointer (some ⟨wq,0,none⟩)/\s13=.bool is/\GaR b w.heap.size gq (gq+1) w wx (.slice A1 n1 c1) (.slice A2 n2 c2) g (.slice A3 n3 c3) (.slice A4 n4 c4) a/\Blk wx (w.heap.size+1+1) 36 #[.int .i64 0,.slice none 0 0]/\BoxW (gq+1) wq lo hi wx kk (.slice A5 n5 c5))
 case first =>
  go_wp2_with fail
  refine F_start 18 (fun w'=>w'.cell? ⟨gq,0,none⟩=some (.slice A1 n1 c1)/\w'.cell? ⟨gq,1,none⟩=some (.slice A2 n2 c2)/\w'.cell? ⟨gq+1,0,none⟩=some (.int .i64 a.start)/\w'.cell? ⟨gq+1,1,none⟩=some (.slice A3 n3 c3)/\w'.cell? ⟨gq+1,2,none⟩=some (.slice A4 n4 c4)) (by kernel_rfl) (by exact ⟨x0,x1,y0,y1,y2⟩) (fun hS inv=>?_)
  refine F_tk 0 inv ?_
  try simp only [tA,tB,tC,Act.put,tE,tF,tG]
  clear inv;intro inv
  refine F_tk 1 inv ?_
  try simp only [tA,tB,tC,Act.put,tE,tF,tG]
  clear inv;intro inv
  refine F_tk 2 inv ?_
  try simp only [tA,tB,tC,Act.put,tE,tF,tG]
  clear inv;intro inv
  refine F_tk 3 inv ?_
  try simp only [tA,tB,tC,Act.put,tE,tF,tG]
  clear inv;intro inv
  refine F_tk 4 inv ?_
  try simp only [tA,tB,tC,Act.put,tE,tF,tG]
  clear inv;intro inv
  refine F_tk 5 inv ?_
  try simp only [tA,tB,tC,Act.put,tE,tF,tG]
  clear inv;intro inv
  refine F_tk 6 inv ?_
  try simp only [tA,tB,tC,Act.put,tE,tF,tG]
  clear inv;intro inv
  refine F_tk 7 inv ?_
  try simp only [tA,tB,tC,Act.put,tE,tF,tG]
  clear inv;intro inv
  refine F_tk 8 inv ?_
  try simp only [tA,tB,tC,Act.put,tE,tF,tG]
  clear inv;intro inv
  have HP:=Hd_ HP.out.drew
  have HR:=Hd_ (HR.out.keep (Below.refl W.heap.size W).drew)
  clear x0 x1 y0 y1 y2
  generalize W.drew=Wd at *
  refine F_two (i:=9) (j:=16) (by kernel_rfl) rfl rfl rfl rfl (by omega) inv (fun K hK=>?_) (fun K hK=>?_)
  all_goals (try simp only [tA,tB,tC])
  · skip
    go_simp
    refine (specCountShortest _ _ g a x y _ HP.out.grv HP.out.auv).mono ?_
    rintro e wc ⟨rfl,hbc⟩
    generalize cntShort g a x y=CN at *
    have HP:=Hd_ (HP.out.keep hbc)
    have HR:=Hd_ (HR.out.keep hbc)
    refine hK.out _ _ (⟨HP.out.gbk.cell 0,HP.out.gbk.cell 1,HP.out.abk.cell 0,HP.out.abk.cell 1,HP.out.abk.cell 2⟩) (fun _ _=>?_)
    try simp only [tA,tB,tC,Act.put,tE,tF,tG]
    clear hK K inv hS;rename_i hS inv
    refine F_tk 10 inv ?_
    try simp only [tA,tB,tC,Act.put,tE,tF,tG]
    clear inv;intro inv
    refine F_two (i:=11) (j:=16) (by kernel_rfl) rfl rfl rfl rfl (by omega) inv (fun K hK=>?_) (fun K hK=>?_)
    all_goals (try simp only [tA,tB,tC])
    · skip
      go_simp
      refine (l1Below_any b _ _ HP.out.cur).mono ?_
      rintro e wb ⟨q,rfl,-,hcb,hob⟩
      have hordb:=HP.out.ord
      have HR:=Hd_ (HR.out.only hob (.inl (by omega)))
      have HP:=Hd_ (HP.out.step hob hcb)
      clear hob hcb
      refine hK.out _ _ (⟨HP.out.gbk.cell 0,HP.out.gbk.cell 1,HP.out.abk.cell 0,HP.out.abk.cell 1,HP.out.abk.cell 2⟩) (fun _ _=>?_)
      try simp only [tA,tB,tC,Act.put,tE,tF,tG]
      clear hK K inv hS;rename_i hS inv
      refine F_two (i:=12) (j:=16) (by kernel_rfl) rfl rfl rfl rfl (by omega) inv (fun K hK=>?_) (fun K hK=>?_)
      all_goals (try simp only [tA,tB,tC])
      · skip
        go_simp
        have hlon:=HP.out.abk.lt
        refine (specNthShortest _ _ g a x y q _ HP.out.grv HP.out.auv).mono ?_
        rintro e wn ⟨vk,rfl,hkn,hbn⟩
        have HP:=Hd_ (HP.out.keep hbn)
        have HR:=Hd_ (HR.out.keep hbn)
        generalize (nthShort g a x y q).1=kk at *
        generalize (nthShort g a x y q).2=is at *
        have hkv:=hkn.view
        clear hkn
        obtain ⟨A5,n5,c5,rfl⟩:=hkv.shape
        have hsn:=hbn.size
        refine hK.out _ _ (⟨HP.out.gbk.cell 0,HP.out.gbk.cell 1,HP.out.abk.cell 0,HP.out.abk.cell 1,HP.out.abk.cell 2⟩) (fun _ _=>?_)
        try simp only [tA,tB,tC,Act.put,tE,tF,tG]
        clear hK K inv hS;rename_i hS inv
        refine F_tk 13 inv ?_
        try simp only [tA,tB,tC,Act.put,tE,tF,tG]
        clear inv;intro inv
        refine F_tk 14 inv ?_
        try simp only [tA,tB,tC,Act.put,tE,tF,tG]
        clear inv;intro inv
        refine F_tk 15 inv ?_
        try simp only [tA,tB,tC,Act.put,tE,tF,tG]
        clear inv;intro inv
        refine F_o1 16 inv ?_;intro K hK
        try simp only [tA,tB,tC]
        go_simp
        have hgl:=HP.out.abk.lt
        have hba:=(Below.refl wn.heap.size wn).alloc (Nat.le_refl _) (.cells #[.int .i64 0,.slice none 0 0] 36)
        have HP:=Hd_ (HP.out.keep hba)
        have HR:=Hd_ (HR.out.keep hba)
        have bwn:=Blk.new wn 36 #[.int .i64 0,.slice none 0 0] _ rfl
        have hsz:(wn.alloc (.cells #[.int .i64 0,.slice none 0 0] 36)).heap.size=wn.heap.size+1:=by simp
        have hkv:=hkv.below hba (Nat.le_refl _)
        obtain ⟨wq,hwqe⟩:∃ wq,wq=wn.heap.size:=⟨_,rfl⟩
        rw [<- hwqe] at bwn hgl hsz ⊢
        have HWN:=Hd_ bwn
        generalize (wn.alloc (.cells #[.int .i64 0,.slice none 0 0] 36))=wa at *
        have HWQ:=Hd_ hwqe
        have HSZ:=Hd_ hsz
        clear hwqe hsz bwn
        refine hK.out _ _ (⟨HP.out.gbk.cell 0,HP.out.gbk.cell 1,HP.out.abk.cell 0,HP.out.abk.cell 1,HP.out.abk.cell 2⟩) (fun _ _=>?_)
        try simp only [tA,tB,tC,Act.put,tE,tF,tG]
        clear hK K inv hS;rename_i hS inv
        have z5:=HWN.out.cell 0
        have z6:=HWN.out.cell 1
        have v5:=HWN.out.frozen 0
        have v6:=HWN.out.frozen 1
        have hlw:=HWN.out.lt
        have hput:=Only.put2 wa wq (.int .i64 kk.1) (.slice A5 n5 c5)
        have HPE:=Hd_ (HP.out.far hput hgl)
        have HRE:=Hd_ (HR.out.only hput (.inl (by have:=HP.out.ord;omega)))
        have hps:=hput.size
        have HBE:=Hd_ (show BoxW (gq+1) wq wb.heap.size wn.heap.size ((wa.setCell ⟨wq,0,none⟩ (.int .i64 kk.1)).setCell ⟨wq,1,none⟩ (.slice A5 n5 c5)) kk (.slice A5 n5 c5) from ⟨HWN.out.put2 _ _,hkv.only hput (by have:=HWQ.out;have:=HSZ.out;omega) (by have:=HWQ.out;have:=HSZ.out;omega),by have:=HWQ.out;have:=HSZ.out;omega,by have:=HWQ.out;have:=HSZ.out;omega⟩)
        clear hkv hps hput
        refine F_o1 17 inv ?_;intro K hK
        try simp only [tA,tB,tC]
        go_simp
        refine hK.out _ _ (⟨HPE.out.gbk.cell 0,HPE.out.gbk.cell 1,HPE.out.abk.cell 0,HPE.out.abk.cell 1,HPE.out.abk.cell 2⟩) (fun _ _=>?_)
        try simp only [tA,tB,tC,Act.put,tE,tF,tG]
        clear hK K inv hS;rename_i hS inv
        refine F_l1 18 ?_;intro K hK
        go_simp
        refine hK _ _ ?_
        clear hK K
        generalize hmx:(if 1 < CN then CN else 1)=MX
        clear hmx
        go_wp2_with fail
        all_goals (go_meet;exact ⟨_,_,_,kk,A5,n5,c5,is,rfl,rfl,HPE.out,HRE.out,HBE.out⟩)
      · skip
        go_simp
        have hgl:=HP.out.abk.lt
        have hba:=(Below.refl wb.heap.size wb).alloc (Nat.le_refl _) (.cells #[.int .i64 0,.slice none 0 0] 36)
        have HP:=Hd_ (HP.out.keep hba)
        have HR:=Hd_ (HR.out.keep hba)
        have bwn:=Blk.new wb 36 #[.int .i64 0,.slice none 0 0] _ rfl
        have hsz:(wb.alloc (.cells #[.int .i64 0,.slice none 0 0] 36)).heap.size=wb.heap.size+1:=by simp
        obtain ⟨wq,hwqe⟩:∃ wq,wq=wb.heap.size:=⟨_,rfl⟩
        rw [<- hwqe] at bwn hgl hsz ⊢
        have HWN:=Hd_ bwn
        generalize (wb.alloc (.cells #[.int .i64 0,.slice none 0 0] 36))=wa at *
        have HWQ:=Hd_ hwqe
        have HSZ:=Hd_ hsz
        clear hwqe hsz bwn
        refine hK.out _ _ (⟨HP.out.gbk.cell 0,HP.out.gbk.cell 1,HP.out.abk.cell 0,HP.out.abk.cell 1,HP.out.abk.cell 2⟩) (fun _ _=>?_)
        try simp only [tA,tB,tC,Act.put,tE,tF,tG]
        clear hK K inv hS;rename_i hS inv
        refine F_o1 12 inv ?_;intro K hK
        try simp only [tA,tB,tC]
        go_simp
        have hlon:=HP.out.abk.lt
        refine (specNthShortest _ _ g a x y q _ HP.out.grv HP.out.auv).mono ?_
        rintro e wn ⟨vk,rfl,hkn,hbn⟩
        have HP:=Hd_ (HP.out.keep hbn)
        have HR:=Hd_ (HR.out.keep hbn)
        generalize (nthShort g a x y q).1=kk at *
        generalize (nthShort g a x y q).2=is at *
        have hkv:=hkn.view
        clear hkn
        obtain ⟨A5,n5,c5,rfl⟩:=hkv.shape
        have hsn:=hbn.size
        have HWN:=Hd_ (HWN.out.keep hbn)
        refine hK.out _ _ (⟨HP.out.gbk.cell 0,HP.out.gbk.cell 1,HP.out.abk.cell 0,HP.out.abk.cell 1,HP.out.abk.cell 2⟩) (fun _ _=>?_)
        try simp only [tA,tB,tC,Act.put,tE,tF,tG]
        clear hK K inv hS;rename_i hS inv
        refine F_tk 13 inv ?_
        try simp only [tA,tB,tC,Act.put,tE,tF,tG]
        clear inv;intro inv
        refine F_tk 14 inv ?_
        try simp only [tA,tB,tC,Act.put,tE,tF,tG]
        clear inv;intro inv
        refine F_tk 15 inv ?_
        try simp only [tA,tB,tC,Act.put,tE,tF,tG]
        clear inv;intro inv
        have z5:=HWN.out.cell 0
        have z6:=HWN.out.cell 1
        have v5:=HWN.out.frozen 0
        have v6:=HWN.out.frozen 1
        have hlw:=HWN.out.lt
        have hput:=Only.put2 wn wq (.int .i64 kk.1) (.slice A5 n5 c5)
        have HPE:=Hd_ (HP.out.far hput hgl)
        have HRE:=Hd_ (HR.out.only hput (.inl (by have:=HP.out.ord;omega)))
        have hps:=hput.size
        have HBE:=Hd_ (show BoxW (gq+1) wq wa.heap.size wn.heap.size ((wn.setCell ⟨wq,0,none⟩ (.int .i64 kk.1)).setCell ⟨wq,1,none⟩ (.slice A5 n5 c5)) kk (.slice A5 n5 c5) from ⟨HWN.out.put2 _ _,hkv.only hput (by have:=HWQ.out;have:=HSZ.out;omega) (by have:=HWQ.out;have:=HSZ.out;omega),by have:=HWQ.out;have:=HSZ.out;omega,by have:=HWQ.out;have:=HSZ.out;omega⟩)
        clear hkv hps hput
        refine F_o1 17 inv ?_;intro K hK
        try simp only [tA,tB,tC]
        go_simp
        refine hK.out _ _ (⟨HPE.out.gbk.cell 0,HPE.out.gbk.cell 1,HPE.out.abk.cell 0,HPE.out.abk.cell 1,HPE.out.abk.cell 2⟩) (fun _ _=>?_)
        try simp only [tA,tB,tC,Act.put,tE,tF,tG]
        clear hK K inv hS;rename_i hS inv
        refine F_l1 18 ?_;intro K hK
        go_simp
        refine hK _ _ ?_
        clear hK K
        generalize hmx:(if 1 < CN then CN else 1)=MX
        clear hmx
        go_wp2_with fail
        all_goals (go_meet;exact ⟨_,_,_,kk,A5,n5,c5,is,rfl,rfl,HPE.out,HRE.out,HBE.out⟩)
    · skip
      go_simp
      have hgl:=HP.out.abk.lt
      have hba:=(Below.refl wc.heap.size wc).alloc (Nat.le_refl _) (.cells #[.int .i64 0,.slice none 0 0] 36)
      have HP:=Hd_ (HP.out.keep hba)
      have HR:=Hd_ (HR.out.keep hba)
      have bwn:=Blk.new wc 36 #[.int .i64 0,.slice none 0 0] _ rfl
      have hsz:(wc.alloc (.cells #[.int .i64 0,.slice none 0 0] 36)).heap.size=wc.heap.size+1:=by simp
      obtain ⟨wq,hwqe⟩:∃ wq,wq=wc.heap.size:=⟨_,rfl⟩
      rw [<- hwqe] at bwn hgl hsz ⊢
      have HWN:=Hd_ bwn
      generalize (wc.alloc (.cells #[.int .i64 0,.slice none 0 0] 36))=wa at *
      have HWQ:=Hd_ hwqe
      have HSZ:=Hd_ hsz
      clear hwqe hsz bwn
      refine hK.out _ _ (⟨HP.out.gbk.cell 0,HP.out.gbk.cell 1,HP.out.abk.cell 0,HP.out.abk.cell 1,HP.out.abk.cell 2⟩) (fun _ _=>?_)
      try simp only [tA,tB,tC,Act.put,tE,tF,tG]
      clear hK K inv hS;rename_i hS inv
      refine F_o1 11 inv ?_;intro K hK
      try simp only [tA,tB,tC]
      go_simp
      refine (l1Below_any b _ _ HP.out.cur).mono ?_
      rintro e wb ⟨q,rfl,-,hcb,hob⟩
      have hordb:=HP.out.ord
      have HR:=Hd_ (HR.out.only hob (.inl (by omega)))
      have HP:=Hd_ (HP.out.step hob hcb)
      have HWN:=Hd_ (HWN.out.only hob (.inr (by omega)))
      have hsb:=hob.size
      clear hob hcb
      refine hK.out _ _ (⟨HP.out.gbk.cell 0,HP.out.gbk.cell 1,HP.out.abk.cell 0,HP.out.abk.cell 1,HP.out.abk.cell 2⟩) (fun _ _=>?_)
      try simp only [tA,tB,tC,Act.put,tE,tF,tG]
      clear hK K inv hS;rename_i hS inv
      refine F_o1 12 inv ?_;intro K hK
      try simp only [tA,tB,tC]
      go_simp
      have hlon:=HP.out.abk.lt
      refine (specNthShortest _ _ g a x y q _ HP.out.grv HP.out.auv).mono ?_
      rintro e wn ⟨vk,rfl,hkn,hbn⟩
      have HP:=Hd_ (HP.out.keep hbn)
      have HR:=Hd_ (HR.out.keep hbn)
      generalize (nthShort g a x y q).1=kk at *
      generalize (nthShort g a x y q).2=is at *
      have hkv:=hkn.view
      clear hkn
      obtain ⟨A5,n5,c5,rfl⟩:=hkv.shape
      have hsn:=hbn.size
      have HWN:=Hd_ (HWN.out.keep hbn)
      refine hK.out _ _ (⟨HP.out.gbk.cell 0,HP.out.gbk.cell 1,HP.out.abk.cell 0,HP.out.abk.cell 1,HP.out.abk.cell 2⟩) (fun _ _=>?_)
      try simp only [tA,tB,tC,Act.put,tE,tF,tG]
      clear hK K inv hS;rename_i hS inv
      refine F_tk 13 inv ?_
      try simp only [tA,tB,tC,Act.put,tE,tF,tG]
      clear inv;intro inv
      refine F_tk 14 inv ?_
      try simp only [tA,tB,tC,Act.put,tE,tF,tG]
      clear inv;intro inv
      refine F_tk 15 inv ?_
      try simp only [tA,tB,tC,Act.put,tE,tF,tG]
      clear inv;intro inv
      have z5:=HWN.out.cell 0
      have z6:=HWN.out.cell 1
      have v5:=HWN.out.frozen 0
      have v6:=HWN.out.frozen 1
      have hlw:=HWN.out.lt
      have hput:=Only.put2 wn wq (.int .i64 kk.1) (.slice A5 n5 c5)
      have HPE:=Hd_ (HP.out.far hput hgl)
      have HRE:=Hd_ (HR.out.only hput (.inl (by have:=HP.out.ord;omega)))
      have hps:=hput.size
      have HBE:=Hd_ (show BoxW (gq+1) wq wb.heap.size wn.heap.size ((wn.setCell ⟨wq,0,none⟩ (.int .i64 kk.1)).setCell ⟨wq,1,none⟩ (.slice A5 n5 c5)) kk (.slice A5 n5 c5) from ⟨HWN.out.put2 _ _,hkv.only hput (by have:=HWQ.out;have:=HSZ.out;omega) (by have:=HWQ.out;have:=HSZ.out;omega),by have:=HWQ.out;have:=HSZ.out;omega,by have:=HWQ.out;have:=HSZ.out;omega⟩)
      clear hkv hps hput
      refine F_o1 17 inv ?_;intro K hK
      try simp only [tA,tB,tC]
      go_simp
      refine hK.out _ _ (⟨HPE.out.gbk.cell 0,HPE.out.gbk.cell 1,HPE.out.abk.cell 0,HPE.out.abk.cell 1,HPE.out.abk.cell 2⟩) (fun _ _=>?_)
      try simp only [tA,tB,tC,Act.put,tE,tF,tG]
      clear hK K inv hS;rename_i hS inv
      refine F_l1 18 ?_;intro K hK
      go_simp
      refine hK _ _ ?_
      clear hK K
      generalize hmx:(if 1 < CN then CN else 1)=MX
      clear hmx
      go_wp2_with fail
      all_goals (go_meet;exact ⟨_,_,_,kk,A5,n5,c5,is,rfl,rfl,HPE.out,HRE.out,HBE.out⟩)
  · skip
    go_simp
    have hgl:=HP.out.abk.lt
    have hba:=(Below.refl Wd.heap.size Wd).alloc (Nat.le_refl _) (.cells #[.int .i64 0,.slice none 0 0] 36)
    have HP:=Hd_ (HP.out.keep hba)
    have HR:=Hd_ (HR.out.keep hba)
    have bwn:=Blk.new Wd 36 #[.int .i64 0,.slice none 0 0] _ rfl
    have hsz:(Wd.alloc (.cells #[.int .i64 0,.slice none 0 0] 36)).heap.size=Wd.heap.size+1:=by simp
    obtain ⟨wq,hwqe⟩:∃ wq,wq=Wd.heap.size:=⟨_,rfl⟩
    rw [<- hwqe] at bwn hgl hsz ⊢
    have HWN:=Hd_ bwn
    generalize (Wd.alloc (.cells #[.int .i64 0,.slice none 0 0] 36))=wa at *
    have HWQ:=Hd_ hwqe
    have HSZ:=Hd_ hsz
    clear hwqe hsz bwn
    refine hK.out _ _ (⟨HP.out.gbk.cell 0,HP.out.gbk.cell 1,HP.out.abk.cell 0,HP.out.abk.cell 1,HP.out.abk.cell 2⟩) (fun _ _=>?_)
    try simp only [tA,tB,tC,Act.put,tE,tF,tG]
    clear hK K inv hS;rename_i hS inv
    refine F_o1 9 inv ?_;intro K hK
    try simp only [tA,tB,tC]
    go_simp
    refine (specCountShortest _ _ g a x y _ HP.out.grv HP.out.auv).mono ?_
    rintro e wc ⟨rfl,hbc⟩
    generalize cntShort g a x y=CN at *
    have HP:=Hd_ (HP.out.keep hbc)
    have HR:=Hd_ (HR.out.keep hbc)
    have HWN:=Hd_ (HWN.out.keep hbc)
    have hsc:=hbc.size
    refine hK.out _ _ (⟨HP.out.gbk.cell 0,HP.out.gbk.cell 1,HP.out.abk.cell 0,HP.out.abk.cell 1,HP.out.abk.cell 2⟩) (fun _ _=>?_)
    try simp only [tA,tB,tC,Act.put,tE,tF,tG]
    clear hK K inv hS;rename_i hS inv
    refine F_tk 10 inv ?_
    try simp only [tA,tB,tC,Act.put,tE,tF,tG]
    clear inv;intro inv
    refine F_o1 11 inv ?_;intro K hK
    try simp only [tA,tB,tC]
    go_simp
    refine (l1Below_any b _ _ HP.out.cur).mono ?_
    rintro e wb ⟨q,rfl,-,hcb,hob⟩
    have hordb:=HP.out.ord
    have HR:=Hd_ (HR.out.only hob (.inl (by omega)))
    have HP:=Hd_ (HP.out.step hob hcb)
    have HWN:=Hd_ (HWN.out.only hob (.inr (by omega)))
    have hsb:=hob.size
    clear hob hcb
    refine hK.out _ _ (⟨HP.out.gbk.cell 0,HP.out.gbk.cell 1,HP.out.abk.cell 0,HP.out.abk.cell 1,HP.out.abk.cell 2⟩) (fun _ _=>?_)
    try simp only [tA,tB,tC,Act.put,tE,tF,tG]
    clear hK K inv hS;rename_i hS inv
    refine F_o1 12 inv ?_;intro K hK
    try simp only [tA,tB,tC]
    go_simp
    have hlon:=HP.out.abk.lt
    refine (specNthShortest _ _ g a x y q _ HP.out.grv HP.out.auv).mono ?_
    rintro e wn ⟨vk,rfl,hkn,hbn⟩
    have HP:=Hd_ (HP.out.keep hbn)
    have HR:=Hd_ (HR.out.keep hbn)
    generalize (nthShort g a x y q).1=kk at *
    generalize (nthShort g a x y q).2=is at *
    have hkv:=hkn.view
    clear hkn
    obtain ⟨A5,n5,c5,rfl⟩:=hkv.shape
    have hsn:=hbn.size
    have HWN:=Hd_ (HWN.out.keep hbn)
    refine hK.out _ _ (⟨HP.out.gbk.cell 0,HP.out.gbk.cell 1,HP.out.abk.cell 0,HP.out.abk.cell 1,HP.out.abk.cell 2⟩) (fun _ _=>?_)
    try simp only [tA,tB,tC,Act.put,tE,tF,tG]
    clear hK K inv hS;rename_i hS inv
    refine F_tk 13 inv ?_
    try simp only [tA,tB,tC,Act.put,tE,tF,tG]
    clear inv;intro inv
    refine F_tk 14 inv ?_
    try simp only [tA,tB,tC,Act.put,tE,tF,tG]
    clear inv;intro inv
    refine F_tk 15 inv ?_
    try simp only [tA,tB,tC,Act.put,tE,tF,tG]
    clear inv;intro inv
    have z5:=HWN.out.cell 0
    have z6:=HWN.out.cell 1
    have v5:=HWN.out.frozen 0
    have v6:=HWN.out.frozen 1
    have hlw:=HWN.out.lt
    have hput:=Only.put2 wn wq (.int .i64 kk.1) (.slice A5 n5 c5)
    have HPE:=Hd_ (HP.out.far hput hgl)
    have HRE:=Hd_ (HR.out.only hput (.inl (by have:=HP.out.ord;omega)))
    have hps:=hput.size
    have HBE:=Hd_ (show BoxW (gq+1) wq wb.heap.size wn.heap.size ((wn.setCell ⟨wq,0,none⟩ (.int .i64 kk.1)).setCell ⟨wq,1,none⟩ (.slice A5 n5 c5)) kk (.slice A5 n5 c5) from ⟨HWN.out.put2 _ _,hkv.only hput (by have:=HWQ.out;have:=HSZ.out;omega) (by have:=HWQ.out;have:=HSZ.out;omega),by have:=HWQ.out;have:=HSZ.out;omega,by have:=HWQ.out;have:=HSZ.out;omega⟩)
    clear hkv hps hput
    refine F_o1 17 inv ?_;intro K hK
    try simp only [tA,tB,tC]
    go_simp
    refine hK.out _ _ (⟨HPE.out.gbk.cell 0,HPE.out.gbk.cell 1,HPE.out.abk.cell 0,HPE.out.abk.cell 1,HPE.out.abk.cell 2⟩) (fun _ _=>?_)
    try simp only [tA,tB,tC,Act.put,tE,tF,tG]
    clear hK K inv hS;rename_i hS inv
    refine F_l1 18 ?_;intro K hK
    go_simp
    refine hK _ _ ?_
    clear hK K
    generalize hmx:(if 1 < CN then CN else 1)=MX
    clear hmx
    go_wp2_with fail
    all_goals (go_meet;exact ⟨_,_,_,kk,A5,n5,c5,is,rfl,rfl,HPE.out,HRE.out,HBE.out⟩)
 case rest =>
  obtain ⟨wq,lo,hi,kk,A5,n5,c5,is,rfl,rfl,hP,hR,hB⟩:=hcut
  have HP:=Hd_ hP
  have HR:=Hd_ hR
  have HBX:=Hd_ hB
  clear hP hR hB x0 x1 y0 y1 y2
  cases is
  · skip
    have x0:wc.cell? ⟨gq,0,none⟩=some (.slice A1 n1 c1):=HP.out.gbk.cell 0
    have x1:wc.cell? ⟨gq,1,none⟩=some (.slice A2 n2 c2):=HP.out.gbk.cell 1
    have y0:wc.cell? ⟨gq+1,0,none⟩=some (.int .i64 a.start):=HP.out.abk.cell 0
    have y1:wc.cell? ⟨gq+1,1,none⟩=some (.slice A3 n3 c3):=HP.out.abk.cell 1
    have y2:wc.cell? ⟨gq+1,2,none⟩=some (.slice A4 n4 c4):=HP.out.abk.cell 2
    go_wp2_with fail
    refine F_start 11 (fun w'=>w'.cell? ⟨gq,0,none⟩=some (.slice A1 n1 c1)/\w'.cell? ⟨gq,1,none⟩=some (.slice A2 n2 c2)/\w'.cell? ⟨gq+1,0,none⟩=some (.int .i64 a.start)/\w'.cell? ⟨gq+1,1,none⟩=some (.slice A3 n3 c3)/\w'.cell? ⟨gq+1,2,none⟩=some (.slice A4 n4 c4)) (by kernel_rfl) (by exact ⟨x0,x1,y0,y1,y2⟩) (fun hS inv=>?_)
    refine F_tk 0 inv ?_
    try simp only [tA,tB,tC,Act.put,tE,tF,tG]
    clear inv;intro inv
    refine F_tk 1 inv ?_
    try simp only [tA,tB,tC,Act.put,tE,tF,tG]
    clear inv;intro inv
    refine F_tk 2 inv ?_
    try simp only [tA,tB,tC,Act.put,tE,tF,tG]
    clear inv;intro inv
    refine F_tk 3 inv ?_
    try simp only [tA,tB,tC,Act.put,tE,tF,tG]
    clear inv;intro inv
    refine F_tk 4 inv ?_
    try simp only [tA,tB,tC,Act.put,tE,tF,tG]
    clear inv;intro inv
    refine F_tk 5 inv ?_
    try simp only [tA,tB,tC,Act.put,tE,tF,tG]
    clear inv;intro inv
    have HPd:=Hd_ HP.out.drew
    have HRd:=Hd_ (HR.out.keep (Below.refl wc.heap.size wc).drew)
    clear x0 x1 y0 y1 y2
    refine F_o1 6 inv ?_;intro K hK
    try simp only [tA,tB,tC]
    go_simp
    refine (l5Walk_any b _ g _ HPd.out.cur HPd.out.grb (by have:=HPd.out.e11;omega)).mono ?_
    rintro e w8 ⟨vk8,k8,rfl,hk8,-,hc8,ho8⟩
    have HP8:=Hd_ (HPd.out.step ho8 hc8)
    have HR8:=Hd_ (HRd.out.only ho8 (.inl (by omega)))
    have hgl8:=HPd.out.abk.lt
    have hkv8:=hk8.view
    obtain ⟨A8,n8,c8,rfl⟩:=hkv8.shape
    have HK8:=Hd_ hkv8
    have hlo8:w.heap.size+3<=wc.drew.heap.size:=by have:=HP.out.ord;omega
    clear hk8 hkv8 ho8 hc8
    refine hK.out _ _ (⟨HP8.out.gbk.cell 0,HP8.out.gbk.cell 1,HP8.out.abk.cell 0,HP8.out.abk.cell 1,HP8.out.abk.cell 2⟩) (fun _ _=>?_)
    try simp only [tA,tB,tC,Act.put,tE,tF,tG]
    clear hK K inv hS;rename_i hS inv
    have x0:w8.cell? ⟨gq,0,none⟩=some (.slice A1 n1 c1):=HP8.out.gbk.cell 0
    have x1:w8.cell? ⟨gq,1,none⟩=some (.slice A2 n2 c2):=HP8.out.gbk.cell 1
    have y0:w8.cell? ⟨gq+1,0,none⟩=some (.int .i64 a.start):=HP8.out.abk.cell 0
    have y1:w8.cell? ⟨gq+1,1,none⟩=some (.slice A3 n3 c3):=HP8.out.abk.cell 1
    have y2:w8.cell? ⟨gq+1,2,none⟩=some (.slice A4 n4 c4):=HP8.out.abk.cell 2
    have z0:w8.cell? ⟨w.heap.size,0,none⟩=some (.slice none 0 0):=HP8.out.res1.cell 0
    have z1:w8.cell? ⟨w.heap.size,1,none⟩=some (.slice none 0 0):=HP8.out.res1.cell 1
    have z2:w8.cell? ⟨w.heap.size+1,0,none⟩=some (.int .i64 0):=HP8.out.res2.cell 0
    have z3:w8.cell? ⟨w.heap.size+1,1,none⟩=some (.slice none 0 0):=HP8.out.res2.cell 1
    have z4:w8.cell? ⟨w.heap.size+1,2,none⟩=some (.slice none 0 0):=HP8.out.res2.cell 2
    have v0:=HP8.out.res1.frozen 0
    have v1:=HP8.out.res1.frozen 1
    have v2:=HP8.out.res2.frozen 0
    have v3:=HP8.out.res2.frozen 1
    have v4:=HP8.out.res2.frozen 2
    have hlr:=HP8.out.res1.lt
    have hls:=HP8.out.res2.lt
    have hord:=HP8.out.ord
    have q1:¬ gq+1=w.heap.size:=by omega
    have q2:¬ w.heap.size=gq+1:=by omega
    have q3:¬ gq+1=w.heap.size+1:=by omega
    have q4:¬ w.heap.size+1=gq+1:=by omega
    have q5:¬ gq=w.heap.size:=by omega
    have q6:¬ w.heap.size=gq:=by omega
    have q7:¬ gq=w.heap.size+1:=by omega
    have q8:¬ w.heap.size+1=gq:=by omega
    clear hord
    have z5:w8.cell? ⟨w.heap.size+1+1,0,none⟩=some (.int .i64 0):=HR8.out.cell 0
    have z6:w8.cell? ⟨w.heap.size+1+1,1,none⟩=some (.slice none 0 0):=HR8.out.cell 1
    have v5:=HR8.out.frozen 0
    have v6:=HR8.out.frozen 1
    have hlw:=HR8.out.lt
    clear x0 x1 y0 y1 y2
    have HQ:=Hd_ (HP8.out.put (.slice A1 n1 c1) (.slice A2 n2 c2))
    have HQB:=Hd_ (HP8.out.blks HQ.out.1)
    have HQC:=Hd_ (HP8.out.blks (putGC_only w8 w.heap.size (.slice A1 n1 c1) (.slice A2 n2 c2) (.int .i64 a.start) (.slice A3 n3 c3) (.slice A4 n4 c4)))
    refine F_o1 7 inv ?_;intro K hK
    try simp only [tA,tB,tC]
    go_simp
    refine hK.out _ _ (⟨HQB.out.1.cell 0,HQB.out.1.cell 1,HQB.out.2.cell 0,HQB.out.2.cell 1,HQB.out.2.cell 2⟩) (fun _ _=>?_)
    try simp only [tA,tB,tC,Act.put,tE,tF,tG]
    clear hK K inv hS;rename_i hS inv
    refine F_o1 8 inv ?_;intro K hK
    try simp only [tA,tB,tC]
    go_simp
    refine hK.out _ _ (⟨HQC.out.1.cell 0,HQC.out.1.cell 1,HQC.out.2.cell 0,HQC.out.2.cell 1,HQC.out.2.cell 2⟩) (fun _ _=>?_)
    try simp only [tA,tB,tC,Act.put,tE,tF,tG]
    clear hK K inv hS;rename_i hS inv
    refine F_o1 9 inv ?_;intro K hK
    try simp only [tA,tB,tC]
    go_simp
    refine hK.out _ _ (⟨HQC.out.1.cell 0,HQC.out.1.cell 1,HQC.out.2.cell 0,HQC.out.2.cell 1,HQC.out.2.cell 2⟩) (fun _ _=>?_)
    try simp only [tA,tB,tC,Act.put,tE,tF,tG]
    clear hK K inv hS;rename_i hS inv
    refine F_o1 10 inv ?_;intro K hK
    try simp only [tA,tB,tC]
    go_simp
    refine hK.out _ _ (⟨HQC.out.1.cell 0,HQC.out.1.cell 1,HQC.out.2.cell 0,HQC.out.2.cell 1,HQC.out.2.cell 2⟩) (fun _ _=>?_)
    try simp only [tA,tB,tC,Act.put,tE,tF,tG]
    clear hK K inv hS;rename_i hS inv
    refine F_l1 11 ?_;intro K hK
    go_simp
    refine hK _ _ ?_
    clear hK K
    go_wp2_with fail
    have HD:=HP8.out.fin3 hrb HK8.out hlo8 (putW_only w8 w.heap.size (.slice A1 n1 c1) (.slice A2 n2 c2) (.int .i64 a.start) (.slice A3 n3 c3) (.slice A4 n4 c4) (.int .i64 k8.1) (.slice A8 n8 c8))
    exact bodyPost_ret (v:=.tuple #[.agg #[.slice A1 n1 c1,.slice A2 n2 c2],.agg #[.int .i64 a.start,.slice A3 n3 c3,.slice A4 n4 c4],.int .i64 x,.int .i64 y,.agg #[.int .i64 k8.1,.slice A8 n8 c8]]) (by simp [results,Tryz.results29,go_sem,z0,z1,z2,z3,z4,z5,z6,v0,v1,v2,v3,v4,v5,v6,hlr,hls,hlw]) rfl ⟨_,_,_,g,a,_,_,k8,rfl,HD⟩
  · go_wp2_with fail
    refine (l1Once_any b 8 _ HP.out.cur).mono ?_
    rintro e w7 ⟨t,rfl,hc7,ho7⟩
    have hordc:=HP.out.ord
    have HP7:=Hd_ (HP.out.step ho7 hc7)
    have HR7:=Hd_ (HR.out.only ho7 (.inl (by omega)))
    have hwl:=HBX.out.ord
    have HBX7:=Hd_ (show BoxW (gq+1) wq lo hi w7 kk (.slice A5 n5 c5) from ⟨HBX.out.box.only ho7 (.inr (by omega)),HBX.out.wk.only ho7 HBX.out.le (.inr (by omega)),Nat.le_trans HBX.out.le ho7.size,hwl⟩)
    clear ho7 hc7 HP HR HBX hordc hwl
    cases t
    · skip
      have x0:w7.cell? ⟨gq,0,none⟩=some (.slice A1 n1 c1):=HP7.out.gbk.cell 0
      have x1:w7.cell? ⟨gq,1,none⟩=some (.slice A2 n2 c2):=HP7.out.gbk.cell 1
      have y0:w7.cell? ⟨gq+1,0,none⟩=some (.int .i64 a.start):=HP7.out.abk.cell 0
      have y1:w7.cell? ⟨gq+1,1,none⟩=some (.slice A3 n3 c3):=HP7.out.abk.cell 1
      have y2:w7.cell? ⟨gq+1,2,none⟩=some (.slice A4 n4 c4):=HP7.out.abk.cell 2
      have z0:w7.cell? ⟨w.heap.size,0,none⟩=some (.slice none 0 0):=HP7.out.res1.cell 0
      have z1:w7.cell? ⟨w.heap.size,1,none⟩=some (.slice none 0 0):=HP7.out.res1.cell 1
      have z2:w7.cell? ⟨w.heap.size+1,0,none⟩=some (.int .i64 0):=HP7.out.res2.cell 0
      have z3:w7.cell? ⟨w.heap.size+1,1,none⟩=some (.slice none 0 0):=HP7.out.res2.cell 1
      have z4:w7.cell? ⟨w.heap.size+1,2,none⟩=some (.slice none 0 0):=HP7.out.res2.cell 2
      have v0:=HP7.out.res1.frozen 0
      have v1:=HP7.out.res1.frozen 1
      have v2:=HP7.out.res2.frozen 0
      have v3:=HP7.out.res2.frozen 1
      have v4:=HP7.out.res2.frozen 2
      have hlr:=HP7.out.res1.lt
      have hls:=HP7.out.res2.lt
      have hord:=HP7.out.ord
      have q1:¬ gq+1=w.heap.size:=by omega
      have q2:¬ w.heap.size=gq+1:=by omega
      have q3:¬ gq+1=w.heap.size+1:=by omega
      have q4:¬ w.heap.size+1=gq+1:=by omega
      have q5:¬ gq=w.heap.size:=by omega
      have q6:¬ w.heap.size=gq:=by omega
      have q7:¬ gq=w.heap.size+1:=by omega
      have q8:¬ w.heap.size+1=gq:=by omega
      clear hord
      have z5:w7.cell? ⟨w.heap.size+1+1,0,none⟩=some (.int .i64 0):=HR7.out.cell 0
      have z6:w7.cell? ⟨w.heap.size+1+1,1,none⟩=some (.slice none 0 0):=HR7.out.cell 1
      have v5:=HR7.out.frozen 0
      have v6:=HR7.out.frozen 1
      have hlw:=HR7.out.lt
      have k0:w7.cell? ⟨wq,0,none⟩=some (.int .i64 kk.1):=HBX7.out.box.cell 0
      have k1:w7.cell? ⟨wq,1,none⟩=some (.slice A5 n5 c5):=HBX7.out.box.cell 1
      have hordw:=HP7.out.ord
      have hordk:=HBX7.out.ord
      have p1:¬ wq=w.heap.size:=by omega
      have p2:¬ w.heap.size=wq:=by omega
      have p3:¬ wq=w.heap.size+1:=by omega
      have p4:¬ w.heap.size+1=wq:=by omega
      have p5:¬ wq=w.heap.size+1+1:=by omega
      have p6:¬ w.heap.size+1+1=wq:=by omega
      have p7:¬ gq=w.heap.size+1+1:=by omega
      have p8:¬ w.heap.size+1+1=gq:=by omega
      have p9:¬ gq+1=w.heap.size+1+1:=by omega
      have p10:¬ w.heap.size+1+1=gq+1:=by omega
      have HK9:=Hd_ (HBX7.out.wk.mono (Nat.le_refl _) HBX7.out.le)
      have hlo9:w.heap.size+3<=lo:=by omega
      clear hordw hordk
      go_wp2_with fail
      go_region
      have HD:=HP7.out.fin3 hrb HK9.out hlo9 (((putW_only w7 w.heap.size (.slice A1 n1 c1) (.slice A2 n2 c2) (.int .i64 a.start) (.slice A3 n3 c3) (.slice A4 n4 c4) (.int .i64 kk.1) (.slice A5 n5 c5))).drew)
      go_wp2_with fail
      exact bodyPost_ret (v:=.tuple #[.agg #[.slice A1 n1 c1,.slice A2 n2 c2],.agg #[.int .i64 a.start,.slice A3 n3 c3,.slice A4 n4 c4],.int .i64 x,.int .i64 y,.agg #[.int .i64 kk.1,.slice A5 n5 c5]]) (by simp [results,Tryz.results29,go_sem,z0,z1,z2,z3,z4,z5,z6,v0,v1,v2,v3,v4,v5,v6,hlr,hls,hlw]) rfl ⟨_,_,_,g,a,_,_,kk,rfl,HD⟩
    · skip
      have x0:w7.cell? ⟨gq,0,none⟩=some (.slice A1 n1 c1):=HP7.out.gbk.cell 0
      have x1:w7.cell? ⟨gq,1,none⟩=some (.slice A2 n2 c2):=HP7.out.gbk.cell 1
      have y0:w7.cell? ⟨gq+1,0,none⟩=some (.int .i64 a.start):=HP7.out.abk.cell 0
      have y1:w7.cell? ⟨gq+1,1,none⟩=some (.slice A3 n3 c3):=HP7.out.abk.cell 1
      have y2:w7.cell? ⟨gq+1,2,none⟩=some (.slice A4 n4 c4):=HP7.out.abk.cell 2
      go_wp2_with fail
      refine F_start 11 (fun w'=>w'.cell? ⟨gq,0,none⟩=some (.slice A1 n1 c1)/\w'.cell? ⟨gq,1,none⟩=some (.slice A2 n2 c2)/\w'.cell? ⟨gq+1,0,none⟩=some (.int .i64 a.start)/\w'.cell? ⟨gq+1,1,none⟩=some (.slice A3 n3 c3)/\w'.cell? ⟨gq+1,2,none⟩=some (.slice A4 n4 c4)) (by kernel_rfl) (by exact ⟨x0,x1,y0,y1,y2⟩) (fun hS inv=>?_)
      refine F_tk 0 inv ?_
      try simp only [tA,tB,tC,Act.put,tE,tF,tG]
      clear inv;intro inv
      refine F_tk 1 inv ?_
      try simp only [tA,tB,tC,Act.put,tE,tF,tG]
      clear inv;intro inv
      refine F_tk 2 inv ?_
      try simp only [tA,tB,tC,Act.put,tE,tF,tG]
      clear inv;intro inv
      refine F_tk 3 inv ?_
      try simp only [tA,tB,tC,Act.put,tE,tF,tG]
      clear inv;intro inv
      refine F_tk 4 inv ?_
      try simp only [tA,tB,tC,Act.put,tE,tF,tG]
      clear inv;intro inv
      refine F_tk 5 inv ?_
      try simp only [tA,tB,tC,Act.put,tE,tF,tG]
      clear inv;intro inv
      have HPd:=Hd_ HP7.out.drew
      have HRd:=Hd_ (HR7.out.keep (Below.refl w7.heap.size w7).drew)
      clear x0 x1 y0 y1 y2
      refine F_o1 6 inv ?_;intro K hK
      try simp only [tA,tB,tC]
      go_simp
      refine (l5Walk_any b _ g _ HPd.out.cur HPd.out.grb (by have:=HPd.out.e11;omega)).mono ?_
      rintro e w8 ⟨vk8,k8,rfl,hk8,-,hc8,ho8⟩
      have HP8:=Hd_ (HPd.out.step ho8 hc8)
      have HR8:=Hd_ (HRd.out.only ho8 (.inl (by omega)))
      have hgl8:=HPd.out.abk.lt
      have hkv8:=hk8.view
      obtain ⟨A8,n8,c8,rfl⟩:=hkv8.shape
      have HK8:=Hd_ hkv8
      have hlo8:w.heap.size+3<=w7.drew.heap.size:=by have:=HP7.out.ord;omega
      clear hk8 hkv8 ho8 hc8
      refine hK.out _ _ (⟨HP8.out.gbk.cell 0,HP8.out.gbk.cell 1,HP8.out.abk.cell 0,HP8.out.abk.cell 1,HP8.out.abk.cell 2⟩) (fun _ _=>?_)
      try simp only [tA,tB,tC,Act.put,tE,tF,tG]
      clear hK K inv hS;rename_i hS inv
      have x0:w8.cell? ⟨gq,0,none⟩=some (.slice A1 n1 c1):=HP8.out.gbk.cell 0
      have x1:w8.cell? ⟨gq,1,none⟩=some (.slice A2 n2 c2):=HP8.out.gbk.cell 1
      have y0:w8.cell? ⟨gq+1,0,none⟩=some (.int .i64 a.start):=HP8.out.abk.cell 0
      have y1:w8.cell? ⟨gq+1,1,none⟩=some (.slice A3 n3 c3):=HP8.out.abk.cell 1
      have y2:w8.cell? ⟨gq+1,2,none⟩=some (.slice A4 n4 c4):=HP8.out.abk.cell 2
      have z0:w8.cell? ⟨w.heap.size,0,none⟩=some (.slice none 0 0):=HP8.out.res1.cell 0
      have z1:w8.cell? ⟨w.heap.size,1,none⟩=some (.slice none 0 0):=HP8.out.res1.cell 1
      have z2:w8.cell? ⟨w.heap.size+1,0,none⟩=some (.int .i64 0):=HP8.out.res2.cell 0
      have z3:w8.cell? ⟨w.heap.size+1,1,none⟩=some (.slice none 0 0):=HP8.out.res2.cell 1
      have z4:w8.cell? ⟨w.heap.size+1,2,none⟩=some (.slice none 0 0):=HP8.out.res2.cell 2
      have v0:=HP8.out.res1.frozen 0
      have v1:=HP8.out.res1.frozen 1
      have v2:=HP8.out.res2.frozen 0
      have v3:=HP8.out.res2.frozen 1
      have v4:=HP8.out.res2.frozen 2
      have hlr:=HP8.out.res1.lt
      have hls:=HP8.out.res2.lt
      have hord:=HP8.out.ord
      have q1:¬ gq+1=w.heap.size:=by omega
      have q2:¬ w.heap.size=gq+1:=by omega
      have q3:¬ gq+1=w.heap.size+1:=by omega
      have q4:¬ w.heap.size+1=gq+1:=by omega
      have q5:¬ gq=w.heap.size:=by omega
      have q6:¬ w.heap.size=gq:=by omega
      have q7:¬ gq=w.heap.size+1:=by omega
      have q8:¬ w.heap.size+1=gq:=by omega
      clear hord
      have z5:w8.cell? ⟨w.heap.size+1+1,0,none⟩=some (.int .i64 0):=HR8.out.cell 0
      have z6:w8.cell? ⟨w.heap.size+1+1,1,none⟩=some (.slice none 0 0):=HR8.out.cell 1
      have v5:=HR8.out.frozen 0
      have v6:=HR8.out.frozen 1
      have hlw:=HR8.out.lt
      clear x0 x1 y0 y1 y2
      have HQ:=Hd_ (HP8.out.put (.slice A1 n1 c1) (.slice A2 n2 c2))
      have HQB:=Hd_ (HP8.out.blks HQ.out.1)
      have HQC:=Hd_ (HP8.out.blks (putGC_only w8 w.heap.size (.slice A1 n1 c1) (.slice A2 n2 c2) (.int .i64 a.start) (.slice A3 n3 c3) (.slice A4 n4 c4)))
      refine F_o1 7 inv ?_;intro K hK
      try simp only [tA,tB,tC]
      go_simp
      refine hK.out _ _ (⟨HQB.out.1.cell 0,HQB.out.1.cell 1,HQB.out.2.cell 0,HQB.out.2.cell 1,HQB.out.2.cell 2⟩) (fun _ _=>?_)
      try simp only [tA,tB,tC,Act.put,tE,tF,tG]
      clear hK K inv hS;rename_i hS inv
      refine F_o1 8 inv ?_;intro K hK
      try simp only [tA,tB,tC]
      go_simp
      refine hK.out _ _ (⟨HQC.out.1.cell 0,HQC.out.1.cell 1,HQC.out.2.cell 0,HQC.out.2.cell 1,HQC.out.2.cell 2⟩) (fun _ _=>?_)
      try simp only [tA,tB,tC,Act.put,tE,tF,tG]
      clear hK K inv hS;rename_i hS inv
      refine F_o1 9 inv ?_;intro K hK
      try simp only [tA,tB,tC]
      go_simp
      refine hK.out _ _ (⟨HQC.out.1.cell 0,HQC.out.1.cell 1,HQC.out.2.cell 0,HQC.out.2.cell 1,HQC.out.2.cell 2⟩) (fun _ _=>?_)
      try simp only [tA,tB,tC,Act.put,tE,tF,tG]
      clear hK K inv hS;rename_i hS inv
      refine F_o1 10 inv ?_;intro K hK
      try simp only [tA,tB,tC]
      go_simp
      refine hK.out _ _ (⟨HQC.out.1.cell 0,HQC.out.1.cell 1,HQC.out.2.cell 0,HQC.out.2.cell 1,HQC.out.2.cell 2⟩) (fun _ _=>?_)
      try simp only [tA,tB,tC,Act.put,tE,tF,tG]
      clear hK K inv hS;rename_i hS inv
      refine F_l1 11 ?_;intro K hK
      go_simp
      refine hK _ _ ?_
      clear hK K
      go_wp2_with fail
      have HD:=HP8.out.fin3 hrb HK8.out hlo8 (putW_only w8 w.heap.size (.slice A1 n1 c1) (.slice A2 n2 c2) (.int .i64 a.start) (.slice A3 n3 c3) (.slice A4 n4 c4) (.int .i64 k8.1) (.slice A8 n8 c8))
      exact bodyPost_ret (v:=.tuple #[.agg #[.slice A1 n1 c1,.slice A2 n2 c2],.agg #[.int .i64 a.start,.slice A3 n3 c3,.slice A4 n4 c4],.int .i64 x,.int .i64 y,.agg #[.int .i64 k8.1,.slice A8 n8 c8]]) (by simp [results,Tryz.results29,go_sem,z0,z1,z2,z3,z4,z5,z6,v0,v1,v2,v3,v4,v5,v6,hlr,hls,hlw]) rfl ⟨_,_,_,g,a,_,_,k8,rfl,HD⟩
end Go.Proofs.YtcnenpjaoalmeaaGreat
namespace Go.Proofs.YtcnenpjaoalmeaaGreat
open Go.ChangeShapes Go.WideShapes Go.ChangeAt Go.RowKit
theorem aft1_test (a:Au) (l m t u:Nat):(aft1 a l m t).testBit u=(m.testBit u || decide (mv a t l=(u:Int))):=by
 unfold aft1
 split
 · rename_i h
   rw [ins_test]
   congr 1
   apply decide_eq_decide.2
   omega
 · rename_i h
   have:¬ mv a t l=(u:Int):=by omega
   simp [this]
theorem aftF1_test (a:Au) (l u:Nat):∀ (L:List Nat) (m:Nat),(L.foldl (aft1 a l) m).testBit u=(m.testBit u || L.any fun t=>decide (mv a t l=(u:Int)))
 | [],m=>by simp
 | t :: L,m=>by rw [List.foldl_cons,aftF1_test a l u L,aft1_test,List.any_cons,Bool.or_assoc]
theorem aftFS_test (a:Au) (v l u:Nat):∀ (L:List Nat) (m:Nat),(L.foldl (aftS a v l) m).testBit u=(m.testBit u || L.any fun s=>(mem 12 (cls a v s)).any fun t=>decide (mv a t l=(u:Int)))
 | [],m=>by simp
 | s :: L,m=>by rw [List.foldl_cons,aftFS_test a v l u L,aftS,aftF1_test,List.any_cons,Bool.or_assoc]
theorem aft_test (a:Au) (S v l u:Nat):(aft a S v l).testBit u=(mem 12 S).any fun s=>(mem 12 (cls a v s)).any fun t=>decide (mv a t l=(u:Int)):=by rw [aft,aftFS_test,Nat.zero_testBit,Bool.false_or]
theorem test_lt {n S s:Nat} (hS:S < 2 ^ n) (h:S.testBit s=true):s < n:=by
 rcases Nat.lt_or_ge s n with h1 | h1
 · exact h1
 · rw [Nat.testBit_lt_two_pow (Nat.lt_of_lt_of_le hS (Nat.pow_le_pow_right (by omega) h1))] at h;cases h
theorem aft_any {a:Au} (ha:auOk a=true) {S:Nat} (hS:S < 2 ^ a.accept.length) (v l u:Nat):(aft a S v l).testBit u=true ↔ ∃ s,S.testBit s=true/\(aft a (bit s) v l).testBit u=true:=by
 have hn:=(auOk_iff.1 ha).1.2
 rw [aft_test,List.any_eq_true]
 constructor
 · rintro ⟨s,hs,h⟩
   rw [mem_mem] at hs
   exact ⟨s,hs.2,by rw [aft_test,mem_pow hs.1,List.any_cons,h];rfl⟩
 · rintro ⟨s,hs,h⟩
   have hs12:s < 12:=by have:=test_lt hS hs;omega
   rw [aft_test,mem_pow hs12] at h
   exact ⟨s,mem_mem.2 ⟨hs12,hs⟩,by simpa using h⟩
/-- vertex (x, q) reaches an accepting end at y in exactly f steps -/
def hitK (g:Gr) (a:Au) (y f x q:Nat):Prop:=toG (nextI g a) (fun i=>i ∈ goalsL g a y) f (x * a.accept.length+q)
theorem div_vx {n x q:Nat} (hq:q < n):(x * n+q) / n=x:=by
 rw [Nat.mul_comm,Nat.mul_add_div (by omega),Nat.div_eq_of_lt hq];rfl
theorem mod_vx {n x q:Nat} (hq:q < n):(x * n+q) % n=q:=by rw [Nat.mul_comm,Nat.mul_add_mod,Nat.mod_eq_of_lt hq]
theorem mem_nextI {g:Gr} {a:Au} (ha:auOk a=true) {x q v:Nat} (hq:q < a.accept.length):v ∈ nextI g a (x * a.accept.length+q) ↔ ∃ p ∈ arcsOf g (x:Int),∃ t,(aft a (bit q) (valAt g x) p.2.1.toNat).testBit t=true/\v=p.2.2.toNat * a.accept.length+t:=by
 have hn:=(auOk_iff.1 ha).1.2
 rw [nextI,div_vx hq,mod_vx hq,nextV,List.mem_flatMap]
 constructor
 · rintro ⟨p,hp,h⟩
   obtain ⟨t,ht,rfl⟩:=List.mem_map.1 h
   exact ⟨p,hp,t,(mem_mem.1 ht).2,rfl⟩
 · rintro ⟨p,hp,t,ht,rfl⟩
   have:=test_lt (aft_lt ha (bit q) (valAt g x) p.2.1.toNat) ht
   exact ⟨p,hp,List.mem_map.2 ⟨t,mem_mem.2 ⟨by omega,ht⟩,rfl⟩⟩
theorem hit_succ {g:Gr} {a:Au} (ha:auOk a=true) {y f x q:Nat} (hq:q < a.accept.length):hitK g a y (f+1) x q ↔ ∃ p ∈ arcsOf g (x:Int),∃ t,(aft a (bit q) (valAt g x) p.2.1.toNat).testBit t=true/\hitK g a y f p.2.2.toNat t:=by
 show (∃ k ∈ nextI g a (x * a.accept.length+q),toG (nextI g a) (fun i=>i ∈ goalsL g a y) f k) ↔ _
 constructor
 · rintro ⟨k,hk,h⟩
   obtain ⟨p,hp,t,ht,rfl⟩:=(mem_nextI ha hq).1 hk
   exact ⟨p,hp,t,ht,h⟩
 · rintro ⟨p,hp,t,ht,h⟩
   exact ⟨_,(mem_nextI ha hq).2 ⟨p,hp,t,ht,rfl⟩,h⟩
def keepTo (D:List Int) (n x set f:Nat):Nat->Nat
 | 0=>0
 | q+1=>if (set.testBit q && (D.getD (x * n+q) 0==(f:Int)))=true then ins (keepTo D n x set f q) q else keepTo D n x set f q
theorem keepTo_test (D:List Int) (n x set f u:Nat):∀ k,(keepTo D n x set f k).testBit u=true ↔ u < k/\set.testBit u=true/\D.getD (x * n+u) 0=(f:Int)
 | 0=>by simp [keepTo]
 | k+1=>by
   rw [keepTo]
   split
   · rename_i h
     rw [Bool.and_eq_true,beq_iff_eq] at h
     rw [ins_test,Bool.or_eq_true,keepTo_test D n x set f u k,decide_eq_true_eq]
     constructor
     · rintro (⟨h1,h2⟩ | rfl)
       · exact ⟨by omega,h2⟩
       · exact ⟨by omega,h⟩
     · rintro ⟨h1,h2⟩
       by_cases hk:k=u
       · exact .inr hk
       · exact .inl ⟨by omega,h2⟩
   · rename_i h
     rw [Bool.and_eq_true,beq_iff_eq] at h
     rw [keepTo_test D n x set f u k]
     constructor
     · rintro ⟨h1,h2⟩;exact ⟨by omega,h2⟩
     · rintro ⟨h1,h2⟩
       refine ⟨?_,h2⟩
       by_cases hk:u=k
       · subst hk;exact absurd h2 h
       · omega
def keepK (a:Au) (D:List Int) (x set f:Nat):Nat:=keepTo D a.accept.length x set f a.accept.length
def keepA (g:Gr) (a:Au) (D:List Int) (f x s:Nat) (p:Arc):Nat:=keepK a D p.2.2.toNat (aft a s (valAt g x) p.2.1.toNat) f
/-- S: the states of the walk so far; K: those of them at distance f; none is nearer -/
structure KeepI (g:Gr) (a:Au) (y f x S K:Nat):Prop where
 far:∀ q,S.testBit q=true->∀ m,m < f->¬ hitK g a y m x q
 kept:∀ q,K.testBit q=true ↔ S.testBit q=true/\hitK g a y f x q
theorem dist_eq {g:Gr} {a:Au} {y:Nat} (hg:grOk g=true) (ha:auOk a=true) (hy:y < g.vals.length) {x q:Nat} (hx:x < g.vals.length) (hq:q < a.accept.length) (f:Nat) :
 (distTo g a (y:Int)).getD (x * a.accept.length+q) 0=(f:Int) ↔ hitK g a y f x q/\∀ m,m < f->¬ hitK g a y m x q:=by
 have hd:(wi (y:Int) 0 ((g.vals.length:Int) - 1) && (grOk g && auOk a))=true:=by
  simp only [Bool.and_eq_true]
  exact ⟨by rw [wi_iff];omega,hg,ha⟩
 have hN:∀ i k,i < g.vals.length * a.accept.length->k ∈ nextI g a i->k < g.vals.length * a.accept.length:=fun i k _ hk=>nextV_lt (grOk_iff.1 hg) ha hk
 have hfs:∀ i ∈ goalsL g a y,i < g.vals.length * a.accept.length:=fun i hi=>by
  obtain ⟨s,hs,_,rfl⟩:=mem_goalsL.1 hi
  calc y * a.accept.length+s < y * a.accept.length+a.accept.length:=by omega
   _=(y+1) * a.accept.length:=by rw [Nat.add_mul,Nat.one_mul]
   _<=_:=Nat.mul_le_mul_right _ hy
 have hi:x * a.accept.length+q < g.vals.length * a.accept.length:=by
  calc x * a.accept.length+q < x * a.accept.length+a.accept.length:=by omega
   _=(x+1) * a.accept.length:=by rw [Nat.add_mul,Nat.one_mul]
   _<=_:=Nat.mul_le_mul_right _ hx
 have h:=spread_dist hfs hN _ hi
 have he:(distTo g a (y:Int)).getD (x * a.accept.length+q) 0=(spreadR (g.vals.length * a.accept.length) (turnL (g.vals.length * a.accept.length) (nextI g a)) (goalsL g a y)).getD (x * a.accept.length+q) 0:=by rw [distTo,if_pos hd,Int.toNat_natCast]
 rw [<- he] at h
 constructor
 · intro hf
   rcases h with ⟨h1,-⟩ | ⟨h1,h2,h3⟩
   · omega
   · rw [hf,Int.toNat_natCast] at h2 h3
     exact ⟨h2,h3⟩
 · rintro ⟨h1,h2⟩
   exact h.uniq (.inr ⟨by omega,by rw [Int.toNat_natCast];exact h1,by rw [Int.toNat_natCast];exact h2⟩)
theorem KeepI.step {g:Gr} {a:Au} {y:Nat} (hg:grOk g=true) (ha:auOk a=true) (hy:y < g.vals.length) {f x S K:Nat} (hS:S < 2 ^ a.accept.length) (hK:K < 2 ^ a.accept.length) (h:KeepI g a y (f+1) x S K) {p:Arc} (hp:p ∈ arcsOf g (x:Int)) :
 KeepI g a y f p.2.2.toNat (aft a S (valAt g x) p.2.1.toNat) (keepA g a (distTo g a (y:Int)) f x K p):=by
 have hr:=arc_range (grOk_iff.1 hg) hp
 have hx:p.2.2.toNat < g.vals.length:=by omega
 have far:∀ q,(aft a S (valAt g x) p.2.1.toNat).testBit q=true->∀ m,m < f->¬ hitK g a y m p.2.2.toNat q:=fun q hq m hm hh=>by
  obtain ⟨s,hs,hq⟩:=(aft_any ha hS _ _ _).1 hq
  exact h.far s hs (m+1) (by omega) ((hit_succ ha (test_lt hS hs)).2 ⟨p,hp,q,hq,hh⟩)
 refine ⟨far,fun q=>?_⟩
 rw [keepA,keepK,keepTo_test]
 constructor
 · rintro ⟨h1,h2,h3⟩
   obtain ⟨s,hs,hq⟩:=(aft_any ha hK _ _ _).1 h2
   exact ⟨(aft_any ha hS _ _ _).2 ⟨s,((h.kept s).1 hs).1,hq⟩,((dist_eq hg ha hy hx h1 f).1 h3).1⟩
 · rintro ⟨h1,h2⟩
   have hql:=test_lt (aft_lt ha S (valAt g x) p.2.1.toNat) h1
   obtain ⟨s,hs,hq⟩:=(aft_any ha hS _ _ _).1 h1
   refine ⟨hql,(aft_any ha hK _ _ _).2 ⟨s,(h.kept s).2 ⟨hs,(hit_succ ha (test_lt hS hs)).2 ⟨p,hp,q,hq,h2⟩⟩,hq⟩,(dist_eq hg ha hy hx hql f).2 ⟨h2,far q h1⟩⟩
/-- add up what is passed over, at most a million -/
def addK {α:Type} (k:α->Nat) (r:Nat) (p:α):Nat:=min 1000000 (r+k p)
def passK {α:Type} (k:α->Nat) (l:List α) (r:Nat):Nat:=l.foldl (addK k) r
theorem passK_le {α:Type} (k:α->Nat):∀ (l:List α) (r:Nat),r<=1000000->passK k l r<=1000000
 | [],_,h=>h
 | p :: l,_,_=>passK_le k l _ (Nat.min_le_left _ _)
theorem passK_succ {α:Type} {k:α->Nat} {l:List α} {i r:Nat} {p:α} (h:l[i]?=some p):passK k (l.take (i+1)) r=min 1000000 (passK k (l.take i) r+k p):=foldl_take h r
/-- what is passed over ahead of step st -/
def overK (k:Arc->Nat) (l:List Arc) (st:St) (r:Nat):Nat:=passK k (l.take (l.findIdx (fun p=>p.1==st))) r
theorem overK_le (k:Arc->Nat) (l:List Arc) (st:St) {r:Nat} (h:r<=1000000):overK k l st r<=1000000:=passK_le _ _ _ h
theorem overK_here {k:Arc->Nat} {l:List Arc} {st:St} {r i:Nat} {p:Arc} (h:l[i]?=some p) (hp:p.1=st) (hno:∀ j q,j < i->l[j]?=some q->q.1 ≠ st):overK k l st r=passK k (l.take i) r:=by
 have hi:=(List.getElem?_eq_some_iff.1 h).1
 have:l.findIdx (fun p=>p.1==st)=i:=by
  rw [List.findIdx_eq hi]
  refine ⟨?_,fun j hj=>?_⟩
  · rw [(List.getElem?_eq_some_iff.1 h).2,hp];simp
  · have:=hno j l[j] hj (List.getElem?_eq_getElem (by omega))
    simpa using this
 rw [overK,this]
theorem overK_cons_no {k:Arc->Nat} {l:List Arc} {st:St} {r:Nat} {p:Arc} (hp:p.1 ≠ st):overK k (p :: l) st r=overK k l st (addK k r p):=by
 have:(p :: l).findIdx (fun p=>p.1==st)=l.findIdx (fun p=>p.1==st)+1:=by
  rw [List.findIdx_cons,show (p.1==st)=false by simpa using hp];rfl
 rw [overK,this,List.take_succ_cons];rfl
theorem overK_cons_yes {k:Arc->Nat} {l:List Arc} {st:St} {r:Nat} {p:Arc} (hp:p.1=st):overK k (p :: l) st r=r:=by
 have:(p :: l).findIdx (fun p=>p.1==st)=0:=by
  rw [List.findIdx_cons,show (p.1==st)=true by simpa using hp];rfl
 rw [overK,this];rfl
theorem RowR.over {g:Gr} {a:Au} {y:Int} {f x s:Nat} {N:List Key} {C:Nat->Nat} (hC:∀ i k,N[i]?=some k->C i=cw g a y f k.1 k.2) {st:St} {l:List Arc} {T:List (St × Nat)} (h:RowR g a x s N l T)
 (hne:∀ p ∈ l,p.1=st->aft a s (valAt g x) p.2.1.toNat ≠ 0) (hex:∃ p ∈ l,p.1=st):∀ r,r<=1000000 ->
 ∃ j i p,T[j]?=some (st,i)/\(∀ j' q,j' < j->T[j']?=some q->q.1 ≠ st)/\passK (fun e:St × Nat=>C e.2) (T.take j) r=overK (cwAt g a y f x s) l st r/\p ∈ l/\p.1=st/\N[i]?=some (p.2.2.toNat,aft a s (valAt g x) p.2.1.toNat):=by
 induction h with
 | nil=>obtain ⟨p,hp,_⟩:=hex;cases hp
 | @skip p0 l0 T0 h1 _ ih =>
   intro r hr
   have hp0:p0.1 ≠ st:=fun e=>hne p0 (List.mem_cons_self ..) e h1
   obtain ⟨j,i,p,e1,e2,e3,e4,e5,e6⟩:=ih (fun p hp=>hne p (List.mem_cons_of_mem _ hp)) (by
    obtain ⟨p,hp,hps⟩:=hex
    rcases List.mem_cons.1 hp with rfl | hp
    · exact absurd hps hp0
    · exact ⟨p,hp,hps⟩) r hr
   refine ⟨j,i,p,e1,e2,?_,List.mem_cons_of_mem _ e4,e5,e6⟩
   rw [e3,overK_cons_no hp0,addK,cwAt,h1,cw_none,Nat.add_zero,Nat.min_eq_right hr]
 | @take p0 l0 T0 i0 h1 h2 _ ih =>
   intro r hr
   by_cases hp0:p0.1=st
   · refine ⟨0,i0,p0,by rw [<- hp0];rfl,fun j' q hj=>by omega,?_,List.mem_cons_self ..,hp0,h2⟩
     rw [overK_cons_yes hp0];rfl
   · obtain ⟨j,i,p,e1,e2,e3,e4,e5,e6⟩:=ih (fun p hp=>hne p (List.mem_cons_of_mem _ hp)) (by
      obtain ⟨p,hp,hps⟩:=hex
      rcases List.mem_cons.1 hp with rfl | hp
      · exact absurd hps hp0
      · exact ⟨p,hp,hps⟩) (addK (cwAt g a y f x s) r p0) (Nat.min_le_left _ _)
     refine ⟨j+1,i,p,by simpa using e1,fun j' q hj hq=>?_,?_,List.mem_cons_of_mem _ e4,e5,e6⟩
     · cases j' with
       | zero=>simp only [List.getElem?_cons_zero,Option.some.injEq] at hq;rw [<- hq];exact hp0
       | succ j'=>exact e2 j' q (by omega) (by simpa using hq)
     · rw [overK_cons_no hp0,<- e3,List.take_succ_cons]
       show passK _ _ (addK (fun e:St × Nat=>C e.2) r (p0.1,i0))=_
       rw [addK,addK,hC _ _ h2];rfl
theorem arc_of_edge {g:Gr} {e:Ed} (he:e ∈ g.edges) (b:Bool):∃ p ∈ arcsOf g (arcTo (!b) e),p.1=(e.1,b):=by
 cases b with
 | false=>exact ⟨((e.1,false),2 * e.2.2.2,e.2.2.1),List.mem_flatMap.2 ⟨e,he,mem_arcE.2 (.inl ⟨rfl,rfl⟩)⟩,rfl⟩
 | true=>exact ⟨((e.1,true),2 * e.2.2.2+1,e.2.1),List.mem_flatMap.2 ⟨e,he,mem_arcE.2 (.inr ⟨rfl,rfl⟩)⟩,rfl⟩
theorem step_arc {g:Gr} {k:Wk} (h:walkOk g k=true) {i:Nat} (hi:i < k.2.length):∃ s,k.2[i]?=some s/\(∃ p ∈ arcsOf g (nodeAt g k i:Int),p.1=s)/\∀ p ∈ arcsOf g (nodeAt g k i:Int),p.1=s->p.2.1.toNat=letAt g k i/\p.2.2=(nodeAt g k (i+1):Int):=by
 obtain ⟨s,e,hs,he,h1,h2,h3,h4⟩:=walk_step h hi
 obtain ⟨s',e',hs',he',hf,-⟩:=(walk_parts h (Nat.le_of_lt hi)).2 hi
 rw [hs] at hs'
 injection hs' with hs'
 subst hs'
 rw [he] at he'
 injection he' with he'
 subst he'
 obtain ⟨hg,hm,hid⟩:=stepEd_ok he
 have hn:=(nodeAt_lt h (Nat.le_of_lt hi)).1
 rw [nodeAt_at (Nat.le_of_lt hi)] at hn
 injection hn with hn
 refine ⟨s,hs,?_,fun p hp hps=>?_⟩
 · obtain ⟨p,hp,hps⟩:=arc_of_edge hm s.2
   refine ⟨p,?_,by rw [hps,hid]⟩
   rw [<- hn,<- hf,stepFrom_of he];exact hp
 · obtain ⟨e2,g1,g2,g3⟩:=arc_stepEd (grOk_iff.2 hg) hp
   rw [hps,he] at g1
   injection g1 with g1
   subst g1
   rw [hps] at g2 g3
   exact ⟨by rw [<- g2,h2,Int.toNat_natCast],by rw [<- g3,h1]⟩
theorem setAt_none {g:Gr} {a:Au} {k:Wk} {i:Nat} (h:setAt g a k i=0):∀ j,i<=j->setAt g a k j=0:=by
 intro j hj
 obtain ⟨d,rfl⟩:=Nat.exists_eq_add_of_le hj
 induction d with
 | zero=>exact h
 | succ d ih=>rw [<- Nat.add_assoc,setAt,ih (by omega),aft_none]
theorem isWit_parts {g:Gr} {a:Au} {x y:Int} {k:Wk} (h:isWit g a x y k=true):k.1=x/\walkOk g k=true/\auOk a=true/\∀ i,i<=k.2.length->setAt g a k i ≠ 0:=by
 simp only [isWit,matchB,Bool.and_eq_true,beq_iff_eq] at h
 obtain ⟨⟨h1,-⟩,⟨h2,h3⟩,h4⟩:=h
 refine ⟨h1,h2,h3,fun i hi hz=>?_⟩
 rw [setAt_none hz _ hi,acc_none] at h4
 cases h4
theorem wit_arc {g:Gr} {a:Au} {x y:Int} {k:Wk} (h:isWit g a x y k=true) {i:Nat} (hi:i < k.2.length):∃ s,k.2[i]?=some s/\(∃ p ∈ arcsOf g (nodeAt g k i:Int),p.1=s)/\∀ p ∈ arcsOf g (nodeAt g k i:Int),p.1=s->p.2.2=(nodeAt g k (i+1):Int)/\aft a (setAt g a k i) (valAt g (nodeAt g k i)) p.2.1.toNat=setAt g a k (i+1)/\setAt g a k (i+1) ≠ 0:=by
 obtain ⟨h1,h2,h3,h4⟩:=isWit_parts h
 obtain ⟨s,hs,he,hp⟩:=step_arc h2 hi
 exact ⟨s,hs,he,fun p hpm hps=>⟨(hp p hpm hps).2,by rw [(hp p hpm hps).1,setAt],h4 _ hi⟩⟩
def rankTo (g:Gr) (a:Au) (y:Int) (k:Wk) (n:Nat):Nat->Nat
 | 0=>0
 | d+1=>overK (cwAt g a y (n - (d+1)) (nodeAt g k d) (setAt g a k d)) (arcsOf g (nodeAt g k d:Int)) (k.2.getD d (0,false)) (rankTo g a y k n d)
theorem rankTo_le (g:Gr) (a:Au) (y:Int) (k:Wk) (n:Nat):∀ d,rankTo g a y k n d<=1000000
 | 0=>by rw [rankTo];omega
 | d+1=>overK_le _ _ _ (rankTo_le g a y k n d)
def rankSh (g:Gr) (a:Au) (x y:Int) (k:Wk):Int :=
 if ((decide (0<=shortLen g a x y) && decide ((k.2.length:Int)=shortLen g a x y)) && isWit g a x y k)=true then (rankTo g a y k k.2.length k.2.length:Nat) else -1
end Go.Proofs.YtcnenpjaoalmeaaGreat
namespace Go.Proofs.YtcnenpjaoalmeaaGreat
def cmpSt (a b:St):Int:=if a.1 < b.1 then -1 else if b.1 < a.1 then 1 else if a.2=b.2 then 0 else if b.2=true then -1 else 1
def cmpSts:List St->List St->Int
 | a :: A,b :: B=>if cmpSt a b=0 then cmpSts A B else cmpSt a b
 | _,_=>0
def cmpWk (k j:Wk):Int :=
 if k.2.length < j.2.length then -1 else if j.2.length < k.2.length then 1 else if k.1 < j.1 then -1 else if j.1 < k.1 then 1 else cmpSts k.2 j.2
theorem cmpSt_eq {a b:St}:cmpSt a b=0 ↔ a=b:=by
 obtain ⟨a1,a2⟩:=a
 obtain ⟨b1,b2⟩:=b
 unfold cmpSt
 simp only [Prod.mk.injEq]
 by_cases h1:a1 < b1
 · rw [if_pos h1];constructor
   · intro h;omega
   · rintro ⟨h,-⟩;omega
 · rw [if_neg h1]
   by_cases h2:b1 < a1
   · rw [if_pos h2];constructor
     · intro h;omega
     · rintro ⟨h,-⟩;omega
   · rw [if_neg h2]
     have h3:a1=b1:=by omega
     cases a2 <;> cases b2 <;> simp [h3]
theorem cmpSts_eq:∀ {A B:List St},A.length=B.length->(cmpSts A B=0 ↔ A=B)
 | [],[],_=>by simp [cmpSts]
 | a :: A,b :: B,h=>by
   rw [cmpSts]
   by_cases e:cmpSt a b=0
   · rw [if_pos e,cmpSts_eq (by simpa using h),cmpSt_eq.1 e];simp
   · rw [if_neg e]
     constructor
     · intro h;exact absurd h e
     · intro h
       injection h with h1 h2
       exact absurd (cmpSt_eq.2 h1) e
theorem cmpWk_eq {k j:Wk}:cmpWk k j=0 ↔ k=j:=by
 obtain ⟨x,A⟩:=k
 obtain ⟨y,B⟩:=j
 unfold cmpWk
 simp only [Prod.mk.injEq]
 by_cases h1:A.length < B.length
 · rw [if_pos h1];constructor
   · intro h;omega
   · rintro ⟨-,h⟩;subst h;omega
 · rw [if_neg h1]
   by_cases h2:B.length < A.length
   · rw [if_pos h2];constructor
     · intro h;omega
     · rintro ⟨-,h⟩;subst h;omega
   · rw [if_neg h2]
     by_cases h3:x < y
     · rw [if_pos h3];constructor
       · intro h;omega
       · rintro ⟨h,-⟩;omega
     · rw [if_neg h3]
       by_cases h4:y < x
       · rw [if_pos h4];constructor
         · intro h;omega
         · rintro ⟨h,-⟩;omega
       · rw [if_neg h4,cmpSts_eq (by omega)]
         constructor
         · intro h;exact ⟨by omega,h⟩
         · rintro ⟨-,h⟩;exact h
theorem cmpWk_self (k:Wk):cmpWk k k=0:=cmpWk_eq.2 rfl
theorem cmpSts_drop {A B:List St} {i:Nat} {a b:St} (ha:A[i]?=some a) (hb:B[i]?=some b):cmpSts (A.drop i) (B.drop i)=if cmpSt a b=0 then cmpSts (A.drop (i+1)) (B.drop (i+1)) else cmpSt a b:=by
 obtain ⟨h1,rfl⟩:=List.getElem?_eq_some_iff.1 ha
 obtain ⟨h2,rfl⟩:=List.getElem?_eq_some_iff.1 hb
 rw [List.drop_eq_getElem_cons h1,List.drop_eq_getElem_cons h2,cmpSts]
end Go.Proofs.YtcnenpjaoalmeaaGreat
namespace Go.Proofs.YtcnenpjaoalmeaaGreat
open Go.ChangeShapes Go.WideShapes Go.ChangeAt Go.RowKit
/-- the steps lead from node x with the states s to y, where one of the states accepts -/
def goesL (g:Gr) (a:Au) (y:Int):Nat->Nat->List St->Prop
 | x,s,[]=>(x:Int)=y/\acc a s (valAt g x)=true
 | x,s,st :: L=>∃ p ∈ arcsOf g (x:Int),p.1=st/\goesL g a y p.2.2.toNat (aft a s (valAt g x) p.2.1.toNat) L
theorem nth_goes {g:Gr} {a:Au} {y:Int}:∀ {f x s n:Nat},n < cw g a y f x s->goesL g a y x s (nthL g a y f x s n)
 | 0,x,s,n,h=>by
   rw [cw] at h
   split at h
   · rename_i hc
     rw [Bool.and_eq_true,decide_eq_true_eq] at hc
     exact hc
   · exact absurd h (Nat.not_lt_zero n)
 | f+1,x,s,n,h=>by
   obtain ⟨p,n',e1,e2,e3⟩:=pick_cw h
   rw [nthL_succ e1]
   exact ⟨p,e3,rfl,nth_goes e2⟩
theorem arc_steps {g:Gr} (hgo:grOk g=true) {x:Int} {p:Arc} (hp:p ∈ arcsOf g x):stepFrom g p.1=x/\stepTo g p.1=p.2.2/\stepLetter g p.1=p.2.1:=by
 have hg:=grOk_iff.1 hgo
 obtain ⟨d,hd,hl,hto⟩:=arc_stepEd hgo hp
 refine ⟨?_,by rw [stepTo_of hd,hto],by rw [stepLetter_of hd,hl]⟩
 obtain ⟨e2,he2,hye⟩:=List.mem_flatMap.1 hp
 obtain ⟨i,hi,hie⟩:=List.getElem_of_mem he2
 have hid:=edgeIdx_at hg (show g.edges[i]?=some e2 by rw [<- hie];exact List.getElem?_eq_getElem hi)
 have hdd:d=e2:=by
  obtain ⟨-,hdm,hdi⟩:=stepEd_ok hd
  obtain ⟨k,hk,hke⟩:=List.getElem_of_mem hdm
  have hkd:g.edges[k]?=some d:=by rw [<- hke];exact List.getElem?_eq_getElem hk
  have hk2:=edgeIdx_at hg hkd
  have he1:e2.1=p.1.1:=by rcases mem_arcE.1 hye with ⟨-,rfl⟩ | ⟨-,rfl⟩ <;> rfl
  rw [hdi,<- he1,hid] at hk2
  obtain rfl:i=k:=by omega
  exact hke.symm.trans hie
 subst hdd
 rw [stepFrom_of hd]
 rcases mem_arcE.1 hye with ⟨h1,rfl⟩ | ⟨h1,rfl⟩
 · exact h1
 · exact h1
/-- along a walk that goes: the nodes, the sets and the links -/
theorem goes_at {g:Gr} {a:Au} {y:Int} {k:Wk} (hgo:grOk g=true) (hk:0<=k.1) (h:goesL g a y k.1.toNat (bit a.start.toNat) k.2):∀ i,i<=k.2.length->(∀ j,j < i->linkAt g k j=true)/\(nodesL g k).getD i 0=(nodeAt g k i:Int)/\goesL g a y (nodeAt g k i) (setAt g a k i) (k.2.drop i)
 | 0,_=>by
   have e:nodeAt g k 0=k.1.toNat:=rfl
   refine ⟨fun j hj=>absurd hj (Nat.not_lt_zero j),?_,?_⟩
   · show k.1=((nodeAt g k 0:Nat):Int)
     rw [e];omega
   · rw [e];exact h
 | i+1,hi=>by
   obtain ⟨h1,h2,h3⟩:=goes_at hgo hk h i (by omega)
   have hlt:i < k.2.length:=by omega
   obtain ⟨st,hst⟩:∃ st,k.2[i]?=some st:=⟨_,List.getElem?_eq_getElem hlt⟩
   have hdr:k.2.drop i=st :: k.2.drop (i+1):=by
    rw [List.drop_eq_getElem_cons hlt]
    rw [List.getElem?_eq_getElem hlt] at hst
    injection hst with hst
    rw [hst]
   rw [hdr] at h3
   obtain ⟨p,hp,rfl,h4⟩:=h3
   obtain ⟨e1,e2,e3⟩:=arc_steps hgo hp
   have hr:=arc_range (grOk_iff.1 hgo) hp
   have hn:(nodesL g k)[i+1]?=some p.2.2:=by rw [nodesL_next hst,e2]
   have hnd:(nodesL g k).getD (i+1) 0=p.2.2:=by rw [List.getD_eq_getElem?_getD,hn];rfl
   have hna:nodeAt g k (i+1)=p.2.2.toNat:=by rw [nodeAt,hnd]
   refine ⟨fun j hj=>?_,?_,?_⟩
   · rcases Nat.lt_succ_iff_lt_or_eq.1 hj with hj | rfl
     · exact h1 j hj
     · rw [linkAt,List.getD_eq_getElem?_getD,hst,Option.getD_some,e1,h2];simp
   · rw [hnd,hna];omega
   · have hset:setAt g a k (i+1)=aft a (setAt g a k i) (valAt g (nodeAt g k i)) p.2.1.toNat:=by
      rw [setAt,letAt,List.getD_eq_getElem?_getD,hst,Option.getD_some,e3]
     rw [hna,hset]
     exact h4
theorem goes_wit {g:Gr} {a:Au} {y:Int} {k:Wk} (hgo:grOk g=true) (ha:auOk a=true) (hk:0<=k.1/\k.1 < (g.vals.length:Int)) (hl:k.2.length<=60) (h:goesL g a y k.1.toNat (bit a.start.toNat) k.2):isWit g a k.1 y k=true:=by
 obtain ⟨h1,h2,h3⟩:=goes_at hgo hk.1 h k.2.length (Nat.le_refl _)
 rw [List.drop_length] at h3
 have hw:walkOk g k=true:=by
  simp only [walkOk,Bool.and_eq_true,wi_iff,decide_eq_true_eq,List.all_eq_true,List.mem_range]
  exact ⟨⟨⟨hgo,by omega⟩,hl⟩,h1⟩
 rw [isWit,matchB,walkEnd,if_pos hw,hw,ha]
 simp only [beq_self_eq_true,Bool.true_and,Bool.and_self]
 rw [Bool.and_eq_true]
 exact ⟨by rw [h3.1];simp,h3.2⟩
theorem wit_goes {g:Gr} {a:Au} {x y:Int} {k:Wk} (h:isWit g a x y k=true):∀ d,d<=k.2.length->goesL g a y (nodeAt g k (k.2.length - d)) (setAt g a k (k.2.length - d)) (k.2.drop (k.2.length - d))
 | 0,_=>by
   rw [Nat.sub_zero,List.drop_length]
   simp only [isWit,matchB,Bool.and_eq_true,beq_iff_eq] at h
   obtain ⟨⟨-,h1⟩,⟨h2,h3⟩,h4⟩:=h
   rw [walkEnd,if_pos h2] at h1
   exact ⟨h1,h4⟩
 | d+1,hd=>by
   have hi:k.2.length - (d+1) < k.2.length:=by omega
   obtain ⟨s,hs,⟨p,hp,hps⟩,hall⟩:=wit_arc h hi
   have hdr:k.2.drop (k.2.length - (d+1))=s :: k.2.drop (k.2.length - d):=by
    rw [List.drop_eq_getElem_cons hi,show k.2.length - (d+1)+1=k.2.length - d by omega]
    rw [List.getElem?_eq_getElem hi] at hs
    injection hs with hs
    rw [hs]
   obtain ⟨h5,h6,-⟩:=hall p hp hps
   have ih:=wit_goes h d (by omega)
   rw [hdr]
   refine ⟨p,hp,hps,?_⟩
   rw [show k.2.length - (d+1)+1=k.2.length - d by omega] at h5 h6
   rw [h5,h6,Int.toNat_natCast]
   exact ih
theorem cmpSt_lt {a b:St}:cmpSt a b < 0 ↔ a.1 < b.1 ∨ (a.1=b.1/\a.2=false/\b.2=true):=by
 obtain ⟨a1,a2⟩:=a
 obtain ⟨b1,b2⟩:=b
 unfold cmpSt
 simp only
 by_cases h1:a1 < b1
 · rw [if_pos h1];simp [h1]
 · rw [if_neg h1]
   by_cases h2:b1 < a1
   · rw [if_pos h2];constructor
     · intro h;omega
     · rintro (h | ⟨h,-⟩) <;> omega
   · rw [if_neg h2]
     have h3:a1=b1:=by omega
     subst h3
     cases a2 <;> cases b2 <;> simp
theorem edges_pair {g:Gr} (hg:GrOk g):g.edges.Pairwise (fun p e=>p.1 < e.1):=by
 rw [List.pairwise_iff_getElem]
 intro i j hi hj hij
 exact ids_lt hg (j - (i+1)) i _ _ (List.getElem?_eq_getElem hi) (by rw [show i+1+(j - (i+1))=j by omega];exact List.getElem?_eq_getElem hj)
theorem arcs_pair {g:Gr} (hg:GrOk g) (x:Int):(arcsOf g x).Pairwise (fun p q=>cmpSt p.1 q.1 < 0):=by
 unfold arcsOf
 have hp:=edges_pair hg
 generalize g.edges=es at hp
 induction es with
 | nil=>exact List.Pairwise.nil
 | cons e es ih =>
   obtain ⟨h1,h2⟩:=List.pairwise_cons.1 hp
   rw [List.flatMap_cons,List.pairwise_append]
   refine ⟨?_,ih h2,fun p hp q hq=>?_⟩
   · unfold arcE
     split <;> split <;> simp [cmpSt_lt]
   · obtain ⟨e2,he2,hq2⟩:=List.mem_flatMap.1 hq
     have:=h1 e2 he2
     rw [cmpSt_lt]
     refine .inl ?_
     rcases mem_arcE.1 hp with ⟨-,rfl⟩ | ⟨-,rfl⟩ <;> rcases mem_arcE.1 hq2 with ⟨-,rfl⟩ | ⟨-,rfl⟩ <;> exact this
theorem cmpSt_irr (a:St):¬ cmpSt a a < 0:=by rw [cmpSt_eq.2 rfl];omega
theorem pick_over {k:Arc->Nat}:∀ {l:List Arc} {n n':Nat} {p:Arc},l.Pairwise (fun p q=>cmpSt p.1 q.1 < 0)->pick k l n=some (p,n')->∀ r,r+n<=1000000->overK k l p.1 r+n'=r+n
 | [],n,n',p,_,h,_,_=>by cases h
 | u :: l,n,n',p,hl,h,r,hr=>by
   obtain ⟨hl1,hl2⟩:=List.pairwise_cons.1 hl
   rw [pick] at h
   by_cases hn:n < k u
   · rw [if_pos hn] at h
     injection h with h
     injection h with e1 e2
     subst e1 e2
     rw [overK_cons_yes rfl]
   · rw [if_neg hn] at h
     have hne:u.1 ≠ p.1:=fun e=>by
      have:=hl1 p (pick_some h).1
      rw [e] at this
      exact cmpSt_irr _ this
     have hak:addK k r u=r+k u:=by rw [addK];omega
     rw [overK_cons_no hne,hak,pick_over hl2 h (r+k u) (by omega)]
     omega
theorem rank_chain {g:Gr} {a:Au} {y:Int} (hgo:grOk g=true) {k:Wk} (hk:0<=k.1) {f n:Nat} (hn:n < cw g a y f k.1.toNat (bit a.start.toNat)) (hL:k.2=nthL g a y f k.1.toNat (bit a.start.toNat) n) :
 ∀ d,d<=f->∃ m,m < cw g a y (f - d) (nodeAt g k d) (setAt g a k d)/\k.2.drop d=nthL g a y (f - d) (nodeAt g k d) (setAt g a k d) m/\rankTo g a y k f d+m=n
 | 0,_=>⟨n,hn,by rw [List.drop_zero,hL];rfl,by rw [rankTo];omega⟩
 | d+1,hd=>by
   obtain ⟨m,h1,h2,h3⟩:=rank_chain hgo hk hn hL d (by omega)
   have hfl:k.2.length=f:=by rw [hL,nthL_len hn]
   have hgl:=goes_at (k:=k) hgo hk (by rw [hL];exact nth_goes hn) d (by omega)
   have hsz:=cw_le g a y f k.1.toNat (bit a.start.toNat)
   rw [show f - d=(f - (d+1))+1 by omega] at h1 h2
   obtain ⟨p,n',e1,e2,e3⟩:=pick_cw h1
   rw [nthL_succ e1] at h2
   have hlt:d < k.2.length:=by omega
   have hst:k.2[d]?=some p.1:=by
    have:=congrArg (fun l=>l[0]?) h2
    simpa using this
   obtain ⟨q1,q2,q3⟩:=arc_steps hgo e3
   have hr:=arc_range (grOk_iff.1 hgo) e3
   have hnd:(nodesL g k).getD (d+1) 0=p.2.2:=by rw [List.getD_eq_getElem?_getD,nodesL_next hst,q2];rfl
   have hna:nodeAt g k (d+1)=p.2.2.toNat:=by rw [nodeAt,hnd]
   have hset:setAt g a k (d+1)=aft a (setAt g a k d) (valAt g (nodeAt g k d)) p.2.1.toNat:=by
    rw [setAt,letAt,List.getD_eq_getElem?_getD,hst,Option.getD_some,q3]
   refine ⟨n',by rw [hna,hset];exact e2,?_,?_⟩
   · rw [hna,hset]
     have:=congrArg List.tail h2
     rw [List.tail_drop] at this
     simpa using this
   · rw [rankTo,List.getD_eq_getElem?_getD,hst,Option.getD_some,pick_over (arcs_pair (grOk_iff.1 hgo) _) e1 _ (by omega)]
     exact h3
theorem rank_nth {g:Gr} {a:Au} {y:Int} (hgo:grOk g=true) {k:Wk} (hk:0<=k.1) {f n:Nat} (hn:n < cw g a y f k.1.toNat (bit a.start.toNat)) (hL:k.2=nthL g a y f k.1.toNat (bit a.start.toNat) n):rankTo g a y k f f=n:=by
 obtain ⟨m,h1,-,h3⟩:=rank_chain hgo hk hn hL f (Nat.le_refl _)
 rw [Nat.sub_self,cw] at h1
 have:m=0:=by
  split at h1 <;> omega
 omega
def sumK {α:Type} (k:α->Nat) (l:List α):Nat:=(l.map k).sum
theorem sumK_cons {α:Type} (k:α->Nat) (p:α) (l:List α):sumK k (p :: l)=k p+sumK k l:=by simp [sumK]
theorem passK_sum {α:Type} (k:α->Nat):∀ (l:List α) (r:Nat),r<=1000000->passK k l r=min 1000000 (r+sumK k l)
 | [],r,h=>by simp [passK,sumK];omega
 | p :: l,r,h=>by
   rw [sumK_cons]
   show passK k l (addK k r p)=_
   rw [passK_sum k l (addK k r p) (Nat.min_le_left _ _),addK]
   omega
theorem cw_sum (g:Gr) (a:Au) (y:Int) (f x s:Nat):cw g a y (f+1) x s=min 1000000 (sumK (cwAt g a y f x s) (arcsOf g (x:Int))):=by
 have h:=passK_sum (cwAt g a y f x s) (arcsOf g (x:Int)) 0 (by omega)
 rw [Nat.zero_add] at h
 rw [<- h]
 rfl
/-- what stands ahead of step st -/
def ovN (k:Arc->Nat) (l:List Arc) (st:St):Nat:=sumK k (l.take (l.findIdx (fun p=>p.1==st)))
theorem ovN_yes {k:Arc->Nat} {l:List Arc} {st:St} {p:Arc} (hp:p.1=st):ovN k (p :: l) st=0:=by
 have:(p :: l).findIdx (fun p=>p.1==st)=0:=by rw [List.findIdx_cons,show (p.1==st)=true by simpa using hp];rfl
 rw [ovN,this];rfl
theorem ovN_no {k:Arc->Nat} {l:List Arc} {st:St} {p:Arc} (hp:p.1 ≠ st):ovN k (p :: l) st=k p+ovN k l st:=by
 have:(p :: l).findIdx (fun p=>p.1==st)=l.findIdx (fun p=>p.1==st)+1:=by rw [List.findIdx_cons,show (p.1==st)=false by simpa using hp];rfl
 rw [ovN,this,List.take_succ_cons,sumK_cons];rfl
theorem overK_sum (k:Arc->Nat) (l:List Arc) (st:St) (r:Nat) (h:r<=1000000):overK k l st r=min 1000000 (r+ovN k l st):=passK_sum k _ r h
theorem pick_at {k:Arc->Nat}:∀ {l:List Arc} {p:Arc} {r:Nat},l.Pairwise (fun p q=>cmpSt p.1 q.1 < 0)->p ∈ l->r < k p->pick k l (ovN k l p.1+r)=some (p,r)/\ovN k l p.1+k p<=sumK k l
 | [],p,r,_,hp,_=>by cases hp
 | u :: l,p,r,hl,hp,hr=>by
   obtain ⟨hl1,hl2⟩:=List.pairwise_cons.1 hl
   rw [sumK_cons]
   by_cases hu:u.1=p.1
   · have hup:p=u:=by
      rcases List.mem_cons.1 hp with h | h
      · exact h
      · have:=hl1 p h
        rw [hu] at this
        exact absurd this (cmpSt_irr _)
     subst hup
     rw [ovN_yes rfl,Nat.zero_add,pick,if_pos hr]
     exact ⟨rfl,by omega⟩
   · have hpl:p ∈ l:=by
      rcases List.mem_cons.1 hp with h | h
      · subst h;exact absurd rfl hu
      · exact h
     obtain ⟨h1,h2⟩:=pick_at hl2 hpl hr
     rw [ovN_no hu,pick,if_neg (by omega),show k u+ovN k l p.1+r - k u=ovN k l p.1+r by omega]
     exact ⟨h1,by omega⟩
/-- the steps are number r of their length -/
def numL (g:Gr) (a:Au) (y:Int):Nat->Nat->List St->Nat->Prop
 | x,s,[],r=>r=0/\(x:Int)=y/\acc a s (valAt g x)=true
 | x,s,st :: L,r=>∃ p ∈ arcsOf g (x:Int),p.1=st/\∃ r',numL g a y p.2.2.toNat (aft a s (valAt g x) p.2.1.toNat) L r'/\r=ovN (cwAt g a y L.length x s) (arcsOf g (x:Int)) st+r'
theorem num_ex {g:Gr} {a:Au} {y:Int}:∀ {L:List St} {x s:Nat},goesL g a y x s L->∃ r,numL g a y x s L r
 | [],x,s,h=>⟨0,rfl,h⟩
 | st :: L,x,s,⟨p,hp,hps,h⟩=>by
   obtain ⟨r',hr⟩:=num_ex h
   exact ⟨_,p,hp,hps,r',hr,rfl⟩
theorem num_nth {g:Gr} (hg:GrOk g) {a:Au} {y:Int}:∀ {L:List St} {x s r:Nat},numL g a y x s L r->r < 1000000->r < cw g a y L.length x s/\nthL g a y L.length x s r=L
 | [],x,s,r,⟨h1,h2,h3⟩,_=>by
   refine ⟨?_,rfl⟩
   rw [List.length_nil,cw,if_pos (by rw [Bool.and_eq_true,decide_eq_true_eq];exact ⟨h2,h3⟩)]
   omega
 | st :: L,x,s,r,⟨p,hp,hps,r',h1,h2⟩,hr=>by
   obtain ⟨e1,e2⟩:=num_nth hg h1 (by omega)
   subst hps
   obtain ⟨d1,d2⟩:=pick_at (arcs_pair hg (x:Int)) hp (show r' < cwAt g a y L.length x s p from e1)
   rw [<- h2] at d1
   refine ⟨?_,?_⟩
   · rw [List.length_cons,cw_sum]
     have:r' < cwAt g a y L.length x s p:=e1
     omega
   · rw [List.length_cons,nthL_succ d1,e2]
theorem rank_num {g:Gr} {a:Au} {x y:Int} {k:Wk} (h:isWit g a x y k=true) (hg:GrOk g) {r0:Nat} (h0:numL g a y (nodeAt g k 0) (setAt g a k 0) k.2 r0):∀ d,d<=k.2.length->∃ r,numL g a y (nodeAt g k d) (setAt g a k d) (k.2.drop d) r/\min 1000000 (rankTo g a y k k.2.length d+r)=min 1000000 r0
 | 0,_=>⟨r0,h0,by rw [rankTo,Nat.zero_add]⟩
 | d+1,hd=>by
   obtain ⟨r,h1,h2⟩:=rank_num h hg h0 d (by omega)
   have hi:d < k.2.length:=by omega
   obtain ⟨s,hs,-,hall⟩:=wit_arc h hi
   have hdr:k.2.drop d=s :: k.2.drop (d+1):=by
    rw [List.drop_eq_getElem_cons hi]
    rw [List.getElem?_eq_getElem hi] at hs
    injection hs with hs
    rw [hs]
   rw [hdr] at h1
   obtain ⟨p,hp,hps,r',h3,h4⟩:=h1
   obtain ⟨e1,e2,-⟩:=hall p hp hps
   rw [e1,e2,Int.toNat_natCast] at h3
   refine ⟨r',h3,?_⟩
   rw [rankTo,List.getD_eq_getElem?_getD,hs,Option.getD_some,overK_sum _ _ _ _ (rankTo_le ..)]
   rw [List.length_drop] at h4
   rw [h4] at h2
   rw [<- h2]
   omega
theorem rank_back {g:Gr} {a:Au} {x y:Int} {k:Wk} (h:isWit g a x y k=true) (hlt:rankTo g a y k k.2.length k.2.length < 1000000) :
 rankTo g a y k k.2.length k.2.length < cw g a y k.2.length k.1.toNat (bit a.start.toNat)/\nthL g a y k.2.length k.1.toNat (bit a.start.toNat) (rankTo g a y k k.2.length k.2.length)=k.2:=by
 obtain ⟨-,hw,-⟩:=isWit_parts h
 have hg:=(walkOk_parts hw).1
 have hgo:=wit_goes h k.2.length (Nat.le_refl _)
 rw [Nat.sub_self,List.drop_zero] at hgo
 obtain ⟨r0,h0⟩:=num_ex hgo
 obtain ⟨r,h1,h2⟩:=rank_num h hg h0 k.2.length (Nat.le_refl _)
 rw [List.drop_length] at h1
 have hr:r=0:=h1.1
 have hrr:r0=rankTo g a y k k.2.length k.2.length:=by omega
 have:=num_nth hg h0 (by omega)
 rw [hrr] at this
 exact this
theorem nthSh_parts {g:Gr} {a:Au} {x y n:Int} (h:nthSh g a x y n=true):0<=shortLen g a x y/\0<=n/\n.toNat < cwI g a x y (shortLen g a x y).toNat/\(0<=x/\x < (g.vals.length:Int))/\grOk g=true/\auOk a=true:=by
 rw [nthSh,Bool.and_eq_true,decide_eq_true_eq,wi_iff] at h
 obtain ⟨hx,-,hg,ha⟩:=cntOk_iff.1 (shortLen_ok h.1)
 exact ⟨h.1,h.2.1,by omega,hx,hg,ha⟩
theorem nthI_wit {g:Gr} {a:Au} {x y:Int} {f n:Nat} (hx:0<=x/\x < (g.vals.length:Int)) (hg:grOk g=true) (ha:auOk a=true) (hf:f<=60) (hn:n < cwI g a x y f):isWit g a x y (x,nthI g a x y f n)=true:=by
 have hl:(nthI g a x y f n).length=f:=nthL_len hn
 exact goes_wit (k:=(x,nthI g a x y f n)) hg ha hx (by show (nthI g a x y f n).length<=60;omega) (nth_goes hn)
theorem nthShort_wit {g:Gr} {a:Au} {x y n:Int} (h:nthSh g a x y n=true):isWit g a x y (nthShort g a x y n).1=true/\((nthShort g a x y n).1.2.length:Int)=shortLen g a x y:=by
 obtain ⟨h0,h1,h2,hx,hg,ha⟩:=nthSh_parts h
 rw [nthShort,if_pos h]
 have hlt:=shortLen_lt g a x y
 refine ⟨nthI_wit hx hg ha (by omega) h2,?_⟩
 show ((nthI g a x y (shortLen g a x y).toNat n.toNat).length:Int)=_
 rw [nthI,nthL_len h2]
 omega
theorem rank_nthShort {g:Gr} {a:Au} {x y n:Int} (h:nthSh g a x y n=true):rankSh g a x y (nthShort g a x y n).1=n:=by
 obtain ⟨h0,h1,h2,hx,hg,ha⟩:=nthSh_parts h
 obtain ⟨hw,hl⟩:=nthShort_wit h
 rw [rankSh,if_pos (by simp only [Bool.and_eq_true,decide_eq_true_eq];exact ⟨⟨h0,hl⟩,hw⟩)]
 have hr:=rank_nth (k:=(nthShort g a x y n).1) (y:=y) (a:=a) hg (by rw [nthShort,if_pos h];exact hx.1) (f:=(shortLen g a x y).toNat) (n:=n.toNat) (by rw [nthShort,if_pos h];exact h2) (by rw [nthShort,if_pos h];rfl)
 rw [show (nthShort g a x y n).1.2.length=(shortLen g a x y).toNat by omega,hr]
 omega
theorem nth_rankSh {g:Gr} {a:Au} {x y:Int} {k:Wk} (h:0<=rankSh g a x y k) (hlt:rankSh g a x y k < 1000000):nthShort g a x y (rankSh g a x y k)=(k,true):=by
 rw [rankSh] at h hlt ⊢
 split at h
 · rename_i hc
   rw [if_pos hc] at hlt ⊢
   simp only [Bool.and_eq_true,decide_eq_true_eq] at hc
   obtain ⟨⟨h0,hl⟩,hw⟩:=hc
   obtain ⟨e1,e2⟩:=rank_back hw (by omega)
   have hk1:=(isWit_parts hw).1
   have hlen:(shortLen g a x y).toNat=k.2.length:=by omega
   have hsh:nthSh g a x y ((rankTo g a y k k.2.length k.2.length:Nat):Int)=true:=by
    rw [nthSh,Bool.and_eq_true,decide_eq_true_eq,wi_iff,hlen]
    have:rankTo g a y k k.2.length k.2.length < cwI g a x y k.2.length:=by rw [cwI,<- hk1];exact e1
    exact ⟨h0,by omega,by omega⟩
   rw [nthShort,if_pos hsh,hlen,Int.toNat_natCast,nthI,<- hk1,e2]
 · omega
end Go.Proofs.YtcnenpjaoalmeaaGreat
