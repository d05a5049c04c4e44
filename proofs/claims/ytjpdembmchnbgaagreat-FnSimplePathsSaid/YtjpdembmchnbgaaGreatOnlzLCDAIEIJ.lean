/- Parts of the proof, joined into one text: AlongS, CntM, SrchM, CwM, NthM, ImgM, LayM, WalksM, LstM, RnkM, CmpM, WitQ, WitR, SrqM, SrqA, SrqC. -/
import Derived.Test.YtjpdembmchnbgaaGreatOnlzLOBKOOKG
import Derived.Test.YtjpdembmchnbgaaGreatOnlzLIMBOPHA
import Derived.Test.YtjpdembmchnbgaaGreatOnlzNELCFPNN
import Derived.Test.YtjpdembmchnbgaaGreatOnlzPDGEJABA
import Derived.Test.YtjpdembmchnbgaaGreatOnlzALPFPLEE
set_option linter.unusedVariables false
set_option linter.unusedSimpArgs false
namespace Go.Proofs.YtjpdembmchnbgaaGreat
open Go.ChangeShapes Go.WideShapes Go.ChangeAt Go.RowKit
attribute [local go_sem] ext_cell ext_frozen ext_lt ext_lt1 ext_lt2 ext_lt3 ltn2 ltn3 ltn13 lts1 lts2 lts3
def foldFr (a:Au) (l set m0 q:Nat):Nat:=(mem q set).foldl (aft1 a l) m0
theorem foldFr_no {a:Au} {l set m0 q:Nat} (h:set.testBit q=false):foldFr a l set m0 (q+1)=foldFr a l set m0 q:=by rw [foldFr,mem_no h];rfl
theorem foldFr_yes {a:Au} {l set m0 q:Nat} (h:set.testBit q=true):foldFr a l set m0 (q+1)=aft1 a l (foldFr a l set m0 q) q:=by rw [foldFr,mem_yes h,List.foldl_append];rfl
theorem foldFr_lt {a:Au} (h:auOk a=true) (l set m0 q:Nat) (hm:m0 < 2 ^ a.accept.length):foldFr a l set m0 q < 2 ^ a.accept.length:=foldl_inv (P:=fun m=>m < 2 ^ a.accept.length) (fun m x hm=>aft1_lt h l m x hm) _ _ hm
def foldS (a:Au) (v l set q:Nat):Nat:=(mem q set).foldl (aftS a v l) 0
theorem foldS_no {a:Au} {v l set q:Nat} (h:set.testBit q=false):foldS a v l set (q+1)=foldS a v l set q:=by rw [foldS,mem_no h];rfl
theorem foldS_yes {a:Au} {v l set q:Nat} (ha:auOk a=true) (hq:q < a.accept.length) (h:set.testBit q=true):foldS a v l set (q+1)=foldFr a l (cls a v q) (foldS a v l set q) a.accept.length:=by
 rw [foldS,mem_yes h,List.foldl_append]
 show aftS a v l _ q=_
 rw [aftS,mem12 ha (cls_lt ha v q hq)];rfl
theorem foldS_lt {a:Au} (h:auOk a=true) (v l set q:Nat):foldS a v l set q < 2 ^ a.accept.length:=foldl_inv (P:=fun m=>m < 2 ^ a.accept.length) (fun m x hm=>aftS_lt h v l m x hm) _ _ (Nat.two_pow_pos _)
theorem foldS_all {a:Au} (h:auOk a=true) {v l set:Nat} (hs:set < 2 ^ a.accept.length):foldS a v l set a.accept.length=aft a set v l:=by rw [foldS,aft,mem12 h hs]
theorem stepEd_idx {g:Gr} {id:Int} {e:Ed} (h:stepEd g id=some e):∃ ix:Nat,edgeIdx g id=ix/\g.edges[ix]?=some e:=by
 obtain ⟨hg,hm,he⟩:=stepEd_ok h
 obtain ⟨ix,hix⟩:=List.getElem?_of_mem hm
 refine ⟨ix,?_,hix⟩
 rw [<- he]
 exact edgeIdx_at hg hix
set_option maxHeartbeats 8000000 in
set_option maxRecDepth 100000 in
theorem l18Next_any (vg va:Value) (g:Gr) (a:Au) (x SI:Nat) (st:St) (e:Ed) (l:Nat) (w:World) (hgv:GrV 0 w.heap.size w vg g) (hav:AuV 0 w.heap.size w va a) (hgo:grOk g=true) (ha:auOk a=true) (hx:x < g.vals.length) (hSI:SI < 2 ^ a.accept.length)
 (he:stepEd g st.1=some e) (hl:arcLetter st.2 e=(l:Int)) :
 Calls Tryz.prog 62 #[vg,va,.int .i64 (x:Int),.int .i64 (SI:Int),.agg #[.int .i64 st.1,.bool st.2]] w fun en w'=>en=.returned (.tuple #[.int .i64 (arcTo st.2 e),.int .i64 (aft a SI (valAt g x) l:Int)])/\Below w.heap.size w w':=by
 have hg:=grOk_iff.1 hgo
 have hav0:=hav
 have hgv0:=hgv
 obtain ⟨A1,c1,A2,c2,rfl,hl1,hm1,hl2,hm2,hC1,hC2⟩:=hgv.form
 obtain ⟨A3,c3,A4,c4,rfl,hl3,hm3,hl4,hm4,hAC⟩:=hav.form ha
 obtain ⟨sid,sinv⟩:=st
 have hn12:=(auOk_iff.1 ha).1.2
 obtain ⟨ix,hix,hei⟩:=stepEd_idx he
 have hem:=(stepEd_ok he).2.1
 have hel:=hg.edges e hem
 have hixl:ix < g.edges.length:=(List.getElem?_eq_some_iff.1 hei).1
 have hixi:(ix:Int) < (g.edges.length:Int):=by omega
 obtain ⟨b6,o6,rfl,hb6,q0,q1,q2,q3⟩:=hC2.ed hei
 have hxi:g.vals[x]?=some g.vals[x]:=List.getElem?_eq_getElem hx
 have hvr:=hg.vals _ (List.getElem_mem hx)
 generalize g.vals[x]=vx at hxi hvr
 obtain ⟨vx,rfl⟩:=Int.eq_ofNat_of_zero_le hvr.1
 have hva:=valAt_of hxi
 rw [Int.toNat_natCast] at hva
 obtain ⟨b1,o1,rfl,hb1,d1⟩:=hC1.int hxi
 have hSI4:=lt12 ha hSI
 simp only at hix hl ⊢
 obtain ⟨eid,ef,et,el⟩:=e
 simp only at q0 q1 q2 q3 hel
 obtain ⟨-,-,-,hl0,hl2e⟩:=hel
 have hl9:l < 6:=by unfold arcLetter at hl;simp only at hl;split at hl <;> omega
 obtain ⟨TO,hTO⟩:∃ TO,TO=arcTo sinv (eid,ef,et,el):=⟨_,rfl⟩
 rw [<- hTO,hva,<- foldS_all ha hSI]
 have HTO:=Hd_ (show ∀ W,Calls Tryz.prog 112 #[.agg #[.int .i64 eid,.int .i64 ef,.int .i64 et,.int .i64 el],.bool sinv] W fun en w'=>en=.returned (.int .i64 TO)/\Below W.heap.size W w' from fun W=>by
  have h:=l14To_any (eid,ef,et,el) sinv W
  rwa [<- hTO] at h)
 have HLET:=Hd_ (show ∀ W,Calls Tryz.prog 111 #[.agg #[.int .i64 eid,.int .i64 ef,.int .i64 et,.int .i64 el],.bool sinv] W fun en w'=>en=.returned (.int .i64 (l:Int))/\Below W.heap.size W w' from fun W=>by
  have h:=l14Letter_any (eid,ef,et,el) sinv W hl0 hl2e
  rwa [hl] at h)
 have HEI:=Hd_ (show ∀ W,Below w.heap.size w W->Calls Tryz.prog 109 #[.agg #[.slice (some ⟨b1,o1,none⟩) g.vals.length c1,.slice (some ⟨b6,o6,none⟩) g.edges.length c2],.int .i64 sid] W fun e w'=>e=.returned (.int .i64 (ix:Int))/\Below W.heap.size W w' from fun W hW=>by
  have h:=specEdgeIndex _ g sid W (hgv0.keep hW)
  rwa [hix] at h)
 have HGO:=Hd_ hg
 have HAO:=Hd_ ha
 have HAV:=Hd_ hav0
 have HGV:=Hd_ hgv0
 have HAC:=Hd_ hAC
 have HSI:=Hd_ hSI
 have hxx:(x:Int) < (g.vals.length:Int):=by omega
 have hb0:Below w.heap.size w (((w.alloc (.cells #[.slice (some ⟨b1,o1,none⟩) g.vals.length c1,.slice (some ⟨b6,o6,none⟩) g.edges.length c2] 27)).alloc (.cells #[.int .i64 a.start,.slice A3 a.accept.length c3,.slice A4 a.accept.length c4] 31)).alloc (.cells #[.int .i64 sid,.bool sinv] 81)):=(((Below.refl _ _).alloc (Nat.le_refl _) _).alloc (by simp) _).alloc (by simp;omega) _
 clear hgv hav ha hg hgo hav0 hgv0 hva hxi hC1 hC2 hAC hSI he hl hix hei hem hTO
 go_enter Tryz.func62,Tryz.ntmps62
 go_upto_region 1 with fail
 obtain ⟨W0,hW0⟩:∃ W0,W0=(((w.alloc (.cells #[.slice (some ⟨b1,o1,none⟩) g.vals.length c1,.slice (some ⟨b6,o6,none⟩) g.edges.length c2] 27)).alloc (.cells #[.int .i64 a.start,.slice A3 a.accept.length c3,.slice A4 a.accept.length c4] 31)).alloc (.cells #[.int .i64 sid,.bool sinv] 81)):=⟨_,rfl⟩
 rw [<- hW0] at hb0 ⊢
 have bx:Blk W0 w.heap.size 27 #[.slice (some ⟨b1,o1,none⟩) g.vals.length c1,.slice (some ⟨b6,o6,none⟩) g.edges.length c2]:=by rw [hW0];exact ((Blk.new w _ _ w.heap.size rfl).alloc _).alloc _
 have by_:Blk W0 (w.heap.size+1) 31 #[.int .i64 a.start,.slice A3 a.accept.length c3,.slice A4 a.accept.length c4]:=by rw [hW0];exact (Blk.new (w.alloc _) _ _ (w.heap.size+1) (by simp)).alloc _
 have bz:Blk W0 (w.heap.size+1+1) 81 #[.int .i64 sid,.bool sinv]:=by rw [hW0];exact Blk.new ((w.alloc _).alloc _) _ _ (w.heap.size+1+1) (by simp)
 have hs0:w.heap.size+1+1+1=W0.heap.size:=by rw [hW0];simp
 have x0:W0.cell? ⟨w.heap.size,0,none⟩=some (.slice (some ⟨b1,o1,none⟩) g.vals.length c1):=by exact bx.cell 0
 have x1:W0.cell? ⟨w.heap.size,1,none⟩=some (.slice (some ⟨b6,o6,none⟩) g.edges.length c2):=by exact bx.cell 1
 have y0:W0.cell? ⟨w.heap.size+1,0,none⟩=some (.int .i64 a.start):=by exact by_.cell 0
 have y1:W0.cell? ⟨w.heap.size+1,1,none⟩=some (.slice A3 a.accept.length c3):=by exact by_.cell 1
 have y2:W0.cell? ⟨w.heap.size+1,2,none⟩=some (.slice A4 a.accept.length c4):=by exact by_.cell 2
 have z0:W0.cell? ⟨w.heap.size+1+1,0,none⟩=some (.int .i64 sid):=by exact bz.cell 0
 have z1:W0.cell? ⟨w.heap.size+1+1,1,none⟩=some (.bool sinv):=by exact bz.cell 1
 try rw [hs0]
 have l2:=bz.lt
 have l1:=by_.lt
 have l0:=bx.lt
 clear hW0 bx by_ bz hs0
 have q0:=kcell hb0 q0
 have q1:=kcell hb0 q1
 have q2:=kcell hb0 q2
 have q3:=kcell hb0 q3
 have d1:=kcell hb0 d1
 have hbb1:b1 < W0.heap.size:=Nat.lt_of_lt_of_le hb1 hb0.size
 have ne0:=World.new_ne W0 _ x0
 have ne1:=World.new_ne W0 _ q0
 have ne2:=World.new_ne W0 _ z0
 go_cut [12] (fun s12 wx=>∃ eb,s12=.pointer (some ⟨eb,0,none⟩)/\W0.heap.size<=eb/\eb < wx.heap.size/\wx.cell? ⟨eb,0,none⟩=some (.int .i64 eid)/\wx.cell? ⟨eb,1,none⟩=some (.int .i64 ef)/\wx.cell? ⟨eb,2,none⟩=some (.int .i64 et)/\wx.cell? ⟨eb,3,none⟩=some (.int .i64 el)/\Below W0.heap.size W0 wx)
 case first =>
  go_region_held3 (fun w'=>w'.cell? ⟨w.heap.size,0,none⟩=some (.slice (some ⟨b1,o1,none⟩) g.vals.length c1)/\w'.cell? ⟨w.heap.size,1,none⟩=some (.slice (some ⟨b6,o6,none⟩) g.edges.length c2)/\w'.cell? ⟨w.heap.size+1+1,0,none⟩=some (.int .i64 sid)/\w'.cell? ⟨b6,o6+ix * 4,none⟩=some (.int .i64 eid)/\w'.cell? ⟨b6,o6+ix * 4+1,none⟩=some (.int .i64 ef)/\w'.cell? ⟨b6,o6+ix * 4+2,none⟩=some (.int .i64 et)/\w'.cell? ⟨b6,o6+ix * 4+3,none⟩=some (.int .i64 el))
   (first | (with_reducible exact kS7 ne0 ne0 ne2 ne1 ne1 ne1 ne1 (kS7 ne0 ne0 ne2 ne1 ne1 ne1 ne1 (kS7 ne0 ne0 ne2 ne1 ne1 ne1 ne1 (kS7 ne0 ne0 ne2 ne1 ne1 ne1 ne1 (by assumption))))) | (exact ⟨x0,x1,z0,q0,q1,q2,q3⟩) | assumption | (exact kB7 hbE ⟨x0,x1,z0,q0,q1,q2,q3⟩) | (exact kA7 _ ⟨x0,x1,z0,q0,q1,q2,q3⟩) | (exact kA7 _ (kB7 hbE ⟨x0,x1,z0,q0,q1,q2,q3⟩)) | (exact kB7 hbE (kA7 _ ⟨x0,x1,z0,q0,q1,q2,q3⟩)) | (exact kB7 hbE (by assumption)) | (exact kA7 _ (by assumption)) | go_keep)
   (first | (go_at_call 109;refine (HEI.out _ (by first | exact hb0.drew | exact (hb0.drew).alloc (by have:=hb0.size;simpa using this) _)).mono ?_;rintro en wE ⟨rfl,hbE⟩;have n0:=World.new_ne wE _ (kcell hbE (by first | exact x0 | exact kcell ((Below.refl _ _).alloc (Nat.le_refl _) _) x0));have n1:=World.new_ne wE _ (kcell hbE (by first | exact q0 | exact kcell ((Below.refl _ _).alloc (Nat.le_refl _) _) q0));have n2:=World.new_ne wE _ (kcell hbE (by first | exact z0 | exact kcell ((Below.refl _ _).alloc (Nat.le_refl _) _) z0)));(first | (have NC:=nc4 hbE (n:=W0.heap.size) rfl;obtain ⟨t0,t1,t2,t3,f0,f1,f2,f3⟩:=NC) | skip))
  all_goals (go_wp2_with fail)
  · go_meet
    exact ⟨_,rfl,hbE.size,by simp,by simp,by simp,by simp,by simp,(below_trans ((Below.refl W0.heap.size W0).drew) hbE).alloc hbE.size _⟩
  · go_meet
    have h9:=hbE.size
    have h8:W0.heap.size < wE.heap.size:=Nat.lt_of_lt_of_le (by simp) h9
    have h7:Below W0.heap.size W0 wE:=below_trans (((Below.refl W0.heap.size W0).alloc (Nat.le_refl _) _).drew) hbE
    exact ⟨_,rfl,Nat.le_refl _,by simpa using h8,by go_simp,by go_simp,by go_simp,by go_simp,(((h7.setCell (Nat.le_refl _) _).setCell (Nat.le_refl _) _).setCell (Nat.le_refl _) _).setCell (Nat.le_refl _) _⟩
 case rest =>
  obtain ⟨eb,rfl,hlo,hhi,e0,e1,e2,e3,hbc⟩:=hcut
  have x0:=kcell hbc x0
  have x1:=kcell hbc x1
  have y0:=kcell hbc y0
  have y1:=kcell hbc y1
  have y2:=kcell hbc y2
  have z0:=kcell hbc z0
  have z1:=kcell hbc z1
  have d1:=kcell hbc d1
  have hbw:=below_trans hb0 hbc
  have hsz:=hbc.size
  have l0:=Nat.lt_of_lt_of_le l0 hsz
  have l1:=Nat.lt_of_lt_of_le l1 hsz
  have l2:=Nat.lt_of_lt_of_le l2 hsz
  have hbb1:=Nat.lt_of_lt_of_le hbb1 hsz
  clear ne0 ne1 ne2 q0 q1 q2 q3 hb0 hbc
  go_wp2_with fail
  go_loopw [13,14] (fun mm qq wr=>∃ (q:Nat) (u:World),q<=a.accept.length/\qq=.int .i64 (q:Int)/\mm=.int .i64 (foldS a vx l SI q:Nat)/\wr=ext wc u) (fun _ qq _=>a.accept.length - (intOf qq).toNat)
  case atStart=>exact ⟨0,wc,Nat.zero_le _,rfl,rfl,ext_self _⟩
  case round =>
   obtain ⟨q,u,hq,rfl,rfl,rfl⟩:=hrel
   by_cases hlq:q < a.accept.length
   · have hqi:(q:Int) < (a.accept.length:Int):=by omega
     cases hb:SI.testBit q with
     | false =>
       have e3':=bit_off (by omega) (by omega) hb
       have HR:=Hd_ (show foldS a vx l SI q=foldS a vx l SI (q+1) from (foldS_no hb).symm)
       clear hb
       go_wp2_with fail
       go_roundw
       case rel=>exact ⟨q+1,u,by omega,by go_num,by rw [<- HR.out],rfl⟩
       case measure=>simp [intOf];omega
     | true =>
       have e3':=bit_on (by omega) (by omega) hb
       have HFS:=Hd_ (foldS_yes (v:=vx) (l:=l) HAO.out hlq hb)
       have hm0:=foldS_lt HAO.out vx l SI q
       have hcl:=cls_lt HAO.out vx q hlq
       have hcl4:=lt12 HAO.out hcl
       clear hb
       generalize foldS a vx l SI q=m0 at *
       have HM0:=Hd_ hm0
       clear hm0
       go_wp2_with fail
       refine wp_region_ext_lit (by kernel_rfl) (by kernel_rfl) ?_
       repeat (go_big_quiet_step ((go_at_call 110;exact Calls.ext_of (l14Closure_any _ a q vx _ (HAV.out.keep (below_trans hbw (below_trans (ext_below _ _) (ext_below _ _)))) HAO.out hlq (by omega)))))
       refine wpQuiet_nil ?_
       rintro _ ⟨u2,rfl⟩
       obtain ⟨u3,hu3⟩:=ext_of (below_trans (ext_below wc u) (ext_below (ext wc u) u2))
       rw [hu3]
       clear hu3 u2 u
       go_wp2_with fail
       generalize cls a vx q=C at *
       go_loopw [13,16] (fun mm rr wr=>∃ (r:Nat) (u:World),r<=a.accept.length/\rr=.int .i64 (r:Int)/\mm=.int .i64 (foldFr a l C m0 r:Nat)/\wr=ext wc u) (fun _ rr _=>a.accept.length - (intOf rr).toNat)
       case atStart=>exact ⟨0,u3,Nat.zero_le _,rfl,rfl,rfl⟩
       case round =>
        obtain ⟨r,u,hr,rfl,rfl,rfl⟩:=hrel
        by_cases hlr:r < a.accept.length
        · obtain ⟨b,o,b3,o3,c3',rfl,hbb,hrw,-,-,hb3,hmvs⟩:=HAC.out.row r hlr
          have r0:=kcell hbw hrw
          have r1:=kcell hbw (hmvs l (by omega))
          have hws:=hbw.size
          have hbb':b < wc.heap.size:=by omega
          have hb3':b3 < wc.heap.size:=by omega
          have hlri:(r:Int) < (a.accept.length:Int):=by omega
          have hlz:(l:Int) < 9:=by omega
          have hft:=foldFr_lt HAO.out l C m0 r HM0.out
          have hft4:=lt12 HAO.out hft
          have hmv:=mv_lt HAO.out r l
          have HNX:=Hd_ (show foldFr a l C m0 (r+1)=if C.testBit r=true then aft1 a l (foldFr a l C m0 r) r else foldFr a l C m0 r by by_cases hb:C.testBit r=true;rw [if_pos hb,foldFr_yes hb];rw [if_neg hb,foldFr_no (by simpa using hb)])
          have HA:=Hd_ (show aft1 a l (foldFr a l C m0 r) r=if 0<=mv a r l then ins (foldFr a l C m0 r) (mv a r l).toNat else foldFr a l C m0 r from rfl)
          generalize foldFr a l C m0 r=m1 at *
          clear hrw hmvs hft
          go_wp2_with fail
          refine wp_region_ext_lit (by kernel_rfl) (by kernel_rfl) ?_
          repeat (go_big_quiet_step ((go_at_call 111;exact Calls.ext_of (HLET.out _))))
          refine wpQuiet_nil ?_
          rintro _ ⟨u2,rfl⟩
          obtain ⟨u4,hu4⟩:=ext_of (below_trans (ext_below wc u) (ext_below (ext wc u) u2))
          rw [hu4]
          cases hb:C.testBit r with
          | false =>
            have b1f:=bit_off (by omega) (by omega) hb
            have HR:=Hd_ (show m1=foldFr a l C m0 (r+1) by rw [HNX.out,if_neg (by simp [hb])])
            clear hb
            go_wp2_with fail
            go_roundw
            case rel=>exact ⟨r+1,u4,by omega,by go_num,by rw [<- HR.out],rfl⟩
            case measure=>simp [intOf];omega
          | true =>
            have b1t:=bit_on (by omega) (by omega) hb
            have HNX:=Hd_ (HNX.out.trans (if_pos hb))
            clear hb
            by_cases h0:0<=mv a r l
            · have HR:=Hd_ (show ins m1 (mv a r l).toNat=foldFr a l C m0 (r+1) by rw [HNX.out,HA.out,if_pos h0])
              generalize mv a r l=z at *
              obtain ⟨z,rfl⟩:=Int.eq_ofNat_of_zero_le h0
              have e1':=shl_bit (s:=z) (by omega)
              have e2':=or_ins (m:=m1) (s:=z) (by omega) (by omega)
              go_wp2_with fail
              go_roundw
              case rel=>exact ⟨r+1,u4,by omega,by go_num,by rw [<- HR.out];simp,rfl⟩
              case measure=>simp [intOf];omega
            · have HR:=Hd_ (show m1=foldFr a l C m0 (r+1) by rw [HNX.out,HA.out,if_neg h0])
              have h0':decide (mv a r l >= 0)=false:=by simp;omega
              go_wp2_with fail
              go_roundw
              case rel=>exact ⟨r+1,u4,by omega,by go_num,by rw [<- HR.out],rfl⟩
              case measure=>simp [intOf];omega
        · obtain rfl:r=a.accept.length:=by omega
          go_wp2_with fail
          go_roundw
          case rel=>exact ⟨q+1,u,by omega,by go_num,by rw [HFS.out],rfl⟩
          case measure=>simp [intOf];omega
   · obtain rfl:q=a.accept.length:=by omega
     have hbE:=below_trans hbw (ext_below wc u)
     go_wp2_with fail
     refine (HTO.out _).mono ?_
     rintro en w9 ⟨rfl,hb9⟩
     go_wp2_with fail
     go_ret2
     exact ⟨rfl,below_trans hbE hb9⟩
set_option maxHeartbeats 4000000 in
theorem l18Ends_any (vg va:Value) (g:Gr) (a:Au) (x SI:Nat) (w:World) (hgv:GrV 0 w.heap.size w vg g) (hav:AuV 0 w.heap.size w va a) (hgo:grOk g=true) (ha:auOk a=true) (hx:x < g.vals.length) (hSI:SI < 2 ^ a.accept.length) :
 Calls Tryz.prog 101 #[vg,va,.int .i64 (x:Int),.int .i64 (SI:Int)] w fun en w'=>en=.returned (.bool (acc a SI (valAt g x)))/\Below w.heap.size w w':=by
 have hav0:=hav
 have hgv0:=hgv
 obtain ⟨A1,n1,c1,A2,n2,c2,rfl⟩:=hgv.shape
 obtain ⟨A3,c3,A4,c4,rfl,hl3,hm3,hl4,hm4,-⟩:=hav.form ha
 have hn12:=(auOk_iff.1 ha).1.2
 have hSI4:=lt12 ha hSI
 have hb0:Below w.heap.size w ((w.alloc (.cells #[.slice A1 n1 c1,.slice A2 n2 c2] 27)).alloc (.cells #[.int .i64 a.start,.slice A3 a.accept.length c3,.slice A4 a.accept.length c4] 31)):=((Below.refl _ _).alloc (Nat.le_refl _) _).alloc (by simp) _
 obtain ⟨R,hR⟩:∃ R,R=acc a SI (valAt g x):=⟨_,rfl⟩
 rw [<- hR]
 have HR:=Hd_ (show R=(mem a.accept.length SI).any (accC a (valAt g x)) by rw [hR,acc,mem12 ha hSI])
 have HGO:=Hd_ (grOk_iff.1 hgo)
 have HAO:=Hd_ ha
 have HAV:=Hd_ hav0
 have HGV:=Hd_ hgv0
 clear hgv hav ha hgo hav0 hgv0 hSI hR
 go_enter Tryz.func101,Tryz.ntmps101
 go_wp2_with fail
 obtain ⟨W0,hW0⟩:∃ W0,W0=((w.alloc (.cells #[.slice A1 n1 c1,.slice A2 n2 c2] 27)).alloc (.cells #[.int .i64 a.start,.slice A3 a.accept.length c3,.slice A4 a.accept.length c4] 31)):=⟨_,rfl⟩
 rw [<- hW0] at hb0 ⊢
 have x0:W0.cell? ⟨w.heap.size,0,none⟩=some (.slice A1 n1 c1):=by rw [hW0];simp
 have x1:W0.cell? ⟨w.heap.size,1,none⟩=some (.slice A2 n2 c2):=by rw [hW0];simp
 have y0:W0.cell? ⟨w.heap.size+1,0,none⟩=some (.int .i64 a.start):=by rw [hW0];simp
 have y1:W0.cell? ⟨w.heap.size+1,1,none⟩=some (.slice A3 a.accept.length c3):=by rw [hW0];simp
 have y2:W0.cell? ⟨w.heap.size+1,2,none⟩=some (.slice A4 a.accept.length c4):=by rw [hW0];simp
 have hs0:w.heap.size+1+1=W0.heap.size:=by rw [hW0];simp
 try rw [hs0]
 have l0:w.heap.size+1 < W0.heap.size:=by omega
 have l00:w.heap.size < W0.heap.size:=by omega
 clear hW0 hs0
 go_loopw [9] (fun qq wr=>∃ (q:Nat) (u:World),q<=a.accept.length/\qq=.int .i64 (q:Int)/\(mem q SI).any (accC a (valAt g x))=false/\wr=ext W0 u) (fun qq _=>a.accept.length - (intOf qq).toNat)
 case atStart=>exact ⟨0,W0,Nat.zero_le _,rfl,rfl,ext_self _⟩
 case round =>
  obtain ⟨q,u,hq,rfl,hno,rfl⟩:=hrel
  have HNO:=Hd_ hno
  clear hno
  have hbE:=below_trans hb0 (ext_below W0 u)
  by_cases hlq:q < a.accept.length
  · have hqi:(q:Int) < (a.accept.length:Int):=by omega
    cases hb:SI.testBit q with
    | false =>
      have e3':=bit_off (by omega) (by omega) hb
      have HM:=Hd_ (mem_no hb)
      clear hb
      go_wp2_with fail
      go_roundw
      case rel=>exact ⟨q+1,u,by omega,by go_num,by rw [HM.out];exact HNO.out,rfl⟩
      case measure=>simp [intOf];omega
    | true =>
      have e3':=bit_on (by omega) (by omega) hb
      have HM:=Hd_ (mem_yes hb)
      have HB:=Hd_ hb
      have hacc:=l14Accepts_any _ _ g a x q (ext W0 u) (HGV.out.keep hbE) (HAV.out.keep hbE) HGO.out HAO.out hx hlq
      have HACC:=Hd_ hacc
      clear hb hacc
      cases hc:accC a (valAt g x) q with
      | true =>
        rw [hc] at HACC
        have hfin:R=true:=by rw [HR.out];exact List.any_eq_true.2 ⟨q,mem_mem.2 ⟨hlq,HB.out⟩,hc⟩
        subst hfin
        clear HR hc
        go_wp2_with fail
        refine HACC.out.mono ?_
        rintro en w1 ⟨rfl,hb1⟩
        go_wp2_with fail
        go_ret
        exact ⟨rfl,below_trans hbE hb1⟩
      | false =>
        rw [hc] at HACC
        have HC:=Hd_ hc
        clear hc
        go_wp2_with fail
        refine HACC.out.mono ?_
        rintro en w1 ⟨rfl,hb1⟩
        obtain ⟨u4,hu4⟩:=ext_of (below_trans (ext_below W0 u) hb1)
        subst hu4
        go_wp2_with fail
        go_roundw
        case rel=>exact ⟨q+1,u4,by omega,by go_num,by rw [HM.out,List.any_append,HNO.out];simp only [List.any_cons,List.any_nil,Bool.or_false,Bool.false_or];exact HC.out,rfl⟩
        case measure=>simp [intOf];omega
  · obtain rfl:q=a.accept.length:=by omega
    have hfin:R=false:=by rw [HR.out];exact HNO.out
    subst hfin
    clear HR
    go_wp2_with fail
    go_ret
    exact ⟨rfl,hbE⟩
end Go.Proofs.YtjpdembmchnbgaaGreat
namespace Go.Proofs.YtjpdembmchnbgaaGreat
open Go.ChangeShapes Go.WideShapes Go.ChangeAt Go.RowKit
def cntC (g:Gr) (a:Au) (rec:Nat->Nat->Nat->Int) (x s used:Nat) (n:Int) (p:Arc):Int :=
 if aft a s (valAt g x) p.2.1.toNat=0 ∨ used.testBit p.2.2.toNat=true then n
 else wrap64 (n+rec p.2.2.toNat (aft a s (valAt g x) p.2.1.toNat) (ins used p.2.2.toNat))
def cnt0 (g:Gr) (a:Au) (y:Int) (x s:Nat):Int:=if decide ((x:Int)=y) && acc a s (valAt g x) then 1 else 0
def cnt (g:Gr) (a:Au) (y:Int):Nat->Nat->Nat->Nat->Int
 | 0,_,_,_=>0
 | f+1,x,s,used=>(arcsOf g (x:Int)).foldl (cntC g a (cnt g a y f) x s used) (cnt0 g a y x s)
def cntTo (g:Gr) (a:Au) (y:Int) (f x s used i:Nat):Int:=((arcsOf g (x:Int)).take i).foldl (cntC g a (cnt g a y f) x s used) (cnt0 g a y x s)
theorem cntTo_all (g:Gr) (a:Au) (y:Int) (f x s used:Nat):cntTo g a y f x s used (arcsOf g (x:Int)).length=cnt g a y (f+1) x s used:=by rw [cntTo,List.take_length];rfl
theorem cntTo_succ {g:Gr} {a:Au} {y:Int} {f x s used i:Nat} {p:Arc} (h:(arcsOf g (x:Int))[i]?=some p):cntTo g a y f x s used (i+1)=cntC g a (cnt g a y f) x s used (cntTo g a y f x s used i) p:=foldl_take h _
theorem arc_stepEd {g:Gr} (hgo:grOk g=true) {x:Int} {p:Arc} (hp:p ∈ arcsOf g x):∃ e:Ed,stepEd g p.1.1=some e/\arcLetter p.1.2 e=p.2.1/\arcTo p.1.2 e=p.2.2:=by
 have hg:=grOk_iff.1 hgo
 obtain ⟨i,e,hi,hie,hl,ht,hid,hm⟩:=arc_edge hg hp
 cases hs:stepEd g p.1.1 with
 | none =>
   rw [stepEd,if_pos hgo,List.find?_eq_none] at hs
   exact absurd (hs e hm) (by simp [hid])
 | some e2 =>
   obtain ⟨ix,h1,h2⟩:=stepEd_idx hs
   have:ix=i:=by omega
   subst this
   rw [hie] at h2
   injection h2 with h2
   subst h2
   exact ⟨e,rfl,hl.symm,ht.symm⟩
theorem ins_gt {m t:Nat} (h:m.testBit t=false):m < ins m t:=by
 have h1:m<=ins m t:=Nat.left_le_or
 have h2:m ≠ ins m t:=fun e=>by
  have h3:=ins_test m t t
  rw [<- e,h] at h3
  simp at h3
 omega
theorem cntC_no {g:Gr} {a:Au} {rec:Nat->Nat->Nat->Int} {x s used t m:Nat} {n:Int} {p:Arc} (ht:p.2.2=(t:Int)) (hm:aft a s (valAt g x) p.2.1.toNat=m) (h:m=0 ∨ used.testBit t=true):cntC g a rec x s used n p=n:=by
 rw [cntC,hm,ht,Int.toNat_natCast,if_pos h]
theorem cntC_yes {g:Gr} {a:Au} {rec:Nat->Nat->Nat->Int} {x s used t m:Nat} {n:Int} {p:Arc} (ht:p.2.2=(t:Int)) (hm:aft a s (valAt g x) p.2.1.toNat=m) (h:¬ m=0) (h2:used.testBit t=false):cntC g a rec x s used n p=wrap64 (n+rec t m (ins used t)):=by
 rw [cntC,hm,ht,Int.toNat_natCast,if_neg (by simp [h,h2])]
def cntOk (g:Gr) (a:Au) (x y:Int):Bool:=wi x 0 ((g.vals.length:Int) - 1) && (wi y 0 ((g.vals.length:Int) - 1) && (grOk g && auOk a))
/-- 32 rounds suffice, for a set of five nodes grows with each. -/
def cntSimple (g:Gr) (a:Au) (x y:Int):Int:=if cntOk g a x y=true then cnt g a y 32 x.toNat (bit a.start.toNat) (bit x.toNat) else 0
/-- a state that is at most lf steps from the end -/
def hopeC (D:List Int) (n x lf q:Nat):Bool:=wi (D.getD (x * n+q) 0) 0 (lf:Int)
def hope (D:List Int) (n x s lf:Nat):Bool:=(mem 12 s).any (hopeC D n x lf)
def keyA (sm:Bool) (p:Arc):Int:=if sm then p.2.2 else p.1.1
def skipA (g:Gr) (a:Au) (D:List Int) (sm:Bool) (x s:Nat) (us:List Int) (lf:Nat) (p:Arc):Bool :=
 decide (aft a s (valAt g x) p.2.1.toNat=0) || (us.contains (keyA sm p) || !hope D a.accept.length p.2.2.toNat (aft a s (valAt g x) p.2.1.toNat) lf)
abbrev Vis:=Option (List St) × Nat
def visC (g:Gr) (a:Au) (D:List Int) (sm:Bool) (rec:Nat->Nat->List Int->Nat->Vis) (x s:Nat) (us:List Int) (lf:Nat):List Arc->Nat->Vis
 | [],c=>(none,c)
 | p :: ps,c=>if skipA g a D sm x s us lf p=true then visC g a D sm rec x s us lf ps c else
   match rec p.2.2.toNat (aft a s (valAt g x) p.2.1.toNat) (us ++ [keyA sm p]) c with
   | (some r,c')=>(some (p.1 :: r),c')
   | (none,c')=>visC g a D sm rec x s us lf ps c'
def visit (g:Gr) (a:Au) (y:Int) (B:Nat) (D:List Int) (sm:Bool):Nat->Nat->Nat->List Int->Nat->Vis
 | 0,x,s,_,c=>if B<=c then (none,c) else (if (decide ((x:Int)=y) && acc a s (valAt g x))=true then some [] else none,c+1)
 | lf+1,x,s,us,c=>if B<=c then (none,c) else visC g a D sm (visit g a y B D sm lf) x s us lf (arcsOf g (x:Int)) (c+1)
/-- what is left of a visit at arc i -/
def visF (g:Gr) (a:Au) (y:Int) (B:Nat) (D:List Int) (sm:Bool) (lf x s:Nat) (us:List Int) (i c:Nat):Vis:=visC g a D sm (visit g a y B D sm lf) x s us lf ((arcsOf g (x:Int)).drop i) c
section
variable {g:Gr} {a:Au} {y:Int} {B:Nat} {D:List Int} {sm:Bool} {lf x s:Nat} {us:List Int} {i c:Nat}
theorem visit_out (h:B<=c):visit g a y B D sm lf x s us c=(none,c):=by
 cases lf with
 | zero=>rw [visit,if_pos h]
 | succ lf=>rw [visit,if_pos h]
theorem visit_zero (h:c < B):visit g a y B D sm 0 x s us c=(if (decide ((x:Int)=y) && acc a s (valAt g x))=true then some [] else none,c+1):=by rw [visit,if_neg (by omega)]
def endV (b:Bool) (c:Nat):Vis:=(if b=true then some [] else none,c)
theorem endV_some (b:Bool) (c:Nat):(endV b c).1.isSome=b:=by cases b <;> rfl
theorem endV_get (b:Bool) (c:Nat):(endV b c).1.getD []=[]:=by cases b <;> rfl
theorem endV_two (b:Bool) (c:Nat):(endV b c).2=c:=rfl
theorem visit_zeroV (h:c < B):visit g a y B D sm 0 x s us c=endV (decide ((x:Int)=y) && acc a s (valAt g x)) (c+1):=visit_zero h
theorem visit_succ (h:c < B):visit g a y B D sm (lf+1) x s us c=visF g a y B D sm lf x s us 0 (c+1):=by rw [visit,if_neg (by omega),visF,List.drop_zero]
theorem visF_end:visF g a y B D sm lf x s us (arcsOf g (x:Int)).length c=(none,c):=by rw [visF,List.drop_length,visC]
theorem drop_at {α:Type} {l:List α} {i:Nat} {p:α} (h:l[i]?=some p):l.drop i=p :: l.drop (i+1):=by
 obtain ⟨h1,h2⟩:=List.getElem?_eq_some_iff.1 h
 rw [List.drop_eq_getElem_cons h1,h2]
theorem visF_skip {p:Arc} (h:(arcsOf g (x:Int))[i]?=some p) (hs:skipA g a D sm x s us lf p=true):visF g a y B D sm lf x s us i c=visF g a y B D sm lf x s us (i+1) c:=by
 rw [visF,drop_at h,visC,if_pos hs,visF]
theorem visF_yes {p:Arc} {r:List St} {c':Nat} (h:(arcsOf g (x:Int))[i]?=some p) (hs:¬ skipA g a D sm x s us lf p=true)
 (hr:visit g a y B D sm lf p.2.2.toNat (aft a s (valAt g x) p.2.1.toNat) (us ++ [keyA sm p]) c=(some r,c')):visF g a y B D sm lf x s us i c=(some (p.1 :: r),c'):=by
 rw [visF,drop_at h,visC,if_neg hs,hr]
theorem visF_no {p:Arc} {c':Nat} (h:(arcsOf g (x:Int))[i]?=some p) (hs:¬ skipA g a D sm x s us lf p=true)
 (hr:visit g a y B D sm lf p.2.2.toNat (aft a s (valAt g x) p.2.1.toNat) (us ++ [keyA sm p]) c=(none,c')):visF g a y B D sm lf x s us i c=visF g a y B D sm lf x s us (i+1) c':=by
 rw [visF,drop_at h,visC,if_neg hs,hr,visF]
theorem skipA_eq {p:Arc} {t M:Nat} {k:Int} (ht:p.2.2=(t:Int)) (hm:aft a s (valAt g x) p.2.1.toNat=M) (hk:keyA sm p=k):skipA g a D sm x s us lf p=(decide (M=0) || (us.contains k || !hope D a.accept.length t M lf)):=by rw [skipA,hm,hk,ht,Int.toNat_natCast]
theorem visF_skip2 {p:Arc} {t M:Nat} {k:Int} (h:(arcsOf g (x:Int))[i]?=some p) (ht:p.2.2=(t:Int)) (hm:aft a s (valAt g x) p.2.1.toNat=M) (hk:keyA sm p=k) (hs:(decide (M=0) || (us.contains k || !hope D a.accept.length t M lf))=true) :
 visF g a y B D sm lf x s us i c=visF g a y B D sm lf x s us (i+1) c:=visF_skip h (by rw [skipA_eq ht hm hk,hs])
theorem visF_yes2 {p:Arc} {t M:Nat} {k:Int} {r:List St} {c':Nat} (h:(arcsOf g (x:Int))[i]?=some p) (ht:p.2.2=(t:Int)) (hm:aft a s (valAt g x) p.2.1.toNat=M) (hk:keyA sm p=k) (hs:(decide (M=0) || (us.contains k || !hope D a.accept.length t M lf))=false)
 (hr:visit g a y B D sm lf t M (us ++ [k]) c=(some r,c')):visF g a y B D sm lf x s us i c=(some (p.1 :: r),c'):=visF_yes h (by rw [skipA_eq ht hm hk,hs];simp) (by rw [hm,hk,ht,Int.toNat_natCast];exact hr)
theorem visF_no2 {p:Arc} {t M:Nat} {k:Int} {c':Nat} (h:(arcsOf g (x:Int))[i]?=some p) (ht:p.2.2=(t:Int)) (hm:aft a s (valAt g x) p.2.1.toNat=M) (hk:keyA sm p=k) (hs:(decide (M=0) || (us.contains k || !hope D a.accept.length t M lf))=false)
 (hr:visit g a y B D sm lf t M (us ++ [k]) c=(none,c')):visF g a y B D sm lf x s us i c=visF g a y B D sm lf x s us (i+1) c':=visF_no h (by rw [skipA_eq ht hm hk,hs];simp) (by rw [hm,hk,ht,Int.toNat_natCast];exact hr)
theorem visC_le {rec:Nat->Nat->List Int->Nat->Vis} {N:Nat} (hrec:∀ x s us c,c<=N->(rec x s us c).2<=N/\c<=(rec x s us c).2):∀ (l:List Arc) (c:Nat),c<=N->(visC g a D sm rec x s us lf l c).2<=N/\c<=(visC g a D sm rec x s us lf l c).2
 | [],c,h=>⟨h,Nat.le_refl _⟩
 | p :: l,c,h=>by
   rw [visC]
   split
   · exact visC_le hrec l c h
   · have h1:=hrec p.2.2.toNat (aft a s (valAt g x) p.2.1.toNat) (us ++ [keyA sm p]) c h
     split
     · rename_i r c' e
       rw [e] at h1
       exact h1
     · rename_i c' e
       rw [e] at h1
       have h2:=visC_le hrec l c' h1.1
       exact ⟨h2.1,Nat.le_trans h1.2 h2.2⟩
theorem visit_le:∀ (lf x s:Nat) (us:List Int) (c:Nat),c<=B->(visit g a y B D sm lf x s us c).2<=B/\c<=(visit g a y B D sm lf x s us c).2:=by
 intro lf
 induction lf with
 | zero =>
   intro x s us c h
   rw [visit]
   split
   · exact ⟨h,Nat.le_refl _⟩
   · simp only
     omega
 | succ lf ih =>
   intro x s us c h
   rw [visit]
   split
   · exact ⟨h,Nat.le_refl _⟩
   · have:=visC_le (g:=g) (a:=a) (D:=D) (sm:=sm) (x:=x) (s:=s) (us:=us) (lf:=lf) ih (arcsOf g (x:Int)) (c+1) (by omega)
     omega
theorem visC_len {rec:Nat->Nat->List Int->Nat->Vis} {k:Nat} (hrec:∀ x s us c r,(rec x s us c).1=some r->r.length=k):∀ (l:List Arc) (c:Nat) (r:List St),(visC g a D sm rec x s us lf l c).1=some r->r.length=k+1
 | [],c,r,h=>by cases h
 | p :: l,c,r,h=>by
   rw [visC] at h
   split at h
   · exact visC_len hrec l c r h
   · have h1:=hrec p.2.2.toNat (aft a s (valAt g x) p.2.1.toNat) (us ++ [keyA sm p]) c
     split at h
     · rename_i r' c' e
       injection h with h
       subst h
       rw [e] at h1
       rw [List.length_cons,h1 r' rfl]
     · exact visC_len hrec l _ r h
theorem visit_len:∀ (lf x s:Nat) (us:List Int) (c:Nat) (r:List St),(visit g a y B D sm lf x s us c).1=some r->r.length=lf:=by
 intro lf
 induction lf with
 | zero =>
   intro x s us c r h
   rw [visit] at h
   split at h
   · cases h
   · simp only at h
     split at h
     · injection h with h
       rw [<- h];rfl
     · cases h
 | succ lf ih =>
   intro x s us c r h
   rw [visit] at h
   split at h
   · cases h
   · exact visC_len ih _ _ r h
end
/-- one length after another -/
def srchF (g:Gr) (a:Au) (y:Int) (B:Nat) (D:List Int) (sm:Bool) (x s:Nat) (us:List Int):Nat->Nat->Nat->Wk × Int
 | 0,_,_=>((0,[]),2)
 | k+1,lf,c=>if hope D a.accept.length x s lf=true then
     match visit g a y B D sm lf x s us c with
     | (some r,_)=>(((x:Int),r),1)
     | (none,c')=>if B<=c' then ((0,[]),3) else srchF g a y B D sm x s us k (lf+1) c'
   else srchF g a y B D sm x s us k (lf+1) c
section
variable {g:Gr} {a:Au} {y:Int} {B:Nat} {D:List Int} {sm:Bool} {lf x s:Nat} {us:List Int} {k c:Nat}
theorem srchF_no (h:hope D a.accept.length x s lf=false):srchF g a y B D sm x s us (k+1) lf c=srchF g a y B D sm x s us k (lf+1) c:=by rw [srchF,h];rfl
theorem srchF_yes {r:List St} {c':Nat} (h:hope D a.accept.length x s lf=true) (hv:visit g a y B D sm lf x s us c=(some r,c')):srchF g a y B D sm x s us (k+1) lf c=(((x:Int),r),1):=by rw [srchF,if_pos h,hv]
theorem srchF_out {c':Nat} (h:hope D a.accept.length x s lf=true) (hv:visit g a y B D sm lf x s us c=(none,c')) (hc:B<=c'):srchF g a y B D sm x s us (k+1) lf c=((0,[]),3):=by
 rw [srchF,if_pos h,hv]
 simp only
 rw [if_pos hc]
theorem srchF_on {c':Nat} (h:hope D a.accept.length x s lf=true) (hv:visit g a y B D sm lf x s us c=(none,c')) (hc:¬ B<=c'):srchF g a y B D sm x s us (k+1) lf c=srchF g a y B D sm x s us k (lf+1) c':=by
 rw [srchF,if_pos h,hv]
 simp only
 rw [if_neg hc]
end
def srchN (g:Gr) (sm:Bool):Nat:=if sm then g.vals.length else g.edges.length+1
def srchU (sm:Bool) (x:Nat):List Int:=if sm then [(x:Int)] else []
def srchOk (g:Gr) (a:Au) (x y B:Int):Bool:=cntOk g a x y && wi B 1 20000
def srchL (g:Gr) (a:Au) (x y B:Int) (sm:Bool):Wk × Int :=
 if srchOk g a x y B=true then srchF g a y B.toNat (distTo g a y) sm x.toNat (bit a.start.toNat) (srchU sm x.toNat) (srchN g sm) 0 0 else ((0,[]),0)
def cwStep (g:Gr) (a:Au) (rec:Nat->Nat->Nat) (x s n:Nat) (p:Arc):Nat:=min 1000000 (n+rec p.2.2.toNat (aft a s (valAt g x) p.2.1.toNat))
/-- the walks of f steps from node x with states s to y, at most a million -/
def cw (g:Gr) (a:Au) (y:Int):Nat->Nat->Nat->Nat
 | 0,x,s=>if (decide ((x:Int)=y) && acc a s (valAt g x))=true then 1 else 0
 | f+1,x,s=>(arcsOf g (x:Int)).foldl (cwStep g a (cw g a y f) x s) 0
theorem mem_of_zero:∀ k:Nat,mem k 0=[]
 | 0=>rfl
 | k+1=>by rw [mem_no (by simp),mem_of_zero k]
theorem aft_none (a:Au) (v l:Nat):aft a 0 v l=0:=by rw [aft,mem_of_zero];rfl
theorem acc_none (a:Au) (v:Nat):acc a 0 v=false:=by rw [acc,mem_of_zero];rfl
theorem cw_none (g:Gr) (a:Au) (y:Int):∀ (f x:Nat),cw g a y f x 0=0
 | 0,x=>by rw [cw,acc_none];simp
 | f+1,x=>by
   rw [cw]
   generalize arcsOf g (x:Int)=l
   induction l with
   | nil=>rfl
   | cons p l ih =>
     rw [List.foldl_cons,cwStep,aft_none,cw_none g a y f]
     exact ih
abbrev Key:=Nat × Nat
def cntL (C:List Nat) (n:Nat) (e:St × Nat):Nat:=min 1000000 (n+C.getD e.2 0)
inductive RowR (g:Gr) (a:Au) (x s:Nat) (N:List Key):List Arc->List (St × Nat)->Prop
 | nil:RowR g a x s N [] []
 | skip {p:Arc} {l:List Arc} {T:List (St × Nat)}:aft a s (valAt g x) p.2.1.toNat=0->RowR g a x s N l T->RowR g a x s N (p :: l) T
 | take {p:Arc} {l:List Arc} {T:List (St × Nat)} {i:Nat}:aft a s (valAt g x) p.2.1.toNat ≠ 0->N[i]?=some (p.2.2.toNat,aft a s (valAt g x) p.2.1.toNat)->RowR g a x s N l T->RowR g a x s N (p :: l) ((p.1,i) :: T)
theorem RowR.more {g:Gr} {a:Au} {x s:Nat} {N:List Key} {l:List Arc} {T:List (St × Nat)} (h:RowR g a x s N l T) (N3:List Key):RowR g a x s (N ++ N3) l T:=by
 induction h with
 | nil=>exact .nil
 | skip h1 _ ih=>exact .skip h1 ih
 | take h1 h2 _ ih=>exact .take h1 (by rw [List.getElem?_append_left (List.getElem?_eq_some_iff.1 h2).1];exact h2) ih
theorem RowR.cnt {g:Gr} {a:Au} {y:Int} {f x s:Nat} {N:List Key} {C:List Nat} (hC:∀ i k,N[i]?=some k->C.getD i 0=cw g a y f k.1 k.2) {l:List Arc} {T:List (St × Nat)} (h:RowR g a x s N l T) :
 ∀ n,n<=1000000->T.foldl (cntL C) n=l.foldl (cwStep g a (cw g a y f) x s) n:=by
 induction h with
 | nil=>intro n _;rfl
 | skip h1 _ ih =>
   intro n hn
   rw [List.foldl_cons,cwStep,h1,cw_none,Nat.add_zero,Nat.min_eq_right hn]
   exact ih n hn
 | take h1 h2 _ ih =>
   intro n hn
   rw [List.foldl_cons,List.foldl_cons,cntL,cwStep,hC _ _ h2]
   exact ih _ (Nat.min_le_left _ _)
/-- the first of l before which fewer than n are counted: and what is left of n -/
def pick {α:Type} (k:α->Nat):List α->Nat->Option (α × Nat)
 | [],_=>none
 | p :: l,n=>if n < k p then some (p,n) else pick k l (n - k p)
def cwAt (g:Gr) (a:Au) (y:Int) (f x s:Nat) (p:Arc):Nat:=cw g a y f p.2.2.toNat (aft a s (valAt g x) p.2.1.toNat)
theorem RowR.pick {g:Gr} {a:Au} {y:Int} {f x s:Nat} {N:List Key} {C:List Nat} (hC:∀ i k,N[i]?=some k->C.getD i 0=cw g a y f k.1 k.2) {l:List Arc} {T:List (St × Nat)} (h:RowR g a x s N l T) :
 ∀ n,(pick (fun e:St × Nat=>C.getD e.2 0) T n=none/\Go.Proofs.YtjpdembmchnbgaaGreat.pick (cwAt g a y f x s) l n=none) ∨
   ∃ p i n',pick (fun e:St × Nat=>C.getD e.2 0) T n=some ((p.1,i),n')/\Go.Proofs.YtjpdembmchnbgaaGreat.pick (cwAt g a y f x s) l n=some (p,n')/\N[i]?=some (p.2.2.toNat,aft a s (valAt g x) p.2.1.toNat)/\p ∈ l:=by
 induction h with
 | nil=>intro n;exact .inl ⟨rfl,rfl⟩
 | @skip p0 l0 T0 h1 _ ih =>
   intro n
   have hz:¬ n < cwAt g a y f x s p0:=by rw [cwAt,h1,cw_none];omega
   have hz2:n - cwAt g a y f x s p0=n:=by rw [cwAt,h1,cw_none];omega
   rcases ih n with ⟨e1,e2⟩ | ⟨p,i,n',e1,e2,e3,e4⟩
   · exact .inl ⟨e1,by rw [Go.Proofs.YtjpdembmchnbgaaGreat.pick,if_neg hz,hz2,e2]⟩
   · exact .inr ⟨p,i,n',e1,by rw [Go.Proofs.YtjpdembmchnbgaaGreat.pick,if_neg hz,hz2,e2],e3,List.mem_cons_of_mem _ e4⟩
 | @take p l T i h1 h2 _ ih =>
   intro n
   have hc:C.getD i 0=cwAt g a y f x s p:=hC _ _ h2
   by_cases hn:n < cwAt g a y f x s p
   · exact .inr ⟨p,i,n,by rw [Go.Proofs.YtjpdembmchnbgaaGreat.pick,if_pos (by rw [hc];exact hn)],by rw [Go.Proofs.YtjpdembmchnbgaaGreat.pick,if_pos hn],h2,List.mem_cons_self ..⟩
   · rcases ih (n - cwAt g a y f x s p) with ⟨e1,e2⟩ | ⟨p',i',n',e1,e2,e3,e4⟩
     · exact .inl ⟨by rw [Go.Proofs.YtjpdembmchnbgaaGreat.pick,if_neg (by rw [hc];exact hn)];simp only [hc];exact e1,by rw [Go.Proofs.YtjpdembmchnbgaaGreat.pick,if_neg hn,e2]⟩
     · exact .inr ⟨p',i',n',by rw [Go.Proofs.YtjpdembmchnbgaaGreat.pick,if_neg (by rw [hc];exact hn)];simp only [hc];exact e1,by rw [Go.Proofs.YtjpdembmchnbgaaGreat.pick,if_neg hn,e2],e3,List.mem_cons_of_mem _ e4⟩
end Go.Proofs.YtjpdembmchnbgaaGreat
namespace Go.Proofs.YtjpdembmchnbgaaGreat
theorem nodup_subN:∀ (s l:List Nat),s.Nodup->(∀ x ∈ s,x ∈ l)->s.length<=l.length
 | [],_,_,_=>Nat.zero_le _
 | x :: s,l,hn,h=>by
   obtain ⟨h1,h2⟩:=List.nodup_cons.1 hn
   have hx:=h x (by simp)
   have:=nodup_subN s (l.erase x) h2 (fun y hy=>by
    have hne:y ≠ x:=fun e=>h1 (e ▸ hy)
    exact (List.mem_erase_of_ne hne).2 (h y (List.mem_cons_of_mem _ hy)))
   rw [List.length_erase_of_mem hx] at this
   have hp:=List.length_pos_of_mem hx
   rw [List.length_cons]
   omega
end Go.Proofs.YtjpdembmchnbgaaGreat
namespace Go.Proofs.YtjpdembmchnbgaaGreat
open Go.ChangeShapes Go.WideShapes Go.ChangeAt Go.RowKit
structure KeysOk (g:Gr) (a:Au) (N:List Key):Prop where
 nod:N.Nodup
 rng:∀ k ∈ N,k.1 < g.vals.length/\k.2 < 2 ^ a.accept.length
theorem KeysOk.push {g:Gr} {a:Au} {N:List Key} (h:KeysOk g a N) {k:Key} (hk:k ∉ N) (hr:k.1 < g.vals.length/\k.2 < 2 ^ a.accept.length):KeysOk g a (N ++ [k]):=by
 refine ⟨List.nodup_append.2 ⟨h.nod,by simp,fun b hb c hc e=>?_⟩,fun u hu=>?_⟩
 · rw [List.mem_singleton] at hc
   subst hc e
   exact hk hb
 · rcases List.mem_append.1 hu with hu | hu
   · exact h.rng u hu
   · rw [List.mem_singleton] at hu
     subst hu
     exact hr
theorem KeysOk.len {g:Gr} {a:Au} (hg:GrOk g) (ha:auOk a=true) {N:List Key} (h:KeysOk g a N):N.length<=20480:=by
 have h1:=nodup_subN (N.map fun z=>z.1 * 4096+z.2) (List.range 20480) ?_ ?_
 · simpa using h1
 · rw [List.Nodup,List.pairwise_map]
   refine List.Pairwise.imp_of_mem ?_ h.nod
   intro b c hb hc hne he
   refine hne ?_
   have hb:=lt12 ha (h.rng b hb).2
   have hc:=lt12 ha (h.rng c hc).2
   exact Prod.ext (by omega) (by omega)
 · intro u hu
   obtain ⟨z,hz,rfl⟩:=List.mem_map.1 hu
   have hb:=h.rng z hz
   have hb2:=lt12 ha hb.2
   have:=hg.n5
   rw [List.mem_range]
   omega
def cntF (C:Nat->Nat) (n:Nat) (e:St × Nat):Nat:=min 1000000 (n+C e.2)
theorem RowR.cntF {g:Gr} {a:Au} {y:Int} {f x s:Nat} {N:List Key} {C:Nat->Nat} (hC:∀ i k,N[i]?=some k->C i=cw g a y f k.1 k.2) {l:List Arc} {T:List (St × Nat)} (h:RowR g a x s N l T) :
 ∀ n,n<=1000000->T.foldl (Go.Proofs.YtjpdembmchnbgaaGreat.cntF C) n=l.foldl (cwStep g a (cw g a y f) x s) n:=by
 induction h with
 | nil=>intro n _;rfl
 | skip h1 _ ih =>
   intro n hn
   rw [List.foldl_cons,cwStep,h1,cw_none,Nat.add_zero,Nat.min_eq_right hn]
   exact ih n hn
 | take h1 h2 _ ih =>
   intro n hn
   rw [List.foldl_cons,List.foldl_cons,Go.Proofs.YtjpdembmchnbgaaGreat.cntF,cwStep,hC _ _ h2]
   exact ih _ (Nat.min_le_left _ _)
theorem RowR.len {g:Gr} {a:Au} {x s:Nat} {N:List Key} {l:List Arc} {T:List (St × Nat)} (h:RowR g a x s N l T):T.length<=l.length:=by
 induction h with
 | nil=>exact Nat.le_refl _
 | skip _ _ ih=>rw [List.length_cons];omega
 | take _ _ _ ih=>simp only [List.length_cons];omega
theorem shortLen_dist {g:Gr} {a:Au} {x y:Nat} (hg:grOk g=true) (ha:auOk a=true) (hx:x < g.vals.length) (hy:y < g.vals.length) :
 IsDist (nextI g a) (fun i=>i ∈ goalsL g a y) (x * a.accept.length+a.start.toNat) (shortLen g a (x:Int) (y:Int)):=by
 have hd:(wi (y:Int) 0 ((g.vals.length:Int) - 1) && (grOk g && auOk a))=true:=by
  simp only [Bool.and_eq_true]
  exact ⟨by rw [wi_iff];omega,hg,ha⟩
 have hN:∀ i k,i < g.vals.length * a.accept.length->k ∈ nextI g a i->k < g.vals.length * a.accept.length:=fun i k _ hk=>nextV_lt (grOk_iff.1 hg) ha hk
 have hfs:∀ i ∈ goalsL g a y,i < g.vals.length * a.accept.length:=fun i hi=>by
  obtain ⟨s,hs,_,rfl⟩:=mem_goalsL.1 hi
  calc y * a.accept.length+s < y * a.accept.length+a.accept.length:=by omega
   _=(y+1) * a.accept.length:=by rw [Nat.add_mul,Nat.one_mul]
   _<=_:=Nat.mul_le_mul_right _ hy
 obtain ⟨⟨_,hn⟩,⟨h0,h1⟩,-,-⟩:=auOk_iff.1 ha
 have hi:x * a.accept.length+a.start.toNat < g.vals.length * a.accept.length:=by
  calc x * a.accept.length+a.start.toNat < x * a.accept.length+a.accept.length:=by omega
   _=(x+1) * a.accept.length:=by rw [Nat.add_mul,Nat.one_mul]
   _<=_:=Nat.mul_le_mul_right _ hx
 rw [shortLen,if_pos (by rw [Bool.and_eq_true];exact ⟨by rw [wi_iff];omega,hd⟩),distTo,if_pos hd,Int.toNat_natCast,Int.toNat_natCast]
 exact spread_dist hfs hN _ hi
theorem cntOk_iff {g:Gr} {a:Au} {x y:Int}:cntOk g a x y=true ↔ (0<=x/\x < (g.vals.length:Int))/\(0<=y/\y < (g.vals.length:Int))/\grOk g=true/\auOk a=true:=by
 rw [cntOk]
 simp only [Bool.and_eq_true,wi_iff]
 constructor
 · rintro ⟨h1,h2,h3,h4⟩;exact ⟨by omega,by omega,h3,h4⟩
 · rintro ⟨h1,h2,h3,h4⟩;exact ⟨by omega,by omega,h3,h4⟩
def cwI (g:Gr) (a:Au) (x y:Int) (f:Nat):Nat:=cw g a y f x.toNat (bit a.start.toNat)
theorem aft1_test (a:Au) (l m t u:Nat):(aft1 a l m t).testBit u=(m.testBit u || decide (mv a t l=(u:Int))):=by
 unfold aft1
 split
 · rename_i h
   rw [ins_test]
   congr 1
   apply decide_eq_decide.2
   omega
 · rename_i h
   have:¬ mv a t l=(u:Int):=by omega
   simp [this]
theorem aftF1_test (a:Au) (l u:Nat):∀ (L:List Nat) (m:Nat),(L.foldl (aft1 a l) m).testBit u=(m.testBit u || L.any fun t=>decide (mv a t l=(u:Int)))
 | [],m=>by simp
 | t :: L,m=>by rw [List.foldl_cons,aftF1_test a l u L,aft1_test,List.any_cons,Bool.or_assoc]
theorem aftFS_test (a:Au) (v l u:Nat):∀ (L:List Nat) (m:Nat),(L.foldl (aftS a v l) m).testBit u=(m.testBit u || L.any fun s=>(mem 12 (cls a v s)).any fun t=>decide (mv a t l=(u:Int)))
 | [],m=>by simp
 | s :: L,m=>by rw [List.foldl_cons,aftFS_test a v l u L,aftS,aftF1_test,List.any_cons,Bool.or_assoc]
theorem aft_test (a:Au) (S v l u:Nat):(aft a S v l).testBit u=(mem 12 S).any fun s=>(mem 12 (cls a v s)).any fun t=>decide (mv a t l=(u:Int)):=by rw [aft,aftFS_test,Nat.zero_testBit,Bool.false_or]
theorem test_lt {n S s:Nat} (hS:S < 2 ^ n) (h:S.testBit s=true):s < n:=by
 rcases Nat.lt_or_ge s n with h1 | h1
 · exact h1
 · rw [Nat.testBit_lt_two_pow (Nat.lt_of_lt_of_le hS (Nat.pow_le_pow_right (by omega) h1))] at h;cases h
theorem aft_any {a:Au} (ha:auOk a=true) {S:Nat} (hS:S < 2 ^ a.accept.length) (v l u:Nat):(aft a S v l).testBit u=true ↔ ∃ s,S.testBit s=true/\(aft a (bit s) v l).testBit u=true:=by
 have hn:=(auOk_iff.1 ha).1.2
 rw [aft_test,List.any_eq_true]
 constructor
 · rintro ⟨s,hs,h⟩
   rw [mem_mem] at hs
   exact ⟨s,hs.2,by rw [aft_test,mem_pow hs.1,List.any_cons,h];rfl⟩
 · rintro ⟨s,hs,h⟩
   have hs12:s < 12:=by have:=test_lt hS hs;omega
   rw [aft_test,mem_pow hs12] at h
   exact ⟨s,mem_mem.2 ⟨hs12,hs⟩,by simpa using h⟩
/-- vertex (x, q) reaches an accepting end at y in exactly f steps -/
def hitK (g:Gr) (a:Au) (y f x q:Nat):Prop:=toG (nextI g a) (fun i=>i ∈ goalsL g a y) f (x * a.accept.length+q)
theorem div_vx {n x q:Nat} (hq:q < n):(x * n+q) / n=x:=by
 rw [Nat.mul_comm,Nat.mul_add_div (by omega),Nat.div_eq_of_lt hq];rfl
theorem mod_vx {n x q:Nat} (hq:q < n):(x * n+q) % n=q:=by rw [Nat.mul_comm,Nat.mul_add_mod,Nat.mod_eq_of_lt hq]
theorem mem_nextI {g:Gr} {a:Au} (ha:auOk a=true) {x q v:Nat} (hq:q < a.accept.length):v ∈ nextI g a (x * a.accept.length+q) ↔ ∃ p ∈ arcsOf g (x:Int),∃ t,(aft a (bit q) (valAt g x) p.2.1.toNat).testBit t=true/\v=p.2.2.toNat * a.accept.length+t:=by
 have hn:=(auOk_iff.1 ha).1.2
 rw [nextI,div_vx hq,mod_vx hq,nextV,List.mem_flatMap]
 constructor
 · rintro ⟨p,hp,h⟩
   obtain ⟨t,ht,rfl⟩:=List.mem_map.1 h
   exact ⟨p,hp,t,(mem_mem.1 ht).2,rfl⟩
 · rintro ⟨p,hp,t,ht,rfl⟩
   have:=test_lt (aft_lt ha (bit q) (valAt g x) p.2.1.toNat) ht
   exact ⟨p,hp,List.mem_map.2 ⟨t,mem_mem.2 ⟨by omega,ht⟩,rfl⟩⟩
theorem hit_zero {g:Gr} {a:Au} {y x q:Nat} (hq:q < a.accept.length):hitK g a y 0 x q ↔ x=y/\accC a (valAt g y) q=true:=by
 show x * a.accept.length+q ∈ goalsL g a y ↔ _
 rw [mem_goalsL]
 constructor
 · rintro ⟨s,hs,hc,he⟩
   have h1:=congrArg (· / a.accept.length) he
   have h2:=congrArg (· % a.accept.length) he
   simp only [div_vx hq,div_vx hs,mod_vx hq,mod_vx hs] at h1 h2
   subst h1 h2
   exact ⟨rfl,hc⟩
 · rintro ⟨rfl,h⟩
   exact ⟨q,hq,h,rfl⟩
theorem hit_succ {g:Gr} {a:Au} (ha:auOk a=true) {y f x q:Nat} (hq:q < a.accept.length):hitK g a y (f+1) x q ↔ ∃ p ∈ arcsOf g (x:Int),∃ t,(aft a (bit q) (valAt g x) p.2.1.toNat).testBit t=true/\hitK g a y f p.2.2.toNat t:=by
 show (∃ k ∈ nextI g a (x * a.accept.length+q),toG (nextI g a) (fun i=>i ∈ goalsL g a y) f k) ↔ _
 constructor
 · rintro ⟨k,hk,h⟩
   obtain ⟨p,hp,t,ht,rfl⟩:=(mem_nextI ha hq).1 hk
   exact ⟨p,hp,t,ht,h⟩
 · rintro ⟨p,hp,t,ht,h⟩
   exact ⟨_,(mem_nextI ha hq).2 ⟨p,hp,t,ht,rfl⟩,h⟩
theorem fold_pos {g:Gr} {a:Au} {y:Int} {f x s:Nat}:∀ (l:List Arc) (m:Nat),0 < l.foldl (cwStep g a (cw g a y f) x s) m ↔ 0 < m ∨ ∃ p ∈ l,0 < cwAt g a y f x s p
 | [],m=>by simp
 | p :: l,m=>by
   rw [List.foldl_cons,fold_pos l]
   have hs:cwStep g a (cw g a y f) x s m p=min 1000000 (m+cwAt g a y f x s p):=rfl
   rw [hs]
   constructor
   · rintro (h | ⟨q,hq,h⟩)
     · rcases Nat.eq_zero_or_pos m with h0 | h0
       · exact .inr ⟨p,List.mem_cons_self ..,by omega⟩
       · exact .inl h0
     · exact .inr ⟨q,List.mem_cons_of_mem _ hq,h⟩
   · rintro (h | ⟨q,hq,h⟩)
     · exact .inl (by omega)
     · rcases List.mem_cons.1 hq with rfl | hq
       · exact .inl (by omega)
       · exact .inr ⟨q,hq,h⟩
theorem cw_pos {g:Gr} {a:Au} (ha:auOk a=true) {y:Nat}:∀ {f x s:Nat},s < 2 ^ a.accept.length->(0 < cw g a (y:Int) f x s ↔ ∃ q,s.testBit q=true/\hitK g a y f x q)
 | 0,x,s,hs=>by
   have hn:=(auOk_iff.1 ha).1.2
   rw [cw]
   have e:(decide ((x:Int)=(y:Int)) && acc a s (valAt g x))=true ↔ ∃ q,s.testBit q=true/\hitK g a y 0 x q:=by
    rw [Bool.and_eq_true,decide_eq_true_eq,acc,List.any_eq_true]
    constructor
    · rintro ⟨hxy,q,hq,h⟩
      obtain rfl:x=y:=by omega
      have h2:=(mem_mem.1 hq).2
      exact ⟨q,h2,(hit_zero (test_lt hs h2)).2 ⟨rfl,h⟩⟩
    · rintro ⟨q,hq,h⟩
      have hql:=test_lt hs hq
      obtain ⟨rfl,h2⟩:=(hit_zero hql).1 h
      exact ⟨rfl,q,mem_mem.2 ⟨by omega,hq⟩,h2⟩
   rw [<- e]
   split <;> simp_all
 | f+1,x,s,hs=>by
   rw [cw,fold_pos]
   constructor
   · rintro (h | ⟨p,hp,h⟩)
     · omega
     · rw [cwAt,cw_pos ha (aft_lt ha _ _ _)] at h
       obtain ⟨t,ht,h⟩:=h
       obtain ⟨q,hq,ht⟩:=(aft_any ha hs _ _ _).1 ht
       exact ⟨q,hq,(hit_succ ha (test_lt hs hq)).2 ⟨p,hp,t,ht,h⟩⟩
   · rintro ⟨q,hq,h⟩
     obtain ⟨p,hp,t,ht,h⟩:=(hit_succ ha (test_lt hs hq)).1 h
     refine .inr ⟨p,hp,?_⟩
     rw [cwAt,cw_pos ha (aft_lt ha _ _ _)]
     exact ⟨t,(aft_any ha hs _ _ _).2 ⟨q,hq,ht⟩,h⟩
def keepTo (D:List Int) (n x set f:Nat):Nat->Nat
 | 0=>0
 | q+1=>if (set.testBit q && (D.getD (x * n+q) 0==(f:Int)))=true then ins (keepTo D n x set f q) q else keepTo D n x set f q
theorem keepTo_test (D:List Int) (n x set f u:Nat):∀ k,(keepTo D n x set f k).testBit u=true ↔ u < k/\set.testBit u=true/\D.getD (x * n+u) 0=(f:Int)
 | 0=>by simp [keepTo]
 | k+1=>by
   rw [keepTo]
   split
   · rename_i h
     rw [Bool.and_eq_true,beq_iff_eq] at h
     rw [ins_test,Bool.or_eq_true,keepTo_test D n x set f u k,decide_eq_true_eq]
     constructor
     · rintro (⟨h1,h2⟩ | rfl)
       · exact ⟨by omega,h2⟩
       · exact ⟨by omega,h⟩
     · rintro ⟨h1,h2⟩
       by_cases hk:k=u
       · exact .inr hk
       · exact .inl ⟨by omega,h2⟩
   · rename_i h
     rw [Bool.and_eq_true,beq_iff_eq] at h
     rw [keepTo_test D n x set f u k]
     constructor
     · rintro ⟨h1,h2⟩;exact ⟨by omega,h2⟩
     · rintro ⟨h1,h2⟩
       refine ⟨?_,h2⟩
       by_cases hk:u=k
       · subst hk;exact absurd h2 h
       · omega
def keepK (a:Au) (D:List Int) (x set f:Nat):Nat:=keepTo D a.accept.length x set f a.accept.length
def keepA (g:Gr) (a:Au) (D:List Int) (f x s:Nat) (p:Arc):Nat:=keepK a D p.2.2.toNat (aft a s (valAt g x) p.2.1.toNat) f
/-- S: the states of the walk so far; K: those of them at distance f; none is nearer -/
structure KeepI (g:Gr) (a:Au) (y f x S K:Nat):Prop where
 far:∀ q,S.testBit q=true->∀ m,m < f->¬ hitK g a y m x q
 kept:∀ q,K.testBit q=true ↔ S.testBit q=true/\hitK g a y f x q
theorem dist_eq {g:Gr} {a:Au} {y:Nat} (hg:grOk g=true) (ha:auOk a=true) (hy:y < g.vals.length) {x q:Nat} (hx:x < g.vals.length) (hq:q < a.accept.length) (f:Nat) :
 (distTo g a (y:Int)).getD (x * a.accept.length+q) 0=(f:Int) ↔ hitK g a y f x q/\∀ m,m < f->¬ hitK g a y m x q:=by
 have hd:(wi (y:Int) 0 ((g.vals.length:Int) - 1) && (grOk g && auOk a))=true:=by
  simp only [Bool.and_eq_true]
  exact ⟨by rw [wi_iff];omega,hg,ha⟩
 have hN:∀ i k,i < g.vals.length * a.accept.length->k ∈ nextI g a i->k < g.vals.length * a.accept.length:=fun i k _ hk=>nextV_lt (grOk_iff.1 hg) ha hk
 have hfs:∀ i ∈ goalsL g a y,i < g.vals.length * a.accept.length:=fun i hi=>by
  obtain ⟨s,hs,_,rfl⟩:=mem_goalsL.1 hi
  calc y * a.accept.length+s < y * a.accept.length+a.accept.length:=by omega
   _=(y+1) * a.accept.length:=by rw [Nat.add_mul,Nat.one_mul]
   _<=_:=Nat.mul_le_mul_right _ hy
 have hi:x * a.accept.length+q < g.vals.length * a.accept.length:=by
  calc x * a.accept.length+q < x * a.accept.length+a.accept.length:=by omega
   _=(x+1) * a.accept.length:=by rw [Nat.add_mul,Nat.one_mul]
   _<=_:=Nat.mul_le_mul_right _ hx
 have h:=spread_dist hfs hN _ hi
 have he:(distTo g a (y:Int)).getD (x * a.accept.length+q) 0=(spreadR (g.vals.length * a.accept.length) (turnL (g.vals.length * a.accept.length) (nextI g a)) (goalsL g a y)).getD (x * a.accept.length+q) 0:=by rw [distTo,if_pos hd,Int.toNat_natCast]
 rw [<- he] at h
 constructor
 · intro hf
   rcases h with ⟨h1,-⟩ | ⟨h1,h2,h3⟩
   · omega
   · rw [hf,Int.toNat_natCast] at h2 h3
     exact ⟨h2,h3⟩
 · rintro ⟨h1,h2⟩
   exact h.uniq (.inr ⟨by omega,by rw [Int.toNat_natCast];exact h1,by rw [Int.toNat_natCast];exact h2⟩)
theorem KeepI.step {g:Gr} {a:Au} {y:Nat} (hg:grOk g=true) (ha:auOk a=true) (hy:y < g.vals.length) {f x S K:Nat} (hS:S < 2 ^ a.accept.length) (hK:K < 2 ^ a.accept.length) (h:KeepI g a y (f+1) x S K) {p:Arc} (hp:p ∈ arcsOf g (x:Int)) :
 KeepI g a y f p.2.2.toNat (aft a S (valAt g x) p.2.1.toNat) (keepA g a (distTo g a (y:Int)) f x K p):=by
 have hr:=arc_range (grOk_iff.1 hg) hp
 have hx:p.2.2.toNat < g.vals.length:=by omega
 have far:∀ q,(aft a S (valAt g x) p.2.1.toNat).testBit q=true->∀ m,m < f->¬ hitK g a y m p.2.2.toNat q:=fun q hq m hm hh=>by
  obtain ⟨s,hs,hq⟩:=(aft_any ha hS _ _ _).1 hq
  exact h.far s hs (m+1) (by omega) ((hit_succ ha (test_lt hS hs)).2 ⟨p,hp,q,hq,hh⟩)
 refine ⟨far,fun q=>?_⟩
 rw [keepA,keepK,keepTo_test]
 constructor
 · rintro ⟨h1,h2,h3⟩
   obtain ⟨s,hs,hq⟩:=(aft_any ha hK _ _ _).1 h2
   exact ⟨(aft_any ha hS _ _ _).2 ⟨s,((h.kept s).1 hs).1,hq⟩,((dist_eq hg ha hy hx h1 f).1 h3).1⟩
 · rintro ⟨h1,h2⟩
   have hql:=test_lt (aft_lt ha S (valAt g x) p.2.1.toNat) h1
   obtain ⟨s,hs,hq⟩:=(aft_any ha hS _ _ _).1 h1
   refine ⟨hql,(aft_any ha hK _ _ _).2 ⟨s,(h.kept s).2 ⟨hs,(hit_succ ha (test_lt hS hs)).2 ⟨p,hp,q,hq,h2⟩⟩,hq⟩,(dist_eq hg ha hy hx hql f).2 ⟨h2,far q h1⟩⟩
/-- add up what is passed over, at most a million -/
def addK {α:Type} (k:α->Nat) (r:Nat) (p:α):Nat:=min 1000000 (r+k p)
def passK {α:Type} (k:α->Nat) (l:List α) (r:Nat):Nat:=l.foldl (addK k) r
/-- what is passed over ahead of step st -/
def overK (k:Arc->Nat) (l:List Arc) (st:St) (r:Nat):Nat:=passK k (l.take (l.findIdx (fun p=>p.1==st))) r
theorem overK_cons_no {k:Arc->Nat} {l:List Arc} {st:St} {r:Nat} {p:Arc} (hp:p.1 ≠ st):overK k (p :: l) st r=overK k l st (addK k r p):=by
 have:(p :: l).findIdx (fun p=>p.1==st)=l.findIdx (fun p=>p.1==st)+1:=by
  rw [List.findIdx_cons,show (p.1==st)=false by simpa using hp];rfl
 rw [overK,this,List.take_succ_cons];rfl
theorem overK_cons_yes {k:Arc->Nat} {l:List Arc} {st:St} {r:Nat} {p:Arc} (hp:p.1=st):overK k (p :: l) st r=r:=by
 have:(p :: l).findIdx (fun p=>p.1==st)=0:=by
  rw [List.findIdx_cons,show (p.1==st)=true by simpa using hp];rfl
 rw [overK,this];rfl
theorem RowR.over {g:Gr} {a:Au} {y:Int} {f x s:Nat} {N:List Key} {C:Nat->Nat} (hC:∀ i k,N[i]?=some k->C i=cw g a y f k.1 k.2) {st:St} {l:List Arc} {T:List (St × Nat)} (h:RowR g a x s N l T)
 (hne:∀ p ∈ l,p.1=st->aft a s (valAt g x) p.2.1.toNat ≠ 0) (hex:∃ p ∈ l,p.1=st):∀ r,r<=1000000 ->
 ∃ j i p,T[j]?=some (st,i)/\(∀ j' q,j' < j->T[j']?=some q->q.1 ≠ st)/\passK (fun e:St × Nat=>C e.2) (T.take j) r=overK (cwAt g a y f x s) l st r/\p ∈ l/\p.1=st/\N[i]?=some (p.2.2.toNat,aft a s (valAt g x) p.2.1.toNat):=by
 induction h with
 | nil=>obtain ⟨p,hp,_⟩:=hex;cases hp
 | @skip p0 l0 T0 h1 _ ih =>
   intro r hr
   have hp0:p0.1 ≠ st:=fun e=>hne p0 (List.mem_cons_self ..) e h1
   obtain ⟨j,i,p,e1,e2,e3,e4,e5,e6⟩:=ih (fun p hp=>hne p (List.mem_cons_of_mem _ hp)) (by
    obtain ⟨p,hp,hps⟩:=hex
    rcases List.mem_cons.1 hp with rfl | hp
    · exact absurd hps hp0
    · exact ⟨p,hp,hps⟩) r hr
   refine ⟨j,i,p,e1,e2,?_,List.mem_cons_of_mem _ e4,e5,e6⟩
   rw [e3,overK_cons_no hp0,addK,cwAt,h1,cw_none,Nat.add_zero,Nat.min_eq_right hr]
 | @take p0 l0 T0 i0 h1 h2 _ ih =>
   intro r hr
   by_cases hp0:p0.1=st
   · refine ⟨0,i0,p0,by rw [<- hp0];rfl,fun j' q hj=>by omega,?_,List.mem_cons_self ..,hp0,h2⟩
     rw [overK_cons_yes hp0];rfl
   · obtain ⟨j,i,p,e1,e2,e3,e4,e5,e6⟩:=ih (fun p hp=>hne p (List.mem_cons_of_mem _ hp)) (by
      obtain ⟨p,hp,hps⟩:=hex
      rcases List.mem_cons.1 hp with rfl | hp
      · exact absurd hps hp0
      · exact ⟨p,hp,hps⟩) (addK (cwAt g a y f x s) r p0) (Nat.min_le_left _ _)
     refine ⟨j+1,i,p,by simpa using e1,fun j' q hj hq=>?_,?_,List.mem_cons_of_mem _ e4,e5,e6⟩
     · cases j' with
       | zero=>simp only [List.getElem?_cons_zero,Option.some.injEq] at hq;rw [<- hq];exact hp0
       | succ j'=>exact e2 j' q (by omega) (by simpa using hq)
     · rw [overK_cons_no hp0,<- e3,List.take_succ_cons]
       show passK _ _ (addK (fun e:St × Nat=>C e.2) r (p0.1,i0))=_
       rw [addK,addK,hC _ _ h2];rfl
theorem setAt_none {g:Gr} {a:Au} {k:Wk} {i:Nat} (h:setAt g a k i=0):∀ j,i<=j->setAt g a k j=0:=by
 intro j hj
 obtain ⟨d,rfl⟩:=Nat.exists_eq_add_of_le hj
 induction d with
 | zero=>exact h
 | succ d ih=>rw [<- Nat.add_assoc,setAt,ih (by omega),aft_none]
theorem isWit_parts {g:Gr} {a:Au} {x y:Int} {k:Wk} (h:isWit g a x y k=true):k.1=x/\walkOk g k=true/\auOk a=true/\∀ i,i<=k.2.length->setAt g a k i ≠ 0:=by
 simp only [isWit,matchB,Bool.and_eq_true,beq_iff_eq] at h
 obtain ⟨⟨h1,-⟩,⟨h2,h3⟩,h4⟩:=h
 refine ⟨h1,h2,h3,fun i hi hz=>?_⟩
 rw [setAt_none hz _ hi,acc_none] at h4
 cases h4
end Go.Proofs.YtjpdembmchnbgaaGreat
namespace Go.Proofs.YtjpdembmchnbgaaGreat
def cmpSt (a b:St):Int:=if a.1 < b.1 then -1 else if b.1 < a.1 then 1 else if a.2=b.2 then 0 else if b.2=true then -1 else 1
def cmpSts:List St->List St->Int
 | a :: A,b :: B=>if cmpSt a b=0 then cmpSts A B else cmpSt a b
 | _,_=>0
def cmpWk (k j:Wk):Int :=
 if k.2.length < j.2.length then -1 else if j.2.length < k.2.length then 1 else if k.1 < j.1 then -1 else if j.1 < k.1 then 1 else cmpSts k.2 j.2
theorem cmpSt_eq {a b:St}:cmpSt a b=0 ↔ a=b:=by
 obtain ⟨a1,a2⟩:=a
 obtain ⟨b1,b2⟩:=b
 unfold cmpSt
 simp only [Prod.mk.injEq]
 by_cases h1:a1 < b1
 · rw [if_pos h1];constructor
   · intro h;omega
   · rintro ⟨h,-⟩;omega
 · rw [if_neg h1]
   by_cases h2:b1 < a1
   · rw [if_pos h2];constructor
     · intro h;omega
     · rintro ⟨h,-⟩;omega
   · rw [if_neg h2]
     have h3:a1=b1:=by omega
     cases a2 <;> cases b2 <;> simp [h3]
theorem cmpSts_eq:∀ {A B:List St},A.length=B.length->(cmpSts A B=0 ↔ A=B)
 | [],[],_=>by simp [cmpSts]
 | a :: A,b :: B,h=>by
   rw [cmpSts]
   by_cases e:cmpSt a b=0
   · rw [if_pos e,cmpSts_eq (by simpa using h),cmpSt_eq.1 e];simp
   · rw [if_neg e]
     constructor
     · intro h;exact absurd h e
     · intro h
       injection h with h1 h2
       exact absurd (cmpSt_eq.2 h1) e
theorem cmpWk_eq {k j:Wk}:cmpWk k j=0 ↔ k=j:=by
 obtain ⟨x,A⟩:=k
 obtain ⟨y,B⟩:=j
 unfold cmpWk
 simp only [Prod.mk.injEq]
 by_cases h1:A.length < B.length
 · rw [if_pos h1];constructor
   · intro h;omega
   · rintro ⟨-,h⟩;subst h;omega
 · rw [if_neg h1]
   by_cases h2:B.length < A.length
   · rw [if_pos h2];constructor
     · intro h;omega
     · rintro ⟨-,h⟩;subst h;omega
   · rw [if_neg h2]
     by_cases h3:x < y
     · rw [if_pos h3];constructor
       · intro h;omega
       · rintro ⟨h,-⟩;omega
     · rw [if_neg h3]
       by_cases h4:y < x
       · rw [if_pos h4];constructor
         · intro h;omega
         · rintro ⟨h,-⟩;omega
       · rw [if_neg h4,cmpSts_eq (by omega)]
         constructor
         · intro h;exact ⟨by omega,h⟩
         · rintro ⟨-,h⟩;exact h
theorem cmpWk_self (k:Wk):cmpWk k k=0:=cmpWk_eq.2 rfl
theorem cmpSts_drop {A B:List St} {i:Nat} {a b:St} (ha:A[i]?=some a) (hb:B[i]?=some b):cmpSts (A.drop i) (B.drop i)=if cmpSt a b=0 then cmpSts (A.drop (i+1)) (B.drop (i+1)) else cmpSt a b:=by
 obtain ⟨h1,rfl⟩:=List.getElem?_eq_some_iff.1 ha
 obtain ⟨h2,rfl⟩:=List.getElem?_eq_some_iff.1 hb
 rw [List.drop_eq_getElem_cons h1,List.drop_eq_getElem_cons h2,cmpSts]
end Go.Proofs.YtjpdembmchnbgaaGreat
namespace Go.Proofs.YtjpdembmchnbgaaGreat
open Go.ChangeShapes Go.WideShapes Go.ChangeAt Go.RowKit
/-- the steps lead from node x with the states s to y, where one of the states accepts -/
def goesL (g:Gr) (a:Au) (y:Int):Nat->Nat->List St->Prop
 | x,s,[]=>(x:Int)=y/\acc a s (valAt g x)=true
 | x,s,st :: L=>∃ p ∈ arcsOf g (x:Int),p.1=st/\goesL g a y p.2.2.toNat (aft a s (valAt g x) p.2.1.toNat) L
theorem arc_steps {g:Gr} (hgo:grOk g=true) {x:Int} {p:Arc} (hp:p ∈ arcsOf g x):stepFrom g p.1=x/\stepTo g p.1=p.2.2/\stepLetter g p.1=p.2.1:=by
 have hg:=grOk_iff.1 hgo
 obtain ⟨d,hd,hl,hto⟩:=arc_stepEd hgo hp
 refine ⟨?_,by rw [stepTo_of hd,hto],by rw [stepLetter_of hd,hl]⟩
 obtain ⟨e2,he2,hye⟩:=List.mem_flatMap.1 hp
 obtain ⟨i,hi,hie⟩:=List.getElem_of_mem he2
 have hid:=edgeIdx_at hg (show g.edges[i]?=some e2 by rw [<- hie];exact List.getElem?_eq_getElem hi)
 have hdd:d=e2:=by
  obtain ⟨-,hdm,hdi⟩:=stepEd_ok hd
  obtain ⟨k,hk,hke⟩:=List.getElem_of_mem hdm
  have hkd:g.edges[k]?=some d:=by rw [<- hke];exact List.getElem?_eq_getElem hk
  have hk2:=edgeIdx_at hg hkd
  have he1:e2.1=p.1.1:=by rcases mem_arcE.1 hye with ⟨-,rfl⟩ | ⟨-,rfl⟩ <;> rfl
  rw [hdi,<- he1,hid] at hk2
  obtain rfl:i=k:=by omega
  exact hke.symm.trans hie
 subst hdd
 rw [stepFrom_of hd]
 rcases mem_arcE.1 hye with ⟨h1,rfl⟩ | ⟨h1,rfl⟩
 · exact h1
 · exact h1
/-- along a walk that goes: the nodes, the sets and the links -/
theorem goes_at {g:Gr} {a:Au} {y:Int} {k:Wk} (hgo:grOk g=true) (hk:0<=k.1) (h:goesL g a y k.1.toNat (bit a.start.toNat) k.2):∀ i,i<=k.2.length->(∀ j,j < i->linkAt g k j=true)/\(nodesL g k).getD i 0=(nodeAt g k i:Int)/\goesL g a y (nodeAt g k i) (setAt g a k i) (k.2.drop i)
 | 0,_=>by
   have e:nodeAt g k 0=k.1.toNat:=rfl
   refine ⟨fun j hj=>absurd hj (Nat.not_lt_zero j),?_,?_⟩
   · show k.1=((nodeAt g k 0:Nat):Int)
     rw [e];omega
   · rw [e];exact h
 | i+1,hi=>by
   obtain ⟨h1,h2,h3⟩:=goes_at hgo hk h i (by omega)
   have hlt:i < k.2.length:=by omega
   obtain ⟨st,hst⟩:∃ st,k.2[i]?=some st:=⟨_,List.getElem?_eq_getElem hlt⟩
   have hdr:k.2.drop i=st :: k.2.drop (i+1):=by
    rw [List.drop_eq_getElem_cons hlt]
    rw [List.getElem?_eq_getElem hlt] at hst
    injection hst with hst
    rw [hst]
   rw [hdr] at h3
   obtain ⟨p,hp,rfl,h4⟩:=h3
   obtain ⟨e1,e2,e3⟩:=arc_steps hgo hp
   have hr:=arc_range (grOk_iff.1 hgo) hp
   have hn:(nodesL g k)[i+1]?=some p.2.2:=by rw [nodesL_next hst,e2]
   have hnd:(nodesL g k).getD (i+1) 0=p.2.2:=by rw [List.getD_eq_getElem?_getD,hn];rfl
   have hna:nodeAt g k (i+1)=p.2.2.toNat:=by rw [nodeAt,hnd]
   refine ⟨fun j hj=>?_,?_,?_⟩
   · rcases Nat.lt_succ_iff_lt_or_eq.1 hj with hj | rfl
     · exact h1 j hj
     · rw [linkAt,List.getD_eq_getElem?_getD,hst,Option.getD_some,e1,h2];simp
   · rw [hnd,hna];omega
   · have hset:setAt g a k (i+1)=aft a (setAt g a k i) (valAt g (nodeAt g k i)) p.2.1.toNat:=by
      rw [setAt,letAt,List.getD_eq_getElem?_getD,hst,Option.getD_some,e3]
     rw [hna,hset]
     exact h4
theorem goes_wit {g:Gr} {a:Au} {y:Int} {k:Wk} (hgo:grOk g=true) (ha:auOk a=true) (hk:0<=k.1/\k.1 < (g.vals.length:Int)) (hl:k.2.length<=60) (h:goesL g a y k.1.toNat (bit a.start.toNat) k.2):isWit g a k.1 y k=true:=by
 obtain ⟨h1,h2,h3⟩:=goes_at hgo hk.1 h k.2.length (Nat.le_refl _)
 rw [List.drop_length] at h3
 have hw:walkOk g k=true:=by
  simp only [walkOk,Bool.and_eq_true,wi_iff,decide_eq_true_eq,List.all_eq_true,List.mem_range]
  exact ⟨⟨⟨hgo,by omega⟩,hl⟩,h1⟩
 rw [isWit,matchB,walkEnd,if_pos hw,hw,ha]
 simp only [beq_self_eq_true,Bool.true_and,Bool.and_self]
 rw [Bool.and_eq_true]
 exact ⟨by rw [h3.1];simp,h3.2⟩
def sumK {α:Type} (k:α->Nat) (l:List α):Nat:=(l.map k).sum
theorem sumK_cons {α:Type} (k:α->Nat) (p:α) (l:List α):sumK k (p :: l)=k p+sumK k l:=by simp [sumK]
theorem passK_sum {α:Type} (k:α->Nat):∀ (l:List α) (r:Nat),r<=1000000->passK k l r=min 1000000 (r+sumK k l)
 | [],r,h=>by simp [passK,sumK];omega
 | p :: l,r,h=>by
   rw [sumK_cons]
   show passK k l (addK k r p)=_
   rw [passK_sum k l (addK k r p) (Nat.min_le_left _ _),addK]
   omega
theorem cw_sum (g:Gr) (a:Au) (y:Int) (f x s:Nat):cw g a y (f+1) x s=min 1000000 (sumK (cwAt g a y f x s) (arcsOf g (x:Int))):=by
 have h:=passK_sum (cwAt g a y f x s) (arcsOf g (x:Int)) 0 (by omega)
 rw [Nat.zero_add] at h
 rw [<- h]
 rfl
theorem cwI_hit {g:Gr} {a:Au} {x y:Int} (h:cntOk g a x y=true) (f:Nat):0 < cwI g a x y f ↔ toG (nextI g a) (fun i=>i ∈ goalsL g a y.toNat) f (x.toNat * a.accept.length+a.start.toNat):=by
 obtain ⟨⟨hx0,hx1⟩,⟨hy0,hy1⟩,hg,ha⟩:=cntOk_iff.1 h
 have hst:=(auOk_iff.1 ha).2.1
 obtain ⟨y,rfl⟩:=Int.eq_ofNat_of_zero_le hy0
 rw [cwI,cw_pos ha (bit_lt (by omega)),Int.toNat_natCast]
 constructor
 · rintro ⟨q,hq,hh⟩
   rw [bit_test,decide_eq_true_eq] at hq
   subst hq
   exact hh
 · intro hh
   exact ⟨a.start.toNat,by rw [bit_test];simp,hh⟩
theorem short_dist {g:Gr} {a:Au} {x y:Int} (h:cntOk g a x y=true):IsDist (nextI g a) (fun i=>i ∈ goalsL g a y.toNat) (x.toNat * a.accept.length+a.start.toNat) (shortLen g a x y):=by
 obtain ⟨⟨hx0,hx1⟩,⟨hy0,hy1⟩,hg,ha⟩:=cntOk_iff.1 h
 have hd:=shortLen_dist hg ha (show x.toNat < g.vals.length by omega) (show y.toNat < g.vals.length by omega)
 rwa [Int.toNat_of_nonneg hx0,Int.toNat_of_nonneg hy0] at hd
/-- as goesL; and each step's key is new -/
def goesK (g:Gr) (a:Au) (y:Int) (sm:Bool):Nat->Nat->List Int->List St->Prop
 | x,s,_,[]=>(x:Int)=y/\acc a s (valAt g x)=true
 | x,s,us,st :: L=>∃ p ∈ arcsOf g (x:Int),p.1=st/\us.contains (keyA sm p)=false/\goesK g a y sm p.2.2.toNat (aft a s (valAt g x) p.2.1.toNat) (us ++ [keyA sm p]) L
theorem goesK_L {g:Gr} {a:Au} {y:Int} {sm:Bool}:∀ {L:List St} {x s:Nat} {us:List Int},goesK g a y sm x s us L->goesL g a y x s L
 | [],_,_,_,h=>h
 | _ :: _,_,_,_,⟨p,hp,h1,_,h2⟩=>⟨p,hp,h1,goesK_L h2⟩
theorem sumK_mem {α:Type} {k:α->Nat} {p:α}:∀ {l:List α},p ∈ l->k p<=sumK k l
 | q :: l,h=>by
   rw [sumK_cons]
   rcases List.mem_cons.1 h with rfl | h
   · omega
   · have:=sumK_mem (k:=k) h
     omega
theorem goes_cw {g:Gr} {a:Au} {y:Int}:∀ {L:List St} {x s:Nat},goesL g a y x s L->0 < cw g a y L.length x s
 | [],x,s,h=>by
   rw [List.length_nil,cw,if_pos (by rw [Bool.and_eq_true,decide_eq_true_eq];exact h)]
   omega
 | st :: L,x,s,⟨p,hp,_,h⟩=>by
   have h1:=goes_cw h
   have h2:cwAt g a y L.length x s p<=sumK (cwAt g a y L.length x s) (arcsOf g (x:Int)):=sumK_mem hp
   rw [cwAt] at h2
   rw [List.length_cons,cw_sum]
   omega
theorem goes_pos {g:Gr} {a:Au} {y:Int} {L:List St} {x:Nat} (h:goesL g a y x 0 L):False:=by
 have:=goes_cw h
 rw [cw_none] at this
 omega
theorem dist_at {g:Gr} {a:Au} {x y q:Nat} (hg:grOk g=true) (ha:auOk a=true) (hx:x < g.vals.length) (hy:y < g.vals.length) (hq:q < a.accept.length) :
 IsDist (nextI g a) (fun i=>i ∈ goalsL g a y) (x * a.accept.length+q) ((distTo g a (y:Int)).getD (x * a.accept.length+q) 0):=by
 have hd:(wi (y:Int) 0 ((g.vals.length:Int) - 1) && (grOk g && auOk a))=true:=by
  simp only [Bool.and_eq_true]
  exact ⟨by rw [wi_iff];omega,hg,ha⟩
 have hN:∀ i k,i < g.vals.length * a.accept.length->k ∈ nextI g a i->k < g.vals.length * a.accept.length:=fun i k _ hk=>nextV_lt (grOk_iff.1 hg) ha hk
 have hfs:∀ i ∈ goalsL g a y,i < g.vals.length * a.accept.length:=fun i hi=>by
  obtain ⟨s,hs,_,rfl⟩:=mem_goalsL.1 hi
  calc y * a.accept.length+s < y * a.accept.length+a.accept.length:=by omega
   _=(y+1) * a.accept.length:=by rw [Nat.add_mul,Nat.one_mul]
   _<=_:=Nat.mul_le_mul_right _ hy
 have hi:x * a.accept.length+q < g.vals.length * a.accept.length:=by
  calc x * a.accept.length+q < x * a.accept.length+a.accept.length:=by omega
   _=(x+1) * a.accept.length:=by rw [Nat.add_mul,Nat.one_mul]
   _<=_:=Nat.mul_le_mul_right _ hx
 rw [distTo,if_pos hd,Int.toNat_natCast]
 exact spread_dist hfs hN _ hi
theorem hope_of {g:Gr} {a:Au} {x y s lf:Nat} {L:List St} (hg:grOk g=true) (ha:auOk a=true) (hx:x < g.vals.length) (hy:y < g.vals.length) (hs:s < 2 ^ a.accept.length)
 (h:goesL g a (y:Int) x s L) (hl:L.length<=lf):hope (distTo g a (y:Int)) a.accept.length x s lf=true:=by
 obtain ⟨q,hq,hh⟩:=(cw_pos ha hs).1 (goes_cw h)
 have hqn:=test_lt hs hq
 rw [hope,List.any_eq_true]
 refine ⟨q,mem_mem.2 ⟨by have:=(auOk_iff.1 ha).1.2;omega,hq⟩,?_⟩
 rw [hopeC,wi_iff]
 rcases dist_at hg ha hx hy hqn with ⟨-,hn⟩ | ⟨h0,-,h2⟩
 · exact absurd hh (hn _)
 · have:¬ L.length < ((distTo g a (y:Int)).getD (x * a.accept.length+q) 0).toNat:=fun hlt=>h2 _ hlt hh
   omega
section
variable {g:Gr} {a:Au} {y:Int} {B:Nat} {D:List Int} {sm:Bool}
theorem visC_sound {rec:Nat->Nat->List Int->Nat->Vis} {x s lf:Nat} {us:List Int} (hrec:∀ x s us c r,(rec x s us c).1=some r->goesK g a y sm x s us r) :
 ∀ (l:List Arc) (c:Nat) (r:List St),(∀ p ∈ l,p ∈ arcsOf g (x:Int))->(visC g a D sm rec x s us lf l c).1=some r->goesK g a y sm x s us r
 | [],c,r,_,h=>by cases h
 | p :: l,c,r,hl,h=>by
   rw [visC] at h
   split at h
   · exact visC_sound hrec l c r (fun q hq=>hl q (List.mem_cons_of_mem _ hq)) h
   · rename_i hsk
     have h1:=hrec p.2.2.toNat (aft a s (valAt g x) p.2.1.toNat) (us ++ [keyA sm p]) c
     split at h
     · rename_i r' c' e
       injection h with h
       subst h
       rw [e] at h1
       refine ⟨p,hl p List.mem_cons_self,rfl,?_,h1 r' rfl⟩
       rw [skipA,Bool.or_eq_true,Bool.or_eq_true] at hsk
       cases hc:us.contains (keyA sm p) with
       | false=>rfl
       | true=>exact absurd (.inr (.inl hc)) hsk
     · exact visC_sound hrec l _ r (fun q hq=>hl q (List.mem_cons_of_mem _ hq)) h
theorem visit_sound:∀ (lf x s:Nat) (us:List Int) (c:Nat) (r:List St),(visit g a y B D sm lf x s us c).1=some r->goesK g a y sm x s us r:=by
 intro lf
 induction lf with
 | zero =>
   intro x s us c r h
   rw [visit] at h
   split at h
   · cases h
   · simp only at h
     split at h
     · rename_i hc
       injection h with h
       rw [<- h]
       rw [Bool.and_eq_true,decide_eq_true_eq] at hc
       exact hc
     · cases h
 | succ lf ih =>
   intro x s us c r h
   rw [visit] at h
   split at h
   · cases h
   · exact visC_sound ih _ _ r (fun p hp=>hp) h
end
theorem arcs_node {g:Gr} (hg:grOk g=true) {x:Int} {p:Arc} (hp:p ∈ arcsOf g x):p.2.2.toNat < g.vals.length:=by
 have:=arc_range (grOk_iff.1 hg) hp
 omega
section
variable {g:Gr} {a:Au} {y B:Nat} {sm:Bool} (hg:grOk g=true) (ha:auOk a=true) (hy:y < g.vals.length)
include hg ha hy
theorem visC_full {rec:Nat->Nat->List Int->Nat->Vis} {x s lf:Nat} {us:List Int} (hle:∀ x s us c,c<=B->(rec x s us c).2<=B/\c<=(rec x s us c).2)
 (hrec:∀ x s us c,c<=B->(rec x s us c).1=none->(rec x s us c).2 < B->x < g.vals.length->s < 2 ^ a.accept.length->∀ L:List St,L.length=lf->¬ goesK g a (y:Int) sm x s us L) :
 ∀ (l:List Arc) (c:Nat),c<=B->(∀ p ∈ l,p ∈ arcsOf g (x:Int))->(visC g a (distTo g a (y:Int)) sm rec x s us lf l c).1=none->(visC g a (distTo g a (y:Int)) sm rec x s us lf l c).2 < B ->
   ∀ p ∈ l,us.contains (keyA sm p)=false->∀ L:List St,L.length=lf->¬ goesK g a (y:Int) sm p.2.2.toNat (aft a s (valAt g x) p.2.1.toNat) (us ++ [keyA sm p]) L
 | [],c,_,_,_,_=>by intro p hp;cases hp
 | q :: l,c,hc,hl,h1,h2=>by
   have hnq:=arcs_node hg (hl q List.mem_cons_self)
   have hl':∀ p ∈ l,p ∈ arcsOf g (x:Int):=fun p hp=>hl p (List.mem_cons_of_mem _ hp)
   rw [visC] at h1 h2
   split at h1
   · rename_i hsk
     rw [if_pos hsk] at h2
     have ih:=visC_full hle hrec l c hc hl' h1 h2
     intro p hp hu L hL hG
     rcases List.mem_cons.1 hp with rfl | hp
     · rw [skipA,hu,Bool.false_or,Bool.or_eq_true] at hsk
       rcases hsk with h0 | h0
       · rw [decide_eq_true_eq] at h0
         rw [h0] at hG
         exact goes_pos (goesK_L hG)
       · rw [hope_of hg ha hnq hy (aft_lt ha _ _ _) (goesK_L hG) (by omega)] at h0
         cases h0
     · exact ih p hp hu L hL hG
   · rename_i hsk
     rw [if_neg hsk] at h2
     have hl1:=hle q.2.2.toNat (aft a s (valAt g x) q.2.1.toNat) (us ++ [keyA sm q]) c hc
     have hr1:=hrec q.2.2.toNat (aft a s (valAt g x) q.2.1.toNat) (us ++ [keyA sm q]) c hc
     split at h1
     · cases h1
     · rename_i c' e
       rw [e] at h2 hl1 hr1
       simp only at h2 hl1 hr1
       have h3:=visC_le (g:=g) (a:=a) (D:=distTo g a (y:Int)) (sm:=sm) (x:=x) (s:=s) (us:=us) (lf:=lf) hle l c' hl1.1
       have ih:=visC_full hle hrec l c' hl1.1 hl' h1 h2
       intro p hp hu L hL hG
       rcases List.mem_cons.1 hp with rfl | hp
       · exact hr1 trivial (by omega) hnq (aft_lt ha _ _ _) L hL hG
       · exact ih p hp hu L hL hG
theorem visit_full:∀ (lf x s:Nat) (us:List Int) (c:Nat),c<=B->(visit g a (y:Int) B (distTo g a (y:Int)) sm lf x s us c).1=none->(visit g a (y:Int) B (distTo g a (y:Int)) sm lf x s us c).2 < B ->
 x < g.vals.length->s < 2 ^ a.accept.length->∀ L:List St,L.length=lf->¬ goesK g a (y:Int) sm x s us L:=by
 intro lf
 induction lf with
 | zero =>
   intro x s us c hc h1 h2 hx hs L hL hG
   obtain rfl:=List.length_eq_zero_iff.1 hL
   rw [visit] at h1 h2
   split at h1
   · rename_i hb
     rw [if_pos hb] at h2
     simp only at h2
     omega
   · simp only at h1
     have e:(decide ((x:Int)=(y:Int)) && acc a s (valAt g x))=true:=by
      rw [Bool.and_eq_true,decide_eq_true_eq]
      exact hG
     rw [if_pos e] at h1
     cases h1
 | succ lf ih =>
   intro x s us c hc h1 h2 hx hs L hL hG
   rw [visit] at h1 h2
   split at h1
   · rename_i hb
     rw [if_pos hb] at h2
     simp only at h2
     omega
   · rename_i hb
     rw [if_neg hb] at h2
     cases L with
     | nil=>cases hL
     | cons st L =>
       obtain ⟨p,hp,-,hu,hG⟩:=hG
       exact visC_full hg ha hy (visit_le lf) ih (arcsOf g (x:Int)) (c+1) (by omega) (fun p hp=>hp) h1 h2 p hp hu L (by simpa using hL) hG
end
theorem srchF_cases {g:Gr} {a:Au} {y:Int} {B:Nat} {D:List Int} {sm:Bool} {x s:Nat} {us:List Int}:∀ (k lf c:Nat),
 (∃ r,srchF g a y B D sm x s us k lf c=(((x:Int),r),1)/\goesK g a y sm x s us r/\r.length < lf+k) ∨ srchF g a y B D sm x s us k lf c=((0,[]),2) ∨ srchF g a y B D sm x s us k lf c=((0,[]),3)
 | 0,_,_=>.inr (.inl rfl)
 | k+1,lf,c=>by
   have ih:∀ c,(∃ r,srchF g a y B D sm x s us k (lf+1) c=(((x:Int),r),1)/\goesK g a y sm x s us r/\r.length < lf+(k+1)) ∨ srchF g a y B D sm x s us k (lf+1) c=((0,[]),2) ∨ srchF g a y B D sm x s us k (lf+1) c=((0,[]),3):=fun c=>by
    have:=srchF_cases (g:=g) (a:=a) (y:=y) (B:=B) (D:=D) (sm:=sm) (x:=x) (s:=s) (us:=us) k (lf+1) c
    rwa [show lf+1+k=lf+(k+1) by omega] at this
   cases hh:hope D a.accept.length x s lf with
   | false=>rw [srchF_no hh];exact ih c
   | true =>
     rcases hv:visit g a y B D sm lf x s us c with ⟨o,c'⟩
     cases o with
     | some r =>
       refine .inl ⟨r,srchF_yes hh hv,visit_sound lf x s us c r (by rw [hv]),?_⟩
       have:=visit_len (g:=g) (a:=a) (y:=y) (B:=B) (D:=D) (sm:=sm) lf x s us c r (by rw [hv])
       omega
     | none =>
       by_cases hc:B<=c'
       · exact .inr (.inr (srchF_out hh hv hc))
       · rw [srchF_on hh hv hc];exact ih c'
theorem srchF_none {g:Gr} {a:Au} {y B:Nat} {sm:Bool} (hg:grOk g=true) (ha:auOk a=true) (hy:y < g.vals.length) {x s:Nat} {us:List Int} (hx:x < g.vals.length) (hs:s < 2 ^ a.accept.length):∀ (k lf c:Nat),c<=B ->
 (srchF g a (y:Int) B (distTo g a (y:Int)) sm x s us k lf c).2=2->∀ L:List St,lf<=L.length->L.length < lf+k->¬ goesK g a (y:Int) sm x s us L
 | 0,lf,c,_,_=>fun L h1 h2=>by omega
 | k+1,lf,c,hc,h=>by
   intro L h1 h2 hG
   cases hh:hope (distTo g a (y:Int)) a.accept.length x s lf with
   | false =>
     rw [srchF_no hh] at h
     by_cases hl:L.length=lf
     · rw [hope_of hg ha hx hy hs (goesK_L hG) (by omega)] at hh
       cases hh
     · exact srchF_none hg ha hy hx hs k (lf+1) c hc h L (by omega) (by omega) hG
   | true =>
     rcases hv:visit g a (y:Int) B (distTo g a (y:Int)) sm lf x s us c with ⟨o,c'⟩
     cases o with
     | some r =>
       rw [srchF_yes hh hv] at h
       simp at h
     | none =>
       have hle:=visit_le (g:=g) (a:=a) (y:=(y:Int)) (B:=B) (D:=distTo g a (y:Int)) (sm:=sm) lf x s us c hc
       have hf:=visit_full (sm:=sm) hg ha hy lf x s us c hc
       rw [hv] at hle hf
       simp only at hle hf
       by_cases hb:B<=c'
       · rw [srchF_out hh hv hb] at h
         simp at h
       · rw [srchF_on hh hv hb] at h
         by_cases hl:L.length=lf
         · exact hf trivial (by omega) hx hs L hl hG
         · exact srchF_none hg ha hy hx hs k (lf+1) c' (by omega) h L (by omega) (by omega) hG
theorem nodup_subK:∀ (s l:List Int),s.Nodup->(∀ x ∈ s,x ∈ l)->s.length<=l.length
 | [],_,_,_=>Nat.zero_le _
 | x :: s,l,hn,hm=>by
   have hx:=hm x List.mem_cons_self
   have h1:=nodup_subK s (l.erase x) (List.nodup_cons.1 hn).2 (fun z hz=>by
    refine (List.mem_erase_of_ne (fun e=>?_)).2 (hm z (List.mem_cons_of_mem _ hz))
    subst e
    exact (List.nodup_cons.1 hn).1 hz)
   rw [List.length_erase_of_mem hx] at h1
   have:=List.length_pos_of_mem hx
   rw [List.length_cons]
   omega
theorem goesK_len {g:Gr} {a:Au} {y:Int} {sm:Bool} {K:List Int} (hK:∀ (x:Nat) (p:Arc),p ∈ arcsOf g (x:Int)->keyA sm p ∈ K) :
 ∀ {L:List St} {x s:Nat} {us:List Int},us.Nodup->(∀ k ∈ us,k ∈ K)->goesK g a y sm x s us L->L.length+us.length<=K.length
 | [],_,_,us,h1,h2,_=>by
   have:=nodup_subK us K h1 h2
   simpa using this
 | _ :: L,x,s,us,h1,h2,⟨p,hp,_,hu,h⟩=>by
   have hk:=hK x p hp
   have hu':keyA sm p ∉ us:=fun hm=>by
    rw [List.contains_iff_mem.2 hm] at hu
    cases hu
   have h3:(us ++ [keyA sm p]).Nodup:=by
    rw [List.nodup_append]
    refine ⟨h1,by simp,fun b hb c hc=>?_⟩
    rw [List.mem_singleton] at hc
    subst hc
    exact fun e=>hu' (e ▸ hb)
   have:=goesK_len hK h3 (fun k hk'=>by
    rcases List.mem_append.1 hk' with h | h
    · exact h2 k h
    · rw [List.mem_singleton] at h;exact h ▸ hk) h
   rw [List.length_append,List.length_singleton] at this
   rw [List.length_cons]
   omega
theorem contains_no {l:List Int} {k:Int}:l.contains k=false ↔ k ∉ l:=by
 rw [<- Bool.not_eq_true,List.contains_iff_mem]
theorem goesK_trail {g:Gr} {a:Au} {y:Int}:∀ {L:List St} {x s:Nat} {us:List Int},goesK g a y false x s us L->(L.map (·.1)).Nodup/\∀ e ∈ us,e ∉ L.map (·.1)
 | [],_,_,_,_=>⟨by simp,by simp⟩
 | st :: L,x,s,us,⟨p,hp,h1,hu,h⟩=>by
   obtain ⟨h2,h3⟩:=goesK_trail h
   have hk:keyA false p=st.1:=by rw [<- h1];rfl
   rw [hk,contains_no] at hu
   rw [hk] at h3
   rw [List.map_cons,List.nodup_cons]
   refine ⟨⟨h3 _ (by simp),h2⟩,fun e he hm=>?_⟩
   rcases List.mem_cons.1 hm with h4 | h4
   · exact hu (h4 ▸ he)
   · exact h3 e (List.mem_append_left _ he) h4
theorem goesK_simple {g:Gr} (hg:grOk g=true) {a:Au} {y:Int}:∀ {L:List St} {x s:Nat} {us:List Int},goesK g a y true x s us L->(L.map (stepTo g)).Nodup/\∀ e ∈ us,e ∉ L.map (stepTo g)
 | [],_,_,_,_=>⟨by simp,by simp⟩
 | st :: L,x,s,us,⟨p,hp,h1,hu,h⟩=>by
   obtain ⟨h2,h3⟩:=goesK_simple hg h
   have hk:keyA true p=stepTo g st:=by rw [<- h1,(arc_steps hg hp).2.1];rfl
   rw [hk,contains_no] at hu
   rw [hk] at h3
   rw [List.map_cons,List.nodup_cons]
   refine ⟨⟨h3 _ (by simp),h2⟩,fun e he hm=>?_⟩
   rcases List.mem_cons.1 hm with h4 | h4
   · exact hu (h4 ▸ he)
   · exact h3 e (List.mem_append_left _ he) h4
/-- two arcs of one edge end in each other's ends -/
theorem arc_same {g:Gr} (hgo:grOk g=true) {x x':Int} {p q:Arc} (hp:p ∈ arcsOf g x) (hq:q ∈ arcsOf g x') (h:q.1.1=p.1.1):q.2.2=p.2.2 ∨ q.2.2=x:=by
 have hg:=grOk_iff.1 hgo
 obtain ⟨e,he,hpe⟩:=List.mem_flatMap.1 hp
 obtain ⟨f,hf,hqf⟩:=List.mem_flatMap.1 hq
 have e1:e.1=p.1.1:=by rcases mem_arcE.1 hpe with ⟨-,rfl⟩ | ⟨-,rfl⟩ <;> rfl
 have f1:f.1=q.1.1:=by rcases mem_arcE.1 hqf with ⟨-,rfl⟩ | ⟨-,rfl⟩ <;> rfl
 obtain ⟨i,hi,hie⟩:=List.getElem_of_mem he
 obtain ⟨j,hj,hje⟩:=List.getElem_of_mem hf
 have hi2:=edgeIdx_at hg (show g.edges[i]?=some e by rw [<- hie];exact List.getElem?_eq_getElem hi)
 have hj2:=edgeIdx_at hg (show g.edges[j]?=some f by rw [<- hje];exact List.getElem?_eq_getElem hj)
 rw [f1,h,<- e1,hi2] at hj2
 obtain rfl:i=j:=by omega
 obtain rfl:e=f:=hie.symm.trans hje
 rcases mem_arcE.1 hpe with ⟨h1,rfl⟩ | ⟨h1,rfl⟩ <;> rcases mem_arcE.1 hqf with ⟨h2,rfl⟩ | ⟨h2,rfl⟩ <;> first | exact .inl rfl | exact .inr h1
theorem simple_trail {g:Gr} (hg:grOk g=true) {a:Au} {y:Int}:∀ {L:List St} {x s:Nat} {us es:List Int},(x:Int) ∈ us->(∀ (x':Nat) (q:Arc),q ∈ arcsOf g (x':Int)->q.1.1 ∈ es->q.2.2 ∈ us)->goesK g a y true x s us L->goesK g a y false x s es L
 | [],_,_,_,_,_,_,h=>h
 | st :: L,x,s,us,es,hx,he,⟨p,hp,h1,hu,h⟩=>by
   rw [contains_no] at hu
   have hr:=arc_range (grOk_iff.1 hg) hp
   have hp2:((p.2.2.toNat:Nat):Int)=p.2.2:=by omega
   refine ⟨p,hp,h1,?_,simple_trail hg (us:=us ++ [keyA true p]) ?_ ?_ h⟩
   · rw [contains_no]
     exact fun hm=>hu (he x p hp hm)
   · rw [hp2];exact List.mem_append_right _ (List.mem_singleton.2 rfl)
   · intro x' q hq hm
     rcases List.mem_append.1 hm with hm | hm
     · exact List.mem_append_left _ (he x' q hq hm)
     · rcases arc_same hg hp hq (List.mem_singleton.1 hm) with h2 | h2
       · rw [h2];exact List.mem_append_right _ (List.mem_singleton.2 rfl)
       · rw [h2];exact List.mem_append_left _ hx
def trailN (k:Wk):Prop:=(k.2.map (·.1)).Nodup
def simpleN (g:Gr) (k:Wk):Prop:=(nodesL g k).Nodup
theorem srchL_cases (g:Gr) (a:Au) (x y B:Int) (sm:Bool):(srchL g a x y B sm).2=1 ∨ (srchL g a x y B sm).1.2=[]:=by
 rw [srchL]
 split
 · rcases srchF_cases (g:=g) (a:=a) (y:=y) (B:=B.toNat) (D:=distTo g a y) (sm:=sm) (x:=x.toNat) (s:=bit a.start.toNat) (us:=srchU sm x.toNat) (srchN g sm) 0 0 with ⟨r,e,-⟩ | e | e
   · rw [e];exact .inl rfl
   · rw [e];exact .inr rfl
   · rw [e];exact .inr rfl
 · exact .inr rfl
theorem srchOk_iff {g:Gr} {a:Au} {x y B:Int}:srchOk g a x y B=true ↔ cntOk g a x y=true/\1<=B/\B<=20000:=by
 rw [srchOk,Bool.and_eq_true,wi_iff]
theorem srchL_found {g:Gr} {a:Au} {x y B:Int} {sm:Bool} {w:Wk} (h:srchL g a x y B sm=(w,1)):cntOk g a x y=true/\w.1=x/\w.2.length<=12/\goesK g a y sm x.toNat (bit a.start.toNat) (srchU sm x.toNat) w.2:=by
 rw [srchL] at h
 split at h
 · rename_i hk
   obtain ⟨hc,-⟩:=srchOk_iff.1 hk
   obtain ⟨⟨hx0,hx1⟩,⟨hy0,hy1⟩,hg,ha⟩:=cntOk_iff.1 hc
   have hn5:=(grOk_iff.1 hg).n5
   have he12:=(grOk_iff.1 hg).e12
   have hN:srchN g sm<=13:=by unfold srchN;split <;> omega
   rcases srchF_cases (g:=g) (a:=a) (y:=y) (B:=B.toNat) (D:=distTo g a y) (sm:=sm) (x:=x.toNat) (s:=bit a.start.toNat) (us:=srchU sm x.toNat) (srchN g sm) 0 0 with ⟨r,e,h1,h2⟩ | e | e
   · rw [e] at h
     injection h with h _
     subst h
     refine ⟨hc,by show ((x.toNat:Nat):Int)=x;omega,by show r.length<=12;omega,h1⟩
   · rw [e] at h;simp at h
   · rw [e] at h;simp at h
 · simp at h
theorem srchL_none {g:Gr} {a:Au} {x y B:Int} {sm:Bool} (h:(srchL g a x y B sm).2=2):cntOk g a x y=true/\∀ L:List St,¬ goesK g a y sm x.toNat (bit a.start.toNat) (srchU sm x.toNat) L:=by
 rw [srchL] at h
 split at h
 · rename_i hk
   obtain ⟨hc,-⟩:=srchOk_iff.1 hk
   obtain ⟨⟨hx0,hx1⟩,⟨hy0,hy1⟩,hg,ha⟩:=cntOk_iff.1 hc
   refine ⟨hc,fun L hG=>?_⟩
   have hst:=(auOk_iff.1 ha).2.1
   have hL:L.length < srchN g sm:=by
    cases sm with
    | false =>
      have:=goesK_len (K:=g.edges.map (·.1)) (fun z p hp=>by
       obtain ⟨e,he,hpe⟩:=List.mem_flatMap.1 hp
       refine List.mem_map.2 ⟨e,he,?_⟩
       rcases mem_arcE.1 hpe with ⟨-,rfl⟩ | ⟨-,rfl⟩ <;> rfl) (by simp [srchU]) (by simp [srchU]) hG
      simp [srchU] at this
      show L.length < g.edges.length+1
      omega
    | true =>
      have:=goesK_len (K:=(List.range g.vals.length).map (fun (i:Nat)=>(i:Int))) (fun z p hp=>by
       have:=arc_range (grOk_iff.1 hg) hp
       exact List.mem_map.2 ⟨p.2.2.toNat,List.mem_range.2 (by omega),by show ((p.2.2.toNat:Nat):Int)=p.2.2;omega⟩) (by simp [srchU]) (by
        intro k hk
        rw [srchU,if_pos rfl,List.mem_singleton] at hk
        subst hk
        exact List.mem_map.2 ⟨x.toNat,List.mem_range.2 (by omega),rfl⟩) hG
      simp [srchU] at this
      show L.length < g.vals.length
      omega
   have hy2:((y.toNat:Nat):Int)=y:=by omega
   have:=srchF_none (B:=B.toNat) (sm:=sm) (us:=srchU sm x.toNat) hg ha (show y.toNat < g.vals.length by omega) (show x.toNat < g.vals.length by omega) (bit_lt (show a.start.toNat < a.accept.length by omega)) (srchN g sm) 0 0 (by omega)
    (by rw [hy2];exact h) L (by omega) (by omega)
   rw [hy2] at this
   exact this hG
 · simp at h
theorem goes_short {g:Gr} {a:Au} {x y:Int} (h:cntOk g a x y=true) {L:List St} (hL:goesL g a y x.toNat (bit a.start.toNat) L):0<=shortLen g a x y:=by
 have h1:=(cwI_hit h L.length).1 (goes_cw hL)
 rcases short_dist h with ⟨-,hd⟩ | ⟨d0,-,-⟩
 · exact absurd h1 (hd _)
 · exact d0
theorem found_wit {g:Gr} {a:Au} {x y B:Int} {sm:Bool} {w:Wk} (h:srchL g a x y B sm=(w,1)):isWit g a x y w=true/\0<=shortLen g a x y:=by
 obtain ⟨hc,rfl,h2,h3⟩:=srchL_found h
 obtain ⟨hx,hy,hg,ha⟩:=cntOk_iff.1 hc
 exact ⟨goes_wit hg ha hx (by omega) (goesK_L h3),goes_short hc (goesK_L h3)⟩
theorem found_simple {g:Gr} {a:Au} {x y B:Int} {w:Wk} (h:srchL g a x y B true=(w,1)):simpleN g w/\trailN w:=by
 obtain ⟨hc,rfl,h2,h3⟩:=srchL_found h
 obtain ⟨hx,hy,hg,ha⟩:=cntOk_iff.1 hc
 obtain ⟨h4,h5⟩:=goesK_simple hg h3
 have hU:srchU true w.1.toNat=[w.1]:=by rw [srchU,if_pos rfl];congr 1;omega
 rw [hU] at h3 h5
 refine ⟨?_,?_⟩
 · rw [simpleN,nodesL,List.nodup_cons]
   exact ⟨h5 _ (by simp),h4⟩
 · exact (goesK_trail (simple_trail hg (es:=[]) (by rw [List.mem_singleton];omega) (by simp) h3)).1
theorem wrap_sm {z:Int} (h1:0<=z) (h2:z<=1000000000000):wrap64 z=z:=IntWalk.wrap64_in z ⟨by omega,by omega⟩
def allowA (g:Gr) (a:Au) (x s used:Nat) (p:Arc):Prop:=¬ (aft a s (valAt g x) p.2.1.toNat=0 ∨ used.testBit p.2.2.toNat=true)
theorem cnt_fold {g:Gr} {a:Au} {rec:Nat->Nat->Nat->Int} {x s used:Nat} {C:Int} (hC:0<=C) :
 ∀ (l:List Arc) (n:Int),(∀ p ∈ l,allowA g a x s used p->0<=rec p.2.2.toNat (aft a s (valAt g x) p.2.1.toNat) (ins used p.2.2.toNat)/\rec p.2.2.toNat (aft a s (valAt g x) p.2.1.toNat) (ins used p.2.2.toNat)<=C)->0<=n->n+(l.length:Int) * C<=1000000000000 ->
   n<=l.foldl (cntC g a rec x s used) n/\l.foldl (cntC g a rec x s used) n<=n+(l.length:Int) * C /\
   (n < l.foldl (cntC g a rec x s used) n ↔ ∃ p ∈ l,allowA g a x s used p/\0 < rec p.2.2.toNat (aft a s (valAt g x) p.2.1.toNat) (ins used p.2.2.toNat))
 | [],n,_,h0,h1=>⟨by simp,by simp,by simp⟩
 | p :: l,n,hl,h0,h1=>by
   have e1:(((p :: l).length:Nat):Int) * C=(l.length:Int) * C+C:=by
    rw [List.length_cons]
    have:((l.length+1:Nat):Int)=(l.length:Int)+1:=by omega
    rw [this,Int.add_mul,Int.one_mul]
   rw [e1] at h1 ⊢
   have hlC:0<=(l.length:Int) * C:=Int.mul_nonneg (by omega) hC
   rw [List.foldl_cons]
   by_cases hp:allowA g a x s used p
   · obtain ⟨r0,r1⟩:=hl p List.mem_cons_self hp
     have e2:cntC g a rec x s used n p=n+rec p.2.2.toNat (aft a s (valAt g x) p.2.1.toNat) (ins used p.2.2.toNat):=by
      rw [cntC,if_neg hp,wrap_sm (by omega) (by omega)]
     rw [e2]
     obtain ⟨r,hr⟩:∃ r,r=rec p.2.2.toNat (aft a s (valAt g x) p.2.1.toNat) (ins used p.2.2.toNat):=⟨_,rfl⟩
     rw [<- hr] at r0 r1 ⊢
     obtain ⟨i1,i2,i3⟩:=cnt_fold hC l (n+r) (fun q hq=>hl q (List.mem_cons_of_mem _ hq)) (by omega) (by omega)
     refine ⟨by omega,by omega,?_⟩
     constructor
     · intro h
       by_cases hr0:0 < r
       · exact ⟨p,List.mem_cons_self,hp,by rw [<- hr];exact hr0⟩
       · obtain ⟨q,hq,h2,h3⟩:=i3.1 (by omega)
         exact ⟨q,List.mem_cons_of_mem _ hq,h2,h3⟩
     · rintro ⟨q,hq,h2,h3⟩
       rcases List.mem_cons.1 hq with rfl | hq
       · rw [<- hr] at h3
         omega
       · have:=i3.2 ⟨q,hq,h2,h3⟩
         omega
   · have e2:cntC g a rec x s used n p=n:=by
      rw [cntC,if_pos]
      exact Classical.not_not.1 hp
     rw [e2]
     obtain ⟨i1,i2,i3⟩:=cnt_fold hC l n (fun q hq=>hl q (List.mem_cons_of_mem _ hq)) h0 (by omega)
     refine ⟨i1,by omega,i3.trans ?_⟩
     constructor
     · rintro ⟨q,hq,h2,h3⟩
       exact ⟨q,List.mem_cons_of_mem _ hq,h2,h3⟩
     · rintro ⟨q,hq,h2,h3⟩
       rcases List.mem_cons.1 hq with rfl | hq
       · exact absurd h2 hp
       · exact ⟨q,hq,h2,h3⟩
/-- the bits of used are the nodes of us -/
structure UsR (N:Nat) (used:Nat) (us:List Int):Prop where
 nd:us.Nodup
 inr:∀ k ∈ us,0<=k/\k < (N:Int)
 bits:∀ t:Nat,used.testBit t=us.contains (t:Int)
theorem UsR.len {N used:Nat} {us:List Int} (h:UsR N used us):us.length<=N:=by
 have:=nodup_subK us ((List.range N).map (fun (i:Nat)=>(i:Int))) h.nd (fun k hk=>by
  have:=h.inr k hk
  exact List.mem_map.2 ⟨k.toNat,List.mem_range.2 (by omega),by show ((k.toNat:Nat):Int)=k;omega⟩)
 simpa using this
theorem UsR.put {N used t:Nat} {us:List Int} (h:UsR N used us) (ht:t < N) (hu:used.testBit t=false):UsR N (ins used t) (us ++ [(t:Int)]):=by
 have hn:(t:Int) ∉ us:=by
  rw [h.bits,contains_no] at hu
  exact hu
 refine ⟨?_,?_,?_⟩
 · rw [List.nodup_append]
   refine ⟨h.nd,by simp,fun b hb c hc e=>?_⟩
   rw [List.mem_singleton] at hc
   exact hn (hc ▸ e ▸ hb)
 · intro k hk
   rcases List.mem_append.1 hk with hk | hk
   · exact h.inr k hk
   · rw [List.mem_singleton] at hk
     omega
 · intro u
   rw [ins_test,h.bits]
   rw [Bool.eq_iff_iff]
   simp only [Bool.or_eq_true,List.contains_iff_mem,List.mem_append,List.mem_singleton,decide_eq_true_eq]
   rw [show t=u ↔ (u:Int)=(t:Int) by omega]
theorem cnt_pos {g:Gr} {a:Au} {y:Int} (hg:grOk g=true):∀ (f x s used:Nat) (us:List Int),x < g.vals.length->UsR g.vals.length used us ->
 0<=cnt g a y f x s used/\cnt g a y f x s used<=(25:Int) ^ (6 - us.length)/\(0 < cnt g a y f x s used ↔ ∃ L:List St,L.length < f/\goesK g a y true x s us L)
 | 0,x,s,used,us,_,_=>⟨by simp [cnt],by
  have:(0:Int)<=25 ^ (6 - us.length):=Int.pow_nonneg (by omega)
  simpa [cnt] using this,by simp [cnt]⟩
 | f+1,x,s,used,us,hx,hU=>by
   have hgo:=grOk_iff.1 hg
   have hn5:=hgo.n5
   have hul:=hU.len
   have hC:(0:Int)<=25 ^ (5 - us.length):=Int.pow_nonneg (by omega)
   have hC1:(1:Int)<=25 ^ (5 - us.length):=by
    have:=Int.pow_pos (n:=(25:Int)) (by omega) (m:=5 - us.length)
    omega
   have hC2:(25:Int) ^ (5 - us.length)<=9765625:=by
    have h5:5 - us.length<=5:=by omega
    generalize 5 - us.length=e at h5
    have:e=0 ∨ e=1 ∨ e=2 ∨ e=3 ∨ e=4 ∨ e=5:=by omega
    rcases this with rfl | rfl | rfl | rfl | rfl | rfl <;> decide
   have hC6:(25:Int) ^ (6 - us.length)=25 ^ (5 - us.length) * 25:=by rw [show 6 - us.length=(5 - us.length)+1 by omega,Int.pow_succ]
   have h24:=arcs_len hgo (x:Int)
   have h24C:((arcsOf g (x:Int)).length:Int) * 25 ^ (5 - us.length)<=24 * 25 ^ (5 - us.length):=Int.mul_le_mul_of_nonneg_right (by omega) hC
   have hput:∀ p ∈ arcsOf g (x:Int),allowA g a x s used p->UsR g.vals.length (ins used p.2.2.toNat) (us ++ [p.2.2]):=fun p hp h=>by
    have hr:=arc_range hgo hp
    have h1:used.testBit p.2.2.toNat=false:=by
     cases h2:used.testBit p.2.2.toNat with
     | false=>rfl
     | true=>exact absurd (.inr h2) h
    have:=hU.put (arcs_node hg hp) h1
    rwa [show ((p.2.2.toNat:Nat):Int)=p.2.2 by omega] at this
   have ih:∀ p ∈ arcsOf g (x:Int),allowA g a x s used p->_:=fun p hp h=>cnt_pos (a:=a) (y:=y) hg f p.2.2.toNat (aft a s (valAt g x) p.2.1.toNat) (ins used p.2.2.toNat) (us ++ [p.2.2]) (arcs_node hg hp) (hput p hp h)
   have h0:0<=cnt0 g a y x s/\cnt0 g a y x s<=1:=by unfold cnt0;split <;> omega
   obtain ⟨i1,i2,i3⟩:=cnt_fold (g:=g) (a:=a) (rec:=cnt g a y f) (x:=x) (s:=s) (used:=used) hC (arcsOf g (x:Int)) (cnt0 g a y x s) (fun p hp h=>by
    obtain ⟨j1,j2,-⟩:=ih p hp h
    rw [List.length_append,List.length_singleton,show 6 - (us.length+1)=5 - us.length by omega] at j2
    exact ⟨j1,j2⟩) h0.1 (by omega)
   rw [cnt,hC6]
   refine ⟨by omega,by omega,?_⟩
   have hz:0 < cnt0 g a y x s ↔ (x:Int)=y/\acc a s (valAt g x)=true:=by
    rw [cnt0]
    split
    · rename_i h
      rw [Bool.and_eq_true,decide_eq_true_eq] at h
      exact ⟨fun _=>h,fun _=>by omega⟩
    · rename_i h
      rw [Bool.and_eq_true,decide_eq_true_eq] at h
      exact ⟨fun h2=>by omega,fun h2=>absurd h2 h⟩
   constructor
   · intro h
     by_cases h1:0 < cnt0 g a y x s
     · exact ⟨[],by simp,hz.1 h1⟩
     · obtain ⟨p,hp,h2,h3⟩:=i3.1 (by omega)
       obtain ⟨L,hL,hG⟩:=(ih p hp h2).2.2.1 h3
       refine ⟨p.1 :: L,by rw [List.length_cons];omega,p,hp,rfl,?_,hG⟩
       have hr:=arc_range hgo hp
       have h4:=hU.bits p.2.2.toNat
       rw [show ((p.2.2.toNat:Nat):Int)=p.2.2 by omega] at h4
       show us.contains p.2.2=false
       rw [<- h4]
       cases h5:used.testBit p.2.2.toNat with
       | false=>rfl
       | true=>exact absurd (.inr h5) h2
   · rintro ⟨L,hL,hG⟩
     cases L with
     | nil =>
       have:=hz.2 hG
       omega
     | cons st L =>
       obtain ⟨p,hp,-,hu,hG⟩:=hG
       have hr:=arc_range hgo hp
       have h4:=hU.bits p.2.2.toNat
       rw [show ((p.2.2.toNat:Nat):Int)=p.2.2 by omega] at h4
       have h2:allowA g a x s used p:=by
        rintro (h5 | h5)
        · rw [h5] at hG
          exact goes_pos (goesK_L hG)
        · rw [h4] at h5
          rw [show keyA true p=p.2.2 from rfl,h5] at hu
          cases hu
       have h3:=(ih p hp h2).2.2.2 ⟨L,by rw [List.length_cons] at hL;omega,hG⟩
       have:=i3.2 ⟨p,hp,h2,h3⟩
       omega
theorem cntSimple_pos {g:Gr} {a:Au} {x y:Int} (h:cntOk g a x y=true):0 < cntSimple g a x y ↔ ∃ L:List St,goesK g a y true x.toNat (bit a.start.toNat) [x] L:=by
 obtain ⟨⟨hx0,hx1⟩,hy,hg,ha⟩:=cntOk_iff.1 h
 have hn5:=(grOk_iff.1 hg).n5
 have hU:UsR g.vals.length (bit x.toNat) [x]:=⟨by simp,by intro k hk;rw [List.mem_singleton] at hk;omega,fun t=>by
  rw [bit_test,Bool.eq_iff_iff]
  simp only [decide_eq_true_eq,List.contains_iff_mem,List.mem_singleton]
  omega⟩
 rw [cntSimple,if_pos h]
 refine (cnt_pos hg 32 x.toNat (bit a.start.toNat) (bit x.toNat) [x] (by omega) hU).2.2.trans ⟨fun ⟨L,_,hG⟩=>⟨L,hG⟩,fun ⟨L,hG⟩=>⟨L,?_,hG⟩⟩
 have:=goesK_len (K:=(List.range g.vals.length).map (fun (i:Nat)=>(i:Int))) (fun z p hp=>by
  have:=arc_range (grOk_iff.1 hg) hp
  exact List.mem_map.2 ⟨p.2.2.toNat,List.mem_range.2 (by omega),by show ((p.2.2.toNat:Nat):Int)=p.2.2;omega⟩) hU.nd (by
   intro k hk
   rw [List.mem_singleton] at hk
   subst hk
   exact List.mem_map.2 ⟨k.toNat,List.mem_range.2 (by omega),by show ((k.toNat:Nat):Int)=k;omega⟩) hG
 simp at this
 omega
theorem found_count {g:Gr} {a:Au} {x y B:Int} {w:Wk} (h:srchL g a x y B true=(w,1)):0 < cntSimple g a x y:=by
 obtain ⟨hc,h1,h2,h3⟩:=srchL_found h
 obtain ⟨hx,hy,hg,ha⟩:=cntOk_iff.1 hc
 rw [srchU,if_pos rfl,show ((x.toNat:Nat):Int)=x by omega] at h3
 exact (cntSimple_pos hc).2 ⟨_,h3⟩
theorem none_count {g:Gr} {a:Au} {x y B:Int} (h:(srchL g a x y B true).2=2):cntSimple g a x y=0:=by
 obtain ⟨hc,h1⟩:=srchL_none h
 obtain ⟨⟨hx0,hx1⟩,hy,hg,ha⟩:=cntOk_iff.1 hc
 rw [srchU,if_pos rfl,show ((x.toNat:Nat):Int)=x by omega] at h1
 have h2:¬ 0 < cntSimple g a x y:=fun hp=>by
  obtain ⟨L,hL⟩:=(cntSimple_pos hc).1 hp
  exact h1 L hL
 have hU:UsR g.vals.length (bit x.toNat) [x]:=⟨by simp,by intro k hk;rw [List.mem_singleton] at hk;omega,fun t=>by
  rw [bit_test,Bool.eq_iff_iff]
  simp only [decide_eq_true_eq,List.contains_iff_mem,List.mem_singleton]
  omega⟩
 have h3:0<=cntSimple g a x y:=by
  rw [cntSimple,if_pos hc]
  exact (cnt_pos hg 32 x.toNat (bit a.start.toNat) (bit x.toNat) [x] (by omega) hU).1
 omega
end Go.Proofs.YtjpdembmchnbgaaGreat
