/- Parts of the proof, joined into one text: AlongS, CntM, CwM, NthM, ImgM, LayM, LayV, LayF, LayR, Srw. -/
import Derived.Test.YteaplabkemoenaaGreatOnlzFJCGBBIC
import Derived.Test.YteaplabkemoenaaGreatOnlzNELIBLED
import Derived.Test.YteaplabkemoenaaGreatOnlzAIFFPHMF
import Derived.Test.YteaplabkemoenaaGreatOnlzKIKFHLPI
import Derived.Test.YteaplabkemoenaaGreatOnlzGFGPLLBC
set_option linter.unusedVariables false
set_option linter.unusedSimpArgs false
namespace Go.Proofs.YteaplabkemoenaaGreat
open Go.ChangeShapes Go.WideShapes Go.ChangeAt Go.RowKit
attribute [local go_sem] ext_cell ext_frozen ext_lt ext_lt1 ext_lt2 ext_lt3 ltn2 ltn3 ltn13 lts1 lts2 lts3
def foldFr (a:Au) (l set m0 q:Nat):Nat:=(mem q set).foldl (aft1 a l) m0
theorem foldFr_no {a:Au} {l set m0 q:Nat} (h:set.testBit q=false):foldFr a l set m0 (q+1)=foldFr a l set m0 q:=by rw [foldFr,mem_no h];rfl
theorem foldFr_yes {a:Au} {l set m0 q:Nat} (h:set.testBit q=true):foldFr a l set m0 (q+1)=aft1 a l (foldFr a l set m0 q) q:=by rw [foldFr,mem_yes h,List.foldl_append];rfl
theorem foldFr_lt {a:Au} (h:auOk a=true) (l set m0 q:Nat) (hm:m0 < 2 ^ a.accept.length):foldFr a l set m0 q < 2 ^ a.accept.length:=foldl_inv (P:=fun m=>m < 2 ^ a.accept.length) (fun m x hm=>aft1_lt h l m x hm) _ _ hm
def foldS (a:Au) (v l set q:Nat):Nat:=(mem q set).foldl (aftS a v l) 0
theorem foldS_no {a:Au} {v l set q:Nat} (h:set.testBit q=false):foldS a v l set (q+1)=foldS a v l set q:=by rw [foldS,mem_no h];rfl
theorem foldS_yes {a:Au} {v l set q:Nat} (ha:auOk a=true) (hq:q < a.accept.length) (h:set.testBit q=true):foldS a v l set (q+1)=foldFr a l (cls a v q) (foldS a v l set q) a.accept.length:=by
 rw [foldS,mem_yes h,List.foldl_append]
 show aftS a v l _ q=_
 rw [aftS,mem12 ha (cls_lt ha v q hq)];rfl
theorem foldS_lt {a:Au} (h:auOk a=true) (v l set q:Nat):foldS a v l set q < 2 ^ a.accept.length:=foldl_inv (P:=fun m=>m < 2 ^ a.accept.length) (fun m x hm=>aftS_lt h v l m x hm) _ _ (Nat.two_pow_pos _)
theorem foldS_all {a:Au} (h:auOk a=true) {v l set:Nat} (hs:set < 2 ^ a.accept.length):foldS a v l set a.accept.length=aft a set v l:=by rw [foldS,aft,mem12 h hs]
theorem stepEd_idx {g:Gr} {id:Int} {e:Ed} (h:stepEd g id=some e):∃ ix:Nat,edgeIdx g id=ix/\g.edges[ix]?=some e:=by
 obtain ⟨hg,hm,he⟩:=stepEd_ok h
 obtain ⟨ix,hix⟩:=List.getElem?_of_mem hm
 refine ⟨ix,?_,hix⟩
 rw [<- he]
 exact edgeIdx_at hg hix
set_option maxHeartbeats 8000000 in
set_option maxRecDepth 100000 in
theorem l18Next_any (vg va:Value) (g:Gr) (a:Au) (x SI:Nat) (st:St) (e:Ed) (l:Nat) (w:World) (hgv:GrV 0 w.heap.size w vg g) (hav:AuV 0 w.heap.size w va a) (hgo:grOk g=true) (ha:auOk a=true) (hx:x < g.vals.length) (hSI:SI < 2 ^ a.accept.length)
 (he:stepEd g st.1=some e) (hl:arcLetter st.2 e=(l:Int)) :
 Calls Tryz.prog 34 #[vg,va,.int .i64 (x:Int),.int .i64 (SI:Int),.agg #[.int .i64 st.1,.bool st.2]] w fun en w'=>en=.returned (.tuple #[.int .i64 (arcTo st.2 e),.int .i64 (aft a SI (valAt g x) l:Int)])/\Below w.heap.size w w':=by
 have hg:=grOk_iff.1 hgo
 have hav0:=hav
 have hgv0:=hgv
 obtain ⟨A1,c1,A2,c2,rfl,hl1,hm1,hl2,hm2,hC1,hC2⟩:=hgv.form
 obtain ⟨A3,c3,A4,c4,rfl,hl3,hm3,hl4,hm4,hAC⟩:=hav.form ha
 obtain ⟨sid,sinv⟩:=st
 have hn12:=(auOk_iff.1 ha).1.2
 obtain ⟨ix,hix,hei⟩:=stepEd_idx he
 have hem:=(stepEd_ok he).2.1
 have hel:=hg.edges e hem
 have hixl:ix < g.edges.length:=(List.getElem?_eq_some_iff.1 hei).1
 have hixi:(ix:Int) < (g.edges.length:Int):=by omega
 obtain ⟨b6,o6,rfl,hb6,q0,q1,q2,q3⟩:=hC2.ed hei
 have hxi:g.vals[x]?=some g.vals[x]:=List.getElem?_eq_getElem hx
 have hvr:=hg.vals _ (List.getElem_mem hx)
 generalize g.vals[x]=vx at hxi hvr
 obtain ⟨vx,rfl⟩:=Int.eq_ofNat_of_zero_le hvr.1
 have hva:=valAt_of hxi
 rw [Int.toNat_natCast] at hva
 obtain ⟨b1,o1,rfl,hb1,d1⟩:=hC1.int hxi
 have hSI4:=lt12 ha hSI
 simp only at hix hl ⊢
 obtain ⟨eid,ef,et,el⟩:=e
 simp only at q0 q1 q2 q3 hel
 obtain ⟨-,-,-,hl0,hl2e⟩:=hel
 have hl9:l < 6:=by unfold arcLetter at hl;simp only at hl;split at hl <;> omega
 obtain ⟨TO,hTO⟩:∃ TO,TO=arcTo sinv (eid,ef,et,el):=⟨_,rfl⟩
 rw [<- hTO,hva,<- foldS_all ha hSI]
 have HTO:=Hd_ (show ∀ W,Calls Tryz.prog 61 #[.agg #[.int .i64 eid,.int .i64 ef,.int .i64 et,.int .i64 el],.bool sinv] W fun en w'=>en=.returned (.int .i64 TO)/\Below W.heap.size W w' from fun W=>by
  have h:=l14To_any (eid,ef,et,el) sinv W
  rwa [<- hTO] at h)
 have HLET:=Hd_ (show ∀ W,Calls Tryz.prog 60 #[.agg #[.int .i64 eid,.int .i64 ef,.int .i64 et,.int .i64 el],.bool sinv] W fun en w'=>en=.returned (.int .i64 (l:Int))/\Below W.heap.size W w' from fun W=>by
  have h:=l14Letter_any (eid,ef,et,el) sinv W hl0 hl2e
  rwa [hl] at h)
 have HEI:=Hd_ (show ∀ W,Below w.heap.size w W->Calls Tryz.prog 58 #[.agg #[.slice (some ⟨b1,o1,none⟩) g.vals.length c1,.slice (some ⟨b6,o6,none⟩) g.edges.length c2],.int .i64 sid] W fun e w'=>e=.returned (.int .i64 (ix:Int))/\Below W.heap.size W w' from fun W hW=>by
  have h:=specEdgeIndex _ g sid W (hgv0.keep hW)
  rwa [hix] at h)
 have HGO:=Hd_ hg
 have HAO:=Hd_ ha
 have HAV:=Hd_ hav0
 have HGV:=Hd_ hgv0
 have HAC:=Hd_ hAC
 have HSI:=Hd_ hSI
 have hxx:(x:Int) < (g.vals.length:Int):=by omega
 have hb0:Below w.heap.size w (((w.alloc (.cells #[.slice (some ⟨b1,o1,none⟩) g.vals.length c1,.slice (some ⟨b6,o6,none⟩) g.edges.length c2] 27)).alloc (.cells #[.int .i64 a.start,.slice A3 a.accept.length c3,.slice A4 a.accept.length c4] 31)).alloc (.cells #[.int .i64 sid,.bool sinv] 66)):=(((Below.refl _ _).alloc (Nat.le_refl _) _).alloc (by simp) _).alloc (by simp;omega) _
 clear hgv hav ha hg hgo hav0 hgv0 hva hxi hC1 hC2 hAC hSI he hl hix hei hem hTO
 go_enter Tryz.func34,Tryz.ntmps34
 go_upto_region 1 with fail
 obtain ⟨W0,hW0⟩:∃ W0,W0=(((w.alloc (.cells #[.slice (some ⟨b1,o1,none⟩) g.vals.length c1,.slice (some ⟨b6,o6,none⟩) g.edges.length c2] 27)).alloc (.cells #[.int .i64 a.start,.slice A3 a.accept.length c3,.slice A4 a.accept.length c4] 31)).alloc (.cells #[.int .i64 sid,.bool sinv] 66)):=⟨_,rfl⟩
 rw [<- hW0] at hb0 ⊢
 have bx:Blk W0 w.heap.size 27 #[.slice (some ⟨b1,o1,none⟩) g.vals.length c1,.slice (some ⟨b6,o6,none⟩) g.edges.length c2]:=by rw [hW0];exact ((Blk.new w _ _ w.heap.size rfl).alloc _).alloc _
 have by_:Blk W0 (w.heap.size+1) 31 #[.int .i64 a.start,.slice A3 a.accept.length c3,.slice A4 a.accept.length c4]:=by rw [hW0];exact (Blk.new (w.alloc _) _ _ (w.heap.size+1) (by simp)).alloc _
 have bz:Blk W0 (w.heap.size+1+1) 66 #[.int .i64 sid,.bool sinv]:=by rw [hW0];exact Blk.new ((w.alloc _).alloc _) _ _ (w.heap.size+1+1) (by simp)
 have hs0:w.heap.size+1+1+1=W0.heap.size:=by rw [hW0];simp
 have x0:W0.cell? ⟨w.heap.size,0,none⟩=some (.slice (some ⟨b1,o1,none⟩) g.vals.length c1):=by exact bx.cell 0
 have x1:W0.cell? ⟨w.heap.size,1,none⟩=some (.slice (some ⟨b6,o6,none⟩) g.edges.length c2):=by exact bx.cell 1
 have y0:W0.cell? ⟨w.heap.size+1,0,none⟩=some (.int .i64 a.start):=by exact by_.cell 0
 have y1:W0.cell? ⟨w.heap.size+1,1,none⟩=some (.slice A3 a.accept.length c3):=by exact by_.cell 1
 have y2:W0.cell? ⟨w.heap.size+1,2,none⟩=some (.slice A4 a.accept.length c4):=by exact by_.cell 2
 have z0:W0.cell? ⟨w.heap.size+1+1,0,none⟩=some (.int .i64 sid):=by exact bz.cell 0
 have z1:W0.cell? ⟨w.heap.size+1+1,1,none⟩=some (.bool sinv):=by exact bz.cell 1
 try rw [hs0]
 have l2:=bz.lt
 have l1:=by_.lt
 have l0:=bx.lt
 clear hW0 bx by_ bz hs0
 have q0:=kcell hb0 q0
 have q1:=kcell hb0 q1
 have q2:=kcell hb0 q2
 have q3:=kcell hb0 q3
 have d1:=kcell hb0 d1
 have hbb1:b1 < W0.heap.size:=Nat.lt_of_lt_of_le hb1 hb0.size
 have ne0:=World.new_ne W0 _ x0
 have ne1:=World.new_ne W0 _ q0
 have ne2:=World.new_ne W0 _ z0
 go_cut [12] (fun s12 wx=>∃ eb,s12=.pointer (some ⟨eb,0,none⟩)/\W0.heap.size<=eb/\eb < wx.heap.size/\wx.cell? ⟨eb,0,none⟩=some (.int .i64 eid)/\wx.cell? ⟨eb,1,none⟩=some (.int .i64 ef)/\wx.cell? ⟨eb,2,none⟩=some (.int .i64 et)/\wx.cell? ⟨eb,3,none⟩=some (.int .i64 el)/\Below W0.heap.size W0 wx)
 case first =>
  go_region_held3 (fun w'=>w'.cell? ⟨w.heap.size,0,none⟩=some (.slice (some ⟨b1,o1,none⟩) g.vals.length c1)/\w'.cell? ⟨w.heap.size,1,none⟩=some (.slice (some ⟨b6,o6,none⟩) g.edges.length c2)/\w'.cell? ⟨w.heap.size+1+1,0,none⟩=some (.int .i64 sid)/\w'.cell? ⟨b6,o6+ix * 4,none⟩=some (.int .i64 eid)/\w'.cell? ⟨b6,o6+ix * 4+1,none⟩=some (.int .i64 ef)/\w'.cell? ⟨b6,o6+ix * 4+2,none⟩=some (.int .i64 et)/\w'.cell? ⟨b6,o6+ix * 4+3,none⟩=some (.int .i64 el))
   (first | (with_reducible exact kS7 ne0 ne0 ne2 ne1 ne1 ne1 ne1 (kS7 ne0 ne0 ne2 ne1 ne1 ne1 ne1 (kS7 ne0 ne0 ne2 ne1 ne1 ne1 ne1 (kS7 ne0 ne0 ne2 ne1 ne1 ne1 ne1 (by assumption))))) | (exact ⟨x0,x1,z0,q0,q1,q2,q3⟩) | assumption | (exact kB7 hbE ⟨x0,x1,z0,q0,q1,q2,q3⟩) | (exact kA7 _ ⟨x0,x1,z0,q0,q1,q2,q3⟩) | (exact kA7 _ (kB7 hbE ⟨x0,x1,z0,q0,q1,q2,q3⟩)) | (exact kB7 hbE (kA7 _ ⟨x0,x1,z0,q0,q1,q2,q3⟩)) | (exact kB7 hbE (by assumption)) | (exact kA7 _ (by assumption)) | go_keep)
   (first | (go_at_call 58;refine (HEI.out _ (by first | exact hb0.drew | exact (hb0.drew).alloc (by have:=hb0.size;simpa using this) _)).mono ?_;rintro en wE ⟨rfl,hbE⟩;have n0:=World.new_ne wE _ (kcell hbE (by first | exact x0 | exact kcell ((Below.refl _ _).alloc (Nat.le_refl _) _) x0));have n1:=World.new_ne wE _ (kcell hbE (by first | exact q0 | exact kcell ((Below.refl _ _).alloc (Nat.le_refl _) _) q0));have n2:=World.new_ne wE _ (kcell hbE (by first | exact z0 | exact kcell ((Below.refl _ _).alloc (Nat.le_refl _) _) z0)));(first | (have NC:=nc4 hbE (n:=W0.heap.size) rfl;obtain ⟨t0,t1,t2,t3,f0,f1,f2,f3⟩:=NC) | skip))
  all_goals (go_wp2_with fail)
  · go_meet
    exact ⟨_,rfl,hbE.size,by simp,by simp,by simp,by simp,by simp,(below_trans ((Below.refl W0.heap.size W0).drew) hbE).alloc hbE.size _⟩
  · go_meet
    have h9:=hbE.size
    have h8:W0.heap.size < wE.heap.size:=Nat.lt_of_lt_of_le (by simp) h9
    have h7:Below W0.heap.size W0 wE:=below_trans (((Below.refl W0.heap.size W0).alloc (Nat.le_refl _) _).drew) hbE
    exact ⟨_,rfl,Nat.le_refl _,by simpa using h8,by go_simp,by go_simp,by go_simp,by go_simp,(((h7.setCell (Nat.le_refl _) _).setCell (Nat.le_refl _) _).setCell (Nat.le_refl _) _).setCell (Nat.le_refl _) _⟩
 case rest =>
  obtain ⟨eb,rfl,hlo,hhi,e0,e1,e2,e3,hbc⟩:=hcut
  have x0:=kcell hbc x0
  have x1:=kcell hbc x1
  have y0:=kcell hbc y0
  have y1:=kcell hbc y1
  have y2:=kcell hbc y2
  have z0:=kcell hbc z0
  have z1:=kcell hbc z1
  have d1:=kcell hbc d1
  have hbw:=below_trans hb0 hbc
  have hsz:=hbc.size
  have l0:=Nat.lt_of_lt_of_le l0 hsz
  have l1:=Nat.lt_of_lt_of_le l1 hsz
  have l2:=Nat.lt_of_lt_of_le l2 hsz
  have hbb1:=Nat.lt_of_lt_of_le hbb1 hsz
  clear ne0 ne1 ne2 q0 q1 q2 q3 hb0 hbc
  go_wp2_with fail
  go_loopw [13,14] (fun mm qq wr=>∃ (q:Nat) (u:World),q<=a.accept.length/\qq=.int .i64 (q:Int)/\mm=.int .i64 (foldS a vx l SI q:Nat)/\wr=ext wc u) (fun _ qq _=>a.accept.length - (intOf qq).toNat)
  case atStart=>exact ⟨0,wc,Nat.zero_le _,rfl,rfl,ext_self _⟩
  case round =>
   obtain ⟨q,u,hq,rfl,rfl,rfl⟩:=hrel
   by_cases hlq:q < a.accept.length
   · have hqi:(q:Int) < (a.accept.length:Int):=by omega
     cases hb:SI.testBit q with
     | false =>
       have e3':=bit_off (by omega) (by omega) hb
       have HR:=Hd_ (show foldS a vx l SI q=foldS a vx l SI (q+1) from (foldS_no hb).symm)
       clear hb
       go_wp2_with fail
       go_roundw
       case rel=>exact ⟨q+1,u,by omega,by go_num,by rw [<- HR.out],rfl⟩
       case measure=>simp [intOf];omega
     | true =>
       have e3':=bit_on (by omega) (by omega) hb
       have HFS:=Hd_ (foldS_yes (v:=vx) (l:=l) HAO.out hlq hb)
       have hm0:=foldS_lt HAO.out vx l SI q
       have hcl:=cls_lt HAO.out vx q hlq
       have hcl4:=lt12 HAO.out hcl
       clear hb
       generalize foldS a vx l SI q=m0 at *
       have HM0:=Hd_ hm0
       clear hm0
       go_wp2_with fail
       refine wp_region_ext_lit (by kernel_rfl) (by kernel_rfl) ?_
       repeat (go_big_quiet_step ((go_at_call 59;exact Calls.ext_of (l14Closure_any _ a q vx _ (HAV.out.keep (below_trans hbw (below_trans (ext_below _ _) (ext_below _ _)))) HAO.out hlq (by omega)))))
       refine wpQuiet_nil ?_
       rintro _ ⟨u2,rfl⟩
       obtain ⟨u3,hu3⟩:=ext_of (below_trans (ext_below wc u) (ext_below (ext wc u) u2))
       rw [hu3]
       clear hu3 u2 u
       go_wp2_with fail
       generalize cls a vx q=C at *
       go_loopw [13,16] (fun mm rr wr=>∃ (r:Nat) (u:World),r<=a.accept.length/\rr=.int .i64 (r:Int)/\mm=.int .i64 (foldFr a l C m0 r:Nat)/\wr=ext wc u) (fun _ rr _=>a.accept.length - (intOf rr).toNat)
       case atStart=>exact ⟨0,u3,Nat.zero_le _,rfl,rfl,rfl⟩
       case round =>
        obtain ⟨r,u,hr,rfl,rfl,rfl⟩:=hrel
        by_cases hlr:r < a.accept.length
        · obtain ⟨b,o,b3,o3,c3',rfl,hbb,hrw,-,-,hb3,hmvs⟩:=HAC.out.row r hlr
          have r0:=kcell hbw hrw
          have r1:=kcell hbw (hmvs l (by omega))
          have hws:=hbw.size
          have hbb':b < wc.heap.size:=by omega
          have hb3':b3 < wc.heap.size:=by omega
          have hlri:(r:Int) < (a.accept.length:Int):=by omega
          have hlz:(l:Int) < 9:=by omega
          have hft:=foldFr_lt HAO.out l C m0 r HM0.out
          have hft4:=lt12 HAO.out hft
          have hmv:=mv_lt HAO.out r l
          have HNX:=Hd_ (show foldFr a l C m0 (r+1)=if C.testBit r=true then aft1 a l (foldFr a l C m0 r) r else foldFr a l C m0 r by by_cases hb:C.testBit r=true;rw [if_pos hb,foldFr_yes hb];rw [if_neg hb,foldFr_no (by simpa using hb)])
          have HA:=Hd_ (show aft1 a l (foldFr a l C m0 r) r=if 0<=mv a r l then ins (foldFr a l C m0 r) (mv a r l).toNat else foldFr a l C m0 r from rfl)
          generalize foldFr a l C m0 r=m1 at *
          clear hrw hmvs hft
          go_wp2_with fail
          refine wp_region_ext_lit (by kernel_rfl) (by kernel_rfl) ?_
          repeat (go_big_quiet_step ((go_at_call 60;exact Calls.ext_of (HLET.out _))))
          refine wpQuiet_nil ?_
          rintro _ ⟨u2,rfl⟩
          obtain ⟨u4,hu4⟩:=ext_of (below_trans (ext_below wc u) (ext_below (ext wc u) u2))
          rw [hu4]
          cases hb:C.testBit r with
          | false =>
            have b1f:=bit_off (by omega) (by omega) hb
            have HR:=Hd_ (show m1=foldFr a l C m0 (r+1) by rw [HNX.out,if_neg (by simp [hb])])
            clear hb
            go_wp2_with fail
            go_roundw
            case rel=>exact ⟨r+1,u4,by omega,by go_num,by rw [<- HR.out],rfl⟩
            case measure=>simp [intOf];omega
          | true =>
            have b1t:=bit_on (by omega) (by omega) hb
            have HNX:=Hd_ (HNX.out.trans (if_pos hb))
            clear hb
            by_cases h0:0<=mv a r l
            · have HR:=Hd_ (show ins m1 (mv a r l).toNat=foldFr a l C m0 (r+1) by rw [HNX.out,HA.out,if_pos h0])
              generalize mv a r l=z at *
              obtain ⟨z,rfl⟩:=Int.eq_ofNat_of_zero_le h0
              have e1':=shl_bit (s:=z) (by omega)
              have e2':=or_ins (m:=m1) (s:=z) (by omega) (by omega)
              go_wp2_with fail
              go_roundw
              case rel=>exact ⟨r+1,u4,by omega,by go_num,by rw [<- HR.out];simp,rfl⟩
              case measure=>simp [intOf];omega
            · have HR:=Hd_ (show m1=foldFr a l C m0 (r+1) by rw [HNX.out,HA.out,if_neg h0])
              have h0':decide (mv a r l >= 0)=false:=by simp;omega
              go_wp2_with fail
              go_roundw
              case rel=>exact ⟨r+1,u4,by omega,by go_num,by rw [<- HR.out],rfl⟩
              case measure=>simp [intOf];omega
        · obtain rfl:r=a.accept.length:=by omega
          go_wp2_with fail
          go_roundw
          case rel=>exact ⟨q+1,u,by omega,by go_num,by rw [HFS.out],rfl⟩
          case measure=>simp [intOf];omega
   · obtain rfl:q=a.accept.length:=by omega
     have hbE:=below_trans hbw (ext_below wc u)
     go_wp2_with fail
     refine (HTO.out _).mono ?_
     rintro en w9 ⟨rfl,hb9⟩
     go_wp2_with fail
     go_ret2
     exact ⟨rfl,below_trans hbE hb9⟩
set_option maxHeartbeats 4000000 in
theorem l18Ends_any (vg va:Value) (g:Gr) (a:Au) (x SI:Nat) (w:World) (hgv:GrV 0 w.heap.size w vg g) (hav:AuV 0 w.heap.size w va a) (hgo:grOk g=true) (ha:auOk a=true) (hx:x < g.vals.length) (hSI:SI < 2 ^ a.accept.length) :
 Calls Tryz.prog 48 #[vg,va,.int .i64 (x:Int),.int .i64 (SI:Int)] w fun en w'=>en=.returned (.bool (acc a SI (valAt g x)))/\Below w.heap.size w w':=by
 have hav0:=hav
 have hgv0:=hgv
 obtain ⟨A1,n1,c1,A2,n2,c2,rfl⟩:=hgv.shape
 obtain ⟨A3,c3,A4,c4,rfl,hl3,hm3,hl4,hm4,-⟩:=hav.form ha
 have hn12:=(auOk_iff.1 ha).1.2
 have hSI4:=lt12 ha hSI
 have hb0:Below w.heap.size w ((w.alloc (.cells #[.slice A1 n1 c1,.slice A2 n2 c2] 27)).alloc (.cells #[.int .i64 a.start,.slice A3 a.accept.length c3,.slice A4 a.accept.length c4] 31)):=((Below.refl _ _).alloc (Nat.le_refl _) _).alloc (by simp) _
 obtain ⟨R,hR⟩:∃ R,R=acc a SI (valAt g x):=⟨_,rfl⟩
 rw [<- hR]
 have HR:=Hd_ (show R=(mem a.accept.length SI).any (accC a (valAt g x)) by rw [hR,acc,mem12 ha hSI])
 have HGO:=Hd_ (grOk_iff.1 hgo)
 have HAO:=Hd_ ha
 have HAV:=Hd_ hav0
 have HGV:=Hd_ hgv0
 clear hgv hav ha hgo hav0 hgv0 hSI hR
 go_enter Tryz.func48,Tryz.ntmps48
 go_wp2_with fail
 obtain ⟨W0,hW0⟩:∃ W0,W0=((w.alloc (.cells #[.slice A1 n1 c1,.slice A2 n2 c2] 27)).alloc (.cells #[.int .i64 a.start,.slice A3 a.accept.length c3,.slice A4 a.accept.length c4] 31)):=⟨_,rfl⟩
 rw [<- hW0] at hb0 ⊢
 have x0:W0.cell? ⟨w.heap.size,0,none⟩=some (.slice A1 n1 c1):=by rw [hW0];simp
 have x1:W0.cell? ⟨w.heap.size,1,none⟩=some (.slice A2 n2 c2):=by rw [hW0];simp
 have y0:W0.cell? ⟨w.heap.size+1,0,none⟩=some (.int .i64 a.start):=by rw [hW0];simp
 have y1:W0.cell? ⟨w.heap.size+1,1,none⟩=some (.slice A3 a.accept.length c3):=by rw [hW0];simp
 have y2:W0.cell? ⟨w.heap.size+1,2,none⟩=some (.slice A4 a.accept.length c4):=by rw [hW0];simp
 have hs0:w.heap.size+1+1=W0.heap.size:=by rw [hW0];simp
 try rw [hs0]
 have l0:w.heap.size+1 < W0.heap.size:=by omega
 have l00:w.heap.size < W0.heap.size:=by omega
 clear hW0 hs0
 go_loopw [9] (fun qq wr=>∃ (q:Nat) (u:World),q<=a.accept.length/\qq=.int .i64 (q:Int)/\(mem q SI).any (accC a (valAt g x))=false/\wr=ext W0 u) (fun qq _=>a.accept.length - (intOf qq).toNat)
 case atStart=>exact ⟨0,W0,Nat.zero_le _,rfl,rfl,ext_self _⟩
 case round =>
  obtain ⟨q,u,hq,rfl,hno,rfl⟩:=hrel
  have HNO:=Hd_ hno
  clear hno
  have hbE:=below_trans hb0 (ext_below W0 u)
  by_cases hlq:q < a.accept.length
  · have hqi:(q:Int) < (a.accept.length:Int):=by omega
    cases hb:SI.testBit q with
    | false =>
      have e3':=bit_off (by omega) (by omega) hb
      have HM:=Hd_ (mem_no hb)
      clear hb
      go_wp2_with fail
      go_roundw
      case rel=>exact ⟨q+1,u,by omega,by go_num,by rw [HM.out];exact HNO.out,rfl⟩
      case measure=>simp [intOf];omega
    | true =>
      have e3':=bit_on (by omega) (by omega) hb
      have HM:=Hd_ (mem_yes hb)
      have HB:=Hd_ hb
      have hacc:=l14Accepts_any _ _ g a x q (ext W0 u) (HGV.out.keep hbE) (HAV.out.keep hbE) HGO.out HAO.out hx hlq
      have HACC:=Hd_ hacc
      clear hb hacc
      cases hc:accC a (valAt g x) q with
      | true =>
        rw [hc] at HACC
        have hfin:R=true:=by rw [HR.out];exact List.any_eq_true.2 ⟨q,mem_mem.2 ⟨hlq,HB.out⟩,hc⟩
        subst hfin
        clear HR hc
        go_wp2_with fail
        refine HACC.out.mono ?_
        rintro en w1 ⟨rfl,hb1⟩
        go_wp2_with fail
        go_ret
        exact ⟨rfl,below_trans hbE hb1⟩
      | false =>
        rw [hc] at HACC
        have HC:=Hd_ hc
        clear hc
        go_wp2_with fail
        refine HACC.out.mono ?_
        rintro en w1 ⟨rfl,hb1⟩
        obtain ⟨u4,hu4⟩:=ext_of (below_trans (ext_below W0 u) hb1)
        subst hu4
        go_wp2_with fail
        go_roundw
        case rel=>exact ⟨q+1,u4,by omega,by go_num,by rw [HM.out,List.any_append,HNO.out];simp only [List.any_cons,List.any_nil,Bool.or_false,Bool.false_or];exact HC.out,rfl⟩
        case measure=>simp [intOf];omega
  · obtain rfl:q=a.accept.length:=by omega
    have hfin:R=false:=by rw [HR.out];exact HNO.out
    subst hfin
    clear HR
    go_wp2_with fail
    go_ret
    exact ⟨rfl,hbE⟩
theorem flatN_atS {xs:List Nat} {t:Nat} {x:Nat} (h:xs[t]?=some x):(xs.flatMap cN)[t]?=some (.int .i64 (x:Int)):=by
 have:=flat_at cN_len h 0 _ rfl
 simpa using this
set_option maxHeartbeats 8000000 in
set_option maxRecDepth 100000 in
theorem l18Along_any (vg va vk:Value) (g:Gr) (a:Au) (k:Wk) (w:World) (hgv:GrV 0 w.heap.size w vg g) (hav:AuV 0 w.heap.size w va a) (hkv:WkV 0 w.heap.size w vk k) (hw:walkOk g k=true) (ha:auOk a=true) :
 Calls Tryz.prog 54 #[vg,va,vk] w fun e w'=>∃ v1,e=.returned v1/\Own w.heap.size w'.heap.size w' 3 cN 1 v1 (setsL g a k (k.2.length+1))/\Below w.heap.size w w':=by
 have hgv0:=hgv
 have hav0:=hav
 obtain ⟨A1,n1,c1,A2,n2,c2,rfl⟩:=hgv.shape
 obtain ⟨A3,n3,c3,A4,n4,c4,rfl⟩:=hav.shape
 obtain ⟨A5,c5,rfl,hl5,hm5,hC5⟩:=hkv.form
 obtain ⟨⟨hn1,hn12⟩,⟨hst0,hst1⟩,-,-⟩:=auOk_iff.1 ha
 obtain ⟨s,hs⟩:∃ s:Nat,a.start=(s:Int):=⟨a.start.toNat,by omega⟩
 obtain ⟨RS,hRS⟩:∃ RS,RS=setsL g a k (k.2.length+1):=⟨_,rfl⟩
 rw [<- hRS]
 have hk0:=nodeAt_lt hw (Nat.zero_le _)
 have hk1:k.1=(nodeAt g k 0:Int):=by have h:=hk0.1;injection h
 have HAV:=Hd_ hav0
 rw [hs] at HAV ⊢
 have hb0:Below w.heap.size w (((w.alloc (.cells #[.slice A1 n1 c1,.slice A2 n2 c2] 27)).alloc (.cells #[.int .i64 (s:Int),.slice A3 n3 c3,.slice A4 n4 c4] 31)).alloc (.cells #[.int .i64 k.1,.slice A5 k.2.length c5] 39)):=(((Below.refl _ _).alloc (Nat.le_refl _) _).alloc (by simp) _).alloc (by simp;omega) _
 have hsn:s < a.accept.length:=by omega
 have e1:=shl_bit (s:=s) (by omega)
 have hS1:setsL g a k (0+1)=[bit s]:=by simp [setsL,setAt,hs]
 have hg3:=(walkOk_parts hw).2.2.1
 have HS1:=Hd_ hS1
 have HK1:=Hd_ hk1
 have HRS:=Hd_ hRS
 have HGV:=Hd_ hgv0
 have HC5:=Hd_ hC5
 have HW:=Hd_ hw
 have HA:=Hd_ ha
 have HGO:=Hd_ (walkOk_parts hw).1
 clear hgv hav hkv hgv0 hav0 hC5 hRS hS1 hk1 hk0 hs hst0 hst1 hw ha
 go_enter Tryz.func54,Tryz.ntmps54
 go_wp2_with fail
 obtain ⟨W0,hW0⟩:∃ W0,W0=(((w.alloc (.cells #[.slice A1 n1 c1,.slice A2 n2 c2] 27)).alloc (.cells #[.int .i64 (s:Int),.slice A3 n3 c3,.slice A4 n4 c4] 31)).alloc (.cells #[.int .i64 k.1,.slice A5 k.2.length c5] 39)):=⟨_,rfl⟩
 rw [<- hW0] at hb0 ⊢
 have bx:Blk W0 w.heap.size 27 #[.slice A1 n1 c1,.slice A2 n2 c2]:=by rw [hW0];exact ((Blk.new w _ _ w.heap.size rfl).alloc _).alloc _
 have by_:Blk W0 (w.heap.size+1) 31 #[.int .i64 (s:Int),.slice A3 n3 c3,.slice A4 n4 c4]:=by rw [hW0];exact (Blk.new (w.alloc _) _ _ (w.heap.size+1) (by simp)).alloc _
 have bz:Blk W0 (w.heap.size+1+1) 39 #[.int .i64 k.1,.slice A5 k.2.length c5]:=by rw [hW0];exact Blk.new ((w.alloc _).alloc _) _ _ (w.heap.size+1+1) (by simp)
 have hs0:w.heap.size+1+1+1=W0.heap.size:=by rw [hW0];simp
 have x0:W0.cell? ⟨w.heap.size,0,none⟩=some (.slice A1 n1 c1):=by exact bx.cell 0
 have x1:W0.cell? ⟨w.heap.size,1,none⟩=some (.slice A2 n2 c2):=by exact bx.cell 1
 have y0:W0.cell? ⟨w.heap.size+1,0,none⟩=some (.int .i64 (s:Int)):=by exact by_.cell 0
 have y1:W0.cell? ⟨w.heap.size+1,1,none⟩=some (.slice A3 n3 c3):=by exact by_.cell 1
 have y2:W0.cell? ⟨w.heap.size+1,2,none⟩=some (.slice A4 n4 c4):=by exact by_.cell 2
 have z0:W0.cell? ⟨w.heap.size+1+1,0,none⟩=some (.int .i64 k.1):=by exact bz.cell 0
 have z1:W0.cell? ⟨w.heap.size+1+1,1,none⟩=some (.slice A5 k.2.length c5):=by exact bz.cell 1
 try rw [hs0]
 have l2:=bz.lt
 have l1:=by_.lt
 have l0:=bx.lt
 clear hW0 bx by_ bz hs0
 go_loopw [7,8,9] (fun ss nn ii wr=>∃ i:Nat,i<=k.2.length/\ii=.int .i64 (i:Int)/\nn=.int .i64 (nodeAt g k i:Int)/\wr.ownsRow W0.heap.size 3 1 ss (setsL g a k (i+1)).length ((setsL g a k (i+1)).flatMap cN)/\Below W0.heap.size W0 wr) (fun _ _ ii _=>k.2.length - (intOf ii).toNat)
 case atStart=>exact ⟨0,Nat.zero_le _,rfl,by rw [HK1.out],by rw [HS1.out];exact World.ownsRow_lit W0 #[.int .i64 (bit s:Int)] 1 (Nat.le_refl _) (by decide) rfl,(Below.refl _ _).alloc (Nat.le_refl _) _⟩
 case round =>
  clear HS1 HK1 e1
  obtain ⟨i,hi,rfl,rfl,hrow,hbel⟩:=hrel
  have hbw2:=below_trans hb0 hbel
  have x0:=kcell hbel x0
  have x1:=kcell hbel x1
  have y0:=kcell hbel y0
  have y1:=kcell hbel y1
  have y2:=kcell hbel y2
  have z0:=kcell hbel z0
  have z1:=kcell hbel z1
  have hsz:=hbel.size
  have l0:=Nat.lt_of_lt_of_le l0 hsz
  have l1:=Nat.lt_of_lt_of_le l1 hsz
  have l2:=Nat.lt_of_lt_of_le l2 hsz
  have HROW:=Hd_ hrow
  have HBW2:=Hd_ hbw2
  clear hrow
  by_cases hlt:i < k.2.length
  · obtain ⟨st,e,hst,he,ht,hl,-,hl6⟩:=walk_step HW.out hlt
    obtain ⟨b5,o5,rfl,hb5,p0,p1⟩:=HC5.out.st hst
    have p0:=kcell hbw2 p0
    have p1:=kcell hbw2 p1
    have hb5w:=Nat.lt_of_lt_of_le hb5 hbw2.size
    obtain ⟨hna,hnl⟩:=nodeAt_lt HW.out hi
    have hrow:=HROW.out
    rw [setsL_len] at hrow
    obtain ⟨gS,cS,rfl,hgS,hgS2,-,-⟩:=own_some hrow (by omega)
    have s0:=(World.ownsRow.cellAt hrow i (by omega)).trans (flatN_atS (setsL_at (g:=g) (a:=a) (k:=k) (show i < i+1 by omega)))
    have HSA:=Hd_ (show setAt g a k (i+1)=aft a (setAt g a k i) (valAt g (nodeAt g k i)) (letAt g k i) from rfl)
    have HSN:=Hd_ (setsL_snoc g a k (i+1))
    have hsla:=setAt_lt HA.out k i (g:=g)
    have hsla4:=lt12 HA.out hsla
    have hsal:=setsL_len g a k (i+1)
    obtain ⟨sid,sinv⟩:=st
    simp only at p0 p1
    have HNX:=Hd_ (fun (W:World) (hW:Below w.heap.size w W)=>by
     have h:=l18Next_any _ _ g a (nodeAt g k i) (setAt g a k i) (sid,sinv) e (letAt g k i) W (HGV.out.keep hW) (HAV.out.keep hW) (grOk_iff.2 HGO.out) HA.out hnl hsla he hl
     rw [ht,<- HSA.out] at h
     exact h)
    generalize setAt g a k (i+1)=SJ at *
    generalize setAt g a k i=SI at *
    obtain ⟨NJ,hNJ⟩:∃ NJ,NJ=nodeAt g k (i+1):=⟨_,rfl⟩
    have HNJ:=Hd_ hNJ
    rw [<- hNJ] at HNX
    clear hNJ
    generalize nodeAt g k i=NI at *
    generalize setsL g a k (i+1)=SX at *
    have hki:(i:Int) < (k.2.length:Int):=by omega
    have hii1:(i:Int) < (i:Int)+1:=by omega
    clear hst he ht hl hna hrow hsla
    go_wp2_with fail
    refine wp_region_ext_lit (by kernel_rfl) (by kernel_rfl) ?_
    repeat (go_big_quiet_step ((go_at_call 34;exact Calls.ext_of (HNX.out _ (below_trans HBW2.out (ext_below _ _))))))
    refine wpQuiet_nil ?_
    rintro _ ⟨u2,rfl⟩
    have hbu:=ext_below wr u2
    have HR2:=Hd_ (ownsRow_below HROW.out hbu (Nat.le_refl _))
    have hz2:W0.heap.size<=(ext wr u2).heap.size:=Nat.le_trans hsz hbu.size
    have hbel2:=hbel.trans (hbu.mono hsz)
    rw [hsal] at HR2
    generalize ext wr u2=wx at *
    go_wp2_with (at_builtin;(refine wpList_append1 cN elInt rfl _ _ rfl W0.heap.size _ SX SJ _ 1 _ (by rfl) (by rw [hsal];exact HR2.out) (by rfl) rfl rfl rfl (cN_one _) (by omega) (by omega) (by omega) ?_);intro v' w4 hrow' hb4 _ _)
    go_roundw
    case rel=>exact ⟨i+1,by omega,by go_num,by rw [HNJ.out],by rw [HSN.out];exact hrow',hbel2.trans hb4⟩
    case measure=>simp [intOf];omega
  · obtain rfl:i=k.2.length:=by omega
    have hrow:=HROW.out
    rw [setsL_len] at hrow
    obtain ⟨gS,cS,rfl,hgS,hgS2,-,-⟩:=own_some hrow (by omega)
    have hoS:=Own.of_row (xs:=setsL g a k (k.2.length+1)) (ownsRow_mono (b:=w.heap.size) HROW.out hb0.size) (by rw [setsL_len]) rfl
    rw [<- HRS.out] at hoS
    have HOS:=Hd_ hoS
    clear hrow hoS
    go_wp2_with fail
    go_ret
    exact ⟨_,rfl,HOS.out,HBW2.out⟩
set_option maxHeartbeats 4000000 in
set_option maxRecDepth 100000 in
theorem specMatchesWalk (vg va vk:Value) (g:Gr) (a:Au) (k:Wk) (w:World) (hgv:GrV 0 w.heap.size w vg g) (hav:AuV 0 w.heap.size w va a) (hkv:WkV 0 w.heap.size w vk k) :
 Calls Tryz.prog 30 #[vg,va,vk] w fun e w'=>e=.returned (.bool (matchB g a k))/\Below w.heap.size w w':=by
 have hgv0:=hgv
 have hav0:=hav
 have hkv0:=hkv
 obtain ⟨A1,n1,c1,A2,n2,c2,rfl⟩:=hgv.shape
 obtain ⟨A3,n3,c3,A4,n4,c4,rfl⟩:=hav.shape
 obtain ⟨A5,n5,c5,rfl⟩:=hkv.shape
 have hb0:Below w.heap.size w (((w.alloc (.cells #[.slice A1 n1 c1,.slice A2 n2 c2] 27)).alloc (.cells #[.int .i64 a.start,.slice A3 n3 c3,.slice A4 n4 c4] 31)).alloc (.cells #[.int .i64 k.1,.slice A5 n5 c5] 39)):=(((Below.refl _ _).alloc (Nat.le_refl _) _).alloc (by simp) _).alloc (by simp;omega) _
 obtain ⟨R,hR⟩:∃ R,R=matchB g a k:=⟨_,rfl⟩
 rw [<- hR]
 have HR:=Hd_ hR
 have HGV:=Hd_ hgv0
 have HAV:=Hd_ hav0
 have HKV:=Hd_ hkv0
 clear hgv hav hkv hgv0 hav0 hkv0 hR
 go_enter Tryz.func30,Tryz.ntmps30
 go_wp2_with fail
 obtain ⟨W0,hW0⟩:∃ W0,W0=(((w.alloc (.cells #[.slice A1 n1 c1,.slice A2 n2 c2] 27)).alloc (.cells #[.int .i64 a.start,.slice A3 n3 c3,.slice A4 n4 c4] 31)).alloc (.cells #[.int .i64 k.1,.slice A5 n5 c5] 39)):=⟨_,rfl⟩
 rw [<- hW0] at hb0 ⊢
 have bx:Blk W0 w.heap.size 27 #[.slice A1 n1 c1,.slice A2 n2 c2]:=by rw [hW0];exact ((Blk.new w _ _ w.heap.size rfl).alloc _).alloc _
 have by_:Blk W0 (w.heap.size+1) 31 #[.int .i64 a.start,.slice A3 n3 c3,.slice A4 n4 c4]:=by rw [hW0];exact (Blk.new (w.alloc _) _ _ (w.heap.size+1) (by simp)).alloc _
 have bz:Blk W0 (w.heap.size+1+1) 39 #[.int .i64 k.1,.slice A5 n5 c5]:=by rw [hW0];exact Blk.new ((w.alloc _).alloc _) _ _ (w.heap.size+1+1) (by simp)
 have x0:W0.cell? ⟨w.heap.size,0,none⟩=some (.slice A1 n1 c1):=by exact bx.cell 0
 have x1:W0.cell? ⟨w.heap.size,1,none⟩=some (.slice A2 n2 c2):=by exact bx.cell 1
 have y0:W0.cell? ⟨w.heap.size+1,0,none⟩=some (.int .i64 a.start):=by exact by_.cell 0
 have y1:W0.cell? ⟨w.heap.size+1,1,none⟩=some (.slice A3 n3 c3):=by exact by_.cell 1
 have y2:W0.cell? ⟨w.heap.size+1,2,none⟩=some (.slice A4 n4 c4):=by exact by_.cell 2
 have z0:W0.cell? ⟨w.heap.size+1+1,0,none⟩=some (.int .i64 k.1):=by exact bz.cell 0
 have z1:W0.cell? ⟨w.heap.size+1+1,1,none⟩=some (.slice A5 n5 c5):=by exact bz.cell 1
 have l2:=bz.lt
 have l1:=by_.lt
 have l0:=bx.lt
 clear hW0 bx by_ bz
 have hiw:=specIsWalk _ _ g k W0 (HGV.out.keep hb0) (HKV.out.keep hb0)
 have HIW:=Hd_ hiw
 clear hiw
 cases hw:walkOk g k with
 | false =>
   rw [hw] at HIW
   have hfin:R=false:=by rw [HR.out,matchB,hw];rfl
   subst hfin
   clear HR hw
   refine HIW.out.mono ?_
   rintro e w1 ⟨rfl,hb1⟩
   go_wp2_with fail
   go_ret
   exact ⟨rfl,below_trans hb0 hb1⟩
 | true =>
   rw [hw] at HIW
   refine HIW.out.mono ?_
   rintro e w1 ⟨rfl,hb1⟩
   have hb2:=below_trans hb0 hb1
   have x0:=kcell hb1 x0
   have x1:=kcell hb1 x1
   have y0:=kcell hb1 y0
   have y1:=kcell hb1 y1
   have y2:=kcell hb1 y2
   have z0:=kcell hb1 z0
   have z1:=kcell hb1 z1
   have hs1:=hb1.size
   have l0:=Nat.lt_of_lt_of_le l0 hs1
   have l1:=Nat.lt_of_lt_of_le l1 hs1
   have l2:=Nat.lt_of_lt_of_le l2 hs1
   have hva:=specValidAutomaton _ a w1 (HAV.out.keep hb2)
   have HVA:=Hd_ hva
   clear hva
   cases ha:auOk a with
   | false =>
     rw [ha] at HVA
     have hfin:R=false:=by rw [HR.out,matchB,hw,ha];rfl
     subst hfin
     clear HR hw ha
     go_wp2_with fail
     refine HVA.out.mono ?_
     rintro e w3 ⟨rfl,hb3⟩
     go_wp2_with fail
     go_ret
     exact ⟨rfl,below_trans hb2 hb3⟩
   | true =>
     rw [ha] at HVA
     have hfin:R=acc a (setAt g a k k.2.length) (valAt g (nodeAt g k k.2.length)):=by rw [HR.out,matchB,hw,ha];simp
     have hl60:=(walkOk_parts hw).2.2.1
     have hgo:=(walkOk_parts hw).1
     obtain ⟨hna,hnl⟩:=nodeAt_lt hw (Nat.le_refl _)
     have hsla:=setAt_lt ha k k.2.length (g:=g)
     have HLA:=Hd_ (fun (W:World) (hW:Below w.heap.size w W)=>l18Along_any _ _ _ g a k W (HGV.out.keep hW) (HAV.out.keep hW) (HKV.out.keep hW) hw ha)
     have HWE:=Hd_ (fun (W:World) (hW:Below w.heap.size w W)=>by
      have h:=specWalkEnd _ _ g k W (HGV.out.keep hW) (HKV.out.keep hW)
      rw [walkEnd,if_pos hw] at h
      exact h)
     have HLE:=Hd_ (fun (W:World) (hW:Below w.heap.size w W)=>l18Ends_any _ _ g a (nodeAt g k k.2.length) (setAt g a k k.2.length) W (HGV.out.keep hW) (HAV.out.keep hW) (grOk_iff.2 hgo) ha hnl hsla)
     rw [<- hfin] at HLE
     have hs1:=setsL_at (g:=g) (a:=a) (k:=k) (show k.2.length < k.2.length+1 by omega)
     have HS1:=Hd_ hs1
     clear HR hfin hw ha hna hnl hsla hgo hs1
     go_wp2_with fail
     refine HVA.out.mono ?_
     rintro e w3 ⟨rfl,hb3⟩
     have hb4:=below_trans hb2 hb3
     have x0:=kcell hb3 x0
     have x1:=kcell hb3 x1
     have y0:=kcell hb3 y0
     have y1:=kcell hb3 y1
     have y2:=kcell hb3 y2
     have z0:=kcell hb3 z0
     have z1:=kcell hb3 z1
     have hs3:=hb3.size
     have l0:=Nat.lt_of_lt_of_le l0 hs3
     have l1:=Nat.lt_of_lt_of_le l1 hs3
     have l2:=Nat.lt_of_lt_of_le l2 hs3
     go_wp2_with fail
     refine (HLA.out _ hb4).mono ?_
     rintro e w5 ⟨v1,rfl,ho1,hb5⟩
     have HB:=Hd_ (below_trans hb4 hb5)
     have x0:=kcell hb5 x0
     have x1:=kcell hb5 x1
     have y0:=kcell hb5 y0
     have y1:=kcell hb5 y1
     have y2:=kcell hb5 y2
     have z0:=kcell hb5 z0
     have z1:=kcell hb5 z1
     have hs5:=hb5.size
     have l0:=Nat.lt_of_lt_of_le l0 hs5
     have l1:=Nat.lt_of_lt_of_le l1 hs5
     have l2:=Nat.lt_of_lt_of_le l2 hs5
     have r1:=ho1.1
     rw [setsL_len] at r1
     obtain ⟨gS,cS,rfl,-,hgS,-,-⟩:=own_some r1 (by omega)
     have s0:=(World.ownsRow.cellAt r1 k.2.length (by omega)).trans (flatN_atS HS1.out)
     have m1:((k.2.length:Int)+1) - 1=(k.2.length:Int):=by omega
     generalize setAt g a k k.2.length=SI at *
     generalize nodeAt g k k.2.length=NI at *
     clear r1 ho1 hb0 hb1 hb2 hb3 hb4 hb5
     go_wp2_with fail
     refine wp_region_ext_lit (by kernel_rfl) (by kernel_rfl) ?_
     repeat (go_big_quiet_step ((first | (go_at_call 31;exact Calls.ext_of (HWE.out _ (below_trans HB.out (ext_below _ _)))) | (go_at_call 48;exact Calls.ext_of (HLE.out _ (below_trans HB.out (ext_below _ _)))))))
     refine wpQuiet_nil ?_
     rintro _ ⟨u2,rfl⟩
     go_wp2_with fail
     go_ret
     exact ⟨rfl,below_trans HB.out (ext_below _ _)⟩
theorem isWit_spec (g:Gr) (a:Au) (x y:Int) (k:Wk):isWit g a x y k=((matchB g a k && k.1==x) && walkEnd g k==y):=by
 unfold isWit
 cases matchB g a k <;> cases (k.1==x) <;> simp
set_option maxHeartbeats 4000000 in
theorem specIsWitness (vg va vk:Value) (g:Gr) (a:Au) (x y:Int) (k:Wk) (w:World) (hgv:GrV 0 w.heap.size w vg g) (hav:AuV 0 w.heap.size w va a) (hkv:WkV 0 w.heap.size w vk k) :
 Calls Tryz.prog 13 #[vg,va,.int .i64 x,.int .i64 y,vk] w fun e w'=>e=.returned (.bool (isWit g a x y k))/\Below w.heap.size w w':=by
 have hgv0:=hgv
 have hav0:=hav
 have hkv0:=hkv
 obtain ⟨A1,n1,c1,A2,n2,c2,rfl⟩:=hgv.shape
 obtain ⟨A3,n3,c3,A4,n4,c4,rfl⟩:=hav.shape
 obtain ⟨A5,n5,c5,rfl⟩:=hkv.shape
 have hb0:Below w.heap.size w (((w.alloc (.cells #[.slice A1 n1 c1,.slice A2 n2 c2] 27)).alloc (.cells #[.int .i64 a.start,.slice A3 n3 c3,.slice A4 n4 c4] 31)).alloc (.cells #[.int .i64 k.1,.slice A5 n5 c5] 39)):=(((Below.refl _ _).alloc (Nat.le_refl _) _).alloc (by simp) _).alloc (by simp;omega) _
 obtain ⟨R,hR⟩:∃ R,R=isWit g a x y k:=⟨_,rfl⟩
 rw [<- hR]
 have HR:=Hd_ (hR.trans (isWit_spec g a x y k))
 have HGV:=Hd_ hgv0
 have HAV:=Hd_ hav0
 have HKV:=Hd_ hkv0
 clear hgv hav hkv hgv0 hav0 hkv0 hR
 have HMW:=Hd_ (fun (W:World) (hW:Below w.heap.size w W)=>specMatchesWalk _ _ _ g a k W (HGV.out.keep hW) (HAV.out.keep hW) (HKV.out.keep hW))
 have HWE:=Hd_ (fun (W:World) (hW:Below w.heap.size w W)=>specWalkEnd _ _ g k W (HGV.out.keep hW) (HKV.out.keep hW))
 go_enter Tryz.func13,Tryz.ntmps13
 generalize walkEnd g k=we at HR HWE
 go_wp2_with fail
 obtain ⟨W0,hW0⟩:∃ W0,W0=(((w.alloc (.cells #[.slice A1 n1 c1,.slice A2 n2 c2] 27)).alloc (.cells #[.int .i64 a.start,.slice A3 n3 c3,.slice A4 n4 c4] 31)).alloc (.cells #[.int .i64 k.1,.slice A5 n5 c5] 39)):=⟨_,rfl⟩
 rw [<- hW0] at hb0 ⊢
 have bx:Blk W0 w.heap.size 27 #[.slice A1 n1 c1,.slice A2 n2 c2]:=by rw [hW0];exact ((Blk.new w _ _ w.heap.size rfl).alloc _).alloc _
 have by_:Blk W0 (w.heap.size+1) 31 #[.int .i64 a.start,.slice A3 n3 c3,.slice A4 n4 c4]:=by rw [hW0];exact (Blk.new (w.alloc _) _ _ (w.heap.size+1) (by simp)).alloc _
 have bz:Blk W0 (w.heap.size+1+1) 39 #[.int .i64 k.1,.slice A5 n5 c5]:=by rw [hW0];exact Blk.new ((w.alloc _).alloc _) _ _ (w.heap.size+1+1) (by simp)
 have x0:W0.cell? ⟨w.heap.size,0,none⟩=some (.slice A1 n1 c1):=by exact bx.cell 0
 have x1:W0.cell? ⟨w.heap.size,1,none⟩=some (.slice A2 n2 c2):=by exact bx.cell 1
 have y0:W0.cell? ⟨w.heap.size+1,0,none⟩=some (.int .i64 a.start):=by exact by_.cell 0
 have y1:W0.cell? ⟨w.heap.size+1,1,none⟩=some (.slice A3 n3 c3):=by exact by_.cell 1
 have y2:W0.cell? ⟨w.heap.size+1,2,none⟩=some (.slice A4 n4 c4):=by exact by_.cell 2
 have z0:W0.cell? ⟨w.heap.size+1+1,0,none⟩=some (.int .i64 k.1):=by exact bz.cell 0
 have z1:W0.cell? ⟨w.heap.size+1+1,1,none⟩=some (.slice A5 n5 c5):=by exact bz.cell 1
 clear hW0 bx by_ bz
 refine (HMW.out W0 hb0).mono ?_
 rintro e w1 ⟨rfl,hb1⟩
 have hb2:=below_trans hb0 hb1
 have x0:=kcell hb1 x0
 have x1:=kcell hb1 x1
 have y0:=kcell hb1 y0
 have y1:=kcell hb1 y1
 have y2:=kcell hb1 y2
 have z0:=kcell hb1 z0
 have z1:=kcell hb1 z1
 cases h0:matchB g a k with
 | false =>
   have hfin:R=false:=by rw [HR.out,h0];rfl
   subst hfin
   clear HR
   go_wp2_with fail
   go_ret
   exact ⟨rfl,hb2⟩
 | true =>
   rw [h0,Bool.true_and] at HR
   cases h1:(k.1==x) with
   | false =>
     have hfin:R=false:=by rw [HR.out,h1];rfl
     subst hfin
     clear HR
     go_wp2_with fail
     go_ret
     exact ⟨rfl,hb2⟩
   | true =>
     rw [h1,Bool.true_and] at HR
     cases h2:(we==y) with
     | false =>
       have hfin:R=false:=by rw [HR.out,h2]
       subst hfin
       clear HR
       go_wp2_with fail
       refine (HWE.out w1 hb2).mono ?_
       rintro e w3 ⟨rfl,hb3⟩
       go_wp2_with fail
       go_ret
       exact ⟨rfl,below_trans hb2 hb3⟩
     | true =>
       have hfin:R=true:=by rw [HR.out,h2]
       subst hfin
       clear HR
       go_wp2_with fail
       refine (HWE.out w1 hb2).mono ?_
       rintro e w3 ⟨rfl,hb3⟩
       go_wp2_with fail
       go_ret
       exact ⟨rfl,below_trans hb2 hb3⟩
end Go.Proofs.YteaplabkemoenaaGreat
namespace Go.Proofs.YteaplabkemoenaaGreat
open Go.ChangeShapes Go.WideShapes Go.ChangeAt Go.RowKit
def cntC (g:Gr) (a:Au) (rec:Nat->Nat->Nat->Int) (x s used:Nat) (n:Int) (p:Arc):Int :=
 if aft a s (valAt g x) p.2.1.toNat=0 ∨ used.testBit p.2.2.toNat=true then n
 else wrap64 (n+rec p.2.2.toNat (aft a s (valAt g x) p.2.1.toNat) (ins used p.2.2.toNat))
def cnt0 (g:Gr) (a:Au) (y:Int) (x s:Nat):Int:=if decide ((x:Int)=y) && acc a s (valAt g x) then 1 else 0
def cnt (g:Gr) (a:Au) (y:Int):Nat->Nat->Nat->Nat->Int
 | 0,_,_,_=>0
 | f+1,x,s,used=>(arcsOf g (x:Int)).foldl (cntC g a (cnt g a y f) x s used) (cnt0 g a y x s)
theorem arc_stepEd {g:Gr} (hgo:grOk g=true) {x:Int} {p:Arc} (hp:p ∈ arcsOf g x):∃ e:Ed,stepEd g p.1.1=some e/\arcLetter p.1.2 e=p.2.1/\arcTo p.1.2 e=p.2.2:=by
 have hg:=grOk_iff.1 hgo
 obtain ⟨i,e,hi,hie,hl,ht,hid,hm⟩:=arc_edge hg hp
 cases hs:stepEd g p.1.1 with
 | none =>
   rw [stepEd,if_pos hgo,List.find?_eq_none] at hs
   exact absurd (hs e hm) (by simp [hid])
 | some e2 =>
   obtain ⟨ix,h1,h2⟩:=stepEd_idx hs
   have:ix=i:=by omega
   subst this
   rw [hie] at h2
   injection h2 with h2
   subst h2
   exact ⟨e,rfl,hl.symm,ht.symm⟩
def cntOk (g:Gr) (a:Au) (x y:Int):Bool:=wi x 0 ((g.vals.length:Int) - 1) && (wi y 0 ((g.vals.length:Int) - 1) && (grOk g && auOk a))
def cwStep (g:Gr) (a:Au) (rec:Nat->Nat->Nat) (x s n:Nat) (p:Arc):Nat:=min 1000000 (n+rec p.2.2.toNat (aft a s (valAt g x) p.2.1.toNat))
/-- the walks of f steps from node x with states s to y, at most a million -/
def cw (g:Gr) (a:Au) (y:Int):Nat->Nat->Nat->Nat
 | 0,x,s=>if (decide ((x:Int)=y) && acc a s (valAt g x))=true then 1 else 0
 | f+1,x,s=>(arcsOf g (x:Int)).foldl (cwStep g a (cw g a y f) x s) 0
def cwTo (g:Gr) (a:Au) (y:Int) (f x s i:Nat):Nat:=((arcsOf g (x:Int)).take i).foldl (cwStep g a (cw g a y f) x s) 0
theorem cwTo_all (g:Gr) (a:Au) (y:Int) (f x s:Nat):cwTo g a y f x s (arcsOf g (x:Int)).length=cw g a y (f+1) x s:=by rw [cwTo,List.take_length];rfl
theorem cwTo_succ {g:Gr} {a:Au} {y:Int} {f x s i:Nat} {p:Arc} (h:(arcsOf g (x:Int))[i]?=some p):cwTo g a y f x s (i+1)=cwStep g a (cw g a y f) x s (cwTo g a y f x s i) p:=foldl_take h _
theorem mem_of_zero:∀ k:Nat,mem k 0=[]
 | 0=>rfl
 | k+1=>by rw [mem_no (by simp),mem_of_zero k]
theorem aft_none (a:Au) (v l:Nat):aft a 0 v l=0:=by rw [aft,mem_of_zero];rfl
theorem acc_none (a:Au) (v:Nat):acc a 0 v=false:=by rw [acc,mem_of_zero];rfl
theorem foldl_le {g:Gr} {a:Au} {rec:Nat->Nat->Nat} {x s:Nat}:∀ (l:List Arc) (n:Nat),n<=1000000->l.foldl (cwStep g a rec x s) n<=1000000
 | [],n,h=>h
 | p :: l,n,h=>foldl_le l _ (Nat.min_le_left _ _)
theorem cw_le (g:Gr) (a:Au) (y:Int) (f x s:Nat):cw g a y f x s<=1000000:=by
 cases f with
 | zero=>rw [cw];split <;> omega
 | succ f=>exact foldl_le _ 0 (by omega)
theorem cwTo_le (g:Gr) (a:Au) (y:Int) (f x s i:Nat):cwTo g a y f x s i<=1000000:=foldl_le _ 0 (by omega)
theorem cw_none (g:Gr) (a:Au) (y:Int):∀ (f x:Nat),cw g a y f x 0=0
 | 0,x=>by rw [cw,acc_none];simp
 | f+1,x=>by
   rw [cw]
   generalize arcsOf g (x:Int)=l
   induction l with
   | nil=>rfl
   | cons p l ih =>
     rw [List.foldl_cons,cwStep,aft_none,cw_none g a y f]
     exact ih
abbrev Key:=Nat × Nat
def findK (N:List Key) (k:Key):Option Nat:=N.findIdx? (fun z=>z==k)
theorem findK_some {N:List Key} {k:Key} {i:Nat} (h:findK N k=some i):N[i]?=some k:=by
 obtain ⟨h1,h2,-⟩:=List.findIdx?_eq_some_iff_getElem.1 h
 rw [List.getElem?_eq_getElem h1]
 congr 1
 simpa using h2
abbrev LSt:=List Key × List (St × Nat)
def arcL (g:Gr) (a:Au) (x s:Nat) (st:LSt) (p:Arc):LSt :=
 if aft a s (valAt g x) p.2.1.toNat=0 then st else
 match findK st.1 (p.2.2.toNat,aft a s (valAt g x) p.2.1.toNat) with
 | some i=>(st.1,st.2 ++ [(p.1,i)])
 | none=>(st.1 ++ [(p.2.2.toNat,aft a s (valAt g x) p.2.1.toNat)],st.2 ++ [(p.1,st.1.length)])
def rowL (g:Gr) (a:Au) (N:List Key) (x s:Nat):LSt:=(arcsOf g (x:Int)).foldl (arcL g a x s) (N,[])
def cntL (C:List Nat) (n:Nat) (e:St × Nat):Nat:=min 1000000 (n+C.getD e.2 0)
inductive RowR (g:Gr) (a:Au) (x s:Nat) (N:List Key):List Arc->List (St × Nat)->Prop
 | nil:RowR g a x s N [] []
 | skip {p:Arc} {l:List Arc} {T:List (St × Nat)}:aft a s (valAt g x) p.2.1.toNat=0->RowR g a x s N l T->RowR g a x s N (p :: l) T
 | take {p:Arc} {l:List Arc} {T:List (St × Nat)} {i:Nat}:aft a s (valAt g x) p.2.1.toNat ≠ 0->N[i]?=some (p.2.2.toNat,aft a s (valAt g x) p.2.1.toNat)->RowR g a x s N l T->RowR g a x s N (p :: l) ((p.1,i) :: T)
theorem RowR.more {g:Gr} {a:Au} {x s:Nat} {N:List Key} {l:List Arc} {T:List (St × Nat)} (h:RowR g a x s N l T) (N3:List Key):RowR g a x s (N ++ N3) l T:=by
 induction h with
 | nil=>exact .nil
 | skip h1 _ ih=>exact .skip h1 ih
 | take h1 h2 _ ih=>exact .take h1 (by rw [List.getElem?_append_left (List.getElem?_eq_some_iff.1 h2).1];exact h2) ih
/-- the fold of a row's making, told at each prefix of the arcs -/
def rowTk (g:Gr) (a:Au) (N:List Key) (x s k:Nat):LSt:=((arcsOf g (x:Int)).take k).foldl (arcL g a x s) (N,[])
theorem rowTk_succ {g:Gr} {a:Au} {N:List Key} {x s k:Nat} {p:Arc} (h:(arcsOf g (x:Int))[k]?=some p):rowTk g a N x s (k+1)=arcL g a x s (rowTk g a N x s k) p:=foldl_take h _
theorem rowTk_all (g:Gr) (a:Au) (N:List Key) (x s:Nat):rowTk g a N x s (arcsOf g (x:Int)).length=rowL g a N x s:=by rw [rowTk,List.take_length];rfl
theorem arcs_row {g:Gr} {a:Au} {x s:Nat}:∀ (l:List Arc) (N:List Key) (T:List (St × Nat)),
 ∃ N2 T2,l.foldl (arcL g a x s) (N,T)=(N ++ N2,T ++ T2)/\RowR g a x s (N ++ N2) l T2
 | [],N,T=>⟨[],[],by simp,.nil⟩
 | p :: l,N,T=>by
   by_cases h0:aft a s (valAt g x) p.2.1.toNat=0
   · obtain ⟨N2,T2,h1,h2⟩:=arcs_row (g:=g) (a:=a) (x:=x) (s:=s) l N T
     exact ⟨N2,T2,by rw [List.foldl_cons,arcL,if_pos h0,h1],.skip h0 h2⟩
   · cases hf:findK N (p.2.2.toNat,aft a s (valAt g x) p.2.1.toNat) with
     | some i =>
       obtain ⟨N2,T2,h1,h2⟩:=arcs_row (g:=g) (a:=a) (x:=x) (s:=s) l N (T ++ [(p.1,i)])
       have hk:=findK_some hf
       refine ⟨N2,(p.1,i) :: T2,by rw [List.foldl_cons,arcL,if_neg h0];simp only [hf];rw [h1,List.append_assoc];rfl,.take h0 ?_ h2⟩
       rw [List.getElem?_append_left (List.getElem?_eq_some_iff.1 hk).1];exact hk
     | none =>
       obtain ⟨N2,T2,h1,h2⟩:=arcs_row (g:=g) (a:=a) (x:=x) (s:=s) l (N ++ [(p.2.2.toNat,aft a s (valAt g x) p.2.1.toNat)]) (T ++ [(p.1,N.length)])
       refine ⟨(p.2.2.toNat,aft a s (valAt g x) p.2.1.toNat) :: N2,(p.1,N.length) :: T2,by rw [List.foldl_cons,arcL,if_neg h0];simp only [hf];rw [h1,List.append_assoc,List.append_assoc];rfl,.take h0 ?_ ?_⟩
       · rw [List.getElem?_append_right (Nat.le_refl _),Nat.sub_self];rfl
       · simpa using h2
theorem rowL_row (g:Gr) (a:Au) (N:List Key) (x s:Nat):∃ N2,(rowL g a N x s).1=N ++ N2/\RowR g a x s (N ++ N2) (arcsOf g (x:Int)) (rowL g a N x s).2:=by
 obtain ⟨N2,T2,h1,h2⟩:=arcs_row (g:=g) (a:=a) (x:=x) (s:=s) (arcsOf g (x:Int)) N []
 rw [List.nil_append] at h1
 exact ⟨N2,by rw [rowL,h1],by rw [rowL,h1];exact h2⟩
/-- the layer, told at each prefix of its rows -/
def layTo (g:Gr) (a:Au) (last:List Key) (i:Nat):List Key × List (List (St × Nat)) :=
 (last.take i).foldl (fun st k=>((rowL g a st.1 k.1 k.2).1,st.2 ++ [(rowL g a st.1 k.1 k.2).2])) ([],[])
theorem layTo_succ {g:Gr} {a:Au} {last:List Key} {i:Nat} {k:Key} (h:last[i]?=some k) :
 layTo g a last (i+1)=((rowL g a (layTo g a last i).1 k.1 k.2).1,(layTo g a last i).2 ++ [(rowL g a (layTo g a last i).1 k.1 k.2).2]):=by
 rw [layTo,foldl_take h];rfl
def layA (g:Gr) (a:Au) (last:List Key):List Key × List (List (St × Nat)):=layTo g a last last.length
theorem layTo_row (g:Gr) (a:Au) (last:List Key):∀ i,i<=last.length->(layTo g a last i).2.length=i/\∀ (j:Nat) (k:Key) (T:List (St × Nat)),last[j]?=some k->(layTo g a last i).2[j]?=some T->RowR g a k.1 k.2 (layTo g a last i).1 (arcsOf g (k.1:Int)) T
 | 0,_=>⟨rfl,fun j k T _ hT=>by simp [layTo] at hT⟩
 | i+1,hi=>by
   obtain ⟨h1,h2⟩:=layTo_row g a last i (by omega)
   have hk:last[i]?=some last[i]:=List.getElem?_eq_getElem (by omega)
   generalize last[i]=k0 at hk
   obtain ⟨N2,g1,g2⟩:=rowL_row g a (layTo g a last i).1 k0.1 k0.2
   rw [layTo_succ hk]
   refine ⟨by simp [h1],fun j k T hj hT=>?_⟩
   simp only at hT ⊢
   rcases Nat.lt_or_ge j i with hlt | hge
   · rw [List.getElem?_append_left (by omega)] at hT
     rw [g1]
     exact (h2 j k T hj hT).more N2
   · rw [List.getElem?_append_right (by omega),h1] at hT
     have hj0:j - i=0:=by
      have:=(List.getElem?_eq_some_iff.1 hT).1
      simp at this;omega
     rw [hj0] at hT
     simp only [List.getElem?_cons_zero,Option.some.injEq] at hT
     obtain rfl:j=i:=by omega
     rw [hk] at hj
     injection hj with hj
     subst hj hT
     rw [g1]
     exact g2
theorem layA_row (g:Gr) (a:Au) (last:List Key):(layA g a last).2.length=last.length/\∀ (j:Nat) (k:Key) (T:List (St × Nat)),last[j]?=some k->(layA g a last).2[j]?=some T->RowR g a k.1 k.2 (layA g a last).1 (arcsOf g (k.1:Int)) T:=layTo_row g a last _ (Nat.le_refl _)
theorem RowR.cnt {g:Gr} {a:Au} {y:Int} {f x s:Nat} {N:List Key} {C:List Nat} (hC:∀ i k,N[i]?=some k->C.getD i 0=cw g a y f k.1 k.2) {l:List Arc} {T:List (St × Nat)} (h:RowR g a x s N l T) :
 ∀ n,n<=1000000->T.foldl (cntL C) n=l.foldl (cwStep g a (cw g a y f) x s) n:=by
 induction h with
 | nil=>intro n _;rfl
 | skip h1 _ ih =>
   intro n hn
   rw [List.foldl_cons,cwStep,h1,cw_none,Nat.add_zero,Nat.min_eq_right hn]
   exact ih n hn
 | take h1 h2 _ ih =>
   intro n hn
   rw [List.foldl_cons,List.foldl_cons,cntL,cwStep,hC _ _ h2]
   exact ih _ (Nat.min_le_left _ _)
/-- the first of l before which fewer than n are counted: and what is left of n -/
def pick {α:Type} (k:α->Nat):List α->Nat->Option (α × Nat)
 | [],_=>none
 | p :: l,n=>if n < k p then some (p,n) else pick k l (n - k p)
def cwAt (g:Gr) (a:Au) (y:Int) (f x s:Nat) (p:Arc):Nat:=cw g a y f p.2.2.toNat (aft a s (valAt g x) p.2.1.toNat)
theorem RowR.pick {g:Gr} {a:Au} {y:Int} {f x s:Nat} {N:List Key} {C:List Nat} (hC:∀ i k,N[i]?=some k->C.getD i 0=cw g a y f k.1 k.2) {l:List Arc} {T:List (St × Nat)} (h:RowR g a x s N l T) :
 ∀ n,(pick (fun e:St × Nat=>C.getD e.2 0) T n=none/\Go.Proofs.YteaplabkemoenaaGreat.pick (cwAt g a y f x s) l n=none) ∨
   ∃ p i n',pick (fun e:St × Nat=>C.getD e.2 0) T n=some ((p.1,i),n')/\Go.Proofs.YteaplabkemoenaaGreat.pick (cwAt g a y f x s) l n=some (p,n')/\N[i]?=some (p.2.2.toNat,aft a s (valAt g x) p.2.1.toNat)/\p ∈ l:=by
 induction h with
 | nil=>intro n;exact .inl ⟨rfl,rfl⟩
 | @skip p0 l0 T0 h1 _ ih =>
   intro n
   have hz:¬ n < cwAt g a y f x s p0:=by rw [cwAt,h1,cw_none];omega
   have hz2:n - cwAt g a y f x s p0=n:=by rw [cwAt,h1,cw_none];omega
   rcases ih n with ⟨e1,e2⟩ | ⟨p,i,n',e1,e2,e3,e4⟩
   · exact .inl ⟨e1,by rw [Go.Proofs.YteaplabkemoenaaGreat.pick,if_neg hz,hz2,e2]⟩
   · exact .inr ⟨p,i,n',e1,by rw [Go.Proofs.YteaplabkemoenaaGreat.pick,if_neg hz,hz2,e2],e3,List.mem_cons_of_mem _ e4⟩
 | @take p l T i h1 h2 _ ih =>
   intro n
   have hc:C.getD i 0=cwAt g a y f x s p:=hC _ _ h2
   by_cases hn:n < cwAt g a y f x s p
   · exact .inr ⟨p,i,n,by rw [Go.Proofs.YteaplabkemoenaaGreat.pick,if_pos (by rw [hc];exact hn)],by rw [Go.Proofs.YteaplabkemoenaaGreat.pick,if_pos hn],h2,List.mem_cons_self ..⟩
   · rcases ih (n - cwAt g a y f x s p) with ⟨e1,e2⟩ | ⟨p',i',n',e1,e2,e3,e4⟩
     · exact .inl ⟨by rw [Go.Proofs.YteaplabkemoenaaGreat.pick,if_neg (by rw [hc];exact hn)];simp only [hc];exact e1,by rw [Go.Proofs.YteaplabkemoenaaGreat.pick,if_neg hn,e2]⟩
     · exact .inr ⟨p',i',n',by rw [Go.Proofs.YteaplabkemoenaaGreat.pick,if_neg (by rw [hc];exact hn)];simp only [hc];exact e1,by rw [Go.Proofs.YteaplabkemoenaaGreat.pick,if_neg hn,e2],e3,List.mem_cons_of_mem _ e4⟩
/-- what is left of n when the first i are passed over -/
def leftN {α:Type} (k:α->Nat) (l:List α) (n:Nat):Nat:=l.foldl (fun m p=>m - k p) n
theorem pick_skip {α:Type} {k:α->Nat}:∀ {l:List α} {i n:Nat},(∀ j p,j < i->l[j]?=some p->¬ leftN k (l.take j) n < k p)->i<=l.length->pick k l n=pick k (l.drop i) (leftN k (l.take i) n)
 | l,0,n,_,_=>by simp [leftN]
 | [],i+1,n,_,h=>by simp at h
 | p :: l,i+1,n,h,hi=>by
   have h0:=h 0 p (by omega) rfl
   simp only [List.take_zero,leftN,List.foldl_nil] at h0
   rw [pick,if_neg h0,pick_skip (l:=l) (i:=i) (n:=n - k p) (fun j q hj hq=>?_) (by simpa using hi)]
   · simp [leftN]
   · have:=h (j+1) q (by omega) (by simpa using hq)
     simpa [leftN] using this
theorem pick_fold {g:Gr} {a:Au} {y:Int} {f x s:Nat}:∀ (l:List Arc) (n m:Nat),m<=1000000->n+m < l.foldl (cwStep g a (cw g a y f) x s) m->∃ p n',pick (cwAt g a y f x s) l n=some (p,n')/\n' < cwAt g a y f x s p/\p ∈ l
 | [],n,m,_,h=>by simp only [List.foldl_nil] at h;omega
 | p :: l,n,m,hm,h=>by
   by_cases hn:n < cwAt g a y f x s p
   · exact ⟨p,n,by rw [pick,if_pos hn],hn,List.mem_cons_self ..⟩
   · have hle:cwStep g a (cw g a y f) x s m p<=1000000:=Nat.min_le_left _ _
     rw [List.foldl_cons] at h
     have hs:cwStep g a (cw g a y f) x s m p=min 1000000 (m+cwAt g a y f x s p):=rfl
     have hmn:min 1000000 (m+cwAt g a y f x s p)<=m+cwAt g a y f x s p:=Nat.min_le_right _ _
     obtain ⟨p',n',e1,e2,e3⟩:=pick_fold l (n - cwAt g a y f x s p) (cwStep g a (cw g a y f) x s m p) hle (Nat.lt_of_le_of_lt (show n - cwAt g a y f x s p+cwStep g a (cw g a y f) x s m p<=n+m by have hS:cwStep g a (cw g a y f) x s m p<=m+cwAt g a y f x s p:=hmn;omega) h)
     exact ⟨p',n',by rw [pick,if_neg hn,e1],e2,List.mem_cons_of_mem _ e3⟩
theorem pick_cw {g:Gr} {a:Au} {y:Int} {f x s n:Nat} (h:n < cw g a y (f+1) x s):∃ p n',pick (cwAt g a y f x s) (arcsOf g (x:Int)) n=some (p,n')/\n' < cwAt g a y f x s p/\p ∈ arcsOf g (x:Int) :=
 pick_fold _ n 0 (by omega) (by simpa [cw] using h)
/-- walk number n's steps -/
def nthL (g:Gr) (a:Au) (y:Int):Nat->Nat->Nat->Nat->List St
 | 0,_,_,_=>[]
 | f+1,x,s,n=>match pick (cwAt g a y f x s) (arcsOf g (x:Int)) n with
   | none=>[]
   | some (p,n')=>p.1 :: nthL g a y f p.2.2.toNat (aft a s (valAt g x) p.2.1.toNat) n'
theorem nthL_succ {g:Gr} {a:Au} {y:Int} {f x s n n':Nat} {p:Arc} (h:pick (cwAt g a y f x s) (arcsOf g (x:Int)) n=some (p,n')) :
 nthL g a y (f+1) x s n=p.1 :: nthL g a y f p.2.2.toNat (aft a s (valAt g x) p.2.1.toNat) n':=by rw [nthL];simp only [h]
theorem nthL_len {g:Gr} {a:Au} {y:Int}:∀ {f x s n:Nat},n < cw g a y f x s->(nthL g a y f x s n).length=f
 | 0,_,_,_,_=>rfl
 | f+1,x,s,n,h=>by
   obtain ⟨p,n',e1,e2,-⟩:=pick_cw h
   rw [nthL_succ e1,List.length_cons,nthL_len e2]
end Go.Proofs.YteaplabkemoenaaGreat
namespace Go.Proofs.YteaplabkemoenaaGreat
theorem nodup_subN:∀ (s l:List Nat),s.Nodup->(∀ x ∈ s,x ∈ l)->s.length<=l.length
 | [],_,_,_=>Nat.zero_le _
 | x :: s,l,hn,h=>by
   obtain ⟨h1,h2⟩:=List.nodup_cons.1 hn
   have hx:=h x (by simp)
   have:=nodup_subN s (l.erase x) h2 (fun y hy=>by
    have hne:y ≠ x:=fun e=>h1 (e ▸ hy)
    exact (List.mem_erase_of_ne hne).2 (h y (List.mem_cons_of_mem _ hy)))
   rw [List.length_erase_of_mem hx] at this
   have hp:=List.length_pos_of_mem hx
   rw [List.length_cons]
   omega
end Go.Proofs.YteaplabkemoenaaGreat
namespace Go.Proofs.YteaplabkemoenaaGreat
open Go.ChangeShapes Go.WideShapes Go.ChangeAt Go.RowKit
structure KeysOk (g:Gr) (a:Au) (N:List Key):Prop where
 nod:N.Nodup
 rng:∀ k ∈ N,k.1 < g.vals.length/\k.2 < 2 ^ a.accept.length
theorem findK_none {N:List Key} {k:Key} (h:findK N k=none):k ∉ N:=by
 intro hk
 have:=List.findIdx?_eq_none_iff.1 h k hk
 simp at this
theorem KeysOk.push {g:Gr} {a:Au} {N:List Key} (h:KeysOk g a N) {k:Key} (hk:k ∉ N) (hr:k.1 < g.vals.length/\k.2 < 2 ^ a.accept.length):KeysOk g a (N ++ [k]):=by
 refine ⟨List.nodup_append.2 ⟨h.nod,by simp,fun b hb c hc e=>?_⟩,fun u hu=>?_⟩
 · rw [List.mem_singleton] at hc
   subst hc e
   exact hk hb
 · rcases List.mem_append.1 hu with hu | hu
   · exact h.rng u hu
   · rw [List.mem_singleton] at hu
     subst hu
     exact hr
theorem arc_key {g:Gr} {a:Au} (hg:GrOk g) (ha:auOk a=true) {x:Int} {p:Arc} (hp:p ∈ arcsOf g x) (s v:Nat):p.2.2.toNat < g.vals.length/\aft a s v p.2.1.toNat < 2 ^ a.accept.length:=by
 have h:=arc_range hg hp
 exact ⟨by omega,aft_lt ha _ _ _⟩
theorem arcL_ok {g:Gr} {a:Au} (hg:GrOk g) (ha:auOk a=true) {x s:Nat} {p:Arc} (hp:p ∈ arcsOf g (x:Int)) {st:LSt} (h:KeysOk g a st.1):KeysOk g a (arcL g a x s st p).1:=by
 unfold arcL
 split
 · exact h
 · split
   · exact h
   · rename_i hf
     exact h.push (findK_none hf) (arc_key hg ha hp _ _)
theorem rowTk_ok {g:Gr} {a:Au} (hg:GrOk g) (ha:auOk a=true) {N:List Key} (h:KeysOk g a N) (x s:Nat):∀ k,KeysOk g a (rowTk g a N x s k).1
 | 0=>h
 | k+1=>by
   rcases hk:(arcsOf g (x:Int))[k]? with _ | p
   · have:rowTk g a N x s (k+1)=rowTk g a N x s k:=by
      rw [rowTk,rowTk,List.take_of_length_le (by have:=List.getElem?_eq_none_iff.1 hk;omega),List.take_of_length_le (List.getElem?_eq_none_iff.1 hk)]
     rw [this]
     exact rowTk_ok hg ha h x s k
   · rw [rowTk_succ hk]
     exact arcL_ok hg ha (List.mem_of_getElem? hk) (rowTk_ok hg ha h x s k)
theorem rowL_ok {g:Gr} {a:Au} (hg:GrOk g) (ha:auOk a=true) {N:List Key} (h:KeysOk g a N) (x s:Nat):KeysOk g a (rowL g a N x s).1:=by
 rw [<- rowTk_all];exact rowTk_ok hg ha h x s _
theorem layTo_ok {g:Gr} {a:Au} (hg:GrOk g) (ha:auOk a=true) (last:List Key):∀ i,KeysOk g a (layTo g a last i).1
 | 0=>⟨by simp [layTo],fun k hk=>by simp [layTo] at hk⟩
 | i+1=>by
   rcases hk:last[i]? with _ | k
   · have:layTo g a last (i+1)=layTo g a last i:=by
      rw [layTo,layTo,List.take_of_length_le (by have:=List.getElem?_eq_none_iff.1 hk;omega),List.take_of_length_le (List.getElem?_eq_none_iff.1 hk)]
     rw [this]
     exact layTo_ok hg ha last i
   · rw [layTo_succ hk]
     exact rowL_ok hg ha (layTo_ok hg ha last i) _ _
theorem KeysOk.len {g:Gr} {a:Au} (hg:GrOk g) (ha:auOk a=true) {N:List Key} (h:KeysOk g a N):N.length<=20480:=by
 have h1:=nodup_subN (N.map fun z=>z.1 * 4096+z.2) (List.range 20480) ?_ ?_
 · simpa using h1
 · rw [List.Nodup,List.pairwise_map]
   refine List.Pairwise.imp_of_mem ?_ h.nod
   intro b c hb hc hne he
   refine hne ?_
   have hb:=lt12 ha (h.rng b hb).2
   have hc:=lt12 ha (h.rng c hc).2
   exact Prod.ext (by omega) (by omega)
 · intro u hu
   obtain ⟨z,hz,rfl⟩:=List.mem_map.1 hu
   have hb:=h.rng z hz
   have hb2:=lt12 ha hb.2
   have:=hg.n5
   rw [List.mem_range]
   omega
theorem arcL_len {g:Gr} {a:Au} {x s:Nat} (st:LSt) (p:Arc):(arcL g a x s st p).2.length<=st.2.length+1:=by
 unfold arcL
 split
 · omega
 · split <;> simp
theorem rowTk_len (g:Gr) (a:Au) (N:List Key) (x s:Nat):∀ k,(rowTk g a N x s k).2.length<=k
 | 0=>by simp [rowTk]
 | k+1=>by
   rcases hk:(arcsOf g (x:Int))[k]? with _ | p
   · have:rowTk g a N x s (k+1)=rowTk g a N x s k:=by
      rw [rowTk,rowTk,List.take_of_length_le (by have:=List.getElem?_eq_none_iff.1 hk;omega),List.take_of_length_le (List.getElem?_eq_none_iff.1 hk)]
     rw [this]
     exact Nat.le_trans (rowTk_len g a N x s k) (by omega)
   · rw [rowTk_succ hk]
     have:=rowTk_len g a N x s k
     exact Nat.le_trans (arcL_len _ _) (by omega)
def layN (g:Gr) (a:Au) (k0:Key):Nat->List Key
 | 0=>[k0]
 | d+1=>(layA g a (layN g a k0 d)).1
def layT (g:Gr) (a:Au) (k0:Key) (d i:Nat):List (St × Nat):=(layA g a (layN g a k0 d)).2.getD i []
theorem layN_ok {g:Gr} {a:Au} (hg:GrOk g) (ha:auOk a=true) {k0:Key} (h0:k0.1 < g.vals.length/\k0.2 < 2 ^ a.accept.length):∀ d,KeysOk g a (layN g a k0 d)
 | 0=>⟨by simp [layN],fun k hk=>by rw [layN,List.mem_singleton] at hk;subst hk;exact h0⟩
 | d+1=>layTo_ok hg ha _ _
theorem layT_row {g:Gr} {a:Au} {k0:Key} {d i:Nat} {k:Key} (h:(layN g a k0 d)[i]?=some k):RowR g a k.1 k.2 (layN g a k0 (d+1)) (arcsOf g (k.1:Int)) (layT g a k0 d i):=by
 obtain ⟨h1,h2⟩:=layA_row g a (layN g a k0 d)
 have hi:i < (layA g a (layN g a k0 d)).2.length:=by rw [h1];exact (List.getElem?_eq_some_iff.1 h).1
 refine h2 i k _ h ?_
 rw [layT,List.getD_eq_getElem?_getD,List.getElem?_eq_getElem hi];rfl
/-- what row i of layer d counts, of n layers behind the first -/
def layC (g:Gr) (a:Au) (y:Int) (k0:Key) (n d i:Nat):Nat:=match (layN g a k0 d)[i]? with
 | none=>0
 | some k=>cw g a y (n - d) k.1 k.2
theorem layC_at {g:Gr} {a:Au} {y:Int} {k0:Key} {n d i:Nat} {k:Key} (h:(layN g a k0 d)[i]?=some k):layC g a y k0 n d i=cw g a y (n - d) k.1 k.2:=by rw [layC];simp only [h]
def cntF (C:Nat->Nat) (n:Nat) (e:St × Nat):Nat:=min 1000000 (n+C e.2)
theorem RowR.cntF {g:Gr} {a:Au} {y:Int} {f x s:Nat} {N:List Key} {C:Nat->Nat} (hC:∀ i k,N[i]?=some k->C i=cw g a y f k.1 k.2) {l:List Arc} {T:List (St × Nat)} (h:RowR g a x s N l T) :
 ∀ n,n<=1000000->T.foldl (Go.Proofs.YteaplabkemoenaaGreat.cntF C) n=l.foldl (cwStep g a (cw g a y f) x s) n:=by
 induction h with
 | nil=>intro n _;rfl
 | skip h1 _ ih =>
   intro n hn
   rw [List.foldl_cons,cwStep,h1,cw_none,Nat.add_zero,Nat.min_eq_right hn]
   exact ih n hn
 | take h1 h2 _ ih =>
   intro n hn
   rw [List.foldl_cons,List.foldl_cons,Go.Proofs.YteaplabkemoenaaGreat.cntF,cwStep,hC _ _ h2]
   exact ih _ (Nat.min_le_left _ _)
theorem layC_fold {g:Gr} {a:Au} {y:Int} {k0:Key} {n d i:Nat} {k:Key} (h:(layN g a k0 d)[i]?=some k) (hd:d < n):(layT g a k0 d i).foldl (cntF (layC g a y k0 n (d+1))) 0=layC g a y k0 n d i:=by
 rw [layC_at h,(layT_row h).cntF (y:=y) (f:=n - (d+1)) (fun i k hk=>layC_at hk) 0 (by omega),show n - d=(n - (d+1))+1 by omega]
 rfl
theorem layC_le (g:Gr) (a:Au) (y:Int) (k0:Key) (n d i:Nat):layC g a y k0 n d i<=1000000:=by
 unfold layC
 split
 · omega
 · exact cw_le ..
theorem RowR.to_lt {g:Gr} {a:Au} {x s:Nat} {N:List Key} {l:List Arc} {T:List (St × Nat)} (h:RowR g a x s N l T):∀ e ∈ T,e.2 < N.length:=by
 induction h with
 | nil=>intro e he;cases he
 | skip _ _ ih=>exact ih
 | take _ h2 _ ih =>
   intro e he
   rcases List.mem_cons.1 he with rfl | he
   · exact (List.getElem?_eq_some_iff.1 h2).1
   · exact ih e he
theorem RowR.len {g:Gr} {a:Au} {x s:Nat} {N:List Key} {l:List Arc} {T:List (St × Nat)} (h:RowR g a x s N l T):T.length<=l.length:=by
 induction h with
 | nil=>exact Nat.le_refl _
 | skip _ _ ih=>rw [List.length_cons];omega
 | take _ _ _ ih=>simp only [List.length_cons];omega
structure Zr where
 node:Nat
 set:Nat
 cnt:Nat
 sv:Value
 tv:Value
def cZ (z:Zr):List Value:=[.int .i64 (z.node:Int),.int .i64 (z.set:Int),.int .i64 (z.cnt:Int),z.sv,z.tv]
theorem cZ_len (z:Zr):(cZ z).length=5:=rfl
def rawZ (k:Key):Zr:=⟨k.1,k.2,0,.slice none 0 0,.slice none 0 0⟩
theorem elZ:ElemOk Tryz.prog 59 58 (.agg #[.int .i64 0,.int .i64 0,.int .i64 0,.slice none 0 0,.slice none 0 0]) 5 72:=⟨Tryz.underlying59,by kernel_rfl,rfl,by omega⟩
/-- a row's two slices, in blocks from lo to hi -/
def RowV (lo hi:Nat) (w:World) (z:Zr) (T:List (St × Nat)):Prop :=
 Own lo hi w 66 cSt 2 z.sv (T.map (·.1))/\Own lo hi w 3 cN 1 z.tv (T.map (·.2))
theorem flatZ_set:∀ (zs:List Zr) (i:Nat) (z:Zr),i < zs.length ->
 (((((zs.flatMap cZ).set (i * 5) (.int .i64 (z.node:Int))).set (i * 5+1) (.int .i64 (z.set:Int))).set (i * 5+2) (.int .i64 (z.cnt:Int))).set (i * 5+3) z.sv).set (i * 5+4) z.tv=(zs.set i z).flatMap cZ
 | [],_,_,h=>absurd h (Nat.not_lt_zero _)
 | y :: ys,0,z,_=>by simp [cZ]
 | y :: ys,i+1,z,h=>by
   have ih:=flatZ_set ys i z (by simpa using h)
   simp only [List.flatMap_cons,cZ,List.cons_append,List.nil_append,List.set_cons_succ,Nat.succ_mul]
   rw [<- ih]
/-- two rows of one's own, of other types, lie in other blocks -/
theorem own_ne {w:World} {b1 b2 k1 k2 n1 n2:Nat} {e1 e2:TypeId} {v1 v2:Value} {c1 c2:List Value} (h1:w.ownsRow b1 e1 k1 v1 n1 c1) (h2:w.ownsRow b2 e2 k2 v2 n2 c2) (he:e1 ≠ e2) {g:Nat} (hg:v1.ownBlock=some g):v2.ownBlock ≠ some g:=by
 intro hg2
 rcases h1.2 with ⟨rfl,_⟩ | ⟨g1,_,_,rfl,_,hh1,_⟩
 · cases hg
 · rcases h2.2 with ⟨rfl,_⟩ | ⟨g2,_,_,rfl,_,hh2,_⟩
   · cases hg2
   · simp only [Value.ownBlock,Option.some.injEq] at hg hg2
     subst hg hg2
     rw [hh1] at hh2
     injection hh2 with hh2
     injection hh2 with _ h4
     exact he h4
theorem Own.ne_of {w:World} {b1 k1 n1 lo hi k:Nat} {e1 e:TypeId} {v1 v:Value} {c1:List Value} {α:Type} {E:α->List Value} {xs:List α} (h1:w.ownsRow b1 e1 k1 v1 n1 c1) (h:Own lo hi w e E k v xs) (he:e1 ≠ e) {g:Nat} (hg:v.ownBlock=some g):v1.ownBlock ≠ some g :=
 own_ne h.1 h1 (Ne.symm he) hg
theorem Own.blocks {lo hi k:Nat} {w w':World} {e:TypeId} {v:Value} {α:Type} {E:α->List Value} {xs:List α} (h:Own lo hi w e E k v xs) (hb:∀ g,v.ownBlock=some g->w'.heap[g]?=w.heap[g]?):Own lo hi w' e E k v xs:=⟨ownsRow_block h.1 hb,h.2⟩
theorem tyZS:58 ≠ 66:=by decide
theorem tyZI:58 ≠ 3:=by decide
theorem tySI:66 ≠ 3:=by decide
section
variable {lo hi g c:Nat} {w w':World} {N:List Key} {C:Nat->Nat} {T:Nat->List (St × Nat)} {zs:List Zr} {z:Zr} {t:List (St × Nat)}
theorem RowV.nil (lo hi:Nat) (w:World) (k:Key):RowV lo hi w (rawZ k) []:=⟨Own.nil _ _ _ _ _ _,Own.nil _ _ _ _ _ _⟩
theorem RowV.mono (h:RowV lo hi w z t) {lo' hi':Nat} (h1:lo'<=lo) (h2:hi<=hi'):RowV lo' hi' w z t:=⟨h.1.mono h1 h2,h.2.mono h1 h2⟩
theorem RowV.blocks (h:RowV lo hi w z t) (hb:∀ b,lo<=b->b < hi->b < w.heap.size->w'.heap[b]?=w.heap[b]?):RowV lo hi w' z t :=
 ⟨h.1.blocks fun b hg=>hb b (h.1.lt b hg).1 (h.1.lt b hg).2.1 (h.1.lt b hg).2.2,h.2.blocks fun b hg=>hb b (h.2.lt b hg).1 (h.2.lt b hg).2.1 (h.2.lt b hg).2.2⟩
theorem RowV.below (h:RowV lo hi w z t) (hb:Below w.heap.size w w'):RowV lo hi w' z t:=h.blocks fun b _ _ hl=>hb.block b hl
/-- a row's slices stand when a block of the rows' own type turns -/
theorem RowV.nodeTurn (h:RowV lo hi w z t) {b0 n0 c0:Nat} {cs0:List Value} (hr:w.ownsRow b0 58 5 (.slice (some ⟨g,0,none⟩) n0 c0) n0 cs0) (hb:∀ b,b ≠ g->b < w.heap.size->w'.heap[b]?=w.heap[b]?):RowV lo hi w' z t :=
 ⟨h.1.blocks fun b hg=>hb b (fun e=>by subst e;exact Own.ne_of hr h.1 tyZS hg rfl) (h.1.lt b hg).2.2,h.2.blocks fun b hg=>hb b (fun e=>by subst e;exact Own.ne_of hr h.2 tyZI hg rfl) (h.2.lt b hg).2.2⟩
/-- a layer: the rows lie in block g, their slices in blocks from lo to hi -/
structure LayV (lo hi:Nat) (w:World) (g c:Nat) (N:List Key) (C:Nat->Nat) (T:Nat->List (St × Nat)) (zs:List Zr):Prop where
 row:w.ownsRow 0 58 5 (.slice (some ⟨g,0,none⟩) N.length c) N.length (zs.flatMap cZ)
 len:zs.length=N.length
 at_:∀ i k z,N[i]?=some k->zs[i]?=some z->z.node=k.1/\z.set=k.2/\z.cnt=C i/\RowV lo hi w z (T i)
theorem LayV.lt (h:LayV lo hi w g c N C T zs):g < w.heap.size:=(h.row.lt g rfl).2
theorem LayV.blocks (h:LayV lo hi w g c N C T zs) (hb:∀ b,(b=g ∨ (lo<=b/\b < hi))->b < w.heap.size->w'.heap[b]?=w.heap[b]?):LayV lo hi w' g c N C T zs :=
 ⟨ownsRow_block h.row fun b hg=>hb b (.inl (by injection hg with hg;exact hg.symm)) (h.row.lt b hg).2,h.len,fun i k z hk hz=>by
  obtain ⟨h1,h2,h3,h4⟩:=h.at_ i k z hk hz
  exact ⟨h1,h2,h3,h4.blocks fun b h5 h6 hl=>hb b (.inr ⟨h5,h6⟩) hl⟩⟩
theorem LayV.below (h:LayV lo hi w g c N C T zs) (hb:Below w.heap.size w w'):LayV lo hi w' g c N C T zs:=h.blocks fun b _ hl=>hb.block b hl
theorem LayV.mono (h:LayV lo hi w g c N C T zs) {lo' hi':Nat} (h1:lo'<=lo) (h2:hi<=hi'):LayV lo' hi' w g c N C T zs :=
 ⟨h.row,h.len,fun i k z hk hz=>by obtain ⟨a1,a2,a3,a4⟩:=h.at_ i k z hk hz;exact ⟨a1,a2,a3,a4.mono h1 h2⟩⟩
/-- another block of rows turns: the layer stands -/
theorem LayV.other (h:LayV lo hi w g c N C T zs) {g' b0 n0 c0:Nat} {cs0:List Value} (hr:w.ownsRow b0 58 5 (.slice (some ⟨g',0,none⟩) n0 c0) n0 cs0) (hne:g ≠ g') (hb:∀ b,b ≠ g'->b < w.heap.size->w'.heap[b]?=w.heap[b]?):LayV lo hi w' g c N C T zs :=
 ⟨ownsRow_block h.row fun b hg=>hb b (by injection hg with hg;rw [<- hg];exact hne) (h.row.lt b hg).2,h.len,fun i k z hk hz=>by
  obtain ⟨h1,h2,h3,h4⟩:=h.at_ i k z hk hz
  exact ⟨h1,h2,h3,h4.nodeTurn hr hb⟩⟩
theorem LayV.get (h:LayV lo hi w g c N C T zs) {i:Nat} {k:Key} (hk:N[i]?=some k):∃ z,zs[i]?=some z/\z.node=k.1/\z.set=k.2/\z.cnt=C i/\RowV lo hi w z (T i) /\
 w.cell? ⟨g,i * 5,none⟩=some (.int .i64 (k.1:Int))/\w.cell? ⟨g,i * 5+1,none⟩=some (.int .i64 (k.2:Int))/\w.cell? ⟨g,i * 5+2,none⟩=some (.int .i64 (C i:Int))/\w.cell? ⟨g,i * 5+3,none⟩=some z.sv/\w.cell? ⟨g,i * 5+4,none⟩=some z.tv:=by
 have hi:=(List.getElem?_eq_some_iff.1 hk).1
 have hz:zs[i]?=some (zs[i]'(by rw [h.len];exact hi)):=List.getElem?_eq_getElem _
 generalize zs[i]'(by rw [h.len];exact hi)=z at hz
 obtain ⟨h1,h2,h3,h4⟩:=h.at_ i k z hk hz
 have hc:∀ j u,(cZ z)[j]?=some u->j < 5->w.cell? ⟨g,i * 5+j,none⟩=some u:=fun j u hu hj=>by
  rw [h.row.cellAt (i * 5+j) (by omega)]
  exact flat_at cZ_len hz j u hu
 refine ⟨z,hz,h1,h2,h3,h4,?_,?_,?_,hc 3 _ rfl (by omega),hc 4 _ rfl (by omega)⟩
 · rw [<- h1];exact hc 0 _ rfl (by omega)
 · rw [<- h2];exact hc 1 _ rfl (by omega)
 · rw [<- h3];exact hc 2 _ rfl (by omega)
/-- a row is stored anew: five cells -/
def put5 (w:World) (g o:Nat) (z:Zr):World :=
 ((((w.setCell ⟨g,o,none⟩ (.int .i64 (z.node:Int))).setCell ⟨g,o+1,none⟩ (.int .i64 (z.set:Int))).setCell ⟨g,o+2,none⟩ (.int .i64 (z.cnt:Int))).setCell ⟨g,o+3,none⟩ z.sv).setCell ⟨g,o+4,none⟩ z.tv
theorem put5_block (w:World) (g o:Nat) (z:Zr):∀ b,b ≠ g->(put5 w g o z).heap[b]?=w.heap[b]?:=fun b hb=>by
 unfold put5
 rw [Below.heap_setCell _ _ _ _ hb,Below.heap_setCell _ _ _ _ hb,Below.heap_setCell _ _ _ _ hb,Below.heap_setCell _ _ _ _ hb,Below.heap_setCell _ _ _ _ hb]
theorem put5_size (w:World) (g o:Nat) (z:Zr):(put5 w g o z).heap.size=w.heap.size:=by simp [put5]
theorem put5_only (w:World) (g o:Nat) (z:Zr):Only g (g+1) w (put5 w g o z) :=
 (((((Only.refl g (g+1) w).setCell (p:=⟨g,o,none⟩) (.inl ⟨Nat.le_refl _,Nat.lt_succ_self _⟩) _).setCell (p:=⟨g,o+1,none⟩) (.inl ⟨Nat.le_refl _,Nat.lt_succ_self _⟩) _).setCell (p:=⟨g,o+2,none⟩) (.inl ⟨Nat.le_refl _,Nat.lt_succ_self _⟩) _).setCell (p:=⟨g,o+3,none⟩) (.inl ⟨Nat.le_refl _,Nat.lt_succ_self _⟩) _).setCell (p:=⟨g,o+4,none⟩) (.inl ⟨Nat.le_refl _,Nat.lt_succ_self _⟩) _
theorem LayV.put (h:LayV lo hi w g c N C T zs) {i:Nat} {k:Key} {z:Zr} {n:Nat} {t:List (St × Nat)} (hk:N[i]?=some k) (h1:z.node=k.1) (h2:z.set=k.2) (h3:z.cnt=n) (h4:RowV lo hi w z t) :
 LayV lo hi (put5 w g (i * 5) z) g c N (fun j=>if j=i then n else C j) (fun j=>if j=i then t else T j) (zs.set i z):=by
 have hi:=(List.getElem?_eq_some_iff.1 hk).1
 have hb:=put5_block w g (i * 5) z
 refine ⟨?_,by rw [List.length_set,h.len],fun j k' z' hk' hz'=>?_⟩
 · have r1:=(World.ownsRow.stored h.row (i * 5) (.int .i64 (z.node:Int))).1
   have r2:=(World.ownsRow.stored r1 (i * 5+1) (.int .i64 (z.set:Int))).1
   have r3:=(World.ownsRow.stored r2 (i * 5+2) (.int .i64 (z.cnt:Int))).1
   have r4:=(World.ownsRow.stored r3 (i * 5+3) z.sv).1
   have r5:=(World.ownsRow.stored r4 (i * 5+4) z.tv).1
   rw [flatZ_set zs i z (by rw [h.len];exact hi)] at r5
   exact r5
 · rw [List.getElem?_set] at hz'
   by_cases e:i=j
   · subst e
     rw [if_pos rfl,if_pos (by rw [h.len];exact hi)] at hz'
     injection hz' with hz'
     subst hz'
     rw [hk] at hk'
     injection hk' with hk'
     subst hk'
     rw [if_pos rfl,if_pos rfl]
     exact ⟨h1,h2,h3,h4.nodeTurn h.row fun b hb' _=>hb b hb'⟩
   · rw [if_neg e] at hz'
     obtain ⟨g1,g2,g3,g4⟩:=h.at_ j k' z' hk' hz'
     rw [if_neg (Ne.symm e),if_neg (Ne.symm e)]
     exact ⟨g1,g2,g3,g4.nodeTurn h.row fun b hb' _=>hb b hb'⟩
theorem LayV.congr (h:LayV lo hi w g c N C T zs) {C':Nat->Nat} {T':Nat->List (St × Nat)} (hC:∀ i,i < N.length->C' i=C i) (hT:∀ i,i < N.length->T' i=T i):LayV lo hi w g c N C' T' zs :=
 ⟨h.row,h.len,fun i k z hk hz=>by
  have hi:=(List.getElem?_eq_some_iff.1 hk).1
  rw [hC i hi,hT i hi]
  exact h.at_ i k z hk hz⟩
theorem LayV.raw (w:World) (N:List Key) (h:w.ownsRow 0 58 5 (.slice (some ⟨g,0,none⟩) N.length c) N.length ((N.map rawZ).flatMap cZ)) (lo hi:Nat):LayV lo hi w g c N (fun _=>0) (fun _=>[]) (N.map rawZ) :=
 ⟨h,by simp,fun i k z hk hz=>by
  rw [List.getElem?_map,hk] at hz
  simp only [Option.map_some,Option.some.injEq] at hz
  subst hz
  exact ⟨rfl,rfl,rfl,RowV.nil _ _ _ _⟩⟩
end
end Go.Proofs.YteaplabkemoenaaGreat
namespace Go.Proofs.YteaplabkemoenaaGreat
open Go.ChangeShapes Go.WideShapes Go.ChangeAt Go.RowKit
attribute [local go_sem] ext_cell ext_frozen ext_lt ext_lt1 ext_lt2 ext_lt3 ltn2 ltn3 ltn13 lts1 lts2 lts3
theorem findK_hit {N:List Key} {k:Key} {i:Nat} (h:N[i]?=some k) (hno:∀ (j:Nat) (k':Key),j < i->N[j]?=some k'->k' ≠ k):findK N k=some i:=by
 refine List.findIdx?_eq_some_iff_getElem.2 ⟨(List.getElem?_eq_some_iff.1 h).1,?_,fun j hj=>?_⟩
 · rw [(List.getElem?_eq_some_iff.1 h).2];simp
 · have hjl:j < N.length:=Nat.lt_trans hj (List.getElem?_eq_some_iff.1 h).1
   have:=hno j N[j] hj (List.getElem?_eq_getElem hjl)
   simpa using this
theorem findK_miss {N:List Key} {k:Key} (hno:∀ (j:Nat) (k':Key),j < N.length->N[j]?=some k'->k' ≠ k):findK N k=none:=by
 refine List.findIdx?_eq_none_iff.2 fun x hx=>?_
 obtain ⟨j,hj,rfl⟩:=List.getElem_of_mem hx
 have:=hno j _ hj (List.getElem?_eq_getElem hj)
 simpa using this
def findI (N:List Key) (k:Key):Int:=match findK N k with
 | some i=>(i:Int)
 | none=>-1
theorem rawZ_at {N:List Key} {i:Nat} {k:Key} (h:N[i]?=some k):(N.map rawZ)[i]?=some (rawZ k):=by rw [List.getElem?_map,h];rfl
set_option maxHeartbeats 2000000 in
theorem l19Find_any (v:Value) (N:List Key) (x m:Nat) (w:World) (hv:SlE w cZ 5 v (N.map rawZ)) :
 Calls Tryz.prog 78 #[v,.int .i64 (x:Int),.int .i64 (m:Int)] w fun e w'=>e=.returned (.int .i64 (findI N (x,m)))/\w'=w:=by
 obtain ⟨A,c,rfl,hl,hm,hC⟩:=SlE.form hv
 rw [List.length_map] at hl ⊢
 have HC:=Hd_ hC
 obtain ⟨R,hR⟩:∃ R,R=findI N (x,m):=⟨_,rfl⟩
 rw [<- hR]
 have HR:=Hd_ hR
 clear hv hC hR
 go_enter Tryz.func78,Tryz.ntmps78
 go_wp2_with fail
 go_loop [7] (fun ii=>∃ i:Nat,i<=N.length/\ii=.int .i64 (i:Int)/\(∀ (j:Nat) (k':Key),j < i->N[j]?=some k'->k' ≠ (x,m))) (fun ii=>N.length - (intOf ii).toNat)
 case atStart=>exact ⟨0,Nat.zero_le _,rfl,fun j k' hj=>by omega⟩
 case round =>
  obtain ⟨i,hi,rfl,hno⟩:=hrel
  have HNO:=Hd_ hno
  clear hno
  by_cases hlt:i < N.length
  · have hk:N[i]?=some N[i]:=List.getElem?_eq_getElem hlt
    generalize N[i]=k at hk
    obtain ⟨b,o,rfl,hb,hc⟩:=HC.out.at_ i (rawZ k) (rawZ_at hk)
    have d0:=hc 0 _ rfl
    have d1:=hc 1 _ rfl
    rw [Nat.add_zero] at d0
    have hii:(i:Int) < (N.length:Int):=by omega
    obtain ⟨kn,ks⟩:=k
    simp only [rawZ] at d0 d1
    have HK:=Hd_ hk
    clear hc hk
    by_cases h1:kn=x
    · subst h1
      by_cases h2:ks=m
      · subst h2
        have hfin:R=(i:Int):=by rw [HR.out,findI,findK_hit HK.out HNO.out]
        subst hfin
        clear HR
        go_wp2
        go_ret
        exact ⟨rfl,rfl⟩
      · have h2a:((ks:Int)==(m:Int))=false:=by simp;omega
        have h2b:decide ((ks:Int)=(m:Int))=false:=by simp;omega
        have HN:=Hd_ (show ∀ (j:Nat) (k':Key),j < i+1->N[j]?=some k'->k' ≠ (kn,m) from fun j k' hj hk'=>by
         rcases Nat.lt_or_ge j i with h | h
         · exact HNO.out j k' h hk'
         · obtain rfl:j=i:=(by omega)
           rw [HK.out] at hk'
           injection hk' with hk'
           rw [<- hk'];intro e;injection e with _ e;exact h2 e)
        go_wp2
        go_round
        case rel=>exact ⟨i+1,by omega,by go_num,HN.out⟩
        case measure=>simp [intOf];omega
    · have h1a:((kn:Int)==(x:Int))=false:=by simp;omega
      have h1b:decide ((kn:Int)=(x:Int))=false:=by simp;omega
      have HN:=Hd_ (show ∀ (j:Nat) (k':Key),j < i+1->N[j]?=some k'->k' ≠ (x,m) from fun j k' hj hk'=>by
       rcases Nat.lt_or_ge j i with h | h
       · exact HNO.out j k' h hk'
       · obtain rfl:j=i:=(by omega)
         rw [HK.out] at hk'
         injection hk' with hk'
         rw [<- hk'];intro e;injection e with e _;exact h1 e)
      go_wp2
      go_round
      case rel=>exact ⟨i+1,by omega,by go_num,HN.out⟩
      case measure=>simp [intOf];omega
  · obtain rfl:i=N.length:=by omega
    have hfin:R=-1:=by rw [HR.out,findI,findK_miss HNO.out]
    subst hfin
    clear HR
    go_wp2
    go_ret
    exact ⟨rfl,rfl⟩
end Go.Proofs.YteaplabkemoenaaGreat
namespace Go.Proofs.YteaplabkemoenaaGreat
open Go.ChangeShapes Go.WideShapes Go.ChangeAt Go.RowKit
section
variable {lo hi H g c i:Nat} {w w':World} {N:List Key} {T:Nat->List (St × Nat)} {zs:List Zr} {z:Zr} {t:List (St × Nat)}
/-- all rows but i lie below H; row i's slices from H on -/
structure LayR (b H i:Nat) (w:World) (g c:Nat) (N:List Key) (T:Nat->List (St × Nat)) (t:List (St × Nat)) (zs:List Zr):Prop where
 row:w.ownsRow 0 58 5 (.slice (some ⟨g,0,none⟩) N.length c) N.length (zs.flatMap cZ)
 len:zs.length=N.length
 rest:∀ j k z,j ≠ i->N[j]?=some k->zs[j]?=some z->z.node=k.1/\z.set=k.2/\z.cnt=0/\RowV b H w z (T j)
 cur:∀ k z,N[i]?=some k->zs[i]?=some z->z.node=k.1/\z.set=k.2/\z.cnt=0/\RowV H w.heap.size w z t
 raw:∀ j k,i < j->N[j]?=some k->zs[j]?=some (rawZ k)
/-- .. when a row is begun -/
theorem LayR.start (h:LayV lo hi w g c N (fun _=>0) T zs) (hb:hi<=H) (hr:∀ j k,i<=j->N[j]?=some k->zs[j]?=some (rawZ k)):LayR lo H i w g c N T [] zs :=
 ⟨h.row,h.len,fun j k z _ hk hz=>by
  obtain ⟨h1,h2,h3,h4⟩:=h.at_ j k z hk hz
  exact ⟨h1,h2,h3,h4.mono (Nat.le_refl _) hb⟩,fun k z hk hz=>by
  have:=hr i k (Nat.le_refl _) hk
  rw [hz] at this
  injection this with this
  subst this
  exact ⟨rfl,rfl,rfl,RowV.nil _ _ _ _⟩,fun j k hj hk=>hr j k (by omega) hk⟩
/-- .. when it is done -/
theorem LayR.done {T':Nat->List (St × Nat)} (h:LayR lo H i w g c N T t zs) (hlH:lo<=H) (hH:H<=w.heap.size) (hT:∀ j,j ≠ i->j < N.length->T' j=T j) (ht:T' i=t):LayV lo w.heap.size w g c N (fun _=>0) T' zs :=
 ⟨h.row,h.len,fun j k z hk hz=>by
  by_cases e:j=i
  · subst e
    obtain ⟨h1,h2,h3,h4⟩:=h.cur k z hk hz
    rw [ht]
    exact ⟨h1,h2,h3,h4.mono hlH (Nat.le_refl _)⟩
  · obtain ⟨h1,h2,h3,h4⟩:=h.rest j k z e hk hz
    rw [hT j e (List.getElem?_eq_some_iff.1 hk).1]
    exact ⟨h1,h2,h3,h4.mono (Nat.le_refl _) hH⟩⟩
theorem LayR.lt (h:LayR lo H i w g c N T t zs):g < w.heap.size:=(h.row.lt g rfl).2
/-- blocks that the layer does not hold may turn -/
theorem LayR.below (h:LayR lo H i w g c N T t zs) (hb:Below w.heap.size w w'):LayR lo H i w' g c N T t zs :=
 ⟨ownsRow_below h.row hb (Nat.le_refl _),h.len,fun j k z hj hk hz=>by
  obtain ⟨h1,h2,h3,h4⟩:=h.rest j k z hj hk hz
  exact ⟨h1,h2,h3,h4.below hb⟩,fun k z hk hz=>by
  obtain ⟨h1,h2,h3,h4⟩:=h.cur k z hk hz
  exact ⟨h1,h2,h3,(h4.below hb).mono (Nat.le_refl _) hb.size⟩,h.raw⟩
/-- another block of rows turns -/
theorem LayR.other (h:LayR lo H i w g c N T t zs) {g' b0 n0 c0:Nat} {cs0:List Value} (hr:w.ownsRow b0 58 5 (.slice (some ⟨g',0,none⟩) n0 c0) n0 cs0) (hne:g ≠ g') (hs:w.heap.size<=w'.heap.size) (hb:∀ b,b ≠ g'->b < w.heap.size->w'.heap[b]?=w.heap[b]?):LayR lo H i w' g c N T t zs :=
 ⟨ownsRow_block h.row fun b hg=>hb b (by injection hg with hg;rw [<- hg];exact hne) (h.row.lt b hg).2,h.len,fun j k z hj hk hz=>by
  obtain ⟨h1,h2,h3,h4⟩:=h.rest j k z hj hk hz
  exact ⟨h1,h2,h3,h4.nodeTurn hr hb⟩,fun k z hk hz=>by
  obtain ⟨h1,h2,h3,h4⟩:=h.cur k z hk hz
  exact ⟨h1,h2,h3,(h4.nodeTurn hr hb).mono (Nat.le_refl _) hs⟩,h.raw⟩
/-- row i's slices turn: the others stand, and the rows' block -/
theorem LayR.rowTurn (h:LayR lo H i w g c N T t zs) (hgH:g < H) (hb:∀ b,b < H->b < w.heap.size->w'.heap[b]?=w.heap[b]?) :
 w'.ownsRow 0 58 5 (.slice (some ⟨g,0,none⟩) N.length c) N.length (zs.flatMap cZ)/\∀ j k z,j ≠ i->N[j]?=some k->zs[j]?=some z->z.node=k.1/\z.set=k.2/\z.cnt=0/\RowV lo H w' z (T j) :=
 ⟨ownsRow_block h.row fun b hg=>hb b (by injection hg with hg;rw [<- hg];exact hgH) (h.row.lt b hg).2,fun j k z hj hk hz=>by
  obtain ⟨h1,h2,h3,h4⟩:=h.rest j k z hj hk hz
  exact ⟨h1,h2,h3,h4.blocks fun b _ h5 h6=>hb b h5 h6⟩⟩
/-- row i is stored anew -/
theorem LayR.put {t':List (St × Nat)} (h:LayR lo H i w g c N T t zs) (hgH:g < H) (hb:∀ b,b < H->b < w.heap.size->w'.heap[b]?=w.heap[b]?) {k:Key} (hk:N[i]?=some k) (h1:z.node=k.1) (h2:z.set=k.2) (h3:z.cnt=0) (h4:RowV H w'.heap.size w' z t') :
 LayR lo H i (put5 w' g (i * 5) z) g c N T t' (zs.set i z):=by
 have hi:=(List.getElem?_eq_some_iff.1 hk).1
 obtain ⟨hrow,hrest⟩:=h.rowTurn hgH hb
 have hbp:=put5_block w' g (i * 5) z
 have hsz:=put5_size w' g (i * 5) z
 refine ⟨?_,by rw [List.length_set,h.len],fun j k' z' hj hk' hz'=>?_,fun k' z' hk' hz'=>?_,fun j k' hj hk'=>?_⟩
 · have r1:=(World.ownsRow.stored hrow (i * 5) (.int .i64 (z.node:Int))).1
   have r2:=(World.ownsRow.stored r1 (i * 5+1) (.int .i64 (z.set:Int))).1
   have r3:=(World.ownsRow.stored r2 (i * 5+2) (.int .i64 (z.cnt:Int))).1
   have r4:=(World.ownsRow.stored r3 (i * 5+3) z.sv).1
   have r5:=(World.ownsRow.stored r4 (i * 5+4) z.tv).1
   rw [flatZ_set zs i z (by rw [h.len];exact hi)] at r5
   exact r5
 · rw [List.getElem?_set,if_neg (Ne.symm hj)] at hz'
   obtain ⟨g1,g2,g3,g4⟩:=hrest j k' z' hj hk' hz'
   exact ⟨g1,g2,g3,g4.nodeTurn hrow fun b hb' _=>hbp b hb'⟩
 · rw [List.getElem?_set,if_pos rfl,if_pos (by rw [h.len];exact hi)] at hz'
   injection hz' with hz'
   subst hz'
   rw [hk] at hk'
   injection hk' with hk'
   subst hk'
   refine ⟨h1,h2,h3,?_⟩
   rw [hsz]
   exact h4.nodeTurn hrow fun b hb' _=>hbp b hb'
 · rw [List.getElem?_set,if_neg (by omega)]
   exact h.raw j k' hj hk'
theorem LayR.get (h:LayR lo H i w g c N T t zs) {k:Key} (hk:N[i]?=some k):∃ z,zs[i]?=some z/\z.node=k.1/\z.set=k.2/\z.cnt=0/\RowV H w.heap.size w z t /\
 w.cell? ⟨g,i * 5,none⟩=some (.int .i64 (k.1:Int))/\w.cell? ⟨g,i * 5+1,none⟩=some (.int .i64 (k.2:Int))/\w.cell? ⟨g,i * 5+2,none⟩=some (.int .i64 0)/\w.cell? ⟨g,i * 5+3,none⟩=some z.sv/\w.cell? ⟨g,i * 5+4,none⟩=some z.tv:=by
 have hi:=(List.getElem?_eq_some_iff.1 hk).1
 have hz:zs[i]?=some (zs[i]'(by rw [h.len];exact hi)):=List.getElem?_eq_getElem _
 generalize zs[i]'(by rw [h.len];exact hi)=z at hz
 obtain ⟨h1,h2,h3,h4⟩:=h.cur k z hk hz
 have hc:∀ j u,(cZ z)[j]?=some u->j < 5->w.cell? ⟨g,i * 5+j,none⟩=some u:=fun j u hu hj=>by
  rw [h.row.cellAt (i * 5+j) (by omega)]
  exact flat_at cZ_len hz j u hu
 refine ⟨z,hz,h1,h2,h3,h4,?_,?_,?_,hc 3 _ rfl (by omega),hc 4 _ rfl (by omega)⟩
 · rw [<- h1];exact hc 0 _ rfl (by omega)
 · rw [<- h2];exact hc 1 _ rfl (by omega)
 · have:=hc 2 _ rfl (by omega)
   rw [h3] at this
   exact this
end
structure Srw (bS:Nat) (r:Option Nat) (w w':World):Prop where
 os:w'.os=w.os
 tape:w'.tape=w.tape
 output:w'.output=w.output
 size:w.heap.size<=w'.heap.size
 block:∀ n,n < w.heap.size->n ≠ bS->r ≠ some n->w'.heap[n]?=w.heap[n]?
section
variable {bS:Nat} {r r1:Option Nat} {w w1 w2 w':World}
theorem Srw.refl (bS:Nat) (r:Option Nat) (w:World):Srw bS r w w:=⟨rfl,rfl,rfl,Nat.le_refl _,fun _ _ _ _=>rfl⟩
theorem Srw.trans (h:Srw bS r w w1) (h2:Srw bS r1 w1 w2) (hr:∀ n,r1=some n->r=some n ∨ w.heap.size<=n):Srw bS r w w2 :=
 ⟨h2.os.trans h.os,h2.tape.trans h.tape,h2.output.trans h.output,Nat.le_trans h.size h2.size,fun n hn h3 h4 =>
  (h2.block n (Nat.lt_of_lt_of_le hn h.size) h3 (fun e=>by rcases hr n e with h5 | h5;exact h4 h5;omega)).trans (h.block n hn h3 h4)⟩
theorem Srw.of_below {B:Nat} (h:Below B w w') (hB:w.heap.size<=B) (bS:Nat) (r:Option Nat):Srw bS r w w':=⟨h.os,h.tape,h.output,h.size,fun n hn _ _=>h.block n (by omega)⟩
theorem Srw.set (bS:Nat) (r:Option Nat) (w:World) (i:Nat) (u:Value):Srw bS r w (w.setCell ⟨bS,i,none⟩ u) :=
 ⟨rfl,rfl,rfl,by simp [World.setCell],fun n _ h3 _=>Below.heap_setCell w ⟨bS,i,none⟩ u n h3⟩
theorem Srw.below (h:Srw bS r w w') {B:Nat} (h1:B<=bS) (h2:∀ n,r=some n->B<=n) (h3:B<=w.heap.size):Below B w w' :=
 ⟨h.os,h.tape,h.output,h.size,fun n hn=>h.block n (by omega) (by omega) (fun e=>by have:=h2 n e;omega)⟩
theorem Srw.sl {α:Type} {E:α->List Value} {lo hi k:Nat} {v:Value} {xs:List α} (h:SlI lo hi w E k v xs) (hs:Srw bS r w w') (hh:hi<=w.heap.size) (h1:bS < lo ∨ hi<=bS) (h2:∀ n,r=some n->n < lo ∨ hi<=n):SlI lo hi w' E k v xs :=
 h.keep_ fun b o h3 h4=>World.cell?_of_block (hs.block b (by omega) (by omega) (fun e=>by have:=h2 b e;omega))
theorem Srw.only {W0:World} (h:Srw bS r w w') (h1:∀ n,r=some n->W0.heap.size<=n):Only bS (bS+1) W0 w->Only bS (bS+1) W0 w':=fun h0 =>
 ⟨h.os.trans h0.os,h.tape.trans h0.tape,h.output.trans h0.output,Nat.le_trans h0.size h.size,fun n hn ho=>(h.block n (Nat.lt_of_lt_of_le hn h0.size) (by omega) (fun e=>by have:=h1 n e;omega)).trans (h0.block n hn ho)⟩
theorem Srw.cell {b o:Nat} {v:Value} (hs:Srw bS r w w') (hc:w.cell? ⟨b,o,none⟩=some v) (hb:b < w.heap.size) (h1:b ≠ bS) (h2:r ≠ some b):w'.cell? ⟨b,o,none⟩=some v :=
 (World.cell?_of_block (a:=⟨b,o,none⟩) (hs.block b hb h1 h2)).trans hc
theorem SlI.stI {lo hi:Nat} {w:World} {A:Option Addr} {n c:Nat} {xs:List St} (h:SlI lo hi w cSt 2 (.slice A n c) xs) {i:Nat} {x:St} (hx:xs[i]?=some x) :
 ∃ b o,A=some ⟨b,o,none⟩/\(lo<=b/\b < hi)/\w.cell? ⟨b,o+i * 2,none⟩=some (.int .i64 x.1)/\w.cell? ⟨b,o+i * 2+1,none⟩=some (.bool x.2):=by
 obtain ⟨A',c',hv,_,_,h3⟩:=h
 injection hv with h1 _ _
 subst h1
 obtain ⟨b,o,e,g1,g2,hc⟩:=h3 i x hx
 exact ⟨b,o,e,⟨g1,g2⟩,by simpa using hc 0 _ rfl,hc 1 _ rfl⟩
end
end Go.Proofs.YteaplabkemoenaaGreat
