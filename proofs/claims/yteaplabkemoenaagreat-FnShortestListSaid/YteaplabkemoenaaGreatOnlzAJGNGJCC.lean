/- Parts of the proof, joined into one text: NextI, TurnI, Shelf, RepeatI, Queue, SpreadI, GoalI, DistI, FromI, DistS, Pick, Reslice, SortI, AnsI, AnsT, HelpPair. -/
import Derived.Test.YteaplabkemoenaaGreatOnlzJGIJMECD
import Derived.Test.YteaplabkemoenaaGreatOnlzKIKFHLPI
import Derived.Test.YteaplabkemoenaaGreatOnlzAIFFPHMF
import Derived.Shelf.Bits.Mul64
import Derived.Test.YteaplabkemoenaaGreatProg
import Derived.Laws.CopyOwn
import Derived.Deep.RegionLaw
import Derived.Test.YteaplabkemoenaaGreatOnlzGFGPLLBC
import Derived.Deep.LoopGhost
import Derived.Test.YteaplabkemoenaaGreatOnlzLPLCAEAG
set_option linter.unusedVariables false
set_option linter.unusedSimpArgs false
namespace Go.Proofs.YteaplabkemoenaaGreat
open Go.ChangeShapes Go.WideShapes Go.ChangeAt Go.RowKit
attribute [local go_sem] ext_cell ext_frozen ext_lt ext_lt1 ext_lt2 ext_lt3 ltn2 ltn3 ltn13 lts1 lts2 lts3
theorem SlI.arc {lo hi:Nat} {w:World} {A:Option Addr} {n c:Nat} {xs:List Arc} (h:SlI lo hi w cA 4 (.slice A n c) xs) {i:Nat} {y:Arc} (hx:xs[i]?=some y) :
 ∃ b o,A=some ⟨b,o,none⟩/\lo<=b/\b < hi/\w.cell? ⟨b,o+i * 4,none⟩=some (.int .i64 y.1.1)/\w.cell? ⟨b,o+i * 4+1,none⟩=some (.bool y.1.2)/\w.cell? ⟨b,o+i * 4+2,none⟩=some (.int .i64 y.2.1)/\w.cell? ⟨b,o+i * 4+3,none⟩=some (.int .i64 y.2.2):=by
 obtain ⟨A',c',hv,_,_,h3⟩:=h
 injection hv with h1 _ _
 subst h1
 obtain ⟨b,o,e,g1,g2,hc⟩:=h3 i y hx
 exact ⟨b,o,e,g1,g2,by simpa using hc 0 _ rfl,hc 1 _ rfl,hc 2 _ rfl,hc 3 _ rfl⟩
theorem elInts:ElemOk Tryz.prog 29 24 (.slice none 0 0) 1 24:=⟨Tryz.underlying29,by kernel_rfl,rfl,by omega⟩
set_option maxHeartbeats 8000000 in
set_option maxRecDepth 100000 in
theorem nextVertices_any (vg va:Value) (g:Gr) (a:Au) (w:World) (hgv:GrV 0 w.heap.size w vg g) (hav:AuV 0 w.heap.size w va a) (hg:GrOk g) (ha:auOk a=true) :
 Calls Tryz.prog 72 #[vg,va] w fun e w'=>∃ v',e=.returned v'/\SSE w.heap.size w'.heap.size w' cN 1 v' ((List.range (g.vals.length * a.accept.length)).map (nextI g a))/\Below w.heap.size w w':=by
 have hgv0:=hgv
 have hav0:=hav
 obtain ⟨A1,c1,A2,c2,rfl,hl1,hm1,hl2,hm2,hC1,-⟩:=hgv.form
 obtain ⟨A3,c3,A4,c4,rfl,hl3,hm3,hl4,hm4,-⟩:=hav.form ha
 have hn5:=hg.n5
 have hn12:=(auOk_iff.1 ha).1.2
 have hn1:=(auOk_iff.1 ha).1.1
 have HGO:=Hd_ hg
 have HAO:=Hd_ ha
 have HGV:=Hd_ hgv0
 have HAV:=Hd_ hav0
 have HC1:=Hd_ hC1
 clear hgv hav hgv0 hav0 hg ha hC1
 obtain ⟨R,hR⟩:∃ R,R=(List.range (g.vals.length * a.accept.length)).map (nextI g a):=⟨_,rfl⟩
 rw [<- hR]
 have HR:=Hd_ hR
 clear hR
 have hNm:g.vals.length * a.accept.length<=60:=by have:=Nat.mul_le_mul hn5 hn12;omega
 obtain ⟨N,hN⟩:∃ N,N=g.vals.length * a.accept.length:=⟨_,rfl⟩
 rw [<- hN] at hNm
 have q0:IntKind.i64.wrap ((a.accept.length:Int) * (g.vals.length:Int))=(N:Int):=by rw [IntWalk.i64_in _ (by rw [Int.mul_comm,<- Int.natCast_mul,<- hN];omega)];rw [hN,Int.natCast_mul,Int.mul_comm]
 have q0':(a.accept.length:Int) * (g.vals.length:Int)=(N:Int):=by rw [hN,Int.natCast_mul,Int.mul_comm]
 have HN:=Hd_ hN
 clear hN
 have hb0:Below w.heap.size w ((w.alloc (.cells #[.slice A1 g.vals.length c1,.slice A2 g.edges.length c2] 27)).alloc (.cells #[.int .i64 a.start,.slice A3 a.accept.length c3,.slice A4 a.accept.length c4] 31)):=((Below.refl _ _).alloc (Nat.le_refl _) _).alloc (by simp) _
 go_enter Tryz.func72,Tryz.ntmps72
 go_wp2_with (at_make;refine wpList_makeE (P:=Tryz.prog) cV (.slice none 0 0) elInts rfl rfl rfl _ _ rfl (w.heap.size+1+1) N (N:Int) (by first | rfl | simp [q0']) (by first | rfl | simp [q0']) rfl (by omega) (by unfold maxLen;omega) (by simp) ?_;intro w1 hrow1 hbel1
              have b0:=((Blk.new w 27 #[.slice A1 g.vals.length c1,.slice A2 g.edges.length c2] w.heap.size rfl).alloc (.cells #[.int .i64 a.start,.slice A3 a.accept.length c3,.slice A4 a.accept.length c4] 31)).below hbel1 (by simp <;> omega)
              have b1:=(Blk.new (w.alloc (.cells #[.slice A1 g.vals.length c1,.slice A2 g.edges.length c2] 27)) 31 #[.int .i64 a.start,.slice A3 a.accept.length c3,.slice A4 a.accept.length c4] (w.heap.size+1) (by simp)).below hbel1 (by simp <;> omega)
              have hb1:Below w.heap.size w w1:=hb0.trans (hbel1.mono (by simp <;> omega))
              simp only [World.size_alloc] at hrow1 ⊢
              have HROW1:=Hd_ hrow1
              have x0:w1.cell? ⟨w.heap.size,0,none⟩=some (.slice A1 g.vals.length c1):=b0.cell 0
              have x1:w1.cell? ⟨w.heap.size,1,none⟩=some (.slice A2 g.edges.length c2):=b0.cell 1
              have y0:w1.cell? ⟨w.heap.size+1,0,none⟩=some (.int .i64 a.start):=b1.cell 0
              have y1:w1.cell? ⟨w.heap.size+1,1,none⟩=some (.slice A3 a.accept.length c3):=b1.cell 1
              have y2:w1.cell? ⟨w.heap.size+1,2,none⟩=some (.slice A4 a.accept.length c4):=b1.cell 2
              clear hbel1 hrow1 b0 b1)
 refine (arcs_any _ g _ (HGV.out.keep hb1) HGO.out).mono ?_
 rintro e w2 ⟨v2,rfl,hsse,hb2⟩
 have hrw:=Rws.made (base:=w2.heap.size) (α:=Nat) (E:=cN) (k:=1) (rT:=3) (ownsRow_below HROW1.out hb2 (Nat.le_refl _))
 rw [<- fill_zero N (nextI g a)] at hrw
 have x0:=kcell hb2 x0
 have x1:=kcell hb2 x1
 have y0:=kcell hb2 y0
 have y1:=kcell hb2 y1
 have y2:=kcell hb2 y2
 have hgl:=hrw.gLt.2
 have hg1:w.heap.size+1+1 < w1.heap.size:=(HROW1.out.lt _ rfl).2
 obtain ⟨A5,c5,hv5,hl5,hm5⟩:=hsse.shape
 have hlen5:((List.range g.vals.length).map fun (x:Nat)=>arcsOf g (x:Int)).length=g.vals.length:=by simp
 rw [hlen5] at hv5 hl5
 subst hv5
 have hbw:=below_trans hb1 hb2
 have HRW:=Hd_ hrw
 have HSSE:=Hd_ hsse
 have hg9:w.heap.size+1 < w2.heap.size:=by omega
 clear hrw hsse hlen5 hb1 hb2
 generalize hgb:w.heap.size+1+1=gb at *
 have hgw:w.heap.size+1 < gb:=by omega
 clear hgb
 go_wp2_with fail
 go_loopw [26] (fun xx wr=>∃ (x:Nat) (hs:List Value),x<=g.vals.length/\xx=.int .i64 (x:Int)/\Rws wr w2.heap.size 24 3 cN 1 gb hs (fillTo N (nextI g a) (x * a.accept.length) [])/\Only gb (gb+1) w2 wr) (fun xx _=>g.vals.length - (intOf xx).toNat)
 case atStart=>exact ⟨0,_,Nat.zero_le _,rfl,by rw [Nat.zero_mul];exact HRW.out,Only.refl _ _ _⟩
 case round =>
  obtain ⟨x,hs,hx,rfl,hrw,hon⟩:=hrel
  have HRW:=Hd_ hrw
  clear hrw
  by_cases hlt:x < g.vals.length
  · obtain ⟨xn,hxn⟩:∃ xn,xn=x * a.accept.length:=⟨_,rfl⟩
    have hxn2:xn+a.accept.length<=N:=by rw [hxn,HN.out];have:=Nat.mul_le_mul_right a.accept.length (show x+1<=g.vals.length by omega);rw [Nat.succ_mul] at this;exact this
    rw [<- hxn] at HRW
    have q1:IntKind.i64.wrap ((x:Int) * (a.accept.length:Int))=(xn:Int):=by rw [IntWalk.i64_in _ (by rw [<- Int.natCast_mul,<- hxn];omega),hxn,Int.natCast_mul]
    have q1':(x:Int) * (a.accept.length:Int)=(xn:Int):=by rw [hxn,Int.natCast_mul]
    have HXN:=Hd_ hxn
    clear hxn
    obtain ⟨b5,o5,A6,c6,rfl,hlo5,hb5,d5,hl6,hm6,hI6,-⟩:=HSSE.out.row (Nat.le_refl _) (i:=x) (xs:=arcsOf g (x:Int)) (by simp [hlt])
    have d5:=ocell hon d5 hb5 (.inr (by omega))
    have hxi:g.vals[x]?=some g.vals[x]:=List.getElem?_eq_getElem hlt
    have hvr:=HGO.out.vals _ (List.getElem_mem hlt)
    generalize g.vals[x]=vx at hxi hvr
    obtain ⟨vx,rfl⟩:=Int.eq_ofNat_of_zero_le hvr.1
    have hva:=valAt_of hxi
    rw [Int.toNat_natCast] at hva
    obtain ⟨b1,o1,rfl,hbb1,dv⟩:=HC1.out.int hxi
    have dv2:=kcell hbw dv
    have hAL:=arcs_len HGO.out (x:Int)
    have HVA:=Hd_ hva
    have HI6:=Hd_ hI6
    clear hva hI6 hxi dv
    go_wp2_with fail
    go_loopw [9] (fun ss wr=>∃ (s:Nat) (hs:List Value),s<=a.accept.length/\ss=.int .i64 (s:Int)/\Rws wr w2.heap.size 24 3 cN 1 gb hs (fillTo N (nextI g a) (xn+s) [])/\Only gb (gb+1) w2 wr) (fun ss _=>a.accept.length - (intOf ss).toNat)
    case atStart=>exact ⟨0,_,Nat.zero_le _,rfl,HRW.out,hon⟩
    case round =>
     clear d5 hon HRW
     obtain ⟨s,hs,hs1,rfl,hrw,hon⟩:=hrel
     have HRW:=Hd_ hrw
     clear hrw
     by_cases hlt2:s < a.accept.length
     · have hs12:s < 12:=by omega
       have hix:xn+s < N:=by omega
       have q2:IntKind.i64.wrap ((xn:Int)+(s:Int))=(xn:Int)+(s:Int):=IntWalk.i64_in _ (by omega)
       have q2a:(0:Int)<=(xn:Int)+(s:Int):=by omega
       have q2b:(xn:Int)+(s:Int) < (N:Int):=by omega
       have q2c:((xn:Int)+(s:Int)).toNat=xn+s:=by omega
       go_wp2_with fail
       go_loopw [38] (fun jj wr=>∃ (j:Nat) (hs:List Value),j<=(arcsOf g (x:Int)).length/\jj=.int .i64 (j:Int)/\Rws wr w2.heap.size 24 3 cN 1 gb hs (fillTo N (nextI g a) (xn+s) (((arcsOf g (x:Int)).take j).flatMap (nextA g a x s)))/\Only gb (gb+1) w2 wr) (fun jj _=>(arcsOf g (x:Int)).length - (intOf jj).toNat)
       case atStart=>exact ⟨0,_,Nat.zero_le _,rfl,HRW.out,hon⟩
       case round =>
        clear hon HRW
        obtain ⟨j,hs,hj,rfl,hrw,hon⟩:=hrel
        have HRW:=Hd_ hrw
        clear hrw
        by_cases hlt3:j < (arcsOf g (x:Int)).length
        · have hyj:(arcsOf g (x:Int))[j]?=some (arcsOf g (x:Int))[j]:=List.getElem?_eq_getElem hlt3
          have hyr:=arc_range HGO.out (List.getElem_mem hlt3)
          generalize (arcsOf g (x:Int))[j]=y at hyj hyr
          obtain ⟨⟨yid,yinv⟩,yl,yt⟩:=y
          simp only at hyr
          obtain ⟨⟨hyl0,hyl5⟩,hyt0,hyt1⟩:=hyr
          obtain ⟨yl,rfl⟩:=Int.eq_ofNat_of_zero_le hyl0
          obtain ⟨yt,rfl⟩:=Int.eq_ofNat_of_zero_le hyt0
          obtain ⟨b6,o6,rfl,hlo6,hb6,z0,z1,z2,z3⟩:=HI6.out.arc hyj
          have z0:=ocell hon z0 hb6 (.inr (by omega))
          have z1:=ocell hon z1 hb6 (.inr (by omega))
          have z2:=ocell hon z2 hb6 (.inr (by omega))
          have z3:=ocell hon z3 hb6 (.inr (by omega))
          have HYJ:=Hd_ hyj
          clear hyj
          go_wp2_with fail
          have e2:(wr.alloc (.cells #[.int .i64 yid,.bool yinv,.int .i64 (yl:Int),.int .i64 (yt:Int)] 73)).cell? ⟨wr.heap.size,2,none⟩=some (.int .i64 (yl:Int)):=by simp
          have e3:(wr.alloc (.cells #[.int .i64 yid,.bool yinv,.int .i64 (yl:Int),.int .i64 (yt:Int)] 73)).cell? ⟨wr.heap.size,3,none⟩=some (.int .i64 (yt:Int)):=by simp
          generalize hW:(wr.alloc (.cells #[.int .i64 yid,.bool yinv,.int .i64 (yl:Int),.int .i64 (yt:Int)] 73))=wE at e2 e3 ⊢
          have hbE:Below wr.heap.size wr wE:=by rw [<- hW];exact (Below.refl _ _).alloc (Nat.le_refl _) _
          have hsE:wr.heap.size < wE.heap.size:=by rw [<- hW];simp
          have hsW:=hon.size
          have yE0:=kcell hbE (ocell hon y0 hg9 (.inl (by omega)))
          have yE1:=kcell hbE (ocell hon y1 hg9 (.inl (by omega)))
          have yE2:=kcell hbE (ocell hon y2 hg9 (.inl (by omega)))
          have xE0:=kcell hbE (ocell hon x0 (by omega) (.inl (by omega)))
          have dE:=kcell hbE (ocell hon dv2 (Nat.lt_of_lt_of_le hbb1 (by omega)) (.inl (by omega)))
          have hbwE:Below w.heap.size w wE:=below_trans (hbw.trans (hon.below (by omega) (by omega))) hbE
          have HRE:=Hd_ (HRW.out.below hbE)
          have HBWE:=Hd_ hbwE
          have HNB:=Hd_ (show ∀ (i:Nat) (hv:Value),hs[i]?=some hv->∀ b,hv.ownBlock=some b->b < wr.heap.size from fun i hv hi b hb=>by
           have hjx:i < (fillTo N (nextI g a) (xn+s) (((arcsOf g (x:Int)).take j).flatMap (nextA g a x s))).length:=by rw [<- HRW.out.len];exact (List.getElem?_eq_some_iff.1 hi).1
           exact ((HRW.out.row i hv _ hi (List.getElem?_eq_getElem hjx)).lt _ hb).2)
          have hfl:=aft_lt HAO.out (bit s) vx yl
          have hfl4:=lt12 HAO.out hfl
          have s1:=shl_bit (s:=s) (by omega)
          have s2:=shl_bit2 (s:=s) (by omega)
          have s3:=shl_bit3 (s:=s) (by omega)
          have HFL:=Hd_ hfl
          clear hW z0 z1 z2 z3 HRW hbwE hfl
          go_region_held3 (fun w'=>w'.cell? ⟨w.heap.size+1,0,none⟩=some (.int .i64 a.start)/\w'.cell? ⟨w.heap.size+1,1,none⟩=some (.slice A3 a.accept.length c3)/\w'.cell? ⟨w.heap.size+1,2,none⟩=some (.slice A4 a.accept.length c4)/\w'.cell? ⟨w.heap.size,0,none⟩=some (.slice (some ⟨b1,o1,none⟩) g.vals.length c1)/\w'.cell? ⟨b1,o1+x,none⟩=some (.int .i64 (vx:Int))/\w'.cell? ⟨wr.heap.size,2,none⟩=some (.int .i64 (yl:Int)))
           (first | (exact ⟨yE0,yE1,yE2,xE0,dE,e2⟩) | (exact kB6 hbA (by assumption)) | (exact kB6 hbM (by assumption)))
           (first | (go_at_call 51;refine (after_any _ a (bit s) vx yl _ (AuV.keep (w':=wE.drew) HAV.out HBWE.out.drew) HAO.out (bit_lt hlt2) (by omega) (by omega)).mono ?_;rintro e wA ⟨rfl,hbA⟩) | (go_at_call 75;refine (members_any (aft a (bit s) vx yl) _ hfl4).mono ?_;rintro e wM ⟨vM,rfl,hoM,hbM⟩;obtain ⟨A7,c7,rfl,hl7,hm7,-⟩:=hoM.form cN_len))
          have hbX:Below wE.heap.size wE wM:=below_trans (below_trans (Below.refl wE.heap.size wE).drew hbA) hbM
          have hM:=hoM.form cN_len
          have hoI:=hoM.sl cN_len
          rename_i hh
          have e3M:=kcell hbX e3
          have hsM:=hbX.size
          have hmA:wE.heap.size<=wA.heap.size:=hbA.size
          have HRM:=Hd_ (HRE.out.below hbX)
          have HONM:=Hd_ (((hon.trans (Only.of_below hbE gb (gb+1))).trans (Only.of_below hbX gb (gb+1))))
          have HOI:=Hd_ (hoI.mono hmA (Nat.le_refl _))
          have hml7:=mem_len 12 (aft a (bit s) vx yl)
          have HNA:=Hd_ (show nextA g a x s ((yid,yinv),(yl:Int),(yt:Int))=(mem 12 (aft a (bit s) vx yl)).map fun t=>yt * a.accept.length+t by rw [nextA,HVA.out];simp)
          have hytn:yt * a.accept.length+a.accept.length<=N:=by rw [HN.out];have:=Nat.mul_le_mul_right a.accept.length (show yt+1<=g.vals.length by omega);rw [Nat.succ_mul] at this;exact this
          obtain ⟨yn,hyn⟩:∃ yn,yn=yt * a.accept.length:=⟨_,rfl⟩
          rw [<- hyn] at hytn HNA
          have q3:IntKind.i64.wrap ((yt:Int) * (a.accept.length:Int))=(yn:Int):=by rw [IntWalk.i64_in _ (by rw [<- Int.natCast_mul,<- hyn];omega),hyn,Int.natCast_mul]
          have q3':(yt:Int) * (a.accept.length:Int)=(yn:Int):=by rw [hyn,Int.natCast_mul]
          obtain ⟨ms,hms⟩:∃ ms,ms=mem 12 (aft a (bit s) vx yl):=⟨_,rfl⟩
          have hmsn:∀ t ∈ ms,t < a.accept.length:=fun t ht=>by rw [hms] at ht;exact bit_in HFL.out (mem_mem.1 ht).2
          rw [<- hms] at HOI HNA hml7 hl7
          have HMS:=Hd_ hmsn
          obtain ⟨cur,hcur⟩:∃ cur,cur=((arcsOf g (x:Int)).take j).flatMap (nextA g a x s):=⟨_,rfl⟩
          have hcl:cur.length<=288:=by
           have h1:∀ y,(nextA g a x s y).length<=12:=fun y=>by rw [nextA,List.length_map];exact mem_len _ _
           have h2:=flat_len h1 ((arcsOf g (x:Int)).take j)
           rw [List.length_take] at h2
           rw [hcur];omega
          rw [<- hcur] at HRM
          have hix2:∀ hv,hs[xn+s]?=some hv->∀ b,hv.ownBlock=some b->b < wr.heap.size ∨ wM.heap.size<=b:=fun hv hi b hb=>by
           have hr:=HRE.out.row (xn+s) hv _ hi (fill_cur (cur:=((arcsOf g (x:Int)).take j).flatMap (nextA g a x s)) hix)
           exact .inl (HNB.out _ _ hi _ hb)
          have HIX:=Hd_ hix2
          have HCUR:=Hd_ hcur
          rw [<- hms]
          have HMQ:=Hd_ hms
          have hgr:=hon.size
          clear hbA hbM hoM hh hM hoI hbX hon hbE HRE HBWE yE0 yE1 yE2 xE0 dE e2 e3 s1 s2 s3 hyn hms hcur hix2 hfl4 hmsn
          go_wp2_with fail
          obtain ⟨wo,rfl⟩:∃ wo:World,wo=wr:=⟨_,rfl⟩
          go_loopw [55] (fun kk w'=>∃ (k:Nat) (hs:List Value),k<=ms.length/\kk=.int .i64 (k:Int)/\Rws w' w2.heap.size 24 3 cN 1 gb hs (fillTo N (nextI g a) (xn+s) (cur ++ (ms.take k).map (fun t=>yn+t)))/\Only gb (gb+1) w2 w'/\Only 0 wo.heap.size wM w' /\
           (∀ hv,hs[xn+s]?=some hv->∀ b,hv.ownBlock=some b->b < wo.heap.size ∨ wM.heap.size<=b)) (fun kk _=>ms.length - (intOf kk).toNat)
          case atStart=>exact ⟨0,_,Nat.zero_le _,rfl,by simpa using HRM.out,HONM.out,Only.refl _ _ _,HIX.out⟩
          case round =>
           clear HRM HONM HIX
           obtain ⟨k,hs,hk,rfl,hrw,hon,hon2,hix2⟩:=hrel
           have HRW:=Hd_ hrw
           have HIX:=Hd_ hix2
           clear hrw hix2
           by_cases hlt4:k < ms.length
           · have hti:ms[k]?=some ms[k]:=List.getElem?_eq_getElem hlt4
             have htn:=HMS.out _ (List.getElem_mem hlt4)
             generalize ms[k]=t at hti htn
             obtain ⟨b7,o7,rfl,hlo7,hb7,d7⟩:=(HOI.out.only hon2 (Nat.le_refl _) (.inr (Nat.le_of_lt hsE))).nat hti
             have hb7w:=Nat.lt_of_lt_of_le hb7 hon2.size
             have f3:=ocell hon2 e3M (Nat.lt_of_lt_of_le hsE hsM) (.inr (Nat.le_refl _))
             have hil:xn+s < hs.length:=by rw [HRW.out.len,fill_len];exact hix
             have hhi:hs[xn+s]?=some hs[xn+s]:=List.getElem?_eq_getElem hil
             generalize hs[xn+s]=hv at hhi
             have hcv:=HRW.out.cell hhi
             have hfv:=HRW.out.frozen (xn+s)
             have hro:=HRW.out.row (xn+s) hv _ hhi (fill_cur hix)
             have hgw2:=HRW.out.gLt.2
             have hne1:some gb ≠ hv.ownBlock:=Ne.symm (HRW.out.far _ _ hhi)
             have hne2:some wo.heap.size ≠ hv.ownBlock:=fun e9=>by
              have:=HIX.out hv hhi _ e9.symm
              omega
             have hneg:wo.heap.size ≠ gb:=by omega
             obtain ⟨row,hrow⟩:∃ row,row=cur ++ (ms.take k).map (fun t=>yn+t):=⟨_,rfl⟩
             have hrl:row.length<=300:=by rw [hrow,List.length_append,List.length_map,List.length_take];omega
             rw [<- hrow] at hro
             have HRO:=Hd_ hro
             have HROW:=Hd_ hrow
             have HTI:=Hd_ hti
             have HHI:=Hd_ hhi
             have HNE1:=Hd_ hne1
             have HNE2:=Hd_ hne2
             have q4:IntKind.i64.wrap ((yn:Int)+(t:Int))=(yn:Int)+(t:Int):=IntWalk.i64_in _ (by omega)
             have hsw2:=hon.size
             have q5:IntKind.i64.wrap (xn:Int)=(xn:Int):=IntWalk.i64_in _ (by omega)
             have q6:IntKind.i64.wrap (yn:Int)=(yn:Int):=IntWalk.i64_in _ (by omega)
             clear hro hrow hti hhi hne1 hne2
             go_wp2_with fail
             refine F_start 23 (fun w'=>w'.cell? ⟨gb,xn+s,none⟩=some hv/\w'.cell? ⟨wo.heap.size,3,none⟩=some (.int .i64 (yt:Int))) (by kernel_rfl) (by exact ⟨hcv,f3⟩) (fun hS inv=>?_)
             refine F_tk 0 inv ?_
             try simp only [tA,tB,tC,Act.put,tE,tF,tG]
             clear inv;intro inv
             refine F_tk 1 inv ?_
             try simp only [tA,tB,tC,Act.put,tE,tF,tG]
             clear inv;intro inv
             refine F_tk 2 inv ?_
             try simp only [tA,tB,tC,Act.put,tE,tF,tG]
             clear inv;intro inv
             refine F_tk 3 inv ?_
             try simp only [tA,tB,tC,Act.put,tE,tF,tG]
             clear inv;intro inv
             refine F_tk 4 inv ?_
             try simp only [tA,tB,tC,Act.put,tE,tF,tG]
             clear inv;intro inv
             refine F_tk 5 inv ?_
             try simp only [tA,tB,tC,Act.put,tE,tF,tG]
             clear inv;intro inv
             refine F_tk 6 inv ?_
             try simp only [tA,tB,tC,Act.put,tE,tF,tG]
             clear inv;intro inv
             refine F_tk 7 inv ?_
             try simp only [tA,tB,tC,Act.put,tE,tF,tG]
             clear inv;intro inv
             refine F_tk 8 inv ?_
             try simp only [tA,tB,tC,Act.put,tE,tF,tG]
             clear inv;intro inv
             refine F_tk 9 inv ?_
             try simp only [tA,tB,tC,Act.put,tE,tF,tG]
             clear inv;intro inv
             refine F_tk 10 inv ?_
             try simp only [tA,tB,tC,Act.put,tE,tF,tG]
             clear inv;intro inv
             refine F_tk 11 inv ?_
             try simp only [tA,tB,tC,Act.put,tE,tF,tG]
             clear inv;intro inv
             refine F_tk 12 inv ?_
             try simp only [tA,tB,tC,Act.put,tE,tF,tG]
             clear inv;intro inv
             refine F_tk 13 inv ?_
             try simp only [tA,tB,tC,Act.put,tE,tF,tG]
             clear inv;intro inv
             refine F_tk 14 inv ?_
             try simp only [tA,tB,tC,Act.put,tE,tF,tG]
             clear inv;intro inv
             refine F_tk 15 inv ?_
             try simp only [tA,tB,tC,Act.put,tE,tF,tG]
             clear inv;intro inv
             refine F_tk 16 inv ?_
             try simp only [tA,tB,tC,Act.put,tE,tF,tG]
             clear inv;intro inv
             refine F_tk 17 inv ?_
             try simp only [tA,tB,tC,Act.put,tE,tF,tG]
             clear inv;intro inv
             refine F_tk 18 inv ?_
             try simp only [tA,tB,tC,Act.put,tE,tF,tG]
             clear inv;intro inv
             refine F_tk 19 inv ?_
             try simp only [tA,tB,tC,Act.put,tE,tF,tG]
             clear inv;intro inv
             refine F_o1 20 inv ?_;intro K hK
             try simp only [tA,tB,tC]
             go_simp
             refine hK.out _ _ (kA2 _ hS) (fun _ _=>?_)
             try simp only [tA,tB,tC,Act.put,tE,tF,tG]
             clear hK K inv hS;rename_i hS inv
             refine F_o1 21 inv ?_;intro K hK
             try simp only [tA,tB,tC]
             refine op_append1 cN elInt rfl _ _ (by rfl) w2.heap.size hv row (yn+t) 1 _ (by rfl) (HRO.out.alloc _) (by first | rfl | simp) (heap_alloc_new _ _) rfl (cN_one _) (by omega) (by omega) (by simp;omega) ?_
             intro g2 cp2 w3 hown3 hgr3 hat3 hlt3
             have HO3:=Hd_ hown3
             have HG3:=Hd_ hgr3
             have HA3:=Hd_ hat3
             clear hown3 hgr3 hat3
             refine hK.out _ _ (kG2 HG3.out HNE1.out HNE2.out hS) (fun _ _=>?_)
             try simp only [tA,tB,tC,Act.put,tE,tF,tG]
             clear hK K inv hS;rename_i hS inv
             refine F_tk 22 inv ?_
             try simp only [tA,tB,tC,Act.put,tE,tF,tG]
             clear inv;intro inv
             have hcz:=HG3.out.cell (kcell ((Below.refl _ _).alloc (Nat.le_refl _) _) hcv) HNE1.out
             have hfz:=kfg HG3.out (p:=⟨gb,xn+s,none⟩) HNE1.out (kcell ((Below.refl _ _).alloc (Nat.le_refl _) _) hcv) (kfb ((Below.refl _ _).alloc (Nat.le_refl _) _) hcv hfv)
             refine F_l1 23 ?_;intro K hK
             go_simp
             refine hK _ _ ?_
             clear hK K inv hS
             have hrF:=Rws.push (HRW.out.below (w':=wr.drew.alloc (.cells #[.int .i64 ((yn:Int)+(t:Int))] 3)) ((Below.refl _ _).drew.alloc (Nat.le_refl _) _)) HHI.out (by rw [<- HROW.out];exact fill_cur hix) HO3.out HG3.out rfl HA3.out
             rw [fill_push _ hix] at hrF
             have hpF:row ++ [yn+t]=cur ++ (ms.take (k+1)).map (fun t=>yn+t):=by rw [HROW.out,take_snoc HTI.out,List.map_append,List.append_assoc];rfl
             rw [hpF] at hrF
             have hon3:=Only.pushed (lo:=gb) (hi:=gb+1) (u:=.slice (some ⟨g2,0,none⟩) (row.length+1) cp2) (i:=xn+s) (g:=gb) ((hon.drew).alloc (.cells #[.int .i64 ((yn:Int)+(t:Int))] 3)) HG3.out (fun b hb=>.inr (HRO.out.lt b hb).1) (.inl ⟨Nat.le_refl _,Nat.lt_succ_self _⟩)
             have hon4:=Only.pushed (lo:=0) (hi:=wo.heap.size) (u:=.slice (some ⟨g2,0,none⟩) (row.length+1) cp2) (i:=xn+s) (g:=gb) ((hon2.drew).alloc (.cells #[.int .i64 ((yn:Int)+(t:Int))] 3)) HG3.out (fun b hb=>(HIX.out hv HHI.out b hb).imp (fun h=>⟨Nat.zero_le _,h⟩) id) (.inl ⟨Nat.zero_le _,by omega⟩)
             have hixF:∀ hv',(hs.set (xn+s) (.slice (some ⟨g2,0,none⟩) (row.length+1) cp2))[xn+s]?=some hv'->∀ b,hv'.ownBlock=some b->b < wo.heap.size ∨ wM.heap.size<=b:=fun hv' hi b hb=>by
              rw [List.getElem?_set,if_pos rfl,if_pos hil] at hi
              injection hi with hi
              subst hi
              injection hb with hb
              subst hb
              rcases HA3.out with h9 | h9
              · exact HIX.out hv HHI.out _ h9
              · have:=hon2.size
                simp at h9
                exact .inr (show wM.heap.size<=g2 by omega)
             have HRF:=Hd_ hrF
             have HO5:=Hd_ hon3
             have HO6:=Hd_ hon4
             have HIXF:=Hd_ hixF
             clear hrF hpF hon3 hon4 hixF hcz hfz
             go_wp2_with fail
             go_roundw
             case rel=>exact ⟨k+1,_,by omega,by go_num,HRF.out,HO5.out,HO6.out,HIXF.out⟩
             case measure=>simp [intOf];omega
           · obtain rfl:k=ms.length:=by omega
             have hall:cur ++ (ms.take ms.length).map (fun t=>yn+t)=((arcsOf g (x:Int)).take (j+1)).flatMap (nextA g a x s):=by rw [List.take_length,flat_take HYJ.out,<- HCUR.out,HNA.out]
             rw [hall] at HRW
             clear hall
             go_wp2_with fail
             go_roundw
             case rel=>exact ⟨j+1,_,by omega,by go_num,HRW.out,hon⟩
             case measure=>simp [intOf];omega
        · obtain rfl:j=(arcsOf g (x:Int)).length:=by omega
          have hall:((arcsOf g (x:Int)).take (arcsOf g (x:Int)).length).flatMap (nextA g a x s)=nextI g a (xn+s):=by rw [List.take_length,HXN.out,nextI_at hlt2];rfl
          rw [hall,fill_next] at HRW
          clear hall
          go_wp2_with fail
          go_roundw
          case rel=>exact ⟨s+1,_,by omega,by go_num,HRW.out,hon⟩
          case measure=>simp [intOf];omega
     · obtain rfl:s=a.accept.length:=by omega
       have hall:xn+a.accept.length=(x+1) * a.accept.length:=by rw [HXN.out,Nat.succ_mul]
       rw [hall] at HRW
       clear hall
       go_wp2_with fail
       go_roundw
       case rel=>exact ⟨x+1,_,by omega,by go_num,HRW.out,hon⟩
       case measure=>simp [intOf];omega
  · obtain rfl:x=g.vals.length:=by omega
    have hs1:=HRW.out
    rw [<- HN.out,fill_all] at hs1
    have hln:hs.length=N:=by rw [hs1.len];simp
    have hs2:=hs1.sse cN_len (lo:=w.heap.size) (by omega) (by omega)
    rw [hln] at hs2
    have HS2:=Hd_ hs2
    have HBF:=Hd_ (hbw.trans (hon.below (B:=w.heap.size) (by omega) (by omega)))
    clear hs1 hs2 hln
    go_wp2_with fail
    go_ret
    exact ⟨_,rfl,by rw [HR.out,<- HN.out];exact HS2.out,HBF.out⟩
theorem elIntsT:ElemOk Tryz.prog 29 24 (.slice none 0 0) 1 24:=⟨Tryz.underlying29,by kernel_rfl,rfl,by omega⟩
theorem turn_row_len {N i k M:Nat} {next:Nat->List Nat} {cur row:List Nat} (h:k < N) (hr:(turnTo N next i cur)[k]?=some row) (hn:∀ m,m < i->(next m).length<=M) (hc:cur.length<=M):row.length<=(i+1) * M:=by
 rw [turn_at h] at hr
 injection hr with hr
 rw [<- hr,List.length_append]
 have h1:∀ (l:List Nat) (f:Nat->Option Nat),(l.filterMap f).length<=l.length:=fun l f=>List.length_filterMap_le f l
 have h2:∀ j,j<=i->((List.range j).flatMap fun m=>(next m).filterMap fun x=>if x=k then some m else none).length<=j * M:=by
  intro j
  induction j with
  | zero=>intro _;simp
  | succ j ih =>
    intro hj
    rw [List.range_succ,List.flatMap_append,List.length_append,Nat.succ_mul]
    have h3:=ih (by omega)
    have h4:=h1 (next j) (fun x=>if x=k then some j else none)
    have h5:=hn j (by omega)
    simp only [List.flatMap_cons,List.flatMap_nil,List.append_nil]
    omega
 have h6:=h2 i (Nat.le_refl _)
 have h7:=h1 cur (fun x=>if x=k then some i else none)
 rw [Nat.succ_mul]
 omega
set_option maxHeartbeats 4000000 in
set_option maxRecDepth 100000 in
theorem turned_any (v:Value) (N:Nat) (next:Nat->List Nat) (w:World) (hv:SSE 0 w.heap.size w cN 1 v ((List.range N).map next)) (hN:N<=60) (hnext:∀ i,i < N->(next i).length<=288/\∀ k ∈ next i,k < N) :
 Calls Tryz.prog 71 #[v] w fun e w'=>∃ v',e=.returned v'/\SSE w.heap.size w'.heap.size w' cN 1 v' ((List.range N).map (turnL N next))/\Below w.heap.size w w':=by
 obtain ⟨A5,c5,hv5,hl5,hm5⟩:=hv.shape
 have hlen5:((List.range N).map next).length=N:=by simp
 rw [hlen5] at hv5 hl5
 subst hv5
 have HV:=Hd_ hv
 have HNX:=Hd_ hnext
 clear hv hnext hlen5
 obtain ⟨R,hR⟩:∃ R,R=(List.range N).map (turnL N next):=⟨_,rfl⟩
 rw [<- hR]
 have HR:=Hd_ hR
 clear hR
 go_enter Tryz.func71,Tryz.ntmps71
 go_wp2_with (at_make;refine wpList_makeE (P:=Tryz.prog) cV (.slice none 0 0) elIntsT rfl rfl rfl _ _ rfl w.heap.size N _ (by rfl) (by rfl) rfl (by omega) (by unfold maxLen;omega) (by simp) ?_;intro w1 hrow1 hbel1
              have hrw:=Rws.made (base:=w.heap.size) (α:=Nat) (E:=cN) (k:=1) (rT:=3) hrow1
              rw [<- turn_zero N next] at hrw
              have HRW:=Hd_ hrw
              have hg1:=hrw.gLt.2
              clear hrow1 hrw)
 generalize hgb:w.heap.size=gb at *
 have HGB:=Hd_ hgb
 clear hgb
 go_loopw [13] (fun ii wr=>∃ (i:Nat) (hs:List Value),i<=N/\ii=.int .i64 (i:Int)/\Rws wr gb 24 3 cN 1 gb hs (turnTo N next i [])/\Below gb w wr) (fun ii _=>N - (intOf ii).toNat)
 case atStart=>exact ⟨0,_,Nat.zero_le _,rfl,HRW.out,hbel1⟩
 case round =>
  clear HRW hbel1
  obtain ⟨i,hs,hi,rfl,hrw,hbel⟩:=hrel
  have HRW:=Hd_ hrw
  clear hrw
  by_cases hlt:i < N
  · obtain ⟨b5,o5,A6,c6,rfl,-,hb5,d5,hl6,hm6,hI6,-⟩:=HV.out.row (by rw [HGB.out];exact Nat.le_refl _) (i:=i) (xs:=next i) (by simp [hlt])
    have d5:=(hbel.cell (p:=⟨b5,o5+i,none⟩) hb5).trans d5
    have hni:=HNX.out i hlt
    have HI6:=Hd_ hI6
    obtain ⟨hnl,hnk⟩:=hni
    have HNK:=Hd_ hnk
    clear hI6 hnk
    go_wp2_with fail
    go_loopw [20] (fun jj wr=>∃ (j:Nat) (hs:List Value),j<=(next i).length/\jj=.int .i64 (j:Int)/\Rws wr gb 24 3 cN 1 gb hs (turnTo N next i ((next i).take j))/\Below gb w wr) (fun jj _=>(next i).length - (intOf jj).toNat)
    case atStart=>exact ⟨0,_,Nat.zero_le _,rfl,HRW.out,hbel⟩
    case round =>
     clear d5 HRW hbel
     obtain ⟨j,hs,hj,rfl,hrw,hbel⟩:=hrel
     have HRW:=Hd_ hrw
     clear hrw
     by_cases hlt2:j < (next i).length
     · have hki:(next i)[j]?=some (next i)[j]:=List.getElem?_eq_getElem hlt2
       have hkn:=HNK.out _ (List.getElem_mem hlt2)
       generalize (next i)[j]=k at hki hkn
       obtain ⟨b7,o7,rfl,-,hb7,d7⟩:=HI6.out.nat hki
       have d7:=(hbel.cell (p:=⟨b7,o7+j,none⟩) hb7).trans d7
       have hb7w:=Nat.lt_trans hb7 HRW.out.gLt.2
       have hil:k < hs.length:=by rw [HRW.out.len,turn_len];exact hkn
       have hhi:hs[k]?=some hs[k]:=List.getElem?_eq_getElem hil
       generalize hs[k]=hv at hhi
       have hcv:=HRW.out.cell hhi
       have hfv:=HRW.out.frozen k
       have hxr:k < (turnTo N next i ((next i).take j)).length:=by rw [turn_len];exact hkn
       have hxk:(turnTo N next i ((next i).take j))[k]?=some (turnTo N next i ((next i).take j))[k]:=List.getElem?_eq_getElem hxr
       generalize (turnTo N next i ((next i).take j))[k]=row at hxk
       have hrl:row.length<=100000:=by
        have h1:=turn_row_len hkn hxk (M:=288) (fun m hm=>(HNX.out m (by omega)).1) (by rw [List.length_take];omega)
        have h2:=Nat.mul_le_mul_right 288 (show i+1<=60 by omega)
        omega
       have hro:=HRW.out.row k hv row hhi hxk
       have hgw:=HRW.out.gLt.2
       have hne1:some gb ≠ hv.ownBlock:=Ne.symm (HRW.out.far _ _ hhi)
       have HRO:=Hd_ hro
       have HHI:=Hd_ hhi
       have HXK:=Hd_ hxk
       have HKI:=Hd_ hki
       have HNE1:=Hd_ hne1
       clear hro hhi hxk hki hne1
       have hkN:(k:Int) < (N:Int):=by omega
       have hsw:=hbel.size
       rw [HGB.out] at hsw
       go_wp2_with (at_builtin;(refine wpList_append2 cN elInt rfl _ _ rfl gb hv row i 1 _ (by rfl) (HRO.out.alloc _) (by rfl) (heap_alloc_new _ _) rfl (cN_one _) (by omega) (by omega) (by simp;omega) ?_);intro g2 cp2 w3 hown3 hgr3 hat3 hlt3
                    have hcz:=hgr3.cell (kcell ((Below.refl _ _).alloc (Nat.le_refl _) _) hcv) HNE1.out
                    have hfz:=kfg hgr3 (p:=⟨gb,k,none⟩) HNE1.out (kcell ((Below.refl _ _).alloc (Nat.le_refl _) _) hcv) (kfb ((Below.refl _ _).alloc (Nat.le_refl _) _) hcv hfv)
                    have HO3:=Hd_ hown3
                    have HG3:=Hd_ hgr3
                    have HA3:=Hd_ hat3
                    clear hown3 hgr3 hat3)
       have hrF:=Rws.push (HRW.out.below (w':=wr.alloc (.cells #[.int .i64 (i:Int)] 3)) ((Below.refl _ _).alloc (Nat.le_refl _) _)) HHI.out HXK.out HO3.out HG3.out rfl HA3.out
       rw [turn_push hkn HXK.out,<- take_snoc HKI.out] at hrF
       have hbF:Below gb w (w3.setCell ⟨gb,k,none⟩ (.slice (some ⟨g2,0,none⟩) (row.length+1) cp2)) :=
        ((hbel.alloc (by omega) _).grown HG3.out (by simp;omega) (fun b hb=>(HRO.out.lt b hb).1)).setCell (Nat.le_refl _) _
       have HRF:=Hd_ hrF
       have HBF:=Hd_ hbF
       clear hrF hbF hcz hfz
       go_roundw
       case rel=>exact ⟨j+1,_,by omega,by go_num,HRF.out,HBF.out⟩
       case measure=>simp [intOf];omega
     · obtain rfl:j=(next i).length:=by omega
       have hall:turnTo N next i ((next i).take (next i).length)=turnTo N next (i+1) []:=by rw [List.take_length,turn_next]
       rw [hall] at HRW
       clear hall
       go_wp2_with fail
       go_roundw
       case rel=>exact ⟨i+1,_,by omega,by go_num,HRW.out,hbel⟩
       case measure=>simp [intOf];omega
  · obtain rfl:i=N:=by omega
    have hs1:=HRW.out
    rw [turn_all] at hs1
    have hln:hs.length=i:=by rw [hs1.len];simp
    have hs2:=hs1.sse cN_len (lo:=gb) (Nat.le_refl _) (Nat.le_refl _)
    rw [hln] at hs2
    have HS2:=Hd_ hs2
    clear hs1 hs2 hln
    go_wp2_with fail
    go_ret
    exact ⟨_,rfl,by rw [HR.out,HGB.out];exact HS2.out,by rw [HGB.out];exact hbel⟩
end Go.Proofs.YteaplabkemoenaaGreat
/-
 DERIVED: THE SHELF's CONTRACTS AT THIS DUMP,IN PLAIN WORDS (tools/lay-plain.mjs out of 'TryzShelf.lean',which tools/lay-shelf.mjs wrote): THE SAME DECLARATIONS UNDER THE SAME NAMES: 'import','namespace','open','def','theorem' AND NOTHING ELSE: no command of the shelf's: FOR A HAND-IN. Each laying: the table of numbers ('.._ren') and one theorem,a field a fact of the dump's own or the kernel's comparison;each contract: ONE APPLICATION.
-/
namespace Go.Proofs
open Go.Shelf
def Tryz.lays212_ren:Go.Shelf.Ren:=⟨fun | 212=>103 | 263=>115 | 264=>116 | n=>n,fun | 46=>138 | 51=>169 | 146=>170 | 53=>172 | 148=>173 | n=>n,fun | n=>n⟩
theorem Tryz.lays212:Go.Proofs.Lays.n212 Tryz.prog Tryz.lays212_ren:={
 mixed:=by kernel_rfl
 f212:=Tryz.func103.trans (congrArg some (by kernel_rfl))
 f263:=Tryz.func115.trans (congrArg some (by kernel_rfl))
 f264:=Tryz.func116.trans (congrArg some (by kernel_rfl))
 t46:=Tryz.underlying138
 a46:=Tryz.isAgg138
 z46:=Tryz.sizeOf138
 v46:=Tryz.zeroValue138
 t51:=Tryz.underlying169
 a51:=Tryz.isAgg169
 z51:=Tryz.sizeOf169
 v51:=Tryz.zeroValue169
 t53:=Tryz.underlying172
 a53:=Tryz.isAgg172
 z53:=Tryz.sizeOf172
 v53:=Tryz.zeroValue172
 t146:=Tryz.underlying170
 a146:=Tryz.isAgg170
 z146:=Tryz.sizeOf170
 v146:=Tryz.zeroValue170
 t148:=Tryz.underlying173
 a148:=Tryz.isAgg173
 z148:=Tryz.sizeOf173
 v148:=Tryz.zeroValue173 }
open Go.RowKit Go.Lib in
/-- math/bits.Mul: "Mul returns the full-width product of x and y": on a machine of 64 bits: Mul64's. (LAID: no walk: one application.) -/
theorem Tryz.bits_Mul (x y:Nat) (hx:x < 18446744073709551616) (hy:y < 18446744073709551616) (w:World) :
 Calls Tryz.prog 103 #[.int .u64 x,.int .u64 y] w fun e w'=>e=.returned (.tuple #[.int .u64 ((x * y / 18446744073709551616:Nat):Int),.int .u64 ((x * y % 18446744073709551616:Nat):Int)])/\w'=w:=Any.bits_Mul Tryz.lays212 x y hx hy w
end Go.Proofs
namespace Go.Proofs.YteaplabkemoenaaGreat
open Go.ChangeShapes Go.WideShapes Go.ChangeAt Go.RowKit
attribute [local go_sem] ext_cell ext_frozen ext_lt ext_lt1 ext_lt2 ext_lt3 ltn2 ltn3 ltn13 lts1 lts2 lts3
theorem own_full {w:World} {base g n:Nat} {e:TypeId} {xs:List Value} (h:w.ownsRow base e 1 (.slice (some ⟨g,0,none⟩) n n) n xs):w.heap[g]?=some (.cells xs.toArray e (0,0)):=by
 obtain ⟨hl,h⟩:=h
 rcases h with ⟨h,_⟩ | ⟨g',cap,cur,hv,_,hg,_,_,hs,ht⟩
 · cases h
 · simp only [Value.slice.injEq,Option.some.injEq,Addr.mk.injEq,and_true,true_and] at hv
   obtain ⟨rfl,rfl⟩:=hv
   rw [hg,<- ht,List.take_of_length_le (by rw [Array.length_toList,hs];exact Nat.le_refl _)]
theorem full_own {w:World} {base g n:Nat} {e:TypeId} {xs:List Value} (h:w.heap[g]?=some (.cells xs.toArray e (0,0))) (hn:xs.length=n) (hb:base<=g) (hm:n<=maxLen):w.ownsRow base e 1 (.slice (some ⟨g,0,none⟩) n n) n xs :=
 ⟨by rw [hn,Nat.mul_one],.inr ⟨g,n,xs.toArray,rfl,hb,h,Nat.le_refl _,hm,by simpa using hn,by rw [Nat.mul_one,<- hn];simp⟩⟩
theorem op_copy {P:Program} {o:Oper} {a:Act} {w:World} {K:Act->World->Prop} {Q:Exit->Act->World->Prop} (hgd:o.guard=none) (d s:Operand) (dT sT:TypeId)
 (ho:o.op=.call { callee:=.builtin .copy,args:=#[d,s],argTypes:=#[dT,sT] }) (elem:TypeId) (hu:P.underlying dT=some (.slice elem)) (hsz:(P.info? elem).map (·.size)=some 1)
 (dp sp:Option Addr) (dLen dCap sLen sCap:Nat) (hd:a.eval d=.slice dp dLen dCap) (hs:a.eval s=.slice sp sLen sCap)
 (g off:Nat) (cur:List Value) (t:TypeId) (hg:w.heap[g]?=some (.cells cur.toArray t (0,0))) (cs:List Value) (hn:cs.length=Nat.min sLen dLen)
 (hpos:0 < cs.length->dp=some ⟨g,off,none⟩/\∃ ad,sp=some ad/\∀ j v,cs[j]?=some v->w.cell? (ad.add j)=some v)
 (hfit:off+cs.length<=cur.length) (h1:∀ v ∈ cs,v.oneCell'=true) (B:Nat) (w0:World) (hb:RowKit.Below B w0 w) (hBg:B<=g)
 (h:∀ w',RowKit.Hid (w'.heap[g]?=some (.cells (splice cur off cs).toArray t (0,0)))->RowKit.Below B w0 w'->K (a.put o.dst (goInt cs.length)) w'):Oper.wp P o a w K Q:=by
 have h2:=step_copy_splice (ops:=#[]) (E:=True) (Q:=Q) (K:=K) hgd d s dT sT ho elem hu hsz dp sp dLen dCap sLen sCap hd hs g off cur t hg cs hn hpos hfit h1 B w0 hb hBg h
 have hw:Region.wanted o (yielded #[] a.tmps)=true:=by simp [Region.wanted,hgd]
 rwa [if_pos hw] at h2
theorem flatI_rep (n:Nat) (x:Int):(List.replicate n x).flatMap cI=List.replicate n (.int .i64 x):=by
 induction n with
 | zero=>rfl
 | succ n ih=>rw [List.replicate_succ,List.flatMap_cons,ih];rfl
/-- n of x, then zeros -/
def repTo (x:Int) (N n:Nat):List Value:=List.replicate n (.int .i64 x) ++ List.replicate (N - n) (.int .i64 0)
theorem repTo_len {x:Int} {N n:Nat} (h:n<=N):(repTo x N n).length=N:=by simp [repTo];omega
theorem repTo_step {x:Int} {N n k:Nat} (h:n+k<=N):splice (repTo x N n) n (List.replicate k (.int .i64 x))=repTo x N (n+k):=by
 unfold splice repTo
 rw [List.take_append_of_le_length (by simp),List.take_of_length_le (by simp),List.drop_append,List.length_replicate,List.length_replicate]
 rw [List.drop_eq_nil_of_le (by simp),List.nil_append,List.drop_replicate,<- List.append_assoc,List.replicate_append_replicate]
 congr 2
 omega
set_option maxHeartbeats 2000000 in
set_option maxRecDepth 100000 in
theorem repeat_any (lv:Value) (x:Int) (N:Nat) (w:World) (hN:1<=N) (hN2:N<=100000) (hl:SlE w cI 1 lv [x]) :
 Calls Tryz.prog 90 #[lv,.int .i64 (N:Int)] w fun e w'=>∃ g,e=.returned (.slice (some ⟨g,0,none⟩) N N)/\w'.ownsRow w.heap.size 3 1 (.slice (some ⟨g,0,none⟩) N N) N ((List.replicate N x).flatMap cI)/\Below w.heap.size w w':=by
 obtain ⟨A1,c1,rfl,hl1,hm1,hC⟩:=hl.form
 obtain ⟨b,o,rfl,hb,hc⟩:=hC.int (i:=0) rfl
 have u1:IntKind.u64.wrap (1:Int)=1:=by rfl
 have u2:IntKind.u64.wrap (N:Int)=(N:Int):=by rw [IntKind.wrap_u64];omega
 have u3:((1 * N / 18446744073709551616:Nat):Int)=0:=by rw [Nat.one_mul,Nat.div_eq_of_lt (by omega)];rfl
 have u4:((1 * N % 18446744073709551616:Nat):Int)=(N:Int):=by rw [Nat.one_mul,Nat.mod_eq_of_lt (by omega)]
 have hmul:∀ w:World,Calls Tryz.prog 103 #[.int .u64 1,.int .u64 (N:Int)] w fun e w'=>e=.returned (.tuple #[.int .u64 0,.int .u64 (N:Int)])/\w'=w:=fun w=>(Tryz.bits_Mul 1 N (by omega) (by omega) w).mono fun e w' ⟨he,hw⟩=>⟨by rw [he,u3,u4],hw⟩
 have HMUL:=Hd_ hmul
 clear hl hC u3 u4 hmul
 simp only [List.length_singleton] at *
 go_enter Tryz.func90,Tryz.ntmps90
 go_wp2_with fail
 refine (HMUL.out _).mono ?_
 rintro e w' ⟨rfl,rfl⟩
 have u5:IntKind.i64.wrap (N:Int)=(N:Int):=IntWalk.i64_in _ (by omega)
 have hn0:decide ((N:Int) > 9223372036854775807)=false:=by simp;omega
 have hnews:∀ (w1:World),w1.cell? ⟨b,o,none⟩=some (.int .i64 x)->∀ (j:Nat) (v:Value),(List.replicate 1 (Value.int .i64 x))[j]?=some v->w1.cell? ((⟨b,o,none⟩:Addr).add j)=some v:=fun w1 h j v hj=>by
  rw [List.getElem?_replicate] at hj
  split at hj
  · obtain rfl:j=0:=by omega
    injection hj with hj
    subst hj
    simpa [Addr.add] using h
  · cases hj
 have HNEWS:=Hd_ hnews
 clear hnews
 go_wp2_with (first | (at_make;refine wpList_makeE (P:=Tryz.prog) cI 0 elInt rfl rfl rfl _ _ rfl w'.heap.size N _ (by rfl) (by rfl) rfl (by omega) (by unfold maxLen;omega) (by simp) ?_;intro w1 hrow1 hbel1;have HB1:=Hd_ (own_full hrow1);have hlt1:=(hrow1.lt _ rfl).2;have hc1:=kcell hbel1 hc;clear hrow1) | (refine wpList_copy_splice rfl (.tmp 31) (.tmp 32) 24 24 rfl 3 Tryz.underlying24 (by kernel_rfl) (some ⟨w'.heap.size,0,none⟩) (some ⟨b,o,none⟩) N N 1 c1 (by rfl) (by rfl) w'.heap.size 0 (repTo x N 0) 3 (by have h:=HB1.out;rw [flatI_rep] at h;simpa [repTo] using h) (List.replicate 1 (.int .i64 x)) (by simp [Nat.min_def];omega) (fun _=>⟨rfl,_,rfl,HNEWS.out _ hc1⟩) (by rw [repTo_len (Nat.zero_le _)];simp;omega) (by intro v hv;rw [List.eq_of_mem_replicate hv];rfl) w'.heap.size w' hbel1 (Nat.le_refl _) ?_;intro w2 hh2 hbel2;rw [repTo_step (by omega)] at hh2))
 obtain ⟨w0,rfl⟩:∃ w0:World,w0=w':=⟨_,rfl⟩
 go_loopw [8] (fun nn wr=>∃ n:Nat,1<=n/\n<=N/\nn=.int .i64 (n:Int)/\wr.heap[w0.heap.size]?=some (.cells (repTo x N n).toArray 3 (0,0))/\Below w0.heap.size w0 wr) (fun nn _=>N - (intOf nn).toNat)
 case atStart=>exact ⟨1,Nat.le_refl _,hN,rfl,by simpa using hh2.out,hbel2⟩
 case round =>
  clear hh2 hbel2
  obtain ⟨n,hn1,hn2,rfl,hblk,hbel⟩:=hrel
  have HB:=Hd_ hblk
  clear hblk
  by_cases hlt:n < N
  · obtain ⟨m,hm⟩:∃ m,m=Nat.min n (N - n):=⟨_,rfl⟩
    have hm1:1<=m/\m<=n/\n+m<=N:=by rw [hm];show 1<=min n (N - n)/\min n (N - n)<=n/\n+min n (N - n)<=N;omega
    have HM:=Hd_ hm
    clear hm
    have hsrc:∀ j v,(List.replicate m (Value.int .i64 x))[j]?=some v->wr.drew.cell? ((⟨w0.heap.size,0,none⟩:Addr).add j)=some v:=fun j v hj=>by
     rw [List.getElem?_replicate] at hj
     split at hj
     · injection hj with hj
       subst hj
       have hadd:(⟨w0.heap.size,0,none⟩:Addr).add j=⟨w0.heap.size,j,none⟩:=by unfold Addr.add;split <;> simp_all
       rw [hadd]
       show wr.cell? _=_
       rw [cell_of_row wr _ j _ _ _ HB.out]
       have hjn:j < n:=by omega
       simp [repTo,List.getElem?_append,hjn]
     · cases hj
    have HSRC:=Hd_ hsrc
    have hNn:¬ N=n:=by omega
    have q1:IntKind.i64.wrap ((n:Int)+(m:Int))=(n:Int)+(m:Int):=IntWalk.i64_in _ (by omega)
    clear hsrc
    go_wp2_with fail
    refine F_start 9 (fun _=>True) (by kernel_rfl) trivial (fun hS inv=>?_)
    refine F_tk 0 inv ?_
    try simp only [tA,tB,tC,Act.put,tE,tF,tG]
    clear inv;intro inv
    refine F_tk 1 inv ?_
    try simp only [tA,tB,tC,Act.put,tE,tF,tG]
    clear inv;intro inv
    refine F_tk 2 inv ?_
    try simp only [tA,tB,tC,Act.put,tE,tF,tG]
    clear inv;intro inv
    refine F_tk 3 inv ?_
    try simp only [tA,tB,tC,Act.put,tE,tF,tG]
    clear inv;intro inv
    refine F_tk 4 inv ?_
    try simp only [tA,tB,tC,Act.put,tE,tF,tG]
    clear inv;intro inv
    refine F_tk 5 inv ?_
    try simp only [tA,tB,tC,Act.put,tE,tF,tG]
    clear inv;intro inv
    refine F_tk 6 inv ?_
    try simp only [tA,tB,tC,Act.put,tE,tF,tG]
    clear inv;intro inv
    refine F_o1 7 inv ?_;intro K hK
    try simp only [tA,tB,tC]
    refine op_copy rfl _ _ 24 24 rfl 3 Tryz.underlying24 (by kernel_rfl) (some ⟨w0.heap.size,n,none⟩) (some ⟨w0.heap.size,0,none⟩) (N - n) (N - n) n N (by rfl) (by rfl) w0.heap.size n (repTo x N n) 3 HB.out (List.replicate m (.int .i64 x)) (by rw [List.length_replicate,HM.out]) (fun _=>⟨rfl,_,rfl,HSRC.out⟩) (by rw [repTo_len (by omega),List.length_replicate];omega) (by intro v hv;rw [List.eq_of_mem_replicate hv];rfl) w0.heap.size w0 hbel.drew (Nat.le_refl _) ?_
    intro w3 hh3 hbel3
    rw [repTo_step (by omega)] at hh3
    simp only [List.length_replicate,goInt]
    refine hK.out _ _ (trivial) (fun _ _=>?_)
    try simp only [tA,tB,tC,Act.put,tE,tF,tG]
    clear hK K inv hS;rename_i hS inv
    refine F_tk 8 inv ?_
    try simp only [tA,tB,tC,Act.put,tE,tF,tG]
    clear inv;intro inv
    refine F_l1 9 ?_;intro K hK
    go_simp
    refine hK _ _ ?_
    clear hK K inv hS
    go_wp2_with fail
    go_roundw
    case rel=>exact ⟨n+m,by omega,by omega,by go_num,hh3.out,hbel3⟩
    case measure=>simp [intOf];omega
  · obtain rfl:n=N:=by omega
    have hown:=full_own (base:=w0.heap.size) (n:=n) HB.out (repTo_len (Nat.le_refl _)) (Nat.le_refl _) (by unfold maxLen;omega)
    have hfl:repTo x n n=(List.replicate n x).flatMap cI:=by rw [flatI_rep];simp [repTo]
    rw [hfl] at hown
    have HO:=Hd_ hown
    clear hown hfl
    go_wp2_with fail
    go_ret
    exact ⟨_,rfl,HO.out,hbel⟩
end Go.Proofs.YteaplabkemoenaaGreat
namespace Go.Proofs.YteaplabkemoenaaGreat
open Go.ChangeShapes Go.WideShapes Go.ChangeAt Go.RowKit
def QRow (w:World) (lo:Nat) (e:TypeId) (k:Nat) (v:Value) (n:Nat) (xs:List Value):Prop :=
 xs.length=n * k /\
 ((v=.slice none 0 0/\n=0) ∨
  ∃ g o cap cur,v=.slice (some ⟨g,o,none⟩) n cap/\lo<=g/\w.heap[g]?=some (.cells cur e (0,0))/\n<=cap/\cap<=maxLen/\o+cap * k<=cur.size/\(cur.toList.drop o).take (n * k)=xs)
section
variable {w w':World} {lo k n:Nat} {e:TypeId} {v:Value} {xs:List Value}
theorem QRow.of_own (h:w.ownsRow lo e k v n xs):QRow w lo e k v n xs:=by
 obtain ⟨hl,hs⟩:=h
 refine ⟨hl,?_⟩
 rcases hs with hs | ⟨g,cap,cur,hv,hg,hh,hnc,hm,hsz,htk⟩
 · exact .inl hs
 · exact .inr ⟨g,0,cap,cur,hv,hg,hh,hnc,hm,by omega,by simpa using htk⟩
theorem QRow.lt (h:QRow w lo e k v n xs):∀ g,v.ownBlock=some g->lo<=g/\g < w.heap.size:=by
 intro g hg
 rcases h.2 with ⟨rfl,_⟩ | ⟨g',o,cap,cur,rfl,hl,hh,_⟩
 · cases hg
 · have:g'=g:=by simpa [Value.ownBlock] using hg
   subst this
   refine ⟨hl,?_⟩
   rcases Nat.lt_or_ge g' w.heap.size with hlt | hge
   · exact hlt
   · rw [Array.getElem?_eq_none hge] at hh;cases hh
theorem QRow.shape (h:QRow w lo e k v n xs):∃ A c,v=.slice A n c/\n<=c/\c<=maxLen:=by
 rcases h.2 with ⟨rfl,rfl⟩ | ⟨g,o,cap,cur,rfl,_,_,h1,h2,_⟩
 · exact ⟨_,_,rfl,Nat.le_refl _,by unfold maxLen;omega⟩
 · exact ⟨_,_,rfl,h1,h2⟩
theorem QRow.block (h:QRow w lo e k v n xs) (hb:∀ g,v.ownBlock=some g->w'.heap[g]?=w.heap[g]?):QRow w' lo e k v n xs:=by
 obtain ⟨hl,hs⟩:=h
 refine ⟨hl,?_⟩
 rcases hs with hs | ⟨g,o,cap,cur,rfl,hg,hh,r⟩
 · exact .inl hs
 · exact .inr ⟨g,o,cap,cur,rfl,hg,(hb g rfl).trans hh,r⟩
theorem QRow.below (h:QRow w lo e k v n xs) {B:Nat} (hb:Below B w w') (hB:w.heap.size<=B):QRow w' lo e k v n xs :=
 h.block fun g hg=>hb.block g (by have:=(h.lt g hg).2;omega)
theorem QRow.only (h:QRow w lo e k v n xs) {l r:Nat} (hb:Only l r w w') (ho:∀ g,v.ownBlock=some g->g < l ∨ r<=g):QRow w' lo e k v n xs :=
 h.block fun g hg=>hb.block g (h.lt g hg).2 (ho g hg)
theorem QRow.alloc (h:QRow w lo e k v n xs) (o:Obj):QRow (w.alloc o) lo e k v n xs :=
 h.block fun g hg=>Below.heap_alloc w o g (h.lt g hg).2
theorem QRow.cell (h:QRow w lo e k v n xs) (hn:0 < n):∃ g o c,v=.slice (some ⟨g,o,none⟩) n c/\lo<=g/\g < w.heap.size/\∀ j u,xs[j]?=some u->w.cell? ⟨g,o+j,none⟩=some u:=by
 have hlt:=h.lt
 obtain ⟨hl,hs⟩:=h
 rcases hs with ⟨_,h0⟩ | ⟨g,o,cap,cur,rfl,hg,hh,hnc,hm,hsz,htk⟩
 · omega
 · refine ⟨g,o,cap,rfl,hg,(hlt g rfl).2,fun j u hu=>?_⟩
   rw [cell_of_row w g (o+j) cur e (0,0) hh]
   have hj:j < n * k:=by rw [<- hl];exact (List.getElem?_eq_some_iff.1 hu).1
   rw [<- htk,List.getElem?_take,if_pos hj,List.getElem?_drop] at hu
   simpa using hu
/-- v[1:] -/
theorem QRow.tail (h:QRow w lo e k v (n+1) xs) {A:Option Addr} {c:Nat} (hv:v=.slice A (n+1) c):QRow w lo e k (.slice (if c=1 then A else A.map (·.add k)) n (c - 1)) n (xs.drop k):=by
 obtain ⟨hl,hs⟩:=h
 refine ⟨by rw [List.length_drop,hl,Nat.succ_mul];omega,?_⟩
 rcases hs with ⟨_,h0⟩ | ⟨g,o,cap,cur,rfl,hg,hh,hnc,hm,hsz,htk⟩
 · omega
 · injection hv with h1 _ h3
   subst h1 h3
   by_cases hc:cap=1
   · rw [if_pos hc]
     have hn0:n=0:=by omega
     subst hn0
     refine .inr ⟨g,o,_,cur,rfl,hg,hh,by omega,by omega,by subst hc;simp only [Nat.sub_self,Nat.zero_mul];omega,?_⟩
     have:xs.drop k=[]:=by rw [List.drop_eq_nil_iff,hl];omega
     rw [this];simp
   · rw [if_neg hc]
     refine .inr ⟨g,o+k,cap - 1,cur,?_,hg,hh,by omega,by omega,?_,?_⟩
     · simp only [Option.map_some,Addr.add]
       split
       · rename_i h0;subst h0;rfl
       · rfl
     · have:cap=(cap - 1)+1:=by omega
       rw [this,Nat.succ_mul] at hsz
       omega
     · rw [<- htk,List.drop_take,List.drop_drop,Nat.succ_mul]
       congr 1
       omega
end
section
variable {P:Program} (w:World)
theorem run_append_roomQ (t ty e:TypeId) (i:TypeInfo) (ht:P.underlying t=some (.slice e)) (hi:P.info? e=some i)
 (g o sLen sCap:Nat) (cur:Array Value) (hg:w.heap[g]?=some (.cells cur e (0,0)))
 (a:Addr) (m c:Nat) (news:List Value) (hl:news.length=m * i.size) (hnews:∀ j u,news[j]?=some u->w.cell? (a.add j)=some u) (h1:∀ u ∈ news,u.oneCell'=true)
 (hroom:sLen+m<=sCap) (hfit:o+sLen * i.size+news.length<=cur.size) :
 (Builtin.append_ #[t,t] ty #[.slice (some ⟨g,o,none⟩) sLen sCap,.slice (some a) m c]).run P w =
  .ok (.slice (some ⟨g,o,none⟩) (sLen+m) sCap) (w.setRow g (cur.toList.take (o+sLen * i.size) ++ news ++ cur.toList.drop (o+sLen * i.size+news.length)).toArray):=by
 have hf:=run_firstCells_some (P:=P) w i.size m a m c news hl hnews
 have hst:=run_storeCells_at P g (o+sLen * i.size) e news 0 cur w hg (by simpa using hfit) h1
 simp only [Nat.add_zero] at hst
 have hadd:(⟨g,o,none⟩:Addr).add (sLen * i.size)=⟨g,o+sLen * i.size,none⟩:=by
  unfold Addr.add
  split
  · rename_i h0;rw [h0];rfl
  · rfl
 simp [Builtin.append_,run_underlying ht,sizeOf,typeInfo,hi,Builtin.lenOf,hroom,hf,hadd,hst]
theorem run_appendQ (base:Nat) (t ty e:TypeId) (i:TypeInfo) (z:Value) (size bytes:Nat) (ht:P.underlying t=some (.slice e)) (hi:P.info? e=some i) (hz:i.zero=some z)
 (hsize:i.size=size) (hby:i.bytes=bytes) (hzs:z.cells.size=size) (hsz:0 < size)
 (v:Value) (n:Nat) (xs:List Value) (hown:QRow w base e size v n xs)
 (a:Addr) (m c:Nat) (news:List Value) (hm0:0 < m) (hl:news.length=m * size) (hnews:∀ j u,news[j]?=some u->w.cell? (a.add j)=some u) (h1:∀ u ∈ news,u.oneCell'=true)
 (h63:n+m<=maxLen) (hbytes:(n+m) * bytes<=140737488355328) (hbase:base<=w.heap.size) :
 ∃ v' w',(Builtin.append_ #[t,t] ty #[v,.slice (some a) m c]).run P w=.ok v' w'/\QRow w' base e size v' (n+m) (xs ++ news)/\w.grownBy w' v.ownBlock/\(v'.ownBlock=v.ownBlock ∨ v'.ownBlock=some w.heap.size):=by
 rcases hown.2 with ⟨rfl,rfl⟩ | ⟨g,o,cap,cur,rfl,hbg,hg,hnc,hcm,hcs,htake⟩
 · have hx:xs=[]:=List.eq_nil_of_length_eq_zero (by simpa using hown.1)
   subst hx
   obtain ⟨v',w',hr,h2,h3,_,h5⟩:=run_append_own_at (P:=P) w base t ty e i z size bytes ht hi hz hsize hby hzs hsz (.slice none 0 0) 0 [] (World.ownsRow_nil w base e size) a m c news hl hnews h1 h63 hbytes hbase
   exact ⟨v',w',hr,QRow.of_own h2,h3,h5⟩
 · subst hsize hby
   have hsmall:n+m<=9223372036854775807:=by simp only [maxLen] at h63;omega
   have hlen:(xs ++ news).length=(n+m) * i.size:=by rw [List.length_append,hown.1,hl,Nat.add_mul]
   by_cases hroom:n+m<=cap
   · have hfit:o+n * i.size+news.length<=cur.size:=by
      rw [hl,Nat.add_assoc,<- Nat.add_mul]
      have:=Nat.mul_le_mul_right i.size hroom
      omega
     have hr:=run_append_roomQ (P:=P) w t ty e i ht hi g o n cap cur hg a m c news hl hnews h1 hroom hfit
     refine ⟨_,_,hr,⟨hlen,.inr ⟨g,o,cap,_,rfl,hbg,setRow_heap w g cur _ e _ hg,hroom,hcm,?_,?_⟩⟩,⟨rfl,rfl,rfl,by simp,fun k _ hk=>setRow_other w g k _ (fun e=>hk (by simp [Value.ownBlock,e]))⟩,.inl rfl⟩
     · simp only [List.size_toArray,List.length_append,List.length_take,List.length_drop,Array.length_toList]
       omega
     · have h2:(cur.toList.take (o+n * i.size)).drop o=xs:=by rw [List.drop_take,Nat.add_sub_cancel_left];exact htake
       have hle:o<=(cur.toList.take (o+n * i.size)).length:=by rw [List.length_take,Array.length_toList];omega
       rw [List.append_assoc,List.drop_append_of_le_length hle,h2,<- List.append_assoc,<- hlen]
       exact List.take_left
   · have holds:∀ j u,xs[j]?=some u->w.cell? ((⟨g,o,none⟩:Addr).add j)=some u:=by
      intro j u hu
      have hj:j < n * i.size:=by rw [<- hown.1];exact (List.getElem?_eq_some_iff.1 hu).1
      have hadd:(⟨g,o,none⟩:Addr).add j=⟨g,o+j,none⟩:=by
       unfold Addr.add
       split
       · rename_i h0;subst h0;rfl
       · rfl
      rw [hadd,cell_of_row w g (o+j) cur e (0,0) hg]
      rw [<- htake,List.getElem?_take,if_pos hj,List.getElem?_drop] at hu
      simpa using hu
     have hr:=run_append_grow (P:=P) w t ty e i z ht hi hz ⟨g,o,none⟩ n cap xs hown.1 holds a m c news hl hnews (by omega) (by omega) (growslice_fits (by omega) hbytes)
     have hge:=grownCap_ge w (n+m) cap e
     have hcm2:grownCap w (n+m) cap e<=maxLen:=grownCap_le_maxLen w (n+m) cap e h63
     refine ⟨_,_,hr,⟨hlen,.inr ⟨w.heap.size,0,_,_,rfl,hbase,heap_alloc_new w.drew _,hge,hcm2,?_,?_⟩⟩,⟨rfl,rfl,rfl,by simp,fun k hk _=>Below.heap_alloc w.drew _ k hk⟩,.inr rfl⟩
     · simp only [Array.size_append,List.size_toArray,size_zeroCells,hzs,hown.1,hl,<- Nat.add_mul,Nat.zero_add]
       apply Nat.le_of_eq
       congr 1
       omega
     · rw [List.drop_zero,Array.toList_append,Array.toList_append,<- hlen]
       exact List.take_left
/-- append(q, x): the one element was laid in a block of its own first -/
theorem wpList_appendQ1 {w:World} {α:Type} (E:α->List Value) {ops:Array Oper} {rest:List Oper} {o:Oper} {a:Act} {Q:Exit->Act->World->Prop} {t e:TypeId} {z:Value} {k bytes:Nat} (el:ElemOk P t e z k bytes)
 (hgd:o.guard=none) (s y:Operand) (ho:o.op=.call { callee:=.builtin .append,args:=#[s,y],argTypes:=#[t,t] })
 (base:Nat) (v:Value) (xs:List α) (x:α) (cs:Array Value) (c H:Nat) (hs:a.eval s=v) (hown:QRow w base e k v xs.length (xs.flatMap E)) (hy:a.eval y=.slice (some ⟨H,0,none⟩) 1 c) (hH:H=w.heap.size)
 (hcs:cs=(E x).toArray) (hE:(E x).length=k) (h1:∀ u ∈ E x,u.oneCell'=true) (hbytes:(xs.length+1) * bytes<=140737488355328) (hb0:0 < bytes) (hbase:base<=w.heap.size)
 (h:∀ v' w',QRow w' base e k v' (xs ++ [x]).length ((xs ++ [x]).flatMap E)->Below base w w'->(v'.ownBlock=v.ownBlock ∨ ∃ g,v'.ownBlock=some g/\w.heap.size<=g)->(w.alloc (.cells cs e)).grownBy w' v.ownBlock->wpList P ops Q rest (a.put o.dst v') w') :
 wpList P ops Q (o :: rest) a (w.alloc (.cells cs e)):=by
 subst hcs hH
 obtain ⟨i,hi,hz0,hz1,hz2⟩:=info_parts el.info
 have hlen:xs.length+1<=140737488355328:=Nat.le_trans (Nat.le_mul_of_pos_right _ hb0) hbytes
 obtain ⟨v',w',hr,h2,h3,h5⟩:=run_appendQ (P:=P) (w.alloc (.cells (E x).toArray e)) base t o.type e i z k bytes el.und hi hz0 hz1 hz2 el.zc el.pos v xs.length (xs.flatMap E) (hown.alloc _) ⟨w.heap.size,0,none⟩ 1 c (E x) (by omega) (by rw [hE,Nat.one_mul])
  (fun j u hu=>by
   have hadd:(⟨w.heap.size,0,none⟩:Addr).add j=⟨w.heap.size,j,none⟩:=by unfold Addr.add;split <;> simp_all
   rw [hadd,World.cell?_alloc_new]
   simpa using hu) h1 (by unfold maxLen;omega) hbytes (by simp;omega)
 refine wpList_plain hgd fun K hK=>?_
 unfold Oper.wp execOp
 simp only [ho,resolve,invoke,builtin,Sem.run_bind,Sem.run_pure,Result.andThen_ok,List.map_toArray,List.map_cons,List.map_nil,hs,hy,hr]
 refine hK _ _ (h v' w' (by simpa using h2) ((((Below.refl base w).alloc hbase _)).trans ((Below.refl _ _).grown h3 (by simp;omega) (fun g hg=>(hown.lt g hg).1))) ?_ h3)
 rcases h5 with h5 | h5
 · exact .inl h5
 · exact .inr ⟨_,h5,by simp⟩
end
end Go.Proofs.YteaplabkemoenaaGreat
namespace Go.Proofs.YteaplabkemoenaaGreat
open Go.ChangeShapes Go.WideShapes Go.ChangeAt Go.RowKit
attribute [local go_sem] ext_cell ext_frozen ext_lt ext_lt1 ext_lt2 ext_lt3 ltn2 ltn3 ltn13 lts1 lts2 lts3
set_option maxHeartbeats 8000000 in
set_option maxRecDepth 100000 in
theorem spread_any (v lv:Value) (N:Nat) (next:Nat->List Nat) (fs:List Nat) (w:World) (hv:SSE 0 w.heap.size w cN 1 v ((List.range N).map next)) (hl:SlE w cN 1 lv fs) (hN1:1<=N) (hN:N<=60) (hfl:fs.length<=60) (hfs:∀ i ∈ fs,i < N)
 (hnext:∀ i,i < N->∀ k ∈ next i,k < N) :
 Calls Tryz.prog 70 #[v,lv] w fun e w'=>∃ v',e=.returned v'/\Own w.heap.size w'.heap.size w' 3 cI 1 v' (spreadR N next fs)/\Below w.heap.size w w':=by
 obtain ⟨A5,c5,hv5,hl5,hm5⟩:=hv.shape
 have hlen5:((List.range N).map next).length=N:=by simp
 rw [hlen5] at hv5 hl5
 subst hv5
 obtain ⟨A6,c6,rfl,hl6,hm6,hC6⟩:=hl.form
 have HV:=Hd_ hv
 have HNX:=Hd_ hnext
 have HFS:=Hd_ hfs
 have HC6:=Hd_ hC6
 clear hv hnext hlen5 hl hC6 hfs
 obtain ⟨R,hR⟩:∃ R,R=spreadR N next fs:=⟨_,rfl⟩
 rw [<- hR]
 have HR:=Hd_ hR
 clear hR
 have hb0:Below w.heap.size w (w.alloc (.cells #[.int .i64 (-1)] 3)):=(Below.refl _ _).alloc (Nat.le_refl _) _
 have hone:SlE (w.alloc (.cells #[.int .i64 (-1)] 3)) cI 1 (.slice (some ⟨w.heap.size,0,none⟩) 1 1) [-1]:=by
  have h:=Own.of_row (xs:=[(-1:Int)]) (E:=cI) (World.ownsRow_lit (base:=0) (e:=3) (size:=1) w #[.int .i64 (-1)] 1 (Nat.zero_le _) (by decide) rfl) rfl rfl
  have h2:=h.sl cI_len
  simpa [SlE] using h2
 have HONE:=Hd_ hone
 clear hone
 go_enter Tryz.func70,Tryz.ntmps70
 go_wp2_with fail
 refine (repeat_any _ (-1) N _ hN1 (by omega) HONE.out).mono ?_
 rintro e w2 ⟨g,rfl,hrow,hb2⟩
 have hgl:=hrow.lt g rfl
 simp only [World.size_alloc] at hgl
 have hbel:=below_trans hb0 hb2
 have HROW:=Hd_ hrow
 clear hrow hb0 hb2
 go_wp2_with fail
 go_loopw [6,18] (fun qv jj wr=>∃ j:Nat,j<=fs.length/\jj=.int .i64 (j:Int)/\wr.ownsRow w.heap.size 3 1 (.slice (some ⟨g,0,none⟩) N N) N ((srcD N (fs.take j)).flatMap cI) /\
  QRow wr w2.heap.size 3 1 qv (fs.take j).length ((fs.take j).flatMap cN)/\Below w.heap.size w wr/\w2.heap.size<=wr.heap.size) (fun _ jj _=>fs.length - (intOf jj).toNat)
 case atStart =>
  refine ⟨0,Nat.zero_le _,rfl,?_,QRow.of_own (World.ownsRow_lit w2 #[] 0 (Nat.le_refl _) (by decide) rfl),hbel.alloc hbel.size _,by simp⟩
  exact ownsRow_mono ((ownsRow_below' HROW.out ((Below.refl w2.heap.size w2).alloc (Nat.le_refl _) _) (by omega))) (by simp)
 case round =>
  clear hbel
  obtain ⟨j,hj,rfl,hrow,hq,hbel,hsz⟩:=hrel
  have HROW:=Hd_ hrow
  have HQ:=Hd_ hq
  clear hrow hq
  by_cases hlt:j < fs.length
  · have hki:fs[j]?=some fs[j]:=List.getElem?_eq_getElem hlt
    have hkn:=HFS.out _ (List.getElem_mem hlt)
    generalize fs[j]=k at hki hkn
    obtain ⟨b6,o6,rfl,hb6,d6⟩:=HC6.out.nat hki
    have d6:=(hbel.cell (p:=⟨b6,o6+j,none⟩) hb6).trans d6
    have hkc:=(World.ownsRow.cellAt HROW.out k (by omega)).trans (flatI_at (getD_of (by rw [srcD_len];exact hkn)))
    have hkf:=World.ownsRow.frozenAt HROW.out k
    have hrow2:=(World.ownsRow.stored HROW.out k (.int .i64 0)).1
    rw [flatI_set,<- srcD_snoc,<- take_snoc hki] at hrow2
    have hq2:=HQ.out.only ((Only.refl g (g+1) wr).setCell (p:=⟨g,k,none⟩) (.inl ⟨Nat.le_refl _,Nat.lt_succ_self _⟩) (.int .i64 0)) (fun b hb=>.inr (by have:=(HQ.out.lt b hb).1;omega))
    have hbel2:=hbel.setCell (p:=⟨g,k,none⟩) (show w.heap.size<=g by omega) (.int .i64 0)
    have HR2:=Hd_ hrow2
    have HQ2:=Hd_ hq2
    have HKI:=Hd_ hki
    have htl:(fs.take j).length<=60:=by rw [List.length_take];omega
    have hkN:(k:Int) < (N:Int):=by omega
    clear hrow2 hq2 hki
    go_wp2_with (at_builtin;(refine wpList_appendQ1 cN elInt rfl _ _ rfl w2.heap.size _ (fs.take j) k _ 1 wr.heap.size (by rfl) HQ2.out (by rfl) (by simp) rfl rfl (cN_one _) (by omega) (by omega) (by simpa using hsz) ?_);rw [<- take_snoc HKI.out];intro v' w4 hq3 hb3 _ _)
    go_roundw
    case rel=>exact ⟨j+1,by omega,by go_num,ownsRow_below' HR2.out hb3 (by omega),hq3,hbel2.trans (hb3.mono (by omega)),by have:=hb3.size;simp at this;omega⟩
    case measure=>simp [intOf];omega
  · obtain rfl:j=fs.length:=by omega
    rw [List.take_length] at HROW HQ
    obtain ⟨F,hF⟩:∃ F,F=fs.length+N:=⟨_,rfl⟩
    have hF2:F<=120:=by omega
    have hini:=srcD_bfsI HFS.out
    rw [<- hF] at hini
    have hRF:bfs next F (srcD N fs) fs=R:=by rw [HR.out,spreadR,hF]
    have HINI:=Hd_ hini
    have HRF:=Hd_ hRF
    clear hF hini hRF
    go_wp2_with fail
    go_loopg [6] F (fun k qv wr=>∃ (D:List Int) (q:List Nat),BfsI N F k D q/\bfs next k D q=R/\wr.ownsRow w.heap.size 3 1 (.slice (some ⟨g,0,none⟩) N N) N (D.flatMap cI) /\
     QRow wr w2.heap.size 3 1 qv q.length (q.flatMap cN)/\Below w.heap.size w wr/\w2.heap.size<=wr.heap.size)
    case atStart=>exact ⟨_,_,HINI.out,HRF.out,HROW.out,HQ.out,hbel,hsz⟩
    case round =>
     clear HROW HQ hbel hsz
     obtain ⟨D,q,hI,hB,hrow,hq,hbel,hsz⟩:=hrel
     have HI:=Hd_ hI
     have HB:=Hd_ hB
     have HROW:=Hd_ hrow
     have HQ:=Hd_ hq
     clear hI hB hrow hq
     cases q with
     | nil =>
       have hfin:D=R:=by rw [<- HB.out,bfs_nil]
       obtain ⟨A4,c4,rfl,hc4,hc5⟩:=HQ.out.shape
       have HF:=Hd_ hfin
       have hown:Own w.heap.size wr.heap.size wr 3 cI 1 (.slice (some ⟨g,0,none⟩) N N) D:=Own.of_row HROW.out HI.out.len rfl
       have HO:=Hd_ hown
       clear hfin hown
       simp only [List.length_nil] at *
       go_wp2_with fail
       go_ret
       exact ⟨_,rfl,by rw [<- HF.out];exact HO.out,hbel⟩
     | cons h q =>
       obtain ⟨f,rfl⟩:∃ f,gk=f+1:=⟨gk - 1,by have:=HI.out.fuel;rw [List.length_cons] at this;omega⟩
       obtain ⟨hhN,hh0⟩:=HI.out.queue h (by simp)
       obtain ⟨b5,o5,A7,c7,rfl,-,hb5,d5,hl7,hm7,hI7,-⟩:=HV.out.row (Nat.le_refl _) (i:=h) (xs:=next h) (by simp [hhN])
       have d5:=(hbel.cell (p:=⟨b5,o5+h,none⟩) hb5).trans d5
       have hb5w:=Nat.lt_of_lt_of_le hb5 hbel.size
       obtain ⟨gq,oq,cq,rfl,hgq1,hgq2,hqc⟩:=HQ.out.cell (by simp)
       have dq:=hqc 0 _ rfl
       simp only [Nat.add_zero] at dq
       have HI7:=Hd_ hI7
       have hhx:(h:Int) < (N:Int):=by omega
       clear hqc hI7
       have hlc:(h :: q).length=q.length+1:=rfl
       rw [hlc] at HQ ⊢
       clear hlc
       go_wp2_with fail
       have htop:=HI.out.top h
       have hpop:=HI.out.pop
       obtain ⟨dd,hdd⟩:∃ dd,dd=D.getD h 0:=⟨_,rfl⟩
       rw [<- hdd] at htop hh0
       have HDD:=Hd_ hdd
       have HPOP:=Hd_ hpop
       clear hdd hpop
       go_loopw [6,42] (fun qv jj wr=>∃ (j:Nat) (D':List Int) (q':List Nat),j<=(next h).length/\jj=.int .i64 (j:Int)/\BfsI N F f D' q'/\D'.getD h 0=dd/\relax (dd+1) ((next h).drop j) D' q'=relax (dd+1) (next h) D q /\
        wr.ownsRow w.heap.size 3 1 (.slice (some ⟨g,0,none⟩) N N) N (D'.flatMap cI)/\QRow wr w2.heap.size 3 1 qv (q'.length+1) ((h :: q').flatMap cN)/\Below w.heap.size w wr/\w2.heap.size<=wr.heap.size) (fun _ jj _=>(next h).length - (intOf jj).toNat)
       case atStart=>exact ⟨0,D,q,Nat.zero_le _,rfl,HPOP.out,HDD.out.symm,by rw [List.drop_zero],HROW.out,HQ.out,hbel,hsz⟩
       case round =>
        clear d5 dq hb5w hgq1 hgq2 HROW HQ hbel hsz
        obtain ⟨j,D',q',hj,rfl,hI2,hDh,hrx,hrow,hq,hbel,hsz⟩:=hrel
        have HI2:=Hd_ hI2
        have HDH:=Hd_ hDh
        have HRX:=Hd_ hrx
        have HROW:=Hd_ hrow
        have HQ:=Hd_ hq
        clear hI2 hDh hrx hrow hq
        by_cases hlt:j < (next h).length
        · have hki:(next h)[j]?=some (next h)[j]:=List.getElem?_eq_getElem hlt
          have hdr:(next h).drop j=(next h)[j] :: (next h).drop (j+1):=List.drop_eq_getElem_cons hlt
          have hkn:=HNX.out h hhN _ (List.getElem_mem hlt)
          generalize (next h)[j]=k at hki hkn hdr
          obtain ⟨b7,o7,rfl,-,hb7,d7⟩:=HI7.out.nat hki
          have d7:=(hbel.cell (p:=⟨b7,o7+j,none⟩) hb7).trans d7
          have hb7w:=Nat.lt_of_lt_of_le hb7 hbel.size
          have hkl:k < D'.length:=by rw [HI2.out.len];exact hkn
          have hhl:h < D'.length:=by rw [HI2.out.len];exact hhN
          have hkc:=(World.ownsRow.cellAt HROW.out k (by omega)).trans (flatI_at (getD_of hkl))
          have hkf:=World.ownsRow.frozenAt HROW.out k
          have hkN:(k:Int) < (N:Int):=by omega
          have hgw:=(HROW.out.lt g rfl).2
          have HDR:=Hd_ hdr
          clear hki hdr
          by_cases hneg:D'.getD k 0 < 0
          · have hhc:=(World.ownsRow.cellAt HROW.out h (by omega)).trans (flatI_at (getD_of hhl))
            rw [HDH.out] at hhc
            have hnew:=HI2.out.new hkn hneg (d:=dd+1) (by omega) (by omega)
            have hrow2:=(World.ownsRow.stored HROW.out k (.int .i64 (dd+1))).1
            rw [flatI_set] at hrow2
            have hq2:=HQ.out.only ((Only.refl g (g+1) wr).setCell (p:=⟨g,k,none⟩) (.inl ⟨Nat.le_refl _,Nat.lt_succ_self _⟩) (.int .i64 (dd+1))) (fun b hb=>.inr (by have:=(HQ.out.lt b hb).1;omega))
            have hbel2:=hbel.setCell (p:=⟨g,k,none⟩) (show w.heap.size<=g by omega) (.int .i64 (dd+1))
            obtain ⟨gq,oq,cq,rfl,hgq1,hgq2,hqc⟩:=HQ.out.cell (by simp)
            have dq:=hqc 0 _ rfl
            simp only [Nat.add_zero] at dq
            have hrx2:relax (dd+1) ((next h).drop (j+1)) (D'.set k (dd+1)) (q' ++ [k])=relax (dd+1) (next h) D q:=by rw [<- HRX.out,HDR.out,relax_mid _ _ _ _ _ hneg]
            have hDh2:(D'.set k (dd+1)).getD h 0=dd:=by
             rw [getD_set' hkl,if_neg (by intro e;subst e;rw [HDH.out] at hneg;omega)];exact HDH.out
            have hql:q'.length<=200:=by have:=HI2.out.fuel;omega
            have HNEW:=Hd_ hnew
            have HR2:=Hd_ hrow2
            have HQ2:=Hd_ hq2
            have HRX2:=Hd_ hrx2
            have HDH2:=Hd_ hDh2
            generalize D'.getD k 0=x at hkc hneg
            have hgq9:g ≠ gq:=by omega
            clear hnew hrow2 hq2 hrx2 hDh2 hqc
            go_wp2_with (at_builtin;(refine wpList_appendQ1 cN elInt rfl _ _ rfl w2.heap.size (.slice (some ⟨gq,oq,none⟩) (q'.length+1) cq) (h :: q') k _ 1 wr.heap.size (by rfl) HQ2.out (by rfl) (by simp) rfl rfl (cN_one _) (by simp only [List.length_cons];omega) (by omega) (by simpa using hsz) ?_);intro v' w4 hq3 hb3 _ _)
            go_roundw
            case rel=>exact ⟨j+1,_,_,by omega,by go_num,HNEW.out,HDH2.out,HRX2.out,ownsRow_below' HR2.out hb3 (by omega),by simpa using hq3,hbel2.trans (hb3.mono (by omega)),by have:=hb3.size;simp at this;omega⟩
            case measure=>simp [intOf];omega
          · have hrx2:relax (dd+1) ((next h).drop (j+1)) D' q'=relax (dd+1) (next h) D q:=by rw [<- HRX.out,HDR.out,relax_old _ _ _ _ _ hneg]
            have HRX2:=Hd_ hrx2
            generalize D'.getD k 0=x at hkc hneg
            clear hrx2
            go_wp2_with fail
            go_roundw
            case rel=>exact ⟨j+1,_,_,by omega,by go_num,HI2.out,HDH.out,HRX2.out,HROW.out,HQ.out,hbel,hsz⟩
            case measure=>simp [intOf];omega
        · obtain rfl:j=(next h).length:=by omega
          have hrx2:=HRX.out
          rw [List.drop_length,relax] at hrx2
          have hBF:bfs next f D' q'=R:=by
           rw [<- HB.out,bfs,<- HDD.out,<- hrx2]
          obtain ⟨A9,c9,h9,hc8,hc9⟩:=HQ.out.shape
          obtain ⟨g5,o5,c5,rfl,-,-,-⟩:=HQ.out.cell (by omega)
          obtain rfl:c5=c9:=by injection h9
          have htail:=HQ.out.tail rfl
          simp only [List.flatMap_cons,cN,List.cons_append,List.nil_append,List.drop_succ_cons,List.drop_zero] at htail
          unfold maxLen at hc9
          have HBF:=Hd_ hBF
          clear hrx2 hBF h9
          by_cases hc1:c5=1
          · subst hc1
            obtain rfl:q'=[]:=List.eq_nil_of_length_eq_zero (by omega)
            rw [if_pos rfl] at htail
            simp only [List.length_nil] at *
            have HT:=Hd_ htail
            clear htail
            go_wp2_with fail
            go_roundg f
            case measure=>exact Nat.lt_succ_self _
            case rel=>exact ⟨_,_,HI2.out,HBF.out,HROW.out,HT.out,hbel,hsz⟩
          · rw [if_neg hc1] at htail
            have HT:=Hd_ htail
            clear htail
            go_wp2_with fail
            go_roundg f
            case measure=>exact Nat.lt_succ_self _
            case rel=>exact ⟨_,_,HI2.out,HBF.out,HROW.out,HT.out,hbel,hsz⟩
set_option maxHeartbeats 4000000 in
theorem goals_any (vg va:Value) (g:Gr) (a:Au) (y:Nat) (w:World) (hgv:GrV 0 w.heap.size w vg g) (hav:AuV 0 w.heap.size w va a) (hg:GrOk g) (ha:auOk a=true) (hy:y < g.vals.length) :
 Calls Tryz.prog 73 #[vg,va,.int .i64 (y:Int)] w fun e w'=>∃ v',e=.returned v'/\Own w.heap.size w'.heap.size w' 3 cN 1 v' (goalsL g a y)/\Below w.heap.size w w':=by
 have hav0:=hav
 obtain ⟨A1,c1,A2,c2,rfl,hl1,hm1,-,-,hC1,-⟩:=hgv.form
 obtain ⟨A3,c3,A4,c4,rfl,hl3,hm3,hl4,hm4,-⟩:=hav.form ha
 have hn5:=hg.n5
 have hn12:=(auOk_iff.1 ha).1.2
 have hxi:g.vals[y]?=some g.vals[y]:=List.getElem?_eq_getElem hy
 have hvr:=hg.vals _ (List.getElem_mem hy)
 generalize g.vals[y]=vx at hxi hvr
 obtain ⟨vx,rfl⟩:=Int.eq_ofNat_of_zero_le hvr.1
 have hva:=valAt_of hxi
 rw [Int.toNat_natCast] at hva
 obtain ⟨b1,o1,rfl,hb1,d1⟩:=hC1.int hxi
 have HAO:=Hd_ ha
 have HAV:=Hd_ hav0
 have HVA:=Hd_ hva
 have hb0:Below w.heap.size w ((w.alloc (.cells #[.slice (some ⟨b1,o1,none⟩) g.vals.length c1,.slice A2 g.edges.length c2] 27)).alloc (.cells #[.int .i64 a.start,.slice A3 a.accept.length c3,.slice A4 a.accept.length c4] 31)):=((Below.refl _ _).alloc (Nat.le_refl _) _).alloc (by simp) _
 have hyn:y * a.accept.length+a.accept.length<=60:=by have:=Nat.mul_le_mul (show y+1<=5 by omega) hn12;rw [Nat.succ_mul] at this;omega
 obtain ⟨yn,hyn2⟩:∃ yn,yn=y * a.accept.length:=⟨_,rfl⟩
 rw [<- hyn2] at hyn
 have q1:IntKind.i64.wrap ((y:Int) * (a.accept.length:Int))=(yn:Int):=by rw [IntWalk.i64_in _ (by rw [<- Int.natCast_mul,<- hyn2];omega),hyn2,Int.natCast_mul]
 have q1':(y:Int) * (a.accept.length:Int)=(yn:Int):=by rw [hyn2,Int.natCast_mul]
 have q5:IntKind.i64.wrap (yn:Int)=(yn:Int):=IntWalk.i64_in _ (by omega)
 have HYN:=Hd_ hyn2
 clear hgv hav ha hg hav0 hva hxi hC1 hyn2
 go_enter Tryz.func73,Tryz.ntmps73
 go_wp2_with fail
 obtain ⟨W0,hW0⟩:∃ W0,W0=((w.alloc (.cells #[.slice (some ⟨b1,o1,none⟩) g.vals.length c1,.slice A2 g.edges.length c2] 27)).alloc (.cells #[.int .i64 a.start,.slice A3 a.accept.length c3,.slice A4 a.accept.length c4] 31)):=⟨_,rfl⟩
 rw [<- hW0] at hb0 ⊢
 have x0:W0.cell? ⟨w.heap.size,0,none⟩=some (.slice (some ⟨b1,o1,none⟩) g.vals.length c1):=by rw [hW0];simp
 have y0:W0.cell? ⟨w.heap.size+1,0,none⟩=some (.int .i64 a.start):=by rw [hW0];simp
 have y1:W0.cell? ⟨w.heap.size+1,1,none⟩=some (.slice A3 a.accept.length c3):=by rw [hW0];simp
 have y2:W0.cell? ⟨w.heap.size+1,2,none⟩=some (.slice A4 a.accept.length c4):=by rw [hW0];simp
 have d1:=kcell hb0 d1
 have l0:w.heap.size+1 < W0.heap.size:=by rw [hW0];simp
 have hs0:w.heap.size+1+1=W0.heap.size:=by rw [hW0];simp
 rw [hs0]
 clear hW0 hs0
 go_loopw [8,9] (fun out ii wr=>∃ i:Nat,i<=a.accept.length/\ii=.int .i64 (i:Int)/\wr.ownsRow W0.heap.size 3 1 out (goalsTo g a y i).length ((goalsTo g a y i).flatMap cN)/\Below W0.heap.size W0 wr) (fun _ ii _=>a.accept.length - (intOf ii).toNat)
 case atStart=>exact ⟨0,Nat.zero_le _,rfl,World.ownsRow_lit W0 #[] 0 (Nat.le_refl _) (by decide) rfl,(Below.refl _ _).alloc (Nat.le_refl _) _⟩
 case round =>
  obtain ⟨i,hi,rfl,hrow,hbel⟩:=hrel
  have HROW:=Hd_ hrow
  have hgl:=goalsTo_len g a y i
  clear hrow
  by_cases hlt:i < a.accept.length
  · have x0:=kcell hbel x0
    have y0:=kcell hbel y0
    have y1:=kcell hbel y1
    have y2:=kcell hbel y2
    have d1:=kcell hbel d1
    have hsz:=hbel.size
    have hsz0:=hb0.size
    have k0:w.heap.size < wr.heap.size:=by omega
    have k1:w.heap.size+1 < wr.heap.size:=by omega
    have k2:b1 < wr.heap.size:=by omega
    have hbw:=below_trans hb0 hbel
    have s1:=shl_bit (s:=i) (by omega)
    have s2:=shl_bit2 (s:=i) (by omega)
    have s3:=shl_bit3 (s:=i) (by omega)
    have q2:IntKind.i64.wrap ((yn:Int)+(i:Int))=(yn:Int)+(i:Int):=IntWalk.i64_in _ (by omega)
    have hyy:(y:Int) < (g.vals.length:Int):=by omega
    cases hb:accC a vx i with
    | true =>
      have hacc:∀ W,Below w.heap.size w W->Calls Tryz.prog 45 #[.agg #[.int .i64 a.start,.slice A3 a.accept.length c3,.slice A4 a.accept.length c4],.int .i64 (bit i:Int),.int .i64 (vx:Int)] W fun e w'=>e=.returned (.bool true)/\Below W.heap.size W w':=fun W hW=>by
       have h:=acceptsAt_any _ a (bit i) vx W (HAV.out.keep hW) HAO.out (bit_lt hlt) (by omega)
       rwa [acc_one _ _ (show i < 12 by omega),hb] at h
      have HACC:=Hd_ hacc
      have hgt:=goalsTo_yes (g:=g) (a:=a) (y:=y) (i:=i) (by rw [HVA.out];exact hb)
      rw [<- HYN.out] at hgt
      have HGT:=Hd_ hgt
      clear hacc hb hgt
      go_wp2_with fail
      refine wp_region_ext_lit (by kernel_rfl) (by kernel_rfl) ?_
      repeat (go_big_quiet_step ((go_at_call 45;exact Calls.ext_of (HACC.out _ (below_trans hbw (ext_below _ _))))))
      refine wpQuiet_nil ?_
      rintro _ ⟨u2,rfl⟩
      have hbx:=ext_below wr u2
      have HROX:=Hd_ (ownsRow_below HROW.out hbx (Nat.le_refl _))
      have hszx:=hbx.size
      go_wp2_with (at_builtin;(refine wpList_append1 cN elInt rfl _ _ rfl W0.heap.size _ (goalsTo g a y i) (yn+i) _ 1 _ (by rfl) HROX.out (by rfl) rfl rfl rfl (cN_one _) (by omega) (by omega) (by omega) ?_);rw [<- HGT.out];intro v' w4 hrow' hb4 _ _)
      go_roundw
      case rel=>exact ⟨i+1,by omega,by go_num,hrow',(hbel.trans (hbx.mono hsz)).trans hb4⟩
      case measure=>simp [intOf];omega
    | false =>
      have hacc:∀ W,Below w.heap.size w W->Calls Tryz.prog 45 #[.agg #[.int .i64 a.start,.slice A3 a.accept.length c3,.slice A4 a.accept.length c4],.int .i64 (bit i:Int),.int .i64 (vx:Int)] W fun e w'=>e=.returned (.bool false)/\Below W.heap.size W w':=fun W hW=>by
       have h:=acceptsAt_any _ a (bit i) vx W (HAV.out.keep hW) HAO.out (bit_lt hlt) (by omega)
       rwa [acc_one _ _ (show i < 12 by omega),hb] at h
      have HACC:=Hd_ hacc
      have hgt:=goalsTo_no (g:=g) (a:=a) (y:=y) (i:=i) (by rw [HVA.out];exact hb)
      have HGT:=Hd_ hgt
      clear hacc hb hgt
      go_wp2_with fail
      refine wp_region_ext_lit (by kernel_rfl) (by kernel_rfl) ?_
      repeat (go_big_quiet_step ((go_at_call 45;exact Calls.ext_of (HACC.out _ (below_trans hbw (ext_below _ _))))))
      refine wpQuiet_nil ?_
      rintro _ ⟨u2,rfl⟩
      have hbx:=ext_below wr u2
      have HROX:=Hd_ (ownsRow_below HROW.out hbx (Nat.le_refl _))
      go_wp2_with fail
      go_roundw
      case rel=>exact ⟨i+1,by omega,by go_num,by rw [HGT.out];exact HROX.out,hbel.trans (hbx.mono hsz)⟩
      case measure=>simp [intOf];omega
  · obtain rfl:i=a.accept.length:=by omega
    have hown:=Own.of_row (xs:=goalsTo g a y a.accept.length) (ownsRow_mono HROW.out hb0.size) rfl rfl
    have HO:=Hd_ hown
    clear hown
    go_wp2_with fail
    go_ret
    exact ⟨_,rfl,HO.out,below_trans hb0 hbel⟩
/-- a literal of ints, laid in a block of its own -/
theorem lit_sl (w:World) (e:TypeId) (xs:List Int) (hm:xs.length<=maxLen):SlE (w.alloc (.cells (xs.map (Value.int .i64)).toArray e)) cI 1 (.slice (some ⟨w.heap.size,0,none⟩) xs.length xs.length) xs:=by
 have h1:xs.flatMap cI=(xs.map (Value.int .i64)):=by
  induction xs with
  | nil=>rfl
  | cons x xs ih=>rw [List.flatMap_cons,List.map_cons,ih (by simp at hm;omega)];rfl
 have h:=Own.of_row (xs:=xs) (E:=cI) (World.ownsRow_lit (base:=0) (e:=e) (size:=1) w (xs.map (Value.int .i64)).toArray xs.length (Nat.zero_le _) hm (by simp)) rfl (by simp [h1])
 exact (h.sl cI_len).all (Nat.le_refl _)
set_option maxHeartbeats 4000000 in
set_option maxRecDepth 100000 in
theorem implDistancesTo (vg va:Value) (g:Gr) (a:Au) (y:Int) (w:World) (hgv:GrV 0 w.heap.size w vg g) (hav:AuV 0 w.heap.size w va a) :
 Calls Tryz.prog 43 #[vg,va,.int .i64 y] w fun e w'=>∃ v',e=.returned v'/\Own w.heap.size w'.heap.size w' 3 cI 1 v' (distTo g a y)/\Below w.heap.size w w':=by
 have hgv0:=hgv
 have hav0:=hav
 obtain ⟨A1,n1,c1,A2,n2,c2,rfl⟩:=hgv.shape
 obtain ⟨A3,n3,c3,A4,n4,c4,rfl⟩:=hav.shape
 have hb0:Below w.heap.size w ((w.alloc (.cells #[.slice A1 n1 c1,.slice A2 n2 c2] 27)).alloc (.cells #[.int .i64 a.start,.slice A3 n3 c3,.slice A4 n4 c4] 31)):=((Below.refl _ _).alloc (Nat.le_refl _) _).alloc (by simp) _
 have hb1:=hb0.alloc hb0.size (.cells #[.int .i64 y] 3)
 have hst:SlE (((w.alloc (.cells #[.slice A1 n1 c1,.slice A2 n2 c2] 27)).alloc (.cells #[.int .i64 a.start,.slice A3 n3 c3,.slice A4 n4 c4] 31)).alloc (.cells #[.int .i64 y] 3)) cI 1 (.slice (some ⟨w.heap.size+1+1,0,none⟩) 1 1) [y]:=by
  have h:=lit_sl ((w.alloc (.cells #[.slice A1 n1 c1,.slice A2 n2 c2] 27)).alloc (.cells #[.int .i64 a.start,.slice A3 n3 c3,.slice A4 n4 c4] 31)) 3 [y] (by unfold maxLen;simp)
  simpa using h
 have hbo:=bothOk_any _ _ _ g a [y] _ (hgv0.keep hb1) (hav0.keep hb1) hst
 have HBO:=Hd_ hbo
 have HGV:=Hd_ hgv0
 have HAV:=Hd_ hav0
 clear hgv hav hgv0 hav0 hbo hst
 cases hk:([y].all (fun s=>wi s 0 ((g.vals.length:Int) - 1)) && (grOk g && auOk a)) with
 | false =>
   rw [hk] at HBO
   have hfin:distTo g a y=[]:=by unfold distTo;rw [if_neg];simpa using hk
   have HF:=Hd_ hfin
   clear hk hfin
   go_enter Tryz.func43,Tryz.ntmps43
   go_wp2_with fail
   refine HBO.out.mono ?_
   rintro e w1 ⟨rfl,hb2⟩
   go_wp2_with fail
   go_ret
   exact ⟨_,rfl,by rw [HF.out];exact Own.nil _ _ _ _ _ _,below_trans hb1 hb2⟩
 | true =>
   rw [hk] at HBO
   simp only [List.all_cons,List.all_nil,Bool.and_true,Bool.and_eq_true,wi_iff] at hk
   obtain ⟨⟨hy0,hy1⟩,hgo,hao⟩:=hk
   have hgo2:=grOk_iff.1 hgo
   have hfin:distTo g a y=spreadR (g.vals.length * a.accept.length) (turnL (g.vals.length * a.accept.length) (nextI g a)) (goalsL g a y.toNat):=by
    unfold distTo;rw [if_pos];simp [wi_iff,hy0,hy1,hgo,hao]
   obtain ⟨y,rfl⟩:=Int.eq_ofNat_of_zero_le hy0
   rw [Int.toNat_natCast] at hfin
   have hyn:y < g.vals.length:=by omega
   obtain ⟨N,hN⟩:∃ N,N=g.vals.length * a.accept.length:=⟨_,rfl⟩
   rw [<- hN] at hfin
   have hn5:=hgo2.n5
   have hn1:=hgo2.n1
   have hm12:=(auOk_iff.1 hao).1.2
   have hm1:=(auOk_iff.1 hao).1.1
   have hN60:N<=60:=by rw [hN];have:=Nat.mul_le_mul hn5 hm12;omega
   have hN1:1<=N:=by rw [hN];exact Nat.mul_pos hn1 hm1
   have hnl:∀ i,i < N->(nextI g a i).length<=288/\∀ k ∈ nextI g a i,k < N:=fun i _=>⟨nextV_len hgo2 _ _,fun k hk=>by rw [hN];exact nextV_lt hgo2 hao hk⟩
   have htl:∀ i,i < N->∀ k ∈ turnL N (nextI g a) i,k < N:=fun i _ k hk=>(mem_turnL.1 hk).1
   have hgl:∀ i ∈ goalsL g a y,i < N:=fun i hi=>by
    obtain ⟨s,hs,_,rfl⟩:=mem_goalsL.1 hi
    rw [hN];exact vert_lt hyn hs
   have hgll:(goalsL g a y).length<=60:=Nat.le_trans (goalsTo_len g a y _) (by omega)
   have HN:=Hd_ hN
   have HNL:=Hd_ hnl
   have HTL:=Hd_ htl
   have HGL:=Hd_ hgl
   have HGO:=Hd_ hgo2
   have HAO:=Hd_ hao
   have HF:=Hd_ hfin
   clear hN hnl htl hgl hgo hgo2 hao hfin hy0 hy1
   go_enter Tryz.func43,Tryz.ntmps43
   go_wp2_with fail
   refine HBO.out.mono ?_
   rintro e w1 ⟨rfl,hb2⟩
   have hb3:=below_trans hb1 hb2
   have b0:=(((Blk.new w 27 #[.slice A1 n1 c1,.slice A2 n2 c2] w.heap.size rfl).alloc (.cells #[.int .i64 a.start,.slice A3 n3 c3,.slice A4 n4 c4] 31)).alloc (.cells #[.int .i64 (y:Int)] 3)).keep hb2
   have b1:=((Blk.new (w.alloc (.cells #[.slice A1 n1 c1,.slice A2 n2 c2] 27)) 31 #[.int .i64 a.start,.slice A3 n3 c3,.slice A4 n4 c4] (w.heap.size+1) (by simp)).alloc (.cells #[.int .i64 (y:Int)] 3)).keep hb2
   have x0:w1.cell? ⟨w.heap.size,0,none⟩=some (.slice A1 n1 c1):=b0.cell 0
   have x1:w1.cell? ⟨w.heap.size,1,none⟩=some (.slice A2 n2 c2):=b0.cell 1
   have y0:w1.cell? ⟨w.heap.size+1,0,none⟩=some (.int .i64 a.start):=b1.cell 0
   have y1:w1.cell? ⟨w.heap.size+1,1,none⟩=some (.slice A3 n3 c3):=b1.cell 1
   have y2:w1.cell? ⟨w.heap.size+1,2,none⟩=some (.slice A4 n4 c4):=b1.cell 2
   clear hb0 hb1 hb2 b0 b1 HBO
   go_wp2_with fail
   go_region_held3 (fun w'=>w'.cell? ⟨w.heap.size,0,none⟩=some (.slice A1 n1 c1)/\w'.cell? ⟨w.heap.size,1,none⟩=some (.slice A2 n2 c2)/\w'.cell? ⟨w.heap.size+1,0,none⟩=some (.int .i64 a.start)/\w'.cell? ⟨w.heap.size+1,1,none⟩=some (.slice A3 n3 c3)/\w'.cell? ⟨w.heap.size+1,2,none⟩=some (.slice A4 n4 c4))
    (first | (exact ⟨x0,x1,y0,y1,y2⟩) | assumption | (exact kB5 hbA (by assumption)) | (exact kB5 hbB (by assumption)) | (exact kB5 hbC (by assumption)) | (exact kB5 hbD (by assumption)))
    (first | (go_at_call 72;refine (nextVertices_any _ _ g a _ (GrV.keep (w':=w1.drew) HGV.out hb3.drew) (AuV.keep (w':=w1.drew) HAV.out hb3.drew) HGO.out HAO.out).mono ?_;rintro e wA ⟨vA,rfl,hsA,hbA⟩;rw [<- HN.out] at hsA) | (go_at_call 71;refine (turned_any vA N (nextI g a) _ (hsA.mono (Nat.zero_le _) (Nat.le_refl _)) hN60 HNL.out).mono ?_;rintro e wB ⟨vB,rfl,hsB,hbB⟩) | (go_at_call 73;refine (goals_any _ _ g a y _ (HGV.out.keep (below_trans (below_trans hb3.drew hbA) hbB)) (HAV.out.keep (below_trans (below_trans hb3.drew hbA) hbB)) HGO.out HAO.out hyn).mono ?_;rintro e wC ⟨vC,rfl,hoC,hbC⟩) | (go_at_call 70;refine (spread_any vB vC N (turnL N (nextI g a)) (goalsL g a y) _ ((hsB.mono (Nat.zero_le _) (Nat.le_refl _)).keep hbC) ((hoC.sl cN_len).all (Nat.le_refl _)) hN1 hN60 hgll HGL.out HTL.out).mono ?_;rintro e wD ⟨vD,rfl,hoD,hbD⟩))
   go_wp2_with fail
   go_ret
   have hbc:=below_trans (below_trans (below_trans hb3.drew hbA) hbB) hbC
   exact ⟨_,rfl,by rw [HF.out];exact hoD.mono hbc.size (Nat.le_refl _),below_trans hbc hbD⟩
end Go.Proofs.YteaplabkemoenaaGreat
namespace Go.Proofs.YteaplabkemoenaaGreat
open Go.ChangeShapes Go.WideShapes Go.ChangeAt Go.RowKit
end Go.Proofs.YteaplabkemoenaaGreat
namespace Go.Proofs.YteaplabkemoenaaGreat
open Go.ChangeShapes Go.WideShapes Go.ChangeAt Go.RowKit
attribute [local go_sem] ext_cell ext_frozen ext_lt ext_lt1 ext_lt2 ext_lt3 ltn2 ltn3 ltn13 lts1 lts2 lts3
theorem elPair:ElemOk Tryz.prog 86 90 (.agg #[.int .i64 0,.int .i64 0]) 2 16:=⟨Tryz.underlying86,by kernel_rfl,rfl,by omega⟩
end Go.Proofs.YteaplabkemoenaaGreat
