/- Parts of the proof, joined into one text: NthI, WalksI, NthWI, NthS, NthWS, KeepS. -/
import Derived.Test.YtcnenpjaoalmeaaGreatOnlzCEJNACFF
import Derived.Deep.LoopGhost
import Derived.Test.YtcnenpjaoalmeaaGreatOnlzEJHBKPMO
import Derived.Test.YtcnenpjaoalmeaaGreatOnlzGHFJIPIH
import Derived.Test.YtcnenpjaoalmeaaGreatOnlzONBKAKGD
import Derived.Test.YtcnenpjaoalmeaaGreatOnlzGHEHHNHL
import Derived.Test.YtcnenpjaoalmeaaGreatOnlzFMIHCKLL
import Derived.Test.YtcnenpjaoalmeaaGreatOnlzNBNNNJPC
set_option linter.unusedVariables false
set_option linter.unusedSimpArgs false
namespace Go.Proofs.YtcnenpjaoalmeaaGreat
open Go.ChangeShapes Go.WideShapes Go.ChangeAt Go.RowKit Go.Maps
attribute [local go_sem] ext_cell ext_frozen ext_lt ext_lt1 ext_lt2 ext_lt3 ltn2 ltn3 ltn13 lts1 lts2 lts3
theorem leftN_succ {α:Type} {k:α->Nat} {l:List α} {i n:Nat} {p:α} (h:l[i]?=some p):leftN k (l.take (i+1)) n=leftN k (l.take i) n - k p:=foldl_take h n
theorem leftN_le {α:Type} (k:α->Nat):∀ (l:List α) (n:Nat),leftN k l n<=n
 | [],n=>Nat.le_refl _
 | p :: l,n=>Nat.le_trans (leftN_le k l (n - k p)) (Nat.sub_le _ _)
/-- the first that is not passed over is the one picked -/
theorem pick_here {α:Type} {k:α->Nat} {l:List α} {i n:Nat} {p:α} (h:l[i]?=some p) (hno:∀ j q,j < i->l[j]?=some q->¬ leftN k (l.take j) n < k q) (hy:leftN k (l.take i) n < k p):pick k l n=some (p,leftN k (l.take i) n):=by
 have hi:=(List.getElem?_eq_some_iff.1 h).1
 rw [pick_skip hno (by omega),List.drop_eq_getElem_cons hi,(List.getElem?_eq_some_iff.1 h).2,pick,if_pos hy]
theorem pick_end {α:Type} {k:α->Nat} {l:List α} {n:Nat} (hno:∀ j q,j < l.length->l[j]?=some q->¬ leftN k (l.take j) n < k q):pick k l n=none:=by
 rw [pick_skip hno (Nat.le_refl _),List.drop_length];rfl
theorem Blk.set3 {w:World} {g:Nat} {t:TypeId} {c0 c1 c2:Value} (h:Blk w g t #[c0,c1,c2]) (d0 d1 d2:Value):Blk (((w.setCell ⟨g,0,none⟩ d0).setCell ⟨g,1,none⟩ d1).setCell ⟨g,2,none⟩ d2) g t #[d0,d1,d2]:=by
 have h2:=((h.set_ 0 d0).set_ 1 d1).set_ 2 d2
 simpa using h2
theorem only_set3 {lo hi:Nat} {a w:World} (h:Only lo hi a w) {g:Nat} (hg:a.heap.size<=g) (d0 d1 d2:Value):Only lo hi a (((w.setCell ⟨g,0,none⟩ d0).setCell ⟨g,1,none⟩ d1).setCell ⟨g,2,none⟩ d2) :=
 ((h.setCell (p:=⟨g,0,none⟩) (.inr hg) d0).setCell (p:=⟨g,1,none⟩) (.inr hg) d1).setCell (p:=⟨g,2,none⟩) (.inr hg) d2
theorem set3_block (w:World) (g:Nat) (d0 d1 d2:Value) (b:Nat) (hb:b ≠ g):(((w.setCell ⟨g,0,none⟩ d0).setCell ⟨g,1,none⟩ d1).setCell ⟨g,2,none⟩ d2).heap[b]?=w.heap[b]?:=by
 rw [Below.heap_setCell _ _ _ _ hb,Below.heap_setCell _ _ _ _ hb,Below.heap_setCell _ _ _ _ hb]
theorem gBlockN {w w':World} {row:Option Nat} (hg:w.grownBy w' row) {b:Nat} (hb:b < w.heap.size) (hne:row ≠ some b):w'.heap[b]?=w.heap[b]?:=hg.block b hb (fun e=>hne e.symm)
theorem only_below {lo hi B:Nat} {a b c:World} (h:Only lo hi a b) (hb:Below B b c) (hB:a.heap.size<=B):Only lo hi a c :=
 ⟨hb.os.trans h.os,hb.tape.trans h.tape,hb.output.trans h.output,Nat.le_trans h.size hb.size,fun n hn ho=>(hb.block n (by omega)).trans (h.block n hn ho)⟩
theorem Mem.at_ {g:Gr} {a:Au} {y:Int} {w w':World} {bM:Nat} {M:List Plc} (h:Mem g a y w bM M) (hb:w'.heap[bM]?=w.heap[bM]?):Mem g a y w' bM M:=by
 obtain ⟨D,h1,h2⟩:=h
 exact ⟨D,ownsMap_at h1 hb,h2⟩
theorem elStepN:ElemOk Tryz.prog 34 74 (.agg #[.int .i64 0,.bool false]) 2 16:=⟨Tryz.underlying34,by kernel_rfl,rfl,by omega⟩
set_option maxHeartbeats 8000000 in
set_option maxRecDepth 100000 in
theorem nth_any (g:Gr) (a:Au) (y:Int) (hgo:grOk g=true) (ha:auOk a=true) (bC bM lf x s n:Nat) (M:List Plc) (w:World) (hc:Ctr g a y w bC bM) (hm:Mem g a y w bM M) (hx:x < g.vals.length) (hs:s < 2 ^ a.accept.length) (hlf:lf<=60) (hn:n < cw g a y lf x s) :
 Calls Tryz.prog 41 #[.pointer (some ⟨bC,0,none⟩),.agg #[.int .i64 (x:Int),.int .i64 (s:Int),.int .i64 (lf:Int)],.int .i64 (n:Int)] w fun e w'=>∃ v',e=.returned v'/\Own w.heap.size w'.heap.size w' 74 cSt 2 v' (nthL g a y lf x s n)/\Only bM (bM+1) w w'/\∃ M',Mem g a y w' bM M':=by
 have HM:=Hd_ hm
 have HCT:=Hd_ hc
 have hbMw:=hm.lt
 obtain ⟨RR,hRR⟩:∃ RR,RR=nthL g a y lf x s n:=⟨_,rfl⟩
 rw [<- hRR]
 have HRR:=Hd_ hRR
 have HN:=Hd_ hn
 have HGO:=Hd_ hgo
 have HA:=Hd_ ha
 have HS:=Hd_ hs
 have hnle:n<=1000000:=by have:=cw_le g a y lf x s;omega
 have hn5:=(grOk_iff.1 hgo).n5
 clear hm hc hRR hn hgo ha hs
 go_enter Tryz.func41,Tryz.ntmps41
 go_wp2_with fail
 have HB0:=Hd_ ((Blk.new w 62 #[.int .i64 (x:Int),.int .i64 (s:Int),.int .i64 (lf:Int)] w.heap.size rfl).alloc (.cells #[] 74))
 have hbl0:Below w.heap.size w ((w.alloc (.cells #[.int .i64 (x:Int),.int .i64 (s:Int),.int .i64 (lf:Int)] 62)).alloc (.cells #[] 74)):=((Below.refl _ _).alloc (Nat.le_refl _) _).alloc (by simp) _
 have HO0:=Hd_ (Only.of_below hbl0 bM (bM+1))
 have HM0:=Hd_ (HM.out.keep hbl0)
 have HR0:=Hd_ (show ((w.alloc (.cells #[.int .i64 (x:Int),.int .i64 (s:Int),.int .i64 (lf:Int)] 62)).alloc (.cells #[] 74)).ownsRow (w.heap.size+1) 74 2 (.slice (some ⟨w.heap.size+1,0,none⟩) 0 0) ([]:List St).length (([]:List St).flatMap cSt) from by
  have h:=World.ownsRow_lit (base:=w.heap.size+1) (e:=74) (size:=2) (w.alloc (.cells #[.int .i64 (x:Int),.int .i64 (s:Int),.int .i64 (lf:Int)] 62)) #[] 0 (by simp) (by decide) rfl
  simpa using h)
 clear hbl0
 go_loopg [2,7] lf (fun gk nn oo wr=>∃ (x' s' n':Nat) (O:List St) (M':List Plc),nn=.int .i64 (n':Int)/\gk<=lf/\x' < g.vals.length/\s' < 2 ^ a.accept.length/\n' < cw g a y gk x' s'/\O ++ nthL g a y gk x' s' n'=RR/\O.length+gk=lf /\
  Blk wr w.heap.size 62 #[.int .i64 (x':Int),.int .i64 (s':Int),.int .i64 (gk:Int)]/\wr.ownsRow (w.heap.size+1) 74 2 oo O.length (O.flatMap cSt)/\Only bM (bM+1) w wr/\Mem g a y wr bM M')
 case atStart=>exact ⟨x,s,n,[],M,rfl,Nat.le_refl _,hx,HS.out,HN.out,HRR.out.symm,by simp,HB0.out,HR0.out,HO0.out,HM0.out⟩
 case round =>
  clear HB0 HO0 HM0 HR0
  obtain ⟨x',s',n',O,M',rfl,hgk,hx',hs',hn',hO,hOl,hblk,hrow,hon,hmm⟩:=hrel
  have hs4:=lt12 HA.out hs'
  have e0:wr.cell? ⟨w.heap.size,0,none⟩=some (.int .i64 (x':Int)):=hblk.cell 0
  have e1:wr.cell? ⟨w.heap.size,1,none⟩=some (.int .i64 (s':Int)):=hblk.cell 1
  have e2:wr.cell? ⟨w.heap.size,2,none⟩=some (.int .i64 (gk:Int)):=hblk.cell 2
  have lE:=hblk.lt
  have HBK:=Hd_ hblk
  have HROW:=Hd_ hrow
  have HON:=Hd_ hon
  have HMM:=Hd_ hmm
  have HO:=Hd_ hO
  have hnle':n'<=1000000:=by have:=cw_le g a y gk x' s';omega
  by_cases h0:gk=0
  · subst h0
    have hOe:O=RR:=by rw [<- hO];simp [nthL]
    have hown:=Own.of_row (xs:=O) hrow rfl rfl
    obtain ⟨A9,n9,c9,rfl⟩:=hown.shape
    rw [hOe] at hown
    have HOW:=Hd_ (hown.mono (lo':=w.heap.size) (by omega) (Nat.le_refl _))
    clear hblk hrow hon hmm hO hn' hOl hOe hown
    go_wp2_with fail
    go_ret
    exact ⟨_,rfl,HOW.out,HON.out,_,HMM.out⟩
  · obtain ⟨f,hf⟩:∃ f,gk=f+1:=⟨gk - 1,by omega⟩
    have hpick:=pick_cw (show n' < cw g a y (f+1) x' s' by rw [<- hf];exact hn')
    have HNX:=Hd_ (fun (l:Nat) (t sid:Int) (sinv:Bool) (W:World) (hW:Ctr g a y W bC bM) (hl:l < 9)=>next_any g a y HGO.out HA.out bC bM x' s' f l t sid sinv W hW hx' hs' (by omega) hl)
    rw [<- hf] at HNX
    have HNS:=Hd_ (fun n'' p (h:pick (cwAt g a y f x' s') (arcsOf g (x':Int)) n'=some (p,n''))=>nthL_succ (y:=y) h)
    rw [<- hf] at HNS
    have hfl:f < gk:=by omega
    have hgp:(0:Int) < (gk:Int):=by omega
    have hgn:0 < gk:=by omega
    have hctr:=HCT.out.only hon
    have HC1:=Hd_ hctr
    obtain ⟨B,lo,hi,A1,A2,A3,A4,A5,c1,c2,c3,c4,c5,hbk,hgv,hav,hlv,h5,h6,h7,h8,h9⟩:=hctr
    have z6:wr.cell? ⟨bC,6,none⟩=some (.slice A5 g.vals.length c5):=hbk.cell 6
    have lC:=hbk.lt
    have hA5:∃ b5 o5,A5=some ⟨b5,o5,none⟩/\b5 < wr.heap.size/\∃ A7 c7,wr.cell? ⟨b5,o5+x',none⟩=some (.slice A7 (arcsOf g (x':Int)).length c7)/\(arcsOf g (x':Int)).length<=c7/\c7<=9223372036854775807/\SlI lo hi wr cA 4 (.slice A7 (arcsOf g (x':Int)).length c7) (arcsOf g (x':Int)):=by
     obtain ⟨b5,o5,A7,c7,q1,q2,q3,q4,q5,q6,q7,-⟩:=hlv.row h7 (i:=x') (xs:=arcsOf g (x':Int)) (by simp [hx'])
     exact ⟨b5,o5,q1,by omega,A7,c7,q4,q5,q6,q7⟩
    obtain ⟨b5,o5,rfl,hb5,A7,c7,d5,hl7,hm7,hI7⟩:=hA5
    have hal:=arcs_len (grOk_iff.1 HGO.out) (x':Int)
    have hxx:(x':Int) < (g.vals.length:Int):=by omega
    have HI7:=Hd_ hI7
    have HP:=Hd_ hpick
    have hgk60:gk<=60:=by omega
    have hol:O.length<=60:=by omega
    have HF:=Hd_ hf
    have hrlt:=hrow.lt
    have HRL:=Hd_ hrlt
    obtain ⟨wo,hwo⟩:∃ wo:World,wo=wr:=⟨_,rfl⟩
    rw [<- hwo] at HBK HROW HON HMM HC1 HI7 HRL e0 e1 e2 lE z6 lC hb5 d5 h7 ⊢
    obtain ⟨vO,rfl⟩:∃ vO,vO=u7:=⟨_,rfl⟩
    clear hwo hbk hgv hav hlv h8 hpick hblk hrow hon hmm hO hn' hI7 hf hrlt h0
    go_upto_region 3 with fail
    refine wp_region_ext_lit (by kernel_rfl) (by kernel_rfl) ?_
    repeat (go_big_quiet_step (fail))
    refine wpQuiet_nil ?_
    rintro _ ⟨u2,rfl⟩
    clear d5 z6
    have hbU:=ext_below wo u2
    go_wp2_with fail
    go_loopw [25,2,7] (fun ii nn oo wi=>∃ (i:Nat) (M2:List Plc),i<=(arcsOf g (x':Int)).length/\ii=.int .i64 (i:Int)/\oo=vO/\nn=.int .i64 (leftN (cwAt g a y f x' s') ((arcsOf g (x':Int)).take i) n':Nat)/\(∀ j q,j < i->(arcsOf g (x':Int))[j]?=some q->¬ leftN (cwAt g a y f x' s') ((arcsOf g (x':Int)).take j) n' < cwAt g a y f x' s' q)/\Only bM (bM+1) wo wi/\Mem g a y wi bM M2) (fun ii _ _ _=>(arcsOf g (x':Int)).length - (intOf ii).toNat)
    case atStart=>exact ⟨0,M',Nat.zero_le _,rfl,rfl,rfl,fun j q hj=>by omega,Only.of_below hbU _ _,HMM.out.keep hbU⟩
    case round =>
     obtain ⟨i,M2,hi,rfl,hvo,rfl,hno,hon,hmm⟩:=hrel
     subst hvo
     by_cases hlt:i < (arcsOf g (x':Int)).length
     · have hyi:(arcsOf g (x':Int))[i]?=some (arcsOf g (x':Int))[i]:=List.getElem?_eq_getElem hlt
       have hyr:=arc_range (grOk_iff.1 HGO.out) (List.getElem_mem hlt)
       generalize (arcsOf g (x':Int))[i]=p at hyi hyr
       obtain ⟨⟨sid,sinv⟩,l,t⟩:=p
       simp only at hyr
       obtain ⟨l,rfl⟩:=Int.eq_ofNat_of_zero_le hyr.1.1
       obtain ⟨t,rfl⟩:=Int.eq_ofNat_of_zero_le hyr.2.1
       obtain ⟨b7,o7,rfl,hb7l,hb7,k0,k1,k2,k3⟩:=HI7.out.arc hyi
       simp only at k0 k1 k2 k3
       have hb7M:b7 < bM ∨ bM+1<=b7:=by omega
       have hb7o:b7 < wo.heap.size:=by omega
       have k0:=ocell hon k0 hb7o hb7M
       have k1:=ocell hon k1 hb7o hb7M
       have k2:=ocell hon k2 hb7o hb7M
       have k3:=ocell hon k3 hb7o hb7M
       have hsz:=hon.size
       have e0:=ocell hon e0 lE (.inr (by omega))
       have e1:=ocell hon e1 lE (.inr (by omega))
       have e2:=ocell hon e2 lE (.inr (by omega))
       have hb7w:b7 < wr.heap.size:=by omega
       have lEr:w.heap.size < wr.heap.size:=by omega
       have hAF:=aft_lt HA.out s' (valAt g x') l
       have hKA:cwAt g a y f x' s' ((sid,sinv),(l:Int),(t:Int))=cw g a y f t (aft a s' (valAt g x') l):=by rw [cwAt];simp
       have hPH:=fun h=>pick_here hyi hno h
       have hLS:=leftN_succ (k:=cwAt g a y f x' s') (n:=n') hyi
       have hLL:=leftN_le (cwAt g a y f x' s') ((arcsOf g (x':Int)).take i) n'
       rw [hKA] at hPH hLS
       have hno2:¬ leftN (cwAt g a y f x' s') ((arcsOf g (x':Int)).take i) n' < cw g a y f t (aft a s' (valAt g x') l)->∀ j q,j < i+1->(arcsOf g (x':Int))[j]?=some q->¬ leftN (cwAt g a y f x' s') ((arcsOf g (x':Int)).take j) n' < cwAt g a y f x' s' q:=fun h j q hj hq=>by
        rcases Nat.lt_or_ge j i with h1 | h1
        · exact hno j q h1 hq
        · obtain rfl:j=i:=by omega
          rw [hyi] at hq
          injection hq with hq
          rw [<- hq,hKA];exact h
       have hNSS:=fun n'' h=>HNS.out n'' ((sid,sinv),(l:Int),(t:Int)) h
       simp only [Int.toNat_natCast] at hNSS
       have hcl2:=cw_le g a y f t (aft a s' (valAt g x') l)
       have HNC:=Hd_ (fun (W:World) (hW:Ctr g a y W bC bM)=>HNX.out l (t:Int) sid sinv W hW (by omega))
       have HRC:=Hd_ (fun (W:World) (h1:Ctr g a y W bC bM) (h2:Mem g a y W bM M2)=>count_any g a y HGO.out HA.out bC bM f t (aft a s' (valAt g x') l) M2 W h1 h2 (by omega) hAF (by omega))
       obtain ⟨CC,hCC⟩:∃ CC,CC=cw g a y f t (aft a s' (valAt g x') l):=⟨_,rfl⟩
       rw [<- hCC] at hPH hLS hno2 hcl2 HRC
       have HCC:=Hd_ hCC
       generalize aft a s' (valAt g x') l=AF at *
       have hii:(i:Int) < ((arcsOf g (x':Int)).length:Int):=by omega
       have HLS:=Hd_ hLS
       have HPH:=Hd_ hPH
       have HN2:=Hd_ hno2
       have HNSS:=Hd_ hNSS
       have HON2:=Hd_ hon
       have HMM2:=Hd_ hmm
       have hAF4:AF < 4096:=lt12 HA.out hAF
       have htl:t < g.vals.length:=by omega
       have HAF:=Hd_ hAF
       clear hyi hno hLS hPH hno2 hNSS hCC hon hmm hKA hAF
       generalize leftN (cwAt g a y f x' s') ((arcsOf g (x':Int)).take i) n'=m1 at *
       have hbE:Below wr.heap.size wr (wr.alloc (.cells #[.int .i64 sid,.bool sinv,.int .i64 (l:Int),.int .i64 (t:Int)] 89)):=(Below.refl _ _).alloc (Nat.le_refl _) _
       have a0:(wr.alloc (.cells #[.int .i64 sid,.bool sinv,.int .i64 (l:Int),.int .i64 (t:Int)] 89)).cell? ⟨wr.heap.size,0,none⟩=some (.int .i64 sid):=by simp
       have a1:(wr.alloc (.cells #[.int .i64 sid,.bool sinv,.int .i64 (l:Int),.int .i64 (t:Int)] 89)).cell? ⟨wr.heap.size,1,none⟩=some (.bool sinv):=by simp
       go_wp2_with fail
       refine (HNC.out _ ((HC1.out.only HON2.out).keep hbE)).mono ?_
       rintro en w3 ⟨rfl,hb3⟩
       have hbQ:Below w3.heap.size w3 (w3.alloc (.cells #[.int .i64 (t:Int),.int .i64 (AF:Int),.int .i64 (f:Int)] 62)):=(Below.refl _ _).alloc (Nat.le_refl _) _
       have hbEQ:=below_trans hbE (below_trans hb3 hbQ)
       have hb3Q:=below_trans hb3 hbQ
       have q0:(w3.alloc (.cells #[.int .i64 (t:Int),.int .i64 (AF:Int),.int .i64 (f:Int)] 62)).cell? ⟨w3.heap.size,0,none⟩=some (.int .i64 (t:Int)):=by simp
       have q1:(w3.alloc (.cells #[.int .i64 (t:Int),.int .i64 (AF:Int),.int .i64 (f:Int)] 62)).cell? ⟨w3.heap.size,1,none⟩=some (.int .i64 (AF:Int)):=by simp
       have q2:(w3.alloc (.cells #[.int .i64 (t:Int),.int .i64 (AF:Int),.int .i64 (f:Int)] 62)).cell? ⟨w3.heap.size,2,none⟩=some (.int .i64 (f:Int)):=by simp
       have a0:=kcell hb3Q a0
       have a1:=kcell hb3Q a1
       have hsE:wr.heap.size < w3.heap.size:=by have:=hb3.size;simp at this;omega
       have HC3:=Hd_ ((HC1.out.only HON2.out).keep hbEQ)
       have HM3:=Hd_ (HMM2.out.keep hbEQ)
       have HO3:=Hd_ (HON2.out.trans (Only.of_below hbEQ bM (bM+1)))
       have lQ:w3.heap.size < (w3.alloc (.cells #[.int .i64 (t:Int),.int .i64 (AF:Int),.int .i64 (f:Int)] 62)).heap.size:=by simp
       clear hb3 hbQ hbEQ hb3Q hbE k0 k1 k2 k3 e0 e1 e2
       go_wp2_with fail
       refine (HRC.out _ HC3.out HM3.out).mono ?_
       rintro en w4 ⟨rfl,hon4,M4,hm4,hmo4⟩
       have q0:=ocell hon4 q0 lQ (.inr (by omega))
       have q1:=ocell hon4 q1 lQ (.inr (by omega))
       have q2:=ocell hon4 q2 lQ (.inr (by omega))
       have a0:=ocell hon4 a0 (by omega) (.inr (by omega))
       have a1:=ocell hon4 a1 (by omega) (.inr (by omega))
       have hs4w:=hon4.size
       have HO4:=Hd_ (HO3.out.trans hon4)
       have HM4:=Hd_ hm4
       clear hon4 hm4 hmo4
       by_cases hpk:m1 < CC
       · have hpk1:(m1:Int) < (CC:Int):=by omega
         have HPK:=Hd_ (HPH.out hpk)
         have HNR:=Hd_ (HNSS.out m1 (HPH.out hpk))
         have honA:=HO4.out
         have hrow4:=ownsRow_block HROW.out (fun g hg=>honA.block g (HRL.out g hg).2 (.inr (by have:=(HRL.out g hg).1;omega)))
         have hbk4:=HBK.out.only honA (.inr (by omega))
         have HR4:=Hd_ hrow4
         have HBK4:=Hd_ hbk4
         have hs44:wo.heap.size<=w4.heap.size:=by omega
         have lQ4:w3.heap.size < w4.heap.size:=by omega
         clear HN2 HLS HPH HNSS hrow4 hbk4 honA
         go_upto_region 10 with (at_builtin;(refine wpList_append1 cSt elStepN rfl _ _ rfl (w.heap.size+1) _ O (sid,sinv) _ 1 _ (by rfl) HR4.out (by rfl) rfl rfl rfl (cSt_one _) (by omega) (by omega) (by omega) ?_);intro v8 w8 hrow8 hb8 hat8 hgr8)
         have hs8:=hb8.size
         have hne:∀ b,wo.heap.size<=b->u7.ownBlock ≠ some b:=fun b hb e=>by have:=(HRL.out b e).2;omega
         have hneM:u7.ownBlock ≠ some bM:=fun e=>by have:=(HRL.out bM e).1;omega
         have g8:∀ b,b < w4.heap.size->u7.ownBlock ≠ some b->w8.heap[b]?=w4.heap[b]?:=fun b hb hn=>(gBlockN hgr8 (by simp;omega) hn).trans (Below.heap_alloc _ _ _ hb)
         have q0:w8.cell? ⟨w3.heap.size,0,none⟩=some (.int .i64 (t:Int)):=(World.cell?_of_block (a:=⟨w3.heap.size,0,none⟩) (g8 _ lQ4 (hne w3.heap.size (by omega)))).trans q0
         have q1:w8.cell? ⟨w3.heap.size,1,none⟩=some (.int .i64 (AF:Int)):=(World.cell?_of_block (a:=⟨w3.heap.size,1,none⟩) (g8 _ lQ4 (hne w3.heap.size (by omega)))).trans q1
         have q2:w8.cell? ⟨w3.heap.size,2,none⟩=some (.int .i64 (f:Int)):=(World.cell?_of_block (a:=⟨w3.heap.size,2,none⟩) (g8 _ lQ4 (hne w3.heap.size (by omega)))).trans q2
         have hbk8:=HBK4.out.below hb8 (Nat.lt_succ_self _)
         have z0:w8.cell? ⟨w.heap.size,0,none⟩=some (.int .i64 (x':Int)):=hbk8.cell 0
         have z1:w8.cell? ⟨w.heap.size,1,none⟩=some (.int .i64 (s':Int)):=hbk8.cell 1
         have z2:w8.cell? ⟨w.heap.size,2,none⟩=some (.int .i64 (gk:Int)):=hbk8.cell 2
         have f0:=hbk8.frozen 0
         have f1:=hbk8.frozen 1
         have f2:=hbk8.frozen 2
         have l8:=hbk8.lt
         have lbM4:=HM4.out.lt
         have hmm8:=HM4.out.at_ (g8 bM lbM4 hneM)
         have hon8:=only_below (HON.out.trans HO4.out) hb8 (show w.heap.size<=w.heap.size+1 by omega)
         have HB8:=Hd_ (hbk8.set3 (.int .i64 (t:Int)) (.int .i64 (AF:Int)) (.int .i64 (f:Int)))
         have HR8:=Hd_ (ownsRow_block hrow8 (fun g hg=>set3_block w8 w.heap.size (.int .i64 (t:Int)) (.int .i64 (AF:Int)) (.int .i64 (f:Int)) g (by have:=(hrow8.lt g hg).1;omega)))
         have HM8:=Hd_ (hmm8.at_ (set3_block w8 w.heap.size (.int .i64 (t:Int)) (.int .i64 (AF:Int)) (.int .i64 (f:Int)) bM (by omega)))
         have HO8:=Hd_ (only_set3 hon8 (Nat.le_refl _) (.int .i64 (t:Int)) (.int .i64 (AF:Int)) (.int .i64 (f:Int)))
         clear hbk8 hrow8 hmm8 hon8 hb8 hat8 hgr8 g8 hne hneM a0 a1
         go_wp2_with fail
         go_roundg f
         case measure=>omega
         case rel=>exact ⟨t,AF,m1,O ++ [(sid,sinv)],M4,rfl,by omega,htl,HAF.out,by rw [<- HCC.out];exact hpk,by rw [<- HO.out,HNR.out,List.append_assoc];rfl,by have:=HF.out;simp;omega,HB8.out,HR8.out,HO8.out,HM8.out⟩
       · have hpk1:¬ (m1:Int) < (CC:Int):=by omega
         have hsub:IntKind.i64.wrap ((m1:Int) - (CC:Int))=((m1 - CC:Nat):Int):=by rw [IntWalk.i64_in _ (by omega)];omega
         have hsub2:(m1:Int) - (CC:Int)=((m1 - CC:Nat):Int):=by omega
         have HNO:=Hd_ (HN2.out hpk)
         clear HPH HNSS HN2
         go_wp2_with fail
         go_roundw
         case rel=>exact ⟨i+1,M4,by omega,by go_num,rfl,by rw [HLS.out],HNO.out,HO4.out,HM4.out⟩
         case measure=>simp [intOf];omega
     · obtain rfl:i=(arcsOf g (x':Int)).length:=by omega
       obtain ⟨p,n'',h1,-⟩:=HP.out
       rw [pick_end hno] at h1
       cases h1
theorem startOk {a:Au} (ha:auOk a=true):bit a.start.toNat < 2 ^ a.accept.length:=by
 obtain ⟨⟨_,hn⟩,⟨h0,h1⟩,-,-⟩:=auOk_iff.1 ha
 exact bit_lt (by omega)
theorem Left.below {g:Gr} {a:Au} {y:Int} {f:Nat} {M:List Plc} {bM:Nat} {w w':World} (h:Left g a y f M bM w w') {B:Nat} (hB:B<=bM) (hs:B<=w.heap.size):Below B w w':=h.1.below hB hs
set_option maxHeartbeats 8000000 in
set_option maxRecDepth 100000 in
theorem implCountWalks (vg va:Value) (g:Gr) (a:Au) (x y n:Int) (w:World) (hgv:GrV 0 w.heap.size w vg g) (hav:AuV 0 w.heap.size w va a) :
 Calls Tryz.prog 14 #[vg,va,.int .i64 x,.int .i64 y,.int .i64 n] w fun e w'=>e=.returned (.int .i64 (cntWalks g a x y n))/\Below w.heap.size w w':=by
 have hgv0:=hgv
 have hav0:=hav
 obtain ⟨A1,n1,c1,A2,n2,c2,rfl⟩:=hgv.shape
 obtain ⟨A3,n3,c3,A4,n4,c4,rfl⟩:=hav.shape
 have hb0:Below w.heap.size w ((w.alloc (.cells #[.slice A1 n1 c1,.slice A2 n2 c2] 27)).alloc (.cells #[.int .i64 a.start,.slice A3 n3 c3,.slice A4 n4 c4] 31)):=((Below.refl _ _).alloc (Nat.le_refl _) _).alloc (by simp) _
 have hbG:=((Blk.new w 27 #[.slice A1 n1 c1,.slice A2 n2 c2] w.heap.size rfl).alloc (.cells #[.int .i64 a.start,.slice A3 n3 c3,.slice A4 n4 c4] 31))
 have hbA:=(Blk.new (w.alloc (.cells #[.slice A1 n1 c1,.slice A2 n2 c2] 27)) 31 #[.int .i64 a.start,.slice A3 n3 c3,.slice A4 n4 c4] (w.heap.size+1) (by simp))
 have HBG:=Hd_ hbG
 have HBA:=Hd_ hbA
 have HGV:=Hd_ hgv0
 have HAV:=Hd_ hav0
 have HB0:=Hd_ hb0
 have HSL:=Hd_ (fun (W:World) (hW:Below w.heap.size w W)=>implShortestLength _ _ g a x y W (HGV.out.keep hW) (HAV.out.keep hW))
 clear hgv hav hgv0 hav0 hb0 hbG hbA
 have hb1:=HB0.out.alloc HB0.out.size (.cells #[.int .i64 x,.int .i64 y] 3)
 have hst:SlE ((((w.alloc (.cells #[.slice A1 n1 c1,.slice A2 n2 c2] 27)).alloc (.cells #[.int .i64 a.start,.slice A3 n3 c3,.slice A4 n4 c4] 31))).alloc (.cells #[.int .i64 x,.int .i64 y] 3)) cI 1 (.slice (some ⟨w.heap.size+1+1,0,none⟩) 2 2) [x,y]:=by
  have h:=Own.of_row (xs:=[x,y]) (E:=cI) (World.ownsRow_lit (base:=0) (e:=3) (size:=1) (((w.alloc (.cells #[.slice A1 n1 c1,.slice A2 n2 c2] 27)).alloc (.cells #[.int .i64 a.start,.slice A3 n3 c3,.slice A4 n4 c4] 31))) #[.int .i64 x,.int .i64 y] 2 (Nat.zero_le _) (by decide) rfl) rfl rfl
  have h2:=h.sl cI_len
  simpa [SlE] using h2
 have hbo:=bothOk_any _ _ _ g a [x,y] _ (HGV.out.keep hb1) (HAV.out.keep hb1) hst
 have HBO:=Hd_ hbo
 have HG1:=Hd_ (HBG.out.alloc (.cells #[.int .i64 x,.int .i64 y] 3))
 have HA1:=Hd_ (HBA.out.alloc (.cells #[.int .i64 x,.int .i64 y] 3))
 have HWI:=Hd_ (fun W=>within_any n 0 60 W)
 clear hbo hst
 cases hk:([x,y].all (fun s=>wi s 0 ((g.vals.length:Int) - 1)) && (grOk g && auOk a)) with
 | false =>
   rw [hk] at HBO
   have hco:cntOk g a x y=false:=by simpa [cntOk,Bool.and_assoc] using hk
   have HF:=Hd_ (show cntWalks g a x y n=0 by rw [cntWalks,if_neg];rw [hco];simp)
   clear hk hco
   go_enter Tryz.func14,Tryz.ntmps14
   go_wp2_with fail
   refine HBO.out.mono ?_
   rintro e w1 ⟨rfl,hb2⟩
   go_wp2_with fail
   go_ret
   exact ⟨by rw [HF.out];rfl,below_trans hb1 hb2⟩
 | true =>
   rw [hk] at HBO
   have hco:cntOk g a x y=true:=by simpa [cntOk,Bool.and_assoc] using hk
   cases hw:wi n 0 60 with
   | false =>
     rw [hw] at HWI
     have HF:=Hd_ (show cntWalks g a x y n=0 by rw [cntWalks,if_neg];rw [hw];simp)
     clear hk hco hw
     go_enter Tryz.func14,Tryz.ntmps14
     go_wp2_with fail
     refine HBO.out.mono ?_
     rintro e w1 ⟨rfl,hb2⟩
     go_wp2_with fail
     refine (HWI.out _).mono ?_
     rintro e w9 ⟨rfl,hw9⟩
     rw [hw9]
     clear hw9
     go_wp2_with fail
     go_ret
     exact ⟨by rw [HF.out];rfl,below_trans hb1 hb2⟩
   | true =>
     rw [hw] at HWI
     have hwi:=wi_iff.1 hw
     obtain ⟨L,rfl⟩:=Int.eq_ofNat_of_zero_le hwi.1
     obtain ⟨⟨hx0,hx1⟩,⟨hy0,hy1⟩,hgo,ha⟩:=cntOk_iff.1 hco
     have HF:=Hd_ (show cntWalks g a x y (L:Int)=(cw g a y L x.toNat (bit a.start.toNat):Nat) by rw [cntWalks,if_pos (by rw [hco,hw];rfl),Int.toNat_natCast];rfl)
     obtain ⟨x,rfl⟩:=Int.eq_ofNat_of_zero_le hx0
     rw [Int.toNat_natCast] at HF
     have HGO:=Hd_ hgo
     have HA:=Hd_ ha
     have HSO:=Hd_ (startOk ha)
     have hn5:=(grOk_iff.1 hgo).n5
     have hxl:x < g.vals.length:=by omega
     clear hco hgo ha hk hw hx0 hx1 hy0 hy1
     go_enter Tryz.func14,Tryz.ntmps14
     go_wp2_with fail
     refine HBO.out.mono ?_
     rintro e w1 ⟨rfl,hb1'⟩
     have hb2:=below_trans hb1 hb1'
     have bG:=HG1.out.keep hb1'
     have bA:=HA1.out.keep hb1'
     have x0:w1.cell? ⟨w.heap.size,0,none⟩=some (.slice A1 n1 c1):=bG.cell 0
     have x1:w1.cell? ⟨w.heap.size,1,none⟩=some (.slice A2 n2 c2):=bG.cell 1
     have y0:w1.cell? ⟨w.heap.size+1,0,none⟩=some (.int .i64 a.start):=bA.cell 0
     have y1:w1.cell? ⟨w.heap.size+1,1,none⟩=some (.slice A3 n3 c3):=bA.cell 1
     have y2:w1.cell? ⟨w.heap.size+1,2,none⟩=some (.slice A4 n4 c4):=bA.cell 2
     clear bG bA
     clear hb1' hb1
     go_wp2_with fail
     refine (HWI.out _).mono ?_
     rintro e w9 ⟨rfl,hw9⟩
     rw [hw9]
     clear hw9
     go_wp2_with fail
     refine (newCounter_any _ _ g a y _ (HGV.out.keep hb2) (HAV.out.keep hb2) HGO.out HA.out).mono ?_
     rintro e w2 ⟨bC,bM,rfl,hbM,hctr,hmem,hb3⟩
     have hb4:=below_trans hb2 hb3
     have hwM:w.heap.size<=bM:=Nat.le_trans hb2.size hbM
     have hsz3:=hb3.size
     have lbMw:=hmem.lt
     clear hb3 x0 x1 y0 y1 y2
     go_wp2_with fail
     refine (start_any g a y HA.out bC bM x L _ hctr (by omega) (by omega)).mono ?_
     rintro e w3 ⟨rfl,hb5⟩
     go_wp2_with fail
     refine (count_any g a y HGO.out HA.out bC bM L x _ [] _ (hctr.keep hb5) (hmem.keep hb5) hxl HSO.out (by omega)).mono ?_
     rintro e w4 ⟨rfl,hleft⟩
     have hb6:=below_trans hb4 hb5
     have hb7:=hb6.trans (hleft.below hwM hb6.size)
     go_wp2_with fail
     go_ret
     exact ⟨by rw [HF.out];rfl,hb7⟩
theorem range61 {d:Nat} (h:d < 61):(List.range 61)[d]?=some d:=by simp [h]
theorem range61_len:(List.range 61).length=61:=List.length_range
set_option maxHeartbeats 8000000 in
set_option maxRecDepth 100000 in
theorem implNthWalk (vg va:Value) (g:Gr) (a:Au) (x y n:Int) (w:World) (hgv:GrV 0 w.heap.size w vg g) (hav:AuV 0 w.heap.size w va a) :
 Calls Tryz.prog 9 #[vg,va,.int .i64 x,.int .i64 y,.int .i64 n] w fun e w'=>∃ v',e=.returned (.tuple #[v',.bool (nthWalk g a x y n).2])/\WkO w.heap.size w'.heap.size w' v' (nthWalk g a x y n).1/\Below w.heap.size w w':=by
 have hgv0:=hgv
 have hav0:=hav
 obtain ⟨A1,n1,c1,A2,n2,c2,rfl⟩:=hgv.shape
 obtain ⟨A3,n3,c3,A4,n4,c4,rfl⟩:=hav.shape
 have hb0:Below w.heap.size w (((w.alloc (.cells #[.slice A1 n1 c1,.slice A2 n2 c2] 27)).alloc (.cells #[.int .i64 a.start,.slice A3 n3 c3,.slice A4 n4 c4] 31)).alloc (.cells #[.int .i64 0,.slice none 0 0] 36)):=(((Below.refl _ _).alloc (Nat.le_refl _) _).alloc (by simp) _).alloc (by simp;omega) _
 have hbG:=((Blk.new w 27 #[.slice A1 n1 c1,.slice A2 n2 c2] w.heap.size rfl).alloc (.cells #[.int .i64 a.start,.slice A3 n3 c3,.slice A4 n4 c4] 31)).alloc (.cells #[.int .i64 0,.slice none 0 0] 36)
 have hbA:=(Blk.new (w.alloc (.cells #[.slice A1 n1 c1,.slice A2 n2 c2] 27)) 31 #[.int .i64 a.start,.slice A3 n3 c3,.slice A4 n4 c4] (w.heap.size+1) (by simp)).alloc (.cells #[.int .i64 0,.slice none 0 0] 36)
 have hbR:=Blk.new ((w.alloc (.cells #[.slice A1 n1 c1,.slice A2 n2 c2] 27)).alloc (.cells #[.int .i64 a.start,.slice A3 n3 c3,.slice A4 n4 c4] 31)) 36 #[.int .i64 0,.slice none 0 0] (w.heap.size+1+1) (by simp)
 have HBG:=Hd_ hbG
 have HBA:=Hd_ hbA
 have HBR:=Hd_ hbR
 have HGV:=Hd_ hgv0
 have HAV:=Hd_ hav0
 have HB0:=Hd_ hb0
 have HSL:=Hd_ (fun (W:World) (hW:Below w.heap.size w W)=>implShortestLength _ _ g a x y W (HGV.out.keep hW) (HAV.out.keep hW))
 clear hgv hav hgv0 hav0 hb0 hbG hbA hbR
 obtain ⟨R,hR⟩:∃ R,R=nthWalk g a x y n:=⟨_,rfl⟩
 rw [<- hR]
 by_cases hneg:shortLen g a x y < 0
 · have HF:=Hd_ (show R=((0,[]),false) by rw [hR,nthWalk,if_neg];rw [decide_eq_false (by omega)];simp)
   generalize shortLen g a x y=SL at *
   clear hR
   go_enter Tryz.func9,Tryz.ntmps9
   go_wp2_with fail
   refine (HSL.out _ HB0.out).mono ?_
   rintro e w1 ⟨rfl,hb1⟩
   have hb2:=below_trans HB0.out hb1
   have bR:=HBR.out.keep hb1
   have r0:w1.cell? ⟨w.heap.size+1+1,0,none⟩=some (.int .i64 0):=bR.cell 0
   have r1:w1.cell? ⟨w.heap.size+1+1,1,none⟩=some (.slice none 0 0):=bR.cell 1
   have fr0:=bR.frozen 0
   have fr1:=bR.frozen 1
   have lr:=bR.lt
   clear bR
   clear hb1
   go_wp2_with fail
   refine bodyPost_ret (v:=.tuple #[.agg #[.int .i64 0,.slice none 0 0],.bool false]) (by simp [results,Tryz.results9,go_sem,r0,r1]) rfl ⟨_,by rw [HF.out],?_,(hb2.setCell (p:=⟨w.heap.size+1+1,0,none⟩) (by simp only;omega) _).setCell (p:=⟨w.heap.size+1+1,1,none⟩) (by simp only;omega) _⟩
   rw [HF.out]
   exact ⟨_,rfl,Own.nil _ _ _ _ _ _⟩
 · have hco:=shortLen_ok (show 0<=shortLen g a x y by omega)
   obtain ⟨⟨hx0,hx1⟩,⟨hy0,hy1⟩,hgo,ha⟩:=cntOk_iff.1 hco
   have hRe:R=if wi n 0 999999=true then nthWalkP g a x y n.toNat else ((0,[]),false):=by rw [hR,nthWalk,decide_eq_true (show 0<=shortLen g a x y by omega),Bool.true_and]
   clear hR
   generalize shortLen g a x y=L at *
   obtain ⟨x,rfl⟩:=Int.eq_ofNat_of_zero_le hx0
   have HGO:=Hd_ hgo
   have HA:=Hd_ ha
   have HSO:=Hd_ (startOk ha)
   have hn5:=(grOk_iff.1 hgo).n5
   have hxl:x < g.vals.length:=by omega
   have HW:=Hd_ (fun W=>within_any n 0 999999 W)
   cases hwn:wi n 0 999999 with
   | false =>
     have HF:=Hd_ (show R=((0,[]),false) by rw [hRe,hwn];simp)
     rw [hwn] at HW
     clear hco hgo ha hx0 hx1 hy0 hy1 hRe hwn
     go_enter Tryz.func9,Tryz.ntmps9
     go_wp2_with fail
     refine (HSL.out _ HB0.out).mono ?_
     rintro e w1 ⟨rfl,hb1⟩
     have hb2:=below_trans HB0.out hb1
     have bR:=HBR.out.keep hb1
     have r0:w1.cell? ⟨w.heap.size+1+1,0,none⟩=some (.int .i64 0):=bR.cell 0
     have r1:w1.cell? ⟨w.heap.size+1+1,1,none⟩=some (.slice none 0 0):=bR.cell 1
     have fr0:=bR.frozen 0
     have fr1:=bR.frozen 1
     have lr:=bR.lt
     clear bR
     clear hb1
     go_wp2_with fail
     refine (HW.out _).mono ?_
     rintro e w9 ⟨rfl,hw9⟩
     rw [hw9]
     clear hw9
     go_wp2_with fail
     refine bodyPost_ret (v:=.tuple #[.agg #[.int .i64 0,.slice none 0 0],.bool false]) (by simp [results,Tryz.results9,go_sem,r0,r1]) rfl ⟨_,by rw [HF.out],?_,(hb2.setCell (p:=⟨w.heap.size+1+1,0,none⟩) (by simp only;omega) _).setCell (p:=⟨w.heap.size+1+1,1,none⟩) (by simp only;omega) _⟩
     rw [HF.out]
     exact ⟨_,rfl,Own.nil _ _ _ _ _ _⟩
   | true =>
     have hwi:=wi_iff.1 hwn
     obtain ⟨n,rfl⟩:=Int.eq_ofNat_of_zero_le hwi.1
     have hn6:n<=999999:=by omega
     have hRp:R=nthWalkP g a (x:Int) y n:=by rw [hRe,hwn,if_pos rfl,Int.toNat_natCast]
     have hK:∀ f,cwI g a (x:Int) y f=cw g a y f x (bit a.start.toNat):=fun f=>rfl
     have HPK:=Hd_ (fun (f m:Nat) (h:pick (cwI g a (x:Int) y) (List.range 61) n=some (f,m))=>show R=(((x:Int),nthL g a y f x (bit a.start.toNat) m),true) by rw [hRp,nthWalkP];simp only [h];rfl)
     have HNO:=Hd_ (fun (h:pick (cwI g a (x:Int) y) (List.range 61) n=none)=>show R=((0,[]),false) by rw [hRp,nthWalkP];simp only [h])
     obtain ⟨KW,hKW⟩:∃ KW,KW=cwI g a (x:Int) y:=⟨_,rfl⟩
     rw [<- hKW] at HPK HNO
     have HKW:=Hd_ (fun f=>(show KW f=cw g a y f x (bit a.start.toNat) by rw [hKW];exact hK f))
     have HKL:=Hd_ (fun f=>(show KW f<=1000000 by rw [hKW];exact cwI_le ..))
     rw [hwn] at HW
     clear hco hgo ha hx0 hx1 hy0 hy1 hRe hwn hwi hRp hK hKW
     go_enter Tryz.func9,Tryz.ntmps9
     go_wp2_with fail
     refine (HSL.out _ HB0.out).mono ?_
     rintro e w1 ⟨rfl,hb1⟩
     have hb2:=below_trans HB0.out hb1
     have bG:=HBG.out.keep hb1
     have bA:=HBA.out.keep hb1
     have x0:w1.cell? ⟨w.heap.size,0,none⟩=some (.slice A1 n1 c1):=bG.cell 0
     have x1:w1.cell? ⟨w.heap.size,1,none⟩=some (.slice A2 n2 c2):=bG.cell 1
     have y0:w1.cell? ⟨w.heap.size+1,0,none⟩=some (.int .i64 a.start):=bA.cell 0
     have y1:w1.cell? ⟨w.heap.size+1,1,none⟩=some (.slice A3 n3 c3):=bA.cell 1
     have y2:w1.cell? ⟨w.heap.size+1,2,none⟩=some (.slice A4 n4 c4):=bA.cell 2
     clear bG bA
     have HR1:=Hd_ (HBR.out.keep hb1)
     clear hb1
     go_wp2_with fail
     refine (HW.out _).mono ?_
     rintro e w9 ⟨rfl,hw9⟩
     rw [hw9]
     clear hw9
     go_wp2_with fail
     refine (newCounter_any _ _ g a y _ (HGV.out.keep hb2) (HAV.out.keep hb2) HGO.out HA.out).mono ?_
     rintro e w2 ⟨bC,bM,rfl,hbM,hctr,hmem,hb3⟩
     have hb4:=below_trans hb2 hb3
     have hwM:w.heap.size<=bM:=Nat.le_trans hb2.size hbM
     have hsz3:=hb3.size
     have lbMw:=hmem.lt
     have HR2:=Hd_ (HR1.out.keep hb3)
     have HC2:=Hd_ hctr
     have HM2:=Hd_ hmem
     have HB4:=Hd_ hb4
     have hlr:=HR1.out.lt
     have hbs:=hb2.size
     clear hb2 hb4 hb3 x0 x1 y0 y1 y2 hctr hmem
     go_wp2_with fail
     go_loopw [4,13] (fun nn ll wr=>∃ (d:Nat) (M:List Plc),d<=61/\nn=.int .i64 (leftN KW ((List.range 61).take d) n:Nat)/\ll=.int .i64 (d:Int)/\(∀ j q,j < d->(List.range 61)[j]?=some q->¬ leftN KW ((List.range 61).take j) n < KW q)/\Ctr g a y wr bC bM/\Mem g a y wr bM M/\Blk wr (w.heap.size+1+1) 36 #[.int .i64 0,.slice none 0 0]/\Below w.heap.size w wr/\w2.heap.size<=wr.heap.size) (fun _ ll _=>61 - (intOf ll).toNat)
     case atStart=>exact ⟨0,[],by omega,rfl,rfl,fun j q hj=>by omega,HC2.out,HM2.out,HR2.out,HB4.out,Nat.le_refl _⟩
     case round =>
      obtain ⟨d,M,hd,rfl,rfl,hno,hct,hme,hbr,hbl,hsz⟩:=hrel
      have hll:=leftN_le KW ((List.range 61).take d) n
      by_cases hlt:d < 61
      · have hdl:((d:Int)<=60):=by omega
        have hrd:=range61 hlt
        have hPH:=fun h=>pick_here hrd hno h
        have hLS:=leftN_succ (k:=KW) (n:=n) hrd
        have hno2:¬ leftN KW ((List.range 61).take d) n < KW d->∀ j q,j < d+1->(List.range 61)[j]?=some q->¬ leftN KW ((List.range 61).take j) n < KW q:=fun h j q hj hq=>by
         rcases Nat.lt_or_ge j d with h1 | h1
         · exact hno j q h1 hq
         · obtain rfl:j=d:=by omega
           rw [hrd] at hq
           injection hq with hq
           rw [<- hq];exact h
        have HPH:=Hd_ hPH
        have HLS:=Hd_ hLS
        have HN2:=Hd_ hno2
        have HCL:=HKL.out d
        have HKD:=Hd_ (HKW.out d)
        obtain ⟨CC,hCC⟩:∃ CC,CC=KW d:=⟨_,rfl⟩
        rw [<- hCC] at HPH HLS HN2 HCL HKD
        obtain ⟨m1,hm1⟩:∃ m1,m1=leftN KW ((List.range 61).take d) n:=⟨_,rfl⟩
        rw [<- hm1] at HPH HLS HN2 hll ⊢
        have HC:=Hd_ hct
        have HM:=Hd_ hme
        have HR:=Hd_ hbr
        have HB:=Hd_ hbl
        have lrr:=hbr.lt
        have lmm:=hme.lt
        clear hPH hLS hno2 hrd hno hct hme hbr hbl hCC hm1
        go_wp2_with fail
        refine (start_any g a y HA.out bC bM x d _ HC.out (by omega) (by omega)).mono ?_
        rintro e w3 ⟨rfl,hb5⟩
        have hbQ:=(Below.refl w3.heap.size w3).alloc (Nat.le_refl _) (.cells #[.int .i64 (x:Int),.int .i64 (bit a.start.toNat:Nat),.int .i64 (d:Int)] 62)
        have bQ:=Blk.new w3 62 #[.int .i64 (x:Int),.int .i64 (bit a.start.toNat:Nat),.int .i64 (d:Int)] w3.heap.size rfl
        have hb6:=below_trans hb5 hbQ
        go_wp2_with fail
        refine (count_any g a y HGO.out HA.out bC bM d x _ M _ (HC.out.keep hb6) (HM.out.keep hb6) hxl HSO.out (by omega)).mono ?_
        rintro e w4 ⟨rfl,hleft⟩
        rw [<- HKD.out]
        have hb7:=below_trans HB.out hb6
        have hb8:=hb7.trans (hleft.below hwM hb7.size)
        have hR4:=(HR.out.keep hb6).only hleft.1 (.inl (by omega))
        have hs5:=hb5.size
        have bQ4:=bQ.only hleft.1 (.inr (by omega))
        have q0:w4.cell? ⟨w3.heap.size,0,none⟩=some (.int .i64 (x:Int)):=bQ4.cell 0
        have q1:w4.cell? ⟨w3.heap.size,1,none⟩=some (.int .i64 (bit a.start.toNat:Nat)):=bQ4.cell 1
        have q2:w4.cell? ⟨w3.heap.size,2,none⟩=some (.int .i64 (d:Int)):=bQ4.cell 2
        have lQ:=bQ4.lt
        have hs4:w3.heap.size<=w4.heap.size:=by omega
        obtain ⟨hon4,M4,hm4,-⟩:=hleft
        have HCT4:=Hd_ ((HC.out.keep hb6).only hon4)
        have HM4:=Hd_ hm4
        have HR4:=Hd_ hR4
        have HB8:=Hd_ hb8
        clear hb5 hbQ hb6 hR4 bQ bQ4 hm4 hon4 hb7 hb8
        by_cases hpk:m1 < CC
        · have hpk1:(m1:Int) < (CC:Int):=by omega
          have HF:=Hd_ (HPK.out d m1 (HPH.out hpk))
          have HNN:=Hd_ (show m1 < cw g a y d x (bit a.start.toNat) by rw [<- HKD.out];exact hpk)
          go_wp2_with fail
          refine (nth_any g a y HGO.out HA.out bC bM d x _ m1 M4 w4 HCT4.out HM4.out hxl HSO.out (by omega) HNN.out).mono ?_
          rintro e w5 ⟨v5,rfl,ho5,hon5,M5,hm5⟩
          have hb9:=HB8.out.trans (hon5.below hwM HB8.out.size)
          have hR5:=HR4.out.only hon5 (.inl (by omega))
          have bR:=hR5
          have r0:w5.cell? ⟨w.heap.size+1+1,0,none⟩=some (.int .i64 0):=bR.cell 0
          have r1:w5.cell? ⟨w.heap.size+1+1,1,none⟩=some (.slice none 0 0):=bR.cell 1
          have fr0:=bR.frozen 0
          have fr1:=bR.frozen 1
          have lr:=bR.lt
          clear bR
          obtain ⟨A9,n9,c9,rfl⟩:=ho5.shape
          have hsz4:=HB8.out.size
          have lr4:=HR4.out.lt
          have hon3:=((Only.refl (w.heap.size+1+1) (w.heap.size+1+1+1) w5).setCell (p:=⟨w.heap.size+1+1,0,none⟩) (.inl ⟨Nat.le_refl _,Nat.lt_succ_self _⟩) (.int .i64 (x:Int))).setCell (p:=⟨w.heap.size+1+1,1,none⟩) (.inl ⟨Nat.le_refl _,Nat.lt_succ_self _⟩) (.slice A9 n9 c9)
          have HO5:=Hd_ ((ho5.only hon3 (.inr (by omega))).mono (show w.heap.size<=w4.heap.size by omega) hon3.size)
          have HB5:=Hd_ (hb9.trans (hon3.below (show w.heap.size<=w.heap.size+1+1 by omega) hb9.size))
          clear ho5 hon5 hm5 hR5 hon3 q0 q1 q2
          go_wp2_with fail
          refine bodyPost_ret (v:=.tuple #[.agg #[.int .i64 (x:Int),.slice A9 n9 c9],.bool true]) (by simp [results,Tryz.results9,go_sem,r0,r1]) rfl ⟨_,by rw [HF.out],?_,HB5.out⟩
          rw [HF.out]
          exact ⟨_,rfl,HO5.out⟩
        · have hpk1:¬ (m1:Int) < (CC:Int):=by omega
          have hsub:IntKind.i64.wrap ((m1:Int) - (CC:Int))=((m1 - CC:Nat):Int):=by rw [IntWalk.i64_in _ (by omega)];omega
          have hsub2:(m1:Int) - (CC:Int)=((m1 - CC:Nat):Int):=by omega
          have HNP:=Hd_ (HN2.out hpk)
          clear HPH HN2
          go_wp2_with fail
          clear hsub
          go_roundw
          case rel=>exact ⟨d+1,M4,by omega,by first | (rw [HLS.out,hsub2];done) | (rw [HLS.out];done) | (rw [HLS.out];rw [hsub2]) | (rw [HLS.out];rfl),by go_num,HNP.out,HCT4.out,HM4.out,HR4.out,HB8.out,by omega⟩
          case measure=>simp [intOf];omega
      · obtain rfl:d=61:=by omega
        have HF:=Hd_ (HNO.out (pick_end (by rw [range61_len];exact hno)))
        have bR:=hbr
        have r0:wr.cell? ⟨w.heap.size+1+1,0,none⟩=some (.int .i64 0):=bR.cell 0
        have r1:wr.cell? ⟨w.heap.size+1+1,1,none⟩=some (.slice none 0 0):=bR.cell 1
        have fr0:=bR.frozen 0
        have fr1:=bR.frozen 1
        have lr:=bR.lt
        have HB:=Hd_ hbl
        clear bR hno hct hme hbr hbl
        go_wp2_with fail
        refine bodyPost_ret (v:=.tuple #[.agg #[.int .i64 0,.slice none 0 0],.bool false]) (by simp [results,Tryz.results9,go_sem,r0,r1]) rfl ⟨_,by rw [HF.out],?_,(HB.out.setCell (p:=⟨w.heap.size+1+1,0,none⟩) (by simp only;omega) _).setCell (p:=⟨w.heap.size+1+1,1,none⟩) (by simp only;omega) _⟩
        rw [HF.out]
        exact ⟨_,rfl,Own.nil _ _ _ _ _ _⟩
end Go.Proofs.YtcnenpjaoalmeaaGreat
namespace Go.Proofs.YtcnenpjaoalmeaaGreat
open Go.ChangeShapes Go.WideShapes Go.ChangeAt Go.RowKit
attribute [local go_sem] ext_cell ext_frozen ext_lt ext_lt1 ext_lt2 ext_lt3 ltn2 ltn3 ltn13 lts1 lts2 lts3
theorem RowR.pickF {g:Gr} {a:Au} {y:Int} {f x s:Nat} {N:List Key} {C:Nat->Nat} (hC:∀ i k,N[i]?=some k->C i=cw g a y f k.1 k.2) {l:List Arc} {T:List (St × Nat)} (h:RowR g a x s N l T) :
 ∀ n,(Go.Proofs.YtcnenpjaoalmeaaGreat.pick (fun e:St × Nat=>C e.2) T n=none/\Go.Proofs.YtcnenpjaoalmeaaGreat.pick (cwAt g a y f x s) l n=none) ∨
   ∃ p i n',Go.Proofs.YtcnenpjaoalmeaaGreat.pick (fun e:St × Nat=>C e.2) T n=some ((p.1,i),n')/\Go.Proofs.YtcnenpjaoalmeaaGreat.pick (cwAt g a y f x s) l n=some (p,n')/\N[i]?=some (p.2.2.toNat,aft a s (valAt g x) p.2.1.toNat)/\p ∈ l:=by
 induction h with
 | nil=>intro n;exact .inl ⟨rfl,rfl⟩
 | @skip p0 l0 T0 h1 _ ih =>
   intro n
   have hz:¬ n < cwAt g a y f x s p0:=by rw [cwAt,h1,cw_none];omega
   have hz2:n - cwAt g a y f x s p0=n:=by rw [cwAt,h1,cw_none];omega
   rcases ih n with ⟨e1,e2⟩ | ⟨p,i,n',e1,e2,e3,e4⟩
   · exact .inl ⟨e1,by rw [Go.Proofs.YtcnenpjaoalmeaaGreat.pick,if_neg hz,hz2,e2]⟩
   · exact .inr ⟨p,i,n',e1,by rw [Go.Proofs.YtcnenpjaoalmeaaGreat.pick,if_neg hz,hz2,e2],e3,List.mem_cons_of_mem _ e4⟩
 | @take p l T i h1 h2 _ ih =>
   intro n
   have hc:C i=cwAt g a y f x s p:=hC _ _ h2
   by_cases hn:n < cwAt g a y f x s p
   · exact .inr ⟨p,i,n,by rw [Go.Proofs.YtcnenpjaoalmeaaGreat.pick,if_pos (by rw [hc];exact hn)],by rw [Go.Proofs.YtcnenpjaoalmeaaGreat.pick,if_pos hn],h2,List.mem_cons_self ..⟩
   · rcases ih (n - cwAt g a y f x s p) with ⟨e1,e2⟩ | ⟨p',i',n',e1,e2,e3,e4⟩
     · exact .inl ⟨by rw [Go.Proofs.YtcnenpjaoalmeaaGreat.pick,if_neg (by rw [hc];exact hn)];simp only [hc];exact e1,by rw [Go.Proofs.YtcnenpjaoalmeaaGreat.pick,if_neg hn,e2]⟩
     · exact .inr ⟨p',i',n',by rw [Go.Proofs.YtcnenpjaoalmeaaGreat.pick,if_neg (by rw [hc];exact hn)];simp only [hc];exact e1,by rw [Go.Proofs.YtcnenpjaoalmeaaGreat.pick,if_neg hn,e2],e3,List.mem_cons_of_mem _ e4⟩
theorem LaysV.rows {g:Gr} {a:Au} {y:Int} {k0:Key} {n lo:Nat} {w:World} {v:Value} (h:LaysV g a y k0 n lo w v):∃ (b o c:Nat),v=.slice (some ⟨b,o,none⟩) (n+1) c/\b < w.heap.size/\∀ d,d<=n->∃ (gd cd:Nat) (zs:List Zr),w.cell? ⟨b,o+d,none⟩=some (.slice (some ⟨gd,0,none⟩) (layN g a k0 d).length cd)/\LayV lo w.heap.size w gd cd (layN g a k0 d) (layC g a y k0 n d) (layTn g a k0 n d) zs:=by
 obtain ⟨A,c,rfl,-,-,h⟩:=h
 obtain ⟨b,o,gd,cd,zs,rfl,hb,-,-⟩:=h 0 (Nat.zero_le _)
 refine ⟨b,o,c,rfl,hb,fun d hd=>?_⟩
 obtain ⟨b',o',gd',cd',zs',he,-,hc',hl'⟩:=h d hd
 injection he with he
 injection he with e1 e2
 subst e1 e2
 exact ⟨gd',cd',zs',hc',hl'⟩
/-- the row of a key: what is picked there, and what follows -/
theorem nthRow {g:Gr} {a:Au} {y:Int} {k0:Key} {n d i m:Nat} {k:Key} (hk:(layN g a k0 d)[i]?=some k) (hd:d < n) (hm:m < cw g a y (n - d) k.1 k.2) :
 ∃ st i2 m2 k2,pick (fun e:St × Nat=>layC g a y k0 n (d+1) e.2) (layT g a k0 d i) m=some ((st,i2),m2)/\(layN g a k0 (d+1))[i2]?=some k2/\m2 < cw g a y (n - (d+1)) k2.1 k2.2/\nthL g a y (n - d) k.1 k.2 m=st :: nthL g a y (n - (d+1)) k2.1 k2.2 m2:=by
 obtain ⟨f,hf⟩:∃ f,n - d=f+1:=⟨n - d - 1,by omega⟩
 have hf2:n - (d+1)=f:=by omega
 rw [hf] at hm ⊢
 rw [hf2]
 obtain ⟨p,m2,e1,e2,e3⟩:=pick_cw hm
 rcases (layT_row hk).pickF (C:=layC g a y k0 n (d+1)) (y:=y) (f:=f) (fun j q hq=>by rw [layC_at hq,hf2]) m with ⟨h1,h2⟩ | ⟨p',i2,m',h1,h2,h3,h4⟩
 · rw [e1] at h2;cases h2
 · rw [e1] at h2
   injection h2 with h2
   injection h2 with h2 h5
   subst h2 h5
   exact ⟨p.1,i2,m2,_,h1,h3,e2,nthL_succ e1⟩
set_option maxHeartbeats 8000000 in
set_option maxRecDepth 100000 in
theorem l19Nth_any (g:Gr) (a:Au) (y:Int) (k0:Key) (n lo:Nat) (v:Value) (x m:Int) (w:World) (hl:LaysV g a y k0 n lo w v) (hgo:grOk g=true) (ha:auOk a=true) (hk0:k0.1 < g.vals.length/\k0.2 < 2 ^ a.accept.length) (hn:n<=60) :
 Calls Tryz.prog 44 #[v,.int .i64 x,.int .i64 m] w fun e w'=>∃ v',e=.returned (.tuple #[v',.bool (wi m 0 ((cw g a y n k0.1 k0.2:Nat) - 1))])/\WkO w.heap.size w'.heap.size w' v' (if wi m 0 ((cw g a y n k0.1 k0.2:Nat) - 1)=true then (x,nthL g a y n k0.1 k0.2 m.toNat) else (0,[]))/\Below w.heap.size w w':=by
 obtain ⟨bL,oL,cL,rfl,lb,hrows⟩:=hl.rows
 have HLO:=Hd_ (fun d=>(layN_ok (grOk_iff.1 hgo) ha hk0 d).len (grOk_iff.1 hgo) ha)
 obtain ⟨g0,cd0,zs0,r0,hl0⟩:=hrows 0 (Nat.zero_le _)
 obtain ⟨z,-,-,-,-,-,-,-,r2,-,-⟩:=hl0.get (i:=0) (k:=k0) rfl
 rw [layC_at (i:=0) (k:=k0) rfl,Nat.sub_zero] at r2
 have lg:=hl0.lt
 replace r0:w.cell? ⟨bL,oL,none⟩=some (.slice (some ⟨g0,0,none⟩) 1 cd0):=by simpa [layN] using r0
 replace r2:w.cell? ⟨g0,2,none⟩=some (.int .i64 (cw g a y n k0.1 k0.2:Nat)):=by simpa using r2
 obtain ⟨C,hC⟩:∃ C,C=cw g a y n k0.1 k0.2:=⟨_,rfl⟩
 have hcle:C<=1000000:=by rw [hC];exact cw_le ..
 rw [<- hC] at r2 ⊢
 have HC:=Hd_ hC
 have HROWS:=Hd_ hrows
 have HIN:=Hd_ (fun W=>l1In_any m 0 ((C:Int) - 1) W)
 have hb0:Below w.heap.size w (w.alloc (.cells #[.int .i64 0,.slice none 0 0] 36)):=(Below.refl _ _).alloc (Nat.le_refl _) _
 have hbR:=Blk.new w 36 #[.int .i64 0,.slice none 0 0] w.heap.size rfl
 have HB0:=Hd_ hb0
 have HBR:=Hd_ hbR
 have hn1:(0:Int) < (n:Int)+1:=by omega
 obtain ⟨B,hB⟩:∃ B,B=wi m 0 ((C:Int) - 1):=⟨_,rfl⟩
 obtain ⟨RR,hRR⟩:∃ RR:Wk,RR=if B=true then (x,nthL g a y n k0.1 k0.2 m.toNat) else (0,[]):=⟨_,rfl⟩
 rw [<- hB] at HIN ⊢
 rw [<- hRR]
 have HGO:=Hd_ hgo
 clear hl hl0 hrows hgo ha hk0 hC hb0 hbR
 cases B with
 | false =>
   have HF:=Hd_ (show RR=(0,[]) from hRR)
   clear hRR hB
   have qc:IntKind.i64.wrap ((C:Int) - 1)=(C:Int) - 1:=IntWalk.i64_in _ (by omega)
   go_enter Tryz.func44,Tryz.ntmps44
   go_wp2_with fail
   clear qc
   refine (HIN.out _).mono ?_
   rintro e w9 ⟨rfl,hw9⟩
   rw [hw9]
   clear hw9
   have bR:=HBR.out
   have q0:=bR.cell 0
   have q1:=bR.cell 1
   have fr0:=bR.frozen 0
   have fr1:=bR.frozen 1
   have lr:=bR.lt
   clear bR
   go_wp2_with fail
   refine bodyPost_ret (v:=.tuple #[.agg #[.int .i64 0,.slice none 0 0],.bool false]) (by simp [results,Tryz.results44,go_sem,q0,q1]) rfl ⟨_,rfl,?_,HB0.out⟩
   rw [HF.out]
   exact ⟨_,rfl,Own.nil _ _ _ _ _ _⟩
 | true =>
   have hwi:=wi_iff.1 hB.symm
   obtain ⟨m,rfl⟩:=Int.eq_ofNat_of_zero_le hwi.1
   have hm:m < C:=by omega
   obtain ⟨SS,hSS⟩:∃ SS,SS=nthL g a y n k0.1 k0.2 m:=⟨_,rfl⟩
   have HF:=Hd_ (show RR=(x,SS) from by rw [hRR,if_pos rfl,hSS,Int.toNat_natCast])
   have HSS:=Hd_ hSS
   have HM:=Hd_ (show m < cw g a y n k0.1 k0.2 by rw [<- HC.out];exact hm)
   clear hRR hB hSS hwi
   have qc:IntKind.i64.wrap ((C:Int) - 1)=(C:Int) - 1:=IntWalk.i64_in _ (by omega)
   go_enter Tryz.func44,Tryz.ntmps44
   go_wp2_with fail
   clear qc
   refine (HIN.out _).mono ?_
   rintro e w9 ⟨rfl,hw9⟩
   rw [hw9]
   clear hw9
   go_wp2_with fail
   clear r0 r2
   have HB1:=Hd_ (HB0.out.alloc (by simp) (.cells #[.int .i64 x,.slice none 0 0] 36))
   have HBR1:=Hd_ (HBR.out.alloc (.cells #[.int .i64 x,.slice none 0 0] 36))
   have HBW1:=Hd_ (Blk.new (w.alloc (.cells #[.int .i64 0,.slice none 0 0] 36)) 36 #[.int .i64 x,.slice none 0 0] (w.heap.size+1) (by simp))
   go_wp2_with fail
   go_loopw [2,9,10] (fun nn aa dd wr=>∃ (d i n':Nat) (k:Key) (O:List St) (oo:Value),nn=.int .i64 (n':Int)/\aa=.int .i64 (i:Int)/\dd=.int .i64 (d:Int)/\d<=n/\(layN g a k0 d)[i]?=some k/\n' < cw g a y (n - d) k.1 k.2/\O ++ nthL g a y (n - d) k.1 k.2 n'=SS/\O.length=d /\
    Blk wr w.heap.size 36 #[.int .i64 0,.slice none 0 0]/\Blk wr (w.heap.size+1) 36 #[.int .i64 x,oo]/\wr.ownsRow (w.heap.size+1+1) 74 2 oo O.length (O.flatMap cSt)/\Below w.heap.size w wr) (fun _ _ dd _=>n - (intOf dd).toNat)
   case atStart=>exact ⟨0,0,m,k0,[],_,rfl,rfl,rfl,Nat.zero_le _,rfl,HM.out,HSS.out.symm,rfl,HBR1.out,HBW1.out,World.ownsRow_nil _ _ _ _,HB1.out⟩
   case round =>
    clear HB0 HBR HB1 HBR1 HBW1
    obtain ⟨d,i,n',k,O,oo,rfl,rfl,rfl,hd,hk,hn',hO,hOl,hbr,hbw,hrow,hbel⟩:=hrel
    have lw0:=hbr.lt
    have lw1:=hbw.lt
    have hszw:=hbel.size
    by_cases hdn:d < n
    · obtain ⟨st,i2,n2,k2,hp,hk2,hn2,hO2⟩:=nthRow hk hdn hn'
      obtain ⟨gd,cd,zs,h0,hld⟩:=HROWS.out d hd
      obtain ⟨gd1,cd1,zs1,h1,hl1⟩:=HROWS.out (d+1) hdn
      obtain ⟨z,hz,hz1,hz2,hz3,hz4,d0,d1,d2,d3,d4⟩:=hld.get hk
      rw [layTn_lt hdn] at hz4
      have hTin:=(layT_row hk).to_lt
      have hTl:=Nat.le_trans (layT_row hk).len (arcs_len (grOk_iff.1 HGO.out) _)
      obtain ⟨F,hF⟩:∃ F:Nat->Nat,F=layC g a y k0 n (d+1):=⟨_,rfl⟩
      obtain ⟨TT,hTT⟩:∃ TT,TT=layT g a k0 d i:=⟨_,rfl⟩
      rw [<- hF] at hp hl1
      rw [<- hTT] at hp hz4 hTin hTl
      have hFle:∀ j,F j<=1000000:=fun j=>by rw [hF];exact layC_le ..
      have hn'l:n'<=1000000:=by have:=cw_le g a y (n - d) k.1 k.2;omega
      have hosv:=hz4.1
      have hotv:=hz4.2
      have hil:=(List.getElem?_eq_some_iff.1 hk).1
      have hl20:=HLO.out d
      have hl21:=HLO.out (d+1)
      obtain ⟨L0,hL0⟩:∃ L0,L0=(layN g a k0 d).length:=⟨_,rfl⟩
      obtain ⟨L1,hL1⟩:∃ L1,L1=(layN g a k0 (d+1)).length:=⟨_,rfl⟩
      rw [<- hL0] at h0 hil hl20
      rw [<- hL1] at h1 hTin hl21
      have HL1:=Hd_ hl1
      have HL1E:=Hd_ hL1
      have HO2:=Hd_ (show (O ++ [st]) ++ nthL g a y (n - (d+1)) k2.1 k2.2 n2=SS by rw [<- hO,hO2,List.append_assoc];rfl)
      have HK2:=Hd_ hk2
      have HN2:=Hd_ hn2
      have HP:=Hd_ hp
      have HTIN:=Hd_ hTin
      have HFLE:=Hd_ hFle
      clear hz hz1 hz2 hz3 hz4 hl1 hL0 hL1 hF hTT hp hk2 hn2 hO2 hTin hFle hk hO hn'
      obtain ⟨z0,z1,z2,sv,tv⟩:=z
      simp only at d3 d4 hosv hotv
      obtain ⟨As,cs,rfl,hls,hms,hCs⟩:=hosv.form cSt_len
      obtain ⟨At,ct,rfl,hlt1,hmt,hCt⟩:=hotv.form cN_len
      rw [List.length_map] at hls hosv hlt1 hotv d3 d4
      have HCS:=Hd_ hCs
      have HCT:=Hd_ hCt
      have hgd:=hld.lt
      have h0:=kcell hbel h0
      have d0:=kcell hbel d0
      have d1:=kcell hbel d1
      have d2:=kcell hbel d2
      have d3:=kcell hbel d3
      have d4:=kcell hbel d4
      have HH1:=Hd_ h1
      clear hCs hCt hosv hotv hld h1
      have hd1:(d:Int) < (n:Int)+1:=by omega
      have hdn2:(d:Int) < (n:Int):=by omega
      have hii:(i:Int) < (L0:Int):=by omega
      obtain ⟨wo,hwo⟩:∃ wo:World,wo=wr:=⟨_,rfl⟩
      rw [<- hwo] at hbr hbw hrow hbel lw0 lw1 hszw h0 d0 d1 d2 d3 d4 ⊢
      clear hwo
      have HBR:=Hd_ hbr
      have HBW:=Hd_ hbw
      have HROW:=Hd_ hrow
      have HBEL:=Hd_ hbel
      clear hbr hbw hrow hbel
      go_wp2_with fail
      obtain ⟨wz,hwz⟩:∃ wz,wz=wo.alloc (.cells #[.int .i64 (k.1:Int),.int .i64 (k.2:Int),.int .i64 (layC g a y k0 n d i:Int),.slice As TT.length cs,.slice At TT.length ct] 69):=⟨_,rfl⟩
      have hbz:Blk wz wo.heap.size 69 #[.int .i64 (k.1:Int),.int .i64 (k.2:Int),.int .i64 (layC g a y k0 n d i:Int),.slice As TT.length cs,.slice At TT.length ct]:=by rw [hwz];exact Blk.new _ _ _ _ rfl
      have hbY:Below wo.heap.size wo wz:=by rw [hwz];exact (Below.refl _ _).alloc (Nat.le_refl _) _
      rw [<- hwz]
      have hrl:=HROW.out.lt
      have HRL:=Hd_ hrl
      have HBZ:=Hd_ hbz
      have HBY:=Hd_ hbY
      have hszz:=hbz.lt
      clear hwz hbz hbY hrl h0 d0 d1 d2 d3 d4
      go_loopw [2,9,12,13] (fun nn aa bb kk wi=>∃ (j m1 a1:Nat) (b:Bool) (O1:List St) (o1:Value),nn=.int .i64 (m1:Int)/\aa=.int .i64 (a1:Int)/\bb=.bool b/\kk=.int .i64 (j:Int)/\j<=TT.length /\
       Blk wi wo.heap.size 69 #[.int .i64 (k.1:Int),.int .i64 (k.2:Int),.int .i64 (layC g a y k0 n d i:Int),.slice As TT.length cs,.slice At TT.length ct]/\Blk wi w.heap.size 36 #[.int .i64 0,.slice none 0 0]/\Blk wi (w.heap.size+1) 36 #[.int .i64 x,o1]/\wi.ownsRow (w.heap.size+1+1) 74 2 o1 O1.length (O1.flatMap cSt)/\Below w.heap.size w wi /\
       (b=false->O1=O/\a1=i/\o1=oo/\m1=leftN (fun e:St × Nat=>F e.2) (TT.take j) n'/\∀ r q,r < j->TT[r]?=some q->¬ leftN (fun e:St × Nat=>F e.2) (TT.take r) n' < F q.2) /\
       (b=true->m1=n2/\a1=i2/\O1=O ++ [st])) (fun _ _ _ kk _=>TT.length - (intOf kk).toNat)
      case atStart=>exact ⟨0,n',i,false,O,oo,rfl,rfl,rfl,rfl,Nat.zero_le _,HBZ.out,HBR.out.keep HBY.out,HBW.out.keep HBY.out,ownsRow_block HROW.out (fun b hb=>HBY.out.block b (HRL.out b hb).2),HBEL.out.trans (HBY.out.mono hszw),fun _=>⟨rfl,rfl,rfl,rfl,fun r q hr=>by omega⟩,fun h=>by cases h⟩
      case round =>
       clear HBR HBW HBZ HBY HBEL HROW
       obtain ⟨j,m1,a1,b,O1,o1,rfl,rfl,rfl,rfl,hj,hbz,hbr,hbw,hrow,hbel,hno,hyes⟩:=hrel
       have c4:wr.cell? ⟨wo.heap.size,4,none⟩=some (.slice At TT.length ct):=hbz.cell 4
       have HBZ:=Hd_ hbz
       have HBR:=Hd_ hbr
       have HBW:=Hd_ hbw
       have HROW:=Hd_ hrow
       have HBEL:=Hd_ hbel
       cases b with
       | true =>
         obtain ⟨rfl,rfl,rfl⟩:=hyes rfl
         clear hno hyes hbz hbr hbw hrow hbel
         by_cases hlj:j < TT.length
         · have hjj:(j:Int) < (TT.length:Int):=by omega
           go_wp2_with fail
           go_roundw
           case rel=>exact ⟨d+1,a1,m1,k2,O ++ [st],o1,rfl,rfl,by go_num,by omega,HK2.out,HN2.out,HO2.out,by simp;omega,HBR.out,HBW.out,HROW.out,HBEL.out⟩
           case measure=>simp [intOf];omega
         · have hjj:¬ (j:Int) < (TT.length:Int):=by omega
           go_wp2_with fail
           go_roundw
           case rel=>exact ⟨d+1,a1,m1,k2,O ++ [st],o1,rfl,rfl,by go_num,by omega,HK2.out,HN2.out,HO2.out,by simp;omega,HBR.out,HBW.out,HROW.out,HBEL.out⟩
           case measure=>simp [intOf];omega
       | false =>
         have hno2:=hno rfl
         clear hno
         obtain ⟨rfl,rfl,rfl,rfl,hno⟩:=hno2
         by_cases hlj:j < TT.length
         · have hej:TT[j]?=some TT[j]:=List.getElem?_eq_getElem hlj
           have hin:=HTIN.out _ (List.getElem_mem hlj)
           generalize TT[j]=e at hej hin
           obtain ⟨⟨sid,sinv⟩,e2⟩:=e
           simp only at hin
           obtain ⟨b8,o8,rfl,hb8,t0⟩:=HCT.out.nat (i:=j) (x:=e2) (by rw [List.getElem?_map,hej];rfl)
           obtain ⟨b9,o9,rfl,hb9,s0,s1⟩:=HCS.out.st (i:=j) (e:=(sid,sinv)) (by rw [List.getElem?_map,hej];rfl)
           have hk1:(layN g a k0 (d+1))[e2]?=some (layN g a k0 (d+1))[e2]:=List.getElem?_eq_getElem (by rw [<- HL1E.out];exact hin)
           obtain ⟨zq,-,-,-,-,-,-,-,r2,-,-⟩:=HL1.out.get hk1
           have t0:=kcell hbel t0
           have s0:=kcell hbel s0
           have s1:=kcell hbel s1
           have r2:=kcell hbel r2
           have h1:=kcell hbel HH1.out
           have hC1:=HFLE.out e2
           have HPH:=Hd_ (fun h=>(HP.out.symm.trans (pick_here (k:=fun e:St × Nat=>F e.2) hej hno h)))
           have HLS:=Hd_ (leftN_succ (k:=fun e:St × Nat=>F e.2) (n:=n') hej)
           have hll:=leftN_le (fun e:St × Nat=>F e.2) (TT.take j) n'
           have HNO:=Hd_ (fun (h:¬ leftN (fun e:St × Nat=>F e.2) (TT.take j) n' < F e2) r q (hr:r < j+1) (hq:TT[r]?=some q)=>show ¬ leftN (fun e:St × Nat=>F e.2) (TT.take r) n' < F q.2 from by
            rcases Nat.lt_or_ge r j with h1 | h1
            · exact hno r q h1 hq
            · obtain rfl:r=j:=by omega
              rw [hej] at hq
              injection hq with hq
              rw [<- hq];exact h)
           obtain ⟨D1,hD1⟩:∃ D1,D1=d+1:=⟨_,rfl⟩
           rw [<- hD1] at h1
           have hq1:(D1:Int) < (n:Int)+1:=by omega
           have hqz:(d:Int)+1=(D1:Int):=by omega
           have hjj:(j:Int) < (TT.length:Int):=by omega
           have hee:(e2:Int) < (L1:Int):=by omega
           obtain ⟨M1,hM1⟩:∃ M1,M1=leftN (fun e:St × Nat=>F e.2) (TT.take j) n':=⟨_,rfl⟩
           rw [<- hM1] at HPH HLS HNO hll ⊢
           have HM1:=Hd_ hM1
           obtain ⟨C1,hC1e⟩:∃ C1,C1=F e2:=⟨_,rfl⟩
           have HC1:=Hd_ hC1e
           rw [<- hC1e] at r2 hC1 HNO
           have HLS2:=Hd_ (show leftN (fun e:St × Nat=>F e.2) (TT.take (j+1)) n'=M1 - C1 by rw [HLS.out,hC1e])
           have HPH2:=Hd_ (fun (h:M1 < C1)=>HPH.out (by show M1 < F e2;rw [<- hC1e];exact h))
           clear hno hej hk1 hyes hM1 hC1e HLS HPH
           obtain ⟨wq,hwq⟩:∃ wq:World,wq=wr:=⟨_,rfl⟩
           rw [<- hwq] at HBZ HBR HBW HROW HBEL hbz hbr hbw hrow hbel c4 t0 s0 s1 r2 h1 ⊢
           clear hwq
           have lq1:bL < wq.heap.size:=World.block_lt_of_cell? _ _ h1
           have lq2:wo.heap.size < wq.heap.size:=World.block_lt_of_cell? _ _ c4
           have lq3:b8 < wq.heap.size:=World.block_lt_of_cell? _ _ t0
           have lq4:gd1 < wq.heap.size:=World.block_lt_of_cell? _ _ r2
           have qw:IntKind.i64.wrap ((d:Int)+1)=(D1:Int):=by rw [IntWalk.i64_in _ (by omega),hqz]
           clear hD1 hqz
           go_upto_region 13 with fail
           refine wp_region_ext_lit (by kernel_rfl) (by kernel_rfl) ?_
           repeat (go_big_quiet_step (fail))
           refine wpQuiet_nil ?_
           rintro _ ⟨u2,rfl⟩
           clear qw
           have hbU:=ext_below wq u2
           by_cases hpk:M1 < C1
           · have hpki:(M1:Int) < (C1:Int):=by omega
             have hpe:=HPH2.out hpk
             injection hpe with hpe
             injection hpe with hp1 hp2
             injection hp1 with hp3 hp4
             obtain ⟨A9,n9,c9,ho1⟩:=(Own.of_row (xs:=O1) hrow rfl rfl).shape
             subst ho1
             have hrl:∀ b,(Value.slice A9 n9 c9).ownBlock=some b->w.heap.size+1+1<=b/\b < wo.heap.size:=HRL.out
             have v1:wq.cell? ⟨w.heap.size+1,1,none⟩=some (.slice A9 n9 c9):=hbw.cell 1
             have c3:wq.cell? ⟨wo.heap.size,3,none⟩=some (.slice (some ⟨b9,o9,none⟩) TT.length cs):=hbz.cell 3
             obtain ⟨wx,hwx⟩:∃ wx,wx=ext wq u2:=⟨_,rfl⟩
             rw [<- hwx] at hbU ⊢
             have v1:=kcell hbU v1
             have c3:=kcell hbU c3
             have c4:=kcell hbU c4
             have t0:=kcell hbU t0
             have s0:=kcell hbU s0
             have s1:=kcell hbU s1
             have HBZ:=Hd_ (hbz.keep hbU)
             have HBR:=Hd_ (hbr.keep hbU)
             have HBW:=Hd_ (hbw.keep hbU)
             have HROW:=Hd_ (ownsRow_block hrow (fun b hb=>hbU.block b (hrow.lt b hb).2))
             have HBEL:=Hd_ (below_trans hbel hbU)
             have HT0:=Hd_ t0
             have HR2:=Hd_ hrl
             have hsx:=hbU.size
             have hOl60:O1.length<=60:=by omega
             clear hwx hbz hbr hbw hrow hbel hbU t0 r2 h1 c4 hrl hOl
             go_upto_region 15 with fail
             refine F_start 10 (fun w'=>w'.cell? ⟨w.heap.size+1,1,none⟩=some (.slice A9 n9 c9)/\w'.cell? ⟨wo.heap.size,3,none⟩=some (.slice (some ⟨b9,o9,none⟩) TT.length cs)/\w'.cell? ⟨b9,o9+j * 2,none⟩=some (.int .i64 sid)/\w'.cell? ⟨b9,o9+j * 2+1,none⟩=some (.bool sinv)) (by kernel_rfl) (by exact ⟨v1,c3,s0,s1⟩) (fun hS inv=>?_)
             refine F_tk 0 inv ?_
             try simp only [tA,tB,tC,Act.put,tE,tF,tG]
             clear inv;intro inv
             refine F_tk 1 inv ?_
             try simp only [tA,tB,tC,Act.put,tE,tF,tG]
             clear inv;intro inv
             refine F_tk 2 inv ?_
             try simp only [tA,tB,tC,Act.put,tE,tF,tG]
             clear inv;intro inv
             refine F_tk 3 inv ?_
             try simp only [tA,tB,tC,Act.put,tE,tF,tG]
             clear inv;intro inv
             refine F_tk 4 inv ?_
             try simp only [tA,tB,tC,Act.put,tE,tF,tG]
             clear inv;intro inv
             refine F_tk 5 inv ?_
             try simp only [tA,tB,tC,Act.put,tE,tF,tG]
             clear inv;intro inv
             refine F_tk 6 inv ?_
             try simp only [tA,tB,tC,Act.put,tE,tF,tG]
             clear inv;intro inv
             refine F_o1 7 inv ?_;intro K hK
             try simp only [tA,tB,tC]
             go_simp
             refine hK.out _ _ (kA4 _ hS) (fun _ _=>?_)
             try simp only [tA,tB,tC,Act.put,tE,tF,tG]
             clear hK K inv hS;rename_i hS inv
             refine F_o1 8 inv ?_;intro K hK
             try simp only [tA,tB,tC]
             refine op_append1 cSt elStL rfl _ _ (by rfl) (w.heap.size+1+1) (.slice A9 n9 c9) O1 (sid,sinv) 1 _ (by rfl) (show ((wx.alloc (.cells #[.int .i64 sid,.bool sinv] 74)).drew).ownsRow (w.heap.size+1+1) 74 2 (.slice A9 n9 c9) O1.length (O1.flatMap cSt) from HROW.out.alloc _) (by first | rfl | simp) (heap_alloc_new _ _) rfl (cSt_one _) (by omega) (by omega) (by simp;omega) ?_
             intro g2 cp2 w3 hown3 hgr3 hat3 hlt3
             have hrl:=HR2.out
             have g3:∀ b,b < wx.heap.size->(Value.slice A9 n9 c9).ownBlock ≠ some b->w3.heap[b]?=wx.heap[b]?:=fun b hb hn=>(hgr3.block b (by simp;omega) (fun e=>hn e.symm)).trans (Below.heap_alloc wx _ b hb)
             have hs3:wx.heap.size < w3.heap.size:=by have:=hgr3.size;simp at this;omega
             have nz:(Value.slice A9 n9 c9).ownBlock ≠ some wo.heap.size:=fun e=>by have:=hrl _ e;omega
             have nr:(Value.slice A9 n9 c9).ownBlock ≠ some w.heap.size:=fun e=>by have:=hrl _ e;omega
             have nw:(Value.slice A9 n9 c9).ownBlock ≠ some (w.heap.size+1):=fun e=>by have:=hrl _ e;omega
             have n8:(Value.slice A9 n9 c9).ownBlock ≠ some b8:=fun e=>by have:=hrl _ e;omega
             have hbz3:=(g3 wo.heap.size (by omega) nz).trans HBZ.out
             have hbr3:=(g3 w.heap.size (by omega) nr).trans HBR.out
             have hbw3:Blk w3 (w.heap.size+1) 36 #[.int .i64 x,.slice A9 n9 c9]:=(g3 (w.heap.size+1) (by omega) nw).trans HBW.out
             have v1':w3.cell? ⟨w.heap.size+1,1,none⟩=some (.slice A9 n9 c9):=hbw3.cell 1
             have f1':=hbw3.frozen 1
             have l1':=hbw3.lt
             refine hK.out _ _ (⟨hgr3.cell hS.1 (fun e=>by have:=hrl _ e.symm;simp only at this;omega),hgr3.cell hS.2.1 (fun e=>by have:=hrl _ e.symm;simp only at this;omega),hgr3.cell hS.2.2.1 (fun e=>by have:=hrl _ e.symm;simp only at this;omega),hgr3.cell hS.2.2.2 (fun e=>by have:=hrl _ e.symm;simp only at this;omega)⟩) (fun _ _=>?_)
             try simp only [tA,tB,tC,Act.put,tE,tF,tG]
             clear hK K inv hS;rename_i hS inv
             refine F_tk 9 inv ?_
             try simp only [tA,tB,tC,Act.put,tE,tF,tG]
             clear inv;intro inv
             refine F_l1 10 ?_;intro K hK
             go_simp
             refine hK _ _ ?_
             clear hK K inv hS
             obtain ⟨w4,hw4⟩:∃ w4,w4=w3.setCell ⟨w.heap.size+1,1,none⟩ (.slice (some ⟨g2,0,none⟩) (O1.length+1) cp2):=⟨_,rfl⟩
             have hs4w:w3.heap.size=w4.heap.size:=by rw [hw4];simp [World.setCell]
             have g4:∀ b,b < w3.heap.size->b ≠ w.heap.size+1->w4.heap[b]?=w3.heap[b]?:=fun b hb hne=>by rw [hw4];exact Below.heap_setCell w3 ⟨w.heap.size+1,1,none⟩ _ b hne
             have hbz4:Blk w4 wo.heap.size 69 #[.int .i64 (k.1:Int),.int .i64 (k.2:Int),.int .i64 (layC g a y k0 n d a1:Int),.slice (some ⟨b9,o9,none⟩) TT.length cs,.slice (some ⟨b8,o8,none⟩) TT.length ct]:=(g4 _ (by omega) (by omega)).trans hbz3
             have hbr4:Blk w4 w.heap.size 36 #[.int .i64 0,.slice none 0 0]:=(g4 _ (by omega) (by omega)).trans hbr3
             have hbw4:Blk w4 (w.heap.size+1) 36 #[.int .i64 x,.slice (some ⟨g2,0,none⟩) (O1.length+1) cp2]:=by
              have h:=hbw3.set_ 1 (.slice (some ⟨g2,0,none⟩) (O1.length+1) cp2)
              rw [<- hw4] at h
              simpa using h
             have hg2:g2 ≠ w.heap.size+1:=by
              rcases hat3 with h | h
              · have:=hrl g2 h;omega
              · simp at h;omega
             have hrow4:=ownsRow_block (w':=w4) hown3 (fun b hb=>by
              have he:g2=b:=by simpa [Value.ownBlock] using hb
              exact g4 b (by omega) (by rw [<- he];exact hg2))
             have hbl4:Below w.heap.size w w4:=by
              rw [hw4]
              have h1:Below w.heap.size w ((wx.alloc (.cells #[.int .i64 sid,.bool sinv] 74)).drew):=(HBEL.out.alloc (by omega) _).drew
              exact (h1.grown hgr3 (by simp;omega) (fun b hb=>by have:=hrl b hb;omega)).setCell (by simp only;omega) _
             have t4:w4.cell? ⟨b8,o8+j,none⟩=some (.int .i64 (e2:Int)):=(World.cell?_of_block (a:=⟨b8,o8+j,none⟩) ((g4 b8 (by omega) (by omega)).trans (g3 b8 (by omega) n8))).trans HT0.out
             have c4:w4.cell? ⟨wo.heap.size,4,none⟩=some (.slice (some ⟨b8,o8,none⟩) TT.length ct):=hbz4.cell 4
             have HBZ4:=Hd_ hbz4
             have HBR4:=Hd_ hbr4
             have HBW4:=Hd_ hbw4
             have HROW4:=Hd_ hrow4
             have HBL4:=Hd_ hbl4
             have HPS:=Hd_ (And.intro hp2.symm (And.intro hp4.symm hp3))
             rw [<- hw4]
             clear hw4 hbz4 hbr4 hbw4 hrow4 hbl4 g4 g3 hbz3 hbr3 hbw3 v1' f1' l1' hown3 hgr3 hat3 hlt3 hrl nz nr nw n8 hp2 hp4 hp3 v1 c3 s0 s1
             go_wp2_with fail
             go_roundw
             case rel=>exact ⟨j+1,M1,e2,true,O1 ++ [(sid,sinv)],_,rfl,rfl,rfl,by go_num,by omega,HBZ4.out,HBR4.out,HBW4.out,HROW4.out,HBL4.out,(fun h=>by cases h),fun _=>⟨HPS.out.1,HPS.out.2.1,by rw [HPS.out.2.2]⟩⟩
             case measure=>simp [intOf];omega
           · have hpki:¬ (M1:Int) < (C1:Int):=by omega
             have HNO2:=Hd_ (HNO.out hpk)
             have hsub:(M1:Int) - (C1:Int)=((M1 - C1:Nat):Int):=by omega
             have qs:IntKind.i64.wrap ((M1:Int) - (C1:Int))=((M1 - C1:Nat):Int):=by rw [IntWalk.i64_in _ (by omega)];omega
             clear hbz hbr hbw hrow hbel t0 s0 s1 r2 h1 c4
             go_wp2_with fail
             clear qs
             go_roundw
             case rel =>
              exact ⟨j+1,M1 - C1,a1,false,O1,o1,by first | rfl | rw [hsub],rfl,rfl,by go_num,by omega,HBZ.out.keep hbU,HBR.out.keep hbU,HBW.out.keep hbU,ownsRow_block HROW.out (fun b hb=>hbU.block b (HROW.out.lt b hb).2),below_trans HBEL.out hbU,fun _=>⟨rfl,rfl,rfl,HLS2.out.symm,fun r q hr hq=>HNO2.out r q hr hq⟩,fun h=>by cases h⟩
             case measure=>simp [intOf];omega
         · obtain rfl:j=TT.length:=by omega
           have hx:=pick_end (k:=fun e:St × Nat=>F e.2) (n:=n') hno
           rw [HP.out] at hx
           cases hx
    · obtain rfl:d=n:=by omega
      rw [Nat.sub_self] at hO
      have hOe:O=SS:=by rw [<- hO];simp [nthL]
      have hown:=Own.of_row (xs:=O) hrow rfl rfl
      rw [hOe] at hown
      obtain ⟨A9,n9,c9,rfl⟩:=hown.shape
      have HOW:=Hd_ hown
      have w0:wr.cell? ⟨w.heap.size+1,0,none⟩=some (.int .i64 x):=hbw.cell 0
      have w1:wr.cell? ⟨w.heap.size+1,1,none⟩=some (.slice A9 n9 c9):=hbw.cell 1
      have q0:((wr.setCell ⟨w.heap.size,0,none⟩ (.int .i64 x)).setCell ⟨w.heap.size,1,none⟩ (.slice A9 n9 c9)).cell? ⟨w.heap.size,0,none⟩=some (.int .i64 x):=by simpa using ((hbr.set_ 0 (.int .i64 x)).set_ 1 (.slice A9 n9 c9)).cell 0
      have q1:((wr.setCell ⟨w.heap.size,0,none⟩ (.int .i64 x)).setCell ⟨w.heap.size,1,none⟩ (.slice A9 n9 c9)).cell? ⟨w.heap.size,1,none⟩=some (.slice A9 n9 c9):=by simpa using ((hbr.set_ 0 (.int .i64 x)).set_ 1 (.slice A9 n9 c9)).cell 1
      have fr0:=hbr.frozen 0
      have fr1:=hbr.frozen 1
      have q2:(wr.setCell ⟨w.heap.size,0,none⟩ (.int .i64 x)).cell? ⟨w.heap.size,0,none⟩=some (.int .i64 x):=by simpa using (hbr.set_ 0 (.int .i64 x)).cell 0
      have HQ:=Hd_ (And.intro q0 (And.intro q1 q2))
      clear q0 q1 q2
      have q0:wr.cell? ⟨w.heap.size,0,none⟩=some (.int .i64 0):=hbr.cell 0
      have q1:wr.cell? ⟨w.heap.size,1,none⟩=some (.slice none 0 0):=hbr.cell 1
      have HBEL:=Hd_ hbel
      have hbn:∀ b,b ≠ w.heap.size->((wr.setCell ⟨w.heap.size,0,none⟩ (.int .i64 x)).setCell ⟨w.heap.size,1,none⟩ (.slice A9 n9 c9)).heap[b]?=wr.heap[b]?:=fun b hb=>by rw [Below.heap_setCell _ _ _ _ hb,Below.heap_setCell _ _ _ _ hb]
      have HBN:=Hd_ hbn
      have hdd:¬ (d:Int) < (d:Int):=by omega
      clear hO hOe hown hbr hbw hrow hbel hbn hk hn'
      go_wp2_with fail
      have HBS:=Hd_ ((HBEL.out.setCell (p:=⟨w.heap.size,0,none⟩) (by simp only;omega) (.int .i64 x)).setCell (p:=⟨w.heap.size,1,none⟩) (by simp only;omega) (.slice A9 n9 c9))
      obtain ⟨hq0,hq1,hq2⟩:=HQ.out
      have hwes:((wr.setCell ⟨w.heap.size,0,none⟩ (.int .i64 x)).setCell ⟨w.heap.size,1,none⟩ (.slice A9 n9 c9)).heap.size=wr.heap.size:=by simp [World.setCell]
      refine bodyPost_ret (v:=.tuple #[.agg #[.int .i64 x,.slice A9 n9 c9],.bool true]) (by simp [results,Tryz.results44,go_sem,hq0,hq1,hq2]) rfl ⟨_,rfl,?_,HBS.out⟩
      rw [HF.out]
      exact ⟨_,rfl,(HOW.out.blocks (fun b hb=>HBN.out b (by have:=HOW.out.lt b hb;omega))).mono (by omega) (by omega)⟩
theorem range61S {d:Nat} (h:d < 61):(List.range 61)[d]?=some d:=by simp [h]
theorem range61S_len:(List.range 61).length=61:=List.length_range
set_option maxHeartbeats 8000000 in
set_option maxRecDepth 100000 in
theorem specNthWalk (vg va:Value) (g:Gr) (a:Au) (x y n:Int) (w:World) (hgv:GrV 0 w.heap.size w vg g) (hav:AuV 0 w.heap.size w va a) :
 Calls Tryz.prog 10 #[vg,va,.int .i64 x,.int .i64 y,.int .i64 n] w fun e w'=>∃ v',e=.returned (.tuple #[v',.bool (nthWalk g a x y n).2])/\WkO w.heap.size w'.heap.size w' v' (nthWalk g a x y n).1/\Below w.heap.size w w':=by
 have hgv0:=hgv
 have hav0:=hav
 obtain ⟨A1,n1,c1,A2,n2,c2,rfl⟩:=hgv.shape
 obtain ⟨A3,n3,c3,A4,n4,c4,rfl⟩:=hav.shape
 have hb0:Below w.heap.size w (((w.alloc (.cells #[.slice A1 n1 c1,.slice A2 n2 c2] 27)).alloc (.cells #[.int .i64 a.start,.slice A3 n3 c3,.slice A4 n4 c4] 31)).alloc (.cells #[.int .i64 0,.slice none 0 0] 36)):=(((Below.refl _ _).alloc (Nat.le_refl _) _).alloc (by simp) _).alloc (by simp;omega) _
 have hbG:=((Blk.new w 27 #[.slice A1 n1 c1,.slice A2 n2 c2] w.heap.size rfl).alloc (.cells #[.int .i64 a.start,.slice A3 n3 c3,.slice A4 n4 c4] 31)).alloc (.cells #[.int .i64 0,.slice none 0 0] 36)
 have hbA:=(Blk.new (w.alloc (.cells #[.slice A1 n1 c1,.slice A2 n2 c2] 27)) 31 #[.int .i64 a.start,.slice A3 n3 c3,.slice A4 n4 c4] (w.heap.size+1) (by simp)).alloc (.cells #[.int .i64 0,.slice none 0 0] 36)
 have hbR:=Blk.new ((w.alloc (.cells #[.slice A1 n1 c1,.slice A2 n2 c2] 27)).alloc (.cells #[.int .i64 a.start,.slice A3 n3 c3,.slice A4 n4 c4] 31)) 36 #[.int .i64 0,.slice none 0 0] (w.heap.size+1+1) (by simp)
 have HBG:=Hd_ hbG
 have HBA:=Hd_ hbA
 have HBR:=Hd_ hbR
 have HGV:=Hd_ hgv0
 have HAV:=Hd_ hav0
 have HB0:=Hd_ hb0
 have HSL:=Hd_ (fun (W:World) (hW:Below w.heap.size w W)=>specShortestLength _ _ g a x y W (HGV.out.keep hW) (HAV.out.keep hW))
 clear hgv hav hgv0 hav0 hb0 hbG hbA hbR
 obtain ⟨R,hR⟩:∃ R,R=nthWalk g a x y n:=⟨_,rfl⟩
 rw [<- hR]
 by_cases hneg:shortLen g a x y < 0
 · have HF:=Hd_ (show R=((0,[]),false) by rw [hR,nthWalk,if_neg];rw [decide_eq_false (by omega)];simp)
   generalize shortLen g a x y=SL at *
   clear hR
   go_enter Tryz.func10,Tryz.ntmps10
   go_wp2_with fail
   refine (HSL.out _ HB0.out).mono ?_
   rintro e w1 ⟨rfl,hb1⟩
   have hb2:=below_trans HB0.out hb1
   have bR:=HBR.out.keep hb1
   have r0:w1.cell? ⟨w.heap.size+1+1,0,none⟩=some (.int .i64 0):=bR.cell 0
   have r1:w1.cell? ⟨w.heap.size+1+1,1,none⟩=some (.slice none 0 0):=bR.cell 1
   have fr0:=bR.frozen 0
   have fr1:=bR.frozen 1
   have lr:=bR.lt
   clear bR
   clear hb1
   go_wp2_with fail
   refine bodyPost_ret (v:=.tuple #[.agg #[.int .i64 0,.slice none 0 0],.bool false]) (by simp [results,Tryz.results10,go_sem,r0,r1]) rfl ⟨_,by rw [HF.out],?_,(hb2.setCell (p:=⟨w.heap.size+1+1,0,none⟩) (by simp only;omega) _).setCell (p:=⟨w.heap.size+1+1,1,none⟩) (by simp only;omega) _⟩
   rw [HF.out]
   exact ⟨_,rfl,Own.nil _ _ _ _ _ _⟩
 · have hco:=shortLen_ok (show 0<=shortLen g a x y by omega)
   obtain ⟨⟨hx0,hx1⟩,⟨hy0,hy1⟩,hgo,ha⟩:=cntOk_iff.1 hco
   have hRe:R=if wi n 0 999999=true then nthWalkP g a x y n.toNat else ((0,[]),false):=by rw [hR,nthWalk,decide_eq_true (show 0<=shortLen g a x y by omega),Bool.true_and]
   clear hR
   generalize shortLen g a x y=L at *
   obtain ⟨x,rfl⟩:=Int.eq_ofNat_of_zero_le hx0
   have HGO:=Hd_ hgo
   have HA:=Hd_ ha
   have hn5:=(grOk_iff.1 hgo).n5
   have hxl:x < g.vals.length:=by omega
   have HW:=Hd_ (fun W=>l1In_any n 0 999999 W)
   cases hwn:wi n 0 999999 with
   | false =>
     have HF:=Hd_ (show R=((0,[]),false) by rw [hRe,hwn];simp)
     rw [hwn] at HW
     clear hco hgo ha hx0 hx1 hy0 hy1 hRe hwn
     go_enter Tryz.func10,Tryz.ntmps10
     go_wp2_with fail
     refine (HSL.out _ HB0.out).mono ?_
     rintro e w1 ⟨rfl,hb1⟩
     have hb2:=below_trans HB0.out hb1
     have bR:=HBR.out.keep hb1
     have r0:w1.cell? ⟨w.heap.size+1+1,0,none⟩=some (.int .i64 0):=bR.cell 0
     have r1:w1.cell? ⟨w.heap.size+1+1,1,none⟩=some (.slice none 0 0):=bR.cell 1
     have fr0:=bR.frozen 0
     have fr1:=bR.frozen 1
     have lr:=bR.lt
     clear bR
     clear hb1
     go_wp2_with fail
     refine (HW.out _).mono ?_
     rintro e w9 ⟨rfl,hw9⟩
     rw [hw9]
     clear hw9
     go_wp2_with fail
     refine bodyPost_ret (v:=.tuple #[.agg #[.int .i64 0,.slice none 0 0],.bool false]) (by simp [results,Tryz.results10,go_sem,r0,r1]) rfl ⟨_,by rw [HF.out],?_,(hb2.setCell (p:=⟨w.heap.size+1+1,0,none⟩) (by simp only;omega) _).setCell (p:=⟨w.heap.size+1+1,1,none⟩) (by simp only;omega) _⟩
     rw [HF.out]
     exact ⟨_,rfl,Own.nil _ _ _ _ _ _⟩
   | true =>
     have hwi:=wi_iff.1 hwn
     obtain ⟨n,rfl⟩:=Int.eq_ofNat_of_zero_le hwi.1
     have hn6:n<=999999:=by omega
     have hRp:R=nthWalkP g a (x:Int) y n:=by rw [hRe,hwn,if_pos rfl,Int.toNat_natCast]
     have hK:∀ f,cwI g a (x:Int) y f=cw g a y f x (bit a.start.toNat):=fun f=>rfl
     have HPK:=Hd_ (fun (f m:Nat) (h:pick (cwI g a (x:Int) y) (List.range 61) n=some (f,m))=>show R=(((x:Int),nthL g a y f x (bit a.start.toNat) m),true) by rw [hRp,nthWalkP];simp only [h];rfl)
     have HNO:=Hd_ (fun (h:pick (cwI g a (x:Int) y) (List.range 61) n=none)=>show R=((0,[]),false) by rw [hRp,nthWalkP];simp only [h])
     obtain ⟨KW,hKW⟩:∃ KW,KW=cwI g a (x:Int) y:=⟨_,rfl⟩
     rw [<- hKW] at HPK HNO
     have HKW:=Hd_ (fun f=>(show KW f=cw g a y f x (bit a.start.toNat) by rw [hKW];exact hK f))
     have HKL:=Hd_ (fun f=>(show KW f<=1000000 by rw [hKW];exact cwI_le ..))
     have HNT:=Hd_ (fun (W:World) (v:Value) (lo d m:Nat) (hd:d<=60) (hm:m < KW d) (h:LaysV g a y (x,bit a.start.toNat) d lo W v)=>show Calls Tryz.prog 44 #[v,.int .i64 (x:Int),.int .i64 (m:Int)] W fun e w'=>∃ v',e=.returned (.tuple #[v',.bool true])/\WkO W.heap.size w'.heap.size w' v' ((x:Int),nthL g a y d x (bit a.start.toNat) m)/\Below W.heap.size W w' from by
      have hq:=l19Nth_any g a y (x,bit a.start.toNat) d lo v x m W h hgo ha ⟨hxl,startOk ha⟩ hd
      have hw:wi (m:Int) 0 ((cw g a y d x (bit a.start.toNat):Nat) - 1)=true:=by rw [wi_iff];rw [hKW,hK] at hm;omega
      simp only at hq
      rw [hw,if_pos rfl,Int.toNat_natCast] at hq
      exact hq)
     rw [hwn] at HW
     clear hco hgo ha hx0 hx1 hy0 hy1 hRe hwn hwi hRp hK hKW
     go_enter Tryz.func10,Tryz.ntmps10
     go_wp2_with fail
     refine (HSL.out _ HB0.out).mono ?_
     rintro e w1 ⟨rfl,hb1⟩
     have HB2:=Hd_ (below_trans HB0.out hb1)
     have HG1:=Hd_ (HBG.out.keep hb1)
     have HA1:=Hd_ (HBA.out.keep hb1)
     have HR1:=Hd_ (HBR.out.keep hb1)
     clear hb1
     go_wp2_with fail
     refine (HW.out _).mono ?_
     rintro e w9 ⟨rfl,hw9⟩
     rw [hw9]
     clear hw9
     go_wp2_with fail
     go_loopw [4,12] (fun nn ll wr=>∃ (d:Nat),d<=61/\nn=.int .i64 (leftN KW ((List.range 61).take d) n:Nat)/\ll=.int .i64 (d:Int)/\(∀ j q,j < d->(List.range 61)[j]?=some q->¬ leftN KW ((List.range 61).take j) n < KW q)/\Blk wr w.heap.size 27 #[.slice A1 n1 c1,.slice A2 n2 c2]/\Blk wr (w.heap.size+1) 31 #[.int .i64 a.start,.slice A3 n3 c3,.slice A4 n4 c4]/\Blk wr (w.heap.size+1+1) 36 #[.int .i64 0,.slice none 0 0]/\Below w.heap.size w wr) (fun _ ll _=>61 - (intOf ll).toNat)
     case atStart=>exact ⟨0,by omega,rfl,rfl,fun j q hj=>by omega,HG1.out,HA1.out,HR1.out,HB2.out⟩
     case round =>
      clear HB2 HG1 HA1 HR1
      obtain ⟨d,hd,rfl,rfl,hno,hbg,hba,hbr,hbl⟩:=hrel
      have hll:=leftN_le KW ((List.range 61).take d) n
      by_cases hlt:d < 61
      · have hdl:((d:Int)<=60):=by omega
        have hrd:=range61S hlt
        have hPH:=fun h=>pick_here hrd hno h
        have hLS:=leftN_succ (k:=KW) (n:=n) hrd
        have hno2:¬ leftN KW ((List.range 61).take d) n < KW d->∀ j q,j < d+1->(List.range 61)[j]?=some q->¬ leftN KW ((List.range 61).take j) n < KW q:=fun h j q hj hq=>by
         rcases Nat.lt_or_ge j d with h1 | h1
         · exact hno j q h1 hq
         · obtain rfl:j=d:=by omega
           rw [hrd] at hq
           injection hq with hq
           rw [<- hq];exact h
        have HPH:=Hd_ hPH
        have HLS:=Hd_ hLS
        have HN2:=Hd_ hno2
        have HCL:=HKL.out d
        have HKD:=Hd_ (HKW.out d)
        have HND:=Hd_ (fun (W:World) (v:Value) (lo m:Nat) hm hv=>HNT.out W v lo d m (by omega) hm hv)
        obtain ⟨CC,hCC⟩:∃ CC,CC=KW d:=⟨_,rfl⟩
        rw [<- hCC] at HPH HLS HN2 HCL HKD HND
        obtain ⟨m1,hm1⟩:∃ m1,m1=leftN KW ((List.range 61).take d) n:=⟨_,rfl⟩
        rw [<- hm1] at HPH HLS HN2 hll ⊢
        have x0:wr.cell? ⟨w.heap.size,0,none⟩=some (.slice A1 n1 c1):=(hbg).cell 0
        have x1:wr.cell? ⟨w.heap.size,1,none⟩=some (.slice A2 n2 c2):=(hbg).cell 1
        have y0:wr.cell? ⟨w.heap.size+1,0,none⟩=some (.int .i64 a.start):=(hba).cell 0
        have y1:wr.cell? ⟨w.heap.size+1,1,none⟩=some (.slice A3 n3 c3):=(hba).cell 1
        have y2:wr.cell? ⟨w.heap.size+1,2,none⟩=some (.slice A4 n4 c4):=(hba).cell 2
        have HG:=Hd_ hbg
        have HAB:=Hd_ hba
        have HR:=Hd_ hbr
        have HB:=Hd_ hbl
        clear hPH hLS hno2 hrd hno hbg hba hbr hbl hCC hm1
        go_wp2_with fail
        refine (l19Layers_any _ _ g a x y d _ (HGV.out.keep HB.out) (HAV.out.keep HB.out) HGO.out HA.out hxl (by omega)).mono ?_
        rintro e w2 ⟨v2,rfl,hlv,hb3⟩
        have HLV:=Hd_ hlv
        obtain ⟨bL,oL,cL,gd,cd,hv2,lb,lg,r0,r2⟩:=hlv.first
        subst hv2
        simp only at r2
        rw [<- HKD.out] at r2
        have hn1:(0:Int) < (d:Int)+1:=by omega
        have HB3:=Hd_ (below_trans HB.out hb3)
        have HG2:=Hd_ (HG.out.keep hb3)
        have HAB2:=Hd_ (HAB.out.keep hb3)
        have HBR2:=Hd_ (HR.out.keep hb3)
        have lr2:=HBR2.out.lt
        clear hlv hb3 x0 x1 y0 y1 y2
        by_cases hpk:m1 < CC
        · have hpk1:(m1:Int) < (CC:Int):=by omega
          have HF:=Hd_ (HPK.out d m1 (HPH.out hpk))
          go_wp2_with fail
          refine (HND.out _ _ _ m1 hpk HLV.out).mono ?_
          rintro e w3 ⟨v3,rfl,⟨ss,rfl,hss⟩,hb4⟩
          obtain ⟨A9,n9,c9,rfl⟩:=hss.shape
          have bR:=(HBR2.out.keep hb4).alloc (.cells #[.int .i64 (x:Int),.slice A9 n9 c9] 36)
          have hbD:=(below_trans HB3.out hb4).alloc (below_trans HB3.out hb4).size (.cells #[.int .i64 (x:Int),.slice A9 n9 c9] 36)
          have bV:=Blk.new w3 36 #[.int .i64 (x:Int),.slice A9 n9 c9] w3.heap.size rfl
          have HSS:=Hd_ hss
          clear r0 r2
          go_upto_region 9 with fail
          obtain ⟨wd,hwd⟩:∃ wd,wd=w3.alloc (.cells #[.int .i64 (x:Int),.slice A9 n9 c9] 36):=⟨_,rfl⟩
          rw [<- hwd] at bR bV hbD ⊢
          have hwb:∀ b,b < w3.heap.size->wd.heap[b]?=w3.heap[b]?:=fun b hb=>by rw [hwd];exact Below.heap_alloc _ _ _ hb
          have hws:w3.heap.size<=wd.heap.size:=by rw [hwd];simp
          clear hwd
          have HOW:=Hd_ hss
          have e0:wd.cell? ⟨w.heap.size+1+1,0,none⟩=some (.int .i64 0):=bR.cell 0
          have e1:wd.cell? ⟨w.heap.size+1+1,1,none⟩=some (.slice none 0 0):=bR.cell 1
          have t0:wd.cell? ⟨w3.heap.size,0,none⟩=some (.int .i64 (x:Int)):=bV.cell 0
          have t1:wd.cell? ⟨w3.heap.size,1,none⟩=some (.slice A9 n9 c9):=bV.cell 1
          have fr0:=bR.frozen 0
          have fr1:=bR.frozen 1
          have lr:=bR.lt
          have q0:((wd.setCell ⟨w.heap.size+1+1,0,none⟩ (.int .i64 (x:Int))).setCell ⟨w.heap.size+1+1,1,none⟩ (.slice A9 n9 c9)).cell? ⟨w.heap.size+1+1,0,none⟩=some (.int .i64 (x:Int)):=by simpa using ((bR.set_ 0 (.int .i64 (x:Int))).set_ 1 (.slice A9 n9 c9)).cell 0
          have q1:((wd.setCell ⟨w.heap.size+1+1,0,none⟩ (.int .i64 (x:Int))).setCell ⟨w.heap.size+1+1,1,none⟩ (.slice A9 n9 c9)).cell? ⟨w.heap.size+1+1,1,none⟩=some (.slice A9 n9 c9):=by simpa using ((bR.set_ 0 (.int .i64 (x:Int))).set_ 1 (.slice A9 n9 c9)).cell 1
          have q2:(wd.setCell ⟨w.heap.size+1+1,0,none⟩ (.int .i64 (x:Int))).cell? ⟨w.heap.size+1+1,0,none⟩=some (.int .i64 (x:Int)):=by simpa using (bR.set_ 0 (.int .i64 (x:Int))).cell 0
          have hwe:((wd.setCell ⟨w.heap.size+1+1,0,none⟩ (.int .i64 (x:Int))).setCell ⟨w.heap.size+1+1,1,none⟩ (.slice A9 n9 c9)).heap.size=wd.heap.size:=by simp [World.setCell]
          have hbn:∀ b,b < w3.heap.size->b ≠ w.heap.size+1+1->((wd.setCell ⟨w.heap.size+1+1,0,none⟩ (.int .i64 (x:Int))).setCell ⟨w.heap.size+1+1,1,none⟩ (.slice A9 n9 c9)).heap[b]?=w3.heap[b]?:=fun b hb hne=>by rw [Below.heap_setCell _ _ _ _ hne,Below.heap_setCell _ _ _ _ hne,hwb b hb]
          have HQ:=Hd_ (And.intro q0 (And.intro q1 (And.intro q2 (And.intro hwe hbn))))
          have HBE:=Hd_ ((hbD.setCell (p:=⟨w.heap.size+1+1,0,none⟩) (by simp only;omega) (.int .i64 (x:Int))).setCell (p:=⟨w.heap.size+1+1,1,none⟩) (by simp only;omega) (.slice A9 n9 c9))
          clear q0 q1 q2 hwe hbn bR bV hbD hwb hss
          go_wp2_with fail
          obtain ⟨q0,q1,q2,hwe,hbn⟩:=HQ.out
          refine bodyPost_ret (v:=.tuple #[.agg #[.int .i64 (x:Int),.slice A9 n9 c9],.bool true]) (by simp [results,Tryz.results10,go_sem,q0,q1,q2]) rfl ⟨_,by rw [HF.out],?_,HBE.out⟩
          rw [HF.out]
          exact ⟨_,rfl,(HOW.out.blocks (fun b hb=>hbn b (HOW.out.lt b hb).2.2 (by have:=HOW.out.lt b hb;omega))).mono (by have:=HB3.out.size;omega) (by omega)⟩
        · have hpk1:¬ (m1:Int) < (CC:Int):=by omega
          have hsub:IntKind.i64.wrap ((m1:Int) - (CC:Int))=((m1 - CC:Nat):Int):=by rw [IntWalk.i64_in _ (by omega)];omega
          have hsub2:(m1:Int) - (CC:Int)=((m1 - CC:Nat):Int):=by omega
          have HNP:=Hd_ (HN2.out hpk)
          clear HPH HN2
          go_wp2_with fail
          clear hsub
          go_roundw
          case rel=>exact ⟨d+1,by omega,by first | (rw [HLS.out,hsub2];done) | (rw [HLS.out];done) | (rw [HLS.out];rw [hsub2]) | (rw [HLS.out];rfl),by go_num,HNP.out,HG2.out,HAB2.out,HBR2.out,HB3.out⟩
          case measure=>simp [intOf];omega
      · obtain rfl:d=61:=by omega
        have HF:=Hd_ (HNO.out (pick_end (by rw [range61S_len];exact hno)))
        have bR:=hbr
        have r0:wr.cell? ⟨w.heap.size+1+1,0,none⟩=some (.int .i64 0):=bR.cell 0
        have r1:wr.cell? ⟨w.heap.size+1+1,1,none⟩=some (.slice none 0 0):=bR.cell 1
        have fr0:=bR.frozen 0
        have fr1:=bR.frozen 1
        have lr:=bR.lt
        have HB:=Hd_ hbl
        clear bR hno hbg hba hbr hbl
        go_wp2_with fail
        refine bodyPost_ret (v:=.tuple #[.agg #[.int .i64 0,.slice none 0 0],.bool false]) (by simp [results,Tryz.results10,go_sem,r0,r1]) rfl ⟨_,by rw [HF.out],?_,(HB.out.setCell (p:=⟨w.heap.size+1+1,0,none⟩) (by simp only;omega) _).setCell (p:=⟨w.heap.size+1+1,1,none⟩) (by simp only;omega) _⟩
        rw [HF.out]
        exact ⟨_,rfl,Own.nil _ _ _ _ _ _⟩
theorem keepTo_yes {D:List Int} {n x set f q:Nat} (h:set.testBit q=true) (h2:D.getD (x * n+q) 0=(f:Int)):keepTo D n x set f (q+1)=ins (keepTo D n x set f q) q:=by rw [keepTo,if_pos (by rw [h,h2,beq_self_eq_true];rfl)]
theorem keepTo_no {D:List Int} {n x set f q:Nat} (h:set.testBit q=false ∨ D.getD (x * n+q) 0 ≠ (f:Int)):keepTo D n x set f (q+1)=keepTo D n x set f q:=by
 rw [keepTo,if_neg]
 rw [Bool.and_eq_true,beq_iff_eq]
 rintro ⟨h1,h2⟩
 rcases h with h | h
 · rw [h] at h1;cases h1
 · exact h h2
set_option maxHeartbeats 4000000 in
set_option maxRecDepth 100000 in
theorem l18Keep_any (v:Value) (D:List Int) (n x set f:Nat) (w:World) (hv:SlE w cI 1 v D) (hDl:x * n+n<=D.length) (hD:D.length<=60) (hn:n<=12) (hset:set < 4096) (hf:f<=60) :
 Calls Tryz.prog 49 #[v,.int .i64 (n:Int),.int .i64 (x:Int),.int .i64 (set:Int),.int .i64 (f:Int)] w fun e w'=>e=.returned (.int .i64 (keepTo D n x set f n:Nat))/\Below w.heap.size w w':=by
 obtain ⟨A1,c1,rfl,hl1,hm1,hC1⟩:=hv.form
 obtain ⟨P,hP⟩:∃ P,P=x * n:=⟨_,rfl⟩
 have hPl:P+n<=D.length:=by rw [hP];exact hDl
 have m1':(x:Int) * (n:Int)=(P:Int):=by rw [hP,Int.natCast_mul]
 have m1:IntKind.i64.wrap ((x:Int) * (n:Int))=(P:Int):=by rw [m1'];exact IntWalk.i64_in _ (by omega)
 have HC1:=Hd_ hC1
 have HP:=Hd_ hP
 have HM1:=Hd_ m1
 have HM1':=Hd_ m1'
 clear hv hC1 hDl hP m1 m1'
 go_enter Tryz.func49,Tryz.ntmps49
 go_wp2_with fail
 go_loopw [11,12] (fun mm qq wr=>∃ (q:Nat) (u:World),q<=n/\qq=.int .i64 (q:Int)/\mm=.int .i64 (keepTo D n x set f q:Nat)/\wr=ext w u) (fun _ qq _=>n - (intOf qq).toNat)
 case atStart=>exact ⟨0,w,Nat.zero_le _,rfl,rfl,ext_self _⟩
 case round =>
  obtain ⟨q,u,hq,rfl,rfl,rfl⟩:=hrel
  by_cases hlq:q < n
  · have hqi:(q:Int) < (n:Int):=by omega
    cases hb:set.testBit q with
    | false =>
      have e3':=bit_off (by omega) (by omega) hb
      have HR:=Hd_ (show keepTo D n x set f q=keepTo D n x set f (q+1) from (keepTo_no (.inl hb)).symm)
      clear hb
      go_wp2_with fail
      go_roundw
      case rel=>exact ⟨q+1,u,by omega,by go_num,by rw [<- HR.out],rfl⟩
      case measure=>simp [intOf];omega
    | true =>
      have e3':=bit_on (by omega) (by omega) hb
      have hdi:=getD_of (D:=D) (k:=P+q) (by omega)
      obtain ⟨b6,o6,rfl,hb6,d6⟩:=HC1.out.int hdi
      have hY:=fun h=>keepTo_yes (D:=D) (n:=n) (x:=x) (f:=f) hb h
      have hN:=fun h=>keepTo_no (D:=D) (n:=n) (x:=x) (set:=set) (f:=f) (q:=q) (.inr h)
      rw [<- HP.out] at hY hN
      have HY:=Hd_ hY
      have HN:=Hd_ hN
      have hkl:=keepTo_lt D n x set f q
      have hkl2:keepTo D n x set f q < 4096:=Nat.lt_of_lt_of_le hkl (Nat.pow_le_pow_right (by omega) (show q<=12 by omega))
      have m1:=HM1.out
      have hpq:(P:Int)+(q:Int)=((P+q:Nat):Int):=by omega
      have m2:IntKind.i64.wrap ((P:Int)+(q:Int))=((P+q:Nat):Int):=by rw [hpq];exact IntWalk.i64_in _ (by omega)
      have hpd:((P+q:Nat):Int) < (D.length:Int):=by omega
      clear hb hY hN hdi hkl
      generalize D.getD (P+q) 0=dv at *
      obtain ⟨J,hJ⟩:∃ J,J=P+q:=⟨_,rfl⟩
      rw [<- hJ] at d6 m2 hpd hpq
      clear hJ
      by_cases hd:dv=(f:Int)
      · have HR:=Hd_ (HY.out hd)
        have e1:=shl_bit (s:=q) (by omega)
        generalize keepTo D n x set f q=M at *
        have e2:=or_ins (m:=M) (s:=q) (by omega) (by omega)
        have hde:(dv==(f:Int))=true:=by simpa using hd
        clear hd
        go_wp2_with fail
        go_roundw
        case rel=>exact ⟨q+1,u,by omega,by go_num,by rw [HR.out],rfl⟩
        case measure=>simp [intOf];omega
      · have HR:=Hd_ (HN.out hd)
        have hde:(dv==(f:Int))=false:=by simpa using hd
        generalize keepTo D n x set f q=M at *
        clear hd
        go_wp2_with fail
        go_roundw
        case rel=>exact ⟨q+1,u,by omega,by go_num,by rw [HR.out],rfl⟩
        case measure=>simp [intOf];omega
  · obtain rfl:q=n:=by omega
    go_wp2_with fail
    go_ret
    exact ⟨rfl,ext_below w u⟩
end Go.Proofs.YtcnenpjaoalmeaaGreat
