/- Parts of the proof, joined into one text: BackM, StepsM, GraphS, HelpStep, SetS, FromS, StepS, StepsS, AccS, BackS. -/
import Derived.Test.YteaplabkemoenaaGreatOnlzKIKFHLPI
import Derived.Test.YteaplabkemoenaaGreatOnlzAIFFPHMF
import Derived.Test.YteaplabkemoenaaGreatOnlzGFGPLLBC
import Derived.Deep.RegionHeld3
import Derived.Deep.DeepCutAuto
set_option linter.unusedVariables false
set_option linter.unusedSimpArgs false
namespace Go.Proofs.YteaplabkemoenaaGreat
/-- the first list -/
def ini (g:Gr) (a:Au) (y z:Nat):Int:=if (z / a.accept.length==y && accC a (valAt g y) (z % a.accept.length))=true then 0 else -1
def iniL (g:Gr) (a:Au) (y k:Nat):List Int:=(List.range k).map (ini g a y)
theorem iniL_len (g:Gr) (a:Au) (y k:Nat):(iniL g a y k).length=k:=by simp [iniL]
theorem iniL_snoc (g:Gr) (a:Au) (y k:Nat):iniL g a y (k+1)=iniL g a y k ++ [ini g a y k]:=by simp [iniL,List.range_succ]
theorem iniL_at {g:Gr} {a:Au} {y k i:Nat} (h:i < k):(iniL g a y k).getD i 0=ini g a y i:=by simp [iniL,List.getD,h]
theorem ini_goal {g:Gr} {a:Au} {y z:Nat} (hn:0 < a.accept.length):(z / a.accept.length==y && accC a (valAt g y) (z % a.accept.length))=true ↔ z ∈ goalsL g a y:=by
 rw [mem_goalsL,Bool.and_eq_true,beq_iff_eq]
 constructor
 · rintro ⟨rfl,h⟩
   exact ⟨z % a.accept.length,Nat.mod_lt _ hn,h,by rw [Nat.mul_comm];exact (Nat.div_add_mod z _).symm⟩
 · rintro ⟨s,hs,hc,rfl⟩
   have h1:(y * a.accept.length+s) / a.accept.length=y:=by rw [Nat.mul_comm,Nat.mul_add_div hn,Nat.div_eq_of_lt hs];rfl
   have h2:(y * a.accept.length+s) % a.accept.length=s:=by rw [Nat.mul_comm,Nat.mul_add_mod,Nat.mod_eq_of_lt hs]
   rw [h1,h2]
   exact ⟨rfl,hc⟩
theorem ini_SwO {g:Gr} {a:Au} {y N:Nat} (hn:0 < a.accept.length) (next:Nat->List Nat):SwO next (fun i=>i ∈ goalsL g a y) N (iniL g a y N) 0:=by
 refine ⟨iniL_len ..,fun i hi=>?_⟩
 rw [iniL_at hi,ini]
 by_cases h:(i / a.accept.length==y && accC a (valAt g y) (i % a.accept.length))=true
 · rw [if_pos h]
   exact .inr ⟨Int.le_refl _,Int.le_refl _,.inr ⟨Int.le_refl _,(ini_goal hn).1 h,fun m hm=>absurd hm (by simp)⟩⟩
 · rw [if_neg h]
   refine .inl ⟨rfl,fun m hm=>?_⟩
   obtain rfl:m=0:=by omega
   exact fun hg=>h ((ini_goal hn).2 hg)
/-- what the sweeps find is what the search found -/
theorem sweep_eq {g:Gr} {a:Au} {y:Nat} (hg:grOk g=true) (ha:auOk a=true) (hy:y < g.vals.length) {D:List Int} (hl:D.length=g.vals.length * a.accept.length)
 (h:∀ i,i < g.vals.length * a.accept.length->IsDist (nextI g a) (fun i=>i ∈ goalsL g a y) i (D.getD i 0)):D=distTo g a (y:Int):=by
 have hd:(wi (y:Int) 0 ((g.vals.length:Int) - 1) && (grOk g && auOk a))=true:=by
  simp only [Bool.and_eq_true]
  exact ⟨by rw [wi_iff];omega,hg,ha⟩
 have hN:∀ i k,i < g.vals.length * a.accept.length->k ∈ nextI g a i->k < g.vals.length * a.accept.length:=fun i k _ hk=>nextV_lt (grOk_iff.1 hg) ha hk
 have hfs:∀ i ∈ goalsL g a y,i < g.vals.length * a.accept.length:=fun i hi=>by
  obtain ⟨s,hs,_,rfl⟩:=mem_goalsL.1 hi
  calc y * a.accept.length+s < y * a.accept.length+a.accept.length:=by omega
   _=(y+1) * a.accept.length:=by rw [Nat.add_mul,Nat.one_mul]
   _<=_:=Nat.mul_le_mul_right _ hy
 rw [distTo,if_pos hd,Int.toNat_natCast]
 refine List.ext_getElem (by rw [hl,spreadR_len]) fun i h1 h2=>?_
 have hi:i < g.vals.length * a.accept.length:=by omega
 have e:=(h i hi).uniq (spread_dist hfs hN i hi)
 simpa [List.getD,h1,h2] using e
section
variable {next:Nat->List Nat} {goal:Nat->Prop} {N:Nat} {D D0:List Int} {e i k:Nat} {ch ch0:Bool}
/-- within a sweep, at vertex i, with k of its next ones looked at -/
def KI (next:Nat->List Nat) (D0:List Int) (ch0:Bool) (e i k:Nat) (D:List Int) (ch:Bool):Prop :=
 (D=D0/\ch=ch0/\∀ v ∈ (next i).take k,D0.getD v 0 ≠ (e:Int)) ∨ (D=D0.set i ((e:Int)+1)/\ch=true/\D0.getD i 0 < 0/\∃ v ∈ next i,D0.getD v 0=(e:Int))
def CI (e N:Nat) (D:List Int) (ch:Bool):Prop:=e+negs D<=N/\(ch=true->e+negs D+1<=N)
/-- after sweeps -/
def SW (next:Nat->List Nat) (goal:Nat->Prop) (N e:Nat) (D:List Int) (ch:Bool):Prop :=
 D.length=N/\(ch=true->SwO next goal N D e/\e+negs D<=N)/\(ch=false->∀ i,i < N->IsDist next goal i (D.getD i 0))
theorem KI.start:KI next D0 ch0 e i 0 D0 ch0:=.inl ⟨rfl,rfl,by simp⟩
theorem KI.len (h:KI next D0 ch0 e i k D ch):D.length=D0.length:=by
 rcases h with ⟨rfl,_⟩ | ⟨rfl,_⟩ <;> simp
theorem KI.neg (h:KI next D0 ch0 e i k D ch) (hi:i < D0.length) (hn:D.getD i 0 < 0):D=D0/\ch=ch0/\∀ v ∈ (next i).take k,D0.getD v 0 ≠ (e:Int):=by
 rcases h with h | ⟨rfl,_⟩
 · exact h
 · rw [getD_set' hi,if_pos rfl] at hn
   omega
theorem KI.miss (h:KI next D0 ch0 e i k D ch) (hi:i < D0.length) (hn:D.getD i 0 < 0) {v:Nat} (hv:(next i)[k]?=some v) (hd:¬ D.getD v 0=(e:Int)):KI next D0 ch0 e i (k+1) D ch:=by
 obtain ⟨rfl,rfl,h3⟩:=h.neg hi hn
 refine .inl ⟨rfl,rfl,fun x hx=>?_⟩
 rw [take_snoc hv,List.mem_append,List.mem_singleton] at hx
 rcases hx with hx | rfl
 · exact h3 x hx
 · exact hd
theorem KI.hit (h:KI next D0 ch0 e i k D ch) (hi:i < D0.length) (hn:D.getD i 0 < 0) {v:Nat} (hv:(next i)[k]?=some v) (hd:D.getD v 0=(e:Int)):KI next D0 ch0 e i (k+1) (D.set i ((e:Int)+1)) true:=by
 obtain ⟨rfl,rfl,h3⟩:=h.neg hi hn
 exact .inr ⟨rfl,rfl,hn,v,List.mem_of_getElem? hv,hd⟩
theorem KI.fin (h:KI next D0 ch0 e i k D ch) (hs:SwI next goal N D0 e i ch0) (hi:i < N) (hk:(next i).length<=k ∨ ¬ D.getD i 0 < 0) (hnN:∀ i k,i < N->k ∈ next i->k < N):SwI next goal N D e (i+1) ch:=by
 rcases h with ⟨rfl,rfl,h3⟩ | ⟨rfl,rfl,h3,v,hv,hd⟩
 · refine hs.skip ?_ hnN
   rcases hk with hk | hk
   · exact .inr fun v hv=>h3 v (by rw [List.take_of_length_le hk];exact hv)
   · exact .inl hk
 · exact hs.put hi h3 hv hd hnN
theorem KI.cnt (h:KI next D0 ch0 e i k D ch) (hc:CI e N D0 ch0) (hi:i < D0.length):CI e N D ch:=by
 rcases h with ⟨rfl,rfl,_⟩ | ⟨rfl,rfl,h3,_⟩
 · exact hc
 · have h1:=negs_set (k:=i) (d:=(e:Int)+1) hi h3 (by omega)
   have h2:=hc.1
   exact ⟨by omega,fun _=>by omega⟩
theorem SW.enter (h:SW next goal N e D true):SwI next goal N D e 0 false/\CI e N D false:=⟨(h.2.1 rfl).1.enter,(h.2.1 rfl).2,by simp⟩
theorem SW.leave (h:SwI next goal N D e N ch) (hc:CI e N D ch) (hnN:∀ i k,i < N->k ∈ next i->k < N):SW next goal N (e+1) D ch:=by
 refine ⟨h.1,fun ht=>⟨h.leave,?_⟩,fun hf=>?_⟩
 · have:=hc.2 ht;omega
 · subst hf;exact h.stop hnN
theorem SW.ini (h:SwO next goal N D 0):SW next goal N 0 D true:=by
 refine ⟨h.1,fun _=>⟨h,?_⟩,by simp⟩
 have:=List.countP_le_length (p:=fun x:Int=>decide (x < 0)) (l:=D)
 rw [h.1] at this
 simpa [negs] using this
theorem CI.le (h:CI e N D ch):e<=N:=by have:=h.1;omega
end
abbrev PS:=St × Int × Int
def psA (g:Gr) (a:Au) (x s:Nat) (y:Arc):List PS:=(mem 12 (aft a (bit s) (valAt g x) y.2.1.toNat)).map fun (q:Nat)=>(y.1,y.2.2,(q:Int))
def prodSteps (g:Gr) (a:Au) (x s:Nat):List PS:=(arcsOf g (x:Int)).flatMap (psA g a x s)
def psV (n:Nat) (p:PS):Nat:=p.2.1.toNat * n+p.2.2.toNat
theorem psV_next (g:Gr) (a:Au) (x s:Nat):(prodSteps g a x s).map (psV a.accept.length)=nextV g a x s:=by
 unfold prodSteps nextV
 rw [List.map_flatMap]
 congr 1
 funext y
 unfold psA nextA
 rw [List.map_map]
 apply List.map_congr_left
 intro q _
 simp [psV]
theorem psA_len (g:Gr) (a:Au) (x s:Nat) (y:Arc):(psA g a x s y).length<=12:=by rw [psA,List.length_map];exact mem_len _ _
theorem prodSteps_len {g:Gr} (hg:GrOk g) (a:Au) (x s:Nat):(prodSteps g a x s).length<=288:=by
 have h2:=flat_len (psA_len g a x s) (arcsOf g (x:Int))
 have h3:=arcs_len hg (x:Int)
 unfold prodSteps
 omega
theorem prodSteps_range {g:Gr} {a:Au} (hg:GrOk g) (ha:auOk a=true) {x s:Nat} {p:PS} (h:p ∈ prodSteps g a x s):(0<=p.2.1/\p.2.1<=(g.vals.length:Int) - 1)/\0<=p.2.2/\p.2.2 < (a.accept.length:Int):=by
 obtain ⟨y,hy,hp⟩:=List.mem_flatMap.1 h
 obtain ⟨q,hq,rfl⟩:=List.mem_map.1 hp
 have h1:=(arc_range hg hy).2
 have h2:=aft_lt ha (bit s) (valAt g x) y.2.1.toNat
 rw [mem12 ha h2,mem_mem] at hq
 exact ⟨h1,by simp only;omega,by simp only;omega⟩
def foldTo (a:Au) (l set q:Nat):Nat:=(mem q set).foldl (aft1 a l) 0
theorem foldTo_no {a:Au} {l set q:Nat} (h:set.testBit q=false):foldTo a l set (q+1)=foldTo a l set q:=by rw [foldTo,mem_no h];rfl
theorem foldTo_yes {a:Au} {l set q:Nat} (h:set.testBit q=true):foldTo a l set (q+1)=aft1 a l (foldTo a l set q) q:=by rw [foldTo,mem_yes h,List.foldl_append];rfl
theorem foldTo_lt {a:Au} (h:auOk a=true) (l set q:Nat):foldTo a l set q < 2 ^ a.accept.length:=foldl_inv (P:=fun m=>m < 2 ^ a.accept.length) (fun m x hm=>aft1_lt h l m x hm) _ _ (Nat.two_pow_pos _)
theorem foldTo_all {a:Au} (h:auOk a=true) {v s l:Nat} (hs:s < a.accept.length):foldTo a l (cls a v s) a.accept.length=aft a (bit s) v l:=by
 rw [aft_one v l (show s < 12 by have:=(auOk_iff.1 h).1.2;omega),mem12 h (cls_lt h v s hs)];rfl
end Go.Proofs.YteaplabkemoenaaGreat
namespace Go.Proofs.YteaplabkemoenaaGreat
open Go.ChangeShapes Go.WideShapes Go.ChangeAt Go.RowKit
attribute [local go_sem] ext_cell ext_frozen ext_lt ext_lt1 ext_lt2 ext_lt3 ltn2 ltn3 ltn13 lts1 lts2 lts3
set_option maxHeartbeats 1000000 in
theorem l3Edge_any (A:Option Addr) (n cc:Nat) (es:Value) (e:Ed) (w:World) (hn:n<=9223372036854775807) :
 Calls Tryz.prog 91 #[.agg #[.slice A n cc,es],.agg #[.int .i64 e.1,.int .i64 e.2.1,.int .i64 e.2.2.1,.int .i64 e.2.2.2]] w fun en w'=>en=.returned (.bool (edOk n e))/\Below w.heap.size w w':=by
 obtain ⟨a,b,c,d⟩:=e
 have HW:=Hd_ l1In_any
 unfold edOk
 simp only
 have hb0:Below w.heap.size w ((w.alloc (.cells #[.slice A n cc,es] 27)).alloc (.cells #[.int .i64 a,.int .i64 b,.int .i64 c,.int .i64 d] 110)):=((Below.refl _ _).alloc (Nat.le_refl _) _).alloc (by simp) _
 cases g1:wi a 1 99 with
 | false =>
   have HZ:=Hd_ g1
   go_enter Tryz.func91,Tryz.ntmps91
   go_wp2_with (go_at_call 24;refine (HW.out _ _ _ _).mono ?_;rintro e w' ⟨rfl,rfl⟩)
   go_ret
   exact ⟨rfl,hb0⟩
 | true =>
   cases g2:wi b 0 ((n:Int) - 1) with
   | false =>
     go_enter Tryz.func91,Tryz.ntmps91
     go_wp2_with (go_at_call 24;refine (HW.out _ _ _ _).mono ?_;rintro e w' ⟨rfl,rfl⟩)
     go_ret
     exact ⟨rfl,hb0⟩
   | true =>
     cases g3:wi c 0 ((n:Int) - 1) with
     | false =>
       go_enter Tryz.func91,Tryz.ntmps91
       go_wp2_with (go_at_call 24;refine (HW.out _ _ _ _).mono ?_;rintro e w' ⟨rfl,rfl⟩)
       go_ret
       exact ⟨rfl,hb0⟩
     | true =>
       go_enter Tryz.func91,Tryz.ntmps91
       go_wp2_with (go_at_call 24;refine (HW.out _ _ _ _).mono ?_;rintro e w' ⟨rfl,rfl⟩)
       go_ret
       exact ⟨rfl,hb0⟩
set_option maxHeartbeats 2000000 in
theorem specValidGraph (v:Value) (g:Gr) (w:World) (hv:GrV 0 w.heap.size w v g) :
 Calls Tryz.prog 77 #[v] w fun e w'=>e=.returned (.bool (grOk g))/\Below w.heap.size w w':=by
 obtain ⟨vs,es,rfl,⟨A1,c1,rfl,hl1,hm1,hx1⟩,⟨A2,c2,rfl,hl2,hm2,hx2⟩⟩:=hv
 unfold maxLen at hm1 hm2
 have hb0:Below w.heap.size w (w.alloc (.cells #[.slice A1 g.vals.length c1,.slice A2 g.edges.length c2] 27)):=(Below.refl _ _).alloc (Nat.le_refl _) _
 have HW:=Hd_ l1In_any
 have HX1:=Hd_ hx1
 have HX2:=Hd_ hx2
 clear hx1 hx2
 go_enter Tryz.func77,Tryz.ntmps77
 go_wp2_with fail
 go_loop [3] (fun ii=>∃ i:Nat,i<=g.vals.length/\ii=.int .i64 i/\(g.vals.take i).all (fun v=>wi v 0 2)=true) (fun ii=>g.vals.length - (intOf ii).toNat)
 case atStart=>exact ⟨0,Nat.zero_le _,rfl,rfl⟩
 case round =>
  obtain ⟨i,hi,rfl,hall⟩:=hrel
  have HA:=Hd_ hall
  clear hall
  by_cases hlt:i < g.vals.length
  · have hxi:g.vals[i]?=some g.vals[i]:=List.getElem?_eq_getElem hlt
    obtain ⟨b,o,rfl,-,hb1,hc⟩:=HX1.out i _ hxi
    generalize g.vals[i]=x at hc hxi
    have c0:=hc 0 _ rfl
    simp only [Nat.mul_one,Nat.add_zero] at c0
    have HX:=Hd_ hxi
    clear hc hxi
    cases g4:wi x 0 2 with
    | true =>
      have G4:=Hd_ g4
      go_wp2_with (go_at_call 24;refine (HW.out _ _ _ _).mono ?_;rintro e w' ⟨rfl,rfl⟩)
      go_round
      case rel=>exact ⟨i+1,by omega,by go_num,all_take_succ HX.out HA.out G4.out⟩
      case measure=>simp [intOf];omega
    | false =>
      have hfin:grOk g=false:=by
       rw [grOk,all_false_of HX.out g4]
       rfl
      have HF:=Hd_ hfin
      clear hfin
      go_wp2_with (go_at_call 24;refine (HW.out _ _ _ _).mono ?_;rintro e w' ⟨rfl,rfl⟩)
      go_ret
      exact ⟨by rw [HF.out];rfl,hb0⟩
  · obtain rfl:i=g.vals.length:=by omega
    have hallv:g.vals.all (fun v=>wi v 0 2)=true:=by have:=HA.out;rwa [List.take_length] at this
    have HV:=Hd_ hallv
    clear hallv HA
    go_wp2_with fail
    go_loopw [4] (fun ii wr=>∃ (i:Nat) (u:World),i<=g.edges.length/\ii=.int .i64 i/\(List.range i).all (edAt g.vals.length g.edges)=true/\wr=ext (w.alloc (.cells #[.slice A1 g.vals.length c1,.slice A2 g.edges.length c2] 27)) u) (fun ii _=>g.edges.length - (intOf ii).toNat)
    case atStart=>exact ⟨0,_,Nat.zero_le _,rfl,rfl,ext_self _⟩
    case round =>
     obtain ⟨i,u,hi,rfl,hall,rfl⟩:=hrel
     have HA:=Hd_ hall
     clear hall
     by_cases hlt:i < g.edges.length
     · have hxi:g.edges[i]?=some g.edges[i]:=List.getElem?_eq_getElem hlt
       obtain ⟨b,o',rfl,-,hb1,hc⟩:=HX2.out i _ hxi
       generalize g.edges[i]=x at hc hxi
       have hb1':b < w.heap.size+1:=by omega
       have c0:=hc 0 _ rfl
       have c1':=hc 1 _ rfl
       have c2':=hc 2 _ rfl
       have c3:=hc 3 _ rfl
       simp only [Nat.add_zero] at c0
       have HX:=Hd_ hxi
       have hlen:g.vals.length<=9223372036854775807:=by omega
       clear hc hxi
       have hgr:grOk g=((List.range g.edges.length).all (edAt g.vals.length g.edges) && wi g.vals.length 1 5 && decide (g.edges.length<=12)):=by
        rw [grOk,HV.out];rfl
       have HGR:=Hd_ hgr
       clear hgr
       cases g4:edOk g.vals.length x with
       | false =>
         have hfin:grOk g=false:=by
          rw [HGR.out,range_all_false hlt (by rw [edAt,HX.out];simp [g4])]
          rfl
         have HF:=Hd_ hfin
         clear hfin
         go_wp2_with fail
         refine wp_region_ext_lit (by kernel_rfl) (by kernel_rfl) ?_
         repeat (go_big_quiet_step ((go_at_call 91;exact Calls.ext_of (l3Edge_any A1 g.vals.length c1 _ x _ hlen))))
         refine wpQuiet_nil ?_
         rintro _ ⟨u2,rfl⟩
         go_wp2_with fail
         go_ret
         exact ⟨by rw [HF.out];rfl,below_trans hb0 (below_trans (ext_below _ _) (ext_below _ _))⟩
       | true =>
         have G4:=Hd_ g4
         have hbx:∀ u2,∃ z,ext (ext (w.alloc (.cells #[.slice A1 g.vals.length c1,.slice (some ⟨b,o',none⟩) g.edges.length c2] 27)) u) u2=ext (w.alloc (.cells #[.slice A1 g.vals.length c1,.slice (some ⟨b,o',none⟩) g.edges.length c2] 27)) z :=
          fun u2=>ext_of (below_trans (ext_below _ _) (ext_below _ _))
         by_cases hi0:i=0
         · subst hi0
           have hat:edAt g.vals.length g.edges 0=true:=by rw [edAt,HX.out];simp [G4.out]
           have HAT:=Hd_ hat
           clear hat
           simp only [Nat.zero_mul,Nat.add_zero,Nat.zero_add] at c0 c1' c2' c3
           go_wp2_with fail
           refine wp_region_ext_lit (by kernel_rfl) (by kernel_rfl) ?_
           repeat (go_big_quiet_step ((go_at_call 91;exact Calls.ext_of (l3Edge_any A1 g.vals.length c1 _ x _ hlen))))
           refine wpQuiet_nil ?_
           rintro _ ⟨u2,rfl⟩
           go_wp2_with fail
           go_roundw
           case rel =>
            obtain ⟨z,hz⟩:=hbx u2
            exact ⟨1,z,by omega,by go_num,range_all_succ HA.out HAT.out,hz⟩
           case measure=>simp [intOf];omega
         · have hi1:0 < i:=by omega
           have hxj:g.edges[i - 1]?=some g.edges[i - 1]:=List.getElem?_eq_getElem (by omega)
           obtain ⟨b9,o9,ho9,-,-,hcj⟩:=HX2.out (i - 1) _ hxj
           obtain ⟨rfl,rfl⟩:b=b9/\o'=o9:=by injection ho9 with h1;injection h1 with h1 h2;exact ⟨h1,h2⟩
           generalize g.edges[i - 1]=p at hcj hxj
           have hb1':b < w.heap.size+1:=by omega
           have p0:=hcj 0 _ rfl
           simp only [Nat.add_zero] at p0
           have HXJ:=Hd_ hxj
           have hi00:((i:Int) > 0):=by omega
           clear hcj hxj ho9
           by_cases hlt2:p.1 < x.1
           · have hat:edAt g.vals.length g.edges i=true:=by rw [edAt,HX.out];simp [G4.out,HXJ.out,hlt2]
             have hge:decide (p.1 >= x.1)=false:=by simp;omega
             have HAT:=Hd_ hat
             clear hat
             go_wp2_with fail
             have q1:IntKind.i64.wrap ((i:Int) - 1)=(i:Int) - 1:=IntWalk.i64_in _ (by omega)
             have q2:0<=(i:Int) - 1:=by omega
             have q3:(i:Int) - 1 < (g.edges.length:Int):=by omega
             have q4:((i:Int) - 1).toNat=i - 1:=by omega
             refine wp_region_ext_lit (by kernel_rfl) (by kernel_rfl) ?_
             repeat (go_big_quiet_step ((go_at_call 91;exact Calls.ext_of (l3Edge_any A1 g.vals.length c1 _ x _ hlen))))
             refine wpQuiet_nil ?_
             rintro _ ⟨u2,rfl⟩
             clear q1 q2 q3 q4
             go_wp2_with fail
             go_roundw
             case rel =>
              obtain ⟨z,hz⟩:=hbx u2
              exact ⟨i+1,z,by omega,by go_num,range_all_succ HA.out HAT.out,hz⟩
             case measure=>simp [intOf];omega
           · have hfin:grOk g=false:=by
              rw [HGR.out,range_all_false hlt (by rw [edAt,HX.out];simp [G4.out,HXJ.out,hi0];omega)]
              rfl
             have hge:decide (p.1 >= x.1)=true:=by simp;omega
             have HF:=Hd_ hfin
             clear hfin
             go_wp2_with fail
             have q1:IntKind.i64.wrap ((i:Int) - 1)=(i:Int) - 1:=IntWalk.i64_in _ (by omega)
             have q2:0<=(i:Int) - 1:=by omega
             have q3:(i:Int) - 1 < (g.edges.length:Int):=by omega
             have q4:((i:Int) - 1).toNat=i - 1:=by omega
             refine wp_region_ext_lit (by kernel_rfl) (by kernel_rfl) ?_
             repeat (go_big_quiet_step ((go_at_call 91;exact Calls.ext_of (l3Edge_any A1 g.vals.length c1 _ x _ hlen))))
             refine wpQuiet_nil ?_
             rintro _ ⟨u2,rfl⟩
             clear q1 q2 q3 q4
             go_wp2_with fail
             go_ret
             exact ⟨by rw [HF.out];rfl,below_trans hb0 (below_trans (ext_below _ _) (ext_below _ _))⟩
     · obtain rfl:i=g.edges.length:=by omega
       have hgr:grOk g=(wi g.vals.length 1 5 && decide (g.edges.length<=12)):=by
        rw [grOk,HV.out,HA.out];rfl
       have HGR:=Hd_ hgr
       clear hgr HA HV
       cases g5:wi g.vals.length 1 5 with
       | false =>
         rw [g5] at HGR
         go_wp2_with (go_at_call 24;refine (HW.out _ _ _ _).mono ?_;rintro e w' ⟨rfl,rfl⟩)
         go_ret
         exact ⟨by rw [HGR.out];rfl,below_trans hb0 (ext_below _ _)⟩
       | true =>
         rw [g5] at HGR
         have HG5:=Hd_ g5
         by_cases g6:g.edges.length<=12
         · have g6':decide ((g.edges.length:Int)<=12)=true:=by simp;omega
           have hfin:grOk g=true:=by rw [HGR.out];simp [g6]
           have HF:=Hd_ hfin
           clear hfin HGR
           go_wp2_with (go_at_call 24;refine (HW.out _ _ _ _).mono ?_;rintro e w' ⟨rfl,rfl⟩)
           go_ret
           exact ⟨by rw [HF.out];rfl,below_trans hb0 (ext_below _ _)⟩
         · have g6':decide ((g.edges.length:Int)<=12)=false:=by simp;omega
           have hfin:grOk g=false:=by rw [HGR.out];simp [g6]
           have HF:=Hd_ hfin
           clear hfin HGR
           go_wp2_with (go_at_call 24;refine (HW.out _ _ _ _).mono ?_;rintro e w' ⟨rfl,rfl⟩)
           go_ret
           exact ⟨by rw [HF.out];rfl,below_trans hb0 (ext_below _ _)⟩
def goodB (g:Gr) (a:Au) (x s:Int):Bool:=grOk g && (auOk a && (wi x 0 ((g.vals.length:Int) - 1) && wi s 0 ((a.accept.length:Int) - 1)))
set_option maxHeartbeats 2000000 in
theorem l14Good_any (vg va:Value) (g:Gr) (a:Au) (x s:Int) (w:World) (hgv:GrV 0 w.heap.size w vg g) (hav:AuV 0 w.heap.size w va a) :
 Calls Tryz.prog 46 #[vg,va,.int .i64 x,.int .i64 s] w fun e w'=>e=.returned (.bool (goodB g a x s))/\Below w.heap.size w w':=by
 have hgv0:=hgv
 have hav0:=hav
 obtain ⟨A1,c1,A2,c2,rfl,hl1,hm1,hl2,hm2,-,-⟩:=hgv.form
 obtain ⟨ac,nx,rfl,hac,hnx⟩:=hav
 obtain ⟨A3,c3,rfl,hl3,hm3,-⟩:=SlE.form hac
 obtain ⟨A4,n4,c4,rfl⟩:=hnx.shape
 have hb0:Below w.heap.size w ((w.alloc (.cells #[.slice A1 g.vals.length c1,.slice A2 g.edges.length c2] 27)).alloc (.cells #[.int .i64 a.start,.slice A3 a.accept.length c3,.slice A4 n4 c4] 31)):=((Below.refl _ _).alloc (Nat.le_refl _) _).alloc (by simp) _
 have HGV:=Hd_ hgv0
 have HAV:=Hd_ hav0
 have HWI:=Hd_ l1In_any
 have HG:=Hd_ (show goodB g a x s=(grOk g && (auOk a && (wi x 0 ((g.vals.length:Int) - 1) && wi s 0 ((a.accept.length:Int) - 1)))) from rfl)
 clear hac hnx hgv0 hav0 hgv
 cases hgo:grOk g with
 | false =>
   have hfin:goodB g a x s=false:=by rw [HG.out,hgo];rfl
   have HF:=Hd_ hfin
   have hc:=specValidGraph _ g _ (HGV.out.keep hb0)
   rw [hgo] at hc
   have HC:=Hd_ hc
   clear hgo hfin hc
   go_enter Tryz.func46,Tryz.ntmps46
   go_wp2_with fail
   refine HC.out.mono ?_
   rintro e w1 ⟨rfl,hb1⟩
   go_wp2_with fail
   go_ret
   exact ⟨by rw [HF.out];rfl,below_trans hb0 hb1⟩
 | true =>
   have hc:=specValidGraph _ g _ (HGV.out.keep hb0)
   rw [hgo] at hc
   have HC:=Hd_ hc
   have HGO:=Hd_ hgo
   clear hgo hc
   cases hao:auOk a with
   | false =>
     have hfin:goodB g a x s=false:=by rw [HG.out,HGO.out,hao];rfl
     have HF:=Hd_ hfin
     have HAO:=Hd_ hao
     clear hao hfin
     go_enter Tryz.func46,Tryz.ntmps46
     go_wp2_with fail
     refine HC.out.mono ?_
     rintro e w1 ⟨rfl,hb1⟩
     obtain ⟨u1,rfl⟩:=ext_of hb1
     go_wp2_with fail
     refine (specValidAutomaton _ a _ (HAV.out.keep (below_trans hb0 hb1))).mono ?_
     rw [HAO.out]
     rintro e w2 ⟨rfl,hb2⟩
     go_wp2_with fail
     go_ret
     exact ⟨by rw [HF.out];rfl,below_trans (below_trans hb0 hb1) hb2⟩
   | true =>
     have HAO:=Hd_ hao
     clear hao
     go_enter Tryz.func46,Tryz.ntmps46
     go_wp2_with fail
     refine HC.out.mono ?_
     rintro e w1 ⟨rfl,hb1⟩
     obtain ⟨u1,rfl⟩:=ext_of hb1
     have hb3:=below_trans hb0 hb1
     clear hb1
     go_wp2_with fail
     refine (specValidAutomaton _ a _ (HAV.out.keep hb3)).mono ?_
     rw [HAO.out]
     rintro e w2 ⟨rfl,hb2⟩
     obtain ⟨u2,rfl⟩:=ext_of (below_trans (ext_below _ u1) hb2)
     have hb4:=below_trans hb3 hb2
     clear hb2 hb3
     have hfin:goodB g a x s=(wi x 0 ((g.vals.length:Int) - 1) && wi s 0 ((a.accept.length:Int) - 1)):=by rw [HG.out,HGO.out,HAO.out];rfl
     have HF:=Hd_ hfin
     clear hfin
     cases h1:wi x 0 ((g.vals.length:Int) - 1) with
     | false =>
       have H1:=Hd_ h1
       go_wp2_with (go_at_call 24;refine (HWI.out _ _ _ _).mono ?_;rintro e w1 ⟨rfl,rfl⟩)
       go_ret
       exact ⟨by rw [HF.out,H1.out];rfl,hb4⟩
     | true =>
       have H1:=Hd_ h1
       go_wp2_with (go_at_call 24;refine (HWI.out _ _ _ _).mono ?_;rintro e w1 ⟨rfl,rfl⟩)
       go_ret
       exact ⟨by rw [HF.out,H1.out];rfl,hb4⟩
theorem l14Letter_any (e:Ed) (b:Bool) (w:World) (h0:0<=e.2.2.2) (h2:e.2.2.2<=2) :
 Calls Tryz.prog 60 #[.agg #[.int .i64 e.1,.int .i64 e.2.1,.int .i64 e.2.2.1,.int .i64 e.2.2.2],.bool b] w fun en w'=>en=.returned (.int .i64 (arcLetter b e))/\Below w.heap.size w w':=by
 obtain ⟨a,f,t,l⟩:=e
 simp only at h0 h2 ⊢
 cases b
 all_goals
  go_enter Tryz.func60,Tryz.ntmps60
  go_wp2_with fail
  go_ret
  exact ⟨rfl,(Below.refl _ _).alloc (Nat.le_refl _) _⟩
theorem l14To_any (e:Ed) (b:Bool) (w:World) :
 Calls Tryz.prog 61 #[.agg #[.int .i64 e.1,.int .i64 e.2.1,.int .i64 e.2.2.1,.int .i64 e.2.2.2],.bool b] w fun en w'=>en=.returned (.int .i64 (arcTo b e))/\Below w.heap.size w w':=by
 obtain ⟨a,f,t,l⟩:=e
 cases b
 all_goals
  go_enter Tryz.func61,Tryz.ntmps61
  go_wp2_with fail
  go_ret
  exact ⟨rfl,(Below.refl _ _).alloc (Nat.le_refl _) _⟩
set_option maxHeartbeats 1000000 in
theorem l14Closure_any (v:Value) (a:Au) (s x:Nat) (w:World) (hv:AuV 0 w.heap.size w v a) (hok:auOk a=true) (hs:s < a.accept.length) (hx:x<=2) :
 Calls Tryz.prog 59 #[v,.int .i64 (s:Int),.int .i64 (x:Int)] w fun e w'=>e=.returned (.int .i64 (cls a x s:Int))/\Below w.heap.size w w':=by
 obtain ⟨A1,c1,A2,c2,rfl,hl1,hm1,hl2,hm2,hC⟩:=hv.form hok
 clear hv
 have hn12:a.accept.length<=12:=(auOk_iff.1 hok).1.2
 have hb0:Below w.heap.size w (w.alloc (.cells #[.int .i64 a.start,.slice A1 a.accept.length c1,.slice A2 a.accept.length c2] 31)):=(Below.refl _ _).alloc (Nat.le_refl _) _
 have HOK:=Hd_ hok
 have HC:=Hd_ hC
 obtain ⟨R,hR⟩:∃ R,R=cls a x s:=⟨_,rfl⟩
 rw [<- hR]
 have HR:=Hd_ hR
 clear hR hok hC
 go_enter Tryz.func59,Tryz.ntmps59
 go_wp2_with fail
 go_loop [1,7] (fun ss st=>∃ (f m:Nat) (s:Int),st=.int .i64 (m:Int)/\ss=.int .i64 s/\clsF a (6+x) f s m=R/\f+(mem 12 m).length=13/\m < 2 ^ a.accept.length/\s < (a.accept.length:Int)) (fun _ st=>13 - (mem 12 (intOf st).toNat).length)
 case atStart=>exact ⟨13,0,s,rfl,rfl,HR.out.symm,by simp [mem],Nat.two_pow_pos _,by omega⟩
 case round =>
  obtain ⟨f,m,s,rfl,rfl,hcl,hf,hm,hs⟩:=hrel
  have hm2:=lt12 HOK.out hm
  have hml:=mem_len 12 m
  have HCL:=Hd_ hcl
  have HFC:=Hd_ hf
  clear hcl hf
  by_cases h0:0<=s
  · obtain ⟨s,rfl⟩:=Int.eq_ofNat_of_zero_le h0
    have hs12:s < 12:=by omega
    have hsn:(s:Int) < (a.accept.length:Int):=hs
    obtain ⟨b2,o2,b3,o3,c3,hA2,hb2,d2,hl3,hm3,hb3,hc3⟩:=HC.out.row s (by omega)
    subst hA2
    have d3:=hc3 (6+x) (by omega)
    have hx9:(6:Int)+(x:Int) < 9:=by omega
    have e1:=shl_bit (s:=s) (by omega)
    have e2:=or_ins (m:=m) (s:=s) (by omega) (by omega)
    clear hc3
    cases hb:m.testBit s with
    | true =>
      have e3:=bit_on (by omega) (by omega) hb
      have hfin:m=R:=by rw [<- HCL.out];exact (clsF_stop (.inr (by simpa using hb))).symm
      have HF:=Hd_ hfin
      clear hfin hb h0
      go_wp2_with fail
      go_ret
      exact ⟨by rw [HF.out];rfl,hb0⟩
    | false =>
      have e3:=bit_off (by omega) (by omega) hb
      have HB:=Hd_ hb
      have hmv:=mv_lt HOK.out s (6+x)
      clear hb h0
      go_wp2_with fail
      go_round
      case rel =>
       have h1:=cnt_or (n:=12) (m:=m) hs12 HB.out
       have h2:=HFC.out
       obtain ⟨f,rfl⟩:∃ f',f=f'+1:=⟨f - 1,by omega⟩
       exact ⟨f,ins m s,_,rfl,rfl,by rw [<- HCL.out];exact (clsF_go HB.out).symm,by omega,ins_lt hm (by omega),by omega⟩
      case measure =>
       have h1:=cnt_or (n:=12) (m:=m) hs12 HB.out
       simp [intOf];omega
  · have hfin:m=R:=by rw [<- HCL.out];exact (clsF_stop (.inl (by omega))).symm
    have h0':decide (s >= 0)=false:=by simp;omega
    have HF:=Hd_ hfin
    clear hfin
    go_wp2_with fail
    go_ret
    exact ⟨by rw [HF.out];rfl,hb0⟩
def fromTo (g:Gr) (x:Int) (i:Nat):List St:=((g.edges.take i).flatMap (arcE x)).map (·.1)
theorem fromTo_len (g:Gr) (x:Int) (i:Nat):(fromTo g x i).length<=i * 2:=by
 unfold fromTo
 rw [List.length_map]
 have h1:=flat_len (arcE_len x) (g.edges.take i)
 rw [List.length_take] at h1
 have:min i g.edges.length * 2<=i * 2:=Nat.mul_le_mul_right 2 (Nat.min_le_left _ _)
 omega
theorem fromTo_succ {g:Gr} {x:Int} {i:Nat} {e:Ed} (he:g.edges[i]?=some e):fromTo g x (i+1)=(fromTo g x i ++ if e.2.1=x then [(e.1,false)] else []) ++ if e.2.2.1=x then [(e.1,true)] else []:=by
 unfold fromTo
 rw [flat_take he,List.map_append,List.append_assoc]
 congr 1
 unfold arcE
 by_cases h1:e.2.1=x <;> by_cases h2:e.2.2.1=x <;> simp [h1,h2]
theorem elStF:ElemOk Tryz.prog 37 66 (.agg #[.int .i64 0,.bool false]) 2 16:=⟨Tryz.underlying37,by kernel_rfl,rfl,by omega⟩
set_option maxHeartbeats 4000000 in
theorem l4From_any (vg:Value) (g:Gr) (x:Int) (w:World) (hgv:GrV 0 w.heap.size w vg g) (he12:g.edges.length<=12) :
 Calls Tryz.prog 33 #[vg,.int .i64 x] w fun e w'=>∃ v',e=.returned v'/\Own w.heap.size w'.heap.size w' 66 cSt 2 v' ((arcsOf g x).map (·.1))/\Below w.heap.size w w':=by
 obtain ⟨A1,c1,A2,c2,rfl,hl1,hm1,hl2,hm2,-,hC2⟩:=hgv.form
 have HC2:=Hd_ hC2
 have hb0:Below w.heap.size w (w.alloc (.cells #[.slice A1 g.vals.length c1,.slice A2 g.edges.length c2] 27)):=(Below.refl _ _).alloc (Nat.le_refl _) _
 obtain ⟨R,hR⟩:∃ R,R=(arcsOf g x).map (·.1):=⟨_,rfl⟩
 rw [<- hR]
 have HR:=Hd_ hR
 clear hgv hC2 hR
 go_enter Tryz.func33,Tryz.ntmps33
 go_wp2_with fail
 obtain ⟨W0,hW0⟩:∃ W0,W0=(w.alloc (.cells #[.slice A1 g.vals.length c1,.slice A2 g.edges.length c2] 27)):=⟨_,rfl⟩
 rw [<- hW0] at hb0 ⊢
 have x0:W0.cell? ⟨w.heap.size,1,none⟩=some (.slice A2 g.edges.length c2):=by rw [hW0];simp
 have hs0:w.heap.size+1=W0.heap.size:=by rw [hW0];simp
 rw [hs0]
 have l0:w.heap.size < W0.heap.size:=by omega
 clear hW0 hs0
 go_loopw [5,6] (fun out ii wr=>∃ i:Nat,i<=g.edges.length/\ii=.int .i64 (i:Int)/\wr.ownsRow W0.heap.size 66 2 out (fromTo g x i).length ((fromTo g x i).flatMap cSt)/\Below W0.heap.size W0 wr) (fun _ ii _=>g.edges.length - (intOf ii).toNat)
 case atStart=>exact ⟨0,Nat.zero_le _,rfl,World.ownsRow_lit W0 #[] 0 (Nat.le_refl _) (by decide) rfl,(Below.refl _ _).alloc (Nat.le_refl _) _⟩
 case round =>
  obtain ⟨i,hi,rfl,hrow,hbel⟩:=hrel
  have HROW:=Hd_ hrow
  have hlen:=fromTo_len g x i
  have x0:=kcell hbel x0
  have l1:=Nat.lt_of_lt_of_le l0 hbel.size
  have hsz:=hbel.size
  clear hrow
  by_cases hlt:i < g.edges.length
  · have hei:g.edges[i]?=some g.edges[i]:=List.getElem?_eq_getElem hlt
    generalize g.edges[i]=e at hei
    obtain ⟨b,o,rfl,hb,q0,q1,q2,-⟩:=HC2.out.ed hei
    have hbw:=below_trans hb0 hbel
    have q0:=kcell hbw q0
    have q1:=kcell hbw q1
    have q2:=kcell hbw q2
    have hsu:=fromTo_succ (x:=x) hei
    have HSU:=Hd_ hsu
    obtain ⟨eid,ef,et,el⟩:=e
    simp only at q0 q1 q2 HSU
    clear hei hsu hbw
    by_cases h1:ef=x <;> by_cases h2:et=x
    · have k1:(ef==x)=true:=by simpa using h1
      have k2:(et==x)=true:=by simpa using h2
      rw [if_pos h1,if_pos h2] at HSU
      clear h1 h2
      have tok1:True:=trivial
      go_wp2_with (first | (at_builtin;have _t:=tok1;(refine wpList_append1 cSt elStF rfl _ _ rfl W0.heap.size _ (fromTo g x i) (eid,false) _ 1 _ (by rfl) HROW.out (by rfl) rfl rfl rfl (cSt_one _) (by omega) (by omega) hsz ?_);intro v' w4 hrow' hb4 _ _;clear tok1;have HR4:=Hd_ hrow';clear hrow';have q0:=(hb4.cell (p:=⟨b,o+i * 4,none⟩) (by simp only;omega)).trans q0;have q2:=(hb4.cell (p:=⟨b,o+i * 4+2,none⟩) (by simp only;omega)).trans q2;have x0:=(hb4.cell (p:=⟨w.heap.size,1,none⟩) (by simp only;omega)).trans x0;have hsz4:=hb4.size) | (at_builtin;(refine wpList_append1 cSt elStF rfl _ _ rfl W0.heap.size _ (fromTo g x i ++ [(eid,false)]) (eid,true) _ 1 _ (by rfl) HR4.out (by rfl) rfl rfl rfl (cSt_one _) (by simp only [List.length_append,List.length_singleton];omega) (by omega) (by omega) ?_);intro v' w5 hrow' hb5 _ _))
      go_roundw
      case rel=>exact ⟨i+1,by omega,by go_num,by rw [HSU.out];exact hrow',(hbel.trans hb4).trans hb5⟩
      case measure=>simp [intOf];omega
    · have k1:(ef==x)=true:=by simpa using h1
      have k2:(et==x)=false:=by simpa using h2
      rw [if_pos h1,if_neg h2,List.append_nil] at HSU
      clear h1 h2
      go_wp2_with (at_builtin;(refine wpList_append1 cSt elStF rfl _ _ rfl W0.heap.size _ (fromTo g x i) (eid,false) _ 1 _ (by rfl) HROW.out (by rfl) rfl rfl rfl (cSt_one _) (by omega) (by omega) hsz ?_);intro v' w4 hrow' hb4 _ _;have HR4:=Hd_ hrow';clear hrow';have q2:=(hb4.cell (p:=⟨b,o+i * 4+2,none⟩) (by simp only;omega)).trans q2;have x0:=(hb4.cell (p:=⟨w.heap.size,1,none⟩) (by simp only;omega)).trans x0)
      go_roundw
      case rel=>exact ⟨i+1,by omega,by go_num,by rw [HSU.out];exact HR4.out,hbel.trans hb4⟩
      case measure=>simp [intOf];omega
    · have k1:(ef==x)=false:=by simpa using h1
      have k2:(et==x)=true:=by simpa using h2
      rw [if_neg h1,if_pos h2,List.append_nil] at HSU
      clear h1 h2
      go_wp2_with (at_builtin;(refine wpList_append1 cSt elStF rfl _ _ rfl W0.heap.size _ (fromTo g x i) (eid,true) _ 1 _ (by rfl) HROW.out (by rfl) rfl rfl rfl (cSt_one _) (by omega) (by omega) hsz ?_);intro v' w4 hrow' hb4 _ _)
      go_roundw
      case rel=>exact ⟨i+1,by omega,by go_num,by rw [HSU.out];exact hrow',hbel.trans hb4⟩
      case measure=>simp [intOf];omega
    · have k1:(ef==x)=false:=by simpa using h1
      have k2:(et==x)=false:=by simpa using h2
      rw [if_neg h1,if_neg h2,List.append_nil,List.append_nil] at HSU
      clear h1 h2
      go_wp2_with fail
      go_roundw
      case rel=>exact ⟨i+1,by omega,by go_num,by rw [HSU.out];exact HROW.out,hbel⟩
      case measure=>simp [intOf];omega
  · obtain rfl:i=g.edges.length:=by omega
    have hall:fromTo g x g.edges.length=R:=by rw [HR.out,fromTo,List.take_length];rfl
    have hown:=Own.of_row (xs:=fromTo g x g.edges.length) (ownsRow_mono HROW.out hb0.size) rfl rfl
    rw [hall] at hown
    have HO:=Hd_ hown
    clear hown hall
    go_wp2_with fail
    go_ret
    exact ⟨_,rfl,HO.out,below_trans hb0 hbel⟩
set_option maxHeartbeats 1000000 in
theorem specEdgeIndex (v:Value) (g:Gr) (id:Int) (w:World) (hv:GrV 0 w.heap.size w v g) :
 Calls Tryz.prog 58 #[v,.int .i64 id] w fun e w'=>e=.returned (.int .i64 (edgeIdx g id))/\Below w.heap.size w w':=by
 obtain ⟨vs,es,rfl,hvs,⟨A2,c2,rfl,hl2,hm2,hx2⟩⟩:=hv
 obtain ⟨A1,n1,c1,rfl⟩:=hvs.shape
 unfold maxLen at hm2
 have hb0:Below w.heap.size w (w.alloc (.cells #[.slice A1 n1 c1,.slice A2 g.edges.length c2] 27)):=(Below.refl _ _).alloc (Nat.le_refl _) _
 have HX:=Hd_ hx2
 clear hx2 hvs
 go_enter Tryz.func58,Tryz.ntmps58
 go_wp2_with fail
 go_loop [5] (fun ii=>∃ i:Nat,i<=g.edges.length/\ii=.int .i64 i/\∀ e ∈ g.edges.take i,¬ e.1=id) (fun ii=>g.edges.length - (intOf ii).toNat)
 case atStart=>exact ⟨0,Nat.zero_le _,rfl,by simp⟩
 case round =>
  obtain ⟨i,hi,rfl,hno⟩:=hrel
  have HN:=Hd_ hno
  clear hno
  by_cases hlt:i < g.edges.length
  · have hxi:g.edges[i]?=some g.edges[i]:=List.getElem?_eq_getElem hlt
    generalize g.edges[i]=x at hxi
    obtain ⟨b,o,rfl,-,hb,hc⟩:=HX.out i x hxi
    have c0:=hc 0 _ rfl
    simp only [Nat.add_zero] at c0
    have HXI:=Hd_ hxi
    clear hc hxi
    by_cases hp:x.1=id
    · have hq:(x.1==id)=true:=by simp [hp]
      have hres:edgeIdx g id=i:=edgeIdx_some HXI.out hp HN.out
      have HR:=Hd_ hres
      clear hres hp
      go_wp2_with fail
      go_ret
      exact ⟨by rw [HR.out];rfl,hb0⟩
    · have hq:(x.1==id)=false:=by simp [hp]
      have HP:=Hd_ hp
      clear hp
      go_wp2_with fail
      go_round
      case rel =>
       refine ⟨i+1,by omega,by go_num,fun y hy=>?_⟩
       rw [take_snoc HXI.out] at hy
       rcases List.mem_append.1 hy with hy | hy
       · exact HN.out y hy
       · obtain rfl:y=x:=by simpa using hy
         exact HP.out
      case measure=>simp [intOf];omega
  · obtain rfl:i=g.edges.length:=by omega
    have hres:edgeIdx g id=-1:=edgeIdx_none (fun x hx=>HN.out x (by rw [List.take_length];exact hx))
    have HR:=Hd_ hres
    clear hres
    go_wp2_with fail
    go_ret
    exact ⟨by rw [HR.out];rfl,hb0⟩
def cPS (p:PS):List Value:=[.int .i64 p.1.1,.bool p.1.2,.int .i64 p.2.1,.int .i64 p.2.2]
theorem cPS_len (p:PS):(cPS p).length=4:=rfl
theorem cPS_one (p:PS):∀ u ∈ cPS p,u.oneCell'=true:=by intro u hu;simp only [cPS,List.mem_cons,List.not_mem_nil,or_false] at hu;rcases hu with rfl | rfl | rfl | rfl <;> rfl
theorem SlI.st {lo hi:Nat} {w:World} {A:Option Addr} {n c:Nat} {xs:List St} (h:SlI lo hi w cSt 2 (.slice A n c) xs) {i:Nat} {x:St} (hx:xs[i]?=some x) :
 ∃ b o,A=some ⟨b,o,none⟩/\lo<=b/\b < hi/\w.cell? ⟨b,o+i * 2,none⟩=some (.int .i64 x.1)/\w.cell? ⟨b,o+i * 2+1,none⟩=some (.bool x.2):=by
 obtain ⟨A',c',hv,_,_,h3⟩:=h
 injection hv with h1 _ _
 subst h1
 obtain ⟨b,o,e,g1,g2,hc⟩:=h3 i x hx
 exact ⟨b,o,e,g1,g2,by simpa using hc 0 _ rfl,hc 1 _ rfl⟩
theorem nc4 {W wE:World} {c0 c1 c2 c3:Value} {t:TypeId} {n:Nat} (h:Below (W.alloc (.cells #[c0,c1,c2,c3] t)).drew.heap.size (W.alloc (.cells #[c0,c1,c2,c3] t)).drew wE) (hn:W.heap.size=n) :
 wE.cell? ⟨n,0,none⟩=some c0/\wE.cell? ⟨n,1,none⟩=some c1/\wE.cell? ⟨n,2,none⟩=some c2/\wE.cell? ⟨n,3,none⟩=some c3/\wE.frozen? ⟨n,0,none⟩=false/\wE.frozen? ⟨n,1,none⟩=false/\wE.frozen? ⟨n,2,none⟩=false/\wE.frozen? ⟨n,3,none⟩=false:=by
 subst hn
 have g:∀ i,(W.alloc (.cells #[c0,c1,c2,c3] t)).drew.frozen? ⟨W.heap.size,i,none⟩=false:=fun i=>by show (W.alloc (.cells #[c0,c1,c2,c3] t)).frozen? _=false;rw [frozen?_alloc_cells];simp [World.frozen?]
 have k0:(W.alloc (.cells #[c0,c1,c2,c3] t)).drew.cell? ⟨W.heap.size,0,none⟩=some c0:=by simp
 have k1:(W.alloc (.cells #[c0,c1,c2,c3] t)).drew.cell? ⟨W.heap.size,1,none⟩=some c1:=by simp
 have k2:(W.alloc (.cells #[c0,c1,c2,c3] t)).drew.cell? ⟨W.heap.size,2,none⟩=some c2:=by simp
 have k3:(W.alloc (.cells #[c0,c1,c2,c3] t)).drew.cell? ⟨W.heap.size,3,none⟩=some c3:=by simp
 exact ⟨kcell h k0,kcell h k1,kcell h k2,kcell h k3,kfb h k0 (g 0),kfb h k1 (g 1),kfb h k2 (g 2),kfb h k3 (g 3)⟩
theorem Only.grown {lo hi:Nat} {a w w':World} {row:Option Nat} (h:Only lo hi a w) (hg:w.grownBy w' row) (hr:∀ b,row=some b->(lo<=b/\b < hi) ∨ a.heap.size<=b):Only lo hi a w' :=
 ⟨hg.os.trans h.os,hg.tape.trans h.tape,hg.output.trans h.output,Nat.le_trans h.size hg.size,fun n hn ho=>(hg.block n (Nat.lt_of_lt_of_le hn h.size) (fun e=>by have:=hr n e.symm;omega)).trans (h.block n hn ho)⟩
theorem elPS:ElemOk Tryz.prog 105 108 (.agg #[.int .i64 0,.bool false,.int .i64 0,.int .i64 0]) 4 32:=⟨Tryz.underlying105,by kernel_rfl,rfl,by omega⟩
set_option maxHeartbeats 8000000 in
set_option maxRecDepth 100000 in
theorem l14Steps_any (vg va:Value) (g:Gr) (a:Au) (x s:Nat) (w:World) (hgv:GrV 0 w.heap.size w vg g) (hav:AuV 0 w.heap.size w va a) (hgo:grOk g=true) (ha:auOk a=true) (hx:x < g.vals.length) (hs:s < a.accept.length) :
 Calls Tryz.prog 57 #[vg,va,.int .i64 (x:Int),.int .i64 (s:Int)] w fun e w'=>∃ v',e=.returned v'/\Own w.heap.size w'.heap.size w' 108 cPS 4 v' (prodSteps g a x s)/\Below w.heap.size w w':=by
 have hg:=grOk_iff.1 hgo
 have hav0:=hav
 have hgv0:=hgv
 obtain ⟨A1,c1,A2,c2,rfl,hl1,hm1,hl2,hm2,hC1,hC2⟩:=hgv.form
 obtain ⟨A3,c3,A4,c4,rfl,hl3,hm3,hl4,hm4,hAC⟩:=hav.form ha
 have hn5:=hg.n5
 have he12:=hg.e12
 have hn12:=(auOk_iff.1 ha).1.2
 have hxi:g.vals[x]?=some g.vals[x]:=List.getElem?_eq_getElem hx
 have hvr:=hg.vals _ (List.getElem_mem hx)
 generalize g.vals[x]=vx at hxi hvr
 obtain ⟨vx,rfl⟩:=Int.eq_ofNat_of_zero_le hvr.1
 have hva:=valAt_of hxi
 rw [Int.toNat_natCast] at hva
 obtain ⟨b1,o1,rfl,hb1,d1⟩:=hC1.int hxi
 have hcl:=cls_lt ha vx s hs
 have hcl4:=lt12 ha hcl
 have HGO:=Hd_ hg
 have HGB:=Hd_ hgo
 have HAO:=Hd_ ha
 have HAV:=Hd_ hav0
 have HGV:=Hd_ hgv0
 have HAC:=Hd_ hAC
 have HC2:=Hd_ hC2
 have HVA:=Hd_ hva
 have hb0:Below w.heap.size w ((w.alloc (.cells #[.slice (some ⟨b1,o1,none⟩) g.vals.length c1,.slice A2 g.edges.length c2] 27)).alloc (.cells #[.int .i64 a.start,.slice A3 a.accept.length c3,.slice A4 a.accept.length c4] 31)):=((Below.refl _ _).alloc (Nat.le_refl _) _).alloc (by simp) _
 have hxx:(x:Int) < (g.vals.length:Int):=by omega
 obtain ⟨R,hR⟩:∃ R,R=prodSteps g a x s:=⟨_,rfl⟩
 rw [<- hR]
 have HR:=Hd_ hR
 clear hgv hav ha hg hgo hav0 hgv0 hva hxi hC1 hC2 hAC hR
 go_enter Tryz.func57,Tryz.ntmps57
 go_wp2_with fail
 obtain ⟨W0,hW0⟩:∃ W0,W0=((w.alloc (.cells #[.slice (some ⟨b1,o1,none⟩) g.vals.length c1,.slice A2 g.edges.length c2] 27)).alloc (.cells #[.int .i64 a.start,.slice A3 a.accept.length c3,.slice A4 a.accept.length c4] 31)):=⟨_,rfl⟩
 rw [<- hW0] at hb0 ⊢
 have x0:W0.cell? ⟨w.heap.size,0,none⟩=some (.slice (some ⟨b1,o1,none⟩) g.vals.length c1):=by rw [hW0];simp
 have x1:W0.cell? ⟨w.heap.size,1,none⟩=some (.slice A2 g.edges.length c2):=by rw [hW0];simp
 have y0:W0.cell? ⟨w.heap.size+1,0,none⟩=some (.int .i64 a.start):=by rw [hW0];simp
 have y1:W0.cell? ⟨w.heap.size+1,1,none⟩=some (.slice A3 a.accept.length c3):=by rw [hW0];simp
 have y2:W0.cell? ⟨w.heap.size+1,2,none⟩=some (.slice A4 a.accept.length c4):=by rw [hW0];simp
 have d1:=kcell hb0 d1
 have hs0:w.heap.size+1+1=W0.heap.size:=by rw [hW0];simp
 rw [hs0]
 have l0:w.heap.size+1 < W0.heap.size:=by omega
 have l00:w.heap.size < W0.heap.size:=by omega
 have hb1W:b1 < W0.heap.size:=by omega
 clear hW0 hs0
 have hbL:Below W0.heap.size W0 (W0.alloc (.cells #[] 108)):=(Below.refl _ _).alloc (Nat.le_refl _) _
 refine wp_region_ext_lit (by kernel_rfl) (by kernel_rfl) ?_
 repeat (go_big_quiet_step ((go_at_call 59;exact Calls.ext_of (l14Closure_any _ a s vx _ (HAV.out.keep (below_trans hb0 (below_trans hbL (ext_below _ _)))) HAO.out hs (by omega)))))
 refine wpQuiet_nil ?_
 rintro _ ⟨u2,rfl⟩
 have hbX:=below_trans hbL (ext_below (W0.alloc (.cells #[] 108)) u2)
 have hrow0:=ownsRow_below (World.ownsRow_lit (base:=W0.heap.size) (e:=108) (size:=4) W0 #[] 0 (Nat.le_refl _) (by decide) rfl) (ext_below (W0.alloc (.cells #[] 108)) u2) (Nat.le_refl _)
 generalize (ext (W0.alloc (.cells #[] 108)) u2)=WX at hbX hrow0 ⊢
 have HROW0:=Hd_ hrow0
 have x0:=kcell hbX x0
 have x1:=kcell hbX x1
 clear hrow0 hbL
 go_wp2_with fail
 refine (l4From_any _ g (x:Int) _ (HGV.out.keep (below_trans hb0 hbX)) he12).mono ?_
 rintro e W1 ⟨v1,rfl,ho1,hb2⟩
 obtain ⟨A5,c5,rfl,hl5,hm5,-⟩:=ho1.form cSt_len
 have hoI:=ho1.sl cSt_len
 have hlen5:((arcsOf g (x:Int)).map (·.1)).length=(arcsOf g (x:Int)).length:=by simp
 rw [hlen5] at hl5 hoI ⊢
 have hAL:=arcs_len HGO.out (x:Int)
 have hbW1:=below_trans hbX hb2
 have hbw1:=below_trans hb0 hbW1
 have x0:=kcell hb2 x0
 have x1:=kcell hb2 x1
 have y0:=kcell hbW1 y0
 have y1:=kcell hbW1 y1
 have y2:=kcell hbW1 y2
 have hsX:=hbX.size
 have hs2:=hb2.size
 have hrow1:=ownsRow_below HROW0.out hb2 (Nat.le_refl _)
 have HROW:=Hd_ hrow1
 have HOI:=Hd_ hoI
 have HBX:=Hd_ hbX
 have hgX:W0.heap.size < WX.heap.size:=(HROW0.out.lt _ rfl).2
 have Y1W:=Hd_ y1
 clear hlen5 hbX hb2 hrow1 hoI ho1 HROW0
 go_wp2_with fail
 go_loopw [9,12] (fun out ii wr=>∃ i:Nat,i<=(arcsOf g (x:Int)).length/\ii=.int .i64 (i:Int)/\wr.ownsRow W0.heap.size 108 4 out (((arcsOf g (x:Int)).take i).flatMap (psA g a x s)).length ((((arcsOf g (x:Int)).take i).flatMap (psA g a x s)).flatMap cPS) /\
  Only W0.heap.size WX.heap.size W1 wr/\(∀ b,out.ownBlock=some b->b < WX.heap.size ∨ W1.heap.size<=b)) (fun _ ii _=>(arcsOf g (x:Int)).length - (intOf ii).toNat)
 case atStart=>exact ⟨0,Nat.zero_le _,rfl,by simpa using HROW.out,Only.refl _ _ _,fun b hb=>by injection hb with hb;subst hb;exact .inl hgX⟩
 case round =>
  clear HROW
  obtain ⟨i,hi,rfl,hrow,hon,hout⟩:=hrel
  have HROW:=Hd_ hrow
  have HOUT:=Hd_ hout
  clear hrow hout
  by_cases hlt:i < (arcsOf g (x:Int)).length
  · have hyi:(arcsOf g (x:Int))[i]?=some (arcsOf g (x:Int))[i]:=List.getElem?_eq_getElem hlt
    have hyr:=arc_range HGO.out (List.getElem_mem hlt)
    obtain ⟨ix,e,hix,hei,hy1,hy2,-,hem⟩:=arc_edge HGO.out (List.getElem_mem hlt)
    generalize (arcsOf g (x:Int))[i]=y at hyi hyr hix hy1 hy2
    have hli:((arcsOf g (x:Int)).map (·.1))[i]?=some y.1:=by rw [List.getElem?_map,hyi];rfl
    obtain ⟨⟨yid,yinv⟩,yl,yt⟩:=y
    simp only at hyr hix hy1 hy2 hli
    obtain ⟨b5,o5,rfl,hlo5,hb5,p0,p1⟩:=HOI.out.st hli
    have P0:=Hd_ (show W1.cell? ⟨b5,o5+i * 2,none⟩=some (.int .i64 yid) from p0)
    have P1:=Hd_ (show W1.cell? ⟨b5,o5+i * 2+1,none⟩=some (.bool yinv) from p1)
    have p0:=ocell hon p0 hb5 (.inr hlo5)
    have p1:=ocell hon p1 hb5 (.inr hlo5)
    simp only at p0 p1
    obtain ⟨b6,o6,rfl,hb6,q0,q1,q2,q3⟩:=HC2.out.ed hei
    have q0:=ocell hon (kcell hbw1 q0) (Nat.lt_of_lt_of_le hb6 hbw1.size) (.inl (by have:=hb0.size;omega))
    have q1:=ocell hon (kcell hbw1 q1) (Nat.lt_of_lt_of_le hb6 hbw1.size) (.inl (by have:=hb0.size;omega))
    have q2:=ocell hon (kcell hbw1 q2) (Nat.lt_of_lt_of_le hb6 hbw1.size) (.inl (by have:=hb0.size;omega))
    have q3:=ocell hon (kcell hbw1 q3) (Nat.lt_of_lt_of_le hb6 hbw1.size) (.inl (by have:=hb0.size;omega))
    have x0:=ocell hon x0 (by omega) (.inl (by omega))
    have x1:=ocell hon x1 (by omega) (.inl (by omega))
    have y0:=ocell hon y0 (by omega) (.inl (by omega))
    have y1:=ocell hon y1 (by omega) (.inl (by omega))
    have y2:=ocell hon y2 (by omega) (.inl (by omega))
    have hel:=HGO.out.edges e hem
    have hixl:ix < g.edges.length:=(List.getElem?_eq_some_iff.1 hei).1
    have hixi:(ix:Int) < (g.edges.length:Int):=by omega
    have hii:(i:Int) < ((arcsOf g (x:Int)).length:Int):=by omega
    obtain ⟨eid,ef,et,el⟩:=e
    simp only at q0 q1 q2 q3 hel
    obtain ⟨-,-,-,hl0,hl2e⟩:=hel
    have hbwr:Below w.heap.size w wr:=hbw1.trans (hon.below (by have:=hb0.size;omega) (by have:=hbw1.size;omega))
    have hei2:∀ W,Below w.heap.size w W->Calls Tryz.prog 58 #[.agg #[.slice (some ⟨b1,o1,none⟩) g.vals.length c1,.slice (some ⟨b6,o6,none⟩) g.edges.length c2],.int .i64 yid] W fun e w'=>e=.returned (.int .i64 (ix:Int))/\Below W.heap.size W w':=fun W hW=>by
     have h:=specEdgeIndex _ g yid W (HGV.out.keep hW)
     rwa [hix] at h
    have HEI:=Hd_ hei2
    have HYI:=Hd_ hyi
    have HY1:=Hd_ hy1
    have HY2:=Hd_ hy2
    have HLI:=Hd_ hli
    have HBWR:=Hd_ hbwr
    have ne0:=World.new_ne wr _ x0
    have ne1:=World.new_ne wr _ q0
    have ne2:=World.new_ne wr _ p0
    clear hei2 hyi hy1 hy2 hli hix hem hbwr
    go_upto_region 7 with fail
    go_cut [13] (fun s13 wx=>∃ eb,s13=.pointer (some ⟨eb,0,none⟩)/\wr.heap.size<=eb/\eb < wx.heap.size/\wx.cell? ⟨eb,0,none⟩=some (.int .i64 eid)/\wx.cell? ⟨eb,1,none⟩=some (.int .i64 ef)/\wx.cell? ⟨eb,2,none⟩=some (.int .i64 et)/\wx.cell? ⟨eb,3,none⟩=some (.int .i64 el)/\Below wr.heap.size wr wx)
    case first =>
     go_region_held3 (fun w'=>w'.cell? ⟨w.heap.size,0,none⟩=some (.slice (some ⟨b1,o1,none⟩) g.vals.length c1)/\w'.cell? ⟨w.heap.size,1,none⟩=some (.slice (some ⟨b6,o6,none⟩) g.edges.length c2)/\w'.cell? ⟨b5,o5+i * 2,none⟩=some (.int .i64 yid)/\w'.cell? ⟨b6,o6+ix * 4,none⟩=some (.int .i64 eid)/\w'.cell? ⟨b6,o6+ix * 4+1,none⟩=some (.int .i64 ef)/\w'.cell? ⟨b6,o6+ix * 4+2,none⟩=some (.int .i64 et)/\w'.cell? ⟨b6,o6+ix * 4+3,none⟩=some (.int .i64 el))
      (first | (with_reducible exact kS7 ne0 ne0 ne2 ne1 ne1 ne1 ne1 (kS7 ne0 ne0 ne2 ne1 ne1 ne1 ne1 (kS7 ne0 ne0 ne2 ne1 ne1 ne1 ne1 (kS7 ne0 ne0 ne2 ne1 ne1 ne1 ne1 (by assumption))))) | (exact ⟨x0,x1,p0,q0,q1,q2,q3⟩) | assumption | (exact kB7 hbE ⟨x0,x1,p0,q0,q1,q2,q3⟩) | (exact kA7 _ ⟨x0,x1,p0,q0,q1,q2,q3⟩) | (exact kA7 _ (kB7 hbE ⟨x0,x1,p0,q0,q1,q2,q3⟩)) | (exact kB7 hbE (kA7 _ ⟨x0,x1,p0,q0,q1,q2,q3⟩)) | (exact kB7 hbE (by assumption)) | (exact kA7 _ (by assumption)) | go_keep)
      (first | (go_at_call 58;refine (HEI.out _ (by first | exact HBWR.out.drew | exact (HBWR.out.drew).alloc (by have:=HBWR.out.size;simpa using this) _)).mono ?_;rintro en wE ⟨rfl,hbE⟩;have n0:=World.new_ne wE _ (kcell hbE (by first | exact x0 | exact kcell ((Below.refl _ _).alloc (Nat.le_refl _) _) x0));have n1:=World.new_ne wE _ (kcell hbE (by first | exact q0 | exact kcell ((Below.refl _ _).alloc (Nat.le_refl _) _) q0));have n2:=World.new_ne wE _ (kcell hbE (by first | exact p0 | exact kcell ((Below.refl _ _).alloc (Nat.le_refl _) _) p0)));(first | (have NC:=nc4 hbE (n:=wr.heap.size) rfl;obtain ⟨t0,t1,t2,t3,f0,f1,f2,f3⟩:=NC) | skip))
     all_goals (go_wp2_with fail)
     · go_meet
       exact ⟨_,rfl,hbE.size,by simp,by simp,by simp,by simp,by simp,(below_trans ((Below.refl wr.heap.size wr).drew) hbE).alloc hbE.size _⟩
     · go_meet
       have h9:=hbE.size
       have h8:wr.heap.size < wE.heap.size:=Nat.lt_of_lt_of_le (by simp) h9
       have h7:Below wr.heap.size wr wE:=below_trans (((Below.refl wr.heap.size wr).alloc (Nat.le_refl _) _).drew) hbE
       exact ⟨_,rfl,Nat.le_refl _,by simpa using h8,by go_simp,by go_simp,by go_simp,by go_simp,(((h7.setCell (Nat.le_refl _) _).setCell (Nat.le_refl _) _).setCell (Nat.le_refl _) _).setCell (Nat.le_refl _) _⟩
    case rest =>
     obtain ⟨eb,rfl,hlo,hhi,e0,e1,e2,e3,hbc⟩:=hcut
     obtain ⟨wo,hwo⟩:∃ wo:World,wo=wr:=⟨_,rfl⟩
     have y1:=kcell hbc y1
     have y2:=kcell hbc y2
     have p0:=kcell hbc p0
     have p1:=kcell hbc p1
     have hbw:=below_trans HBWR.out hbc
     have hsz:=hbc.size
     have hsr:=HBWR.out.size
     have hs0:=hb0.size
     have hs1:=hbw1.size
     have hos:=hon.size
     have bl5:b5 < wc.heap.size:=by omega
     have bly:w.heap.size+1 < wc.heap.size:=by omega
     have blw:w.heap.size<=wc.heap.size:=by omega
     obtain ⟨⟨hyl0,hyl5⟩,-,-⟩:=hyr
     obtain ⟨l,rfl⟩:=Int.eq_ofNat_of_zero_le hyl0
     have hl6:l < 9:=by omega
     have hlz:(l:Int) < 9:=by omega
     have hyl:((⟨(yid,yinv),(l:Int),yt⟩:Arc)).2.1.toNat=l:=by simp
     have hlet:∀ W,Calls Tryz.prog 60 #[.agg #[.int .i64 eid,.int .i64 ef,.int .i64 et,.int .i64 el],.bool yinv] W fun en w'=>en=.returned (.int .i64 (l:Int))/\Below W.heap.size W w':=fun W=>by
      have h:=l14Letter_any (eid,ef,et,el) yinv W hl0 hl2e
      rwa [<- HY1.out] at h
     have HLET:=Hd_ hlet
     have HBW:=Hd_ hbw
     have HON:=Hd_ hon
     clear hlet hbw hon hsr hos hyl0 hyl5 hl0 hl2e
     go_wp2_with fail
     go_loopw [14,15] (fun mm qq w2=>∃ (q:Nat) (u:World),q<=a.accept.length/\qq=.int .i64 (q:Int)/\mm=.int .i64 (foldTo a l (cls a vx s) q:Nat)/\w2=ext wc u) (fun _ qq _=>a.accept.length - (intOf qq).toNat)
     case atStart=>exact ⟨0,wc,Nat.zero_le _,rfl,rfl,ext_self _⟩
     case round =>
      obtain ⟨q,u,hq,rfl,rfl,rfl⟩:=hrel
      by_cases hlq:q < a.accept.length
      · obtain ⟨b,o,b3,o3,c3',rfl,hbb,hrw,-,-,hb3,hmvs⟩:=HAC.out.row q hlq
        have r0:=kcell HBW.out hrw
        have r1:=kcell HBW.out (hmvs l hl6)
        have hbb':b < wc.heap.size:=by omega
        have hb3':b3 < wc.heap.size:=by omega
        have hlqi:(q:Int) < (a.accept.length:Int):=by omega
        have hft:=foldTo_lt HAO.out l (cls a vx s) q
        have hft4:=lt12 HAO.out hft
        have hmv:=mv_lt HAO.out q l
        have HNX:=Hd_ (show foldTo a l (cls a vx s) (q+1)=if (cls a vx s).testBit q=true then aft1 a l (foldTo a l (cls a vx s) q) q else foldTo a l (cls a vx s) q by by_cases hb:(cls a vx s).testBit q=true;rw [if_pos hb,foldTo_yes hb];rw [if_neg hb,foldTo_no (by simpa using hb)])
        have HA:=Hd_ (show aft1 a l (foldTo a l (cls a vx s) q) q=if 0<=mv a q l then ins (foldTo a l (cls a vx s) q) (mv a q l).toNat else foldTo a l (cls a vx s) q from rfl)
        generalize foldTo a l (cls a vx s) q=m0 at *
        clear hrw hmvs hft
        go_wp2_with fail
        refine wp_region_ext_lit (by kernel_rfl) (by kernel_rfl) ?_
        repeat (go_big_quiet_step ((go_at_call 60;exact Calls.ext_of (HLET.out _))))
        refine wpQuiet_nil ?_
        rintro _ ⟨u2,rfl⟩
        obtain ⟨u3,hu3⟩:=ext_of (below_trans (ext_below wc u) (ext_below (ext wc u) u2))
        rw [hu3]
        cases hb:(cls a vx s).testBit q with
        | false =>
          have b1f:=bit_off (by omega) (by omega) hb
          have HR:=Hd_ (show m0=foldTo a l (cls a vx s) (q+1) by rw [HNX.out,if_neg (by simp [hb])])
          clear hb
          go_wp2_with fail
          go_roundw
          case rel=>exact ⟨q+1,u3,by omega,by go_num,by rw [<- HR.out],rfl⟩
          case measure=>simp [intOf];omega
        | true =>
          have b1t:=bit_on (by omega) (by omega) hb
          have HNX:=Hd_ (HNX.out.trans (if_pos hb))
          clear hb
          by_cases h0:0<=mv a q l
          · have HR:=Hd_ (show ins m0 (mv a q l).toNat=foldTo a l (cls a vx s) (q+1) by rw [HNX.out,HA.out,if_pos h0])
            generalize mv a q l=z at *
            obtain ⟨z,rfl⟩:=Int.eq_ofNat_of_zero_le h0
            have e1':=shl_bit (s:=z) (by omega)
            have e2':=or_ins (m:=m0) (s:=z) (by omega) (by omega)
            go_wp2_with fail
            go_roundw
            case rel=>exact ⟨q+1,u3,by omega,by go_num,by rw [<- HR.out];simp,rfl⟩
            case measure=>simp [intOf];omega
          · have HR:=Hd_ (show m0=foldTo a l (cls a vx s) (q+1) by rw [HNX.out,HA.out,if_neg h0])
            have h0':decide (mv a q l >= 0)=false:=by simp;omega
            go_wp2_with fail
            go_roundw
            case rel=>exact ⟨q+1,u3,by omega,by go_num,by rw [<- HR.out],rfl⟩
            case measure=>simp [intOf];omega
      · obtain rfl:q=a.accept.length:=by omega
        have hyt:∀ W,Calls Tryz.prog 61 #[.agg #[.int .i64 eid,.int .i64 ef,.int .i64 et,.int .i64 el],.bool yinv] W fun en w'=>en=.returned (.int .i64 yt)/\Below W.heap.size W w':=fun W=>by
         have h:=l14To_any (eid,ef,et,el) yinv W
         rwa [<- HY2.out] at h
        have HTO:=Hd_ hyt
        have hps:psA g a x s ((yid,yinv),(l:Int),yt)=(mem a.accept.length (foldTo a l (cls a vx s) a.accept.length)).map fun (q:Nat)=>((yid,yinv),yt,(q:Int)):=by
         unfold psA
         rw [foldTo_all HAO.out hs,HVA.out]
         simp only [Int.toNat_natCast]
         rw [mem12 HAO.out (aft_lt HAO.out _ _ _)]
        have hmlt:=foldTo_lt HAO.out l (cls a vx s) a.accept.length
        have hm4:=lt12 HAO.out hmlt
        generalize foldTo a l (cls a vx s) a.accept.length=M at *
        have HPS:=Hd_ hps
        have hsu:wc.heap.size<=(ext wc u).heap.size:=ext_size wc u
        have hx0:((((arcsOf g (x:Int)).take i).flatMap (psA g a x s))).length<=288:=by
         have h2:=flat_len (psA_len g a x s) ((arcsOf g (x:Int)).take i)
         have h3:((arcsOf g (x:Int)).take i).length<=24:=by rw [List.length_take];omega
         omega
        have hbu:=below_trans hbc (ext_below wc u)
        have hrow3:=ownsRow_below HROW.out hbu (Nat.le_refl _)
        have hon3:=HON.out.trans (Only.of_below hbu W0.heap.size WX.heap.size)
        have hout3:∀ b,u9.ownBlock=some b->b < wo.heap.size ∨ (ext wc u).heap.size<=b:=fun b hb=>.inl (by rw [hwo];exact (HROW.out.lt b hb).2)
        have f0:=kcell (ext_below wc u) e0
        have f1:=kcell (ext_below wc u) e1
        have f2:=kcell (ext_below wc u) e2
        have f3:=kcell (ext_below wc u) e3
        have hle:wo.heap.size<=(ext wc u).heap.size:=by rw [hwo];exact hbu.size
        have hebE:eb < (ext wc u).heap.size:=Nat.lt_of_lt_of_le hhi hsu
        have hloe:wo.heap.size<=eb:=by rw [hwo];assumption
        have y1:=kcell (ext_below wc u) y1
        generalize ext wc u=wE at *
        have HROW3:=Hd_ hrow3
        have HON3:=Hd_ hon3
        have HOUT3:=Hd_ hout3
        clear hps hyt hbu hrow3 hon3 hout3
        obtain ⟨XS,hXS⟩:∃ XS,XS=((arcsOf g (x:Int)).take i).flatMap (psA g a x s):=⟨_,rfl⟩
        rw [<- hXS] at hx0 HROW3
        have HXS:=Hd_ hXS
        clear hXS
        go_wp2_with fail
        go_loopw [9,17] (fun vv qq w3=>∃ q:Nat,q<=a.accept.length/\qq=.int .i64 (q:Int)/\w3.ownsRow W0.heap.size 108 4 vv (XS ++ (mem q M).map (fun (q:Nat)=>(((yid,yinv),yt,(q:Int)):PS))).length ((XS ++ (mem q M).map (fun (q:Nat)=>(((yid,yinv),yt,(q:Int)):PS))).flatMap cPS)/\Only W0.heap.size WX.heap.size W1 w3/\Only 0 wo.heap.size wE w3/\(∀ b,vv.ownBlock=some b->b < WX.heap.size ∨ W1.heap.size<=b)/\(∀ b,vv.ownBlock=some b->b < wo.heap.size ∨ wE.heap.size<=b)) (fun _ qq _=>a.accept.length - (intOf qq).toNat)
        case atStart=>exact ⟨0,Nat.zero_le _,rfl,by rw [show mem 0 M=[] from rfl,List.map_nil,List.append_nil];exact HROW3.out,HON3.out,Only.refl _ _ _,HOUT.out,HOUT3.out⟩
        case round =>
         obtain ⟨q,hq,rfl,hrw,hn1,hn2,ho1,ho2⟩:=hrel
         have y1:=ocell hn1 Y1W.out (by omega) (.inl (by omega))
         have p0:=ocell hn1 P0.out hb5 (.inr hlo5)
         have p1:=ocell hn1 P1.out hb5 (.inr hlo5)
         have f0:=ocell hn2 f0 hebE (.inr hloe)
         have f1:=ocell hn2 f1 hebE (.inr hloe)
         have f2:=ocell hn2 f2 hebE (.inr hloe)
         have f3:=ocell hn2 f3 hebE (.inr hloe)
         have hz1:=hn1.size
         have hz2:=hn2.size
         have HRW:=Hd_ hrw
         have HN1:=Hd_ hn1
         have HN2:=Hd_ hn2
         have HO1:=Hd_ ho1
         have HO2:=Hd_ ho2
         clear hrw hn1 hn2 ho1 ho2
         by_cases hlq:q < a.accept.length
         · cases hb:M.testBit q with
           | false =>
             have b1f:=bit_off (by omega) (by omega) hb
             have HM:=Hd_ (mem_no hb)
             clear hb
             go_wp2_with fail
             go_roundw
             case rel=>exact ⟨q+1,by omega,by go_num,by rw [HM.out];exact HRW.out,HN1.out,HN2.out,HO1.out,HO2.out⟩
             case measure=>simp [intOf];omega
           | true =>
             have b1t:=bit_on (by omega) (by omega) hb
             have hxq:(XS ++ (mem q M).map (fun (q:Nat)=>(((yid,yinv),yt,(q:Int)):PS))).length<=301:=by
              have:=mem_len q M
              rw [List.length_append,List.length_map]
              omega
             have HM:=Hd_ (show (XS ++ (mem q M).map (fun (q:Nat)=>(((yid,yinv),yt,(q:Int)):PS))) ++ [(((yid,yinv),yt,(q:Int)):PS)]=XS ++ (mem (q+1) M).map (fun (q:Nat)=>(((yid,yinv),yt,(q:Int)):PS)) by rw [mem_yes hb,List.map_append,List.append_assoc];rfl)
             clear hb
             generalize XS ++ (mem q M).map (fun (q:Nat)=>(((yid,yinv),yt,(q:Int)):PS))=XQ at *
             have N5:=Ne.symm (α:=Option Nat) (mt (HO1.out b5) (by omega))
             have NE:=Ne.symm (α:=Option Nat) (mt (HO2.out eb) (by omega))
             have HN5:=Hd_ N5
             have HNE:=Hd_ NE
             clear N5 NE
             go_wp2_with fail
             refine F_start 16 (fun w'=>w'.cell? ⟨b5,o5+i * 2,none⟩=some (.int .i64 yid)/\w'.cell? ⟨b5,o5+i * 2+1,none⟩=some (.bool yinv)/\w'.cell? ⟨eb,0,none⟩=some (.int .i64 eid)/\w'.cell? ⟨eb,1,none⟩=some (.int .i64 ef)/\w'.cell? ⟨eb,2,none⟩=some (.int .i64 et)/\w'.cell? ⟨eb,3,none⟩=some (.int .i64 el)) (by kernel_rfl) (by exact ⟨p0,p1,f0,f1,f2,f3⟩) (fun hS inv=>?_)
             refine F_tk 0 inv ?_
             try simp only [tA,tB,tC,Act.put,tE,tF,tG]
             clear inv;intro inv
             refine F_tk 1 inv ?_
             try simp only [tA,tB,tC,Act.put,tE,tF,tG]
             clear inv;intro inv
             refine F_tk 2 inv ?_
             try simp only [tA,tB,tC,Act.put,tE,tF,tG]
             clear inv;intro inv
             refine F_tk 3 inv ?_
             try simp only [tA,tB,tC,Act.put,tE,tF,tG]
             clear inv;intro inv
             refine F_tk 4 inv ?_
             try simp only [tA,tB,tC,Act.put,tE,tF,tG]
             clear inv;intro inv
             refine F_tk 5 inv ?_
             try simp only [tA,tB,tC,Act.put,tE,tF,tG]
             clear inv;intro inv
             refine F_tk 6 inv ?_
             try simp only [tA,tB,tC,Act.put,tE,tF,tG]
             clear inv;intro inv
             refine F_tk 7 inv ?_
             try simp only [tA,tB,tC,Act.put,tE,tF,tG]
             clear inv;intro inv
             refine F_tk 8 inv ?_
             try simp only [tA,tB,tC,Act.put,tE,tF,tG]
             clear inv;intro inv
             refine F_tk 9 inv ?_
             try simp only [tA,tB,tC,Act.put,tE,tF,tG]
             clear inv;intro inv
             refine F_tk 10 inv ?_
             try simp only [tA,tB,tC,Act.put,tE,tF,tG]
             clear inv;intro inv
             refine F_tk 12 inv ?_
             try simp only [tA,tB,tC,Act.put,tE,tF,tG]
             clear inv;intro inv
             refine F_o1 11 inv ?_;intro K hK
             try simp only [tA,tB,tC]
             go_simp
             refine (HTO.out _).mono ?_
             rintro e wT ⟨rfl,hbT⟩
             have hzT:wr.heap.size<=wT.heap.size:=hbT.size
             have HRT:=Hd_ (ownsRow_below HRW.out (below_trans ((Below.refl wr.heap.size wr).drew) hbT) (Nat.le_refl _))
             refine hK.out _ _ (kB6 hbT hS) (fun _ _=>?_)
             try simp only [tA,tB,tC,Act.put,tE,tF,tG]
             clear hK K inv hS;rename_i hS inv
             refine F_tk 13 inv ?_
             try simp only [tA,tB,tC,Act.put,tE,tF,tG]
             clear inv;intro inv
             refine F_o1 14 inv ?_;intro K hK
             try simp only [tA,tB,tC]
             go_simp
             refine hK.out _ _ (kA6 _ hS) (fun _ _=>?_)
             try simp only [tA,tB,tC,Act.put,tE,tF,tG]
             clear hK K inv hS;rename_i hS inv
             refine F_o1 15 inv ?_;intro K hK
             try simp only [tA,tB,tC]
             refine op_append1 cPS elPS rfl _ _ (by rfl) W0.heap.size _ XQ ((yid,yinv),yt,(q:Int)) 1 _ (by rfl) (HRT.out.alloc _) (by first | rfl | simp) (heap_alloc_new _ _) rfl (cPS_one _) (by omega) (by omega) (by simp;omega) ?_
             intro g2 cp2 w3 hown3 hgr3 hat3 hlt3
             have HW3:=Hd_ hown3
             have HG3:=Hd_ hgr3
             have HA3:=Hd_ hat3
             clear hown3 hgr3 hat3
             refine hK.out _ _ (kG6 HG3.out HN5.out HN5.out HNE.out HNE.out HNE.out HNE.out hS) (fun _ _=>?_)
             try simp only [tA,tB,tC,Act.put,tE,tF,tG]
             clear hK K inv hS;rename_i hS inv
             refine F_l1 16 ?_;intro K hK
             go_simp
             refine hK _ _ ?_
             clear hK K inv hS
             have hat:=HA3.out.imp id (Nat.le_trans (show wT.heap.size<=_ by simp))
             go_wp2_with fail
             go_roundw
             case rel =>
              refine ⟨q+1,by omega,by go_num,by rw [<- HM.out];simpa using HW3.out,(((HN1.out.drew).trans (Only.of_below hbT _ _)).alloc _).grown HG3.out (fun b hb=>(HO1.out b hb).imp (fun h=>⟨(HRW.out.lt b hb).1,h⟩) id),(((HN2.out.drew).trans (Only.of_below hbT _ _)).alloc _).grown HG3.out (fun b hb=>(HO2.out b hb).imp (fun h=>⟨Nat.zero_le _,h⟩) id),fun b hb=>?_,fun b hb=>?_⟩
              · injection hb with hb
                subst hb
                rcases hat with h | h
                · exact HO1.out _ h
                · exact .inr (Nat.le_trans (show W1.heap.size<=wT.heap.size by omega) h)
              · injection hb with hb
                subst hb
                rcases hat with h | h
                · exact HO2.out _ h
                · exact .inr (Nat.le_trans (show wE.heap.size<=wT.heap.size by omega) h)
             case measure=>simp [intOf];omega
         · obtain rfl:q=a.accept.length:=by omega
           go_wp2_with fail
           go_roundw
           case rel =>
            have hts:((arcsOf g (x:Int)).take (i+1)).flatMap (psA g a x s)=XS ++ (mem a.accept.length M).map (fun (q:Nat)=>(((yid,yinv),yt,(q:Int)):PS)):=by
             rw [take_snoc HYI.out,List.flatMap_append,<- HXS.out,List.flatMap_singleton,HPS.out]
            exact ⟨i+1,by omega,by go_num,by rw [hts];exact HRW.out,HN1.out,HO1.out⟩
           case measure=>simp [intOf];omega
  · obtain rfl:i=(arcsOf g (x:Int)).length:=by omega
    have hR:R=((arcsOf g (x:Int)).take (arcsOf g (x:Int)).length).flatMap (psA g a x s):=by rw [HR.out,List.take_length];rfl
    have hown:=Own.of_row (xs:=R) (ownsRow_mono (b:=w.heap.size) (by rw [hR];exact HROW.out) hb0.size) rfl rfl
    have HO:=Hd_ hown
    have hfin:Below w.heap.size w wr:=hbw1.trans (hon.below hb0.size hbw1.size)
    clear hR hown
    go_wp2_with fail
    go_ret
    exact ⟨_,rfl,HO.out,hfin⟩
set_option maxHeartbeats 4000000 in
theorem l14Accepts_any (vg va:Value) (g:Gr) (a:Au) (x s:Nat) (w:World) (hgv:GrV 0 w.heap.size w vg g) (hav:AuV 0 w.heap.size w va a) (hg:GrOk g) (ha:auOk a=true) (hx:x < g.vals.length) (hs:s < a.accept.length) :
 Calls Tryz.prog 56 #[vg,va,.int .i64 (x:Int),.int .i64 (s:Int)] w fun e w'=>e=.returned (.bool (accC a (valAt g x) s))/\Below w.heap.size w w':=by
 have hav0:=hav
 obtain ⟨A1,c1,A2,c2,rfl,hl1,hm1,-,-,hC1,-⟩:=hgv.form
 obtain ⟨A3,c3,A4,c4,rfl,hl3,hm3,hl4,hm4,hAC,-⟩:=hav.form ha
 have hn5:=hg.n5
 have hn12:=(auOk_iff.1 ha).1.2
 have hxi:g.vals[x]?=some g.vals[x]:=List.getElem?_eq_getElem hx
 have hvr:=hg.vals _ (List.getElem_mem hx)
 generalize g.vals[x]=vx at hxi hvr
 obtain ⟨vx,rfl⟩:=Int.eq_ofNat_of_zero_le hvr.1
 have hva:=valAt_of hxi
 rw [Int.toNat_natCast] at hva
 rw [hva]
 obtain ⟨b1,o1,rfl,hb1,d1⟩:=hC1.int hxi
 have hcl:=cls_lt ha vx s hs
 have hcl4:=lt12 ha hcl
 have hfin:accC a vx s=(mem a.accept.length (cls a vx s)).any fun t=>a.accept.getD t false:=by rw [accC,mem12 ha hcl]
 have HF:=Hd_ hfin
 have HAO:=Hd_ ha
 have HAV:=Hd_ hav0
 have HAC:=Hd_ hAC
 have HCL:=Hd_ hcl
 have hb0:Below w.heap.size w ((w.alloc (.cells #[.slice (some ⟨b1,o1,none⟩) g.vals.length c1,.slice A2 g.edges.length c2] 27)).alloc (.cells #[.int .i64 a.start,.slice A3 a.accept.length c3,.slice A4 a.accept.length c4] 31)):=((Below.refl _ _).alloc (Nat.le_refl _) _).alloc (by simp) _
 have hxx:(x:Int) < (g.vals.length:Int):=by omega
 clear hgv hav ha hg hav0 hva hxi hC1 hAC hcl hfin
 go_enter Tryz.func56,Tryz.ntmps56
 go_wp2_with fail
 refine wp_region_ext_lit (by kernel_rfl) (by kernel_rfl) ?_
 repeat (go_big_quiet_step ((go_at_call 59;exact Calls.ext_of (l14Closure_any _ a s vx _ (HAV.out.keep (below_trans hb0 (ext_below _ _))) HAO.out hs (by omega)))))
 refine wpQuiet_nil ?_
 rintro _ ⟨u2,rfl⟩
 have hbw:=below_trans hb0 (ext_below _ u2)
 go_wp2_with fail
 generalize cls a vx s=m at *
 go_loop [10] (fun ii=>∃ i:Nat,i<=a.accept.length/\ii=.int .i64 (i:Int)/\(mem i m).any (fun t=>a.accept.getD t false)=false) (fun ii=>a.accept.length - (intOf ii).toNat)
 case atStart=>exact ⟨0,Nat.zero_le _,rfl,rfl⟩
 case round =>
  obtain ⟨i,hi,rfl,hno⟩:=hrel
  have HNO:=Hd_ hno
  clear hno
  by_cases hlt:i < a.accept.length
  · have hai:a.accept[i]?=some a.accept[i]:=List.getElem?_eq_getElem hlt
    obtain ⟨b5,o5,rfl,hb5,d5⟩:=HAC.out.bool hai
    have hag:a.accept.getD i false=a.accept[i]:=by simp [List.getD,hai]
    generalize a.accept[i]=b at *
    have HAG:=Hd_ hag
    clear hai hag
    cases hb:m.testBit i with
    | false =>
      have e3:=bit_off (by omega) (by omega) hb
      have HM:=Hd_ (mem_no hb)
      clear hb
      go_wp2_with fail
      go_round
      case rel=>exact ⟨i+1,by omega,by go_num,by rw [HM.out];exact HNO.out⟩
      case measure=>simp [intOf];omega
    | true =>
      have e3:=bit_on (by omega) (by omega) hb
      have HB:=Hd_ hb
      have HM:=Hd_ (mem_yes hb)
      clear hb
      cases b with
      | true =>
        have hfin:accC a vx s=true:=by rw [HF.out];exact List.any_eq_true.2 ⟨i,mem_mem.2 ⟨hlt,HB.out⟩,HAG.out⟩
        have HFF:=Hd_ hfin
        clear hfin
        go_wp2_with fail
        go_ret
        exact ⟨by rw [HFF.out];rfl,hbw⟩
      | false =>
        go_wp2_with fail
        go_round
        case rel=>exact ⟨i+1,by omega,by go_num,by rw [HM.out,List.any_append,HNO.out];simp only [List.any_cons,List.any_nil,Bool.or_false,Bool.false_or];exact HAG.out⟩
        case measure=>simp [intOf];omega
  · obtain rfl:i=a.accept.length:=by omega
    have hfin:accC a vx s=false:=by rw [HF.out];exact HNO.out
    have HFF:=Hd_ hfin
    clear hfin
    go_wp2_with fail
    go_ret
    exact ⟨by rw [HFF.out];rfl,hbw⟩
/-- the rows of the product's steps, vertex by vertex -/
def psI (g:Gr) (a:Au) (i:Nat):List PS:=prodSteps g a (i / a.accept.length) (i % a.accept.length)
theorem psI_next (g:Gr) (a:Au) (i:Nat):nextI g a i=(psI g a i).map (psV a.accept.length):=(psV_next g a _ _).symm
theorem SlI.ps {lo hi:Nat} {w:World} {A:Option Addr} {n c:Nat} {xs:List PS} (h:SlI lo hi w cPS 4 (.slice A n c) xs) {i:Nat} {x:PS} (hx:xs[i]?=some x) :
 ∃ b o,A=some ⟨b,o,none⟩/\lo<=b/\b < hi/\w.cell? ⟨b,o+i * 4+2,none⟩=some (.int .i64 x.2.1)/\w.cell? ⟨b,o+i * 4+3,none⟩=some (.int .i64 x.2.2):=by
 obtain ⟨A',c',hv,_,_,h3⟩:=h
 injection hv with h1 _ _
 subst h1
 obtain ⟨b,o,e,g1,g2,hc⟩:=h3 i x hx
 exact ⟨b,o,e,g1,g2,hc 2 _ rfl,hc 3 _ rfl⟩
theorem elPSS:ElemOk Tryz.prog 104 105 (.slice none 0 0) 1 24:=⟨Tryz.underlying104,by kernel_rfl,rfl,by omega⟩
def psL (g:Gr) (a:Au) (k:Nat):List (List PS):=(List.range k).map (psI g a)
theorem psL_len (g:Gr) (a:Au) (k:Nat):(psL g a k).length=k:=by simp [psL]
theorem psL_snoc (g:Gr) (a:Au) (k:Nat):psL g a (k+1)=psL g a k ++ [psI g a k]:=by simp [psL,List.range_succ]
theorem psL_at {g:Gr} {a:Au} {k i:Nat} (h:i < k):(psL g a k)[i]?=some (psI g a i):=by simp [psL,h]
set_option maxHeartbeats 8000000 in
set_option maxRecDepth 100000 in
theorem l14Back_any (vg va:Value) (g:Gr) (a:Au) (y:Nat) (w:World) (hgv:GrV 0 w.heap.size w vg g) (hav:AuV 0 w.heap.size w va a) (hgo:grOk g=true) (ha:auOk a=true) (hy:y < g.vals.length) :
 Calls Tryz.prog 32 #[vg,va,.int .i64 (y:Int)] w fun e w'=>∃ v',e=.returned v'/\Own w.heap.size w'.heap.size w' 3 cI 1 v' (distTo g a (y:Int))/\Below w.heap.size w w':=by
 have hg:=grOk_iff.1 hgo
 have hav0:=hav
 have hgv0:=hgv
 obtain ⟨A1,c1,A2,c2,rfl,hl1,hm1,hl2,hm2,-,-⟩:=hgv.form
 obtain ⟨A3,c3,A4,c4,rfl,hl3,hm3,hl4,hm4,-⟩:=hav.form ha
 have hn5:=hg.n5
 have he12:=hg.e12
 have hn12:=(auOk_iff.1 ha).1.2
 have hn1:=(auOk_iff.1 ha).1.1
 have hN60:g.vals.length * a.accept.length<=60:=Nat.mul_le_mul hn5 hn12
 have HGO:=Hd_ hgo
 have HAO:=Hd_ ha
 have HAV:=Hd_ hav0
 have HGV:=Hd_ hgv0
 have hb0:Below w.heap.size w ((w.alloc (.cells #[.slice A1 g.vals.length c1,.slice A2 g.edges.length c2] 27)).alloc (.cells #[.int .i64 a.start,.slice A3 a.accept.length c3,.slice A4 a.accept.length c4] 31)):=((Below.refl _ _).alloc (Nat.le_refl _) _).alloc (by simp) _
 obtain ⟨R,hR⟩:∃ R,R=distTo g a (y:Int):=⟨_,rfl⟩
 rw [<- hR]
 have HR:=Hd_ hR
 clear hgv hav ha hg hgo hav0 hgv0 hR
 go_enter Tryz.func32,Tryz.ntmps32
 go_wp2_with fail
 obtain ⟨W0,hW0⟩:∃ W0,W0=((w.alloc (.cells #[.slice A1 g.vals.length c1,.slice A2 g.edges.length c2] 27)).alloc (.cells #[.int .i64 a.start,.slice A3 a.accept.length c3,.slice A4 a.accept.length c4] 31)):=⟨_,rfl⟩
 rw [<- hW0] at hb0 ⊢
 have x0:W0.cell? ⟨w.heap.size,0,none⟩=some (.slice A1 g.vals.length c1):=by rw [hW0];simp
 have x1:W0.cell? ⟨w.heap.size,1,none⟩=some (.slice A2 g.edges.length c2):=by rw [hW0];simp
 have y0:W0.cell? ⟨w.heap.size+1,0,none⟩=some (.int .i64 a.start):=by rw [hW0];simp
 have y1:W0.cell? ⟨w.heap.size+1,1,none⟩=some (.slice A3 a.accept.length c3):=by rw [hW0];simp
 have y2:W0.cell? ⟨w.heap.size+1,2,none⟩=some (.slice A4 a.accept.length c4):=by rw [hW0];simp
 have hs0:w.heap.size+1+1=W0.heap.size:=by rw [hW0];simp
 rw [hs0]
 have l0:w.heap.size+1 < W0.heap.size:=by omega
 have l00:w.heap.size < W0.heap.size:=by omega
 clear hW0 hs0
 obtain ⟨N,hN⟩:∃ N,N=g.vals.length * a.accept.length:=⟨_,rfl⟩
 rw [<- hN] at hN60
 have m0:IntKind.i64.wrap ((g.vals.length:Int) * (a.accept.length:Int))=(N:Int):=by rw [IntWalk.i64_in _ (by rw [<- Int.natCast_mul,<- hN];omega)];rw [hN,Int.natCast_mul]
 have m0':(g.vals.length:Int) * (a.accept.length:Int)=(N:Int):=by rw [hN,Int.natCast_mul]
 have HN:=Hd_ hN
 clear hN
 go_loopw [8,9,10] (fun dd kk _ wr=>∃ k:Nat,k<=N/\kk=.int .i64 (k:Int)/\wr.ownsRow W0.heap.size 3 1 dd (iniL g a y k).length ((iniL g a y k).flatMap cI)/\Below W0.heap.size W0 wr) (fun _ kk _ _=>N - (intOf kk).toNat)
 case atStart=>exact ⟨0,Nat.zero_le _,rfl,World.ownsRow_lit W0 #[] 0 (Nat.le_refl _) (by decide) rfl,(Below.refl _ _).alloc (Nat.le_refl _) _⟩
 case round =>
  obtain ⟨k,hk,rfl,hrow,hbel⟩:=hrel
  have HROW:=Hd_ hrow
  have x0:=kcell hbel x0
  have x1:=kcell hbel x1
  have y0:=kcell hbel y0
  have y1:=kcell hbel y1
  have y2:=kcell hbel y2
  have hsz:=hbel.size
  have l0:=Nat.lt_of_lt_of_le l0 hsz
  have l00:=Nat.lt_of_lt_of_le l00 hsz
  have hbw:=below_trans hb0 hbel
  have HBW:=Hd_ hbw
  clear hrow hbw
  by_cases hlt:k < N
  · have hgp:g.vals.length * a.accept.length=N:=HN.out.symm
    have hnp:0 < a.accept.length:=by rcases Nat.eq_zero_or_pos a.accept.length with h | h;(rw [h,Nat.mul_zero] at hgp;omega);exact h
    obtain ⟨X,hX⟩:∃ X,X=k / a.accept.length:=⟨_,rfl⟩
    obtain ⟨S,hS⟩:∃ S,S=k % a.accept.length:=⟨_,rfl⟩
    have hXl:X < g.vals.length:=by rw [hX];exact Nat.div_lt_of_lt_mul (by rw [Nat.mul_comm,hgp];exact hlt)
    have hSl:S < a.accept.length:=by rw [hS];exact Nat.mod_lt _ hnp
    have t1:(k:Int).tdiv (a.accept.length:Int)=(X:Int):=by rw [hX];rfl
    have t2:(k:Int).tmod (a.accept.length:Int)=(S:Int):=by rw [hS];rfl
    have hn0:((a.accept.length:Int)==0)=false:=by simp only [beq_eq_false_iff_ne,ne_eq];omega
    have hki:(k:Int) < (N:Int):=by omega
    have HINI:=Hd_ (show ini g a y k=if (X==y && accC a (valAt g y) S)=true then 0 else -1 by rw [hX,hS];rfl)
    clear hX hS hgp
    have HSN:=Hd_ (iniL_snoc g a y k)
    have hil:(iniL g a y k).length<=60:=by rw [iniL_len];omega
    generalize iniL g a y k=D at *
    have HACC:=Hd_ (show ∀ W,Below w.heap.size w W->Calls Tryz.prog 56 #[.agg #[.slice A1 g.vals.length c1,.slice A2 g.edges.length c2],.agg #[.int .i64 a.start,.slice A3 a.accept.length c3,.slice A4 a.accept.length c4],.int .i64 (X:Int),.int .i64 (S:Int)] W fun e w'=>e=.returned (.bool (accC a (valAt g X) S))/\Below W.heap.size W w' from fun W hW=>l14Accepts_any _ _ g a X S W (HGV.out.keep hW) (HAV.out.keep hW) (grOk_iff.1 HGO.out) HAO.out hXl hSl)
    by_cases hxy:X=y
    · have k1:((X:Int)==(y:Int))=true:=by rw [hxy];simp
      have HXY:=Hd_ hxy
      clear hxy
      go_wp2_with fail
      refine wp_region_ext_lit (by kernel_rfl) (by kernel_rfl) ?_
      repeat (go_big_quiet_step ((go_at_call 56;exact Calls.ext_of (HACC.out _ (below_trans HBW.out (ext_below _ _))))))
      refine wpQuiet_nil ?_
      rintro _ ⟨u2,rfl⟩
      have hbu:=ext_below wr u2
      have HR2:=Hd_ (ownsRow_below HROW.out hbu (Nat.le_refl _))
      have hz2:W0.heap.size<=(ext wr u2).heap.size:=Nat.le_trans hsz hbu.size
      have hbel2:=hbel.trans (hbu.mono hsz)
      generalize ext wr u2=wx at *
      cases hacc:accC a (valAt g X) S with
      | true =>
        have HV:=Hd_ (show ini g a y k=0 by rw [HINI.out,<- HXY.out,hacc];simp)
        clear hacc
        go_wp2_with (at_builtin;(refine wpList_append1 cI elInt rfl _ _ rfl W0.heap.size _ (D) (0) _ 1 _ (by rfl) (HR2.out) (by rfl) rfl rfl rfl (cI_one _) (by omega) (by omega) (by omega) ?_);intro v' w4 hrow' hb4 _ _)
        go_roundw
        case rel=>exact ⟨k+1,by omega,by go_num,by rw [HSN.out,HV.out];exact hrow',hbel2.trans hb4⟩
        case measure=>simp [intOf];omega
      | false =>
        have HV:=Hd_ (show ini g a y k=-1 by rw [HINI.out,<- HXY.out,hacc];simp)
        clear hacc
        go_wp2_with (at_builtin;(refine wpList_append1 cI elInt rfl _ _ rfl W0.heap.size _ (D) (-1) _ 1 _ (by rfl) (HR2.out) (by rfl) rfl rfl rfl (cI_one _) (by omega) (by omega) (by omega) ?_);intro v' w4 hrow' hb4 _ _)
        go_roundw
        case rel=>exact ⟨k+1,by omega,by go_num,by rw [HSN.out,HV.out];exact hrow',hbel2.trans hb4⟩
        case measure=>simp [intOf];omega
    · have k1:((X:Int)==(y:Int))=false:=by simp only [beq_eq_false_iff_ne,ne_eq];omega
      have HV:=Hd_ (show ini g a y k=-1 by rw [HINI.out,beq_eq_false_iff_ne.2 hxy];simp)
      clear hxy
      go_wp2_with fail
      refine wp_region_ext_lit (by kernel_rfl) (by kernel_rfl) ?_
      repeat (go_big_quiet_step ((go_at_call 56;exact Calls.ext_of (HACC.out _ (below_trans HBW.out (ext_below _ _))))))
      refine wpQuiet_nil ?_
      rintro _ ⟨u2,rfl⟩
      have hbu:=ext_below wr u2
      have HR2:=Hd_ (ownsRow_below HROW.out hbu (Nat.le_refl _))
      have hz2:W0.heap.size<=(ext wr u2).heap.size:=Nat.le_trans hsz hbu.size
      have hbel2:=hbel.trans (hbu.mono hsz)
      generalize ext wr u2=wx at *
      go_wp2_with (at_builtin;(refine wpList_append1 cI elInt rfl _ _ rfl W0.heap.size _ (D) (-1) _ 1 _ (by rfl) (HR2.out) (by rfl) rfl rfl rfl (cI_one _) (by omega) (by omega) (by omega) ?_);intro v' w4 hrow' hb4 _ _)
      go_roundw
      case rel=>exact ⟨k+1,by omega,by go_num,by rw [HSN.out,HV.out];exact hrow',hbel2.trans hb4⟩
      case measure=>simp [intOf];omega
  · obtain rfl:k=N:=by omega
    clear hlt hk
    obtain ⟨wo,rfl⟩:∃ wo:World,wo=wr:=⟨_,rfl⟩
    obtain ⟨AD,cD,rfl,hlD,hmD,-⟩:=(Own.of_row (xs:=iniL g a y k) HROW.out rfl rfl).form cI_len
    rw [iniL_len] at hlD ⊢
    go_wp2_with fail
    go_loopw [11,12] (fun nn ii wr=>∃ (i:Nat) (us:List Value),i<=k/\ii=.int .i64 (i:Int)/\NS wo.heap.size wr 105 108 cPS 4 nn us (psL g a i)/\Below wo.heap.size wo wr) (fun _ ii _=>k - (intOf ii).toNat)
    case atStart=>exact ⟨0,[],Nat.zero_le _,rfl,NS.start (World.ownsRow_lit wo #[] 0 (Nat.le_refl _) (by decide) rfl),(Below.refl _ _).alloc (Nat.le_refl _) _⟩
    case round =>
     obtain ⟨i,us,hi,rfl,hns,hb2⟩:=hrel
     have hbw2:=below_trans HBW.out hb2
     have x0:=kcell hb2 x0
     have x1:=kcell hb2 x1
     have y0:=kcell hb2 y0
     have y1:=kcell hb2 y1
     have y2:=kcell hb2 y2
     have hs2:=hb2.size
     have HNS:=Hd_ hns
     have HBW2:=Hd_ hbw2
     clear hns hbw2
     by_cases hlt:i < k
     · have hgp:g.vals.length * a.accept.length=k:=HN.out.symm
       have hnp:0 < a.accept.length:=by rcases Nat.eq_zero_or_pos a.accept.length with h | h;(rw [h,Nat.mul_zero] at hgp;omega);exact h
       obtain ⟨X,hX⟩:∃ X,X=i / a.accept.length:=⟨_,rfl⟩
       obtain ⟨S,hS⟩:∃ S,S=i % a.accept.length:=⟨_,rfl⟩
       have hXl:X < g.vals.length:=by rw [hX];exact Nat.div_lt_of_lt_mul (by rw [Nat.mul_comm,hgp];exact hlt)
       have hSl:S < a.accept.length:=by rw [hS];exact Nat.mod_lt _ hnp
       have t1:(i:Int).tdiv (a.accept.length:Int)=(X:Int):=by rw [hX];rfl
       have t2:(i:Int).tmod (a.accept.length:Int)=(S:Int):=by rw [hS];rfl
       have hn0:((a.accept.length:Int)==0)=false:=by simp only [beq_eq_false_iff_ne,ne_eq];omega
       have HPX:=Hd_ (show psL g a (i+1)=psL g a i ++ [prodSteps g a X S] by rw [psL_snoc,hX,hS];rfl)
       have hpl:=psL_len g a i
       clear hX hS hgp
       generalize psL g a i=PL at *
       have N0:=Ne.symm (α:=Option Nat) (mt (HNS.out.own.lt w.heap.size) (by omega))
       have N1:=Ne.symm (α:=Option Nat) (mt (HNS.out.own.lt (w.heap.size+1)) (by omega))
       have HN0:=Hd_ N0
       have HN1:=Hd_ N1
       have hae:a.accept ≠ []:=by intro h;rw [h] at hnp;simp at hnp
       have q1:IntKind.i64.wrap (X:Int)=(X:Int):=IntWalk.i64_in _ (by omega)
       have q2:IntKind.i64.wrap (S:Int)=(S:Int):=IntWalk.i64_in _ (by omega)
       clear N0 N1
       go_wp2_with fail
       refine F_start 12 (fun w'=>w'.cell? ⟨w.heap.size,0,none⟩=some (.slice A1 g.vals.length c1)/\w'.cell? ⟨w.heap.size,1,none⟩=some (.slice A2 g.edges.length c2)/\w'.cell? ⟨w.heap.size+1,0,none⟩=some (.int .i64 a.start)/\w'.cell? ⟨w.heap.size+1,1,none⟩=some (.slice A3 a.accept.length c3)/\w'.cell? ⟨w.heap.size+1,2,none⟩=some (.slice A4 a.accept.length c4)) (by kernel_rfl) (by exact ⟨x0,x1,y0,y1,y2⟩) (fun hS inv=>?_)
       refine F_tk 0 inv ?_
       try simp only [tA,tB,tC,Act.put,tE,tF,tG]
       clear inv;intro inv
       refine F_tk 1 inv ?_
       try simp only [tA,tB,tC,Act.put,tE,tF,tG]
       clear inv;intro inv
       refine F_tk 2 inv ?_
       try simp only [tA,tB,tC,Act.put,tE,tF,tG]
       clear inv;intro inv
       refine F_tk 3 inv ?_
       try simp only [tA,tB,tC,Act.put,tE,tF,tG]
       clear inv;intro inv
       refine F_tk 4 inv ?_
       try simp only [tA,tB,tC,Act.put,tE,tF,tG]
       clear inv;intro inv
       refine F_tk 5 inv ?_
       try simp only [tA,tB,tC,Act.put,tE,tF,tG]
       clear inv;intro inv
       refine F_tk 6 inv ?_
       try simp only [tA,tB,tC,Act.put,tE,tF,tG]
       clear inv;intro inv
       refine F_tk 7 inv ?_
       try simp only [tA,tB,tC,Act.put,tE,tF,tG]
       clear inv;intro inv
       refine F_tk 8 inv ?_
       try simp only [tA,tB,tC,Act.put,tE,tF,tG]
       clear inv;intro inv
       refine F_o1 9 inv ?_;intro K hK
       try simp only [tA,tB,tC]
       go_simp
       refine (l14Steps_any _ _ g a X S _ (HGV.out.keep (below_trans HBW2.out ((Below.refl wr.heap.size wr).drew))) (HAV.out.keep (below_trans HBW2.out ((Below.refl wr.heap.size wr).drew))) HGO.out HAO.out hXl hSl).mono ?_
       rintro e wT ⟨vT,rfl,hoT,hbT⟩
       have HR1:=Hd_ ((HNS.out.below (Below.refl wr.heap.size wr).drew).below hbT)
       have HOT:=Hd_ (hoT.1)
       have hzT:wr.heap.size<=wT.heap.size:=hbT.size
       have HBT:=Hd_ (below_trans ((Below.refl wr.heap.size wr).drew) hbT)
       obtain ⟨AT,nT,cT,rfl⟩:=hoT.shape
       refine hK.out _ _ (kB5 hbT hS) (fun _ _=>?_)
       try simp only [tA,tB,tC,Act.put,tE,tF,tG]
       clear hK K inv hS;rename_i hS inv
       refine F_o1 10 inv ?_;intro K hK
       try simp only [tA,tB,tC]
       go_simp
       refine hK.out _ _ (kA5 _ hS) (fun _ _=>?_)
       try simp only [tA,tB,tC,Act.put,tE,tF,tG]
       clear hK K inv hS;rename_i hS inv
       refine F_o1 11 inv ?_;intro K hK
       try simp only [tA,tB,tC]
       have hus:=HNS.out.len
       refine op_append1 cV elPSS rfl _ _ (by rfl) wo.heap.size _ us (.slice AT nT cT) 1 _ (by rfl) (HR1.out.own.alloc _) (by first | rfl | simp) (heap_alloc_new _ _) rfl (by intro u hu;simp only [cV,List.mem_cons,List.not_mem_nil,or_false] at hu;subst hu;rfl) (by omega) (by omega) (by simp;omega) ?_
       intro g2 cp2 w3 hown3 hgr3 hat3 hlt3
       have HW3:=Hd_ hown3
       have HG3:=Hd_ hgr3
       have HA3:=Hd_ hat3
       clear hown3 hgr3 hat3
       refine hK.out _ _ (kG5 HG3.out HN0.out HN0.out HN1.out HN1.out HN1.out hS) (fun _ _=>?_)
       try simp only [tA,tB,tC,Act.put,tE,tF,tG]
       clear hK K inv hS;rename_i hS inv
       refine F_l1 12 ?_;intro K hK
       go_simp
       refine hK _ _ ?_
       clear hK K inv hS
       clear q1 q2
       go_wp2_with fail
       go_roundw
       case rel=>exact ⟨i+1,us ++ [.slice AT nT cT],by omega,by go_num,by rw [HPX.out];exact (HR1.out.below ((Below.refl _ _).alloc (Nat.le_refl _) _)).push (ownsRow_mono (HOT.out.alloc _) hs2) (fun b hb hm=>by have h1:=(HNS.out.lt b hm).2;have h2:=(HOT.out.lt b hb).1;have h3:wr.drew.heap.size=wr.heap.size:=rfl;omega) HG3.out (by have h:=HW3.out;rwa [show us.length+1=i+1 by omega] at h) (fun g hg=>by cases hg;exact HA3.out),((hb2.trans (HBT.out.mono hs2)).alloc (by omega) _).trans (own_below (HR1.out.own.alloc _) (by simp;omega) HG3.out)⟩
       case measure=>simp [intOf];omega
     · obtain rfl:i=k:=by omega
       obtain ⟨N,hNi⟩:∃ N,N=i:=⟨_,rfl⟩
       subst hNi
       obtain ⟨w3,rfl⟩:∃ w3:World,w3=wr:=⟨_,rfl⟩
       have hgn1:=(grOk_iff.1 HGO.out).n1
       have hN1:1<=N:=by have h:=HN.out;rw [h];exact Nat.mul_pos hgn1 hn1
       have hrow:=ownsRow_below HROW.out hb2 (Nat.le_refl _)
       rw [iniL_len] at hrow
       obtain ⟨gD,cD',hvD,hgD,-,-,-⟩:=own_some hrow (by omega)
       injection hvD with e1 _ e3
       subst e1
       subst e3
       have hgDo:gD < wo.heap.size:=(HROW.out.lt gD rfl).2
       have hini:=SW.ini (ini_SwO (g:=g) (y:=y) (N:=N) hn1 (nextI g a))
       have hnN:∀ i k,i < N->k ∈ nextI g a i->k < N:=fun i k _ hk=>by rw [HN.out];exact nextV_lt (grOk_iff.1 HGO.out) HAO.out hk
       obtain ⟨gN,cN',AN,cN2,rfl,-,hgN3,-,-,-,-⟩:=HNS.out.row cPS_len (psL_at (show 0 < N by omega))
       have hgNo:wo.heap.size<=gN:=(HNS.out.own.lt gN rfl).1
       rw [psL_len]
       have HROW3:=Hd_ hrow
       have HINI:=Hd_ hini
       have HNN:=Hd_ hnN
       clear HROW hrow hini hnN m0 m0' HBW hbel hb2 hi
       go_wp2_with fail
       go_loopw [13,14] (fun cc dd wr=>∃ (d e:Nat) (D:List Int) (ch:Bool),d=e+1/\cc=.bool ch/\dd=.int .i64 (d:Int)/\e<=N+1/\SW (nextI g a) (fun i=>i ∈ goalsL g a y) N e D ch/\wr.ownsRow W0.heap.size 3 1 (.slice (some ⟨gD,0,none⟩) N cD) N (D.flatMap cI)/\Only gD (gD+1) w3 wr) (fun _ dd _=>N+3 - (intOf dd).toNat)
       case atStart=>exact ⟨1,0,_,true,rfl,rfl,rfl,by omega,HINI.out,HROW3.out,Only.refl _ _ _⟩
       case round =>
        clear HINI HROW3
        obtain ⟨d,e,D,ch,hde,rfl,rfl,heN,hsw,hrow,hon⟩:=hrel
        have HSW:=Hd_ hsw
        have HROW:=Hd_ hrow
        clear hsw hrow
        cases ch with
        | false =>
          have hD:D=distTo g a (y:Int):=sweep_eq HGO.out HAO.out hy (by rw [<- HN.out];exact HSW.out.1) (by rw [<- HN.out];exact HSW.out.2.2 rfl)
          rw [<- HR.out] at hD
          have hown:=Own.of_row (xs:=D) (ownsRow_mono HROW.out hb0.size) HSW.out.1 rfl
          rw [hD] at hown
          have HO:=Hd_ hown
          have hfin:Below w.heap.size w wr:=HBW2.out.trans (hon.below (by have:=hb0.size;omega) HBW2.out.size)
          clear hD hown
          go_wp2_with fail
          go_ret
          exact ⟨_,rfl,HO.out,hfin⟩
        | true =>
          obtain ⟨hsi,hci⟩:=HSW.out.enter
          have heN2:=hci.le
          have HSI:=Hd_ hsi
          have HCI:=Hd_ hci
          have HDE:=Hd_ hde
          have hd1:1<=d:=by omega
          have hdN:d<=N+1:=by omega
          clear hsi hci hde HSW
          go_wp2_with fail
          go_loopw [13,15] (fun cc ii wr=>∃ (i:Nat) (D:List Int) (ch:Bool),i<=N/\cc=.bool ch/\ii=.int .i64 (i:Int)/\SwI (nextI g a) (fun i=>i ∈ goalsL g a y) N D e i ch/\CI e N D ch/\wr.ownsRow W0.heap.size 3 1 (.slice (some ⟨gD,0,none⟩) N cD) N (D.flatMap cI)/\Only gD (gD+1) w3 wr) (fun _ ii _=>N - (intOf ii).toNat)
          case atStart=>exact ⟨0,D,false,Nat.zero_le _,rfl,rfl,HSI.out,HCI.out,HROW.out,hon⟩
          case round =>
           clear HSI HCI HROW hon
           obtain ⟨i,D0,ch0,hi,rfl,rfl,hsi,hci,hrow,hon⟩:=hrel
           have HSI:=Hd_ hsi
           have HCI:=Hd_ hci
           have HROW:=Hd_ hrow
           clear hsi hci hrow
           by_cases hlt:i < N
           · obtain ⟨A7,c7,hc7,hl7,hm7,hs7⟩:=HNS.out.at cPS_len rfl (psL_at hlt)
             have hlp:(psI g a i).length<=288:=prodSteps_len (grOk_iff.1 HGO.out) a _ _
             have hnl:(nextI g a i).length=(psI g a i).length:=by rw [psI_next,List.length_map]
             have HNL:=Hd_ hnl
             have HS7:=Hd_ hs7
             have HC7:=Hd_ hc7
             clear hnl hs7 hc7
             go_wp2_with fail
             go_loopw [13,16] (fun cc kk wr=>∃ (k:Nat) (D:List Int) (ch:Bool),k<=(psI g a i).length/\cc=.bool ch/\kk=.int .i64 (k:Int)/\KI (nextI g a) D0 ch0 e i k D ch/\wr.ownsRow W0.heap.size 3 1 (.slice (some ⟨gD,0,none⟩) N cD) N (D.flatMap cI)/\Only gD (gD+1) w3 wr) (fun _ kk _=>(psI g a i).length - (intOf kk).toNat)
             case atStart=>exact ⟨0,D0,ch0,Nat.zero_le _,rfl,rfl,KI.start,HROW.out,hon⟩
             case round =>
              clear HROW hon
              obtain ⟨k,D,ch,hk,rfl,rfl,hki,hrow,hon⟩:=hrel
              have hDl:D.length=N:=hki.len.trans HSI.out.1
              have c7w:=ocell hon HC7.out hgN3 (.inr (by omega))
              have hDc:=(World.ownsRow.cellAt hrow i (by omega)).trans (flatI_at (getD_of (k:=i) (by omega)))
              obtain ⟨xi,hxi⟩:∃ xi,xi=D.getD i 0:=⟨_,rfl⟩
              rw [<- hxi] at hDc
              have hcn:=hki.cnt HCI.out (by rw [HSI.out.1];exact hlt)
              have HKI:=Hd_ hki
              have HROW:=Hd_ hrow
              have HXI:=Hd_ hxi
              have HDL:=Hd_ hDl
              have HCN:=Hd_ hcn
              have hii:(i:Int) < (N:Int):=by omega
              clear hki hrow hxi hDl hcn
              by_cases hlk:k < (psI g a i).length
              · by_cases hneg:xi < 0
                · have hpk:(psI g a i)[k]?=some (psI g a i)[k]:=List.getElem?_eq_getElem hlk
                  have hpr:=prodSteps_range (grOk_iff.1 HGO.out) HAO.out (List.getElem_mem hlk)
                  generalize (psI g a i)[k]=p at hpk hpr
                  have hnk:(nextI g a i)[k]?=some (psV a.accept.length p):=by rw [psI_next,List.getElem?_map,hpk];rfl
                  have hvN:=HNN.out i _ hlt (List.mem_of_getElem? hnk)
                  obtain ⟨b7,o7,rfl,hb70,hb71,r2,r3⟩:=HS7.out.ps hpk
                  have r2:=ocell hon r2 hb71 (.inr (by omega))
                  have r3:=ocell hon r3 hb71 (.inr (by omega))
                  obtain ⟨pst,z,q⟩:=p
                  simp only at r2 r3 hpr
                  obtain ⟨⟨hz0,hz1⟩,hq0,hq1⟩:=hpr
                  obtain ⟨z,rfl⟩:=Int.eq_ofNat_of_zero_le hz0
                  obtain ⟨q,rfl⟩:=Int.eq_ofNat_of_zero_le hq0
                  obtain ⟨vv,hvv⟩:∃ vv,vv=psV a.accept.length (pst,(z:Int),(q:Int)):=⟨_,rfl⟩
                  have hvv2:vv=z * a.accept.length+q:=by rw [hvv];simp [psV]
                  rw [<- hvv] at hnk hvN
                  obtain ⟨zn,hzn⟩:∃ zn,zn=z * a.accept.length:=⟨_,rfl⟩
                  rw [<- hzn] at hvv2
                  have m1':(z:Int) * (a.accept.length:Int)=(zn:Int):=by rw [hzn,Int.natCast_mul]
                  have m2':(zn:Int)+(q:Int)=(vv:Int):=by omega
                  have m1:IntKind.i64.wrap ((z:Int) * (a.accept.length:Int))=(zn:Int):=by rw [m1'];exact IntWalk.i64_in _ (by omega)
                  have m2:IntKind.i64.wrap ((zn:Int)+(q:Int))=(vv:Int):=by rw [m2'];exact IntWalk.i64_in _ (by omega)
                  have hvc:=(World.ownsRow.cellAt HROW.out vv (by omega)).trans (flatI_at (getD_of (k:=vv) (by have:=HDL.out;omega)))
                  obtain ⟨dv,hdv⟩:∃ dv,dv=D.getD vv 0:=⟨_,rfl⟩
                  rw [<- hdv] at hvc
                  have HDV:=Hd_ hdv
                  have HNK:=Hd_ hnk
                  have m3':(d:Int) - 1=(e:Int):=by have:=HDE.out;omega
                  have m3:IntKind.i64.wrap ((d:Int) - 1)=(e:Int):=by rw [m3'];exact IntWalk.i64_in _ (by omega)
                  have hkk:(k:Int) < ((psI g a i).length:Int):=by omega
                  have hvi:(vv:Int) < (N:Int):=by omega
                  clear hvv hvv2 hzn hdv hnk hpk hvN
                  go_wp2_with fail
                  go_quiet (fail)
                  have hdi:i < D0.length:=by rw [HSI.out.1];exact hlt
                  by_cases hdd:dv=(e:Int)
                  · have k1:(dv==(e:Int))=true:=by rw [hdd];simp
                    have hit:=HKI.out.hit hdi (by rw [<- HXI.out];exact hneg) HNK.out (by rw [<- HDV.out];exact hdd)
                    rw [show (e:Int)+1=(d:Int) by have:=HDE.out;omega] at hit
                    have hkf:=World.ownsRow.frozenAt HROW.out i
                    have hrow2:=(World.ownsRow.stored HROW.out i (.int .i64 (d:Int))).1
                    rw [flatI_set] at hrow2
                    have hon2:=hon.setCell (p:=⟨gD,i,none⟩) (.inl ⟨Nat.le_refl _,Nat.lt_succ_self _⟩) (.int .i64 (d:Int))
                    have HIT:=Hd_ hit
                    have HR2:=Hd_ hrow2
                    have HON2:=Hd_ hon2
                    clear hit hrow2 hon2 hdd m1 m2 m3 m1' m2' m3'
                    go_wp2_with fail
                    go_roundw
                    case rel=>exact ⟨k+1,_,true,by omega,rfl,by go_num,HIT.out,HR2.out,HON2.out.drewN _⟩
                    case measure=>simp [intOf];omega
                  · have k1:(dv==(e:Int))=false:=by simpa using hdd
                    have hit:=HKI.out.miss hdi (by rw [<- HXI.out];exact hneg) HNK.out (by rw [<- HDV.out];exact hdd)
                    have HIT:=Hd_ hit
                    clear hit hdd m1 m2 m3 m1' m2' m3'
                    go_wp2_with fail
                    go_roundw
                    case rel=>exact ⟨k+1,D,ch,by omega,rfl,by go_num,HIT.out,HROW.out,hon.drewN _⟩
                    case measure=>simp [intOf];omega
                · have hfin:=HKI.out.fin HSI.out hlt (.inr (by rw [<- HXI.out];exact hneg)) HNN.out
                  have HF:=Hd_ hfin
                  clear hfin
                  go_wp2_with fail
                  go_roundw
                  case rel=>exact ⟨i+1,D,ch,by omega,rfl,by go_num,HF.out,HCN.out,HROW.out,hon⟩
                  case measure=>simp [intOf];omega
              · have hfin:=HKI.out.fin HSI.out hlt (.inl (by have:=HNL.out;omega)) HNN.out
                obtain rfl:k=(psI g a i).length:=by omega
                have HF:=Hd_ hfin
                clear hfin
                go_wp2_with fail
                go_roundw
                case rel=>exact ⟨i+1,D,ch,by omega,rfl,by go_num,HF.out,HCN.out,HROW.out,hon⟩
                case measure=>simp [intOf];omega
           · obtain rfl:N=i:=by omega
             have hsw:=SW.leave HSI.out HCI.out HNN.out
             have HSW:=Hd_ hsw
             clear hsw
             go_wp2_with fail
             go_roundw
             case rel=>exact ⟨d+1,e+1,D0,ch0,by have:=HDE.out;omega,rfl,by go_num,by omega,HSW.out,HROW.out,hon⟩
             case measure=>simp [intOf];omega
end Go.Proofs.YteaplabkemoenaaGreat
