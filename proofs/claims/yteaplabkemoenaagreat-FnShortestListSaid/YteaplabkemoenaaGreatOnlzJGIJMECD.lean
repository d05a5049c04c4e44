/- Parts of the proof, joined into one text: AutI, SetI, GraphI, BothI, ArcM, ProdI. -/
import Derived.Test.YteaplabkemoenaaGreatOnlzGFGPLLBC
import Derived.Test.YteaplabkemoenaaGreatOnlzAIFFPHMF
set_option linter.unusedVariables false
set_option linter.unusedSimpArgs false
namespace Go.Proofs.YteaplabkemoenaaGreat
open Go.ChangeShapes Go.WideShapes Go.ChangeAt Go.RowKit
attribute [local go_sem] ext_cell ext_frozen ext_lt ext_lt1 ext_lt2 ext_lt3 ltn2 ltn3 ltn13 lts1 lts2 lts3
theorem within_any (n a b:Int) (w:World):Calls Tryz.prog 17 #[.int .i64 n,.int .i64 a,.int .i64 b] w fun e w'=>e=.returned (.bool (wi n a b))/\w'=w:=by
 unfold wi
 by_cases h1:a<=n
 · have e1:decide (a<=n)=true:=by simpa using h1
   by_cases h2:n<=b
   · go_enter Tryz.func17,Tryz.ntmps17
     go_wp2
     go_ret
     exact ⟨by simp [h1,h2],rfl⟩
   · go_enter Tryz.func17,Tryz.ntmps17
     go_wp2
     go_ret
     exact ⟨by simp [h1];try omega,rfl⟩
 · have e1:decide (a<=n)=false:=by simpa using h1
   go_enter Tryz.func17,Tryz.ntmps17
   go_wp2
   go_ret
   exact ⟨by simp [h1];try omega,rfl⟩
set_option maxHeartbeats 1000000 in
theorem implValidAutomaton (v:Value) (a:Au) (w:World) (hv:AuV 0 w.heap.size w v a) :
 Calls Tryz.prog 69 #[v] w fun e w'=>e=.returned (.bool (auOk a))/\Below w.heap.size w w':=by
 obtain ⟨ac,nx,rfl,⟨A1,c1,rfl,hl1,hm1,-⟩,us,⟨A2,c2,rfl,hl2,hm2,hx2⟩,hul,hrows⟩:=hv
 rw [hul] at hl2 ⊢
 have HU:=Hd_ hul
 clear hul
 unfold maxLen at hm1 hm2
 have hb0:Below w.heap.size w (w.alloc (.cells #[.int .i64 a.start,.slice A1 a.accept.length c1,.slice A2 a.next.length c2] 31)):=(Below.refl _ _).alloc (Nat.le_refl _) _
 have HW:=Hd_ within_any
 by_cases g1:wi a.accept.length 1 12=true
 · by_cases g2:wi a.start 0 ((a.accept.length:Int) - 1)=true
   · by_cases g3:a.next.length=a.accept.length
     · have HG3:=Hd_ g3
       have g3':((a.next.length:Int) != (a.accept.length:Int))=false:=by simp;omega
       have hr:auOk a=a.next.all (rowOk a.accept.length):=by simp [auOk,g1,g2,g3]
       have HR:=Hd_ hr
       clear hr g3
       obtain ⟨hn1,hn2⟩:=wi_iff.1 g1
       go_enter Tryz.func69,Tryz.ntmps69
       go_wp2_with (go_at_call 17;refine (HW.out _ _ _ _).mono ?_;rintro e w' ⟨rfl,rfl⟩)
       go_loop [32] (fun ii=>∃ i:Nat,i<=a.next.length/\ii=.int .i64 i/\(a.next.take i).all (rowOk a.accept.length)=true) (fun ii=>a.next.length - (intOf ii).toNat)
       case atStart=>exact ⟨0,Nat.zero_le _,rfl,rfl⟩
       case round =>
        obtain ⟨i,hi,rfl,hall⟩:=hrel
        have HA:=Hd_ hall
        clear hall
        by_cases hlt:i < a.next.length
        · obtain ⟨u,hu⟩:∃ u,us[i]?=some u:=⟨_,List.getElem?_eq_getElem (by have:=HU.out;omega)⟩
          obtain ⟨b,o,rfl,-,hb1,hc⟩:=hx2 i u hu
          have hxi:a.next[i]?=some a.next[i]:=List.getElem?_eq_getElem hlt
          have hvi:=hrows i u _ hu hxi
          generalize a.next[i]=row at hvi hxi
          have c0:=hc 0 _ rfl
          simp only [Nat.mul_one,Nat.add_zero] at c0
          obtain ⟨A3,c3,rfl,hl3,hm3,hx3⟩:=hvi
          unfold maxLen at hm3
          have HX:=Hd_ hxi
          clear hc hx2 hu hxi hrows
          go_wp2_with fail
          go_loop [38] (fun jj=>∃ j:Nat,j<=row.length/\jj=.int .i64 j/\(row.take j).all (fun t=>wi t (-1) ((a.accept.length:Int) - 1))=true) (fun jj=>row.length - (intOf jj).toNat)
          case atStart=>exact ⟨0,Nat.zero_le _,rfl,rfl⟩
          case round =>
           obtain ⟨j,hj,rfl,hall2⟩:=hrel
           have HB:=Hd_ hall2
           clear hall2
           by_cases hlt2:j < row.length
           · have hxj:row[j]?=some row[j]:=List.getElem?_eq_getElem hlt2
             obtain ⟨b2,o2,rfl,-,hb2,hc2⟩:=hx3 j _ hxj
             generalize row[j]=t at hc2 hxj
             have d0:=hc2 0 _ rfl
             simp only [Nat.mul_one,Nat.add_zero] at d0
             have HXJ:=Hd_ hxj
             clear hc2 hx3 hxj
             by_cases g4:wi t (-1) ((a.accept.length:Int) - 1)=true
             · go_wp2_with (go_at_call 17;refine (HW.out _ _ _ _).mono ?_;rintro e w' ⟨rfl,rfl⟩)
               go_round
               case rel=>exact ⟨j+1,by omega,by go_num,all_take_succ HXJ.out HB.out g4⟩
               case measure=>simp [intOf];omega
             · simp only [Bool.not_eq_true] at g4
               have hfin:auOk a=false:=by
                rw [HR.out]
                refine all_false_of HX.out ?_
                rw [rowOk,all_false_of HXJ.out g4]
                rfl
               have HF:=Hd_ hfin
               clear hfin
               go_wp2_with (go_at_call 17;refine (HW.out _ _ _ _).mono ?_;rintro e w' ⟨rfl,rfl⟩)
               go_ret
               exact ⟨by rw [HF.out];rfl,hb0⟩
           · obtain rfl:j=row.length:=by omega
             have hall3:row.all (fun t=>wi t (-1) ((a.accept.length:Int) - 1))=true:=by have:=HB.out;rwa [List.take_length] at this
             have H3:=Hd_ hall3
             clear hall3
             clear hx3
             by_cases g9:row.length=9
             · have g9':((row.length:Int) != 9)=false:=by simp;omega
               have hok:rowOk a.accept.length row=true:=by rw [rowOk,H3.out,g9];rfl
               have HO:=Hd_ hok
               clear hok g9
               go_wp2_with fail
               go_round
               case rel=>exact ⟨i+1,by omega,by go_num,all_take_succ HX.out HA.out HO.out⟩
               case measure=>simp [intOf];omega
             · have g9':((row.length:Int) != 9)=true:=by simp;omega
               have hfin:auOk a=false:=by
                rw [HR.out]
                refine all_false_of HX.out ?_
                rw [rowOk]
                simp [g9]
               have HF:=Hd_ hfin
               clear hfin g9
               go_wp2_with fail
               go_ret
               exact ⟨by rw [HF.out];rfl,hb0⟩
        · obtain rfl:i=a.next.length:=by omega
          have hfin:auOk a=true:=by rw [HR.out];have:=HA.out;rwa [List.take_length] at this
          have HF:=Hd_ hfin
          clear hfin hx2 hrows
          go_wp2_with fail
          go_ret
          exact ⟨by rw [HF.out];rfl,hb0⟩
     · have g3':((a.next.length:Int) != (a.accept.length:Int))=true:=by simp;omega
       have hr:auOk a=false:=by simp [auOk,g3]
       have HR:=Hd_ hr
       clear hr g3
       go_enter Tryz.func69,Tryz.ntmps69
       go_wp2_with (go_at_call 17;refine (HW.out _ _ _ _).mono ?_;rintro e w' ⟨rfl,rfl⟩)
       go_ret
       exact ⟨by rw [HR.out];rfl,hb0⟩
   · simp only [Bool.not_eq_true] at g2
     have hr:auOk a=false:=by simp [auOk,g2]
     have HR:=Hd_ hr
     clear hr
     go_enter Tryz.func69,Tryz.ntmps69
     go_wp2_with (go_at_call 17;refine (HW.out _ _ _ _).mono ?_;rintro e w' ⟨rfl,rfl⟩)
     go_ret
     exact ⟨by rw [HR.out];rfl,hb0⟩
 · simp only [Bool.not_eq_true] at g1
   have hr:auOk a=false:=by simp [auOk,g1]
   have HR:=Hd_ hr
   clear hr
   go_enter Tryz.func69,Tryz.ntmps69
   go_wp2_with (go_at_call 17;refine (HW.out _ _ _ _).mono ?_;rintro e w' ⟨rfl,rfl⟩)
   go_ret
   exact ⟨by rw [HR.out];rfl,hb0⟩
theorem isLetter_any (n:Int) (w:World):Calls Tryz.prog 95 #[.int .i64 n] w fun e w'=>e=.returned (.bool (wi n 0 8))/\w'=w:=by
 have HW:=Hd_ within_any
 go_enter Tryz.func95,Tryz.ntmps95
 go_wp2_with (go_at_call 17;refine (HW.out _ _ _ _).mono ?_;rintro e w' ⟨rfl,rfl⟩)
 go_ret
 exact ⟨rfl,rfl⟩
def mvI (a:Au) (s l:Int):Int:=if 0<=s/\wi l 0 8=true then mv a s.toNat l.toNat else -1
theorem mvI_in {a:Au} {s l:Nat} (hl:l < 9):mvI a s l=mv a s l:=by
 rw [mvI,if_pos ⟨by omega,wi_iff.2 ⟨by omega,by omega⟩⟩];simp
set_option maxHeartbeats 1000000 in
theorem move_any (v:Value) (a:Au) (s l:Int) (w:World) (hv:AuV 0 w.heap.size w v a) (hok:auOk a=true) (hs:s < (a.accept.length:Int)) :
 Calls Tryz.prog 81 #[v,.int .i64 s,.int .i64 l] w fun e w'=>e=.returned (.int .i64 (mvI a s l))/\Below w.heap.size w w':=by
 obtain ⟨A1,c1,A2,c2,rfl,hl1,hm1,hl2,hm2,hC⟩:=hv.form hok
 have HL:=Hd_ isLetter_any
 have hb0:Below w.heap.size w (w.alloc (.cells #[.int .i64 a.start,.slice A1 a.accept.length c1,.slice A2 a.accept.length c2] 31)):=(Below.refl _ _).alloc (Nat.le_refl _) _
 have HOK:=Hd_ hok
 clear hok hv
 by_cases h0:s < 0
 · have hfin:mvI a s l=-1:=by rw [mvI,if_neg (by omega)]
   have HF:=Hd_ hfin
   clear hfin
   go_enter Tryz.func81,Tryz.ntmps81
   go_wp2_with fail
   go_ret
   exact ⟨by rw [HF.out];rfl,hb0⟩
 · obtain ⟨s,rfl⟩:=Int.eq_ofNat_of_zero_le (show 0<=s by omega)
   cases hl:wi l 0 8 with
   | false =>
     have hfin:mvI a s l=-1:=by rw [mvI,if_neg (by simp [hl])]
     have HF:=Hd_ hfin
     clear hfin
     go_enter Tryz.func81,Tryz.ntmps81
     go_wp2_with (go_at_call 95;refine (HL.out _ _).mono ?_;rintro e w' ⟨rfl,rfl⟩)
     go_ret
     exact ⟨by rw [HF.out];rfl,hb0⟩
   | true =>
     have hl0:=wi_iff.1 hl
     obtain ⟨l,rfl⟩:=Int.eq_ofNat_of_zero_le hl0.1
     obtain ⟨b2,o2,b3,o3,c3,rfl,hb2,d2,hl3,hm3,hb3,hc3⟩:=hC.row s (by omega)
     have hl9:l < 9:=by omega
     have d3:=hc3 l hl9
     have HF:=Hd_ (mvI_in (a:=a) (s:=s) (l:=l) (by omega))
     clear hc3 hC hl0
     go_enter Tryz.func81,Tryz.ntmps81
     go_wp2_with (go_at_call 95;refine (HL.out _ _).mono ?_;rintro e w' ⟨rfl,rfl⟩)
     go_ret
     exact ⟨by rw [HF.out];rfl,hb0⟩
set_option maxHeartbeats 1000000 in
theorem closure_any (v:Value) (a:Au) (s x:Nat) (w:World) (hv:AuV 0 w.heap.size w v a) (hok:auOk a=true) (hs:s < a.accept.length) (hx:x<=2) :
 Calls Tryz.prog 76 #[v,.int .i64 (s:Int),.int .i64 (x:Int)] w fun e w'=>e=.returned (.int .i64 (cls a x s:Int))/\Below w.heap.size w w':=by
 have hv0:=hv
 obtain ⟨A1,c1,A2,c2,rfl,-⟩:=hv.form hok
 clear hv
 have hn12:a.accept.length<=12:=(auOk_iff.1 hok).1.2
 have hb0:Below w.heap.size w (w.alloc (.cells #[.int .i64 a.start,.slice A1 a.accept.length c1,.slice A2 a.accept.length c2] 31)):=(Below.refl _ _).alloc (Nat.le_refl _) _
 have HV:=Hd_ hv0
 have HOK:=Hd_ hok
 clear hok
 obtain ⟨R,hR⟩:∃ R,R=cls a x s:=⟨_,rfl⟩
 rw [<- hR]
 have HR:=Hd_ hR
 clear hR hv0
 go_enter Tryz.func76,Tryz.ntmps76
 go_wp2_with fail
 go_loopw [7,8] (fun st ss wr=>∃ (f m:Nat) (s:Int) (u:World),st=.int .i64 (m:Int)/\ss=.int .i64 s/\clsF a (6+x) f s m=R/\f+(mem 12 m).length=13/\m < 2 ^ a.accept.length/\s < (a.accept.length:Int)/\wr=ext (w.alloc (.cells #[.int .i64 a.start,.slice A1 a.accept.length c1,.slice A2 a.accept.length c2] 31)) u) (fun st _ _=>13 - (mem 12 (intOf st).toNat).length)
 case atStart=>exact ⟨13,0,s,_,rfl,rfl,HR.out.symm,by simp [mem],Nat.two_pow_pos _,by omega,ext_self _⟩
 case round =>
  obtain ⟨f,m,s,u,rfl,rfl,hcl,hf,hm,hs,rfl⟩:=hrel
  have hm2:=lt12 HOK.out hm
  have hml:=mem_len 12 m
  have HC:=Hd_ hcl
  have HFC:=Hd_ hf
  have hbw:=below_trans hb0 (ext_below _ u)
  clear hcl hf
  by_cases h0:0<=s
  · obtain ⟨s,rfl⟩:=Int.eq_ofNat_of_zero_le h0
    have hs12:s < 12:=by omega
    have e1:=shl_bit (s:=s) (by omega)
    have e2:=or_ins (m:=m) (s:=s) (by omega) (by omega)
    cases hb:m.testBit s with
    | true =>
      have e3:=bit_on (by omega) (by omega) hb
      have hfin:m=R:=by rw [<- HC.out];exact (clsF_stop (.inr (by simpa using hb))).symm
      have HF:=Hd_ hfin
      clear hfin hb h0
      go_wp2_with fail
      go_ret
      exact ⟨by rw [HF.out];rfl,hbw⟩
    | false =>
      have e3:=bit_off (by omega) (by omega) hb
      have HB:=Hd_ hb
      have hmv:=mv_lt HOK.out s (6+x)
      clear hb h0
      go_wp2_with fail
      refine (move_any _ a (s:Int) _ _ (HV.out.keep hbw) HOK.out (by omega)).mono ?_
      rintro e w1 ⟨rfl,hb1⟩
      obtain ⟨u1,rfl⟩:=ext_of (below_trans (ext_below _ u) hb1)
      rw [show (6:Int)+(x:Int)=((6+x:Nat):Int) by omega,mvI_in (by omega)]
      go_wp2_with fail
      go_roundw
      case rel =>
       have h1:=cnt_or (n:=12) (m:=m) hs12 HB.out
       have h2:=HFC.out
       obtain ⟨f,rfl⟩:∃ f',f=f'+1:=⟨f - 1,by omega⟩
       refine ⟨f,ins m s,_,_,rfl,rfl,by rw [<- HC.out];exact (clsF_go HB.out).symm,by omega,ins_lt hm (by omega),by omega,rfl⟩
      case measure =>
       have h1:=cnt_or (n:=12) (m:=m) hs12 HB.out
       simp [intOf];omega
  · have hfin:m=R:=by rw [<- HC.out];exact (clsF_stop (.inl (by omega))).symm
    have h0':decide (s >= 0)=false:=by simp;omega
    have HF:=Hd_ hfin
    clear hfin
    go_wp2_with fail
    go_ret
    exact ⟨by rw [HF.out];rfl,hbw⟩
set_option maxHeartbeats 1000000 in
theorem members_any (m:Nat) (w:World) (hm:m < 4096) :
 Calls Tryz.prog 75 #[.int .i64 (m:Int)] w fun e w'=>∃ v',e=.returned v'/\Own w.heap.size w'.heap.size w' 3 cN 1 v' (mem 12 m)/\Below w.heap.size w w':=by
 obtain ⟨R,hR⟩:∃ R,R=mem 12 m:=⟨_,rfl⟩
 rw [<- hR]
 have HR:=Hd_ hR
 clear hR
 go_enter Tryz.func75,Tryz.ntmps75
 go_wp2_with fail
 go_loopw [3,4] (fun out ii wr=>∃ i:Nat,i<=12/\ii=.int .i64 (i:Int)/\wr.ownsRow w.heap.size 3 1 out (mem i m).length ((mem i m).flatMap cN)/\Below w.heap.size w wr) (fun _ ii _=>12 - (intOf ii).toNat)
 case atStart=>exact ⟨0,Nat.zero_le _,rfl,World.ownsRow_lit w #[] 0 (Nat.le_refl _) (by decide) rfl,(Below.refl _ _).alloc (Nat.le_refl _) _⟩
 case round =>
  obtain ⟨i,hi,rfl,hrow,hbel⟩:=hrel
  have HROW:=Hd_ hrow
  have hs:=hbel.size
  have hml:=mem_len i m
  clear hrow
  by_cases hlt:2 ^ i<=m
  · have e1:=shr_on (by omega) hlt
    have hi12:i < 12:=by
     rcases Nat.lt_or_ge i 12 with h | h
     · exact h
     · have:2 ^ 12<=2 ^ i:=Nat.pow_le_pow_right (by omega) h
       omega
    clear hlt
    cases hb:m.testBit i with
    | true =>
      have e3:=bit_on (by omega) (by omega) hb
      have HM:=Hd_ (mem_yes hb)
      clear hb
      go_wp2_with (at_builtin;(refine wpList_append1 cN elInt rfl _ _ rfl w.heap.size _ (mem i m) i _ 1 _ (by rfl) HROW.out (by rfl) rfl rfl rfl (cN_one _) (by omega) (by omega) hs ?_);rw [<- HM.out];intro v' w4 hrow' hb4 _ _)
      go_roundw
      case rel=>exact ⟨i+1,by omega,by go_num,hrow',hbel.trans hb4⟩
      case measure=>simp [intOf];omega
    | false =>
      have e3:=bit_off (by omega) (by omega) hb
      have HM:=Hd_ (mem_no hb)
      clear hb
      go_wp2_with fail
      go_roundw
      case rel=>exact ⟨i+1,by omega,by go_num,by rw [HM.out];exact HROW.out,hbel⟩
      case measure=>simp [intOf];omega
  · have e1:=shr_off (i:=i) (m:=m) (by omega) (by omega)
    have hfin:R=mem i m:=by rw [HR.out];exact mem_stop (by omega) hi
    have HF:=Hd_ hfin
    clear hfin hlt
    go_wp2_with fail
    go_ret
    exact ⟨_,rfl,by rw [HF.out];exact Own.of_row HROW.out rfl rfl,hbel⟩
set_option maxHeartbeats 2000000 in
theorem after_any (v:Value) (a:Au) (set x l:Nat) (w:World) (hv:AuV 0 w.heap.size w v a) (hok:auOk a=true) (hset:set < 2 ^ a.accept.length) (hx:x<=2) (hl:l < 9) :
 Calls Tryz.prog 51 #[v,.int .i64 (set:Int),.int .i64 (x:Int),.int .i64 (l:Int)] w fun e w'=>e=.returned (.int .i64 (aft a set x l:Int))/\Below w.heap.size w w':=by
 have hv0:=hv
 obtain ⟨A1,c1,A2,c2,rfl,-⟩:=hv.form hok
 clear hv
 have hn12:a.accept.length<=12:=(auOk_iff.1 hok).1.2
 have hb0:Below w.heap.size w (w.alloc (.cells #[.int .i64 a.start,.slice A1 a.accept.length c1,.slice A2 a.accept.length c2] 31)):=(Below.refl _ _).alloc (Nat.le_refl _) _
 have HV:=Hd_ hv0
 have HOK:=Hd_ hok
 have HSET:=Hd_ hset
 have h4096:=lt12 hok hset
 clear hok hv0 hset
 go_enter Tryz.func51,Tryz.ntmps51
 go_wp2_with fail
 refine (members_any set _ h4096).mono ?_
 rintro e w1 ⟨v1,rfl,ho,hb1⟩
 obtain ⟨A3,c3,rfl,hl3,hm3,hC3⟩:=ho.form cN_len
 have hml:=mem_len 12 set
 have hb2:=below_trans hb0 hb1
 have HC3:=Hd_ hC3
 have b0:=(Blk.new w _ _ w.heap.size rfl).keep hb1
 have x0:w1.cell? ⟨w.heap.size,0,none⟩=some _:=b0.cell 0
 have x1:w1.cell? ⟨w.heap.size,1,none⟩=some _:=b0.cell 1
 have x2:w1.cell? ⟨w.heap.size,2,none⟩=some _:=b0.cell 2
 have l0:=b0.lt
 clear b0
 clear hb1 hb0 ho hC3
 go_wp2_with fail
 have hfl:∀ i,((mem 12 set).take i).foldl (aftS a x l) 0 < 2 ^ a.accept.length:=fun i=>foldl_inv (P:=fun m=>m < 2 ^ a.accept.length) (fun m s hm=>aftS_lt HOK.out x l m s hm) _ _ (Nat.two_pow_pos _)
 have HFL:=Hd_ hfl
 clear hfl
 go_loopw [9,18] (fun out ii wr=>∃ (i:Nat) (u:World),i<=(mem 12 set).length/\ii=.int .i64 (i:Int)/\out=.int .i64 (((mem 12 set).take i).foldl (aftS a x l) 0:Nat)/\wr=ext w1 u) (fun _ ii _=>(mem 12 set).length - (intOf ii).toNat)
 case atStart=>exact ⟨0,w1,Nat.zero_le _,rfl,rfl,ext_self _⟩
 case round =>
  obtain ⟨i,u,hi,rfl,rfl,rfl⟩:=hrel
  by_cases hlt:i < (mem 12 set).length
  · have hsi:(mem 12 set)[i]?=some (mem 12 set)[i]:=List.getElem?_eq_getElem hlt
    have hsm:=mem_mem.1 (List.getElem_mem hlt)
    generalize (mem 12 set)[i]=s at hsi hsm
    have hsn:s < a.accept.length:=by
     rcases Nat.lt_or_ge s a.accept.length with h | h
     · exact h
     · have:=Nat.testBit_lt_two_pow (Nat.lt_of_lt_of_le HSET.out (Nat.pow_le_pow_right (by omega) h))
       rw [hsm.2] at this;cases this
    obtain ⟨b3,o3,rfl,hb3,d3⟩:=HC3.out.nat hsi
    have HFT:=Hd_ (foldl_take (f:=aftS a x l) hsi 0)
    have hbw:=below_trans hb2 (ext_below w1 u)
    have hm0:=HFL.out i
    generalize ((mem 12 set).take i).foldl (aftS a x l) 0=m0 at *
    clear hsi hsm
    go_wp2_with fail
    refine (closure_any _ a s x _ (HV.out.keep hbw) HOK.out hsn hx).mono ?_
    rintro e w2 ⟨rfl,hb5⟩
    obtain ⟨u2,rfl⟩:=ext_of (below_trans (ext_below w1 u) hb5)
    have hcl:=cls_lt HOK.out x s hsn
    have hcl4:=lt12 HOK.out hcl
    go_wp2_with fail
    refine (members_any (cls a x s) _ hcl4).mono ?_
    rintro e w3 ⟨v4,rfl,ho4,hb6⟩
    obtain ⟨A4,c4,rfl,hl4,hm4,hC4⟩:=ho4.form cN_len
    have hml4:=mem_len 12 (cls a x s)
    have hb7:=below_trans (ext_below w1 u2) hb6
    have hb8:=below_trans hb2 hb7
    have x0:=bcell hb7 x0 l0
    have x1:=bcell hb7 x1 l0
    have x2:=bcell hb7 x2 l0
    have l0:=Nat.lt_of_lt_of_le l0 hb7.size
    have HC4:=Hd_ hC4
    have HCL:=Hd_ hcl
    clear hb6 hb5 hbw ho4 hC4 hcl
    go_wp2_with fail
    go_loopw [9,28] (fun out jj wr=>∃ (j:Nat) (u:World),j<=(mem 12 (cls a x s)).length/\jj=.int .i64 (j:Int)/\out=.int .i64 (((mem 12 (cls a x s)).take j).foldl (aft1 a l) m0:Nat)/\wr=ext w3 u) (fun _ jj _=>(mem 12 (cls a x s)).length - (intOf jj).toNat)
    case atStart=>exact ⟨0,w3,Nat.zero_le _,rfl,rfl,ext_self _⟩
    case round =>
     obtain ⟨j,u3,hj,rfl,rfl,rfl⟩:=hrel
     by_cases hlt2:j < (mem 12 (cls a x s)).length
     · have hti:(mem 12 (cls a x s))[j]?=some (mem 12 (cls a x s))[j]:=List.getElem?_eq_getElem hlt2
       have htm:=mem_mem.1 (List.getElem_mem hlt2)
       generalize (mem 12 (cls a x s))[j]=t at hti htm
       have htn:t < a.accept.length:=by
        rcases Nat.lt_or_ge t a.accept.length with h | h
        · exact h
        · have:=Nat.testBit_lt_two_pow (Nat.lt_of_lt_of_le HCL.out (Nat.pow_le_pow_right (by omega) h))
          rw [htm.2] at this;cases this
       obtain ⟨b4,o4,rfl,hb4,d4⟩:=HC4.out.nat hti
       have HFT2:=Hd_ (foldl_take (f:=aft1 a l) hti m0)
       have hm1:((mem 12 (cls a x s)).take j).foldl (aft1 a l) m0 < 2 ^ a.accept.length:=foldl_inv (P:=fun m=>m < 2 ^ a.accept.length) (fun m s hm=>aft1_lt HOK.out l m s hm) _ _ hm0
       have hm14:=lt12 HOK.out hm1
       generalize ((mem 12 (cls a x s)).take j).foldl (aft1 a l) m0=m1 at *
       have hbw:=below_trans hb8 (ext_below w3 u3)
       have hmv:=mv_lt HOK.out t l
       have HA:=Hd_ (show aft1 a l m1 t=if 0<=mv a t l then ins m1 (mv a t l).toNat else m1 from rfl)
       clear hti htm hm0
       go_wp2_with fail
       refine (move_any _ a (t:Int) (l:Int) _ (HV.out.keep hbw) HOK.out (by omega)).mono ?_
       rintro e w4 ⟨rfl,hb9⟩
       obtain ⟨u4,rfl⟩:=ext_of (below_trans (ext_below w3 u3) hb9)
       rw [mvI_in hl]
       clear hb9
       by_cases h0:0<=mv a t l
       · generalize mv a t l=z at *
         obtain ⟨z,rfl⟩:=Int.eq_ofNat_of_zero_le h0
         have e1:=shl_bit (s:=z) (by omega)
         have e2:=or_ins (m:=m1) (s:=z) (by omega) (by omega)
         go_wp2_with fail
         go_roundw
         case rel=>exact ⟨j+1,u4,by omega,by go_num,by rw [HFT2.out,HA.out,if_pos h0];simp,rfl⟩
         case measure=>simp [intOf];omega
       · have h0':decide (mv a t l >= 0)=false:=by simp;omega
         go_wp2_with fail
         go_roundw
         case rel=>exact ⟨j+1,u4,by omega,by go_num,by rw [HFT2.out,HA.out,if_neg (by omega)],rfl⟩
         case measure=>simp [intOf];omega
     · obtain rfl:j=(mem 12 (cls a x s)).length:=by omega
       have HT:=Hd_ (show ((mem 12 (cls a x s)).take (mem 12 (cls a x s)).length).foldl (aft1 a l) m0=aftS a x l m0 s by rw [List.take_length];rfl)
       go_wp2_with fail
       go_roundw
       case rel =>
        obtain ⟨u5,hu5⟩:=ext_of (below_trans hb7 (ext_below w3 u3))
        exact ⟨i+1,u5,by omega,by go_num,by rw [HFT.out,HT.out],hu5⟩
       case measure=>simp [intOf];omega
  · obtain rfl:i=(mem 12 set).length:=by omega
    have HT:=Hd_ (show ((mem 12 set).take (mem 12 set).length).foldl (aftS a x l) 0=aft a set x l by rw [List.take_length];rfl)
    go_wp2_with fail
    go_ret
    exact ⟨by rw [HT.out];rfl,below_trans hb2 (ext_below w1 u)⟩
theorem bit_in {n m t:Nat} (hm:m < 2 ^ n) (ht:m.testBit t=true):t < n:=by
 rcases Nat.lt_or_ge t n with h | h
 · exact h
 · have:=Nat.testBit_lt_two_pow (Nat.lt_of_lt_of_le hm (Nat.pow_le_pow_right (by omega) h))
   rw [ht] at this;cases this
theorem any_take {α:Type} {p:α->Bool} {xs:List α} {i:Nat} {x:α} (h:xs[i]?=some x):(xs.take (i+1)).any p=((xs.take i).any p || p x):=by
 rw [take_snoc h,List.any_append];simp
theorem any_of_at {α:Type} {p:α->Bool} {xs:List α} {i:Nat} {x:α} (h:xs[i]?=some x) (hp:p x=true):xs.any p=true:=List.any_eq_true.2 ⟨x,List.mem_of_getElem? h,hp⟩
set_option maxHeartbeats 2000000 in
theorem acceptsAt_any (v:Value) (a:Au) (set x:Nat) (w:World) (hv:AuV 0 w.heap.size w v a) (hok:auOk a=true) (hset:set < 2 ^ a.accept.length) (hx:x<=2) :
 Calls Tryz.prog 45 #[v,.int .i64 (set:Int),.int .i64 (x:Int)] w fun e w'=>e=.returned (.bool (acc a set x))/\Below w.heap.size w w':=by
 have hv0:=hv
 obtain ⟨A1,c1,A2,c2,rfl,hl1,hm1,-,-,hAC,-⟩:=hv.form hok
 clear hv
 have hn12:a.accept.length<=12:=(auOk_iff.1 hok).1.2
 have hb0:Below w.heap.size w (w.alloc (.cells #[.int .i64 a.start,.slice A1 a.accept.length c1,.slice A2 a.accept.length c2] 31)):=(Below.refl _ _).alloc (Nat.le_refl _) _
 have HV:=Hd_ hv0
 have HOK:=Hd_ hok
 have HSET:=Hd_ hset
 have HAC:=Hd_ hAC
 have h4096:=lt12 hok hset
 clear hok hv0 hset hAC
 go_enter Tryz.func45,Tryz.ntmps45
 go_wp2_with fail
 refine (members_any set _ h4096).mono ?_
 rintro e w1 ⟨v1,rfl,ho,hb1⟩
 obtain ⟨A3,c3,rfl,hl3,hm3,hC3⟩:=ho.form cN_len
 have hml:=mem_len 12 set
 have hb2:=below_trans hb0 hb1
 have HC3:=Hd_ hC3
 have b0:=(Blk.new w _ _ w.heap.size rfl).keep hb1
 have x0:w1.cell? ⟨w.heap.size,0,none⟩=some _:=b0.cell 0
 have x1:w1.cell? ⟨w.heap.size,1,none⟩=some _:=b0.cell 1
 have x2:w1.cell? ⟨w.heap.size,2,none⟩=some _:=b0.cell 2
 have l0:=b0.lt
 clear b0
 clear hb1 hb0 ho hC3
 go_wp2_with fail
 go_loopw [14] (fun ii wr=>∃ (i:Nat) (u:World),i<=(mem 12 set).length/\ii=.int .i64 (i:Int)/\((mem 12 set).take i).any (accC a x)=false/\wr=ext w1 u) (fun ii _=>(mem 12 set).length - (intOf ii).toNat)
 case atStart=>exact ⟨0,w1,Nat.zero_le _,rfl,rfl,ext_self _⟩
 case round =>
  obtain ⟨i,u,hi,rfl,hno,rfl⟩:=hrel
  have HNO:=Hd_ hno
  clear hno
  by_cases hlt:i < (mem 12 set).length
  · have hsi:(mem 12 set)[i]?=some (mem 12 set)[i]:=List.getElem?_eq_getElem hlt
    have hsm:=mem_mem.1 (List.getElem_mem hlt)
    generalize (mem 12 set)[i]=s at hsi hsm
    have hsn:=bit_in HSET.out hsm.2
    obtain ⟨b3,o3,rfl,hb3,d3⟩:=HC3.out.nat hsi
    have hbw:=below_trans hb2 (ext_below w1 u)
    have HSI:=Hd_ hsi
    clear hsi hsm
    go_wp2_with fail
    refine (closure_any _ a s x _ (HV.out.keep hbw) HOK.out hsn hx).mono ?_
    rintro e w2 ⟨rfl,hb5⟩
    obtain ⟨u2,rfl⟩:=ext_of (below_trans (ext_below w1 u) hb5)
    have hcl:=cls_lt HOK.out x s hsn
    have hcl4:=lt12 HOK.out hcl
    go_wp2_with fail
    refine (members_any (cls a x s) _ hcl4).mono ?_
    rintro e w3 ⟨v4,rfl,ho4,hb6⟩
    obtain ⟨A4,c4,rfl,hl4,hm4,hC4⟩:=ho4.form cN_len
    have hml4:=mem_len 12 (cls a x s)
    have hb7:=below_trans (ext_below w1 u2) hb6
    have hb8:=below_trans hb2 hb7
    have x0:=bcell hb7 x0 l0
    have x1:=bcell hb7 x1 l0
    have x2:=bcell hb7 x2 l0
    have l0:=Nat.lt_of_lt_of_le l0 hb7.size
    have HC4:=Hd_ hC4
    have HCL:=Hd_ hcl
    have HAC3:=Hd_ (HAC.out.keep hb8)
    have HAE:=Hd_ (show accC a x s=(mem 12 (cls a x s)).any fun t=>a.accept.getD t false from rfl)
    clear hb6 hb5 hbw ho4 hC4 hcl
    go_wp2_with fail
    go_loopw [24] (fun jj wr=>∃ (j:Nat) (u:World),j<=(mem 12 (cls a x s)).length/\jj=.int .i64 (j:Int)/\((mem 12 (cls a x s)).take j).any (fun t=>a.accept.getD t false)=false/\wr=ext w3 u) (fun jj _=>(mem 12 (cls a x s)).length - (intOf jj).toNat)
    case atStart=>exact ⟨0,w3,Nat.zero_le _,rfl,rfl,ext_self _⟩
    case round =>
     obtain ⟨j,u3,hj,rfl,hno,rfl⟩:=hrel
     have HNJ:=Hd_ hno
     clear hno
     by_cases hlt2:j < (mem 12 (cls a x s)).length
     · have hti:(mem 12 (cls a x s))[j]?=some (mem 12 (cls a x s))[j]:=List.getElem?_eq_getElem hlt2
       have htm:=mem_mem.1 (List.getElem_mem hlt2)
       generalize (mem 12 (cls a x s))[j]=t at hti htm
       have htn:=bit_in HCL.out htm.2
       obtain ⟨b4,o4,rfl,hb4,d4⟩:=HC4.out.nat hti
       have hbw:=below_trans hb8 (ext_below w3 u3)
       have hai:a.accept[t]?=some a.accept[t]:=List.getElem?_eq_getElem htn
       obtain ⟨b5,o5,rfl,hb5,d5⟩:=HAC3.out.bool hai
       have hag:a.accept.getD t false=a.accept[t]:=by simp [List.getD,hai]
       generalize a.accept[t]=b at *
       have HAG:=Hd_ hag
       have HTI:=Hd_ hti
       clear hti htm hai hag
       cases b with
       | true =>
         have hfin:acc a set x=true:=any_of_at HSI.out (by rw [HAE.out];exact any_of_at HTI.out HAG.out)
         have HF:=Hd_ hfin
         clear hfin
         go_wp2_with fail
         go_ret
         exact ⟨by rw [HF.out];rfl,hbw⟩
       | false =>
         go_wp2_with fail
         go_roundw
         case rel=>exact ⟨j+1,u3,by omega,by go_num,by rw [any_take HTI.out,HNJ.out,HAG.out];rfl,rfl⟩
         case measure=>simp [intOf];omega
     · obtain rfl:j=(mem 12 (cls a x s)).length:=by omega
       have HT:=Hd_ (show accC a x s=false by have h:=HNJ.out;rw [List.take_length] at h;rw [HAE.out];exact h)
       go_wp2_with fail
       go_roundw
       case rel =>
        obtain ⟨u5,hu5⟩:=ext_of (below_trans hb7 (ext_below w3 u3))
        exact ⟨i+1,u5,by omega,by go_num,by rw [any_take HSI.out,HNO.out,HT.out];rfl,hu5⟩
       case measure=>simp [intOf];omega
  · obtain rfl:i=(mem 12 set).length:=by omega
    have HT:=Hd_ (show acc a set x=false by have h:=HNO.out;rw [List.take_length] at h;exact h)
    go_wp2_with fail
    go_ret
    exact ⟨by rw [HT.out];rfl,below_trans hb2 (ext_below w1 u)⟩
set_option maxHeartbeats 1000000 in
theorem edgeOk_any (e:Ed) (n:Nat) (w:World) (hn:n<=9223372036854775807) :
 Calls Tryz.prog 89 #[.agg #[.int .i64 e.1,.int .i64 e.2.1,.int .i64 e.2.2.1,.int .i64 e.2.2.2],.int .i64 (n:Int)] w fun en w'=>en=.returned (.bool (edOk n e))/\Below w.heap.size w w':=by
 obtain ⟨a,b,c,d⟩:=e
 have HW:=Hd_ within_any
 unfold edOk
 simp only
 have hb0:Below w.heap.size w (w.alloc (.cells #[.int .i64 a,.int .i64 b,.int .i64 c,.int .i64 d] 110)):=(Below.refl _ _).alloc (Nat.le_refl _) _
 cases g1:wi a 1 99 with
 | false =>
   have HZ:=Hd_ g1
   go_enter Tryz.func89,Tryz.ntmps89
   go_wp2_with (go_at_call 17;refine (HW.out _ _ _ _).mono ?_;rintro e w' ⟨rfl,rfl⟩)
   go_ret
   exact ⟨rfl,hb0⟩
 | true =>
   cases g2:wi b 0 ((n:Int) - 1) with
   | false =>
     go_enter Tryz.func89,Tryz.ntmps89
     go_wp2_with (go_at_call 17;refine (HW.out _ _ _ _).mono ?_;rintro e w' ⟨rfl,rfl⟩)
     go_ret
     exact ⟨rfl,hb0⟩
   | true =>
     cases g3:wi c 0 ((n:Int) - 1) with
     | false =>
       go_enter Tryz.func89,Tryz.ntmps89
       go_wp2_with (go_at_call 17;refine (HW.out _ _ _ _).mono ?_;rintro e w' ⟨rfl,rfl⟩)
       go_ret
       exact ⟨rfl,hb0⟩
     | true =>
       go_enter Tryz.func89,Tryz.ntmps89
       go_wp2_with (go_at_call 17;refine (HW.out _ _ _ _).mono ?_;rintro e w' ⟨rfl,rfl⟩)
       go_ret
       exact ⟨rfl,hb0⟩
set_option maxHeartbeats 2000000 in
theorem implValidGraph (v:Value) (g:Gr) (w:World) (hv:GrV 0 w.heap.size w v g) :
 Calls Tryz.prog 68 #[v] w fun e w'=>e=.returned (.bool (grOk g))/\Below w.heap.size w w':=by
 obtain ⟨vs,es,rfl,⟨A1,c1,rfl,hl1,hm1,hx1⟩,⟨A2,c2,rfl,hl2,hm2,hx2⟩⟩:=hv
 unfold maxLen at hm1 hm2
 have hb0:Below w.heap.size w (w.alloc (.cells #[.slice A1 g.vals.length c1,.slice A2 g.edges.length c2] 27)):=(Below.refl _ _).alloc (Nat.le_refl _) _
 have HW:=Hd_ within_any
 have HX1:=Hd_ hx1
 have HX2:=Hd_ hx2
 clear hx1 hx2
 go_enter Tryz.func68,Tryz.ntmps68
 go_wp2_with fail
 go_loop [14] (fun ii=>∃ i:Nat,i<=g.vals.length/\ii=.int .i64 i/\(g.vals.take i).all (fun v=>wi v 0 2)=true) (fun ii=>g.vals.length - (intOf ii).toNat)
 case atStart=>exact ⟨0,Nat.zero_le _,rfl,rfl⟩
 case round =>
  obtain ⟨i,hi,rfl,hall⟩:=hrel
  have HA:=Hd_ hall
  clear hall
  by_cases hlt:i < g.vals.length
  · have hxi:g.vals[i]?=some g.vals[i]:=List.getElem?_eq_getElem hlt
    obtain ⟨b,o,rfl,-,hb1,hc⟩:=HX1.out i _ hxi
    generalize g.vals[i]=x at hc hxi
    have c0:=hc 0 _ rfl
    simp only [Nat.mul_one,Nat.add_zero] at c0
    have HX:=Hd_ hxi
    clear hc hxi
    cases g4:wi x 0 2 with
    | true =>
      have G4:=Hd_ g4
      go_wp2_with (go_at_call 17;refine (HW.out _ _ _ _).mono ?_;rintro e w' ⟨rfl,rfl⟩)
      go_round
      case rel=>exact ⟨i+1,by omega,by go_num,all_take_succ HX.out HA.out G4.out⟩
      case measure=>simp [intOf];omega
    | false =>
      have hfin:grOk g=false:=by
       rw [grOk,all_false_of HX.out g4]
       rfl
      have HF:=Hd_ hfin
      clear hfin
      go_wp2_with (go_at_call 17;refine (HW.out _ _ _ _).mono ?_;rintro e w' ⟨rfl,rfl⟩)
      go_ret
      exact ⟨by rw [HF.out];rfl,hb0⟩
  · obtain rfl:i=g.vals.length:=by omega
    have hallv:g.vals.all (fun v=>wi v 0 2)=true:=by have:=HA.out;rwa [List.take_length] at this
    have HV:=Hd_ hallv
    clear hallv HA
    go_wp2_with fail
    go_loopw [25] (fun ii wr=>∃ (i:Nat) (u:World),i<=g.edges.length/\ii=.int .i64 i/\(List.range i).all (edAt g.vals.length g.edges)=true/\wr=ext (w.alloc (.cells #[.slice A1 g.vals.length c1,.slice A2 g.edges.length c2] 27)) u) (fun ii _=>g.edges.length - (intOf ii).toNat)
    case atStart=>exact ⟨0,_,Nat.zero_le _,rfl,rfl,ext_self _⟩
    case round =>
     obtain ⟨i,u,hi,rfl,hall,rfl⟩:=hrel
     have HA:=Hd_ hall
     clear hall
     by_cases hlt:i < g.edges.length
     · have hxi:g.edges[i]?=some g.edges[i]:=List.getElem?_eq_getElem hlt
       obtain ⟨b,o',rfl,-,hb1,hc⟩:=HX2.out i _ hxi
       generalize g.edges[i]=x at hc hxi
       have c0:=hc 0 _ rfl
       have c1':=hc 1 _ rfl
       have c2':=hc 2 _ rfl
       have c3:=hc 3 _ rfl
       simp only [Nat.add_zero] at c0
       have HX:=Hd_ hxi
       have hlen:g.vals.length<=9223372036854775807:=by omega
       clear hc hxi
       have hgr:grOk g=((List.range g.edges.length).all (edAt g.vals.length g.edges) && wi g.vals.length 1 5 && decide (g.edges.length<=12)):=by
        rw [grOk,HV.out];rfl
       have HGR:=Hd_ hgr
       clear hgr
       cases g4:edOk g.vals.length x with
       | false =>
         have hfin:grOk g=false:=by
          rw [HGR.out,range_all_false hlt (by rw [edAt,HX.out];simp [g4])]
          rfl
         have HF:=Hd_ hfin
         clear hfin
         go_wp2_with fail
         refine wp_region_ext_lit (by kernel_rfl) (by kernel_rfl) ?_
         repeat (go_big_quiet_step ((go_at_call 89;exact Calls.ext_of (edgeOk_any x g.vals.length _ hlen))))
         refine wpQuiet_nil ?_
         rintro _ ⟨u2,rfl⟩
         go_wp2_with fail
         go_ret
         exact ⟨by rw [HF.out];rfl,below_trans hb0 (below_trans (ext_below _ _) (below_trans ((Below.refl _ _).alloc (Nat.le_refl _) _) (ext_below _ _)))⟩
       | true =>
         have G4:=Hd_ g4
         have hbx:∀ o u2,∃ z,ext ((ext (w.alloc (.cells #[.slice A1 g.vals.length c1,.slice (some ⟨b,o',none⟩) g.edges.length c2] 27)) u).alloc o) u2=ext (w.alloc (.cells #[.slice A1 g.vals.length c1,.slice (some ⟨b,o',none⟩) g.edges.length c2] 27)) z :=
          fun o u2=>ext_of (below_trans (ext_below _ _) (below_trans ((Below.refl _ _).alloc (Nat.le_refl _) _) (ext_below _ _)))
         by_cases hi0:i=0
         · subst hi0
           have hat:edAt g.vals.length g.edges 0=true:=by rw [edAt,HX.out];simp [G4.out]
           have HAT:=Hd_ hat
           clear hat
           simp only [Nat.zero_mul,Nat.add_zero,Nat.zero_add] at c0 c1' c2' c3
           go_wp2_with fail
           refine wp_region_ext_lit (by kernel_rfl) (by kernel_rfl) ?_
           repeat (go_big_quiet_step ((go_at_call 89;exact Calls.ext_of (edgeOk_any x g.vals.length _ hlen))))
           refine wpQuiet_nil ?_
           rintro _ ⟨u2,rfl⟩
           go_wp2_with fail
           go_roundw
           case rel =>
            obtain ⟨z,hz⟩:=hbx _ u2
            exact ⟨1,z,by omega,by go_num,range_all_succ HA.out HAT.out,hz⟩
           case measure=>simp [intOf];omega
         · have hi1:0 < i:=by omega
           have hxj:g.edges[i - 1]?=some g.edges[i - 1]:=List.getElem?_eq_getElem (by omega)
           obtain ⟨b9,o9,ho9,-,-,hcj⟩:=HX2.out (i - 1) _ hxj
           obtain ⟨rfl,rfl⟩:b=b9/\o'=o9:=by injection ho9 with h1;injection h1 with h1 h2;exact ⟨h1,h2⟩
           generalize g.edges[i - 1]=p at hcj hxj
           have hb1':b < w.heap.size+1:=by omega
           have p0:=hcj 0 _ rfl
           simp only [Nat.add_zero] at p0
           have HXJ:=Hd_ hxj
           have hi00:((i:Int) > 0):=by omega
           clear hcj hxj ho9
           by_cases hlt2:p.1 < x.1
           · have hat:edAt g.vals.length g.edges i=true:=by rw [edAt,HX.out];simp [G4.out,HXJ.out,hlt2]
             have hge:decide (p.1 >= x.1)=false:=by simp;omega
             have HAT:=Hd_ hat
             clear hat
             go_wp2_with fail
             have q1:IntKind.i64.wrap ((i:Int) - 1)=(i:Int) - 1:=IntWalk.i64_in _ (by omega)
             have q2:0<=(i:Int) - 1:=by omega
             have q3:(i:Int) - 1 < (g.edges.length:Int):=by omega
             have q4:((i:Int) - 1).toNat=i - 1:=by omega
             refine wp_region_ext_lit (by kernel_rfl) (by kernel_rfl) ?_
             repeat (go_big_quiet_step ((go_at_call 89;exact Calls.ext_of (edgeOk_any x g.vals.length _ hlen))))
             refine wpQuiet_nil ?_
             rintro _ ⟨u2,rfl⟩
             clear q1 q2 q3 q4
             go_wp2_with fail
             go_roundw
             case rel =>
              obtain ⟨z,hz⟩:=hbx _ u2
              exact ⟨i+1,z,by omega,by go_num,range_all_succ HA.out HAT.out,hz⟩
             case measure=>simp [intOf];omega
           · have hfin:grOk g=false:=by
              rw [HGR.out,range_all_false hlt (by rw [edAt,HX.out];simp [G4.out,HXJ.out,hi0];omega)]
              rfl
             have hge:decide (p.1 >= x.1)=true:=by simp;omega
             have HF:=Hd_ hfin
             clear hfin
             go_wp2_with fail
             have q1:IntKind.i64.wrap ((i:Int) - 1)=(i:Int) - 1:=IntWalk.i64_in _ (by omega)
             have q2:0<=(i:Int) - 1:=by omega
             have q3:(i:Int) - 1 < (g.edges.length:Int):=by omega
             have q4:((i:Int) - 1).toNat=i - 1:=by omega
             refine wp_region_ext_lit (by kernel_rfl) (by kernel_rfl) ?_
             repeat (go_big_quiet_step ((go_at_call 89;exact Calls.ext_of (edgeOk_any x g.vals.length _ hlen))))
             refine wpQuiet_nil ?_
             rintro _ ⟨u2,rfl⟩
             clear q1 q2 q3 q4
             go_wp2_with fail
             go_ret
             exact ⟨by rw [HF.out];rfl,below_trans hb0 (below_trans (ext_below _ _) (below_trans ((Below.refl _ _).alloc (Nat.le_refl _) _) (ext_below _ _)))⟩
     · obtain rfl:i=g.edges.length:=by omega
       have hgr:grOk g=(wi g.vals.length 1 5 && decide (g.edges.length<=12)):=by
        rw [grOk,HV.out,HA.out];rfl
       have HGR:=Hd_ hgr
       clear hgr HA HV
       cases g5:wi g.vals.length 1 5 with
       | false =>
         rw [g5] at HGR
         go_wp2_with (go_at_call 17;refine (HW.out _ _ _ _).mono ?_;rintro e w' ⟨rfl,rfl⟩)
         go_ret
         exact ⟨by rw [HGR.out];rfl,below_trans hb0 (ext_below _ _)⟩
       | true =>
         rw [g5] at HGR
         have HG5:=Hd_ g5
         by_cases g6:g.edges.length<=12
         · have g6':decide ((g.edges.length:Int)<=12)=true:=by simp;omega
           have hfin:grOk g=true:=by rw [HGR.out];simp [g6]
           have HF:=Hd_ hfin
           clear hfin HGR
           go_wp2_with (go_at_call 17;refine (HW.out _ _ _ _).mono ?_;rintro e w' ⟨rfl,rfl⟩)
           go_ret
           exact ⟨by rw [HF.out];rfl,below_trans hb0 (ext_below _ _)⟩
         · have g6':decide ((g.edges.length:Int)<=12)=false:=by simp;omega
           have hfin:grOk g=false:=by rw [HGR.out];simp [g6]
           have HF:=Hd_ hfin
           clear hfin HGR
           go_wp2_with (go_at_call 17;refine (HW.out _ _ _ _).mono ?_;rintro e w' ⟨rfl,rfl⟩)
           go_ret
           exact ⟨by rw [HF.out];rfl,below_trans hb0 (ext_below _ _)⟩
/-- slices.IndexFunc over edges, at EdgeIndex's closure -/
theorem indexFuncEdge (k0:Value) (v:Value) (xs:List Ed) (p:Ed->Prop) (w:World) (hv:SlE w cEd 4 v xs)
 (hF:∀ x ∈ xs,∀ W:World,Below w.heap.size w W->Calls Tryz.prog 125 #[.agg #[.int .i64 x.1,.int .i64 x.2.1,.int .i64 x.2.2.1,.int .i64 x.2.2.2],k0] W fun e W'=>∃ b,e=.returned (.bool b)/\(b=true ↔ p x)/\Below W.heap.size W W') :
 Calls Tryz.prog 124 #[v,.func (Fn.func 125) #[] #[k0]] w fun e w'=>∃ r:Int,e=.returned (.int .i64 r)/\Below w.heap.size w w' /\
  ((r=-1/\∀ x ∈ xs,¬ p x) ∨ ∃ (i:Nat) (x:Ed),r=i/\xs[i]?=some x/\p x/\∀ y ∈ xs.take i,¬ p y):=by
 obtain ⟨A,c,rfl,hl,hm,hx⟩:=hv
 unfold maxLen at hm
 have HF:=Hd_ hF
 have HX:=Hd_ hx
 clear hF hx
 go_enter Tryz.func124,Tryz.ntmps124
 go_wp2_with fail
 go_loopw [8] (fun ii wr=>∃ (i:Nat) (u:World),i<=xs.length/\ii=.int .i64 i/\(∀ y ∈ xs.take i,¬ p y)/\wr=ext w u) (fun ii _=>xs.length - (intOf ii).toNat)
 case atStart=>exact ⟨0,w,Nat.zero_le _,rfl,by simp,ext_self w⟩
 case round =>
  obtain ⟨i,u,hi,rfl,hno,rfl⟩:=hrel
  have HN:=Hd_ hno
  clear hno
  by_cases hlt:i < xs.length
  · have hxi:xs[i]?=some xs[i]:=List.getElem?_eq_getElem hlt
    generalize xs[i]=x at hxi
    obtain ⟨b,o,rfl,-,hb,hc⟩:=HX.out i x hxi
    have c0:=hc 0 _ rfl
    have c1':=hc 1 _ rfl
    have c2':=hc 2 _ rfl
    have c3:=hc 3 _ rfl
    simp only [Nat.add_zero] at c0
    have HXI:=Hd_ hxi
    clear hc hxi
    go_wp2_with fail
    refine (HF.out x (List.mem_of_getElem? HXI.out) _ (ext_below w u)).mono ?_
    rintro e w1 ⟨bb,rfl,hbb,hb1⟩
    have HBB:=Hd_ hbb
    clear hbb
    cases bb with
    | true =>
      go_wp2_with fail
      go_ret
      exact ⟨_,rfl,below_trans (ext_below w u) hb1,.inr ⟨i,x,rfl,HXI.out,HBB.out.1 (by first | rfl | trivial),HN.out⟩⟩
    | false =>
      go_wp2_with fail
      go_roundw
      case rel =>
       obtain ⟨z,hz⟩:=ext_of (below_trans (ext_below w u) hb1)
       refine ⟨i+1,z,by omega,by go_num,fun y hy=>?_,hz⟩
       rw [take_snoc HXI.out] at hy
       rcases List.mem_append.1 hy with hy | hy
       · exact HN.out y hy
       · have:y=x:=by simpa using hy
         subst this
         exact fun h=>by have:=HBB.out.2 h;cases this
      case measure=>simp [intOf];omega
  · obtain rfl:i=xs.length:=by omega
    go_wp2_with fail
    go_ret
    exact ⟨_,rfl,ext_below w u,.inl ⟨rfl,fun x hx=>HN.out x (by rw [List.take_length];exact hx)⟩⟩
set_option maxHeartbeats 1000000 in
theorem implEdgeIndex (v:Value) (g:Gr) (id:Int) (w:World) (hv:GrV 0 w.heap.size w v g) :
 Calls Tryz.prog 117 #[v,.int .i64 id] w fun e w'=>e=.returned (.int .i64 (edgeIdx g id))/\Below w.heap.size w w':=by
 obtain ⟨vs,es,rfl,-,hes⟩:=hv
 have hb0:Below w.heap.size w ((w.alloc (.cells #[vs,es] 27)).alloc (.cells #[.int .i64 id] 3)):=((Below.refl _ _).alloc (Nat.le_refl _) _).alloc (by simp) _
 have b1:=Blk.new (w.alloc (.cells #[vs,es] 27)) 3 #[.int .i64 id] (w.heap.size+1) (by simp)
 go_enter Tryz.func117,Tryz.ntmps117
 go_wp2_with fail
 refine (indexFuncEdge _ es g.edges (fun e=>e.1=id) _ (SlE.keep hes hb0) (fun x hx W hW=>?_)).mono ?_
 · have b1':=b1.keep hW
   have y0:W.cell? ⟨w.heap.size+1,0,none⟩=some _:=b1'.cell 0
   have hlt:=b1'.lt
   clear hb0 b1 b1' hW
   obtain ⟨x1,x2,x3,x4⟩:=x
   go_enter Tryz.func125,Tryz.ntmps125
   go_wp2_with fail
   go_ret
   refine ⟨_,rfl,by simp,(Below.refl _ _).alloc (Nat.le_refl _) _⟩
 · rintro e w1 ⟨r,rfl,hb1,hr⟩
   have hfin:edgeIdx g id=r:=by
    rcases hr with ⟨rfl,h⟩ | ⟨i,x,rfl,hx,hp,hno⟩
    · exact edgeIdx_none h
    · exact edgeIdx_some hx hp hno
   subst hfin
   clear hr
   go_wp2_with fail
   go_ret
   exact ⟨rfl,below_trans hb0 hb1⟩
set_option maxHeartbeats 1000000 in
theorem bothOk_any (vg va lv:Value) (g:Gr) (a:Au) (ss:List Int) (w:World) (hg:GrV 0 w.heap.size w vg g) (ha:AuV 0 w.heap.size w va a) (hl:SlE w cI 1 lv ss) :
 Calls Tryz.prog 42 #[vg,va,lv] w fun e w'=>e=.returned (.bool (ss.all (fun s=>wi s 0 ((g.vals.length:Int) - 1)) && (grOk g && auOk a)))/\Below w.heap.size w w':=by
 have hg0:=hg
 have ha0:=ha
 obtain ⟨A1,c1,A2,c2,rfl,hl1,hm1,-,-,-,-⟩:=hg.form
 obtain ⟨A3,n3,c3,A4,n4,c4,rfl⟩:=ha.shape
 obtain ⟨A5,c5,rfl,hl5,hm5,hC5⟩:=hl.form
 have HG:=Hd_ hg0
 have HA:=Hd_ ha0
 have HC5:=Hd_ hC5
 have HW:=Hd_ within_any
 have hb0:Below w.heap.size w ((w.alloc (.cells #[.slice A1 g.vals.length c1,.slice A2 g.edges.length c2] 27)).alloc (.cells #[.int .i64 a.start,.slice A3 n3 c3,.slice A4 n4 c4] 31)):=((Below.refl _ _).alloc (Nat.le_refl _) _).alloc (by simp) _
 clear hg ha hl hg0 ha0 hC5
 go_enter Tryz.func42,Tryz.ntmps42
 go_wp2_with fail
 go_loop [11] (fun ii=>∃ i:Nat,i<=ss.length/\ii=.int .i64 i/\(ss.take i).all (fun s=>wi s 0 ((g.vals.length:Int) - 1))=true) (fun ii=>ss.length - (intOf ii).toNat)
 case atStart=>exact ⟨0,Nat.zero_le _,rfl,rfl⟩
 case round =>
  obtain ⟨i,hi,rfl,hall⟩:=hrel
  have HALL:=Hd_ hall
  clear hall
  by_cases hlt:i < ss.length
  · have hxi:ss[i]?=some ss[i]:=List.getElem?_eq_getElem hlt
    generalize ss[i]=s at hxi
    obtain ⟨b,o,rfl,hb1,c0⟩:=HC5.out.int hxi
    have HX:=Hd_ hxi
    clear hxi
    by_cases g4:wi s 0 ((g.vals.length:Int) - 1)=true
    · go_wp2_with (go_at_call 17;refine (HW.out _ _ _ _).mono ?_;rintro e w' ⟨rfl,rfl⟩)
      go_round
      case rel=>exact ⟨i+1,by omega,by go_num,all_take_succ HX.out HALL.out g4⟩
      case measure=>simp [intOf];omega
    · simp only [Bool.not_eq_true] at g4
      have hfin:ss.all (fun s=>wi s 0 ((g.vals.length:Int) - 1))=false:=all_false_of HX.out g4
      have HF:=Hd_ hfin
      clear hfin
      go_wp2_with (go_at_call 17;refine (HW.out _ _ _ _).mono ?_;rintro e w' ⟨rfl,rfl⟩)
      go_ret
      exact ⟨by rw [HF.out];rfl,hb0⟩
  · obtain rfl:i=ss.length:=by omega
    have hfin:ss.all (fun s=>wi s 0 ((g.vals.length:Int) - 1))=true:=by have:=HALL.out;rwa [List.take_length] at this
    have HF:=Hd_ hfin
    clear hfin
    go_wp2_with fail
    refine (implValidGraph _ g _ (HG.out.keep hb0)).mono ?_
    rintro e w1 ⟨he,hb1⟩
    obtain ⟨u1,rfl⟩:=ext_of hb1
    have hb2:=below_trans hb0 hb1
    clear hb1
    subst he
    cases hgo:grOk g with
    | false =>
      have HGO:=Hd_ hgo
      clear hgo
      go_wp2_with fail
      go_ret
      exact ⟨by rw [HF.out,HGO.out];rfl,hb2⟩
    | true =>
      have HGO:=Hd_ hgo
      clear hgo
      go_wp2_with fail
      refine (implValidAutomaton _ a _ (HA.out.keep hb2)).mono ?_
      rintro e w2 ⟨rfl,hb3⟩
      go_wp2_with fail
      go_ret
      exact ⟨by rw [HF.out,HGO.out];rfl,below_trans hb2 hb3⟩
end Go.Proofs.YteaplabkemoenaaGreat
namespace Go.Proofs.YteaplabkemoenaaGreat
/-- the arcs of all nodes by the first i edges -/
def rowsTo (g:Gr) (i:Nat):List (List Arc):=(List.range g.vals.length).map fun (x:Nat)=>(g.edges.take i).flatMap (arcE (x:Int))
theorem rowsTo_at {g:Gr} {i x:Nat} (h:x < g.vals.length):(rowsTo g i)[x]?=some ((g.edges.take i).flatMap (arcE (x:Int))):=by simp [rowsTo,h]
theorem rowsTo_len (g:Gr) (i:Nat):(rowsTo g i).length=g.vals.length:=by simp [rowsTo]
theorem rowsTo_zero (g:Gr):rowsTo g 0=List.replicate g.vals.length []:=by
 apply List.ext_getElem?
 intro x
 simp only [rowsTo,List.take_zero,List.flatMap_nil,List.getElem?_map,List.getElem?_replicate,List.getElem?_range]
 by_cases h:x < g.vals.length
 · simp [h]
 · simp [h]
def rowFrom (g:Gr) (i:Nat) (e:Ed):List (List Arc):=(rowsTo g i).set e.2.1.toNat ((g.edges.take i).flatMap (arcE e.2.1) ++ [((e.1,false),arcLetter false e,e.2.2.1)])
def rowBack (g:Gr) (i:Nat) (e:Ed):List Arc:=(g.edges.take i).flatMap (arcE e.2.2.1) ++ if e.2.1=e.2.2.1 then [((e.1,false),arcLetter false e,e.2.2.1)] else []
theorem rowFrom_at {g:Gr} {i:Nat} {e:Ed} (h0:0<=e.2.1) (hn:e.2.1<=(g.vals.length:Int) - 1) (h1:0<=e.2.2.1) (h2:e.2.2.1<=(g.vals.length:Int) - 1):(rowFrom g i e)[e.2.2.1.toNat]?=some (rowBack g i e):=by
 unfold rowFrom rowBack
 rw [List.getElem?_set]
 by_cases h:e.2.1=e.2.2.1
 · rw [if_pos (by rw [h]),if_pos (by rw [rowsTo_len];omega),if_pos h,h]
 · rw [if_neg (by omega),if_neg h,rowsTo_at (by omega),Int.toNat_of_nonneg h1];simp
theorem rowsTo_push {g:Gr} {i:Nat} {e:Ed} (he:g.edges[i]?=some e) (h0:0<=e.2.1) (hn:e.2.1<=(g.vals.length:Int) - 1) (h1:0<=e.2.2.1) (h2:e.2.2.1<=(g.vals.length:Int) - 1) :
 (rowFrom g i e).set e.2.2.1.toNat (rowBack g i e ++ [((e.1,true),arcLetter true e,e.2.1)])=rowsTo g (i+1):=by
 apply List.ext_getElem?
 intro x
 by_cases hx:x < g.vals.length
 · rw [rowsTo_at hx,flat_take he,List.getElem?_set]
   unfold rowFrom rowBack
   rw [List.length_set,rowsTo_len]
   by_cases hb:e.2.2.1=(x:Int)
   · rw [if_pos (by omega),if_pos (by omega)]
     congr 1
     rw [hb,List.append_assoc]
     congr 1
     unfold arcE arcLetter
     by_cases hf:e.2.1=(x:Int)
     · simp [hf,hb]
     · simp [hf,hb]
   · rw [if_neg (by omega),List.getElem?_set,rowsTo_len]
     by_cases hf:e.2.1=(x:Int)
     · rw [if_pos (by omega),if_pos (by omega)]
       congr 1
       rw [hf]
       congr 1
       unfold arcE arcLetter
       simp [hf,hb]
     · rw [if_neg (by omega),rowsTo_at hx]
       congr 1
       unfold arcE
       simp [hf,hb]
 · rw [List.getElem?_eq_none (by rw [List.length_set,rowFrom,List.length_set,rowsTo_len];omega),List.getElem?_eq_none (by rw [rowsTo_len];omega)]
theorem rowsTo_all (g:Gr):rowsTo g g.edges.length=(List.range g.vals.length).map fun (x:Nat)=>arcsOf g (x:Int):=by
 unfold rowsTo arcsOf
 rw [List.take_length]
end Go.Proofs.YteaplabkemoenaaGreat
namespace Go.Proofs.YteaplabkemoenaaGreat
open Go.ChangeShapes Go.WideShapes Go.ChangeAt Go.RowKit
attribute [local go_sem] ext_cell ext_frozen ext_lt ext_lt1 ext_lt2 ext_lt3 ltn2 ltn3 ltn13 lts1 lts2 lts3
/-- an arc as four cells -/
def cA (y:Arc):List Value:=[.int .i64 y.1.1,.bool y.1.2,.int .i64 y.2.1,.int .i64 y.2.2]
theorem cA_len (y:Arc):(cA y).length=4:=rfl
theorem cA_one (y:Arc):∀ u ∈ cA y,u.oneCell'=true:=by intro u hu;simp only [cA,List.mem_cons,List.not_mem_nil,or_false] at hu;rcases hu with rfl | rfl | rfl | rfl <;> rfl
theorem reads_any (e:Ed) (b:Bool) (w:World) (h0:0<=e.2.2.2) (h2:e.2.2.2<=2) :
 Calls Tryz.prog 74 #[.agg #[.int .i64 e.1,.int .i64 e.2.1,.int .i64 e.2.2.1,.int .i64 e.2.2.2],.bool b] w fun en w'=>en=.returned (.int .i64 (arcLetter b e))/\Below w.heap.size w w':=by
 obtain ⟨a,f,t,l⟩:=e
 simp only at h0 h2 ⊢
 cases b
 all_goals
  go_enter Tryz.func74,Tryz.ntmps74
  go_wp2_with fail
  go_ret
  exact ⟨rfl,(Below.refl _ _).alloc (Nat.le_refl _) _⟩
theorem elArc:ElemOk Tryz.prog 67 73 (.agg #[.int .i64 0,.bool false,.int .i64 0,.int .i64 0]) 4 32:=⟨Tryz.underlying67,by kernel_rfl,rfl,by omega⟩
theorem elArcs:ElemOk Tryz.prog 68 67 (.slice none 0 0) 1 24:=⟨Tryz.underlying68,by kernel_rfl,rfl,by omega⟩
set_option maxHeartbeats 4000000 in
set_option maxRecDepth 100000 in
theorem arcs_any (v:Value) (g:Gr) (w:World) (hv:GrV 0 w.heap.size w v g) (hg:GrOk g) :
 Calls Tryz.prog 44 #[v] w fun e w'=>∃ v',e=.returned v'/\SSE w.heap.size w'.heap.size w' cA 4 v' ((List.range g.vals.length).map fun (x:Nat)=>arcsOf g (x:Int))/\Below w.heap.size w w':=by
 obtain ⟨A1,c1,A2,c2,rfl,hl1,hm1,hl2,hm2,hC1,hC2⟩:=hv.form
 have hn5:=hg.n5
 have he12:=hg.e12
 have HG:=Hd_ hg
 have HC2:=Hd_ hC2
 clear hC1 hC2 hv hg
 obtain ⟨R,hR⟩:∃ R,R=(List.range g.vals.length).map fun (x:Nat)=>arcsOf g (x:Int):=⟨_,rfl⟩
 rw [<- hR]
 have HR:=Hd_ hR
 clear hR
 go_enter Tryz.func44,Tryz.ntmps44
 go_wp2_with (at_make;refine wpList_makeE (P:=Tryz.prog) cV (.slice none 0 0) elArcs rfl rfl rfl _ _ rfl (w.heap.size+1) g.vals.length _ (by rfl) (by rfl) rfl (by omega) (by unfold maxLen;omega) (by simp) ?_;intro w1 hrow1 hbel1
              have b0:=(Blk.new w _ _ w.heap.size rfl).below hbel1 (by simp)
              have hb1:Below w.heap.size w w1:=((Below.refl _ _).alloc (Nat.le_refl _) _).trans (hbel1.mono (by simp))
              simp only [World.size_alloc] at hrow1 ⊢
              have hr1:=Rws.made (base:=w.heap.size+1) (α:=Arc) (E:=cA) (k:=4) (rT:=73) hrow1
              have HR1:=Hd_ hr1
              have x0:w1.cell? ⟨w.heap.size,0,none⟩=some (.slice A1 g.vals.length c1):=b0.cell 0
              have x1:w1.cell? ⟨w.heap.size,1,none⟩=some (.slice A2 g.edges.length c2):=b0.cell 1
              clear hbel1 hrow1 b0 hr1)
 generalize hgb:w.heap.size+1=gb at *
 have hgw:w.heap.size < gb:=by omega
 clear hgb
 go_loopw [13] (fun ii wr=>∃ (i:Nat) (hs:List Value),i<=g.edges.length/\ii=.int .i64 (i:Int)/\Rws wr gb 67 73 cA 4 gb hs (rowsTo g i)/\Below w.heap.size w wr) (fun ii _=>g.edges.length - (intOf ii).toNat)
 case atStart=>exact ⟨0,_,Nat.zero_le _,rfl,by rw [rowsTo_zero];exact HR1.out,hb1⟩
 case round =>
  obtain ⟨i,hs,hi,rfl,hrow,hbel⟩:=hrel
  clear hb1 HR1 x0 x1
  by_cases hlt:i < g.edges.length
  · have hei:g.edges[i]?=some g.edges[i]:=List.getElem?_eq_getElem hlt
    have hge:=HG.out.edges _ (List.getElem_mem hlt)
    generalize g.edges[i]=e at hei hge
    obtain ⟨-,⟨hf0,hf1⟩,⟨ht0,ht1⟩,hl0,hl2⟩:=hge
    obtain ⟨b,o,rfl,hb,q0,q1,q2,q3⟩:=HC2.out.ed hei
    have d0:=bcell hbel q0 hb
    have d1:=bcell hbel q1 hb
    have d2:=bcell hbel q2 hb
    have d3:=bcell hbel q3 hb
    have hbw:=Nat.lt_of_lt_of_le hb hbel.size
    have HEI:=Hd_ hei
    clear hei q0 q1 q2 q3
    have hgl:=hrow.gLt
    have hfh:e.2.1.toNat < hs.length:=by rw [hrow.len,rowsTo_len];omega
    have hhf:hs[e.2.1.toNat]?=some hs[e.2.1.toNat]:=List.getElem?_eq_getElem hfh
    generalize hs[e.2.1.toNat]=hv1 at hhf
    have hx1:=rowsTo_at (g:=g) (i:=i) (x:=e.2.1.toNat) (by omega)
    rw [Int.toNat_of_nonneg hf0] at hx1
    obtain ⟨eid,ef,et,el⟩:=e
    simp only at *
    have hfn:ef.toNat < g.vals.length:=by omega
    obtain ⟨ef,rfl⟩:=Int.eq_ofNat_of_zero_le hf0
    obtain ⟨et,rfl⟩:=Int.eq_ofNat_of_zero_le ht0
    simp only [Int.toNat_natCast] at *
    have hfi:(ef:Int) < (g.vals.length:Int):=by omega
    have hti:(et:Int) < (g.vals.length:Int):=by omega
    have hcf:=hrow.cell hhf
    have hff:=hrow.frozen ef
    have HROW:=Hd_ hrow
    have HX1:=Hd_ hx1
    have HHF:=Hd_ hhf
    have hfar:=hrow.far _ _ hhf
    have HFAR:=Hd_ hfar
    have hgs:=hgl.2
    have hlv:hs.length=g.vals.length:=by rw [hrow.len,rowsTo_len]
    have hgv:gb < wr.heap.size:=hgl.2
    have hsz:=hbel.size
    clear hrow hx1 hhf hfar hgl hfh hlv
    go_wp2_with fail
    have e0:(wr.alloc (.cells #[.int .i64 eid,.int .i64 (ef:Int),.int .i64 (et:Int),.int .i64 el] 110)).cell? ⟨wr.heap.size,0,none⟩=some (.int .i64 eid):=by simp
    have e1:(wr.alloc (.cells #[.int .i64 eid,.int .i64 (ef:Int),.int .i64 (et:Int),.int .i64 el] 110)).cell? ⟨wr.heap.size,1,none⟩=some (.int .i64 (ef:Int)):=by simp
    have e2:(wr.alloc (.cells #[.int .i64 eid,.int .i64 (ef:Int),.int .i64 (et:Int),.int .i64 el] 110)).cell? ⟨wr.heap.size,2,none⟩=some (.int .i64 (et:Int)):=by simp
    have e3:(wr.alloc (.cells #[.int .i64 eid,.int .i64 (ef:Int),.int .i64 (et:Int),.int .i64 el] 110)).cell? ⟨wr.heap.size,3,none⟩=some (.int .i64 el):=by simp
    generalize hW:(wr.alloc (.cells #[.int .i64 eid,.int .i64 (ef:Int),.int .i64 (et:Int),.int .i64 el] 110))=wE
    rw [hW] at e0 e1 e2 e3
    have hbE:Below wr.heap.size wr wE:=by rw [<- hW];exact (Below.refl _ _).alloc (Nat.le_refl _) _
    have hcE:wE.cell? ⟨gb,ef,none⟩=some hv1:=bcell hbE hcf hgs
    have hfE:wE.frozen? ⟨gb,ef,none⟩=false:=by rw [hbE.frozen (p:=⟨gb,ef,none⟩) hgs];exact hff
    have hsE:wr.heap.size < wE.heap.size:=by rw [<- hW];simp
    have hgE:gb < wE.heap.size:=by omega
    have hgE1:wr.heap.size ≠ gb:=by omega
    have HRE:=Hd_ (HROW.out.below hbE)
    have HBE:=Hd_ (hbel.trans (hbE.mono hsz))
    have hne1:some wr.heap.size ≠ hv1.ownBlock:=fun h=>by have:=((HROW.out.row ef hv1 _ HHF.out HX1.out).lt _ h.symm).2;omega
    have hne2:some gb ≠ hv1.ownBlock:=Ne.symm HFAR.out
    have hneR0:∀ (j:Nat) (h:Value),hs[j]?=some h->some wr.heap.size ≠ h.ownBlock:=fun j h hj e9=>by
     have hjx:j < (rowsTo g i).length:=by rw [<- HROW.out.len];exact (List.getElem?_eq_some_iff.1 hj).1
     have:=((HROW.out.row j h _ hj (List.getElem?_eq_getElem hjx)).lt _ e9.symm).2
     omega
    have HNER:=Hd_ hneR0
    clear hneR0
    have HRO:=Hd_ (HRE.out.row ef hv1 _ HHF.out HX1.out)
    have hrl:((g.edges.take i).flatMap (arcE (ef:Int))).length<=24:=by
     have h1:=flat_len (arcE_len (ef:Int)) (g.edges.take i)
     rw [List.length_take] at h1
     omega
    clear hW hbE hcf hff HROW hbel
    obtain ⟨row1,hrow1⟩:∃ row1,row1=(g.edges.take i).flatMap (arcE (ef:Int)):=⟨_,rfl⟩
    rw [<- hrow1] at hrl HRO HX1
    have HROW1:=Hd_ hrow1
    clear hrow1
    refine F_start 19 (fun w'=>w'.cell? ⟨wr.heap.size,0,none⟩=some (.int .i64 eid)/\w'.cell? ⟨wr.heap.size,1,none⟩=some (.int .i64 (ef:Int))/\w'.cell? ⟨wr.heap.size,2,none⟩=some (.int .i64 (et:Int))/\w'.cell? ⟨wr.heap.size,3,none⟩=some (.int .i64 el)/\w'.cell? ⟨gb,ef,none⟩=some hv1) (by kernel_rfl) (by exact ⟨e0,e1,e2,e3,hcE⟩) (fun hS inv=>?_)
    refine F_tk 0 inv ?_
    try simp only [tA,tB,tC,Act.put,tE,tF,tG]
    clear inv;intro inv
    refine F_tk 1 inv ?_
    try simp only [tA,tB,tC,Act.put,tE,tF,tG]
    clear inv;intro inv
    refine F_tk 2 inv ?_
    try simp only [tA,tB,tC,Act.put,tE,tF,tG]
    clear inv;intro inv
    refine F_tk 3 inv ?_
    try simp only [tA,tB,tC,Act.put,tE,tF,tG]
    clear inv;intro inv
    refine F_tk 4 inv ?_
    try simp only [tA,tB,tC,Act.put,tE,tF,tG]
    clear inv;intro inv
    refine F_tk 5 inv ?_
    try simp only [tA,tB,tC,Act.put,tE,tF,tG]
    clear inv;intro inv
    refine F_tk 6 inv ?_
    try simp only [tA,tB,tC,Act.put,tE,tF,tG]
    clear inv;intro inv
    refine F_tk 7 inv ?_
    try simp only [tA,tB,tC,Act.put,tE,tF,tG]
    clear inv;intro inv
    refine F_tk 8 inv ?_
    try simp only [tA,tB,tC,Act.put,tE,tF,tG]
    clear inv;intro inv
    refine F_tk 9 inv ?_
    try simp only [tA,tB,tC,Act.put,tE,tF,tG]
    clear inv;intro inv
    refine F_tk 10 inv ?_
    try simp only [tA,tB,tC,Act.put,tE,tF,tG]
    clear inv;intro inv
    refine F_tk 11 inv ?_
    try simp only [tA,tB,tC,Act.put,tE,tF,tG]
    clear inv;intro inv
    refine F_tk 13 inv ?_
    try simp only [tA,tB,tC,Act.put,tE,tF,tG]
    clear inv;intro inv
    refine F_tk 14 inv ?_
    try simp only [tA,tB,tC,Act.put,tE,tF,tG]
    clear inv;intro inv
    refine F_o1 12 inv ?_;intro K hK
    try simp only [tA,tB,tC]
    go_simp
    refine (reads_any (eid,(ef:Int),(et:Int),el) false _ hl0 hl2).mono ?_
    rintro en wR ⟨rfl,hbR⟩
    have hbR:=below_trans (Below.refl wE.heap.size wE).drew hbR
    have hcR:=kcell hbR hcE
    have hfR:=kfb hbR hcE hfE
    have hsR:=hbR.size
    have HRX:=Hd_ (ownsRow_below HRO.out hbR (Nat.le_refl _))
    refine hK.out _ _ (kB5 hbR ⟨e0,e1,e2,e3,hcE⟩) (fun _ _=>?_)
    try simp only [tA,tB,tC,Act.put,tE,tF,tG]
    clear hK K inv hS;rename_i hS inv
    refine F_tk 15 inv ?_
    try simp only [tA,tB,tC,Act.put,tE,tF,tG]
    clear inv;intro inv
    refine F_o1 16 inv ?_;intro K hK
    try simp only [tA,tB,tC]
    go_simp
    refine hK.out _ _ (kA5 _ hS) (fun _ _=>?_)
    try simp only [tA,tB,tC,Act.put,tE,tF,tG]
    clear hK K inv hS;rename_i hS inv
    refine F_o1 17 inv ?_;intro K hK
    try simp only [tA,tB,tC]
    refine op_append1 cA elArc rfl _ _ (by rfl) gb hv1 row1 ((eid,false),arcLetter false (eid,(ef:Int),(et:Int),el),(et:Int)) 1 _ (by rfl) (HRX.out.alloc _) (by rfl) (heap_alloc_new _ _) rfl (cA_one _) (by omega) (by omega) (by simp;omega) ?_
    intro g2 cp2 w3 hown3 hgr3 hat3 hlt3
    have HO3:=Hd_ hown3
    have HG3:=Hd_ hgr3
    have HA3:=Hd_ hat3
    clear hown3 hgr3 hat3
    refine hK.out _ _ (kG5 HG3.out hne1 hne1 hne1 hne1 hne2 hS) (fun _ _=>?_)
    try simp only [tA,tB,tC,Act.put,tE,tF,tG]
    clear hK K inv hS;rename_i hS inv
    refine F_tk 18 inv ?_
    try simp only [tA,tB,tC,Act.put,tE,tF,tG]
    clear inv;intro inv
    have hcz:=HG3.out.cell (kcell ((Below.refl _ _).alloc (Nat.le_refl _) _) hcR) hne2
    have hfz:=kfg HG3.out (p:=⟨gb,ef,none⟩) hne2 (kcell ((Below.refl _ _).alloc (Nat.le_refl _) _) hcR) (kfb ((Below.refl _ _).alloc (Nat.le_refl _) _) hcR hfR)
    refine F_l1 19 ?_;intro K hK
    go_simp
    refine hK _ _ ?_
    clear hK K inv hS
    have hbA:Below wE.heap.size wE (wR.alloc (.cells #[.int .i64 eid,.bool false,.int .i64 (arcLetter false (eid,(ef:Int),(et:Int),el)),.int .i64 (et:Int)] 73)):=hbR.alloc hsR _
    have hrF:=Rws.push (HRE.out.below hbA) HHF.out HX1.out HO3.out HG3.out rfl HA3.out
    have hbF:Below w.heap.size w (w3.setCell ⟨gb,ef,none⟩ (.slice (some ⟨g2,0,none⟩) (row1.length+1) cp2)) :=
     ((HBE.out.trans (hbA.mono HBE.out.size)).grown HG3.out (Nat.le_trans HBE.out.size hbA.size) (fun b hb=>by have:=(HRX.out.lt b hb).1;omega)).setCell (by simp only;omega) _
    have f0:=(World.cell?_setCell_far w3 ⟨gb,ef,none⟩ ⟨wr.heap.size,0,none⟩ (.slice (some ⟨g2,0,none⟩) (row1.length+1) cp2) (Ne.symm hgE1)).trans (HG3.out.cell (kcell hbA e0) hne1)
    have f1:=(World.cell?_setCell_far w3 ⟨gb,ef,none⟩ ⟨wr.heap.size,1,none⟩ (.slice (some ⟨g2,0,none⟩) (row1.length+1) cp2) (Ne.symm hgE1)).trans (HG3.out.cell (kcell hbA e1) hne1)
    have f2:=(World.cell?_setCell_far w3 ⟨gb,ef,none⟩ ⟨wr.heap.size,2,none⟩ (.slice (some ⟨g2,0,none⟩) (row1.length+1) cp2) (Ne.symm hgE1)).trans (HG3.out.cell (kcell hbA e2) hne1)
    have f3:=(World.cell?_setCell_far w3 ⟨gb,ef,none⟩ ⟨wr.heap.size,3,none⟩ (.slice (some ⟨g2,0,none⟩) (row1.length+1) cp2) (Ne.symm hgE1)).trans (HG3.out.cell (kcell hbA e3) hne1)
    have hg23:some wr.heap.size ≠ (Value.slice (some ⟨g2,0,none⟩) (row1.length+1) cp2).ownBlock:=by
     simp only [Value.ownBlock,ne_eq,Option.some.injEq]
     intro e9;subst e9
     rcases HA3.out with h9 | h9
     · exact hne1 h9.symm
     · have:=hbA.size;omega
    rw [show (rowsTo g i).set ef (row1 ++ [((eid,false),arcLetter false (eid,(ef:Int),(et:Int),el),(et:Int))])=rowFrom g i (eid,(ef:Int),(et:Int),el) by rw [HROW1.out];rfl] at hrF
    generalize (w3.setCell ⟨gb,ef,none⟩ (.slice (some ⟨g2,0,none⟩) (row1.length+1) cp2))=wF at *
    have hethF:et < (hs.set ef (.slice (some ⟨g2,0,none⟩) (row1.length+1) cp2)).length:=by rw [List.length_set,HRE.out.len,rowsTo_len];omega
    have hhb:(hs.set ef (.slice (some ⟨g2,0,none⟩) (row1.length+1) cp2))[et]?=some (hs.set ef (.slice (some ⟨g2,0,none⟩) (row1.length+1) cp2))[et]:=List.getElem?_eq_getElem hethF
    generalize (hs.set ef (.slice (some ⟨g2,0,none⟩) (row1.length+1) cp2))[et]=hv2 at hhb
    have hx2:(rowFrom g i (eid,(ef:Int),(et:Int),el))[et]?=some (rowBack g i (eid,(ef:Int),(et:Int),el)):=by have:=rowFrom_at (g:=g) (i:=i) (e:=(eid,(ef:Int),(et:Int),el)) (by simp only;omega) (by simp only;omega) (by simp only;omega) (by simp only;omega);simpa using this
    have hne3:some wr.heap.size ≠ hv2.ownBlock:=by
     rw [List.getElem?_set] at hhb
     split at hhb
     · split at hhb
       · injection hhb with hhb;rw [<- hhb];exact hg23
       · cases hhb
     · exact HNER.out et hv2 hhb
    have hne4:some gb ≠ hv2.ownBlock:=Ne.symm (hrF.far _ _ hhb)
    have hcF:=hrF.cell hhb
    have hfF:=hrF.frozen et
    have hgF:=hrF.gLt.2
    have HRO2:=Hd_ (hrF.row et hv2 _ hhb hx2)
    have hlq:wr.heap.size < wF.heap.size:=World.block_lt_of_cell? wF _ f0
    have hrl2:(rowBack g i (eid,(ef:Int),(et:Int),el)).length<=25:=by
     have h1:=flat_len (arcE_len (et:Int)) (g.edges.take i)
     rw [List.length_take] at h1
     unfold rowBack
     rw [List.length_append]
     split
     · simp only [List.length_singleton];omega
     · simp only [List.length_nil];omega
    have HHB:=Hd_ hhb
    have HX2:=Hd_ hx2
    have HRF:=Hd_ hrF
    have HBF:=Hd_ hbF
    clear hhb hx2 hrF hbF hbA hethF
    obtain ⟨row2,hrow2⟩:∃ row2,row2=rowBack g i (eid,(ef:Int),(et:Int),el):=⟨_,rfl⟩
    rw [<- hrow2] at hrl2 HRO2 HX2
    have HROW2:=Hd_ hrow2
    clear hrow2 hcz hfz hbR hcR hfR hsR HRX HO3 HG3 HA3 e0 e1 e2 e3 hcE hfE hsE hgE HRE HBE hne1 hne2 HRO hrl HNER hg23 hlt3
    go_wp2_with fail
    refine F_start 19 (fun w'=>w'.cell? ⟨wr.heap.size,0,none⟩=some (.int .i64 eid)/\w'.cell? ⟨wr.heap.size,1,none⟩=some (.int .i64 (ef:Int))/\w'.cell? ⟨wr.heap.size,2,none⟩=some (.int .i64 (et:Int))/\w'.cell? ⟨wr.heap.size,3,none⟩=some (.int .i64 el)/\w'.cell? ⟨gb,et,none⟩=some hv2) (by kernel_rfl) (by exact ⟨f0,f1,f2,f3,hcF⟩) (fun hS inv=>?_)
    refine F_tk 0 inv ?_
    try simp only [tA,tB,tC,Act.put,tE,tF,tG]
    clear inv;intro inv
    refine F_tk 1 inv ?_
    try simp only [tA,tB,tC,Act.put,tE,tF,tG]
    clear inv;intro inv
    refine F_tk 2 inv ?_
    try simp only [tA,tB,tC,Act.put,tE,tF,tG]
    clear inv;intro inv
    refine F_tk 3 inv ?_
    try simp only [tA,tB,tC,Act.put,tE,tF,tG]
    clear inv;intro inv
    refine F_tk 4 inv ?_
    try simp only [tA,tB,tC,Act.put,tE,tF,tG]
    clear inv;intro inv
    refine F_tk 5 inv ?_
    try simp only [tA,tB,tC,Act.put,tE,tF,tG]
    clear inv;intro inv
    refine F_tk 6 inv ?_
    try simp only [tA,tB,tC,Act.put,tE,tF,tG]
    clear inv;intro inv
    refine F_tk 7 inv ?_
    try simp only [tA,tB,tC,Act.put,tE,tF,tG]
    clear inv;intro inv
    refine F_tk 8 inv ?_
    try simp only [tA,tB,tC,Act.put,tE,tF,tG]
    clear inv;intro inv
    refine F_tk 9 inv ?_
    try simp only [tA,tB,tC,Act.put,tE,tF,tG]
    clear inv;intro inv
    refine F_tk 10 inv ?_
    try simp only [tA,tB,tC,Act.put,tE,tF,tG]
    clear inv;intro inv
    refine F_tk 11 inv ?_
    try simp only [tA,tB,tC,Act.put,tE,tF,tG]
    clear inv;intro inv
    refine F_tk 13 inv ?_
    try simp only [tA,tB,tC,Act.put,tE,tF,tG]
    clear inv;intro inv
    refine F_tk 14 inv ?_
    try simp only [tA,tB,tC,Act.put,tE,tF,tG]
    clear inv;intro inv
    refine F_o1 12 inv ?_;intro K hK
    try simp only [tA,tB,tC]
    go_simp
    refine (reads_any (eid,(ef:Int),(et:Int),el) true _ hl0 hl2).mono ?_
    rintro en wS ⟨rfl,hbR⟩
    have hbR:=below_trans (Below.refl wF.heap.size wF).drew hbR
    have hcR:=kcell hbR hcF
    have hfR:=kfb hbR hcF hfF
    have hsR:=hbR.size
    have HRX:=Hd_ (ownsRow_below HRO2.out hbR (Nat.le_refl _))
    refine hK.out _ _ (kB5 hbR ⟨f0,f1,f2,f3,hcF⟩) (fun _ _=>?_)
    try simp only [tA,tB,tC,Act.put,tE,tF,tG]
    clear hK K inv hS;rename_i hS inv
    refine F_tk 15 inv ?_
    try simp only [tA,tB,tC,Act.put,tE,tF,tG]
    clear inv;intro inv
    refine F_o1 16 inv ?_;intro K hK
    try simp only [tA,tB,tC]
    go_simp
    refine hK.out _ _ (kA5 _ hS) (fun _ _=>?_)
    try simp only [tA,tB,tC,Act.put,tE,tF,tG]
    clear hK K inv hS;rename_i hS inv
    refine F_o1 17 inv ?_;intro K hK
    try simp only [tA,tB,tC]
    refine op_append1 cA elArc rfl _ _ (by rfl) gb hv2 row2 ((eid,true),arcLetter true (eid,(ef:Int),(et:Int),el),(ef:Int)) 1 _ (by rfl) (HRX.out.alloc _) (by rfl) (heap_alloc_new _ _) rfl (cA_one _) (by omega) (by omega) (by simp;omega) ?_
    intro g3 cp3 w4 hown3 hgr3 hat3 hlt3
    have HO3:=Hd_ hown3
    have HG3:=Hd_ hgr3
    have HA3:=Hd_ hat3
    clear hown3 hgr3 hat3
    refine hK.out _ _ (kG5 HG3.out hne3 hne3 hne3 hne3 hne4 hS) (fun _ _=>?_)
    try simp only [tA,tB,tC,Act.put,tE,tF,tG]
    clear hK K inv hS;rename_i hS inv
    refine F_tk 18 inv ?_
    try simp only [tA,tB,tC,Act.put,tE,tF,tG]
    clear inv;intro inv
    have hcz:=HG3.out.cell (kcell ((Below.refl _ _).alloc (Nat.le_refl _) _) hcR) hne4
    have hfz:=kfg HG3.out (p:=⟨gb,et,none⟩) hne4 (kcell ((Below.refl _ _).alloc (Nat.le_refl _) _) hcR) (kfb ((Below.refl _ _).alloc (Nat.le_refl _) _) hcR hfR)
    refine F_l1 19 ?_;intro K hK
    go_simp
    refine hK _ _ ?_
    clear hK K inv hS
    have hbA:Below wF.heap.size wF (wS.alloc (.cells #[.int .i64 eid,.bool true,.int .i64 (arcLetter true (eid,(ef:Int),(et:Int),el)),.int .i64 (ef:Int)] 73)):=hbR.alloc hsR _
    have hrG:=Rws.push (HRF.out.below hbA) HHB.out HX2.out HO3.out HG3.out rfl HA3.out
    have hbG:Below w.heap.size w (w4.setCell ⟨gb,et,none⟩ (.slice (some ⟨g3,0,none⟩) (row2.length+1) cp3)) :=
     ((HBF.out.trans (hbA.mono HBF.out.size)).grown HG3.out (Nat.le_trans HBF.out.size hbA.size) (fun b hb=>by have:=(HRX.out.lt b hb).1;omega)).setCell (by simp only;omega) _
    have hpush:=rowsTo_push (g:=g) HEI.out (by simp only;omega) (by simp only;omega) (by simp only;omega) (by simp only;omega)
    simp only [Int.toNat_natCast] at hpush
    rw [HROW2.out,hpush] at hrG
    have HRG:=Hd_ hrG
    have HBG:=Hd_ hbG
    clear hrG hbG hbA hpush hcz hfz hbR hcR hfR
    rw [<- HROW2.out] at HRG
    go_wp2_with fail
    go_roundw
    case rel=>exact ⟨i+1,_,by omega,by go_num,HRG.out,HBG.out⟩
    case measure=>simp [intOf];omega
  · obtain rfl:i=g.edges.length:=by omega
    have hs1:=hrow.sse cA_len (lo:=w.heap.size) (by omega) (by omega)
    have hln:hs.length=g.vals.length:=by rw [hrow.len,rowsTo_len]
    rw [rowsTo_all,hln] at hs1
    have HS1:=Hd_ hs1
    clear hrow hs1 hln
    go_wp2_with fail
    go_ret
    exact ⟨_,rfl,by rw [HR.out];exact HS1.out,hbel⟩
end Go.Proofs.YteaplabkemoenaaGreat
