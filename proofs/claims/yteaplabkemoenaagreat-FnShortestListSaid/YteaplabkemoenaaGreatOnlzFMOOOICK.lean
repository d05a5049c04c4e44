/- Parts of the proof, joined into one text: Lays. -/
import Derived.Test.YteaplabkemoenaaGreatOnlzCIBJHJFA
set_option linter.unusedVariables false
set_option linter.unusedSimpArgs false
namespace Go.Proofs.YteaplabkemoenaaGreat
open Go.ChangeShapes Go.WideShapes Go.ChangeAt Go.RowKit
attribute [local go_sem] ext_cell ext_frozen ext_lt ext_lt1 ext_lt2 ext_lt3 ltn2 ltn3 ltn13 lts1 lts2 lts3
section
variable {lo hi g c:Nat} {w w':World} {N:List Key} {C:Nat->Nat} {T:Nat->List (St × Nat)} {zs:List Zr}
/-- a block of another kind turns: the layer stands -/
theorem LayV.turn (h:LayV lo hi w g c N C T zs) {e:TypeId} {b0 k0 n0:Nat} {v0:Value} {cs0:List Value} (hr:w.ownsRow b0 e k0 v0 n0 cs0) (h1:58 ≠ e) (h2:66 ≠ e) (h3:3 ≠ e)
 (hb:∀ b,v0.ownBlock ≠ some b->b < w.heap.size->w'.heap[b]?=w.heap[b]?):LayV lo hi w' g c N C T zs :=
 ⟨ownsRow_block h.row fun b hg=>hb b (own_ne h.row hr h1 hg) (h.row.lt b hg).2,h.len,fun i k z hk hz=>by
  obtain ⟨g1,g2,g3,g4⟩:=h.at_ i k z hk hz
  exact ⟨g1,g2,g3,g4.1.blocks fun b hg=>hb b (own_ne g4.1.1 hr h2 hg) (g4.1.lt b hg).2.2,g4.2.blocks fun b hg=>hb b (own_ne g4.2.1 hr h3 hg) (g4.2.lt b hg).2.2⟩⟩
end
theorem tyZL:58 ≠ 59:=by decide
theorem tySL:66 ≠ 59:=by decide
theorem tyIL:3 ≠ 59:=by decide
theorem elLs:ElemOk Tryz.prog 60 59 (.slice none 0 0) 1 24:=⟨Tryz.underlying60,by kernel_rfl,rfl,by omega⟩
/-- the headers of the first layers -/
def hdr (g:Gr) (a:Au) (k0:Key) (G K:Nat->Nat) (e:Nat):Value:=.slice (some ⟨G e,0,none⟩) (layN g a k0 e).length (K e)
def hdrs (g:Gr) (a:Au) (k0:Key) (G K:Nat->Nat) (n:Nat):List Value:=(List.range n).map (hdr g a k0 G K)
theorem hdrs_len (g:Gr) (a:Au) (k0:Key) (G K:Nat->Nat) (n:Nat):(hdrs g a k0 G K n).length=n:=by simp [hdrs]
theorem hdrs_at {g:Gr} {a:Au} {k0:Key} {G K:Nat->Nat} {n e:Nat} (h:e < n):(hdrs g a k0 G K n)[e]?=some (hdr g a k0 G K e):=by simp [hdrs,h]
theorem hdrs_snoc (g:Gr) (a:Au) (k0:Key) (G K:Nat->Nat) (n:Nat):hdrs g a k0 G K (n+1)=hdrs g a k0 G K n ++ [hdr g a k0 G K n]:=by simp [hdrs,List.range_succ]
def upd (G:Nat->Nat) (n v:Nat):Nat->Nat:=fun e=>if e=n then v else G e
theorem upd_at (G:Nat->Nat) (n v:Nat):upd G n v n=v:=if_pos rfl
theorem upd_ne {G:Nat->Nat} {n v e:Nat} (h:e ≠ n):upd G n v e=G e:=if_neg h
theorem hdrs_upd (g:Gr) (a:Au) (k0:Key) (G K:Nat->Nat) (n v u:Nat):hdrs g a k0 (upd G n v) (upd K n u) n=hdrs g a k0 G K n:=by
 unfold hdrs
 apply List.map_congr_left
 intro e he
 have:=List.mem_range.1 he
 rw [hdr,hdr,upd_ne (by omega),upd_ne (by omega)]
def layTn (g:Gr) (a:Au) (k0:Key) (n d i:Nat):List (St × Nat):=if d < n then layT g a k0 d i else []
/-- while the layers are made: d of them are behind us, layer d is raw -/
structure Up (g:Gr) (a:Au) (k0:Key) (S:Nat) (w:World) (d:Nat) (ov:Value) (G K:Nat->Nat) (Z:Nat->List Zr):Prop where
 out:w.ownsRow S 59 1 ov (hdrs g a k0 G K (d+1)).length ((hdrs g a k0 G K (d+1)).flatMap cV)
 lay:∀ e,e<=d->LayV S w.heap.size w (G e) (K e) (layN g a k0 e) (fun _=>0) (layTn g a k0 d e) (Z e)
 raw:Z d=(layN g a k0 d).map rawZ
 inc:∀ e e',e < e'->e'<=d->G e < G e'
 low:∀ e,e<=d->S<=G e
theorem layTn_lt {g:Gr} {a:Au} {k0:Key} {n d:Nat} (h:d < n):layTn g a k0 n d=layT g a k0 d:=by funext i;rw [layTn,if_pos h]
theorem layTn_ge {g:Gr} {a:Au} {k0:Key} {n d:Nat} (h:n<=d):layTn g a k0 n d=fun _=>[]:=by funext i;rw [layTn,if_neg (by omega)]
theorem Up.step {g:Gr} {a:Au} {k0:Key} {S:Nat} {wr w1 w2:World} {d gn cn:Nat} {ov ov':Value} {G K:Nat->Nat} {Z:Nat->List Zr} {zs:List Zr} {lit:Obj} (h:Up g a k0 S wr d ov G K Z) (hS:S<=wr.heap.size)
 (hgn:wr.heap.size<=gn) (r1:w1.ownsRow wr.heap.size 58 5 (.slice (some ⟨gn,0,none⟩) (layN g a k0 (d+1)).length cn) (layN g a k0 (d+1)).length (((layN g a k0 (d+1)).map rawZ).flatMap cZ))
 (r2:LayV wr.heap.size w1.heap.size w1 (G d) (K d) (layN g a k0 d) (fun _=>0) (layT g a k0 d) zs) (r3:Only (G d) (G d+1) wr w1)
 (hg:(w1.alloc lit).grownBy w2 ov.ownBlock) (ho:w2.ownsRow S 59 1 ov' (hdrs g a k0 (upd G (d+1) gn) (upd K (d+1) cn) (d+2)).length ((hdrs g a k0 (upd G (d+1) gn) (upd K (d+1) cn) (d+2)).flatMap cV)) :
 Up g a k0 S w2 (d+1) ov' (upd G (d+1) gn) (upd K (d+1) cn) (fun e=>if e=d+1 then (layN g a k0 (d+1)).map rawZ else if e=d then zs else Z e):=by
 have hs1:=r3.size
 have hs2:w1.heap.size<=w2.heap.size:=by have:=hg.size;simp at this;omega
 have hld:=h.lay d (Nat.le_refl _)
 have hout1:w1.ownsRow S 59 1 ov (hdrs g a k0 G K (d+1)).length ((hdrs g a k0 G K (d+1)).flatMap cV):=ownsRow_block h.out (fun b hb=>r3.block b (h.out.lt b hb).2 (by
  have:=own_ne h.out hld.row (Ne.symm tyZL) hb
  simp only [Value.ownBlock,ne_eq,Option.some.injEq] at this
  omega))
 have hturn:∀ {lo hi g' c':Nat} {N:List Key} {T:Nat->List (St × Nat)} {z:List Zr},LayV lo hi w1 g' c' N (fun _=>0) T z->LayV lo hi w2 g' c' N (fun _=>0) T z:=fun hl =>
  hl.turn hout1 tyZL tySL tyIL (fun b hb hlb=>(hg.block b (by simp;omega) (fun e=>hb e.symm)).trans (Below.heap_alloc w1 _ b hlb))
 refine ⟨ho,fun e he=>?_,if_pos rfl,fun e e' h1 h2=>?_,fun e he=>?_⟩
 · by_cases e1:e=d+1
   · subst e1
     rw [upd_at,upd_at,layTn_ge (Nat.le_refl _),if_pos rfl]
     exact (hturn (LayV.raw w1 _ (ownsRow_mono r1 (Nat.zero_le _)) S w1.heap.size)).mono (Nat.le_refl _) hs2
   · rw [upd_ne e1,upd_ne e1,if_neg e1,layTn_lt (by omega)]
     by_cases e2:e=d
     · subst e2
       rw [if_pos rfl]
       exact (hturn r2).mono hS hs2
     · rw [if_neg e2]
       have hl:=h.lay e (by omega)
       rw [layTn_lt (by omega)] at hl
       have hlt:=h.inc e d (by omega) (Nat.le_refl _)
       exact (hturn ((hl.other hld.row (by omega) (fun b hb hlb=>r3.block b hlb (by omega))))).mono (Nat.le_refl _) (by omega)
 · by_cases e1:e'=d+1
   · subst e1
     rw [upd_at,upd_ne (by omega)]
     have:=(h.lay e (by omega)).lt
     omega
   · rw [upd_ne e1,upd_ne (by omega)]
     exact h.inc e e' h1 (by omega)
 · by_cases e1:e=d+1
   · subst e1;rw [upd_at];omega
   · rw [upd_ne e1];exact h.low e (by omega)
/-- while the layers are counted, from the last on -/
structure Dn (g:Gr) (a:Au) (k0:Key) (S:Nat) (w:World) (n:Nat) (ov:Value) (G K:Nat->Nat) (Z:Nat->List Zr) (C:Nat->Nat->Nat):Prop where
 out:w.ownsRow S 59 1 ov (hdrs g a k0 G K (n+1)).length ((hdrs g a k0 G K (n+1)).flatMap cV)
 lay:∀ e,e<=n->LayV S w.heap.size w (G e) (K e) (layN g a k0 e) (C e) (layTn g a k0 n e) (Z e)
 inc:∀ e e',e < e'->e'<=n->G e < G e'
 low:∀ e,e<=n->S<=G e
section
variable {g:Gr} {a:Au} {k0:Key} {S n d i m:Nat} {w w':World} {ov:Value} {G K:Nat->Nat} {Z:Nat->List Zr} {C:Nat->Nat->Nat}
theorem Dn.of_up (h:Up g a k0 S w n ov G K Z):Dn g a k0 S w n ov G K Z (fun _ _=>0):=⟨h.out,h.lay,h.inc,h.low⟩
theorem Dn.below (h:Dn g a k0 S w n ov G K Z C) (hb:Below w.heap.size w w'):Dn g a k0 S w' n ov G K Z C :=
 ⟨ownsRow_below h.out hb (Nat.le_refl _),fun e he=>((h.lay e he).below hb).mono (Nat.le_refl _) hb.size,h.inc,h.low⟩
theorem Dn.congr (h:Dn g a k0 S w n ov G K Z C) {C':Nat->Nat->Nat} (hC:∀ e j,e<=n->j < (layN g a k0 e).length->C' e j=C e j):Dn g a k0 S w n ov G K Z C' :=
 ⟨h.out,fun e he=>(h.lay e he).congr (fun j hj=>hC e j he hj) (fun _ _=>rfl),h.inc,h.low⟩
theorem Dn.put (h:Dn g a k0 S w n ov G K Z C) (hd:d<=n) {k:Key} {z:Zr} (hk:(layN g a k0 d)[i]?=some k) (h1:z.node=k.1) (h2:z.set=k.2) (h3:z.cnt=m) (h4:RowV S w.heap.size w z (layTn g a k0 n d i)) :
 Dn g a k0 S (put5 w (G d) (i * 5) z) n ov G K (fun e=>if e=d then (Z d).set i z else Z e) (fun e j=>if e=d/\j=i then m else C e j):=by
 have hld:=h.lay d hd
 have hb:=put5_block w (G d) (i * 5) z
 have hs:=put5_size w (G d) (i * 5) z
 refine ⟨ownsRow_block h.out (fun b hb'=>hb b (by
  have:=own_ne h.out hld.row (Ne.symm tyZL) hb'
  simp only [Value.ownBlock,ne_eq,Option.some.injEq] at this
  omega)),fun e he=>?_,h.inc,h.low⟩
 by_cases e1:e=d
 · subst e1
   rw [if_pos rfl,hs]
   refine (hld.put hk h1 h2 h3 h4).congr (fun j hj=>?_) (fun j hj=>?_)
   · by_cases e2:j=i
     · simp [e2]
     · simp [e2]
   · by_cases e2:j=i
     · rw [if_pos e2,e2]
     · rw [if_neg e2]
 · rw [if_neg e1,hs]
   have hne:G e ≠ G d:=by
    rcases Nat.lt_or_ge e d with h' | h'
    · have:=h.inc e d h' hd;omega
    · have:=h.inc d e (by omega) he;omega
   refine (((h.lay e he).other hld.row hne (fun b hb' _=>hb b hb'))).congr (fun j hj=>?_) (fun _ _=>rfl)
   rw [if_neg (fun h=>e1 h.1)]
theorem Dn.hd (h:Dn g a k0 S w n (.slice (some ⟨m,0,none⟩) (n+1) i) G K Z C) (hd:d<=n):w.cell? ⟨m,d,none⟩=some (.slice (some ⟨G d,0,none⟩) (layN g a k0 d).length (K d)):=by
 have hl:(hdrs g a k0 G K (n+1)).length=n+1:=hdrs_len ..
 have h0:=h.out
 rw [hl] at h0
 have h2:=World.ownsRow.cellAt h0 d (by omega)
 rw [flatCV,hdrs_at (by omega)] at h2
 exact h2
end
/-- the counts that are there when layers from D on are done, and i rows of the one before -/
def cOut (g:Gr) (a:Au) (y:Int) (k0:Key) (n D:Nat):Nat->Nat->Nat:=fun e j=>if D<=e then layC g a y k0 n e j else 0
def cSt' (g:Gr) (a:Au) (y:Int) (k0:Key) (n d i:Nat):Nat->Nat->Nat:=fun e j=>if d < e ∨ (e=d/\j < i) then layC g a y k0 n e j else 0
theorem layTn_in {g:Gr} {a:Au} {k0:Key} {n d i:Nat} {k:Key} (h:(layN g a k0 d)[i]?=some k):∀ e ∈ layTn g a k0 n d i,d < n/\e.2 < (layN g a k0 (d+1)).length:=fun e he=>by
 rcases Nat.lt_or_ge d n with h1 | h1
 · rw [layTn_lt h1] at he
   exact ⟨h1,(layT_row h).to_lt e he⟩
 · rw [layTn_ge h1] at he
   cases he
theorem layTn_len {g:Gr} {a:Au} (hg:GrOk g) {k0:Key} {n d i:Nat} {k:Key} (h:(layN g a k0 d)[i]?=some k):(layTn g a k0 n d i).length<=24:=by
 rcases Nat.lt_or_ge d n with h1 | h1
 · rw [layTn_lt h1]
   exact Nat.le_trans (layT_row h).len (arcs_len hg _)
 · rw [layTn_ge h1]
   exact Nat.zero_le _
/-- what a row counts, from c0 on: one at an end, none elsewhere -/
def c0At (g:Gr) (a:Au) (y:Int) (n d x s:Nat):Nat:=if d=n/\(x:Int)=y/\acc a s (valAt g x)=true then 1 else 0
theorem row_fin {g:Gr} {a:Au} {y:Int} {k0:Key} {n d i x s:Nat} (hd:d<=n) (h:(layN g a k0 d)[i]?=some (x,s)):(layTn g a k0 n d i).foldl (cntF (layC g a y k0 n (d+1))) (c0At g a y n d x s)=layC g a y k0 n d i:=by
 rcases Nat.lt_or_ge d n with h1 | h1
 · rw [layTn_lt h1,c0At,if_neg (by omega)]
   exact layC_fold h h1
 · obtain rfl:d=n:=by omega
   rw [layTn_ge h1,layC_at h,Nat.sub_self,cw,c0At]
   show (if _ then 1 else 0)=_
   simp only [true_and,Bool.and_eq_true,decide_eq_true_eq]
theorem cntF_take {C:Nat->Nat} {T:List (St × Nat)} {k c:Nat} {e:St × Nat} (h:T[k]?=some e):(T.take (k+1)).foldl (cntF C) c=min 1000000 ((T.take k).foldl (cntF C) c+C e.2):=foldl_take h c
theorem cntF_le {C:Nat->Nat}:∀ (T:List (St × Nat)) (c:Nat),c<=1000000->T.foldl (cntF C) c<=1000000
 | [],c,h=>h
 | e :: T,c,_=>cntF_le T _ (Nat.min_le_left _ _)
/-- all layers made and counted, in the blocks that stand in w -/
def LaysV (g:Gr) (a:Au) (y:Int) (k0:Key) (n:Nat) (lo:Nat) (w:World) (v:Value):Prop :=
 ∃ (A:Option Addr) (c:Nat),v=.slice A (n+1) c/\n+1<=c/\c<=9223372036854775807/\∀ d,d<=n->∃ (b o gd cd:Nat) (zs:List Zr),A=some ⟨b,o,none⟩/\b < w.heap.size/\w.cell? ⟨b,o+d,none⟩=some (.slice (some ⟨gd,0,none⟩) (layN g a k0 d).length cd) /\
   LayV lo w.heap.size w gd cd (layN g a k0 d) (layC g a y k0 n d) (layTn g a k0 n d) zs
set_option maxHeartbeats 16000000 in
set_option maxRecDepth 100000 in
theorem l19Layers_any (vg va:Value) (g:Gr) (a:Au) (x:Nat) (y:Int) (n:Nat) (w:World) (hgv:GrV 0 w.heap.size w vg g) (hav:AuV 0 w.heap.size w va a) (hgo:grOk g=true) (ha:auOk a=true) (hx:x < g.vals.length) (hn:n<=60) :
 Calls Tryz.prog 23 #[vg,va,.int .i64 (x:Int),.int .i64 y,.int .i64 (n:Int)] w fun e w'=>∃ v',e=.returned v'/\LaysV g a y (x,bit a.start.toNat) n w.heap.size w' v'/\Below w.heap.size w w':=by
 have hgs:=hgv.shape
 have has:=hav.shape
 obtain ⟨A1,n1,c1,A2,n2,c2,rfl⟩:=hgs
 obtain ⟨A3,n3,c3,A4,n4,c4,rfl⟩:=has
 obtain ⟨⟨hn1,hn12⟩,⟨hst0,hst1⟩,-,-⟩:=auOk_iff.1 ha
 obtain ⟨s,hs⟩:∃ s:Nat,a.start=(s:Int):=⟨a.start.toNat,by omega⟩
 have hsb:bit a.start.toNat=bit s:=by rw [hs];rfl
 rw [hsb]
 obtain ⟨k0,hk0⟩:∃ k0:Key,k0=(x,bit s):=⟨_,rfl⟩
 rw [<- hk0]
 have hkok:k0.1 < g.vals.length/\k0.2 < 2 ^ a.accept.length:=by rw [hk0];exact ⟨hx,bit_lt (by omega)⟩
 have HLO:=Hd_ (fun d=>layN_ok (grOk_iff.1 hgo) ha hkok d)
 have HGV:=Hd_ hgv
 have HAV:=Hd_ hav
 have HGO:=Hd_ hgo
 have HA:=Hd_ ha
 obtain ⟨W0,hW0⟩:∃ W0,W0=(w.alloc (.cells #[.slice A1 n1 c1,.slice A2 n2 c2] 27)).alloc (.cells #[.int .i64 a.start,.slice A3 n3 c3,.slice A4 n4 c4] 31):=⟨_,rfl⟩
 have hb0:Below w.heap.size w W0:=by rw [hW0];exact ((Below.refl _ _).alloc (Nat.le_refl _) _).alloc (by simp) _
 have hs0:W0.heap.size=w.heap.size+1+1:=by rw [hW0];simp
 have x0:W0.cell? ⟨w.heap.size,0,none⟩=some (.slice A1 n1 c1):=by rw [hW0];simp
 have x1:W0.cell? ⟨w.heap.size,1,none⟩=some (.slice A2 n2 c2):=by rw [hW0];simp
 have y0:W0.cell? ⟨w.heap.size+1,0,none⟩=some (.int .i64 a.start):=by rw [hW0];simp
 have y1:W0.cell? ⟨w.heap.size+1,1,none⟩=some (.slice A3 n3 c3):=by rw [hW0];simp
 have y2:W0.cell? ⟨w.heap.size+1,2,none⟩=some (.slice A4 n4 c4):=by rw [hW0];simp
 have HX:=Hd_ (And.intro x0 (And.intro x1 (And.intro y0 (And.intro y1 y2))))
 have HB0:=Hd_ hb0
 have e1:=shl_bit (s:=s) (by omega)
 have e2:wrap64 (2 ^ min s 64)=(bit s:Int):=by rw [Nat.min_eq_left (by omega)];exact e1
 clear hgv hav hgo ha hb0 x0 x1 y0 y1 y2 hst0 hst1 hkok hsb
 go_enter Tryz.func23,Tryz.ntmps23
 rw [hs] at hW0 ⊢
 go_wp2_with fail
 rw [<- hW0]
 rw [show w.heap.size+1+1=W0.heap.size from hs0.symm]
 have hs0a:W0.heap.size<=w.heap.size+1+1:=Nat.le_of_eq hs0
 have hs0b:w.heap.size+1+1<=W0.heap.size:=Nat.le_of_eq hs0.symm
 have hUp:Up g a k0 W0.heap.size ((W0.alloc (.cells #[.int .i64 (x:Int),.int .i64 (bit s:Int),.int .i64 0,.slice none 0 0,.slice none 0 0] 58)).alloc (.cells #[.slice (some ⟨W0.heap.size,0,none⟩) 1 1] 59)) 0 (.slice (some ⟨W0.heap.size+1,0,none⟩) 1 1) (fun _=>W0.heap.size) (fun _=>1) (fun _=>[rawZ k0]):=by
  refine ⟨?_,fun e he=>?_,rfl,fun e e' h1 h2=>by omega,fun e _=>Nat.le_refl _⟩
  · have h:=World.ownsRow_lit (base:=W0.heap.size) (e:=59) (size:=1) (W0.alloc (.cells #[.int .i64 (x:Int),.int .i64 (bit s:Int),.int .i64 0,.slice none 0 0,.slice none 0 0] 58)) #[.slice (some ⟨W0.heap.size,0,none⟩) 1 1] 1 (by simp) (by decide) rfl
    have e:hdrs g a k0 (fun _=>W0.heap.size) (fun _=>1) (0+1)=[.slice (some ⟨W0.heap.size,0,none⟩) 1 1]:=by simp [hdrs,hdr,layN]
    rw [e]
    simpa [cV] using h
  · obtain rfl:e=0:=by omega
    rw [layTn_ge (Nat.le_refl _)]
    have h:=World.ownsRow_lit (base:=0) (e:=58) (size:=5) W0 #[.int .i64 (x:Int),.int .i64 (bit s:Int),.int .i64 0,.slice none 0 0,.slice none 0 0] 1 (Nat.zero_le _) (by decide) rfl
    refine LayV.raw _ _ ?_ _ _
    have h2:=h.alloc (.cells #[.slice (some ⟨W0.heap.size,0,none⟩) 1 1] 59)
    rw [hk0]
    exact h2
 have HUP:=Hd_ hUp
 have HBL:=Hd_ (show Below W0.heap.size W0 ((W0.alloc (.cells #[.int .i64 (x:Int),.int .i64 (bit s:Int),.int .i64 0,.slice none 0 0,.slice none 0 0] 58)).alloc (.cells #[.slice (some ⟨W0.heap.size,0,none⟩) 1 1] 59)) from ((Below.refl _ _).alloc (Nat.le_refl _) _).alloc (by simp) _)
 have HK0:=Hd_ hk0
 try rw [e2]
 have HS:=Hd_ hs
 clear hUp hW0 hs0 hk0 e1 e2 hs
 try go_wp2_with fail
 go_loopw [11,12] (fun oo dd wr=>∃ (d:Nat) (G Kc:Nat->Nat) (Z:Nat->List Zr),d<=n/\dd=.int .i64 (d:Int)/\Up g a k0 W0.heap.size wr d oo G Kc Z/\Below W0.heap.size W0 wr) (fun _ dd _=>n - (intOf dd).toNat)
 case atStart=>exact ⟨0,_,_,_,Nat.zero_le _,rfl,HUP.out,HBL.out⟩
 case round =>
  clear HUP HBL
  obtain ⟨d,G,Kc,Z,hd,rfl,hup,hbel⟩:=hrel
  have hsz:=hbel.size
  by_cases hlt:d < n
  · have hout:=hup.out
    have hlay:=hup.lay d (Nat.le_refl _)
    rw [layTn_ge (Nat.le_refl _),hup.raw] at hlay
    have hlow:=hup.low d (Nat.le_refl _)
    obtain ⟨go,co,rfl,hgo1,hgo2,hgo3,hgo4⟩:=own_some hout (by rw [hdrs_len];omega)
    rw [hdrs_len] at hgo3
    have h0:wr.cell? ⟨go,d,none⟩=some (.slice (some ⟨G d,0,none⟩) (layN g a k0 d).length (Kc d)):=by
     have h:=World.ownsRow.cellAt hout d (by rw [hdrs_len];omega)
     rw [flatCV,hdrs_at (by omega)] at h
     exact h
    have x0:=kcell hbel HX.out.1
    have x1:=kcell hbel HX.out.2.1
    have y0:=kcell hbel HX.out.2.2.1
    have y1:=kcell hbel HX.out.2.2.2.1
    have y2:=kcell hbel HX.out.2.2.2.2
    rw [HS.out] at y0
    have hgoG:go ≠ G d:=by
     have:=own_ne hout hlay.row (Ne.symm tyZL) rfl
     simp only [Value.ownBlock,ne_eq,Option.some.injEq] at this
     omega
    have hbw:=HB0.out.trans (hbel.mono (show w.heap.size<=W0.heap.size by omega))
    have hdr:=(Below.refl wr.heap.size wr).drew
    have HLY:=Hd_ (by
     have h:=l19Layer_any _ _ g a w.heap.size (layN g a k0 d) (G d) (Kc d) W0.heap.size wr.heap.size wr.drew ((HGV.out.below hbw (Nat.le_refl _)).below hdr (by omega)) ((HAV.out.below hbw (Nat.le_refl _)).below hdr (by omega)) (by omega) HGO.out HA.out (HLO.out d) (hlay.below hdr)
     rw [HS.out] at h
     exact h)
    have hNl:=(HLO.out d).len (grOk_iff.1 HGO.out) HA.out
    have HUPd:=Hd_ hup
    have HBEL:=Hd_ hbel
    have hddn:(d:Int) < (n:Int):=by omega
    have hddn2:(d:Int) < (d:Int)+1:=by omega
    have l0w:w.heap.size < wr.heap.size:=by omega
    have l1w:w.heap.size+1 < wr.heap.size:=by omega
    simp only [hdrs_len] at *
    clear hup hout hlay hbel hbw hdr
    go_upto_region 5 with fail
    refine F_start 7 (fun w'=>w'.cell? ⟨w.heap.size,0,none⟩=some (.slice A1 n1 c1)/\w'.cell? ⟨w.heap.size,1,none⟩=some (.slice A2 n2 c2)/\w'.cell? ⟨w.heap.size+1,0,none⟩=some (.int .i64 (s:Int))/\w'.cell? ⟨w.heap.size+1,1,none⟩=some (.slice A3 n3 c3)/\w'.cell? ⟨w.heap.size+1,2,none⟩=some (.slice A4 n4 c4)/\w'.cell? ⟨go,d,none⟩=some (.slice (some ⟨G d,0,none⟩) (layN g a k0 d).length (Kc d))) (by kernel_rfl) (by exact ⟨x0,x1,y0,y1,y2,h0⟩) (fun hS inv=>?_)
    refine F_tk 0 inv ?_
    try simp only [tA,tB,tC,Act.put,tE,tF,tG]
    clear inv;intro inv
    refine F_tk 1 inv ?_
    try simp only [tA,tB,tC,Act.put,tE,tF,tG]
    clear inv;intro inv
    refine F_tk 2 inv ?_
    try simp only [tA,tB,tC,Act.put,tE,tF,tG]
    clear inv;intro inv
    refine F_tk 3 inv ?_
    try simp only [tA,tB,tC,Act.put,tE,tF,tG]
    clear inv;intro inv
    refine F_tk 4 inv ?_
    try simp only [tA,tB,tC,Act.put,tE,tF,tG]
    clear inv;intro inv
    refine F_tk 5 inv ?_
    try simp only [tA,tB,tC,Act.put,tE,tF,tG]
    clear inv;intro inv
    refine F_o1 6 inv ?_;intro K hK
    try simp only [tA,tB,tC]
    go_simp
    refine HLY.out.mono ?_
    rintro en w1 ⟨gn,cn,zs,rfl,hgn,r1,r2,r3⟩
    have r3b:Only (G d) (G d+1) wr w1:=(Only.of_below ((Below.refl wr.heap.size wr).drew) _ _).trans r3
    refine hK.out _ _ (⟨ocell r3 hS.1 l0w (.inl (by omega)),ocell r3 hS.2.1 l0w (.inl (by omega)),ocell r3 hS.2.2.1 l1w (.inl (by omega)),ocell r3 hS.2.2.2.1 l1w (.inl (by omega)),ocell r3 hS.2.2.2.2.1 l1w (.inl (by omega)),ocell r3 hS.2.2.2.2.2 hgo2 (by omega)⟩) (fun _ _=>?_)
    try simp only [tA,tB,tC,Act.put,tE,tF,tG]
    clear hK K inv hS;rename_i hS inv
    refine F_l1 7 ?_;intro K hK
    go_simp
    refine hK _ _ ?_
    clear hK K inv hS
    have hout1:w1.ownsRow W0.heap.size 59 1 (.slice (some ⟨go,0,none⟩) (d+1) co) (hdrs g a k0 G Kc (d+1)).length ((hdrs g a k0 G Kc (d+1)).flatMap cV):=ownsRow_block HUPd.out.out (fun b hb=>r3b.block b (HUPd.out.out.lt b hb).2 (by
     have e:go=b:=by simpa [Value.ownBlock] using hb
     omega))
    have HOUT:=Hd_ hout1
    have R1:=Hd_ r1
    have R2:=Hd_ r2
    have R3:=Hd_ r3b
    have hs1:=r3b.size
    have hgn':wr.heap.size<=gn:=hgn
    have hhl:(hdrs g a k0 G Kc (d+1)).length<=61:=by rw [hdrs_len];omega
    clear hout1 r1 r2 r3 r3b hgn x0 x1 y0 y1 y2 h0 HLY
    go_wp2_with (at_builtin;(refine wpList_append1 cV elLs rfl _ _ rfl W0.heap.size _ (hdrs g a k0 G Kc (d+1)) (.slice (some ⟨gn,0,none⟩) (layA g a (layN g a k0 d)).1.length cn) _ 1 _ (by rfl) HOUT.out (by rfl) rfl rfl rfl (by intro u hu;simp only [cV,List.mem_cons,List.not_mem_nil,or_false] at hu;subst hu;rfl) (by omega) (by omega) (by omega) ?_);intro v8 w8 hrow8 hb8 hat8 hgr8)
    have hst:=Up.step (w2:=w8) (ov':=v8) HUPd.out (by omega) hgn' R1.out (R2.out.mono (Nat.le_refl _) (Nat.le_refl _)) R3.out hgr8 (by
     rw [hdrs_snoc,hdrs_upd,hdr,upd_at,upd_at]
     exact hrow8)
    have hbl8:Below W0.heap.size W0 w8:=(HBEL.out.trans (R3.out.below (by omega) (by omega))).trans hb8
    have HST:=Hd_ hst
    have HB8:=Hd_ hbl8
    clear hst hbl8 hrow8 hb8 hat8 hgr8
    go_roundw
    case rel=>exact ⟨d+1,_,_,_,by omega,by go_num,HST.out,HB8.out⟩
    case measure=>simp [intOf];omega
  · obtain rfl:d=n:=by omega
    have hout:=hup.out
    obtain ⟨go,co,rfl,hgo1,hgo2,hgo3,hgo4⟩:=own_some hout (by rw [hdrs_len];omega)
    rw [hdrs_len] at hgo3
    have HDN:=Hd_ (show Dn g a k0 W0.heap.size wr d (.slice (some ⟨go,0,none⟩) (d+1) co) G Kc Z (cOut g a y k0 d (d+1)) from by
     have h:=(Dn.of_up hup).congr (C':=cOut g a y k0 d (d+1)) (fun e j he hj=>by rw [cOut,if_neg (by omega)])
     simpa only [hdrs_len] using h)
    have HBEL:=Hd_ hbel
    have HFM:=Hd_ (fun (W:World) (hW:Below W0.heap.size W0 W)=>(HGV.out.below (HB0.out.trans (hW.mono (show w.heap.size<=W0.heap.size by omega))) (Nat.le_refl _)).mono (Nat.le_refl 0) (show w.heap.size<=W.heap.size by have:=hW.size;omega))
    have HFA:=Hd_ (fun (W:World) (hW:Below W0.heap.size W0 W)=>(HAV.out.below (HB0.out.trans (hW.mono (show w.heap.size<=W0.heap.size by omega))) (Nat.le_refl _)).mono (Nat.le_refl 0) (show w.heap.size<=W.heap.size by have:=hW.size;omega))
    simp only [hdrs_len]
    clear hup hbel hout hlt hd hsz
    go_wp2_with fail
    go_loopw [14] (fun dd wr=>∃ (D:Nat) (Z:Nat->List Zr),D<=d+1/\dd=.int .i64 ((D:Int) - 1)/\Dn g a k0 W0.heap.size wr d (.slice (some ⟨go,0,none⟩) (d+1) co) G Kc Z (cOut g a y k0 d D)/\Below W0.heap.size W0 wr) (fun dd _=>(intOf dd+1).toNat)
    case atStart=>exact ⟨d+1,Z,Nat.le_refl _,by congr 1;omega,HDN.out,HBEL.out⟩
    case round =>
     clear HDN HBEL
     obtain ⟨D,Z,hD,rfl,hdn,hbel⟩:=hrel
     have HDN:=Hd_ hdn
     have HBEL:=Hd_ hbel
     have hszD:=hbel.size
     have hgoW:=(hdn.out.lt go rfl).2
     rcases Nat.eq_zero_or_pos D with h0 | h0
     · subst h0
       have hneg:¬ (0:Int)<=((0:Nat):Int) - 1:=by omega
       have HFIN:=Hd_ (show LaysV g a y k0 d w.heap.size wr (.slice (some ⟨go,0,none⟩) (d+1) co) from
        ⟨_,co,rfl,hgo3,hgo4,fun e he=>⟨go,0,G e,Kc e,Z e,rfl,hgoW,by rw [Nat.zero_add];exact hdn.hd he,((hdn.lay e he).congr (fun j hj=>by rw [cOut,if_pos (Nat.zero_le _)]) (fun _ _=>rfl)).mono (by omega) (Nat.le_refl _)⟩⟩)
       have HB:=Hd_ (HB0.out.trans (hbel.mono (show w.heap.size<=W0.heap.size by omega)))
       clear hdn hbel
       go_wp2_with fail
       go_ret
       exact ⟨_,rfl,HFIN.out,HB.out⟩
     · obtain ⟨q,hq⟩:∃ q,D=q+1:=⟨D - 1,by omega⟩
       have hqi:(D:Int) - 1=(q:Int):=by omega
       have hqd:q<=d:=by omega
       have HQ:=Hd_ hq
       have HIN:=Hd_ (hdn.congr (C':=cSt' g a y k0 d q 0) (fun e j he hj=>by
        rw [cSt',cOut,hq]
        by_cases h:q+1<=e
        · rw [if_pos h,if_pos (.inl (by omega))]
        · rw [if_neg h,if_neg (by omega)]))
       have hNl:=(HLO.out q).len (grOk_iff.1 HGO.out) HA.out
       have hpos:(0:Int)<=(q:Int):=by omega
       have hqd1:(q:Int) < (d:Int)+1:=by omega
       rw [hqi]
       clear hdn hbel hq HDN hqi h0
       obtain ⟨wo,hwo⟩:∃ wo:World,wo=wr:=⟨_,rfl⟩
       rw [<- hwo] at HIN HBEL hszD hgoW ⊢
       clear hwo
       go_wp2_with fail
       go_loopw [15] (fun ii wi=>∃ (i:Nat) (Z:Nat->List Zr),i<=(layN g a k0 q).length/\ii=.int .i64 (i:Int)/\Dn g a k0 W0.heap.size wi d (.slice (some ⟨go,0,none⟩) (d+1) co) G Kc Z (cSt' g a y k0 d q i)/\Below W0.heap.size W0 wi) (fun ii _=>(layN g a k0 q).length - (intOf ii).toNat)
       case atStart=>exact ⟨0,Z,Nat.zero_le _,rfl,HIN.out,HBEL.out⟩
       case round =>
        clear HIN HBEL
        obtain ⟨i,Z,hi,rfl,hdn,hbel⟩:=hrel
        have h0:=hdn.hd hqd
        have hgow:=(hdn.out.lt go rfl).2
        by_cases hlt:i < (layN g a k0 q).length
        · have hk:(layN g a k0 q)[i]?=some (layN g a k0 q)[i]:=List.getElem?_eq_getElem hlt
          have hkr:=(HLO.out q).rng _ (List.getElem_mem hlt)
          generalize (layN g a k0 q)[i]=k at hk hkr
          obtain ⟨x',s'⟩:=k
          simp only at hkr
          have hld:=hdn.lay q hqd
          obtain ⟨z,hz,hz1,hz2,hz3,hz4,d0,d1,d2,d3,d4⟩:=hld.get hk
          rw [show cSt' g a y k0 d q i q i=0 by rw [cSt',if_neg (by omega)]] at d2
          simp only at d0 d1
          have hosv:=hz4.1
          have hotv:=hz4.2
          clear hz hz1 hz2 hz3 hz4
          generalize z.sv=sv at *
          generalize z.tv=tv at *
          obtain ⟨As,ns,cs,rfl⟩:=hosv.shape
          have hrowL:=hld.row
          have HTIN:=Hd_ (layTn_in (n:=d) hk)
          have htl:=layTn_len (a:=a) (grOk_iff.1 HGO.out) (k0:=k0) (n:=d) hk
          have HROWF:=Hd_ (row_fin (y:=y) hqd hk)
          have hlcq:=fun j=>layC_le g a y k0 d (q+1) j
          have HLC:=Hd_ hlcq
          obtain ⟨TT,hTT⟩:∃ TT,TT=layTn g a k0 d q i:=⟨_,rfl⟩
          rw [<- hTT] at hotv hosv htl HTIN HROWF
          obtain ⟨At,ct,rfl,hlt1,hmt,hCt⟩:=hotv.form cN_len
          rw [List.length_map] at hlt1 hotv d4
          have HTT:=Hd_ hTT
          have HCT:=Hd_ hCt
          have HSV:=Hd_ hosv
          have HTV:=Hd_ hotv
          have HDN:=Hd_ hdn
          have HBX:=Hd_ hbel
          have HK:=Hd_ hk
          have hs4:=lt12 HA.out hkr.2
          have hglq:=hld.lt
          have hii:(i:Int) < ((layN g a k0 q).length:Int):=by omega
          have hszi:=hbel.size
          clear hlcq hTT hCt hosv hotv hdn hbel hk hld hrowL
          go_upto_region 15 with fail
          obtain ⟨wq,hwq⟩:∃ wq:World,wq=wr:=⟨_,rfl⟩
          rw [<- hwq] at HCT HSV HTV HDN HBX hszi hgow hglq h0 d0 d1 d2 d3 d4 ⊢
          obtain ⟨wy,hwy⟩:∃ wy,wy=wq.alloc (.cells #[.int .i64 (x':Int),.int .i64 (s':Int),.int .i64 0,.slice As ns cs,.slice At TT.length ct] 58):=⟨_,rfl⟩
          have hbk:Blk wy wq.heap.size 58 #[.int .i64 (x':Int),.int .i64 (s':Int),.int .i64 0,.slice As ns cs,.slice At TT.length ct]:=by rw [hwy];exact Blk.new _ _ _ _ rfl
          have hbY:Below wq.heap.size wq wy:=by rw [hwy];exact (Below.refl _ _).alloc (Nat.le_refl _) _
          have b0:wy.cell? ⟨wq.heap.size,0,none⟩=some (.int .i64 (x':Int)):=hbk.cell 0
          have b1:wy.cell? ⟨wq.heap.size,1,none⟩=some (.int .i64 (s':Int)):=hbk.cell 1
          have b2:wy.cell? ⟨wq.heap.size,2,none⟩=some (.int .i64 0):=hbk.cell 2
          have lby:=hbk.lt
          rw [<- hwy]
          have hbW0:=HBX.out.trans (hbY.mono hszi)
          have x0:=kcell hbW0 HX.out.1
          have x1:=kcell hbW0 HX.out.2.1
          have y0:=kcell hbW0 HX.out.2.2.1
          have y1:=kcell hbW0 HX.out.2.2.2.1
          have y2:=kcell hbW0 HX.out.2.2.2.2
          rw [HS.out] at y0
          have lw0:w.heap.size < wy.heap.size:=by omega
          have lw1:w.heap.size+1 < wy.heap.size:=by omega
          have HEND:=Hd_ (by
           have h:=l18Ends_any _ _ g a x' s' wy (HFM.out wy hbW0) (HFA.out wy hbW0) HGO.out HA.out hkr.1 hkr.2
           rw [HS.out] at h
           exact h)
          clear hwq hwy hbW0
          by_cases hqn:q=d
          · have k1:((q:Int)==(d:Int))=true:=by simp [hqn]
            have k2:decide ((q:Int)=(d:Int))=true:=by simp [hqn]
            by_cases hxy:(x':Int)=y
            · have k3:((x':Int)==y)=true:=by simp [hxy]
              have k4:decide ((x':Int)=y)=true:=by simp [hxy]
              cases hac:acc a s' (valAt g x') with
              | true =>
                rw [hac] at HEND
                obtain ⟨c0,hc0e⟩:∃ c0,c0=c0At g a y d q x' s':=⟨_,rfl⟩
                have hc1:c0=1:=by rw [hc0e,c0At,if_pos ⟨hqn,hxy,hac⟩]
                have HFC:=Hd_ (show TT.foldl (cntF (layC g a y k0 d (q+1))) c0=layC g a y k0 d q i from by rw [hc0e];exact HROWF.out)
                have hc0:c0<=1000000:=by omega
                clear hc0e hac hxy hqn HROWF
                go_wp2_with fail
                refine HEND.out.mono ?_
                rintro en w9 ⟨rfl,hb9⟩
                have hbk9:=hbk.keep hb9
                have b2:=kcell hb9 b2
                have f2:=hbk9.frozen 2
                have lb9:=hbk9.lt
                have hbY9:=below_trans hbY hb9
                go_upto_region 17 with fail
                have hbk:=hbk9.set_ 2 (.int .i64 1)
                have hbY:=hbY9.setCell (p:=⟨wq.heap.size,2,none⟩) (Nat.le_refl _) (.int .i64 1)
                have hbk:Blk (w9.setCell ⟨wq.heap.size,2,none⟩ (.int .i64 1)) wq.heap.size 58 #[.int .i64 (x':Int),.int .i64 (s':Int),.int .i64 (c0:Int),.slice As ns cs,.slice At TT.length ct]:=by rw [hc1];simpa using hbk
                clear hb9 hbk9 hbY9 b0 b1 b2 f2 lb9 x0 x1 y0 y1 y2 k1 k2 k3 k4 hc1
                have HBKY:=Hd_ hbk
                have HBY:=Hd_ hbY
                clear hbk hbY
                go_wp2_with fail
                go_loopw [17] (fun kk wi=>∃ k:Nat,k<=TT.length/\kk=.int .i64 (k:Int)/\Blk wi wq.heap.size 58 #[.int .i64 (x':Int),.int .i64 (s':Int),.int .i64 (((TT.take k).foldl (cntF (layC g a y k0 d (q+1))) c0:Nat):Int),.slice As ns cs,.slice At TT.length ct]/\Below wq.heap.size wq wi) (fun kk _=>TT.length - (intOf kk).toNat)
                case atStart=>exact ⟨0,Nat.zero_le _,rfl,HBKY.out,HBY.out⟩
                case round =>
                 clear HBKY HBY
                 obtain ⟨k,hk',rfl,hbk,hbel⟩:=hrel
                 have hszk:=hbel.size
                 have lbk:=hbk.lt
                 have hmle:=cntF_le (C:=layC g a y k0 d (q+1)) (TT.take k) c0 hc0
                 by_cases hlk:k < TT.length
                 · have hek:TT[k]?=some TT[k]:=List.getElem?_eq_getElem hlk
                   have hin:=HTIN.out _ (List.getElem_mem hlk)
                   generalize TT[k]=e at hek hin
                   obtain ⟨b8,o8,rfl,hb8,t0⟩:=HCT.out.nat (i:=k) (x:=e.2) (by rw [List.getElem?_map,hek];rfl)
                   have hk1:(layN g a k0 (q+1))[e.2]?=some (layN g a k0 (q+1))[e.2]:=List.getElem?_eq_getElem hin.2
                   have hl1:=HDN.out.lay (q+1) (by omega)
                   obtain ⟨z1,-,-,-,-,-,-,-,r2,-,-⟩:=hl1.get hk1
                   rw [show cSt' g a y k0 d q i (q+1) e.2=layC g a y k0 d (q+1) e.2 by rw [cSt',if_pos (.inl (Nat.lt_succ_self _))]] at r2
                   have hg1:=hl1.lt
                   have h1:=kcell hbel (HDN.out.hd (d:=q+1) (by omega))
                   have t0:=kcell hbel t0
                   have r2:=kcell hbel r2
                   have c2:wr.cell? ⟨wq.heap.size,2,none⟩=some (.int .i64 (((TT.take k).foldl (cntF (layC g a y k0 d (q+1))) c0:Nat):Int)):=hbk.cell 2
                   have c4:wr.cell? ⟨wq.heap.size,4,none⟩=some (.slice (some ⟨b8,o8,none⟩) TT.length ct):=hbk.cell 4
                   have hC1:=HLC.out e.2
                   have hne:=cntF_take (C:=layC g a y k0 d (q+1)) (c:=c0) hek
                   have HN:=Hd_ hne
                   have HBK:=Hd_ hbk
                   have HBE:=Hd_ hbel
                   have f2:=hbk.drew.frozen 2
                   have l8:=hbk.drew.lt
                   have hq0:(0:Int)<=(q:Int)+1:=by omega
                   have hq1:(q:Int)+1 < (d:Int)+1:=by omega
                   have hq2:((q:Int)+1).toNat=q+1:=by omega
                   have hkk:(k:Int) < (TT.length:Int):=by omega
                   have qw:IntKind.i64.wrap ((q:Int)+1)=(q:Int)+1:=IntWalk.i64_in _ (by omega)
                   have f2w:=hbk.frozen 2
                   have l8w:=hbk.lt
                   have c2d:wr.drew.cell? ⟨wq.heap.size,2,none⟩=some (.int .i64 (((TT.take k).foldl (cntF (layC g a y k0 d (q+1))) c0:Nat):Int)):=hbk.drew.cell 2
                   obtain ⟨e1,e2⟩:=e
                   simp only at t0 r2 hin hC1 HN
                   have hee:(e2:Int) < ((layN g a k0 (q+1)).length:Int):=by omega
                   clear hne hek hk1 hl1 hbk hbel
                   generalize (TT.take k).foldl (cntF (layC g a y k0 d (q+1))) c0=m at *
                   generalize layC g a y k0 d (q+1) e2=C1 at *
                   have qm:IntKind.i64.wrap ((m:Int)+(C1:Int))=(m:Int)+(C1:Int):=IntWalk.i64_in _ (by omega)
                   go_upto_region 20 with fail
                   refine F_start 18 (fun w'=>w'.cell? ⟨wq.heap.size,2,none⟩=some (.int .i64 (m:Int))/\w'.cell? ⟨go,q+1,none⟩=some (.slice (some ⟨G (q+1),0,none⟩) (layN g a k0 (q+1)).length (Kc (q+1)))/\w'.cell? ⟨wq.heap.size,4,none⟩=some (.slice (some ⟨b8,o8,none⟩) TT.length ct)/\w'.cell? ⟨b8,o8+k,none⟩=some (.int .i64 (e2:Int))/\w'.cell? ⟨G (q+1),e2 * 5+2,none⟩=some (.int .i64 (C1:Int))) (by kernel_rfl) (by exact ⟨c2,h1,c4,t0,r2⟩) (fun hS inv=>?_)
                   refine F_tk 0 inv ?_
                   try simp only [tA,tB,tC,Act.put,tE,tF,tG]
                   clear inv;intro inv
                   refine F_tk 1 inv ?_
                   try simp only [tA,tB,tC,Act.put,tE,tF,tG]
                   clear inv;intro inv
                   refine F_tk 2 inv ?_
                   try simp only [tA,tB,tC,Act.put,tE,tF,tG]
                   clear inv;intro inv
                   refine F_tk 3 inv ?_
                   try simp only [tA,tB,tC,Act.put,tE,tF,tG]
                   clear inv;intro inv
                   refine F_tk 4 inv ?_
                   try simp only [tA,tB,tC,Act.put,tE,tF,tG]
                   clear inv;intro inv
                   refine F_tk 5 inv ?_
                   try simp only [tA,tB,tC,Act.put,tE,tF,tG]
                   clear inv;intro inv
                   refine F_tk 6 inv ?_
                   try simp only [tA,tB,tC,Act.put,tE,tF,tG]
                   clear inv;intro inv
                   refine F_tk 7 inv ?_
                   try simp only [tA,tB,tC,Act.put,tE,tF,tG]
                   clear inv;intro inv
                   refine F_tk 8 inv ?_
                   try simp only [tA,tB,tC,Act.put,tE,tF,tG]
                   clear inv;intro inv
                   refine F_tk 9 inv ?_
                   try simp only [tA,tB,tC,Act.put,tE,tF,tG]
                   clear inv;intro inv
                   refine F_tk 10 inv ?_
                   try simp only [tA,tB,tC,Act.put,tE,tF,tG]
                   clear inv;intro inv
                   refine F_tk 11 inv ?_
                   try simp only [tA,tB,tC,Act.put,tE,tF,tG]
                   clear inv;intro inv
                   refine F_tk 12 inv ?_
                   try simp only [tA,tB,tC,Act.put,tE,tF,tG]
                   clear inv;intro inv
                   refine F_tk 13 inv ?_
                   try simp only [tA,tB,tC,Act.put,tE,tF,tG]
                   clear inv;intro inv
                   refine F_tk 14 inv ?_
                   try simp only [tA,tB,tC,Act.put,tE,tF,tG]
                   clear inv;intro inv
                   refine F_tk 15 inv ?_
                   try simp only [tA,tB,tC,Act.put,tE,tF,tG]
                   clear inv;intro inv
                   refine F_tk 16 inv ?_
                   try simp only [tA,tB,tC,Act.put,tE,tF,tG]
                   clear inv;intro inv
                   refine F_tk 17 inv ?_
                   try simp only [tA,tB,tC,Act.put,tE,tF,tG]
                   clear inv;intro inv
                   refine F_l1 18 ?_;intro K hK
                   go_simp
                   refine hK _ _ ?_
                   clear hK K inv hS
                   have hbk2:=(HBK.out.set_ 2 (.int .i64 ((min 1000000 (m+C1):Nat):Int))).drew
                   have hbe2:=(HBE.out.setCell (p:=⟨wq.heap.size,2,none⟩) (Nat.le_refl _) (.int .i64 ((min 1000000 (m+C1):Nat):Int))).drew
                   have HB2:=Hd_ hbk2
                   have HE2:=Hd_ hbe2
                   have hmi:(min 1000000 ((m:Int)+(C1:Int)))=((min 1000000 (m+C1):Nat):Int):=by omega
                   have hmi2:(if (m:Int)+(C1:Int) < 1000000 then (m:Int)+(C1:Int) else 1000000)=((min 1000000 (m+C1):Nat):Int):=by split <;> omega
                   clear hbk2 hbe2 c2 h1 c4 t0 r2 f2 l8 f2w l8w c2d qw qm hq0 hq1 hq2
                   first | rw [hmi] | rw [hmi2] | skip
                   clear hmi hmi2
                   go_wp2_with fail
                   go_roundw
                   case rel=>exact ⟨k+1,by omega,by go_num,by rw [HN.out];simpa using HB2.out,HE2.out⟩
                   case measure=>simp [intOf];omega
                 · obtain rfl:k=TT.length:=by omega
                   rw [List.take_length,HFC.out] at hbk
                   have hcf:=layC_le g a y k0 d q i
                   obtain ⟨CF,hCF⟩:∃ CF,CF=layC g a y k0 d q i:=⟨_,rfl⟩
                   rw [<- hCF] at hbk hcf
                   have d0d:=kcell hbel.drew d0
                   have d0:=kcell hbel d0
                   have d1d:=kcell hbel.drew d1
                   have d1:=kcell hbel d1
                   have d2d:=kcell hbel.drew d2
                   have d2:=kcell hbel d2
                   have d3d:=kcell hbel.drew d3
                   have d3:=kcell hbel d3
                   have d4d:=kcell hbel.drew d4
                   have d4:=kcell hbel d4
                   have h0:=kcell hbel h0
                   have hlq:=HDN.out.lay q hqd
                   have hdn2:=HDN.out.below hbel
                   have hrw2:=(hdn2.lay q hqd).row
                   have f0:=World.ownsRow.frozenAt hrw2 (i * 5)
                   have f1:=World.ownsRow.frozenAt hrw2 (i * 5+1)
                   have f2:=World.ownsRow.frozenAt hrw2 (i * 5+2)
                   have f3:=World.ownsRow.frozenAt hrw2 (i * 5+3)
                   have f4:=World.ownsRow.frozenAt hrw2 (i * 5+4)
                   have lgq:=(hdn2.lay q hqd).lt
                   have hrw3:=((HDN.out.below hbel).lay q hqd).row
                   have f0w:=World.ownsRow.frozenAt hrw3 (i * 5)
                   have f1w:=World.ownsRow.frozenAt hrw3 (i * 5+1)
                   have f2w:=World.ownsRow.frozenAt hrw3 (i * 5+2)
                   have f3w:=World.ownsRow.frozenAt hrw3 (i * 5+3)
                   have f4w:=World.ownsRow.frozenAt hrw3 (i * 5+4)
                   have lgqw:=((HDN.out.below hbel).lay q hqd).lt
                   have hput:=hdn2.put (m:=CF) (z:=⟨x',s',CF,.slice As ns cs,.slice At TT.length ct⟩) hqd HK.out rfl rfl rfl (by
                    rw [<- HTT.out]
                    exact ⟨(HSV.out.below hbel (Nat.le_refl _)).mono (Nat.le_refl _) hbel.size,(HTV.out.below hbel (Nat.le_refl _)).mono (Nat.le_refl _) hbel.size⟩)
                   have hput2:=(hput.below ((Below.refl (put5 wr (G q) (i * 5) ⟨x',s',CF,.slice As ns cs,.slice At TT.length ct⟩).heap.size _).drew)).congr (C':=cSt' g a y k0 d q (i+1)) (fun e j he hj=>by
                    by_cases h:e=q/\j=i
                    · rw [if_pos h,cSt',if_pos (.inr ⟨h.1,by omega⟩),h.1,h.2,hCF]
                    · rw [if_neg h,cSt',cSt']
                      by_cases h2:q < e ∨ (e=q/\j < i)
                      · rw [if_pos h2,if_pos (by omega)]
                      · rw [if_neg h2,if_neg (by omega)])
                   have hbl2:=((HBX.out.trans (hbel.mono hszi)).trans ((put5_only wr (G q) (i * 5) ⟨x',s',CF,.slice As ns cs,.slice At TT.length ct⟩).below (B:=W0.heap.size) (HDN.out.low q hqd) (Nat.le_trans hszi hbel.size))).drew
                   have cc0:wr.cell? ⟨wq.heap.size,0,none⟩=some (.int .i64 (x':Int)):=hbk.cell 0
                   have cc1:wr.cell? ⟨wq.heap.size,1,none⟩=some (.int .i64 (s':Int)):=hbk.cell 1
                   have cc2:wr.cell? ⟨wq.heap.size,2,none⟩=some (.int .i64 (CF:Int)):=hbk.cell 2
                   have cc3:wr.cell? ⟨wq.heap.size,3,none⟩=some (.slice As ns cs):=hbk.cell 3
                   have cc4:wr.cell? ⟨wq.heap.size,4,none⟩=some (.slice At TT.length ct):=hbk.cell 4
                   have HPUT:=Hd_ hput2
                   have HBL2:=Hd_ hbl2
                   clear hlq hdn2 hrw2 hrw3 hput hput2 hbl2 hbk hbel hCF
                   go_upto_region 21 with fail
                   refine F_start 7 (fun w'=>w'.cell? ⟨go,q,none⟩=some (.slice (some ⟨G q,0,none⟩) (layN g a k0 q).length (Kc q))/\w'.cell? ⟨wq.heap.size,0,none⟩=some (.int .i64 (x':Int))/\w'.cell? ⟨wq.heap.size,1,none⟩=some (.int .i64 (s':Int))/\w'.cell? ⟨wq.heap.size,2,none⟩=some (.int .i64 (CF:Int))/\w'.cell? ⟨wq.heap.size,3,none⟩=some (.slice As ns cs)/\w'.cell? ⟨wq.heap.size,4,none⟩=some (.slice At TT.length ct)) (by kernel_rfl) (by exact ⟨h0,cc0,cc1,cc2,cc3,cc4⟩) (fun hS inv=>?_)
                   refine F_tk 0 inv ?_
                   try simp only [tA,tB,tC,Act.put,tE,tF,tG]
                   clear inv;intro inv
                   refine F_tk 1 inv ?_
                   try simp only [tA,tB,tC,Act.put,tE,tF,tG]
                   clear inv;intro inv
                   refine F_tk 2 inv ?_
                   try simp only [tA,tB,tC,Act.put,tE,tF,tG]
                   clear inv;intro inv
                   refine F_tk 3 inv ?_
                   try simp only [tA,tB,tC,Act.put,tE,tF,tG]
                   clear inv;intro inv
                   refine F_tk 4 inv ?_
                   try simp only [tA,tB,tC,Act.put,tE,tF,tG]
                   clear inv;intro inv
                   refine F_tk 5 inv ?_
                   try simp only [tA,tB,tC,Act.put,tE,tF,tG]
                   clear inv;intro inv
                   refine F_tk 6 inv ?_
                   try simp only [tA,tB,tC,Act.put,tE,tF,tG]
                   clear inv;intro inv
                   refine F_l1 7 ?_;intro K hK
                   go_simp
                   refine hK _ _ ?_
                   clear hK K inv hS
                   rw [show (((((wr.setCell ⟨G q,i * 5,none⟩ (.int .i64 (x':Int))).setCell ⟨G q,i * 5+1,none⟩ (.int .i64 (s':Int))).setCell ⟨G q,i * 5+2,none⟩ (.int .i64 (CF:Int))).setCell ⟨G q,i * 5+3,none⟩ (.slice As ns cs)).setCell ⟨G q,i * 5+4,none⟩ (.slice At TT.length ct)).drew=(put5 wr (G q) (i * 5) ⟨x',s',CF,.slice As ns cs,.slice At TT.length ct⟩).drew from rfl]
                   go_wp2_with fail
                   go_roundw
                   case rel=>exact ⟨i+1,_,by omega,by go_num,HPUT.out,HBL2.out⟩
                   case measure=>simp [intOf];omega
              | false =>
                rw [hac] at HEND
                obtain ⟨c0,hc0e⟩:∃ c0,c0=c0At g a y d q x' s':=⟨_,rfl⟩
                have hc1:c0=0:=by rw [hc0e,c0At,if_neg (by rw [hac];simp)]
                have HFC:=Hd_ (show TT.foldl (cntF (layC g a y k0 d (q+1))) c0=layC g a y k0 d q i from by rw [hc0e];exact HROWF.out)
                have hc0:c0<=1000000:=by omega
                clear hc0e hac hxy hqn HROWF
                go_wp2_with fail
                refine HEND.out.mono ?_
                rintro en w9 ⟨rfl,hb9⟩
                have hbk9:=hbk.keep hb9
                have hbY9:=below_trans hbY hb9
                have hbk:Blk w9 wq.heap.size 58 #[.int .i64 (x':Int),.int .i64 (s':Int),.int .i64 (c0:Int),.slice As ns cs,.slice At TT.length ct]:=by rw [hc1];exact hbk9
                have hbY:=hbY9
                clear hb9 hbk9 hbY9 b0 b1 b2 x0 x1 y0 y1 y2 hc1
                have HBKY:=Hd_ hbk
                have HBY:=Hd_ hbY
                clear hbk hbY
                go_wp2_with fail
                go_loopw [17] (fun kk wi=>∃ k:Nat,k<=TT.length/\kk=.int .i64 (k:Int)/\Blk wi wq.heap.size 58 #[.int .i64 (x':Int),.int .i64 (s':Int),.int .i64 (((TT.take k).foldl (cntF (layC g a y k0 d (q+1))) c0:Nat):Int),.slice As ns cs,.slice At TT.length ct]/\Below wq.heap.size wq wi) (fun kk _=>TT.length - (intOf kk).toNat)
                case atStart=>exact ⟨0,Nat.zero_le _,rfl,HBKY.out,HBY.out⟩
                case round =>
                 clear HBKY HBY
                 obtain ⟨k,hk',rfl,hbk,hbel⟩:=hrel
                 have hszk:=hbel.size
                 have lbk:=hbk.lt
                 have hmle:=cntF_le (C:=layC g a y k0 d (q+1)) (TT.take k) c0 hc0
                 by_cases hlk:k < TT.length
                 · have hek:TT[k]?=some TT[k]:=List.getElem?_eq_getElem hlk
                   have hin:=HTIN.out _ (List.getElem_mem hlk)
                   generalize TT[k]=e at hek hin
                   obtain ⟨b8,o8,rfl,hb8,t0⟩:=HCT.out.nat (i:=k) (x:=e.2) (by rw [List.getElem?_map,hek];rfl)
                   have hk1:(layN g a k0 (q+1))[e.2]?=some (layN g a k0 (q+1))[e.2]:=List.getElem?_eq_getElem hin.2
                   have hl1:=HDN.out.lay (q+1) (by omega)
                   obtain ⟨z1,-,-,-,-,-,-,-,r2,-,-⟩:=hl1.get hk1
                   rw [show cSt' g a y k0 d q i (q+1) e.2=layC g a y k0 d (q+1) e.2 by rw [cSt',if_pos (.inl (Nat.lt_succ_self _))]] at r2
                   have hg1:=hl1.lt
                   have h1:=kcell hbel (HDN.out.hd (d:=q+1) (by omega))
                   have t0:=kcell hbel t0
                   have r2:=kcell hbel r2
                   have c2:wr.cell? ⟨wq.heap.size,2,none⟩=some (.int .i64 (((TT.take k).foldl (cntF (layC g a y k0 d (q+1))) c0:Nat):Int)):=hbk.cell 2
                   have c4:wr.cell? ⟨wq.heap.size,4,none⟩=some (.slice (some ⟨b8,o8,none⟩) TT.length ct):=hbk.cell 4
                   have hC1:=HLC.out e.2
                   have hne:=cntF_take (C:=layC g a y k0 d (q+1)) (c:=c0) hek
                   have HN:=Hd_ hne
                   have HBK:=Hd_ hbk
                   have HBE:=Hd_ hbel
                   have f2:=hbk.drew.frozen 2
                   have l8:=hbk.drew.lt
                   have hq0:(0:Int)<=(q:Int)+1:=by omega
                   have hq1:(q:Int)+1 < (d:Int)+1:=by omega
                   have hq2:((q:Int)+1).toNat=q+1:=by omega
                   have hkk:(k:Int) < (TT.length:Int):=by omega
                   have qw:IntKind.i64.wrap ((q:Int)+1)=(q:Int)+1:=IntWalk.i64_in _ (by omega)
                   have f2w:=hbk.frozen 2
                   have l8w:=hbk.lt
                   have c2d:wr.drew.cell? ⟨wq.heap.size,2,none⟩=some (.int .i64 (((TT.take k).foldl (cntF (layC g a y k0 d (q+1))) c0:Nat):Int)):=hbk.drew.cell 2
                   obtain ⟨e1,e2⟩:=e
                   simp only at t0 r2 hin hC1 HN
                   have hee:(e2:Int) < ((layN g a k0 (q+1)).length:Int):=by omega
                   clear hne hek hk1 hl1 hbk hbel
                   generalize (TT.take k).foldl (cntF (layC g a y k0 d (q+1))) c0=m at *
                   generalize layC g a y k0 d (q+1) e2=C1 at *
                   have qm:IntKind.i64.wrap ((m:Int)+(C1:Int))=(m:Int)+(C1:Int):=IntWalk.i64_in _ (by omega)
                   go_upto_region 20 with fail
                   refine F_start 18 (fun w'=>w'.cell? ⟨wq.heap.size,2,none⟩=some (.int .i64 (m:Int))/\w'.cell? ⟨go,q+1,none⟩=some (.slice (some ⟨G (q+1),0,none⟩) (layN g a k0 (q+1)).length (Kc (q+1)))/\w'.cell? ⟨wq.heap.size,4,none⟩=some (.slice (some ⟨b8,o8,none⟩) TT.length ct)/\w'.cell? ⟨b8,o8+k,none⟩=some (.int .i64 (e2:Int))/\w'.cell? ⟨G (q+1),e2 * 5+2,none⟩=some (.int .i64 (C1:Int))) (by kernel_rfl) (by exact ⟨c2,h1,c4,t0,r2⟩) (fun hS inv=>?_)
                   refine F_tk 0 inv ?_
                   try simp only [tA,tB,tC,Act.put,tE,tF,tG]
                   clear inv;intro inv
                   refine F_tk 1 inv ?_
                   try simp only [tA,tB,tC,Act.put,tE,tF,tG]
                   clear inv;intro inv
                   refine F_tk 2 inv ?_
                   try simp only [tA,tB,tC,Act.put,tE,tF,tG]
                   clear inv;intro inv
                   refine F_tk 3 inv ?_
                   try simp only [tA,tB,tC,Act.put,tE,tF,tG]
                   clear inv;intro inv
                   refine F_tk 4 inv ?_
                   try simp only [tA,tB,tC,Act.put,tE,tF,tG]
                   clear inv;intro inv
                   refine F_tk 5 inv ?_
                   try simp only [tA,tB,tC,Act.put,tE,tF,tG]
                   clear inv;intro inv
                   refine F_tk 6 inv ?_
                   try simp only [tA,tB,tC,Act.put,tE,tF,tG]
                   clear inv;intro inv
                   refine F_tk 7 inv ?_
                   try simp only [tA,tB,tC,Act.put,tE,tF,tG]
                   clear inv;intro inv
                   refine F_tk 8 inv ?_
                   try simp only [tA,tB,tC,Act.put,tE,tF,tG]
                   clear inv;intro inv
                   refine F_tk 9 inv ?_
                   try simp only [tA,tB,tC,Act.put,tE,tF,tG]
                   clear inv;intro inv
                   refine F_tk 10 inv ?_
                   try simp only [tA,tB,tC,Act.put,tE,tF,tG]
                   clear inv;intro inv
                   refine F_tk 11 inv ?_
                   try simp only [tA,tB,tC,Act.put,tE,tF,tG]
                   clear inv;intro inv
                   refine F_tk 12 inv ?_
                   try simp only [tA,tB,tC,Act.put,tE,tF,tG]
                   clear inv;intro inv
                   refine F_tk 13 inv ?_
                   try simp only [tA,tB,tC,Act.put,tE,tF,tG]
                   clear inv;intro inv
                   refine F_tk 14 inv ?_
                   try simp only [tA,tB,tC,Act.put,tE,tF,tG]
                   clear inv;intro inv
                   refine F_tk 15 inv ?_
                   try simp only [tA,tB,tC,Act.put,tE,tF,tG]
                   clear inv;intro inv
                   refine F_tk 16 inv ?_
                   try simp only [tA,tB,tC,Act.put,tE,tF,tG]
                   clear inv;intro inv
                   refine F_tk 17 inv ?_
                   try simp only [tA,tB,tC,Act.put,tE,tF,tG]
                   clear inv;intro inv
                   refine F_l1 18 ?_;intro K hK
                   go_simp
                   refine hK _ _ ?_
                   clear hK K inv hS
                   have hbk2:=(HBK.out.set_ 2 (.int .i64 ((min 1000000 (m+C1):Nat):Int))).drew
                   have hbe2:=(HBE.out.setCell (p:=⟨wq.heap.size,2,none⟩) (Nat.le_refl _) (.int .i64 ((min 1000000 (m+C1):Nat):Int))).drew
                   have HB2:=Hd_ hbk2
                   have HE2:=Hd_ hbe2
                   have hmi:(min 1000000 ((m:Int)+(C1:Int)))=((min 1000000 (m+C1):Nat):Int):=by omega
                   have hmi2:(if (m:Int)+(C1:Int) < 1000000 then (m:Int)+(C1:Int) else 1000000)=((min 1000000 (m+C1):Nat):Int):=by split <;> omega
                   clear hbk2 hbe2 c2 h1 c4 t0 r2 f2 l8 f2w l8w c2d qw qm hq0 hq1 hq2
                   first | rw [hmi] | rw [hmi2] | skip
                   clear hmi hmi2
                   go_wp2_with fail
                   go_roundw
                   case rel=>exact ⟨k+1,by omega,by go_num,by rw [HN.out];simpa using HB2.out,HE2.out⟩
                   case measure=>simp [intOf];omega
                 · obtain rfl:k=TT.length:=by omega
                   rw [List.take_length,HFC.out] at hbk
                   have hcf:=layC_le g a y k0 d q i
                   obtain ⟨CF,hCF⟩:∃ CF,CF=layC g a y k0 d q i:=⟨_,rfl⟩
                   rw [<- hCF] at hbk hcf
                   have d0d:=kcell hbel.drew d0
                   have d0:=kcell hbel d0
                   have d1d:=kcell hbel.drew d1
                   have d1:=kcell hbel d1
                   have d2d:=kcell hbel.drew d2
                   have d2:=kcell hbel d2
                   have d3d:=kcell hbel.drew d3
                   have d3:=kcell hbel d3
                   have d4d:=kcell hbel.drew d4
                   have d4:=kcell hbel d4
                   have h0:=kcell hbel h0
                   have hlq:=HDN.out.lay q hqd
                   have hdn2:=HDN.out.below hbel
                   have hrw2:=(hdn2.lay q hqd).row
                   have f0:=World.ownsRow.frozenAt hrw2 (i * 5)
                   have f1:=World.ownsRow.frozenAt hrw2 (i * 5+1)
                   have f2:=World.ownsRow.frozenAt hrw2 (i * 5+2)
                   have f3:=World.ownsRow.frozenAt hrw2 (i * 5+3)
                   have f4:=World.ownsRow.frozenAt hrw2 (i * 5+4)
                   have lgq:=(hdn2.lay q hqd).lt
                   have hrw3:=((HDN.out.below hbel).lay q hqd).row
                   have f0w:=World.ownsRow.frozenAt hrw3 (i * 5)
                   have f1w:=World.ownsRow.frozenAt hrw3 (i * 5+1)
                   have f2w:=World.ownsRow.frozenAt hrw3 (i * 5+2)
                   have f3w:=World.ownsRow.frozenAt hrw3 (i * 5+3)
                   have f4w:=World.ownsRow.frozenAt hrw3 (i * 5+4)
                   have lgqw:=((HDN.out.below hbel).lay q hqd).lt
                   have hput:=hdn2.put (m:=CF) (z:=⟨x',s',CF,.slice As ns cs,.slice At TT.length ct⟩) hqd HK.out rfl rfl rfl (by
                    rw [<- HTT.out]
                    exact ⟨(HSV.out.below hbel (Nat.le_refl _)).mono (Nat.le_refl _) hbel.size,(HTV.out.below hbel (Nat.le_refl _)).mono (Nat.le_refl _) hbel.size⟩)
                   have hput2:=(hput.below ((Below.refl (put5 wr (G q) (i * 5) ⟨x',s',CF,.slice As ns cs,.slice At TT.length ct⟩).heap.size _).drew)).congr (C':=cSt' g a y k0 d q (i+1)) (fun e j he hj=>by
                    by_cases h:e=q/\j=i
                    · rw [if_pos h,cSt',if_pos (.inr ⟨h.1,by omega⟩),h.1,h.2,hCF]
                    · rw [if_neg h,cSt',cSt']
                      by_cases h2:q < e ∨ (e=q/\j < i)
                      · rw [if_pos h2,if_pos (by omega)]
                      · rw [if_neg h2,if_neg (by omega)])
                   have hbl2:=((HBX.out.trans (hbel.mono hszi)).trans ((put5_only wr (G q) (i * 5) ⟨x',s',CF,.slice As ns cs,.slice At TT.length ct⟩).below (B:=W0.heap.size) (HDN.out.low q hqd) (Nat.le_trans hszi hbel.size))).drew
                   have cc0:wr.cell? ⟨wq.heap.size,0,none⟩=some (.int .i64 (x':Int)):=hbk.cell 0
                   have cc1:wr.cell? ⟨wq.heap.size,1,none⟩=some (.int .i64 (s':Int)):=hbk.cell 1
                   have cc2:wr.cell? ⟨wq.heap.size,2,none⟩=some (.int .i64 (CF:Int)):=hbk.cell 2
                   have cc3:wr.cell? ⟨wq.heap.size,3,none⟩=some (.slice As ns cs):=hbk.cell 3
                   have cc4:wr.cell? ⟨wq.heap.size,4,none⟩=some (.slice At TT.length ct):=hbk.cell 4
                   have HPUT:=Hd_ hput2
                   have HBL2:=Hd_ hbl2
                   clear hlq hdn2 hrw2 hrw3 hput hput2 hbl2 hbk hbel hCF
                   go_upto_region 21 with fail
                   refine F_start 7 (fun w'=>w'.cell? ⟨go,q,none⟩=some (.slice (some ⟨G q,0,none⟩) (layN g a k0 q).length (Kc q))/\w'.cell? ⟨wq.heap.size,0,none⟩=some (.int .i64 (x':Int))/\w'.cell? ⟨wq.heap.size,1,none⟩=some (.int .i64 (s':Int))/\w'.cell? ⟨wq.heap.size,2,none⟩=some (.int .i64 (CF:Int))/\w'.cell? ⟨wq.heap.size,3,none⟩=some (.slice As ns cs)/\w'.cell? ⟨wq.heap.size,4,none⟩=some (.slice At TT.length ct)) (by kernel_rfl) (by exact ⟨h0,cc0,cc1,cc2,cc3,cc4⟩) (fun hS inv=>?_)
                   refine F_tk 0 inv ?_
                   try simp only [tA,tB,tC,Act.put,tE,tF,tG]
                   clear inv;intro inv
                   refine F_tk 1 inv ?_
                   try simp only [tA,tB,tC,Act.put,tE,tF,tG]
                   clear inv;intro inv
                   refine F_tk 2 inv ?_
                   try simp only [tA,tB,tC,Act.put,tE,tF,tG]
                   clear inv;intro inv
                   refine F_tk 3 inv ?_
                   try simp only [tA,tB,tC,Act.put,tE,tF,tG]
                   clear inv;intro inv
                   refine F_tk 4 inv ?_
                   try simp only [tA,tB,tC,Act.put,tE,tF,tG]
                   clear inv;intro inv
                   refine F_tk 5 inv ?_
                   try simp only [tA,tB,tC,Act.put,tE,tF,tG]
                   clear inv;intro inv
                   refine F_tk 6 inv ?_
                   try simp only [tA,tB,tC,Act.put,tE,tF,tG]
                   clear inv;intro inv
                   refine F_l1 7 ?_;intro K hK
                   go_simp
                   refine hK _ _ ?_
                   clear hK K inv hS
                   rw [show (((((wr.setCell ⟨G q,i * 5,none⟩ (.int .i64 (x':Int))).setCell ⟨G q,i * 5+1,none⟩ (.int .i64 (s':Int))).setCell ⟨G q,i * 5+2,none⟩ (.int .i64 (CF:Int))).setCell ⟨G q,i * 5+3,none⟩ (.slice As ns cs)).setCell ⟨G q,i * 5+4,none⟩ (.slice At TT.length ct)).drew=(put5 wr (G q) (i * 5) ⟨x',s',CF,.slice As ns cs,.slice At TT.length ct⟩).drew from rfl]
                   go_wp2_with fail
                   go_roundw
                   case rel=>exact ⟨i+1,_,by omega,by go_num,HPUT.out,HBL2.out⟩
                   case measure=>simp [intOf];omega
            · have k3:((x':Int)==y)=false:=by simp [hxy]
              have k4:decide ((x':Int)=y)=false:=by simp [hxy]
              obtain ⟨c0,hc0e⟩:∃ c0,c0=c0At g a y d q x' s':=⟨_,rfl⟩
              have hc1:c0=0:=by rw [hc0e,c0At,if_neg (fun h=>hxy h.2.1)]
              have HFC:=Hd_ (show TT.foldl (cntF (layC g a y k0 d (q+1))) c0=layC g a y k0 d q i from by rw [hc0e];exact HROWF.out)
              have hc0:c0<=1000000:=by omega
              have hbk:Blk wy wq.heap.size 58 #[.int .i64 (x':Int),.int .i64 (s':Int),.int .i64 (c0:Int),.slice As ns cs,.slice At TT.length ct]:=by rw [hc1];exact hbk
              clear hc0e hxy hqn HROWF HEND hc1 b1 x0 x1 y0 y1 y2
              have HBKY:=Hd_ hbk
              have HBY:=Hd_ hbY
              clear hbk hbY
              go_wp2_with fail
              go_loopw [17] (fun kk wi=>∃ k:Nat,k<=TT.length/\kk=.int .i64 (k:Int)/\Blk wi wq.heap.size 58 #[.int .i64 (x':Int),.int .i64 (s':Int),.int .i64 (((TT.take k).foldl (cntF (layC g a y k0 d (q+1))) c0:Nat):Int),.slice As ns cs,.slice At TT.length ct]/\Below wq.heap.size wq wi) (fun kk _=>TT.length - (intOf kk).toNat)
              case atStart=>exact ⟨0,Nat.zero_le _,rfl,HBKY.out,HBY.out⟩
              case round =>
               clear HBKY HBY
               obtain ⟨k,hk',rfl,hbk,hbel⟩:=hrel
               have hszk:=hbel.size
               have lbk:=hbk.lt
               have hmle:=cntF_le (C:=layC g a y k0 d (q+1)) (TT.take k) c0 hc0
               by_cases hlk:k < TT.length
               · have hek:TT[k]?=some TT[k]:=List.getElem?_eq_getElem hlk
                 have hin:=HTIN.out _ (List.getElem_mem hlk)
                 generalize TT[k]=e at hek hin
                 obtain ⟨b8,o8,rfl,hb8,t0⟩:=HCT.out.nat (i:=k) (x:=e.2) (by rw [List.getElem?_map,hek];rfl)
                 have hk1:(layN g a k0 (q+1))[e.2]?=some (layN g a k0 (q+1))[e.2]:=List.getElem?_eq_getElem hin.2
                 have hl1:=HDN.out.lay (q+1) (by omega)
                 obtain ⟨z1,-,-,-,-,-,-,-,r2,-,-⟩:=hl1.get hk1
                 rw [show cSt' g a y k0 d q i (q+1) e.2=layC g a y k0 d (q+1) e.2 by rw [cSt',if_pos (.inl (Nat.lt_succ_self _))]] at r2
                 have hg1:=hl1.lt
                 have h1:=kcell hbel (HDN.out.hd (d:=q+1) (by omega))
                 have t0:=kcell hbel t0
                 have r2:=kcell hbel r2
                 have c2:wr.cell? ⟨wq.heap.size,2,none⟩=some (.int .i64 (((TT.take k).foldl (cntF (layC g a y k0 d (q+1))) c0:Nat):Int)):=hbk.cell 2
                 have c4:wr.cell? ⟨wq.heap.size,4,none⟩=some (.slice (some ⟨b8,o8,none⟩) TT.length ct):=hbk.cell 4
                 have hC1:=HLC.out e.2
                 have hne:=cntF_take (C:=layC g a y k0 d (q+1)) (c:=c0) hek
                 have HN:=Hd_ hne
                 have HBK:=Hd_ hbk
                 have HBE:=Hd_ hbel
                 have f2:=hbk.drew.frozen 2
                 have l8:=hbk.drew.lt
                 have hq0:(0:Int)<=(q:Int)+1:=by omega
                 have hq1:(q:Int)+1 < (d:Int)+1:=by omega
                 have hq2:((q:Int)+1).toNat=q+1:=by omega
                 have hkk:(k:Int) < (TT.length:Int):=by omega
                 have qw:IntKind.i64.wrap ((q:Int)+1)=(q:Int)+1:=IntWalk.i64_in _ (by omega)
                 have f2w:=hbk.frozen 2
                 have l8w:=hbk.lt
                 have c2d:wr.drew.cell? ⟨wq.heap.size,2,none⟩=some (.int .i64 (((TT.take k).foldl (cntF (layC g a y k0 d (q+1))) c0:Nat):Int)):=hbk.drew.cell 2
                 obtain ⟨e1,e2⟩:=e
                 simp only at t0 r2 hin hC1 HN
                 have hee:(e2:Int) < ((layN g a k0 (q+1)).length:Int):=by omega
                 clear hne hek hk1 hl1 hbk hbel
                 generalize (TT.take k).foldl (cntF (layC g a y k0 d (q+1))) c0=m at *
                 generalize layC g a y k0 d (q+1) e2=C1 at *
                 have qm:IntKind.i64.wrap ((m:Int)+(C1:Int))=(m:Int)+(C1:Int):=IntWalk.i64_in _ (by omega)
                 go_upto_region 20 with fail
                 refine F_start 18 (fun w'=>w'.cell? ⟨wq.heap.size,2,none⟩=some (.int .i64 (m:Int))/\w'.cell? ⟨go,q+1,none⟩=some (.slice (some ⟨G (q+1),0,none⟩) (layN g a k0 (q+1)).length (Kc (q+1)))/\w'.cell? ⟨wq.heap.size,4,none⟩=some (.slice (some ⟨b8,o8,none⟩) TT.length ct)/\w'.cell? ⟨b8,o8+k,none⟩=some (.int .i64 (e2:Int))/\w'.cell? ⟨G (q+1),e2 * 5+2,none⟩=some (.int .i64 (C1:Int))) (by kernel_rfl) (by exact ⟨c2,h1,c4,t0,r2⟩) (fun hS inv=>?_)
                 refine F_tk 0 inv ?_
                 try simp only [tA,tB,tC,Act.put,tE,tF,tG]
                 clear inv;intro inv
                 refine F_tk 1 inv ?_
                 try simp only [tA,tB,tC,Act.put,tE,tF,tG]
                 clear inv;intro inv
                 refine F_tk 2 inv ?_
                 try simp only [tA,tB,tC,Act.put,tE,tF,tG]
                 clear inv;intro inv
                 refine F_tk 3 inv ?_
                 try simp only [tA,tB,tC,Act.put,tE,tF,tG]
                 clear inv;intro inv
                 refine F_tk 4 inv ?_
                 try simp only [tA,tB,tC,Act.put,tE,tF,tG]
                 clear inv;intro inv
                 refine F_tk 5 inv ?_
                 try simp only [tA,tB,tC,Act.put,tE,tF,tG]
                 clear inv;intro inv
                 refine F_tk 6 inv ?_
                 try simp only [tA,tB,tC,Act.put,tE,tF,tG]
                 clear inv;intro inv
                 refine F_tk 7 inv ?_
                 try simp only [tA,tB,tC,Act.put,tE,tF,tG]
                 clear inv;intro inv
                 refine F_tk 8 inv ?_
                 try simp only [tA,tB,tC,Act.put,tE,tF,tG]
                 clear inv;intro inv
                 refine F_tk 9 inv ?_
                 try simp only [tA,tB,tC,Act.put,tE,tF,tG]
                 clear inv;intro inv
                 refine F_tk 10 inv ?_
                 try simp only [tA,tB,tC,Act.put,tE,tF,tG]
                 clear inv;intro inv
                 refine F_tk 11 inv ?_
                 try simp only [tA,tB,tC,Act.put,tE,tF,tG]
                 clear inv;intro inv
                 refine F_tk 12 inv ?_
                 try simp only [tA,tB,tC,Act.put,tE,tF,tG]
                 clear inv;intro inv
                 refine F_tk 13 inv ?_
                 try simp only [tA,tB,tC,Act.put,tE,tF,tG]
                 clear inv;intro inv
                 refine F_tk 14 inv ?_
                 try simp only [tA,tB,tC,Act.put,tE,tF,tG]
                 clear inv;intro inv
                 refine F_tk 15 inv ?_
                 try simp only [tA,tB,tC,Act.put,tE,tF,tG]
                 clear inv;intro inv
                 refine F_tk 16 inv ?_
                 try simp only [tA,tB,tC,Act.put,tE,tF,tG]
                 clear inv;intro inv
                 refine F_tk 17 inv ?_
                 try simp only [tA,tB,tC,Act.put,tE,tF,tG]
                 clear inv;intro inv
                 refine F_l1 18 ?_;intro K hK
                 go_simp
                 refine hK _ _ ?_
                 clear hK K inv hS
                 have hbk2:=(HBK.out.set_ 2 (.int .i64 ((min 1000000 (m+C1):Nat):Int))).drew
                 have hbe2:=(HBE.out.setCell (p:=⟨wq.heap.size,2,none⟩) (Nat.le_refl _) (.int .i64 ((min 1000000 (m+C1):Nat):Int))).drew
                 have HB2:=Hd_ hbk2
                 have HE2:=Hd_ hbe2
                 have hmi:(min 1000000 ((m:Int)+(C1:Int)))=((min 1000000 (m+C1):Nat):Int):=by omega
                 have hmi2:(if (m:Int)+(C1:Int) < 1000000 then (m:Int)+(C1:Int) else 1000000)=((min 1000000 (m+C1):Nat):Int):=by split <;> omega
                 clear hbk2 hbe2 c2 h1 c4 t0 r2 f2 l8 f2w l8w c2d qw qm hq0 hq1 hq2
                 first | rw [hmi] | rw [hmi2] | skip
                 clear hmi hmi2
                 go_wp2_with fail
                 go_roundw
                 case rel=>exact ⟨k+1,by omega,by go_num,by rw [HN.out];simpa using HB2.out,HE2.out⟩
                 case measure=>simp [intOf];omega
               · obtain rfl:k=TT.length:=by omega
                 rw [List.take_length,HFC.out] at hbk
                 have hcf:=layC_le g a y k0 d q i
                 obtain ⟨CF,hCF⟩:∃ CF,CF=layC g a y k0 d q i:=⟨_,rfl⟩
                 rw [<- hCF] at hbk hcf
                 have d0d:=kcell hbel.drew d0
                 have d0:=kcell hbel d0
                 have d1d:=kcell hbel.drew d1
                 have d1:=kcell hbel d1
                 have d2d:=kcell hbel.drew d2
                 have d2:=kcell hbel d2
                 have d3d:=kcell hbel.drew d3
                 have d3:=kcell hbel d3
                 have d4d:=kcell hbel.drew d4
                 have d4:=kcell hbel d4
                 have h0:=kcell hbel h0
                 have hlq:=HDN.out.lay q hqd
                 have hdn2:=HDN.out.below hbel
                 have hrw2:=(hdn2.lay q hqd).row
                 have f0:=World.ownsRow.frozenAt hrw2 (i * 5)
                 have f1:=World.ownsRow.frozenAt hrw2 (i * 5+1)
                 have f2:=World.ownsRow.frozenAt hrw2 (i * 5+2)
                 have f3:=World.ownsRow.frozenAt hrw2 (i * 5+3)
                 have f4:=World.ownsRow.frozenAt hrw2 (i * 5+4)
                 have lgq:=(hdn2.lay q hqd).lt
                 have hrw3:=((HDN.out.below hbel).lay q hqd).row
                 have f0w:=World.ownsRow.frozenAt hrw3 (i * 5)
                 have f1w:=World.ownsRow.frozenAt hrw3 (i * 5+1)
                 have f2w:=World.ownsRow.frozenAt hrw3 (i * 5+2)
                 have f3w:=World.ownsRow.frozenAt hrw3 (i * 5+3)
                 have f4w:=World.ownsRow.frozenAt hrw3 (i * 5+4)
                 have lgqw:=((HDN.out.below hbel).lay q hqd).lt
                 have hput:=hdn2.put (m:=CF) (z:=⟨x',s',CF,.slice As ns cs,.slice At TT.length ct⟩) hqd HK.out rfl rfl rfl (by
                  rw [<- HTT.out]
                  exact ⟨(HSV.out.below hbel (Nat.le_refl _)).mono (Nat.le_refl _) hbel.size,(HTV.out.below hbel (Nat.le_refl _)).mono (Nat.le_refl _) hbel.size⟩)
                 have hput2:=(hput.below ((Below.refl (put5 wr (G q) (i * 5) ⟨x',s',CF,.slice As ns cs,.slice At TT.length ct⟩).heap.size _).drew)).congr (C':=cSt' g a y k0 d q (i+1)) (fun e j he hj=>by
                  by_cases h:e=q/\j=i
                  · rw [if_pos h,cSt',if_pos (.inr ⟨h.1,by omega⟩),h.1,h.2,hCF]
                  · rw [if_neg h,cSt',cSt']
                    by_cases h2:q < e ∨ (e=q/\j < i)
                    · rw [if_pos h2,if_pos (by omega)]
                    · rw [if_neg h2,if_neg (by omega)])
                 have hbl2:=((HBX.out.trans (hbel.mono hszi)).trans ((put5_only wr (G q) (i * 5) ⟨x',s',CF,.slice As ns cs,.slice At TT.length ct⟩).below (B:=W0.heap.size) (HDN.out.low q hqd) (Nat.le_trans hszi hbel.size))).drew
                 have cc0:wr.cell? ⟨wq.heap.size,0,none⟩=some (.int .i64 (x':Int)):=hbk.cell 0
                 have cc1:wr.cell? ⟨wq.heap.size,1,none⟩=some (.int .i64 (s':Int)):=hbk.cell 1
                 have cc2:wr.cell? ⟨wq.heap.size,2,none⟩=some (.int .i64 (CF:Int)):=hbk.cell 2
                 have cc3:wr.cell? ⟨wq.heap.size,3,none⟩=some (.slice As ns cs):=hbk.cell 3
                 have cc4:wr.cell? ⟨wq.heap.size,4,none⟩=some (.slice At TT.length ct):=hbk.cell 4
                 have HPUT:=Hd_ hput2
                 have HBL2:=Hd_ hbl2
                 clear hlq hdn2 hrw2 hrw3 hput hput2 hbl2 hbk hbel hCF
                 go_upto_region 21 with fail
                 refine F_start 7 (fun w'=>w'.cell? ⟨go,q,none⟩=some (.slice (some ⟨G q,0,none⟩) (layN g a k0 q).length (Kc q))/\w'.cell? ⟨wq.heap.size,0,none⟩=some (.int .i64 (x':Int))/\w'.cell? ⟨wq.heap.size,1,none⟩=some (.int .i64 (s':Int))/\w'.cell? ⟨wq.heap.size,2,none⟩=some (.int .i64 (CF:Int))/\w'.cell? ⟨wq.heap.size,3,none⟩=some (.slice As ns cs)/\w'.cell? ⟨wq.heap.size,4,none⟩=some (.slice At TT.length ct)) (by kernel_rfl) (by exact ⟨h0,cc0,cc1,cc2,cc3,cc4⟩) (fun hS inv=>?_)
                 refine F_tk 0 inv ?_
                 try simp only [tA,tB,tC,Act.put,tE,tF,tG]
                 clear inv;intro inv
                 refine F_tk 1 inv ?_
                 try simp only [tA,tB,tC,Act.put,tE,tF,tG]
                 clear inv;intro inv
                 refine F_tk 2 inv ?_
                 try simp only [tA,tB,tC,Act.put,tE,tF,tG]
                 clear inv;intro inv
                 refine F_tk 3 inv ?_
                 try simp only [tA,tB,tC,Act.put,tE,tF,tG]
                 clear inv;intro inv
                 refine F_tk 4 inv ?_
                 try simp only [tA,tB,tC,Act.put,tE,tF,tG]
                 clear inv;intro inv
                 refine F_tk 5 inv ?_
                 try simp only [tA,tB,tC,Act.put,tE,tF,tG]
                 clear inv;intro inv
                 refine F_tk 6 inv ?_
                 try simp only [tA,tB,tC,Act.put,tE,tF,tG]
                 clear inv;intro inv
                 refine F_l1 7 ?_;intro K hK
                 go_simp
                 refine hK _ _ ?_
                 clear hK K inv hS
                 rw [show (((((wr.setCell ⟨G q,i * 5,none⟩ (.int .i64 (x':Int))).setCell ⟨G q,i * 5+1,none⟩ (.int .i64 (s':Int))).setCell ⟨G q,i * 5+2,none⟩ (.int .i64 (CF:Int))).setCell ⟨G q,i * 5+3,none⟩ (.slice As ns cs)).setCell ⟨G q,i * 5+4,none⟩ (.slice At TT.length ct)).drew=(put5 wr (G q) (i * 5) ⟨x',s',CF,.slice As ns cs,.slice At TT.length ct⟩).drew from rfl]
                 go_wp2_with fail
                 go_roundw
                 case rel=>exact ⟨i+1,_,by omega,by go_num,HPUT.out,HBL2.out⟩
                 case measure=>simp [intOf];omega
          · have k1:((q:Int)==(d:Int))=false:=by simp;omega
            have k2:decide ((q:Int)=(d:Int))=false:=by simp;omega
            obtain ⟨c0,hc0e⟩:∃ c0,c0=c0At g a y d q x' s':=⟨_,rfl⟩
            have hc1:c0=0:=by rw [hc0e,c0At,if_neg (fun h=>hqn h.1)]
            have HFC:=Hd_ (show TT.foldl (cntF (layC g a y k0 d (q+1))) c0=layC g a y k0 d q i from by rw [hc0e];exact HROWF.out)
            have hc0:c0<=1000000:=by omega
            have hbk:Blk wy wq.heap.size 58 #[.int .i64 (x':Int),.int .i64 (s':Int),.int .i64 (c0:Int),.slice As ns cs,.slice At TT.length ct]:=by rw [hc1];exact hbk
            clear hc0e hqn HROWF HEND hc1 b1 x0 x1 y0 y1 y2
            have HBKY:=Hd_ hbk
            have HBY:=Hd_ hbY
            clear hbk hbY
            go_wp2_with fail
            go_loopw [17] (fun kk wi=>∃ k:Nat,k<=TT.length/\kk=.int .i64 (k:Int)/\Blk wi wq.heap.size 58 #[.int .i64 (x':Int),.int .i64 (s':Int),.int .i64 (((TT.take k).foldl (cntF (layC g a y k0 d (q+1))) c0:Nat):Int),.slice As ns cs,.slice At TT.length ct]/\Below wq.heap.size wq wi) (fun kk _=>TT.length - (intOf kk).toNat)
            case atStart=>exact ⟨0,Nat.zero_le _,rfl,HBKY.out,HBY.out⟩
            case round =>
             clear HBKY HBY
             obtain ⟨k,hk',rfl,hbk,hbel⟩:=hrel
             have hszk:=hbel.size
             have lbk:=hbk.lt
             have hmle:=cntF_le (C:=layC g a y k0 d (q+1)) (TT.take k) c0 hc0
             by_cases hlk:k < TT.length
             · have hek:TT[k]?=some TT[k]:=List.getElem?_eq_getElem hlk
               have hin:=HTIN.out _ (List.getElem_mem hlk)
               generalize TT[k]=e at hek hin
               obtain ⟨b8,o8,rfl,hb8,t0⟩:=HCT.out.nat (i:=k) (x:=e.2) (by rw [List.getElem?_map,hek];rfl)
               have hk1:(layN g a k0 (q+1))[e.2]?=some (layN g a k0 (q+1))[e.2]:=List.getElem?_eq_getElem hin.2
               have hl1:=HDN.out.lay (q+1) (by omega)
               obtain ⟨z1,-,-,-,-,-,-,-,r2,-,-⟩:=hl1.get hk1
               rw [show cSt' g a y k0 d q i (q+1) e.2=layC g a y k0 d (q+1) e.2 by rw [cSt',if_pos (.inl (Nat.lt_succ_self _))]] at r2
               have hg1:=hl1.lt
               have h1:=kcell hbel (HDN.out.hd (d:=q+1) (by omega))
               have t0:=kcell hbel t0
               have r2:=kcell hbel r2
               have c2:wr.cell? ⟨wq.heap.size,2,none⟩=some (.int .i64 (((TT.take k).foldl (cntF (layC g a y k0 d (q+1))) c0:Nat):Int)):=hbk.cell 2
               have c4:wr.cell? ⟨wq.heap.size,4,none⟩=some (.slice (some ⟨b8,o8,none⟩) TT.length ct):=hbk.cell 4
               have hC1:=HLC.out e.2
               have hne:=cntF_take (C:=layC g a y k0 d (q+1)) (c:=c0) hek
               have HN:=Hd_ hne
               have HBK:=Hd_ hbk
               have HBE:=Hd_ hbel
               have f2:=hbk.drew.frozen 2
               have l8:=hbk.drew.lt
               have hq0:(0:Int)<=(q:Int)+1:=by omega
               have hq1:(q:Int)+1 < (d:Int)+1:=by omega
               have hq2:((q:Int)+1).toNat=q+1:=by omega
               have hkk:(k:Int) < (TT.length:Int):=by omega
               have qw:IntKind.i64.wrap ((q:Int)+1)=(q:Int)+1:=IntWalk.i64_in _ (by omega)
               have f2w:=hbk.frozen 2
               have l8w:=hbk.lt
               have c2d:wr.drew.cell? ⟨wq.heap.size,2,none⟩=some (.int .i64 (((TT.take k).foldl (cntF (layC g a y k0 d (q+1))) c0:Nat):Int)):=hbk.drew.cell 2
               obtain ⟨e1,e2⟩:=e
               simp only at t0 r2 hin hC1 HN
               have hee:(e2:Int) < ((layN g a k0 (q+1)).length:Int):=by omega
               clear hne hek hk1 hl1 hbk hbel
               generalize (TT.take k).foldl (cntF (layC g a y k0 d (q+1))) c0=m at *
               generalize layC g a y k0 d (q+1) e2=C1 at *
               have qm:IntKind.i64.wrap ((m:Int)+(C1:Int))=(m:Int)+(C1:Int):=IntWalk.i64_in _ (by omega)
               go_upto_region 20 with fail
               refine F_start 18 (fun w'=>w'.cell? ⟨wq.heap.size,2,none⟩=some (.int .i64 (m:Int))/\w'.cell? ⟨go,q+1,none⟩=some (.slice (some ⟨G (q+1),0,none⟩) (layN g a k0 (q+1)).length (Kc (q+1)))/\w'.cell? ⟨wq.heap.size,4,none⟩=some (.slice (some ⟨b8,o8,none⟩) TT.length ct)/\w'.cell? ⟨b8,o8+k,none⟩=some (.int .i64 (e2:Int))/\w'.cell? ⟨G (q+1),e2 * 5+2,none⟩=some (.int .i64 (C1:Int))) (by kernel_rfl) (by exact ⟨c2,h1,c4,t0,r2⟩) (fun hS inv=>?_)
               refine F_tk 0 inv ?_
               try simp only [tA,tB,tC,Act.put,tE,tF,tG]
               clear inv;intro inv
               refine F_tk 1 inv ?_
               try simp only [tA,tB,tC,Act.put,tE,tF,tG]
               clear inv;intro inv
               refine F_tk 2 inv ?_
               try simp only [tA,tB,tC,Act.put,tE,tF,tG]
               clear inv;intro inv
               refine F_tk 3 inv ?_
               try simp only [tA,tB,tC,Act.put,tE,tF,tG]
               clear inv;intro inv
               refine F_tk 4 inv ?_
               try simp only [tA,tB,tC,Act.put,tE,tF,tG]
               clear inv;intro inv
               refine F_tk 5 inv ?_
               try simp only [tA,tB,tC,Act.put,tE,tF,tG]
               clear inv;intro inv
               refine F_tk 6 inv ?_
               try simp only [tA,tB,tC,Act.put,tE,tF,tG]
               clear inv;intro inv
               refine F_tk 7 inv ?_
               try simp only [tA,tB,tC,Act.put,tE,tF,tG]
               clear inv;intro inv
               refine F_tk 8 inv ?_
               try simp only [tA,tB,tC,Act.put,tE,tF,tG]
               clear inv;intro inv
               refine F_tk 9 inv ?_
               try simp only [tA,tB,tC,Act.put,tE,tF,tG]
               clear inv;intro inv
               refine F_tk 10 inv ?_
               try simp only [tA,tB,tC,Act.put,tE,tF,tG]
               clear inv;intro inv
               refine F_tk 11 inv ?_
               try simp only [tA,tB,tC,Act.put,tE,tF,tG]
               clear inv;intro inv
               refine F_tk 12 inv ?_
               try simp only [tA,tB,tC,Act.put,tE,tF,tG]
               clear inv;intro inv
               refine F_tk 13 inv ?_
               try simp only [tA,tB,tC,Act.put,tE,tF,tG]
               clear inv;intro inv
               refine F_tk 14 inv ?_
               try simp only [tA,tB,tC,Act.put,tE,tF,tG]
               clear inv;intro inv
               refine F_tk 15 inv ?_
               try simp only [tA,tB,tC,Act.put,tE,tF,tG]
               clear inv;intro inv
               refine F_tk 16 inv ?_
               try simp only [tA,tB,tC,Act.put,tE,tF,tG]
               clear inv;intro inv
               refine F_tk 17 inv ?_
               try simp only [tA,tB,tC,Act.put,tE,tF,tG]
               clear inv;intro inv
               refine F_l1 18 ?_;intro K hK
               go_simp
               refine hK _ _ ?_
               clear hK K inv hS
               have hbk2:=(HBK.out.set_ 2 (.int .i64 ((min 1000000 (m+C1):Nat):Int))).drew
               have hbe2:=(HBE.out.setCell (p:=⟨wq.heap.size,2,none⟩) (Nat.le_refl _) (.int .i64 ((min 1000000 (m+C1):Nat):Int))).drew
               have HB2:=Hd_ hbk2
               have HE2:=Hd_ hbe2
               have hmi:(min 1000000 ((m:Int)+(C1:Int)))=((min 1000000 (m+C1):Nat):Int):=by omega
               have hmi2:(if (m:Int)+(C1:Int) < 1000000 then (m:Int)+(C1:Int) else 1000000)=((min 1000000 (m+C1):Nat):Int):=by split <;> omega
               clear hbk2 hbe2 c2 h1 c4 t0 r2 f2 l8 f2w l8w c2d qw qm hq0 hq1 hq2
               first | rw [hmi] | rw [hmi2] | skip
               clear hmi hmi2
               go_wp2_with fail
               go_roundw
               case rel=>exact ⟨k+1,by omega,by go_num,by rw [HN.out];simpa using HB2.out,HE2.out⟩
               case measure=>simp [intOf];omega
             · obtain rfl:k=TT.length:=by omega
               rw [List.take_length,HFC.out] at hbk
               have hcf:=layC_le g a y k0 d q i
               obtain ⟨CF,hCF⟩:∃ CF,CF=layC g a y k0 d q i:=⟨_,rfl⟩
               rw [<- hCF] at hbk hcf
               have d0d:=kcell hbel.drew d0
               have d0:=kcell hbel d0
               have d1d:=kcell hbel.drew d1
               have d1:=kcell hbel d1
               have d2d:=kcell hbel.drew d2
               have d2:=kcell hbel d2
               have d3d:=kcell hbel.drew d3
               have d3:=kcell hbel d3
               have d4d:=kcell hbel.drew d4
               have d4:=kcell hbel d4
               have h0:=kcell hbel h0
               have hlq:=HDN.out.lay q hqd
               have hdn2:=HDN.out.below hbel
               have hrw2:=(hdn2.lay q hqd).row
               have f0:=World.ownsRow.frozenAt hrw2 (i * 5)
               have f1:=World.ownsRow.frozenAt hrw2 (i * 5+1)
               have f2:=World.ownsRow.frozenAt hrw2 (i * 5+2)
               have f3:=World.ownsRow.frozenAt hrw2 (i * 5+3)
               have f4:=World.ownsRow.frozenAt hrw2 (i * 5+4)
               have lgq:=(hdn2.lay q hqd).lt
               have hrw3:=((HDN.out.below hbel).lay q hqd).row
               have f0w:=World.ownsRow.frozenAt hrw3 (i * 5)
               have f1w:=World.ownsRow.frozenAt hrw3 (i * 5+1)
               have f2w:=World.ownsRow.frozenAt hrw3 (i * 5+2)
               have f3w:=World.ownsRow.frozenAt hrw3 (i * 5+3)
               have f4w:=World.ownsRow.frozenAt hrw3 (i * 5+4)
               have lgqw:=((HDN.out.below hbel).lay q hqd).lt
               have hput:=hdn2.put (m:=CF) (z:=⟨x',s',CF,.slice As ns cs,.slice At TT.length ct⟩) hqd HK.out rfl rfl rfl (by
                rw [<- HTT.out]
                exact ⟨(HSV.out.below hbel (Nat.le_refl _)).mono (Nat.le_refl _) hbel.size,(HTV.out.below hbel (Nat.le_refl _)).mono (Nat.le_refl _) hbel.size⟩)
               have hput2:=(hput.below ((Below.refl (put5 wr (G q) (i * 5) ⟨x',s',CF,.slice As ns cs,.slice At TT.length ct⟩).heap.size _).drew)).congr (C':=cSt' g a y k0 d q (i+1)) (fun e j he hj=>by
                by_cases h:e=q/\j=i
                · rw [if_pos h,cSt',if_pos (.inr ⟨h.1,by omega⟩),h.1,h.2,hCF]
                · rw [if_neg h,cSt',cSt']
                  by_cases h2:q < e ∨ (e=q/\j < i)
                  · rw [if_pos h2,if_pos (by omega)]
                  · rw [if_neg h2,if_neg (by omega)])
               have hbl2:=((HBX.out.trans (hbel.mono hszi)).trans ((put5_only wr (G q) (i * 5) ⟨x',s',CF,.slice As ns cs,.slice At TT.length ct⟩).below (B:=W0.heap.size) (HDN.out.low q hqd) (Nat.le_trans hszi hbel.size))).drew
               have cc0:wr.cell? ⟨wq.heap.size,0,none⟩=some (.int .i64 (x':Int)):=hbk.cell 0
               have cc1:wr.cell? ⟨wq.heap.size,1,none⟩=some (.int .i64 (s':Int)):=hbk.cell 1
               have cc2:wr.cell? ⟨wq.heap.size,2,none⟩=some (.int .i64 (CF:Int)):=hbk.cell 2
               have cc3:wr.cell? ⟨wq.heap.size,3,none⟩=some (.slice As ns cs):=hbk.cell 3
               have cc4:wr.cell? ⟨wq.heap.size,4,none⟩=some (.slice At TT.length ct):=hbk.cell 4
               have HPUT:=Hd_ hput2
               have HBL2:=Hd_ hbl2
               clear hlq hdn2 hrw2 hrw3 hput hput2 hbl2 hbk hbel hCF
               go_upto_region 21 with fail
               refine F_start 7 (fun w'=>w'.cell? ⟨go,q,none⟩=some (.slice (some ⟨G q,0,none⟩) (layN g a k0 q).length (Kc q))/\w'.cell? ⟨wq.heap.size,0,none⟩=some (.int .i64 (x':Int))/\w'.cell? ⟨wq.heap.size,1,none⟩=some (.int .i64 (s':Int))/\w'.cell? ⟨wq.heap.size,2,none⟩=some (.int .i64 (CF:Int))/\w'.cell? ⟨wq.heap.size,3,none⟩=some (.slice As ns cs)/\w'.cell? ⟨wq.heap.size,4,none⟩=some (.slice At TT.length ct)) (by kernel_rfl) (by exact ⟨h0,cc0,cc1,cc2,cc3,cc4⟩) (fun hS inv=>?_)
               refine F_tk 0 inv ?_
               try simp only [tA,tB,tC,Act.put,tE,tF,tG]
               clear inv;intro inv
               refine F_tk 1 inv ?_
               try simp only [tA,tB,tC,Act.put,tE,tF,tG]
               clear inv;intro inv
               refine F_tk 2 inv ?_
               try simp only [tA,tB,tC,Act.put,tE,tF,tG]
               clear inv;intro inv
               refine F_tk 3 inv ?_
               try simp only [tA,tB,tC,Act.put,tE,tF,tG]
               clear inv;intro inv
               refine F_tk 4 inv ?_
               try simp only [tA,tB,tC,Act.put,tE,tF,tG]
               clear inv;intro inv
               refine F_tk 5 inv ?_
               try simp only [tA,tB,tC,Act.put,tE,tF,tG]
               clear inv;intro inv
               refine F_tk 6 inv ?_
               try simp only [tA,tB,tC,Act.put,tE,tF,tG]
               clear inv;intro inv
               refine F_l1 7 ?_;intro K hK
               go_simp
               refine hK _ _ ?_
               clear hK K inv hS
               rw [show (((((wr.setCell ⟨G q,i * 5,none⟩ (.int .i64 (x':Int))).setCell ⟨G q,i * 5+1,none⟩ (.int .i64 (s':Int))).setCell ⟨G q,i * 5+2,none⟩ (.int .i64 (CF:Int))).setCell ⟨G q,i * 5+3,none⟩ (.slice As ns cs)).setCell ⟨G q,i * 5+4,none⟩ (.slice At TT.length ct)).drew=(put5 wr (G q) (i * 5) ⟨x',s',CF,.slice As ns cs,.slice At TT.length ct⟩).drew from rfl]
               go_wp2_with fail
               go_roundw
               case rel=>exact ⟨i+1,_,by omega,by go_num,HPUT.out,HBL2.out⟩
               case measure=>simp [intOf];omega
        · obtain rfl:i=(layN g a k0 q).length:=by omega
          have HOUT:=Hd_ (hdn.congr (C':=cOut g a y k0 d q) (fun e j he hj=>by
           rw [cSt',cOut]
           by_cases h:q<=e
           · rw [if_pos h,if_pos]
             rcases Nat.lt_or_ge q e with h' | h'
             · exact .inl h'
             · obtain rfl:e=q:=by omega
               exact .inr ⟨rfl,hj⟩
           · rw [if_neg h,if_neg (by omega)]))
          have HBX:=Hd_ hbel
          clear hdn hbel
          go_wp2_with fail
          go_roundw
          case rel=>exact ⟨q,Z,by omega,rfl,HOUT.out,HBX.out⟩
          case measure=>(have:=HQ.out;simp [intOf] <;> omega)
end Go.Proofs.YteaplabkemoenaaGreat
