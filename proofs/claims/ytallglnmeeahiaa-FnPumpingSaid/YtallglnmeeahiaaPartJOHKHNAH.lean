/- Parts of the proof, joined into one text: ImgJ, ImgL, LoopL. -/
import Derived.Test.YtallglnmeeahiaaPartJJKAEBEH
import Derived.Test.YtallglnmeeahiaaPartGEEOALPK
import Derived.Deep.DeepCutAuto
import Derived.Test.YtallglnmeeahiaaPartDANCJFAB
import Derived.Test.YtallglnmeeahiaaPartDHAIKELB
import Derived.Test.YtallglnmeeahiaaPartKHLNNBFN
import Derived.Test.YtallglnmeeahiaaPartOFPIKNKI
/- The program's images. -/
namespace Go.Proofs.Ytallglnmeeahiaa
set_option linter.unusedVariables false
set_option linter.unusedSimpArgs false
open Go.ChangeShapes Go.WideShapes Go.ChangeAt Go.RowKit Go.Maps
attribute [local go_sem] ext_cell ext_frozen ext_lt ext_lt1 ext_lt2 ext_lt3 ltn2 ltn3 ltn13 lts1 lts2 lts3
theorem ownsMap_block {H : Type} {P : Program} {k : TypeId} {R : Value → Option (DataW H × List MemPlace)} {w w' : World} {b n : Nat} {D : DataW H} (h : w.ownsMap P k R b n D) (hb : w'.heap[b]? = w.heap[b]?) : w'.ownsMap P k R b n D := by
  obtain ⟨es, clock, h1, h2⟩ := h
  exact ⟨es, clock, hb.trans h1, h2⟩
theorem Blk.pair {w : World} {g : Nat} {t : TypeId} {c0 c1 : Value} (h : Blk w g t #[c0, c1]) (d0 d1 : Value) : Blk ((w.setCell ⟨g, 0, none⟩ d0).setCell ⟨g, 1, none⟩ d1) g t #[d0, d1] := by
  have h2 := (h.set_ 0 d0).set_ 1 d1
  simpa using h2
theorem below_pair {B : Nat} {a w : World} (h : Below B a w) {g : Nat} (hg : B ≤ g) (d0 d1 : Value) : Below B a ((w.setCell ⟨g, 0, none⟩ d0).setCell ⟨g, 1, none⟩ d1) := (h.setCell (p := ⟨g, 0, none⟩) hg d0).setCell (p := ⟨g, 1, none⟩) hg d1
theorem drop_push {α : Type} {l : List α} {k : Nat} (h : k ≤ l.length) (x : α) : (l ++ [x]).drop k = l.drop k ++ [x] := List.drop_append_of_le_length h
theorem mvP_u {a : Au} {u : Int × Int} (h1 : u.1 < (a.accept.length : Int)) (h2 : u.2 < (a.accept.length : Int)) : True := trivial
theorem gBlock {w w' : World} {row : Option Nat} (hg : w.grownBy w' row) {b : Nat} (hb : b < w.heap.size) (hne : row ≠ some b) : w'.heap[b]? = w.heap[b]? := hg.block b hb (fun e => hne e.symm)
theorem litB_inj {H : Type} {a b : Bool} (h : (DataW.lit (.bool a) : DataW H) = .lit (.bool b)) : a = b := by
  injection h with h
  injection h
def cSa (z : Int × Int) : List Value := [.int .i64 z.1, .int .i64 z.2]
theorem cSa_one (z : Int × Int) : ∀ u ∈ cSa z, u.oneCell' = true := by
  intro u hu
  simp only [cSa, List.mem_cons, List.not_mem_nil, or_false] at hu
  rcases hu with rfl | rfl <;> rfl
theorem elSa : ElemOk Try.prog 102 101 (.agg #[.int .i64 0, .int .i64 0]) 2 16 := ⟨Try.underlying102, by kernel_rfl, rfl, by omega⟩
theorem mvP_bd {a : Au} (h : auOk a = true) (s : Int) (k : Nat) : -1 ≤ mvP a s k ∧ mvP a s k < (a.accept.length : Int) := by
  unfold mvP
  split
  · omega
  · have := mv_lt h s.toNat k; omega
/-- behind all rounds the list does not turn any more -/
theorem img_end {a : Au} (h : auOk a = true) {s : Int × Int} {k : Nat} (hk : (imgP (mvP a) 9 s k).length < k) : imgP (mvP a) 9 s k = imgP (mvP a) 9 s ((a.accept.length + 1) * a.accept.length + 1) := by
  have hall : ∀ j, (imgP (mvP a) 9 s j).length ≤ (a.accept.length + 1) * a.accept.length := fun j => good_len (imgP_good (mvP_bd h) 9 s j)
  have h1 := imgP_still hk
  have h2 := imgP_still (Nat.lt_succ_of_le (hall ((a.accept.length + 1) * a.accept.length + 1)))
  rcases Nat.le_total k ((a.accept.length + 1) * a.accept.length + 1) with hle | hle
  · obtain ⟨j, hj⟩ := Nat.exists_eq_add_of_le hle
    rw [hj, h1 j]
  · obtain ⟨j, hj⟩ := Nat.exists_eq_add_of_le hle
    rw [hj]
    exact h2 j
def imgEnd (a : Au) (p q : Int) : List (Int × Int) := imgP (mvP a) 9 (p, q) ((a.accept.length + 1) * a.accept.length + 1)
set_option maxHeartbeats 2000000 in
set_option maxRecDepth 100000 in
theorem images_any {H : Type} (v : Value) (a : Au) (p q : Int) (w : World) (hv : AuV 0 w.heap.size w v a) (hok : auOk a = true) (hp : -1 ≤ p ∧ p < (a.accept.length : Int)) (hq : 0 ≤ q ∧ q < (a.accept.length : Int)) :
    Calls Try.prog 40 #[v, .int .i64 p, .int .i64 q] w fun e w' => ∃ v', e = .returned v' ∧ Own w.heap.size w'.heap.size w' 3 cI 1 v' (ascL (outP q (imgEnd a p q))) ∧ Below w.heap.size w w' := by
  have hv0 := hv
  obtain ⟨A1, c1, A2, c2, rfl, hl1, hm1, hl2, hm2, -⟩ := hv.form hok
  have hb0 : Below w.heap.size w (w.alloc (.cells #[.int .i64 a.start, .slice A1 a.accept.length c1, .slice A2 a.accept.length c2] 27)) := (Below.refl _ _).alloc (Nat.le_refl _) _
  have HV := Lib.hid hv0
  have HOK := Lib.hid hok
  have HP := Lib.hid hp
  have HQ := Lib.hid hq
  clear hv hv0 hok hp hq
  have hmm := @run_makeMap Try.prog
  go_enter Try.func40, Try.ntmps40
  go_wp2_with (go_at_call 72; refine (together_any _ _ _ _ _ _ _).mono ?_; rintro e w1 ⟨rfl, rfl⟩)
  have HH := Lib.hid (show True from trivial)
  go_loopg [7, 10] 160 (fun gk oo ll wr => ∃ (k : Nat) (D : DataW H) (R : List (Int × Int)), gk + k = 160 ∧ R = imgP (mvP a) 9 (p, q) k ∧ k ≤ R.length + 1 ∧
      QRow wr (w.heap.size + 5) 101 2 ll (((p, q) :: R).drop k).length ((((p, q) :: R).drop k).flatMap cSa) ∧
      wr.ownsRow (w.heap.size + 1) 3 1 oo (outP q R).length ((outP q R).flatMap cI) ∧
      (∀ g, oo.ownBlock = some g → g = w.heap.size + 1 ∨ w.heap.size + 6 ≤ g) ∧ (∀ g, ll.ownBlock = some g → oo.ownBlock ≠ some g) ∧
      wr.ownsMap Try.prog 101 (plainElem Try.prog 4) (w.heap.size + 4) R.length D ∧ SeenD D R ∧
      Blk wr (w.heap.size + 2) 27 #[.int .i64 a.start, .slice A1 a.accept.length c1, .slice A2 a.accept.length c2] ∧
      Blk wr (w.heap.size + 3) 27 #[.int .i64 a.start, .slice A1 a.accept.length c1, .slice A2 a.accept.length c2] ∧
      Below w.heap.size w wr ∧ w.heap.size + 6 ≤ wr.heap.size)
  case atStart =>
    refine ⟨0, .map [], [], rfl, rfl, by simp, ?_, ?_, ?_, ?_, ?_, SeenD.empty, ?_, ?_, ?_, ?_⟩
    · have hz := QRow.of_own (World.ownsRow_lit (base := w.heap.size + 5) (e := 101) (size := 2) (((((w.alloc (.cells #[.int .i64 a.start, .slice A1 a.accept.length c1, .slice A2 a.accept.length c2] 27)).alloc (.cells #[] 3)).alloc (.cells #[.int .i64 a.start, .slice A1 a.accept.length c1, .slice A2 a.accept.length c2] 27)).alloc (.cells #[.int .i64 a.start, .slice A1 a.accept.length c1, .slice A2 a.accept.length c2] 27)).alloc (.map #[] 0)) #[.int .i64 p, .int .i64 q] 1 (by simp <;> omega) (by decide) rfl)
      simpa [cSa] using hz
    · have hz := ((((World.ownsRow_lit (base := w.heap.size + 1) (e := 3) (size := 1) (w.alloc (.cells #[.int .i64 a.start, .slice A1 a.accept.length c1, .slice A2 a.accept.length c2] 27)) #[] 0 (by simp) (by decide) rfl).alloc (.cells #[.int .i64 a.start, .slice A1 a.accept.length c1, .slice A2 a.accept.length c2] 27)).alloc (.cells #[.int .i64 a.start, .slice A1 a.accept.length c1, .slice A2 a.accept.length c2] 27)).alloc (.map #[] 0)).alloc (.cells #[.int .i64 p, .int .i64 q] 101)
      simpa [outP] using hz
    · intro g hg; simp [Value.ownBlock] at hg; omega
    · intro g hg; simp [Value.ownBlock] at hg ⊢; omega
    · have hm := (World.ownsMap_made (H := H) ((((w.alloc (.cells #[.int .i64 a.start, .slice A1 a.accept.length c1, .slice A2 a.accept.length c2] 27)).alloc (.cells #[] 3)).alloc (.cells #[.int .i64 a.start, .slice A1 a.accept.length c1, .slice A2 a.accept.length c2] 27)).alloc (.cells #[.int .i64 a.start, .slice A1 a.accept.length c1, .slice A2 a.accept.length c2] 27)) Try.prog 101 (plainElem Try.prog 4)).alloc (.cells #[.int .i64 p, .int .i64 q] 101)
      simpa using hm
    · exact (((Blk.new _ _ _ _ (by simp)).alloc _).alloc _).alloc _
    · exact ((Blk.new _ _ _ _ (by simp)).alloc _).alloc _
    · repeat (first | exact Below.refl _ _ | refine Below.alloc ?_ (by simp <;> omega) _)
    · simp
  case round =>
    obtain ⟨k, D, R, hgk, hR, hk, hq, ho, hg1, hg2, hm, hs, hb2, hb3, hbel, hsz⟩ := hrel
    have hgood := imgP_good (mvP_bd HOK.out) 9 (p, q) k
    rw [← hR] at hgood
    have hlen := good_len hgood
    have hn12 := (auOk_iff.1 HOK.out).1.2
    have hlen2 : (a.accept.length + 1) * a.accept.length ≤ 13 * 12 := Nat.mul_le_mul (by omega) hn12
    rcases hL : ((p, q) :: R).drop k with _ | ⟨u, L⟩
    · rw [hL] at hq
      have hkl : R.length + 1 ≤ k := by simpa using List.drop_eq_nil_iff.1 hL
      have hfin : R = imgEnd a p q := by rw [imgEnd, ← img_end HOK.out (k := k) (by rw [← hR]; omega), hR]
      obtain ⟨A4, c4, rfl, hc4, hc5⟩ := hq.shape
      have hol : (outP q R).length ≤ R.length := by unfold outP; rw [List.length_map]; exact List.length_filter_le _ _
      have hown := Own.of_row (xs := outP q R) ho rfl rfl
      have has := ascending_any _ _ wr ((hown.sl cI_len).all (Nat.le_refl _)) (by omega)
      rw [hfin] at has
      have HAS := Lib.hid has
      have HBW := Lib.hid hbel
      clear has hk hq ho hg1 hg2 hm hs hb2 hb3 hgood hlen hL hkl hfin hR hown
      simp only [List.length_nil]
      go_wp2_with fail
      refine HAS.out.mono ?_
      rintro e w2 ⟨v2, rfl, ho2, hb3⟩
      have HO := Lib.hid (ho2.mono HBW.out.size (Nat.le_refl _))
      obtain ⟨A9, n9, c9, rfl⟩ := ho2.shape
      clear ho2
      have HB := Lib.hid (HBW.out.trans (hb3.mono HBW.out.size))
      clear hb3
      go_wp2_with fail
      go_ret
      exact ⟨_, rfl, HO.out, HB.out⟩
    · rw [hL] at hq
      have hu : ((p, q) :: R)[k]? = some u := by
        have := congrArg List.head? hL
        simpa using this
      obtain ⟨A4, c4, rfl, hc4, hc5⟩ := hq.shape
      have hmx : c4 ≤ 9223372036854775807 := by simpa [maxLen] using hc5
      have HQR := Lib.hid hq
      have HO := Lib.hid ho
      have HG := Lib.hid (And.intro hg1 hg2)
      have HM := Lib.hid (And.intro hm hs)
      have HB := Lib.hid (And.intro hb2 hb3)
      have HR := Lib.hid (And.intro hR (And.intro hk (And.intro hu hL)))
      have HBW := Lib.hid (And.intro hbel hsz)
      clear hq ho hg1 hg2 hm hs hb2 hb3 hR hk hu hL hbel hsz hgood
      simp only [List.length_cons]
      go_wp2_with fail
      go_loopw [7, 10, 11] (fun oo ll jj wi => ∃ (j : Nat) (D' : DataW H) (R' : List (Int × Int)), j ≤ 9 ∧ jj = .int .i64 (j : Int) ∧ R' = rowP (mvP a) u R j ∧
          QRow wi (w.heap.size + 5) 101 2 ll (((p, q) :: R').drop k).length ((((p, q) :: R').drop k).flatMap cSa) ∧
          wi.ownsRow (w.heap.size + 1) 3 1 oo (outP q R').length ((outP q R').flatMap cI) ∧
          (∀ g, oo.ownBlock = some g → g = w.heap.size + 1 ∨ w.heap.size + 6 ≤ g) ∧ (∀ g, ll.ownBlock = some g → oo.ownBlock ≠ some g) ∧
          wi.ownsMap Try.prog 101 (plainElem Try.prog 4) (w.heap.size + 4) R'.length D' ∧ SeenD D' R' ∧
          Blk wi (w.heap.size + 2) 27 #[.int .i64 a.start, .slice A1 a.accept.length c1, .slice A2 a.accept.length c2] ∧
          Blk wi (w.heap.size + 3) 27 #[.int .i64 a.start, .slice A1 a.accept.length c1, .slice A2 a.accept.length c2] ∧
          Below w.heap.size w wi ∧ w.heap.size + 6 ≤ wi.heap.size) (fun _ _ jj _ => 9 - (intOf jj).toNat)
      case atStart => exact ⟨0, D, R, by omega, rfl, rfl, by rw [HR.out.2.2.2]; exact HQR.out, HO.out, HG.out.1, HG.out.2, HM.out.1, HM.out.2, HB.out.1, HB.out.2, HBW.out.1, HBW.out.2⟩
      case round =>
        obtain ⟨j, D', R', hj, rfl, hR', hq, ho, hg1, hg2, hm, hs, hb2, hb3, hbel, hsz⟩ := hrel
        by_cases hlt : j < 9
        · obtain ⟨T, hT⟩ : R <+: R' := by rw [hR']; exact rowP_pre _ _ _ _
          have hgd : R'.Nodup ∧ ∀ z ∈ R', -1 ≤ z.1 ∧ z.1 < (a.accept.length : Int) ∧ 0 ≤ z.2 ∧ z.2 < (a.accept.length : Int) := by
            rw [hR', HR.out.1]; exact rowP_good (mvP_bd HOK.out) (imgP_good (mvP_bd HOK.out) 9 (p, q) k) j
          have hl' := good_len hgd
          have hki : k < ((p, q) :: R').length := by
            have := (List.getElem?_eq_some_iff.1 HR.out.2.2.1).1
            rw [← hT]; simp at this ⊢; omega
          have hku : ((p, q) :: R')[k]? = some u := by
            rw [← hT, ← List.cons_append, List.getElem?_append_left (List.getElem?_eq_some_iff.1 HR.out.2.2.1).1]
            exact HR.out.2.2.1
          have hum := List.mem_of_getElem? hku
          have hu12 : u.1 < (a.accept.length : Int) ∧ u.2 < (a.accept.length : Int) := by
            rcases List.mem_cons.1 hum with e | e
            · rw [e]; exact ⟨HP.out.2, HQ.out.2⟩
            · have := hgd.2 u e; exact ⟨this.2.1, this.2.2.2⟩
          have hdr : ((p, q) :: R').drop k = u :: ((p, q) :: R').drop (k + 1) := by
            rw [List.drop_eq_getElem_cons hki]
            congr 1
            exact (List.getElem?_eq_some_iff.1 hku).2
          have hl0 : 0 < (((p, q) :: R').drop k).length := by rw [hdr]; simp
          have hlm : (((p, q) :: R').drop k).length ≤ 160 := by rw [List.length_drop, List.length_cons]; omega
          obtain ⟨gq, oq, cq, rfl, hgq, hgql, hqc⟩ := hq.cell hl0
          have d0 := hqc 0 (.int .i64 u.1) (by rw [hdr]; rfl)
          have d1 := hqc 1 (.int .i64 u.2) (by rw [hdr]; rfl)
          rw [Nat.add_zero] at d0
          obtain ⟨Aq, cq', eq1, hcq1, hcq2⟩ := hq.shape
          have eq2 : cq' = cq := by injection eq1 with _ _ e3; exact e3.symm
          subst eq2
          clear eq1
          have HT1 := Lib.hid (fun (W : World) (hW : Below wr.heap.size wr W) => together1_any (w.heap.size + 2) (w.heap.size + 3) A1 A2 c1 c2 a u.1 u.2 j W HOK.out (HV.out.keep (below_trans hbel (hW))) (Nat.lt_of_lt_of_le hb2.lt hW.size) (Nat.lt_of_lt_of_le hb3.lt hW.size) ((hb2.keep hW).cell 0) ((hb2.keep hW).cell 1) ((hb2.keep hW).cell 2) ((hb3.keep hW).cell 0) ((hb3.keep hW).cell 1) ((hb3.keep hW).cell 2) hu12.1 hu12.2 (by omega))
          have HMET := Lib.hid (show rowP (mvP a) u R (j + 1) = metP (mvP a) u R' j by rw [hR']; rfl)
          have HGB := Lib.hid (mvP_bd HOK.out)
          have HNX := Lib.hid (show nxP (mvP a) u j = (mvP a u.1 j, mvP a u.2 j) from rfl)
          have hb1 := mvP_bd HOK.out u.1 j
          have hb2' := mvP_bd HOK.out u.2 j
          obtain ⟨t1, ht1⟩ : ∃ t1, t1 = mvP a u.1 j := ⟨_, rfl⟩
          obtain ⟨t2, ht2⟩ : ∃ t2, t2 = mvP a u.2 j := ⟨_, rfl⟩
          rw [← ht1, ← ht2] at HT1 HNX
          rw [← ht1] at hb1
          rw [← ht2] at hb2'
          have hn12' := hn12
          have HQR' := Lib.hid hq
          have HO' := Lib.hid ho
          have HG' := Lib.hid (And.intro hg1 hg2)
          have HM' := Lib.hid (And.intro hm hs)
          have HB' := Lib.hid (And.intro hb2 hb3)
          have HBL := Lib.hid hbel
          have HDR := Lib.hid (And.intro hki hl')
          obtain ⟨u1, u2⟩ := u
          simp only at d0 d1 HT1 HNX
          obtain ⟨LQ, hLQ⟩ : ∃ LQ, LQ = (((p, q) :: R').drop k).length := ⟨_, rfl⟩
          rw [← hLQ] at HQR' hl0 hlm hcq1 ⊢
          have HLQ := Lib.hid hLQ
          have hjj : (j : Int) < 9 := by omega
          clear hq ho hg1 hg2 hm hs hb2 hb3 hqc hT hR' hgd hl' hki hku hum hdr hu12 ht1 ht2 hLQ hn12' hbel
          unfold maxLen at hcq2
          go_wp2_with fail
          refine (HT1.out _ (Below.refl _ _)).mono ?_
          rintro en wA ⟨rfl, hbA⟩
          have hbz2 : Blk (wA.alloc (.cells #[.int .i64 t1, .int .i64 t2] 101)) wA.heap.size 101 #[.int .i64 t1, .int .i64 t2] := Blk.new _ _ _ _ rfl
          have hbx := hbA.alloc hbA.size (.cells #[.int .i64 t1, .int .i64 t2] 101)
          have hsA := hbA.size
          obtain ⟨eb, heb⟩ : ∃ eb, eb = wA.heap.size := ⟨_, rfl⟩
          obtain ⟨wx, hwx⟩ : ∃ wx, wx = wA.alloc (.cells #[.int .i64 t1, .int .i64 t2] 101) := ⟨_, rfl⟩
          rw [← heb, ← hwx] at hbz2
          rw [← hwx] at hbx
          have hebw : wr.heap.size ≤ eb := by omega
          go_upto_region 11 with fail
          rw [← heb, ← hwx]
          have e0 : wx.cell? ⟨eb, 0, none⟩ = some (.int .i64 t1) := hbz2.cell 0
          have e1 : wx.cell? ⟨eb, 1, none⟩ = some (.int .i64 t2) := hbz2.cell 1
          have leb := hbz2.lt
          clear hwx heb hbA hsA HT1 d0 d1
          have hM5 := ownsMap_block HM'.out.1 (hbx.block _ HM'.out.1.lt)
          have hbel7 := below_trans HBL.out hbx
          have hsx := hbx.size
          by_cases hneg : t2 < 0
          · have HE := Lib.hid (show R' = rowP (mvP a) (u1, u2) R (j + 1) by rw [HMET.out, metP, HNX.out, if_pos (.inl hneg)])
            have HM5 := Lib.hid hM5
            clear HMET HNX hM5
            go_wp2_with fail
            go_roundw
            case rel => exact ⟨j + 1, D', R', by omega, by go_num, HE.out, by rw [← HLQ.out]; exact HQR'.out.below hbx (Nat.le_refl _), ownsRow_below HO'.out hbx (Nat.le_refl _), HG'.out.1, HG'.out.2, HM5.out, HM'.out.2, HB'.out.1.keep hbx, HB'.out.2.keep hbx, hbel7, by omega⟩
            case measure => simp [intOf]; omega
          · have HKEY := Lib.hid (keyStates t1 t2 (wf_i64 (by omega) (by omega)) (wf_i64 (by omega) (by omega)))
            have HLK := Lib.hid (HM'.out.2.2 t1 t2 (wf_i64 (by omega) (by omega)) (wf_i64 (by omega) (by omega)))
            have HM5 := Lib.hid hM5
            clear hM5
            by_cases hmem : (t1, t2) ∈ R'
            · have HE := Lib.hid (show R' = rowP (mvP a) (u1, u2) R (j + 1) by rw [HMET.out, metP, HNX.out, if_pos (.inr hmem)])
              rw [show decide ((t1, t2) ∈ R') = true from decide_eq_true hmem] at HLK
              have hrun : (Instr.lookup 99 (.map (some (w.heap.size + 1 + 1 + 1 + 1))) (.agg #[.int .i64 t1, .int .i64 t2]) false).run Try.prog wx = .ok (.bool true) wx := run_lookup_bool keyedStates Try.underlying99 Try.underlying4 (Try.zeroValue4 _) HM5.out HKEY.out HLK.out
              clear HMET HNX hmem
              go_wp2_with fail
              clear hrun
              go_roundw
              case rel => exact ⟨j + 1, D', R', by omega, by go_num, HE.out, by rw [← HLQ.out]; exact HQR'.out.below hbx (Nat.le_refl _), ownsRow_below HO'.out hbx (Nat.le_refl _), HG'.out.1, HG'.out.2, HM5.out, HM'.out.2, HB'.out.1.keep hbx, HB'.out.2.keep hbx, hbel7, by omega⟩
              case measure => simp [intOf]; omega
            · have hno : ¬ ((nxP (mvP a) (u1, u2) j).2 < 0 ∨ nxP (mvP a) (u1, u2) j ∈ R') := by rw [HNX.out]; exact fun h => h.elim hneg hmem
              have HRN := Lib.hid (show rowP (mvP a) (u1, u2) R (j + 1) = R' ++ [(t1, t2)] by rw [HMET.out, metP, if_neg hno, HNX.out])
              have HON := Lib.hid (show outP q (R' ++ [(t1, t2)]) = if t2 = q then outP q R' ++ [t1] else outP q R' by have := outP_metP_new (q := q) hno; rw [metP, if_neg hno, HNX.out] at this; exact this)
              rw [show decide ((t1, t2) ∈ R') = false from decide_eq_false hmem] at HLK
              have hrun : (Instr.lookup 99 (.map (some (w.heap.size + 1 + 1 + 1 + 1))) (.agg #[.int .i64 t1, .int .i64 t2]) false).run Try.prog wx = .ok (.bool false) wx := run_lookup_bool keyedStates Try.underlying99 Try.underlying4 (Try.zeroValue4 _) HM5.out HKEY.out HLK.out
              have HSD := Lib.hid (HM'.out.2.put (y := t1) (t := t2) (wf_i64 (by omega) (by omega)) (wf_i64 (by omega) (by omega)))
              have HLN := Lib.hid (show R'.length < maxLen by unfold maxLen; have := HDR.out.2; omega)
              clear HMET HNX hmem hno
              go_upto_region 13 with (first | (refine wpList_mapUpdate_own _ rfl _ _ _ _ rfl _ _ keyedStates Try.underlying99 (plainElem Try.prog 4) _ _ _ (by rfl) HM5.out HLN.out _ _ _ (by rfl) (by rfl) HKEY.out _ _ (plainElem_bool Try.underlying4 true) ?_; intro w5 hown5 hgr5))
              have hs5 := hgr5.size
              have hs5' : w.heap.size + 6 ≤ w5.heap.size := by omega
              have g5 : ∀ b, b < wx.heap.size → b ≠ w.heap.size + 4 → w5.heap[b]? = wx.heap[b]? := fun b hb hne => gBlock hgr5 hb (fun e => hne (by injection e with e; omega))
              have e0 := hgr5.cell e0 (by simp; omega)
              have e1 := hgr5.cell e1 (by simp; omega)
              have hbl5 : Below w.heap.size wr w5 := (hbx.mono (by omega)).grown hgr5 (by omega) (fun g hg => by injection hg with hg; omega)
              obtain ⟨X, hX⟩ : ∃ X, X = ((p, q) :: R').drop k := ⟨_, rfl⟩
              have hq5 : QRow w5 (w.heap.size + 5) 101 2 (.slice (some ⟨gq, oq, none⟩) LQ cq') X.length (X.flatMap cSa) := by
                rw [hX, ← HLQ.out]
                exact (HQR'.out.below hbx (Nat.le_refl _)).block (fun g hg => g5 g (Nat.lt_of_lt_of_le (HQR'.out.lt g hg).2 hsx) (by have := (HQR'.out.lt g hg).1; omega))
              have hxl : X.length ≤ 160 := by rw [hX, ← HLQ.out]; exact hlm
              have HX := Lib.hid hX
              have HQ5 := Lib.hid hq5
              have HOW5 := Lib.hid hown5
              have leb5 := Nat.lt_of_lt_of_le leb hs5
              have G5 := Lib.hid g5
              have HBL5 := Lib.hid hbl5
              clear hX hq5 hown5 hrun g5 hgr5 hbl5 HM5 HLN
              go_upto_region 14 with (at_builtin; (refine wpList_appendQ1 cSa elSa rfl _ _ rfl (w.heap.size + 5) _ X (t1, t2) _ 1 _ (by rfl) HQ5.out (by rfl) rfl rfl rfl (cSa_one _) (by omega) (by omega) (by omega) ?_); intro v6 w6 hq6 hb6 hat6 hgr6)
              have hs6 : w5.heap.size ≤ w6.heap.size := by have := hgr6.size; simp at this; omega
              have g6 : ∀ b, b < w5.heap.size → b ≠ gq → w6.heap[b]? = w5.heap[b]? := fun b hb hne => (gBlock hgr6 (by simp; omega) (by simp [Value.ownBlock]; omega)).trans (Below.heap_alloc _ _ _ hb)
              have e0 : w6.cell? ⟨eb, 0, none⟩ = some (.int .i64 t1) := (World.cell?_of_block (a := ⟨eb, 0, none⟩) (g6 eb leb5 (by omega))).trans e0
              have e1 : w6.cell? ⟨eb, 1, none⟩ = some (.int .i64 t2) := (World.cell?_of_block (a := ⟨eb, 1, none⟩) (g6 eb leb5 (by omega))).trans e1
              have hbl6 : Below w.heap.size wr w6 := (HBL5.out.alloc (by omega) _).grown hgr6 (by simp; omega) (fun g hg => by simp [Value.ownBlock] at hg; omega)
              have leb6 := Nat.lt_of_lt_of_le leb5 hs6
              have hgap : ∀ b, b < wr.heap.size → b ≠ w.heap.size + 4 → b ≠ gq → w6.heap[b]? = wr.heap[b]? := fun b h1 h2 h3 => (g6 b (by omega) h3).trans ((G5.out b (by omega) h2).trans (hbx.block b h1))
              have hoo : ∀ g, u7.ownBlock = some g → g < wr.heap.size ∧ g ≠ w.heap.size + 4 ∧ g ≠ gq ∧ g ≠ w.heap.size + 2 ∧ g ≠ w.heap.size + 3 := fun g hg => by
                have h1 := HO'.out.lt g hg
                have h2 := HG'.out.1 g hg
                exact ⟨h1.2, by omega, fun e => HG'.out.2 gq rfl (by rw [hg, e]), by omega, by omega⟩
              have ho6 := ownsRow_block HO'.out (fun g hg => by have h1 := hoo g hg; exact hgap g h1.1 h1.2.1 h1.2.2.1)
              have hm6 := ownsMap_block HOW5.out (g6 (w.heap.size + 4) (by omega) (by omega))
              have h26 : Blk w6 (w.heap.size + 2) _ _ := (hgap (w.heap.size + 2) (by omega) (by omega) (by omega)).trans HB'.out.1
              have h36 : Blk w6 (w.heap.size + 3) _ _ := (hgap (w.heap.size + 3) (by omega) (by omega) (by omega)).trans HB'.out.2
              have hqe : ((p, q) :: (R' ++ [(t1, t2)])).drop k = X ++ [(t1, t2)] := by rw [HX.out, ← drop_push (Nat.le_of_lt HDR.out.1)]; rfl
              have hol : (outP q R').length ≤ R'.length := by unfold outP; rw [List.length_map]; exact List.length_filter_le _ _
              have hrl := HDR.out.2
              have hat6' : ∀ g, v6.ownBlock = some g → g = gq ∨ w5.heap.size ≤ g := fun g hg => by
                rcases hat6 with h | ⟨g', h, h'⟩
                · rw [hg] at h; simp [Value.ownBlock] at h; exact .inl h
                · rw [hg] at h; injection h with h; exact .inr (by omega)
              have HQ6 := Lib.hid hq6
              have HO6 := Lib.hid ho6
              have HM6 := Lib.hid hm6
              have H26 := Lib.hid (And.intro h26 h36)
              have HBL6 := Lib.hid hbl6
              have HQE := Lib.hid hqe
              have HOO := Lib.hid hoo
              have HAT6 := Lib.hid hat6'
              have holl : (outP q R').length ≤ 160 := by omega
              have hs66 : w.heap.size + 6 ≤ w6.heap.size := by omega
              clear hq6 ho6 hm6 h26 h36 hbl6 hqe hoo hat6 hat6' hgr6 g6 hgap hb6 hol hrl
              by_cases hq2 : t2 = q
              · have hk1 : (t2 == q) = true := by simp [hq2]
                have hk2 : decide (t2 = q) = true := by simp [hq2]
                have HNO := Lib.hid (HON.out.trans (if_pos hq2))
                clear HON hq2
                go_wp2_with (at_builtin; (refine wpList_append1 cI elInt rfl _ _ rfl (w.heap.size + 1) _ (outP q R') t1 _ 1 _ (by rfl) HO6.out (by rfl) rfl rfl rfl (cI_one _) (by omega) (by omega) (by omega) ?_); intro v8 w8 hrow8 hb8 hat8 hgr8)
                have hs8 : w6.heap.size ≤ w8.heap.size := by have := hgr8.size; simp at this; omega
                have g8 : ∀ b, b < w6.heap.size → u7.ownBlock ≠ some b → w8.heap[b]? = w6.heap[b]? := fun b hb hne => (gBlock hgr8 (by simp; omega) hne).trans (Below.heap_alloc _ _ _ hb)
                have hbl8 : Below w.heap.size wr w8 := (HBL6.out.alloc (by omega) _).grown hgr8 (by simp; omega) (fun g hg => by have := (HO'.out.lt g hg).1; omega)
                have hat8' : ∀ g, v8.ownBlock = some g → u7.ownBlock = some g ∨ w6.heap.size ≤ g := fun g hg => by
                  rcases hat8 with h | ⟨g', h, h'⟩
                  · exact .inl (h.symm.trans hg)
                  · rw [hg] at h; injection h with h; exact .inr (by omega)
                have f2 : ∀ b, w.heap.size + 2 ≤ b → b ≤ w.heap.size + 4 → w8.heap[b]? = w6.heap[b]? := fun b h1 h2 => g8 b (by omega) (fun e => by have := HOO.out b e; omega)
                go_roundw
                case rel =>
                  refine ⟨j + 1, _, R' ++ [(t1, t2)], by omega, by go_num, HRN.out.symm, ?_, ?_, ?_, ?_, ?_, HSD.out, ?_, ?_, HBL.out.trans hbl8, by omega⟩
                  · rw [HQE.out]
                    exact HQ6.out.block (fun g hg => g8 g (HQ6.out.lt g hg).2 (fun e => by
                      have h1 := HOO.out g e
                      rcases HAT6.out g hg with h | h <;> omega))
                  · rw [HNO.out]; exact hrow8
                  · intro g hg
                    rcases hat8' g hg with h | h
                    · exact HG'.out.1 g h
                    · exact .inr (by omega)
                  · intro g hg e
                    have hgl := (HQ6.out.lt g hg).2
                    rcases hat8' g e with h | h
                    · have h1 := HOO.out g h
                      rcases HAT6.out g hg with h2 | h2 <;> omega
                    · omega
                  · rw [List.length_append]; exact ownsMap_block HM6.out (f2 _ (by omega) (by omega))
                  · exact (f2 _ (by omega) (by omega)).trans H26.out.1
                  · exact (f2 _ (by omega) (by omega)).trans H26.out.2
                case measure => simp [intOf]; omega
              · have hk1 : (t2 == q) = false := by simp [hq2]
                have hk2 : decide (t2 = q) = false := by simp [hq2]
                have HNO := Lib.hid (HON.out.trans (if_neg hq2))
                clear HON hq2
                go_wp2_with fail
                go_roundw
                case rel =>
                  refine ⟨j + 1, _, R' ++ [(t1, t2)], by omega, by go_num, HRN.out.symm, by rw [HQE.out]; exact HQ6.out, by rw [HNO.out]; exact HO6.out, HG'.out.1, ?_, by rw [List.length_append]; exact HM6.out, HSD.out, H26.out.1, H26.out.2, HBL.out.trans HBL6.out, hs66⟩
                  intro g hg e
                  have h1 := HOO.out g e
                  rcases HAT6.out g hg with h2 | h2 <;> omega
                case measure => simp [intOf]; omega
        · obtain rfl : j = 9 := by omega
          obtain ⟨T, hT⟩ : R <+: R' := by rw [hR']; exact rowP_pre _ _ _ _
          have hgd : R'.Nodup ∧ ∀ z ∈ R', -1 ≤ z.1 ∧ z.1 < (a.accept.length : Int) ∧ 0 ≤ z.2 ∧ z.2 < (a.accept.length : Int) := by
            rw [hR', HR.out.1]; exact rowP_good (mvP_bd HOK.out) (imgP_good (mvP_bd HOK.out) 9 (p, q) k) 9
          have hl' := good_len hgd
          have hki : k < ((p, q) :: R').length := by
            have := (List.getElem?_eq_some_iff.1 HR.out.2.2.1).1
            rw [← hT]; simp at this ⊢; omega
          have hk' : k + 1 ≤ R'.length + 1 := by have := hki; rw [List.length_cons] at this; omega
          have hdr : ((p, q) :: R').drop k = u :: ((p, q) :: R').drop (k + 1) := by
            rw [List.drop_eq_getElem_cons hki]
            congr 1
            have h3 : ((p, q) :: R')[k]? = some u := by
              rw [← hT, ← List.cons_append, List.getElem?_append_left (List.getElem?_eq_some_iff.1 HR.out.2.2.1).1]
              exact HR.out.2.2.1
            exact (List.getElem?_eq_some_iff.1 h3).2
          have hRn : R' = imgP (mvP a) 9 (p, q) (k + 1) := by rw [imgP_succ (u := u) (by rw [← HR.out.1]; exact HR.out.2.2.1), hR', HR.out.1]
          have HRN := Lib.hid hRn
          rw [hdr] at hq
          generalize hX : ((p, q) :: R').drop (k + 1) = X at hq
          rw [List.length_cons] at hq
          obtain ⟨A6, c6, h6, hc5', hc6⟩ := hq.shape
          obtain ⟨g5, o5, c5, rfl, -, -, -⟩ := hq.cell (by omega)
          obtain rfl : c5 = c6 := by injection h6
          have htail := hq.tail rfl
          simp only [List.flatMap_cons, cSa, List.cons_append, List.nil_append, List.drop_succ_cons, List.drop_zero] at htail
          have HO' := Lib.hid ho
          have HG' := Lib.hid (And.intro hg1 hg2)
          have HM' := Lib.hid (And.intro hm hs)
          have HB' := Lib.hid (And.intro hb2 hb3)
          have HX := Lib.hid hX
          unfold maxLen at hc6
          clear hq ho hg1 hg2 hm hs hb2 hb3 h6 hX hdr hgd hT hR' hRn
          by_cases hc1 : c5 = 1
          · subst hc1
            rw [if_pos rfl] at htail
            have HT := Lib.hid htail
            clear htail
            obtain rfl : X = [] := List.eq_nil_of_length_eq_zero (by omega)
            simp only [List.length_nil] at *
            go_wp2_with fail
            go_roundg (160 - (k + 1))
            case measure => omega
            case rel => exact ⟨k + 1, D', R', by omega, HRN.out, hk', by rw [HX.out]; exact HT.out, HO'.out, HG'.out.1, HG'.out.2, HM'.out.1, HM'.out.2, HB'.out.1, HB'.out.2, hbel, hsz⟩
          · rw [if_neg hc1] at htail
            have HT := Lib.hid htail
            clear htail
            go_wp2_with fail
            go_roundg (160 - (k + 1))
            case measure => omega
            case rel => exact ⟨k + 1, D', R', by omega, HRN.out, hk', by rw [HX.out]; exact HT.out, HO'.out, HG'.out.1, HG'.out.2, HM'.out.1, HM'.out.2, HB'.out.1, HB'.out.2, hbel, hsz⟩
end Go.Proofs.Ytallglnmeeahiaa

/- The reference's loop images: l22Images. -/
namespace Go.Proofs.Ytallglnmeeahiaa
set_option linter.unusedVariables false
set_option linter.unusedSimpArgs false
open Go.ChangeShapes Go.WideShapes Go.ChangeAt Go.RowKit
attribute [local go_sem] ext_cell ext_frozen ext_lt ext_lt1 ext_lt2 ext_lt3 ltn2 ltn3 ltn13 lts1 lts2 lts3

def ndF (z : Int × Int) : Nd := ⟨z.1, z.2, true, 0, 0⟩
def listN (p q : Int) (R : List (Int × Int)) : List Nd := ⟨p, q, false, 0, 0⟩ :: R.map ndF
theorem cNd_one (d : Nd) : ∀ u ∈ cNd d, u.oneCell' = true := by
  intro u hu
  simp only [cNd, List.mem_cons, List.not_mem_nil, or_false] at hu
  rcases hu with rfl | rfl | rfl | rfl | rfl <;> rfl
theorem hasN_list (p q : Int) (R : List (Int × Int)) (z : Int × Int) : hasN (listN p q R) (ndF z) = decide (z ∈ R) := by
  rw [Bool.eq_iff_iff, decide_eq_true_eq, hasN, List.any_eq_true]
  constructor
  · rintro ⟨d, hd, ha⟩
    rcases List.mem_cons.1 hd with rfl | hd
    · simp [alike, ndF] at ha
    · obtain ⟨z', hz', rfl⟩ := List.mem_map.1 hd
      simp only [alike, ndF, Bool.and_eq_true, beq_iff_eq] at ha
      have : z' = z := Prod.ext ha.1.1 ha.1.2
      rw [← this]; exact hz'
  · intro hz
    exact ⟨ndF z, List.mem_cons_of_mem _ (List.mem_map.2 ⟨z, hz, rfl⟩), by simp [alike]⟩
theorem listN_at {p q : Int} {R : List (Int × Int)} {k : Nat} {u : Int × Int} (h : ((p, q) :: R)[k]? = some u) : ∃ d, (listN p q R)[k]? = some d ∧ d.a = u.1 ∧ d.b = u.2 := by
  cases k with
  | zero => simp only [List.getElem?_cons_zero, Option.some.injEq] at h; subst h; exact ⟨_, rfl, rfl, rfl⟩
  | succ k => simp only [List.getElem?_cons_succ] at h; exact ⟨ndF u, by simp [listN, h], rfl, rfl⟩
/-- the numbers at q, each one more, as a set of bits -/
structure BitsOk (m : Nat) (q : Int) (R : List (Int × Int)) : Prop where
  lt : m < 2 ^ 13
  iff : ∀ t : Nat, m.testBit t = true ↔ ((t : Int) - 1) ∈ outP q R
theorem BitsOk.zero (q : Int) : BitsOk 0 q [] := ⟨by decide, fun t => by simp [outP]⟩
theorem BitsOk.skip {m : Nat} {q : Int} {R : List (Int × Int)} {f : Int → Nat → Int} {u : Int × Int} {k : Nat} (h : BitsOk m q R) (hz : ¬ (nxP f u k).2 < 0) (hq : ¬ (nxP f u k).2 = q) : BitsOk m q (metP f u R k) :=
  ⟨h.lt, fun t => by
    rw [mem_outP_metP hz, h.iff]
    constructor
    · exact .inl
    · rintro (h | ⟨h1, _⟩)
      · exact h
      · exact absurd h1 hq⟩
theorem BitsOk.add {m s : Nat} {q : Int} {R : List (Int × Int)} {f : Int → Nat → Int} {u : Int × Int} {k : Nat} (h : BitsOk m q R) (hz : ¬ (nxP f u k).2 < 0) (hq : (nxP f u k).2 = q) (hs : (s : Int) = (nxP f u k).1 + 1) (hl : s < 13) : BitsOk (ins m s) q (metP f u R k) :=
  ⟨ins_lt h.lt hl, fun t => by
    rw [mem_outP_metP hz, ins_test, Bool.or_eq_true, h.iff, decide_eq_true_eq]
    constructor
    · rintro (h | rfl)
      · exact .inl h
      · exact .inr ⟨hq, by omega⟩
    · rintro (h | ⟨_, h2⟩)
      · exact .inl h
      · exact .inr (by omega)⟩
theorem BitsOk.asc {m : Nat} {q : Int} {R : List (Int × Int)} (h : BitsOk m q R) (hb : ∀ z ∈ R, -1 ≤ z.1) : (memI 30 m).map (· - 1) = ascL (outP q R) := by
  refine asc_uniq ?_ (ascL_spec _).1 fun x => ?_
  · rw [List.pairwise_map]
    exact (memI_asc 30 m).imp fun h => by omega
  · rw [(ascL_spec _).2, List.mem_map]
    constructor
    · rintro ⟨t, ht, rfl⟩
      obtain ⟨n, rfl, -, h2⟩ := mem_memI.1 ht
      exact (h.iff n).1 h2
    · intro hx
      have h1 := hb _ (mem_outP.1 hx)
      simp only at h1
      refine ⟨x + 1, mem_memI.2 ⟨(x + 1).toNat, by omega, ?_, ?_⟩, by omega⟩
      · rcases Nat.lt_or_ge (x + 1).toNat 30 with h2 | h2
        · exact h2
        · have h3 := (h.iff (x + 1).toNat).2 (by rw [show ((x + 1).toNat : Int) - 1 = x by omega]; exact hx)
          have h4 := Nat.testBit_lt_two_pow (i := (x + 1).toNat) (Nat.lt_of_lt_of_le h.lt (Nat.pow_le_pow_right (by omega) (by omega)))
          rw [h3] at h4; cases h4
      · exact (h.iff (x + 1).toNat).2 (by rw [show ((x + 1).toNat : Int) - 1 = x by omega]; exact hx)
theorem SlI.nd {lo hi : Nat} {w : World} {A : Option Addr} {n c : Nat} {xs : List Nd} (h : SlI lo hi w cNd 5 (.slice A n c) xs) {i : Nat} {d : Nd} (hx : xs[i]? = some d) :
    ∃ b o, A = some ⟨b, o, none⟩ ∧ (lo ≤ b ∧ b < hi) ∧ w.cell? ⟨b, o + i * 5, none⟩ = some (.int .i64 d.a) ∧ w.cell? ⟨b, o + i * 5 + 1, none⟩ = some (.int .i64 d.b) := by
  obtain ⟨A', c', hv, _, _, h3⟩ := h
  injection hv with h1 _ _
  subst h1
  obtain ⟨b, o, e, g1, g2, hc⟩ := h3 i d hx
  exact ⟨b, o, e, ⟨g1, g2⟩, by simpa using hc 0 _ rfl, hc 1 _ rfl⟩
/-- one less, in the first i places -/
def lessL (xs : List Int) (i : Nat) : List Int := (xs.take i).map (· - 1) ++ xs.drop i
theorem lessL_at {xs : List Int} {i : Nat} {x : Int} (h : xs[i]? = some x) : (lessL xs i)[i]? = some x := by
  have hi := (List.getElem?_eq_some_iff.1 h).1
  unfold lessL
  rw [List.getElem?_append_right (by simp; omega), List.length_map, List.length_take, Nat.min_eq_left (by omega), Nat.sub_self, List.getElem?_drop]
  exact h
theorem lessL_set {xs : List Int} {i : Nat} {x : Int} (h : xs[i]? = some x) : (lessL xs i).set i (x - 1) = lessL xs (i + 1) := by
  have hi := (List.getElem?_eq_some_iff.1 h).1
  have hl : ((xs.take i).map (· - 1)).length = i := by simp; omega
  unfold lessL
  rw [List.set_append_right _ _ (by omega), hl, Nat.sub_self, take_snoc h, List.map_append, List.append_assoc]
  congr 1
  have h2 := (List.getElem?_eq_some_iff.1 h).2
  rw [List.drop_eq_getElem_cons hi, h2]
  rfl
theorem lessL_len (xs : List Int) (i : Nat) : (lessL xs i).length = xs.length := by simp [lessL]; omega
theorem elNd : ElemOk Try.prog 106 105 (.agg #[.int .i64 0, .int .i64 0, .bool false, .int .i64 0, .int .i64 0]) 5 40 := ⟨Try.underlying106, by kernel_rfl, rfl, by omega⟩
theorem Blk.set5 {w : World} {g : Nat} {t : TypeId} {c0 c1 c2 c3 c4 : Value} (h : Blk w g t #[c0, c1, c2, c3, c4]) (d0 d1 d2 d3 d4 : Value) : Blk (((((w.setCell ⟨g, 0, none⟩ d0).setCell ⟨g, 1, none⟩ d1).setCell ⟨g, 2, none⟩ d2).setCell ⟨g, 3, none⟩ d3).setCell ⟨g, 4, none⟩ d4) g t #[d0, d1, d2, d3, d4] := by
  have h2 := ((((h.set_ 0 d0).set_ 1 d1).set_ 2 d2).set_ 3 d3).set_ 4 d4
  simpa using h2
theorem below_set5 {B : Nat} {a w : World} (h : Below B a w) {g : Nat} (hg : B ≤ g) (d0 d1 d2 d3 d4 : Value) : Below B a (((((w.setCell ⟨g, 0, none⟩ d0).setCell ⟨g, 1, none⟩ d1).setCell ⟨g, 2, none⟩ d2).setCell ⟨g, 3, none⟩ d3).setCell ⟨g, 4, none⟩ d4) :=
  ((((h.setCell (p := ⟨g, 0, none⟩) hg d0).setCell (p := ⟨g, 1, none⟩) hg d1).setCell (p := ⟨g, 2, none⟩) hg d2).setCell (p := ⟨g, 3, none⟩) hg d3).setCell (p := ⟨g, 4, none⟩) hg d4
set_option maxHeartbeats 4000000 in
set_option maxRecDepth 100000 in
theorem l22Images_any (v : Value) (a : Au) (p q : Int) (w : World) (hv : AuV 0 w.heap.size w v a) (hok : auOk a = true) (hp : -1 ≤ p ∧ p < (a.accept.length : Int)) (hq : 0 ≤ q ∧ q < (a.accept.length : Int)) :
    Calls Try.prog 45 #[v, .int .i64 p, .int .i64 q] w fun e w' => ∃ v', e = .returned v' ∧ Own w.heap.size w'.heap.size w' 3 cI 1 v' (ascL (outP q (imgEnd a p q))) ∧ Below w.heap.size w w' := by
  have hv0 := hv
  obtain ⟨A1, c1, A2, c2, rfl, hl1, hm1, hl2, hm2, -⟩ := hv.form hok
  have hn12 := (auOk_iff.1 hok).1.2
  have hlen2 : (a.accept.length + 1) * a.accept.length ≤ 13 * 12 := Nat.mul_le_mul (by omega) hn12
  obtain ⟨RR, hRR⟩ : ∃ RR, RR = ascL (outP q (imgEnd a p q)) := ⟨_, rfl⟩
  rw [← hRR]
  have HRR := Lib.hid hRR
  clear hRR
  have HV := Lib.hid hv0
  have HOK := Lib.hid hok
  have HP := Lib.hid hp
  have HQ := Lib.hid hq
  clear hv hv0 hok hp hq
  go_enter Try.func45, Try.ntmps45
  go_wp2_with fail
  obtain ⟨W0, hW0⟩ : ∃ W0, W0 = (w.alloc (.cells #[.int .i64 a.start, .slice A1 a.accept.length c1, .slice A2 a.accept.length c2] 27)) := ⟨_, rfl⟩
  have hb0 : Below w.heap.size w W0 := by rw [hW0]; exact (Below.refl _ _).alloc (Nat.le_refl _) _
  have hs0 : W0.heap.size = w.heap.size + 1 := by rw [hW0]; simp
  have x0 : W0.cell? ⟨w.heap.size, 0, none⟩ = some (.int .i64 a.start) := by rw [hW0]; simp
  have x1 : W0.cell? ⟨w.heap.size, 1, none⟩ = some (.slice A1 a.accept.length c1) := by rw [hW0]; simp
  have x2 : W0.cell? ⟨w.heap.size, 2, none⟩ = some (.slice A2 a.accept.length c2) := by rw [hW0]; simp
  rw [← hW0]
  have hrow0 : (W0.alloc (.cells #[.int .i64 p, .int .i64 q, .bool false, .int .i64 0, .int .i64 0] 105)).ownsRow (w.heap.size + 1) 105 5 (.slice (some ⟨w.heap.size + 1, 0, none⟩) 1 1) (listN p q []).length ((listN p q []).flatMap cNd) := by
    have h := World.ownsRow_lit (base := w.heap.size + 1) (e := 105) (size := 5) W0 #[.int .i64 p, .int .i64 q, .bool false, .int .i64 0, .int .i64 0] 1 (by omega) (by decide) rfl
    rw [hs0] at h
    exact h
  have hbl0 : Below (w.heap.size + 1) W0 (W0.alloc (.cells #[.int .i64 p, .int .i64 q, .bool false, .int .i64 0, .int .i64 0] 105)) := (Below.refl _ _).alloc (by omega) _
  have HROW0 := Lib.hid hrow0
  have HBL0 := Lib.hid hbl0
  have HB0 := Lib.hid hb0
  have HX := Lib.hid (And.intro x0 (And.intro x1 x2))
  clear hW0 hrow0 hbl0 hb0 x0 x1 x2
  try go_wp2_with fail
  go_loopw [7, 8, 9] (fun ll mm kk wr => ∃ (k m : Nat) (R : List (Int × Int)), k ≤ R.length + 1 ∧ kk = .int .i64 (k : Int) ∧ mm = .int .i64 (m : Int) ∧ R = imgP (mvP a) 9 (p, q) k ∧ BitsOk m q R ∧
      wr.ownsRow (w.heap.size + 1) 105 5 ll (listN p q R).length ((listN p q R).flatMap cNd) ∧ Below (w.heap.size + 1) W0 wr) (fun _ _ kk _ => 160 - (intOf kk).toNat)
  case atStart => exact ⟨0, 0, [], by omega, rfl, rfl, rfl, BitsOk.zero q, HROW0.out, HBL0.out⟩
  case round =>
    clear HROW0 HBL0
    obtain ⟨k, m, R, hkR, rfl, rfl, hR, hbit, hrow, hbel⟩ := hrel
    have hgood := imgP_good (mvP_bd HOK.out) 9 (p, q) k
    rw [← hR] at hgood
    have hlen := good_len hgood
    have hll : (listN p q R).length = R.length + 1 := by simp [listN]
    obtain ⟨LL, hLL⟩ : ∃ LL, LL = (listN p q R).length := ⟨_, rfl⟩
    rw [← hLL] at hrow
    have hLL1 : LL ≤ R.length + 1 := by omega
    have hLL2 : R.length + 1 ≤ LL := by omega
    have hlp : LL ≠ 0 := by omega
    have hsh : ∃ gl cl, u7 = .slice (some ⟨gl, 0, none⟩) LL cl ∧ LL ≤ cl ∧ cl ≤ 9223372036854775807 := by
      rcases hrow.2 with ⟨_, h0⟩ | ⟨gl, cap, cur, h1, _, _, h2, h3, _⟩
      · exact absurd h0 hlp
      · exact ⟨gl, cap, h1, h2, by unfold maxLen at h3; omega⟩
    obtain ⟨gl, cl, rfl, hcl1, hcl2⟩ := hsh
    have hbm : m < 2 ^ 13 := hbit.lt
    have HROW := Lib.hid hrow
    have HBEL := Lib.hid hbel
    have HBIT := Lib.hid hbit
    have HR := Lib.hid (And.intro hR hLL)
    obtain ⟨wo, hwo⟩ : ∃ wo : World, wo = wr := ⟨_, rfl⟩
    rw [← hwo] at HROW HBEL ⊢
    clear hrow hbel hbit hgood hll hLL hR hwo hlp
    by_cases hlt : k < LL
    · have hki : ((p, q) :: R)[k]? = some (((p, q) :: R)[k]'(by rw [List.length_cons]; omega)) := List.getElem?_eq_getElem _
      generalize ((p, q) :: R)[k]'(by rw [List.length_cons]; omega) = u at hki
      have HKI := Lib.hid hki
      have hkk : (k : Int) < (LL : Int) := by omega
      clear hki
      go_wp2_with fail
      go_loopw [7, 8, 10] (fun ll mm nn wr => ∃ (j m' : Nat) (R' : List (Int × Int)), j ≤ 9 ∧ nn = .int .i64 (j : Int) ∧ mm = .int .i64 (m' : Int) ∧ R' = rowP (mvP a) u R j ∧ BitsOk m' q R' ∧
          wr.ownsRow (w.heap.size + 1) 105 5 ll (listN p q R').length ((listN p q R').flatMap cNd) ∧ Below (w.heap.size + 1) W0 wr) (fun _ _ nn _ => 9 - (intOf nn).toNat)
      case atStart => exact ⟨0, m, R, by omega, rfl, rfl, rfl, HBIT.out, by rw [← HR.out.2]; exact HROW.out, HBEL.out⟩
      case round =>
        clear HROW HBEL HBIT hbm
        obtain ⟨j, m', R', hj, rfl, rfl, hR', hbit, hrow, hbel⟩ := hrel
        by_cases hlj : j < 9
--@INNER
        · obtain ⟨T, hT⟩ : R <+: R' := by rw [hR']; exact rowP_pre _ _ _ _
          have hgd : R'.Nodup ∧ ∀ z ∈ R', -1 ≤ z.1 ∧ z.1 < (a.accept.length : Int) ∧ 0 ≤ z.2 ∧ z.2 < (a.accept.length : Int) := by
            rw [hR', HR.out.1]; exact rowP_good (mvP_bd HOK.out) (imgP_good (mvP_bd HOK.out) 9 (p, q) k) j
          have hl' := good_len hgd
          have hku : ((p, q) :: R')[k]? = some u := by
            rw [← hT, ← List.cons_append, List.getElem?_append_left (List.getElem?_eq_some_iff.1 HKI.out).1]
            exact HKI.out
          have hum := List.mem_of_getElem? hku
          have hu12 : u.1 < (a.accept.length : Int) ∧ u.2 < (a.accept.length : Int) := by
            rcases List.mem_cons.1 hum with e | e
            · rw [e]; exact ⟨HP.out.2, HQ.out.2⟩
            · have := hgd.2 u e; exact ⟨this.2.1, this.2.2.2⟩
          obtain ⟨d, hd, hda, hdb⟩ := listN_at hku
          have hll : (listN p q R').length = R'.length + 1 := by simp [listN]
          have hkl := (List.getElem?_eq_some_iff.1 hku).1
          rw [List.length_cons] at hkl
          obtain ⟨LM, hLM⟩ : ∃ LM, LM = (listN p q R').length := ⟨_, rfl⟩
          have hrow' := hrow
          rw [← hLM] at hrow'
          have hlp : LM ≠ 0 := by omega
          have hkk : (k : Int) < (LM : Int) := by omega
          have hLMx : LM ≤ 160 := by omega
          have hsh : ∃ gl cl, u7 = .slice (some ⟨gl, 0, none⟩) LM cl ∧ LM ≤ cl ∧ cl ≤ 9223372036854775807 := by
            rcases hrow'.2 with ⟨_, h0⟩ | ⟨gl, cap, cur, h1, _, _, h2, h3, _⟩
            · exact absurd h0 hlp
            · exact ⟨gl, cap, h1, h2, by unfold maxLen at h3; omega⟩
          obtain ⟨gm, cm, rfl, hcm1, hcm2⟩ := hsh
          have hgm := (hrow.lt gm rfl)
          have hsl := (Own.of_row (xs := listN p q R') hrow rfl rfl).sl cNd_len
          obtain ⟨b, o, eA, -, d0, d1⟩ := hsl.nd hd
          simp only [Option.some.injEq, Addr.mk.injEq, and_true] at eA
          obtain ⟨rfl, rfl⟩ := eA
          rw [Nat.zero_add] at d0 d1
          rw [hda] at d0
          rw [hdb] at d1
          have hbw := HB0.out.trans (hbel.mono (show w.heap.size ≤ w.heap.size + 1 by omega))
          have HN1 := Lib.hid (fun (W : World) (hW : Below wr.heap.size wr W) => next12_any _ a u.1 j W (HV.out.keep (below_trans hbw hW)) HOK.out hu12.1 (by omega))
          have HN2 := Lib.hid (fun (W : World) (hW : Below wr.heap.size wr W) => next12_any _ a u.2 j W (HV.out.keep (below_trans hbw hW)) HOK.out hu12.2 (by omega))
          have HMET := Lib.hid (show rowP (mvP a) u R (j + 1) = metP (mvP a) u R' j by rw [hR']; rfl)
          have HNX := Lib.hid (show nxP (mvP a) u j = (mvP a u.1 j, mvP a u.2 j) from rfl)
          have hb1 := mvP_bd HOK.out u.1 j
          have hb2' := mvP_bd HOK.out u.2 j
          have x0 := (hbel.cell (p := ⟨w.heap.size, 0, none⟩) (by simp only; omega)).trans HX.out.1
          have x1 := (hbel.cell (p := ⟨w.heap.size, 1, none⟩) (by simp only; omega)).trans HX.out.2.1
          have x2 := (hbel.cell (p := ⟨w.heap.size, 2, none⟩) (by simp only; omega)).trans HX.out.2.2
          obtain ⟨t1, ht1⟩ : ∃ t1, t1 = mvP a u.1 j := ⟨_, rfl⟩
          obtain ⟨t2, ht2⟩ : ∃ t2, t2 = mvP a u.2 j := ⟨_, rfl⟩
          rw [← ht1] at hb1 HN1 HNX
          rw [← ht2] at hb2' HN2 HNX
          have hbm : m' < 2 ^ 13 := hbit.lt
          have HROW := Lib.hid hrow
          have HBIT := Lib.hid hbit
          have HBEL := Lib.hid hbel
          have HSL := Lib.hid hsl
          have HLM := Lib.hid hLM
          have HR' := Lib.hid hR'
          have hszr : w.heap.size + 1 ≤ wr.heap.size := by omega
          have hgml := hgm.2
          have hjj : (j : Int) < 9 := by omega
          obtain ⟨u1, u2⟩ := u
          simp only at d0 d1 HN1 HN2 HNX
          clear hrow hrow' hbit hbel hsl hT hR' hgd hl' hku hum hd hda hdb hu12 ht1 ht2 hLM hlp hll hkl hgm
          clear hbw
          go_upto_region 9 with fail
          go_cut [11] (fun zz wx => ∃ eb, zz = .pointer (some ⟨eb, 0, none⟩) ∧ Blk wx eb 105 #[.int .i64 t1, .int .i64 t2, .bool true, .int .i64 0, .int .i64 0] ∧ wr.heap.size ≤ eb ∧ Below wr.heap.size wr wx)
          case first =>
            have hp := (Below.refl wr.heap.size wr).drew
            refine F_start 18 (fun w' => w'.cell? ⟨w.heap.size, 0, none⟩ = some (.int .i64 a.start) ∧ w'.cell? ⟨w.heap.size, 1, none⟩ = some (.slice A1 a.accept.length c1) ∧ w'.cell? ⟨w.heap.size, 2, none⟩ = some (.slice A2 a.accept.length c2) ∧ w'.cell? ⟨gm, k * 5, none⟩ = some (.int .i64 u1) ∧ w'.cell? ⟨gm, k * 5 + 1, none⟩ = some (.int .i64 u2)) (by kernel_rfl) (by exact ⟨x0, x1, x2, d0, d1⟩) (fun hS inv => ?_)
            refine F_take (i := 0) (v := ?_) rfl (by kernel_rfl) (by kernel_rfl) (by kernel_rfl) (fun _ _ _ h => h) inv (Or.inl ⟨by rfl, ?_⟩) (by assumption) (fun invn => ?_)
            rotate_left
            · (intro w hSw; (try dsimp only at hSw); go_simp; try with_reducible rfl)
            try simp only [List.getElem_toArray, List.getElem_cons_zero, List.getElem_cons_succ, Act.put, List.setIfInBounds_toArray, List.set_cons_zero, List.set_cons_succ]
            clear inv
            have inv := invn
            clear invn
            refine F_take (i := 1) (v := ?_) rfl (by kernel_rfl) (by kernel_rfl) (by kernel_rfl) (fun _ _ _ h => h) inv (Or.inl ⟨by rfl, ?_⟩) (by assumption) (fun invn => ?_)
            rotate_left
            · (intro w hSw; (try dsimp only at hSw); go_simp; try with_reducible rfl)
            try simp only [List.getElem_toArray, List.getElem_cons_zero, List.getElem_cons_succ, Act.put, List.setIfInBounds_toArray, List.set_cons_zero, List.set_cons_succ]
            clear inv
            have inv := invn
            clear invn
            refine F_take (i := 2) (v := ?_) rfl (by kernel_rfl) (by kernel_rfl) (by kernel_rfl) (fun _ _ _ h => h) inv (Or.inl ⟨by rfl, ?_⟩) (by assumption) (fun invn => ?_)
            rotate_left
            · (intro w hSw; (try dsimp only at hSw); go_simp; try with_reducible rfl)
            try simp only [List.getElem_toArray, List.getElem_cons_zero, List.getElem_cons_succ, Act.put, List.setIfInBounds_toArray, List.set_cons_zero, List.set_cons_succ]
            clear inv
            have inv := invn
            clear invn
            refine F_take (i := 3) (v := ?_) rfl (by kernel_rfl) (by kernel_rfl) (by kernel_rfl) (fun _ _ _ h => h) inv (Or.inl ⟨by rfl, ?_⟩) (by assumption) (fun invn => ?_)
            rotate_left
            · (intro w hSw; (try dsimp only at hSw); go_simp; try with_reducible rfl)
            try simp only [List.getElem_toArray, List.getElem_cons_zero, List.getElem_cons_succ, Act.put, List.setIfInBounds_toArray, List.set_cons_zero, List.set_cons_succ]
            clear inv
            have inv := invn
            clear invn
            refine F_take (i := 4) (v := ?_) rfl (by kernel_rfl) (by kernel_rfl) (by kernel_rfl) (fun _ _ _ h => h) inv (Or.inl ⟨by rfl, ?_⟩) (by assumption) (fun invn => ?_)
            rotate_left
            · (intro w hSw; (try dsimp only at hSw); go_simp; try with_reducible rfl)
            try simp only [List.getElem_toArray, List.getElem_cons_zero, List.getElem_cons_succ, Act.put, List.setIfInBounds_toArray, List.set_cons_zero, List.set_cons_succ]
            clear inv
            have inv := invn
            clear invn
            refine F_take (i := 5) (v := ?_) rfl (by kernel_rfl) (by kernel_rfl) (by kernel_rfl) (fun _ _ _ h => h) inv (Or.inl ⟨by rfl, ?_⟩) (by assumption) (fun invn => ?_)
            rotate_left
            · (intro w hSw; (try dsimp only at hSw); go_simp; try with_reducible rfl)
            try simp only [List.getElem_toArray, List.getElem_cons_zero, List.getElem_cons_succ, Act.put, List.setIfInBounds_toArray, List.set_cons_zero, List.set_cons_succ]
            clear inv
            have inv := invn
            clear invn
            refine F_take (i := 6) (v := ?_) rfl (by kernel_rfl) (by kernel_rfl) (by kernel_rfl) (fun _ _ _ h => h) inv (Or.inl ⟨by rfl, ?_⟩) (by assumption) (fun invn => ?_)
            rotate_left
            · (intro w hSw; (try dsimp only at hSw); go_simp; try with_reducible rfl)
            try simp only [List.getElem_toArray, List.getElem_cons_zero, List.getElem_cons_succ, Act.put, List.setIfInBounds_toArray, List.set_cons_zero, List.set_cons_succ]
            clear inv
            have inv := invn
            clear invn
            refine F_take (i := 8) (v := ?_) rfl (by kernel_rfl) (by kernel_rfl) (by kernel_rfl) (fun _ _ _ h => h) inv (Or.inl ⟨by rfl, ?_⟩) (by assumption) (fun invn => ?_)
            rotate_left
            · (intro w hSw; (try dsimp only at hSw); go_simp; try with_reducible rfl)
            try simp only [List.getElem_toArray, List.getElem_cons_zero, List.getElem_cons_succ, Act.put, List.setIfInBounds_toArray, List.set_cons_zero, List.set_cons_succ]
            clear inv
            have inv := invn
            clear invn
            refine F_take (i := 9) (v := ?_) rfl (by kernel_rfl) (by kernel_rfl) (by kernel_rfl) (fun _ _ _ h => h) inv (Or.inl ⟨by rfl, ?_⟩) (by assumption) (fun invn => ?_)
            rotate_left
            · (intro w hSw; (try dsimp only at hSw); go_simp; try with_reducible rfl)
            try simp only [List.getElem_toArray, List.getElem_cons_zero, List.getElem_cons_succ, Act.put, List.setIfInBounds_toArray, List.set_cons_zero, List.set_cons_succ]
            clear inv
            have inv := invn
            clear invn
            refine F_take (i := 10) (v := ?_) rfl (by kernel_rfl) (by kernel_rfl) (by kernel_rfl) (fun _ _ _ h => h) inv (Or.inl ⟨by rfl, ?_⟩) (by assumption) (fun invn => ?_)
            rotate_left
            · (intro w hSw; (try dsimp only at hSw); go_simp; try with_reducible rfl)
            try simp only [List.getElem_toArray, List.getElem_cons_zero, List.getElem_cons_succ, Act.put, List.setIfInBounds_toArray, List.set_cons_zero, List.set_cons_succ]
            clear inv
            have inv := invn
            clear invn
            refine F_take (i := 11) (v := ?_) rfl (by kernel_rfl) (by kernel_rfl) (by kernel_rfl) (fun _ _ _ h => h) inv (Or.inl ⟨by rfl, ?_⟩) (by assumption) (fun invn => ?_)
            rotate_left
            · (intro w hSw; (try dsimp only at hSw); go_simp; try with_reducible rfl)
            try simp only [List.getElem_toArray, List.getElem_cons_zero, List.getElem_cons_succ, Act.put, List.setIfInBounds_toArray, List.set_cons_zero, List.set_cons_succ]
            clear inv
            have inv := invn
            clear invn
            refine F_take (i := 12) (v := ?_) rfl (by kernel_rfl) (by kernel_rfl) (by kernel_rfl) (fun _ _ _ h => h) inv (Or.inl ⟨by rfl, ?_⟩) (by assumption) (fun invn => ?_)
            rotate_left
            · (intro w hSw; (try dsimp only at hSw); go_simp; try with_reducible rfl)
            try simp only [List.getElem_toArray, List.getElem_cons_zero, List.getElem_cons_succ, Act.put, List.setIfInBounds_toArray, List.set_cons_zero, List.set_cons_succ]
            clear inv
            have inv := invn
            clear invn
            refine F_take (i := 13) (v := ?_) rfl (by kernel_rfl) (by kernel_rfl) (by kernel_rfl) (fun _ _ _ h => h) inv (Or.inl ⟨by rfl, ?_⟩) (by assumption) (fun invn => ?_)
            rotate_left
            · (intro w hSw; (try dsimp only at hSw); go_simp; try with_reducible rfl)
            try simp only [List.getElem_toArray, List.getElem_cons_zero, List.getElem_cons_succ, Act.put, List.setIfInBounds_toArray, List.set_cons_zero, List.set_cons_succ]
            clear inv
            have inv := invn
            clear invn
            refine F_take (i := 14) (v := ?_) rfl (by kernel_rfl) (by kernel_rfl) (by kernel_rfl) (fun _ _ _ h => h) inv (Or.inl ⟨by rfl, ?_⟩) (by assumption) (fun invn => ?_)
            rotate_left
            · (intro w hSw; (try dsimp only at hSw); go_simp; try with_reducible rfl)
            try simp only [List.getElem_toArray, List.getElem_cons_zero, List.getElem_cons_succ, Act.put, List.setIfInBounds_toArray, List.set_cons_zero, List.set_cons_succ]
            clear inv
            have inv := invn
            clear invn
            have hS0 := hS
            refine F_two (i := 7) (j := 17) (by kernel_rfl) rfl rfl rfl rfl (by omega) inv (fun K hK => ?_) (fun K hK => ?_)
            all_goals (try simp only [List.getElem_toArray, List.getElem_cons_zero, List.getElem_cons_succ])
            · go_simp
              refine (HN1.out _ hp).mono ?_
              rintro en wA ⟨rfl, hbA⟩
              have hpA := below_trans hp hbA
              refine hK.out _ _ (kB5 hbA hS) (fun hSn invn => ?_)
              try simp only [List.getElem_toArray, List.getElem_cons_zero, List.getElem_cons_succ, Act.put, List.setIfInBounds_toArray, List.set_cons_zero, List.set_cons_succ]
              clear hK K inv hS
              have inv := invn
              have hS := hSn
              clear invn hSn
              have hS1 := hS
              refine F_two (i := 15) (j := 17) (by kernel_rfl) rfl rfl rfl rfl (by omega) inv (fun K hK => ?_) (fun K hK => ?_)
              all_goals (try simp only [List.getElem_toArray, List.getElem_cons_zero, List.getElem_cons_succ])
              · go_simp
                refine (HN2.out _ hpA).mono ?_
                rintro en wB ⟨rfl, hbB⟩
                have hpB := below_trans hpA hbB
                refine hK.out _ _ (kB5 hbB hS) (fun hSn invn => ?_)
                try simp only [List.getElem_toArray, List.getElem_cons_zero, List.getElem_cons_succ, Act.put, List.setIfInBounds_toArray, List.set_cons_zero, List.set_cons_succ]
                clear hK K inv hS
                have inv := invn
                have hS := hSn
                clear invn hSn
                refine F_take (i := 16) (v := ?_) rfl (by kernel_rfl) (by kernel_rfl) (by kernel_rfl) (fun _ _ _ h => h) inv (Or.inl ⟨by rfl, ?_⟩) (by assumption) (fun invn => ?_)
                rotate_left
                · (intro w hSw; (try dsimp only at hSw); go_simp; try with_reducible rfl)
                try simp only [List.getElem_toArray, List.getElem_cons_zero, List.getElem_cons_succ, Act.put, List.setIfInBounds_toArray, List.set_cons_zero, List.set_cons_succ]
                clear inv
                have inv := invn
                clear invn
                refine F_one (i := 17) (by kernel_rfl) rfl rfl (by omega) inv (fun K hK => ?_)
                try simp only [List.getElem_toArray, List.getElem_cons_zero, List.getElem_cons_succ]
                go_simp
                refine hK.out _ _ (kA5 _ hS) (fun hSn invn => ?_)
                try simp only [List.getElem_toArray, List.getElem_cons_zero, List.getElem_cons_succ, Act.put, List.setIfInBounds_toArray, List.set_cons_zero, List.set_cons_succ]
                clear hK K inv hS
                have inv := invn
                have hS := hSn
                clear invn hSn
                refine F_last (i := 18) (by kernel_rfl) rfl rfl (by omega) (by kernel_rfl) (fun K hK => ?_)
                go_simp
                refine hK _ _ ?_
                clear hK K inv hS
                go_wp2_with fail
                go_meet
                exact ⟨_, rfl, Blk.new _ _ _ _ rfl, hpB.size, hpB.alloc hpB.size _⟩
              · go_simp
                have hbz : Blk (wA.alloc (.cells #[.int .i64 0, .int .i64 0, .bool false, .int .i64 0, .int .i64 0] 105)) wA.heap.size 105 #[.int .i64 0, .int .i64 0, .bool false, .int .i64 0, .int .i64 0] := Blk.new _ _ _ _ rfl
                have hpZ := hpA.alloc hpA.size (.cells #[.int .i64 0, .int .i64 0, .bool false, .int .i64 0, .int .i64 0] 105)
                refine hK.out _ _ (kA5 _ hS) (fun hSn invn => ?_)
                try simp only [List.getElem_toArray, List.getElem_cons_zero, List.getElem_cons_succ, Act.put, List.setIfInBounds_toArray, List.set_cons_zero, List.set_cons_succ]
                clear hK K inv hS
                have inv := invn
                have hS := hSn
                clear invn hSn
                refine F_one (i := 15) (by kernel_rfl) rfl rfl (by omega) inv (fun K hK => ?_)
                try simp only [List.getElem_toArray, List.getElem_cons_zero, List.getElem_cons_succ]
                go_simp
                refine (HN2.out _ hpZ).mono ?_
                rintro en wB ⟨rfl, hbB⟩
                have hbz2 := hbz.keep hbB
                have lbz := hbz2.lt
                have hpB := below_trans hpZ hbB
                refine hK.out _ _ (kB5 hbB hS) (fun hSn invn => ?_)
                try simp only [List.getElem_toArray, List.getElem_cons_zero, List.getElem_cons_succ, Act.put, List.setIfInBounds_toArray, List.set_cons_zero, List.set_cons_succ]
                clear hK K inv hS
                have inv := invn
                have hS := hSn
                clear invn hSn
                refine F_take (i := 16) (v := ?_) rfl (by kernel_rfl) (by kernel_rfl) (by kernel_rfl) (fun _ _ _ h => h) inv (Or.inl ⟨by rfl, ?_⟩) (by assumption) (fun invn => ?_)
                rotate_left
                · (intro w hSw; (try dsimp only at hSw); go_simp; try with_reducible rfl)
                try simp only [List.getElem_toArray, List.getElem_cons_zero, List.getElem_cons_succ, Act.put, List.setIfInBounds_toArray, List.set_cons_zero, List.set_cons_succ]
                clear inv
                have inv := invn
                clear invn
                have z0 : wB.cell? ⟨wA.heap.size, 0, none⟩ = some (.int .i64 0) := hbz2.cell 0
                have z1 : wB.cell? ⟨wA.heap.size, 1, none⟩ = some (.int .i64 0) := hbz2.cell 1
                have z2 : wB.cell? ⟨wA.heap.size, 2, none⟩ = some (.bool false) := hbz2.cell 2
                have z3 : wB.cell? ⟨wA.heap.size, 3, none⟩ = some (.int .i64 0) := hbz2.cell 3
                have z4 : wB.cell? ⟨wA.heap.size, 4, none⟩ = some (.int .i64 0) := hbz2.cell 4
                have f0 : wB.frozen? ⟨wA.heap.size, 0, none⟩ = false := hbz2.frozen 0
                have f1 : wB.frozen? ⟨wA.heap.size, 1, none⟩ = false := hbz2.frozen 1
                have f2 : wB.frozen? ⟨wA.heap.size, 2, none⟩ = false := hbz2.frozen 2
                have f3 : wB.frozen? ⟨wA.heap.size, 3, none⟩ = false := hbz2.frozen 3
                have f4 : wB.frozen? ⟨wA.heap.size, 4, none⟩ = false := hbz2.frozen 4
                refine F_last (i := 18) (by kernel_rfl) rfl rfl (by omega) (by kernel_rfl) (fun K hK => ?_)
                go_simp
                refine hK _ _ ?_
                clear hK K inv hS
                go_wp2_with fail
                go_meet
                exact ⟨_, rfl, hbz2.set5 _ _ _ _ _, hpA.size, below_set5 hpB hpA.size _ _ _ _ _⟩
            · go_simp
              have hbz : Blk (wr.drew.alloc (.cells #[.int .i64 0, .int .i64 0, .bool false, .int .i64 0, .int .i64 0] 105)) wr.heap.size 105 #[.int .i64 0, .int .i64 0, .bool false, .int .i64 0, .int .i64 0] := Blk.new _ _ _ _ rfl
              have hpZ := hp.alloc hp.size (.cells #[.int .i64 0, .int .i64 0, .bool false, .int .i64 0, .int .i64 0] 105)
              refine hK.out _ _ (kA5 _ hS) (fun hSn invn => ?_)
              try simp only [List.getElem_toArray, List.getElem_cons_zero, List.getElem_cons_succ, Act.put, List.setIfInBounds_toArray, List.set_cons_zero, List.set_cons_succ]
              clear hK K inv hS
              have inv := invn
              have hS := hSn
              clear invn hSn
              refine F_one (i := 7) (by kernel_rfl) rfl rfl (by omega) inv (fun K hK => ?_)
              try simp only [List.getElem_toArray, List.getElem_cons_zero, List.getElem_cons_succ]
              go_simp
              refine (HN1.out _ hpZ).mono ?_
              rintro en wA ⟨rfl, hbA⟩
              have hbz1 := hbz.keep hbA
              have hpA := below_trans hpZ hbA
              refine hK.out _ _ (kB5 hbA hS) (fun hSn invn => ?_)
              try simp only [List.getElem_toArray, List.getElem_cons_zero, List.getElem_cons_succ, Act.put, List.setIfInBounds_toArray, List.set_cons_zero, List.set_cons_succ]
              clear hK K inv hS
              have inv := invn
              have hS := hSn
              clear invn hSn
              refine F_one (i := 15) (by kernel_rfl) rfl rfl (by omega) inv (fun K hK => ?_)
              try simp only [List.getElem_toArray, List.getElem_cons_zero, List.getElem_cons_succ]
              go_simp
              refine (HN2.out _ hpA).mono ?_
              rintro en wB ⟨rfl, hbB⟩
              have hbz2 := hbz1.keep hbB
              have lbz := hbz2.lt
              have hpB := below_trans hpA hbB
              refine hK.out _ _ (kB5 hbB hS) (fun hSn invn => ?_)
              try simp only [List.getElem_toArray, List.getElem_cons_zero, List.getElem_cons_succ, Act.put, List.setIfInBounds_toArray, List.set_cons_zero, List.set_cons_succ]
              clear hK K inv hS
              have inv := invn
              have hS := hSn
              clear invn hSn
              refine F_take (i := 16) (v := ?_) rfl (by kernel_rfl) (by kernel_rfl) (by kernel_rfl) (fun _ _ _ h => h) inv (Or.inl ⟨by rfl, ?_⟩) (by assumption) (fun invn => ?_)
              rotate_left
              · (intro w hSw; (try dsimp only at hSw); go_simp; try with_reducible rfl)
              try simp only [List.getElem_toArray, List.getElem_cons_zero, List.getElem_cons_succ, Act.put, List.setIfInBounds_toArray, List.set_cons_zero, List.set_cons_succ]
              clear inv
              have inv := invn
              clear invn
              have z0 : wB.cell? ⟨wr.heap.size, 0, none⟩ = some (.int .i64 0) := hbz2.cell 0
              have z1 : wB.cell? ⟨wr.heap.size, 1, none⟩ = some (.int .i64 0) := hbz2.cell 1
              have z2 : wB.cell? ⟨wr.heap.size, 2, none⟩ = some (.bool false) := hbz2.cell 2
              have z3 : wB.cell? ⟨wr.heap.size, 3, none⟩ = some (.int .i64 0) := hbz2.cell 3
              have z4 : wB.cell? ⟨wr.heap.size, 4, none⟩ = some (.int .i64 0) := hbz2.cell 4
              have f0 : wB.frozen? ⟨wr.heap.size, 0, none⟩ = false := hbz2.frozen 0
              have f1 : wB.frozen? ⟨wr.heap.size, 1, none⟩ = false := hbz2.frozen 1
              have f2 : wB.frozen? ⟨wr.heap.size, 2, none⟩ = false := hbz2.frozen 2
              have f3 : wB.frozen? ⟨wr.heap.size, 3, none⟩ = false := hbz2.frozen 3
              have f4 : wB.frozen? ⟨wr.heap.size, 4, none⟩ = false := hbz2.frozen 4
              refine F_last (i := 18) (by kernel_rfl) rfl rfl (by omega) (by kernel_rfl) (fun K hK => ?_)
              go_simp
              refine hK _ _ ?_
              clear hK K inv hS
              go_wp2_with fail
              go_meet
              exact ⟨_, rfl, hbz2.set5 _ _ _ _ _, Nat.le_refl _, below_set5 hpB (Nat.le_refl _) _ _ _ _ _⟩
          case rest =>
            obtain ⟨eb, rfl, hbz, heb, hbx⟩ := hcut
            have e0 : wc.cell? ⟨eb, 0, none⟩ = some (.int .i64 t1) := hbz.cell 0
            have e1 : wc.cell? ⟨eb, 1, none⟩ = some (.int .i64 t2) := hbz.cell 1
            have e2 : wc.cell? ⟨eb, 2, none⟩ = some (.bool true) := hbz.cell 2
            have e3 : wc.cell? ⟨eb, 3, none⟩ = some (.int .i64 0) := hbz.cell 3
            have e4 : wc.cell? ⟨eb, 4, none⟩ = some (.int .i64 0) := hbz.cell 4
            have leb := hbz.lt
            have hsx := hbx.size
            have HROX := Lib.hid (ownsRow_below HROW.out hbx (Nat.le_refl _))
            have HBX := Lib.hid (HBEL.out.trans (hbx.mono hszr))
            have HSX := Lib.hid ((HSL.out.all (Nat.le_refl _)).keep hbx)
            obtain ⟨s, hs⟩ : ∃ s : Nat, t1 = (s : Int) - 1 := ⟨(t1 + 1).toNat, by omega⟩
            subst hs
            have hs13 : s < 13 := by omega
            clear hbz hbx d0 d1 x0 x1 x2 HN1 HN2 HROW HBEL HSL
            by_cases hneg : t2 < 0
            · have HE := Lib.hid (show R' = rowP (mvP a) (u1, u2) R (j + 1) by rw [HMET.out, metP, HNX.out, if_pos (.inl hneg)])
              clear HMET HNX
              go_wp2_with fail
              go_roundw
              case rel => exact ⟨j + 1, m', R', by omega, by go_num, rfl, HE.out, HBIT.out, HROX.out, HBX.out⟩
              case measure => simp [intOf]; omega
            · have hz : ¬ (nxP (mvP a) (u1, u2) j).2 < 0 := by rw [HNX.out]; exact hneg
              have hh := has_any _ (listN p q R') (ndF ((s : Int) - 1, t2)) wc HSX.out
              rw [hasN_list] at hh
              have hmp : ((s : Int) - 1, t2) ∈ R' → metP (mvP a) (u1, u2) R' j = R' := fun h => by rw [metP, HNX.out, if_pos (.inr h)]
              have hmn : ((s : Int) - 1, t2) ∉ R' → metP (mvP a) (u1, u2) R' j = R' ++ [((s : Int) - 1, t2)] := fun h => by rw [metP, HNX.out, if_neg (by rw [not_or]; exact ⟨hneg, h⟩)]
              have HH := Lib.hid hh
              clear hh
              have b1 := shl_bit (s := s) (by omega)
              have b2 := or_ins (m := m') (s := s) (by omega) (by omega)
              have HBA := Lib.hid (fun hq : t2 = q => HBIT.out.add (f := mvP a) (u := (u1, u2)) (k := j) hz (by rw [HNX.out]; exact hq) (s := s) (by rw [HNX.out]; simp only; omega) hs13)
              have HBS := Lib.hid (fun hq : ¬ t2 = q => HBIT.out.skip (f := mvP a) (u := (u1, u2)) (k := j) hz (by rw [HNX.out]; exact hq))
              have HMP := Lib.hid hmp
              have HMN := Lib.hid hmn
              clear hmp hmn hz HBIT HNX
              by_cases hq2 : t2 = q
              · have hk1 : (t2 == q) = true := by simp [hq2]
                have hk2 : decide (t2 = q) = true := by simp [hq2]
                have HBQ := Lib.hid (HBA.out hq2)
                clear HBA HBS hq2
                by_cases hmem : ((s : Int) - 1, t2) ∈ R'
                · rw [show decide (((s : Int) - 1, t2) ∈ R') = true from decide_eq_true hmem] at HH
                  have HE := Lib.hid (show R' = rowP (mvP a) (u1, u2) R (j + 1) by rw [HMET.out, HMP.out hmem])
                  have HBQ := Lib.hid (show BitsOk _ q R' by have h := HBQ.out; rw [HMP.out hmem] at h; exact h)
                  clear HMET HMP HMN hmem
                  go_wp2_with fail
                  refine HH.out.mono ?_
                  rintro en wB ⟨rfl, hbB⟩
                  have hsB := hbB.size
                  have HRB := Lib.hid (ownsRow_below HROX.out hbB (Nat.le_refl _))
                  have HBB := Lib.hid (HBX.out.trans (hbB.mono (show w.heap.size + 1 ≤ wc.heap.size by omega)))
                  clear hbB
                  go_wp2_with fail
                  go_roundw
                  case rel => exact ⟨j + 1, (ins m' s), R', by omega, by go_num, rfl, HE.out, HBQ.out, HRB.out, HBB.out⟩
                  case measure => simp [intOf]; omega
                · rw [show decide (((s : Int) - 1, t2) ∈ R') = false from decide_eq_false hmem] at HH
                  have HE := Lib.hid (show R' ++ [((s : Int) - 1, t2)] = rowP (mvP a) (u1, u2) R (j + 1) by rw [HMET.out, HMN.out hmem])
                  have HBQ := Lib.hid (show BitsOk _ q (R' ++ [((s : Int) - 1, t2)]) by have h := HBQ.out; rw [HMN.out hmem] at h; exact h)
                  clear HMET HMP HMN hmem
                  go_wp2_with fail
                  refine HH.out.mono ?_
                  rintro en wB ⟨rfl, hbB⟩
                  have hsB := hbB.size
                  have HRB := Lib.hid (ownsRow_below HROX.out hbB (Nat.le_refl _))
                  have HBB := Lib.hid (HBX.out.trans (hbB.mono (show w.heap.size + 1 ≤ wc.heap.size by omega)))
                  have e0 := kcell hbB e0
                  have e1 := kcell hbB e1
                  have e2 := kcell hbB e2
                  have e3 := kcell hbB e3
                  have e4 := kcell hbB e4
                  have leb := Nat.lt_of_lt_of_le leb hsB
                  have HLB := Lib.hid (show (listN p q R').length ≤ 160 by rw [← HLM.out]; exact hLMx)
                  have hrb : wB.ownsRow (w.heap.size + 1) 105 5 (.slice (some ⟨gm, 0, none⟩) LM cm) (listN p q R').length ((listN p q R').flatMap cNd) := HRB.out
                  have HRB := Lib.hid hrb
                  clear hbB hrb
                  go_wp2_with (at_builtin; (refine wpList_append1 cNd elNd rfl _ _ rfl (w.heap.size + 1) _ (listN p q R') (ndF ((s : Int) - 1, t2)) _ 1 _ (by rfl) HRB.out (by rfl) rfl rfl rfl (cNd_one _) (by have := HLB.out; omega) (by omega) (by omega) ?_); intro v8 w8 hrow8 hb8 hat8 hgr8)
                  clear hat8 hgr8
                  go_roundw
                  case rel => exact ⟨j + 1, (ins m' s), R' ++ [((s : Int) - 1, t2)], by omega, by go_num, rfl, HE.out, HBQ.out, by simpa [listN, ndF] using hrow8, HBB.out.trans hb8⟩
                  case measure => simp [intOf]; omega
              · have hk1 : (t2 == q) = false := by simp [hq2]
                have hk2 : decide (t2 = q) = false := by simp [hq2]
                have HBQ := Lib.hid (HBS.out hq2)
                clear HBA HBS hq2
                clear b1 b2
                by_cases hmem : ((s : Int) - 1, t2) ∈ R'
                · rw [show decide (((s : Int) - 1, t2) ∈ R') = true from decide_eq_true hmem] at HH
                  have HE := Lib.hid (show R' = rowP (mvP a) (u1, u2) R (j + 1) by rw [HMET.out, HMP.out hmem])
                  have HBQ := Lib.hid (show BitsOk _ q R' by have h := HBQ.out; rw [HMP.out hmem] at h; exact h)
                  clear HMET HMP HMN hmem
                  go_wp2_with fail
                  refine HH.out.mono ?_
                  rintro en wB ⟨rfl, hbB⟩
                  have hsB := hbB.size
                  have HRB := Lib.hid (ownsRow_below HROX.out hbB (Nat.le_refl _))
                  have HBB := Lib.hid (HBX.out.trans (hbB.mono (show w.heap.size + 1 ≤ wc.heap.size by omega)))
                  clear hbB
                  go_wp2_with fail
                  go_roundw
                  case rel => exact ⟨j + 1, m', R', by omega, by go_num, rfl, HE.out, HBQ.out, HRB.out, HBB.out⟩
                  case measure => simp [intOf]; omega
                · rw [show decide (((s : Int) - 1, t2) ∈ R') = false from decide_eq_false hmem] at HH
                  have HE := Lib.hid (show R' ++ [((s : Int) - 1, t2)] = rowP (mvP a) (u1, u2) R (j + 1) by rw [HMET.out, HMN.out hmem])
                  have HBQ := Lib.hid (show BitsOk _ q (R' ++ [((s : Int) - 1, t2)]) by have h := HBQ.out; rw [HMN.out hmem] at h; exact h)
                  clear HMET HMP HMN hmem
                  go_wp2_with fail
                  refine HH.out.mono ?_
                  rintro en wB ⟨rfl, hbB⟩
                  have hsB := hbB.size
                  have HRB := Lib.hid (ownsRow_below HROX.out hbB (Nat.le_refl _))
                  have HBB := Lib.hid (HBX.out.trans (hbB.mono (show w.heap.size + 1 ≤ wc.heap.size by omega)))
                  have e0 := kcell hbB e0
                  have e1 := kcell hbB e1
                  have e2 := kcell hbB e2
                  have e3 := kcell hbB e3
                  have e4 := kcell hbB e4
                  have leb := Nat.lt_of_lt_of_le leb hsB
                  have HLB := Lib.hid (show (listN p q R').length ≤ 160 by rw [← HLM.out]; exact hLMx)
                  have hrb : wB.ownsRow (w.heap.size + 1) 105 5 (.slice (some ⟨gm, 0, none⟩) LM cm) (listN p q R').length ((listN p q R').flatMap cNd) := HRB.out
                  have HRB := Lib.hid hrb
                  clear hbB hrb
                  go_wp2_with (at_builtin; (refine wpList_append1 cNd elNd rfl _ _ rfl (w.heap.size + 1) _ (listN p q R') (ndF ((s : Int) - 1, t2)) _ 1 _ (by rfl) HRB.out (by rfl) rfl rfl rfl (cNd_one _) (by have := HLB.out; omega) (by omega) (by omega) ?_); intro v8 w8 hrow8 hb8 hat8 hgr8)
                  clear hat8 hgr8
                  go_roundw
                  case rel => exact ⟨j + 1, m', R' ++ [((s : Int) - 1, t2)], by omega, by go_num, rfl, HE.out, HBQ.out, by simpa [listN, ndF] using hrow8, HBB.out.trans hb8⟩
                  case measure => simp [intOf]; omega
--@INNEREND
        · obtain rfl : j = 9 := by omega
          have HRN := Lib.hid (show R' = imgP (mvP a) 9 (p, q) (k + 1) by rw [imgP_succ (u := u) (by rw [← HR.out.1]; exact HKI.out), hR', HR.out.1])
          have HROW' := Lib.hid hrow
          have HBEL' := Lib.hid hbel
          have HBIT' := Lib.hid hbit
          have hkn : k + 1 ≤ R'.length + 1 := by
            obtain ⟨T, hT⟩ : R <+: R' := by rw [hR']; exact rowP_pre _ _ _ _
            rw [← hT, List.length_append]; omega
          clear hrow hbel hbit hR'
          go_wp2_with fail
          go_roundw
          case rel => exact ⟨k + 1, m', R', hkn, by go_num, rfl, HRN.out, HBIT'.out, HROW'.out, HBEL'.out⟩
          case measure => simp [intOf]; omega
    · have hkl : R.length < k := by omega
      have hfin : R = imgEnd a p q := by rw [imgEnd, ← img_end HOK.out (k := k) (by rw [← HR.out.1]; exact hkl), HR.out.1]
      have hasc := HBIT.out.asc (fun z hz => ((imgP_good (mvP_bd HOK.out) 9 (p, q) k).2 z (by rw [← HR.out.1]; exact hz)).1)
      rw [hfin] at hasc
      have hbw := HB0.out.trans (HBEL.out.mono (show w.heap.size ≤ w.heap.size + 1 by omega))
      have hset := l4Set_any m wo (Nat.lt_of_lt_of_le hbm (Nat.pow_le_pow_right (by omega) (by omega)))
      have hml := mem_len 30 m
      have hmx : ∀ x ∈ memI 30 m, 0 ≤ x ∧ x ≤ 30 := fun x hx => by
        obtain ⟨t, rfl, ht, _⟩ := mem_memI.1 hx
        omega
      have hml2 : (memI 30 m).length ≤ 30 := by rw [memI, List.length_map]; exact hml
      rw [← HRR.out] at hasc
      have HAS := Lib.hid hasc
      clear hasc
      generalize memI 30 m = xs at *
      have HS := Lib.hid hset
      have HBW := Lib.hid hbw
      have HMX := Lib.hid hmx
      clear hfin hbw hset hmx hml HROW HBEL HBIT HR
      go_wp2_with fail
      refine HS.out.mono ?_
      rintro e w2 ⟨v2, rfl, ho2, hb2⟩
      have hrow2 := ho2.1
      have hsb := HBW.out.size
      have hb2w := below_trans HBW.out hb2
      have hls2 := hb2.size
      have hshp : ∃ A c, v2 = .slice A xs.length c := by
        rcases hrow2.2 with ⟨h1, h2⟩ | ⟨g, cap, cur, h1, _⟩
        · exact ⟨none, 0, by rw [h1, h2]⟩
        · exact ⟨_, _, h1⟩
      obtain ⟨A9, c9, rfl⟩ := hshp
      have HR2 := Lib.hid (show w2.ownsRow w.heap.size 3 1 (.slice A9 xs.length c9) xs.length ((lessL xs 0).flatMap cI) from by
        have h := ownsRow_mono hrow2 hsb
        simpa [lessL] using h)
      have HB2 := Lib.hid hb2w
      clear ho2 hrow2 hb2 hb2w
      go_wp2_with fail
      go_loopw [13] (fun ii wr => ∃ i : Nat, i ≤ xs.length ∧ ii = .int .i64 (i : Int) ∧ wr.ownsRow w.heap.size 3 1 (.slice A9 xs.length c9) xs.length ((lessL xs i).flatMap cI) ∧ Below w.heap.size w wr) (fun ii _ => xs.length - (intOf ii).toNat)
      case atStart => exact ⟨0, Nat.zero_le _, rfl, HR2.out, HB2.out⟩
      case round =>
        clear HR2 HB2
        obtain ⟨i, hi, rfl, hrow, hbel⟩ := hrel
        by_cases hlt2 : i < xs.length
        · have hxi : xs[i]? = some xs[i] := List.getElem?_eq_getElem hlt2
          have hxm := HMX.out _ (List.getElem_mem hlt2)
          generalize xs[i] = x at hxi hxm
          obtain ⟨g, hA⟩ : ∃ g, A9 = some ⟨g, 0, none⟩ := by
            rcases hrow.2 with ⟨_, h2⟩ | ⟨g, cap, cur, h1, _⟩
            · omega
            · injection h1 with h1 _ _; exact ⟨g, h1⟩
          subst hA
          have hf := World.ownsRow.frozenAt hrow i
          have hc := World.ownsRow.cellAt hrow i (by omega)
          have hle := lessL_at hxi
          have hfl : ((lessL xs i).flatMap cI)[i]? = some (.int .i64 x) := by have := flat_at (E := cI) (k := 1) cI_len hle 0 _ rfl; simpa using this
          rw [hfl] at hc
          have hst := (World.ownsRow.stored hrow i (.int .i64 (x - 1))).1
          rw [flatI_set, lessL_set hxi] at hst
          have hlg := hrow.lt g rfl
          have hbs := hbel.setCell (p := ⟨g, i, none⟩) hlg.1 (.int .i64 (x - 1))
          have HST := Lib.hid hst
          have HBS := Lib.hid hbs
          have hii : (i : Int) < (xs.length : Int) := by omega
          have hgl := hlg.2
          clear hle hfl hst hbs hxi hrow hlg
          go_wp2_with fail
          go_roundw
          case rel => exact ⟨i + 1, by omega, by go_num, HST.out, HBS.out⟩
          case measure => simp [intOf]; omega
        · obtain rfl : i = xs.length := by omega
          have hfin : lessL xs xs.length = xs.map (· - 1) := by simp [lessL]
          rw [hfin] at hrow
          have hown := Own.of_row (xs := xs.map (· - 1)) hrow (by simp) rfl
          rw [HAS.out] at hown
          have HO := Lib.hid hown
          clear hrow hfin hown
          go_wp2_with fail
          go_ret
          exact ⟨_, rfl, HO.out, hbel⟩
end Go.Proofs.Ytallglnmeeahiaa

/- LoopImages, in both of the program's halves. -/
namespace Go.Proofs.Ytallglnmeeahiaa
set_option linter.unusedVariables false
set_option linter.unusedSimpArgs false
open Go.ChangeShapes Go.WideShapes Go.ChangeAt Go.RowKit
attribute [local go_sem] ext_cell ext_frozen ext_lt ext_lt1 ext_lt2 ext_lt3 ltn2 ltn3 ltn13 lts1 lts2 lts3

theorem lit_nilL {w : World} {lo : Nat} {e : TypeId} {α : Type} {E : α → List Value} {k : Nat} (hl : lo ≤ w.heap.size) : Own lo (w.alloc (.cells #[] e)).heap.size (w.alloc (.cells #[] e)) e E k (.slice (some ⟨w.heap.size, 0, none⟩) 0 0) ([] : List α) :=
  Own.of_row (n := 0) (cs := []) ⟨by simp, .inr ⟨w.heap.size, 0, #[], rfl, hl, heap_alloc_new w _, Nat.le_refl _, by unfold maxLen; omega, by simp, by simp⟩⟩ rfl rfl
def stB (a : Au) (p q : Int) : Bool := wi p 0 ((a.accept.length : Int) - 1) && wi q 0 ((a.accept.length : Int) - 1) && auOk a
theorem stB_iff {a : Au} {p q : Int} : stB a p q = true ↔ (0 ≤ p ∧ p < (a.accept.length : Int)) ∧ (0 ≤ q ∧ q < (a.accept.length : Int)) ∧ auOk a = true := by
  rw [stB, Bool.and_eq_true, Bool.and_eq_true, wi_iff, wi_iff]
  constructor
  · rintro ⟨⟨h1, h2⟩, h3⟩; exact ⟨by omega, by omega, h3⟩
  · rintro ⟨h1, h2, h3⟩; exact ⟨⟨by omega, by omega⟩, h3⟩
def imgA (a : Au) (p q : Int) : List Int := ascL (outP q (imgEnd a p q))
theorem imgA_mem {a : Au} (h : auOk a = true) {p q x : Int} (hx : x ∈ imgA a p q) : -1 ≤ x ∧ x < (a.accept.length : Int) := by
  rw [imgA, (ascL_spec _).2] at hx
  exact (outP_good (imgP_good (mvP_bd h) 9 (p, q) _)).2 x hx
theorem asc_len {N : Nat} {l : List Int} (h : l.Pairwise (· < ·)) (hb : ∀ x ∈ l, -1 ≤ x ∧ x < (N : Int)) : l.length ≤ N + 1 := by
  have h1 := nodup_subN (l.map fun x => (x + 1).toNat) (List.range (N + 1)) ?_ ?_
  · simpa using h1
  · rw [List.Nodup, List.pairwise_map]
    refine List.Pairwise.imp_of_mem ?_ h
    intro x y hx hy hlt e
    have := hb x hx
    have := hb y hy
    omega
  · intro n hn
    obtain ⟨x, hx, rfl⟩ := List.mem_map.1 hn
    have := hb x hx
    rw [List.mem_range]; omega
theorem imgA_len {a : Au} (h : auOk a = true) (p q : Int) : (imgA a p q).length ≤ 13 := by
  have h1 := asc_len (ascL_spec (outP q (imgEnd a p q))).1 (fun x hx => imgA_mem h (p := p) (q := q) hx)
  have h2 := (auOk_iff.1 h).1.2
  show (ascL _).length ≤ 13
  omega
def loopL (a : Au) (p q : Int) : List Int := if stB a p q = true then imgA a p q else []
theorem loopL_len (a : Au) (p q : Int) : (loopL a p q).length ≤ 13 := by
  unfold loopL
  split
  · rename_i h
    exact imgA_len (stB_iff.1 h).2.2 p q
  · simp
set_option maxHeartbeats 1000000 in
theorem implLoopImages (v : Value) (a : Au) (p q : Int) (w : World) (hv : AuV 0 w.heap.size w v a) :
    Calls Try.prog 11 #[v, .int .i64 p, .int .i64 q] w fun e w' => ∃ v', e = .returned v' ∧ Own w.heap.size w'.heap.size w' 3 cI 1 v' (loopL a p q) ∧ Below w.heap.size w w' := by
  have hv0 := hv
  obtain ⟨A1, n1, c1, A2, n2, c2, rfl⟩ := hv.shape
  clear hv
  have hb0 : Below w.heap.size w (w.alloc (.cells #[.int .i64 a.start, .slice A1 n1 c1, .slice A2 n2 c2] 27)) := (Below.refl _ _).alloc (Nat.le_refl _) _
  have hb1 : Below w.heap.size w ((w.alloc (.cells #[.int .i64 a.start, .slice A1 n1 c1, .slice A2 n2 c2] 27)).alloc (.cells #[.int .i64 p, .int .i64 q] 3)) := hb0.alloc (by simp) _
  have hst : SlE ((w.alloc (.cells #[.int .i64 a.start, .slice A1 n1 c1, .slice A2 n2 c2] 27)).alloc (.cells #[.int .i64 p, .int .i64 q] 3)) cI 1 (.slice (some ⟨w.heap.size + 1, 0, none⟩) 2 2) [p, q] := by
    have h := Own.of_row (xs := [p, q]) (E := cI) (World.ownsRow_lit (base := 0) (e := 3) (size := 1) (w.alloc (.cells #[.int .i64 a.start, .slice A1 n1 c1, .slice A2 n2 c2] 27)) #[.int .i64 p, .int .i64 q] 2 (Nat.zero_le _) (by decide) rfl) rfl rfl
    have h2 := h.sl cI_len
    simpa [SlE] using h2
  have hok := statesOk_any _ _ a [p, q] _ (hv0.keep hb1) hst
  simp only [List.all_cons, List.all_nil, Bool.and_true] at hok
  obtain ⟨R, hR⟩ : ∃ R, R = loopL a p q := ⟨_, rfl⟩
  rw [← hR]
  have HR := Lib.hid hR
  have HOK := Lib.hid hok
  have HV := Lib.hid hv0
  clear hok hst hR hv0
  by_cases g : stB a p q = true
  · have hg := stB_iff.1 g
    have HF := Lib.hid (HR.out.trans (show loopL a p q = imgA a p q from if_pos g))
    have HG := Lib.hid g
    have HI := Lib.hid (fun (W : World) (hW : Below w.heap.size w W) => images_any (H := Unit) _ a p q W (HV.out.keep hW) hg.2.2 (by omega) hg.2.1)
    clear g hg HR
    go_enter Try.func11, Try.ntmps11
    go_wp2_with fail
    refine HOK.out.mono ?_
    rintro e w1 ⟨rfl, hb2⟩
    rw [show (wi p 0 ((a.accept.length : Int) - 1) && wi q 0 ((a.accept.length : Int) - 1) && auOk a) = true from HG.out]
    have b0 := ((Blk.new w _ _ w.heap.size rfl).alloc _).keep hb2
    have x0 : w1.cell? ⟨w.heap.size, 0, none⟩ = some _ := b0.cell 0
    have x1 : w1.cell? ⟨w.heap.size, 1, none⟩ = some _ := b0.cell 1
    have x2 : w1.cell? ⟨w.heap.size, 2, none⟩ = some _ := b0.cell 2
    have hb3 := below_trans hb1 hb2
    clear hb2 b0
    go_wp2_with fail
    refine (HI.out _ hb3).mono ?_
    rintro e w2 ⟨v2, rfl, ho, hb4⟩
    have HO := Lib.hid (ho.mono hb3.size (Nat.le_refl _))
    obtain ⟨A9, n9, c9, rfl⟩ := ho.shape
    have HB := Lib.hid (below_trans hb3 hb4)
    clear ho hb4
    go_wp2_with fail
    go_ret
    rw [HF.out]
    exact ⟨_, rfl, HO.out, HB.out⟩
  · have HF := Lib.hid (HR.out.trans (show loopL a p q = [] from if_neg g))
    have HG := Lib.hid (show stB a p q = false by simpa using g)
    clear g HR
    go_enter Try.func11, Try.ntmps11
    go_wp2_with fail
    refine HOK.out.mono ?_
    rintro e w1 ⟨rfl, hb2⟩
    rw [show (wi p 0 ((a.accept.length : Int) - 1) && wi q 0 ((a.accept.length : Int) - 1) && auOk a) = false from HG.out]
    have hb3 := below_trans hb1 hb2
    clear hb2
    go_wp2_with fail
    go_ret
    rw [HF.out]
    exact ⟨_, rfl, Own.nil _ _ _ _ _ _, hb3⟩
set_option maxHeartbeats 1000000 in
theorem specLoopImages (v : Value) (a : Au) (p q : Int) (w : World) (hv : AuV 0 w.heap.size w v a) :
    Calls Try.prog 12 #[v, .int .i64 p, .int .i64 q] w fun e w' => ∃ v', e = .returned v' ∧ Own w.heap.size w'.heap.size w' 3 cI 1 v' (loopL a p q) ∧ Below w.heap.size w w' := by
  have hv0 := hv
  obtain ⟨A1, n1, c1, A2, n2, c2, rfl⟩ := hv.shape
  clear hv
  have hb0 : Below w.heap.size w (w.alloc (.cells #[.int .i64 a.start, .slice A1 n1 c1, .slice A2 n2 c2] 27)) := (Below.refl _ _).alloc (Nat.le_refl _) _
  obtain ⟨R, hR⟩ : ∃ R, R = loopL a p q := ⟨_, rfl⟩
  rw [← hR]
  have HR := Lib.hid hR
  have HV := Lib.hid hv0
  have HST := Lib.hid (fun (s : Int) (W : World) (hW : Below w.heap.size w W) => l22State_any _ a s W (HV.out.keep hW))
  clear hR hv0
  cases g1 : (auOk a && wi p 0 ((a.accept.length : Int) - 1)) with
  | false =>
    have HF := Lib.hid (HR.out.trans (show loopL a p q = [] from if_neg (by intro h; have h2 := stB_iff.1 h; rw [h2.2.2, Bool.true_and, wi_iff.2 ⟨h2.1.1, by omega⟩] at g1; cases g1)))
    have HG1 := Lib.hid g1
    clear g1 HR
    go_enter Try.func12, Try.ntmps12
    go_wp2_with fail
    refine (HST.out p _ hb0).mono ?_
    rintro e w1 ⟨rfl, hb1⟩
    rw [HG1.out]
    have hb2 := below_trans hb0 hb1
    clear hb1
    go_wp2_with fail
    go_ret
    rw [HF.out]
    exact ⟨_, rfl, lit_nilL hb2.size, hb2.alloc hb2.size _⟩
  | true =>
    have HG1 := Lib.hid g1
    cases g2 : (auOk a && wi q 0 ((a.accept.length : Int) - 1)) with
    | false =>
      have HF := Lib.hid (HR.out.trans (show loopL a p q = [] from if_neg (by intro h; have h2 := stB_iff.1 h; rw [h2.2.2, Bool.true_and, wi_iff.2 ⟨h2.2.1.1, by omega⟩] at g2; cases g2)))
      have HG2 := Lib.hid g2
      clear g1 g2 HR
      go_enter Try.func12, Try.ntmps12
      go_wp2_with fail
      refine (HST.out p _ hb0).mono ?_
      rintro e w1 ⟨rfl, hb1⟩
      rw [HG1.out]
      have b0 := (Blk.new w _ _ w.heap.size rfl).keep hb1
      have x0 : w1.cell? ⟨w.heap.size, 0, none⟩ = some _ := b0.cell 0
      have x1 : w1.cell? ⟨w.heap.size, 1, none⟩ = some _ := b0.cell 1
      have x2 : w1.cell? ⟨w.heap.size, 2, none⟩ = some _ := b0.cell 2
      have hb2 := below_trans hb0 hb1
      clear hb1 b0
      go_wp2_with fail
      refine (HST.out q _ hb2).mono ?_
      rintro e w2 ⟨rfl, hb3⟩
      rw [HG2.out]
      have hb4 := below_trans hb2 hb3
      clear hb3
      go_wp2_with fail
      go_ret
      rw [HF.out]
      exact ⟨_, rfl, lit_nilL hb4.size, hb4.alloc hb4.size _⟩
    | true =>
      have hs : stB a p q = true := by
        simp only [Bool.and_eq_true] at g1 g2
        rw [stB, g1.2, g2.2, g1.1]; rfl
      have HF := Lib.hid (HR.out.trans (show loopL a p q = imgA a p q from if_pos hs))
      have hg := stB_iff.1 hs
      have HI := Lib.hid (fun (W : World) (hW : Below w.heap.size w W) => l22Images_any _ a p q W (HV.out.keep hW) hg.2.2 (by omega) hg.2.1)
      have HG2 := Lib.hid g2
      clear g1 g2 HR hs hg
      go_enter Try.func12, Try.ntmps12
      go_wp2_with fail
      refine (HST.out p _ hb0).mono ?_
      rintro e w1 ⟨rfl, hb1⟩
      rw [HG1.out]
      have b0 := (Blk.new w _ _ w.heap.size rfl).keep hb1
      have x0 : w1.cell? ⟨w.heap.size, 0, none⟩ = some _ := b0.cell 0
      have x1 : w1.cell? ⟨w.heap.size, 1, none⟩ = some _ := b0.cell 1
      have x2 : w1.cell? ⟨w.heap.size, 2, none⟩ = some _ := b0.cell 2
      have hb2 := below_trans hb0 hb1
      clear hb1
      go_wp2_with fail
      refine (HST.out q _ hb2).mono ?_
      rintro e w2 ⟨rfl, hb3⟩
      rw [HG2.out]
      have b1 := b0.keep hb3
      have x0 : w2.cell? ⟨w.heap.size, 0, none⟩ = some _ := b1.cell 0
      have x1 : w2.cell? ⟨w.heap.size, 1, none⟩ = some _ := b1.cell 1
      have x2 : w2.cell? ⟨w.heap.size, 2, none⟩ = some _ := b1.cell 2
      have hb4 := below_trans hb2 hb3
      clear hb3 b0 b1
      go_wp2_with fail
      refine (HI.out _ hb4).mono ?_
      rintro e w5 ⟨v5, rfl, ho, hb5⟩
      have HO := Lib.hid (ho.mono hb4.size (Nat.le_refl _))
      obtain ⟨A9, n9, c9, rfl⟩ := ho.shape
      have HB := Lib.hid (below_trans hb4 hb5)
      clear ho hb5
      go_wp2_with fail
      go_ret
      rw [HF.out]
      exact ⟨_, rfl, HO.out, HB.out⟩
end Go.Proofs.Ytallglnmeeahiaa

