/- The program's 'found': the states that are reached from Start. -/
import Derived.Test.YtbhmgpclakkgbaaReach
import Derived.Test.YtbhmgpclakkgbaaQueue
import Derived.Test.YtbhmgpclakkgbaaHelpInt
import Derived.Test.YtbhmgpclakkgbaaHelpBool
import Derived.Test.YtbhmgpclakkgbaaAutI
import Derived.Deep.LoopGhost
namespace Go.Proofs.Ytbhmgpclakkgbaa
set_option linter.unusedVariables false
set_option linter.unusedSimpArgs false
open Go.ChangeShapes Go.WideShapes Go.ChangeAt Go.RowKit
attribute [local go_sem] ext_cell ext_frozen ext_lt ext_lt1 ext_lt2 ext_lt3

theorem flatB_at {bs : List Bool} {t : Nat} {b : Bool} (h : bs[t]? = some b) : (bs.flatMap cB)[t]? = some (.bool b) := by
  have := flat_at cB_len h 0 _ rfl
  simpa using this
theorem flatI_at {xs : List Int} {t : Nat} {x : Int} (h : xs[t]? = some x) : (xs.flatMap cI)[t]? = some (.int .i64 x) := by
  have := flat_at cI_len h 0 _ rfl
  simpa using this
theorem flatB_set (bs : List Bool) (t : Nat) (b : Bool) : (bs.flatMap cB).set t (.bool b) = (bs.set t b).flatMap cB := by
  induction bs generalizing t with
  | nil => simp
  | cons x bs ih =>
    cases t with
    | zero => rfl
    | succ t =>
      have := ih t
      simp only [List.set_cons_succ, List.flatMap_cons, cB, List.cons_append, List.nil_append] at this ⊢
      rw [this]

theorem BfsOut_nonempty {nx : List (List Int)} {n st : Nat} {bs : List Bool} {q : List Int} (hb : BfsOut nx n st bs q) : 1 ≤ trues bs ∧ trues bs ≤ n := by
  refine ⟨?_, hb.len ▸ trues_le bs⟩
  have := List.mem_of_getElem? hb.start
  exact List.count_pos_iff.2 this

set_option maxHeartbeats 4000000 in
set_option maxRecDepth 100000 in
theorem found_any (v : Value) (a : Au) (w : World) (hv : AuV 0 w.heap.size w v a) (hok : auOk a = true) :
    Calls Try.prog 68 #[v] w fun e w' => ∃ v' bs, e = .returned v' ∧ Own w.heap.size w'.heap.size w' 4 cB 1 v' bs ∧ Below w.heap.size w w' ∧ bs.length = a.accept.length ∧ ∀ t : Nat, bs[t]? = some true ↔ Reach a.next a.start.toNat t := by
  obtain ⟨⟨hn1, hn2⟩, ⟨hs1, hs2⟩, hnl, hrok⟩ := auOk_iff.1 hok
  obtain ⟨st, accept, next⟩ := a
  simp only at *
  obtain ⟨st, rfl⟩ := Int.eq_ofNat_of_zero_le hs1
  obtain ⟨ac, nx, rfl, ⟨A1, c1, rfl, hl1, hm1, -⟩, us, ⟨A2, c2, rfl, hl2, hm2, hx2⟩, hul, hrows⟩ := hv
  simp only at *
  rw [hul] at hl2 ⊢
  have HU := Lib.hid hul
  have HNL := Lib.hid hnl
  have HOK := Lib.hid hok
  have hnlt : next.length ≤ 12 := by omega
  clear hul hnl hok
  unfold maxLen at hm1 hm2
  have HX2 := Lib.hid hx2
  have HR := Lib.hid hrows
  clear hx2 hrows
  go_enter Try.func68, Try.ntmps68
  go_wp2_with (at_make; refine wpList_makeE (P := Try.prog) cB false elBool rfl rfl rfl _ _ rfl (w.heap.size + 1) accept.length _ (by rfl) (by rfl) rfl (by omega) (by unfold maxLen; omega) (by simp) ?_; intro w1 hrow1 hbel1
               have b0 := (Blk.new w _ _ w.heap.size rfl).below hbel1 (by simp)
               have hb1 : Below w.heap.size w w1 := ((Below.refl _ _).alloc (Nat.le_refl _) _).trans (hbel1.mono (by simp))
               simp only [World.size_alloc] at hrow1 ⊢
               have hsz := (hrow1.lt (w.heap.size + 1) rfl).2
               have d0 := World.ownsRow.cellAt hrow1 st (by omega)
               rw [flatB_at (b := false) (by rw [List.getElem?_replicate, if_pos (by omega)])] at d0
               have f0 := World.ownsRow.frozenAt hrow1 st
               have hst := (World.ownsRow.stored hrow1 st (.bool true)).1
               rw [flatB_set] at hst
               have HST := Lib.hid hst
               have x0 : w1.cell? ⟨w.heap.size, 0, none⟩ = some (.int .i64 (st : Int)) := b0.cell 0
               clear hbel1 hrow1 hst)
  have hW : ∀ u : Nat, Below w.heap.size w ((w1.setCell ⟨w.heap.size + 1, st, none⟩ (.bool true)).alloc (.cells #[.int .i64 (st : Int)] 3)) ∧ u = u := fun (_ : Nat) => ⟨(hb1.setCell (p := ⟨w.heap.size + 1, st, none⟩) (Nat.le_succ _) _).alloc (by simp <;> omega) _, rfl⟩
  go_loopg [4] (2 * accept.length + 1) (fun k qv wr => ∃ (bs : List Bool) (q : List Int), 2 * (accept.length - trues bs) + q.length ≤ k ∧ k ≤ 25 ∧ BfsOut next accept.length st bs q ∧
      wr.ownsRow (w.heap.size + 1) 4 1 (.slice (some ⟨w.heap.size + 1, 0, none⟩) accept.length accept.length) accept.length (bs.flatMap cB) ∧
      QRow wr (w.heap.size + 2) 3 1 qv q.length (q.flatMap cI) ∧ Below w.heap.size w wr ∧ Blk wr w.heap.size 28 #[.int .i64 (st : Int), .slice A1 accept.length c1, .slice A2 next.length c2])
  case atStart =>
    refine ⟨_, [(st : Int)], ?_, by omega, BfsOut.init (by omega), HST.out.alloc _, ?_, (hW 0).1, (b0.far (by simp) _).alloc _⟩
    · simp; omega
    · have hz := QRow.of_own (World.ownsRow_lit (base := w.heap.size + 2) (e := 3) (size := 1) (w1.setCell ⟨w.heap.size + 1, st, none⟩ (.bool true)) #[.int .i64 (st : Int)] 1 (by simp <;> omega) (by decide) rfl)
      simpa [cI] using hz
  case round =>
    obtain ⟨bs, q, hgk, hg25, hbfs, hrow, hq, hbel, hblk⟩ := hrel
    clear hW hb1 b0 d0 f0 x0
    have hsz1 : w.heap.size + 1 < wr.heap.size := (hrow.lt (w.heap.size + 1) rfl).2
    cases q with
    | nil =>
      have hfin := hbfs.fin
      have hlen := hbfs.len
      have HF := Lib.hid hfin
      have HL := Lib.hid hlen
      have HRW := Lib.hid hrow
      obtain ⟨A4, c4, rfl, hc4, hc5⟩ := hq.shape
      clear hfin hlen hrow hgk hbfs hq
      simp only [List.length_nil] at *
      go_wp2_with fail
      go_ret
      exact ⟨_, bs, rfl, (Own.of_row HRW.out HL.out rfl).mono (Nat.le_succ _) (Nat.le_refl _), hbel, HL.out, by simpa using HF.out⟩
    | cons h q =>
      obtain ⟨hh0, hhb⟩ := hbfs.queue h (by simp)
      obtain ⟨h, rfl⟩ := Int.eq_ofNat_of_zero_le hh0
      rw [Int.toNat_natCast] at hhb
      have hhn : h < accept.length := by have := (List.getElem?_eq_some_iff.1 hhb).1; rw [hbfs.len] at this; exact this
      have hhx : h < next.length := by have := HNL.out; omega
      have hxi : next[h]? = some next[h] := List.getElem?_eq_getElem hhx
      obtain ⟨u, hu⟩ : ∃ u, us[h]? = some u := ⟨_, List.getElem?_eq_getElem (by have := HU.out; omega)⟩
      obtain ⟨b2, o2, rfl, -, hb2, hc2⟩ := HX2.out h u hu
      have hvi := HR.out h u _ hu hxi
      have hrk := hrok _ (List.getElem_mem hhx)
      generalize next[h] = row at hvi hxi hrk
      obtain ⟨A3, c3, rfl, hl3, hm3, hx3⟩ := hvi
      unfold maxLen at hm3
      have d2 := (hbel.cell (p := ⟨b2, o2 + h * 1 + 0, none⟩) hb2).trans (hc2 0 _ rfl)
      simp only [Nat.mul_one, Nat.add_zero] at d2
      obtain ⟨hrow1, hrow9⟩ := rowOk_iff.1 hrk
      obtain ⟨g, o, c, rfl, hlg, hgl, hcell⟩ := hq.cell (by simp)
      have d3 := hcell 0 _ rfl
      simp only [Nat.add_zero] at d3
      have hgw : (g : Nat) < wr.heap.size := hgl
      have hb2w : b2 < wr.heap.size := by have := hbel.size; omega
      have d1 : wr.cell? ⟨w.heap.size, 2, none⟩ = some (.slice (some ⟨b2, o2, none⟩) next.length c2) := hblk.cell 2
      have hzw : w.heap.size < wr.heap.size := by omega
      have hbin := hbfs.enter hxi
      have hqs := hq.shape
      clear hc2 hu hhb hcell hbfs hqs hrk
      have HQ := Lib.hid hq
      have HRW := Lib.hid hrow
      have HB := Lib.hid hblk
      have HX := Lib.hid hxi
      have H3 := Lib.hid hx3
      have HR1 := Lib.hid hrow1
      have HR9 := Lib.hid hrow9
      have hrl : row.length ≤ 9 := by omega
      clear hq hrow hblk hxi hx3 hrow1 hrow9 hh0
      simp only [List.length_cons] at hgk ⊢
      go_wp2_with fail
      refine wp_region_ext_lit (by kernel_rfl) (by kernel_rfl) ?_
      repeat (go_big_quiet_step (fail))
      refine wpQuiet_nil ?_
      intro _ hw'
      obtain ⟨u2, hw''⟩ := hw'
      subst hw''
      go_wp2_with fail
      have hbx := ext_below wr u2
      have hroom := ownsRow_below HRW.out hbx (Nat.le_refl _)
      have hqx := HQ.out.below hbx (Nat.le_refl _)
      have hbelx := hbel.trans (hbx.mono hbel.size)
      have hblx := HB.out.below hbx hzw
      generalize ext wr u2 = wx at hroom hqx hbelx hblx ⊢
      go_loopw [4, 31] (fun qv jj w' => ∃ (j : Nat) (bs : List Bool) (q : List Int), j ≤ row.length ∧ jj = .int .i64 j ∧ 2 * (accept.length - trues bs) + (q.length + 1) ≤ gk ∧ BfsIn next accept.length st bs h q row j ∧
        w'.ownsRow (w.heap.size + 1) 4 1 (.slice (some ⟨w.heap.size + 1, 0, none⟩) accept.length accept.length) accept.length (bs.flatMap cB) ∧
        QRow w' (w.heap.size + 2) 3 1 qv (q.length + 1) (((h : Int) :: q).flatMap cI) ∧ Below w.heap.size w w' ∧ Blk w' w.heap.size 28 #[.int .i64 (st : Int), .slice A1 accept.length c1, .slice (some ⟨b2, o2, none⟩) next.length c2]) (fun _ jj _ => row.length - (intOf jj).toNat)
      case atStart => exact ⟨0, bs, q, Nat.zero_le _, rfl, hgk, hbin, hroom, hqx, hbelx, hblx⟩
      case round =>
        clear hroom hqx hbelx hblx hbin hbx hbel hgk d1 d2 d3 hgw hb2w hgl hzw hsz1
        obtain ⟨j, bs, q, hj, rfl, hgk, hbin, hrow, hq, hbel, hblk⟩ := hrel
        have hsz1 : w.heap.size + 1 < wr.heap.size := (hrow.lt (w.heap.size + 1) rfl).2
        by_cases hlt : j < row.length
        · have hxj : row[j]? = some row[j] := List.getElem?_eq_getElem hlt
          have hrt := HR1.out _ (List.getElem_mem hlt)
          generalize row[j] = t at hxj hrt
          obtain ⟨b3, o3, rfl, -, hb3, hc3⟩ := H3.out j t hxj
          have d5 := (hbel.cell (p := ⟨b3, o3 + j * 1 + 0, none⟩) hb3).trans (hc3 0 _ rfl)
          simp only [Nat.mul_one, Nat.add_zero] at d5
          obtain ⟨ht1, ht2⟩ := hrt
          clear hc3
          by_cases ht0 : t < 0
          · have hbin2 := hbin.hit hxj (.inl ht0)
            have HRW := Lib.hid hrow
            have HQ := Lib.hid hq
            have HB := Lib.hid hblk
            have ht0' : decide (t ≥ 0) = false := by simp; omega
            clear hrow hq hblk hxj hbin
            go_wp2_with fail
            go_roundw
            case rel => exact ⟨j + 1, bs, q, by omega, by go_num, hgk, hbin2, HRW.out, HQ.out, hbel, HB.out⟩
            case measure => simp [intOf]; omega
          · obtain ⟨t, rfl⟩ := Int.eq_ofNat_of_zero_le (show 0 ≤ t by omega)
            have htn : t < accept.length := by omega
            obtain ⟨b, hb⟩ : ∃ b, bs[t]? = some b := ⟨_, List.getElem?_eq_getElem (by rw [hbin.len]; exact htn)⟩
            have d6 := World.ownsRow.cellAt hrow t (by omega)
            rw [flatB_at hb] at d6
            have f6 := World.ownsRow.frozenAt hrow t
            cases b with
            | true =>
              have hbin2 := hbin.hit hxj (.inr (by simpa using hb))
              have HRW := Lib.hid hrow
              have HQ := Lib.hid hq
              have HB := Lib.hid hblk
              clear hrow hq hblk hxj hbin hb f6
              go_wp2_with fail
              go_roundw
              case rel => exact ⟨j + 1, bs, q, by omega, by go_num, hgk, hbin2, HRW.out, HQ.out, hbel, HB.out⟩
              case measure => simp [intOf]; omega
            | false =>
              have hbin2 := hbin.new hxj htn
              have htr := trues_set hb
              have htl := trues_le (bs.set t true)
              rw [List.length_set, hbin.len] at htl
              have hrow2 := (World.ownsRow.stored hrow t (.bool true)).1
              rw [flatB_set] at hrow2
              have hq2 := hq.only ((Only.refl (w.heap.size + 1) (w.heap.size + 2) wr).setCell (p := ⟨w.heap.size + 1, t, none⟩) (.inl ⟨Nat.le_refl _, Nat.lt_succ_self _⟩) (.bool true)) (fun g hg => .inr (hq.lt g hg).1)
              have hblk2 := hblk.far (p := ⟨w.heap.size + 1, t, none⟩) (by simp) (.bool true)
              have hbel2 := hbel.setCell (p := ⟨w.heap.size + 1, t, none⟩) (Nat.le_succ _) (.bool true)
              have HRW := Lib.hid hrow2
              have HQ := Lib.hid hq2
              have HB := Lib.hid hblk2
              have hgk2 : 2 * (accept.length - trues (bs.set t true)) + ((q.length + 1) + 1) ≤ gk := by omega
              have hql : q.length + 1 ≤ 40 := by omega
              clear hrow hq hblk hxj hbin hb hrow2 hq2 hblk2 htr htl
              go_wp2_with (at_builtin; go_loud (refine wpList_appendQ1 cI elInt rfl _ _ rfl (w.heap.size + 2) u4 ((h : Int) :: q) ((t : Nat) : Int) _ 1 wr.heap.size (by rfl) HQ.out (by rfl) (by simp) rfl rfl (cI_one _) (by simp only [List.length_cons]; omega) (by omega) (by simp <;> omega) ?_); intro v' w1 hq3 hb1 _ _)
              go_roundw
              case rel => exact ⟨j + 1, bs.set t true, q ++ [(t : Int)], by omega, by go_num, by simpa using hgk2, hbin2, ownsRow_below' HRW.out hb1 (Nat.lt_succ_self _), by simpa using hq3, hbel2.trans (hb1.mono (by omega)), HB.out.below hb1 (by omega)⟩
              case measure => simp [intOf]; omega
        · obtain rfl : j = row.length := by omega
          have hout := hbin.leave
          obtain ⟨A6, c6, h6, hc5, hc6⟩ := hq.shape
          obtain ⟨g5, o5, c5, rfl, -, -, -⟩ := hq.cell (by omega)
          obtain rfl : c5 = c6 := by injection h6
          have htail := hq.tail rfl
          simp only [List.flatMap_cons, cI, List.cons_append, List.nil_append, List.drop_succ_cons, List.drop_zero] at htail
          have HRW := Lib.hid hrow
          have HB := Lib.hid hblk
          unfold maxLen at hc6
          have hkk : 2 * (accept.length - trues bs) + q.length < gk := by omega
          clear hrow hq hblk hbin h6
          by_cases hc1 : c5 = 1
          · subst hc1
            obtain rfl : q = [] := List.eq_nil_of_length_eq_zero (by omega)
            rw [if_pos rfl] at htail
            simp only [List.length_nil] at *
            have HT := Lib.hid htail
            clear htail
            go_wp2_with fail
            go_roundg (2 * (accept.length - trues bs) + 0)
            case measure => exact hkk
            case rel => exact ⟨bs, [], Nat.le_refl _, by omega, hout, HRW.out, HT.out, hbel, HB.out⟩
          · rw [if_neg hc1] at htail
            have HT := Lib.hid htail
            clear htail
            go_wp2_with fail
            go_roundg (2 * (accept.length - trues bs) + q.length)
            case measure => exact hkk
            case rel => exact ⟨bs, q, Nat.le_refl _, by omega, hout, HRW.out, HT.out, hbel, HB.out⟩
end Go.Proofs.Ytbhmgpclakkgbaa
