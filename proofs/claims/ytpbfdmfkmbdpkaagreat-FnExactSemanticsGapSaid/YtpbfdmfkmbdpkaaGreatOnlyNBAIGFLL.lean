/- Parts of the proof, joined into one text: AllA, GapM, ShelfP, PKey, PairI, RelS, RelI, SubI. -/
import Derived.Test.YtpbfdmfkmbdpkaaGreatOnlyABLIKKIH
import Derived.Test.YtpbfdmfkmbdpkaaGreatOnlyOFHCLODM
import Derived.Test.YtpbfdmfkmbdpkaaGreatOnlyINGCLGOJ
import Derived.Shelf.SlGeneric
import Derived.Shelf.SlSortCmp.WholeK
import Derived.Ground.SlsfProg
import Derived.Test.YtpbfdmfkmbdpkaaGreatProg
import Derived.Test.YtpbfdmfkmbdpkaaGreatOnlyIPOAJNAI
import Derived.Lib.SliceRun
import Derived.Test.YtpbfdmfkmbdpkaaGreatOnlyFIIKIIGF
namespace Go.Proofs.YtpbfdmfkmbdpkaaGreat
set_option linter.unusedVariables false
set_option linter.unusedSimpArgs false
open Go.ChangeShapes Go.WideShapes Go.ChangeAt Go.RowKit
attribute [local go_sem] ext_cell ext_frozen ext_lt ext_lt1 ext_lt2 ext_lt3 ltn2 ltn3 ltn13 lts1 lts2 lts3
def allRow (g : Gr) (a : Au) (x k : Nat) : List Pr := ((ansL g a (x : Int)).take k).map fun y => ((x : Int), y)
def allTo (g : Gr) (a : Au) (i : Nat) : List Pr := (List.range i).flatMap fun (x : Nat) => allRow g a x (ansL g a (x : Int)).length
def allL (g : Gr) (a : Au) : List Pr := if (grOk g && auOk a) = true then allTo g a g.vals.length else []
theorem allRow_zero (g : Gr) (a : Au) (x : Nat) : allRow g a x 0 = [] := by simp [allRow]
theorem allRow_snoc {g : Gr} {a : Au} {x k : Nat} {y : Int} (h : (ansL g a (x : Int))[k]? = some y) : allRow g a x (k + 1) = allRow g a x k ++ [((x : Int), y)] := by
  rw [allRow, take_snoc h, List.map_append]; rfl
theorem allRow_len (g : Gr) (a : Au) (x k : Nat) : (allRow g a x k).length ≤ 30 := by
  have := ansL_len g a (x : Int)
  simp only [allRow, List.length_map, List.length_take]; omega
theorem allTo_snoc (g : Gr) (a : Au) (i : Nat) : allTo g a (i + 1) = allTo g a i ++ allRow g a i (ansL g a (i : Int)).length := by
  simp [allTo, List.range_succ]
theorem allTo_len (g : Gr) (a : Au) (i : Nat) : (allTo g a i).length ≤ 30 * i := by
  induction i with
  | zero => simp [allTo]
  | succ i ih =>
    have := allRow_len g a i (ansL g a (i : Int)).length
    rw [allTo_snoc, List.length_append]; omega
theorem allL_len (g : Gr) (a : Au) : (allL g a).length ≤ 150 := by
  unfold allL
  split
  · rename_i h
    simp only [Bool.and_eq_true] at h
    have := (grOk_iff.1 h.1).n5
    have := allTo_len g a g.vals.length
    omega
  · simp
set_option maxHeartbeats 4000000 in
set_option maxRecDepth 100000 in
theorem implAllAnswers (vg va : Value) (g : Gr) (a : Au) (w : World) (hgv : GrV 0 w.heap.size w vg g) (hav : AuV 0 w.heap.size w va a) :
    Calls Tryz.prog 33 #[vg, va] w fun e w' => ∃ v', e = .returned v' ∧ Own w.heap.size w'.heap.size w' 63 cPr 2 v' (allL g a) ∧ Below w.heap.size w w' := by
  obtain ⟨R, hR⟩ : ∃ R, R = allL g a := ⟨_, rfl⟩
  rw [← hR]
  have hgv0 := hgv
  have hav0 := hav
  obtain ⟨A1, c1, A2, c2, rfl, hl1, hm1, hl2, hm2, -, -⟩ := hgv.form
  obtain ⟨A3, n3, c3, A4, n4, c4, rfl⟩ := hav.shape
  have hb0 : Below w.heap.size w ((w.alloc (.cells #[.slice A1 g.vals.length c1, .slice A2 g.edges.length c2] 36)).alloc (.cells #[.int .i64 a.start, .slice A3 n3 c3, .slice A4 n4 c4] 38)) := ((Below.refl _ _).alloc (Nat.le_refl _) _).alloc (by simp) _
  have HGV := Lib.hid hgv0
  have HAV := Lib.hid hav0
  have HRR := Lib.hid hR
  clear hgv hav hgv0 hav0 hR
  go_enter Tryz.func33, Tryz.ntmps33
  go_wp2_with fail
  obtain ⟨W0, hW0⟩ : ∃ W0, W0 = ((w.alloc (.cells #[.slice A1 g.vals.length c1, .slice A2 g.edges.length c2] 36)).alloc (.cells #[.int .i64 a.start, .slice A3 n3 c3, .slice A4 n4 c4] 38)) := ⟨_, rfl⟩
  rw [← hW0] at hb0 ⊢
  have x0 : W0.cell? ⟨w.heap.size, 0, none⟩ = some (.slice A1 g.vals.length c1) := by rw [hW0]; simp
  have x1 : W0.cell? ⟨w.heap.size, 1, none⟩ = some (.slice A2 g.edges.length c2) := by rw [hW0]; simp
  have y0 : W0.cell? ⟨w.heap.size + 1, 0, none⟩ = some (.int .i64 a.start) := by rw [hW0]; simp
  have y1 : W0.cell? ⟨w.heap.size + 1, 1, none⟩ = some (.slice A3 n3 c3) := by rw [hW0]; simp
  have y2 : W0.cell? ⟨w.heap.size + 1, 2, none⟩ = some (.slice A4 n4 c4) := by rw [hW0]; simp
  have hs0 : w.heap.size + 1 + 1 = W0.heap.size := by rw [hW0]; simp
  try rw [hs0]
  have l0 : w.heap.size + 1 < W0.heap.size := by omega
  have l00 : w.heap.size < W0.heap.size := by omega
  clear hW0 hs0
  have hbo := bothOk_any _ _ (.slice none 0 0) g a [] W0 (HGV.out.keep hb0) (HAV.out.keep hb0) (SlI.nil _ _ _ _ _)
  rw [List.all_nil, Bool.true_and] at hbo
  have HBO := Lib.hid hbo
  have hR := HRR.out
  rw [allL] at hR
  clear hbo HRR
  cases hk : (grOk g && auOk a) with
  | false =>
    rw [hk] at HBO hR
    have hr0 : R = [] := hR
    subst hr0
    clear hk hR
    refine HBO.out.mono ?_
    rintro e w1 ⟨rfl, hb1⟩
    go_wp2_with fail
    go_ret
    exact ⟨_, rfl, Own.nil _ _ _ _ _ _, below_trans hb0 hb1⟩
  | true =>
    rw [hk] at HBO hR
    have hT2 : R = allTo g a g.vals.length := hR
    have hn5 := (grOk_iff.1 (Bool.and_eq_true .. ▸ hk).1).n5
    have HR := Lib.hid hT2
    clear hk hR hT2
    refine HBO.out.mono ?_
    rintro e w1 ⟨rfl, hb1⟩
    have x0 := kcell hb1 x0
    have x1 := kcell hb1 x1
    have y0 := kcell hb1 y0
    have y1 := kcell hb1 y1
    have y2 := kcell hb1 y2
    have hb2 := below_trans hb0 hb1
    have l0 := Nat.lt_of_lt_of_le l0 hb1.size
    have l00 := Nat.lt_of_lt_of_le l00 hb1.size
    clear hb1 hb0 HBO
    go_wp2_with fail
    obtain ⟨gO, hgO⟩ : ∃ gO, gO = w1.heap.size := ⟨_, rfl⟩
    obtain ⟨W5, hW5⟩ : ∃ W5, W5 = w1.alloc (.cells #[] 63) := ⟨_, rfl⟩
    have hrow0 : W5.ownsRow gO 63 2 (.slice (some ⟨gO, 0, none⟩) 0 0) ([] : List Pr).length (([] : List Pr).flatMap cPr) := by
      rw [hW5, hgO]
      have h := World.ownsRow_lit (base := w1.heap.size) (e := 63) (size := 2) w1 #[] 0 (by simp) (by decide) rfl
      simpa using h
    have hb4 : Below w1.heap.size w1 W5 := by rw [hW5]; exact (Below.refl _ _).alloc (Nat.le_refl _) _
    have hgs : gO < W5.heap.size := by rw [hW5, hgO]; simp
    rw [← hW5, ← hgO]
    have hgw : w.heap.size + 1 < gO := by omega
    have hb5 := below_trans hb2 hb4
    have x0 := kcell hb4 x0
    have x1 := kcell hb4 x1
    have y0 := kcell hb4 y0
    have y1 := kcell hb4 y1
    have y2 := kcell hb4 y2
    have l0 := Nat.lt_of_lt_of_le l0 hb4.size
    have l00 := Nat.lt_of_lt_of_le l00 hb4.size
    have HROW0 := Lib.hid hrow0
    clear hrow0 hW5 hgO hb4 hb2
    go_loopw [5, 17] (fun oo ii wr => ∃ i : Nat, i ≤ g.vals.length ∧ ii = .int .i64 (i : Int) ∧ wr.ownsRow gO 63 2 oo (allTo g a i).length ((allTo g a i).flatMap cPr) ∧ Below gO W5 wr) (fun _ ii _ => g.vals.length - (intOf ii).toNat)
    case atStart => exact ⟨0, Nat.zero_le _, rfl, HROW0.out, Below.refl _ _⟩
    case round =>
      clear HROW0
      obtain ⟨i, hi, rfl, hrow, hbel⟩ := hrel
      have x0 := (hbel.cell (p := ⟨w.heap.size, 0, none⟩) (by simp only; omega)).trans x0
      have x1 := (hbel.cell (p := ⟨w.heap.size, 1, none⟩) (by simp only; omega)).trans x1
      have y0 := (hbel.cell (p := ⟨w.heap.size + 1, 0, none⟩) (by simp only; omega)).trans y0
      have y1 := (hbel.cell (p := ⟨w.heap.size + 1, 1, none⟩) (by simp only; omega)).trans y1
      have y2 := (hbel.cell (p := ⟨w.heap.size + 1, 2, none⟩) (by simp only; omega)).trans y2
      have hsz := hbel.size
      have l0 := Nat.lt_of_lt_of_le l0 hsz
      have l00 := Nat.lt_of_lt_of_le l00 hsz
      have hbw := hb5.trans (hbel.mono (show w.heap.size ≤ gO by omega))
      have HBW := Lib.hid hbw
      have HROW := Lib.hid hrow
      have HBEL := Lib.hid hbel
      have hfl := allTo_len g a i
      clear hrow hbw hbel
      obtain ⟨wo, rfl⟩ : ∃ wo : World, wo = wr := ⟨_, rfl⟩
      by_cases hlt : i < g.vals.length
      · have hii : (i : Int) < (g.vals.length : Int) := by omega
        have HAF := Lib.hid (implAnswersFrom _ _ g a (i : Int) wo (HGV.out.keep HBW.out) (HAV.out.keep HBW.out))
        go_wp2_with fail
        refine HAF.out.mono ?_
        rintro e w6 ⟨v6, rfl, ho6, hb6⟩
        clear HAF
        have hs6 := hb6.size
        have x0 := kcell hb6 x0
        have x1 := kcell hb6 x1
        have y0 := kcell hb6 y0
        have y1 := kcell hb6 y1
        have y2 := kcell hb6 y2
        have l0 := Nat.lt_of_lt_of_le l0 hs6
        have l00 := Nat.lt_of_lt_of_le l00 hs6
        have HB6 := Lib.hid hb6
        have HR6 := Lib.hid (ownsRow_below HROW.out hb6 (Nat.le_refl _))
        have hob6 := HROW.out.lt
        have HC6 := Lib.hid (ho6.sl cI_len)
        obtain ⟨A6, c6, rfl, hl6, hm6, -⟩ := ho6.form cI_len
        have HT1 := Lib.hid (allTo_snoc g a i)
        have hln := ansL_len g a (i : Int)
        have HRW := Lib.hid (fun (k : Nat) (y : Int) (h : (ansL g a (i : Int))[k]? = some y) => allRow_snoc (g := g) (a := a) (x := i) h)
        have HR0 := Lib.hid (allRow_zero g a i)
        have hrl := allRow_len g a i
        have HRL := Lib.hid hrl
        clear ho6 hrl
        generalize ansL g a (i : Int) = l at *
        generalize allTo g a i = L at *
        obtain ⟨N, hN⟩ : ∃ N, N = l.length := ⟨_, rfl⟩
        rw [← hN] at hl6 hln HT1 ⊢
        have HN := Lib.hid hN
        clear hN
        go_wp2_with fail
        go_loopw [5, 25] (fun oo jj wr => ∃ j : Nat, j ≤ N ∧ jj = .int .i64 (j : Int) ∧ wr.ownsRow gO 63 2 oo (L ++ allRow g a i j).length ((L ++ allRow g a i j).flatMap cPr) ∧ Only gO wo.heap.size w6 wr ∧ (∀ b, oo.ownBlock = some b → (gO ≤ b ∧ b < wo.heap.size) ∨ w6.heap.size ≤ b)) (fun _ jj _ => N - (intOf jj).toNat)
        case atStart => exact ⟨0, Nat.zero_le _, rfl, by rw [HR0.out, List.append_nil]; exact HR6.out, Only.refl _ _ _, fun b hb => .inl (hob6 b hb)⟩
        case round =>
          clear HR6 hob6
          obtain ⟨j, hj, rfl, hrow, hon, hob⟩ := hrel
          have x0 := ocell hon x0 l00 (.inl (by omega))
          have x1 := ocell hon x1 l00 (.inl (by omega))
          have y0 := ocell hon y0 l0 (.inl (by omega))
          have y1 := ocell hon y1 l0 (.inl (by omega))
          have y2 := ocell hon y2 l0 (.inl (by omega))
          have hsz2 := hon.size
          have HROW2 := Lib.hid hrow
          have HON := Lib.hid hon
          have HOB := Lib.hid hob
          have hrl := HRL.out j
          clear hrow hon hob
          by_cases hlj : j < N
          · have hjj : (j : Int) < (N : Int) := by omega
            have hyi := getD_of (D := l) (k := j) (by have := HN.out; omega)
            obtain ⟨b6, o6, rfl, hb60, hb6x, d6⟩ := HC6.out.intI hyi
            have d6 := ocell HON.out d6 hb6x (.inr (by omega))
            have hb6w : b6 < wr.heap.size := by omega
            have HSN := Lib.hid (show (L ++ allRow g a i j) ++ [((i : Int), l.getD j 0)] = L ++ allRow g a i (j + 1) by rw [HRW.out j _ hyi, List.append_assoc])
            have hll : (L ++ allRow g a i j).length ≤ 1000 := by rw [List.length_append]; omega
            clear hyi
            generalize l.getD j 0 = yy at *
            generalize L ++ allRow g a i j = LL at *
            go_wp2_with (at_builtin; (refine wpList_append1 cPr elPair rfl _ _ rfl gO _ LL ((i : Int), yy) _ 1 _ (by rfl) HROW2.out (by rfl) rfl rfl rfl (cPr_one _) (by omega) (by omega) (by omega) ?_); intro v' w4 hrow' hb4 hat4 hgr4)
            go_roundw
            case rel =>
              refine ⟨j + 1, by omega, by go_num, by rw [← HSN.out]; exact hrow', (HON.out.alloc _).grown hgr4 (fun b hb => HOB.out b hb), fun b hb => ?_⟩
              rcases hat4 with h1 | ⟨g1, h1, h2⟩
              · exact HOB.out b (by rw [← h1]; exact hb)
              · rw [h1] at hb
                injection hb with hb
                exact .inr (by omega)
            case measure => simp [intOf]; omega
          · obtain rfl : j = N := by omega
            rw [← HT1.out] at HROW2
            have HBX := Lib.hid (HBEL.out.trans ((HB6.out.mono (show gO ≤ wo.heap.size by omega)).trans (HON.out.below (Nat.le_refl _) (by omega))))
            go_wp2_with fail
            go_roundw
            case rel => exact ⟨i + 1, by omega, by go_num, HROW2.out, HBX.out⟩
            case measure => simp [intOf]; omega
      ·
        obtain rfl : i = g.vals.length := by omega
        have hown := Own.of_row (xs := allTo g a g.vals.length) HROW.out rfl rfl
        rw [← HR.out] at hown
        obtain ⟨A9, n9, c9, rfl⟩ := hown.shape
        have HO := Lib.hid (hown.mono (show w.heap.size ≤ gO by omega) (Nat.le_refl _))
        clear hown
        go_wp2_with fail
        go_ret
        exact ⟨_, rfl, HO.out, HBW.out⟩
set_option maxHeartbeats 4000000 in
set_option maxRecDepth 100000 in
theorem specAllAnswers (vg va : Value) (g : Gr) (a : Au) (w : World) (hgv : GrV 0 w.heap.size w vg g) (hav : AuV 0 w.heap.size w va a) :
    Calls Tryz.prog 27 #[vg, va] w fun e w' => ∃ v', e = .returned v' ∧ Own w.heap.size w'.heap.size w' 63 cPr 2 v' (allL g a) ∧ Below w.heap.size w w' := by
  obtain ⟨R, hR⟩ : ∃ R, R = allL g a := ⟨_, rfl⟩
  rw [← hR]
  have HRR := Lib.hid hR
  clear hR
  have hgv0 := hgv
  have hav0 := hav
  obtain ⟨A1, c1, A2, c2, rfl, hl1, hm1, hl2, hm2, hC1, -⟩ := hgv.form
  obtain ⟨ac, nx, rfl, hac, hnx⟩ := hav
  obtain ⟨A3, c3, rfl, hl3, hm3, -⟩ := SlE.form hac
  obtain ⟨A4, n4, c4, rfl⟩ := hnx.shape
  have hb0 : Below w.heap.size w ((w.alloc (.cells #[.slice A1 g.vals.length c1, .slice A2 g.edges.length c2] 36)).alloc (.cells #[.int .i64 a.start, .slice A3 a.accept.length c3, .slice A4 n4 c4] 38)) := ((Below.refl _ _).alloc (Nat.le_refl _) _).alloc (by simp) _
  have HGV := Lib.hid hgv0
  have HAV := Lib.hid hav0
  have HC1 := Lib.hid hC1
  clear hgv hac hnx hgv0 hav0 hC1
  go_enter Tryz.func27, Tryz.ntmps27
  go_wp2_with fail
  obtain ⟨W0, hW0⟩ : ∃ W0, W0 = ((w.alloc (.cells #[.slice A1 g.vals.length c1, .slice A2 g.edges.length c2] 36)).alloc (.cells #[.int .i64 a.start, .slice A3 a.accept.length c3, .slice A4 n4 c4] 38)).alloc (.cells #[] 63) := ⟨_, rfl⟩
  have hb0 : Below w.heap.size w W0 := by rw [hW0]; exact hb0.alloc hb0.size _
  rw [← hW0]
  have bx : Blk W0 w.heap.size 36 #[.slice A1 g.vals.length c1, .slice A2 g.edges.length c2] := by rw [hW0]; exact ((Blk.new w _ _ w.heap.size rfl).alloc _).alloc _
  have by_ : Blk W0 (w.heap.size + 1) 38 #[.int .i64 a.start, .slice A3 a.accept.length c3, .slice A4 n4 c4] := by rw [hW0]; exact (Blk.new (w.alloc _) _ _ (w.heap.size + 1) (by simp)).alloc _
  have hrow0 : W0.ownsRow (w.heap.size + 1 + 1) 63 2 (.slice (some ⟨w.heap.size + 1 + 1, 0, none⟩) 0 0) ([] : List Pr).length (([] : List Pr).flatMap cPr) := by
    rw [hW0]
    have h := World.ownsRow_lit (base := w.heap.size + 1 + 1) (e := 63) (size := 2) ((w.alloc (.cells #[.slice A1 g.vals.length c1, .slice A2 g.edges.length c2] 36)).alloc (.cells #[.int .i64 a.start, .slice A3 a.accept.length c3, .slice A4 n4 c4] 38)) #[] 0 (by simp) (by decide) rfl
    simpa using h
  have x0 : W0.cell? ⟨w.heap.size, 0, none⟩ = some (.slice A1 g.vals.length c1) := bx.cell 0
  have x1 : W0.cell? ⟨w.heap.size, 1, none⟩ = some (.slice A2 g.edges.length c2) := bx.cell 1
  have y0 : W0.cell? ⟨w.heap.size + 1, 0, none⟩ = some (.int .i64 a.start) := by_.cell 0
  have y1 : W0.cell? ⟨w.heap.size + 1, 1, none⟩ = some (.slice A3 a.accept.length c3) := by_.cell 1
  have y2 : W0.cell? ⟨w.heap.size + 1, 2, none⟩ = some (.slice A4 n4 c4) := by_.cell 2
  have l0 := by_.lt
  have l00 := bx.lt
  have HROW0 := Lib.hid hrow0
  have hsW : W0.heap.size = w.heap.size + 1 + 1 + 1 := by rw [hW0]; simp
  have hsW' : w.heap.size + 1 + 1 < W0.heap.size := by omega
  have HSW := Lib.hid hsW
  clear hW0 bx by_ hrow0 hsW
  have HG := Lib.hid (fun (W : World) (hW : Below w.heap.size w W) => show Calls Tryz.prog 53 #[_, _, .int .i64 0, .int .i64 0] W fun e w' => e = .returned (.bool (grOk g && auOk a)) ∧ Below W.heap.size W w' by rw [← goodB00]; exact l14Good_any _ _ g a 0 0 W (HGV.out.keep hW) (HAV.out.keep hW))
  have hR := HRR.out
  rw [allL] at hR
  clear HRR
  cases hk : (grOk g && auOk a) with
  | false =>
    rw [hk] at HG hR
    have hr0 : R = [] := hR
    subst hr0
    have HB0 := Lib.hid hb0
    clear hk hR hb0
    go_loopw [5, 6] (fun oo ii wr => oo = .slice (some ⟨w.heap.size + 1 + 1, 0, none⟩) 0 0 ∧ ii = .int .i64 0 ∧ wr = W0) (fun _ _ _ => 0)
    case atStart => exact ⟨rfl, rfl, rfl⟩
    case round =>
      obtain ⟨rfl, rfl, rfl⟩ := hrel
      have hO := Lib.hid ((Own.of_row (xs := ([] : List Pr)) HROW0.out rfl rfl).mono (show w.heap.size ≤ w.heap.size + 1 + 1 by omega) (Nat.le_refl _))
      by_cases h0 : (0 : Int) < (g.vals.length : Int)
      · go_wp2_with fail
        refine (HG.out _ HB0.out).mono ?_
        rintro e w2 ⟨rfl, hb2⟩
        have HO2 := Lib.hid ((hO.out.below hb2 (Nat.le_refl _)).mono (Nat.le_refl _) hb2.size)
        go_wp2_with fail
        go_ret
        exact ⟨_, rfl, HO2.out, below_trans HB0.out hb2⟩
      · go_wp2_with fail
        go_ret
        exact ⟨_, rfl, hO.out, HB0.out⟩
  | true =>
    rw [hk] at HG hR
    simp only [Bool.and_eq_true] at hk
    obtain ⟨hgo, hao⟩ := hk
    have hn5 := (grOk_iff.1 hgo).n5
    have hr1 : R = allTo g a g.vals.length := hR
    have HR := Lib.hid hr1
    have HLF := Lib.hid (fun (x : Nat) (W : World) (hW : Below w.heap.size w W) (hx : x < g.vals.length) => l15From_any _ _ g a x W (HGV.out.keep hW) (HAV.out.keep hW) hgo hao hx)
    clear hgo hao hR hr1
    obtain ⟨gO, hgO⟩ : ∃ gO, gO = w.heap.size + 1 + 1 := ⟨_, rfl⟩
    rw [← hgO] at HROW0 hsW' ⊢
    have hgw : w.heap.size + 1 < gO := by omega
    have hgs := hsW'
    have hb5 := hb0
    obtain ⟨W5, rfl⟩ : ∃ W5 : World, W5 = W0 := ⟨_, rfl⟩
    clear hgO HSW hsW' hb0
    go_loopw [5, 6] (fun oo ii wr => ∃ i : Nat, i ≤ g.vals.length ∧ ii = .int .i64 (i : Int) ∧ wr.ownsRow gO 63 2 oo (allTo g a i).length ((allTo g a i).flatMap cPr) ∧ Below gO W5 wr) (fun _ ii _ => g.vals.length - (intOf ii).toNat)
    case atStart => exact ⟨0, Nat.zero_le _, rfl, HROW0.out, Below.refl _ _⟩
    case round =>
      clear HROW0
      obtain ⟨i, hi, rfl, hrow, hbel⟩ := hrel
      have x0 := (hbel.cell (p := ⟨w.heap.size, 0, none⟩) (by simp only; omega)).trans x0
      have x1 := (hbel.cell (p := ⟨w.heap.size, 1, none⟩) (by simp only; omega)).trans x1
      have y0 := (hbel.cell (p := ⟨w.heap.size + 1, 0, none⟩) (by simp only; omega)).trans y0
      have y1 := (hbel.cell (p := ⟨w.heap.size + 1, 1, none⟩) (by simp only; omega)).trans y1
      have y2 := (hbel.cell (p := ⟨w.heap.size + 1, 2, none⟩) (by simp only; omega)).trans y2
      have hsz := hbel.size
      have l0 := Nat.lt_of_lt_of_le l0 hsz
      have l00 := Nat.lt_of_lt_of_le l00 hsz
      have hbw := hb5.trans (hbel.mono (show w.heap.size ≤ gO by omega))
      have HBW := Lib.hid hbw
      have HROW := Lib.hid hrow
      have HBEL := Lib.hid hbel
      have hfl := allTo_len g a i
      clear hrow hbw hbel
      obtain ⟨wo, rfl⟩ : ∃ wo : World, wo = wr := ⟨_, rfl⟩
      by_cases hlt : i < g.vals.length
      · have hii : (i : Int) < (g.vals.length : Int) := by omega
        go_wp2_with fail
        refine (HG.out _ HBW.out).mono ?_
        rintro e w2 ⟨rfl, hb2⟩
        have hbw2 := below_trans HBW.out hb2
        have x0 := kcell hb2 x0
        have x1 := kcell hb2 x1
        have y0 := kcell hb2 y0
        have y1 := kcell hb2 y1
        have y2 := kcell hb2 y2
        have HROW := Lib.hid (ownsRow_below HROW.out hb2 (Nat.le_refl _))
        have hs2 := hb2.size
        have l0 := Nat.lt_of_lt_of_le l0 hs2
        have l00 := Nat.lt_of_lt_of_le l00 hs2
        have HBEL := Lib.hid (HBEL.out.trans (hb2.mono (show gO ≤ wo.heap.size by omega)))
        have hsz := HBEL.out.size
        clear hb2
        obtain ⟨wp, rfl⟩ : ∃ wp : World, wp = wo := ⟨_, rfl⟩
        obtain ⟨wo, rfl⟩ : ∃ wo : World, wo = w2 := ⟨_, rfl⟩
        go_wp2_with fail
        refine (HLF.out i _ hbw2 hlt).mono ?_
        rintro e w6 ⟨v6, rfl, ho6, hb6⟩
        have hs6 := hb6.size
        have x0 := kcell hb6 x0
        have x1 := kcell hb6 x1
        have y0 := kcell hb6 y0
        have y1 := kcell hb6 y1
        have y2 := kcell hb6 y2
        have l0 := Nat.lt_of_lt_of_le l0 hs6
        have l00 := Nat.lt_of_lt_of_le l00 hs6
        have HB6 := Lib.hid hb6
        have HR6 := Lib.hid (ownsRow_below HROW.out hb6 (Nat.le_refl _))
        have hob6 := HROW.out.lt
        have HC6 := Lib.hid (ho6.sl cI_len)
        obtain ⟨A6, c6, rfl, hl6, hm6, -⟩ := ho6.form cI_len
        have HT1 := Lib.hid (allTo_snoc g a i)
        have hln := ansL_len g a (i : Int)
        have HRW := Lib.hid (fun (k : Nat) (y : Int) (h : (ansL g a (i : Int))[k]? = some y) => allRow_snoc (g := g) (a := a) (x := i) h)
        have HR0 := Lib.hid (allRow_zero g a i)
        have hrl := allRow_len g a i
        have HRL := Lib.hid hrl
        clear ho6 hrl
        generalize ansL g a (i : Int) = l at *
        generalize allTo g a i = L at *
        obtain ⟨N, hN⟩ : ∃ N, N = l.length := ⟨_, rfl⟩
        rw [← hN] at hl6 hln HT1 ⊢
        have HN := Lib.hid hN
        clear hN
        go_wp2_with fail
        go_loopw [5, 8] (fun oo jj wr => ∃ j : Nat, j ≤ N ∧ jj = .int .i64 (j : Int) ∧ wr.ownsRow gO 63 2 oo (L ++ allRow g a i j).length ((L ++ allRow g a i j).flatMap cPr) ∧ Only gO wo.heap.size w6 wr ∧ (∀ b, oo.ownBlock = some b → (gO ≤ b ∧ b < wo.heap.size) ∨ w6.heap.size ≤ b)) (fun _ jj _ => N - (intOf jj).toNat)
        case atStart => exact ⟨0, Nat.zero_le _, rfl, by rw [HR0.out, List.append_nil]; exact HR6.out, Only.refl _ _ _, fun b hb => .inl (hob6 b hb)⟩
        case round =>
          clear HR6 hob6
          obtain ⟨j, hj, rfl, hrow, hon, hob⟩ := hrel
          have x0 := ocell hon x0 l00 (.inl (by omega))
          have x1 := ocell hon x1 l00 (.inl (by omega))
          have y0 := ocell hon y0 l0 (.inl (by omega))
          have y1 := ocell hon y1 l0 (.inl (by omega))
          have y2 := ocell hon y2 l0 (.inl (by omega))
          have hsz2 := hon.size
          have HROW2 := Lib.hid hrow
          have HON := Lib.hid hon
          have HOB := Lib.hid hob
          have hrl := HRL.out j
          clear hrow hon hob
          by_cases hlj : j < N
          · have hjj : (j : Int) < (N : Int) := by omega
            have hyi := getD_of (D := l) (k := j) (by have := HN.out; omega)
            obtain ⟨b6, o6, rfl, hb60, hb6x, d6⟩ := HC6.out.intI hyi
            have d6 := ocell HON.out d6 hb6x (.inr (by omega))
            have hb6w : b6 < wr.heap.size := by omega
            have HSN := Lib.hid (show (L ++ allRow g a i j) ++ [((i : Int), l.getD j 0)] = L ++ allRow g a i (j + 1) by rw [HRW.out j _ hyi, List.append_assoc])
            have hll : (L ++ allRow g a i j).length ≤ 1000 := by rw [List.length_append]; omega
            clear hyi
            generalize l.getD j 0 = yy at *
            generalize L ++ allRow g a i j = LL at *
            go_wp2_with (at_builtin; (refine wpList_append1 cPr elPair rfl _ _ rfl gO _ LL ((i : Int), yy) _ 1 _ (by rfl) HROW2.out (by rfl) rfl rfl rfl (cPr_one _) (by omega) (by omega) (by omega) ?_); intro v' w4 hrow' hb4 hat4 hgr4)
            go_roundw
            case rel =>
              refine ⟨j + 1, by omega, by go_num, by rw [← HSN.out]; exact hrow', (HON.out.alloc _).grown hgr4 (fun b hb => HOB.out b hb), fun b hb => ?_⟩
              rcases hat4 with h1 | ⟨g1, h1, h2⟩
              · exact HOB.out b (by rw [← h1]; exact hb)
              · rw [h1] at hb
                injection hb with hb
                exact .inr (by omega)
            case measure => simp [intOf]; omega
          · obtain rfl : j = N := by omega
            rw [← HT1.out] at HROW2
            have HBX := Lib.hid (HBEL.out.trans ((HB6.out.mono (show gO ≤ wo.heap.size by omega)).trans (HON.out.below (Nat.le_refl _) (by omega))))
            go_wp2_with fail
            go_roundw
            case rel => exact ⟨i + 1, by omega, by go_num, HROW2.out, HBX.out⟩
            case measure => simp [intOf]; omega
      ·
        obtain rfl : i = g.vals.length := by omega
        have hown := Own.of_row (xs := allTo g a g.vals.length) HROW.out rfl rfl
        rw [← HR.out] at hown
        obtain ⟨A9, n9, c9, rfl⟩ := hown.shape
        have HO := Lib.hid (hown.mono (show w.heap.size ≤ gO by omega) (Nat.le_refl _))
        clear hown
        go_wp2_with fail
        go_ret
        exact ⟨_, rfl, HO.out, HBW.out⟩
end Go.Proofs.YtpbfdmfkmbdpkaaGreat
namespace Go.Proofs.YtpbfdmfkmbdpkaaGreat
set_option linter.unusedVariables false
set_option linter.unusedSimpArgs false
open Go.ChangeShapes Go.WideShapes Go.ChangeAt Go.RowKit
def gapOk (g : Gr) (a : Au) : Bool := (srchA g a 20000 false).isSome && (srchA g a 20000 true).isSome
def gapW (g : Gr) (a : Au) : List Pr := if gapOk g a = true then subL (allL g a) ((srchA g a 20000 false).getD []) else []
def gapT (g : Gr) (a : Au) : List Pr := if gapOk g a = true then subL ((srchA g a 20000 false).getD []) ((srchA g a 20000 true).getD []) else []
theorem gapW_len (g : Gr) (a : Au) : (gapW g a).length ≤ 150 := by
  unfold gapW
  split
  · exact Nat.le_trans (subL_len _ _) (allL_len g a)
  · simp
theorem gapT_len (g : Gr) (a : Au) : (gapT g a).length ≤ 25 := by
  unfold gapT
  split
  · exact Nat.le_trans (subL_len _ _) (srchA_get g a _ _)
  · simp
/-- two rows of pairs, each in blocks of its own -/
def Two (lo hi : Nat) (w : World) (v0 v1 : Value) (l0 l1 : List Pr) : Prop := ∃ m, lo ≤ m ∧ m ≤ hi ∧ Own lo m w 63 cPr 2 v0 l0 ∧ Own m hi w 63 cPr 2 v1 l1
end Go.Proofs.YtpbfdmfkmbdpkaaGreat
/-
  DERIVED: THE SHELF's CONTRACTS AT THIS DUMP, IN PLAIN WORDS (tools/lay-plain.mjs out of 'TryzShelfP.lean', which tools/lay-shelf.mjs wrote): THE SAME DECLARATIONS UNDER THE SAME NAMES: 'import', 'namespace', 'open', 'def', 'theorem' AND NOTHING ELSE: no command of the shelf's: FOR A HAND-IN. Each laying: the table of numbers ('.._ren') and one theorem, a field a fact of the dump's own or the kernel's comparison; each contract: ONE APPLICATION.
-/
namespace Go.Proofs
open Go.Shelf
def Tryz.laysSF_ren : Go.Shelf.Ren := ⟨fun | 6 => 109 | 15 => 132 | 14 => 131 | 28 => 147 | 29 => 148 | 20 => 139 | 21 => 140 | 22 => 141 | 23 => 142 | 24 => 143 | 25 => 144 | 26 => 145 | 27 => 146 | 46 => 160 | 47 => 161 | 48 => 162 | 49 => 163 | 50 => 164 | 57 => 171 | n => n, fun | 22 => 47 | 24 => 63 | 25 => 136 | 3 => 3 | 39 => 160 | 0 => 0 | 53 => 171 | 55 => 173 | 4 => 4 | 46 => 165 | 45 => 164 | 50 => 146 | 5 => 5 | 9 => 9 | 66 => 183 | 70 => 187 | 76 => 195 | 77 => 83 | n => n, fun | n => n⟩
theorem Tryz.laysSF : Go.Proofs.SlLaysF0.n6 Tryz.prog Tryz.laysSF_ren := {
  mixed := by kernel_rfl
  f6 := ⟨Tryz.f109.name, by decide, Tryz.func109.trans (congrArg some (by kernel_rfl))⟩
  f14 := ⟨Tryz.f131.name, by decide, Tryz.func131.trans (congrArg some (by kernel_rfl))⟩
  f15 := Tryz.func132.trans (congrArg some (by kernel_rfl))
  f20 := ⟨Tryz.f139.name, by decide, Tryz.func139.trans (congrArg some (by kernel_rfl))⟩
  f21 := ⟨Tryz.f140.name, by decide, Tryz.func140.trans (congrArg some (by kernel_rfl))⟩
  f22 := ⟨Tryz.f141.name, by decide, Tryz.func141.trans (congrArg some (by kernel_rfl))⟩
  f23 := ⟨Tryz.f142.name, by decide, Tryz.func142.trans (congrArg some (by kernel_rfl))⟩
  f24 := ⟨Tryz.f143.name, by decide, Tryz.func143.trans (congrArg some (by kernel_rfl))⟩
  f25 := ⟨Tryz.f144.name, by decide, Tryz.func144.trans (congrArg some (by kernel_rfl))⟩
  f26 := ⟨Tryz.f145.name, by decide, Tryz.func145.trans (congrArg some (by kernel_rfl))⟩
  f27 := ⟨Tryz.f146.name, by decide, Tryz.func146.trans (congrArg some (by kernel_rfl))⟩
  f28 := Tryz.func147.trans (congrArg some (by kernel_rfl))
  f29 := Tryz.func148.trans (congrArg some (by kernel_rfl))
  f46 := ⟨Tryz.f160.name, by decide, Tryz.func160.trans (congrArg some (by kernel_rfl))⟩
  f47 := Tryz.func161.trans (congrArg some (by kernel_rfl))
  f48 := Tryz.func162.trans (congrArg some (by kernel_rfl))
  f49 := ⟨Tryz.f163.name, by decide, Tryz.func163.trans (congrArg some (by kernel_rfl))⟩
  f50 := ⟨Tryz.f164.name, by decide, Tryz.func164.trans (congrArg some (by kernel_rfl))⟩
  f57 := ⟨Tryz.f171.name, by decide, Tryz.func171.trans (congrArg some (by kernel_rfl))⟩
  t0 := Tryz.underlying0
  a0 := Tryz.isAgg0
  z0 := Tryz.sizeOf0
  v0 := Tryz.zeroValue0
  t3 := Tryz.underlying3
  a3 := Tryz.isAgg3
  z3 := Tryz.sizeOf3
  v3 := Tryz.zeroValue3
  t4 := Tryz.underlying4
  a4 := Tryz.isAgg4
  z4 := Tryz.sizeOf4
  v4 := Tryz.zeroValue4
  t5 := Tryz.underlying5
  a5 := Tryz.isAgg5
  z5 := Tryz.sizeOf5
  v5 := Tryz.zeroValue5
  t9 := Tryz.underlying9
  a9 := Tryz.isAgg9
  z9 := Tryz.sizeOf9
  v9 := Tryz.zeroValue9
  t22 := Tryz.underlying47
  a22 := Tryz.isAgg47
  z22 := Tryz.sizeOf47
  v22 := Tryz.zeroValue47
  t25 := Tryz.underlying136
  a25 := Tryz.isAgg136
  z25 := Tryz.sizeOf136
  v25 := Tryz.zeroValue136
  t39 := Tryz.underlying160
  a39 := Tryz.isAgg160
  z39 := Tryz.sizeOf160
  v39 := Tryz.zeroValue160
  t45 := Tryz.underlying164
  a45 := Tryz.isAgg164
  z45 := Tryz.sizeOf164
  v45 := Tryz.zeroValue164
  t46 := Tryz.underlying165
  a46 := Tryz.isAgg165
  z46 := Tryz.sizeOf165
  v46 := Tryz.zeroValue165
  t50 := Tryz.underlying146
  a50 := Tryz.isAgg146
  z50 := Tryz.sizeOf146
  v50 := Tryz.zeroValue146
  t53 := Tryz.underlying171
  a53 := Tryz.isAgg171
  z53 := Tryz.sizeOf171
  v53 := Tryz.zeroValue171
  t55 := Tryz.underlying173
  a55 := Tryz.isAgg173
  z55 := Tryz.sizeOf173
  v55 := Tryz.zeroValue173
  t66 := Tryz.underlying183
  a66 := Tryz.isAgg183
  z66 := Tryz.sizeOf183
  v66 := Tryz.zeroValue183
  t70 := Tryz.underlying187
  a70 := Tryz.isAgg187
  z70 := Tryz.sizeOf187
  v70 := Tryz.zeroValue187
  t76 := Tryz.underlying195
  a76 := Tryz.isAgg195
  z76 := Tryz.sizeOf195
  v76 := Tryz.zeroValue195
  t77 := Tryz.underlying83
  a77 := Tryz.isAgg83
  z77 := Tryz.sizeOf83
  v77 := Tryz.zeroValue83 }
end Go.Proofs
namespace Go.Proofs.YtpbfdmfkmbdpkaaGreat
set_option linter.unusedVariables false
set_option linter.unusedSimpArgs false
open Go.ChangeShapes Go.WideShapes Go.ChangeAt Go.RowKit Go.Sort
theorem konly_ahead (lo hi : Nat) (w : World) (n : Nat) : Only lo hi w (Sort.ahead w n) := ⟨rfl, rfl, rfl, Nat.le_refl _, fun _ _ _ => rfl⟩
theorem konly_grow (lo hi : Nat) (w : World) (os : Array Obj) : Only lo hi w (grow w os) := ⟨rfl, rfl, rfl, by simp [grow], fun n hn _ => by simp [grow, Array.getElem?_append, hn]⟩
theorem konly_put {α : Type} [Inhabited α] (enc : α → Value) (w : World) (g off : Nat) (d : Array α) : Only g (g + 1) w (putRow enc w g off d) :=
  ⟨rfl, rfl, rfl, by simp [putRow, mapBlock], fun n hn ho => by simp only [putRow, mapBlock, Array.getElem?_modify]; rw [if_neg (by omega)]⟩
theorem row_putF {w : World} {base g n cap k : Nat} {e : TypeId} {cs : List Value} (h : w.ownsRow base e k (.slice (some ⟨g, 0, none⟩) n cap) n cs) {F : Array Value} (hF : F.size = n * k) :
    (putRow id w g 0 F).ownsRow base e k (.slice (some ⟨g, 0, none⟩) n cap) n F.toList := by
  obtain ⟨hl, hs⟩ := h
  refine ⟨by simp [hF], ?_⟩
  rcases hs with ⟨h1, _⟩ | ⟨g', cap', cur, hv, hg, hh, hnc, hcm, hsz, htk⟩
  · cases h1
  · simp only [Value.slice.injEq, Option.some.injEq, Addr.mk.injEq, and_true, true_and] at hv
    obtain ⟨rfl, rfl⟩ := hv
    have hcs : n * k ≤ cur.size := by rw [hsz]; exact Nat.mul_le_mul_right k hnc
    refine .inr ⟨g, cap, putCells id 0 F cur, rfl, hg, ?_, hnc, hcm, by simp [putCells, hsz], ?_⟩
    · simp [putRow, mapBlock, Array.getElem?_modify, hh, onCells]
    · apply List.ext_getElem?
      intro j
      rw [List.getElem?_take]
      by_cases hk : j < n * k
      · rw [if_pos hk]
        have hkc : j < cur.size := by omega
        have hkd : j < F.size := by omega
        simp [putCells, hkc, hkd, getElem!_pos]
      · rw [if_neg hk, List.getElem?_eq_none (by simp; omega)]
theorem flatK_list (ds : List Pr) : (flatK cPr 2 ds.toArray).toList = ds.flatMap cPr := by
  apply List.ext_getElem?
  intro t
  by_cases ht : t < ds.length * 2
  · have hi : t / 2 < ds.length := by omega
    have hx : ds[t / 2]? = some ds[t / 2] := List.getElem?_eq_getElem hi
    have hj : t % 2 < (cPr ds[t / 2]).length := by rw [cPr_len]; omega
    have h1 := flat_at cPr_len hx (t % 2) _ (List.getElem?_eq_getElem hj)
    rw [show t / 2 * 2 + t % 2 = t by omega] at h1
    rw [h1, Array.getElem?_toList, Array.getElem?_eq_getElem (by simpa using ht)]
    congr 1
    have h2 := get_flatK cPr 2 ds.toArray t (by simpa using ht)
    rw [getElem!_pos _ _ (by simpa using ht)] at h2
    rw [h2, getElem!_pos ds.toArray _ (by simpa using hi), getElem!_pos _ _ (by simpa using hj)]
    simp
  · rw [List.getElem?_eq_none (by simp; omega), List.getElem?_eq_none]
    have : (ds.flatMap cPr).length = ds.length * 2 := by
      clear ht
      induction ds with
      | nil => rfl
      | cons d ds ih => rw [List.flatMap_cons, List.length_append, ih, cPr_len, List.length_cons]; omega
    omega
theorem holds_ownK {w : World} {base g n cap : Nat} {e : TypeId} {zs : List Pr} (h : w.ownsRow base e 2 (.slice (some ⟨g, 0, none⟩) n cap) n (zs.flatMap cPr)) (hz : zs.length = n) : HoldsK cPr 2 w g 0 zs.toArray := by
  intro j hj
  have hj' : j < zs.length * 2 := by simpa using hj
  refine ⟨?_, by rw [Nat.zero_add]; exact World.ownsRow.frozenAt h j⟩
  rw [Nat.zero_add, World.ownsRow.cellAt h j (by omega), ← flatK_list, Array.getElem?_toList, Array.getElem?_eq_getElem hj, getElem!_pos _ j hj]
  rfl
end Go.Proofs.YtpbfdmfkmbdpkaaGreat
namespace Go.Proofs.YtpbfdmfkmbdpkaaGreat
set_option linter.unusedVariables false
set_option linter.unusedSimpArgs false
open Go.ChangeShapes Go.WideShapes Go.ChangeAt Go.RowKit Go.Sort
attribute [local go_sem] ext_cell ext_frozen ext_lt ext_lt1 ext_lt2 ext_lt3 ltn2 ltn3 ltn13 lts1 lts2 lts3
def cmpI (a b : Int) : Int := if a < b then -1 else if b < a then 1 else 0
def cmpP (p q : Pr) : Int := if p.1 = q.1 then cmpI p.2 q.2 else cmpI p.1 q.1
theorem ltOf_cmp (p q : Pr) : ltOf cmpP p q = ltP p q := by
  have h1 := @ltP_iff p q
  rw [Bool.eq_iff_iff, h1, ltOf, decide_eq_true_eq, cmpP]
  unfold cmpI
  split <;> split <;> (try split) <;> omega
theorem swoP : SWO (ltOf cmpP) := by
  refine ⟨fun x => ?_, fun x y z h1 h2 => ?_, fun x y z h1 h2 => ?_⟩
  · rw [ltOf_cmp, ltP_no]; omega
  · rw [ltOf_cmp] at *
    exact ltP_trans h1 h2
  · rw [ltOf_cmp, ltP_no] at *
    omega
theorem alloc2_grow (W : World) (o1 o2 : Obj) : (W.alloc o1).alloc o2 = grow (W.drewN 0) #[o1, o2] := by
  cases W
  simp only [World.alloc, grow, World.drewN, World.mk.injEq, and_true, true_and]
  simp [← Array.toList_inj]
theorem compareInts_any (a b : Int) (w : World) : Calls Tryz.prog 133 #[.int .i64 a, .int .i64 b] w fun e w' => e = .returned (.int .i64 (cmpI a b)) ∧ w' = w := by
  unfold cmpI
  by_cases h1 : a < b
  · rw [if_pos h1]
    have k1 : decide (a < b) = true := by simpa using h1
    clear h1
    go_enter Tryz.func133, Tryz.ntmps133
    go_wp2_with fail
    go_ret
    exact ⟨rfl, rfl⟩
  · rw [if_neg h1]
    have k1 : decide (a < b) = false := by simpa using h1
    by_cases h2 : b < a
    · rw [if_pos h2]
      have k2 : decide (a > b) = true := by simpa using h2
      clear h1 h2
      go_enter Tryz.func133, Tryz.ntmps133
      go_wp2_with fail
      go_ret
      exact ⟨rfl, rfl⟩
    · rw [if_neg h2]
      have k2 : decide (a > b) = false := by simpa using h2
      clear h1 h2
      go_enter Tryz.func133, Tryz.ntmps133
      go_wp2_with fail
      go_ret
      exact ⟨rfl, rfl⟩
theorem comparePairs_any (p q : Pr) (w : World) : Calls Tryz.prog 110 #[.agg #[.int .i64 p.1, .int .i64 p.2], .agg #[.int .i64 q.1, .int .i64 q.2]] w fun e w' => e = .returned (.int .i64 (cmpP p q)) ∧
    w' = (w.alloc (.cells #[.int .i64 p.1, .int .i64 p.2] 63)).alloc (.cells #[.int .i64 q.1, .int .i64 q.2] 63) := by
  obtain ⟨p1, p2⟩ := p
  obtain ⟨q1, q2⟩ := q
  simp only [cmpP]
  have HC := Lib.hid (fun (a b : Int) (W : World) => compareInts_any a b W)
  by_cases h1 : p1 = q1
  · rw [if_pos h1]
    have k1 : (p1 != q1) = false := by simpa using h1
    clear h1
    go_enter Tryz.func110, Tryz.ntmps110
    go_wp2_with fail
    refine (HC.out p2 q2 _).mono ?_
    rintro e w1 ⟨rfl, hw⟩
    rw [hw]
    go_wp2_with fail
    go_ret
    exact ⟨rfl, rfl⟩
  · rw [if_neg h1]
    have k1 : (p1 != q1) = true := by simpa using h1
    clear h1
    go_enter Tryz.func110, Tryz.ntmps110
    go_wp2_with fail
    refine (HC.out p1 q1 _).mono ?_
    rintro e w1 ⟨rfl, hw⟩
    rw [hw]
    go_wp2_with fail
    go_ret
    exact ⟨rfl, rfl⟩
/-- slices.SortFunc over pairs: a row of the call's own is put in order -/
theorem sortPairs_any (lo g c : Nat) (xs : List Pr) (w : World) (hrow : w.ownsRow lo 63 2 (.slice (some ⟨g, 0, none⟩) xs.length c) xs.length (xs.flatMap cPr)) (hn : xs.length ≤ 2199023255552) :
    Calls Tryz.prog 109 #[.slice (some ⟨g, 0, none⟩) xs.length c, .func (.func 110) #[] #[]] w fun e w' => e = .returned (.tuple #[]) ∧
      ∃ ys : List Pr, ys.length = xs.length ∧ (∀ x, x ∈ ys ↔ x ∈ xs) ∧ (∀ i j, i < j → j < ys.length → ltP (ys.getD j (0, 0)) (ys.getD i (0, 0)) = false) ∧
        w'.ownsRow lo 63 2 (.slice (some ⟨g, 0, none⟩) xs.length c) xs.length (ys.flatMap cPr) ∧ Only g (g + 1) w w' := by
  have hlt := hrow.lt g rfl
  have eg : ∀ args w, (callFunc 110 args).run Tryz.prog w = .ok (.enter 110 args) w := enters_of Tryz.func110 (by kernel_rfl) rfl
  have hcmp : CmpLays Tryz.prog 110 #[] cPr 2 cmpP g 0 xs.toArray.size w := fun m os dk _ x y => by
    refine (comparePairs_any x y _).mono ?_
    rintro e w' ⟨rfl, rfl⟩
    exact ⟨rfl, 0, _, alloc2_grow _ _ _⟩
  have h := AnyQ.slices_SortFunc Tryz.laysSF 2 Tryz.isAgg63 Tryz.sizeOf63 cPr cPr_len cPr_one cmpP swoP 110 #[] g 0 c xs.toArray w eg hcmp (holds_ownK hrow rfl) hlt.2 (by simp; omega)
  have h' : Calls Tryz.prog 109 #[.slice (some ⟨g, 0, none⟩) xs.length c, .func (.func 110) #[] #[]] w _ := h
  refine h'.mono ?_
  rintro e w' ⟨rfl, d', n, os, hperm, hsort, rfl⟩
  obtain ⟨hsz, -, hpm⟩ := hperm
  have hsz' : d'.toList.length = xs.length := by simpa using hsz
  refine ⟨rfl, d'.toList, hsz', fun x => ?_, fun i j hij hj => ?_, ?_, ?_⟩
  · have h1 := hpm.mem_iff (a := x)
    have e1 : (d'.extract 0 xs.toArray.size).toList = d'.toList := by rw [show xs.toArray.size = d'.size from hsz.symm]; simp
    have e2 : (xs.toArray.extract 0 xs.toArray.size).toList = xs := by simp
    rw [e1, e2] at h1
    exact h1
  · have hj' : j < xs.length := by omega
    have h1 := hsort i j (Nat.zero_le _) hij (by simpa using hj')
    rw [ltOf_cmp] at h1
    have gd : ∀ k, k < xs.length → d'.toList.getD k (0, 0) = d'[k]! := fun k hk => by
      have hk' : k < d'.size := by rw [hsz]; simpa using hk
      rw [getElem!_pos d' k hk', List.getD_eq_getElem?_getD, Array.getElem?_toList, Array.getElem?_eq_getElem hk']; rfl
    rw [gd j hj', gd i (by omega)]
    exact h1
  · have h2 : (Sort.ahead w n).ownsRow lo 63 2 (.slice (some ⟨g, 0, none⟩) xs.length c) xs.length (xs.flatMap cPr) := hrow
    have h3 := row_putF h2 (F := flatK cPr 2 d') (by rw [size_flatK, hsz]; simp)
    have h4 : (flatK cPr 2 d').toList = d'.toList.flatMap cPr := by
      have := flatK_list d'.toList
      simpa using this
    rw [h4] at h3
    exact ownsRow_block h3 fun b hb => (konly_grow 0 0 (putRowK cPr 2 (Sort.ahead w n) g 0 d') os).block b (h3.lt b hb).2 (.inr (Nat.zero_le _))
  · exact ((konly_ahead g (g + 1) w n).trans (konly_put id _ g 0 (flatK cPr 2 d'))).trans (konly_grow g (g + 1) _ os)
theorem neqlPr (a b c d : Int) (w : World) : (binOp .neq 63 (.agg #[.int .i64 a, .int .i64 b]) (.agg #[.int .i64 c, .int .i64 d])).run Tryz.prog w = .ok (.bool (!decide ((a, b) = (c, d)))) w := by
  rw [run_neq_struct, eqPr]
  by_cases h1 : a = c <;> by_cases h2 : b = d <;> simp [h1, h2]
attribute [local go_sem] guardPr
theorem clear_pairs (w : World) (ty : TypeId) (g o n c : Nat) (hn : 0 < n) (hc : ∀ j, j < n * 2 → (w.cell? ⟨g, o + j, none⟩).isSome = true) (hf : ∀ j, j < n * 2 → w.frozen? ⟨g, o + j, none⟩ = false) :
    (Builtin.clear_ #[47] ty #[.slice (some ⟨g, o, none⟩) n c]).run Tryz.prog w = .ok (.tuple #[]) (w.setCells g o (Builtin.zeroCells #[.int .i64 0, .int .i64 0] n).toList) := by
  have hl : (Builtin.zeroCells #[Value.int .i64 0, Value.int .i64 0] n).toList.length = n * 2 := by simp [Builtin.zeroCells]
  have h1 : ∀ v ∈ (Builtin.zeroCells #[Value.int .i64 0, Value.int .i64 0] n).toList, v.oneCell' = true := by
    intro v hv
    simp only [Builtin.zeroCells, Array.toList_map, List.mem_map, Array.mem_toList_iff, Array.mem_range] at hv
    obtain ⟨i, _, rfl⟩ := hv
    have : i % 2 = 0 ∨ i % 2 = 1 := by omega
    rcases this with h | h <;> simp [h] <;> rfl
  have hst := run_storeCells_cells (P := Tryz.prog) g o (Builtin.zeroCells #[Value.int .i64 0, Value.int .i64 0] n).toList 0 w (by simpa [hl] using hc) (by simpa [hl] using hf) h1
  simp only [Nat.add_zero] at hst
  obtain ⟨m, rfl⟩ : ∃ m, n = m + 1 := ⟨n - 1, by omega⟩
  have hz : ∀ w, (zeroValue 63).run Tryz.prog w = .ok (.agg #[.int .i64 0, .int .i64 0]) w := Tryz.zeroValue63
  have hzc : (Value.agg #[Value.int .i64 0, Value.int .i64 0]).cells = #[.int .i64 0, .int .i64 0] := rfl
  simp [Builtin.clear_, run_underlying Tryz.underlying47, hz, hzc, hst]
theorem setCells_ownP {base k g n cap : Nat} {e : TypeId} : ∀ (zs : List Value) (o : Nat) (cs : List Value) (W : World), W.ownsRow base e k (.slice (some ⟨g, 0, none⟩) n cap) n cs →
    ∃ cs', (W.setCells g o zs).ownsRow base e k (.slice (some ⟨g, 0, none⟩) n cap) n cs' ∧ cs'.take o = cs.take o ∧ Only g (g + 1) W (W.setCells g o zs)
  | [], o, cs, W, h => ⟨cs, h, rfl, Only.refl _ _ _⟩
  | z :: zs, o, cs, W, h => by
    have h1 := (World.ownsRow.stored h o z).1
    obtain ⟨cs', h2, h3, h4⟩ := setCells_ownP zs (o + 1) _ _ h1
    refine ⟨cs', h2, ?_, ((Only.refl g (g + 1) W).setCell (p := ⟨g, o, none⟩) (.inl ⟨Nat.le_refl _, Nat.lt_succ_self _⟩) z).trans h4⟩
    have h5 : cs'.take o = (cs'.take (o + 1)).take o := by rw [List.take_take]; congr 1; omega
    rw [h5, h3, List.take_take, Nat.min_eq_left (Nat.le_succ o), List.take_set, List.set_eq_of_length_le (by rw [List.length_take]; omega)]
theorem flatP_len (xs : List Pr) : (xs.flatMap cPr).length = xs.length * 2 := by
  induction xs with
  | nil => rfl
  | cons x xs ih => rw [List.flatMap_cons, List.length_append, ih, cPr_len, List.length_cons]; omega
theorem flatP_at {xs : List Pr} {i : Nat} {x : Pr} (h : xs[i]? = some x) : (xs.flatMap cPr)[i * 2]? = some (.int .i64 x.1) ∧ (xs.flatMap cPr)[i * 2 + 1]? = some (.int .i64 x.2) :=
  ⟨flat_at cPr_len h 0 _ rfl, flat_at cPr_len h 1 _ rfl⟩
theorem flatP_set : ∀ (xs : List Pr) (i : Nat) (x : Pr), i < xs.length → ((xs.flatMap cPr).set (i * 2) (.int .i64 x.1)).set (i * 2 + 1) (.int .i64 x.2) = (xs.set i x).flatMap cPr
  | [], _, _, h => absurd h (Nat.not_lt_zero _)
  | y :: ys, 0, x, _ => by simp [cPr]
  | y :: ys, i + 1, x, h => by
    have ih := flatP_set ys i x (by simpa using h)
    simp only [List.flatMap_cons, cPr, List.cons_append, List.nil_append, List.set_cons_succ, Nat.succ_mul]
    rw [← ih]
theorem flatP_take (xs : List Pr) : ∀ k, (xs.flatMap cPr).take (k * 2) = (xs.take k).flatMap cPr := by
  induction xs with
  | nil => intro k; simp
  | cons a l ih =>
    intro k
    cases k with
    | zero => simp
    | succ k => rw [Nat.succ_mul]; simp only [List.flatMap_cons, List.take_succ_cons, cPr, List.cons_append, List.nil_append]; rw [ih]
theorem compTo_take {xs : List Pr} {k : Nat} (hk : k ≤ xs.length) (h : ∀ j, j < k → keepP xs j = true) : compTo xs k = xs.take k := by
  induction k with
  | zero => simp [compTo]
  | succ k ih =>
    have hx : xs[k]? = some (xs.getD k (0, 0)) := by rw [List.getD_eq_getElem?_getD, List.getElem?_eq_getElem (by omega)]; rfl
    rw [compTo_yes (h k (by omega)), ih (by omega) (fun j hj => h j (by omega)), take_snoc hx]
theorem getP {xs : List Pr} {i : Nat} (h : i < xs.length) : xs[i]? = some (xs.getD i (0, 0)) := by rw [List.getD_eq_getElem?_getD, List.getElem?_eq_getElem h]; rfl
theorem keepP_pos {xs : List Pr} {i : Nat} (h : 0 < i) : keepP xs i = !decide (xs.getD i (0, 0) = xs.getD (i - 1) (0, 0)) := by
  have h6 : (i == 0) = false := by simp; omega
  rw [keepP, h6, Bool.false_or, bne]
  congr 1
  rw [Bool.eq_iff_iff, beq_iff_eq, decide_eq_true_eq]
set_option maxHeartbeats 4000000 in
set_option maxRecDepth 100000 in
theorem compactP_any (lo g c : Nat) (xs : List Pr) (w : World) (hrow : w.ownsRow lo 63 2 (.slice (some ⟨g, 0, none⟩) xs.length c) xs.length (xs.flatMap cPr)) (hn : xs.length ≤ 2199023255552) :
    Calls Tryz.prog 111 #[.slice (some ⟨g, 0, none⟩) xs.length c] w fun e w' => ∃ m, e = .returned (.slice (some ⟨g, 0, none⟩) m c) ∧
      w'.ownsRow lo 63 2 (.slice (some ⟨g, 0, none⟩) m c) (compTo xs xs.length).length ((compTo xs xs.length).flatMap cPr) ∧ Only g (g + 1) w w' := by
  obtain ⟨hg1, hg2⟩ := hrow.lt g rfl
  obtain ⟨hlc, hcm⟩ := row_cap hrow
  obtain ⟨R, hR⟩ : ∃ R, R = compTo xs xs.length := ⟨_, rfl⟩
  rw [← hR]
  have HR := Lib.hid hR
  have HROW := Lib.hid hrow
  clear hR hrow
  obtain ⟨N, hN⟩ : ∃ N, N = xs.length := ⟨_, rfl⟩
  rw [← hN] at hn hlc HROW HR ⊢
  have HN := Lib.hid hN
  clear hN
  by_cases h2 : N < 2
  · have hfin : R = xs := by
      rw [HR.out, compTo_take (by have := HN.out; omega) (fun j hj => by obtain rfl : j = 0 := (by omega); rfl), HN.out, List.take_length]
    have HF := Lib.hid hfin
    have hnz : (N : Int) < 2 := by omega
    clear hfin
    go_enter Tryz.func111, Tryz.ntmps111
    go_wp2_with fail
    go_ret
    exact ⟨_, rfl, by rw [HF.out, ← HN.out]; exact HROW.out, Only.refl _ _ _⟩
  · have hnz : ¬ (N : Int) < 2 := by omega
    go_enter Tryz.func111, Tryz.ntmps111
    go_wp2_with fail
    go_loopw [3] (fun ii wr => ∃ (i : Nat) (u : World), 1 ≤ i ∧ i ≤ N ∧ ii = .int .i64 (i : Int) ∧ (∀ j, j < i → keepP xs j = true) ∧ wr = ext w u) (fun ii _ => N - (intOf ii).toNat)
    case atStart => exact ⟨1, w, Nat.le_refl _, by omega, rfl, (fun j hj => by obtain rfl : j = 0 := (by omega); rfl), ext_self w⟩
    case round =>
      obtain ⟨i0, u, h1, hi, rfl, hkp, rfl⟩ := hrel
      have HKP := Lib.hid hkp
      clear hkp
      by_cases hlt : i0 < N
      · have hxi := getP (xs := xs) (i := i0) (by have := HN.out; omega)
        have hxj := getP (xs := xs) (i := i0 - 1) (by have := HN.out; omega)
        have hk0 := keepP_pos (xs := xs) h1
        obtain ⟨i1, rfl⟩ : ∃ i1, i0 = i1 + 1 := ⟨i0 - 1, by omega⟩
        simp only [Nat.add_sub_cancel] at hxj hk0
        have HROWu := Lib.hid (ownsRow_below HROW.out (ext_below w u) (Nat.le_refl _))
        obtain ⟨a0, a1⟩ := flatP_at hxi
        obtain ⟨b0, b1⟩ := flatP_at hxj
        have d0 := (World.ownsRow.cellAt HROW.out ((i1 + 1) * 2) (by omega)).trans a0
        have d1 := (World.ownsRow.cellAt HROW.out ((i1 + 1) * 2 + 1) (by omega)).trans a1
        have f0 := (World.ownsRow.cellAt HROW.out (i1 * 2) (by omega)).trans b0
        have f1 := (World.ownsRow.cellAt HROW.out (i1 * 2 + 1) (by omega)).trans b1
        have HXI := Lib.hid hxi
        have HXJ := Lib.hid hxj
        have HK0 := Lib.hid hk0
        clear a0 a1 b0 b1 hxi hxj hk0
        generalize hx : xs.getD (i1 + 1) (0, 0) = x at *
        generalize hy : xs.getD i1 (0, 0) = y at *
        obtain ⟨xa, xb⟩ := x
        obtain ⟨ya, yb⟩ := y
        simp only at d0 d1 f0 f1
        have q1 : IntKind.i64.wrap (((i1 + 1 : Nat) : Int) - 1) = (i1 : Int) := by rw [IntWalk.i64_in _ (by omega)]; omega
        have hii : ((i1 + 1 : Nat) : Int) < (N : Int) := by omega
        have hjj : (i1 : Int) < (N : Int) := by omega
        have HEQ := Lib.hid (fun (w : World) => eqlPr xa xb ya yb w)
        obtain ⟨bb, hb2⟩ : ∃ bb, bb = decide ((xa, xb) = (ya, yb)) := ⟨_, rfl⟩
        rw [← hb2] at HEQ HK0
        have heq := HEQ.out
        clear hb2 hx hy
        go_wp2_with fail
        refine wp_region_ext_lit (by kernel_rfl) (by kernel_rfl) ?_
        repeat (go_big_quiet_step (fail))
        refine wpQuiet_nil ?_
        intro _ hw'
        obtain ⟨u2, hw''⟩ := hw'
        subst hw''
        obtain ⟨u4, hu4⟩ := ext_ext w u u2
        rw [hu4]
        have HU4 := Lib.hid hu4
        clear hu4 heq HEQ
        cases bb with
        | false =>
          go_wp2_with fail
          go_roundw
          case rel =>
            refine ⟨i1 + 1 + 1, u4, by omega, by omega, by go_num, fun j hj => ?_, rfl⟩
            rcases Nat.lt_or_ge j (i1 + 1) with h | h
            · exact HKP.out j h
            · obtain rfl : j = i1 + 1 := by omega
              exact HK0.out
          case measure => simp [intOf]; omega
        | true =>
          have HST := Lib.hid (show xs.take (i1 + 1) = compTo xs (i1 + 1 + 1) by rw [compTo_no HK0.out, compTo_take (by have := HN.out; omega) HKP.out])
          have hci : ¬ c = i1 + 1 := by omega
          have HROW1 := Lib.hid (ownsRow_below HROW.out (ext_below w u4) (Nat.le_refl _))
          have HON1 := Lib.hid (Only.of_below (ext_below w u4) g (g + 1))
          have hic : ((i1 + 1 : Nat) : Int) ≤ (N : Int) := by omega
          generalize ext w u4 = W1 at *
          clear HK0 HXI HXJ HKP HROWu d0 d1 f0 f1 q1
          go_wp2_with fail
          go_loopw [3, 5] (fun ii kk wr => ∃ (i k : Nat) (L : List Pr), 1 ≤ k ∧ k ≤ N - (i1 + 1) ∧ i ≤ i1 + k ∧ ii = .int .i64 (i : Int) ∧ kk = .int .i64 (k : Int) ∧ L.length = N ∧ L.take i = compTo xs (i1 + 1 + k) ∧ L.drop (i1 + k) = xs.drop (i1 + k) ∧
            wr.ownsRow lo 63 2 (.slice (some ⟨g, 0, none⟩) N c) N (L.flatMap cPr) ∧ Only g (g + 1) w wr) (fun _ kk _ => N - (i1 + 1) - (intOf kk).toNat)
          case atStart => exact ⟨i1 + 1, 1, xs, Nat.le_refl _, by omega, Nat.le_refl _, rfl, rfl, HN.out.symm, HST.out, rfl, HROW1.out, HON1.out⟩
          case round =>
            clear HROW1 HON1 HST
            obtain ⟨i, k, L, hk1, hkN, hik, rfl, rfl, hLn, hLt, hLd, hrow, hon⟩ := hrel
            have HLN := Lib.hid hLn
            have HLT := Lib.hid hLt
            have HLD := Lib.hid hLd
            have HROW := Lib.hid hrow
            have HON := Lib.hid hon
            have hsz := hon.size
            clear hLn hLt hLd hrow hon
            obtain ⟨k1, rfl⟩ : ∃ k1, k = k1 + 1 := ⟨k - 1, by omega⟩
            by_cases hlk : k1 + 1 < N - (i1 + 1)
            · have hxi := getP (xs := xs) (i := i1 + 1 + (k1 + 1)) (by have := HN.out; omega)
              have hxj := getP (xs := xs) (i := i1 + 1 + k1) (by have := HN.out; omega)
              have hk0 := keepP_pos (xs := xs) (i := i1 + 1 + (k1 + 1)) (by omega)
              rw [show i1 + 1 + (k1 + 1) - 1 = i1 + 1 + k1 by omega] at hk0
              have hLi : L[i1 + 1 + (k1 + 1)]? = some (xs.getD (i1 + 1 + (k1 + 1)) (0, 0)) := by
                have h := congrArg (fun l => l[1]?) HLD.out
                simp only [List.getElem?_drop] at h
                rw [show i1 + (k1 + 1) + 1 = i1 + 1 + (k1 + 1) by omega] at h
                rw [h, hxi]
              have hLj : L[i1 + 1 + k1]? = some (xs.getD (i1 + 1 + k1) (0, 0)) := by
                have h := congrArg (fun l => l[0]?) HLD.out
                simp only [List.getElem?_drop] at h
                rw [show i1 + (k1 + 1) + 0 = i1 + 1 + k1 by omega] at h
                rw [h, hxj]
              have hLo := getP (xs := L) (i := i) (by have := HLN.out; omega)
              obtain ⟨a0, a1⟩ := flatP_at hLi
              obtain ⟨b0, b1⟩ := flatP_at hLj
              obtain ⟨g0, g1⟩ := flatP_at hLo
              have d0 := (World.ownsRow.cellAt HROW.out ((i1 + 1 + (k1 + 1)) * 2) (by omega)).trans a0
              have d1 := (World.ownsRow.cellAt HROW.out ((i1 + 1 + (k1 + 1)) * 2 + 1) (by omega)).trans a1
              have f0 := (World.ownsRow.cellAt HROW.out ((i1 + 1 + k1) * 2) (by omega)).trans b0
              have f1 := (World.ownsRow.cellAt HROW.out ((i1 + 1 + k1) * 2 + 1) (by omega)).trans b1
              rw [show (i1 + 1 + (k1 + 1)) * 2 = (i1 + 1) * 2 + (k1 + 1) * 2 by omega] at d0 d1
              rw [show (i1 + 1 + k1) * 2 = (i1 + 1) * 2 + k1 * 2 by omega] at f0 f1
              have hgw : g < wr.heap.size := by omega
              have HK0 := Lib.hid hk0
              have HXI := Lib.hid (show ∀ h : keepP xs (i1 + 1 + (k1 + 1)) = true, compTo xs (i1 + 1 + (k1 + 1) + 1) = compTo xs (i1 + 1 + (k1 + 1)) ++ [xs.getD (i1 + 1 + (k1 + 1)) (0, 0)] from fun h => compTo_yes h)
              have HXJ := Lib.hid (show ∀ h : keepP xs (i1 + 1 + (k1 + 1)) = false, compTo xs (i1 + 1 + (k1 + 1) + 1) = compTo xs (i1 + 1 + (k1 + 1)) from fun h => compTo_no h)
              have HG0 := Lib.hid g0
              have HG1 := Lib.hid g1
              clear a0 a1 b0 b1 hxi hxj hk0 hLi hLj hLo g0 g1
              generalize hx : xs.getD (i1 + 1 + (k1 + 1)) (0, 0) = x at *
              generalize hy : xs.getD (i1 + 1 + k1) (0, 0) = y at *
              generalize L.getD i (0, 0) = old at *
              clear hx hy
              obtain ⟨xa, xb⟩ := x
              obtain ⟨ya, yb⟩ := y
              simp only at d0 d1 f0 f1
              have q1 : IntKind.i64.wrap (((k1 + 1 : Nat) : Int) - 1) = (k1 : Int) := by rw [IntWalk.i64_in _ (by omega)]; omega
              have hii : ((k1 + 1 : Nat) : Int) < ((N - (i1 + 1) : Nat) : Int) := by omega
              have hjj : (k1 : Int) < ((N - (i1 + 1) : Nat) : Int) := by omega
              have hiN : (i : Int) < (N : Int) := by omega
              have HEQ := Lib.hid (fun (w : World) => neqlPr xa xb ya yb w)
              obtain ⟨bb, hb2⟩ : ∃ bb, bb = !decide ((xa, xb) = (ya, yb)) := ⟨_, rfl⟩
              rw [← hb2] at HEQ HK0
              have heq := HEQ.out
              clear hb2
              go_wp2_with fail
              refine wp_region_ext_lit (by kernel_rfl) (by kernel_rfl) ?_
              repeat (go_big_quiet_step (fail))
              refine wpQuiet_nil ?_
              intro _ hw'
              obtain ⟨u2, hw''⟩ := hw'
              subst hw''
              have hbu := ext_below wr u2
              have HROWx := Lib.hid (ownsRow_below HROW.out hbu (Nat.le_refl _))
              have HONx := Lib.hid (HON.out.trans (Only.of_below hbu g (g + 1)))
              have d0 := kcell hbu d0
              have d1 := kcell hbu d1
              have hgx := Nat.lt_of_lt_of_le hgw hbu.size
              generalize ext wr u2 = wx at *
              clear heq HEQ f0 f1 hbu
              cases bb with
              | true =>
                have ci0 := (World.ownsRow.cellAt HROWx.out (i * 2) (by omega)).trans HG0.out
                have ci1 := (World.ownsRow.cellAt HROWx.out (i * 2 + 1) (by omega)).trans HG1.out
                have fi0 := World.ownsRow.frozenAt HROWx.out (i * 2)
                have fi1 := World.ownsRow.frozenAt HROWx.out (i * 2 + 1)
                have hrow3 := (World.ownsRow.stored (World.ownsRow.stored HROWx.out (i * 2) (.int .i64 xa)).1 (i * 2 + 1) (.int .i64 xb)).1
                rw [flatP_set L i (xa, xb) (by have := HLN.out; omega)] at hrow3
                have hon3 := (HONx.out.setCell (p := ⟨g, i * 2, none⟩) (.inl ⟨Nat.le_refl _, Nat.lt_succ_self _⟩) (.int .i64 xa)).setCell (p := ⟨g, i * 2 + 1, none⟩) (.inl ⟨Nat.le_refl _, Nat.lt_succ_self _⟩) (.int .i64 xb)
                have HROW3 := Lib.hid hrow3
                have HON3 := Lib.hid hon3
                have HL3 := Lib.hid (show (L.set i (xa, xb)).length = N by rw [List.length_set]; exact HLN.out)
                have HT3 := Lib.hid (show (L.set i (xa, xb)).take (i + 1) = compTo xs (i1 + 1 + (k1 + 1 + 1)) by
                  have h1 : (L.set i (xa, xb))[i]? = some (xa, xb) := List.getElem?_set_self (by have := HLN.out; omega)
                  rw [take_snoc h1, List.take_set, List.set_eq_of_length_le (by rw [List.length_take]; omega), HLT.out, show i1 + 1 + (k1 + 1 + 1) = i1 + 1 + (k1 + 1) + 1 by omega, HXI.out HK0.out])
                have HD3 := Lib.hid (show (L.set i (xa, xb)).drop (i1 + (k1 + 1 + 1)) = xs.drop (i1 + (k1 + 1 + 1)) by
                  rw [List.drop_set_of_lt (by omega), ← Nat.add_assoc, ← List.drop_drop, HLD.out, List.drop_drop])
                clear hrow3 hon3
                go_wp2_with fail
                go_roundw
                case rel => exact ⟨i + 1, k1 + 1 + 1, L.set i (xa, xb), by omega, by omega, by omega, by go_num, by go_num, HL3.out, HT3.out, HD3.out, HROW3.out, HON3.out⟩
                case measure => simp [intOf]; omega
              | false =>
                have HT3 := Lib.hid (show L.take i = compTo xs (i1 + 1 + (k1 + 1 + 1)) by rw [HLT.out, show i1 + 1 + (k1 + 1 + 1) = i1 + 1 + (k1 + 1) + 1 by omega, HXJ.out HK0.out])
                have HD3 := Lib.hid (show L.drop (i1 + (k1 + 1 + 1)) = xs.drop (i1 + (k1 + 1 + 1)) by
                  rw [← Nat.add_assoc, ← List.drop_drop, HLD.out, List.drop_drop])
                go_wp2_with fail
                go_roundw
                case rel => exact ⟨i, k1 + 1 + 1, L, by omega, by omega, by omega, rfl, by go_num, HLN.out, HT3.out, HD3.out, HROWx.out, HONx.out⟩
                case measure => simp [intOf]; omega
            · have hkk : k1 + 1 = N - (i1 + 1) := by omega
              have hlz : ¬ ((k1 + 1 : Nat) : Int) < ((N - (i1 + 1) : Nat) : Int) := by omega
              have hci2 : ¬ c = i := by omega
              have hcl : ∀ ty, (Builtin.clear_ #[47] ty #[.slice (some ⟨g, i * 2, none⟩) (N - i) (c - i)]).run Tryz.prog wr = .ok (.tuple #[]) (wr.setCells g (i * 2) (Builtin.zeroCells #[.int .i64 0, .int .i64 0] (N - i)).toList) :=
                fun ty => clear_pairs wr ty g (i * 2) (N - i) (c - i) (by omega) (fun t ht => by
                  rw [World.ownsRow.cellAt HROW.out (i * 2 + t) (by omega), List.getElem?_eq_getElem (by rw [flatP_len]; have := HLN.out; omega)]; rfl) (fun t ht => World.ownsRow.frozenAt HROW.out (i * 2 + t))
              obtain ⟨cs', h1, h2, h3⟩ := setCells_ownP (Builtin.zeroCells #[.int .i64 0, .int .i64 0] (N - i)).toList (i * 2) _ _ HROW.out
              have h4 := ownsRow_take h1 (show i ≤ N by omega)
              have hfin : R = L.take i := by rw [HR.out, HLT.out]; congr 1; omega
              rw [h2, flatP_take, ← hfin] at h4
              have hRl : R.length = i := by rw [hfin, List.length_take]; have := HLN.out; omega
              have HOWN := Lib.hid h4
              have HRL := Lib.hid hRl
              have HON2 := Lib.hid (HON.out.trans h3)
              have hcz : (i : Int) ≤ (N : Int) := by omega
              have hcz2 : (i : Int) ≤ (c : Int) := by omega
              clear h1 h2 h3 h4 hfin hRl hkk
              go_wp2_with fail
              go_ret
              exact ⟨_, rfl, by rw [HRL.out]; exact HOWN.out, HON2.out⟩
      · obtain rfl : i0 = N := by omega
        have hfin : R = xs := by rw [HR.out, compTo_take (by have := HN.out; omega) HKP.out, HN.out, List.take_length]
        have HF := Lib.hid hfin
        have HROWu := Lib.hid (ownsRow_below HROW.out (ext_below w u) (Nat.le_refl _))
        clear hfin
        go_wp2_with fail
        go_ret
        exact ⟨_, rfl, by rw [HF.out, ← HN.out]; exact HROWu.out, Only.of_below (ext_below w u) _ _⟩
end Go.Proofs.YtpbfdmfkmbdpkaaGreat
namespace Go.Proofs.YtpbfdmfkmbdpkaaGreat
set_option linter.unusedVariables false
set_option linter.unusedSimpArgs false
open Go.ChangeShapes Go.WideShapes Go.ChangeAt Go.RowKit
attribute [local go_sem] ext_cell ext_frozen ext_lt ext_lt1 ext_lt2 ext_lt3 ltn2 ltn3 ltn13 lts1 lts2 lts3
end Go.Proofs.YtpbfdmfkmbdpkaaGreat
namespace Go.Proofs.YtpbfdmfkmbdpkaaGreat
set_option linter.unusedVariables false
set_option linter.unusedSimpArgs false
open Go.ChangeShapes Go.WideShapes Go.ChangeAt Go.RowKit
attribute [local go_sem] ext_cell ext_frozen ext_lt ext_lt1 ext_lt2 ext_lt3 ltn2 ltn3 ltn13 lts1 lts2 lts3
theorem own_blk {W : World} {base k n : Nat} {e : TypeId} {v : Value} {cs : List Value} (h : W.ownsRow base e k v n cs) {b : Nat} (hb : v.ownBlock = some b) : ∃ c, v = .slice (some ⟨b, 0, none⟩) n c := by
  obtain ⟨_, hs⟩ := h
  rcases hs with ⟨rfl, _⟩ | ⟨g, cap, cur, rfl, _⟩
  · cases hb
  · injection hb with hb
    subst hb
    exact ⟨cap, rfl⟩
set_option maxHeartbeats 2000000 in
theorem pairSet_any (v : Value) (xs : List Pr) (w : World) (hv : SlE w cPr 2 v xs) (hn : xs.length ≤ 1099511627776) :
    Calls Tryz.prog 76 #[v] w fun e w' => ∃ v', e = .returned v' ∧ Own w.heap.size w'.heap.size w' 63 cPr 2 v' (psetL xs) ∧ Below w.heap.size w w' := by
  have hv0 := hv
  obtain ⟨A, c, rfl, hl, hm, -⟩ := hv
  unfold maxLen at hm
  have hba : Below w.heap.size w (w.alloc (.cells #[] 63)) := (Below.refl _ _).alloc (Nat.le_refl _) _
  have hv1 := SlE.keep hv0 hba
  have hrow := World.ownsRow_lit (base := w.heap.size) (e := 63) (size := 2) w #[] 0 (Nat.le_refl _) (by decide) rfl
  obtain ⟨R, hR⟩ : ∃ R, R = psetL xs := ⟨_, rfl⟩
  rw [← hR]
  have HRS := Lib.hid hR
  have HV := Lib.hid hv1
  have HR := Lib.hid hrow
  have HBA := Lib.hid hba
  clear hv0 hv1 hrow hR hba
  go_enter Tryz.func76, Tryz.ntmps76
  go_wp2_with (at_builtin; (refine wpList_appendL cPr elPair cPr_len cPr_one rfl _ _ rfl w.heap.size _ [] xs (by rfl) HR.out 0 _ _ (by rfl) HV.out (by simp; omega) (by omega) (by simp) ?_); intro v' w4 hrow' hgr4 hat4)
  simp only [List.nil_append] at hrow'
  have hb4 := HBA.out.trans (own_below HR.out (by simp) hgr4)
  have hob : ∃ b, v'.ownBlock = some b := by
    rcases hat4 with h | h
    · exact ⟨w.heap.size, h⟩
    · exact ⟨_, h⟩
  obtain ⟨g, hob⟩ := hob
  obtain ⟨c', rfl⟩ := own_blk hrow' hob
  have HS := Lib.hid (sortPairs_any w.heap.size g c' xs w4 hrow' (by omega))
  have HB4 := Lib.hid hb4
  have hg1 := (hrow'.lt g rfl).1
  have hg2 := (hrow'.lt g rfl).2
  clear hrow' hgr4 hat4 hob hb4
  refine HS.out.mono ?_
  rintro e w5 ⟨rfl, ys, hyl, hym, hys, hrow5, hon5⟩
  have hset := compTo_set hys hym
  rw [← HRS.out] at hset
  rw [← hyl] at hrow5
  have HC := Lib.hid (compactP_any w.heap.size g c' ys w5 hrow5 (by omega))
  rw [hset] at HC
  have HB5 := Lib.hid (HB4.out.trans (hon5.below (B := w.heap.size) hg1 (by omega)))
  have hs5 := hon5.size
  rw [← hyl]
  clear hset hrow5 hon5 hys hym hyl HS
  go_wp2_with fail
  refine HC.out.mono ?_
  rintro e w6 ⟨m, rfl, hrow6, hon6⟩
  have HO := Lib.hid (Own.of_row (xs := R) hrow6 rfl rfl)
  have HB6 := Lib.hid (HB5.out.trans (hon6.below (B := w.heap.size) hg1 (by omega)))
  clear hrow6 hon6
  go_wp2_with fail
  go_ret
  exact ⟨_, rfl, HO.out, HB6.out⟩
end Go.Proofs.YtpbfdmfkmbdpkaaGreat
namespace Go.Proofs.YtpbfdmfkmbdpkaaGreat
set_option linter.unusedVariables false
set_option linter.unusedSimpArgs false
open Go.ChangeShapes Go.WideShapes Go.ChangeAt Go.RowKit
attribute [local go_sem] ext_cell ext_frozen ext_lt ext_lt1 ext_lt2 ext_lt3 ltn2 ltn3 ltn13 lts1 lts2 lts3
set_option maxHeartbeats 2000000 in
theorem indexP_any (v : Value) (l : List Pr) (p : Pr) (w : World) (hv : SlE w cPr 2 v l) :
    Calls Tryz.prog 112 #[v, .agg #[.int .i64 p.1, .int .i64 p.2]] w fun e w' => ∃ r : Int, e = .returned (.int .i64 r) ∧ ((inP l p = true ∧ 0 ≤ r) ∨ (inP l p = false ∧ r = -1)) ∧ Below w.heap.size w w' := by
  have hs := hv
  obtain ⟨A, c, rfl, hl, hm, -⟩ := hv
  unfold maxLen at hm
  have HS := Lib.hid hs
  obtain ⟨pa, pb⟩ := p
  obtain ⟨R, hR⟩ : ∃ R, R = inP l (pa, pb) := ⟨_, rfl⟩
  have HRT := Lib.hid (fun (h : ((pa, pb) : Pr) ∈ l) => show R = true by rw [hR, inP]; simpa using h)
  have HRF := Lib.hid (fun (h : ¬ ((pa, pb) : Pr) ∈ l) => show R = false by rw [hR, inP]; simpa using h)
  simp only
  rw [← hR]
  clear hs hR
  have hb0 : Below w.heap.size w (w.alloc (.cells #[.int .i64 pa, .int .i64 pb] 63)) := (Below.refl _ _).alloc (Nat.le_refl _) _
  have bZ := Blk.new w 63 #[.int .i64 pa, .int .i64 pb] w.heap.size rfl
  go_enter Tryz.func112, Tryz.ntmps112
  go_wp2_with fail
  obtain ⟨W1, hW1⟩ : ∃ W1, W1 = w.alloc (.cells #[.int .i64 pa, .int .i64 pb] 63) := ⟨_, rfl⟩
  rw [← hW1] at hb0 bZ ⊢
  have z0 : W1.cell? ⟨w.heap.size, 0, none⟩ = some (.int .i64 pa) := bZ.cell 0
  have z1 : W1.cell? ⟨w.heap.size, 1, none⟩ = some (.int .i64 pb) := bZ.cell 1
  have lz := bZ.lt
  have HB0 := Lib.hid hb0
  clear hW1 hb0 bZ
  go_loopw [8] (fun ii wr => ∃ (i : Nat) (u : World), i ≤ l.length ∧ ii = .int .i64 (i : Int) ∧ (∀ j q, j < i → l[j]? = some q → q ≠ ((pa, pb) : Pr)) ∧ wr = ext W1 u) (fun ii _ => l.length - (intOf ii).toNat)
  case atStart => exact ⟨0, W1, Nat.zero_le _, rfl, fun j q hj => by omega, ext_self _⟩
  case round =>
    obtain ⟨i, u, hi, rfl, hno, rfl⟩ := hrel
    by_cases hlt : i < l.length
    · have hxi : l[i]? = some l[i] := List.getElem?_eq_getElem hlt
      generalize l[i] = x at hxi
      obtain ⟨b', o, rfl, ⟨-, hb⟩, d0, d1⟩ := HS.out.prA hxi
      obtain ⟨xa, xb⟩ := x
      simp only at d0 d1
      have d0 := kcell HB0.out d0
      have d1 := kcell HB0.out d1
      have hbw : b' < W1.heap.size := by omega
      have hii : (i : Int) < (l.length : Int) := by omega
      have HMEM := Lib.hid (List.mem_of_getElem? hxi)
      have HNX := Lib.hid (fun (h : ((pa, pb) : Pr) ≠ (xa, xb)) j q (hj : j < i + 1) (hq : l[j]? = some q) => show q ≠ ((pa, pb) : Pr) from by
        rcases Nat.lt_or_ge j i with h1 | h1
        · exact hno j q h1 hq
        · obtain rfl : j = i := by omega
          rw [hxi] at hq
          injection hq with hq
          rw [← hq]; exact fun e => h e.symm)
      obtain ⟨bb, hbb⟩ : ∃ bb, bb = decide (((pa, pb) : Pr) = (xa, xb)) := ⟨_, rfl⟩
      have HEQ := Lib.hid (fun w => eqlPr pa pb xa xb w)
      rw [← hbb] at HEQ
      have HBB := Lib.hid hbb
      have heq := HEQ.out
      clear hbb hxi hno
      cases bb with
      | true =>
        have HFN := Lib.hid (HRT.out (by have h : ((pa, pb) : Pr) = (xa, xb) := of_decide_eq_true HBB.out.symm; rw [h]; exact HMEM.out))
        go_wp2_with fail
        refine wp_region_ext_lit (by kernel_rfl) (by kernel_rfl) ?_
        repeat (go_big_quiet_step (fail))
        refine wpQuiet_nil ?_
        intro _ hw'
        obtain ⟨u2, hw''⟩ := hw'
        subst hw''
        have hbf := below_trans HB0.out (below_trans (ext_below W1 u) (ext_below (ext W1 u) u2))
        go_wp2_with fail
        go_ret
        exact ⟨_, rfl, .inl ⟨HFN.out, by omega⟩, hbf⟩
      | false =>
        have HNY := Lib.hid (HNX.out (of_decide_eq_false HBB.out.symm))
        go_wp2_with fail
        refine wp_region_ext_lit (by kernel_rfl) (by kernel_rfl) ?_
        repeat (go_big_quiet_step (fail))
        refine wpQuiet_nil ?_
        intro _ hw'
        obtain ⟨u2, hw''⟩ := hw'
        subst hw''
        obtain ⟨u4, hu4⟩ := ext_ext W1 u u2
        rw [hu4]
        clear hu4
        go_wp2_with fail
        go_roundw
        case rel => exact ⟨i + 1, u4, by omega, by go_num, HNY.out, rfl⟩
        case measure => simp [intOf]; omega
    · have HFN := Lib.hid (HRF.out (fun h => by
        obtain ⟨j, hj⟩ := List.getElem?_of_mem h
        exact hno j _ (by have := (List.getElem?_eq_some_iff.1 hj).1; omega) hj rfl))
      have hii : ¬ (i : Int) < (l.length : Int) := by omega
      have hbf := below_trans HB0.out (ext_below W1 u)
      clear hno
      go_wp2_with fail
      go_ret
      exact ⟨_, rfl, .inr ⟨HFN.out, rfl⟩, hbf⟩
theorem containsP_any (v : Value) (l : List Pr) (p : Pr) (w : World) (hv : SlE w cPr 2 v l) :
    Calls Tryz.prog 78 #[v, .agg #[.int .i64 p.1, .int .i64 p.2]] w fun e w' => e = .returned (.bool (inP l p)) ∧ Below w.heap.size w w' := by
  have hb0 : Below w.heap.size w (w.alloc (.cells #[.int .i64 p.1, .int .i64 p.2] 63)) := (Below.refl _ _).alloc (Nat.le_refl _) _
  have HI := Lib.hid (indexP_any v l p _ (SlE.keep hv hb0))
  generalize inP l p = R at *
  clear hv
  go_enter Tryz.func78, Tryz.ntmps78
  go_wp2_with fail
  refine HI.out.mono ?_
  rintro e w1 ⟨r, rfl, hr, hb1⟩
  have hb2 := below_trans hb0 hb1
  rcases hr with ⟨rfl, h0⟩ | ⟨rfl, rfl⟩
  · have hd : decide (r ≥ 0) = true := by simpa using h0
    go_wp2_with fail
    go_ret
    exact ⟨rfl, hb2⟩
  · go_wp2_with fail
    go_ret
    exact ⟨rfl, hb2⟩
theorem subClos (bB : Nat) (B : Option Addr) (nb cb : Nat) (b : List Pr) (p : Pr) (W : World) (y0 : W.cell? ⟨bB, 0, none⟩ = some (.slice B nb cb)) (hvb : SlE W cPr 2 (.slice B nb cb) b) :
    Calls Tryz.prog 77 #[.agg #[.int .i64 p.1, .int .i64 p.2], .pointer (some ⟨bB, 0, none⟩)] W fun e W' => e = .returned (.bool (inP b p)) ∧ Below W.heap.size W W' := by
  have hb0 : Below W.heap.size W (W.alloc (.cells #[.int .i64 p.1, .int .i64 p.2] 63)) := (Below.refl _ _).alloc (Nat.le_refl _) _
  have HC := Lib.hid (containsP_any _ b p _ (SlE.keep hvb hb0))
  have lB : bB < W.heap.size := World.block_lt_of_cell? _ _ y0
  generalize inP b p = R at *
  clear hvb
  go_enter Tryz.func77, Tryz.ntmps77
  go_wp2_with fail
  refine HC.out.mono ?_
  rintro e w1 ⟨rfl, hb1⟩
  have hb2 := below_trans hb0 hb1
  go_wp2_with fail
  go_ret
  exact ⟨rfl, hb2⟩
/-- slices.IndexFunc over pairs, at SubtractPairs' closure -/
theorem indexFuncP (k0 : Value) (v : Value) (xs : List Pr) (p : Pr → Bool) (w : World) (hv : SlE w cPr 2 v xs)
    (hF : ∀ x ∈ xs, ∀ W : World, Below w.heap.size w W → Calls Tryz.prog 77 #[.agg #[.int .i64 x.1, .int .i64 x.2], k0] W fun e W' => e = .returned (.bool (p x)) ∧ Below W.heap.size W W') :
    Calls Tryz.prog 108 #[v, .func (Fn.func 77) #[] #[k0]] w fun e w' => ∃ r : Int, e = .returned (.int .i64 r) ∧ Below w.heap.size w w' ∧
      ((r = -1 ∧ ∀ x ∈ xs, p x = false) ∨ ∃ (i : Nat), r = i ∧ i < xs.length ∧ p (xs.getD i (0, 0)) = true ∧ ∀ y ∈ xs.take i, p y = false) := by
  obtain ⟨A, c, rfl, hl, hm, hx⟩ := hv
  unfold maxLen at hm
  have HF := Lib.hid hF
  have HX := Lib.hid hx
  clear hF hx
  go_enter Tryz.func108, Tryz.ntmps108
  go_wp2_with fail
  go_loopw [8] (fun ii wr => ∃ (i : Nat) (u : World), i ≤ xs.length ∧ ii = .int .i64 i ∧ (∀ y ∈ xs.take i, p y = false) ∧ wr = ext w u) (fun ii _ => xs.length - (intOf ii).toNat)
  case atStart => exact ⟨0, w, Nat.zero_le _, rfl, by simp, ext_self w⟩
  case round =>
    obtain ⟨i, u, hi, rfl, hno, rfl⟩ := hrel
    have HN := Lib.hid hno
    clear hno
    by_cases hlt : i < xs.length
    · have hxi := getP (xs := xs) hlt
      obtain ⟨x, hx⟩ : ∃ x, x = xs.getD i (0, 0) := ⟨_, rfl⟩
      rw [← hx] at hxi
      obtain ⟨b, o, rfl, -, hb, hc⟩ := HX.out i x hxi
      have c0 := hc 0 _ rfl
      have c1 := hc 1 _ rfl
      simp only [Nat.add_zero] at c0
      have HXI := Lib.hid hxi
      have HXE := Lib.hid hx
      clear hc hxi hx
      have hii : (i : Int) < (xs.length : Int) := by omega
      go_wp2_with fail
      refine (HF.out x (List.mem_of_getElem? HXI.out) _ (ext_below w u)).mono ?_
      rintro e w1 ⟨rfl, hb1⟩
      cases hbb : p x with
      | true =>
        have HBB := Lib.hid hbb
        clear hbb
        go_wp2_with fail
        go_ret
        exact ⟨_, rfl, below_trans (ext_below w u) hb1, .inr ⟨i, rfl, hlt, by rw [← HXE.out]; exact HBB.out, HN.out⟩⟩
      | false =>
        have HBB := Lib.hid hbb
        clear hbb
        go_wp2_with fail
        go_roundw
        case rel =>
          obtain ⟨z, hz⟩ := ext_of (below_trans (ext_below w u) hb1)
          refine ⟨i + 1, z, by omega, by go_num, fun y hy => ?_, hz⟩
          rw [take_snoc HXI.out] at hy
          rcases List.mem_append.1 hy with hy | hy
          · exact HN.out y hy
          · have : y = x := by simpa using hy
            subst this
            exact HBB.out
        case measure => simp [intOf]; omega
    · obtain rfl : i = xs.length := by omega
      go_wp2_with fail
      go_ret
      exact ⟨_, rfl, ext_below w u, .inl ⟨rfl, fun x hx => HN.out x (by rw [List.take_length]; exact hx)⟩⟩
set_option maxHeartbeats 4000000 in
set_option maxRecDepth 100000 in
theorem deleteFuncP (k0 v : Value) (lo : Nat) (xs : List Pr) (p : Pr → Bool) (w : World) (hv : Own lo w.heap.size w 63 cPr 2 v xs) (hn : xs.length ≤ 1048576)
    (hF : ∀ x ∈ xs, ∀ W : World, Only lo w.heap.size w W → Calls Tryz.prog 77 #[.agg #[.int .i64 x.1, .int .i64 x.2], k0] W fun e W' => e = .returned (.bool (p x)) ∧ Below W.heap.size W W') :
    Calls Tryz.prog 75 #[v, .func (Fn.func 77) #[] #[k0]] w fun e w' => ∃ v', e = .returned v' ∧ Own lo w'.heap.size w' 63 cPr 2 v' (xs.filter fun x => !p x) ∧ Only lo w.heap.size w w' := by
  have hif := indexFuncP k0 v xs p w ((hv.sl cPr_len).all (Nat.le_refl _)) (fun x hx W hW => hF x hx W (Only.of_below hW _ _))
  obtain ⟨A, n, c, rfl⟩ := hv.shape
  have hnn : n = xs.length := by
    obtain ⟨A', c', h1, _⟩ := hv.sl cPr_len
    injection h1
  subst hnn
  have HV := Lib.hid hv
  have HF := Lib.hid hF
  have HIF := Lib.hid hif
  clear hv hF hif
  obtain ⟨R, hR⟩ : ∃ R, R = xs.filter fun x => !p x := ⟨_, rfl⟩
  rw [← hR]
  have HR := Lib.hid hR
  clear hR
  go_enter Tryz.func75, Tryz.ntmps75
  go_wp2_with fail
  refine HIF.out.mono ?_
  rintro e w1 ⟨r, rfl, hb1, hr⟩
  rcases hr with ⟨rfl, hno⟩ | ⟨i0, rfl, hi0, hp0, hno⟩
  · have hfin : R = xs := by
      rw [HR.out]
      exact List.filter_eq_self.2 fun x hx => by rw [hno x hx]; rfl
    have HFN := Lib.hid hfin
    clear hno hfin
    go_wp2_with fail
    go_ret
    exact ⟨_, rfl, by rw [HFN.out]; exact (HV.out.below hb1 (Nat.le_refl _)).mono (Nat.le_refl _) hb1.size, Only.of_below hb1 _ _⟩
  · have hrow0 := ownsRow_below HV.out.1 hb1 (Nat.le_refl _)
    obtain ⟨g, cap, hv2, hg1, hg2, hcap, hcm⟩ := own_some HV.out.1 (by omega)
    injection hv2 with e1 _ e3
    subst e1 e3
    have hon1 := Only.of_below hb1 lo w.heap.size
    have hst : (xs.take (i0 + 1)).filter (fun x => !p x) = xs.take i0 := by
      rw [take_snoc (getP hi0), List.filter_append]
      have h1 : (xs.take i0).filter (fun x => !p x) = xs.take i0 := List.filter_eq_self.2 fun x hx => by rw [hno x hx]; rfl
      have h2 : [xs.getD i0 (0, 0)].filter (fun x => !p x) = [] := by simp only [List.filter_cons, hp0]; rfl
      rw [h1, h2, List.append_nil]
    have HROW0 := Lib.hid hrow0
    have HST := Lib.hid hst
    have HON1 := Lib.hid hon1
    have hi0z : ((i0 : Int) == -1) = false := by simp only [beq_eq_false_iff_ne, ne_eq]; omega
    obtain ⟨N, hN⟩ : ∃ N, N = xs.length := ⟨_, rfl⟩
    rw [← hN] at hn hi0 hcap HROW0 ⊢
    have HN := Lib.hid hN
    clear hrow0 hst hon1 hb1 hp0 hno hN
    go_wp2_with fail
    go_loopw [5, 6] (fun ii jj wr => ∃ (i j : Nat) (L : List Pr), i < j ∧ j ≤ N ∧ ii = .int .i64 (i : Int) ∧ jj = .int .i64 (j : Int) ∧ L.length = N ∧ L.take i = (xs.take j).filter (fun x => !p x) ∧ L.drop j = xs.drop j ∧
      wr.ownsRow lo 63 2 (.slice (some ⟨g, 0, none⟩) N c) N (L.flatMap cPr) ∧ Only lo w.heap.size w wr) (fun _ jj _ => N - (intOf jj).toNat)
    case atStart => exact ⟨i0, i0 + 1, xs, by omega, by omega, rfl, by go_num, HN.out.symm, HST.out.symm, rfl, HROW0.out, HON1.out⟩
    case round =>
      clear HROW0 HON1 HST
      obtain ⟨i, j, L, hij, hj, rfl, rfl, hLn, hLt, hLd, hrow, hon⟩ := hrel
      have HLN := Lib.hid hLn
      have HLT := Lib.hid hLt
      have HLD := Lib.hid hLd
      have HROW := Lib.hid hrow
      have HON := Lib.hid hon
      have hsz := hon.size
      clear hLn hLt hLd hrow hon
      by_cases hlt : j < N
      · have hxj := getP (xs := xs) (i := j) (by have := HN.out; omega)
        have hLj : L[j]? = some (xs.getD j (0, 0)) := by
          have h := congrArg (fun l => l[0]?) HLD.out
          simp only [List.getElem?_drop, Nat.add_zero] at h
          rw [h, hxj]
        obtain ⟨a0, a1⟩ := flatP_at hLj
        have cj0 := (World.ownsRow.cellAt HROW.out (j * 2) (by omega)).trans a0
        have cj1 := (World.ownsRow.cellAt HROW.out (j * 2 + 1) (by omega)).trans a1
        have hxm := List.mem_of_getElem? hxj
        have HXJ := Lib.hid hxj
        have hLi := getP (xs := L) (i := i) (by have := HLN.out; omega)
        obtain ⟨g0, g1⟩ := flatP_at hLi
        have HG0 := Lib.hid g0
        have HG1 := Lib.hid g1
        have hgw : g < wr.heap.size := by omega
        have HXM := Lib.hid hxm
        clear hxj hLj hxm hLi a0 a1 g0 g1
        generalize hxe : xs.getD j (0, 0) = x at *
        generalize L.getD i (0, 0) = old at *
        have hjj : (j : Int) < (N : Int) := by omega
        have hii : (i : Int) < (N : Int) := by omega
        obtain ⟨xa, xb⟩ := x
        simp only at cj0 cj1
        clear hxe
        have hbX : Below wr.heap.size wr (wr.alloc (.cells #[.int .i64 xa, .int .i64 xb] 63)) := (Below.refl _ _).alloc (Nat.le_refl _) _
        have bX := Blk.new wr 63 #[.int .i64 xa, .int .i64 xb] wr.heap.size rfl
        have HBX := Lib.hid hbX
        have HBV := Lib.hid bX
        clear hbX bX
        go_wp2_with fail
        refine (HF.out (xa, xb) HXM.out _ (HON.out.trans (Only.of_below HBX.out lo w.heap.size))).mono ?_
        rintro e w2 ⟨rfl, hb2⟩
        have hbW := below_trans HBX.out hb2
        have hrow2 := ownsRow_below HROW.out hbW (Nat.le_refl _)
        have bX := HBV.out.keep hb2
        have q0 : w2.cell? ⟨wr.heap.size, 0, none⟩ = some (.int .i64 xa) := bX.cell 0
        have q1 : w2.cell? ⟨wr.heap.size, 1, none⟩ = some (.int .i64 xb) := bX.cell 1
        have lq := bX.lt
        have hon2 := HON.out.trans (Only.of_below hbW lo w.heap.size)
        have hs2 := hbW.size
        clear bX
        cases hpx : p (xa, xb) with
        | true =>
          have hflt : (xs.take (j + 1)).filter (fun x => !p x) = (xs.take j).filter (fun x => !p x) := by
            rw [take_snoc HXJ.out, List.filter_append]
            have h2 : [((xa, xb) : Pr)].filter (fun x => !p x) = [] := by simp only [List.filter_cons, hpx]; rfl
            rw [h2, List.append_nil]
          have HROW2 := Lib.hid hrow2
          have HON2 := Lib.hid hon2
          have HFL := Lib.hid hflt
          have HD1 := Lib.hid (show L.drop (j + 1) = xs.drop (j + 1) by rw [← List.drop_drop, HLD.out, List.drop_drop])
          clear hrow2 hon2 hflt hpx hb2 hbW
          go_wp2_with fail
          go_roundw
          case rel => exact ⟨i, j + 1, L, by omega, by omega, rfl, by go_num, HLN.out, by rw [HFL.out]; exact HLT.out, HD1.out, HROW2.out, HON2.out⟩
          case measure => simp [intOf]; omega
        | false =>
          have hflt : (xs.take (j + 1)).filter (fun x => !p x) = (xs.take j).filter (fun x => !p x) ++ [(xa, xb)] := by
            rw [take_snoc HXJ.out, List.filter_append]
            have h2 : [((xa, xb) : Pr)].filter (fun x => !p x) = [(xa, xb)] := by simp only [List.filter_cons, hpx]; rfl
            rw [h2]
          have ci0 := (World.ownsRow.cellAt hrow2 (i * 2) (by omega)).trans HG0.out
          have ci1 := (World.ownsRow.cellAt hrow2 (i * 2 + 1) (by omega)).trans HG1.out
          have fi0 := World.ownsRow.frozenAt hrow2 (i * 2)
          have fi1 := World.ownsRow.frozenAt hrow2 (i * 2 + 1)
          have hrow3 := (World.ownsRow.stored (World.ownsRow.stored hrow2 (i * 2) (.int .i64 xa)).1 (i * 2 + 1) (.int .i64 xb)).1
          rw [flatP_set L i (xa, xb) (by have := HLN.out; omega)] at hrow3
          have hon3 := (hon2.setCell (p := ⟨g, i * 2, none⟩) (.inl ⟨hg1, hg2⟩) (.int .i64 xa)).setCell (p := ⟨g, i * 2 + 1, none⟩) (.inl ⟨hg1, hg2⟩) (.int .i64 xb)
          have HROW2 := Lib.hid hrow3
          have HON2 := Lib.hid hon3
          have HFL := Lib.hid hflt
          have hlen : (L.set i (xa, xb)).length = N := by rw [List.length_set]; exact HLN.out
          have ht1 : (L.set i (xa, xb)).take (i + 1) = L.take i ++ [(xa, xb)] := by
            have h1 : (L.set i (xa, xb))[i]? = some (xa, xb) := List.getElem?_set_self (by have := HLN.out; omega)
            rw [take_snoc h1, List.take_set, List.set_eq_of_length_le (by rw [List.length_take]; omega)]
          have hd1 : (L.set i (xa, xb)).drop (j + 1) = xs.drop (j + 1) := by
            rw [List.drop_set_of_lt (by omega), ← List.drop_drop, HLD.out, List.drop_drop]
          have HLN2 := Lib.hid hlen
          have HT1 := Lib.hid ht1
          have HD1 := Lib.hid hd1
          have hgw2 : g < w2.heap.size := by omega
          clear hrow2 hon2 hrow3 hon3 hflt hpx hb2 hlen ht1 hd1 hbW
          go_wp2_with fail
          go_roundw
          case rel => exact ⟨i + 1, j + 1, L.set i (xa, xb), by omega, by omega, by go_num, by go_num, HLN2.out, by rw [HFL.out, HT1.out, HLT.out], HD1.out, HROW2.out, HON2.out⟩
          case measure => simp [intOf]; omega
      · obtain rfl : j = N := by omega
        have hci2 : ¬ c = i := by omega
        have hcl : ∀ ty, (Builtin.clear_ #[47] ty #[.slice (some ⟨g, i * 2, none⟩) (j - i) (c - i)]).run Tryz.prog wr = .ok (.tuple #[]) (wr.setCells g (i * 2) (Builtin.zeroCells #[.int .i64 0, .int .i64 0] (j - i)).toList) :=
          fun ty => clear_pairs wr ty g (i * 2) (j - i) (c - i) (by omega) (fun t ht => by
            rw [World.ownsRow.cellAt HROW.out (i * 2 + t) (by omega), List.getElem?_eq_getElem (by rw [flatP_len]; have := HLN.out; omega)]; rfl) (fun t ht => World.ownsRow.frozenAt HROW.out (i * 2 + t))
        obtain ⟨cs', h1, h2, h3⟩ := setCells_ownP (Builtin.zeroCells #[.int .i64 0, .int .i64 0] (j - i)).toList (i * 2) _ _ HROW.out
        have h4 := ownsRow_take h1 (show i ≤ j by omega)
        have hfin : R = L.take i := by rw [HR.out, HLT.out, HN.out, List.take_length]
        rw [h2, flatP_take, ← hfin] at h4
        have hRl : R.length = i := by rw [hfin, List.length_take]; have := HLN.out; omega
        have HOWN := Lib.hid h4
        have HRL := Lib.hid hRl
        have HON2 := Lib.hid (HON.out.trans (h3.mono hg1 (show g + 1 ≤ w.heap.size by omega)))
        have hcz : (i : Int) ≤ (j : Int) := by omega
        have hcz2 : (i : Int) ≤ (c : Int) := by omega
        clear h1 h2 h3 h4 hfin hRl
        go_wp2_with fail
        go_ret
        exact ⟨_, rfl, Own.of_row HOWN.out HRL.out rfl, HON2.out⟩
set_option maxHeartbeats 4000000 in
set_option maxRecDepth 100000 in
theorem implSubtract (va vb : Value) (a b : List Pr) (w : World) (hva : SlE w cPr 2 va a) (hvb : SlE w cPr 2 vb b) (hna : a.length ≤ 1048576) :
    Calls Tryz.prog 51 #[va, vb] w fun e w' => ∃ v', e = .returned v' ∧ Own w.heap.size w'.heap.size w' 63 cPr 2 v' (subL a b) ∧ Below w.heap.size w w' := by
  have hsb := hvb
  obtain ⟨B, cb, rfl, hlb, hmb, -⟩ := hvb
  have hb0 : Below w.heap.size w (w.alloc (.cells #[.slice B b.length cb] 47)) := (Below.refl _ _).alloc (Nat.le_refl _) _
  have bZ := Blk.new w 47 #[.slice B b.length cb] w.heap.size rfl
  have HPS := Lib.hid (pairSet_any va a _ (SlE.keep hva hb0) (by omega))
  have hsub := subL_pset a b
  obtain ⟨R, hR⟩ : ∃ R, R = subL a b := ⟨_, rfl⟩
  rw [← hR] at hsub ⊢
  have hpl := psetL_len a
  have HSUB := Lib.hid hsub
  have HSB := Lib.hid hsb
  have HB0 := Lib.hid hb0
  have HZ := Lib.hid bZ
  generalize psetL a = PA at *
  clear hva hsb hb0 bZ hsub hR
  go_enter Tryz.func51, Tryz.ntmps51
  go_wp2_with fail
  refine HPS.out.mono ?_
  rintro e w1 ⟨v1, rfl, ho1, hb1⟩
  have hbz := HZ.out.keep hb1
  have hs0 : w.heap.size + 1 ≤ w1.heap.size := by have := hb1.size; simp at this; omega
  have hbw := below_trans HB0.out hb1
  have HDF := Lib.hid (deleteFuncP (.pointer (some ⟨w.heap.size, 0, none⟩)) v1 (w.heap.size + 1) PA (inP b) w1 (ho1.mono (by simp) (Nat.le_refl _)) (by omega) (fun x _ W hW => by
    have hz := hbz.only hW (.inl (Nat.lt_succ_self _))
    exact subClos w.heap.size B b.length cb b x W (hz.cell 0) (((SlI.below HSB.out hbw (Nat.le_refl _)).only hW hbw.size (.inl (Nat.le_succ _))).mono (Nat.le_refl _) (Nat.le_trans hbw.size hW.size))))
  rw [HSUB.out] at HDF
  have HBW := Lib.hid hbw
  clear ho1 hb1 hbz hbw
  go_wp2_with fail
  refine HDF.out.mono ?_
  rintro e w2 ⟨v2, rfl, ho2, hon2⟩
  have hbf := HBW.out.trans (hon2.below (show w.heap.size ≤ w.heap.size + 1 by omega) HBW.out.size)
  have HO := Lib.hid (ho2.mono (show w.heap.size ≤ w.heap.size + 1 by omega) (Nat.le_refl _))
  clear ho2 hon2
  go_wp2_with fail
  go_ret
  exact ⟨_, rfl, HO.out, hbf⟩
end Go.Proofs.YtpbfdmfkmbdpkaaGreat
