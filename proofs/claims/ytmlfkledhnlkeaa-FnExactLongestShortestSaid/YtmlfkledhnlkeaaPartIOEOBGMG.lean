/- Parts of the proof, joined into one text: Tab, LawLongestShortest, Rec, Seat. -/
import Derived.Test.YtmlfkledhnlkeaaPartEILBMLNF
import Derived.Test.YtmlfkledhnlkeaaPartDCCLONKA
import Derived.Test.YtmlfkledhnlkeaaPartBIGHANEE
import Derived.Lib.Slices
import Derived.Test.YtmlfkledhnlkeaaPartHBJDDFLN
import Derived.Test.YtmlfkledhnlkeaaPartPLILMNPP
import Derived.Test.YtmlfkledhnlkeaaPartCAPLBKNO
import Derived.Deep.RegionHeld3
import Derived.JoinedOf
import Derived.Test.YtmlfkledhnlkeaaRows
/- DistanceTable and LongestShortest, the program's and the reference's. -/
namespace Go.Proofs.Ytmlfkledhnlkeaa
set_option linter.unusedVariables false
set_option linter.unusedSimpArgs false
open Go.ChangeShapes Go.WideShapes Go.ChangeAt Go.RowKit
attribute [local go_sem] ext_cell ext_frozen ext_lt ext_lt1 ext_lt2 ext_lt3 ltn2 ltn3 ltn13 lts1 lts2 lts3

def tabRow (g : Gr) (a : Au) (x k : Nat) : List Int := (List.range k).map fun (y : Nat) => shortLen g a (x : Int) (y : Int)
def tabTo (g : Gr) (a : Au) (k : Nat) : List (List Int) := (List.range k).map fun (x : Nat) => tabRow g a x g.vals.length
def tabL (g : Gr) (a : Au) : List (List Int) := if (grOk g && auOk a) = true then tabTo g a g.vals.length else []
theorem tabRow_len (g : Gr) (a : Au) (x k : Nat) : (tabRow g a x k).length = k := by simp [tabRow]
theorem tabRow_snoc (g : Gr) (a : Au) (x k : Nat) : tabRow g a x (k + 1) = tabRow g a x k ++ [shortLen g a (x : Int) (k : Int)] := by simp [tabRow, List.range_succ]
theorem tabTo_len (g : Gr) (a : Au) (k : Nat) : (tabTo g a k).length = k := by simp [tabTo]
theorem tabTo_snoc (g : Gr) (a : Au) (k : Nat) : tabTo g a (k + 1) = tabTo g a k ++ [tabRow g a k g.vals.length] := by simp [tabTo, List.range_succ]
theorem goodB00 (g : Gr) (a : Au) : goodB g a 0 0 = (grOk g && auOk a) := by
  rw [goodB0]
  cases hg : grOk g with
  | false => simp
  | true =>
    have h1 := (grOk_iff.1 hg).n1
    have h2 : wi 0 0 ((g.vals.length : Int) - 1) = true := wi_iff.2 (by omega)
    rw [h2]
    cases auOk a <;> simp

set_option maxHeartbeats 4000000 in
set_option maxRecDepth 100000 in
theorem implDistanceTable (vg va : Value) (g : Gr) (a : Au) (w : World) (hgv : GrV 0 w.heap.size w vg g) (hav : AuV 0 w.heap.size w va a) :
    Calls Try.prog 99 #[vg, va] w fun e w' => ∃ v' us, e = .returned v' ∧ NS w.heap.size w' 22 3 cI 1 v' us (tabL g a) ∧ Below w.heap.size w w' := by
  have hgv0 := hgv
  have hav0 := hav
  obtain ⟨A1, c1, A2, c2, rfl, hl1, hm1, hl2, hm2, -, -⟩ := hgv.form
  obtain ⟨A3, n3, c3, A4, n4, c4, rfl⟩ := hav.shape
  have hb0 : Below w.heap.size w ((w.alloc (.cells #[.slice A1 g.vals.length c1, .slice A2 g.edges.length c2] 48)).alloc (.cells #[.int .i64 a.start, .slice A3 n3 c3, .slice A4 n4 c4] 50)) := ((Below.refl _ _).alloc (Nat.le_refl _) _).alloc (by simp) _
  have HGV := Lib.hid hgv0
  have HAV := Lib.hid hav0
  obtain ⟨T, hT⟩ : ∃ T, T = tabL g a := ⟨_, rfl⟩
  rw [← hT]
  clear hgv hav hgv0 hav0
  go_enter Try.func99, Try.ntmps99
  go_wp2_with fail
  obtain ⟨W0, hW0⟩ : ∃ W0, W0 = ((w.alloc (.cells #[.slice A1 g.vals.length c1, .slice A2 g.edges.length c2] 48)).alloc (.cells #[.int .i64 a.start, .slice A3 n3 c3, .slice A4 n4 c4] 50)) := ⟨_, rfl⟩
  rw [← hW0] at hb0 ⊢
  have x0 : W0.cell? ⟨w.heap.size, 0, none⟩ = some (.slice A1 g.vals.length c1) := by rw [hW0]; simp
  have x1 : W0.cell? ⟨w.heap.size, 1, none⟩ = some (.slice A2 g.edges.length c2) := by rw [hW0]; simp
  have y0 : W0.cell? ⟨w.heap.size + 1, 0, none⟩ = some (.int .i64 a.start) := by rw [hW0]; simp
  have y1 : W0.cell? ⟨w.heap.size + 1, 1, none⟩ = some (.slice A3 n3 c3) := by rw [hW0]; simp
  have y2 : W0.cell? ⟨w.heap.size + 1, 2, none⟩ = some (.slice A4 n4 c4) := by rw [hW0]; simp
  have hs0 : w.heap.size + 1 + 1 = W0.heap.size := by rw [hW0]; simp
  try rw [hs0]
  have l0 : w.heap.size + 1 < W0.heap.size := by omega
  have l00 : w.heap.size < W0.heap.size := by omega
  clear hW0 hs0
  have hbo := bothOk_any _ _ (.slice none 0 0) g a [] W0 (HGV.out.keep hb0) (HAV.out.keep hb0) (SlI.nil _ _ _ _ _)
  rw [List.all_nil, Bool.true_and] at hbo
  have HBO := Lib.hid hbo
  clear hbo
  cases hk : (grOk g && auOk a) with
  | false =>
    rw [hk] at HBO
    have hr0 : T = [] := by rw [hT, tabL, hk]; rfl
    subst hr0
    clear hk hT
    refine HBO.out.mono ?_
    rintro e w1 ⟨rfl, hb1⟩
    go_wp2_with fail
    go_ret
    exact ⟨_, [], rfl, NS.start (World.ownsRow_nil _ _ _ _), below_trans hb0 hb1⟩
  | true =>
    rw [hk] at HBO
    have hT2 : T = tabTo g a g.vals.length := by rw [hT, tabL, hk]; rfl
    have hn5 := (grOk_iff.1 (Bool.and_eq_true .. ▸ hk).1).n5
    have hn1 := (grOk_iff.1 (Bool.and_eq_true .. ▸ hk).1).n1
    have HT := Lib.hid hT2
    clear hk hT hT2
    refine HBO.out.mono ?_
    rintro e w1 ⟨rfl, hb1⟩
    obtain ⟨W1, rfl⟩ : ∃ W1 : World, W1 = W0 := ⟨_, rfl⟩
    have x0 := kcell hb1 x0
    have x1 := kcell hb1 x1
    have y0 := kcell hb1 y0
    have y1 := kcell hb1 y1
    have y2 := kcell hb1 y2
    have hb0 := below_trans hb0 hb1
    have l0 := Nat.lt_of_lt_of_le l0 hb1.size
    have l00 := Nat.lt_of_lt_of_le l00 hb1.size
    obtain ⟨W0, rfl⟩ : ∃ W0 : World, W0 = w1 := ⟨_, rfl⟩
    clear hb1
    go_wp2_with fail
    go_loopw [5, 17] (fun oo ii wr => ∃ (i : Nat) (us : List Value), i ≤ g.vals.length ∧ ii = .int .i64 (i : Int) ∧ NS W0.heap.size wr 22 3 cI 1 oo us (tabTo g a i) ∧ Below W0.heap.size W0 wr) (fun _ ii _ => g.vals.length - (intOf ii).toNat)
    case atStart => exact ⟨0, [], Nat.zero_le _, rfl, NS.start (World.ownsRow_lit W0 #[] 0 (Nat.le_refl _) (by decide) rfl), (Below.refl _ _).alloc (Nat.le_refl _) _⟩
    case round =>
      obtain ⟨i, us, hi, rfl, hns, hbel⟩ := hrel
      have HNS := Lib.hid hns
      have x0 := (hbel.cell (p := ⟨w.heap.size, 0, none⟩) (by simp only; omega)).trans x0
      have x1 := (hbel.cell (p := ⟨w.heap.size, 1, none⟩) (by simp only; omega)).trans x1
      have y0 := (hbel.cell (p := ⟨w.heap.size + 1, 0, none⟩) (by simp only; omega)).trans y0
      have y1 := (hbel.cell (p := ⟨w.heap.size + 1, 1, none⟩) (by simp only; omega)).trans y1
      have y2 := (hbel.cell (p := ⟨w.heap.size + 1, 2, none⟩) (by simp only; omega)).trans y2
      have hsz := hbel.size
      have l0 := Nat.lt_of_lt_of_le l0 hsz
      have l00 := Nat.lt_of_lt_of_le l00 hsz
      have hbw := hb0.trans (hbel.mono (show w.heap.size ≤ W0.heap.size by omega))
      have HBW := Lib.hid hbw
      clear hns hbw
      by_cases hlt : i < g.vals.length
      · have hii : (i : Int) < (g.vals.length : Int) := by omega
        have HTS := Lib.hid (tabTo_snoc g a i)
        have hus := HNS.out.len
        have htl := tabTo_len g a i
        obtain ⟨w5, rfl⟩ : ∃ w5 : World, w5 = wr := ⟨_, rfl⟩
        have hul : us.length ≤ 5 := by omega
        have HUS := Lib.hid (show us.length = i by omega)
        clear hus htl
        generalize tabTo g a i = TL at *
        go_wp2_with fail
        go_loopw [7, 24] (fun rr jj wr => ∃ j : Nat, j ≤ g.vals.length ∧ jj = .int .i64 (j : Int) ∧ wr.ownsRow w5.heap.size 3 1 rr (tabRow g a i j).length ((tabRow g a i j).flatMap cI) ∧ Below w5.heap.size w5 wr) (fun _ jj _ => g.vals.length - (intOf jj).toNat)
        case atStart => exact ⟨0, Nat.zero_le _, rfl, World.ownsRow_lit w5 #[] 0 (Nat.le_refl _) (by decide) rfl, (Below.refl _ _).alloc (Nat.le_refl _) _⟩
        case round =>
          obtain ⟨j, hj, rfl, hrow, hbel2⟩ := hrel
          have HROW := Lib.hid hrow
          have x0 := kcell hbel2 x0
          have x1 := kcell hbel2 x1
          have y0 := kcell hbel2 y0
          have y1 := kcell hbel2 y1
          have y2 := kcell hbel2 y2
          have hsz2 := hbel2.size
          have l0 := Nat.lt_of_lt_of_le l0 hsz2
          have l00 := Nat.lt_of_lt_of_le l00 hsz2
          have hrl := tabRow_len g a i j
          have HBW2 := Lib.hid (below_trans HBW.out hbel2)
          clear hrow
          by_cases hlj : j < g.vals.length
          · have hjj : (j : Int) < (g.vals.length : Int) := by omega
            have HRS := Lib.hid (tabRow_snoc g a i j)
            have hrl2 : (tabRow g a i j).length ≤ 5 := by omega
            have HSH := Lib.hid (fun (W : World) (hW : Below w.heap.size w W) => implShortestLength _ _ g a (i : Int) (j : Int) W (HGV.out.keep hW) (HAV.out.keep hW))
            clear hrl
            generalize tabRow g a i j = RL at *
            generalize shortLen g a (i : Int) (j : Int) = sl at *
            go_wp2_with fail
            refine (HSH.out _ HBW2.out).mono ?_
            rintro e w6 ⟨rfl, hb6⟩
            have HR6 := Lib.hid (ownsRow_below HROW.out hb6 (Nat.le_refl _))
            have hs6 := hb6.size
            go_wp2_with (at_builtin; (refine wpList_append1 cI elInt rfl _ _ rfl w5.heap.size _ RL sl _ 1 _ (by rfl) HR6.out (by rfl) rfl rfl rfl (cI_one _) (by omega) (by omega) (by omega) ?_); intro v' w4 hrow' hb4 _ _)
            go_roundw
            case rel => exact ⟨j + 1, by omega, by go_num, by rw [HRS.out]; exact hrow', (hbel2.trans (hb6.mono hsz2)).trans hb4⟩
            case measure => simp [intOf]; omega
          · obtain rfl : j = g.vals.length := by omega
            have hrow := HROW.out
            rw [hrl] at hrow
            obtain ⟨gb, cb, rfl, hgb, hgb2, -, -⟩ := own_some hrow (by omega)
            have HN2 := Lib.hid (HNS.out.below hbel2)
            clear hrow hrl
            generalize tabRow g a i g.vals.length = RL at *
            go_wp2_with (at_builtin; (refine wpList_append1 cV elSS rfl _ _ rfl (W0.heap.size) _ us (.slice (some ⟨gb, 0, none⟩) g.vals.length cb) _ 1 _ (by rfl) HN2.out.own (by rfl) rfl rfl rfl (by intro u hu; simp only [cV, List.mem_cons, List.not_mem_nil, or_false] at hu; subst hu; rfl) (by omega) (by omega) (by omega) ?_); intro v' w4 hrow' hb4 hat4 hgr4)
            go_roundw
            case rel =>
              have hat2 : ∀ g1, v'.ownBlock = some g1 → Value.ownBlock _ = some g1 ∨ wr.heap.size ≤ g1 := fun g1 hg1 => by
                rcases hat4 with h1 | ⟨g2, h1, h2⟩
                · exact .inl (by rw [← h1]; exact hg1)
                · rw [h1] at hg1
                  injection hg1 with hg1
                  exact .inr (by omega)
              exact ⟨i + 1, us ++ [.slice (some ⟨gb, 0, none⟩) g.vals.length cb], by omega, by go_num, by rw [HTS.out]; exact HN2.out.push (ownsRow_mono HROW.out (by omega)) (fun b hb hm => by cases hb; have h1 := (HNS.out.lt gb hm).2; omega) (grown_alloc hgr4) hrow' hat2, (hbel.trans (hbel2.mono (by omega))).trans hb4⟩
            case measure => simp [intOf]; omega
      · obtain rfl : i = g.vals.length := by omega
        rw [← HT.out] at HNS
        obtain ⟨A9, c9, rfl, -, -⟩ := HNS.out.shape
        have HNM := Lib.hid (HNS.out.mono (show w.heap.size ≤ W0.heap.size by omega))
        go_wp2_with fail
        go_ret
        exact ⟨_, _, rfl, HNM.out, HBW.out⟩

set_option maxHeartbeats 4000000 in
set_option maxRecDepth 100000 in
theorem specDistanceTable (vg va : Value) (g : Gr) (a : Au) (w : World) (hgv : GrV 0 w.heap.size w vg g) (hav : AuV 0 w.heap.size w va a) :
    Calls Try.prog 98 #[vg, va] w fun e w' => ∃ v' us, e = .returned v' ∧ NS w.heap.size w' 22 3 cI 1 v' us (tabL g a) ∧ Below w.heap.size w w' := by
  have hgv0 := hgv
  have hav0 := hav
  obtain ⟨A1, c1, A2, c2, rfl, hl1, hm1, hl2, hm2, -, -⟩ := hgv.form
  obtain ⟨A3, n3, c3, A4, n4, c4, rfl⟩ := hav.shape
  have hb0 : Below w.heap.size w ((w.alloc (.cells #[.slice A1 g.vals.length c1, .slice A2 g.edges.length c2] 48)).alloc (.cells #[.int .i64 a.start, .slice A3 n3 c3, .slice A4 n4 c4] 50)) := ((Below.refl _ _).alloc (Nat.le_refl _) _).alloc (by simp) _
  have HGV := Lib.hid hgv0
  have HAV := Lib.hid hav0
  obtain ⟨T, hT⟩ : ∃ T, T = tabL g a := ⟨_, rfl⟩
  rw [← hT]
  clear hgv hav hgv0 hav0
  go_enter Try.func98, Try.ntmps98
  go_wp2_with fail
  obtain ⟨W0, hW0⟩ : ∃ W0, W0 = ((w.alloc (.cells #[.slice A1 g.vals.length c1, .slice A2 g.edges.length c2] 48)).alloc (.cells #[.int .i64 a.start, .slice A3 n3 c3, .slice A4 n4 c4] 50)).alloc (.cells #[] 22) := ⟨_, rfl⟩
  have hb0 : Below w.heap.size w W0 := by rw [hW0]; exact hb0.alloc hb0.size _
  rw [← hW0]
  have bx : Blk W0 w.heap.size 48 #[.slice A1 g.vals.length c1, .slice A2 g.edges.length c2] := by rw [hW0]; exact ((Blk.new w _ _ w.heap.size rfl).alloc _).alloc _
  have by_ : Blk W0 (w.heap.size + 1) 50 #[.int .i64 a.start, .slice A3 n3 c3, .slice A4 n4 c4] := by rw [hW0]; exact (Blk.new (w.alloc _) _ _ (w.heap.size + 1) (by simp)).alloc _
  have x0 : W0.cell? ⟨w.heap.size, 0, none⟩ = some (.slice A1 g.vals.length c1) := by exact bx.cell 0
  have x1 : W0.cell? ⟨w.heap.size, 1, none⟩ = some (.slice A2 g.edges.length c2) := by exact bx.cell 1
  have y0 : W0.cell? ⟨w.heap.size + 1, 0, none⟩ = some (.int .i64 a.start) := by exact by_.cell 0
  have y1 : W0.cell? ⟨w.heap.size + 1, 1, none⟩ = some (.slice A3 n3 c3) := by exact by_.cell 1
  have y2 : W0.cell? ⟨w.heap.size + 1, 2, none⟩ = some (.slice A4 n4 c4) := by exact by_.cell 2
  have l0 := by_.lt
  have l00 := bx.lt
  have hrow0 : W0.ownsRow (w.heap.size + 1 + 1) 22 1 (.slice (some ⟨w.heap.size + 1 + 1, 0, none⟩) 0 0) 0 [] := by
    rw [hW0]
    have h := World.ownsRow_lit (base := w.heap.size + 1 + 1) (e := 22) (size := 1) ((w.alloc (.cells #[.slice A1 g.vals.length c1, .slice A2 g.edges.length c2] 48)).alloc (.cells #[.int .i64 a.start, .slice A3 n3 c3, .slice A4 n4 c4] 50)) #[] 0 (by simp) (by decide) rfl
    simpa using h
  have HROW0 := Lib.hid hrow0
  have hsW : W0.heap.size = w.heap.size + 1 + 1 + 1 := by rw [hW0]; simp
  have HSW := Lib.hid hsW
  clear hW0 bx by_ hrow0 hsW
  have hgx := l14Good_any _ _ g a 0 0 W0 (HGV.out.keep hb0) (HAV.out.keep hb0)
  rw [goodB00] at hgx
  have HGX := Lib.hid hgx
  clear hgx
  cases hk : (grOk g && auOk a) with
  | false =>
    rw [hk] at HGX
    have hr0 : T = [] := by rw [hT, tabL, hk]; rfl
    subst hr0
    clear hk hT
    refine HGX.out.mono ?_
    rintro e w1 ⟨rfl, hb1⟩
    have hr1 := Lib.hid (ownsRow_mono (b := w.heap.size) (ownsRow_below HROW0.out hb1 (Nat.le_refl _)) (by omega))
    go_wp2_with fail
    go_ret
    exact ⟨_, [], rfl, NS.start hr1.out, below_trans hb0 hb1⟩
  | true =>
    rw [hk] at HGX
    have hT2 : T = tabTo g a g.vals.length := by rw [hT, tabL, hk]; rfl
    have hn5 := (grOk_iff.1 (Bool.and_eq_true .. ▸ hk).1).n5
    have hn1 := (grOk_iff.1 (Bool.and_eq_true .. ▸ hk).1).n1
    have HT := Lib.hid hT2
    clear hk hT hT2
    refine HGX.out.mono ?_
    rintro e w1 ⟨rfl, hb1⟩
    have HR1 := Lib.hid (ownsRow_below HROW0.out hb1 (Nat.le_refl _))
    have hz1 : w.heap.size + 1 + 1 ≤ w1.heap.size := by have := HSW.out; have := hb1.size; omega
    obtain ⟨gB, hgB⟩ : ∃ gB, gB = w.heap.size + 1 + 1 := ⟨_, rfl⟩
    obtain ⟨W1, rfl⟩ : ∃ W1 : World, W1 = W0 := ⟨_, rfl⟩
    have x0 := kcell hb1 x0
    have x1 := kcell hb1 x1
    have y0 := kcell hb1 y0
    have y1 := kcell hb1 y1
    have y2 := kcell hb1 y2
    have hb0 := below_trans hb0 hb1
    have l0 := Nat.lt_of_lt_of_le l0 hb1.size
    have l00 := Nat.lt_of_lt_of_le l00 hb1.size
    obtain ⟨W0, rfl⟩ : ∃ W0 : World, W0 = w1 := ⟨_, rfl⟩
    clear hb1
    go_wp2_with fail
    rw [← hgB] at HR1 hz1 ⊢
    have hgBl : w.heap.size + 1 < gB := by omega
    clear hgB
    go_loopw [5, 6] (fun oo ii wr => ∃ (i : Nat) (us : List Value), i ≤ g.vals.length ∧ ii = .int .i64 (i : Int) ∧ NS gB wr 22 3 cI 1 oo us (tabTo g a i) ∧ Below gB W0 wr) (fun _ ii _ => g.vals.length - (intOf ii).toNat)
    case atStart => exact ⟨0, [], Nat.zero_le _, rfl, NS.start HR1.out, Below.refl _ _⟩
    case round =>
      obtain ⟨i, us, hi, rfl, hns, hbel⟩ := hrel
      have HNS := Lib.hid hns
      have x0 := (hbel.cell (p := ⟨w.heap.size, 0, none⟩) (by simp only; omega)).trans x0
      have x1 := (hbel.cell (p := ⟨w.heap.size, 1, none⟩) (by simp only; omega)).trans x1
      have y0 := (hbel.cell (p := ⟨w.heap.size + 1, 0, none⟩) (by simp only; omega)).trans y0
      have y1 := (hbel.cell (p := ⟨w.heap.size + 1, 1, none⟩) (by simp only; omega)).trans y1
      have y2 := (hbel.cell (p := ⟨w.heap.size + 1, 2, none⟩) (by simp only; omega)).trans y2
      have hsz := hbel.size
      have l0 := Nat.lt_of_lt_of_le l0 hsz
      have l00 := Nat.lt_of_lt_of_le l00 hsz
      have hbw := hb0.trans (hbel.mono (show w.heap.size ≤ gB by omega))
      have HBW := Lib.hid hbw
      clear hns hbw
      by_cases hlt : i < g.vals.length
      · have hii : (i : Int) < (g.vals.length : Int) := by omega
        have HTS := Lib.hid (tabTo_snoc g a i)
        have hus := HNS.out.len
        have htl := tabTo_len g a i
        obtain ⟨w5, rfl⟩ : ∃ w5 : World, w5 = wr := ⟨_, rfl⟩
        have hul : us.length ≤ 5 := by omega
        have HUS := Lib.hid (show us.length = i by omega)
        clear hus htl
        generalize tabTo g a i = TL at *
        go_wp2_with fail
        go_loopw [7, 8] (fun rr jj wr => ∃ j : Nat, j ≤ g.vals.length ∧ jj = .int .i64 (j : Int) ∧ wr.ownsRow w5.heap.size 3 1 rr (tabRow g a i j).length ((tabRow g a i j).flatMap cI) ∧ Below w5.heap.size w5 wr) (fun _ jj _ => g.vals.length - (intOf jj).toNat)
        case atStart => exact ⟨0, Nat.zero_le _, rfl, World.ownsRow_lit w5 #[] 0 (Nat.le_refl _) (by decide) rfl, (Below.refl _ _).alloc (Nat.le_refl _) _⟩
        case round =>
          obtain ⟨j, hj, rfl, hrow, hbel2⟩ := hrel
          have HROW := Lib.hid hrow
          have x0 := kcell hbel2 x0
          have x1 := kcell hbel2 x1
          have y0 := kcell hbel2 y0
          have y1 := kcell hbel2 y1
          have y2 := kcell hbel2 y2
          have hsz2 := hbel2.size
          have l0 := Nat.lt_of_lt_of_le l0 hsz2
          have l00 := Nat.lt_of_lt_of_le l00 hsz2
          have hrl := tabRow_len g a i j
          have HBW2 := Lib.hid (below_trans HBW.out hbel2)
          clear hrow
          by_cases hlj : j < g.vals.length
          · have hjj : (j : Int) < (g.vals.length : Int) := by omega
            have HRS := Lib.hid (tabRow_snoc g a i j)
            have hrl2 : (tabRow g a i j).length ≤ 5 := by omega
            have HSH := Lib.hid (fun (W : World) (hW : Below w.heap.size w W) => specShortestLength _ _ g a (i : Int) (j : Int) W (HGV.out.keep hW) (HAV.out.keep hW))
            clear hrl
            generalize tabRow g a i j = RL at *
            generalize shortLen g a (i : Int) (j : Int) = sl at *
            go_wp2_with fail
            refine (HSH.out _ HBW2.out).mono ?_
            rintro e w6 ⟨rfl, hb6⟩
            have HR6 := Lib.hid (ownsRow_below HROW.out hb6 (Nat.le_refl _))
            have hs6 := hb6.size
            go_wp2_with (at_builtin; (refine wpList_append1 cI elInt rfl _ _ rfl w5.heap.size _ RL sl _ 1 _ (by rfl) HR6.out (by rfl) rfl rfl rfl (cI_one _) (by omega) (by omega) (by omega) ?_); intro v' w4 hrow' hb4 _ _)
            go_roundw
            case rel => exact ⟨j + 1, by omega, by go_num, by rw [HRS.out]; exact hrow', (hbel2.trans (hb6.mono hsz2)).trans hb4⟩
            case measure => simp [intOf]; omega
          · obtain rfl : j = g.vals.length := by omega
            have hrow := HROW.out
            rw [hrl] at hrow
            obtain ⟨gb, cb, rfl, hgb, hgb2, -, -⟩ := own_some hrow (by omega)
            have HN2 := Lib.hid (HNS.out.below hbel2)
            clear hrow hrl
            generalize tabRow g a i g.vals.length = RL at *
            go_wp2_with (at_builtin; (refine wpList_append1 cV elSS rfl _ _ rfl (gB) _ us (.slice (some ⟨gb, 0, none⟩) g.vals.length cb) _ 1 _ (by rfl) HN2.out.own (by rfl) rfl rfl rfl (by intro u hu; simp only [cV, List.mem_cons, List.not_mem_nil, or_false] at hu; subst hu; rfl) (by omega) (by omega) (by omega) ?_); intro v' w4 hrow' hb4 hat4 hgr4)
            go_roundw
            case rel =>
              have hat2 : ∀ g1, v'.ownBlock = some g1 → Value.ownBlock _ = some g1 ∨ wr.heap.size ≤ g1 := fun g1 hg1 => by
                rcases hat4 with h1 | ⟨g2, h1, h2⟩
                · exact .inl (by rw [← h1]; exact hg1)
                · rw [h1] at hg1
                  injection hg1 with hg1
                  exact .inr (by omega)
              exact ⟨i + 1, us ++ [.slice (some ⟨gb, 0, none⟩) g.vals.length cb], by omega, by go_num, by rw [HTS.out]; exact HN2.out.push (ownsRow_mono HROW.out (by omega)) (fun b hb hm => by cases hb; have h1 := (HNS.out.lt gb hm).2; omega) (grown_alloc hgr4) hrow' hat2, (hbel.trans (hbel2.mono (by omega))).trans hb4⟩
            case measure => simp [intOf]; omega
      · obtain rfl : i = g.vals.length := by omega
        rw [← HT.out] at HNS
        obtain ⟨A9, c9, rfl, -, -⟩ := HNS.out.shape
        have HNM := Lib.hid (HNS.out.mono (show w.heap.size ≤ gB by omega))
        go_wp2_with fail
        go_ret
        exact ⟨_, _, rfl, HNM.out, HBW.out⟩

/-! ### The longest one -/
def longL (g : Gr) (a : Au) : Int := (tabL g a).flatten.foldl max (-1)
def bestTo (T : List (List Int)) (i : Nat) : Int := (T.take i).flatten.foldl max (-1)
theorem bestTo_snoc {T : List (List Int)} {i : Nat} {r : List Int} (h : T[i]? = some r) : bestTo T (i + 1) = r.foldl max (bestTo T i) := by
  rw [bestTo, take_snoc h, List.flatten_append, List.foldl_append]
  simp [bestTo]
theorem foldl_max (t : List Int) : ∀ b h : Int, t.foldl max (max b h) = max b (t.foldl max h) := by
  induction t with
  | nil => intro b h; rfl
  | cons x t ih => intro b h; rw [List.foldl_cons, List.foldl_cons, ← ih, Int.max_assoc]
theorem max_row {r : List Int} (h : r ≠ []) (b : Int) : r.foldl max b = max b (Lib.maxOf r) := by
  cases r with
  | nil => exact absurd rfl h
  | cons x t => rw [List.foldl_cons, foldl_max]; simp [Lib.maxOf]
theorem tabL_rows {g : Gr} {a : Au} {i : Nat} {r : List Int} (h : (tabL g a)[i]? = some r) : r.length ≠ 0 ∧ r.length ≤ 5 := by
  unfold tabL at h
  split at h
  · rename_i hk
    simp only [Bool.and_eq_true] at hk
    have hg := grOk_iff.1 hk.1
    obtain ⟨x, -, rfl⟩ := List.mem_map.1 (List.mem_of_getElem? h)
    rw [tabRow_len]
    have := hg.n1
    have := hg.n5
    omega
  · simp at h
theorem tabL_len (g : Gr) (a : Au) : (tabL g a).length ≤ 5 := by
  unfold tabL
  split
  · rename_i hk
    simp only [Bool.and_eq_true] at hk
    rw [tabTo_len]
    exact (grOk_iff.1 hk.1).n5
  · simp
set_option maxHeartbeats 4000000 in
theorem implLongestShortest (vg va : Value) (g : Gr) (a : Au) (w : World) (hgv : GrV 0 w.heap.size w vg g) (hav : AuV 0 w.heap.size w va a) :
    Calls Try.prog 48 #[vg, va] w fun e w' => e = .returned (.int .i64 (longL g a)) ∧ Below w.heap.size w w' := by
  have hgv0 := hgv
  have hav0 := hav
  obtain ⟨A1, n1, c1, A2, n2, c2, rfl⟩ := hgv.shape
  obtain ⟨A3, n3, c3, A4, n4, c4, rfl⟩ := hav.shape
  have hb0 : Below w.heap.size w ((w.alloc (.cells #[.slice A1 n1 c1, .slice A2 n2 c2] 48)).alloc (.cells #[.int .i64 a.start, .slice A3 n3 c3, .slice A4 n4 c4] 50)) := ((Below.refl _ _).alloc (Nat.le_refl _) _).alloc (by simp) _
  have hdt := implDistanceTable _ _ g a _ (hgv0.keep hb0) (hav0.keep hb0)
  have HDT := Lib.hid hdt
  have HROWS := Lib.hid (fun (i : Nat) (r : List Int) (h : (tabL g a)[i]? = some r) => tabL_rows h)
  have hTl := tabL_len g a
  have HLL := Lib.hid (show longL g a = bestTo (tabL g a) (tabL g a).length by rw [bestTo, List.take_length]; rfl)
  obtain ⟨R, hR⟩ : ∃ R, R = longL g a := ⟨_, rfl⟩
  rw [← hR] at HLL ⊢
  clear hgv hav hgv0 hav0 hdt hR
  generalize tabL g a = T at *
  go_enter Try.func48, Try.ntmps48
  go_wp2_with fail
  refine HDT.out.mono ?_
  rintro e w1 ⟨v1, us, rfl, hns, hb1⟩
  have hbw := below_trans hb0 hb1
  obtain ⟨A9, c9, rfl, hl9, hm9⟩ := hns.shape
  unfold maxLen at hm9
  have HNS := Lib.hid hns
  clear hns HDT hb0 hb1
  go_wp2_with fail
  go_loop [5, 12] (fun bb ii => ∃ i : Nat, i ≤ T.length ∧ ii = .int .i64 (i : Int) ∧ bb = .int .i64 (bestTo T i)) (fun _ ii => T.length - (intOf ii).toNat)
  case atStart => exact ⟨0, Nat.zero_le _, rfl, rfl⟩
  case round =>
    obtain ⟨i, hi, rfl, rfl⟩ := hrel
    by_cases hlt : i < T.length
    · have hTi : T[i]? = some T[i] := List.getElem?_eq_getElem hlt
      have HBS := Lib.hid (bestTo_snoc hTi)
      have hrr := HROWS.out i _ hTi
      obtain ⟨gT, capT, A, c, hv, -, hgT, hcell, hl, hm, hsl⟩ := HNS.out.row cI_len hTi
      generalize T[i] = r at *
      injection hv with e1 _ e3
      subst e1
      subst e3
      have hii : (i : Int) < (T.length : Int) := by omega
      obtain ⟨x, t, hxt⟩ : ∃ x t, r = x :: t := by
        cases r with
        | nil => exact absurd rfl hrr.1
        | cons x t => exact ⟨x, t, rfl⟩
      have hr0 : r[0]? = some x := by rw [hxt]; rfl
      obtain ⟨b, o, hA, -, hb, -⟩ : ∃ b o, A = some ⟨b, o, none⟩ ∧ True ∧ b < w1.heap.size ∧ True := by
        obtain ⟨A', c', hv', _, _, h3⟩ := hsl
        injection hv' with h1 _ _
        subst h1
        obtain ⟨b, o, e, g1, g2, hc⟩ := h3 0 x hr0
        exact ⟨b, o, e, trivial, g2, trivial⟩
      subst hA
      have hmx := Try.slices_Max_int b o r.length c r w1 (by omega) (Nat.le_refl _) (by omega) (fun j hj => by
        obtain ⟨A', c', hv', _, _, h3⟩ := hsl
        injection hv' with h1 _ _
        subst h1
        obtain ⟨b', o', e, g1, g2, hc⟩ := h3 j _ (getD_of hj)
        injection e with e
        injection e with e2 e3
        subst e2 e3
        simpa using hc 0 _ rfl)
      rw [List.take_length] at hmx
      have HMX := Lib.hid hmx
      have HBS2 := Lib.hid (HBS.out.trans (max_row (by rw [hxt]; simp) _))
      clear hTi hxt hr0 hsl hmx HBS
      generalize bestTo T i = bt at *
      generalize Lib.maxOf r = mr at *
      go_wp2_with fail
      refine HMX.out.mono ?_
      rintro e w2 ⟨rfl, rfl⟩
      go_wp2_with fail
      go_round
      case rel => exact ⟨i + 1, by omega, by go_num, by rw [HBS2.out]⟩
      case measure => simp [intOf]; omega
    · obtain rfl : i = T.length := by omega
      rw [← HLL.out]
      go_wp2_with fail
      go_ret
      exact ⟨rfl, hbw⟩
set_option maxHeartbeats 4000000 in
theorem specLongestShortest (vg va : Value) (g : Gr) (a : Au) (w : World) (hgv : GrV 0 w.heap.size w vg g) (hav : AuV 0 w.heap.size w va a) :
    Calls Try.prog 47 #[vg, va] w fun e w' => e = .returned (.int .i64 (longL g a)) ∧ Below w.heap.size w w' := by
  have hgv0 := hgv
  have hav0 := hav
  obtain ⟨A1, n1, c1, A2, n2, c2, rfl⟩ := hgv.shape
  obtain ⟨A3, n3, c3, A4, n4, c4, rfl⟩ := hav.shape
  have hb0 : Below w.heap.size w ((w.alloc (.cells #[.slice A1 n1 c1, .slice A2 n2 c2] 48)).alloc (.cells #[.int .i64 a.start, .slice A3 n3 c3, .slice A4 n4 c4] 50)) := ((Below.refl _ _).alloc (Nat.le_refl _) _).alloc (by simp) _
  have hdt := specDistanceTable _ _ g a _ (hgv0.keep hb0) (hav0.keep hb0)
  have HDT := Lib.hid hdt
  have HROWS := Lib.hid (fun (i : Nat) (r : List Int) (h : (tabL g a)[i]? = some r) => tabL_rows h)
  have hTl := tabL_len g a
  have HLL := Lib.hid (show longL g a = bestTo (tabL g a) (tabL g a).length by rw [bestTo, List.take_length]; rfl)
  obtain ⟨R, hR⟩ : ∃ R, R = longL g a := ⟨_, rfl⟩
  rw [← hR] at HLL ⊢
  clear hgv hav hgv0 hav0 hdt hR
  generalize tabL g a = T at *
  go_enter Try.func47, Try.ntmps47
  go_wp2_with fail
  refine HDT.out.mono ?_
  rintro e w1 ⟨v1, us, rfl, hns, hb1⟩
  have hbw := below_trans hb0 hb1
  obtain ⟨A9, c9, rfl, hl9, hm9⟩ := hns.shape
  unfold maxLen at hm9
  have HNS := Lib.hid hns
  clear hns HDT hb0 hb1
  go_wp2_with fail
  go_loop [5, 7] (fun bb ii => ∃ i : Nat, i ≤ T.length ∧ ii = .int .i64 (i : Int) ∧ bb = .int .i64 (bestTo T i)) (fun _ ii => T.length - (intOf ii).toNat)
  case atStart => exact ⟨0, Nat.zero_le _, rfl, rfl⟩
  case round =>
    obtain ⟨i, hi, rfl, rfl⟩ := hrel
    by_cases hlt : i < T.length
    · have hTi : T[i]? = some T[i] := List.getElem?_eq_getElem hlt
      have HBS := Lib.hid (bestTo_snoc hTi)
      have hrr := HROWS.out i _ hTi
      obtain ⟨gT, capT, A, c, hv, -, hgT, hcell, hl, hm, hsl⟩ := HNS.out.row cI_len hTi
      generalize T[i] = r at *
      injection hv with e1 _ e3
      subst e1
      subst e3
      have hii : (i : Int) < (T.length : Int) := by omega
      have HSL := Lib.hid hsl
      clear hTi hsl
      generalize bestTo T i = bt at *
      go_wp2_with fail
      go_loop [5, 8] (fun bb jj => ∃ j : Nat, j ≤ r.length ∧ jj = .int .i64 (j : Int) ∧ bb = .int .i64 ((r.take j).foldl max bt)) (fun _ jj => r.length - (intOf jj).toNat)
      case atStart => exact ⟨0, Nat.zero_le _, rfl, rfl⟩
      case round =>
        obtain ⟨j, hj, rfl, rfl⟩ := hrel
        by_cases hlj : j < r.length
        · have hrj : r[j]? = some r[j] := List.getElem?_eq_getElem hlj
          have HFT := Lib.hid (foldl_take (f := max) hrj bt)
          generalize r[j] = x at *
          obtain ⟨b, o, rfl, hb, d⟩ : ∃ b o, A = some ⟨b, o, none⟩ ∧ b < w1.heap.size ∧ w1.cell? ⟨b, o + j, none⟩ = some (.int .i64 x) := by
            obtain ⟨A', c', hv', _, _, h3⟩ := HSL.out
            injection hv' with h1 _ _
            subst h1
            obtain ⟨b, o, e, g1, g2, hc⟩ := h3 j x hrj
            exact ⟨b, o, e, g2, by simpa using hc 0 _ rfl⟩
          have hjj : (j : Int) < (r.length : Int) := by omega
          clear hrj
          generalize (r.take j).foldl max bt = b2 at *
          go_wp2_with fail
          go_round
          case rel => exact ⟨j + 1, by omega, by go_num, by rw [HFT.out]⟩
          case measure => simp [intOf]; omega
        · obtain rfl : j = r.length := by omega
          go_wp2_with fail
          go_round
          case rel => exact ⟨i + 1, by omega, by go_num, by rw [HBS.out, List.take_length]⟩
          case measure => simp [intOf]; omega
    · obtain rfl : i = T.length := by omega
      rw [← HLL.out]
      go_wp2_with fail
      go_ret
      exact ⟨rfl, hbw⟩
end Go.Proofs.Ytmlfkledhnlkeaa

/- 'laws.FnExactLongestShortest' returns true for all arguments, without any condition: the program's LongestShortest equals the reference's and leaves its arguments alone. -/
namespace Go.Proofs.Ytmlfkledhnlkeaa.fnExactLongestShortest
set_option linter.unusedVariables false
set_option linter.unusedSimpArgs false
open Go.ChangeShapes Go.WideShapes Go.ChangeAt Go.RowKit
attribute [local go_sem] ext_cell ext_frozen ext_lt ext_lt1 ext_lt2 ext_lt3 ltn2 ltn3 ltn13 lts1 lts2 lts3

set_option maxRecDepth 100000 in
set_option maxHeartbeats 4000000 in
theorem walk (w : World) (v0 : Value) (g : Gr) (hv0 : GrV 0 w.heap.size w v0 g) (v1 : Value) (a : Au) (hv1 : AuV 0 w.heap.size w v1 a) :
    Calls Try.prog 11 #[v0, v1] w fun e w' => e = .returned (.bool true) ∧ Below w.heap.size w w' := by
  have hvo0 := hv0
  obtain ⟨A0, n0, c0, B0, m0, d0, rfl⟩ := hv0.shape
  clear hv0
  have hvo1 := hv1
  obtain ⟨A1, n1, c1, B1, m1, d1, rfl⟩ := hv1.shape
  clear hv1
  have hb0 : Below w.heap.size w ((w.alloc (.cells #[.slice A0 n0 c0, .slice B0 m0 d0] 38)).alloc (.cells #[.int .i64 a.start, .slice A1 n1 c1, .slice B1 m1 d1] 42)) := ((Below.refl _ _).alloc (Nat.le_refl _) _).alloc (by simp <;> omega) _
  go_enter Try.func11, Try.ntmps11
  go_wp2_with fail
  refine (szGraph_any _ g 1048576 _ (hvo0.keep hb0) (by omega) (by omega)).mono ?_
  rintro e ws0 ⟨rfl, hbws0⟩
  have bl0 := ((Blk.new w _ _ w.heap.size rfl).alloc _).keep hbws0
  have l0 := bl0.lt
  have y0_0 : ws0.cell? ⟨w.heap.size, 0, none⟩ = some (.slice A0 n0 c0) := bl0.cell 0
  have y0_1 : ws0.cell? ⟨w.heap.size, 1, none⟩ = some (.slice B0 m0 d0) := bl0.cell 1
  have bl1 := (Blk.new (w.alloc _) _ _ (w.heap.size + 1) (by simp)).keep hbws0
  have l1 := bl1.lt
  have y1_0 : ws0.cell? ⟨w.heap.size + 1, 0, none⟩ = some (.int .i64 a.start) := bl1.cell 0
  have y1_1 : ws0.cell? ⟨w.heap.size + 1, 1, none⟩ = some (.slice A1 n1 c1) := bl1.cell 1
  have y1_2 : ws0.cell? ⟨w.heap.size + 1, 2, none⟩ = some (.slice B1 m1 d1) := bl1.cell 2
  have hb := below_trans hb0 hbws0
  have hs : Below w.heap.size w ws0 ∧ ws0.heap.size ≤ ws0.heap.size ∧ ws0.cell? ⟨w.heap.size, 0, none⟩ = some (.slice A0 n0 c0) ∧ ws0.cell? ⟨w.heap.size, 1, none⟩ = some (.slice B0 m0 d0) ∧ ws0.cell? ⟨w.heap.size + 1, 0, none⟩ = some (.int .i64 a.start) ∧ ws0.cell? ⟨w.heap.size + 1, 1, none⟩ = some (.slice A1 n1 c1) ∧ ws0.cell? ⟨w.heap.size + 1, 2, none⟩ = some (.slice B1 m1 d1) := ⟨hb, Nat.le_refl _, y0_0, y0_1, y1_0, y1_1, y1_2⟩
  clear bl0 bl1 hb0 hbws0
  have HS := Lib.hid hs
  clear hs
  by_cases hz : (szGr g 1048576) < 0
  · have hzd : decide ((szGr g 1048576) < 0) = true := by simpa using hz
    clear hz
    go_wp2_with fail
    go_ret
    exact ⟨rfl, hb⟩
  have hzd : decide ((szGr g 1048576) < 0) = false := by simpa using hz
  obtain ⟨ha0, hc0, hz0, hzm⟩ := szGr_le g 1048576 hz
  have ha0 : g.vals.length ≤ 1048576 := by omega
  have hc0 : g.edges.length ≤ 1048576 := by omega
  generalize (szGr g 1048576) = z0 at hzd hz0 hzm ⊢
  clear hz
  have hzm0 : z0 ≤ 1048576 := by omega
  have hz00 := hz0
  clear hz0 hzm
  go_wp2_with fail
  clear hzd
  refine (szAutomatonD_any _ a z0 _ (hvo1.keep hb) (by omega) (by omega)).mono ?_
  rintro e ws1 ⟨rfl, hbws1⟩
  have hs := hold5 l0 l0 l1 l1 l1 hbws1 HS.out
  clear hb y0_0 y0_1 y1_0 y1_1 y1_2 HS
  have HS := Lib.hid hs
  obtain ⟨hb, -, y0_0, y0_1, y1_0, y1_1, y1_2⟩ := hs
  by_cases hz : (szAuD a z0) < 0
  · have hzd : decide ((szAuD a z0) < 0) = true := by simpa using hz
    clear hz
    go_wp2_with fail
    go_ret
    exact ⟨rfl, hb⟩
  have hzd : decide ((szAuD a z0) < 0) = false := by simpa using hz
  obtain ⟨ha1, hc1, hd1, hz0, hzm⟩ := szAuD_le a z0 (by omega) hz
  have HD1 := Lib.hid hd1
  clear hd1
  generalize (szAuD a z0) = z1 at hzd hz0 hzm ⊢
  clear hz
  skip
  have hzm1 : z1 ≤ 1048576 := by omega
  have hz01 := hz0
  clear hz0 hzm
  go_wp2_with fail
  clear hzd
  have hsz := HS.out.2.1
  go_region_held3 (fun w' => Below w.heap.size w w' ∧ ws0.heap.size ≤ w'.heap.size ∧ w'.cell? ⟨w.heap.size, 0, none⟩ = some (.slice A0 n0 c0) ∧ w'.cell? ⟨w.heap.size, 1, none⟩ = some (.slice B0 m0 d0) ∧ w'.cell? ⟨w.heap.size + 1, 0, none⟩ = some (.int .i64 a.start) ∧ w'.cell? ⟨w.heap.size + 1, 1, none⟩ = some (.slice A1 n1 c1) ∧ w'.cell? ⟨w.heap.size + 1, 2, none⟩ = some (.slice B1 m1 d1))
    (first | (exact ⟨hb.drew, hsz, y0_0, y0_1, y1_0, y1_1, y1_2⟩) | (exact hold5 l0 l0 l1 l1 l1 (by assumption) (by assumption)))
    (first | (go_at_call 29; refine (toGraph_any _ g _ (hvo0.keep (hold_below (by assumption))) ha0 hc0).mono ?_; rintro e wc0 ⟨vc0, rfl, hoc0, hbc0⟩) | (go_at_call 30; refine (toAutomaton_any _ a _ (hvo1.keep (hold_below (by assumption))) ha1 hc1 HD1.out).mono ?_; rintro e wc1 ⟨vc1, rfl, hoc1, hbc1⟩) | (go_at_call 47; refine (specLongestShortest vc0 vc1 g a _ (by first | exact (hoc0.view.all (Nat.le_refl _)) | exact ((hoc0.view.all (Nat.le_refl _)).keep hbc1)) (by first | exact (hoc1.view.all (Nat.le_refl _)) | exact ((hoc1.view.all (Nat.le_refl _)).keep hbc0))).mono ?_; rintro e wres ⟨rfl, hbres⟩))
  all_goals clear hb y0_0 y0_1 y1_0 y1_1 y1_2
  all_goals (rename_i hh; have HS := Lib.hid hh; obtain ⟨hb, -, y0_0, y0_1, y1_0, y1_1, y1_2⟩ := hh)
  all_goals clear hsz
  all_goals go_wp2_with fail
  all_goals (refine (toGraph_any _ g _ (hvo0.keep hb) ha0 hc0).mono ?_; rintro e wk0 ⟨vk0, rfl, hok0, hbk0⟩)
  all_goals have hw0 := hok0.view.all (Nat.le_refl _)
  all_goals obtain ⟨C0, p0, e0, D0, q0, f0, rfl⟩ := hw0.shape
  all_goals have hba : Below wk0.heap.size wk0 (wk0.alloc (.cells #[.slice C0 p0 e0, .slice D0 q0 f0] 48)) := (Below.refl _ _).alloc (Nat.le_refl _) _
  all_goals have hs := hold5 l0 l0 l1 l1 l1 (below_trans hbk0 hba) HS.out
  all_goals have bz := Blk.new wk0 48 #[.slice C0 p0 e0, .slice D0 q0 f0] wk0.heap.size rfl
  all_goals clear hb y0_0 y0_1 y1_0 y1_1 y1_2
  all_goals obtain ⟨hb, hsz, y0_0, y0_1, y1_0, y1_1, y1_2⟩ := hs
  all_goals have l0 := Nat.lt_of_lt_of_le l0 hsz
  all_goals have l1 := Nat.lt_of_lt_of_le l1 hsz
  all_goals have l2 := bz.lt
  all_goals have y2_0 : (wk0.alloc (.cells #[.slice C0 p0 e0, .slice D0 q0 f0] 48)).cell? ⟨wk0.heap.size, 0, none⟩ = some (.slice C0 p0 e0) := bz.cell 0
  all_goals have y2_1 : (wk0.alloc (.cells #[.slice C0 p0 e0, .slice D0 q0 f0] 48)).cell? ⟨wk0.heap.size, 1, none⟩ = some (.slice D0 q0 f0) := bz.cell 1
  all_goals have hw0 := hw0.keep hba
  all_goals clear bz hba hbk0 hok0 HS hsz
  all_goals go_wp2_with fail
  all_goals generalize wk0.alloc (.cells #[.slice C0 p0 e0, .slice D0 q0 f0] 48) = wl0 at hb y0_0 y0_1 y1_0 y1_1 y1_2 y2_0 y2_1 l0 l1 l2 hw0 ⊢
  all_goals have hs : Below w.heap.size w wl0 ∧ wl0.heap.size ≤ wl0.heap.size ∧ wl0.cell? ⟨w.heap.size, 0, none⟩ = some (.slice A0 n0 c0) ∧ wl0.cell? ⟨w.heap.size, 1, none⟩ = some (.slice B0 m0 d0) ∧ wl0.cell? ⟨w.heap.size + 1, 0, none⟩ = some (.int .i64 a.start) ∧ wl0.cell? ⟨w.heap.size + 1, 1, none⟩ = some (.slice A1 n1 c1) ∧ wl0.cell? ⟨w.heap.size + 1, 2, none⟩ = some (.slice B1 m1 d1) ∧ wl0.cell? ⟨wk0.heap.size, 0, none⟩ = some (.slice C0 p0 e0) ∧ wl0.cell? ⟨wk0.heap.size, 1, none⟩ = some (.slice D0 q0 f0) := ⟨hb, Nat.le_refl _, y0_0, y0_1, y1_0, y1_1, y1_2, y2_0, y2_1⟩
  all_goals have HS := Lib.hid hs
  all_goals clear hs
  all_goals (refine (toAutomaton_any _ a _ (hvo1.keep hb) ha1 hc1 HD1.out).mono ?_; rintro e wk1 ⟨vk1, rfl, hok1, hbk1⟩)
  all_goals have hw1 := hok1.view.all (Nat.le_refl _)
  all_goals have hw0 := hw0.keep hbk1
  all_goals obtain ⟨C1, p1, e1, D1, q1, f1, rfl⟩ := hw1.shape
  all_goals have hba : Below wk1.heap.size wk1 (wk1.alloc (.cells #[.int .i64 a.start, .slice C1 p1 e1, .slice D1 q1 f1] 50)) := (Below.refl _ _).alloc (Nat.le_refl _) _
  all_goals have hs := hold7 l0 l0 l1 l1 l1 l2 l2 (below_trans hbk1 hba) HS.out
  all_goals have bz := Blk.new wk1 50 #[.int .i64 a.start, .slice C1 p1 e1, .slice D1 q1 f1] wk1.heap.size rfl
  all_goals clear hb y0_0 y0_1 y1_0 y1_1 y1_2 y2_0 y2_1
  all_goals obtain ⟨hb, hsz, y0_0, y0_1, y1_0, y1_1, y1_2, y2_0, y2_1⟩ := hs
  all_goals have l0 := Nat.lt_of_lt_of_le l0 hsz
  all_goals have l1 := Nat.lt_of_lt_of_le l1 hsz
  all_goals have l2 := Nat.lt_of_lt_of_le l2 hsz
  all_goals have l3 := bz.lt
  all_goals have y3_0 : (wk1.alloc (.cells #[.int .i64 a.start, .slice C1 p1 e1, .slice D1 q1 f1] 50)).cell? ⟨wk1.heap.size, 0, none⟩ = some (.int .i64 a.start) := bz.cell 0
  all_goals have y3_1 : (wk1.alloc (.cells #[.int .i64 a.start, .slice C1 p1 e1, .slice D1 q1 f1] 50)).cell? ⟨wk1.heap.size, 1, none⟩ = some (.slice C1 p1 e1) := bz.cell 1
  all_goals have y3_2 : (wk1.alloc (.cells #[.int .i64 a.start, .slice C1 p1 e1, .slice D1 q1 f1] 50)).cell? ⟨wk1.heap.size, 2, none⟩ = some (.slice D1 q1 f1) := bz.cell 2
  all_goals have hw0 := hw0.keep hba
  all_goals have hw1 := hw1.keep hba
  all_goals clear bz hba hbk1 hok1 HS hsz
  all_goals go_wp2_with fail
  all_goals generalize wk1.alloc (.cells #[.int .i64 a.start, .slice C1 p1 e1, .slice D1 q1 f1] 50) = wl1 at hb y0_0 y0_1 y1_0 y1_1 y1_2 y2_0 y2_1 y3_0 y3_1 y3_2 l0 l1 l2 l3 hw0 hw1 ⊢
  all_goals have hs : Below w.heap.size w wl1 ∧ wl1.heap.size ≤ wl1.heap.size ∧ wl1.cell? ⟨w.heap.size, 0, none⟩ = some (.slice A0 n0 c0) ∧ wl1.cell? ⟨w.heap.size, 1, none⟩ = some (.slice B0 m0 d0) ∧ wl1.cell? ⟨w.heap.size + 1, 0, none⟩ = some (.int .i64 a.start) ∧ wl1.cell? ⟨w.heap.size + 1, 1, none⟩ = some (.slice A1 n1 c1) ∧ wl1.cell? ⟨w.heap.size + 1, 2, none⟩ = some (.slice B1 m1 d1) ∧ wl1.cell? ⟨wk0.heap.size, 0, none⟩ = some (.slice C0 p0 e0) ∧ wl1.cell? ⟨wk0.heap.size, 1, none⟩ = some (.slice D0 q0 f0) ∧ wl1.cell? ⟨wk1.heap.size, 0, none⟩ = some (.int .i64 a.start) ∧ wl1.cell? ⟨wk1.heap.size, 1, none⟩ = some (.slice C1 p1 e1) ∧ wl1.cell? ⟨wk1.heap.size, 2, none⟩ = some (.slice D1 q1 f1) := ⟨hb, Nat.le_refl _, y0_0, y0_1, y1_0, y1_1, y1_2, y2_0, y2_1, y3_0, y3_1, y3_2⟩
  all_goals have HS := Lib.hid hs
  all_goals clear hs
  all_goals (refine (implLongestShortest _ _ g a _ hw0 hw1).mono ?_; rintro e wres ⟨rfl, hbres⟩)
  all_goals have hs := hold10 l0 l0 l1 l1 l1 l2 l2 l3 l3 l3 hbres HS.out
  all_goals clear hb y0_0 y0_1 y1_0 y1_1 y1_2 y2_0 y2_1 y3_0 y3_1 y3_2 HS
  all_goals have HS := Lib.hid hs
  all_goals obtain ⟨hb, -, y0_0, y0_1, y1_0, y1_1, y1_2, y2_0, y2_1, y3_0, y3_1, y3_2⟩ := hs
  all_goals have hw0 := hw0.keep hbres
  all_goals have hw1 := hw1.keep hbres
  all_goals generalize longL g a = bb
  all_goals go_wp2_with fail
  all_goals have hsz := HS.out.2.1
  all_goals go_region_held3 (fun w' => Below w.heap.size w w' ∧ wl1.heap.size ≤ w'.heap.size ∧ w'.cell? ⟨w.heap.size, 0, none⟩ = some (.slice A0 n0 c0) ∧ w'.cell? ⟨w.heap.size, 1, none⟩ = some (.slice B0 m0 d0) ∧ w'.cell? ⟨w.heap.size + 1, 0, none⟩ = some (.int .i64 a.start) ∧ w'.cell? ⟨w.heap.size + 1, 1, none⟩ = some (.slice A1 n1 c1) ∧ w'.cell? ⟨w.heap.size + 1, 2, none⟩ = some (.slice B1 m1 d1) ∧ w'.cell? ⟨wk0.heap.size, 0, none⟩ = some (.slice C0 p0 e0) ∧ w'.cell? ⟨wk0.heap.size, 1, none⟩ = some (.slice D0 q0 f0) ∧ w'.cell? ⟨wk1.heap.size, 0, none⟩ = some (.int .i64 a.start) ∧ w'.cell? ⟨wk1.heap.size, 1, none⟩ = some (.slice C1 p1 e1) ∧ w'.cell? ⟨wk1.heap.size, 2, none⟩ = some (.slice D1 q1 f1))
    (first | (exact ⟨hb.drew, hsz, y0_0, y0_1, y1_0, y1_1, y1_2, y2_0, y2_1, y3_0, y3_1, y3_2⟩) | (exact hold10 l0 l0 l1 l1 l1 l2 l2 l3 l3 l3 (by assumption) (by assumption)))
    (first | (go_at_call 29; refine (toGraph_any _ g _ (hvo0.keep (hold_below (by assumption))) ha0 hc0).mono ?_; rintro e wd0 ⟨vd0, rfl, hod0, hbd0⟩) | (go_at_call 32; refine (eqGraph_same _ _ g _ (GrV.keep (w := wres.drew) hw0 hbd0) (hod0.view.all (Nat.le_refl _))).mono ?_; rintro e we0 ⟨rfl, hbe0⟩))
  all_goals clear hb y0_0 y0_1 y1_0 y1_1 y1_2 y2_0 y2_1 y3_0 y3_1 y3_2
  all_goals (rename_i hh; have HS := Lib.hid hh; obtain ⟨hb, -, y0_0, y0_1, y1_0, y1_1, y1_2, y2_0, y2_1, y3_0, y3_1, y3_2⟩ := hh)
  all_goals have hw0 := GrV.keep (GrV.keep (w := wres.drew) hw0 hbd0) hbe0
  all_goals have hw1 := AuV.keep (AuV.keep (w := wres.drew) hw1 hbd0) hbe0
  all_goals clear hsz
  all_goals go_wp2_with fail
  all_goals have hsz := HS.out.2.1
  all_goals go_region_held3 (fun w' => Below w.heap.size w w' ∧ wl1.heap.size ≤ w'.heap.size ∧ w'.cell? ⟨w.heap.size, 0, none⟩ = some (.slice A0 n0 c0) ∧ w'.cell? ⟨w.heap.size, 1, none⟩ = some (.slice B0 m0 d0) ∧ w'.cell? ⟨w.heap.size + 1, 0, none⟩ = some (.int .i64 a.start) ∧ w'.cell? ⟨w.heap.size + 1, 1, none⟩ = some (.slice A1 n1 c1) ∧ w'.cell? ⟨w.heap.size + 1, 2, none⟩ = some (.slice B1 m1 d1) ∧ w'.cell? ⟨wk0.heap.size, 0, none⟩ = some (.slice C0 p0 e0) ∧ w'.cell? ⟨wk0.heap.size, 1, none⟩ = some (.slice D0 q0 f0) ∧ w'.cell? ⟨wk1.heap.size, 0, none⟩ = some (.int .i64 a.start) ∧ w'.cell? ⟨wk1.heap.size, 1, none⟩ = some (.slice C1 p1 e1) ∧ w'.cell? ⟨wk1.heap.size, 2, none⟩ = some (.slice D1 q1 f1))
    (first | (exact ⟨hb.drew, hsz, y0_0, y0_1, y1_0, y1_1, y1_2, y2_0, y2_1, y3_0, y3_1, y3_2⟩) | (exact hold10 l0 l0 l1 l1 l1 l2 l2 l3 l3 l3 (by assumption) (by assumption)))
    (first | (go_at_call 30; refine (toAutomaton_any _ a _ (hvo1.keep (hold_below (by assumption))) ha1 hc1 HD1.out).mono ?_; rintro e wd1 ⟨vd1, rfl, hod1, hbd1⟩) | (go_at_call 33; refine (eqAutomaton_same _ _ a _ (AuV.keep (w := we0.drew) hw1 hbd1) (hod1.view.all (Nat.le_refl _))).mono ?_; rintro e we1 ⟨rfl, hbe1⟩))
  all_goals clear hb y0_0 y0_1 y1_0 y1_1 y1_2 y2_0 y2_1 y3_0 y3_1 y3_2
  all_goals (rename_i hh; have HS := Lib.hid hh; obtain ⟨hb, -, y0_0, y0_1, y1_0, y1_1, y1_2, y2_0, y2_1, y3_0, y3_1, y3_2⟩ := hh)
  all_goals have hw0 := GrV.keep (GrV.keep (w := we0.drew) hw0 hbd1) hbe1
  all_goals have hw1 := AuV.keep (AuV.keep (w := we0.drew) hw1 hbd1) hbe1
  all_goals clear hsz
  all_goals go_wp2_with fail
  all_goals go_ret
  all_goals exact ⟨rfl, hb⟩

end Go.Proofs.Ytmlfkledhnlkeaa.fnExactLongestShortest

/- Whether a program's text can call itself: told by ranks along the calls. Over any program. -/
namespace Go.Proofs.Ytmlfkledhnlkeaa
set_option linter.unusedVariables false
set_option linter.unusedSimpArgs false
def leadsOf (P : Program) (f : FuncId) : List FuncId := (P.funcs[f]?).elim [] P.leadsTo
def rankOk (P : Program) (T : List (FuncId × Nat)) : Bool :=
  T.all fun q => T.lookup q.1 == some q.2 && (leadsOf P q.1).all fun h => match T.lookup h with | some r => decide (r < q.2) | none => false
def plainAll (P : Program) (T : List (FuncId × Nat)) : Bool :=
  T.all fun q => !((P.funcs[q.1]?).any fun fn => match fn.body with | some c => c.unfollowed | none => entryCalls fn)
theorem via_sub {P : Program} {p : FuncId → Prop} (hp : ∀ f, p f → ∀ h ∈ leadsOf P f, p h) : ∀ (n : Nat) (todo seen : List FuncId), (∀ f ∈ todo, p f) → (∀ f ∈ seen, p f) → ∀ g ∈ P.closureVia n todo seen, p g
  | 0, _, seen, _, hs, g, hg => hs g (by simpa [Program.closureVia] using hg)
  | _ + 1, [], seen, _, hs, g, hg => hs g (by simpa [Program.closureVia] using hg)
  | n + 1, f :: todo, seen, ht, hs, g, hg => by
    rw [Program.closureVia] at hg
    split at hg
    · exact via_sub hp n todo seen (fun x hx => ht x (List.mem_cons_of_mem _ hx)) hs g hg
    · refine via_sub hp n _ _ (fun x hx => ?_) (fun x hx => ?_) g hg
      · rcases List.mem_append.1 hx with h | h
        · exact hp f (ht f (List.mem_cons_self ..)) x h
        · exact ht x (List.mem_cons_of_mem _ h)
      · rcases List.mem_cons.1 hx with rfl | h
        · exact ht x (List.mem_cons_self ..)
        · exact hs x h
theorem closure_sub {P : Program} {p : FuncId → Prop} (hp : ∀ f, p f → ∀ h ∈ leadsOf P f, p h) {f : FuncId} (hf : p f) : ∀ g ∈ P.closure f, p g := by
  unfold Program.closure
  exact via_sub hp _ _ _ (by simpa using hf) (by simp)
theorem lookup_mem {T : List (FuncId × Nat)} {x : FuncId} {r : Nat} (h : T.lookup x = some r) : (x, r) ∈ T := by
  induction T with
  | nil => simp at h
  | cons q T ih =>
    obtain ⟨a, b⟩ := q
    rw [List.lookup_cons] at h
    split at h
    · rename_i hx
      have e1 : x = a := by simpa using hx
      have e2 : b = r := by simpa using h
      subst e1 e2
      exact List.mem_cons_self ..
    · exact List.mem_cons_of_mem _ (ih h)
theorem rank_step {P : Program} {T : List (FuncId × Nat)} (hT : rankOk P T = true) {f : FuncId} {r : Nat} (hf : T.lookup f = some r) {h : FuncId} (hh : h ∈ leadsOf P f) : ∃ s, T.lookup h = some s ∧ s < r := by
  have h1 := List.all_eq_true.1 hT _ (lookup_mem hf)
  simp only [Bool.and_eq_true] at h1
  have h2 := List.all_eq_true.1 h1.2 h hh
  cases hl : T.lookup h with
  | none => rw [hl] at h2; cases h2
  | some s => rw [hl] at h2; exact ⟨s, rfl, by simpa using h2⟩
theorem rank_closure {P : Program} {T : List (FuncId × Nat)} (hT : rankOk P T = true) {f : FuncId} {r : Nat} (hf : T.lookup f = some r) : ∀ g ∈ P.closure f, ∃ s, T.lookup g = some s ∧ s ≤ r :=
  closure_sub (p := fun g => ∃ s, T.lookup g = some s ∧ s ≤ r) (fun x ⟨s, hs, hr⟩ h hh => by
    obtain ⟨t, ht, hlt⟩ := rank_step hT hs hh
    exact ⟨t, ht, by omega⟩) ⟨r, hf, Nat.le_refl _⟩
theorem unfollowed_no {P : Program} {T : List (FuncId × Nat)} {f : FuncId} {r : Nat} (hT : rankOk P T = true) (hp : plainAll P T = true) (hf : T.lookup f = some r) : P.unfollowed f = false := by
  rw [Program.unfollowed, List.any_eq_false]
  intro g hg
  obtain ⟨s, hs, _⟩ := rank_closure hT hf g hg
  have := List.all_eq_true.1 hp _ (lookup_mem hs)
  exact Bool.eq_false_iff.1 (Eq.mp (Bool.not_eq_true' _) this)
theorem recurses_no {P : Program} {T : List (FuncId × Nat)} {f : FuncId} {r : Nat} (hT : rankOk P T = true) (hp : plainAll P T = true) (hf : T.lookup f = some r) : P.recurses f = false := by
  rw [Program.recurses, unfollowed_no hT hp hf, Bool.false_or, List.any_eq_false]
  intro g hg
  obtain ⟨s, hs, _⟩ := rank_closure hT hf g hg
  rw [Bool.not_eq_true, List.any_eq_false]
  intro h hh
  obtain ⟨t, ht, hlt⟩ := rank_step hT hs hh
  intro hc
  have hm : g ∈ P.closure h := by simpa using hc
  obtain ⟨u, hu, hle⟩ := rank_closure hT ht g hm
  rw [hs] at hu
  injection hu with e
  omega
theorem recurses_yes {P : Program} {f : FuncId} (g h : FuncId) (h1 : (P.closure f).contains g = true) (h2 : (leadsOf P g).contains h = true) (h3 : (P.closure h).contains g = true) : P.recurses f = true := by
  rw [Program.recurses, Bool.or_eq_true]
  refine .inr (List.any_eq_true.2 ⟨g, by simpa using h1, List.any_eq_true.2 ⟨h, by simpa [leadsOf] using h2, h3⟩⟩)
end Go.Proofs.Ytmlfkledhnlkeaa

/- Facts on this seat's program as a whole that every row asks for: told once. -/
namespace Go.Proofs.Ytmlfkledhnlkeaa
set_option linter.unusedVariables false
set_option linter.unusedSimpArgs false
theorem seat_mayEnter : Try.pinned.checked.prog.mayEnter = true := by kernel_rfl
theorem seat_lifts : Try.pinned.checked.prog.liftsFinal = false := by kernel_rfl
theorem seat_laidOut : laidOutB Try.pinned.checked.prog = true := by kernel_rfl
theorem seat_mapsRowed : mapsRowed Try.pinned.checked.prog = true := by kernel_rfl
end Go.Proofs.Ytmlfkledhnlkeaa

