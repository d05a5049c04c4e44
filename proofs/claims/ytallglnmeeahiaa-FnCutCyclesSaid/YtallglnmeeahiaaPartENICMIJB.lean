/- Parts of the proof, joined into one text: SortI, CutI, NodesS, AnsS, MatchM, Ends, WalkS, AlongS, CntM, SrchM, SrchP. -/
import Derived.Test.YtallglnmeeahiaaPartLICDIBBA
import Derived.Test.YtallglnmeeahiaaPartIMMJNNIG
import Derived.Test.YtallglnmeeahiaaPartCKFBLHLD
import Derived.Test.YtallglnmeeahiaaPartDLBGOHJO
import Derived.Test.YtallglnmeeahiaaPartDCJFFDIJ
import Derived.Test.YtallglnmeeahiaaPartFCJBGCIJ
import Derived.Test.YtallglnmeeahiaaPartGHIFKCDG
import Derived.Test.YtallglnmeeahiaaPartFDAIEBNB
import Derived.Lib.Slices
/- The program's copyInts and ascending: a copy of numbers; the same in ascending order, each once. -/
namespace Go.Proofs.Ytallglnmeeahiaa
set_option linter.unusedVariables false
set_option linter.unusedSimpArgs false
open Go.ChangeShapes Go.WideShapes Go.ChangeAt Go.RowKit Go.Sort
attribute [local go_sem] ext_cell ext_frozen ext_lt ext_lt1 ext_lt2 ext_lt3 ltn2 ltn3 ltn13 lts1 lts2 lts3

theorem flatI_map (xs : List Int) : xs.flatMap cI = xs.map (Value.int .i64) := by
  induction xs with
  | nil => rfl
  | cons x xs ih => rw [List.flatMap_cons, List.map_cons, ih]; rfl
theorem only_ahead (lo hi : Nat) (w : World) (n : Nat) : Only lo hi w (Sort.ahead w n) := ⟨rfl, rfl, rfl, Nat.le_refl _, fun _ _ _ => rfl⟩
theorem only_grow (lo hi : Nat) (w : World) (os : Array Obj) : Only lo hi w (grow w os) := ⟨rfl, rfl, rfl, by simp [grow], fun n hn _ => by simp [grow, Array.getElem?_append, hn]⟩
theorem only_put {α : Type} [Inhabited α] (enc : α → Value) (w : World) (g off : Nat) (d : Array α) : Only g (g + 1) w (putRow enc w g off d) :=
  ⟨rfl, rfl, rfl, by simp [putRow, mapBlock], fun n hn ho => by simp only [putRow, mapBlock, Array.getElem?_modify]; rw [if_neg (by omega)]⟩
theorem row_put {w : World} {base g n cap : Nat} {e : TypeId} {cs : List Value} (h : w.ownsRow base e 1 (.slice (some ⟨g, 0, none⟩) n cap) n cs) {ds : List Int} (hd : ds.length = n) :
    (putRow (Value.int .i64) w g 0 ds.toArray).ownsRow base e 1 (.slice (some ⟨g, 0, none⟩) n cap) n (ds.flatMap cI) := by
  obtain ⟨hl, hs⟩ := h
  rw [flatI_map]
  refine ⟨by simp [hd], ?_⟩
  rcases hs with ⟨h1, _⟩ | ⟨g', cap', cur, hv, hg, hh, hnc, hcm, hsz, htk⟩
  · cases h1
  · simp only [Value.slice.injEq, Option.some.injEq, Addr.mk.injEq, and_true, true_and] at hv
    obtain ⟨rfl, rfl⟩ := hv
    refine .inr ⟨g, cap, putCells (Value.int .i64) 0 ds.toArray cur, rfl, hg, ?_, hnc, hcm, by simp [putCells, hsz], ?_⟩
    · simp [putRow, mapBlock, Array.getElem?_modify, hh, onCells]
    · apply List.ext_getElem?
      intro k
      rw [List.getElem?_take]
      by_cases hk : k < n * 1
      · rw [if_pos hk]
        have hk1 : k < n := by omega
        have hkc : k < cur.size := by omega
        have hkd : k < ds.length := by omega
        simp [putCells, hkc, hkd, getElem!_pos]
      · rw [if_neg hk, List.getElem?_eq_none (by simp; omega)]
theorem holds_own {w : World} {base g n cap : Nat} {e : TypeId} {zs : List Int} (h : w.ownsRow base e 1 (.slice (some ⟨g, 0, none⟩) n cap) n (zs.flatMap cI)) (hz : zs.length = n) : Holds (Value.int .i64) w g 0 zs.toArray := by
  intro j hj
  have hj' : j < zs.length := by simpa using hj
  refine ⟨?_, by rw [Nat.zero_add]; exact World.ownsRow.frozenAt h j⟩
  rw [Nat.zero_add, World.ownsRow.cellAt h j (by omega), flatI_map, List.getElem?_map, List.getElem?_eq_getElem hj', get_bang hj']
  rfl

set_option maxHeartbeats 1000000 in
theorem copyInts_any (v : Value) (xs : List Int) (w : World) (hv : SlE w cI 1 v xs) (hn : xs.length ≤ 1000000) :
    Calls Try.prog 73 #[v] w fun e w' => ∃ v', e = .returned v' ∧ Own w.heap.size w'.heap.size w' 3 cI 1 v' xs ∧ Below w.heap.size w w' := by
  have hv0 := hv
  obtain ⟨A, c, rfl, hl, hm, -⟩ := SlE.form hv
  have hba : Below w.heap.size w (w.alloc (.cells #[] 3)) := (Below.refl _ _).alloc (Nat.le_refl _) _
  have hv1 := SlE.keep hv0 hba
  have hrow := World.ownsRow_lit (base := w.heap.size) (e := 3) (size := 1) w #[] 0 (Nat.le_refl _) (by decide) rfl
  have HV := Lib.hid hv1
  have HR := Lib.hid hrow
  clear hv hv0 hv1 hrow
  go_enter Try.func73, Try.ntmps73
  go_wp2_with (at_builtin; (refine wpList_appendL cI elInt cI_len cI_one rfl _ _ rfl w.heap.size _ [] xs (by rfl) HR.out 0 _ _ (by rfl) HV.out (by simp; omega) (by omega) (by simp) ?_); intro v' w4 hrow' hgr4 hat4)
  have hown := Own.of_row (xs := xs) hrow' rfl rfl
  have hgr := hgr4
  have hbel := (hba.trans (own_below HR.out (by simp) hgr4))
  obtain ⟨A2, n2, c2, rfl⟩ := hown.shape
  have HO := Lib.hid hown
  clear hown hgr hgr4 hrow' hat4
  go_wp2_with fail
  go_ret
  exact ⟨_, rfl, HO.out, hbel⟩

set_option maxHeartbeats 2000000 in
theorem ascending_any (v : Value) (xs : List Int) (w : World) (hv : SlE w cI 1 v xs) (hn : xs.length ≤ 1000000) :
    Calls Try.prog 41 #[v] w fun e w' => ∃ v', e = .returned v' ∧ Own w.heap.size w'.heap.size w' 3 cI 1 v' (ascL xs) ∧ Below w.heap.size w w' := by
  have hc := copyInts_any v xs w hv hn
  have HC := Lib.hid hc
  clear hc hv
  obtain ⟨R, hR⟩ : ∃ R, R = ascL xs := ⟨_, rfl⟩
  rw [← hR]
  have HR := Lib.hid hR
  clear hR
  go_enter Try.func41, Try.ntmps41
  go_wp2_with fail
  refine HC.out.mono ?_
  rintro e w1 ⟨v1, rfl, ho1, hb1⟩
  cases xs with
  | nil =>
    have hr0 : R = [] := by rw [HR.out]; simp [ascL, Lib.compact, Lib.compactUpTo]
    subst hr0
    obtain ⟨A1, c1, rfl, -, -, -⟩ := ho1.form cI_len
    have HO := Lib.hid ho1
    clear ho1
    simp only [List.length_nil] at HO ⊢
    go_wp2_with fail
    refine (Try.slices_Sort_int_none A1 c1 _).mono ?_
    rintro e w2 ⟨rfl, rfl⟩
    go_wp2_with fail
    refine (Try.slices_Compact_int_empty A1 c1 _).mono ?_
    rintro e w3 ⟨rfl, rfl⟩
    go_wp2_with fail
    go_ret
    exact ⟨_, rfl, HO.out, hb1⟩
  | cons x xs =>
    obtain ⟨zs, hzs⟩ : ∃ zs, zs = x :: xs := ⟨_, rfl⟩
    have hz0 : zs.length ≠ 0 := by rw [hzs]; simp
    rw [← hzs] at HR ho1 hn
    clear hzs HC
    have hr1 := ho1.1
    obtain ⟨g, c, rfl, hg, hgw, hcl, hcm⟩ := own_some hr1 hz0
    have hms : (zs.mergeSort fun x y => decide (x ≤ y)).length = zs.length := List.length_mergeSort _
    obtain ⟨ys, hys⟩ : ∃ ys, ys = zs.mergeSort fun x y => decide (x ≤ y) := ⟨_, rfl⟩
    rw [← hys] at hms
    have hsort := Try.slices_Sort_int g 0 c zs w1 (holds_own hr1 rfl) hgw (by omega)
    rw [← hys] at hsort
    have HS := Lib.hid hsort
    have HR1 := Lib.hid hr1
    have HRY := Lib.hid (show R = Lib.compact ys by rw [HR.out, ascL, hys])
    clear hsort hr1 hys ho1 HR
    go_wp2_with fail
    refine HS.out.mono ?_
    rintro e w2 ⟨rfl, n, os, rfl⟩
    have hon := ((only_ahead g (g + 1) w1 n).trans (only_put (Value.int .i64) _ g 0 ys.toArray)).trans (only_grow g (g + 1) _ os)
    have hr2 : (grow (putRow (Value.int .i64) (Sort.ahead w1 n) g 0 ys.toArray) os).ownsRow w.heap.size 3 1 (.slice (some ⟨g, 0, none⟩) zs.length c) zs.length (ys.flatMap cI) := by
      have h := row_put (w := Sort.ahead w1 n) (ds := ys) (cs := zs.flatMap cI) (by exact HR1.out) hms
      exact ownsRow_block h fun b hb => by
        have hlt := (h.lt b hb).2
        exact (only_grow 0 0 (putRow (Value.int .i64) (Sort.ahead w1 n) g 0 ys.toArray) os).block b hlt (.inr (Nat.zero_le _))
    have HON := Lib.hid hon
    have HR2 := Lib.hid hr2
    generalize grow (putRow (Value.int .i64) (Sort.ahead w1 n) g 0 ys.toArray) os = w2 at *
    clear hon hr2 HS HR1
    have hcomp := Try.slices_Compact_int g 0 c ys w2 (holds_own HR2.out hms) (by omega) (by omega)
    rw [hms] at hcomp
    have HCO := Lib.hid hcomp
    clear hcomp
    go_wp2_with fail
    refine HCO.out.mono ?_
    rintro e w3 ⟨rfl, q, rfl⟩
    have hcl2 := Lib.compact_length_le ys
    have hr3 : (putRow (Value.int .i64) (Sort.ahead w2 q) g 0 (Lib.compact ys ++ List.replicate (zs.length - (Lib.compact ys).length) 0).toArray).ownsRow w.heap.size 3 1 (.slice (some ⟨g, 0, none⟩) zs.length c) zs.length ((Lib.compact ys ++ List.replicate (zs.length - (Lib.compact ys).length) 0).flatMap cI) :=
      row_put (w := Sort.ahead w2 q) (cs := ys.flatMap cI) (by exact HR2.out) (by rw [List.length_append, List.length_replicate]; omega)
    have hr4 := ownsRow_take hr3 (show (Lib.compact ys).length ≤ zs.length by omega)
    have htk : ((Lib.compact ys ++ List.replicate (zs.length - (Lib.compact ys).length) 0).flatMap cI).take ((Lib.compact ys).length * 1) = (Lib.compact ys).flatMap cI := by
      rw [List.flatMap_append, List.take_left' (by rw [flatI_map]; simp)]
    rw [htk, ← HRY.out] at hr4
    have hon := HON.out.trans ((only_ahead g (g + 1) w2 q).trans (only_put (Value.int .i64) _ g 0 (Lib.compact ys ++ List.replicate (zs.length - (Lib.compact ys).length) 0).toArray))
    have hown := Own.of_row (xs := R) hr4 rfl rfl
    have HO := Lib.hid hown
    have hfin : Below w.heap.size w _ := hb1.trans (hon.below hg hb1.size)
    clear hr3 hr4 htk hon hown
    rw [← HRY.out] at *
    go_wp2_with fail
    go_ret
    exact ⟨_, rfl, HO.out, hfin⟩
end Go.Proofs.Ytallglnmeeahiaa

/- The program's CutCycles. -/
namespace Go.Proofs.Ytallglnmeeahiaa
set_option linter.unusedVariables false
set_option linter.unusedSimpArgs false
open Go.ChangeShapes Go.WideShapes Go.ChangeAt Go.RowKit
attribute [local go_sem] ext_cell ext_frozen ext_lt ext_lt1 ext_lt2 ext_lt3 ltn2 ltn3 ltn13 lts1 lts2 lts3

/-- what both sides hold in a round: the walk's box, the steps kept, the nodes they lead through -/
structure CutR (bO : Nat) (w0 wr : World) (st : Int) (vs tt : Value) (L : List St) (M : List Int) : Prop where
  box : Blk wr bO 41 #[.int .i64 st, vs]
  steps : wr.ownsRow (bO + 1) 54 2 vs L.length (L.flatMap cSt)
  there : wr.ownsRow (bO + 1) 3 1 tt M.length (M.flatMap cI)
  dis : ∀ b, vs.ownBlock = some b → tt.ownBlock ≠ some b
  bel : Below bO w0 wr
theorem CutR.alloc {bO : Nat} {w0 wr : World} {st : Int} {vs tt : Value} {L : List St} {M : List Int} (h : CutR bO w0 wr st vs tt L M) (hs : bO ≤ w0.heap.size) (o : Obj) : CutR bO w0 (wr.alloc o) st vs tt L M :=
  ⟨h.box.alloc o, h.steps.alloc o, h.there.alloc o, h.dis, h.bel.alloc (Nat.le_trans hs h.bel.size) o⟩
/-- a step is appended, and the walk's box told of it -/
theorem CutR.push {bO : Nat} {w0 wr w4 : World} {st : Int} {vs tt v' : Value} {L L' : List St} {M : List Int} {o : Obj} (h : CutR bO w0 wr st vs tt L M) (hs : bO ≤ w0.heap.size)
    (hrow : w4.ownsRow (bO + 1) 54 2 v' L'.length (L'.flatMap cSt)) (hg : (wr.alloc o).grownBy w4 vs.ownBlock) (hat : v'.ownBlock = vs.ownBlock ∨ ∃ g, v'.ownBlock = some g ∧ wr.heap.size ≤ g) :
    Blk w4 bO 41 #[.int .i64 st, vs] ∧ CutR bO w0 (w4.setCell ⟨bO, 1, none⟩ v') st v' tt L' M := by
  have hst := h.steps.lt
  have hbl := h.box.lt
  have hb4 : Blk w4 bO 41 #[.int .i64 st, vs] :=
    (hg.block bO (by simp; omega) (fun e => by have := (hst bO e.symm).1; omega)).trans (h.box.alloc o)
  refine ⟨hb4, ⟨hb4.set_ 1 v', ?_, ?_, ?_, ?_⟩⟩
  · exact ownsRow_block hrow fun b hb => Below.heap_setCell _ _ _ _ (by have := (hrow.lt b hb).1; simp only; omega)
  · have hth := h.there.lt
    refine ownsRow_block h.there fun b hb => ?_
    have h1 := hth b hb
    rw [Below.heap_setCell _ _ _ _ (by simp only; omega), hg.block b (by simp; omega) (fun e => h.dis b e.symm hb), Below.heap_alloc _ _ _ h1.2]
  · intro b hb hb2
    rcases hat with e | ⟨g, e, hge⟩
    · exact h.dis b (by rw [← e]; exact hb) hb2
    · rw [e] at hb
      injection hb with hb
      have := (h.there.lt b hb2).2
      omega
  · exact ((h.bel.alloc (Nat.le_trans hs h.bel.size) o).grown hg (by have := h.bel.size; simp; omega) (fun b hb => by have := (hst b hb).1; omega)).setCell (Nat.le_refl _) v'
theorem CutR.reslice {bO : Nat} {w0 wr : World} {st : Int} {tt : Value} {L : List St} {M : List Int} {g n cap k : Nat} (h : CutR bO w0 wr st (.slice (some ⟨g, 0, none⟩) n cap) tt L M) (hn : n = L.length) (hk : k ≤ n) :
    CutR bO w0 (wr.setCell ⟨bO, 1, none⟩ (.slice (some ⟨g, 0, none⟩) k cap)) st (.slice (some ⟨g, 0, none⟩) k cap) tt (L.take k) M := by
  have hst := h.steps.lt
  have hth := h.there.lt
  subst hn
  have h1 := ownsRow_take h.steps hk
  have hlen : (L.take k).length = k := by rw [List.length_take]; omega
  have hfl : ∀ (l : List St) (k : Nat), (l.flatMap cSt).take (k * 2) = (l.take k).flatMap cSt := by
    intro l
    induction l with
    | nil => intro k; simp
    | cons a l ih =>
      intro k
      cases k with
      | zero => simp
      | succ k => rw [Nat.succ_mul]; simp only [List.flatMap_cons, List.take_succ_cons, cSt, List.cons_append, List.nil_append]; rw [ih]
  rw [hfl] at h1
  refine ⟨h.box.set_ 1 _, ?_, ?_, h.dis, h.bel.setCell (Nat.le_refl _) _⟩
  · rw [hlen]
    exact ownsRow_block h1 fun b hb => Below.heap_setCell _ _ _ _ (by have := (hst b hb).1; simp only; omega)
  · exact ownsRow_block h.there fun b hb => Below.heap_setCell _ _ _ _ (by have := (hth b hb).1; simp only; omega)
theorem CutR.seen {bO : Nat} {w0 wr w4 : World} {st : Int} {vs tt v' : Value} {L : List St} {M M' : List Int} {o : Obj} (h : CutR bO w0 wr st vs tt L M) (hs : bO ≤ w0.heap.size)
    (hrow : w4.ownsRow (bO + 1) 3 1 v' M'.length (M'.flatMap cI)) (hg : (wr.alloc o).grownBy w4 tt.ownBlock) (hat : v'.ownBlock = tt.ownBlock ∨ ∃ g, v'.ownBlock = some g ∧ wr.heap.size ≤ g) : CutR bO w0 w4 st vs v' L M' := by
  have hst := h.steps.lt
  have hth := h.there.lt
  have hbl := h.box.lt
  refine ⟨(hg.block bO (by simp; omega) (fun e => by have := (hth bO e.symm).1; omega)).trans (h.box.alloc o), ?_, hrow, ?_, ?_⟩
  · refine ownsRow_block h.steps fun b hb => ?_
    have h1 := hst b hb
    rw [hg.block b (by simp; omega) (fun e => h.dis b hb e.symm), Below.heap_alloc _ _ _ h1.2]
  · intro b hb hb2
    rcases hat with e | ⟨g, e, hge⟩
    · exact h.dis b hb (by rw [← e]; exact hb2)
    · rw [e] at hb2
      injection hb2 with hb2
      have := (hst b hb).2
      omega
  · exact (h.bel.alloc (Nat.le_trans hs h.bel.size) o).grown hg (by have := h.bel.size; simp; omega) (fun b hb => by have := (hth b hb).1; omega)
theorem CutR.short {bO : Nat} {w0 wr : World} {st : Int} {vs : Value} {L : List St} {M : List Int} {g n cap k : Nat} (h : CutR bO w0 wr st vs (.slice (some ⟨g, 0, none⟩) n cap) L M) (hn : n = M.length) (hk : k ≤ n) :
    CutR bO w0 wr st vs (.slice (some ⟨g, 0, none⟩) k cap) L (M.take k) := by
  subst hn
  have h1 := ownsRow_take h.there hk
  have hlen : (M.take k).length = k := by rw [List.length_take]; omega
  have hfl : ∀ (l : List Int) (k : Nat), (l.flatMap cI).take (k * 1) = (l.take k).flatMap cI := by
    intro l
    induction l with
    | nil => intro k; simp
    | cons a l ih =>
      intro k
      cases k with
      | zero => simp
      | succ k => rw [Nat.succ_mul]; simp only [List.flatMap_cons, List.take_succ_cons, cI, List.cons_append, List.nil_append]; rw [ih]
  rw [hfl] at h1
  exact ⟨h.box, h.steps, by rw [hlen]; exact h1, h.dis, h.bel⟩

set_option maxHeartbeats 4000000 in
set_option maxRecDepth 100000 in
theorem implCutCycles (v1 v2 : Value) (g : Gr) (k : Wk) (w : World) (hv1 : GrV 0 w.heap.size w v1 g) (hv2 : WkV 0 w.heap.size w v2 k) :
    Calls Try.prog 16 #[v1, v2] w fun en w' => ∃ v, en = .returned (.tuple #[v, .bool (walkOk g k)]) ∧ WkO w.heap.size w'.heap.size w' v (cutOf g k) ∧ Below w.heap.size w w' := by
  have hv0 := hv1
  have hv3 := hv2
  obtain ⟨A1, n1, c1, A2, n2, c2, rfl⟩ := hv1.shape
  obtain ⟨ss, rfl, ⟨A3, c3, rfl, hl3, hm3, hx3⟩⟩ := hv2
  unfold maxLen at hm3
  have hb0 : Below w.heap.size w (((w.alloc (.cells #[.slice A1 n1 c1, .slice A2 n2 c2] 38)).alloc (.cells #[.int .i64 k.1, .slice A3 k.2.length c3] 41)).alloc (.cells #[.int .i64 0, .slice none 0 0] 41)) := (((Below.refl _ _).alloc (Nat.le_refl _) _).alloc (by simp) _).alloc (by simp; omega) _
  have hc := implNodes _ _ g k _ (hv0.keep hb0) (hv3.keep hb0)
  have bx : Blk (((w.alloc (.cells #[.slice A1 n1 c1, .slice A2 n2 c2] 38)).alloc (.cells #[.int .i64 k.1, .slice A3 k.2.length c3] 41)).alloc (.cells #[.int .i64 0, .slice none 0 0] 41)) (w.heap.size + 1) 41 #[.int .i64 k.1, .slice A3 k.2.length c3] := (Blk.new (w.alloc _) _ _ (w.heap.size + 1) (by simp)).alloc _
  have bz : Blk (((w.alloc (.cells #[.slice A1 n1 c1, .slice A2 n2 c2] 38)).alloc (.cells #[.int .i64 k.1, .slice A3 k.2.length c3] 41)).alloc (.cells #[.int .i64 0, .slice none 0 0] 41)) (w.heap.size + 1 + 1) 41 #[.int .i64 0, .slice none 0 0] := Blk.new ((w.alloc _).alloc _) _ _ (w.heap.size + 1 + 1) (by simp)
  have HC := Lib.hid hc
  have HX := Lib.hid hx3
  have HBX := Lib.hid bx
  have HBZ := Lib.hid bz
  have HB0 := Lib.hid hb0
  obtain ⟨R, hR⟩ : ∃ R, R = cutOf g k := ⟨_, rfl⟩
  rw [← hR]
  have HR := Lib.hid hR
  clear hc hx3 hv0 hv1 hv3 bx bz hb0 hR
  cases hok : walkOk g k with
  | false =>
    rw [hok] at HC
    have hfin : R = (0, []) := by rw [HR.out, cutOf, hok]; rfl
    subst hfin
    clear HR hok
    go_enter Try.func16, Try.ntmps16
    go_wp2_with fail
    refine HC.out.mono ?_
    rintro e w1 ⟨v, rfl, -, hb1⟩
    have hb2 := below_trans HB0.out hb1
    have bz1 := HBZ.out.keep hb1
    have z0 : w1.cell? ⟨w.heap.size + 1 + 1, 0, none⟩ = some (.int .i64 0) := bz1.cell 0
    have z1 : w1.cell? ⟨w.heap.size + 1 + 1, 1, none⟩ = some (.slice none 0 0) := bz1.cell 1
    have fz0 := bz1.frozen 0
    have fz1 := bz1.frozen 1
    have lz := bz1.lt
    clear bz1
    go_wp2_with fail
    refine bodyPost_ret (v := .tuple #[.agg #[.int .i64 0, .slice none 0 0], .bool false]) (by simp [results, Try.results16, go_sem, z0, z1]) rfl ⟨_, rfl, ⟨_, rfl, Own.nil _ _ _ _ _ _⟩, (hb2.setCell (p := ⟨w.heap.size + 1 + 1, 0, none⟩) (by simp only; omega) _).setCell (p := ⟨w.heap.size + 1 + 1, 1, none⟩) (by simp only; omega) _⟩
  | true =>
    rw [hok] at HC
    have hfin : R = (k.1, (cutAt g k k.2.length).1) := by rw [HR.out, cutOf, hok]; rfl
    have hk60 : k.2.length ≤ 60 := by
      rcases Nat.lt_or_ge 60 k.2.length with h3 | h3
      · rw [walkOk_long h3] at hok; cases hok
      · exact h3
    rw [nodesOut_yes hok] at HC
    have HF := Lib.hid hfin
    clear HR hok hfin
    go_enter Try.func16, Try.ntmps16
    go_wp2_with fail
    refine HC.out.mono ?_
    rintro e w1 ⟨v, rfl, ho1, hb1⟩
    have hb2 := below_trans HB0.out hb1
    have bz1 := HBZ.out.keep hb1
    have bx1 := HBX.out.keep hb1
    have x0 : w1.cell? ⟨w.heap.size + 1, 0, none⟩ = some (.int .i64 k.1) := bx1.cell 0
    have x1 : w1.cell? ⟨w.heap.size + 1, 1, none⟩ = some (.slice A3 k.2.length c3) := bx1.cell 1
    have lz := bz1.lt
    have lx := bx1.lt
    have hs0 : w.heap.size + 1 + 1 + 1 ≤ w1.heap.size := by omega
    have lx2 : w.heap.size < w1.heap.size := by omega
    have lx3 : w.heap.size + 1 < w1.heap.size + 1 := by omega
    obtain ⟨A6, c6, rfl, hl6, hm6, -⟩ := ho1.form cI_len
    have HN := Lib.hid (ho1.sl cI_len)
    have hnl := nodesL_len g k
    rw [hnl] at hl6 ⊢
    have HBZ1 := Lib.hid bz1
    have HB2 := Lib.hid hb2
    clear bz1 bx1 ho1 hb1 HBZ HBX HB0 HC hnl hb2
    go_wp2_with fail
    obtain ⟨bO, hbO⟩ : ∃ bO, bO = w1.heap.size := ⟨_, rfl⟩
    have hstart : CutR bO w1 ((w1.alloc (.cells #[.int .i64 k.1, .slice none 0 0] 41)).alloc (.cells #[.int .i64 k.1] 3)) k.1 (.slice none 0 0) (.slice (some ⟨bO + 1, 0, none⟩) 1 1) (cutAt g k 0).1 (cutAt g k 0).2 := by
      subst hbO
      refine ⟨(Blk.new w1 _ _ _ rfl).alloc _, World.ownsRow_nil _ _ _ _, ?_, ?_, ?_⟩
      · have h := World.ownsRow_lit (base := w1.heap.size + 1) (e := 3) (size := 1) (w1.alloc (.cells #[.int .i64 k.1, .slice none 0 0] 41)) #[.int .i64 k.1] 1 (by simp) (by decide) rfl
        simpa [cutAt, cI] using h
      · intro b hb; cases hb
      · exact ((Below.refl _ _).alloc (Nat.le_refl _) _).alloc (by simp) _
    have hbl : bO ≤ w1.heap.size := by omega
    have HST := Lib.hid hstart
    rw [← hbO] at hs0 HN ⊢
    clear hstart hbO
    go_loopw [9, 31] (fun tt ii wr => ∃ (i : Nat) (vs : Value), i ≤ k.2.length ∧ ii = .int .i64 (i : Int) ∧ CutR bO w1 wr k.1 vs tt (cutAt g k i).1 (cutAt g k i).2) (fun _ ii _ => k.2.length - (intOf ii).toNat)
    case atStart => exact ⟨0, _, Nat.zero_le _, rfl, HST.out⟩
    case round =>
      clear HST
      obtain ⟨i, vs, hi, rfl, hcr⟩ := hrel
      have HCR := Lib.hid hcr
      clear hcr
      by_cases hlt : i < k.2.length
      · obtain ⟨s, hs⟩ : ∃ s, s = k.2.getD i (0, false) := ⟨_, rfl⟩
        have hxs : k.2[i]? = some s := by rw [hs, List.getD_eq_getElem?_getD, List.getElem?_eq_getElem hlt]; rfl
        obtain ⟨n, hn⟩ : ∃ n, n = (nodesL g k).getD (i + 1) 0 := ⟨_, rfl⟩
        have hxn := getD_of (D := nodesL g k) (k := i + 1) (by rw [nodesL_len]; omega)
        rw [← hn] at hxn
        have HST := Lib.hid (show cutAt g k (i + 1) = cutStep (cutAt g k i) s n by rw [cutAt, ← hs, ← hn])
        have hcl := cutAt_len g k i
        generalize cutAt g k i = p at *
        obtain ⟨L, M⟩ := p
        obtain ⟨sid, sinv⟩ := s
        simp only at hcl HCR
        obtain ⟨b3, o3, rfl, -, hb3, hc3⟩ := HX.out i _ hxs
        have d0 := hc3 0 _ rfl
        have d1 := hc3 1 _ rfl
        simp only [Nat.add_zero] at d0
        have hbs := HCR.out.bel.size
        have d0 := (HCR.out.bel.cell (p := ⟨b3, o3 + i * 2, none⟩) (by simp only; omega)).trans (kcell HB2.out d0)
        have d1 := (HCR.out.bel.cell (p := ⟨b3, o3 + i * 2 + 1, none⟩) (by simp only; omega)).trans (kcell HB2.out d1)
        obtain ⟨b6, o6, rfl, -, hb6, d6⟩ := HN.out.intI hxn
        have D6 := Lib.hid d6
        obtain ⟨gt, ct, rfl, hgt0, hgt1, hct, hctm⟩ := own_some HCR.out.there (by omega)
        have z1 : wr.cell? ⟨bO, 1, none⟩ = some vs := HCR.out.box.cell 1
        have lb := HCR.out.box.lt
        have HCA := Lib.hid (HCR.out.alloc hbl (.cells #[.int .i64 sid, .bool sinv] 54))
        have hsA : bO + 1 ≤ (wr.alloc (.cells #[.int .i64 sid, .bool sinv] 54)).heap.size := by simp; omega
        have hii : (i : Int) < (k.2.length : Int) := by omega
        have q1 : IntKind.i64.wrap ((i : Int) + 1) = ((i + 1 : Nat) : Int) := by rw [IntWalk.i64_in _ (by omega)]; omega
        have hjj : ((i + 1 : Nat) : Int) < (k.2.length : Int) + 1 := by omega
        have hnb : ¬ b6 = bO := by omega
        have hnb2 : ¬ bO = b6 := by omega
        have hb6w : b6 < wr.heap.size := by omega
        have hb3w : b3 < wr.heap.size := by omega
        have HLE := Lib.hid hcl
        have hL60 : L.length ≤ 60 := by omega
        have hM60 : M.length ≤ 61 := by omega
        have hML1 : M.length ≤ L.length + 1 := by omega
        have hML2 : L.length + 1 ≤ M.length := by omega
        clear hxs hxn hs hn hc3 d6 hcl
        go_wp2_with (at_builtin; (refine wpList_append1 cSt elStep rfl _ _ rfl (bO + 1) _ L (sid, sinv) _ 1 (wr.heap.size + 1) (by rfl) HCA.out.steps (by rfl) (by simp) rfl rfl (cSt_one _) (by omega) (by omega) (by simp; omega) ?_); intro v4 w4 hrow4 hb4 hat4 hgr4; have hLs : (L ++ [(sid, sinv)]).length = L.length + 1 := (by simp); have hrow4b := hrow4; rw [hLs] at hrow4b; obtain ⟨gv, cv, hv4, hgv0, hgv1, hcv, hcvm⟩ := own_some hrow4b (by omega); subst hv4; clear hrow4b; obtain ⟨hbk4, hcr4⟩ := HCA.out.push hbl hrow4 hgr4 hat4; have HC4 := Lib.hid hcr4; have z1 := hbk4.cell 1; have fz1 := hbk4.frozen 1; have lz4 := hbk4.lt; have d6 := (hcr4.bel.cell (p := ⟨b6, o6 + (i + 1), none⟩) hb6).trans D6.out; have d62 : w4.cell? ⟨b6, o6 + (i + 1), none⟩ = some (.int .i64 n) := (World.cell?_setCell_other _ _ _ _ (fun e => hnb2 (congrArg Addr.block e))).symm.trans d6; clear hrow4 hb4 hat4 hgr4 hbk4 hcr4 hLs)
        generalize w4.setCell ⟨bO, 1, none⟩ (.slice (some ⟨gv, 0, none⟩) (L.length + 1) cv) = w5 at *
        have hix := Try.slices_Index_int gt 0 M.length ct M n w5 (Nat.le_refl _) (by omega) (fun j hj => by rw [Nat.zero_add]; exact (World.ownsRow.cellAt HC4.out.there j (by omega)).trans (flatI_at (getD_of hj)))
        rw [List.take_length] at hix
        have HIX := Lib.hid hix
        have z1 := HC4.out.box.cell 1
        have fz1 := HC4.out.box.frozen 1
        have lb := HC4.out.box.lt
        have hs5 := HC4.out.bel.size
        clear hix d62
        rcases idxOf_cases M n with e1 | ⟨kk, hkk, e1, -⟩
        · rw [e1] at HIX
          have HS2 := Lib.hid (HST.out.trans (cutStep_no (p := (L, M)) e1))
          clear e1
          refine HIX.out.mono ?_
          rintro e w6 ⟨rfl, hw6⟩
          rw [hw6]
          clear hw6
          go_wp2_with (at_builtin; (refine wpList_append1 cI elInt rfl _ _ rfl (bO + 1) _ M n _ 1 w5.heap.size (by rfl) HC4.out.there (by rfl) rfl rfl rfl (cI_one _) (by omega) (by omega) (by omega) ?_); intro v5 w7 hrow5 hb5 hat5 hgr5)
          go_roundw
          case rel => exact ⟨i + 1, _, by omega, by go_num, by rw [HS2.out]; exact HC4.out.seen hbl hrow5 hgr5 hat5⟩
          case measure => simp [intOf]; omega
        · rw [e1] at HIX
          have HS2 := Lib.hid (HST.out.trans (cutStep_yes (p := (L, M)) e1))
          have k1 : decide ((kk : Int) ≥ 0) = true := by simp
          have HC6 := Lib.hid (HC4.out.reslice (k := kk) (by simp) (by omega))
          have HC7 := Lib.hid (HC6.out.short (k := kk) rfl (by omega))
          have d66 : (w5.setCell ⟨bO, 1, none⟩ (.slice (some ⟨gv, 0, none⟩) kk cv)).cell? ⟨b6, o6 + (i + 1), none⟩ = some (.int .i64 n) := (World.cell?_setCell_other _ _ _ _ (fun e => hnb2 (congrArg Addr.block e))).trans d6
          have hkv : (kk : Int) ≤ (cv : Int) := by omega
          have hkt : (kk : Int) ≤ (ct : Int) := by omega
          have hmt : (M.take kk).length ≤ 61 := by rw [List.length_take]; omega
          clear e1
          refine HIX.out.mono ?_
          rintro e w6 ⟨rfl, hw6⟩
          rw [hw6]
          clear hw6
          go_wp2_with (at_builtin; (refine wpList_append1 cI elInt rfl _ _ rfl (bO + 1) _ (M.take kk) n _ 1 w5.heap.size (by rfl) HC7.out.there (by rfl) (by simp [World.setCell]) rfl rfl (cI_one _) (by omega) (by omega) (by simp [World.setCell]; omega) ?_); intro v5 w7 hrow5 hb5 hat5 hgr5)
          go_roundw
          case rel => exact ⟨i + 1, _, by omega, by go_num, by rw [HS2.out]; exact HC7.out.seen hbl hrow5 hgr5 hat5⟩
          case measure => simp [intOf]; omega
      · obtain rfl : i = k.2.length := by omega
        have hbz := (HCR.out.bel.block (w.heap.size + 1 + 1) (by omega)).trans HBZ1.out
        have hbz : Blk wr (w.heap.size + 1 + 1) 41 #[.int .i64 0, .slice none 0 0] := hbz
        have z0 : wr.cell? ⟨w.heap.size + 1 + 1, 0, none⟩ = some (.int .i64 0) := hbz.cell 0
        have z1 : wr.cell? ⟨w.heap.size + 1 + 1, 1, none⟩ = some (.slice none 0 0) := hbz.cell 1
        have fz0 := hbz.frozen 0
        have fz1 := hbz.frozen 1
        have lz2 := hbz.lt
        have b0 : wr.cell? ⟨bO, 0, none⟩ = some (.int .i64 k.1) := HCR.out.box.cell 0
        have hsh := (Own.of_row HCR.out.steps rfl rfl).shape
        obtain ⟨A8, n8, c8, rfl⟩ := hsh
        have b1 : wr.cell? ⟨bO, 1, none⟩ = some (.slice A8 n8 c8) := HCR.out.box.cell 1
        have lb := HCR.out.box.lt
        have hown := Own.of_row HCR.out.steps rfl rfl
        have hon := ((Only.refl (w.heap.size + 1 + 1) (w.heap.size + 1 + 1 + 1) wr).setCell (p := ⟨w.heap.size + 1 + 1, 0, none⟩) (.inl ⟨Nat.le_refl _, Nat.lt_succ_self _⟩) (.int .i64 k.1)).setCell (p := ⟨w.heap.size + 1 + 1, 1, none⟩) (.inl ⟨Nat.le_refl _, Nat.lt_succ_self _⟩) (.slice A8 n8 c8)
        have HOW := Lib.hid (hown.only hon (.inr (by omega)))
        have hbF := (HB2.out.trans (HCR.out.bel.mono (show w.heap.size ≤ bO by omega))).trans (hon.below (B := w.heap.size) (by omega) (by have := HCR.out.bel.size; omega))
        have HBF := Lib.hid hbF
        clear hbz hown hon hbF HX HN HBZ1
        go_wp2_with fail
        refine bodyPost_ret (v := .tuple #[.agg #[.int .i64 k.1, .slice A8 n8 c8], .bool true]) (by simp [results, Try.results16, go_sem, z0, z1]) rfl ⟨_, rfl, ?_, HBF.out⟩
        rw [HF.out]
        exact ⟨_, rfl, HOW.out.mono (by omega) (Nat.le_of_eq (by simp [World.setCell]))⟩
end Go.Proofs.Ytallglnmeeahiaa

/- The reference's walks: their nodes, and when they are walks of a graph. -/
namespace Go.Proofs.Ytallglnmeeahiaa
set_option linter.unusedVariables false
set_option linter.unusedSimpArgs false
open Go.ChangeShapes Go.WideShapes Go.ChangeAt Go.RowKit
attribute [local go_sem] ext_cell ext_frozen ext_lt ext_lt1 ext_lt2 ext_lt3 ltn2 ltn3 ltn13 lts1 lts2 lts3

theorem row_shapeS {W : World} {base k n : Nat} {e : TypeId} {v : Value} {cs : List Value} (h : W.ownsRow base e k v n cs) (hn : n ≠ 0) : ∃ g c, v = .slice (some ⟨g, 0, none⟩) n c ∧ base ≤ g ∧ g < W.heap.size ∧ n ≤ c ∧ c ≤ maxLen := by
  have hlt := h.lt
  obtain ⟨hl, hs⟩ := h
  rcases hs with ⟨_, h0⟩ | ⟨g, cap, cur, rfl, hg, hh, hnc, hcm, r⟩
  · exact absurd h0 hn
  · exact ⟨g, cap, rfl, hg, (hlt g rfl).2, hnc, hcm⟩

set_option maxRecDepth 100000 in
set_option maxHeartbeats 8000000 in
theorem specNodes (v1 v2 : Value) (g : Gr) (k : Wk) (w : World) (hv1 : GrV 0 w.heap.size w v1 g) (hv2 : WkV 0 w.heap.size w v2 k) :
    Calls Try.prog 51 #[v1, v2] w fun en w' => ∃ v, en = .returned (.tuple #[v, .bool (walkOk g k)]) ∧ Own w.heap.size w'.heap.size w' 3 cI 1 v (nodesOut g k) ∧ Below w.heap.size w w' := by
  have hv0 := hv1
  obtain ⟨vs, es, rfl, ⟨A1, c1, rfl, hl1, hm1, -⟩, hes⟩ := hv1
  obtain ⟨A2, c2, rfl, hl2, hm2, hx2⟩ := hes
  have HX2 := Lib.hid hx2
  obtain ⟨ss, rfl, ⟨A3, c3, rfl, hl3, hm3, hx3⟩⟩ := hv2
  unfold maxLen at hm1 hm2 hm3
  obtain ⟨st, steps⟩ := k
  simp only at *
  have hb0 : Below w.heap.size w ((w.alloc (.cells #[.slice A1 g.vals.length c1, .slice A2 g.edges.length c2] 38)).alloc (.cells #[.int .i64 st, .slice A3 steps.length c3] 41)) := ((Below.refl _ _).alloc (Nat.le_refl _) _).alloc (by simp) _
  have HX3 := Lib.hid hx3
  have hwo : walkOk g (st, steps) = (grOk g && wi st 0 ((g.vals.length : Int) - 1) && decide (steps.length ≤ 60) && (List.range steps.length).all (linkAt g (st, steps))) := rfl
  have HW := Lib.hid hwo
  clear hx3 hx2 hwo
  have hvg := specValidGraph _ g _ (hv0.keep hb0)
  have HV := Lib.hid hvg
  clear hvg
  go_enter Try.func51, Try.ntmps51
  go_wp2_with fail
  refine HV.out.mono ?_
  rintro e w1 ⟨rfl, hb1⟩
  have b0 := ((Blk.new w _ _ w.heap.size rfl).alloc _).keep hb1
  have b1 := (Blk.new (w.alloc _) _ _ (w.heap.size + 1) (by simp)).keep hb1
  have hb2 := below_trans hb0 hb1
  clear hb0 hb1 HV
  have x0 : w1.cell? ⟨w.heap.size, 0, none⟩ = some _ := b0.cell 0
  have x1 : w1.cell? ⟨w.heap.size, 1, none⟩ = some _ := b0.cell 1
  have y0 : w1.cell? ⟨w.heap.size + 1, 0, none⟩ = some _ := b1.cell 0
  have y1 : w1.cell? ⟨w.heap.size + 1, 1, none⟩ = some _ := b1.cell 1
  have hlt1 := b1.lt
  have HWI := Lib.hid l1In_any
  cases hg : grOk g with
  | false =>
    have hfin : walkOk g (st, steps) = false := by rw [HW.out, hg]; rfl
    have HF := Lib.hid hfin
    clear HW hfin hg
    go_wp2_with fail
    go_ret2
    exact ⟨_, by rw [HF.out]; rfl, by rw [nodesOut_no HF.out]; exact (Own.of_row (World.ownsRow_lit _ #[] 0 (Nat.le_refl _) (by decide) rfl) rfl rfl).mono hb2.size (Nat.le_refl _), hb2.alloc hb2.size _⟩
  | true =>
    have q1 : IntKind.i64.wrap ((g.vals.length : Int) - 1) = (g.vals.length : Int) - 1 := IntWalk.i64_in _ (by omega)
    cases hs : wi st 0 ((g.vals.length : Int) - 1) with
    | false =>
      have hfin : walkOk g (st, steps) = false := by rw [HW.out, hg, hs]; rfl
      have HF := Lib.hid hfin
      clear HW hfin hg
      go_wp2_with (go_at_call 43; refine (HWI.out _ _ _ _).mono ?_; rintro e w1 ⟨rfl, rfl⟩)
      go_ret2
      exact ⟨_, by rw [HF.out]; rfl, by rw [nodesOut_no HF.out]; exact (Own.of_row (World.ownsRow_lit _ #[] 0 (Nat.le_refl _) (by decide) rfl) rfl rfl).mono hb2.size (Nat.le_refl _), hb2.alloc hb2.size _⟩
    | true =>
      by_cases hlen : steps.length ≤ 60
      · have hlen' : decide ((steps.length : Int) > 60) = false := by simp; omega
        have hfin : walkOk g (st, steps) = (List.range steps.length).all (linkAt g (st, steps)) := by rw [HW.out, hg, hs]; simp [hlen]
        have HF := Lib.hid hfin
        have HG := Lib.hid hg
        clear HW hfin hg
        go_wp2_with (go_at_call 43; refine (HWI.out _ _ _ _).mono ?_; rintro e w1 ⟨rfl, rfl⟩)
        have hst0 : 0 ≤ st := by unfold wi at hs; simp at hs; omega
        have HS := Lib.hid hs
        clear hs
        go_loopw [6, 7] (fun out ii wr => ∃ i : Nat, i ≤ steps.length ∧ ii = .int .i64 i ∧ (List.range i).all (linkAt g (st, steps)) = true ∧ wr.ownsRow w1.heap.size 3 1 out ((nodesL g (st, steps)).take (i + 1)).length (((nodesL g (st, steps)).take (i + 1)).flatMap cI) ∧ (∃ x, (nodesL g (st, steps))[i]? = some x ∧ 0 ≤ x) ∧ Below w1.heap.size w1 wr) (fun _ ii _ => steps.length - (intOf ii).toNat)
        case atStart => exact ⟨0, Nat.zero_le _, rfl, rfl, World.ownsRow_lit w1 #[.int .i64 st] 1 (Nat.le_refl _) (by decide) rfl, ⟨st, rfl, hst0⟩, (Below.refl _ _).alloc (Nat.le_refl _) _⟩
        case round =>
          obtain ⟨i, hi, rfl, hal, hrow, ⟨x, hxl, hx0⟩, hbel⟩ := hrel
          have HA := Lib.hid hal
          have hbw := below_trans hb2 hbel
          have hml : ((nodesL g (st, steps)).take (i + 1)).length = i + 1 := by rw [List.length_take, nodesL_len]; simp only; omega
          clear hal
          by_cases hlt : i < steps.length
          · have hxs : steps[i]? = some steps[i] := List.getElem?_eq_getElem hlt
            generalize steps[i] = s at hxs
            obtain ⟨sid, sinv⟩ := s
            obtain ⟨b, o, rfl, -, hb, hc⟩ := HX3.out i _ hxs
            have d0 := hc 0 _ rfl
            have d1 := hc 1 _ rfl
            simp only [Nat.add_zero] at d0
            have d0 := (hbw.cell (p := ⟨_, _, none⟩) hb).trans d0
            have d1 := (hbw.cell (p := ⟨_, _, none⟩) hb).trans d1
            obtain ⟨gb, cp, hv, hg1, hg2, hnc, hcm⟩ := row_shapeS hrow (by omega)
            obtain ⟨m, hm⟩ : ∃ m, m = i + 1 := ⟨_, rfl⟩
            rw [hml, ← hm] at hv
            subst hv
            have hrm := hrow
            rw [show ((nodesL g (st, steps)).take (i + 1)).length = m by rw [hml, hm]] at hrm
            have c0 := (World.ownsRow.cellAt hrm i (by omega)).trans (by have := flat_at cI_len (xs := (nodesL g (st, steps)).take (i + 1)) (i := i) (x := x) (by rw [List.getElem?_take]; simp [hxl]) 0 _ rfl; simpa using this)
            clear hrm
            have hei := fun W (hW : Below w.heap.size w W) => specEdgeIndex _ g sid W (hv0.keep hW)
            have hlk := linkAt_eq (k := (st, steps)) hxs hxl
            have HLK := Lib.hid hlk
            have HEI := Lib.hid hei
            have HXS := Lib.hid hxs
            have HROW := Lib.hid hrow
            have hbx := fun u => below_trans hbw (ext_below wr u)
            have x0 := (hbel.cell (p := ⟨_, _, none⟩) (by simp only; omega)).trans x0
            have x1 := (hbel.cell (p := ⟨_, _, none⟩) (by simp only; omega)).trans x1
            have y0 := (hbel.cell (p := ⟨_, _, none⟩) (by simp only; omega)).trans y0
            have y1 := (hbel.cell (p := ⟨_, _, none⟩) (by simp only; omega)).trans y1
            have hs1 := hbel.size
            have q2 : IntKind.i64.wrap ((m : Int) - 1) = (i : Int) := by rw [IntWalk.i64_in _ (by omega)]; omega
            have q3 : (i : Int) < (m : Int) := by omega
            have HM := Lib.hid hm
            have hbw' : b < wr.heap.size := by omega
            have k0 : w.heap.size < wr.heap.size := by omega
            have k1 : w.heap.size + 1 < wr.heap.size := by omega
            have hspec := edgeIdx_spec g sid
            have HSPEC := Lib.hid hspec
            clear hlk hei hxs hrow hml hm hxl hc q1 hnc hcm hspec
            rcases HSPEC.out with ⟨hk, hno⟩ | ⟨ix, e, hk, hex, he, hno⟩
            · have hsn := stepEd_none hno
              have hsf : stepFrom g (sid, sinv) = -1 := by rw [stepFrom]; simp [hsn]
              rw [hk] at HEI
              have hfin : walkOk g (st, steps) = false := by rw [HF.out]; exact range_all_false hlt (by rw [HLK.out, hsf]; simp; omega)
              have HFI := Lib.hid hfin
              clear hk hno hsn hsf hfin HSPEC
              go_wp2_with fail
              refine wp_region_ext_lit (by kernel_rfl) (by kernel_rfl) ?_
              repeat (go_big_quiet_step ((go_at_call 85; exact Calls.ext_of (HEI.out _ (hbx _)))))
              refine wpQuiet_nil ?_
              intro _ hw'
              obtain ⟨u2, hw''⟩ := hw'
              subst hw''
              go_wp2_with fail
              go_ret2
              exact ⟨_, by rw [HFI.out]; rfl, by rw [nodesOut_no HFI.out]; exact (Own.of_row (World.ownsRow_lit _ #[] 0 (Nat.le_refl _) (by decide) rfl) rfl rfl).mono (hbx _).size (Nat.le_refl _), (hbx _).alloc (hbx _).size _⟩
            · have hse := stepEd_some HG.out hex he hno
              have HSE := Lib.hid hse
              rw [hk] at HEI
              obtain ⟨b9, o9, rfl, -, hb9, hc9⟩ := HX2.out ix e hex
              have e1 := hc9 1 _ rfl
              have e2 := hc9 2 _ rfl
              have e1 := (hbw.cell (p := ⟨_, _, none⟩) hb9).trans e1
              have e2 := (hbw.cell (p := ⟨_, _, none⟩) hb9).trans e2
              have hb9' : b9 < wr.heap.size := by omega
              have hixl : ix < g.edges.length := (List.getElem?_eq_some_iff.1 hex).1
              clear hk hno he hex hse hc9 HSPEC
              cases sinv with
              | true =>
                have hsf : stepFrom g (sid, true) = e.2.2.1 := by rw [stepFrom]; simp [HSE.out]
                have hsto : stepTo g (sid, true) = e.2.1 := by rw [stepTo, stepFrom]; simp [HSE.out]
                have HSF := Lib.hid hsf
                have HSTO := Lib.hid hsto
                clear hsf hsto
                by_cases hyx : e.2.2.1 = x
                · have hq : (e.2.2.1 != x) = false := by simp [hyx]
                  have hto0 : 0 ≤ stepTo g (sid, true) := by
                    have h1 := @stepFrom_neg g (sid, true)
                    have h2 := @stepFrom_neg g (sid, !true)
                    have h3 : stepTo g (sid, true) = stepFrom g (sid, !true) := rfl
                    have h4 := HSF.out
                    rw [h3]
                    by_cases h5 : 0 ≤ stepFrom g (sid, !true)
                    · exact h5
                    · have h6 := h2.1 (by omega)
                      have h7 := h1.2 h6
                      omega
                  have HYX := Lib.hid hyx
                  have HTO0 := Lib.hid hto0
                  clear hyx hto0
                  go_wp2_with fail
                  refine wp_region_ext_lit (by kernel_rfl) (by kernel_rfl) ?_
                  repeat (go_big_quiet_step ((go_at_call 85; exact Calls.ext_of (HEI.out _ (hbx _)))))
                  refine wpQuiet_nil ?_
                  intro _ hw'
                  obtain ⟨u2, hw''⟩ := hw'
                  subst hw''
                  have hw3 := ext_below wr u2
                  have hrow3 := ownsRow_below HROW.out hw3 (Nat.le_refl _)
                  have hs3 := Nat.le_trans hs1 hw3.size
                  have hbel3 := below_trans hbel hw3
                  have htl : ((nodesL g (st, steps)).take (i + 1)).length ≤ 61 := by rw [List.length_take]; omega
                  clear hw3
                  go_wp2_with (at_builtin; (refine wpList_append1 cI elInt rfl _ _ rfl w1.heap.size (.slice (some ⟨gb, 0, none⟩) m cp) ((nodesL g (st, steps)).take (i + 1)) (e.2.1) _ 1 _ (by rfl) hrow3 (by rfl) rfl rfl rfl (cI_one _) (by omega) (by omega) hs3 ?_); rw [← HSTO.out, ← nodesL_succ HXS.out]; intro v' w4 hrow' hb4 _ _)
                  go_roundw
                  case rel => exact ⟨i + 1, by omega, by go_num, range_all_succ HA.out (by rw [HLK.out, HSF.out, HYX.out]; simp), hrow', ⟨_, nodesL_next HXS.out, HTO0.out⟩, hbel3.trans hb4⟩
                  case measure => simp [intOf]; omega
                · have hq : (e.2.2.1 != x) = true := by simp [hyx]
                  have hfin : walkOk g (st, steps) = false := by rw [HF.out]; exact range_all_false hlt (by rw [HLK.out, HSF.out]; simpa using hyx)
                  have HFI := Lib.hid hfin
                  clear hyx hfin
                  go_wp2_with fail
                  refine wp_region_ext_lit (by kernel_rfl) (by kernel_rfl) ?_
                  repeat (go_big_quiet_step ((go_at_call 85; exact Calls.ext_of (HEI.out _ (hbx _)))))
                  refine wpQuiet_nil ?_
                  intro _ hw'
                  obtain ⟨u2, hw''⟩ := hw'
                  subst hw''
                  go_wp2_with fail
                  go_ret2
                  exact ⟨_, by rw [HFI.out]; rfl, by rw [nodesOut_no HFI.out]; exact (Own.of_row (World.ownsRow_lit _ #[] 0 (Nat.le_refl _) (by decide) rfl) rfl rfl).mono (hbx _).size (Nat.le_refl _), (hbx _).alloc (hbx _).size _⟩
              | false =>
                have hsf : stepFrom g (sid, false) = e.2.1 := by rw [stepFrom]; simp [HSE.out]
                have hsto : stepTo g (sid, false) = e.2.2.1 := by rw [stepTo, stepFrom]; simp [HSE.out]
                have HSF := Lib.hid hsf
                have HSTO := Lib.hid hsto
                clear hsf hsto
                by_cases hyx : e.2.1 = x
                · have hq : (e.2.1 != x) = false := by simp [hyx]
                  have hto0 : 0 ≤ stepTo g (sid, false) := by
                    have h1 := @stepFrom_neg g (sid, false)
                    have h2 := @stepFrom_neg g (sid, !false)
                    have h3 : stepTo g (sid, false) = stepFrom g (sid, !false) := rfl
                    have h4 := HSF.out
                    rw [h3]
                    by_cases h5 : 0 ≤ stepFrom g (sid, !false)
                    · exact h5
                    · have h6 := h2.1 (by omega)
                      have h7 := h1.2 h6
                      omega
                  have HYX := Lib.hid hyx
                  have HTO0 := Lib.hid hto0
                  clear hyx hto0
                  go_wp2_with fail
                  refine wp_region_ext_lit (by kernel_rfl) (by kernel_rfl) ?_
                  repeat (go_big_quiet_step ((go_at_call 85; exact Calls.ext_of (HEI.out _ (hbx _)))))
                  refine wpQuiet_nil ?_
                  intro _ hw'
                  obtain ⟨u2, hw''⟩ := hw'
                  subst hw''
                  have hw3 := ext_below wr u2
                  have hrow3 := ownsRow_below HROW.out hw3 (Nat.le_refl _)
                  have hs3 := Nat.le_trans hs1 hw3.size
                  have hbel3 := below_trans hbel hw3
                  have htl : ((nodesL g (st, steps)).take (i + 1)).length ≤ 61 := by rw [List.length_take]; omega
                  clear hw3
                  go_wp2_with (at_builtin; (refine wpList_append1 cI elInt rfl _ _ rfl w1.heap.size (.slice (some ⟨gb, 0, none⟩) m cp) ((nodesL g (st, steps)).take (i + 1)) (e.2.2.1) _ 1 _ (by rfl) hrow3 (by rfl) rfl rfl rfl (cI_one _) (by omega) (by omega) hs3 ?_); rw [← HSTO.out, ← nodesL_succ HXS.out]; intro v' w4 hrow' hb4 _ _)
                  go_roundw
                  case rel => exact ⟨i + 1, by omega, by go_num, range_all_succ HA.out (by rw [HLK.out, HSF.out, HYX.out]; simp), hrow', ⟨_, nodesL_next HXS.out, HTO0.out⟩, hbel3.trans hb4⟩
                  case measure => simp [intOf]; omega
                · have hq : (e.2.1 != x) = true := by simp [hyx]
                  have hfin : walkOk g (st, steps) = false := by rw [HF.out]; exact range_all_false hlt (by rw [HLK.out, HSF.out]; simpa using hyx)
                  have HFI := Lib.hid hfin
                  clear hyx hfin
                  go_wp2_with fail
                  refine wp_region_ext_lit (by kernel_rfl) (by kernel_rfl) ?_
                  repeat (go_big_quiet_step ((go_at_call 85; exact Calls.ext_of (HEI.out _ (hbx _)))))
                  refine wpQuiet_nil ?_
                  intro _ hw'
                  obtain ⟨u2, hw''⟩ := hw'
                  subst hw''
                  go_wp2_with fail
                  go_ret2
                  exact ⟨_, by rw [HFI.out]; rfl, by rw [nodesOut_no HFI.out]; exact (Own.of_row (World.ownsRow_lit _ #[] 0 (Nat.le_refl _) (by decide) rfl) rfl rfl).mono (hbx _).size (Nat.le_refl _), (hbx _).alloc (hbx _).size _⟩
          · obtain rfl : i = steps.length := by omega
            have y1 := (hbel.cell (p := ⟨_, _, none⟩) (by simp only; omega)).trans y1
            have hlw := hbel.size
            have k1 : w.heap.size + 1 < wr.heap.size := by omega
            have hfin : walkOk g (st, steps) = true := by rw [HF.out, HA.out]
            have HFF := Lib.hid hfin
            have htk : (nodesL g (st, steps)).take (steps.length + 1) = nodesL g (st, steps) := List.take_of_length_le (by rw [nodesL_len]; simp)
            rw [htk] at hrow
            have HROW := Lib.hid hrow
            clear hfin HF HA htk hml hrow
            go_wp2_with fail
            go_ret2
            exact ⟨_, by rw [HFF.out]; rfl, by rw [nodesOut_yes HFF.out]; exact (Own.of_row HROW.out rfl rfl).mono hb2.size (Nat.le_refl _), hbw⟩
      · have hlen' : decide ((steps.length : Int) > 60) = true := by simp; omega
        have hfin : walkOk g (st, steps) = false := by rw [HW.out]; simp [hlen]
        have HF := Lib.hid hfin
        clear HW hfin hg
        go_wp2_with (go_at_call 43; refine (HWI.out _ _ _ _).mono ?_; rintro e w1 ⟨rfl, rfl⟩)
        go_ret2
        exact ⟨_, by rw [HF.out]; rfl, by rw [nodesOut_no HF.out]; exact (Own.of_row (World.ownsRow_lit _ #[] 0 (Nat.le_refl _) (by decide) rfl) rfl rfl).mono hb2.size (Nat.le_refl _), hb2.alloc hb2.size _⟩
end Go.Proofs.Ytallglnmeeahiaa

/- The reference's l4Set, l15From, AnswersFrom, l11Find, HasAnswer. -/
namespace Go.Proofs.Ytallglnmeeahiaa
set_option linter.unusedVariables false
set_option linter.unusedSimpArgs false
open Go.ChangeShapes Go.WideShapes Go.ChangeAt Go.RowKit
attribute [local go_sem] ext_cell ext_frozen ext_lt ext_lt1 ext_lt2 ext_lt3 ltn2 ltn3 ltn13 lts1 lts2 lts3

set_option maxHeartbeats 2000000 in
theorem l4Set_any (m : Nat) (w : World) (hm : m < 2 ^ 60) :
    Calls Try.prog 77 #[.int .i64 (m : Int)] w fun e w' => ∃ v', e = .returned v' ∧ Own w.heap.size w'.heap.size w' 3 cI 1 v' (memI 30 m) ∧ Below w.heap.size w w' := by
  obtain ⟨R, hR⟩ : ∃ R, R = memI 30 m := ⟨_, rfl⟩
  rw [← hR]
  have HR := Lib.hid hR
  clear hR
  go_enter Try.func77, Try.ntmps77
  go_wp2_with fail
  go_loopw [3, 4] (fun oo ii wr => ∃ i : Nat, i ≤ 30 ∧ ii = .int .i64 (i : Int) ∧ wr.ownsRow w.heap.size 3 1 oo (memI i m).length ((memI i m).flatMap cI) ∧ Below w.heap.size w wr) (fun _ ii _ => 30 - (intOf ii).toNat)
  case atStart => exact ⟨0, Nat.zero_le _, rfl, World.ownsRow_lit w #[] 0 (Nat.le_refl _) (by decide) rfl, (Below.refl _ _).alloc (Nat.le_refl _) _⟩
  case round =>
    obtain ⟨i, hi, rfl, hrow, hbel⟩ := hrel
    have HROW := Lib.hid hrow
    have hml : (memI i m).length ≤ 30 := by unfold memI; rw [List.length_map]; have := mem_len i m; omega
    have hsz := hbel.size
    clear hrow
    by_cases hlt : i < 30
    · have hii : (i : Int) < 30 := by omega
      cases hb : m.testBit i with
      | false =>
        have b1f := bit_off (by omega) (by omega) hb
        have HM := Lib.hid (show memI (i + 1) m = memI i m by unfold memI; rw [mem_no hb])
        clear hb
        go_wp2_with fail
        go_roundw
        case rel => exact ⟨i + 1, by omega, by go_num, by rw [HM.out]; exact HROW.out, hbel⟩
        case measure => simp [intOf]; omega
      | true =>
        have b1t := bit_on (by omega) (by omega) hb
        have HM := Lib.hid (show memI (i + 1) m = memI i m ++ [(i : Int)] by unfold memI; rw [mem_yes hb, List.map_append]; rfl)
        clear hb
        generalize memI i m = L at *
        go_wp2_with (at_builtin; (refine wpList_append1 cI elInt rfl _ _ rfl w.heap.size _ (L) ((i : Int)) _ 1 _ (by rfl) (HROW.out) (by rfl) rfl rfl rfl (cI_one _) (by omega) (by omega) (by omega) ?_); intro v' w4 hrow' hb4 _ _)
        go_roundw
        case rel => exact ⟨i + 1, by omega, by go_num, by rw [HM.out]; exact hrow', hbel.trans hb4⟩
        case measure => simp [intOf]; omega
    · obtain rfl : i = 30 := by omega
      have hown := Own.of_row (xs := memI 30 m) HROW.out rfl rfl
      rw [← HR.out] at hown
      have HO := Lib.hid hown
      obtain ⟨A6, c6, rfl, -, -, -⟩ := (Own.of_row (xs := memI 30 m) HROW.out rfl rfl).form cI_len
      clear hown
      go_wp2_with fail
      go_ret
      exact ⟨_, rfl, HO.out, hbel⟩



set_option maxHeartbeats 1000000 in
theorem l11Find_any (v : Value) (xs : List Int) (y : Int) (w : World) (hv : SlE w cI 1 v xs) :
    Calls Try.prog 52 #[v, .int .i64 y] w fun e w' => e = .returned (.int .i64 (Lib.idxOf xs y)) ∧ w' = w := by
  obtain ⟨A, c, rfl, hl, hm, hC⟩ := SlE.form hv
  have HC := Lib.hid hC
  obtain ⟨R, hR⟩ : ∃ R, R = Lib.idxOf xs y := ⟨_, rfl⟩
  rw [← hR]
  have HR := Lib.hid hR
  clear hv hC hR
  go_enter Try.func52, Try.ntmps52
  go_wp2_with fail
  go_loop [5] (fun ii => ∃ i : Nat, i ≤ xs.length ∧ ii = .int .i64 (i : Int) ∧ ∀ j, j < i → xs.getD j 0 ≠ y) (fun ii => xs.length - (intOf ii).toNat)
  case atStart => exact ⟨0, Nat.zero_le _, rfl, by intro j hj; omega⟩
  case round =>
    obtain ⟨i, hi, rfl, hno⟩ := hrel
    have HNO := Lib.hid hno
    clear hno
    by_cases hlt : i < xs.length
    · have hxi := getD_of (D := xs) hlt
      obtain ⟨b, o, rfl, hb, d⟩ := HC.out.int hxi
      have hii : (i : Int) < (xs.length : Int) := by omega
      obtain ⟨x, hx⟩ : ∃ x, x = xs.getD i 0 := ⟨_, rfl⟩
      rw [← hx] at d
      have HX := Lib.hid hx
      clear hxi hx
      by_cases hxy : x = y
      · have hfin : R = (i : Int) := by
          have h := Lib.idxOf_hit xs xs.length i y hlt (Nat.le_refl _) (by rw [← HX.out]; exact hxy) HNO.out
          rw [List.take_length] at h
          rw [HR.out, h]
        have HF := Lib.hid hfin
        have k1 : (x == y) = true := by simpa using hxy
        clear hfin hxy
        go_wp2_with fail
        go_ret
        exact ⟨by rw [HF.out]; rfl, rfl⟩
      · have k1 : (x == y) = false := by simpa using hxy
        have HXY := Lib.hid hxy
        clear hxy
        go_wp2_with fail
        go_round
        case rel => exact ⟨i + 1, by omega, by go_num, fun j hj => by rcases Nat.lt_or_ge j i with h | h; (exact HNO.out j h); (obtain rfl : j = i := (by omega); rw [← HX.out]; exact HXY.out)⟩
        case measure => simp [intOf]; omega
    · obtain rfl : i = xs.length := by omega
      have hfin : R = -1 := by
        have h := Lib.idxOf_miss xs xs.length y HNO.out
        rw [List.take_length] at h
        rw [HR.out, h]
      have HF := Lib.hid hfin
      clear hfin
      go_wp2_with fail
      go_ret
      exact ⟨by rw [HF.out]; rfl, rfl⟩

end Go.Proofs.Ytallglnmeeahiaa

/- Plain: the sets of states along a walk, and whether a walk matches. -/
namespace Go.Proofs.Ytallglnmeeahiaa
set_option linter.unusedVariables false
set_option linter.unusedSimpArgs false
/-- node i of a walk -/
def nodeAt (g : Gr) (k : Wk) (i : Nat) : Nat := ((nodesL g k).getD i 0).toNat
def letAt (g : Gr) (k : Wk) (i : Nat) : Nat := (stepLetter g (k.2.getD i (0, false))).toNat
/-- the states behind i steps -/
def setAt (g : Gr) (a : Au) (k : Wk) : Nat → Nat
  | 0 => bit a.start.toNat
  | i + 1 => aft a (setAt g a k i) (valAt g (nodeAt g k i)) (letAt g k i)
def setsL (g : Gr) (a : Au) (k : Wk) (n : Nat) : List Nat := (List.range n).map (setAt g a k)
theorem setsL_len (g : Gr) (a : Au) (k : Wk) (n : Nat) : (setsL g a k n).length = n := by simp [setsL]
theorem setsL_snoc (g : Gr) (a : Au) (k : Wk) (n : Nat) : setsL g a k (n + 1) = setsL g a k n ++ [setAt g a k n] := by simp [setsL, List.range_succ]
theorem setsL_at {g : Gr} {a : Au} {k : Wk} {n i : Nat} (h : i < n) : (setsL g a k n)[i]? = some (setAt g a k i) := by simp [setsL, h]
theorem setAt_lt {g : Gr} {a : Au} (ha : auOk a = true) (k : Wk) (i : Nat) : setAt g a k i < 2 ^ a.accept.length := by
  cases i with
  | zero => exact bit_lt (by have := (auOk_iff.1 ha).2.1; omega)
  | succ i => exact aft_lt ha _ _ _
theorem walkOk_parts {g : Gr} {k : Wk} (h : walkOk g k = true) : GrOk g ∧ (0 ≤ k.1 ∧ k.1 ≤ (g.vals.length : Int) - 1) ∧ k.2.length ≤ 60 ∧ ∀ i, i < k.2.length → linkAt g k i = true := by
  simp only [walkOk, Bool.and_eq_true, wi_iff, decide_eq_true_eq, List.all_eq_true, List.mem_range] at h
  exact ⟨grOk_iff.1 h.1.1.1, h.1.1.2, h.1.2, h.2⟩
theorem stepTo_of {g : Gr} {s : St} {e : Ed} (h : stepEd g s.1 = some e) : stepTo g s = arcTo s.2 e := by
  unfold stepTo stepFrom arcTo
  simp only [h]
  cases s.2 <;> rfl
theorem stepFrom_of {g : Gr} {s : St} {e : Ed} (h : stepEd g s.1 = some e) : stepFrom g s = arcTo (!s.2) e := by
  unfold stepFrom arcTo
  simp only [h]
  cases s.2 <;> rfl
theorem stepLetter_of {g : Gr} {s : St} {e : Ed} (h : stepEd g s.1 = some e) : stepLetter g s = arcLetter s.2 e := by
  unfold stepLetter arcLetter
  simp only [h]
theorem nodeAt_at {g : Gr} {k : Wk} {i : Nat} (h : i ≤ k.2.length) : (nodesL g k)[i]? = some ((nodesL g k).getD i 0) := by
  rw [List.getD_eq_getElem?_getD, List.getElem?_eq_getElem (by rw [nodesL_len]; omega)]; rfl
/-- the nodes of a walk of the graph are nodes of the graph, and its steps are edges of it -/
theorem walk_parts {g : Gr} {k : Wk} (h : walkOk g k = true) : ∀ {i : Nat}, i ≤ k.2.length → (0 ≤ (nodesL g k).getD i 0 ∧ (nodesL g k).getD i 0 ≤ (g.vals.length : Int) - 1) ∧
    (i < k.2.length → ∃ s e, k.2[i]? = some s ∧ stepEd g s.1 = some e ∧ stepFrom g s = (nodesL g k).getD i 0 ∧ stepTo g s = (nodesL g k).getD (i + 1) 0) := by
  obtain ⟨hg, hk, -, hl⟩ := walkOk_parts h
  have step : ∀ i, i < k.2.length → 0 ≤ (nodesL g k).getD i 0 → ∃ s e, k.2[i]? = some s ∧ stepEd g s.1 = some e ∧ stepFrom g s = (nodesL g k).getD i 0 ∧ stepTo g s = (nodesL g k).getD (i + 1) 0 := by
    intro i hi h0
    have hs : k.2[i]? = some k.2[i] := List.getElem?_eq_getElem hi
    generalize k.2[i] = s at hs
    have hlk := hl i hi
    rw [linkAt_eq hs (nodeAt_at (by omega)), beq_iff_eq] at hlk
    have hnx := nodesL_next (g := g) hs
    have hnx2 := nodeAt_at (g := g) (k := k) (i := i + 1) (by omega)
    rw [hnx] at hnx2
    cases he : stepEd g s.1 with
    | none =>
      have := stepFrom_neg.2 he
      omega
    | some e => exact ⟨s, e, hs, he, hlk, by injection hnx2⟩
  intro i
  induction i with
  | zero => exact fun _ => ⟨hk, fun hi => step 0 hi hk.1⟩
  | succ i ih =>
    intro hi
    obtain ⟨hr, hst⟩ := ih (by omega)
    obtain ⟨s, e, hs, he, hf, ht⟩ := hst (by omega)
    have hrange : 0 ≤ stepTo g s ∧ stepTo g s ≤ (g.vals.length : Int) - 1 := by
      rw [stepTo_of he]
      obtain ⟨_, hm, _⟩ := stepEd_ok he
      have := hg.edges e hm
      unfold arcTo
      split <;> omega
    rw [ht] at hrange
    exact ⟨hrange, fun hi2 => step (i + 1) hi2 hrange.1⟩
theorem nodeAt_lt {g : Gr} {k : Wk} (h : walkOk g k = true) {i : Nat} (hi : i ≤ k.2.length) : (nodesL g k)[i]? = some (nodeAt g k i : Int) ∧ nodeAt g k i < g.vals.length := by
  have h1 := (walk_parts h hi).1
  refine ⟨?_, ?_⟩
  · rw [nodeAt_at hi, nodeAt, Int.toNat_of_nonneg h1.1]
  · unfold nodeAt; omega
/-- step i: its edge, its letter, the node behind it -/
theorem walk_step {g : Gr} {k : Wk} (h : walkOk g k = true) {i : Nat} (hi : i < k.2.length) : ∃ s e, k.2[i]? = some s ∧ stepEd g s.1 = some e ∧ arcTo s.2 e = (nodeAt g k (i + 1) : Int) ∧ arcLetter s.2 e = (letAt g k i : Int) ∧ stepLetter g s = (letAt g k i : Int) ∧ letAt g k i < 6 := by
  obtain ⟨s, e, hs, he, -, ht⟩ := (walk_parts h (Nat.le_of_lt hi)).2 hi
  obtain ⟨hg, hm, _⟩ := stepEd_ok he
  have hl := hg.edges e hm
  have h1 := (walk_parts h (show i + 1 ≤ k.2.length from hi)).1
  have hsd : k.2.getD i (0, false) = s := by rw [List.getD_eq_getElem?_getD, hs]; rfl
  have hr : 0 ≤ arcLetter s.2 e ∧ arcLetter s.2 e ≤ 5 := by
    unfold arcLetter
    split <;> omega
  have hla : (letAt g k i : Int) = arcLetter s.2 e := by rw [letAt, hsd, stepLetter_of he, Int.toNat_of_nonneg hr.1]
  refine ⟨s, e, hs, he, ?_, hla.symm, by rw [stepLetter_of he, hla], by omega⟩
  rw [← stepTo_of he, ht, nodeAt, Int.toNat_of_nonneg h1.1]
/-! ### Whether a walk matches -/
def walkEnd (g : Gr) (k : Wk) : Int := if walkOk g k = true then (nodeAt g k k.2.length : Int) else -1
def matchB (g : Gr) (a : Au) (k : Wk) : Bool := (walkOk g k && auOk a) && acc a (setAt g a k k.2.length) (valAt g (nodeAt g k k.2.length))
def isWit (g : Gr) (a : Au) (x y : Int) (k : Wk) : Bool := (k.1 == x && walkEnd g k == y) && matchB g a k
def alongS (g : Gr) (a : Au) (k : Wk) : List Nat := if (walkOk g k && auOk a) = true then setsL g a k (k.2.length + 1) else []
def alongN (g : Gr) (a : Au) (k : Wk) : List Int := if (walkOk g k && auOk a) = true then nodesL g k else []
end Go.Proofs.Ytallglnmeeahiaa

/- Where a walk ends: WalkEnd, the program's and the reference's. -/
namespace Go.Proofs.Ytallglnmeeahiaa
set_option linter.unusedVariables false
set_option linter.unusedSimpArgs false
open Go.ChangeShapes Go.WideShapes Go.ChangeAt Go.RowKit
attribute [local go_sem] ext_cell ext_frozen ext_lt ext_lt1 ext_lt2 ext_lt3 ltn2 ltn3 ltn13 lts1 lts2 lts3

set_option maxHeartbeats 2000000 in
theorem implWalkEnd (v1 v2 : Value) (g : Gr) (k : Wk) (w : World) (hv1 : GrV 0 w.heap.size w v1 g) (hv2 : WkV 0 w.heap.size w v2 k) :
    Calls Try.prog 20 #[v1, v2] w fun en w' => en = .returned (.int .i64 (walkEnd g k)) ∧ Below w.heap.size w w' := by
  have hv0 := hv1
  have hv3 := hv2
  obtain ⟨A1, n1, c1, A2, n2, c2, rfl⟩ := hv1.shape
  obtain ⟨A3, n3, c3, rfl⟩ := hv2.shape
  clear hv1 hv2
  have hb0 : Below w.heap.size w ((w.alloc (.cells #[.slice A1 n1 c1, .slice A2 n2 c2] 38)).alloc (.cells #[.int .i64 k.1, .slice A3 n3 c3] 41)) := ((Below.refl _ _).alloc (Nat.le_refl _) _).alloc (by simp) _
  have hc := implNodes _ _ g k _ (hv0.keep hb0) (hv3.keep hb0)
  have HC := Lib.hid hc
  clear hc
  obtain ⟨R, hR⟩ : ∃ R, R = walkEnd g k := ⟨_, rfl⟩
  rw [← hR]
  cases hw : walkOk g k with
  | false =>
    rw [hw] at HC
    have hfin : R = -1 := by rw [hR, walkEnd, hw]; rfl
    subst hfin
    clear hR hw
    go_enter Try.func20, Try.ntmps20
    go_wp2_with fail
    refine HC.out.mono ?_
    rintro e w1 ⟨v, rfl, ho, hb1⟩
    obtain ⟨A6, c6, rfl, -, -, -⟩ := ho.form cI_len
    go_wp2_with fail
    go_ret
    exact ⟨rfl, below_trans hb0 hb1⟩
  | true =>
    rw [hw] at HC
    have hfin : R = (nodeAt g k k.2.length : Int) := by rw [hR, walkEnd, hw]; rfl
    have HF := Lib.hid hfin
    have HW := Lib.hid hw
    have hl60 := (walkOk_parts hw).2.2.1
    clear hR hw hfin
    go_enter Try.func20, Try.ntmps20
    go_wp2_with fail
    refine HC.out.mono ?_
    rintro e w1 ⟨v, rfl, ho, hb1⟩
    rw [nodesOut_yes HW.out] at ho
    have hr := ho.1
    rw [nodesL_len] at hr
    obtain ⟨gN, cN, rfl, -, hgN, -, -⟩ := own_some hr (by omega)
    have q0 := (World.ownsRow.cellAt hr k.2.length (by omega)).trans (flatI_at (nodeAt_lt HW.out (Nat.le_refl _)).1)
    have m1 : ((k.2.length : Int) + 1) - 1 = (k.2.length : Int) := by omega
    clear hr ho
    go_wp2_with fail
    go_ret
    exact ⟨by rw [HF.out]; rfl, below_trans hb0 hb1⟩

set_option maxHeartbeats 2000000 in
theorem specWalkEnd (v1 v2 : Value) (g : Gr) (k : Wk) (w : World) (hv1 : GrV 0 w.heap.size w v1 g) (hv2 : WkV 0 w.heap.size w v2 k) :
    Calls Try.prog 21 #[v1, v2] w fun en w' => en = .returned (.int .i64 (walkEnd g k)) ∧ Below w.heap.size w w' := by
  have hv0 := hv1
  have hv3 := hv2
  obtain ⟨A1, n1, c1, A2, n2, c2, rfl⟩ := hv1.shape
  obtain ⟨A3, n3, c3, rfl⟩ := hv2.shape
  clear hv1 hv2
  have hb0 : Below w.heap.size w ((w.alloc (.cells #[.slice A1 n1 c1, .slice A2 n2 c2] 38)).alloc (.cells #[.int .i64 k.1, .slice A3 n3 c3] 41)) := ((Below.refl _ _).alloc (Nat.le_refl _) _).alloc (by simp) _
  have hc := specNodes _ _ g k _ (hv0.keep hb0) (hv3.keep hb0)
  have HC := Lib.hid hc
  clear hc
  obtain ⟨R, hR⟩ : ∃ R, R = walkEnd g k := ⟨_, rfl⟩
  rw [← hR]
  cases hw : walkOk g k with
  | false =>
    rw [hw] at HC
    have hfin : R = -1 := by rw [hR, walkEnd, hw]; rfl
    subst hfin
    clear hR hw
    go_enter Try.func21, Try.ntmps21
    go_wp2_with fail
    refine HC.out.mono ?_
    rintro e w1 ⟨v, rfl, ho, hb1⟩
    obtain ⟨A6, c6, rfl, -, -, -⟩ := ho.form cI_len
    go_wp2_with fail
    go_ret
    exact ⟨rfl, below_trans hb0 hb1⟩
  | true =>
    rw [hw] at HC
    have hfin : R = (nodeAt g k k.2.length : Int) := by rw [hR, walkEnd, hw]; rfl
    have HF := Lib.hid hfin
    have HW := Lib.hid hw
    have hl60 := (walkOk_parts hw).2.2.1
    clear hR hw hfin
    go_enter Try.func21, Try.ntmps21
    go_wp2_with fail
    refine HC.out.mono ?_
    rintro e w1 ⟨v, rfl, ho, hb1⟩
    rw [nodesOut_yes HW.out] at ho
    have hr := ho.1
    rw [nodesL_len] at hr
    obtain ⟨gN, cN, rfl, -, hgN, -, -⟩ := own_some hr (by omega)
    have q0 := (World.ownsRow.cellAt hr k.2.length (by omega)).trans (flatI_at (nodeAt_lt HW.out (Nat.le_refl _)).1)
    have m1 : ((k.2.length : Int) + 1) - 1 = (k.2.length : Int) := by omega
    clear hr ho
    go_wp2_with fail
    go_ret
    exact ⟨by rw [HF.out]; rfl, below_trans hb0 hb1⟩
end Go.Proofs.Ytallglnmeeahiaa

/- The reference's walks: when one is a walk of a graph, and when it is allowed. -/
namespace Go.Proofs.Ytallglnmeeahiaa
set_option linter.unusedVariables false
set_option linter.unusedSimpArgs false
open Go.ChangeShapes Go.WideShapes Go.ChangeAt Go.RowKit
attribute [local go_sem] ext_cell ext_frozen ext_lt ext_lt1 ext_lt2 ext_lt3 ltn2 ltn3 ltn13 lts1 lts2 lts3


end Go.Proofs.Ytallglnmeeahiaa

/- The reference's walks in the product: l18Next, l18Ends, l18Along, WalkEnd, MatchesWalk, IsWitness. -/
namespace Go.Proofs.Ytallglnmeeahiaa
set_option linter.unusedVariables false
set_option linter.unusedSimpArgs false
open Go.ChangeShapes Go.WideShapes Go.ChangeAt Go.RowKit
attribute [local go_sem] ext_cell ext_frozen ext_lt ext_lt1 ext_lt2 ext_lt3 ltn2 ltn3 ltn13 lts1 lts2 lts3

def foldFr (a : Au) (l set m0 q : Nat) : Nat := (mem q set).foldl (aft1 a l) m0
theorem foldFr_no {a : Au} {l set m0 q : Nat} (h : set.testBit q = false) : foldFr a l set m0 (q + 1) = foldFr a l set m0 q := by rw [foldFr, mem_no h]; rfl
theorem foldFr_yes {a : Au} {l set m0 q : Nat} (h : set.testBit q = true) : foldFr a l set m0 (q + 1) = aft1 a l (foldFr a l set m0 q) q := by rw [foldFr, mem_yes h, List.foldl_append]; rfl
theorem foldFr_lt {a : Au} (h : auOk a = true) (l set m0 q : Nat) (hm : m0 < 2 ^ a.accept.length) : foldFr a l set m0 q < 2 ^ a.accept.length := foldl_inv (P := fun m => m < 2 ^ a.accept.length) (fun m x hm => aft1_lt h l m x hm) _ _ hm
def foldS (a : Au) (v l set q : Nat) : Nat := (mem q set).foldl (aftS a v l) 0
theorem foldS_no {a : Au} {v l set q : Nat} (h : set.testBit q = false) : foldS a v l set (q + 1) = foldS a v l set q := by rw [foldS, mem_no h]; rfl
theorem foldS_yes {a : Au} {v l set q : Nat} (ha : auOk a = true) (hq : q < a.accept.length) (h : set.testBit q = true) : foldS a v l set (q + 1) = foldFr a l (cls a v q) (foldS a v l set q) a.accept.length := by
  rw [foldS, mem_yes h, List.foldl_append]
  show aftS a v l _ q = _
  rw [aftS, mem12 ha (cls_lt ha v q hq)]; rfl
theorem foldS_lt {a : Au} (h : auOk a = true) (v l set q : Nat) : foldS a v l set q < 2 ^ a.accept.length := foldl_inv (P := fun m => m < 2 ^ a.accept.length) (fun m x hm => aftS_lt h v l m x hm) _ _ (Nat.two_pow_pos _)
theorem foldS_all {a : Au} (h : auOk a = true) {v l set : Nat} (hs : set < 2 ^ a.accept.length) : foldS a v l set a.accept.length = aft a set v l := by rw [foldS, aft, mem12 h hs]
theorem stepEd_idx {g : Gr} {id : Int} {e : Ed} (h : stepEd g id = some e) : ∃ ix : Nat, edgeIdx g id = ix ∧ g.edges[ix]? = some e := by
  obtain ⟨hg, hm, he⟩ := stepEd_ok h
  obtain ⟨ix, hix⟩ := List.getElem?_of_mem hm
  refine ⟨ix, ?_, hix⟩
  rw [← he]
  exact edgeIdx_at hg hix





end Go.Proofs.Ytallglnmeeahiaa

/- Counting simple paths, plainly: both sides walk the same arcs in the same order. -/
namespace Go.Proofs.Ytallglnmeeahiaa
set_option linter.unusedVariables false
set_option linter.unusedSimpArgs false
open Go.ChangeShapes Go.WideShapes Go.ChangeAt Go.RowKit

def cntC (g : Gr) (a : Au) (rec : Nat → Nat → Nat → Int) (x s used : Nat) (n : Int) (p : Arc) : Int :=
  if aft a s (valAt g x) p.2.1.toNat = 0 ∨ used.testBit p.2.2.toNat = true then n
  else wrap64 (n + rec p.2.2.toNat (aft a s (valAt g x) p.2.1.toNat) (ins used p.2.2.toNat))
def cnt0 (g : Gr) (a : Au) (y : Int) (x s : Nat) : Int := if decide ((x : Int) = y) && acc a s (valAt g x) then 1 else 0
def cnt (g : Gr) (a : Au) (y : Int) : Nat → Nat → Nat → Nat → Int
  | 0, _, _, _ => 0
  | f + 1, x, s, used => (arcsOf g (x : Int)).foldl (cntC g a (cnt g a y f) x s used) (cnt0 g a y x s)
def cntTo (g : Gr) (a : Au) (y : Int) (f x s used i : Nat) : Int := ((arcsOf g (x : Int)).take i).foldl (cntC g a (cnt g a y f) x s used) (cnt0 g a y x s)
theorem cntTo_all (g : Gr) (a : Au) (y : Int) (f x s used : Nat) : cntTo g a y f x s used (arcsOf g (x : Int)).length = cnt g a y (f + 1) x s used := by rw [cntTo, List.take_length]; rfl
theorem cntTo_succ {g : Gr} {a : Au} {y : Int} {f x s used i : Nat} {p : Arc} (h : (arcsOf g (x : Int))[i]? = some p) : cntTo g a y f x s used (i + 1) = cntC g a (cnt g a y f) x s used (cntTo g a y f x s used i) p := foldl_take h _
theorem arc_stepEd {g : Gr} (hgo : grOk g = true) {x : Int} {p : Arc} (hp : p ∈ arcsOf g x) : ∃ e : Ed, stepEd g p.1.1 = some e ∧ arcLetter p.1.2 e = p.2.1 ∧ arcTo p.1.2 e = p.2.2 := by
  have hg := grOk_iff.1 hgo
  obtain ⟨i, e, hi, hie, hl, ht, hid, hm⟩ := arc_edge hg hp
  cases hs : stepEd g p.1.1 with
  | none =>
    rw [stepEd, if_pos hgo, List.find?_eq_none] at hs
    exact absurd (hs e hm) (by simp [hid])
  | some e2 =>
    obtain ⟨ix, h1, h2⟩ := stepEd_idx hs
    have : ix = i := by omega
    subst this
    rw [hie] at h2
    injection h2 with h2
    subst h2
    exact ⟨e, rfl, hl.symm, ht.symm⟩
theorem ins_gt {m t : Nat} (h : m.testBit t = false) : m < ins m t := by
  have h1 : m ≤ ins m t := Nat.left_le_or
  have h2 : m ≠ ins m t := fun e => by
    have h3 := ins_test m t t
    rw [← e, h] at h3
    simp at h3
  omega
theorem cntC_no {g : Gr} {a : Au} {rec : Nat → Nat → Nat → Int} {x s used t m : Nat} {n : Int} {p : Arc} (ht : p.2.2 = (t : Int)) (hm : aft a s (valAt g x) p.2.1.toNat = m) (h : m = 0 ∨ used.testBit t = true) : cntC g a rec x s used n p = n := by
  rw [cntC, hm, ht, Int.toNat_natCast, if_pos h]
theorem cntC_yes {g : Gr} {a : Au} {rec : Nat → Nat → Nat → Int} {x s used t m : Nat} {n : Int} {p : Arc} (ht : p.2.2 = (t : Int)) (hm : aft a s (valAt g x) p.2.1.toNat = m) (h : ¬ m = 0) (h2 : used.testBit t = false) : cntC g a rec x s used n p = wrap64 (n + rec t m (ins used t)) := by
  rw [cntC, hm, ht, Int.toNat_natCast, if_neg (by simp [h, h2])]
def cntOk (g : Gr) (a : Au) (x y : Int) : Bool := wi x 0 ((g.vals.length : Int) - 1) && (wi y 0 ((g.vals.length : Int) - 1) && (grOk g && auOk a))
/-- 32 rounds suffice, for a set of five nodes grows with each. -/
def cntSimple (g : Gr) (a : Au) (x y : Int) : Int := if cntOk g a x y = true then cnt g a y 32 x.toNat (bit a.start.toNat) (bit x.toNat) else 0
end Go.Proofs.Ytallglnmeeahiaa

/- The searches for trails and simple paths, plainly: depth first over the arcs in their order, with a budget of calls. -/
namespace Go.Proofs.Ytallglnmeeahiaa
set_option linter.unusedVariables false
set_option linter.unusedSimpArgs false
open Go.ChangeShapes Go.WideShapes Go.ChangeAt Go.RowKit

/-- a state that is at most lf steps from the end -/
def hopeC (D : List Int) (n x lf q : Nat) : Bool := wi (D.getD (x * n + q) 0) 0 (lf : Int)
def hope (D : List Int) (n x s lf : Nat) : Bool := (mem 12 s).any (hopeC D n x lf)
def keyA (sm : Bool) (p : Arc) : Int := if sm then p.2.2 else p.1.1
def skipA (g : Gr) (a : Au) (D : List Int) (sm : Bool) (x s : Nat) (us : List Int) (lf : Nat) (p : Arc) : Bool :=
  decide (aft a s (valAt g x) p.2.1.toNat = 0) || (us.contains (keyA sm p) || !hope D a.accept.length p.2.2.toNat (aft a s (valAt g x) p.2.1.toNat) lf)
abbrev Vis := Option (List St) × Nat
def visC (g : Gr) (a : Au) (D : List Int) (sm : Bool) (rec : Nat → Nat → List Int → Nat → Vis) (x s : Nat) (us : List Int) (lf : Nat) : List Arc → Nat → Vis
  | [], c => (none, c)
  | p :: ps, c => if skipA g a D sm x s us lf p = true then visC g a D sm rec x s us lf ps c else
    match rec p.2.2.toNat (aft a s (valAt g x) p.2.1.toNat) (us ++ [keyA sm p]) c with
    | (some r, c') => (some (p.1 :: r), c')
    | (none, c') => visC g a D sm rec x s us lf ps c'
def visit (g : Gr) (a : Au) (y : Int) (B : Nat) (D : List Int) (sm : Bool) : Nat → Nat → Nat → List Int → Nat → Vis
  | 0, x, s, _, c => if B ≤ c then (none, c) else (if (decide ((x : Int) = y) && acc a s (valAt g x)) = true then some [] else none, c + 1)
  | lf + 1, x, s, us, c => if B ≤ c then (none, c) else visC g a D sm (visit g a y B D sm lf) x s us lf (arcsOf g (x : Int)) (c + 1)
/-- what is left of a visit at arc i -/
def visF (g : Gr) (a : Au) (y : Int) (B : Nat) (D : List Int) (sm : Bool) (lf x s : Nat) (us : List Int) (i c : Nat) : Vis := visC g a D sm (visit g a y B D sm lf) x s us lf ((arcsOf g (x : Int)).drop i) c
section
variable {g : Gr} {a : Au} {y : Int} {B : Nat} {D : List Int} {sm : Bool} {lf x s : Nat} {us : List Int} {i c : Nat}
theorem visit_out (h : B ≤ c) : visit g a y B D sm lf x s us c = (none, c) := by
  cases lf with
  | zero => rw [visit, if_pos h]
  | succ lf => rw [visit, if_pos h]
theorem visit_zero (h : c < B) : visit g a y B D sm 0 x s us c = (if (decide ((x : Int) = y) && acc a s (valAt g x)) = true then some [] else none, c + 1) := by rw [visit, if_neg (by omega)]
def endV (b : Bool) (c : Nat) : Vis := (if b = true then some [] else none, c)
theorem endV_some (b : Bool) (c : Nat) : (endV b c).1.isSome = b := by cases b <;> rfl
theorem endV_get (b : Bool) (c : Nat) : (endV b c).1.getD [] = [] := by cases b <;> rfl
theorem endV_two (b : Bool) (c : Nat) : (endV b c).2 = c := rfl
theorem visit_zeroV (h : c < B) : visit g a y B D sm 0 x s us c = endV (decide ((x : Int) = y) && acc a s (valAt g x)) (c + 1) := visit_zero h
theorem visit_succ (h : c < B) : visit g a y B D sm (lf + 1) x s us c = visF g a y B D sm lf x s us 0 (c + 1) := by rw [visit, if_neg (by omega), visF, List.drop_zero]
theorem visF_end : visF g a y B D sm lf x s us (arcsOf g (x : Int)).length c = (none, c) := by rw [visF, List.drop_length, visC]
theorem drop_at {α : Type} {l : List α} {i : Nat} {p : α} (h : l[i]? = some p) : l.drop i = p :: l.drop (i + 1) := by
  obtain ⟨h1, h2⟩ := List.getElem?_eq_some_iff.1 h
  rw [List.drop_eq_getElem_cons h1, h2]
theorem visF_skip {p : Arc} (h : (arcsOf g (x : Int))[i]? = some p) (hs : skipA g a D sm x s us lf p = true) : visF g a y B D sm lf x s us i c = visF g a y B D sm lf x s us (i + 1) c := by
  rw [visF, drop_at h, visC, if_pos hs, visF]
theorem visF_yes {p : Arc} {r : List St} {c' : Nat} (h : (arcsOf g (x : Int))[i]? = some p) (hs : ¬ skipA g a D sm x s us lf p = true)
    (hr : visit g a y B D sm lf p.2.2.toNat (aft a s (valAt g x) p.2.1.toNat) (us ++ [keyA sm p]) c = (some r, c')) : visF g a y B D sm lf x s us i c = (some (p.1 :: r), c') := by
  rw [visF, drop_at h, visC, if_neg hs, hr]
theorem visF_no {p : Arc} {c' : Nat} (h : (arcsOf g (x : Int))[i]? = some p) (hs : ¬ skipA g a D sm x s us lf p = true)
    (hr : visit g a y B D sm lf p.2.2.toNat (aft a s (valAt g x) p.2.1.toNat) (us ++ [keyA sm p]) c = (none, c')) : visF g a y B D sm lf x s us i c = visF g a y B D sm lf x s us (i + 1) c' := by
  rw [visF, drop_at h, visC, if_neg hs, hr, visF]
theorem skipA_eq {p : Arc} {t M : Nat} {k : Int} (ht : p.2.2 = (t : Int)) (hm : aft a s (valAt g x) p.2.1.toNat = M) (hk : keyA sm p = k) : skipA g a D sm x s us lf p = (decide (M = 0) || (us.contains k || !hope D a.accept.length t M lf)) := by rw [skipA, hm, hk, ht, Int.toNat_natCast]
theorem visF_skip2 {p : Arc} {t M : Nat} {k : Int} (h : (arcsOf g (x : Int))[i]? = some p) (ht : p.2.2 = (t : Int)) (hm : aft a s (valAt g x) p.2.1.toNat = M) (hk : keyA sm p = k) (hs : (decide (M = 0) || (us.contains k || !hope D a.accept.length t M lf)) = true) :
    visF g a y B D sm lf x s us i c = visF g a y B D sm lf x s us (i + 1) c := visF_skip h (by rw [skipA_eq ht hm hk, hs])
theorem visF_yes2 {p : Arc} {t M : Nat} {k : Int} {r : List St} {c' : Nat} (h : (arcsOf g (x : Int))[i]? = some p) (ht : p.2.2 = (t : Int)) (hm : aft a s (valAt g x) p.2.1.toNat = M) (hk : keyA sm p = k) (hs : (decide (M = 0) || (us.contains k || !hope D a.accept.length t M lf)) = false)
    (hr : visit g a y B D sm lf t M (us ++ [k]) c = (some r, c')) : visF g a y B D sm lf x s us i c = (some (p.1 :: r), c') := visF_yes h (by rw [skipA_eq ht hm hk, hs]; simp) (by rw [hm, hk, ht, Int.toNat_natCast]; exact hr)
theorem visF_no2 {p : Arc} {t M : Nat} {k : Int} {c' : Nat} (h : (arcsOf g (x : Int))[i]? = some p) (ht : p.2.2 = (t : Int)) (hm : aft a s (valAt g x) p.2.1.toNat = M) (hk : keyA sm p = k) (hs : (decide (M = 0) || (us.contains k || !hope D a.accept.length t M lf)) = false)
    (hr : visit g a y B D sm lf t M (us ++ [k]) c = (none, c')) : visF g a y B D sm lf x s us i c = visF g a y B D sm lf x s us (i + 1) c' := visF_no h (by rw [skipA_eq ht hm hk, hs]; simp) (by rw [hm, hk, ht, Int.toNat_natCast]; exact hr)
theorem visC_le {rec : Nat → Nat → List Int → Nat → Vis} {N : Nat} (hrec : ∀ x s us c, c ≤ N → (rec x s us c).2 ≤ N ∧ c ≤ (rec x s us c).2) : ∀ (l : List Arc) (c : Nat), c ≤ N → (visC g a D sm rec x s us lf l c).2 ≤ N ∧ c ≤ (visC g a D sm rec x s us lf l c).2
  | [], c, h => ⟨h, Nat.le_refl _⟩
  | p :: l, c, h => by
    rw [visC]
    split
    · exact visC_le hrec l c h
    · have h1 := hrec p.2.2.toNat (aft a s (valAt g x) p.2.1.toNat) (us ++ [keyA sm p]) c h
      split
      · rename_i r c' e
        rw [e] at h1
        exact h1
      · rename_i c' e
        rw [e] at h1
        have h2 := visC_le hrec l c' h1.1
        exact ⟨h2.1, Nat.le_trans h1.2 h2.2⟩
theorem visit_le : ∀ (lf x s : Nat) (us : List Int) (c : Nat), c ≤ B → (visit g a y B D sm lf x s us c).2 ≤ B ∧ c ≤ (visit g a y B D sm lf x s us c).2 := by
  intro lf
  induction lf with
  | zero =>
    intro x s us c h
    rw [visit]
    split
    · exact ⟨h, Nat.le_refl _⟩
    · simp only
      omega
  | succ lf ih =>
    intro x s us c h
    rw [visit]
    split
    · exact ⟨h, Nat.le_refl _⟩
    · have := visC_le (g := g) (a := a) (D := D) (sm := sm) (x := x) (s := s) (us := us) (lf := lf) ih (arcsOf g (x : Int)) (c + 1) (by omega)
      omega
theorem visC_len {rec : Nat → Nat → List Int → Nat → Vis} {k : Nat} (hrec : ∀ x s us c r, (rec x s us c).1 = some r → r.length = k) : ∀ (l : List Arc) (c : Nat) (r : List St), (visC g a D sm rec x s us lf l c).1 = some r → r.length = k + 1
  | [], c, r, h => by cases h
  | p :: l, c, r, h => by
    rw [visC] at h
    split at h
    · exact visC_len hrec l c r h
    · have h1 := hrec p.2.2.toNat (aft a s (valAt g x) p.2.1.toNat) (us ++ [keyA sm p]) c
      split at h
      · rename_i r' c' e
        injection h with h
        subst h
        rw [e] at h1
        rw [List.length_cons, h1 r' rfl]
      · exact visC_len hrec l _ r h
theorem visit_len : ∀ (lf x s : Nat) (us : List Int) (c : Nat) (r : List St), (visit g a y B D sm lf x s us c).1 = some r → r.length = lf := by
  intro lf
  induction lf with
  | zero =>
    intro x s us c r h
    rw [visit] at h
    split at h
    · cases h
    · simp only at h
      split at h
      · injection h with h
        rw [← h]; rfl
      · cases h
  | succ lf ih =>
    intro x s us c r h
    rw [visit] at h
    split at h
    · cases h
    · exact visC_len ih _ _ r h
end
/-- one length after another -/
def srchF (g : Gr) (a : Au) (y : Int) (B : Nat) (D : List Int) (sm : Bool) (x s : Nat) (us : List Int) : Nat → Nat → Nat → Wk × Int
  | 0, _, _ => ((0, []), 2)
  | k + 1, lf, c => if hope D a.accept.length x s lf = true then
      match visit g a y B D sm lf x s us c with
      | (some r, _) => (((x : Int), r), 1)
      | (none, c') => if B ≤ c' then ((0, []), 3) else srchF g a y B D sm x s us k (lf + 1) c'
    else srchF g a y B D sm x s us k (lf + 1) c
section
variable {g : Gr} {a : Au} {y : Int} {B : Nat} {D : List Int} {sm : Bool} {lf x s : Nat} {us : List Int} {k c : Nat}
theorem srchF_no (h : hope D a.accept.length x s lf = false) : srchF g a y B D sm x s us (k + 1) lf c = srchF g a y B D sm x s us k (lf + 1) c := by rw [srchF, h]; rfl
theorem srchF_yes {r : List St} {c' : Nat} (h : hope D a.accept.length x s lf = true) (hv : visit g a y B D sm lf x s us c = (some r, c')) : srchF g a y B D sm x s us (k + 1) lf c = (((x : Int), r), 1) := by rw [srchF, if_pos h, hv]
theorem srchF_out {c' : Nat} (h : hope D a.accept.length x s lf = true) (hv : visit g a y B D sm lf x s us c = (none, c')) (hc : B ≤ c') : srchF g a y B D sm x s us (k + 1) lf c = ((0, []), 3) := by
  rw [srchF, if_pos h, hv]
  simp only
  rw [if_pos hc]
theorem srchF_on {c' : Nat} (h : hope D a.accept.length x s lf = true) (hv : visit g a y B D sm lf x s us c = (none, c')) (hc : ¬ B ≤ c') : srchF g a y B D sm x s us (k + 1) lf c = srchF g a y B D sm x s us k (lf + 1) c' := by
  rw [srchF, if_pos h, hv]
  simp only
  rw [if_neg hc]
end
def srchN (g : Gr) (sm : Bool) : Nat := if sm then g.vals.length else g.edges.length + 1
def srchU (sm : Bool) (x : Nat) : List Int := if sm then [(x : Int)] else []
def srchOk (g : Gr) (a : Au) (x y B : Int) : Bool := cntOk g a x y && wi B 1 20000
def srchL (g : Gr) (a : Au) (x y B : Int) (sm : Bool) : Wk × Int :=
  if srchOk g a x y B = true then srchF g a y B.toNat (distTo g a y) sm x.toNat (bit a.start.toNat) (srchU sm x.toNat) (srchN g sm) 0 0 else ((0, []), 0)
end Go.Proofs.Ytallglnmeeahiaa

/- The answers by trails and by simple paths, plainly: pair after pair; one unknown search ends all. -/
namespace Go.Proofs.Ytallglnmeeahiaa
set_option linter.unusedVariables false
set_option linter.unusedSimpArgs false
open Go.ChangeShapes Go.WideShapes Go.ChangeAt Go.RowKit

def srCode (f : Nat → Nat → Int) (x : Nat) (st : Option (List Pr)) (y : Nat) : Option (List Pr) :=
  match st with
  | none => none
  | some L => if f x y = 1 then some (L ++ [((x : Int), (y : Int))]) else if f x y = 3 then none else some L
def srRowF (f : Nat → Nat → Int) (x : Nat) (st : Option (List Pr)) (j : Nat) : Option (List Pr) := (List.range j).foldl (srCode f x) st
def srAllF (f : Nat → Nat → Int) (n i : Nat) : Option (List Pr) := (List.range i).foldl (fun st x => srRowF f x st n) (some [])
section
variable {f : Nat → Nat → Int} {x n i j : Nat} {st : Option (List Pr)} {L : List Pr}
theorem srRowF_succ : srRowF f x st (j + 1) = srCode f x (srRowF f x st j) j := by simp [srRowF, List.range_succ]
theorem srAllF_succ : srAllF f n (i + 1) = srRowF f i (srAllF f n i) n := by simp [srAllF, List.range_succ]
theorem srRowF_zero : srRowF f x st 0 = st := rfl
theorem srRowF_one (h : srRowF f x st j = some L) (hc : f x j = 1) : srRowF f x st (j + 1) = some (L ++ [((x : Int), (j : Int))]) := by rw [srRowF_succ, h, srCode]; rw [if_pos hc]
theorem srRowF_on (h : srRowF f x st j = some L) (hc : ¬ f x j = 1) (hc3 : ¬ f x j = 3) : srRowF f x st (j + 1) = some L := by rw [srRowF_succ, h, srCode]; rw [if_neg hc, if_neg hc3]
theorem srRowF_out (h : srRowF f x st j = some L) (hc : f x j = 3) : srRowF f x st (j + 1) = none := by rw [srRowF_succ, h, srCode]; rw [if_neg (by omega), if_pos hc]
theorem srRowF_none : ∀ k, srRowF f x st j = none → srRowF f x st (j + k) = none
  | 0, h => h
  | k + 1, h => by rw [← Nat.add_assoc, srRowF_succ, srRowF_none k h]; rfl
theorem srRowF_no : srRowF f x none j = none := by
  have := srRowF_none (f := f) (x := x) (st := none) (j := 0) j rfl
  rwa [Nat.zero_add] at this
theorem srAllF_none : ∀ k, srAllF f n i = none → srAllF f n (i + k) = none
  | 0, h => h
  | k + 1, h => by rw [← Nat.add_assoc, srAllF_succ, srAllF_none k h, srRowF_no]
/-- one unknown search -/
theorem srAllF_out (hi : i < n) (hj : j < n) (h : srRowF f i (srAllF f n i) j = some L) (hc : f i j = 3) : srAllF f n n = none := by
  have h1 := srRowF_none (n - (j + 1)) (srRowF_out h hc)
  rw [show j + 1 + (n - (j + 1)) = n by omega] at h1
  have h2 : srAllF f n (i + 1) = none := by rw [srAllF_succ, h1]
  have h3 := srAllF_none (n - (i + 1)) h2
  rwa [show i + 1 + (n - (i + 1)) = n by omega] at h3
theorem srRowF_len (hst : ∀ L, st = some L → L.length ≤ n) : ∀ (j : Nat) (L : List Pr), srRowF f x st j = some L → L.length ≤ n + j
  | 0, L, h => hst L h
  | j + 1, L, h => by
    rw [srRowF_succ] at h
    cases hr : srRowF f x st j with
    | none => rw [hr] at h; cases h
    | some M =>
      have := srRowF_len hst j M hr
      rw [hr, srCode] at h
      split at h
      · injection h with h
        subst h
        rw [List.length_append, List.length_singleton]
        omega
      · split at h
        · cases h
        · injection h with h
          subst h
          omega
theorem srAllF_len : ∀ (i : Nat) (L : List Pr), srAllF f n i = some L → L.length ≤ i * n
  | 0, L, h => by
    injection h with h
    rw [← h]
    simp
  | i + 1, L, h => by
    rw [srAllF_succ] at h
    have := srRowF_len (n := i * n) (srAllF_len i) n L h
    rw [Nat.succ_mul]
    exact this
end
def srchAk (g : Gr) (a : Au) (B : Int) : Bool := (grOk g && auOk a) && wi B 1 20000
def srchC (g : Gr) (a : Au) (B : Int) (sm : Bool) (x y : Nat) : Int := (srchL g a (x : Int) (y : Int) B sm).2
def srchA (g : Gr) (a : Au) (B : Int) (sm : Bool) : Option (List Pr) := if srchAk g a B = true then srAllF (srchC g a B sm) g.vals.length g.vals.length else none
theorem srchA_len {g : Gr} {a : Au} {B : Int} {sm : Bool} {L : List Pr} (h : srchA g a B sm = some L) : L.length ≤ 25 := by
  unfold srchA at h
  split at h
  · rename_i hk
    simp only [srchAk, Bool.and_eq_true] at hk
    have h1 := srAllF_len _ _ h
    have h2 := (grOk_iff.1 hk.1.1).n5
    exact Nat.le_trans h1 (Nat.mul_le_mul h2 h2 : _ ≤ 5 * 5)
  · cases h
theorem srchF_len {g : Gr} {a : Au} {y : Int} {B : Nat} {D : List Int} {sm : Bool} {x s : Nat} {us : List Int} : ∀ (k lf c : Nat), (srchF g a y B D sm x s us k lf c).1.2.length ≤ lf + k
  | 0, lf, c => by simp [srchF]
  | k + 1, lf, c => by
    rw [srchF]
    split
    · have hl := visit_len (g := g) (a := a) (y := y) (B := B) (D := D) (sm := sm) lf x s us c
      split
      · rename_i r c' e
        rw [e] at hl
        have := hl r rfl
        simp only
        omega
      · split
        · simp
        · have := srchF_len (g := g) (a := a) (y := y) (B := B) (D := D) (sm := sm) (x := x) (s := s) (us := us) k (lf + 1)
          rename_i c' _ _
          have := this c'
          omega
    · have := srchF_len (g := g) (a := a) (y := y) (B := B) (D := D) (sm := sm) (x := x) (s := s) (us := us) k (lf + 1) c
      omega
theorem srchL_len (g : Gr) (a : Au) (x y B : Int) (sm : Bool) : (srchL g a x y B sm).1.2.length ≤ 1048576 := by
  unfold srchL
  split
  · rename_i h
    have h1 := srchF_len (g := g) (a := a) (y := y) (B := B.toNat) (D := distTo g a y) (sm := sm) (x := x.toNat) (s := bit a.start.toNat) (us := srchU sm x.toNat) (srchN g sm) 0 0
    simp only [srchOk, cntOk, Bool.and_eq_true] at h
    have hg := grOk_iff.1 h.1.2.2.1
    have hn5 := hg.n5
    have he12 := hg.e12
    have : srchN g sm ≤ 13 := by unfold srchN; split <;> omega
    omega
  · simp
theorem Blk.set2 {w : World} {g : Nat} {t : TypeId} {c0 c1 : Value} (h : Blk w g t #[c0, c1]) (d0 d1 : Value) : Blk ((w.setCell ⟨g, 0, none⟩ d0).setCell ⟨g, 1, none⟩ d1) g t #[d0, d1] := by
  have h2 := (h.set_ 0 d0).set_ 1 d1
  simpa using h2
theorem Only.set2 (w : World) (g : Nat) (d0 d1 : Value) : Only g (g + 1) w ((w.setCell ⟨g, 0, none⟩ d0).setCell ⟨g, 1, none⟩ d1) := ((Only.refl _ _ _).setCell (p := ⟨g, 0, none⟩) (.inl ⟨Nat.le_refl _, Nat.lt_succ_self _⟩) d0).setCell (p := ⟨g, 1, none⟩) (.inl ⟨Nat.le_refl _, Nat.lt_succ_self _⟩) d1
end Go.Proofs.Ytallglnmeeahiaa

