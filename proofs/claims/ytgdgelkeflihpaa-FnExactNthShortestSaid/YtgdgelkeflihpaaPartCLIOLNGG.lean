/- Parts of the proof, joined into one text: WalkM, MatchM, NodesS, WalkS, AlongS, CntM, CwM. -/
import Derived.Test.YtgdgelkeflihpaaPartAAOKINFK
import Derived.Test.YtgdgelkeflihpaaPartKCADONLI
import Derived.Test.YtgdgelkeflihpaaPartGPKKMHKD
import Derived.Test.YtgdgelkeflihpaaPartHDNEGFCA
import Derived.Test.YtgdgelkeflihpaaPartJCLCPPHB
import Derived.Test.YtgdgelkeflihpaaPartPIKGAJJF
/- Plain: the nodes of a walk and when it is one of a graph. -/
namespace Go.Proofs.Ytgdgelkeflihpaa
set_option linter.unusedVariables false
set_option linter.unusedSimpArgs false

def nodesL (g : Gr) (k : Wk) : List Int := k.1 :: k.2.map (stepTo g)
theorem nodesL_len (g : Gr) (k : Wk) : (nodesL g k).length = k.2.length + 1 := by simp [nodesL]
theorem nodesL_succ {g : Gr} {k : Wk} {i : Nat} {s : St} (h : k.2[i]? = some s) : (nodesL g k).take (i + 1 + 1) = (nodesL g k).take (i + 1) ++ [stepTo g s] := by
  refine take_snoc ?_
  rw [nodesL, List.getElem?_cons_succ, List.getElem?_map, h]; rfl
theorem nodesL_next {g : Gr} {k : Wk} {i : Nat} {s : St} (h : k.2[i]? = some s) : (nodesL g k)[i + 1]? = some (stepTo g s) := by rw [nodesL, List.getElem?_cons_succ, List.getElem?_map, h]; rfl
/-- the step leads from the node that the walk is at -/
def linkAt (g : Gr) (k : Wk) (i : Nat) : Bool := stepFrom g (k.2.getD i (0, false)) == (nodesL g k).getD i 0
def walkOk (g : Gr) (k : Wk) : Bool := grOk g && wi k.1 0 ((g.vals.length : Int) - 1) && decide (k.2.length ≤ 60) && (List.range k.2.length).all (linkAt g k)
/-- the nodes of a walk of the graph; none of another -/
def nodesOut (g : Gr) (k : Wk) : List Int := if walkOk g k = true then nodesL g k else []
theorem nodesOut_no {g : Gr} {k : Wk} (h : walkOk g k = false) : nodesOut g k = [] := by rw [nodesOut, h]; rfl
theorem nodesOut_yes {g : Gr} {k : Wk} (h : walkOk g k = true) : nodesOut g k = nodesL g k := by rw [nodesOut, h]; rfl
theorem linkAt_eq {g : Gr} {k : Wk} {i : Nat} {s : St} {x : Int} (h : k.2[i]? = some s) (hx : (nodesL g k)[i]? = some x) : linkAt g k i = (stepFrom g s == x) := by
  rw [linkAt, List.getD_eq_getElem?_getD, h, List.getD_eq_getElem?_getD, hx]; rfl
theorem walkOk_long {g : Gr} {k : Wk} (h : 60 < k.2.length) : walkOk g k = false := by
  rw [walkOk, show decide (k.2.length ≤ 60) = false by simp; omega]
  simp
def walkAllowed (g : Gr) (c : Int) (k : Wk) : Bool := k.2.all (stepAllowed g c) && wi c 0 4 && walkOk g k
end Go.Proofs.Ytgdgelkeflihpaa

/- Plain: the sets of states along a walk, and whether a walk matches. -/
namespace Go.Proofs.Ytgdgelkeflihpaa
set_option linter.unusedVariables false
set_option linter.unusedSimpArgs false
/-- node i of a walk -/
def nodeAt (g : Gr) (k : Wk) (i : Nat) : Nat := ((nodesL g k).getD i 0).toNat
def letAt (g : Gr) (k : Wk) (i : Nat) : Nat := (stepLetter g (k.2.getD i (0, false))).toNat
/-- the states behind i steps -/
def setAt (g : Gr) (a : Au) (k : Wk) : Nat → Nat
  | 0 => bit a.start.toNat
  | i + 1 => aft a (setAt g a k i) (valAt g (nodeAt g k i)) (letAt g k i)
def setsL (g : Gr) (a : Au) (k : Wk) (n : Nat) : List Nat := (List.range n).map (setAt g a k)
theorem setsL_len (g : Gr) (a : Au) (k : Wk) (n : Nat) : (setsL g a k n).length = n := by simp [setsL]
theorem setsL_snoc (g : Gr) (a : Au) (k : Wk) (n : Nat) : setsL g a k (n + 1) = setsL g a k n ++ [setAt g a k n] := by simp [setsL, List.range_succ]
theorem setsL_at {g : Gr} {a : Au} {k : Wk} {n i : Nat} (h : i < n) : (setsL g a k n)[i]? = some (setAt g a k i) := by simp [setsL, h]
theorem setAt_lt {g : Gr} {a : Au} (ha : auOk a = true) (k : Wk) (i : Nat) : setAt g a k i < 2 ^ a.accept.length := by
  cases i with
  | zero => exact bit_lt (by have := (auOk_iff.1 ha).2.1; omega)
  | succ i => exact aft_lt ha _ _ _
theorem walkOk_parts {g : Gr} {k : Wk} (h : walkOk g k = true) : GrOk g ∧ (0 ≤ k.1 ∧ k.1 ≤ (g.vals.length : Int) - 1) ∧ k.2.length ≤ 60 ∧ ∀ i, i < k.2.length → linkAt g k i = true := by
  simp only [walkOk, Bool.and_eq_true, wi_iff, decide_eq_true_eq, List.all_eq_true, List.mem_range] at h
  exact ⟨grOk_iff.1 h.1.1.1, h.1.1.2, h.1.2, h.2⟩
theorem stepTo_of {g : Gr} {s : St} {e : Ed} (h : stepEd g s.1 = some e) : stepTo g s = arcTo s.2 e := by
  unfold stepTo stepFrom arcTo
  simp only [h]
  cases s.2 <;> rfl
theorem stepFrom_of {g : Gr} {s : St} {e : Ed} (h : stepEd g s.1 = some e) : stepFrom g s = arcTo (!s.2) e := by
  unfold stepFrom arcTo
  simp only [h]
  cases s.2 <;> rfl
theorem stepLetter_of {g : Gr} {s : St} {e : Ed} (h : stepEd g s.1 = some e) : stepLetter g s = arcLetter s.2 e := by
  unfold stepLetter arcLetter
  simp only [h]
theorem nodeAt_at {g : Gr} {k : Wk} {i : Nat} (h : i ≤ k.2.length) : (nodesL g k)[i]? = some ((nodesL g k).getD i 0) := by
  rw [List.getD_eq_getElem?_getD, List.getElem?_eq_getElem (by rw [nodesL_len]; omega)]; rfl
/-- the nodes of a walk of the graph are nodes of the graph, and its steps are edges of it -/
theorem walk_parts {g : Gr} {k : Wk} (h : walkOk g k = true) : ∀ {i : Nat}, i ≤ k.2.length → (0 ≤ (nodesL g k).getD i 0 ∧ (nodesL g k).getD i 0 ≤ (g.vals.length : Int) - 1) ∧
    (i < k.2.length → ∃ s e, k.2[i]? = some s ∧ stepEd g s.1 = some e ∧ stepFrom g s = (nodesL g k).getD i 0 ∧ stepTo g s = (nodesL g k).getD (i + 1) 0) := by
  obtain ⟨hg, hk, -, hl⟩ := walkOk_parts h
  have step : ∀ i, i < k.2.length → 0 ≤ (nodesL g k).getD i 0 → ∃ s e, k.2[i]? = some s ∧ stepEd g s.1 = some e ∧ stepFrom g s = (nodesL g k).getD i 0 ∧ stepTo g s = (nodesL g k).getD (i + 1) 0 := by
    intro i hi h0
    have hs : k.2[i]? = some k.2[i] := List.getElem?_eq_getElem hi
    generalize k.2[i] = s at hs
    have hlk := hl i hi
    rw [linkAt_eq hs (nodeAt_at (by omega)), beq_iff_eq] at hlk
    have hnx := nodesL_next (g := g) hs
    have hnx2 := nodeAt_at (g := g) (k := k) (i := i + 1) (by omega)
    rw [hnx] at hnx2
    cases he : stepEd g s.1 with
    | none =>
      have := stepFrom_neg.2 he
      omega
    | some e => exact ⟨s, e, hs, he, hlk, by injection hnx2⟩
  intro i
  induction i with
  | zero => exact fun _ => ⟨hk, fun hi => step 0 hi hk.1⟩
  | succ i ih =>
    intro hi
    obtain ⟨hr, hst⟩ := ih (by omega)
    obtain ⟨s, e, hs, he, hf, ht⟩ := hst (by omega)
    have hrange : 0 ≤ stepTo g s ∧ stepTo g s ≤ (g.vals.length : Int) - 1 := by
      rw [stepTo_of he]
      obtain ⟨_, hm, _⟩ := stepEd_ok he
      have := hg.edges e hm
      unfold arcTo
      split <;> omega
    rw [ht] at hrange
    exact ⟨hrange, fun hi2 => step (i + 1) hi2 hrange.1⟩
theorem nodeAt_lt {g : Gr} {k : Wk} (h : walkOk g k = true) {i : Nat} (hi : i ≤ k.2.length) : (nodesL g k)[i]? = some (nodeAt g k i : Int) ∧ nodeAt g k i < g.vals.length := by
  have h1 := (walk_parts h hi).1
  refine ⟨?_, ?_⟩
  · rw [nodeAt_at hi, nodeAt, Int.toNat_of_nonneg h1.1]
  · unfold nodeAt; omega
/-- step i: its edge, its letter, the node behind it -/
theorem walk_step {g : Gr} {k : Wk} (h : walkOk g k = true) {i : Nat} (hi : i < k.2.length) : ∃ s e, k.2[i]? = some s ∧ stepEd g s.1 = some e ∧ arcTo s.2 e = (nodeAt g k (i + 1) : Int) ∧ arcLetter s.2 e = (letAt g k i : Int) ∧ stepLetter g s = (letAt g k i : Int) ∧ letAt g k i < 6 := by
  obtain ⟨s, e, hs, he, -, ht⟩ := (walk_parts h (Nat.le_of_lt hi)).2 hi
  obtain ⟨hg, hm, _⟩ := stepEd_ok he
  have hl := hg.edges e hm
  have h1 := (walk_parts h (show i + 1 ≤ k.2.length from hi)).1
  have hsd : k.2.getD i (0, false) = s := by rw [List.getD_eq_getElem?_getD, hs]; rfl
  have hr : 0 ≤ arcLetter s.2 e ∧ arcLetter s.2 e ≤ 5 := by
    unfold arcLetter
    split <;> omega
  have hla : (letAt g k i : Int) = arcLetter s.2 e := by rw [letAt, hsd, stepLetter_of he, Int.toNat_of_nonneg hr.1]
  refine ⟨s, e, hs, he, ?_, hla.symm, by rw [stepLetter_of he, hla], by omega⟩
  rw [← stepTo_of he, ht, nodeAt, Int.toNat_of_nonneg h1.1]
/-! ### Whether a walk matches -/
def walkEnd (g : Gr) (k : Wk) : Int := if walkOk g k = true then (nodeAt g k k.2.length : Int) else -1
def matchB (g : Gr) (a : Au) (k : Wk) : Bool := (walkOk g k && auOk a) && acc a (setAt g a k k.2.length) (valAt g (nodeAt g k k.2.length))
def isWit (g : Gr) (a : Au) (x y : Int) (k : Wk) : Bool := (k.1 == x && walkEnd g k == y) && matchB g a k
def alongS (g : Gr) (a : Au) (k : Wk) : List Nat := if (walkOk g k && auOk a) = true then setsL g a k (k.2.length + 1) else []
def alongN (g : Gr) (a : Au) (k : Wk) : List Int := if (walkOk g k && auOk a) = true then nodesL g k else []
end Go.Proofs.Ytgdgelkeflihpaa

/- The reference's walks: their nodes, and when they are walks of a graph. -/
namespace Go.Proofs.Ytgdgelkeflihpaa
set_option linter.unusedVariables false
set_option linter.unusedSimpArgs false
open Go.ChangeShapes Go.WideShapes Go.ChangeAt Go.RowKit
attribute [local go_sem] ext_cell ext_frozen ext_lt ext_lt1 ext_lt2 ext_lt3 ltn2 ltn3 ltn13 lts1 lts2 lts3

theorem row_shapeS {W : World} {base k n : Nat} {e : TypeId} {v : Value} {cs : List Value} (h : W.ownsRow base e k v n cs) (hn : n ≠ 0) : ∃ g c, v = .slice (some ⟨g, 0, none⟩) n c ∧ base ≤ g ∧ g < W.heap.size ∧ n ≤ c ∧ c ≤ maxLen := by
  have hlt := h.lt
  obtain ⟨hl, hs⟩ := h
  rcases hs with ⟨_, h0⟩ | ⟨g, cap, cur, rfl, hg, hh, hnc, hcm, r⟩
  · exact absurd h0 hn
  · exact ⟨g, cap, rfl, hg, (hlt g rfl).2, hnc, hcm⟩

set_option maxRecDepth 100000 in
set_option maxHeartbeats 8000000 in
theorem specNodes (v1 v2 : Value) (g : Gr) (k : Wk) (w : World) (hv1 : GrV 0 w.heap.size w v1 g) (hv2 : WkV 0 w.heap.size w v2 k) :
    Calls Try.prog 158 #[v1, v2] w fun en w' => ∃ v, en = .returned (.tuple #[v, .bool (walkOk g k)]) ∧ Own w.heap.size w'.heap.size w' 3 cI 1 v (nodesOut g k) ∧ Below w.heap.size w w' := by
  have hv0 := hv1
  obtain ⟨vs, es, rfl, ⟨A1, c1, rfl, hl1, hm1, -⟩, hes⟩ := hv1
  obtain ⟨A2, c2, rfl, hl2, hm2, hx2⟩ := hes
  have HX2 := Lib.hid hx2
  obtain ⟨ss, rfl, ⟨A3, c3, rfl, hl3, hm3, hx3⟩⟩ := hv2
  unfold maxLen at hm1 hm2 hm3
  obtain ⟨st, steps⟩ := k
  simp only at *
  have hb0 : Below w.heap.size w ((w.alloc (.cells #[.slice A1 g.vals.length c1, .slice A2 g.edges.length c2] 45)).alloc (.cells #[.int .i64 st, .slice A3 steps.length c3] 53)) := ((Below.refl _ _).alloc (Nat.le_refl _) _).alloc (by simp) _
  have HX3 := Lib.hid hx3
  have hwo : walkOk g (st, steps) = (grOk g && wi st 0 ((g.vals.length : Int) - 1) && decide (steps.length ≤ 60) && (List.range steps.length).all (linkAt g (st, steps))) := rfl
  have HW := Lib.hid hwo
  clear hx3 hx2 hwo
  have hvg := specValidGraph _ g _ (hv0.keep hb0)
  have HV := Lib.hid hvg
  clear hvg
  go_enter Try.func158, Try.ntmps158
  go_wp2_with fail
  refine HV.out.mono ?_
  rintro e w1 ⟨rfl, hb1⟩
  have b0 := ((Blk.new w _ _ w.heap.size rfl).alloc _).keep hb1
  have b1 := (Blk.new (w.alloc _) _ _ (w.heap.size + 1) (by simp)).keep hb1
  have hb2 := below_trans hb0 hb1
  clear hb0 hb1 HV
  have x0 : w1.cell? ⟨w.heap.size, 0, none⟩ = some _ := b0.cell 0
  have x1 : w1.cell? ⟨w.heap.size, 1, none⟩ = some _ := b0.cell 1
  have y0 : w1.cell? ⟨w.heap.size + 1, 0, none⟩ = some _ := b1.cell 0
  have y1 : w1.cell? ⟨w.heap.size + 1, 1, none⟩ = some _ := b1.cell 1
  have hlt1 := b1.lt
  have HWI := Lib.hid l1In_any
  cases hg : grOk g with
  | false =>
    have hfin : walkOk g (st, steps) = false := by rw [HW.out, hg]; rfl
    have HF := Lib.hid hfin
    clear HW hfin hg
    go_wp2_with fail
    go_ret2
    exact ⟨_, by rw [HF.out]; rfl, by rw [nodesOut_no HF.out]; exact (Own.of_row (World.ownsRow_lit _ #[] 0 (Nat.le_refl _) (by decide) rfl) rfl rfl).mono hb2.size (Nat.le_refl _), hb2.alloc hb2.size _⟩
  | true =>
    have q1 : IntKind.i64.wrap ((g.vals.length : Int) - 1) = (g.vals.length : Int) - 1 := IntWalk.i64_in _ (by omega)
    cases hs : wi st 0 ((g.vals.length : Int) - 1) with
    | false =>
      have hfin : walkOk g (st, steps) = false := by rw [HW.out, hg, hs]; rfl
      have HF := Lib.hid hfin
      clear HW hfin hg
      go_wp2_with (go_at_call 67; refine (HWI.out _ _ _ _).mono ?_; rintro e w1 ⟨rfl, rfl⟩)
      go_ret2
      exact ⟨_, by rw [HF.out]; rfl, by rw [nodesOut_no HF.out]; exact (Own.of_row (World.ownsRow_lit _ #[] 0 (Nat.le_refl _) (by decide) rfl) rfl rfl).mono hb2.size (Nat.le_refl _), hb2.alloc hb2.size _⟩
    | true =>
      by_cases hlen : steps.length ≤ 60
      · have hlen' : decide ((steps.length : Int) > 60) = false := by simp; omega
        have hfin : walkOk g (st, steps) = (List.range steps.length).all (linkAt g (st, steps)) := by rw [HW.out, hg, hs]; simp [hlen]
        have HF := Lib.hid hfin
        have HG := Lib.hid hg
        clear HW hfin hg
        go_wp2_with (go_at_call 67; refine (HWI.out _ _ _ _).mono ?_; rintro e w1 ⟨rfl, rfl⟩)
        have hst0 : 0 ≤ st := by unfold wi at hs; simp at hs; omega
        have HS := Lib.hid hs
        clear hs
        go_loopw [6, 7] (fun out ii wr => ∃ i : Nat, i ≤ steps.length ∧ ii = .int .i64 i ∧ (List.range i).all (linkAt g (st, steps)) = true ∧ wr.ownsRow w1.heap.size 3 1 out ((nodesL g (st, steps)).take (i + 1)).length (((nodesL g (st, steps)).take (i + 1)).flatMap cI) ∧ (∃ x, (nodesL g (st, steps))[i]? = some x ∧ 0 ≤ x) ∧ Below w1.heap.size w1 wr) (fun _ ii _ => steps.length - (intOf ii).toNat)
        case atStart => exact ⟨0, Nat.zero_le _, rfl, rfl, World.ownsRow_lit w1 #[.int .i64 st] 1 (Nat.le_refl _) (by decide) rfl, ⟨st, rfl, hst0⟩, (Below.refl _ _).alloc (Nat.le_refl _) _⟩
        case round =>
          obtain ⟨i, hi, rfl, hal, hrow, ⟨x, hxl, hx0⟩, hbel⟩ := hrel
          have HA := Lib.hid hal
          have hbw := below_trans hb2 hbel
          have hml : ((nodesL g (st, steps)).take (i + 1)).length = i + 1 := by rw [List.length_take, nodesL_len]; simp only; omega
          clear hal
          by_cases hlt : i < steps.length
          · have hxs : steps[i]? = some steps[i] := List.getElem?_eq_getElem hlt
            generalize steps[i] = s at hxs
            obtain ⟨sid, sinv⟩ := s
            obtain ⟨b, o, rfl, -, hb, hc⟩ := HX3.out i _ hxs
            have d0 := hc 0 _ rfl
            have d1 := hc 1 _ rfl
            simp only [Nat.add_zero] at d0
            have d0 := (hbw.cell (p := ⟨_, _, none⟩) hb).trans d0
            have d1 := (hbw.cell (p := ⟨_, _, none⟩) hb).trans d1
            obtain ⟨gb, cp, hv, hg1, hg2, hnc, hcm⟩ := row_shapeS hrow (by omega)
            obtain ⟨m, hm⟩ : ∃ m, m = i + 1 := ⟨_, rfl⟩
            rw [hml, ← hm] at hv
            subst hv
            have hrm := hrow
            rw [show ((nodesL g (st, steps)).take (i + 1)).length = m by rw [hml, hm]] at hrm
            have c0 := (World.ownsRow.cellAt hrm i (by omega)).trans (by have := flat_at cI_len (xs := (nodesL g (st, steps)).take (i + 1)) (i := i) (x := x) (by rw [List.getElem?_take]; simp [hxl]) 0 _ rfl; simpa using this)
            clear hrm
            have hei := fun W (hW : Below w.heap.size w W) => specEdgeIndex _ g sid W (hv0.keep hW)
            have hlk := linkAt_eq (k := (st, steps)) hxs hxl
            have HLK := Lib.hid hlk
            have HEI := Lib.hid hei
            have HXS := Lib.hid hxs
            have HROW := Lib.hid hrow
            have hbx := fun u => below_trans hbw (ext_below wr u)
            have x0 := (hbel.cell (p := ⟨_, _, none⟩) (by simp only; omega)).trans x0
            have x1 := (hbel.cell (p := ⟨_, _, none⟩) (by simp only; omega)).trans x1
            have y0 := (hbel.cell (p := ⟨_, _, none⟩) (by simp only; omega)).trans y0
            have y1 := (hbel.cell (p := ⟨_, _, none⟩) (by simp only; omega)).trans y1
            have hs1 := hbel.size
            have q2 : IntKind.i64.wrap ((m : Int) - 1) = (i : Int) := by rw [IntWalk.i64_in _ (by omega)]; omega
            have q3 : (i : Int) < (m : Int) := by omega
            have HM := Lib.hid hm
            have hbw' : b < wr.heap.size := by omega
            have k0 : w.heap.size < wr.heap.size := by omega
            have k1 : w.heap.size + 1 < wr.heap.size := by omega
            have hspec := edgeIdx_spec g sid
            have HSPEC := Lib.hid hspec
            clear hlk hei hxs hrow hml hm hxl hc q1 hnc hcm hspec
            rcases HSPEC.out with ⟨hk, hno⟩ | ⟨ix, e, hk, hex, he, hno⟩
            · have hsn := stepEd_none hno
              have hsf : stepFrom g (sid, sinv) = -1 := by rw [stepFrom]; simp [hsn]
              rw [hk] at HEI
              have hfin : walkOk g (st, steps) = false := by rw [HF.out]; exact range_all_false hlt (by rw [HLK.out, hsf]; simp; omega)
              have HFI := Lib.hid hfin
              clear hk hno hsn hsf hfin HSPEC
              go_wp2_with fail
              refine wp_region_ext_lit (by kernel_rfl) (by kernel_rfl) ?_
              repeat (go_big_quiet_step ((go_at_call 130; exact Calls.ext_of (HEI.out _ (hbx _)))))
              refine wpQuiet_nil ?_
              intro _ hw'
              obtain ⟨u2, hw''⟩ := hw'
              subst hw''
              go_wp2_with fail
              go_ret2
              exact ⟨_, by rw [HFI.out]; rfl, by rw [nodesOut_no HFI.out]; exact (Own.of_row (World.ownsRow_lit _ #[] 0 (Nat.le_refl _) (by decide) rfl) rfl rfl).mono (hbx _).size (Nat.le_refl _), (hbx _).alloc (hbx _).size _⟩
            · have hse := stepEd_some HG.out hex he hno
              have HSE := Lib.hid hse
              rw [hk] at HEI
              obtain ⟨b9, o9, rfl, -, hb9, hc9⟩ := HX2.out ix e hex
              have e1 := hc9 1 _ rfl
              have e2 := hc9 2 _ rfl
              have e1 := (hbw.cell (p := ⟨_, _, none⟩) hb9).trans e1
              have e2 := (hbw.cell (p := ⟨_, _, none⟩) hb9).trans e2
              have hb9' : b9 < wr.heap.size := by omega
              have hixl : ix < g.edges.length := (List.getElem?_eq_some_iff.1 hex).1
              clear hk hno he hex hse hc9 HSPEC
              cases sinv with
              | true =>
                have hsf : stepFrom g (sid, true) = e.2.2.1 := by rw [stepFrom]; simp [HSE.out]
                have hsto : stepTo g (sid, true) = e.2.1 := by rw [stepTo, stepFrom]; simp [HSE.out]
                have HSF := Lib.hid hsf
                have HSTO := Lib.hid hsto
                clear hsf hsto
                by_cases hyx : e.2.2.1 = x
                · have hq : (e.2.2.1 != x) = false := by simp [hyx]
                  have hto0 : 0 ≤ stepTo g (sid, true) := by
                    have h1 := @stepFrom_neg g (sid, true)
                    have h2 := @stepFrom_neg g (sid, !true)
                    have h3 : stepTo g (sid, true) = stepFrom g (sid, !true) := rfl
                    have h4 := HSF.out
                    rw [h3]
                    by_cases h5 : 0 ≤ stepFrom g (sid, !true)
                    · exact h5
                    · have h6 := h2.1 (by omega)
                      have h7 := h1.2 h6
                      omega
                  have HYX := Lib.hid hyx
                  have HTO0 := Lib.hid hto0
                  clear hyx hto0
                  go_wp2_with fail
                  refine wp_region_ext_lit (by kernel_rfl) (by kernel_rfl) ?_
                  repeat (go_big_quiet_step ((go_at_call 130; exact Calls.ext_of (HEI.out _ (hbx _)))))
                  refine wpQuiet_nil ?_
                  intro _ hw'
                  obtain ⟨u2, hw''⟩ := hw'
                  subst hw''
                  have hw3 := ext_below wr u2
                  have hrow3 := ownsRow_below HROW.out hw3 (Nat.le_refl _)
                  have hs3 := Nat.le_trans hs1 hw3.size
                  have hbel3 := below_trans hbel hw3
                  have htl : ((nodesL g (st, steps)).take (i + 1)).length ≤ 61 := by rw [List.length_take]; omega
                  clear hw3
                  go_wp2_with (at_builtin; (refine wpList_append1 cI elInt rfl _ _ rfl w1.heap.size (.slice (some ⟨gb, 0, none⟩) m cp) ((nodesL g (st, steps)).take (i + 1)) (e.2.1) _ 1 _ (by rfl) hrow3 (by rfl) rfl rfl rfl (cI_one _) (by omega) (by omega) hs3 ?_); rw [← HSTO.out, ← nodesL_succ HXS.out]; intro v' w4 hrow' hb4 _ _)
                  go_roundw
                  case rel => exact ⟨i + 1, by omega, by go_num, range_all_succ HA.out (by rw [HLK.out, HSF.out, HYX.out]; simp), hrow', ⟨_, nodesL_next HXS.out, HTO0.out⟩, hbel3.trans hb4⟩
                  case measure => simp [intOf]; omega
                · have hq : (e.2.2.1 != x) = true := by simp [hyx]
                  have hfin : walkOk g (st, steps) = false := by rw [HF.out]; exact range_all_false hlt (by rw [HLK.out, HSF.out]; simpa using hyx)
                  have HFI := Lib.hid hfin
                  clear hyx hfin
                  go_wp2_with fail
                  refine wp_region_ext_lit (by kernel_rfl) (by kernel_rfl) ?_
                  repeat (go_big_quiet_step ((go_at_call 130; exact Calls.ext_of (HEI.out _ (hbx _)))))
                  refine wpQuiet_nil ?_
                  intro _ hw'
                  obtain ⟨u2, hw''⟩ := hw'
                  subst hw''
                  go_wp2_with fail
                  go_ret2
                  exact ⟨_, by rw [HFI.out]; rfl, by rw [nodesOut_no HFI.out]; exact (Own.of_row (World.ownsRow_lit _ #[] 0 (Nat.le_refl _) (by decide) rfl) rfl rfl).mono (hbx _).size (Nat.le_refl _), (hbx _).alloc (hbx _).size _⟩
              | false =>
                have hsf : stepFrom g (sid, false) = e.2.1 := by rw [stepFrom]; simp [HSE.out]
                have hsto : stepTo g (sid, false) = e.2.2.1 := by rw [stepTo, stepFrom]; simp [HSE.out]
                have HSF := Lib.hid hsf
                have HSTO := Lib.hid hsto
                clear hsf hsto
                by_cases hyx : e.2.1 = x
                · have hq : (e.2.1 != x) = false := by simp [hyx]
                  have hto0 : 0 ≤ stepTo g (sid, false) := by
                    have h1 := @stepFrom_neg g (sid, false)
                    have h2 := @stepFrom_neg g (sid, !false)
                    have h3 : stepTo g (sid, false) = stepFrom g (sid, !false) := rfl
                    have h4 := HSF.out
                    rw [h3]
                    by_cases h5 : 0 ≤ stepFrom g (sid, !false)
                    · exact h5
                    · have h6 := h2.1 (by omega)
                      have h7 := h1.2 h6
                      omega
                  have HYX := Lib.hid hyx
                  have HTO0 := Lib.hid hto0
                  clear hyx hto0
                  go_wp2_with fail
                  refine wp_region_ext_lit (by kernel_rfl) (by kernel_rfl) ?_
                  repeat (go_big_quiet_step ((go_at_call 130; exact Calls.ext_of (HEI.out _ (hbx _)))))
                  refine wpQuiet_nil ?_
                  intro _ hw'
                  obtain ⟨u2, hw''⟩ := hw'
                  subst hw''
                  have hw3 := ext_below wr u2
                  have hrow3 := ownsRow_below HROW.out hw3 (Nat.le_refl _)
                  have hs3 := Nat.le_trans hs1 hw3.size
                  have hbel3 := below_trans hbel hw3
                  have htl : ((nodesL g (st, steps)).take (i + 1)).length ≤ 61 := by rw [List.length_take]; omega
                  clear hw3
                  go_wp2_with (at_builtin; (refine wpList_append1 cI elInt rfl _ _ rfl w1.heap.size (.slice (some ⟨gb, 0, none⟩) m cp) ((nodesL g (st, steps)).take (i + 1)) (e.2.2.1) _ 1 _ (by rfl) hrow3 (by rfl) rfl rfl rfl (cI_one _) (by omega) (by omega) hs3 ?_); rw [← HSTO.out, ← nodesL_succ HXS.out]; intro v' w4 hrow' hb4 _ _)
                  go_roundw
                  case rel => exact ⟨i + 1, by omega, by go_num, range_all_succ HA.out (by rw [HLK.out, HSF.out, HYX.out]; simp), hrow', ⟨_, nodesL_next HXS.out, HTO0.out⟩, hbel3.trans hb4⟩
                  case measure => simp [intOf]; omega
                · have hq : (e.2.1 != x) = true := by simp [hyx]
                  have hfin : walkOk g (st, steps) = false := by rw [HF.out]; exact range_all_false hlt (by rw [HLK.out, HSF.out]; simpa using hyx)
                  have HFI := Lib.hid hfin
                  clear hyx hfin
                  go_wp2_with fail
                  refine wp_region_ext_lit (by kernel_rfl) (by kernel_rfl) ?_
                  repeat (go_big_quiet_step ((go_at_call 130; exact Calls.ext_of (HEI.out _ (hbx _)))))
                  refine wpQuiet_nil ?_
                  intro _ hw'
                  obtain ⟨u2, hw''⟩ := hw'
                  subst hw''
                  go_wp2_with fail
                  go_ret2
                  exact ⟨_, by rw [HFI.out]; rfl, by rw [nodesOut_no HFI.out]; exact (Own.of_row (World.ownsRow_lit _ #[] 0 (Nat.le_refl _) (by decide) rfl) rfl rfl).mono (hbx _).size (Nat.le_refl _), (hbx _).alloc (hbx _).size _⟩
          · obtain rfl : i = steps.length := by omega
            have y1 := (hbel.cell (p := ⟨_, _, none⟩) (by simp only; omega)).trans y1
            have hlw := hbel.size
            have k1 : w.heap.size + 1 < wr.heap.size := by omega
            have hfin : walkOk g (st, steps) = true := by rw [HF.out, HA.out]
            have HFF := Lib.hid hfin
            have htk : (nodesL g (st, steps)).take (steps.length + 1) = nodesL g (st, steps) := List.take_of_length_le (by rw [nodesL_len]; simp)
            rw [htk] at hrow
            have HROW := Lib.hid hrow
            clear hfin HF HA htk hml hrow
            go_wp2_with fail
            go_ret2
            exact ⟨_, by rw [HFF.out]; rfl, by rw [nodesOut_yes HFF.out]; exact (Own.of_row HROW.out rfl rfl).mono hb2.size (Nat.le_refl _), hbw⟩
      · have hlen' : decide ((steps.length : Int) > 60) = true := by simp; omega
        have hfin : walkOk g (st, steps) = false := by rw [HW.out]; simp [hlen]
        have HF := Lib.hid hfin
        clear HW hfin hg
        go_wp2_with (go_at_call 67; refine (HWI.out _ _ _ _).mono ?_; rintro e w1 ⟨rfl, rfl⟩)
        go_ret2
        exact ⟨_, by rw [HF.out]; rfl, by rw [nodesOut_no HF.out]; exact (Own.of_row (World.ownsRow_lit _ #[] 0 (Nat.le_refl _) (by decide) rfl) rfl rfl).mono hb2.size (Nat.le_refl _), hb2.alloc hb2.size _⟩
end Go.Proofs.Ytgdgelkeflihpaa

/- The reference's walks: when one is a walk of a graph, and when it is allowed. -/
namespace Go.Proofs.Ytgdgelkeflihpaa
set_option linter.unusedVariables false
set_option linter.unusedSimpArgs false
open Go.ChangeShapes Go.WideShapes Go.ChangeAt Go.RowKit
attribute [local go_sem] ext_cell ext_frozen ext_lt ext_lt1 ext_lt2 ext_lt3 ltn2 ltn3 ltn13 lts1 lts2 lts3

theorem specIsWalk (v1 v2 : Value) (g : Gr) (k : Wk) (w : World) (hv1 : GrV 0 w.heap.size w v1 g) (hv2 : WkV 0 w.heap.size w v2 k) :
    Calls Try.prog 156 #[v1, v2] w fun en w' => en = .returned (.bool (walkOk g k)) ∧ Below w.heap.size w w' := by
  have hv0 := hv1
  have hv3 := hv2
  obtain ⟨A1, n1, c1, A2, n2, c2, rfl⟩ := hv1.shape
  obtain ⟨A3, n3, c3, rfl⟩ := hv2.shape
  clear hv1 hv2
  have hb0 : Below w.heap.size w ((w.alloc (.cells #[.slice A1 n1 c1, .slice A2 n2 c2] 45)).alloc (.cells #[.int .i64 k.1, .slice A3 n3 c3] 53)) := ((Below.refl _ _).alloc (Nat.le_refl _) _).alloc (by simp) _
  have hc := specNodes _ _ g k _ (hv0.keep hb0) (hv3.keep hb0)
  have HC := Lib.hid hc
  clear hc
  generalize walkOk g k = bb at HC
  go_enter Try.func156, Try.ntmps156
  go_wp2_with fail
  refine HC.out.mono ?_
  rintro e w1 ⟨v, rfl, -, hb1⟩
  go_wp2_with fail
  go_ret
  exact ⟨rfl, below_trans hb0 hb1⟩

end Go.Proofs.Ytgdgelkeflihpaa

/- The reference's walks in the product: l18Next, l18Ends, l18Along, WalkEnd, MatchesWalk, IsWitness. -/
namespace Go.Proofs.Ytgdgelkeflihpaa
set_option linter.unusedVariables false
set_option linter.unusedSimpArgs false
open Go.ChangeShapes Go.WideShapes Go.ChangeAt Go.RowKit
attribute [local go_sem] ext_cell ext_frozen ext_lt ext_lt1 ext_lt2 ext_lt3 ltn2 ltn3 ltn13 lts1 lts2 lts3

def foldFr (a : Au) (l set m0 q : Nat) : Nat := (mem q set).foldl (aft1 a l) m0
theorem foldFr_no {a : Au} {l set m0 q : Nat} (h : set.testBit q = false) : foldFr a l set m0 (q + 1) = foldFr a l set m0 q := by rw [foldFr, mem_no h]; rfl
theorem foldFr_yes {a : Au} {l set m0 q : Nat} (h : set.testBit q = true) : foldFr a l set m0 (q + 1) = aft1 a l (foldFr a l set m0 q) q := by rw [foldFr, mem_yes h, List.foldl_append]; rfl
theorem foldFr_lt {a : Au} (h : auOk a = true) (l set m0 q : Nat) (hm : m0 < 2 ^ a.accept.length) : foldFr a l set m0 q < 2 ^ a.accept.length := foldl_inv (P := fun m => m < 2 ^ a.accept.length) (fun m x hm => aft1_lt h l m x hm) _ _ hm
def foldS (a : Au) (v l set q : Nat) : Nat := (mem q set).foldl (aftS a v l) 0
theorem foldS_no {a : Au} {v l set q : Nat} (h : set.testBit q = false) : foldS a v l set (q + 1) = foldS a v l set q := by rw [foldS, mem_no h]; rfl
theorem foldS_yes {a : Au} {v l set q : Nat} (ha : auOk a = true) (hq : q < a.accept.length) (h : set.testBit q = true) : foldS a v l set (q + 1) = foldFr a l (cls a v q) (foldS a v l set q) a.accept.length := by
  rw [foldS, mem_yes h, List.foldl_append]
  show aftS a v l _ q = _
  rw [aftS, mem12 ha (cls_lt ha v q hq)]; rfl
theorem foldS_lt {a : Au} (h : auOk a = true) (v l set q : Nat) : foldS a v l set q < 2 ^ a.accept.length := foldl_inv (P := fun m => m < 2 ^ a.accept.length) (fun m x hm => aftS_lt h v l m x hm) _ _ (Nat.two_pow_pos _)
theorem foldS_all {a : Au} (h : auOk a = true) {v l set : Nat} (hs : set < 2 ^ a.accept.length) : foldS a v l set a.accept.length = aft a set v l := by rw [foldS, aft, mem12 h hs]
theorem stepEd_idx {g : Gr} {id : Int} {e : Ed} (h : stepEd g id = some e) : ∃ ix : Nat, edgeIdx g id = ix ∧ g.edges[ix]? = some e := by
  obtain ⟨hg, hm, he⟩ := stepEd_ok h
  obtain ⟨ix, hix⟩ := List.getElem?_of_mem hm
  refine ⟨ix, ?_, hix⟩
  rw [← he]
  exact edgeIdx_at hg hix

set_option maxHeartbeats 8000000 in
set_option maxRecDepth 100000 in
theorem l18Next_any (vg va : Value) (g : Gr) (a : Au) (x SI : Nat) (st : St) (e : Ed) (l : Nat) (w : World) (hgv : GrV 0 w.heap.size w vg g) (hav : AuV 0 w.heap.size w va a) (hgo : grOk g = true) (ha : auOk a = true) (hx : x < g.vals.length) (hSI : SI < 2 ^ a.accept.length)
    (he : stepEd g st.1 = some e) (hl : arcLetter st.2 e = (l : Int)) :
    Calls Try.prog 97 #[vg, va, .int .i64 (x : Int), .int .i64 (SI : Int), .agg #[.int .i64 st.1, .bool st.2]] w fun en w' => en = .returned (.tuple #[.int .i64 (arcTo st.2 e), .int .i64 (aft a SI (valAt g x) l : Int)]) ∧ Below w.heap.size w w' := by
  have hg := grOk_iff.1 hgo
  have hav0 := hav
  have hgv0 := hgv
  obtain ⟨A1, c1, A2, c2, rfl, hl1, hm1, hl2, hm2, hC1, hC2⟩ := hgv.form
  obtain ⟨A3, c3, A4, c4, rfl, hl3, hm3, hl4, hm4, hAC⟩ := hav.form ha
  obtain ⟨sid, sinv⟩ := st
  have hn12 := (auOk_iff.1 ha).1.2
  obtain ⟨ix, hix, hei⟩ := stepEd_idx he
  have hem := (stepEd_ok he).2.1
  have hel := hg.edges e hem
  have hixl : ix < g.edges.length := (List.getElem?_eq_some_iff.1 hei).1
  have hixi : (ix : Int) < (g.edges.length : Int) := by omega
  obtain ⟨b6, o6, rfl, hb6, q0, q1, q2, q3⟩ := hC2.ed hei
  have hxi : g.vals[x]? = some g.vals[x] := List.getElem?_eq_getElem hx
  have hvr := hg.vals _ (List.getElem_mem hx)
  generalize g.vals[x] = vx at hxi hvr
  obtain ⟨vx, rfl⟩ := Int.eq_ofNat_of_zero_le hvr.1
  have hva := valAt_of hxi
  rw [Int.toNat_natCast] at hva
  obtain ⟨b1, o1, rfl, hb1, d1⟩ := hC1.int hxi
  have hSI4 := lt12 ha hSI
  simp only at hix hl ⊢
  obtain ⟨eid, ef, et, el⟩ := e
  simp only at q0 q1 q2 q3 hel
  obtain ⟨-, -, -, hl0, hl2e⟩ := hel
  have hl9 : l < 6 := by unfold arcLetter at hl; simp only at hl; split at hl <;> omega
  obtain ⟨TO, hTO⟩ : ∃ TO, TO = arcTo sinv (eid, ef, et, el) := ⟨_, rfl⟩
  rw [← hTO, hva, ← foldS_all ha hSI]
  have HTO := Lib.hid (show ∀ W, Calls Try.prog 133 #[.agg #[.int .i64 eid, .int .i64 ef, .int .i64 et, .int .i64 el], .bool sinv] W fun en w' => en = .returned (.int .i64 TO) ∧ Below W.heap.size W w' from fun W => by
    have h := l14To_any (eid, ef, et, el) sinv W
    rwa [← hTO] at h)
  have HLET := Lib.hid (show ∀ W, Calls Try.prog 132 #[.agg #[.int .i64 eid, .int .i64 ef, .int .i64 et, .int .i64 el], .bool sinv] W fun en w' => en = .returned (.int .i64 (l : Int)) ∧ Below W.heap.size W w' from fun W => by
    have h := l14Letter_any (eid, ef, et, el) sinv W hl0 hl2e
    rwa [hl] at h)
  have HEI := Lib.hid (show ∀ W, Below w.heap.size w W → Calls Try.prog 130 #[.agg #[.slice (some ⟨b1, o1, none⟩) g.vals.length c1, .slice (some ⟨b6, o6, none⟩) g.edges.length c2], .int .i64 sid] W fun e w' => e = .returned (.int .i64 (ix : Int)) ∧ Below W.heap.size W w' from fun W hW => by
    have h := specEdgeIndex _ g sid W (hgv0.keep hW)
    rwa [hix] at h)
  have HGO := Lib.hid hg
  have HAO := Lib.hid ha
  have HAV := Lib.hid hav0
  have HGV := Lib.hid hgv0
  have HAC := Lib.hid hAC
  have HSI := Lib.hid hSI
  have hxx : (x : Int) < (g.vals.length : Int) := by omega
  have hb0 : Below w.heap.size w (((w.alloc (.cells #[.slice (some ⟨b1, o1, none⟩) g.vals.length c1, .slice (some ⟨b6, o6, none⟩) g.edges.length c2] 45)).alloc (.cells #[.int .i64 a.start, .slice A3 a.accept.length c3, .slice A4 a.accept.length c4] 29)).alloc (.cells #[.int .i64 sid, .bool sinv] 113)) := (((Below.refl _ _).alloc (Nat.le_refl _) _).alloc (by simp) _).alloc (by simp; omega) _
  clear hgv hav ha hg hgo hav0 hgv0 hva hxi hC1 hC2 hAC hSI he hl hix hei hem hTO
  go_enter Try.func97, Try.ntmps97
  go_upto_region 1 with fail
  obtain ⟨W0, hW0⟩ : ∃ W0, W0 = (((w.alloc (.cells #[.slice (some ⟨b1, o1, none⟩) g.vals.length c1, .slice (some ⟨b6, o6, none⟩) g.edges.length c2] 45)).alloc (.cells #[.int .i64 a.start, .slice A3 a.accept.length c3, .slice A4 a.accept.length c4] 29)).alloc (.cells #[.int .i64 sid, .bool sinv] 113)) := ⟨_, rfl⟩
  rw [← hW0] at hb0 ⊢
  have bx : Blk W0 w.heap.size 45 #[.slice (some ⟨b1, o1, none⟩) g.vals.length c1, .slice (some ⟨b6, o6, none⟩) g.edges.length c2] := by rw [hW0]; exact ((Blk.new w _ _ w.heap.size rfl).alloc _).alloc _
  have by_ : Blk W0 (w.heap.size + 1) 29 #[.int .i64 a.start, .slice A3 a.accept.length c3, .slice A4 a.accept.length c4] := by rw [hW0]; exact (Blk.new (w.alloc _) _ _ (w.heap.size + 1) (by simp)).alloc _
  have bz : Blk W0 (w.heap.size + 1 + 1) 113 #[.int .i64 sid, .bool sinv] := by rw [hW0]; exact Blk.new ((w.alloc _).alloc _) _ _ (w.heap.size + 1 + 1) (by simp)
  have hs0 : w.heap.size + 1 + 1 + 1 = W0.heap.size := by rw [hW0]; simp
  have x0 : W0.cell? ⟨w.heap.size, 0, none⟩ = some (.slice (some ⟨b1, o1, none⟩) g.vals.length c1) := by exact bx.cell 0
  have x1 : W0.cell? ⟨w.heap.size, 1, none⟩ = some (.slice (some ⟨b6, o6, none⟩) g.edges.length c2) := by exact bx.cell 1
  have y0 : W0.cell? ⟨w.heap.size + 1, 0, none⟩ = some (.int .i64 a.start) := by exact by_.cell 0
  have y1 : W0.cell? ⟨w.heap.size + 1, 1, none⟩ = some (.slice A3 a.accept.length c3) := by exact by_.cell 1
  have y2 : W0.cell? ⟨w.heap.size + 1, 2, none⟩ = some (.slice A4 a.accept.length c4) := by exact by_.cell 2
  have z0 : W0.cell? ⟨w.heap.size + 1 + 1, 0, none⟩ = some (.int .i64 sid) := by exact bz.cell 0
  have z1 : W0.cell? ⟨w.heap.size + 1 + 1, 1, none⟩ = some (.bool sinv) := by exact bz.cell 1
  try rw [hs0]
  have l2 := bz.lt
  have l1 := by_.lt
  have l0 := bx.lt
  clear hW0 bx by_ bz hs0
  have q0 := kcell hb0 q0
  have q1 := kcell hb0 q1
  have q2 := kcell hb0 q2
  have q3 := kcell hb0 q3
  have d1 := kcell hb0 d1
  have hbb1 : b1 < W0.heap.size := Nat.lt_of_lt_of_le hb1 hb0.size
  have ne0 := World.new_ne W0 _ x0
  have ne1 := World.new_ne W0 _ q0
  have ne2 := World.new_ne W0 _ z0
  go_cut [12] (fun s12 wx => ∃ eb, s12 = .pointer (some ⟨eb, 0, none⟩) ∧ W0.heap.size ≤ eb ∧ eb < wx.heap.size ∧ wx.cell? ⟨eb, 0, none⟩ = some (.int .i64 eid) ∧ wx.cell? ⟨eb, 1, none⟩ = some (.int .i64 ef) ∧ wx.cell? ⟨eb, 2, none⟩ = some (.int .i64 et) ∧ wx.cell? ⟨eb, 3, none⟩ = some (.int .i64 el) ∧ Below W0.heap.size W0 wx)
  case first =>
    go_region_held3 (fun w' => w'.cell? ⟨w.heap.size, 0, none⟩ = some (.slice (some ⟨b1, o1, none⟩) g.vals.length c1) ∧ w'.cell? ⟨w.heap.size, 1, none⟩ = some (.slice (some ⟨b6, o6, none⟩) g.edges.length c2) ∧ w'.cell? ⟨w.heap.size + 1 + 1, 0, none⟩ = some (.int .i64 sid) ∧ w'.cell? ⟨b6, o6 + ix * 4, none⟩ = some (.int .i64 eid) ∧ w'.cell? ⟨b6, o6 + ix * 4 + 1, none⟩ = some (.int .i64 ef) ∧ w'.cell? ⟨b6, o6 + ix * 4 + 2, none⟩ = some (.int .i64 et) ∧ w'.cell? ⟨b6, o6 + ix * 4 + 3, none⟩ = some (.int .i64 el))
      (first | (with_reducible exact kS7 ne0 ne0 ne2 ne1 ne1 ne1 ne1 (kS7 ne0 ne0 ne2 ne1 ne1 ne1 ne1 (kS7 ne0 ne0 ne2 ne1 ne1 ne1 ne1 (kS7 ne0 ne0 ne2 ne1 ne1 ne1 ne1 (by assumption))))) | (exact ⟨x0, x1, z0, q0, q1, q2, q3⟩) | assumption | (exact kB7 hbE ⟨x0, x1, z0, q0, q1, q2, q3⟩) | (exact kA7 _ ⟨x0, x1, z0, q0, q1, q2, q3⟩) | (exact kA7 _ (kB7 hbE ⟨x0, x1, z0, q0, q1, q2, q3⟩)) | (exact kB7 hbE (kA7 _ ⟨x0, x1, z0, q0, q1, q2, q3⟩)) | (exact kB7 hbE (by assumption)) | (exact kA7 _ (by assumption)) | go_keep)
      (first | (go_at_call 130; refine (HEI.out _ (by first | exact hb0.drew | exact (hb0.drew).alloc (by have := hb0.size; simpa using this) _)).mono ?_; rintro en wE ⟨rfl, hbE⟩; have n0 := World.new_ne wE _ (kcell hbE (by first | exact x0 | exact kcell ((Below.refl _ _).alloc (Nat.le_refl _) _) x0)); have n1 := World.new_ne wE _ (kcell hbE (by first | exact q0 | exact kcell ((Below.refl _ _).alloc (Nat.le_refl _) _) q0)); have n2 := World.new_ne wE _ (kcell hbE (by first | exact z0 | exact kcell ((Below.refl _ _).alloc (Nat.le_refl _) _) z0))); (first | (have NC := nc4 hbE (n := W0.heap.size) rfl; obtain ⟨t0, t1, t2, t3, f0, f1, f2, f3⟩ := NC) | skip))
    all_goals (go_wp2_with fail)
    · go_meet
      exact ⟨_, rfl, hbE.size, by simp, by simp, by simp, by simp, by simp, (below_trans ((Below.refl W0.heap.size W0).drew) hbE).alloc hbE.size _⟩
    · go_meet
      have h9 := hbE.size
      have h8 : W0.heap.size < wE.heap.size := Nat.lt_of_lt_of_le (by simp) h9
      have h7 : Below W0.heap.size W0 wE := below_trans (((Below.refl W0.heap.size W0).alloc (Nat.le_refl _) _).drew) hbE
      exact ⟨_, rfl, Nat.le_refl _, by simpa using h8, by go_simp, by go_simp, by go_simp, by go_simp, (((h7.setCell (Nat.le_refl _) _).setCell (Nat.le_refl _) _).setCell (Nat.le_refl _) _).setCell (Nat.le_refl _) _⟩
  case rest =>
    obtain ⟨eb, rfl, hlo, hhi, e0, e1, e2, e3, hbc⟩ := hcut
    have x0 := kcell hbc x0
    have x1 := kcell hbc x1
    have y0 := kcell hbc y0
    have y1 := kcell hbc y1
    have y2 := kcell hbc y2
    have z0 := kcell hbc z0
    have z1 := kcell hbc z1
    have d1 := kcell hbc d1
    have hbw := below_trans hb0 hbc
    have hsz := hbc.size
    have l0 := Nat.lt_of_lt_of_le l0 hsz
    have l1 := Nat.lt_of_lt_of_le l1 hsz
    have l2 := Nat.lt_of_lt_of_le l2 hsz
    have hbb1 := Nat.lt_of_lt_of_le hbb1 hsz
    clear ne0 ne1 ne2 q0 q1 q2 q3 hb0 hbc
    go_wp2_with fail
    go_loopw [13, 14] (fun mm qq wr => ∃ (q : Nat) (u : World), q ≤ a.accept.length ∧ qq = .int .i64 (q : Int) ∧ mm = .int .i64 (foldS a vx l SI q : Nat) ∧ wr = ext wc u) (fun _ qq _ => a.accept.length - (intOf qq).toNat)
    case atStart => exact ⟨0, wc, Nat.zero_le _, rfl, rfl, ext_self _⟩
    case round =>
      obtain ⟨q, u, hq, rfl, rfl, rfl⟩ := hrel
      by_cases hlq : q < a.accept.length
      · have hqi : (q : Int) < (a.accept.length : Int) := by omega
        cases hb : SI.testBit q with
        | false =>
          have e3' := bit_off (by omega) (by omega) hb
          have HR := Lib.hid (show foldS a vx l SI q = foldS a vx l SI (q + 1) from (foldS_no hb).symm)
          clear hb
          go_wp2_with fail
          go_roundw
          case rel => exact ⟨q + 1, u, by omega, by go_num, by rw [← HR.out], rfl⟩
          case measure => simp [intOf]; omega
        | true =>
          have e3' := bit_on (by omega) (by omega) hb
          have HFS := Lib.hid (foldS_yes (v := vx) (l := l) HAO.out hlq hb)
          have hm0 := foldS_lt HAO.out vx l SI q
          have hcl := cls_lt HAO.out vx q hlq
          have hcl4 := lt12 HAO.out hcl
          clear hb
          generalize foldS a vx l SI q = m0 at *
          have HM0 := Lib.hid hm0
          clear hm0
          go_wp2_with fail
          refine wp_region_ext_lit (by kernel_rfl) (by kernel_rfl) ?_
          repeat (go_big_quiet_step ((go_at_call 131; exact Calls.ext_of (l14Closure_any _ a q vx _ (HAV.out.keep (below_trans hbw (below_trans (ext_below _ _) (ext_below _ _)))) HAO.out hlq (by omega)))))
          refine wpQuiet_nil ?_
          intro _ hw'
          obtain ⟨u2, hw''⟩ := hw'
          subst hw''
          obtain ⟨u3, hu3⟩ := ext_of (below_trans (ext_below wc u) (ext_below (ext wc u) u2))
          rw [hu3]
          clear hu3 u2 u
          go_wp2_with fail
          generalize cls a vx q = C at *
          go_loopw [13, 16] (fun mm rr wr => ∃ (r : Nat) (u : World), r ≤ a.accept.length ∧ rr = .int .i64 (r : Int) ∧ mm = .int .i64 (foldFr a l C m0 r : Nat) ∧ wr = ext wc u) (fun _ rr _ => a.accept.length - (intOf rr).toNat)
          case atStart => exact ⟨0, u3, Nat.zero_le _, rfl, rfl, rfl⟩
          case round =>
            obtain ⟨r, u, hr, rfl, rfl, rfl⟩ := hrel
            by_cases hlr : r < a.accept.length
            · obtain ⟨b, o, b3, o3, c3', rfl, hbb, hrw, -, -, hb3, hmvs⟩ := HAC.out.row r hlr
              have r0 := kcell hbw hrw
              have r1 := kcell hbw (hmvs l (by omega))
              have hws := hbw.size
              have hbb' : b < wc.heap.size := by omega
              have hb3' : b3 < wc.heap.size := by omega
              have hlri : (r : Int) < (a.accept.length : Int) := by omega
              have hlz : (l : Int) < 9 := by omega
              have hft := foldFr_lt HAO.out l C m0 r HM0.out
              have hft4 := lt12 HAO.out hft
              have hmv := mv_lt HAO.out r l
              have HNX := Lib.hid (show foldFr a l C m0 (r + 1) = if C.testBit r = true then aft1 a l (foldFr a l C m0 r) r else foldFr a l C m0 r by by_cases hb : C.testBit r = true; rw [if_pos hb, foldFr_yes hb]; rw [if_neg hb, foldFr_no (by simpa using hb)])
              have HA := Lib.hid (show aft1 a l (foldFr a l C m0 r) r = if 0 ≤ mv a r l then ins (foldFr a l C m0 r) (mv a r l).toNat else foldFr a l C m0 r from rfl)
              generalize foldFr a l C m0 r = m1 at *
              clear hrw hmvs hft
              go_wp2_with fail
              refine wp_region_ext_lit (by kernel_rfl) (by kernel_rfl) ?_
              repeat (go_big_quiet_step ((go_at_call 132; exact Calls.ext_of (HLET.out _))))
              refine wpQuiet_nil ?_
              intro _ hw'
              obtain ⟨u2, hw''⟩ := hw'
              subst hw''
              obtain ⟨u4, hu4⟩ := ext_of (below_trans (ext_below wc u) (ext_below (ext wc u) u2))
              rw [hu4]
              cases hb : C.testBit r with
              | false =>
                have b1f := bit_off (by omega) (by omega) hb
                have HR := Lib.hid (show m1 = foldFr a l C m0 (r + 1) by rw [HNX.out, if_neg (by simp [hb])])
                clear hb
                go_wp2_with fail
                go_roundw
                case rel => exact ⟨r + 1, u4, by omega, by go_num, by rw [← HR.out], rfl⟩
                case measure => simp [intOf]; omega
              | true =>
                have b1t := bit_on (by omega) (by omega) hb
                have HNX := Lib.hid (HNX.out.trans (if_pos hb))
                clear hb
                by_cases h0 : 0 ≤ mv a r l
                · have HR := Lib.hid (show ins m1 (mv a r l).toNat = foldFr a l C m0 (r + 1) by rw [HNX.out, HA.out, if_pos h0])
                  generalize mv a r l = z at *
                  obtain ⟨z, rfl⟩ := Int.eq_ofNat_of_zero_le h0
                  have e1' := shl_bit (s := z) (by omega)
                  have e2' := or_ins (m := m1) (s := z) (by omega) (by omega)
                  go_wp2_with fail
                  go_roundw
                  case rel => exact ⟨r + 1, u4, by omega, by go_num, by rw [← HR.out]; simp, rfl⟩
                  case measure => simp [intOf]; omega
                · have HR := Lib.hid (show m1 = foldFr a l C m0 (r + 1) by rw [HNX.out, HA.out, if_neg h0])
                  have h0' : decide (mv a r l ≥ 0) = false := by simp; omega
                  go_wp2_with fail
                  go_roundw
                  case rel => exact ⟨r + 1, u4, by omega, by go_num, by rw [← HR.out], rfl⟩
                  case measure => simp [intOf]; omega
            · obtain rfl : r = a.accept.length := by omega
              go_wp2_with fail
              go_roundw
              case rel => exact ⟨q + 1, u, by omega, by go_num, by rw [HFS.out], rfl⟩
              case measure => simp [intOf]; omega
      · obtain rfl : q = a.accept.length := by omega
        have hbE := below_trans hbw (ext_below wc u)
        go_wp2_with fail
        refine (HTO.out _).mono ?_
        rintro en w9 ⟨rfl, hb9⟩
        go_wp2_with fail
        go_ret2
        exact ⟨rfl, below_trans hbE hb9⟩

set_option maxHeartbeats 4000000 in
theorem l18Ends_any (vg va : Value) (g : Gr) (a : Au) (x SI : Nat) (w : World) (hgv : GrV 0 w.heap.size w vg g) (hav : AuV 0 w.heap.size w va a) (hgo : grOk g = true) (ha : auOk a = true) (hx : x < g.vals.length) (hSI : SI < 2 ^ a.accept.length) :
    Calls Try.prog 114 #[vg, va, .int .i64 (x : Int), .int .i64 (SI : Int)] w fun en w' => en = .returned (.bool (acc a SI (valAt g x))) ∧ Below w.heap.size w w' := by
  have hav0 := hav
  have hgv0 := hgv
  obtain ⟨A1, n1, c1, A2, n2, c2, rfl⟩ := hgv.shape
  obtain ⟨A3, c3, A4, c4, rfl, hl3, hm3, hl4, hm4, -⟩ := hav.form ha
  have hn12 := (auOk_iff.1 ha).1.2
  have hSI4 := lt12 ha hSI
  have hb0 : Below w.heap.size w ((w.alloc (.cells #[.slice A1 n1 c1, .slice A2 n2 c2] 45)).alloc (.cells #[.int .i64 a.start, .slice A3 a.accept.length c3, .slice A4 a.accept.length c4] 29)) := ((Below.refl _ _).alloc (Nat.le_refl _) _).alloc (by simp) _
  obtain ⟨R, hR⟩ : ∃ R, R = acc a SI (valAt g x) := ⟨_, rfl⟩
  rw [← hR]
  have HR := Lib.hid (show R = (mem a.accept.length SI).any (accC a (valAt g x)) by rw [hR, acc, mem12 ha hSI])
  have HGO := Lib.hid (grOk_iff.1 hgo)
  have HAO := Lib.hid ha
  have HAV := Lib.hid hav0
  have HGV := Lib.hid hgv0
  clear hgv hav ha hgo hav0 hgv0 hSI hR
  go_enter Try.func114, Try.ntmps114
  go_wp2_with fail
  obtain ⟨W0, hW0⟩ : ∃ W0, W0 = ((w.alloc (.cells #[.slice A1 n1 c1, .slice A2 n2 c2] 45)).alloc (.cells #[.int .i64 a.start, .slice A3 a.accept.length c3, .slice A4 a.accept.length c4] 29)) := ⟨_, rfl⟩
  rw [← hW0] at hb0 ⊢
  have x0 : W0.cell? ⟨w.heap.size, 0, none⟩ = some (.slice A1 n1 c1) := by rw [hW0]; simp
  have x1 : W0.cell? ⟨w.heap.size, 1, none⟩ = some (.slice A2 n2 c2) := by rw [hW0]; simp
  have y0 : W0.cell? ⟨w.heap.size + 1, 0, none⟩ = some (.int .i64 a.start) := by rw [hW0]; simp
  have y1 : W0.cell? ⟨w.heap.size + 1, 1, none⟩ = some (.slice A3 a.accept.length c3) := by rw [hW0]; simp
  have y2 : W0.cell? ⟨w.heap.size + 1, 2, none⟩ = some (.slice A4 a.accept.length c4) := by rw [hW0]; simp
  have hs0 : w.heap.size + 1 + 1 = W0.heap.size := by rw [hW0]; simp
  try rw [hs0]
  have l0 : w.heap.size + 1 < W0.heap.size := by omega
  have l00 : w.heap.size < W0.heap.size := by omega
  clear hW0 hs0
  go_loopw [9] (fun qq wr => ∃ (q : Nat) (u : World), q ≤ a.accept.length ∧ qq = .int .i64 (q : Int) ∧ (mem q SI).any (accC a (valAt g x)) = false ∧ wr = ext W0 u) (fun qq _ => a.accept.length - (intOf qq).toNat)
  case atStart => exact ⟨0, W0, Nat.zero_le _, rfl, rfl, ext_self _⟩
  case round =>
    obtain ⟨q, u, hq, rfl, hno, rfl⟩ := hrel
    have HNO := Lib.hid hno
    clear hno
    have hbE := below_trans hb0 (ext_below W0 u)
    by_cases hlq : q < a.accept.length
    · have hqi : (q : Int) < (a.accept.length : Int) := by omega
      cases hb : SI.testBit q with
      | false =>
        have e3' := bit_off (by omega) (by omega) hb
        have HM := Lib.hid (mem_no hb)
        clear hb
        go_wp2_with fail
        go_roundw
        case rel => exact ⟨q + 1, u, by omega, by go_num, by rw [HM.out]; exact HNO.out, rfl⟩
        case measure => simp [intOf]; omega
      | true =>
        have e3' := bit_on (by omega) (by omega) hb
        have HM := Lib.hid (mem_yes hb)
        have HB := Lib.hid hb
        have hacc := l14Accepts_any _ _ g a x q (ext W0 u) (HGV.out.keep hbE) (HAV.out.keep hbE) HGO.out HAO.out hx hlq
        have HACC := Lib.hid hacc
        clear hb hacc
        cases hc : accC a (valAt g x) q with
        | true =>
          rw [hc] at HACC
          have hfin : R = true := by rw [HR.out]; exact List.any_eq_true.2 ⟨q, mem_mem.2 ⟨hlq, HB.out⟩, hc⟩
          subst hfin
          clear HR hc
          go_wp2_with fail
          refine HACC.out.mono ?_
          rintro en w1 ⟨rfl, hb1⟩
          go_wp2_with fail
          go_ret
          exact ⟨rfl, below_trans hbE hb1⟩
        | false =>
          rw [hc] at HACC
          have HC := Lib.hid hc
          clear hc
          go_wp2_with fail
          refine HACC.out.mono ?_
          rintro en w1 ⟨rfl, hb1⟩
          obtain ⟨u4, hu4⟩ := ext_of (below_trans (ext_below W0 u) hb1)
          subst hu4
          go_wp2_with fail
          go_roundw
          case rel => exact ⟨q + 1, u4, by omega, by go_num, by rw [HM.out, List.any_append, HNO.out]; simp only [List.any_cons, List.any_nil, Bool.or_false, Bool.false_or]; exact HC.out, rfl⟩
          case measure => simp [intOf]; omega
    · obtain rfl : q = a.accept.length := by omega
      have hfin : R = false := by rw [HR.out]; exact HNO.out
      subst hfin
      clear HR
      go_wp2_with fail
      go_ret
      exact ⟨rfl, hbE⟩

set_option maxHeartbeats 2000000 in
theorem specWalkEnd (v1 v2 : Value) (g : Gr) (k : Wk) (w : World) (hv1 : GrV 0 w.heap.size w v1 g) (hv2 : WkV 0 w.heap.size w v2 k) :
    Calls Try.prog 123 #[v1, v2] w fun en w' => en = .returned (.int .i64 (walkEnd g k)) ∧ Below w.heap.size w w' := by
  have hv0 := hv1
  have hv3 := hv2
  obtain ⟨A1, n1, c1, A2, n2, c2, rfl⟩ := hv1.shape
  obtain ⟨A3, n3, c3, rfl⟩ := hv2.shape
  clear hv1 hv2
  have hb0 : Below w.heap.size w ((w.alloc (.cells #[.slice A1 n1 c1, .slice A2 n2 c2] 45)).alloc (.cells #[.int .i64 k.1, .slice A3 n3 c3] 53)) := ((Below.refl _ _).alloc (Nat.le_refl _) _).alloc (by simp) _
  have hc := specNodes _ _ g k _ (hv0.keep hb0) (hv3.keep hb0)
  have HC := Lib.hid hc
  clear hc
  obtain ⟨R, hR⟩ : ∃ R, R = walkEnd g k := ⟨_, rfl⟩
  rw [← hR]
  cases hw : walkOk g k with
  | false =>
    rw [hw] at HC
    have hfin : R = -1 := by rw [hR, walkEnd, hw]; rfl
    subst hfin
    clear hR hw
    go_enter Try.func123, Try.ntmps123
    go_wp2_with fail
    refine HC.out.mono ?_
    rintro e w1 ⟨v, rfl, ho, hb1⟩
    obtain ⟨A6, c6, rfl, -, -, -⟩ := ho.form cI_len
    go_wp2_with fail
    go_ret
    exact ⟨rfl, below_trans hb0 hb1⟩
  | true =>
    rw [hw] at HC
    have hfin : R = (nodeAt g k k.2.length : Int) := by rw [hR, walkEnd, hw]; rfl
    have HF := Lib.hid hfin
    have HW := Lib.hid hw
    have hl60 := (walkOk_parts hw).2.2.1
    clear hR hw hfin
    go_enter Try.func123, Try.ntmps123
    go_wp2_with fail
    refine HC.out.mono ?_
    rintro e w1 ⟨v, rfl, ho, hb1⟩
    rw [nodesOut_yes HW.out] at ho
    have hr := ho.1
    rw [nodesL_len] at hr
    obtain ⟨gN, cN, rfl, -, hgN, -, -⟩ := own_some hr (by omega)
    have q0 := (World.ownsRow.cellAt hr k.2.length (by omega)).trans (flatI_at (nodeAt_lt HW.out (Nat.le_refl _)).1)
    have m1 : ((k.2.length : Int) + 1) - 1 = (k.2.length : Int) := by omega
    clear hr ho
    go_wp2_with fail
    go_ret
    exact ⟨by rw [HF.out]; rfl, below_trans hb0 hb1⟩

theorem flatN_atS {xs : List Nat} {t : Nat} {x : Nat} (h : xs[t]? = some x) : (xs.flatMap cN)[t]? = some (.int .i64 (x : Int)) := by
  have := flat_at cN_len h 0 _ rfl
  simpa using this
set_option maxHeartbeats 8000000 in
set_option maxRecDepth 100000 in
theorem l18Along_any (vg va vk : Value) (g : Gr) (a : Au) (k : Wk) (w : World) (hgv : GrV 0 w.heap.size w vg g) (hav : AuV 0 w.heap.size w va a) (hkv : WkV 0 w.heap.size w vk k) (hw : walkOk g k = true) (ha : auOk a = true) :
    Calls Try.prog 157 #[vg, va, vk] w fun e w' => ∃ v1, e = .returned v1 ∧ Own w.heap.size w'.heap.size w' 3 cN 1 v1 (setsL g a k (k.2.length + 1)) ∧ Below w.heap.size w w' := by
  have hgv0 := hgv
  have hav0 := hav
  obtain ⟨A1, n1, c1, A2, n2, c2, rfl⟩ := hgv.shape
  obtain ⟨A3, n3, c3, A4, n4, c4, rfl⟩ := hav.shape
  obtain ⟨A5, c5, rfl, hl5, hm5, hC5⟩ := hkv.form
  obtain ⟨⟨hn1, hn12⟩, ⟨hst0, hst1⟩, -, -⟩ := auOk_iff.1 ha
  obtain ⟨s, hs⟩ : ∃ s : Nat, a.start = (s : Int) := ⟨a.start.toNat, by omega⟩
  obtain ⟨RS, hRS⟩ : ∃ RS, RS = setsL g a k (k.2.length + 1) := ⟨_, rfl⟩
  rw [← hRS]
  have hk0 := nodeAt_lt hw (Nat.zero_le _)
  have hk1 : k.1 = (nodeAt g k 0 : Int) := by have h := hk0.1; injection h
  have HAV := Lib.hid hav0
  rw [hs] at HAV ⊢
  have hb0 : Below w.heap.size w (((w.alloc (.cells #[.slice A1 n1 c1, .slice A2 n2 c2] 45)).alloc (.cells #[.int .i64 (s : Int), .slice A3 n3 c3, .slice A4 n4 c4] 29)).alloc (.cells #[.int .i64 k.1, .slice A5 k.2.length c5] 53)) := (((Below.refl _ _).alloc (Nat.le_refl _) _).alloc (by simp) _).alloc (by simp; omega) _
  have hsn : s < a.accept.length := by omega
  have e1 := shl_bit (s := s) (by omega)
  have hS1 : setsL g a k (0 + 1) = [bit s] := by simp [setsL, setAt, hs]
  have hg3 := (walkOk_parts hw).2.2.1
  have HS1 := Lib.hid hS1
  have HK1 := Lib.hid hk1
  have HRS := Lib.hid hRS
  have HGV := Lib.hid hgv0
  have HC5 := Lib.hid hC5
  have HW := Lib.hid hw
  have HA := Lib.hid ha
  have HGO := Lib.hid (walkOk_parts hw).1
  clear hgv hav hkv hgv0 hav0 hC5 hRS hS1 hk1 hk0 hs hst0 hst1 hw ha
  go_enter Try.func157, Try.ntmps157
  go_wp2_with fail
  obtain ⟨W0, hW0⟩ : ∃ W0, W0 = (((w.alloc (.cells #[.slice A1 n1 c1, .slice A2 n2 c2] 45)).alloc (.cells #[.int .i64 (s : Int), .slice A3 n3 c3, .slice A4 n4 c4] 29)).alloc (.cells #[.int .i64 k.1, .slice A5 k.2.length c5] 53)) := ⟨_, rfl⟩
  rw [← hW0] at hb0 ⊢
  have bx : Blk W0 w.heap.size 45 #[.slice A1 n1 c1, .slice A2 n2 c2] := by rw [hW0]; exact ((Blk.new w _ _ w.heap.size rfl).alloc _).alloc _
  have by_ : Blk W0 (w.heap.size + 1) 29 #[.int .i64 (s : Int), .slice A3 n3 c3, .slice A4 n4 c4] := by rw [hW0]; exact (Blk.new (w.alloc _) _ _ (w.heap.size + 1) (by simp)).alloc _
  have bz : Blk W0 (w.heap.size + 1 + 1) 53 #[.int .i64 k.1, .slice A5 k.2.length c5] := by rw [hW0]; exact Blk.new ((w.alloc _).alloc _) _ _ (w.heap.size + 1 + 1) (by simp)
  have hs0 : w.heap.size + 1 + 1 + 1 = W0.heap.size := by rw [hW0]; simp
  have x0 : W0.cell? ⟨w.heap.size, 0, none⟩ = some (.slice A1 n1 c1) := by exact bx.cell 0
  have x1 : W0.cell? ⟨w.heap.size, 1, none⟩ = some (.slice A2 n2 c2) := by exact bx.cell 1
  have y0 : W0.cell? ⟨w.heap.size + 1, 0, none⟩ = some (.int .i64 (s : Int)) := by exact by_.cell 0
  have y1 : W0.cell? ⟨w.heap.size + 1, 1, none⟩ = some (.slice A3 n3 c3) := by exact by_.cell 1
  have y2 : W0.cell? ⟨w.heap.size + 1, 2, none⟩ = some (.slice A4 n4 c4) := by exact by_.cell 2
  have z0 : W0.cell? ⟨w.heap.size + 1 + 1, 0, none⟩ = some (.int .i64 k.1) := by exact bz.cell 0
  have z1 : W0.cell? ⟨w.heap.size + 1 + 1, 1, none⟩ = some (.slice A5 k.2.length c5) := by exact bz.cell 1
  try rw [hs0]
  have l2 := bz.lt
  have l1 := by_.lt
  have l0 := bx.lt
  clear hW0 bx by_ bz hs0
  go_loopw [7, 8, 9] (fun ss nn ii wr => ∃ i : Nat, i ≤ k.2.length ∧ ii = .int .i64 (i : Int) ∧ nn = .int .i64 (nodeAt g k i : Int) ∧ wr.ownsRow W0.heap.size 3 1 ss (setsL g a k (i + 1)).length ((setsL g a k (i + 1)).flatMap cN) ∧ Below W0.heap.size W0 wr) (fun _ _ ii _ => k.2.length - (intOf ii).toNat)
  case atStart => exact ⟨0, Nat.zero_le _, rfl, by rw [HK1.out], by rw [HS1.out]; exact World.ownsRow_lit W0 #[.int .i64 (bit s : Int)] 1 (Nat.le_refl _) (by decide) rfl, (Below.refl _ _).alloc (Nat.le_refl _) _⟩
  case round =>
    clear HS1 HK1 e1
    obtain ⟨i, hi, rfl, rfl, hrow, hbel⟩ := hrel
    have hbw2 := below_trans hb0 hbel
    have x0 := kcell hbel x0
    have x1 := kcell hbel x1
    have y0 := kcell hbel y0
    have y1 := kcell hbel y1
    have y2 := kcell hbel y2
    have z0 := kcell hbel z0
    have z1 := kcell hbel z1
    have hsz := hbel.size
    have l0 := Nat.lt_of_lt_of_le l0 hsz
    have l1 := Nat.lt_of_lt_of_le l1 hsz
    have l2 := Nat.lt_of_lt_of_le l2 hsz
    have HROW := Lib.hid hrow
    have HBW2 := Lib.hid hbw2
    clear hrow
    by_cases hlt : i < k.2.length
    · obtain ⟨st, e, hst, he, ht, hl, -, hl6⟩ := walk_step HW.out hlt
      obtain ⟨b5, o5, rfl, hb5, p0, p1⟩ := HC5.out.st hst
      have p0 := kcell hbw2 p0
      have p1 := kcell hbw2 p1
      have hb5w := Nat.lt_of_lt_of_le hb5 hbw2.size
      obtain ⟨hna, hnl⟩ := nodeAt_lt HW.out hi
      have hrow := HROW.out
      rw [setsL_len] at hrow
      obtain ⟨gS, cS, rfl, hgS, hgS2, -, -⟩ := own_some hrow (by omega)
      have s0 := (World.ownsRow.cellAt hrow i (by omega)).trans (flatN_atS (setsL_at (g := g) (a := a) (k := k) (show i < i + 1 by omega)))
      have HSA := Lib.hid (show setAt g a k (i + 1) = aft a (setAt g a k i) (valAt g (nodeAt g k i)) (letAt g k i) from rfl)
      have HSN := Lib.hid (setsL_snoc g a k (i + 1))
      have hsla := setAt_lt HA.out k i (g := g)
      have hsla4 := lt12 HA.out hsla
      have hsal := setsL_len g a k (i + 1)
      obtain ⟨sid, sinv⟩ := st
      simp only at p0 p1
      have HNX := Lib.hid (fun (W : World) (hW : Below w.heap.size w W) => by
        have h := l18Next_any _ _ g a (nodeAt g k i) (setAt g a k i) (sid, sinv) e (letAt g k i) W (HGV.out.keep hW) (HAV.out.keep hW) (grOk_iff.2 HGO.out) HA.out hnl hsla he hl
        rw [ht, ← HSA.out] at h
        exact h)
      generalize setAt g a k (i + 1) = SJ at *
      generalize setAt g a k i = SI at *
      obtain ⟨NJ, hNJ⟩ : ∃ NJ, NJ = nodeAt g k (i + 1) := ⟨_, rfl⟩
      have HNJ := Lib.hid hNJ
      rw [← hNJ] at HNX
      clear hNJ
      generalize nodeAt g k i = NI at *
      generalize setsL g a k (i + 1) = SX at *
      have hki : (i : Int) < (k.2.length : Int) := by omega
      have hii1 : (i : Int) < (i : Int) + 1 := by omega
      clear hst he ht hl hna hrow hsla
      go_wp2_with fail
      refine wp_region_ext_lit (by kernel_rfl) (by kernel_rfl) ?_
      repeat (go_big_quiet_step ((go_at_call 97; exact Calls.ext_of (HNX.out _ (below_trans HBW2.out (ext_below _ _))))))
      refine wpQuiet_nil ?_
      intro _ hw'
      obtain ⟨u2, hw''⟩ := hw'
      subst hw''
      have hbu := ext_below wr u2
      have HR2 := Lib.hid (ownsRow_below HROW.out hbu (Nat.le_refl _))
      have hz2 : W0.heap.size ≤ (ext wr u2).heap.size := Nat.le_trans hsz hbu.size
      have hbel2 := hbel.trans (hbu.mono hsz)
      rw [hsal] at HR2
      generalize ext wr u2 = wx at *
      go_wp2_with (at_builtin; (refine wpList_append1 cN elInt rfl _ _ rfl W0.heap.size _ SX SJ _ 1 _ (by rfl) (by rw [hsal]; exact HR2.out) (by rfl) rfl rfl rfl (cN_one _) (by omega) (by omega) (by omega) ?_); intro v' w4 hrow' hb4 _ _)
      go_roundw
      case rel => exact ⟨i + 1, by omega, by go_num, by rw [HNJ.out], by rw [HSN.out]; exact hrow', hbel2.trans hb4⟩
      case measure => simp [intOf]; omega
    · obtain rfl : i = k.2.length := by omega
      have hrow := HROW.out
      rw [setsL_len] at hrow
      obtain ⟨gS, cS, rfl, hgS, hgS2, -, -⟩ := own_some hrow (by omega)
      have hoS := Own.of_row (xs := setsL g a k (k.2.length + 1)) (ownsRow_mono (b := w.heap.size) HROW.out hb0.size) (by rw [setsL_len]) rfl
      rw [← HRS.out] at hoS
      have HOS := Lib.hid hoS
      clear hrow hoS
      go_wp2_with fail
      go_ret
      exact ⟨_, rfl, HOS.out, HBW2.out⟩

set_option maxHeartbeats 4000000 in
set_option maxRecDepth 100000 in
theorem specMatchesWalk (vg va vk : Value) (g : Gr) (a : Au) (k : Wk) (w : World) (hgv : GrV 0 w.heap.size w vg g) (hav : AuV 0 w.heap.size w va a) (hkv : WkV 0 w.heap.size w vk k) :
    Calls Try.prog 122 #[vg, va, vk] w fun e w' => e = .returned (.bool (matchB g a k)) ∧ Below w.heap.size w w' := by
  have hgv0 := hgv
  have hav0 := hav
  have hkv0 := hkv
  obtain ⟨A1, n1, c1, A2, n2, c2, rfl⟩ := hgv.shape
  obtain ⟨A3, n3, c3, A4, n4, c4, rfl⟩ := hav.shape
  obtain ⟨A5, n5, c5, rfl⟩ := hkv.shape
  have hb0 : Below w.heap.size w (((w.alloc (.cells #[.slice A1 n1 c1, .slice A2 n2 c2] 45)).alloc (.cells #[.int .i64 a.start, .slice A3 n3 c3, .slice A4 n4 c4] 29)).alloc (.cells #[.int .i64 k.1, .slice A5 n5 c5] 53)) := (((Below.refl _ _).alloc (Nat.le_refl _) _).alloc (by simp) _).alloc (by simp; omega) _
  obtain ⟨R, hR⟩ : ∃ R, R = matchB g a k := ⟨_, rfl⟩
  rw [← hR]
  have HR := Lib.hid hR
  have HGV := Lib.hid hgv0
  have HAV := Lib.hid hav0
  have HKV := Lib.hid hkv0
  clear hgv hav hkv hgv0 hav0 hkv0 hR
  go_enter Try.func122, Try.ntmps122
  go_wp2_with fail
  obtain ⟨W0, hW0⟩ : ∃ W0, W0 = (((w.alloc (.cells #[.slice A1 n1 c1, .slice A2 n2 c2] 45)).alloc (.cells #[.int .i64 a.start, .slice A3 n3 c3, .slice A4 n4 c4] 29)).alloc (.cells #[.int .i64 k.1, .slice A5 n5 c5] 53)) := ⟨_, rfl⟩
  rw [← hW0] at hb0 ⊢
  have bx : Blk W0 w.heap.size 45 #[.slice A1 n1 c1, .slice A2 n2 c2] := by rw [hW0]; exact ((Blk.new w _ _ w.heap.size rfl).alloc _).alloc _
  have by_ : Blk W0 (w.heap.size + 1) 29 #[.int .i64 a.start, .slice A3 n3 c3, .slice A4 n4 c4] := by rw [hW0]; exact (Blk.new (w.alloc _) _ _ (w.heap.size + 1) (by simp)).alloc _
  have bz : Blk W0 (w.heap.size + 1 + 1) 53 #[.int .i64 k.1, .slice A5 n5 c5] := by rw [hW0]; exact Blk.new ((w.alloc _).alloc _) _ _ (w.heap.size + 1 + 1) (by simp)
  have x0 : W0.cell? ⟨w.heap.size, 0, none⟩ = some (.slice A1 n1 c1) := by exact bx.cell 0
  have x1 : W0.cell? ⟨w.heap.size, 1, none⟩ = some (.slice A2 n2 c2) := by exact bx.cell 1
  have y0 : W0.cell? ⟨w.heap.size + 1, 0, none⟩ = some (.int .i64 a.start) := by exact by_.cell 0
  have y1 : W0.cell? ⟨w.heap.size + 1, 1, none⟩ = some (.slice A3 n3 c3) := by exact by_.cell 1
  have y2 : W0.cell? ⟨w.heap.size + 1, 2, none⟩ = some (.slice A4 n4 c4) := by exact by_.cell 2
  have z0 : W0.cell? ⟨w.heap.size + 1 + 1, 0, none⟩ = some (.int .i64 k.1) := by exact bz.cell 0
  have z1 : W0.cell? ⟨w.heap.size + 1 + 1, 1, none⟩ = some (.slice A5 n5 c5) := by exact bz.cell 1
  have l2 := bz.lt
  have l1 := by_.lt
  have l0 := bx.lt
  clear hW0 bx by_ bz
  have hiw := specIsWalk _ _ g k W0 (HGV.out.keep hb0) (HKV.out.keep hb0)
  have HIW := Lib.hid hiw
  clear hiw
  cases hw : walkOk g k with
  | false =>
    rw [hw] at HIW
    have hfin : R = false := by rw [HR.out, matchB, hw]; rfl
    subst hfin
    clear HR hw
    refine HIW.out.mono ?_
    rintro e w1 ⟨rfl, hb1⟩
    go_wp2_with fail
    go_ret
    exact ⟨rfl, below_trans hb0 hb1⟩
  | true =>
    rw [hw] at HIW
    refine HIW.out.mono ?_
    rintro e w1 ⟨rfl, hb1⟩
    have hb2 := below_trans hb0 hb1
    have x0 := kcell hb1 x0
    have x1 := kcell hb1 x1
    have y0 := kcell hb1 y0
    have y1 := kcell hb1 y1
    have y2 := kcell hb1 y2
    have z0 := kcell hb1 z0
    have z1 := kcell hb1 z1
    have hs1 := hb1.size
    have l0 := Nat.lt_of_lt_of_le l0 hs1
    have l1 := Nat.lt_of_lt_of_le l1 hs1
    have l2 := Nat.lt_of_lt_of_le l2 hs1
    have hva := specValidAutomaton _ a w1 (HAV.out.keep hb2)
    have HVA := Lib.hid hva
    clear hva
    cases ha : auOk a with
    | false =>
      rw [ha] at HVA
      have hfin : R = false := by rw [HR.out, matchB, hw, ha]; rfl
      subst hfin
      clear HR hw ha
      go_wp2_with fail
      refine HVA.out.mono ?_
      rintro e w3 ⟨rfl, hb3⟩
      go_wp2_with fail
      go_ret
      exact ⟨rfl, below_trans hb2 hb3⟩
    | true =>
      rw [ha] at HVA
      have hfin : R = acc a (setAt g a k k.2.length) (valAt g (nodeAt g k k.2.length)) := by rw [HR.out, matchB, hw, ha]; simp
      have hl60 := (walkOk_parts hw).2.2.1
      have hgo := (walkOk_parts hw).1
      obtain ⟨hna, hnl⟩ := nodeAt_lt hw (Nat.le_refl _)
      have hsla := setAt_lt ha k k.2.length (g := g)
      have HLA := Lib.hid (fun (W : World) (hW : Below w.heap.size w W) => l18Along_any _ _ _ g a k W (HGV.out.keep hW) (HAV.out.keep hW) (HKV.out.keep hW) hw ha)
      have HWE := Lib.hid (fun (W : World) (hW : Below w.heap.size w W) => by
        have h := specWalkEnd _ _ g k W (HGV.out.keep hW) (HKV.out.keep hW)
        rw [walkEnd, if_pos hw] at h
        exact h)
      have HLE := Lib.hid (fun (W : World) (hW : Below w.heap.size w W) => l18Ends_any _ _ g a (nodeAt g k k.2.length) (setAt g a k k.2.length) W (HGV.out.keep hW) (HAV.out.keep hW) (grOk_iff.2 hgo) ha hnl hsla)
      rw [← hfin] at HLE
      have hs1 := setsL_at (g := g) (a := a) (k := k) (show k.2.length < k.2.length + 1 by omega)
      have HS1 := Lib.hid hs1
      clear HR hfin hw ha hna hnl hsla hgo hs1
      go_wp2_with fail
      refine HVA.out.mono ?_
      rintro e w3 ⟨rfl, hb3⟩
      have hb4 := below_trans hb2 hb3
      have x0 := kcell hb3 x0
      have x1 := kcell hb3 x1
      have y0 := kcell hb3 y0
      have y1 := kcell hb3 y1
      have y2 := kcell hb3 y2
      have z0 := kcell hb3 z0
      have z1 := kcell hb3 z1
      have hs3 := hb3.size
      have l0 := Nat.lt_of_lt_of_le l0 hs3
      have l1 := Nat.lt_of_lt_of_le l1 hs3
      have l2 := Nat.lt_of_lt_of_le l2 hs3
      go_wp2_with fail
      refine (HLA.out _ hb4).mono ?_
      rintro e w5 ⟨v1, rfl, ho1, hb5⟩
      have HB := Lib.hid (below_trans hb4 hb5)
      have x0 := kcell hb5 x0
      have x1 := kcell hb5 x1
      have y0 := kcell hb5 y0
      have y1 := kcell hb5 y1
      have y2 := kcell hb5 y2
      have z0 := kcell hb5 z0
      have z1 := kcell hb5 z1
      have hs5 := hb5.size
      have l0 := Nat.lt_of_lt_of_le l0 hs5
      have l1 := Nat.lt_of_lt_of_le l1 hs5
      have l2 := Nat.lt_of_lt_of_le l2 hs5
      have r1 := ho1.1
      rw [setsL_len] at r1
      obtain ⟨gS, cS, rfl, -, hgS, -, -⟩ := own_some r1 (by omega)
      have s0 := (World.ownsRow.cellAt r1 k.2.length (by omega)).trans (flatN_atS HS1.out)
      have m1 : ((k.2.length : Int) + 1) - 1 = (k.2.length : Int) := by omega
      generalize setAt g a k k.2.length = SI at *
      generalize nodeAt g k k.2.length = NI at *
      clear r1 ho1 hb0 hb1 hb2 hb3 hb4 hb5
      go_wp2_with fail
      refine wp_region_ext_lit (by kernel_rfl) (by kernel_rfl) ?_
      repeat (go_big_quiet_step ((first | (go_at_call 123; exact Calls.ext_of (HWE.out _ (below_trans HB.out (ext_below _ _)))) | (go_at_call 114; exact Calls.ext_of (HLE.out _ (below_trans HB.out (ext_below _ _)))))))
      refine wpQuiet_nil ?_
      intro _ hw'
      obtain ⟨u2, hw''⟩ := hw'
      subst hw''
      go_wp2_with fail
      go_ret
      exact ⟨rfl, below_trans HB.out (ext_below _ _)⟩

theorem isWit_spec (g : Gr) (a : Au) (x y : Int) (k : Wk) : isWit g a x y k = ((matchB g a k && k.1 == x) && walkEnd g k == y) := by
  unfold isWit
  cases matchB g a k <;> cases (k.1 == x) <;> simp
set_option maxHeartbeats 4000000 in
theorem specIsWitness (vg va vk : Value) (g : Gr) (a : Au) (x y : Int) (k : Wk) (w : World) (hgv : GrV 0 w.heap.size w vg g) (hav : AuV 0 w.heap.size w va a) (hkv : WkV 0 w.heap.size w vk k) :
    Calls Try.prog 91 #[vg, va, .int .i64 x, .int .i64 y, vk] w fun e w' => e = .returned (.bool (isWit g a x y k)) ∧ Below w.heap.size w w' := by
  have hgv0 := hgv
  have hav0 := hav
  have hkv0 := hkv
  obtain ⟨A1, n1, c1, A2, n2, c2, rfl⟩ := hgv.shape
  obtain ⟨A3, n3, c3, A4, n4, c4, rfl⟩ := hav.shape
  obtain ⟨A5, n5, c5, rfl⟩ := hkv.shape
  have hb0 : Below w.heap.size w (((w.alloc (.cells #[.slice A1 n1 c1, .slice A2 n2 c2] 45)).alloc (.cells #[.int .i64 a.start, .slice A3 n3 c3, .slice A4 n4 c4] 29)).alloc (.cells #[.int .i64 k.1, .slice A5 n5 c5] 53)) := (((Below.refl _ _).alloc (Nat.le_refl _) _).alloc (by simp) _).alloc (by simp; omega) _
  obtain ⟨R, hR⟩ : ∃ R, R = isWit g a x y k := ⟨_, rfl⟩
  rw [← hR]
  have HR := Lib.hid (hR.trans (isWit_spec g a x y k))
  have HGV := Lib.hid hgv0
  have HAV := Lib.hid hav0
  have HKV := Lib.hid hkv0
  clear hgv hav hkv hgv0 hav0 hkv0 hR
  have HMW := Lib.hid (fun (W : World) (hW : Below w.heap.size w W) => specMatchesWalk _ _ _ g a k W (HGV.out.keep hW) (HAV.out.keep hW) (HKV.out.keep hW))
  have HWE := Lib.hid (fun (W : World) (hW : Below w.heap.size w W) => specWalkEnd _ _ g k W (HGV.out.keep hW) (HKV.out.keep hW))
  go_enter Try.func91, Try.ntmps91
  generalize walkEnd g k = we at HR HWE
  go_wp2_with fail
  obtain ⟨W0, hW0⟩ : ∃ W0, W0 = (((w.alloc (.cells #[.slice A1 n1 c1, .slice A2 n2 c2] 45)).alloc (.cells #[.int .i64 a.start, .slice A3 n3 c3, .slice A4 n4 c4] 29)).alloc (.cells #[.int .i64 k.1, .slice A5 n5 c5] 53)) := ⟨_, rfl⟩
  rw [← hW0] at hb0 ⊢
  have bx : Blk W0 w.heap.size 45 #[.slice A1 n1 c1, .slice A2 n2 c2] := by rw [hW0]; exact ((Blk.new w _ _ w.heap.size rfl).alloc _).alloc _
  have by_ : Blk W0 (w.heap.size + 1) 29 #[.int .i64 a.start, .slice A3 n3 c3, .slice A4 n4 c4] := by rw [hW0]; exact (Blk.new (w.alloc _) _ _ (w.heap.size + 1) (by simp)).alloc _
  have bz : Blk W0 (w.heap.size + 1 + 1) 53 #[.int .i64 k.1, .slice A5 n5 c5] := by rw [hW0]; exact Blk.new ((w.alloc _).alloc _) _ _ (w.heap.size + 1 + 1) (by simp)
  have x0 : W0.cell? ⟨w.heap.size, 0, none⟩ = some (.slice A1 n1 c1) := by exact bx.cell 0
  have x1 : W0.cell? ⟨w.heap.size, 1, none⟩ = some (.slice A2 n2 c2) := by exact bx.cell 1
  have y0 : W0.cell? ⟨w.heap.size + 1, 0, none⟩ = some (.int .i64 a.start) := by exact by_.cell 0
  have y1 : W0.cell? ⟨w.heap.size + 1, 1, none⟩ = some (.slice A3 n3 c3) := by exact by_.cell 1
  have y2 : W0.cell? ⟨w.heap.size + 1, 2, none⟩ = some (.slice A4 n4 c4) := by exact by_.cell 2
  have z0 : W0.cell? ⟨w.heap.size + 1 + 1, 0, none⟩ = some (.int .i64 k.1) := by exact bz.cell 0
  have z1 : W0.cell? ⟨w.heap.size + 1 + 1, 1, none⟩ = some (.slice A5 n5 c5) := by exact bz.cell 1
  clear hW0 bx by_ bz
  refine (HMW.out W0 hb0).mono ?_
  rintro e w1 ⟨rfl, hb1⟩
  have hb2 := below_trans hb0 hb1
  have x0 := kcell hb1 x0
  have x1 := kcell hb1 x1
  have y0 := kcell hb1 y0
  have y1 := kcell hb1 y1
  have y2 := kcell hb1 y2
  have z0 := kcell hb1 z0
  have z1 := kcell hb1 z1
  cases h0 : matchB g a k with
  | false =>
    have hfin : R = false := by rw [HR.out, h0]; rfl
    subst hfin
    clear HR
    go_wp2_with fail
    go_ret
    exact ⟨rfl, hb2⟩
  | true =>
    rw [h0, Bool.true_and] at HR
    cases h1 : (k.1 == x) with
    | false =>
      have hfin : R = false := by rw [HR.out, h1]; rfl
      subst hfin
      clear HR
      go_wp2_with fail
      go_ret
      exact ⟨rfl, hb2⟩
    | true =>
      rw [h1, Bool.true_and] at HR
      cases h2 : (we == y) with
      | false =>
        have hfin : R = false := by rw [HR.out, h2]
        subst hfin
        clear HR
        go_wp2_with fail
        refine (HWE.out w1 hb2).mono ?_
        rintro e w3 ⟨rfl, hb3⟩
        go_wp2_with fail
        go_ret
        exact ⟨rfl, below_trans hb2 hb3⟩
      | true =>
        have hfin : R = true := by rw [HR.out, h2]
        subst hfin
        clear HR
        go_wp2_with fail
        refine (HWE.out w1 hb2).mono ?_
        rintro e w3 ⟨rfl, hb3⟩
        go_wp2_with fail
        go_ret
        exact ⟨rfl, below_trans hb2 hb3⟩
end Go.Proofs.Ytgdgelkeflihpaa

/- Counting simple paths, plainly: both sides walk the same arcs in the same order. -/
namespace Go.Proofs.Ytgdgelkeflihpaa
set_option linter.unusedVariables false
set_option linter.unusedSimpArgs false
open Go.ChangeShapes Go.WideShapes Go.ChangeAt Go.RowKit

def cntC (g : Gr) (a : Au) (rec : Nat → Nat → Nat → Int) (x s used : Nat) (n : Int) (p : Arc) : Int :=
  if aft a s (valAt g x) p.2.1.toNat = 0 ∨ used.testBit p.2.2.toNat = true then n
  else wrap64 (n + rec p.2.2.toNat (aft a s (valAt g x) p.2.1.toNat) (ins used p.2.2.toNat))
def cnt0 (g : Gr) (a : Au) (y : Int) (x s : Nat) : Int := if decide ((x : Int) = y) && acc a s (valAt g x) then 1 else 0
def cnt (g : Gr) (a : Au) (y : Int) : Nat → Nat → Nat → Nat → Int
  | 0, _, _, _ => 0
  | f + 1, x, s, used => (arcsOf g (x : Int)).foldl (cntC g a (cnt g a y f) x s used) (cnt0 g a y x s)
def cntTo (g : Gr) (a : Au) (y : Int) (f x s used i : Nat) : Int := ((arcsOf g (x : Int)).take i).foldl (cntC g a (cnt g a y f) x s used) (cnt0 g a y x s)
theorem cntTo_all (g : Gr) (a : Au) (y : Int) (f x s used : Nat) : cntTo g a y f x s used (arcsOf g (x : Int)).length = cnt g a y (f + 1) x s used := by rw [cntTo, List.take_length]; rfl
theorem cntTo_succ {g : Gr} {a : Au} {y : Int} {f x s used i : Nat} {p : Arc} (h : (arcsOf g (x : Int))[i]? = some p) : cntTo g a y f x s used (i + 1) = cntC g a (cnt g a y f) x s used (cntTo g a y f x s used i) p := foldl_take h _
theorem arc_stepEd {g : Gr} (hgo : grOk g = true) {x : Int} {p : Arc} (hp : p ∈ arcsOf g x) : ∃ e : Ed, stepEd g p.1.1 = some e ∧ arcLetter p.1.2 e = p.2.1 ∧ arcTo p.1.2 e = p.2.2 := by
  have hg := grOk_iff.1 hgo
  obtain ⟨i, e, hi, hie, hl, ht, hid, hm⟩ := arc_edge hg hp
  cases hs : stepEd g p.1.1 with
  | none =>
    rw [stepEd, if_pos hgo, List.find?_eq_none] at hs
    exact absurd (hs e hm) (by simp [hid])
  | some e2 =>
    obtain ⟨ix, h1, h2⟩ := stepEd_idx hs
    have : ix = i := by omega
    subst this
    rw [hie] at h2
    injection h2 with h2
    subst h2
    exact ⟨e, rfl, hl.symm, ht.symm⟩
theorem ins_gt {m t : Nat} (h : m.testBit t = false) : m < ins m t := by
  have h1 : m ≤ ins m t := Nat.left_le_or
  have h2 : m ≠ ins m t := fun e => by
    have h3 := ins_test m t t
    rw [← e, h] at h3
    simp at h3
  omega
theorem cntC_no {g : Gr} {a : Au} {rec : Nat → Nat → Nat → Int} {x s used t m : Nat} {n : Int} {p : Arc} (ht : p.2.2 = (t : Int)) (hm : aft a s (valAt g x) p.2.1.toNat = m) (h : m = 0 ∨ used.testBit t = true) : cntC g a rec x s used n p = n := by
  rw [cntC, hm, ht, Int.toNat_natCast, if_pos h]
theorem cntC_yes {g : Gr} {a : Au} {rec : Nat → Nat → Nat → Int} {x s used t m : Nat} {n : Int} {p : Arc} (ht : p.2.2 = (t : Int)) (hm : aft a s (valAt g x) p.2.1.toNat = m) (h : ¬ m = 0) (h2 : used.testBit t = false) : cntC g a rec x s used n p = wrap64 (n + rec t m (ins used t)) := by
  rw [cntC, hm, ht, Int.toNat_natCast, if_neg (by simp [h, h2])]
def cntOk (g : Gr) (a : Au) (x y : Int) : Bool := wi x 0 ((g.vals.length : Int) - 1) && (wi y 0 ((g.vals.length : Int) - 1) && (grOk g && auOk a))
/-- 32 rounds suffice, for a set of five nodes grows with each. -/
def cntSimple (g : Gr) (a : Au) (x y : Int) : Int := if cntOk g a x y = true then cnt g a y 32 x.toNat (bit a.start.toNat) (bit x.toNat) else 0
end Go.Proofs.Ytgdgelkeflihpaa

/- The counting of walks, plainly: the count by recursion, and the layers that the reference builds. -/
namespace Go.Proofs.Ytgdgelkeflihpaa
set_option linter.unusedVariables false
set_option linter.unusedSimpArgs false
open Go.ChangeShapes Go.WideShapes Go.ChangeAt Go.RowKit

def cwStep (g : Gr) (a : Au) (rec : Nat → Nat → Nat) (x s n : Nat) (p : Arc) : Nat := min 1000000 (n + rec p.2.2.toNat (aft a s (valAt g x) p.2.1.toNat))
/-- the walks of f steps from node x with states s to y, at most a million -/
def cw (g : Gr) (a : Au) (y : Int) : Nat → Nat → Nat → Nat
  | 0, x, s => if (decide ((x : Int) = y) && acc a s (valAt g x)) = true then 1 else 0
  | f + 1, x, s => (arcsOf g (x : Int)).foldl (cwStep g a (cw g a y f) x s) 0
def cwTo (g : Gr) (a : Au) (y : Int) (f x s i : Nat) : Nat := ((arcsOf g (x : Int)).take i).foldl (cwStep g a (cw g a y f) x s) 0
theorem cwTo_all (g : Gr) (a : Au) (y : Int) (f x s : Nat) : cwTo g a y f x s (arcsOf g (x : Int)).length = cw g a y (f + 1) x s := by rw [cwTo, List.take_length]; rfl
theorem cwTo_succ {g : Gr} {a : Au} {y : Int} {f x s i : Nat} {p : Arc} (h : (arcsOf g (x : Int))[i]? = some p) : cwTo g a y f x s (i + 1) = cwStep g a (cw g a y f) x s (cwTo g a y f x s i) p := foldl_take h _
theorem mem_of_zero : ∀ k : Nat, mem k 0 = []
  | 0 => rfl
  | k + 1 => by rw [mem_no (by simp), mem_of_zero k]
theorem aft_none (a : Au) (v l : Nat) : aft a 0 v l = 0 := by rw [aft, mem_of_zero]; rfl
theorem acc_none (a : Au) (v : Nat) : acc a 0 v = false := by rw [acc, mem_of_zero]; rfl
theorem foldl_le {g : Gr} {a : Au} {rec : Nat → Nat → Nat} {x s : Nat} : ∀ (l : List Arc) (n : Nat), n ≤ 1000000 → l.foldl (cwStep g a rec x s) n ≤ 1000000
  | [], n, h => h
  | p :: l, n, h => foldl_le l _ (Nat.min_le_left _ _)
theorem cw_le (g : Gr) (a : Au) (y : Int) (f x s : Nat) : cw g a y f x s ≤ 1000000 := by
  cases f with
  | zero => rw [cw]; split <;> omega
  | succ f => exact foldl_le _ 0 (by omega)
theorem cwTo_le (g : Gr) (a : Au) (y : Int) (f x s i : Nat) : cwTo g a y f x s i ≤ 1000000 := foldl_le _ 0 (by omega)
theorem cw_none (g : Gr) (a : Au) (y : Int) : ∀ (f x : Nat), cw g a y f x 0 = 0
  | 0, x => by rw [cw, acc_none]; simp
  | f + 1, x => by
    rw [cw]
    generalize arcsOf g (x : Int) = l
    induction l with
    | nil => rfl
    | cons p l ih =>
      rw [List.foldl_cons, cwStep, aft_none, cw_none g a y f]
      exact ih

/-! ### The layers -/
abbrev Key := Nat × Nat
def findK (N : List Key) (k : Key) : Option Nat := N.findIdx? (fun z => z == k)
theorem findK_some {N : List Key} {k : Key} {i : Nat} (h : findK N k = some i) : N[i]? = some k := by
  obtain ⟨h1, h2, -⟩ := List.findIdx?_eq_some_iff_getElem.1 h
  rw [List.getElem?_eq_getElem h1]
  congr 1
  simpa using h2
abbrev LSt := List Key × List (St × Nat)
def arcL (g : Gr) (a : Au) (x s : Nat) (st : LSt) (p : Arc) : LSt :=
  if aft a s (valAt g x) p.2.1.toNat = 0 then st else
  match findK st.1 (p.2.2.toNat, aft a s (valAt g x) p.2.1.toNat) with
  | some i => (st.1, st.2 ++ [(p.1, i)])
  | none => (st.1 ++ [(p.2.2.toNat, aft a s (valAt g x) p.2.1.toNat)], st.2 ++ [(p.1, st.1.length)])
def rowL (g : Gr) (a : Au) (N : List Key) (x s : Nat) : LSt := (arcsOf g (x : Int)).foldl (arcL g a x s) (N, [])
def cntL (C : List Nat) (n : Nat) (e : St × Nat) : Nat := min 1000000 (n + C.getD e.2 0)
/-- the next layer's nodes, and each node's steps with their ends -/
def layL (g : Gr) (a : Au) : List Key → List Key → List Key × List (List (St × Nat))
  | [], N => (N, [])
  | k :: last, N => ((layL g a last (rowL g a N k.1 k.2).1).1, (rowL g a N k.1 k.2).2 :: (layL g a last (rowL g a N k.1 k.2).1).2)
theorem arcs_fold {g : Gr} {a : Au} {y : Int} {f x s : Nat} : ∀ (l : List Arc) (N : List Key) (T : List (St × Nat)),
    ∃ N2 T2, l.foldl (arcL g a x s) (N, T) = (N ++ N2, T ++ T2) ∧ ∀ (N3 : List Key) (C : List Nat) (n : Nat), (∀ i k, (N ++ N2 ++ N3)[i]? = some k → C.getD i 0 = cw g a y f k.1 k.2) → n ≤ 1000000 →
      T2.foldl (cntL C) n = l.foldl (cwStep g a (cw g a y f) x s) n
  | [], N, T => ⟨[], [], by simp, fun _ _ _ _ _ => rfl⟩
  | p :: l, N, T => by
    by_cases h0 : aft a s (valAt g x) p.2.1.toNat = 0
    · obtain ⟨N2, T2, h1, h2⟩ := arcs_fold (g := g) (a := a) (y := y) (f := f) (x := x) (s := s) l N T
      refine ⟨N2, T2, by rw [List.foldl_cons, arcL, if_pos h0, h1], fun N3 C n hC hn => ?_⟩
      rw [List.foldl_cons, cwStep, h0, cw_none, Nat.add_zero, Nat.min_eq_right hn]
      exact h2 N3 C n hC hn
    · cases hf : findK N (p.2.2.toNat, aft a s (valAt g x) p.2.1.toNat) with
      | some i =>
        obtain ⟨N2, T2, h1, h2⟩ := arcs_fold (g := g) (a := a) (y := y) (f := f) (x := x) (s := s) l N (T ++ [(p.1, i)])
        refine ⟨N2, (p.1, i) :: T2, by rw [List.foldl_cons, arcL, if_neg h0]; simp only [hf]; rw [h1, List.append_assoc]; rfl, fun N3 C n hC hn => ?_⟩
        have hk := findK_some hf
        have hCi := hC i _ (by rw [List.append_assoc, List.getElem?_append_left (List.getElem?_eq_some_iff.1 hk).1]; exact hk)
        rw [List.foldl_cons, List.foldl_cons, cntL, cwStep, hCi]
        exact h2 N3 C _ hC (Nat.min_le_left _ _)
      | none =>
        obtain ⟨N2, T2, h1, h2⟩ := arcs_fold (g := g) (a := a) (y := y) (f := f) (x := x) (s := s) l (N ++ [(p.2.2.toNat, aft a s (valAt g x) p.2.1.toNat)]) (T ++ [(p.1, N.length)])
        refine ⟨(p.2.2.toNat, aft a s (valAt g x) p.2.1.toNat) :: N2, (p.1, N.length) :: T2, by rw [List.foldl_cons, arcL, if_neg h0]; simp only [hf]; rw [h1, List.append_assoc, List.append_assoc]; rfl, fun N3 C n hC hn => ?_⟩
        have hCi := hC N.length _ (by rw [List.append_assoc, List.getElem?_append_right (Nat.le_refl _), Nat.sub_self]; rfl)
        rw [List.foldl_cons, List.foldl_cons, cntL, cwStep, hCi]
        exact h2 N3 C _ (fun i k hk => hC i k (by simpa using hk)) (Nat.min_le_left _ _)
/-- a layer's rows count what the recursion counts -/
theorem layL_cnt {g : Gr} {a : Au} {y : Int} {f : Nat} : ∀ (last N : List Key), ∃ N2, (layL g a last N).1 = N ++ N2 ∧ (layL g a last N).2.length = last.length ∧
    ∀ (N3 : List Key) (C : List Nat), (∀ i k, (N ++ N2 ++ N3)[i]? = some k → C.getD i 0 = cw g a y f k.1 k.2) →
      ∀ (j : Nat) (k : Key) (T : List (St × Nat)), last[j]? = some k → (layL g a last N).2[j]? = some T → T.foldl (cntL C) 0 = cw g a y (f + 1) k.1 k.2
  | [], N => ⟨[], by simp [layL], rfl, fun _ _ _ j k T hj => by simp at hj⟩
  | z :: last, N => by
    obtain ⟨N1, T1, h1, h2⟩ := arcs_fold (g := g) (a := a) (y := y) (f := f) (x := z.1) (s := z.2) (arcsOf g (z.1 : Int)) N []
    obtain ⟨N2, g1, g2, g3⟩ := layL_cnt (g := g) (a := a) (y := y) (f := f) last (N ++ N1)
    have hr : rowL g a N z.1 z.2 = (N ++ N1, T1) := by rw [rowL, h1, List.nil_append]
    refine ⟨N1 ++ N2, by rw [layL, hr]; simp only; rw [g1, List.append_assoc], by rw [layL, hr]; simp only [List.length_cons]; rw [g2], fun N3 C hC j k T hj hT => ?_⟩
    rw [layL, hr] at hT
    cases j with
    | zero =>
      simp only [List.getElem?_cons_zero, Option.some.injEq] at hj hT
      subst hj hT
      rw [h2 (N2 ++ N3) C 0 (fun i k hk => hC i k (by simpa using hk)) (by omega)]
      rfl
    | succ j =>
      simp only [List.getElem?_cons_succ] at hj hT
      exact g3 N3 C (fun i k hk => hC i k (by simpa using hk)) j k T hj hT
end Go.Proofs.Ytgdgelkeflihpaa

