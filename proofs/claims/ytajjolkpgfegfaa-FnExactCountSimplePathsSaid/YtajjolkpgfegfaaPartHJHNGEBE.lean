/- Parts of the proof, joined into one text: WalkM, MatchM, StepI, NodesI, AlongI, NodesS, WalkS. -/
import Derived.Test.YtajjolkpgfegfaaPartPIICNDDB
import Derived.Test.YtajjolkpgfegfaaPartOLOKEFDB
import Derived.Test.YtajjolkpgfegfaaPartEMKLPAPB
import Derived.Test.YtajjolkpgfegfaaPartBLNKPCEN
import Derived.Test.YtajjolkpgfegfaaPartMKPEBINK
import Derived.Test.YtajjolkpgfegfaaPartCDOKCKDD
/- Plain: the nodes of a walk and when it is one of a graph. -/
namespace Go.Proofs.Ytajjolkpgfegfaa
set_option linter.unusedVariables false
set_option linter.unusedSimpArgs false

def nodesL (g : Gr) (k : Wk) : List Int := k.1 :: k.2.map (stepTo g)
theorem nodesL_len (g : Gr) (k : Wk) : (nodesL g k).length = k.2.length + 1 := by simp [nodesL]
theorem nodesL_succ {g : Gr} {k : Wk} {i : Nat} {s : St} (h : k.2[i]? = some s) : (nodesL g k).take (i + 1 + 1) = (nodesL g k).take (i + 1) ++ [stepTo g s] := by
  refine take_snoc ?_
  rw [nodesL, List.getElem?_cons_succ, List.getElem?_map, h]; rfl
theorem nodesL_next {g : Gr} {k : Wk} {i : Nat} {s : St} (h : k.2[i]? = some s) : (nodesL g k)[i + 1]? = some (stepTo g s) := by rw [nodesL, List.getElem?_cons_succ, List.getElem?_map, h]; rfl
/-- the step leads from the node that the walk is at -/
def linkAt (g : Gr) (k : Wk) (i : Nat) : Bool := stepFrom g (k.2.getD i (0, false)) == (nodesL g k).getD i 0
def walkOk (g : Gr) (k : Wk) : Bool := grOk g && wi k.1 0 ((g.vals.length : Int) - 1) && decide (k.2.length ≤ 60) && (List.range k.2.length).all (linkAt g k)
/-- the nodes of a walk of the graph; none of another -/
def nodesOut (g : Gr) (k : Wk) : List Int := if walkOk g k = true then nodesL g k else []
theorem nodesOut_no {g : Gr} {k : Wk} (h : walkOk g k = false) : nodesOut g k = [] := by rw [nodesOut, h]; rfl
theorem nodesOut_yes {g : Gr} {k : Wk} (h : walkOk g k = true) : nodesOut g k = nodesL g k := by rw [nodesOut, h]; rfl
theorem linkAt_eq {g : Gr} {k : Wk} {i : Nat} {s : St} {x : Int} (h : k.2[i]? = some s) (hx : (nodesL g k)[i]? = some x) : linkAt g k i = (stepFrom g s == x) := by
  rw [linkAt, List.getD_eq_getElem?_getD, h, List.getD_eq_getElem?_getD, hx]; rfl
theorem walkOk_long {g : Gr} {k : Wk} (h : 60 < k.2.length) : walkOk g k = false := by
  rw [walkOk, show decide (k.2.length ≤ 60) = false by simp; omega]
  simp
def walkAllowed (g : Gr) (c : Int) (k : Wk) : Bool := k.2.all (stepAllowed g c) && wi c 0 4 && walkOk g k
end Go.Proofs.Ytajjolkpgfegfaa

/- Plain: the sets of states along a walk, and whether a walk matches. -/
namespace Go.Proofs.Ytajjolkpgfegfaa
set_option linter.unusedVariables false
set_option linter.unusedSimpArgs false
/-- node i of a walk -/
def nodeAt (g : Gr) (k : Wk) (i : Nat) : Nat := ((nodesL g k).getD i 0).toNat
def letAt (g : Gr) (k : Wk) (i : Nat) : Nat := (stepLetter g (k.2.getD i (0, false))).toNat
/-- the states behind i steps -/
def setAt (g : Gr) (a : Au) (k : Wk) : Nat → Nat
  | 0 => bit a.start.toNat
  | i + 1 => aft a (setAt g a k i) (valAt g (nodeAt g k i)) (letAt g k i)
def setsL (g : Gr) (a : Au) (k : Wk) (n : Nat) : List Nat := (List.range n).map (setAt g a k)
theorem setsL_len (g : Gr) (a : Au) (k : Wk) (n : Nat) : (setsL g a k n).length = n := by simp [setsL]
theorem setsL_snoc (g : Gr) (a : Au) (k : Wk) (n : Nat) : setsL g a k (n + 1) = setsL g a k n ++ [setAt g a k n] := by simp [setsL, List.range_succ]
theorem setsL_at {g : Gr} {a : Au} {k : Wk} {n i : Nat} (h : i < n) : (setsL g a k n)[i]? = some (setAt g a k i) := by simp [setsL, h]
theorem setAt_lt {g : Gr} {a : Au} (ha : auOk a = true) (k : Wk) (i : Nat) : setAt g a k i < 2 ^ a.accept.length := by
  cases i with
  | zero => exact bit_lt (by have := (auOk_iff.1 ha).2.1; omega)
  | succ i => exact aft_lt ha _ _ _
theorem walkOk_parts {g : Gr} {k : Wk} (h : walkOk g k = true) : GrOk g ∧ (0 ≤ k.1 ∧ k.1 ≤ (g.vals.length : Int) - 1) ∧ k.2.length ≤ 60 ∧ ∀ i, i < k.2.length → linkAt g k i = true := by
  simp only [walkOk, Bool.and_eq_true, wi_iff, decide_eq_true_eq, List.all_eq_true, List.mem_range] at h
  exact ⟨grOk_iff.1 h.1.1.1, h.1.1.2, h.1.2, h.2⟩
theorem stepTo_of {g : Gr} {s : St} {e : Ed} (h : stepEd g s.1 = some e) : stepTo g s = arcTo s.2 e := by
  unfold stepTo stepFrom arcTo
  simp only [h]
  cases s.2 <;> rfl
theorem stepFrom_of {g : Gr} {s : St} {e : Ed} (h : stepEd g s.1 = some e) : stepFrom g s = arcTo (!s.2) e := by
  unfold stepFrom arcTo
  simp only [h]
  cases s.2 <;> rfl
theorem stepLetter_of {g : Gr} {s : St} {e : Ed} (h : stepEd g s.1 = some e) : stepLetter g s = arcLetter s.2 e := by
  unfold stepLetter arcLetter
  simp only [h]
theorem nodeAt_at {g : Gr} {k : Wk} {i : Nat} (h : i ≤ k.2.length) : (nodesL g k)[i]? = some ((nodesL g k).getD i 0) := by
  rw [List.getD_eq_getElem?_getD, List.getElem?_eq_getElem (by rw [nodesL_len]; omega)]; rfl
/-- the nodes of a walk of the graph are nodes of the graph, and its steps are edges of it -/
theorem walk_parts {g : Gr} {k : Wk} (h : walkOk g k = true) : ∀ {i : Nat}, i ≤ k.2.length → (0 ≤ (nodesL g k).getD i 0 ∧ (nodesL g k).getD i 0 ≤ (g.vals.length : Int) - 1) ∧
    (i < k.2.length → ∃ s e, k.2[i]? = some s ∧ stepEd g s.1 = some e ∧ stepFrom g s = (nodesL g k).getD i 0 ∧ stepTo g s = (nodesL g k).getD (i + 1) 0) := by
  obtain ⟨hg, hk, -, hl⟩ := walkOk_parts h
  have step : ∀ i, i < k.2.length → 0 ≤ (nodesL g k).getD i 0 → ∃ s e, k.2[i]? = some s ∧ stepEd g s.1 = some e ∧ stepFrom g s = (nodesL g k).getD i 0 ∧ stepTo g s = (nodesL g k).getD (i + 1) 0 := by
    intro i hi h0
    have hs : k.2[i]? = some k.2[i] := List.getElem?_eq_getElem hi
    generalize k.2[i] = s at hs
    have hlk := hl i hi
    rw [linkAt_eq hs (nodeAt_at (by omega)), beq_iff_eq] at hlk
    have hnx := nodesL_next (g := g) hs
    have hnx2 := nodeAt_at (g := g) (k := k) (i := i + 1) (by omega)
    rw [hnx] at hnx2
    cases he : stepEd g s.1 with
    | none =>
      have := stepFrom_neg.2 he
      omega
    | some e => exact ⟨s, e, hs, he, hlk, by injection hnx2⟩
  intro i
  induction i with
  | zero => exact fun _ => ⟨hk, fun hi => step 0 hi hk.1⟩
  | succ i ih =>
    intro hi
    obtain ⟨hr, hst⟩ := ih (by omega)
    obtain ⟨s, e, hs, he, hf, ht⟩ := hst (by omega)
    have hrange : 0 ≤ stepTo g s ∧ stepTo g s ≤ (g.vals.length : Int) - 1 := by
      rw [stepTo_of he]
      obtain ⟨_, hm, _⟩ := stepEd_ok he
      have := hg.edges e hm
      unfold arcTo
      split <;> omega
    rw [ht] at hrange
    exact ⟨hrange, fun hi2 => step (i + 1) hi2 hrange.1⟩
theorem nodeAt_lt {g : Gr} {k : Wk} (h : walkOk g k = true) {i : Nat} (hi : i ≤ k.2.length) : (nodesL g k)[i]? = some (nodeAt g k i : Int) ∧ nodeAt g k i < g.vals.length := by
  have h1 := (walk_parts h hi).1
  refine ⟨?_, ?_⟩
  · rw [nodeAt_at hi, nodeAt, Int.toNat_of_nonneg h1.1]
  · unfold nodeAt; omega
/-- step i: its edge, its letter, the node behind it -/
theorem walk_step {g : Gr} {k : Wk} (h : walkOk g k = true) {i : Nat} (hi : i < k.2.length) : ∃ s e, k.2[i]? = some s ∧ stepEd g s.1 = some e ∧ arcTo s.2 e = (nodeAt g k (i + 1) : Int) ∧ arcLetter s.2 e = (letAt g k i : Int) ∧ stepLetter g s = (letAt g k i : Int) ∧ letAt g k i < 6 := by
  obtain ⟨s, e, hs, he, -, ht⟩ := (walk_parts h (Nat.le_of_lt hi)).2 hi
  obtain ⟨hg, hm, _⟩ := stepEd_ok he
  have hl := hg.edges e hm
  have h1 := (walk_parts h (show i + 1 ≤ k.2.length from hi)).1
  have hsd : k.2.getD i (0, false) = s := by rw [List.getD_eq_getElem?_getD, hs]; rfl
  have hr : 0 ≤ arcLetter s.2 e ∧ arcLetter s.2 e ≤ 5 := by
    unfold arcLetter
    split <;> omega
  have hla : (letAt g k i : Int) = arcLetter s.2 e := by rw [letAt, hsd, stepLetter_of he, Int.toNat_of_nonneg hr.1]
  refine ⟨s, e, hs, he, ?_, hla.symm, by rw [stepLetter_of he, hla], by omega⟩
  rw [← stepTo_of he, ht, nodeAt, Int.toNat_of_nonneg h1.1]
/-! ### Whether a walk matches -/
def walkEnd (g : Gr) (k : Wk) : Int := if walkOk g k = true then (nodeAt g k k.2.length : Int) else -1
def matchB (g : Gr) (a : Au) (k : Wk) : Bool := (walkOk g k && auOk a) && acc a (setAt g a k k.2.length) (valAt g (nodeAt g k k.2.length))
def isWit (g : Gr) (a : Au) (x y : Int) (k : Wk) : Bool := (k.1 == x && walkEnd g k == y) && matchB g a k
def alongS (g : Gr) (a : Au) (k : Wk) : List Nat := if (walkOk g k && auOk a) = true then setsL g a k (k.2.length + 1) else []
def alongN (g : Gr) (a : Au) (k : Wk) : List Int := if (walkOk g k && auOk a) = true then nodesL g k else []
end Go.Proofs.Ytajjolkpgfegfaa

/- The program's steps of a graph: where they lead from and to, and whether they are allowed. -/
namespace Go.Proofs.Ytajjolkpgfegfaa
set_option linter.unusedVariables false
set_option linter.unusedSimpArgs false
open Go.ChangeShapes Go.WideShapes Go.ChangeAt Go.RowKit
attribute [local go_sem] ext_cell ext_frozen ext_lt ext_lt1 ext_lt2 ext_lt3 ltn2 ltn3 ltn13 lts1 lts2 lts3

set_option maxHeartbeats 1000000 in
theorem implStepEdge (v : Value) (g : Gr) (s : St) (w : World) (hv : GrV 0 w.heap.size w v g) :
    Calls Try.prog 143 #[v, .agg #[.int .i64 s.1, .bool s.2]] w fun en w' => ∃ e : Ed, en = .returned (.tuple #[.agg #[.int .i64 e.1, .int .i64 e.2.1, .int .i64 e.2.2.1, .int .i64 e.2.2.2], .bool (stepEd g s.1).isSome]) ∧ (∀ e', stepEd g s.1 = some e' → e' = e) ∧ Below w.heap.size w w' := by
  have hv0 := hv
  obtain ⟨vs, es, rfl, hvs, ⟨A2, c2, rfl, hl2, hm2, hx2⟩⟩ := hv
  obtain ⟨A1, n1, c1, rfl⟩ := hvs.shape
  obtain ⟨id, inv⟩ := s
  unfold maxLen at hm2
  have hb0 : Below w.heap.size w (((w.alloc (.cells #[.slice A1 n1 c1, .slice A2 g.edges.length c2] 35)).alloc (.cells #[.int .i64 id, .bool inv] 110)).alloc (.cells #[.int .i64 0, .int .i64 0, .int .i64 0, .int .i64 0] 116)) := (((Below.refl _ _).alloc (Nat.le_refl _) _).alloc (by simp) _).alloc (by simp <;> omega) _
  have hspec := edgeIdx_spec g id
  simp only
  go_enter Try.func143, Try.ntmps143
  have HS := Lib.hid hspec
  clear hspec
  go_wp2_with fail
  refine (implEdgeIndex _ g id _ (hv0.keep hb0)).mono ?_
  rintro e w1 ⟨rfl, hb1⟩
  have b0 := (((Blk.new w _ _ w.heap.size rfl).alloc _).alloc _).keep hb1
  have b2 := (Blk.new ((w.alloc _).alloc _) _ _ (w.heap.size + 1 + 1) (by simp)).keep hb1
  have hb2 := below_trans hb0 hb1
  clear hb0 hb1
  rcases HS.out with ⟨hi, hno⟩ | ⟨i, e, hi, hx, he, hno⟩
  · have hnone := stepEd_none hno
    have HN := Lib.hid hnone
    rw [hi]
    have z0 : w1.cell? ⟨w.heap.size + 1 + 1, 0, none⟩ = some _ := b2.cell 0
    have z1 : w1.cell? ⟨w.heap.size + 1 + 1, 1, none⟩ = some _ := b2.cell 1
    have z2 : w1.cell? ⟨w.heap.size + 1 + 1, 2, none⟩ = some _ := b2.cell 2
    have z3 : w1.cell? ⟨w.heap.size + 1 + 1, 3, none⟩ = some _ := b2.cell 3
    have f0 := b2.frozen 0
    have f1 := b2.frozen 1
    have f2 := b2.frozen 2
    have f3 := b2.frozen 3
    clear hnone hno hi HS b0
    go_wp2_with fail
    refine bodyPost_ret (v := .tuple #[.agg #[.int .i64 0, .int .i64 0, .int .i64 0, .int .i64 0], .bool false]) (by simp [results, Try.results143, go_sem, z0, z1, z2, z3]) rfl ⟨(0, 0, 0, 0), by rw [HN.out]; rfl, (by rw [HN.out]; intro e' he'; cases he'), (((hb2.setCell (p := ⟨w.heap.size + 1 + 1, 0, none⟩) (by simp <;> omega) _).setCell (p := ⟨w.heap.size + 1 + 1, 1, none⟩) (by simp <;> omega) _).setCell (p := ⟨w.heap.size + 1 + 1, 2, none⟩) (by simp <;> omega) _).setCell (p := ⟨w.heap.size + 1 + 1, 3, none⟩) (by simp <;> omega) _⟩
  · rw [hi]
    have x0 : w1.cell? ⟨w.heap.size, 0, none⟩ = some _ := b0.cell 0
    have x1 : w1.cell? ⟨w.heap.size, 1, none⟩ = some _ := b0.cell 1
    have hil : i < g.edges.length := (List.getElem?_eq_some_iff.1 hx).1
    cases hg : grOk g with
    | false =>
      have hnone := stepEd_bad id hg
      have HN := Lib.hid hnone
      clear hnone hno HS hx
      go_wp2_with fail
      refine (implValidGraph _ g _ (hv0.keep hb2)).mono ?_
      rintro en w2 ⟨rfl, hb3⟩
      rw [hg]
      have b2 := b2.keep hb3
      have hb2 := below_trans hb2 hb3
      clear hb3 b0 x0 x1
      have z0 : w2.cell? ⟨w.heap.size + 1 + 1, 0, none⟩ = some _ := b2.cell 0
      have z1 : w2.cell? ⟨w.heap.size + 1 + 1, 1, none⟩ = some _ := b2.cell 1
      have z2 : w2.cell? ⟨w.heap.size + 1 + 1, 2, none⟩ = some _ := b2.cell 2
      have z3 : w2.cell? ⟨w.heap.size + 1 + 1, 3, none⟩ = some _ := b2.cell 3
      have f0 := b2.frozen 0
      have f1 := b2.frozen 1
      have f2 := b2.frozen 2
      have f3 := b2.frozen 3
      go_wp2_with fail
      refine bodyPost_ret (v := .tuple #[.agg #[.int .i64 0, .int .i64 0, .int .i64 0, .int .i64 0], .bool false]) (by simp [results, Try.results143, go_sem, z0, z1, z2, z3]) rfl ⟨(0, 0, 0, 0), by rw [HN.out]; rfl, (by rw [HN.out]; intro e' he'; cases he'), (((hb2.setCell (p := ⟨w.heap.size + 1 + 1, 0, none⟩) (by simp <;> omega) _).setCell (p := ⟨w.heap.size + 1 + 1, 1, none⟩) (by simp <;> omega) _).setCell (p := ⟨w.heap.size + 1 + 1, 2, none⟩) (by simp <;> omega) _).setCell (p := ⟨w.heap.size + 1 + 1, 3, none⟩) (by simp <;> omega) _⟩
    | true =>
      have hsome := stepEd_some hg hx he hno
      have HN := Lib.hid hsome
      obtain ⟨b9, o9, rfl, -, hb9, hc9⟩ := hx2 i e hx
      have d0 := hc9 0 _ rfl
      have d1 := hc9 1 _ rfl
      have d2 := hc9 2 _ rfl
      have d3 := hc9 3 _ rfl
      simp only [Nat.add_zero] at d0
      have HI := Lib.hid hi
      clear hsome hno HS hx hc9 hx2 he hi
      go_wp2_with fail
      refine (implValidGraph _ g _ (hv0.keep hb2)).mono ?_
      rintro en w2 ⟨rfl, hb3⟩
      rw [hg]
      have b2 := b2.keep hb3
      have b0 := b0.keep hb3
      have hb2 := below_trans hb2 hb3
      have d0 := (hb2.cell (p := ⟨b9, o9 + i * 4, none⟩) hb9).trans d0
      have d1 := (hb2.cell (p := ⟨b9, o9 + i * 4 + 1, none⟩) hb9).trans d1
      have d2 := (hb2.cell (p := ⟨b9, o9 + i * 4 + 2, none⟩) hb9).trans d2
      have d3 := (hb2.cell (p := ⟨b9, o9 + i * 4 + 3, none⟩) hb9).trans d3
      clear hb3 x0 x1
      have x1 : w2.cell? ⟨w.heap.size, 1, none⟩ = some _ := b0.cell 1
      have z0 : w2.cell? ⟨w.heap.size + 1 + 1, 0, none⟩ = some _ := b2.cell 0
      have z1 : w2.cell? ⟨w.heap.size + 1 + 1, 1, none⟩ = some _ := b2.cell 1
      have z2 : w2.cell? ⟨w.heap.size + 1 + 1, 2, none⟩ = some _ := b2.cell 2
      have z3 : w2.cell? ⟨w.heap.size + 1 + 1, 3, none⟩ = some _ := b2.cell 3
      have f0 := b2.frozen 0
      have f1 := b2.frozen 1
      have f2 := b2.frozen 2
      have f3 := b2.frozen 3
      go_wp2_with fail
      refine bodyPost_ret (v := .tuple #[.agg #[.int .i64 e.1, .int .i64 e.2.1, .int .i64 e.2.2.1, .int .i64 e.2.2.2], .bool true]) (by simp [results, Try.results143, go_sem, z0, z1, z2, z3]) rfl ⟨e, by rw [HN.out]; rfl, (by rw [HN.out]; intro e' he'; injection he' with he'; exact he'.symm), (((hb2.setCell (p := ⟨w.heap.size + 1 + 1, 0, none⟩) (by simp <;> omega) _).setCell (p := ⟨w.heap.size + 1 + 1, 1, none⟩) (by simp <;> omega) _).setCell (p := ⟨w.heap.size + 1 + 1, 2, none⟩) (by simp <;> omega) _).setCell (p := ⟨w.heap.size + 1 + 1, 3, none⟩) (by simp <;> omega) _⟩
set_option maxHeartbeats 1000000 in
theorem implStepFrom (v : Value) (g : Gr) (s : St) (w : World) (hv : GrV 0 w.heap.size w v g) :
    Calls Try.prog 134 #[v, .agg #[.int .i64 s.1, .bool s.2]] w fun en w' => en = .returned (.int .i64 (stepFrom g s)) ∧ Below w.heap.size w w' := by
  have hv0 := hv
  obtain ⟨A1, n1, c1, A2, n2, c2, rfl⟩ := hv.shape
  clear hv
  obtain ⟨id, inv⟩ := s
  have hb0 : Below w.heap.size w ((w.alloc (.cells #[.slice A1 n1 c1, .slice A2 n2 c2] 35)).alloc (.cells #[.int .i64 id, .bool inv] 110)) := ((Below.refl _ _).alloc (Nat.le_refl _) _).alloc (by simp) _
  have hc := fun W (hW : Below w.heap.size w W) => implStepEdge _ g (id, inv) W (hv0.keep hW)
  simp only at hc ⊢
  have HC := Lib.hid hc
  clear hc
  cases hs : stepEd g id with
  | none =>
    have hres : stepFrom g (id, inv) = -1 := by rw [stepFrom]; simp [hs]
    have HR := Lib.hid hres
    rw [hs] at HC
    clear hres hs
    go_enter Try.func134, Try.ntmps134
    go_wp2_with fail
    refine (HC.out _ hb0).mono ?_
    rintro en w1 ⟨e, rfl, -, hb1⟩
    have hb2 := below_trans hb0 hb1
    clear hb0 hb1
    go_wp2_with fail
    go_ret
    exact ⟨ret_int HR.out.symm, hb2.alloc hb2.size _⟩
  | some e =>
    rw [hs] at HC
    have hres : stepFrom g (id, inv) = if inv then e.2.2.1 else e.2.1 := by rw [stepFrom]; simp [hs]
    have HR := Lib.hid hres
    clear hres hs
    go_enter Try.func134, Try.ntmps134
    go_wp2_with fail
    refine (HC.out _ hb0).mono ?_
    rintro en w1 ⟨e1, rfl, he1, hb1⟩
    obtain rfl := he1 e rfl
    have b1 := (Blk.new (w.alloc _) _ _ (w.heap.size + 1) (by simp)).keep hb1
    have y1 : w1.cell? ⟨w.heap.size + 1, 1, none⟩ = some _ := b1.cell 1
    have hlt := b1.lt
    have hb2 := below_trans hb0 hb1
    clear hb0 hb1 he1 b1
    cases inv with
    | true =>
      go_wp2_with fail
      go_ret
      exact ⟨ret_int HR.out.symm, hb2.alloc hb2.size _⟩
    | false =>
      go_wp2_with fail
      go_ret
      exact ⟨ret_int HR.out.symm, hb2.alloc hb2.size _⟩

set_option maxHeartbeats 1000000 in
theorem implStepTo (v : Value) (g : Gr) (s : St) (w : World) (hv : GrV 0 w.heap.size w v g) :
    Calls Try.prog 135 #[v, .agg #[.int .i64 s.1, .bool s.2]] w fun en w' => en = .returned (.int .i64 (stepTo g s)) ∧ Below w.heap.size w w' := by
  have hv0 := hv
  obtain ⟨A1, n1, c1, A2, n2, c2, rfl⟩ := hv.shape
  clear hv
  obtain ⟨id, inv⟩ := s
  have hb0 : Below w.heap.size w ((w.alloc (.cells #[.slice A1 n1 c1, .slice A2 n2 c2] 35)).alloc (.cells #[.int .i64 id, .bool inv] 110)) := ((Below.refl _ _).alloc (Nat.le_refl _) _).alloc (by simp) _
  simp only
  go_enter Try.func135, Try.ntmps135
  go_wp2_with fail
  refine (implStepFrom _ g (id, !inv) _ (hv0.keep hb0)).mono ?_
  rintro en w1 ⟨rfl, hb1⟩
  go_wp2_with fail
  go_ret
  exact ⟨rfl, below_trans hb0 hb1⟩


theorem getD_eqS {xs : List Int} {i : Nat} {x : Int} (h : xs[i]? = some x) : xs.getD i 0 = x := by rw [List.getD_eq_getElem?_getD, h]; rfl

end Go.Proofs.Ytajjolkpgfegfaa

/- The program's walks: their nodes, and when they are walks of a graph. -/
namespace Go.Proofs.Ytajjolkpgfegfaa
set_option linter.unusedVariables false
set_option linter.unusedSimpArgs false
open Go.ChangeShapes Go.WideShapes Go.ChangeAt Go.RowKit
attribute [local go_sem] ext_cell ext_frozen ext_lt ext_lt1 ext_lt2 ext_lt3 ltn2 ltn3 ltn13 lts1 lts2 lts3

theorem row_shape {W : World} {base k n : Nat} {e : TypeId} {v : Value} {cs : List Value} (h : W.ownsRow base e k v n cs) (hn : n ≠ 0) : ∃ g c, v = .slice (some ⟨g, 0, none⟩) n c ∧ base ≤ g ∧ g < W.heap.size ∧ n ≤ c ∧ c ≤ maxLen := by
  have hlt := h.lt
  obtain ⟨hl, hs⟩ := h
  rcases hs with ⟨_, h0⟩ | ⟨g, cap, cur, rfl, hg, hh, hnc, hcm, r⟩
  · exact absurd h0 hn
  · exact ⟨g, cap, rfl, hg, (hlt g rfl).2, hnc, hcm⟩

set_option maxHeartbeats 4000000 in
theorem implNodes (v1 v2 : Value) (g : Gr) (k : Wk) (w : World) (hv1 : GrV 0 w.heap.size w v1 g) (hv2 : WkV 0 w.heap.size w v2 k) :
    Calls Try.prog 107 #[v1, v2] w fun en w' => ∃ v, en = .returned (.tuple #[v, .bool (walkOk g k)]) ∧ Own w.heap.size w'.heap.size w' 3 cI 1 v (nodesOut g k) ∧ Below w.heap.size w w' := by
  have hv0 := hv1
  obtain ⟨vs, es, rfl, ⟨A1, c1, rfl, hl1, hm1, -⟩, hes⟩ := hv1
  obtain ⟨A2, n2, c2, rfl⟩ := hes.shape
  obtain ⟨ss, rfl, ⟨A3, c3, rfl, hl3, hm3, hx3⟩⟩ := hv2
  unfold maxLen at hm1 hm3
  obtain ⟨st, steps⟩ := k
  simp only at *
  have hb0 : Below w.heap.size w ((w.alloc (.cells #[.slice A1 g.vals.length c1, .slice A2 n2 c2] 35)).alloc (.cells #[.int .i64 st, .slice A3 steps.length c3] 62)) := ((Below.refl _ _).alloc (Nat.le_refl _) _).alloc (by simp) _
  have HX3 := Lib.hid hx3
  have hwo : walkOk g (st, steps) = (grOk g && wi st 0 ((g.vals.length : Int) - 1) && decide (steps.length ≤ 60) && (List.range steps.length).all (linkAt g (st, steps))) := rfl
  have HW := Lib.hid hwo
  clear hx3 hes hwo
  have hvg := implValidGraph _ g _ (hv0.keep hb0)
  have HV := Lib.hid hvg
  clear hvg
  go_enter Try.func107, Try.ntmps107
  go_wp2_with fail
  refine HV.out.mono ?_
  rintro e w1 ⟨rfl, hb1⟩
  have b0 := ((Blk.new w _ _ w.heap.size rfl).alloc _).keep hb1
  have b1 := (Blk.new (w.alloc _) _ _ (w.heap.size + 1) (by simp)).keep hb1
  have hb2 := below_trans hb0 hb1
  clear hb0 hb1 HV
  have x0 : w1.cell? ⟨w.heap.size, 0, none⟩ = some _ := b0.cell 0
  have x1 : w1.cell? ⟨w.heap.size, 1, none⟩ = some _ := b0.cell 1
  have y0 : w1.cell? ⟨w.heap.size + 1, 0, none⟩ = some _ := b1.cell 0
  have y1 : w1.cell? ⟨w.heap.size + 1, 1, none⟩ = some _ := b1.cell 1
  have hlt1 := b1.lt
  have HWI := Lib.hid within_any
  cases hg : grOk g with
  | false =>
    have hfin : walkOk g (st, steps) = false := by rw [HW.out, hg]; rfl
    have HF := Lib.hid hfin
    clear HW hfin hg
    go_wp2_with fail
    go_ret2
    exact ⟨_, by rw [HF.out]; rfl, by rw [nodesOut_no HF.out]; exact Own.nil _ _ _ _ _ _, hb2⟩
  | true =>
    have q1 : IntKind.i64.wrap ((g.vals.length : Int) - 1) = (g.vals.length : Int) - 1 := IntWalk.i64_in _ (by omega)
    cases hs : wi st 0 ((g.vals.length : Int) - 1) with
    | false =>
      have hfin : walkOk g (st, steps) = false := by rw [HW.out, hg, hs]; rfl
      have HF := Lib.hid hfin
      clear HW hfin hg
      go_wp2_with (go_at_call 89; refine (HWI.out _ _ _ _).mono ?_; rintro e w' ⟨rfl, rfl⟩)
      go_ret2
      exact ⟨_, by rw [HF.out]; rfl, by rw [nodesOut_no HF.out]; exact Own.nil _ _ _ _ _ _, hb2⟩
    | true =>
      by_cases hlen : steps.length ≤ 60
      · have hlen' : decide ((steps.length : Int) > 60) = false := by simp; omega
        have hfin : walkOk g (st, steps) = (List.range steps.length).all (linkAt g (st, steps)) := by rw [HW.out, hg, hs]; simp [hlen]
        have HF := Lib.hid hfin
        clear HW hfin hg
        go_wp2_with (go_at_call 89; refine (HWI.out _ _ _ _).mono ?_; rintro e w1 ⟨rfl, rfl⟩)
        have HS := Lib.hid hs
        clear hs
        go_loopw [6, 34] (fun out ii wr => ∃ i : Nat, i ≤ steps.length ∧ ii = .int .i64 i ∧ (List.range i).all (linkAt g (st, steps)) = true ∧ wr.ownsRow w1.heap.size 3 1 out ((nodesL g (st, steps)).take (i + 1)).length (((nodesL g (st, steps)).take (i + 1)).flatMap cI) ∧ Below w1.heap.size w1 wr) (fun _ ii _ => steps.length - (intOf ii).toNat)
        case atStart => exact ⟨0, Nat.zero_le _, rfl, rfl, World.ownsRow_lit w1 #[.int .i64 st] 1 (Nat.le_refl _) (by decide) rfl, (Below.refl _ _).alloc (Nat.le_refl _) _⟩
        case round =>
          obtain ⟨i, hi, rfl, hal, hrow, hbel⟩ := hrel
          have HA := Lib.hid hal
          have hbw := below_trans hb2 hbel
          have hml : ((nodesL g (st, steps)).take (i + 1)).length = i + 1 := by rw [List.length_take, nodesL_len]; simp only; omega
          clear hal
          by_cases hlt : i < steps.length
          · have hxs : steps[i]? = some steps[i] := List.getElem?_eq_getElem hlt
            generalize steps[i] = s at hxs
            obtain ⟨sid, sinv⟩ := s
            obtain ⟨b, o, rfl, -, hb, hc⟩ := HX3.out i _ hxs
            have d0 := hc 0 _ rfl
            have d1 := hc 1 _ rfl
            simp only [Nat.add_zero] at d0
            have d0 := (hbw.cell (p := ⟨_, _, none⟩) hb).trans d0
            have d1 := (hbw.cell (p := ⟨_, _, none⟩) hb).trans d1
            obtain ⟨x, hxl⟩ : ∃ x, (nodesL g (st, steps))[i]? = some x := ⟨_, List.getElem?_eq_getElem (by rw [nodesL_len]; simp only; omega)⟩
            obtain ⟨gb, cp, hv, hg1, hg2, hnc, hcm⟩ := row_shape hrow (by omega)
            obtain ⟨m, hm⟩ : ∃ m, m = i + 1 := ⟨_, rfl⟩
            rw [hml, ← hm] at hv
            subst hv
            have hrm := hrow
            rw [show ((nodesL g (st, steps)).take (i + 1)).length = m by rw [hml, hm]] at hrm
            have c0 := (World.ownsRow.cellAt hrm i (by omega)).trans (by have := flat_at cI_len (xs := (nodesL g (st, steps)).take (i + 1)) (i := i) (x := x) (by rw [List.getElem?_take]; simp [hxl]) 0 _ rfl; simpa using this)
            clear hrm
            have hf := fun W (hW : Below w.heap.size w W) => implStepFrom _ g (sid, sinv) W (hv0.keep hW)
            have ht := fun W (hW : Below w.heap.size w W) => implStepTo _ g (sid, sinv) W (hv0.keep hW)
            have hlk := linkAt_eq (k := (st, steps)) hxs hxl
            have HLK := Lib.hid hlk
            have HFF := Lib.hid hf
            have HTT := Lib.hid ht
            have HXS := Lib.hid hxs
            have HROW := Lib.hid hrow
            have hbx := fun (X : Obj) u => below_trans (hbw.alloc hbw.size X) (ext_below (wr.alloc X) u)
            have x0 := (hbel.cell (p := ⟨_, _, none⟩) (by simp only; omega)).trans x0
            have x1 := (hbel.cell (p := ⟨_, _, none⟩) (by simp only; omega)).trans x1
            have hs1 := hbel.size
            have q2 : IntKind.i64.wrap ((m : Int) - 1) = (i : Int) := by rw [IntWalk.i64_in _ (by omega)]; omega
            have q3 : (i : Int) < (m : Int) := by omega
            have HM := Lib.hid hm
            clear hlk hf ht hxs hrow hml hm hxl hc q1 hnc hcm
            generalize stepFrom g (sid, sinv) = y at HLK HFF
            have k0 : w.heap.size < wr.heap.size := by omega
            by_cases hyx : y = x
            · have hq : (y != x) = false := by simp [hyx]
              have HYX := Lib.hid hyx
              clear hyx
              go_wp2_with fail
              refine wp_region_ext_lit (by kernel_rfl) (by kernel_rfl) ?_
              repeat (go_big_quiet_step ((go_at_call 134; exact Calls.ext_of (HFF.out _ (hbx _ _)))))
              refine wpQuiet_nil ?_
              intro _ hw'
              obtain ⟨u2, hw''⟩ := hw'
              subst hw''
              go_wp2_with fail
              refine (HTT.out _ (hbx _ _)).mono ?_
              rintro e w3 ⟨rfl, hb3⟩
              have hw3 := below_trans (Below.refl wr.heap.size wr |>.alloc (Nat.le_refl _) _) (below_trans (ext_below _ u2) hb3)
              have hrow3 := ownsRow_below HROW.out hw3 (Nat.le_refl _)
              have hs3 := Nat.le_trans hs1 hw3.size
              have hbel3 := below_trans hbel hw3
              have htl : ((nodesL g (st, steps)).take (i + 1)).length ≤ 61 := by rw [List.length_take]; omega
              clear hb3 hbx
              go_wp2_with (at_builtin; (refine wpList_append1 cI elInt rfl _ _ rfl w1.heap.size (.slice (some ⟨gb, 0, none⟩) m cp) ((nodesL g (st, steps)).take (i + 1)) (stepTo g (sid, sinv)) _ 1 _ (by rfl) hrow3 (by rfl) rfl rfl rfl (cI_one _) (by omega) (by omega) hs3 ?_); rw [← nodesL_succ HXS.out]; intro v' w4 hrow' hb4 _ _)
              go_roundw
              case rel => exact ⟨i + 1, by omega, by go_num, range_all_succ HA.out (by rw [HLK.out, HYX.out]; simp), hrow', hbel3.trans hb4⟩
              case measure => simp [intOf]; omega
            · have hq : (y != x) = true := by simp [hyx]
              have HYX := Lib.hid hyx
              clear hyx
              go_wp2_with fail
              refine wp_region_ext_lit (by kernel_rfl) (by kernel_rfl) ?_
              repeat (go_big_quiet_step ((go_at_call 134; exact Calls.ext_of (HFF.out _ (hbx _ _)))))
              refine wpQuiet_nil ?_
              intro _ hw'
              obtain ⟨u2, hw''⟩ := hw'
              subst hw''
              have hfin : walkOk g (st, steps) = false := by rw [HF.out]; exact range_all_false hlt (by rw [HLK.out]; simpa using HYX.out)
              have HFI := Lib.hid hfin
              clear hfin
              go_wp2_with fail
              go_ret2
              exact ⟨_, by rw [HFI.out]; rfl, by rw [nodesOut_no HFI.out]; exact Own.nil _ _ _ _ _ _, hbx _ _⟩
          · obtain rfl : i = steps.length := by omega
            have hfin : walkOk g (st, steps) = true := by rw [HF.out, HA.out]
            have HFF := Lib.hid hfin
            have htk : (nodesL g (st, steps)).take (steps.length + 1) = nodesL g (st, steps) := List.take_of_length_le (by rw [nodesL_len]; simp)
            rw [htk] at hrow
            have HROW := Lib.hid hrow
            clear hfin HF HA htk hml hrow
            go_wp2_with fail
            go_ret2
            exact ⟨_, by rw [HFF.out]; rfl, by rw [nodesOut_yes HFF.out]; exact (Own.of_row HROW.out rfl rfl).mono hb2.size (Nat.le_refl _), hbw⟩
      · have hlen' : decide ((steps.length : Int) > 60) = true := by simp; omega
        have hfin : walkOk g (st, steps) = false := by rw [HW.out]; simp [hlen]
        have HF := Lib.hid hfin
        clear HW hfin hg
        go_wp2_with (go_at_call 89; refine (HWI.out _ _ _ _).mono ?_; rintro e w' ⟨rfl, rfl⟩)
        go_ret2
        exact ⟨_, by rw [HF.out]; rfl, by rw [nodesOut_no HF.out]; exact Own.nil _ _ _ _ _ _, hb2⟩
end Go.Proofs.Ytajjolkpgfegfaa

/- The program's walks in the product: StepLetter, along, WalkEnd, MatchesWalk, IsWitness. -/
namespace Go.Proofs.Ytajjolkpgfegfaa
set_option linter.unusedVariables false
set_option linter.unusedSimpArgs false
open Go.ChangeShapes Go.WideShapes Go.ChangeAt Go.RowKit
attribute [local go_sem] ext_cell ext_frozen ext_lt ext_lt1 ext_lt2 ext_lt3 ltn2 ltn3 ltn13 lts1 lts2 lts3

set_option maxHeartbeats 1000000 in
theorem implStepLetter (v : Value) (g : Gr) (s : St) (w : World) (hv : GrV 0 w.heap.size w v g) :
    Calls Try.prog 128 #[v, .agg #[.int .i64 s.1, .bool s.2]] w fun en w' => en = .returned (.int .i64 (stepLetter g s)) ∧ Below w.heap.size w w' := by
  have hv0 := hv
  obtain ⟨A1, n1, c1, A2, n2, c2, rfl⟩ := hv.shape
  clear hv
  obtain ⟨id, inv⟩ := s
  have hb0 : Below w.heap.size w ((w.alloc (.cells #[.slice A1 n1 c1, .slice A2 n2 c2] 35)).alloc (.cells #[.int .i64 id, .bool inv] 110)) := ((Below.refl _ _).alloc (Nat.le_refl _) _).alloc (by simp) _
  have hc := fun W (hW : Below w.heap.size w W) => implStepEdge _ g (id, inv) W (hv0.keep hW)
  simp only at hc ⊢
  have HC := Lib.hid hc
  clear hc
  cases hs : stepEd g id with
  | none =>
    have hres : stepLetter g (id, inv) = -1 := by rw [stepLetter]; simp [hs]
    have HR := Lib.hid hres
    rw [hs] at HC
    clear hres hs
    go_enter Try.func128, Try.ntmps128
    go_wp2_with fail
    refine (HC.out _ hb0).mono ?_
    rintro en w1 ⟨e, rfl, -, hb1⟩
    have hb2 := below_trans hb0 hb1
    clear hb0 hb1
    go_wp2_with fail
    go_ret
    exact ⟨ret_int HR.out.symm, hb2.alloc hb2.size _⟩
  | some e =>
    rw [hs] at HC
    have hres : stepLetter g (id, inv) = arcLetter inv e := stepLetter_of (s := (id, inv)) hs
    obtain ⟨hg, hm, -⟩ := stepEd_ok hs
    have hl := (hg.edges e hm).2.2.2
    have HR := Lib.hid hres
    clear hres hs hg hm
    go_enter Try.func128, Try.ntmps128
    go_wp2_with fail
    refine (HC.out _ hb0).mono ?_
    rintro en w1 ⟨e1, rfl, he1, hb1⟩
    obtain rfl := he1 e rfl
    have b1 := (Blk.new (w.alloc _) _ _ (w.heap.size + 1) (by simp)).keep hb1
    have y1 : w1.cell? ⟨w.heap.size + 1, 1, none⟩ = some _ := b1.cell 1
    have hlt := b1.lt
    have hb2 := below_trans hb0 hb1
    have hb3 := hb2.alloc hb2.size (.cells #[.int .i64 e.1, .int .i64 e.2.1, .int .i64 e.2.2.1, .int .i64 e.2.2.2] 116)
    clear hb0 hb1 he1 b1
    go_wp2_with fail
    refine (reads_any e inv _ hl.1 hl.2).mono ?_
    rintro en w2 ⟨rfl, hb4⟩
    go_wp2_with fail
    go_ret
    exact ⟨ret_int HR.out.symm, below_trans hb3 hb4⟩

theorem flatN_at {xs : List Nat} {t : Nat} {x : Nat} (h : xs[t]? = some x) : (xs.flatMap cN)[t]? = some (.int .i64 (x : Int)) := by
  have := flat_at cN_len h 0 _ rfl
  simpa using this
set_option maxHeartbeats 8000000 in
set_option maxRecDepth 100000 in
theorem along_any (vg va vk : Value) (g : Gr) (a : Au) (k : Wk) (w : World) (hgv : GrV 0 w.heap.size w vg g) (hav : AuV 0 w.heap.size w va a) (hkv : WkV 0 w.heap.size w vk k) :
    Calls Try.prog 96 #[vg, va, vk] w fun e w' => ∃ v1 v2, e = .returned (.tuple #[v1, v2, .bool (walkOk g k && auOk a)]) ∧ Own w.heap.size w'.heap.size w' 3 cN 1 v1 (alongS g a k) ∧ Own w.heap.size w'.heap.size w' 3 cI 1 v2 (alongN g a k) ∧ Below w.heap.size w w' := by
  have hgv0 := hgv
  have hav0 := hav
  have hkv0 := hkv
  obtain ⟨A1, c1, A2, c2, rfl, hl1, hm1, hl2, hm2, hC1, -⟩ := hgv.form
  obtain ⟨A3, n3, c3, A4, n4, c4, rfl⟩ := hav.shape
  obtain ⟨A5, c5, rfl, hl5, hm5, hC5⟩ := hkv.form
  have hb0 : Below w.heap.size w (((w.alloc (.cells #[.slice A1 g.vals.length c1, .slice A2 g.edges.length c2] 35)).alloc (.cells #[.int .i64 a.start, .slice A3 n3 c3, .slice A4 n4 c4] 37)).alloc (.cells #[.int .i64 k.1, .slice A5 k.2.length c5] 62)) := (((Below.refl _ _).alloc (Nat.le_refl _) _).alloc (by simp) _).alloc (by simp; omega) _
  obtain ⟨RS, hRS⟩ : ∃ RS, RS = alongS g a k := ⟨_, rfl⟩
  obtain ⟨RN, hRN⟩ : ∃ RN, RN = alongN g a k := ⟨_, rfl⟩
  obtain ⟨ok, hok⟩ : ∃ ok, ok = (walkOk g k && auOk a) := ⟨_, rfl⟩
  rw [← hRS, ← hRN, ← hok]
  have HOK := Lib.hid hok
  have HRS := Lib.hid hRS
  have HRN := Lib.hid hRN
  have HGV := Lib.hid hgv0
  have HAV := Lib.hid hav0
  have HKV := Lib.hid hkv0
  have HC1 := Lib.hid hC1
  have HC5 := Lib.hid hC5
  clear hgv hav hkv hgv0 hav0 hkv0 hC1 hC5 hRS hRN hok
  go_enter Try.func96, Try.ntmps96
  go_wp2_with fail
  obtain ⟨W0, hW0⟩ : ∃ W0, W0 = (((w.alloc (.cells #[.slice A1 g.vals.length c1, .slice A2 g.edges.length c2] 35)).alloc (.cells #[.int .i64 a.start, .slice A3 n3 c3, .slice A4 n4 c4] 37)).alloc (.cells #[.int .i64 k.1, .slice A5 k.2.length c5] 62)) := ⟨_, rfl⟩
  rw [← hW0] at hb0 ⊢
  have bx : Blk W0 w.heap.size 35 #[.slice A1 g.vals.length c1, .slice A2 g.edges.length c2] := by rw [hW0]; exact ((Blk.new w _ _ w.heap.size rfl).alloc _).alloc _
  have by_ : Blk W0 (w.heap.size + 1) 37 #[.int .i64 a.start, .slice A3 n3 c3, .slice A4 n4 c4] := by rw [hW0]; exact (Blk.new (w.alloc _) _ _ (w.heap.size + 1) (by simp)).alloc _
  have bz : Blk W0 (w.heap.size + 1 + 1) 62 #[.int .i64 k.1, .slice A5 k.2.length c5] := by rw [hW0]; exact Blk.new ((w.alloc _).alloc _) _ _ (w.heap.size + 1 + 1) (by simp)
  have x0 : W0.cell? ⟨w.heap.size, 0, none⟩ = some (.slice A1 g.vals.length c1) := by exact bx.cell 0
  have x1 : W0.cell? ⟨w.heap.size, 1, none⟩ = some (.slice A2 g.edges.length c2) := by exact bx.cell 1
  have y0 : W0.cell? ⟨w.heap.size + 1, 0, none⟩ = some (.int .i64 a.start) := by exact by_.cell 0
  have y1 : W0.cell? ⟨w.heap.size + 1, 1, none⟩ = some (.slice A3 n3 c3) := by exact by_.cell 1
  have y2 : W0.cell? ⟨w.heap.size + 1, 2, none⟩ = some (.slice A4 n4 c4) := by exact by_.cell 2
  have z0 : W0.cell? ⟨w.heap.size + 1 + 1, 0, none⟩ = some (.int .i64 k.1) := by exact bz.cell 0
  have z1 : W0.cell? ⟨w.heap.size + 1 + 1, 1, none⟩ = some (.slice A5 k.2.length c5) := by exact bz.cell 1
  have hs0 : w.heap.size + 1 + 1 + 1 = W0.heap.size := by rw [hW0]; simp
  have l0 : w.heap.size + 1 + 1 < W0.heap.size := by omega
  clear hW0 hs0 bx by_ bz
  have hnod := implNodes _ _ g k W0 (HGV.out.keep hb0) (HKV.out.keep hb0)
  have HNOD := Lib.hid hnod
  clear hnod
  cases hw : walkOk g k with
  | false =>
    rw [hw] at HNOD
    have hfS : RS = [] := by rw [HRS.out, alongS, hw]; rfl
    have hfN : RN = [] := by rw [HRN.out, alongN, hw]; rfl
    have hfK : ok = false := by rw [HOK.out, hw]; rfl
    subst hfS hfN hfK
    refine HNOD.out.mono ?_
    rintro e w1 ⟨v1, rfl, ho1, hb1⟩
    obtain ⟨A6, c6, rfl, -, -, -⟩ := ho1.form cI_len
    clear hw HRS HRN HOK
    go_wp2_with fail
    go_ret3
    exact ⟨_, _, rfl, Own.nil _ _ _ _ _ _, Own.nil _ _ _ _ _ _, below_trans hb0 hb1⟩
  | true =>
    rw [hw] at HNOD
    cases ha : auOk a with
    | false =>
      have hfS : RS = [] := by rw [HRS.out, alongS, hw, ha]; rfl
      have hfN : RN = [] := by rw [HRN.out, alongN, hw, ha]; rfl
      have hfK : ok = false := by rw [HOK.out, hw, ha]; rfl
      subst hfS hfN hfK
      have HA := Lib.hid ha
      clear hw HRS HRN ha HOK
      refine HNOD.out.mono ?_
      rintro e w1 ⟨v1, rfl, ho1, hb1⟩
      obtain ⟨A6, c6, rfl, -, -, -⟩ := ho1.form cI_len
      have hb2 := below_trans hb0 hb1
      have y0 := kcell hb1 y0
      have y1 := kcell hb1 y1
      have y2 := kcell hb1 y2
      have l0 := Nat.lt_of_lt_of_le l0 hb1.size
      go_wp2_with fail
      refine (implValidAutomaton _ a _ (HAV.out.keep hb2)).mono ?_
      rw [HA.out]
      rintro e w2 ⟨rfl, hb3⟩
      go_wp2_with fail
      go_ret3
      exact ⟨_, _, rfl, Own.nil _ _ _ _ _ _, Own.nil _ _ _ _ _ _, below_trans hb2 hb3⟩
    | true =>
      have hfS : RS = setsL g a k (k.2.length + 1) := by rw [HRS.out, alongS, hw, ha]; rfl
      have hfN : RN = nodesL g k := by rw [HRN.out, alongN, hw, ha]; rfl
      have HFS := Lib.hid hfS
      have HFN := Lib.hid hfN
      have HW := Lib.hid hw
      have HA := Lib.hid ha
      have hfK : ok = true := by rw [HOK.out, hw, ha]; rfl
      subst hfK
      clear hw HRS HRN ha hfS hfN HOK
      refine HNOD.out.mono ?_
      rintro e w1 ⟨v1, rfl, ho1, hb1⟩
      rw [nodesOut_yes HW.out] at ho1
      obtain ⟨A6, c6, rfl, hl6, hm6, -⟩ := ho1.form cI_len
      have hb2 := below_trans hb0 hb1
      have x0 := kcell hb1 x0
      have x1 := kcell hb1 x1
      have y0 := kcell hb1 y0
      have y1 := kcell hb1 y1
      have y2 := kcell hb1 y2
      have z0 := kcell hb1 z0
      have z1 := kcell hb1 z1
      have l0 := Nat.lt_of_lt_of_le l0 hb1.size
      have HO1 := Lib.hid ho1
      clear ho1 HNOD
      rw [nodesL_len] at hl6 ⊢
      go_wp2_with fail
      refine (implValidAutomaton _ a _ (HAV.out.keep hb2)).mono ?_
      rw [HA.out]
      rintro e w2 ⟨rfl, hb3⟩
      have hbw := below_trans hb2 hb3
      have x0 := kcell hb3 x0
      have x1 := kcell hb3 x1
      have y0 := kcell hb3 y0
      have y1 := kcell hb3 y1
      have y2 := kcell hb3 y2
      have z0 := kcell hb3 z0
      have z1 := kcell hb3 z1
      have l0 := Nat.lt_of_lt_of_le l0 hb3.size
      obtain ⟨⟨hn1, hn12⟩, ⟨hst0, hst1⟩, -, -⟩ := auOk_iff.1 HA.out
      obtain ⟨s, hs⟩ : ∃ s : Nat, a.start = (s : Int) := ⟨a.start.toNat, by omega⟩
      rw [hs] at y0 HAV
      have hsn : s < a.accept.length := by omega
      have e1 := shl_bit (s := s) (by omega)
      have hS1 : setsL g a k (0 + 1) = [bit s] := by simp [setsL, setAt, hs]
      have HS1 := Lib.hid hS1
      have hr1 := ownsRow_below (HO1.out.1) hb3 (Nat.le_refl _)
      rw [nodesL_len] at hr1
      obtain ⟨gN, cN', hvN, -, hgN, -, -⟩ := own_some hr1 (by omega)
      injection hvN with e2 _ e3
      subst e2
      subst e3
      have HR1 := Lib.hid hr1
      have HB3 := Lib.hid hb3
      have hs3 := hb3.size
      have hs2 := hb2.size
      have hg3 := (walkOk_parts HW.out).2.2.1
      have HGO := Lib.hid (walkOk_parts HW.out).1
      clear hs hst0 hst1 hS1 hr1 hb3 hb1 hb0 HO1
      go_wp2_with fail
      go_loopw [11, 34] (fun ss ii wr => ∃ i : Nat, i ≤ k.2.length ∧ ii = .int .i64 (i : Int) ∧ wr.ownsRow w2.heap.size 3 1 ss (setsL g a k (i + 1)).length ((setsL g a k (i + 1)).flatMap cN) ∧ Below w2.heap.size w2 wr) (fun _ ii _ => k.2.length - (intOf ii).toNat)
      case atStart => exact ⟨0, Nat.zero_le _, rfl, by rw [HS1.out]; exact World.ownsRow_lit w2 #[.int .i64 (bit s : Int)] 1 (Nat.le_refl _) (by decide) rfl, (Below.refl _ _).alloc (Nat.le_refl _) _⟩
      case round =>
        clear HS1 e1
        obtain ⟨i, hi, rfl, hrow, hbel⟩ := hrel
        have hbw2 := below_trans hbw hbel
        have x0 := kcell hbel x0
        have x1 := kcell hbel x1
        have y0 := kcell hbel y0
        have y1 := kcell hbel y1
        have y2 := kcell hbel y2
        have z0 := kcell hbel z0
        have z1 := kcell hbel z1
        have l0 := Nat.lt_of_lt_of_le l0 hbel.size
        have hsz := hbel.size
        have HROW := Lib.hid hrow
        have HBW2 := Lib.hid hbw2
        clear hrow hbw2
        by_cases hlt : i < k.2.length
        · obtain ⟨st, e, hst, he, ht, hl, hsl, hl6⟩ := walk_step HW.out hlt
          obtain ⟨sid, sinv⟩ := st
          obtain ⟨b5, o5, rfl, hb5, p0, p1⟩ := HC5.out.st hst
          have p0 := kcell hbel (kcell hbw p0)
          have p1 := kcell hbel (kcell hbw p1)
          obtain ⟨hna, hnl⟩ := nodeAt_lt HW.out hi
          have q0 := kcell hbel ((World.ownsRow.cellAt HR1.out i (by omega)).trans (flatI_at hna))
          have hvi : g.vals[nodeAt g k i]? = some g.vals[nodeAt g k i] := List.getElem?_eq_getElem hnl
          have hvr := HGO.out.vals _ (List.getElem_mem hnl)
          generalize g.vals[nodeAt g k i] = vx at hvi hvr
          obtain ⟨vx, rfl⟩ := Int.eq_ofNat_of_zero_le hvr.1
          have hva := valAt_of hvi
          rw [Int.toNat_natCast] at hva
          obtain ⟨b1, o1, rfl, hb1, d1⟩ := HC1.out.int hvi
          have d1 := kcell hbel (kcell hbw d1)
          have hrow := HROW.out
          rw [setsL_len] at hrow
          obtain ⟨gS, cS, rfl, hgS, hgS2, -, -⟩ := own_some hrow (by omega)
          have s0 := (World.ownsRow.cellAt hrow i (by omega)).trans (flatN_at (setsL_at (g := g) (a := a) (k := k) (show i < i + 1 by omega)))
          have HSA := Lib.hid (show setAt g a k (i + 1) = aft a (setAt g a k i) vx (letAt g k i) by rw [← hva]; rfl)
          have HSN := Lib.hid (setsL_snoc g a k (i + 1))
          have hsla := setAt_lt HA.out k i (g := g)
          have hsla4 := lt12 HA.out hsla
          have hsal := setsL_len g a k (i + 1)
          have HLET := Lib.hid (show ∀ W, Below w.heap.size w W → Calls Try.prog 128 #[.agg #[.slice (some ⟨b1, o1, none⟩) g.vals.length c1, .slice A2 g.edges.length c2], .agg #[.int .i64 sid, .bool sinv]] W fun e w' => e = .returned (.int .i64 (letAt g k i : Int)) ∧ Below W.heap.size W w' from fun W hW => by
            have h := implStepLetter _ g (sid, sinv) W (HGV.out.keep hW)
            rwa [hsl] at h)
          have HSL := Lib.hid hsla
          generalize letAt g k i = LI at *
          generalize setAt g a k i = SI at *
          generalize nodeAt g k i = NI at *
          generalize setsL g a k (i + 1) = SX at *
          have hki : (i : Int) < (k.2.length : Int) := by omega
          have hni : (NI : Int) < (g.vals.length : Int) := by omega
          have hki1 : (i : Int) < ((k.2.length : Int) + 1) := by omega
          clear hst he ht hl hsl hna hvi hva hrow hsla
          go_wp2_with fail
          have hbA : Below wr.heap.size wr (wr.alloc (.cells #[.int .i64 sid, .bool sinv] 110)) := (Below.refl _ _).alloc (Nat.le_refl _) _
          have t0 : (wr.alloc (.cells #[.int .i64 sid, .bool sinv] 110)).cell? ⟨wr.heap.size, 0, none⟩ = some (.int .i64 sid) := by simp
          have t1 : (wr.alloc (.cells #[.int .i64 sid, .bool sinv] 110)).cell? ⟨wr.heap.size, 1, none⟩ = some (.bool sinv) := by simp
          have x0 := kcell hbA x0
          have x1 := kcell hbA x1
          have y0 := kcell hbA y0
          have y1 := kcell hbA y1
          have y2 := kcell hbA y2
          have q0 := kcell hbA q0
          have d1 := kcell hbA d1
          have s0 := kcell hbA s0
          have HRA := Lib.hid (ownsRow_below HROW.out hbA (Nat.le_refl _))
          have hsA := hbA.size
          generalize wr.alloc (.cells #[.int .i64 sid, .bool sinv] 110) = wA at *
          have hii1 : (i : Int) < (i : Int) + 1 := by omega
          have hbAd := below_trans hbA ((Below.refl wA.heap.size wA).drew)
          refine F_start 19 (fun w' => w'.cell? ⟨w.heap.size, 0, none⟩ = some (.slice (some ⟨b1, o1, none⟩) g.vals.length c1) ∧ w'.cell? ⟨w.heap.size, 1, none⟩ = some (.slice A2 g.edges.length c2) ∧ w'.cell? ⟨w.heap.size + 1, 0, none⟩ = some (.int .i64 (s : Int)) ∧ w'.cell? ⟨w.heap.size + 1, 1, none⟩ = some (.slice A3 n3 c3) ∧ w'.cell? ⟨w.heap.size + 1, 2, none⟩ = some (.slice A4 n4 c4) ∧ w'.cell? ⟨gN, i, none⟩ = some (.int .i64 (NI : Int)) ∧ w'.cell? ⟨b1, o1 + NI, none⟩ = some (.int .i64 (vx : Int)) ∧ w'.cell? ⟨gS, i, none⟩ = some (.int .i64 (SI : Int)) ∧ w'.cell? ⟨wr.heap.size, 0, none⟩ = some (.int .i64 sid) ∧ w'.cell? ⟨wr.heap.size, 1, none⟩ = some (.bool sinv)) (by kernel_rfl) (by exact ⟨x0, x1, y0, y1, y2, q0, d1, s0, t0, t1⟩) (fun hS inv => ?_)
          refine F_take (i := 0) (v := ?_) rfl (by kernel_rfl) (by kernel_rfl) (by kernel_rfl) (fun _ _ _ h => h) inv (Or.inl ⟨by rfl, ?_⟩) (by assumption) (fun invn => ?_)
          rotate_left
          · (intro w hSw; (try dsimp only at hSw); go_simp; try with_reducible rfl)
          try simp only [List.getElem_toArray, List.getElem_cons_zero, List.getElem_cons_succ, Act.put, List.setIfInBounds_toArray, List.set_cons_zero, List.set_cons_succ]
          clear inv
          have inv := invn
          clear invn
          refine F_take (i := 1) (v := ?_) rfl (by kernel_rfl) (by kernel_rfl) (by kernel_rfl) (fun _ _ _ h => h) inv (Or.inl ⟨by rfl, ?_⟩) (by assumption) (fun invn => ?_)
          rotate_left
          · (intro w hSw; (try dsimp only at hSw); go_simp; try with_reducible rfl)
          try simp only [List.getElem_toArray, List.getElem_cons_zero, List.getElem_cons_succ, Act.put, List.setIfInBounds_toArray, List.set_cons_zero, List.set_cons_succ]
          clear inv
          have inv := invn
          clear invn
          refine F_take (i := 2) (v := ?_) rfl (by kernel_rfl) (by kernel_rfl) (by kernel_rfl) (fun _ _ _ h => h) inv (Or.inl ⟨by rfl, ?_⟩) (by assumption) (fun invn => ?_)
          rotate_left
          · (intro w hSw; (try dsimp only at hSw); go_simp; try with_reducible rfl)
          try simp only [List.getElem_toArray, List.getElem_cons_zero, List.getElem_cons_succ, Act.put, List.setIfInBounds_toArray, List.set_cons_zero, List.set_cons_succ]
          clear inv
          have inv := invn
          clear invn
          refine F_take (i := 3) (v := ?_) rfl (by kernel_rfl) (by kernel_rfl) (by kernel_rfl) (fun _ _ _ h => h) inv (Or.inl ⟨by rfl, ?_⟩) (by assumption) (fun invn => ?_)
          rotate_left
          · (intro w hSw; (try dsimp only at hSw); go_simp; try with_reducible rfl)
          try simp only [List.getElem_toArray, List.getElem_cons_zero, List.getElem_cons_succ, Act.put, List.setIfInBounds_toArray, List.set_cons_zero, List.set_cons_succ]
          clear inv
          have inv := invn
          clear invn
          refine F_take (i := 4) (v := ?_) rfl (by kernel_rfl) (by kernel_rfl) (by kernel_rfl) (fun _ _ _ h => h) inv (Or.inl ⟨by rfl, ?_⟩) (by assumption) (fun invn => ?_)
          rotate_left
          · (intro w hSw; (try dsimp only at hSw); go_simp; try with_reducible rfl)
          try simp only [List.getElem_toArray, List.getElem_cons_zero, List.getElem_cons_succ, Act.put, List.setIfInBounds_toArray, List.set_cons_zero, List.set_cons_succ]
          clear inv
          have inv := invn
          clear invn
          refine F_take (i := 5) (v := ?_) rfl (by kernel_rfl) (by kernel_rfl) (by kernel_rfl) (fun _ _ _ h => h) inv (Or.inl ⟨by rfl, ?_⟩) (by assumption) (fun invn => ?_)
          rotate_left
          · (intro w hSw; (try dsimp only at hSw); go_simp; try with_reducible rfl)
          try simp only [List.getElem_toArray, List.getElem_cons_zero, List.getElem_cons_succ, Act.put, List.setIfInBounds_toArray, List.set_cons_zero, List.set_cons_succ]
          clear inv
          have inv := invn
          clear invn
          refine F_take (i := 6) (v := ?_) rfl (by kernel_rfl) (by kernel_rfl) (by kernel_rfl) (fun _ _ _ h => h) inv (Or.inl ⟨by rfl, ?_⟩) (by assumption) (fun invn => ?_)
          rotate_left
          · (intro w hSw; (try dsimp only at hSw); go_simp; try with_reducible rfl)
          try simp only [List.getElem_toArray, List.getElem_cons_zero, List.getElem_cons_succ, Act.put, List.setIfInBounds_toArray, List.set_cons_zero, List.set_cons_succ]
          clear inv
          have inv := invn
          clear invn
          refine F_take (i := 7) (v := ?_) rfl (by kernel_rfl) (by kernel_rfl) (by kernel_rfl) (fun _ _ _ h => h) inv (Or.inl ⟨by rfl, ?_⟩) (by assumption) (fun invn => ?_)
          rotate_left
          · (intro w hSw; (try dsimp only at hSw); go_simp; try with_reducible rfl)
          try simp only [List.getElem_toArray, List.getElem_cons_zero, List.getElem_cons_succ, Act.put, List.setIfInBounds_toArray, List.set_cons_zero, List.set_cons_succ]
          clear inv
          have inv := invn
          clear invn
          refine F_take (i := 8) (v := ?_) rfl (by kernel_rfl) (by kernel_rfl) (by kernel_rfl) (fun _ _ _ h => h) inv (Or.inl ⟨by rfl, ?_⟩) (by assumption) (fun invn => ?_)
          rotate_left
          · (intro w hSw; (try dsimp only at hSw); go_simp; try with_reducible rfl)
          try simp only [List.getElem_toArray, List.getElem_cons_zero, List.getElem_cons_succ, Act.put, List.setIfInBounds_toArray, List.set_cons_zero, List.set_cons_succ]
          clear inv
          have inv := invn
          clear invn
          refine F_take (i := 9) (v := ?_) rfl (by kernel_rfl) (by kernel_rfl) (by kernel_rfl) (fun _ _ _ h => h) inv (Or.inl ⟨by rfl, ?_⟩) (by assumption) (fun invn => ?_)
          rotate_left
          · (intro w hSw; (try dsimp only at hSw); go_simp; try with_reducible rfl)
          try simp only [List.getElem_toArray, List.getElem_cons_zero, List.getElem_cons_succ, Act.put, List.setIfInBounds_toArray, List.set_cons_zero, List.set_cons_succ]
          clear inv
          have inv := invn
          clear invn
          refine F_take (i := 10) (v := ?_) rfl (by kernel_rfl) (by kernel_rfl) (by kernel_rfl) (fun _ _ _ h => h) inv (Or.inl ⟨by rfl, ?_⟩) (by assumption) (fun invn => ?_)
          rotate_left
          · (intro w hSw; (try dsimp only at hSw); go_simp; try with_reducible rfl)
          try simp only [List.getElem_toArray, List.getElem_cons_zero, List.getElem_cons_succ, Act.put, List.setIfInBounds_toArray, List.set_cons_zero, List.set_cons_succ]
          clear inv
          have inv := invn
          clear invn
          refine F_take (i := 11) (v := ?_) rfl (by kernel_rfl) (by kernel_rfl) (by kernel_rfl) (fun _ _ _ h => h) inv (Or.inl ⟨by rfl, ?_⟩) (by assumption) (fun invn => ?_)
          rotate_left
          · (intro w hSw; (try dsimp only at hSw); go_simp; try with_reducible rfl)
          try simp only [List.getElem_toArray, List.getElem_cons_zero, List.getElem_cons_succ, Act.put, List.setIfInBounds_toArray, List.set_cons_zero, List.set_cons_succ]
          clear inv
          have inv := invn
          clear invn
          refine F_take (i := 12) (v := ?_) rfl (by kernel_rfl) (by kernel_rfl) (by kernel_rfl) (fun _ _ _ h => h) inv (Or.inl ⟨by rfl, ?_⟩) (by assumption) (fun invn => ?_)
          rotate_left
          · (intro w hSw; (try dsimp only at hSw); go_simp; try with_reducible rfl)
          try simp only [List.getElem_toArray, List.getElem_cons_zero, List.getElem_cons_succ, Act.put, List.setIfInBounds_toArray, List.set_cons_zero, List.set_cons_succ]
          clear inv
          have inv := invn
          clear invn
          refine F_take (i := 13) (v := ?_) rfl (by kernel_rfl) (by kernel_rfl) (by kernel_rfl) (fun _ _ _ h => h) inv (Or.inl ⟨by rfl, ?_⟩) (by assumption) (fun invn => ?_)
          rotate_left
          · (intro w hSw; (try dsimp only at hSw); go_simp; try with_reducible rfl)
          try simp only [List.getElem_toArray, List.getElem_cons_zero, List.getElem_cons_succ, Act.put, List.setIfInBounds_toArray, List.set_cons_zero, List.set_cons_succ]
          clear inv
          have inv := invn
          clear invn
          refine F_take (i := 14) (v := ?_) rfl (by kernel_rfl) (by kernel_rfl) (by kernel_rfl) (fun _ _ _ h => h) inv (Or.inl ⟨by rfl, ?_⟩) (by assumption) (fun invn => ?_)
          rotate_left
          · (intro w hSw; (try dsimp only at hSw); go_simp; try with_reducible rfl)
          try simp only [List.getElem_toArray, List.getElem_cons_zero, List.getElem_cons_succ, Act.put, List.setIfInBounds_toArray, List.set_cons_zero, List.set_cons_succ]
          clear inv
          have inv := invn
          clear invn
          refine F_take (i := 15) (v := ?_) rfl (by kernel_rfl) (by kernel_rfl) (by kernel_rfl) (fun _ _ _ h => h) inv (Or.inl ⟨by rfl, ?_⟩) (by assumption) (fun invn => ?_)
          rotate_left
          · (intro w hSw; (try dsimp only at hSw); go_simp; try with_reducible rfl)
          try simp only [List.getElem_toArray, List.getElem_cons_zero, List.getElem_cons_succ, Act.put, List.setIfInBounds_toArray, List.set_cons_zero, List.set_cons_succ]
          clear inv
          have inv := invn
          clear invn
          refine F_one (i := 16) (by kernel_rfl) rfl rfl (by omega) inv (fun K hK => ?_)
          try simp only [List.getElem_toArray, List.getElem_cons_zero, List.getElem_cons_succ]
          go_simp
          refine (HLET.out _ (below_trans HBW2.out hbAd)).mono ?_
          rintro e wL ⟨rfl, hbL⟩
          refine hK.out _ _ (kB10 hbL hS) (fun hSn invn => ?_)
          try simp only [List.getElem_toArray, List.getElem_cons_zero, List.getElem_cons_succ, Act.put, List.setIfInBounds_toArray, List.set_cons_zero, List.set_cons_succ]
          clear hK K inv hS
          have inv := invn
          have hS := hSn
          clear invn hSn
          refine F_one (i := 17) (by kernel_rfl) rfl rfl (by omega) inv (fun K hK => ?_)
          try simp only [List.getElem_toArray, List.getElem_cons_zero, List.getElem_cons_succ]
          go_simp
          refine (after_any _ a SI vx LI _ (HAV.out.keep (below_trans HBW2.out (below_trans hbAd hbL))) HA.out HSL.out (by omega) (by omega)).mono ?_
          rintro e wT ⟨rfl, hbT⟩
          have hbAT := below_trans ((Below.refl wA.heap.size wA).drew) (below_trans hbL hbT)
          have HRT := Lib.hid (ownsRow_below HRA.out hbAT (Nat.le_refl _))
          have hsT := hbAT.size
          refine hK.out _ _ (kB10 hbT hS) (fun hSn invn => ?_)
          try simp only [List.getElem_toArray, List.getElem_cons_zero, List.getElem_cons_succ, Act.put, List.setIfInBounds_toArray, List.set_cons_zero, List.set_cons_succ]
          clear hK K inv hS
          have inv := invn
          have hS := hSn
          clear invn hSn
          refine F_one (i := 18) (by kernel_rfl) rfl rfl (by omega) inv (fun K hK => ?_)
          try simp only [List.getElem_toArray, List.getElem_cons_zero, List.getElem_cons_succ]
          go_simp
          refine hK.out _ _ (kA10 _ hS) (fun hSn invn => ?_)
          try simp only [List.getElem_toArray, List.getElem_cons_zero, List.getElem_cons_succ, Act.put, List.setIfInBounds_toArray, List.set_cons_zero, List.set_cons_succ]
          clear hK K inv hS
          have inv := invn
          have hS := hSn
          clear invn hSn
          refine F_tail (i := 19) (by kernel_rfl) rfl rfl (by omega) (fun K hK => ?_)
          try simp only [List.getElem_toArray, List.getElem_cons_zero, List.getElem_cons_succ]
          refine op_append1 cN elInt rfl _ _ (by rfl) w2.heap.size _ SX (aft a SI vx LI) 1 _ (by rfl) (by have h := HRT.out.alloc (.cells #[.int .i64 (aft a SI vx LI : Int)] 3); rw [hsal] at h ⊢; exact h) (by first | rfl | simp) (heap_alloc_new _ _) rfl (cN_one _) (by omega) (by omega) (by simp; omega) ?_
          intro g2 cp2 w3 hown3 hgr3 hat3 hlt3
          have HW3 := Lib.hid hown3
          have HG3 := Lib.hid hgr3
          clear hown3 hgr3 hat3
          refine hK.out _ _ ?_
          try simp only [List.getElem_toArray, List.getElem_cons_zero, List.getElem_cons_succ, Act.put, List.setIfInBounds_toArray, List.set_cons_zero, List.set_cons_succ]
          clear hK K inv hS
          refine F_last (i := 20) (by kernel_rfl) rfl rfl (by omega) (by kernel_rfl) (fun K hK => ?_)
          go_simp
          refine hK _ _ ?_
          clear hK K
          go_wp2_with fail
          go_roundw
          case rel => exact ⟨i + 1, by omega, by go_num, by rw [HSN.out, HSA.out]; have h := HW3.out; rw [hsal] at h; exact h, (((hbel.trans (hbA.mono hsz)).trans (hbAT.mono (by omega))).alloc (by omega) _).trans (own_below (HRT.out.alloc _) (by simp; omega) HG3.out)⟩
          case measure => simp [intOf]; omega
        · obtain rfl : i = k.2.length := by omega
          have hrow := HROW.out
          rw [setsL_len] at hrow
          obtain ⟨gS, cS, rfl, hgS, hgS2, -, -⟩ := own_some hrow (by omega)
          have hoS := Own.of_row (xs := setsL g a k (k.2.length + 1)) (ownsRow_mono (b := w.heap.size) HROW.out (by omega)) (by rw [setsL_len]) rfl
          rw [← HFS.out] at hoS
          have hoN := Own.of_row (xs := nodesL g k) (ownsRow_mono (b := w.heap.size) (ownsRow_below HR1.out hbel (Nat.le_refl _)) (by omega)) (nodesL_len g k) rfl
          rw [← HFN.out] at hoN
          have HOS := Lib.hid hoS
          have HON := Lib.hid hoN
          clear hrow hoS hoN
          go_wp2_with fail
          go_ret3
          exact ⟨_, _, rfl, HOS.out, HON.out, HBW2.out⟩



end Go.Proofs.Ytajjolkpgfegfaa

/- The reference's walks: their nodes, and when they are walks of a graph. -/
namespace Go.Proofs.Ytajjolkpgfegfaa
set_option linter.unusedVariables false
set_option linter.unusedSimpArgs false
open Go.ChangeShapes Go.WideShapes Go.ChangeAt Go.RowKit
attribute [local go_sem] ext_cell ext_frozen ext_lt ext_lt1 ext_lt2 ext_lt3 ltn2 ltn3 ltn13 lts1 lts2 lts3

theorem row_shapeS {W : World} {base k n : Nat} {e : TypeId} {v : Value} {cs : List Value} (h : W.ownsRow base e k v n cs) (hn : n ≠ 0) : ∃ g c, v = .slice (some ⟨g, 0, none⟩) n c ∧ base ≤ g ∧ g < W.heap.size ∧ n ≤ c ∧ c ≤ maxLen := by
  have hlt := h.lt
  obtain ⟨hl, hs⟩ := h
  rcases hs with ⟨_, h0⟩ | ⟨g, cap, cur, rfl, hg, hh, hnc, hcm, r⟩
  · exact absurd h0 hn
  · exact ⟨g, cap, rfl, hg, (hlt g rfl).2, hnc, hcm⟩

set_option maxRecDepth 100000 in
set_option maxHeartbeats 8000000 in
theorem specNodes (v1 v2 : Value) (g : Gr) (k : Wk) (w : World) (hv1 : GrV 0 w.heap.size w v1 g) (hv2 : WkV 0 w.heap.size w v2 k) :
    Calls Try.prog 106 #[v1, v2] w fun en w' => ∃ v, en = .returned (.tuple #[v, .bool (walkOk g k)]) ∧ Own w.heap.size w'.heap.size w' 3 cI 1 v (nodesOut g k) ∧ Below w.heap.size w w' := by
  have hv0 := hv1
  obtain ⟨vs, es, rfl, ⟨A1, c1, rfl, hl1, hm1, -⟩, hes⟩ := hv1
  obtain ⟨A2, c2, rfl, hl2, hm2, hx2⟩ := hes
  have HX2 := Lib.hid hx2
  obtain ⟨ss, rfl, ⟨A3, c3, rfl, hl3, hm3, hx3⟩⟩ := hv2
  unfold maxLen at hm1 hm2 hm3
  obtain ⟨st, steps⟩ := k
  simp only at *
  have hb0 : Below w.heap.size w ((w.alloc (.cells #[.slice A1 g.vals.length c1, .slice A2 g.edges.length c2] 35)).alloc (.cells #[.int .i64 st, .slice A3 steps.length c3] 62)) := ((Below.refl _ _).alloc (Nat.le_refl _) _).alloc (by simp) _
  have HX3 := Lib.hid hx3
  have hwo : walkOk g (st, steps) = (grOk g && wi st 0 ((g.vals.length : Int) - 1) && decide (steps.length ≤ 60) && (List.range steps.length).all (linkAt g (st, steps))) := rfl
  have HW := Lib.hid hwo
  clear hx3 hx2 hwo
  have hvg := specValidGraph _ g _ (hv0.keep hb0)
  have HV := Lib.hid hvg
  clear hvg
  go_enter Try.func106, Try.ntmps106
  go_wp2_with fail
  refine HV.out.mono ?_
  rintro e w1 ⟨rfl, hb1⟩
  have b0 := ((Blk.new w _ _ w.heap.size rfl).alloc _).keep hb1
  have b1 := (Blk.new (w.alloc _) _ _ (w.heap.size + 1) (by simp)).keep hb1
  have hb2 := below_trans hb0 hb1
  clear hb0 hb1 HV
  have x0 : w1.cell? ⟨w.heap.size, 0, none⟩ = some _ := b0.cell 0
  have x1 : w1.cell? ⟨w.heap.size, 1, none⟩ = some _ := b0.cell 1
  have y0 : w1.cell? ⟨w.heap.size + 1, 0, none⟩ = some _ := b1.cell 0
  have y1 : w1.cell? ⟨w.heap.size + 1, 1, none⟩ = some _ := b1.cell 1
  have hlt1 := b1.lt
  have HWI := Lib.hid l1In_any
  cases hg : grOk g with
  | false =>
    have hfin : walkOk g (st, steps) = false := by rw [HW.out, hg]; rfl
    have HF := Lib.hid hfin
    clear HW hfin hg
    go_wp2_with fail
    go_ret2
    exact ⟨_, by rw [HF.out]; rfl, by rw [nodesOut_no HF.out]; exact (Own.of_row (World.ownsRow_lit _ #[] 0 (Nat.le_refl _) (by decide) rfl) rfl rfl).mono hb2.size (Nat.le_refl _), hb2.alloc hb2.size _⟩
  | true =>
    have q1 : IntKind.i64.wrap ((g.vals.length : Int) - 1) = (g.vals.length : Int) - 1 := IntWalk.i64_in _ (by omega)
    cases hs : wi st 0 ((g.vals.length : Int) - 1) with
    | false =>
      have hfin : walkOk g (st, steps) = false := by rw [HW.out, hg, hs]; rfl
      have HF := Lib.hid hfin
      clear HW hfin hg
      go_wp2_with (go_at_call 84; refine (HWI.out _ _ _ _).mono ?_; rintro e w1 ⟨rfl, rfl⟩)
      go_ret2
      exact ⟨_, by rw [HF.out]; rfl, by rw [nodesOut_no HF.out]; exact (Own.of_row (World.ownsRow_lit _ #[] 0 (Nat.le_refl _) (by decide) rfl) rfl rfl).mono hb2.size (Nat.le_refl _), hb2.alloc hb2.size _⟩
    | true =>
      by_cases hlen : steps.length ≤ 60
      · have hlen' : decide ((steps.length : Int) > 60) = false := by simp; omega
        have hfin : walkOk g (st, steps) = (List.range steps.length).all (linkAt g (st, steps)) := by rw [HW.out, hg, hs]; simp [hlen]
        have HF := Lib.hid hfin
        have HG := Lib.hid hg
        clear HW hfin hg
        go_wp2_with (go_at_call 84; refine (HWI.out _ _ _ _).mono ?_; rintro e w1 ⟨rfl, rfl⟩)
        have hst0 : 0 ≤ st := by unfold wi at hs; simp at hs; omega
        have HS := Lib.hid hs
        clear hs
        go_loopw [6, 7] (fun out ii wr => ∃ i : Nat, i ≤ steps.length ∧ ii = .int .i64 i ∧ (List.range i).all (linkAt g (st, steps)) = true ∧ wr.ownsRow w1.heap.size 3 1 out ((nodesL g (st, steps)).take (i + 1)).length (((nodesL g (st, steps)).take (i + 1)).flatMap cI) ∧ (∃ x, (nodesL g (st, steps))[i]? = some x ∧ 0 ≤ x) ∧ Below w1.heap.size w1 wr) (fun _ ii _ => steps.length - (intOf ii).toNat)
        case atStart => exact ⟨0, Nat.zero_le _, rfl, rfl, World.ownsRow_lit w1 #[.int .i64 st] 1 (Nat.le_refl _) (by decide) rfl, ⟨st, rfl, hst0⟩, (Below.refl _ _).alloc (Nat.le_refl _) _⟩
        case round =>
          obtain ⟨i, hi, rfl, hal, hrow, ⟨x, hxl, hx0⟩, hbel⟩ := hrel
          have HA := Lib.hid hal
          have hbw := below_trans hb2 hbel
          have hml : ((nodesL g (st, steps)).take (i + 1)).length = i + 1 := by rw [List.length_take, nodesL_len]; simp only; omega
          clear hal
          by_cases hlt : i < steps.length
          · have hxs : steps[i]? = some steps[i] := List.getElem?_eq_getElem hlt
            generalize steps[i] = s at hxs
            obtain ⟨sid, sinv⟩ := s
            obtain ⟨b, o, rfl, -, hb, hc⟩ := HX3.out i _ hxs
            have d0 := hc 0 _ rfl
            have d1 := hc 1 _ rfl
            simp only [Nat.add_zero] at d0
            have d0 := (hbw.cell (p := ⟨_, _, none⟩) hb).trans d0
            have d1 := (hbw.cell (p := ⟨_, _, none⟩) hb).trans d1
            obtain ⟨gb, cp, hv, hg1, hg2, hnc, hcm⟩ := row_shapeS hrow (by omega)
            obtain ⟨m, hm⟩ : ∃ m, m = i + 1 := ⟨_, rfl⟩
            rw [hml, ← hm] at hv
            subst hv
            have hrm := hrow
            rw [show ((nodesL g (st, steps)).take (i + 1)).length = m by rw [hml, hm]] at hrm
            have c0 := (World.ownsRow.cellAt hrm i (by omega)).trans (by have := flat_at cI_len (xs := (nodesL g (st, steps)).take (i + 1)) (i := i) (x := x) (by rw [List.getElem?_take]; simp [hxl]) 0 _ rfl; simpa using this)
            clear hrm
            have hei := fun W (hW : Below w.heap.size w W) => specEdgeIndex _ g sid W (hv0.keep hW)
            have hlk := linkAt_eq (k := (st, steps)) hxs hxl
            have HLK := Lib.hid hlk
            have HEI := Lib.hid hei
            have HXS := Lib.hid hxs
            have HROW := Lib.hid hrow
            have hbx := fun u => below_trans hbw (ext_below wr u)
            have x0 := (hbel.cell (p := ⟨_, _, none⟩) (by simp only; omega)).trans x0
            have x1 := (hbel.cell (p := ⟨_, _, none⟩) (by simp only; omega)).trans x1
            have y0 := (hbel.cell (p := ⟨_, _, none⟩) (by simp only; omega)).trans y0
            have y1 := (hbel.cell (p := ⟨_, _, none⟩) (by simp only; omega)).trans y1
            have hs1 := hbel.size
            have q2 : IntKind.i64.wrap ((m : Int) - 1) = (i : Int) := by rw [IntWalk.i64_in _ (by omega)]; omega
            have q3 : (i : Int) < (m : Int) := by omega
            have HM := Lib.hid hm
            have hbw' : b < wr.heap.size := by omega
            have k0 : w.heap.size < wr.heap.size := by omega
            have k1 : w.heap.size + 1 < wr.heap.size := by omega
            have hspec := edgeIdx_spec g sid
            have HSPEC := Lib.hid hspec
            clear hlk hei hxs hrow hml hm hxl hc q1 hnc hcm hspec
            rcases HSPEC.out with ⟨hk, hno⟩ | ⟨ix, e, hk, hex, he, hno⟩
            · have hsn := stepEd_none hno
              have hsf : stepFrom g (sid, sinv) = -1 := by rw [stepFrom]; simp [hsn]
              rw [hk] at HEI
              have hfin : walkOk g (st, steps) = false := by rw [HF.out]; exact range_all_false hlt (by rw [HLK.out, hsf]; simp; omega)
              have HFI := Lib.hid hfin
              clear hk hno hsn hsf hfin HSPEC
              go_wp2_with fail
              refine wp_region_ext_lit (by kernel_rfl) (by kernel_rfl) ?_
              repeat (go_big_quiet_step ((go_at_call 133; exact Calls.ext_of (HEI.out _ (hbx _)))))
              refine wpQuiet_nil ?_
              intro _ hw'
              obtain ⟨u2, hw''⟩ := hw'
              subst hw''
              go_wp2_with fail
              go_ret2
              exact ⟨_, by rw [HFI.out]; rfl, by rw [nodesOut_no HFI.out]; exact (Own.of_row (World.ownsRow_lit _ #[] 0 (Nat.le_refl _) (by decide) rfl) rfl rfl).mono (hbx _).size (Nat.le_refl _), (hbx _).alloc (hbx _).size _⟩
            · have hse := stepEd_some HG.out hex he hno
              have HSE := Lib.hid hse
              rw [hk] at HEI
              obtain ⟨b9, o9, rfl, -, hb9, hc9⟩ := HX2.out ix e hex
              have e1 := hc9 1 _ rfl
              have e2 := hc9 2 _ rfl
              have e1 := (hbw.cell (p := ⟨_, _, none⟩) hb9).trans e1
              have e2 := (hbw.cell (p := ⟨_, _, none⟩) hb9).trans e2
              have hb9' : b9 < wr.heap.size := by omega
              have hixl : ix < g.edges.length := (List.getElem?_eq_some_iff.1 hex).1
              clear hk hno he hex hse hc9 HSPEC
              cases sinv with
              | true =>
                have hsf : stepFrom g (sid, true) = e.2.2.1 := by rw [stepFrom]; simp [HSE.out]
                have hsto : stepTo g (sid, true) = e.2.1 := by rw [stepTo, stepFrom]; simp [HSE.out]
                have HSF := Lib.hid hsf
                have HSTO := Lib.hid hsto
                clear hsf hsto
                by_cases hyx : e.2.2.1 = x
                · have hq : (e.2.2.1 != x) = false := by simp [hyx]
                  have hto0 : 0 ≤ stepTo g (sid, true) := by
                    have h1 := @stepFrom_neg g (sid, true)
                    have h2 := @stepFrom_neg g (sid, !true)
                    have h3 : stepTo g (sid, true) = stepFrom g (sid, !true) := rfl
                    have h4 := HSF.out
                    rw [h3]
                    by_cases h5 : 0 ≤ stepFrom g (sid, !true)
                    · exact h5
                    · have h6 := h2.1 (by omega)
                      have h7 := h1.2 h6
                      omega
                  have HYX := Lib.hid hyx
                  have HTO0 := Lib.hid hto0
                  clear hyx hto0
                  go_wp2_with fail
                  refine wp_region_ext_lit (by kernel_rfl) (by kernel_rfl) ?_
                  repeat (go_big_quiet_step ((go_at_call 133; exact Calls.ext_of (HEI.out _ (hbx _)))))
                  refine wpQuiet_nil ?_
                  intro _ hw'
                  obtain ⟨u2, hw''⟩ := hw'
                  subst hw''
                  have hw3 := ext_below wr u2
                  have hrow3 := ownsRow_below HROW.out hw3 (Nat.le_refl _)
                  have hs3 := Nat.le_trans hs1 hw3.size
                  have hbel3 := below_trans hbel hw3
                  have htl : ((nodesL g (st, steps)).take (i + 1)).length ≤ 61 := by rw [List.length_take]; omega
                  clear hw3
                  go_wp2_with (at_builtin; (refine wpList_append1 cI elInt rfl _ _ rfl w1.heap.size (.slice (some ⟨gb, 0, none⟩) m cp) ((nodesL g (st, steps)).take (i + 1)) (e.2.1) _ 1 _ (by rfl) hrow3 (by rfl) rfl rfl rfl (cI_one _) (by omega) (by omega) hs3 ?_); rw [← HSTO.out, ← nodesL_succ HXS.out]; intro v' w4 hrow' hb4 _ _)
                  go_roundw
                  case rel => exact ⟨i + 1, by omega, by go_num, range_all_succ HA.out (by rw [HLK.out, HSF.out, HYX.out]; simp), hrow', ⟨_, nodesL_next HXS.out, HTO0.out⟩, hbel3.trans hb4⟩
                  case measure => simp [intOf]; omega
                · have hq : (e.2.2.1 != x) = true := by simp [hyx]
                  have hfin : walkOk g (st, steps) = false := by rw [HF.out]; exact range_all_false hlt (by rw [HLK.out, HSF.out]; simpa using hyx)
                  have HFI := Lib.hid hfin
                  clear hyx hfin
                  go_wp2_with fail
                  refine wp_region_ext_lit (by kernel_rfl) (by kernel_rfl) ?_
                  repeat (go_big_quiet_step ((go_at_call 133; exact Calls.ext_of (HEI.out _ (hbx _)))))
                  refine wpQuiet_nil ?_
                  intro _ hw'
                  obtain ⟨u2, hw''⟩ := hw'
                  subst hw''
                  go_wp2_with fail
                  go_ret2
                  exact ⟨_, by rw [HFI.out]; rfl, by rw [nodesOut_no HFI.out]; exact (Own.of_row (World.ownsRow_lit _ #[] 0 (Nat.le_refl _) (by decide) rfl) rfl rfl).mono (hbx _).size (Nat.le_refl _), (hbx _).alloc (hbx _).size _⟩
              | false =>
                have hsf : stepFrom g (sid, false) = e.2.1 := by rw [stepFrom]; simp [HSE.out]
                have hsto : stepTo g (sid, false) = e.2.2.1 := by rw [stepTo, stepFrom]; simp [HSE.out]
                have HSF := Lib.hid hsf
                have HSTO := Lib.hid hsto
                clear hsf hsto
                by_cases hyx : e.2.1 = x
                · have hq : (e.2.1 != x) = false := by simp [hyx]
                  have hto0 : 0 ≤ stepTo g (sid, false) := by
                    have h1 := @stepFrom_neg g (sid, false)
                    have h2 := @stepFrom_neg g (sid, !false)
                    have h3 : stepTo g (sid, false) = stepFrom g (sid, !false) := rfl
                    have h4 := HSF.out
                    rw [h3]
                    by_cases h5 : 0 ≤ stepFrom g (sid, !false)
                    · exact h5
                    · have h6 := h2.1 (by omega)
                      have h7 := h1.2 h6
                      omega
                  have HYX := Lib.hid hyx
                  have HTO0 := Lib.hid hto0
                  clear hyx hto0
                  go_wp2_with fail
                  refine wp_region_ext_lit (by kernel_rfl) (by kernel_rfl) ?_
                  repeat (go_big_quiet_step ((go_at_call 133; exact Calls.ext_of (HEI.out _ (hbx _)))))
                  refine wpQuiet_nil ?_
                  intro _ hw'
                  obtain ⟨u2, hw''⟩ := hw'
                  subst hw''
                  have hw3 := ext_below wr u2
                  have hrow3 := ownsRow_below HROW.out hw3 (Nat.le_refl _)
                  have hs3 := Nat.le_trans hs1 hw3.size
                  have hbel3 := below_trans hbel hw3
                  have htl : ((nodesL g (st, steps)).take (i + 1)).length ≤ 61 := by rw [List.length_take]; omega
                  clear hw3
                  go_wp2_with (at_builtin; (refine wpList_append1 cI elInt rfl _ _ rfl w1.heap.size (.slice (some ⟨gb, 0, none⟩) m cp) ((nodesL g (st, steps)).take (i + 1)) (e.2.2.1) _ 1 _ (by rfl) hrow3 (by rfl) rfl rfl rfl (cI_one _) (by omega) (by omega) hs3 ?_); rw [← HSTO.out, ← nodesL_succ HXS.out]; intro v' w4 hrow' hb4 _ _)
                  go_roundw
                  case rel => exact ⟨i + 1, by omega, by go_num, range_all_succ HA.out (by rw [HLK.out, HSF.out, HYX.out]; simp), hrow', ⟨_, nodesL_next HXS.out, HTO0.out⟩, hbel3.trans hb4⟩
                  case measure => simp [intOf]; omega
                · have hq : (e.2.1 != x) = true := by simp [hyx]
                  have hfin : walkOk g (st, steps) = false := by rw [HF.out]; exact range_all_false hlt (by rw [HLK.out, HSF.out]; simpa using hyx)
                  have HFI := Lib.hid hfin
                  clear hyx hfin
                  go_wp2_with fail
                  refine wp_region_ext_lit (by kernel_rfl) (by kernel_rfl) ?_
                  repeat (go_big_quiet_step ((go_at_call 133; exact Calls.ext_of (HEI.out _ (hbx _)))))
                  refine wpQuiet_nil ?_
                  intro _ hw'
                  obtain ⟨u2, hw''⟩ := hw'
                  subst hw''
                  go_wp2_with fail
                  go_ret2
                  exact ⟨_, by rw [HFI.out]; rfl, by rw [nodesOut_no HFI.out]; exact (Own.of_row (World.ownsRow_lit _ #[] 0 (Nat.le_refl _) (by decide) rfl) rfl rfl).mono (hbx _).size (Nat.le_refl _), (hbx _).alloc (hbx _).size _⟩
          · obtain rfl : i = steps.length := by omega
            have y1 := (hbel.cell (p := ⟨_, _, none⟩) (by simp only; omega)).trans y1
            have hlw := hbel.size
            have k1 : w.heap.size + 1 < wr.heap.size := by omega
            have hfin : walkOk g (st, steps) = true := by rw [HF.out, HA.out]
            have HFF := Lib.hid hfin
            have htk : (nodesL g (st, steps)).take (steps.length + 1) = nodesL g (st, steps) := List.take_of_length_le (by rw [nodesL_len]; simp)
            rw [htk] at hrow
            have HROW := Lib.hid hrow
            clear hfin HF HA htk hml hrow
            go_wp2_with fail
            go_ret2
            exact ⟨_, by rw [HFF.out]; rfl, by rw [nodesOut_yes HFF.out]; exact (Own.of_row HROW.out rfl rfl).mono hb2.size (Nat.le_refl _), hbw⟩
      · have hlen' : decide ((steps.length : Int) > 60) = true := by simp; omega
        have hfin : walkOk g (st, steps) = false := by rw [HW.out]; simp [hlen]
        have HF := Lib.hid hfin
        clear HW hfin hg
        go_wp2_with (go_at_call 84; refine (HWI.out _ _ _ _).mono ?_; rintro e w1 ⟨rfl, rfl⟩)
        go_ret2
        exact ⟨_, by rw [HF.out]; rfl, by rw [nodesOut_no HF.out]; exact (Own.of_row (World.ownsRow_lit _ #[] 0 (Nat.le_refl _) (by decide) rfl) rfl rfl).mono hb2.size (Nat.le_refl _), hb2.alloc hb2.size _⟩
end Go.Proofs.Ytajjolkpgfegfaa

/- The reference's walks: when one is a walk of a graph, and when it is allowed. -/
namespace Go.Proofs.Ytajjolkpgfegfaa
set_option linter.unusedVariables false
set_option linter.unusedSimpArgs false
open Go.ChangeShapes Go.WideShapes Go.ChangeAt Go.RowKit
attribute [local go_sem] ext_cell ext_frozen ext_lt ext_lt1 ext_lt2 ext_lt3 ltn2 ltn3 ltn13 lts1 lts2 lts3

theorem specIsWalk (v1 v2 : Value) (g : Gr) (k : Wk) (w : World) (hv1 : GrV 0 w.heap.size w v1 g) (hv2 : WkV 0 w.heap.size w v2 k) :
    Calls Try.prog 91 #[v1, v2] w fun en w' => en = .returned (.bool (walkOk g k)) ∧ Below w.heap.size w w' := by
  have hv0 := hv1
  have hv3 := hv2
  obtain ⟨A1, n1, c1, A2, n2, c2, rfl⟩ := hv1.shape
  obtain ⟨A3, n3, c3, rfl⟩ := hv2.shape
  clear hv1 hv2
  have hb0 : Below w.heap.size w ((w.alloc (.cells #[.slice A1 n1 c1, .slice A2 n2 c2] 35)).alloc (.cells #[.int .i64 k.1, .slice A3 n3 c3] 62)) := ((Below.refl _ _).alloc (Nat.le_refl _) _).alloc (by simp) _
  have hc := specNodes _ _ g k _ (hv0.keep hb0) (hv3.keep hb0)
  have HC := Lib.hid hc
  clear hc
  generalize walkOk g k = bb at HC
  go_enter Try.func91, Try.ntmps91
  go_wp2_with fail
  refine HC.out.mono ?_
  rintro e w1 ⟨v, rfl, -, hb1⟩
  go_wp2_with fail
  go_ret
  exact ⟨rfl, below_trans hb0 hb1⟩

end Go.Proofs.Ytajjolkpgfegfaa

