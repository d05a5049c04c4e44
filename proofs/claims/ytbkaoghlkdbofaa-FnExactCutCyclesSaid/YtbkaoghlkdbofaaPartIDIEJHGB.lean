/- Parts of the proof, joined into one text: StepI, NodesI, CutI, CutS. -/
import Derived.Test.YtbkaoghlkdbofaaPartJICGGFLG
import Derived.Test.YtbkaoghlkdbofaaPartKPMODFFM
import Derived.Test.YtbkaoghlkdbofaaPartOLGJHFGJ
import Derived.Test.YtbkaoghlkdbofaaPartEFEALPJP
import Derived.Test.YtbkaoghlkdbofaaPartDNIJEOEC
import Derived.Test.YtbkaoghlkdbofaaPartNFGBNNPI
import Derived.Test.YtbkaoghlkdbofaaPartNGHODJBD
import Derived.Test.YtbkaoghlkdbofaaPartMJJEGDDE
import Derived.Test.YtbkaoghlkdbofaaPartADIBIFPI
import Derived.Test.YtbkaoghlkdbofaaPartOCPOAFAI
import Derived.Test.YtbkaoghlkdbofaaPartPOAHFPFN
/- The program's steps of a graph: where they lead from and to, and whether they are allowed. -/
namespace Go.Proofs.Ytbkaoghlkdbofaa
set_option linter.unusedVariables false
set_option linter.unusedSimpArgs false
open Go.ChangeShapes Go.WideShapes Go.ChangeAt Go.RowKit
attribute [local go_sem] ext_cell ext_frozen ext_lt ext_lt1 ext_lt2 ext_lt3 ltn2 ltn3 ltn13 lts1 lts2 lts3

set_option maxHeartbeats 1000000 in
theorem implStepEdge (v : Value) (g : Gr) (s : St) (w : World) (hv : GrV 0 w.heap.size w v g) :
    Calls Try.prog 172 #[v, .agg #[.int .i64 s.1, .bool s.2]] w fun en w' => ∃ e : Ed, en = .returned (.tuple #[.agg #[.int .i64 e.1, .int .i64 e.2.1, .int .i64 e.2.2.1, .int .i64 e.2.2.2], .bool (stepEd g s.1).isSome]) ∧ (∀ e', stepEd g s.1 = some e' → e' = e) ∧ Below w.heap.size w w' := by
  have hv0 := hv
  obtain ⟨vs, es, rfl, hvs, ⟨A2, c2, rfl, hl2, hm2, hx2⟩⟩ := hv
  obtain ⟨A1, n1, c1, rfl⟩ := hvs.shape
  obtain ⟨id, inv⟩ := s
  unfold maxLen at hm2
  have hb0 : Below w.heap.size w (((w.alloc (.cells #[.slice A1 n1 c1, .slice A2 g.edges.length c2] 31)).alloc (.cells #[.int .i64 id, .bool inv] 101)).alloc (.cells #[.int .i64 0, .int .i64 0, .int .i64 0, .int .i64 0] 93)) := (((Below.refl _ _).alloc (Nat.le_refl _) _).alloc (by simp) _).alloc (by simp <;> omega) _
  have hspec := edgeIdx_spec g id
  simp only
  go_enter Try.func172, Try.ntmps172
  have HS := Lib.hid hspec
  clear hspec
  go_wp2_with fail
  refine (implEdgeIndex _ g id _ (hv0.keep hb0)).mono ?_
  rintro e w1 ⟨rfl, hb1⟩
  have b0 := (((Blk.new w _ _ w.heap.size rfl).alloc _).alloc _).keep hb1
  have b2 := (Blk.new ((w.alloc _).alloc _) _ _ (w.heap.size + 1 + 1) (by simp)).keep hb1
  have hb2 := below_trans hb0 hb1
  clear hb0 hb1
  rcases HS.out with ⟨hi, hno⟩ | ⟨i, e, hi, hx, he, hno⟩
  · have hnone := stepEd_none hno
    have HN := Lib.hid hnone
    rw [hi]
    have z0 : w1.cell? ⟨w.heap.size + 1 + 1, 0, none⟩ = some _ := b2.cell 0
    have z1 : w1.cell? ⟨w.heap.size + 1 + 1, 1, none⟩ = some _ := b2.cell 1
    have z2 : w1.cell? ⟨w.heap.size + 1 + 1, 2, none⟩ = some _ := b2.cell 2
    have z3 : w1.cell? ⟨w.heap.size + 1 + 1, 3, none⟩ = some _ := b2.cell 3
    have f0 := b2.frozen 0
    have f1 := b2.frozen 1
    have f2 := b2.frozen 2
    have f3 := b2.frozen 3
    clear hnone hno hi HS b0
    go_wp2_with fail
    refine bodyPost_ret (v := .tuple #[.agg #[.int .i64 0, .int .i64 0, .int .i64 0, .int .i64 0], .bool false]) (by simp [results, Try.results172, go_sem, z0, z1, z2, z3]) rfl ⟨(0, 0, 0, 0), by rw [HN.out]; rfl, (by rw [HN.out]; intro e' he'; cases he'), (((hb2.setCell (p := ⟨w.heap.size + 1 + 1, 0, none⟩) (by simp <;> omega) _).setCell (p := ⟨w.heap.size + 1 + 1, 1, none⟩) (by simp <;> omega) _).setCell (p := ⟨w.heap.size + 1 + 1, 2, none⟩) (by simp <;> omega) _).setCell (p := ⟨w.heap.size + 1 + 1, 3, none⟩) (by simp <;> omega) _⟩
  · rw [hi]
    have x0 : w1.cell? ⟨w.heap.size, 0, none⟩ = some _ := b0.cell 0
    have x1 : w1.cell? ⟨w.heap.size, 1, none⟩ = some _ := b0.cell 1
    have hil : i < g.edges.length := (List.getElem?_eq_some_iff.1 hx).1
    cases hg : grOk g with
    | false =>
      have hnone := stepEd_bad id hg
      have HN := Lib.hid hnone
      clear hnone hno HS hx
      go_wp2_with fail
      refine (implValidGraph _ g _ (hv0.keep hb2)).mono ?_
      rintro en w2 ⟨rfl, hb3⟩
      rw [hg]
      have b2 := b2.keep hb3
      have hb2 := below_trans hb2 hb3
      clear hb3 b0 x0 x1
      have z0 : w2.cell? ⟨w.heap.size + 1 + 1, 0, none⟩ = some _ := b2.cell 0
      have z1 : w2.cell? ⟨w.heap.size + 1 + 1, 1, none⟩ = some _ := b2.cell 1
      have z2 : w2.cell? ⟨w.heap.size + 1 + 1, 2, none⟩ = some _ := b2.cell 2
      have z3 : w2.cell? ⟨w.heap.size + 1 + 1, 3, none⟩ = some _ := b2.cell 3
      have f0 := b2.frozen 0
      have f1 := b2.frozen 1
      have f2 := b2.frozen 2
      have f3 := b2.frozen 3
      go_wp2_with fail
      refine bodyPost_ret (v := .tuple #[.agg #[.int .i64 0, .int .i64 0, .int .i64 0, .int .i64 0], .bool false]) (by simp [results, Try.results172, go_sem, z0, z1, z2, z3]) rfl ⟨(0, 0, 0, 0), by rw [HN.out]; rfl, (by rw [HN.out]; intro e' he'; cases he'), (((hb2.setCell (p := ⟨w.heap.size + 1 + 1, 0, none⟩) (by simp <;> omega) _).setCell (p := ⟨w.heap.size + 1 + 1, 1, none⟩) (by simp <;> omega) _).setCell (p := ⟨w.heap.size + 1 + 1, 2, none⟩) (by simp <;> omega) _).setCell (p := ⟨w.heap.size + 1 + 1, 3, none⟩) (by simp <;> omega) _⟩
    | true =>
      have hsome := stepEd_some hg hx he hno
      have HN := Lib.hid hsome
      obtain ⟨b9, o9, rfl, -, hb9, hc9⟩ := hx2 i e hx
      have d0 := hc9 0 _ rfl
      have d1 := hc9 1 _ rfl
      have d2 := hc9 2 _ rfl
      have d3 := hc9 3 _ rfl
      simp only [Nat.add_zero] at d0
      have HI := Lib.hid hi
      clear hsome hno HS hx hc9 hx2 he hi
      go_wp2_with fail
      refine (implValidGraph _ g _ (hv0.keep hb2)).mono ?_
      rintro en w2 ⟨rfl, hb3⟩
      rw [hg]
      have b2 := b2.keep hb3
      have b0 := b0.keep hb3
      have hb2 := below_trans hb2 hb3
      have d0 := (hb2.cell (p := ⟨b9, o9 + i * 4, none⟩) hb9).trans d0
      have d1 := (hb2.cell (p := ⟨b9, o9 + i * 4 + 1, none⟩) hb9).trans d1
      have d2 := (hb2.cell (p := ⟨b9, o9 + i * 4 + 2, none⟩) hb9).trans d2
      have d3 := (hb2.cell (p := ⟨b9, o9 + i * 4 + 3, none⟩) hb9).trans d3
      clear hb3 x0 x1
      have x1 : w2.cell? ⟨w.heap.size, 1, none⟩ = some _ := b0.cell 1
      have z0 : w2.cell? ⟨w.heap.size + 1 + 1, 0, none⟩ = some _ := b2.cell 0
      have z1 : w2.cell? ⟨w.heap.size + 1 + 1, 1, none⟩ = some _ := b2.cell 1
      have z2 : w2.cell? ⟨w.heap.size + 1 + 1, 2, none⟩ = some _ := b2.cell 2
      have z3 : w2.cell? ⟨w.heap.size + 1 + 1, 3, none⟩ = some _ := b2.cell 3
      have f0 := b2.frozen 0
      have f1 := b2.frozen 1
      have f2 := b2.frozen 2
      have f3 := b2.frozen 3
      go_wp2_with fail
      refine bodyPost_ret (v := .tuple #[.agg #[.int .i64 e.1, .int .i64 e.2.1, .int .i64 e.2.2.1, .int .i64 e.2.2.2], .bool true]) (by simp [results, Try.results172, go_sem, z0, z1, z2, z3]) rfl ⟨e, by rw [HN.out]; rfl, (by rw [HN.out]; intro e' he'; injection he' with he'; exact he'.symm), (((hb2.setCell (p := ⟨w.heap.size + 1 + 1, 0, none⟩) (by simp <;> omega) _).setCell (p := ⟨w.heap.size + 1 + 1, 1, none⟩) (by simp <;> omega) _).setCell (p := ⟨w.heap.size + 1 + 1, 2, none⟩) (by simp <;> omega) _).setCell (p := ⟨w.heap.size + 1 + 1, 3, none⟩) (by simp <;> omega) _⟩
set_option maxHeartbeats 1000000 in
theorem implStepFrom (v : Value) (g : Gr) (s : St) (w : World) (hv : GrV 0 w.heap.size w v g) :
    Calls Try.prog 136 #[v, .agg #[.int .i64 s.1, .bool s.2]] w fun en w' => en = .returned (.int .i64 (stepFrom g s)) ∧ Below w.heap.size w w' := by
  have hv0 := hv
  obtain ⟨A1, n1, c1, A2, n2, c2, rfl⟩ := hv.shape
  clear hv
  obtain ⟨id, inv⟩ := s
  have hb0 : Below w.heap.size w ((w.alloc (.cells #[.slice A1 n1 c1, .slice A2 n2 c2] 31)).alloc (.cells #[.int .i64 id, .bool inv] 101)) := ((Below.refl _ _).alloc (Nat.le_refl _) _).alloc (by simp) _
  have hc := fun W (hW : Below w.heap.size w W) => implStepEdge _ g (id, inv) W (hv0.keep hW)
  simp only at hc ⊢
  have HC := Lib.hid hc
  clear hc
  cases hs : stepEd g id with
  | none =>
    have hres : stepFrom g (id, inv) = -1 := by rw [stepFrom]; simp [hs]
    have HR := Lib.hid hres
    rw [hs] at HC
    clear hres hs
    go_enter Try.func136, Try.ntmps136
    go_wp2_with fail
    refine (HC.out _ hb0).mono ?_
    rintro en w1 ⟨e, rfl, -, hb1⟩
    have hb2 := below_trans hb0 hb1
    clear hb0 hb1
    go_wp2_with fail
    go_ret
    exact ⟨ret_int HR.out.symm, hb2.alloc hb2.size _⟩
  | some e =>
    rw [hs] at HC
    have hres : stepFrom g (id, inv) = if inv then e.2.2.1 else e.2.1 := by rw [stepFrom]; simp [hs]
    have HR := Lib.hid hres
    clear hres hs
    go_enter Try.func136, Try.ntmps136
    go_wp2_with fail
    refine (HC.out _ hb0).mono ?_
    rintro en w1 ⟨e1, rfl, he1, hb1⟩
    obtain rfl := he1 e rfl
    have b1 := (Blk.new (w.alloc _) _ _ (w.heap.size + 1) (by simp)).keep hb1
    have y1 : w1.cell? ⟨w.heap.size + 1, 1, none⟩ = some _ := b1.cell 1
    have hlt := b1.lt
    have hb2 := below_trans hb0 hb1
    clear hb0 hb1 he1 b1
    cases inv with
    | true =>
      go_wp2_with fail
      go_ret
      exact ⟨ret_int HR.out.symm, hb2.alloc hb2.size _⟩
    | false =>
      go_wp2_with fail
      go_ret
      exact ⟨ret_int HR.out.symm, hb2.alloc hb2.size _⟩

set_option maxHeartbeats 1000000 in
theorem implStepTo (v : Value) (g : Gr) (s : St) (w : World) (hv : GrV 0 w.heap.size w v g) :
    Calls Try.prog 137 #[v, .agg #[.int .i64 s.1, .bool s.2]] w fun en w' => en = .returned (.int .i64 (stepTo g s)) ∧ Below w.heap.size w w' := by
  have hv0 := hv
  obtain ⟨A1, n1, c1, A2, n2, c2, rfl⟩ := hv.shape
  clear hv
  obtain ⟨id, inv⟩ := s
  have hb0 : Below w.heap.size w ((w.alloc (.cells #[.slice A1 n1 c1, .slice A2 n2 c2] 31)).alloc (.cells #[.int .i64 id, .bool inv] 101)) := ((Below.refl _ _).alloc (Nat.le_refl _) _).alloc (by simp) _
  simp only
  go_enter Try.func137, Try.ntmps137
  go_wp2_with fail
  refine (implStepFrom _ g (id, !inv) _ (hv0.keep hb0)).mono ?_
  rintro en w1 ⟨rfl, hb1⟩
  go_wp2_with fail
  go_ret
  exact ⟨rfl, below_trans hb0 hb1⟩


theorem getD_eqS {xs : List Int} {i : Nat} {x : Int} (h : xs[i]? = some x) : xs.getD i 0 = x := by rw [List.getD_eq_getElem?_getD, h]; rfl

end Go.Proofs.Ytbkaoghlkdbofaa

/- The program's walks: their nodes, and when they are walks of a graph. -/
namespace Go.Proofs.Ytbkaoghlkdbofaa
set_option linter.unusedVariables false
set_option linter.unusedSimpArgs false
open Go.ChangeShapes Go.WideShapes Go.ChangeAt Go.RowKit
attribute [local go_sem] ext_cell ext_frozen ext_lt ext_lt1 ext_lt2 ext_lt3 ltn2 ltn3 ltn13 lts1 lts2 lts3

theorem row_shape {W : World} {base k n : Nat} {e : TypeId} {v : Value} {cs : List Value} (h : W.ownsRow base e k v n cs) (hn : n ≠ 0) : ∃ g c, v = .slice (some ⟨g, 0, none⟩) n c ∧ base ≤ g ∧ g < W.heap.size ∧ n ≤ c ∧ c ≤ maxLen := by
  have hlt := h.lt
  obtain ⟨hl, hs⟩ := h
  rcases hs with ⟨_, h0⟩ | ⟨g, cap, cur, rfl, hg, hh, hnc, hcm, r⟩
  · exact absurd h0 hn
  · exact ⟨g, cap, rfl, hg, (hlt g rfl).2, hnc, hcm⟩

set_option maxHeartbeats 4000000 in
theorem implNodes (v1 v2 : Value) (g : Gr) (k : Wk) (w : World) (hv1 : GrV 0 w.heap.size w v1 g) (hv2 : WkV 0 w.heap.size w v2 k) :
    Calls Try.prog 81 #[v1, v2] w fun en w' => ∃ v, en = .returned (.tuple #[v, .bool (walkOk g k)]) ∧ Own w.heap.size w'.heap.size w' 3 cI 1 v (nodesOut g k) ∧ Below w.heap.size w w' := by
  have hv0 := hv1
  obtain ⟨vs, es, rfl, ⟨A1, c1, rfl, hl1, hm1, -⟩, hes⟩ := hv1
  obtain ⟨A2, n2, c2, rfl⟩ := hes.shape
  obtain ⟨ss, rfl, ⟨A3, c3, rfl, hl3, hm3, hx3⟩⟩ := hv2
  unfold maxLen at hm1 hm3
  obtain ⟨st, steps⟩ := k
  simp only at *
  have hb0 : Below w.heap.size w ((w.alloc (.cells #[.slice A1 g.vals.length c1, .slice A2 n2 c2] 31)).alloc (.cells #[.int .i64 st, .slice A3 steps.length c3] 44)) := ((Below.refl _ _).alloc (Nat.le_refl _) _).alloc (by simp) _
  have HX3 := Lib.hid hx3
  have hwo : walkOk g (st, steps) = (grOk g && wi st 0 ((g.vals.length : Int) - 1) && decide (steps.length ≤ 60) && (List.range steps.length).all (linkAt g (st, steps))) := rfl
  have HW := Lib.hid hwo
  clear hx3 hes hwo
  have hvg := implValidGraph _ g _ (hv0.keep hb0)
  have HV := Lib.hid hvg
  clear hvg
  go_enter Try.func81, Try.ntmps81
  go_wp2_with fail
  refine HV.out.mono ?_
  rintro e w1 ⟨rfl, hb1⟩
  have b0 := ((Blk.new w _ _ w.heap.size rfl).alloc _).keep hb1
  have b1 := (Blk.new (w.alloc _) _ _ (w.heap.size + 1) (by simp)).keep hb1
  have hb2 := below_trans hb0 hb1
  clear hb0 hb1 HV
  have x0 : w1.cell? ⟨w.heap.size, 0, none⟩ = some _ := b0.cell 0
  have x1 : w1.cell? ⟨w.heap.size, 1, none⟩ = some _ := b0.cell 1
  have y0 : w1.cell? ⟨w.heap.size + 1, 0, none⟩ = some _ := b1.cell 0
  have y1 : w1.cell? ⟨w.heap.size + 1, 1, none⟩ = some _ := b1.cell 1
  have hlt1 := b1.lt
  have HWI := Lib.hid within_any
  cases hg : grOk g with
  | false =>
    have hfin : walkOk g (st, steps) = false := by rw [HW.out, hg]; rfl
    have HF := Lib.hid hfin
    clear HW hfin hg
    go_wp2_with fail
    go_ret2
    exact ⟨_, by rw [HF.out]; rfl, by rw [nodesOut_no HF.out]; exact Own.nil _ _ _ _ _ _, hb2⟩
  | true =>
    have q1 : IntKind.i64.wrap ((g.vals.length : Int) - 1) = (g.vals.length : Int) - 1 := IntWalk.i64_in _ (by omega)
    cases hs : wi st 0 ((g.vals.length : Int) - 1) with
    | false =>
      have hfin : walkOk g (st, steps) = false := by rw [HW.out, hg, hs]; rfl
      have HF := Lib.hid hfin
      clear HW hfin hg
      go_wp2_with (go_at_call 92; refine (HWI.out _ _ _ _).mono ?_; rintro e w' ⟨rfl, rfl⟩)
      go_ret2
      exact ⟨_, by rw [HF.out]; rfl, by rw [nodesOut_no HF.out]; exact Own.nil _ _ _ _ _ _, hb2⟩
    | true =>
      by_cases hlen : steps.length ≤ 60
      · have hlen' : decide ((steps.length : Int) > 60) = false := by simp; omega
        have hfin : walkOk g (st, steps) = (List.range steps.length).all (linkAt g (st, steps)) := by rw [HW.out, hg, hs]; simp [hlen]
        have HF := Lib.hid hfin
        clear HW hfin hg
        go_wp2_with (go_at_call 92; refine (HWI.out _ _ _ _).mono ?_; rintro e w1 ⟨rfl, rfl⟩)
        have HS := Lib.hid hs
        clear hs
        go_loopw [6, 34] (fun out ii wr => ∃ i : Nat, i ≤ steps.length ∧ ii = .int .i64 i ∧ (List.range i).all (linkAt g (st, steps)) = true ∧ wr.ownsRow w1.heap.size 3 1 out ((nodesL g (st, steps)).take (i + 1)).length (((nodesL g (st, steps)).take (i + 1)).flatMap cI) ∧ Below w1.heap.size w1 wr) (fun _ ii _ => steps.length - (intOf ii).toNat)
        case atStart => exact ⟨0, Nat.zero_le _, rfl, rfl, World.ownsRow_lit w1 #[.int .i64 st] 1 (Nat.le_refl _) (by decide) rfl, (Below.refl _ _).alloc (Nat.le_refl _) _⟩
        case round =>
          obtain ⟨i, hi, rfl, hal, hrow, hbel⟩ := hrel
          have HA := Lib.hid hal
          have hbw := below_trans hb2 hbel
          have hml : ((nodesL g (st, steps)).take (i + 1)).length = i + 1 := by rw [List.length_take, nodesL_len]; simp only; omega
          clear hal
          by_cases hlt : i < steps.length
          · have hxs : steps[i]? = some steps[i] := List.getElem?_eq_getElem hlt
            generalize steps[i] = s at hxs
            obtain ⟨sid, sinv⟩ := s
            obtain ⟨b, o, rfl, -, hb, hc⟩ := HX3.out i _ hxs
            have d0 := hc 0 _ rfl
            have d1 := hc 1 _ rfl
            simp only [Nat.add_zero] at d0
            have d0 := (hbw.cell (p := ⟨_, _, none⟩) hb).trans d0
            have d1 := (hbw.cell (p := ⟨_, _, none⟩) hb).trans d1
            obtain ⟨x, hxl⟩ : ∃ x, (nodesL g (st, steps))[i]? = some x := ⟨_, List.getElem?_eq_getElem (by rw [nodesL_len]; simp only; omega)⟩
            obtain ⟨gb, cp, hv, hg1, hg2, hnc, hcm⟩ := row_shape hrow (by omega)
            obtain ⟨m, hm⟩ : ∃ m, m = i + 1 := ⟨_, rfl⟩
            rw [hml, ← hm] at hv
            subst hv
            have hrm := hrow
            rw [show ((nodesL g (st, steps)).take (i + 1)).length = m by rw [hml, hm]] at hrm
            have c0 := (World.ownsRow.cellAt hrm i (by omega)).trans (by have := flat_at cI_len (xs := (nodesL g (st, steps)).take (i + 1)) (i := i) (x := x) (by rw [List.getElem?_take]; simp [hxl]) 0 _ rfl; simpa using this)
            clear hrm
            have hf := fun W (hW : Below w.heap.size w W) => implStepFrom _ g (sid, sinv) W (hv0.keep hW)
            have ht := fun W (hW : Below w.heap.size w W) => implStepTo _ g (sid, sinv) W (hv0.keep hW)
            have hlk := linkAt_eq (k := (st, steps)) hxs hxl
            have HLK := Lib.hid hlk
            have HFF := Lib.hid hf
            have HTT := Lib.hid ht
            have HXS := Lib.hid hxs
            have HROW := Lib.hid hrow
            have hbx := fun (X : Obj) u => below_trans (hbw.alloc hbw.size X) (ext_below (wr.alloc X) u)
            have x0 := (hbel.cell (p := ⟨_, _, none⟩) (by simp only; omega)).trans x0
            have x1 := (hbel.cell (p := ⟨_, _, none⟩) (by simp only; omega)).trans x1
            have hs1 := hbel.size
            have q2 : IntKind.i64.wrap ((m : Int) - 1) = (i : Int) := by rw [IntWalk.i64_in _ (by omega)]; omega
            have q3 : (i : Int) < (m : Int) := by omega
            have HM := Lib.hid hm
            clear hlk hf ht hxs hrow hml hm hxl hc q1 hnc hcm
            generalize stepFrom g (sid, sinv) = y at HLK HFF
            have k0 : w.heap.size < wr.heap.size := by omega
            by_cases hyx : y = x
            · have hq : (y != x) = false := by simp [hyx]
              have HYX := Lib.hid hyx
              clear hyx
              go_wp2_with fail
              refine wp_region_ext_lit (by kernel_rfl) (by kernel_rfl) ?_
              repeat (go_big_quiet_step ((go_at_call 136; exact Calls.ext_of (HFF.out _ (hbx _ _)))))
              refine wpQuiet_nil ?_
              intro _ hw'
              obtain ⟨u2, hw''⟩ := hw'
              subst hw''
              go_wp2_with fail
              refine (HTT.out _ (hbx _ _)).mono ?_
              rintro e w3 ⟨rfl, hb3⟩
              have hw3 := below_trans (Below.refl wr.heap.size wr |>.alloc (Nat.le_refl _) _) (below_trans (ext_below _ u2) hb3)
              have hrow3 := ownsRow_below HROW.out hw3 (Nat.le_refl _)
              have hs3 := Nat.le_trans hs1 hw3.size
              have hbel3 := below_trans hbel hw3
              have htl : ((nodesL g (st, steps)).take (i + 1)).length ≤ 61 := by rw [List.length_take]; omega
              clear hb3 hbx
              go_wp2_with (at_builtin; (refine wpList_append1 cI elInt rfl _ _ rfl w1.heap.size (.slice (some ⟨gb, 0, none⟩) m cp) ((nodesL g (st, steps)).take (i + 1)) (stepTo g (sid, sinv)) _ 1 _ (by rfl) hrow3 (by rfl) rfl rfl rfl (cI_one _) (by omega) (by omega) hs3 ?_); rw [← nodesL_succ HXS.out]; intro v' w4 hrow' hb4 _ _)
              go_roundw
              case rel => exact ⟨i + 1, by omega, by go_num, range_all_succ HA.out (by rw [HLK.out, HYX.out]; simp), hrow', hbel3.trans hb4⟩
              case measure => simp [intOf]; omega
            · have hq : (y != x) = true := by simp [hyx]
              have HYX := Lib.hid hyx
              clear hyx
              go_wp2_with fail
              refine wp_region_ext_lit (by kernel_rfl) (by kernel_rfl) ?_
              repeat (go_big_quiet_step ((go_at_call 136; exact Calls.ext_of (HFF.out _ (hbx _ _)))))
              refine wpQuiet_nil ?_
              intro _ hw'
              obtain ⟨u2, hw''⟩ := hw'
              subst hw''
              have hfin : walkOk g (st, steps) = false := by rw [HF.out]; exact range_all_false hlt (by rw [HLK.out]; simpa using HYX.out)
              have HFI := Lib.hid hfin
              clear hfin
              go_wp2_with fail
              go_ret2
              exact ⟨_, by rw [HFI.out]; rfl, by rw [nodesOut_no HFI.out]; exact Own.nil _ _ _ _ _ _, hbx _ _⟩
          · obtain rfl : i = steps.length := by omega
            have hfin : walkOk g (st, steps) = true := by rw [HF.out, HA.out]
            have HFF := Lib.hid hfin
            have htk : (nodesL g (st, steps)).take (steps.length + 1) = nodesL g (st, steps) := List.take_of_length_le (by rw [nodesL_len]; simp)
            rw [htk] at hrow
            have HROW := Lib.hid hrow
            clear hfin HF HA htk hml hrow
            go_wp2_with fail
            go_ret2
            exact ⟨_, by rw [HFF.out]; rfl, by rw [nodesOut_yes HFF.out]; exact (Own.of_row HROW.out rfl rfl).mono hb2.size (Nat.le_refl _), hbw⟩
      · have hlen' : decide ((steps.length : Int) > 60) = true := by simp; omega
        have hfin : walkOk g (st, steps) = false := by rw [HW.out]; simp [hlen]
        have HF := Lib.hid hfin
        clear HW hfin hg
        go_wp2_with (go_at_call 92; refine (HWI.out _ _ _ _).mono ?_; rintro e w' ⟨rfl, rfl⟩)
        go_ret2
        exact ⟨_, by rw [HF.out]; rfl, by rw [nodesOut_no HF.out]; exact Own.nil _ _ _ _ _ _, hb2⟩
end Go.Proofs.Ytbkaoghlkdbofaa

/- The program's CutCycles. -/
namespace Go.Proofs.Ytbkaoghlkdbofaa
set_option linter.unusedVariables false
set_option linter.unusedSimpArgs false
open Go.ChangeShapes Go.WideShapes Go.ChangeAt Go.RowKit
attribute [local go_sem] ext_cell ext_frozen ext_lt ext_lt1 ext_lt2 ext_lt3 ltn2 ltn3 ltn13 lts1 lts2 lts3

/-- what both sides hold in a round: the walk's box, the steps kept, the nodes they lead through -/
structure CutR (bO : Nat) (w0 wr : World) (st : Int) (vs tt : Value) (L : List St) (M : List Int) : Prop where
  box : Blk wr bO 44 #[.int .i64 st, vs]
  steps : wr.ownsRow (bO + 1) 101 2 vs L.length (L.flatMap cSt)
  there : wr.ownsRow (bO + 1) 3 1 tt M.length (M.flatMap cI)
  dis : ∀ b, vs.ownBlock = some b → tt.ownBlock ≠ some b
  bel : Below bO w0 wr
theorem CutR.alloc {bO : Nat} {w0 wr : World} {st : Int} {vs tt : Value} {L : List St} {M : List Int} (h : CutR bO w0 wr st vs tt L M) (hs : bO ≤ w0.heap.size) (o : Obj) : CutR bO w0 (wr.alloc o) st vs tt L M :=
  ⟨h.box.alloc o, h.steps.alloc o, h.there.alloc o, h.dis, h.bel.alloc (Nat.le_trans hs h.bel.size) o⟩
/-- a step is appended, and the walk's box told of it -/
theorem CutR.push {bO : Nat} {w0 wr w4 : World} {st : Int} {vs tt v' : Value} {L L' : List St} {M : List Int} {o : Obj} (h : CutR bO w0 wr st vs tt L M) (hs : bO ≤ w0.heap.size)
    (hrow : w4.ownsRow (bO + 1) 101 2 v' L'.length (L'.flatMap cSt)) (hg : (wr.alloc o).grownBy w4 vs.ownBlock) (hat : v'.ownBlock = vs.ownBlock ∨ ∃ g, v'.ownBlock = some g ∧ wr.heap.size ≤ g) :
    Blk w4 bO 44 #[.int .i64 st, vs] ∧ CutR bO w0 (w4.setCell ⟨bO, 1, none⟩ v') st v' tt L' M := by
  have hst := h.steps.lt
  have hbl := h.box.lt
  have hb4 : Blk w4 bO 44 #[.int .i64 st, vs] :=
    (hg.block bO (by simp; omega) (fun e => by have := (hst bO e.symm).1; omega)).trans (h.box.alloc o)
  refine ⟨hb4, ⟨hb4.set_ 1 v', ?_, ?_, ?_, ?_⟩⟩
  · exact ownsRow_block hrow fun b hb => Below.heap_setCell _ _ _ _ (by have := (hrow.lt b hb).1; simp only; omega)
  · have hth := h.there.lt
    refine ownsRow_block h.there fun b hb => ?_
    have h1 := hth b hb
    rw [Below.heap_setCell _ _ _ _ (by simp only; omega), hg.block b (by simp; omega) (fun e => h.dis b e.symm hb), Below.heap_alloc _ _ _ h1.2]
  · intro b hb hb2
    rcases hat with e | ⟨g, e, hge⟩
    · exact h.dis b (by rw [← e]; exact hb) hb2
    · rw [e] at hb
      injection hb with hb
      have := (h.there.lt b hb2).2
      omega
  · exact ((h.bel.alloc (Nat.le_trans hs h.bel.size) o).grown hg (by have := h.bel.size; simp; omega) (fun b hb => by have := (hst b hb).1; omega)).setCell (Nat.le_refl _) v'
theorem CutR.reslice {bO : Nat} {w0 wr : World} {st : Int} {tt : Value} {L : List St} {M : List Int} {g n cap k : Nat} (h : CutR bO w0 wr st (.slice (some ⟨g, 0, none⟩) n cap) tt L M) (hn : n = L.length) (hk : k ≤ n) :
    CutR bO w0 (wr.setCell ⟨bO, 1, none⟩ (.slice (some ⟨g, 0, none⟩) k cap)) st (.slice (some ⟨g, 0, none⟩) k cap) tt (L.take k) M := by
  have hst := h.steps.lt
  have hth := h.there.lt
  subst hn
  have h1 := ownsRow_take h.steps hk
  have hlen : (L.take k).length = k := by rw [List.length_take]; omega
  have hfl : ∀ (l : List St) (k : Nat), (l.flatMap cSt).take (k * 2) = (l.take k).flatMap cSt := by
    intro l
    induction l with
    | nil => intro k; simp
    | cons a l ih =>
      intro k
      cases k with
      | zero => simp
      | succ k => rw [Nat.succ_mul]; simp only [List.flatMap_cons, List.take_succ_cons, cSt, List.cons_append, List.nil_append]; rw [ih]
  rw [hfl] at h1
  refine ⟨h.box.set_ 1 _, ?_, ?_, h.dis, h.bel.setCell (Nat.le_refl _) _⟩
  · rw [hlen]
    exact ownsRow_block h1 fun b hb => Below.heap_setCell _ _ _ _ (by have := (hst b hb).1; simp only; omega)
  · exact ownsRow_block h.there fun b hb => Below.heap_setCell _ _ _ _ (by have := (hth b hb).1; simp only; omega)
theorem CutR.seen {bO : Nat} {w0 wr w4 : World} {st : Int} {vs tt v' : Value} {L : List St} {M M' : List Int} {o : Obj} (h : CutR bO w0 wr st vs tt L M) (hs : bO ≤ w0.heap.size)
    (hrow : w4.ownsRow (bO + 1) 3 1 v' M'.length (M'.flatMap cI)) (hg : (wr.alloc o).grownBy w4 tt.ownBlock) (hat : v'.ownBlock = tt.ownBlock ∨ ∃ g, v'.ownBlock = some g ∧ wr.heap.size ≤ g) : CutR bO w0 w4 st vs v' L M' := by
  have hst := h.steps.lt
  have hth := h.there.lt
  have hbl := h.box.lt
  refine ⟨(hg.block bO (by simp; omega) (fun e => by have := (hth bO e.symm).1; omega)).trans (h.box.alloc o), ?_, hrow, ?_, ?_⟩
  · refine ownsRow_block h.steps fun b hb => ?_
    have h1 := hst b hb
    rw [hg.block b (by simp; omega) (fun e => h.dis b hb e.symm), Below.heap_alloc _ _ _ h1.2]
  · intro b hb hb2
    rcases hat with e | ⟨g, e, hge⟩
    · exact h.dis b hb (by rw [← e]; exact hb2)
    · rw [e] at hb2
      injection hb2 with hb2
      have := (hst b hb).2
      omega
  · exact (h.bel.alloc (Nat.le_trans hs h.bel.size) o).grown hg (by have := h.bel.size; simp; omega) (fun b hb => by have := (hth b hb).1; omega)
theorem CutR.short {bO : Nat} {w0 wr : World} {st : Int} {vs : Value} {L : List St} {M : List Int} {g n cap k : Nat} (h : CutR bO w0 wr st vs (.slice (some ⟨g, 0, none⟩) n cap) L M) (hn : n = M.length) (hk : k ≤ n) :
    CutR bO w0 wr st vs (.slice (some ⟨g, 0, none⟩) k cap) L (M.take k) := by
  subst hn
  have h1 := ownsRow_take h.there hk
  have hlen : (M.take k).length = k := by rw [List.length_take]; omega
  have hfl : ∀ (l : List Int) (k : Nat), (l.flatMap cI).take (k * 1) = (l.take k).flatMap cI := by
    intro l
    induction l with
    | nil => intro k; simp
    | cons a l ih =>
      intro k
      cases k with
      | zero => simp
      | succ k => rw [Nat.succ_mul]; simp only [List.flatMap_cons, List.take_succ_cons, cI, List.cons_append, List.nil_append]; rw [ih]
  rw [hfl] at h1
  exact ⟨h.box, h.steps, by rw [hlen]; exact h1, h.dis, h.bel⟩

set_option maxHeartbeats 4000000 in
set_option maxRecDepth 100000 in
theorem implCutCycles (v1 v2 : Value) (g : Gr) (k : Wk) (w : World) (hv1 : GrV 0 w.heap.size w v1 g) (hv2 : WkV 0 w.heap.size w v2 k) :
    Calls Try.prog 27 #[v1, v2] w fun en w' => ∃ v, en = .returned (.tuple #[v, .bool (walkOk g k)]) ∧ WkO w.heap.size w'.heap.size w' v (cutOf g k) ∧ Below w.heap.size w w' := by
  have hv0 := hv1
  have hv3 := hv2
  obtain ⟨A1, n1, c1, A2, n2, c2, rfl⟩ := hv1.shape
  obtain ⟨ss, rfl, ⟨A3, c3, rfl, hl3, hm3, hx3⟩⟩ := hv2
  unfold maxLen at hm3
  have hb0 : Below w.heap.size w (((w.alloc (.cells #[.slice A1 n1 c1, .slice A2 n2 c2] 31)).alloc (.cells #[.int .i64 k.1, .slice A3 k.2.length c3] 44)).alloc (.cells #[.int .i64 0, .slice none 0 0] 44)) := (((Below.refl _ _).alloc (Nat.le_refl _) _).alloc (by simp) _).alloc (by simp; omega) _
  have hc := implNodes _ _ g k _ (hv0.keep hb0) (hv3.keep hb0)
  have bx : Blk (((w.alloc (.cells #[.slice A1 n1 c1, .slice A2 n2 c2] 31)).alloc (.cells #[.int .i64 k.1, .slice A3 k.2.length c3] 44)).alloc (.cells #[.int .i64 0, .slice none 0 0] 44)) (w.heap.size + 1) 44 #[.int .i64 k.1, .slice A3 k.2.length c3] := (Blk.new (w.alloc _) _ _ (w.heap.size + 1) (by simp)).alloc _
  have bz : Blk (((w.alloc (.cells #[.slice A1 n1 c1, .slice A2 n2 c2] 31)).alloc (.cells #[.int .i64 k.1, .slice A3 k.2.length c3] 44)).alloc (.cells #[.int .i64 0, .slice none 0 0] 44)) (w.heap.size + 1 + 1) 44 #[.int .i64 0, .slice none 0 0] := Blk.new ((w.alloc _).alloc _) _ _ (w.heap.size + 1 + 1) (by simp)
  have HC := Lib.hid hc
  have HX := Lib.hid hx3
  have HBX := Lib.hid bx
  have HBZ := Lib.hid bz
  have HB0 := Lib.hid hb0
  obtain ⟨R, hR⟩ : ∃ R, R = cutOf g k := ⟨_, rfl⟩
  rw [← hR]
  have HR := Lib.hid hR
  clear hc hx3 hv0 hv1 hv3 bx bz hb0 hR
  cases hok : walkOk g k with
  | false =>
    rw [hok] at HC
    have hfin : R = (0, []) := by rw [HR.out, cutOf, hok]; rfl
    subst hfin
    clear HR hok
    go_enter Try.func27, Try.ntmps27
    go_wp2_with fail
    refine HC.out.mono ?_
    rintro e w1 ⟨v, rfl, -, hb1⟩
    have hb2 := below_trans HB0.out hb1
    have bz1 := HBZ.out.keep hb1
    have z0 : w1.cell? ⟨w.heap.size + 1 + 1, 0, none⟩ = some (.int .i64 0) := bz1.cell 0
    have z1 : w1.cell? ⟨w.heap.size + 1 + 1, 1, none⟩ = some (.slice none 0 0) := bz1.cell 1
    have fz0 := bz1.frozen 0
    have fz1 := bz1.frozen 1
    have lz := bz1.lt
    clear bz1
    go_wp2_with fail
    refine bodyPost_ret (v := .tuple #[.agg #[.int .i64 0, .slice none 0 0], .bool false]) (by simp [results, Try.results27, go_sem, z0, z1]) rfl ⟨_, rfl, ⟨_, rfl, Own.nil _ _ _ _ _ _⟩, (hb2.setCell (p := ⟨w.heap.size + 1 + 1, 0, none⟩) (by simp only; omega) _).setCell (p := ⟨w.heap.size + 1 + 1, 1, none⟩) (by simp only; omega) _⟩
  | true =>
    rw [hok] at HC
    have hfin : R = (k.1, (cutAt g k k.2.length).1) := by rw [HR.out, cutOf, hok]; rfl
    have hk60 : k.2.length ≤ 60 := by
      rcases Nat.lt_or_ge 60 k.2.length with h3 | h3
      · rw [walkOk_long h3] at hok; cases hok
      · exact h3
    rw [nodesOut_yes hok] at HC
    have HF := Lib.hid hfin
    clear HR hok hfin
    go_enter Try.func27, Try.ntmps27
    go_wp2_with fail
    refine HC.out.mono ?_
    rintro e w1 ⟨v, rfl, ho1, hb1⟩
    have hb2 := below_trans HB0.out hb1
    have bz1 := HBZ.out.keep hb1
    have bx1 := HBX.out.keep hb1
    have x0 : w1.cell? ⟨w.heap.size + 1, 0, none⟩ = some (.int .i64 k.1) := bx1.cell 0
    have x1 : w1.cell? ⟨w.heap.size + 1, 1, none⟩ = some (.slice A3 k.2.length c3) := bx1.cell 1
    have lz := bz1.lt
    have lx := bx1.lt
    have hs0 : w.heap.size + 1 + 1 + 1 ≤ w1.heap.size := by omega
    have lx2 : w.heap.size < w1.heap.size := by omega
    have lx3 : w.heap.size + 1 < w1.heap.size + 1 := by omega
    obtain ⟨A6, c6, rfl, hl6, hm6, -⟩ := ho1.form cI_len
    have HN := Lib.hid (ho1.sl cI_len)
    have hnl := nodesL_len g k
    rw [hnl] at hl6 ⊢
    have HBZ1 := Lib.hid bz1
    have HB2 := Lib.hid hb2
    clear bz1 bx1 ho1 hb1 HBZ HBX HB0 HC hnl hb2
    go_wp2_with fail
    obtain ⟨bO, hbO⟩ : ∃ bO, bO = w1.heap.size := ⟨_, rfl⟩
    have hstart : CutR bO w1 ((w1.alloc (.cells #[.int .i64 k.1, .slice none 0 0] 44)).alloc (.cells #[.int .i64 k.1] 3)) k.1 (.slice none 0 0) (.slice (some ⟨bO + 1, 0, none⟩) 1 1) (cutAt g k 0).1 (cutAt g k 0).2 := by
      subst hbO
      refine ⟨(Blk.new w1 _ _ _ rfl).alloc _, World.ownsRow_nil _ _ _ _, ?_, ?_, ?_⟩
      · have h := World.ownsRow_lit (base := w1.heap.size + 1) (e := 3) (size := 1) (w1.alloc (.cells #[.int .i64 k.1, .slice none 0 0] 44)) #[.int .i64 k.1] 1 (by simp) (by decide) rfl
        simpa [cutAt, cI] using h
      · intro b hb; cases hb
      · exact ((Below.refl _ _).alloc (Nat.le_refl _) _).alloc (by simp) _
    have hbl : bO ≤ w1.heap.size := by omega
    have HST := Lib.hid hstart
    rw [← hbO] at hs0 HN ⊢
    clear hstart hbO
    go_loopw [9, 31] (fun tt ii wr => ∃ (i : Nat) (vs : Value), i ≤ k.2.length ∧ ii = .int .i64 (i : Int) ∧ CutR bO w1 wr k.1 vs tt (cutAt g k i).1 (cutAt g k i).2) (fun _ ii _ => k.2.length - (intOf ii).toNat)
    case atStart => exact ⟨0, _, Nat.zero_le _, rfl, HST.out⟩
    case round =>
      clear HST
      obtain ⟨i, vs, hi, rfl, hcr⟩ := hrel
      have HCR := Lib.hid hcr
      clear hcr
      by_cases hlt : i < k.2.length
      · obtain ⟨s, hs⟩ : ∃ s, s = k.2.getD i (0, false) := ⟨_, rfl⟩
        have hxs : k.2[i]? = some s := by rw [hs, List.getD_eq_getElem?_getD, List.getElem?_eq_getElem hlt]; rfl
        obtain ⟨n, hn⟩ : ∃ n, n = (nodesL g k).getD (i + 1) 0 := ⟨_, rfl⟩
        have hxn := getD_of (D := nodesL g k) (k := i + 1) (by rw [nodesL_len]; omega)
        rw [← hn] at hxn
        have HST := Lib.hid (show cutAt g k (i + 1) = cutStep (cutAt g k i) s n by rw [cutAt, ← hs, ← hn])
        have hcl := cutAt_len g k i
        generalize cutAt g k i = p at *
        obtain ⟨L, M⟩ := p
        obtain ⟨sid, sinv⟩ := s
        simp only at hcl HCR
        obtain ⟨b3, o3, rfl, -, hb3, hc3⟩ := HX.out i _ hxs
        have d0 := hc3 0 _ rfl
        have d1 := hc3 1 _ rfl
        simp only [Nat.add_zero] at d0
        have hbs := HCR.out.bel.size
        have d0 := (HCR.out.bel.cell (p := ⟨b3, o3 + i * 2, none⟩) (by simp only; omega)).trans (kcell HB2.out d0)
        have d1 := (HCR.out.bel.cell (p := ⟨b3, o3 + i * 2 + 1, none⟩) (by simp only; omega)).trans (kcell HB2.out d1)
        obtain ⟨b6, o6, rfl, -, hb6, d6⟩ := HN.out.intI hxn
        have D6 := Lib.hid d6
        obtain ⟨gt, ct, rfl, hgt0, hgt1, hct, hctm⟩ := own_some HCR.out.there (by omega)
        have z1 : wr.cell? ⟨bO, 1, none⟩ = some vs := HCR.out.box.cell 1
        have lb := HCR.out.box.lt
        have HCA := Lib.hid (HCR.out.alloc hbl (.cells #[.int .i64 sid, .bool sinv] 101))
        have hsA : bO + 1 ≤ (wr.alloc (.cells #[.int .i64 sid, .bool sinv] 101)).heap.size := by simp; omega
        have hii : (i : Int) < (k.2.length : Int) := by omega
        have q1 : IntKind.i64.wrap ((i : Int) + 1) = ((i + 1 : Nat) : Int) := by rw [IntWalk.i64_in _ (by omega)]; omega
        have hjj : ((i + 1 : Nat) : Int) < (k.2.length : Int) + 1 := by omega
        have hnb : ¬ b6 = bO := by omega
        have hnb2 : ¬ bO = b6 := by omega
        have hb6w : b6 < wr.heap.size := by omega
        have hb3w : b3 < wr.heap.size := by omega
        have HLE := Lib.hid hcl
        have hL60 : L.length ≤ 60 := by omega
        have hM60 : M.length ≤ 61 := by omega
        have hML1 : M.length ≤ L.length + 1 := by omega
        have hML2 : L.length + 1 ≤ M.length := by omega
        clear hxs hxn hs hn hc3 d6 hcl
        go_wp2_with (at_builtin; (refine wpList_append1 cSt elStep rfl _ _ rfl (bO + 1) _ L (sid, sinv) _ 1 (wr.heap.size + 1) (by rfl) HCA.out.steps (by rfl) (by simp) rfl rfl (cSt_one _) (by omega) (by omega) (by simp; omega) ?_); intro v4 w4 hrow4 hb4 hat4 hgr4; have hLs : (L ++ [(sid, sinv)]).length = L.length + 1 := (by simp); have hrow4b := hrow4; rw [hLs] at hrow4b; obtain ⟨gv, cv, hv4, hgv0, hgv1, hcv, hcvm⟩ := own_some hrow4b (by omega); subst hv4; clear hrow4b; obtain ⟨hbk4, hcr4⟩ := HCA.out.push hbl hrow4 hgr4 hat4; have HC4 := Lib.hid hcr4; have z1 := hbk4.cell 1; have fz1 := hbk4.frozen 1; have lz4 := hbk4.lt; have d6 := (hcr4.bel.cell (p := ⟨b6, o6 + (i + 1), none⟩) hb6).trans D6.out; have d62 : w4.cell? ⟨b6, o6 + (i + 1), none⟩ = some (.int .i64 n) := (World.cell?_setCell_other _ _ _ _ (fun e => hnb2 (congrArg Addr.block e))).symm.trans d6; clear hrow4 hb4 hat4 hgr4 hbk4 hcr4 hLs)
        generalize w4.setCell ⟨bO, 1, none⟩ (.slice (some ⟨gv, 0, none⟩) (L.length + 1) cv) = w5 at *
        have hix := Try.slices_Index_int gt 0 M.length ct M n w5 (Nat.le_refl _) (by omega) (fun j hj => by rw [Nat.zero_add]; exact (World.ownsRow.cellAt HC4.out.there j (by omega)).trans (flatI_at (getD_of hj)))
        rw [List.take_length] at hix
        have HIX := Lib.hid hix
        have z1 := HC4.out.box.cell 1
        have fz1 := HC4.out.box.frozen 1
        have lb := HC4.out.box.lt
        have hs5 := HC4.out.bel.size
        clear hix d62
        rcases idxOf_cases M n with e1 | ⟨kk, hkk, e1, -⟩
        · rw [e1] at HIX
          have HS2 := Lib.hid (HST.out.trans (cutStep_no (p := (L, M)) e1))
          clear e1
          refine HIX.out.mono ?_
          rintro e w6 ⟨rfl, hw6⟩
          rw [hw6]
          clear hw6
          go_wp2_with (at_builtin; (refine wpList_append1 cI elInt rfl _ _ rfl (bO + 1) _ M n _ 1 w5.heap.size (by rfl) HC4.out.there (by rfl) rfl rfl rfl (cI_one _) (by omega) (by omega) (by omega) ?_); intro v5 w7 hrow5 hb5 hat5 hgr5)
          go_roundw
          case rel => exact ⟨i + 1, _, by omega, by go_num, by rw [HS2.out]; exact HC4.out.seen hbl hrow5 hgr5 hat5⟩
          case measure => simp [intOf]; omega
        · rw [e1] at HIX
          have HS2 := Lib.hid (HST.out.trans (cutStep_yes (p := (L, M)) e1))
          have k1 : decide ((kk : Int) ≥ 0) = true := by simp
          have HC6 := Lib.hid (HC4.out.reslice (k := kk) (by simp) (by omega))
          have HC7 := Lib.hid (HC6.out.short (k := kk) rfl (by omega))
          have d66 : (w5.setCell ⟨bO, 1, none⟩ (.slice (some ⟨gv, 0, none⟩) kk cv)).cell? ⟨b6, o6 + (i + 1), none⟩ = some (.int .i64 n) := (World.cell?_setCell_other _ _ _ _ (fun e => hnb2 (congrArg Addr.block e))).trans d6
          have hkv : (kk : Int) ≤ (cv : Int) := by omega
          have hkt : (kk : Int) ≤ (ct : Int) := by omega
          have hmt : (M.take kk).length ≤ 61 := by rw [List.length_take]; omega
          clear e1
          refine HIX.out.mono ?_
          rintro e w6 ⟨rfl, hw6⟩
          rw [hw6]
          clear hw6
          go_wp2_with (at_builtin; (refine wpList_append1 cI elInt rfl _ _ rfl (bO + 1) _ (M.take kk) n _ 1 w5.heap.size (by rfl) HC7.out.there (by rfl) (by simp [World.setCell]) rfl rfl (cI_one _) (by omega) (by omega) (by simp [World.setCell]; omega) ?_); intro v5 w7 hrow5 hb5 hat5 hgr5)
          go_roundw
          case rel => exact ⟨i + 1, _, by omega, by go_num, by rw [HS2.out]; exact HC7.out.seen hbl hrow5 hgr5 hat5⟩
          case measure => simp [intOf]; omega
      · obtain rfl : i = k.2.length := by omega
        have hbz := (HCR.out.bel.block (w.heap.size + 1 + 1) (by omega)).trans HBZ1.out
        have hbz : Blk wr (w.heap.size + 1 + 1) 44 #[.int .i64 0, .slice none 0 0] := hbz
        have z0 : wr.cell? ⟨w.heap.size + 1 + 1, 0, none⟩ = some (.int .i64 0) := hbz.cell 0
        have z1 : wr.cell? ⟨w.heap.size + 1 + 1, 1, none⟩ = some (.slice none 0 0) := hbz.cell 1
        have fz0 := hbz.frozen 0
        have fz1 := hbz.frozen 1
        have lz2 := hbz.lt
        have b0 : wr.cell? ⟨bO, 0, none⟩ = some (.int .i64 k.1) := HCR.out.box.cell 0
        have hsh := (Own.of_row HCR.out.steps rfl rfl).shape
        obtain ⟨A8, n8, c8, rfl⟩ := hsh
        have b1 : wr.cell? ⟨bO, 1, none⟩ = some (.slice A8 n8 c8) := HCR.out.box.cell 1
        have lb := HCR.out.box.lt
        have hown := Own.of_row HCR.out.steps rfl rfl
        have hon := ((Only.refl (w.heap.size + 1 + 1) (w.heap.size + 1 + 1 + 1) wr).setCell (p := ⟨w.heap.size + 1 + 1, 0, none⟩) (.inl ⟨Nat.le_refl _, Nat.lt_succ_self _⟩) (.int .i64 k.1)).setCell (p := ⟨w.heap.size + 1 + 1, 1, none⟩) (.inl ⟨Nat.le_refl _, Nat.lt_succ_self _⟩) (.slice A8 n8 c8)
        have HOW := Lib.hid (hown.only hon (.inr (by omega)))
        have hbF := (HB2.out.trans (HCR.out.bel.mono (show w.heap.size ≤ bO by omega))).trans (hon.below (B := w.heap.size) (by omega) (by have := HCR.out.bel.size; omega))
        have HBF := Lib.hid hbF
        clear hbz hown hon hbF HX HN HBZ1
        go_wp2_with fail
        refine bodyPost_ret (v := .tuple #[.agg #[.int .i64 k.1, .slice A8 n8 c8], .bool true]) (by simp [results, Try.results27, go_sem, z0, z1]) rfl ⟨_, rfl, ?_, HBF.out⟩
        rw [HF.out]
        exact ⟨_, rfl, HOW.out.mono (by omega) (Nat.le_of_eq (by simp [World.setCell]))⟩
end Go.Proofs.Ytbkaoghlkdbofaa

/- The reference's CutCycles. -/
namespace Go.Proofs.Ytbkaoghlkdbofaa
set_option linter.unusedVariables false
set_option linter.unusedSimpArgs false
open Go.ChangeShapes Go.WideShapes Go.ChangeAt Go.RowKit
attribute [local go_sem] ext_cell ext_frozen ext_lt ext_lt1 ext_lt2 ext_lt3 ltn2 ltn3 ltn13 lts1 lts2 lts3

theorem CutR.keep {bO : Nat} {w0 wr w' : World} {st : Int} {vs tt : Value} {L : List St} {M : List Int} (h : CutR bO w0 wr st vs tt L M) (hs : bO ≤ w0.heap.size) (hb : Below wr.heap.size wr w') : CutR bO w0 w' st vs tt L M :=
  ⟨h.box.keep hb, ownsRow_below h.steps hb (Nat.le_refl _), ownsRow_below h.there hb (Nat.le_refl _), h.dis, h.bel.trans (hb.mono (Nat.le_trans hs h.bel.size))⟩
theorem flatI_takeL (M N : List Int) : ((M ++ N).flatMap cI).take (M.length * 1) = M.flatMap cI := by
  rw [List.flatMap_append]
  refine List.take_left' ?_
  induction M with
  | nil => rfl
  | cons a M ih => simp only [List.flatMap_cons, List.length_append, ih, List.length_cons, cI, List.length_nil]; omega
theorem take_hit {M : List Int} {n : Int} {kk : Nat} (h : M[kk]? = some n) : (M ++ [n]).take (kk + 1) = M.take kk ++ [n] := by
  have hl := (List.getElem?_eq_some_iff.1 h).1
  rw [List.take_append_of_le_length (by omega), take_snoc h]

set_option maxHeartbeats 8000000 in
set_option maxRecDepth 100000 in
theorem specCutCycles (v1 v2 : Value) (g : Gr) (k : Wk) (w : World) (hv1 : GrV 0 w.heap.size w v1 g) (hv2 : WkV 0 w.heap.size w v2 k) :
    Calls Try.prog 25 #[v1, v2] w fun en w' => ∃ v, en = .returned (.tuple #[v, .bool (walkOk g k)]) ∧ WkO w.heap.size w'.heap.size w' v (cutOf g k) ∧ Below w.heap.size w w' := by
  have hv0 := hv1
  have hv3 := hv2
  obtain ⟨A1, n1, c1, A2, n2, c2, rfl⟩ := hv1.shape
  obtain ⟨ss, rfl, ⟨A3, c3, rfl, hl3, hm3, hx3⟩⟩ := hv2
  unfold maxLen at hm3
  have hb0 : Below w.heap.size w (((w.alloc (.cells #[.slice A1 n1 c1, .slice A2 n2 c2] 31)).alloc (.cells #[.int .i64 k.1, .slice A3 k.2.length c3] 44)).alloc (.cells #[.int .i64 0, .slice none 0 0] 44)) := (((Below.refl _ _).alloc (Nat.le_refl _) _).alloc (by simp) _).alloc (by simp; omega) _
  have hc := specNodes _ _ g k _ (hv0.keep hb0) (hv3.keep hb0)
  have bx : Blk (((w.alloc (.cells #[.slice A1 n1 c1, .slice A2 n2 c2] 31)).alloc (.cells #[.int .i64 k.1, .slice A3 k.2.length c3] 44)).alloc (.cells #[.int .i64 0, .slice none 0 0] 44)) (w.heap.size + 1) 44 #[.int .i64 k.1, .slice A3 k.2.length c3] := (Blk.new (w.alloc _) _ _ (w.heap.size + 1) (by simp)).alloc _
  have bz : Blk (((w.alloc (.cells #[.slice A1 n1 c1, .slice A2 n2 c2] 31)).alloc (.cells #[.int .i64 k.1, .slice A3 k.2.length c3] 44)).alloc (.cells #[.int .i64 0, .slice none 0 0] 44)) (w.heap.size + 1 + 1) 44 #[.int .i64 0, .slice none 0 0] := Blk.new ((w.alloc _).alloc _) _ _ (w.heap.size + 1 + 1) (by simp)
  have HC := Lib.hid hc
  have HX := Lib.hid hx3
  have HBX := Lib.hid bx
  have HBZ := Lib.hid bz
  have HB0 := Lib.hid hb0
  obtain ⟨R, hR⟩ : ∃ R, R = cutOf g k := ⟨_, rfl⟩
  rw [← hR]
  have HR := Lib.hid hR
  clear hc hx3 hv0 hv1 hv3 bx bz hb0 hR
  cases hok : walkOk g k with
  | false =>
    rw [hok] at HC
    have hfin : R = (0, []) := by rw [HR.out, cutOf, hok]; rfl
    subst hfin
    clear HR hok
    go_enter Try.func25, Try.ntmps25
    go_wp2_with fail
    refine HC.out.mono ?_
    rintro e w1 ⟨v, rfl, -, hb1⟩
    have hb2 := below_trans HB0.out hb1
    have bz1 := HBZ.out.keep hb1
    have z0 : w1.cell? ⟨w.heap.size + 1 + 1, 0, none⟩ = some (.int .i64 0) := bz1.cell 0
    have z1 : w1.cell? ⟨w.heap.size + 1 + 1, 1, none⟩ = some (.slice none 0 0) := bz1.cell 1
    have fz0 := bz1.frozen 0
    have fz1 := bz1.frozen 1
    have lz := bz1.lt
    clear bz1
    go_wp2_with fail
    refine bodyPost_ret (v := .tuple #[.agg #[.int .i64 0, .slice none 0 0], .bool false]) (by simp [results, Try.results25, go_sem, z0, z1]) rfl ⟨_, rfl, ⟨_, rfl, Own.nil _ _ _ _ _ _⟩, (hb2.setCell (p := ⟨w.heap.size + 1 + 1, 0, none⟩) (by simp only; omega) _).setCell (p := ⟨w.heap.size + 1 + 1, 1, none⟩) (by simp only; omega) _⟩
  | true =>
    rw [hok] at HC
    have hfin : R = (k.1, (cutAt g k k.2.length).1) := by rw [HR.out, cutOf, hok]; rfl
    have hk60 : k.2.length ≤ 60 := by
      rcases Nat.lt_or_ge 60 k.2.length with h3 | h3
      · rw [walkOk_long h3] at hok; cases hok
      · exact h3
    rw [nodesOut_yes hok] at HC
    have HF := Lib.hid hfin
    clear HR hok hfin
    go_enter Try.func25, Try.ntmps25
    go_wp2_with fail
    refine HC.out.mono ?_
    rintro e w1 ⟨v, rfl, ho1, hb1⟩
    have hb2 := below_trans HB0.out hb1
    have bz1 := HBZ.out.keep hb1
    have bx1 := HBX.out.keep hb1
    have x0 : w1.cell? ⟨w.heap.size + 1, 0, none⟩ = some (.int .i64 k.1) := bx1.cell 0
    have x1 : w1.cell? ⟨w.heap.size + 1, 1, none⟩ = some (.slice A3 k.2.length c3) := bx1.cell 1
    have lz := bz1.lt
    have lx := bx1.lt
    have hs0 : w.heap.size + 1 + 1 + 1 ≤ w1.heap.size := by omega
    have lx2 : w.heap.size < w1.heap.size := by omega
    have lx3 : w.heap.size + 1 < w1.heap.size + 1 := by omega
    obtain ⟨A6, c6, rfl, hl6, hm6, -⟩ := ho1.form cI_len
    have HN := Lib.hid (ho1.sl cI_len)
    have hnl := nodesL_len g k
    rw [hnl] at hl6 ⊢
    have HBZ1 := Lib.hid bz1
    have HB2 := Lib.hid hb2
    clear bz1 bx1 ho1 hb1 HBZ HBX HB0 HC hnl hb2
    go_wp2_with fail
    obtain ⟨bO, hbO⟩ : ∃ bO, bO = w1.heap.size := ⟨_, rfl⟩
    have hstart : CutR bO w1 ((w1.alloc (.cells #[.int .i64 k.1, .slice none 0 0] 44)).alloc (.cells #[.int .i64 k.1] 3)) k.1 (.slice none 0 0) (.slice (some ⟨bO + 1, 0, none⟩) 1 1) (cutAt g k 0).1 (cutAt g k 0).2 := by
      subst hbO
      refine ⟨(Blk.new w1 _ _ _ rfl).alloc _, World.ownsRow_nil _ _ _ _, ?_, ?_, ?_⟩
      · have h := World.ownsRow_lit (base := w1.heap.size + 1) (e := 3) (size := 1) (w1.alloc (.cells #[.int .i64 k.1, .slice none 0 0] 44)) #[.int .i64 k.1] 1 (by simp) (by decide) rfl
        simpa [cutAt, cI] using h
      · intro b hb; cases hb
      · exact ((Below.refl _ _).alloc (Nat.le_refl _) _).alloc (by simp) _
    have hbl : bO ≤ w1.heap.size := by omega
    have HST := Lib.hid hstart
    rw [← hbO] at hs0 HN ⊢
    clear hstart hbO
    go_loopw [9, 10] (fun tt ii wr => ∃ (i : Nat) (vs : Value), i ≤ k.2.length ∧ ii = .int .i64 (i : Int) ∧ CutR bO w1 wr k.1 vs tt (cutAt g k i).1 (cutAt g k i).2) (fun _ ii _ => k.2.length - (intOf ii).toNat)
    case atStart => exact ⟨0, _, Nat.zero_le _, rfl, HST.out⟩
    case round =>
      clear HST
      obtain ⟨i, vs, hi, rfl, hcr⟩ := hrel
      have HCR := Lib.hid hcr
      have x1 := (hcr.bel.cell (p := ⟨w.heap.size + 1, 1, none⟩) (by simp only; omega)).trans x1
      have hbs := hcr.bel.size
      have lxr : w.heap.size + 1 < wr.heap.size := by omega
      clear hcr
      by_cases hlt : i < k.2.length
      · obtain ⟨s, hs⟩ : ∃ s, s = k.2.getD i (0, false) := ⟨_, rfl⟩
        have hxs : k.2[i]? = some s := by rw [hs, List.getD_eq_getElem?_getD, List.getElem?_eq_getElem hlt]; rfl
        obtain ⟨n, hn⟩ : ∃ n, n = (nodesL g k).getD (i + 1) 0 := ⟨_, rfl⟩
        have hxn := getD_of (D := nodesL g k) (k := i + 1) (by rw [nodesL_len]; omega)
        rw [← hn] at hxn
        have HST := Lib.hid (show cutAt g k (i + 1) = cutStep (cutAt g k i) s n by rw [cutAt, ← hs, ← hn])
        have hcl := cutAt_len g k i
        generalize cutAt g k i = p at *
        obtain ⟨L, M⟩ := p
        obtain ⟨sid, sinv⟩ := s
        simp only at hcl HCR
        obtain ⟨b3, o3, rfl, -, hb3, hc3⟩ := HX.out i _ hxs
        have k0 := hc3 0 _ rfl
        have k1 := hc3 1 _ rfl
        simp only [Nat.add_zero] at k0
        have d0 := (HCR.out.bel.cell (p := ⟨b3, o3 + i * 2, none⟩) (by simp only; omega)).trans (kcell HB2.out k0)
        have d1 := (HCR.out.bel.cell (p := ⟨b3, o3 + i * 2 + 1, none⟩) (by simp only; omega)).trans (kcell HB2.out k1)
        obtain ⟨b6, o6, rfl, -, hb6, k6⟩ := HN.out.intI hxn
        have D6 := Lib.hid k6
        clear k0 k1 k6
        have z1 : wr.cell? ⟨bO, 1, none⟩ = some vs := HCR.out.box.cell 1
        have lb := HCR.out.box.lt
        have hii : (i : Int) < (k.2.length : Int) := by omega
        obtain ⟨i1, hi1⟩ : ∃ i1, i1 = i + 1 := ⟨_, rfl⟩
        have q1 : IntKind.i64.wrap ((i : Int) + 1) = (i1 : Int) := by rw [IntWalk.i64_in _ (by omega)]; omega
        have hi1a : i + 1 ≤ i1 := by omega
        have hi1b : i1 ≤ i + 1 := by omega
        rw [← hi1] at D6
        have HI1 := Lib.hid hi1
        have hjj : (i1 : Int) < (k.2.length : Int) + 1 := by omega
        have hj0 : (0 : Int) ≤ (i1 : Int) := by omega
        have hb3w : b3 < wr.heap.size := by omega
        have hLEa : M.length ≤ L.length + 1 := by omega
        have hLEb : L.length + 1 ≤ M.length := by omega
        have hL60 : L.length ≤ 60 := by omega
        have hM60 : M.length ≤ 61 := by omega
        clear hxs hxn hs hn hc3 hcl hi1
        have hx1 := x1
        go_wp2_with fail
        refine F_start 10 (fun w' => w'.cell? ⟨bO, 1, none⟩ = some (vs) ∧ w'.cell? ⟨w.heap.size + 1, 1, none⟩ = some (.slice (some ⟨b3, o3, none⟩) k.2.length c3) ∧ w'.cell? ⟨b3, o3 + i * 2, none⟩ = some (.int .i64 sid) ∧ w'.cell? ⟨b3, o3 + i * 2 + 1, none⟩ = some (.bool sinv)) (by kernel_rfl) (by exact ⟨z1, x1, d0, d1⟩) (fun hS inv => ?_)
        refine F_take (i := 0) (v := ?_) rfl (by kernel_rfl) (by kernel_rfl) (by kernel_rfl) (fun _ _ _ h => h) inv (Or.inl ⟨by rfl, ?_⟩) (by assumption) (fun invn => ?_)
        rotate_left
        · (intro w hSw; (try dsimp only at hSw); go_simp; try with_reducible rfl)
        try simp only [List.getElem_toArray, List.getElem_cons_zero, List.getElem_cons_succ, Act.put, List.setIfInBounds_toArray, List.set_cons_zero, List.set_cons_succ]
        clear inv
        have inv := invn
        clear invn
        refine F_take (i := 1) (v := ?_) rfl (by kernel_rfl) (by kernel_rfl) (by kernel_rfl) (fun _ _ _ h => h) inv (Or.inl ⟨by rfl, ?_⟩) (by assumption) (fun invn => ?_)
        rotate_left
        · (intro w hSw; (try dsimp only at hSw); go_simp; try with_reducible rfl)
        try simp only [List.getElem_toArray, List.getElem_cons_zero, List.getElem_cons_succ, Act.put, List.setIfInBounds_toArray, List.set_cons_zero, List.set_cons_succ]
        clear inv
        have inv := invn
        clear invn
        refine F_take (i := 2) (v := ?_) rfl (by kernel_rfl) (by kernel_rfl) (by kernel_rfl) (fun _ _ _ h => h) inv (Or.inl ⟨by rfl, ?_⟩) (by assumption) (fun invn => ?_)
        rotate_left
        · (intro w hSw; (try dsimp only at hSw); go_simp; try with_reducible rfl)
        try simp only [List.getElem_toArray, List.getElem_cons_zero, List.getElem_cons_succ, Act.put, List.setIfInBounds_toArray, List.set_cons_zero, List.set_cons_succ]
        clear inv
        have inv := invn
        clear invn
        refine F_take (i := 3) (v := ?_) rfl (by kernel_rfl) (by kernel_rfl) (by kernel_rfl) (fun _ _ _ h => h) inv (Or.inl ⟨by rfl, ?_⟩) (by assumption) (fun invn => ?_)
        rotate_left
        · (intro w hSw; (try dsimp only at hSw); go_simp; try with_reducible rfl)
        try simp only [List.getElem_toArray, List.getElem_cons_zero, List.getElem_cons_succ, Act.put, List.setIfInBounds_toArray, List.set_cons_zero, List.set_cons_succ]
        clear inv
        have inv := invn
        clear invn
        refine F_take (i := 4) (v := ?_) rfl (by kernel_rfl) (by kernel_rfl) (by kernel_rfl) (fun _ _ _ h => h) inv (Or.inl ⟨by rfl, ?_⟩) (by assumption) (fun invn => ?_)
        rotate_left
        · (intro w hSw; (try dsimp only at hSw); go_simp; try with_reducible rfl)
        try simp only [List.getElem_toArray, List.getElem_cons_zero, List.getElem_cons_succ, Act.put, List.setIfInBounds_toArray, List.set_cons_zero, List.set_cons_succ]
        clear inv
        have inv := invn
        clear invn
        refine F_take (i := 5) (v := ?_) rfl (by kernel_rfl) (by kernel_rfl) (by kernel_rfl) (fun _ _ _ h => h) inv (Or.inl ⟨by rfl, ?_⟩) (by assumption) (fun invn => ?_)
        rotate_left
        · (intro w hSw; (try dsimp only at hSw); go_simp; try with_reducible rfl)
        try simp only [List.getElem_toArray, List.getElem_cons_zero, List.getElem_cons_succ, Act.put, List.setIfInBounds_toArray, List.set_cons_zero, List.set_cons_succ]
        clear inv
        have inv := invn
        clear invn
        refine F_take (i := 6) (v := ?_) rfl (by kernel_rfl) (by kernel_rfl) (by kernel_rfl) (fun _ _ _ h => h) inv (Or.inl ⟨by rfl, ?_⟩) (by assumption) (fun invn => ?_)
        rotate_left
        · (intro w hSw; (try dsimp only at hSw); go_simp; try with_reducible rfl)
        try simp only [List.getElem_toArray, List.getElem_cons_zero, List.getElem_cons_succ, Act.put, List.setIfInBounds_toArray, List.set_cons_zero, List.set_cons_succ]
        clear inv
        have inv := invn
        clear invn
        refine F_one (i := 7) (by kernel_rfl) rfl rfl (by omega) inv (fun K hK => ?_)
        try simp only [List.getElem_toArray, List.getElem_cons_zero, List.getElem_cons_succ]
        go_simp
        refine hK.out _ _ (kA4 _ hS) (fun hSn invn => ?_)
        try simp only [List.getElem_toArray, List.getElem_cons_zero, List.getElem_cons_succ, Act.put, List.setIfInBounds_toArray, List.set_cons_zero, List.set_cons_succ]
        clear hK K inv hS
        have inv := invn
        have hS := hSn
        clear invn hSn
        have hrowL : (wr.alloc (.cells #[.int .i64 sid, .bool sinv] 101)).drew.ownsRow (bO + 1) 101 2 vs L.length (L.flatMap cSt) := World.ownsRow.alloc (w := wr) HCR.out.steps (.cells #[.int .i64 sid, .bool sinv] 101)
        have hlitL : (wr.alloc (.cells #[.int .i64 sid, .bool sinv] 101)).drew.heap[wr.heap.size]? = some (.cells #[.int .i64 sid, .bool sinv] 101 (0, 0)) := heap_alloc_new wr _
        have hsA : wr.heap.size < (wr.alloc (.cells #[.int .i64 sid, .bool sinv] 101)).drew.heap.size := by simp
        refine F_one (i := 8) (by kernel_rfl) rfl rfl (by omega) inv (fun K hK => ?_)
        try simp only [List.getElem_toArray, List.getElem_cons_zero, List.getElem_cons_succ]
        refine op_append1 cSt elStep rfl _ _ (by rfl) (bO + 1) vs L (sid, sinv) 1 _ (by rfl) hrowL (by first | rfl | simp) hlitL rfl (cSt_one _) (by omega) (by omega) (by omega) ?_
        intro g2 cp2 w3 hown3 hgr3 hat3 hlt3
        have hgrx : (wr.alloc (.cells #[.int .i64 sid, .bool sinv] 101)).grownBy w3 vs.ownBlock := ⟨hgr3.os, hgr3.tape, hgr3.output, hgr3.size, hgr3.block⟩
        obtain ⟨hbk4, hcr4⟩ := HCR.out.push hbl hown3 hgrx (by
          rcases hat3 with h | h
          · exact .inl h.symm
          · exact .inr ⟨g2, rfl, by omega⟩)
        have hsr3 : ∀ b o u, wr.cell? ⟨b, o, none⟩ = some u → b < wr.heap.size → vs.ownBlock ≠ some b → w3.cell? ⟨b, o, none⟩ = some u := fun b o u hc hb hne =>
          (World.cell?_of_block (a := ⟨b, o, none⟩) ((hgrx.block b (by simp; omega) (fun e => hne e.symm)).trans (Below.heap_alloc wr _ b hb))).trans hc
        have hvl : ∀ b, vs.ownBlock = some b → bO + 1 ≤ b := fun b hb => (HCR.out.steps.lt b hb).1
        have HC4 := Lib.hid hcr4
        have z1 : w3.cell? ⟨bO, 1, none⟩ = some vs := hbk4.cell 1
        have fz1 := hbk4.frozen 1
        have lz4 := hbk4.lt
        have x1 := hsr3 _ _ _ hx1 lxr (fun e => by have := hvl _ e; omega)
        have d0 := hsr3 _ _ _ d0 hb3w (fun e => by have := hvl _ e; omega)
        have d1 := hsr3 _ _ _ d1 hb3w (fun e => by have := hvl _ e; omega)
        clear hown3 hgr3 hat3 hgrx hsr3 hvl hbk4 hcr4 hrowL hlitL
        refine hK.out _ _ (⟨z1, x1, d0, d1⟩) (fun hSn invn => ?_)
        try simp only [List.getElem_toArray, List.getElem_cons_zero, List.getElem_cons_succ, Act.put, List.setIfInBounds_toArray, List.set_cons_zero, List.set_cons_succ]
        clear hK K inv hS
        have inv := invn
        have hS := hSn
        clear invn hSn
        refine F_take (i := 9) (v := ?_) rfl (by kernel_rfl) (by kernel_rfl) (by kernel_rfl) (fun _ _ _ h => h) inv (Or.inl ⟨by rfl, ?_⟩) (by assumption) (fun invn => ?_)
        rotate_left
        · (intro w hSw; (try dsimp only at hSw); go_simp; try with_reducible rfl)
        try simp only [List.getElem_toArray, List.getElem_cons_zero, List.getElem_cons_succ, Act.put, List.setIfInBounds_toArray, List.set_cons_zero, List.set_cons_succ]
        clear inv
        have inv := invn
        clear invn
        refine F_last (i := 10) (by kernel_rfl) rfl rfl (by omega) (by kernel_rfl) (fun K hK => ?_)
        go_simp
        refine hK _ _ ?_
        clear hK K inv hS
        have d6 := (HC4.out.bel.cell (p := ⟨b6, o6 + i1, none⟩) (by simp only; omega)).trans D6.out
        generalize w3.setCell ⟨bO, 1, none⟩ (.slice (some ⟨g2, 0, none⟩) (L.length + 1) cp2) = w5 at *
        have hs5 := HC4.out.bel.size
        have lb5 := HC4.out.box.lt
        have hb6w : b6 < w5.heap.size := by omega
        clear z1 fz1 x1 d0 d1 hx1 lz4 hlt3 hsA
        go_wp2_with (at_builtin; (refine wpList_append1 cI elInt rfl _ _ rfl (bO + 1) _ M n _ 1 w5.heap.size (by rfl) HC4.out.there (by rfl) rfl rfl rfl (cI_one _) (by omega) (by omega) (by omega) ?_); intro v5 w7 hrow5 hb5 hat5 hgr5; have HC7 := Lib.hid (HC4.out.seen hbl hrow5 hgr5 hat5); clear hrow5 hb5 hat5 hgr5)
        have hth := HC7.out.there
        have hMl : (M ++ [n]).length = M.length + 1 := by simp
        rw [hMl] at hth
        obtain ⟨g7, c7, hv7, -, hg7w, hcl7, hcm7⟩ := own_some hth (by omega)
        subst hv7
        have htk := ownsRow_take hth (m := M.length) (by omega)
        rw [flatI_takeL] at htk
        have hsl7 := ((Own.of_row (xs := M) htk rfl rfl).sl cI_len).all (Nat.le_refl _)
        have HLF := Lib.hid (fun (W : World) (hW : Below w7.heap.size w7 W) => (l11Find_any _ M n W (SlE.keep hsl7 hW)).mono fun e w' h => (⟨h.1, by rw [h.2]; exact Below.refl _ _⟩ : e = .returned (.int .i64 (Lib.idxOf M n)) ∧ Below W.heap.size W w'))
        have d6 := (HC7.out.bel.cell (p := ⟨b6, o6 + i1, none⟩) (by simp only; omega)).trans D6.out
        have hs7 := HC7.out.bel.size
        have hb6w : b6 < w7.heap.size := by omega
        obtain ⟨m1, hm1⟩ : ∃ m1, m1 = M.length + 1 := ⟨_, rfl⟩
        have qm : IntKind.i64.wrap ((m1 : Int) - 1) = (M.length : Int) := by rw [IntWalk.i64_in _ (by omega)]; omega
        have hmc : (M.length : Int) ≤ (c7 : Int) := by omega
        have hmc0 : (0 : Int) ≤ (M.length : Int) := by omega
        rw [← hm1] at HC7 ⊢
        have HM1 := Lib.hid hm1
        clear hth hMl htk hsl7 hm1
        go_wp2_with fail
        refine wp_region_ext_lit (by kernel_rfl) (by kernel_rfl) ?_
        repeat (go_big_quiet_step ((go_at_call 79; exact Calls.ext_of (HLF.out _ (ext_below _ _)))))
        refine wpQuiet_nil ?_
        intro _ hw'
        obtain ⟨u2, hw''⟩ := hw'
        subst hw''
        have HC8 := Lib.hid (HC7.out.keep hbl (ext_below w7 u2))
        generalize ext w7 u2 = w8 at *
        have z1 := HC8.out.box.cell 1
        have fz1 := HC8.out.box.frozen 1
        have lb := HC8.out.box.lt
        clear qm d6 HC7 HLF
        rcases idxOf_cases M n with e1 | ⟨kk, hkk, e1, hhit⟩
        · rw [e1]
          have HS2 := Lib.hid (HST.out.trans (cutStep_no (p := (L, M)) e1))
          clear e1
          go_wp2_with fail
          go_roundw
          case rel => exact ⟨i + 1, _, by omega, by go_num, by rw [HS2.out]; exact HC8.out⟩
          case measure => simp [intOf]; omega
        · rw [e1]
          have HS2 := Lib.hid (HST.out.trans (cutStep_yes (p := (L, M)) e1))
          have k1 : decide ((kk : Int) ≥ 0) = true := by simp
          have HC9 := Lib.hid (HC8.out.reslice (k := kk) (by simp) (by omega))
          have HC10 := Lib.hid (HC9.out.short (k := kk + 1) (by rw [HM1.out]; simp) (by have := HM1.out; omega))
          have hst8 := HC8.out.steps
          have hkv : (kk : Int) ≤ (cp2 : Int) := by
            obtain ⟨-, hs9⟩ := hst8
            rcases hs9 with ⟨h1, _⟩ | ⟨g', cap', cur, hv, hg', hh, hnc, r⟩
            · cases h1
            · injection hv with e2 e3 e4
              subst e4
              simp at hnc
              omega
          obtain ⟨k2, hk2⟩ : ∃ k2, k2 = kk + 1 := ⟨_, rfl⟩
          have qk : IntKind.i64.wrap ((kk : Int) + 1) = (k2 : Int) := by rw [IntWalk.i64_in _ (by omega)]; omega
          have hkt : (k2 : Int) ≤ (c7 : Int) := by omega
          have hk20 : (0 : Int) ≤ (k2 : Int) := by omega
          rw [take_hit hhit, ← hk2] at HC10
          have HK2 := Lib.hid hk2
          clear e1 hk2 hst8
          go_wp2_with fail
          go_roundw
          case rel => exact ⟨i + 1, _, by omega, by go_num, by rw [HS2.out]; exact HC10.out⟩
          case measure => simp [intOf]; omega
      · obtain rfl : i = k.2.length := by omega
        have hbz := (HCR.out.bel.block (w.heap.size + 1 + 1) (by omega)).trans HBZ1.out
        have hbz : Blk wr (w.heap.size + 1 + 1) 44 #[.int .i64 0, .slice none 0 0] := hbz
        have z0 : wr.cell? ⟨w.heap.size + 1 + 1, 0, none⟩ = some (.int .i64 0) := hbz.cell 0
        have z1 : wr.cell? ⟨w.heap.size + 1 + 1, 1, none⟩ = some (.slice none 0 0) := hbz.cell 1
        have fz0 := hbz.frozen 0
        have fz1 := hbz.frozen 1
        have lz2 := hbz.lt
        have b0 : wr.cell? ⟨bO, 0, none⟩ = some (.int .i64 k.1) := HCR.out.box.cell 0
        have hsh := (Own.of_row HCR.out.steps rfl rfl).shape
        obtain ⟨A8, n8, c8, rfl⟩ := hsh
        have b1 : wr.cell? ⟨bO, 1, none⟩ = some (.slice A8 n8 c8) := HCR.out.box.cell 1
        have lb := HCR.out.box.lt
        have hown := Own.of_row HCR.out.steps rfl rfl
        have hon := ((Only.refl (w.heap.size + 1 + 1) (w.heap.size + 1 + 1 + 1) wr).setCell (p := ⟨w.heap.size + 1 + 1, 0, none⟩) (.inl ⟨Nat.le_refl _, Nat.lt_succ_self _⟩) (.int .i64 k.1)).setCell (p := ⟨w.heap.size + 1 + 1, 1, none⟩) (.inl ⟨Nat.le_refl _, Nat.lt_succ_self _⟩) (.slice A8 n8 c8)
        have HOW := Lib.hid (hown.only hon (.inr (by omega)))
        have hbF := (HB2.out.trans (HCR.out.bel.mono (show w.heap.size ≤ bO by omega))).trans (hon.below (B := w.heap.size) (by omega) (by have := HCR.out.bel.size; omega))
        have HBF := Lib.hid hbF
        clear hbz hown hon hbF HX HN HBZ1
        go_wp2_with fail
        refine bodyPost_ret (v := .tuple #[.agg #[.int .i64 k.1, .slice A8 n8 c8], .bool true]) (by simp [results, Try.results25, go_sem, z0, z1]) rfl ⟨_, rfl, ?_, HBF.out⟩
        rw [HF.out]
        exact ⟨_, rfl, HOW.out.mono (by omega) (Nat.le_of_eq (by simp [World.setCell]))⟩
end Go.Proofs.Ytbkaoghlkdbofaa

