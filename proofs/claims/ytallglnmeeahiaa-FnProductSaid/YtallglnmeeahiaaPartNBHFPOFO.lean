/- Parts of the proof, joined into one text: StepI, NodesI, NodesS, Ends, WalkS, AlongS, CntM, SetI, HasI, ProdP, PstS, ArcM. -/
import Derived.Test.YtallglnmeeahiaaPartKAOIFGGM
import Derived.Test.YtallglnmeeahiaaPartEHONMLDA
import Derived.Test.YtallglnmeeahiaaPartGEEOALPK
import Derived.Test.YtallglnmeeahiaaPartNBJMBDKF
import Derived.Test.YtallglnmeeahiaaPartBAMODNBN
import Derived.Test.YtallglnmeeahiaaPartOFPIKNKI
/- The program's steps of a graph: where they lead from and to, and whether they are allowed. -/
namespace Go.Proofs.Ytallglnmeeahiaa
set_option linter.unusedVariables false
set_option linter.unusedSimpArgs false
open Go.ChangeShapes Go.WideShapes Go.ChangeAt Go.RowKit
attribute [local go_sem] ext_cell ext_frozen ext_lt ext_lt1 ext_lt2 ext_lt3 ltn2 ltn3 ltn13 lts1 lts2 lts3

set_option maxHeartbeats 1000000 in
theorem implStepEdge (v : Value) (g : Gr) (s : St) (w : World) (hv : GrV 0 w.heap.size w v g) :
    Calls Try.prog 64 #[v, .agg #[.int .i64 s.1, .bool s.2]] w fun en w' => ∃ e : Ed, en = .returned (.tuple #[.agg #[.int .i64 e.1, .int .i64 e.2.1, .int .i64 e.2.2.1, .int .i64 e.2.2.2], .bool (stepEd g s.1).isSome]) ∧ (∀ e', stepEd g s.1 = some e' → e' = e) ∧ Below w.heap.size w w' := by
  have hv0 := hv
  obtain ⟨vs, es, rfl, hvs, ⟨A2, c2, rfl, hl2, hm2, hx2⟩⟩ := hv
  obtain ⟨A1, n1, c1, rfl⟩ := hvs.shape
  obtain ⟨id, inv⟩ := s
  unfold maxLen at hm2
  have hb0 : Below w.heap.size w (((w.alloc (.cells #[.slice A1 n1 c1, .slice A2 g.edges.length c2] 38)).alloc (.cells #[.int .i64 id, .bool inv] 54)).alloc (.cells #[.int .i64 0, .int .i64 0, .int .i64 0, .int .i64 0] 90)) := (((Below.refl _ _).alloc (Nat.le_refl _) _).alloc (by simp) _).alloc (by simp <;> omega) _
  have hspec := edgeIdx_spec g id
  simp only
  go_enter Try.func64, Try.ntmps64
  have HS := Lib.hid hspec
  clear hspec
  go_wp2_with fail
  refine (implEdgeIndex _ g id _ (hv0.keep hb0)).mono ?_
  rintro e w1 ⟨rfl, hb1⟩
  have b0 := (((Blk.new w _ _ w.heap.size rfl).alloc _).alloc _).keep hb1
  have b2 := (Blk.new ((w.alloc _).alloc _) _ _ (w.heap.size + 1 + 1) (by simp)).keep hb1
  have hb2 := below_trans hb0 hb1
  clear hb0 hb1
  rcases HS.out with ⟨hi, hno⟩ | ⟨i, e, hi, hx, he, hno⟩
  · have hnone := stepEd_none hno
    have HN := Lib.hid hnone
    rw [hi]
    have z0 : w1.cell? ⟨w.heap.size + 1 + 1, 0, none⟩ = some _ := b2.cell 0
    have z1 : w1.cell? ⟨w.heap.size + 1 + 1, 1, none⟩ = some _ := b2.cell 1
    have z2 : w1.cell? ⟨w.heap.size + 1 + 1, 2, none⟩ = some _ := b2.cell 2
    have z3 : w1.cell? ⟨w.heap.size + 1 + 1, 3, none⟩ = some _ := b2.cell 3
    have f0 := b2.frozen 0
    have f1 := b2.frozen 1
    have f2 := b2.frozen 2
    have f3 := b2.frozen 3
    clear hnone hno hi HS b0
    go_wp2_with fail
    refine bodyPost_ret (v := .tuple #[.agg #[.int .i64 0, .int .i64 0, .int .i64 0, .int .i64 0], .bool false]) (by simp [results, Try.results64, go_sem, z0, z1, z2, z3]) rfl ⟨(0, 0, 0, 0), by rw [HN.out]; rfl, (by rw [HN.out]; intro e' he'; cases he'), (((hb2.setCell (p := ⟨w.heap.size + 1 + 1, 0, none⟩) (by simp <;> omega) _).setCell (p := ⟨w.heap.size + 1 + 1, 1, none⟩) (by simp <;> omega) _).setCell (p := ⟨w.heap.size + 1 + 1, 2, none⟩) (by simp <;> omega) _).setCell (p := ⟨w.heap.size + 1 + 1, 3, none⟩) (by simp <;> omega) _⟩
  · rw [hi]
    have x0 : w1.cell? ⟨w.heap.size, 0, none⟩ = some _ := b0.cell 0
    have x1 : w1.cell? ⟨w.heap.size, 1, none⟩ = some _ := b0.cell 1
    have hil : i < g.edges.length := (List.getElem?_eq_some_iff.1 hx).1
    cases hg : grOk g with
    | false =>
      have hnone := stepEd_bad id hg
      have HN := Lib.hid hnone
      clear hnone hno HS hx
      go_wp2_with fail
      refine (implValidGraph _ g _ (hv0.keep hb2)).mono ?_
      rintro en w2 ⟨rfl, hb3⟩
      rw [hg]
      have b2 := b2.keep hb3
      have hb2 := below_trans hb2 hb3
      clear hb3 b0 x0 x1
      have z0 : w2.cell? ⟨w.heap.size + 1 + 1, 0, none⟩ = some _ := b2.cell 0
      have z1 : w2.cell? ⟨w.heap.size + 1 + 1, 1, none⟩ = some _ := b2.cell 1
      have z2 : w2.cell? ⟨w.heap.size + 1 + 1, 2, none⟩ = some _ := b2.cell 2
      have z3 : w2.cell? ⟨w.heap.size + 1 + 1, 3, none⟩ = some _ := b2.cell 3
      have f0 := b2.frozen 0
      have f1 := b2.frozen 1
      have f2 := b2.frozen 2
      have f3 := b2.frozen 3
      go_wp2_with fail
      refine bodyPost_ret (v := .tuple #[.agg #[.int .i64 0, .int .i64 0, .int .i64 0, .int .i64 0], .bool false]) (by simp [results, Try.results64, go_sem, z0, z1, z2, z3]) rfl ⟨(0, 0, 0, 0), by rw [HN.out]; rfl, (by rw [HN.out]; intro e' he'; cases he'), (((hb2.setCell (p := ⟨w.heap.size + 1 + 1, 0, none⟩) (by simp <;> omega) _).setCell (p := ⟨w.heap.size + 1 + 1, 1, none⟩) (by simp <;> omega) _).setCell (p := ⟨w.heap.size + 1 + 1, 2, none⟩) (by simp <;> omega) _).setCell (p := ⟨w.heap.size + 1 + 1, 3, none⟩) (by simp <;> omega) _⟩
    | true =>
      have hsome := stepEd_some hg hx he hno
      have HN := Lib.hid hsome
      obtain ⟨b9, o9, rfl, -, hb9, hc9⟩ := hx2 i e hx
      have d0 := hc9 0 _ rfl
      have d1 := hc9 1 _ rfl
      have d2 := hc9 2 _ rfl
      have d3 := hc9 3 _ rfl
      simp only [Nat.add_zero] at d0
      have HI := Lib.hid hi
      clear hsome hno HS hx hc9 hx2 he hi
      go_wp2_with fail
      refine (implValidGraph _ g _ (hv0.keep hb2)).mono ?_
      rintro en w2 ⟨rfl, hb3⟩
      rw [hg]
      have b2 := b2.keep hb3
      have b0 := b0.keep hb3
      have hb2 := below_trans hb2 hb3
      have d0 := (hb2.cell (p := ⟨b9, o9 + i * 4, none⟩) hb9).trans d0
      have d1 := (hb2.cell (p := ⟨b9, o9 + i * 4 + 1, none⟩) hb9).trans d1
      have d2 := (hb2.cell (p := ⟨b9, o9 + i * 4 + 2, none⟩) hb9).trans d2
      have d3 := (hb2.cell (p := ⟨b9, o9 + i * 4 + 3, none⟩) hb9).trans d3
      clear hb3 x0 x1
      have x1 : w2.cell? ⟨w.heap.size, 1, none⟩ = some _ := b0.cell 1
      have z0 : w2.cell? ⟨w.heap.size + 1 + 1, 0, none⟩ = some _ := b2.cell 0
      have z1 : w2.cell? ⟨w.heap.size + 1 + 1, 1, none⟩ = some _ := b2.cell 1
      have z2 : w2.cell? ⟨w.heap.size + 1 + 1, 2, none⟩ = some _ := b2.cell 2
      have z3 : w2.cell? ⟨w.heap.size + 1 + 1, 3, none⟩ = some _ := b2.cell 3
      have f0 := b2.frozen 0
      have f1 := b2.frozen 1
      have f2 := b2.frozen 2
      have f3 := b2.frozen 3
      go_wp2_with fail
      refine bodyPost_ret (v := .tuple #[.agg #[.int .i64 e.1, .int .i64 e.2.1, .int .i64 e.2.2.1, .int .i64 e.2.2.2], .bool true]) (by simp [results, Try.results64, go_sem, z0, z1, z2, z3]) rfl ⟨e, by rw [HN.out]; rfl, (by rw [HN.out]; intro e' he'; injection he' with he'; exact he'.symm), (((hb2.setCell (p := ⟨w.heap.size + 1 + 1, 0, none⟩) (by simp <;> omega) _).setCell (p := ⟨w.heap.size + 1 + 1, 1, none⟩) (by simp <;> omega) _).setCell (p := ⟨w.heap.size + 1 + 1, 2, none⟩) (by simp <;> omega) _).setCell (p := ⟨w.heap.size + 1 + 1, 3, none⟩) (by simp <;> omega) _⟩
set_option maxHeartbeats 1000000 in
theorem implStepFrom (v : Value) (g : Gr) (s : St) (w : World) (hv : GrV 0 w.heap.size w v g) :
    Calls Try.prog 26 #[v, .agg #[.int .i64 s.1, .bool s.2]] w fun en w' => en = .returned (.int .i64 (stepFrom g s)) ∧ Below w.heap.size w w' := by
  have hv0 := hv
  obtain ⟨A1, n1, c1, A2, n2, c2, rfl⟩ := hv.shape
  clear hv
  obtain ⟨id, inv⟩ := s
  have hb0 : Below w.heap.size w ((w.alloc (.cells #[.slice A1 n1 c1, .slice A2 n2 c2] 38)).alloc (.cells #[.int .i64 id, .bool inv] 54)) := ((Below.refl _ _).alloc (Nat.le_refl _) _).alloc (by simp) _
  have hc := fun W (hW : Below w.heap.size w W) => implStepEdge _ g (id, inv) W (hv0.keep hW)
  simp only at hc ⊢
  have HC := Lib.hid hc
  clear hc
  cases hs : stepEd g id with
  | none =>
    have hres : stepFrom g (id, inv) = -1 := by rw [stepFrom]; simp [hs]
    have HR := Lib.hid hres
    rw [hs] at HC
    clear hres hs
    go_enter Try.func26, Try.ntmps26
    go_wp2_with fail
    refine (HC.out _ hb0).mono ?_
    rintro en w1 ⟨e, rfl, -, hb1⟩
    have hb2 := below_trans hb0 hb1
    clear hb0 hb1
    go_wp2_with fail
    go_ret
    exact ⟨ret_int HR.out.symm, hb2.alloc hb2.size _⟩
  | some e =>
    rw [hs] at HC
    have hres : stepFrom g (id, inv) = if inv then e.2.2.1 else e.2.1 := by rw [stepFrom]; simp [hs]
    have HR := Lib.hid hres
    clear hres hs
    go_enter Try.func26, Try.ntmps26
    go_wp2_with fail
    refine (HC.out _ hb0).mono ?_
    rintro en w1 ⟨e1, rfl, he1, hb1⟩
    obtain rfl := he1 e rfl
    have b1 := (Blk.new (w.alloc _) _ _ (w.heap.size + 1) (by simp)).keep hb1
    have y1 : w1.cell? ⟨w.heap.size + 1, 1, none⟩ = some _ := b1.cell 1
    have hlt := b1.lt
    have hb2 := below_trans hb0 hb1
    clear hb0 hb1 he1 b1
    cases inv with
    | true =>
      go_wp2_with fail
      go_ret
      exact ⟨ret_int HR.out.symm, hb2.alloc hb2.size _⟩
    | false =>
      go_wp2_with fail
      go_ret
      exact ⟨ret_int HR.out.symm, hb2.alloc hb2.size _⟩

set_option maxHeartbeats 1000000 in
theorem implStepTo (v : Value) (g : Gr) (s : St) (w : World) (hv : GrV 0 w.heap.size w v g) :
    Calls Try.prog 27 #[v, .agg #[.int .i64 s.1, .bool s.2]] w fun en w' => en = .returned (.int .i64 (stepTo g s)) ∧ Below w.heap.size w w' := by
  have hv0 := hv
  obtain ⟨A1, n1, c1, A2, n2, c2, rfl⟩ := hv.shape
  clear hv
  obtain ⟨id, inv⟩ := s
  have hb0 : Below w.heap.size w ((w.alloc (.cells #[.slice A1 n1 c1, .slice A2 n2 c2] 38)).alloc (.cells #[.int .i64 id, .bool inv] 54)) := ((Below.refl _ _).alloc (Nat.le_refl _) _).alloc (by simp) _
  simp only
  go_enter Try.func27, Try.ntmps27
  go_wp2_with fail
  refine (implStepFrom _ g (id, !inv) _ (hv0.keep hb0)).mono ?_
  rintro en w1 ⟨rfl, hb1⟩
  go_wp2_with fail
  go_ret
  exact ⟨rfl, below_trans hb0 hb1⟩


theorem getD_eqS {xs : List Int} {i : Nat} {x : Int} (h : xs[i]? = some x) : xs.getD i 0 = x := by rw [List.getD_eq_getElem?_getD, h]; rfl

end Go.Proofs.Ytallglnmeeahiaa

/- The program's walks: their nodes, and when they are walks of a graph. -/
namespace Go.Proofs.Ytallglnmeeahiaa
set_option linter.unusedVariables false
set_option linter.unusedSimpArgs false
open Go.ChangeShapes Go.WideShapes Go.ChangeAt Go.RowKit
attribute [local go_sem] ext_cell ext_frozen ext_lt ext_lt1 ext_lt2 ext_lt3 ltn2 ltn3 ltn13 lts1 lts2 lts3

theorem row_shape {W : World} {base k n : Nat} {e : TypeId} {v : Value} {cs : List Value} (h : W.ownsRow base e k v n cs) (hn : n ≠ 0) : ∃ g c, v = .slice (some ⟨g, 0, none⟩) n c ∧ base ≤ g ∧ g < W.heap.size ∧ n ≤ c ∧ c ≤ maxLen := by
  have hlt := h.lt
  obtain ⟨hl, hs⟩ := h
  rcases hs with ⟨_, h0⟩ | ⟨g, cap, cur, rfl, hg, hh, hnc, hcm, r⟩
  · exact absurd h0 hn
  · exact ⟨g, cap, rfl, hg, (hlt g rfl).2, hnc, hcm⟩

set_option maxHeartbeats 4000000 in
theorem implNodes (v1 v2 : Value) (g : Gr) (k : Wk) (w : World) (hv1 : GrV 0 w.heap.size w v1 g) (hv2 : WkV 0 w.heap.size w v2 k) :
    Calls Try.prog 49 #[v1, v2] w fun en w' => ∃ v, en = .returned (.tuple #[v, .bool (walkOk g k)]) ∧ Own w.heap.size w'.heap.size w' 3 cI 1 v (nodesOut g k) ∧ Below w.heap.size w w' := by
  have hv0 := hv1
  obtain ⟨vs, es, rfl, ⟨A1, c1, rfl, hl1, hm1, -⟩, hes⟩ := hv1
  obtain ⟨A2, n2, c2, rfl⟩ := hes.shape
  obtain ⟨ss, rfl, ⟨A3, c3, rfl, hl3, hm3, hx3⟩⟩ := hv2
  unfold maxLen at hm1 hm3
  obtain ⟨st, steps⟩ := k
  simp only at *
  have hb0 : Below w.heap.size w ((w.alloc (.cells #[.slice A1 g.vals.length c1, .slice A2 n2 c2] 38)).alloc (.cells #[.int .i64 st, .slice A3 steps.length c3] 41)) := ((Below.refl _ _).alloc (Nat.le_refl _) _).alloc (by simp) _
  have HX3 := Lib.hid hx3
  have hwo : walkOk g (st, steps) = (grOk g && wi st 0 ((g.vals.length : Int) - 1) && decide (steps.length ≤ 60) && (List.range steps.length).all (linkAt g (st, steps))) := rfl
  have HW := Lib.hid hwo
  clear hx3 hes hwo
  have hvg := implValidGraph _ g _ (hv0.keep hb0)
  have HV := Lib.hid hvg
  clear hvg
  go_enter Try.func49, Try.ntmps49
  go_wp2_with fail
  refine HV.out.mono ?_
  rintro e w1 ⟨rfl, hb1⟩
  have b0 := ((Blk.new w _ _ w.heap.size rfl).alloc _).keep hb1
  have b1 := (Blk.new (w.alloc _) _ _ (w.heap.size + 1) (by simp)).keep hb1
  have hb2 := below_trans hb0 hb1
  clear hb0 hb1 HV
  have x0 : w1.cell? ⟨w.heap.size, 0, none⟩ = some _ := b0.cell 0
  have x1 : w1.cell? ⟨w.heap.size, 1, none⟩ = some _ := b0.cell 1
  have y0 : w1.cell? ⟨w.heap.size + 1, 0, none⟩ = some _ := b1.cell 0
  have y1 : w1.cell? ⟨w.heap.size + 1, 1, none⟩ = some _ := b1.cell 1
  have hlt1 := b1.lt
  have HWI := Lib.hid within_any
  cases hg : grOk g with
  | false =>
    have hfin : walkOk g (st, steps) = false := by rw [HW.out, hg]; rfl
    have HF := Lib.hid hfin
    clear HW hfin hg
    go_wp2_with fail
    go_ret2
    exact ⟨_, by rw [HF.out]; rfl, by rw [nodesOut_no HF.out]; exact Own.nil _ _ _ _ _ _, hb2⟩
  | true =>
    have q1 : IntKind.i64.wrap ((g.vals.length : Int) - 1) = (g.vals.length : Int) - 1 := IntWalk.i64_in _ (by omega)
    cases hs : wi st 0 ((g.vals.length : Int) - 1) with
    | false =>
      have hfin : walkOk g (st, steps) = false := by rw [HW.out, hg, hs]; rfl
      have HF := Lib.hid hfin
      clear HW hfin hg
      go_wp2_with (go_at_call 39; refine (HWI.out _ _ _ _).mono ?_; rintro e w' ⟨rfl, rfl⟩)
      go_ret2
      exact ⟨_, by rw [HF.out]; rfl, by rw [nodesOut_no HF.out]; exact Own.nil _ _ _ _ _ _, hb2⟩
    | true =>
      by_cases hlen : steps.length ≤ 60
      · have hlen' : decide ((steps.length : Int) > 60) = false := by simp; omega
        have hfin : walkOk g (st, steps) = (List.range steps.length).all (linkAt g (st, steps)) := by rw [HW.out, hg, hs]; simp [hlen]
        have HF := Lib.hid hfin
        clear HW hfin hg
        go_wp2_with (go_at_call 39; refine (HWI.out _ _ _ _).mono ?_; rintro e w1 ⟨rfl, rfl⟩)
        have HS := Lib.hid hs
        clear hs
        go_loopw [6, 34] (fun out ii wr => ∃ i : Nat, i ≤ steps.length ∧ ii = .int .i64 i ∧ (List.range i).all (linkAt g (st, steps)) = true ∧ wr.ownsRow w1.heap.size 3 1 out ((nodesL g (st, steps)).take (i + 1)).length (((nodesL g (st, steps)).take (i + 1)).flatMap cI) ∧ Below w1.heap.size w1 wr) (fun _ ii _ => steps.length - (intOf ii).toNat)
        case atStart => exact ⟨0, Nat.zero_le _, rfl, rfl, World.ownsRow_lit w1 #[.int .i64 st] 1 (Nat.le_refl _) (by decide) rfl, (Below.refl _ _).alloc (Nat.le_refl _) _⟩
        case round =>
          obtain ⟨i, hi, rfl, hal, hrow, hbel⟩ := hrel
          have HA := Lib.hid hal
          have hbw := below_trans hb2 hbel
          have hml : ((nodesL g (st, steps)).take (i + 1)).length = i + 1 := by rw [List.length_take, nodesL_len]; simp only; omega
          clear hal
          by_cases hlt : i < steps.length
          · have hxs : steps[i]? = some steps[i] := List.getElem?_eq_getElem hlt
            generalize steps[i] = s at hxs
            obtain ⟨sid, sinv⟩ := s
            obtain ⟨b, o, rfl, -, hb, hc⟩ := HX3.out i _ hxs
            have d0 := hc 0 _ rfl
            have d1 := hc 1 _ rfl
            simp only [Nat.add_zero] at d0
            have d0 := (hbw.cell (p := ⟨_, _, none⟩) hb).trans d0
            have d1 := (hbw.cell (p := ⟨_, _, none⟩) hb).trans d1
            obtain ⟨x, hxl⟩ : ∃ x, (nodesL g (st, steps))[i]? = some x := ⟨_, List.getElem?_eq_getElem (by rw [nodesL_len]; simp only; omega)⟩
            obtain ⟨gb, cp, hv, hg1, hg2, hnc, hcm⟩ := row_shape hrow (by omega)
            obtain ⟨m, hm⟩ : ∃ m, m = i + 1 := ⟨_, rfl⟩
            rw [hml, ← hm] at hv
            subst hv
            have hrm := hrow
            rw [show ((nodesL g (st, steps)).take (i + 1)).length = m by rw [hml, hm]] at hrm
            have c0 := (World.ownsRow.cellAt hrm i (by omega)).trans (by have := flat_at cI_len (xs := (nodesL g (st, steps)).take (i + 1)) (i := i) (x := x) (by rw [List.getElem?_take]; simp [hxl]) 0 _ rfl; simpa using this)
            clear hrm
            have hf := fun W (hW : Below w.heap.size w W) => implStepFrom _ g (sid, sinv) W (hv0.keep hW)
            have ht := fun W (hW : Below w.heap.size w W) => implStepTo _ g (sid, sinv) W (hv0.keep hW)
            have hlk := linkAt_eq (k := (st, steps)) hxs hxl
            have HLK := Lib.hid hlk
            have HFF := Lib.hid hf
            have HTT := Lib.hid ht
            have HXS := Lib.hid hxs
            have HROW := Lib.hid hrow
            have hbx := fun (X : Obj) u => below_trans (hbw.alloc hbw.size X) (ext_below (wr.alloc X) u)
            have x0 := (hbel.cell (p := ⟨_, _, none⟩) (by simp only; omega)).trans x0
            have x1 := (hbel.cell (p := ⟨_, _, none⟩) (by simp only; omega)).trans x1
            have hs1 := hbel.size
            have q2 : IntKind.i64.wrap ((m : Int) - 1) = (i : Int) := by rw [IntWalk.i64_in _ (by omega)]; omega
            have q3 : (i : Int) < (m : Int) := by omega
            have HM := Lib.hid hm
            clear hlk hf ht hxs hrow hml hm hxl hc q1 hnc hcm
            generalize stepFrom g (sid, sinv) = y at HLK HFF
            have k0 : w.heap.size < wr.heap.size := by omega
            by_cases hyx : y = x
            · have hq : (y != x) = false := by simp [hyx]
              have HYX := Lib.hid hyx
              clear hyx
              go_wp2_with fail
              refine wp_region_ext_lit (by kernel_rfl) (by kernel_rfl) ?_
              repeat (go_big_quiet_step ((go_at_call 26; exact Calls.ext_of (HFF.out _ (hbx _ _)))))
              refine wpQuiet_nil ?_
              intro _ hw'
              obtain ⟨u2, hw''⟩ := hw'
              subst hw''
              go_wp2_with fail
              refine (HTT.out _ (hbx _ _)).mono ?_
              rintro e w3 ⟨rfl, hb3⟩
              have hw3 := below_trans (Below.refl wr.heap.size wr |>.alloc (Nat.le_refl _) _) (below_trans (ext_below _ u2) hb3)
              have hrow3 := ownsRow_below HROW.out hw3 (Nat.le_refl _)
              have hs3 := Nat.le_trans hs1 hw3.size
              have hbel3 := below_trans hbel hw3
              have htl : ((nodesL g (st, steps)).take (i + 1)).length ≤ 61 := by rw [List.length_take]; omega
              clear hb3 hbx
              go_wp2_with (at_builtin; (refine wpList_append1 cI elInt rfl _ _ rfl w1.heap.size (.slice (some ⟨gb, 0, none⟩) m cp) ((nodesL g (st, steps)).take (i + 1)) (stepTo g (sid, sinv)) _ 1 _ (by rfl) hrow3 (by rfl) rfl rfl rfl (cI_one _) (by omega) (by omega) hs3 ?_); rw [← nodesL_succ HXS.out]; intro v' w4 hrow' hb4 _ _)
              go_roundw
              case rel => exact ⟨i + 1, by omega, by go_num, range_all_succ HA.out (by rw [HLK.out, HYX.out]; simp), hrow', hbel3.trans hb4⟩
              case measure => simp [intOf]; omega
            · have hq : (y != x) = true := by simp [hyx]
              have HYX := Lib.hid hyx
              clear hyx
              go_wp2_with fail
              refine wp_region_ext_lit (by kernel_rfl) (by kernel_rfl) ?_
              repeat (go_big_quiet_step ((go_at_call 26; exact Calls.ext_of (HFF.out _ (hbx _ _)))))
              refine wpQuiet_nil ?_
              intro _ hw'
              obtain ⟨u2, hw''⟩ := hw'
              subst hw''
              have hfin : walkOk g (st, steps) = false := by rw [HF.out]; exact range_all_false hlt (by rw [HLK.out]; simpa using HYX.out)
              have HFI := Lib.hid hfin
              clear hfin
              go_wp2_with fail
              go_ret2
              exact ⟨_, by rw [HFI.out]; rfl, by rw [nodesOut_no HFI.out]; exact Own.nil _ _ _ _ _ _, hbx _ _⟩
          · obtain rfl : i = steps.length := by omega
            have hfin : walkOk g (st, steps) = true := by rw [HF.out, HA.out]
            have HFF := Lib.hid hfin
            have htk : (nodesL g (st, steps)).take (steps.length + 1) = nodesL g (st, steps) := List.take_of_length_le (by rw [nodesL_len]; simp)
            rw [htk] at hrow
            have HROW := Lib.hid hrow
            clear hfin HF HA htk hml hrow
            go_wp2_with fail
            go_ret2
            exact ⟨_, by rw [HFF.out]; rfl, by rw [nodesOut_yes HFF.out]; exact (Own.of_row HROW.out rfl rfl).mono hb2.size (Nat.le_refl _), hbw⟩
      · have hlen' : decide ((steps.length : Int) > 60) = true := by simp; omega
        have hfin : walkOk g (st, steps) = false := by rw [HW.out]; simp [hlen]
        have HF := Lib.hid hfin
        clear HW hfin hg
        go_wp2_with (go_at_call 39; refine (HWI.out _ _ _ _).mono ?_; rintro e w' ⟨rfl, rfl⟩)
        go_ret2
        exact ⟨_, by rw [HF.out]; rfl, by rw [nodesOut_no HF.out]; exact Own.nil _ _ _ _ _ _, hb2⟩
end Go.Proofs.Ytallglnmeeahiaa

/- The reference's walks: their nodes, and when they are walks of a graph. -/
namespace Go.Proofs.Ytallglnmeeahiaa
set_option linter.unusedVariables false
set_option linter.unusedSimpArgs false
open Go.ChangeShapes Go.WideShapes Go.ChangeAt Go.RowKit
attribute [local go_sem] ext_cell ext_frozen ext_lt ext_lt1 ext_lt2 ext_lt3 ltn2 ltn3 ltn13 lts1 lts2 lts3

theorem row_shapeS {W : World} {base k n : Nat} {e : TypeId} {v : Value} {cs : List Value} (h : W.ownsRow base e k v n cs) (hn : n ≠ 0) : ∃ g c, v = .slice (some ⟨g, 0, none⟩) n c ∧ base ≤ g ∧ g < W.heap.size ∧ n ≤ c ∧ c ≤ maxLen := by
  have hlt := h.lt
  obtain ⟨hl, hs⟩ := h
  rcases hs with ⟨_, h0⟩ | ⟨g, cap, cur, rfl, hg, hh, hnc, hcm, r⟩
  · exact absurd h0 hn
  · exact ⟨g, cap, rfl, hg, (hlt g rfl).2, hnc, hcm⟩

set_option maxRecDepth 100000 in
set_option maxHeartbeats 8000000 in
theorem specNodes (v1 v2 : Value) (g : Gr) (k : Wk) (w : World) (hv1 : GrV 0 w.heap.size w v1 g) (hv2 : WkV 0 w.heap.size w v2 k) :
    Calls Try.prog 51 #[v1, v2] w fun en w' => ∃ v, en = .returned (.tuple #[v, .bool (walkOk g k)]) ∧ Own w.heap.size w'.heap.size w' 3 cI 1 v (nodesOut g k) ∧ Below w.heap.size w w' := by
  have hv0 := hv1
  obtain ⟨vs, es, rfl, ⟨A1, c1, rfl, hl1, hm1, -⟩, hes⟩ := hv1
  obtain ⟨A2, c2, rfl, hl2, hm2, hx2⟩ := hes
  have HX2 := Lib.hid hx2
  obtain ⟨ss, rfl, ⟨A3, c3, rfl, hl3, hm3, hx3⟩⟩ := hv2
  unfold maxLen at hm1 hm2 hm3
  obtain ⟨st, steps⟩ := k
  simp only at *
  have hb0 : Below w.heap.size w ((w.alloc (.cells #[.slice A1 g.vals.length c1, .slice A2 g.edges.length c2] 38)).alloc (.cells #[.int .i64 st, .slice A3 steps.length c3] 41)) := ((Below.refl _ _).alloc (Nat.le_refl _) _).alloc (by simp) _
  have HX3 := Lib.hid hx3
  have hwo : walkOk g (st, steps) = (grOk g && wi st 0 ((g.vals.length : Int) - 1) && decide (steps.length ≤ 60) && (List.range steps.length).all (linkAt g (st, steps))) := rfl
  have HW := Lib.hid hwo
  clear hx3 hx2 hwo
  have hvg := specValidGraph _ g _ (hv0.keep hb0)
  have HV := Lib.hid hvg
  clear hvg
  go_enter Try.func51, Try.ntmps51
  go_wp2_with fail
  refine HV.out.mono ?_
  rintro e w1 ⟨rfl, hb1⟩
  have b0 := ((Blk.new w _ _ w.heap.size rfl).alloc _).keep hb1
  have b1 := (Blk.new (w.alloc _) _ _ (w.heap.size + 1) (by simp)).keep hb1
  have hb2 := below_trans hb0 hb1
  clear hb0 hb1 HV
  have x0 : w1.cell? ⟨w.heap.size, 0, none⟩ = some _ := b0.cell 0
  have x1 : w1.cell? ⟨w.heap.size, 1, none⟩ = some _ := b0.cell 1
  have y0 : w1.cell? ⟨w.heap.size + 1, 0, none⟩ = some _ := b1.cell 0
  have y1 : w1.cell? ⟨w.heap.size + 1, 1, none⟩ = some _ := b1.cell 1
  have hlt1 := b1.lt
  have HWI := Lib.hid l1In_any
  cases hg : grOk g with
  | false =>
    have hfin : walkOk g (st, steps) = false := by rw [HW.out, hg]; rfl
    have HF := Lib.hid hfin
    clear HW hfin hg
    go_wp2_with fail
    go_ret2
    exact ⟨_, by rw [HF.out]; rfl, by rw [nodesOut_no HF.out]; exact (Own.of_row (World.ownsRow_lit _ #[] 0 (Nat.le_refl _) (by decide) rfl) rfl rfl).mono hb2.size (Nat.le_refl _), hb2.alloc hb2.size _⟩
  | true =>
    have q1 : IntKind.i64.wrap ((g.vals.length : Int) - 1) = (g.vals.length : Int) - 1 := IntWalk.i64_in _ (by omega)
    cases hs : wi st 0 ((g.vals.length : Int) - 1) with
    | false =>
      have hfin : walkOk g (st, steps) = false := by rw [HW.out, hg, hs]; rfl
      have HF := Lib.hid hfin
      clear HW hfin hg
      go_wp2_with (go_at_call 43; refine (HWI.out _ _ _ _).mono ?_; rintro e w1 ⟨rfl, rfl⟩)
      go_ret2
      exact ⟨_, by rw [HF.out]; rfl, by rw [nodesOut_no HF.out]; exact (Own.of_row (World.ownsRow_lit _ #[] 0 (Nat.le_refl _) (by decide) rfl) rfl rfl).mono hb2.size (Nat.le_refl _), hb2.alloc hb2.size _⟩
    | true =>
      by_cases hlen : steps.length ≤ 60
      · have hlen' : decide ((steps.length : Int) > 60) = false := by simp; omega
        have hfin : walkOk g (st, steps) = (List.range steps.length).all (linkAt g (st, steps)) := by rw [HW.out, hg, hs]; simp [hlen]
        have HF := Lib.hid hfin
        have HG := Lib.hid hg
        clear HW hfin hg
        go_wp2_with (go_at_call 43; refine (HWI.out _ _ _ _).mono ?_; rintro e w1 ⟨rfl, rfl⟩)
        have hst0 : 0 ≤ st := by unfold wi at hs; simp at hs; omega
        have HS := Lib.hid hs
        clear hs
        go_loopw [6, 7] (fun out ii wr => ∃ i : Nat, i ≤ steps.length ∧ ii = .int .i64 i ∧ (List.range i).all (linkAt g (st, steps)) = true ∧ wr.ownsRow w1.heap.size 3 1 out ((nodesL g (st, steps)).take (i + 1)).length (((nodesL g (st, steps)).take (i + 1)).flatMap cI) ∧ (∃ x, (nodesL g (st, steps))[i]? = some x ∧ 0 ≤ x) ∧ Below w1.heap.size w1 wr) (fun _ ii _ => steps.length - (intOf ii).toNat)
        case atStart => exact ⟨0, Nat.zero_le _, rfl, rfl, World.ownsRow_lit w1 #[.int .i64 st] 1 (Nat.le_refl _) (by decide) rfl, ⟨st, rfl, hst0⟩, (Below.refl _ _).alloc (Nat.le_refl _) _⟩
        case round =>
          obtain ⟨i, hi, rfl, hal, hrow, ⟨x, hxl, hx0⟩, hbel⟩ := hrel
          have HA := Lib.hid hal
          have hbw := below_trans hb2 hbel
          have hml : ((nodesL g (st, steps)).take (i + 1)).length = i + 1 := by rw [List.length_take, nodesL_len]; simp only; omega
          clear hal
          by_cases hlt : i < steps.length
          · have hxs : steps[i]? = some steps[i] := List.getElem?_eq_getElem hlt
            generalize steps[i] = s at hxs
            obtain ⟨sid, sinv⟩ := s
            obtain ⟨b, o, rfl, -, hb, hc⟩ := HX3.out i _ hxs
            have d0 := hc 0 _ rfl
            have d1 := hc 1 _ rfl
            simp only [Nat.add_zero] at d0
            have d0 := (hbw.cell (p := ⟨_, _, none⟩) hb).trans d0
            have d1 := (hbw.cell (p := ⟨_, _, none⟩) hb).trans d1
            obtain ⟨gb, cp, hv, hg1, hg2, hnc, hcm⟩ := row_shapeS hrow (by omega)
            obtain ⟨m, hm⟩ : ∃ m, m = i + 1 := ⟨_, rfl⟩
            rw [hml, ← hm] at hv
            subst hv
            have hrm := hrow
            rw [show ((nodesL g (st, steps)).take (i + 1)).length = m by rw [hml, hm]] at hrm
            have c0 := (World.ownsRow.cellAt hrm i (by omega)).trans (by have := flat_at cI_len (xs := (nodesL g (st, steps)).take (i + 1)) (i := i) (x := x) (by rw [List.getElem?_take]; simp [hxl]) 0 _ rfl; simpa using this)
            clear hrm
            have hei := fun W (hW : Below w.heap.size w W) => specEdgeIndex _ g sid W (hv0.keep hW)
            have hlk := linkAt_eq (k := (st, steps)) hxs hxl
            have HLK := Lib.hid hlk
            have HEI := Lib.hid hei
            have HXS := Lib.hid hxs
            have HROW := Lib.hid hrow
            have hbx := fun u => below_trans hbw (ext_below wr u)
            have x0 := (hbel.cell (p := ⟨_, _, none⟩) (by simp only; omega)).trans x0
            have x1 := (hbel.cell (p := ⟨_, _, none⟩) (by simp only; omega)).trans x1
            have y0 := (hbel.cell (p := ⟨_, _, none⟩) (by simp only; omega)).trans y0
            have y1 := (hbel.cell (p := ⟨_, _, none⟩) (by simp only; omega)).trans y1
            have hs1 := hbel.size
            have q2 : IntKind.i64.wrap ((m : Int) - 1) = (i : Int) := by rw [IntWalk.i64_in _ (by omega)]; omega
            have q3 : (i : Int) < (m : Int) := by omega
            have HM := Lib.hid hm
            have hbw' : b < wr.heap.size := by omega
            have k0 : w.heap.size < wr.heap.size := by omega
            have k1 : w.heap.size + 1 < wr.heap.size := by omega
            have hspec := edgeIdx_spec g sid
            have HSPEC := Lib.hid hspec
            clear hlk hei hxs hrow hml hm hxl hc q1 hnc hcm hspec
            rcases HSPEC.out with ⟨hk, hno⟩ | ⟨ix, e, hk, hex, he, hno⟩
            · have hsn := stepEd_none hno
              have hsf : stepFrom g (sid, sinv) = -1 := by rw [stepFrom]; simp [hsn]
              rw [hk] at HEI
              have hfin : walkOk g (st, steps) = false := by rw [HF.out]; exact range_all_false hlt (by rw [HLK.out, hsf]; simp; omega)
              have HFI := Lib.hid hfin
              clear hk hno hsn hsf hfin HSPEC
              go_wp2_with fail
              refine wp_region_ext_lit (by kernel_rfl) (by kernel_rfl) ?_
              repeat (go_big_quiet_step ((go_at_call 85; exact Calls.ext_of (HEI.out _ (hbx _)))))
              refine wpQuiet_nil ?_
              intro _ hw'
              obtain ⟨u2, hw''⟩ := hw'
              subst hw''
              go_wp2_with fail
              go_ret2
              exact ⟨_, by rw [HFI.out]; rfl, by rw [nodesOut_no HFI.out]; exact (Own.of_row (World.ownsRow_lit _ #[] 0 (Nat.le_refl _) (by decide) rfl) rfl rfl).mono (hbx _).size (Nat.le_refl _), (hbx _).alloc (hbx _).size _⟩
            · have hse := stepEd_some HG.out hex he hno
              have HSE := Lib.hid hse
              rw [hk] at HEI
              obtain ⟨b9, o9, rfl, -, hb9, hc9⟩ := HX2.out ix e hex
              have e1 := hc9 1 _ rfl
              have e2 := hc9 2 _ rfl
              have e1 := (hbw.cell (p := ⟨_, _, none⟩) hb9).trans e1
              have e2 := (hbw.cell (p := ⟨_, _, none⟩) hb9).trans e2
              have hb9' : b9 < wr.heap.size := by omega
              have hixl : ix < g.edges.length := (List.getElem?_eq_some_iff.1 hex).1
              clear hk hno he hex hse hc9 HSPEC
              cases sinv with
              | true =>
                have hsf : stepFrom g (sid, true) = e.2.2.1 := by rw [stepFrom]; simp [HSE.out]
                have hsto : stepTo g (sid, true) = e.2.1 := by rw [stepTo, stepFrom]; simp [HSE.out]
                have HSF := Lib.hid hsf
                have HSTO := Lib.hid hsto
                clear hsf hsto
                by_cases hyx : e.2.2.1 = x
                · have hq : (e.2.2.1 != x) = false := by simp [hyx]
                  have hto0 : 0 ≤ stepTo g (sid, true) := by
                    have h1 := @stepFrom_neg g (sid, true)
                    have h2 := @stepFrom_neg g (sid, !true)
                    have h3 : stepTo g (sid, true) = stepFrom g (sid, !true) := rfl
                    have h4 := HSF.out
                    rw [h3]
                    by_cases h5 : 0 ≤ stepFrom g (sid, !true)
                    · exact h5
                    · have h6 := h2.1 (by omega)
                      have h7 := h1.2 h6
                      omega
                  have HYX := Lib.hid hyx
                  have HTO0 := Lib.hid hto0
                  clear hyx hto0
                  go_wp2_with fail
                  refine wp_region_ext_lit (by kernel_rfl) (by kernel_rfl) ?_
                  repeat (go_big_quiet_step ((go_at_call 85; exact Calls.ext_of (HEI.out _ (hbx _)))))
                  refine wpQuiet_nil ?_
                  intro _ hw'
                  obtain ⟨u2, hw''⟩ := hw'
                  subst hw''
                  have hw3 := ext_below wr u2
                  have hrow3 := ownsRow_below HROW.out hw3 (Nat.le_refl _)
                  have hs3 := Nat.le_trans hs1 hw3.size
                  have hbel3 := below_trans hbel hw3
                  have htl : ((nodesL g (st, steps)).take (i + 1)).length ≤ 61 := by rw [List.length_take]; omega
                  clear hw3
                  go_wp2_with (at_builtin; (refine wpList_append1 cI elInt rfl _ _ rfl w1.heap.size (.slice (some ⟨gb, 0, none⟩) m cp) ((nodesL g (st, steps)).take (i + 1)) (e.2.1) _ 1 _ (by rfl) hrow3 (by rfl) rfl rfl rfl (cI_one _) (by omega) (by omega) hs3 ?_); rw [← HSTO.out, ← nodesL_succ HXS.out]; intro v' w4 hrow' hb4 _ _)
                  go_roundw
                  case rel => exact ⟨i + 1, by omega, by go_num, range_all_succ HA.out (by rw [HLK.out, HSF.out, HYX.out]; simp), hrow', ⟨_, nodesL_next HXS.out, HTO0.out⟩, hbel3.trans hb4⟩
                  case measure => simp [intOf]; omega
                · have hq : (e.2.2.1 != x) = true := by simp [hyx]
                  have hfin : walkOk g (st, steps) = false := by rw [HF.out]; exact range_all_false hlt (by rw [HLK.out, HSF.out]; simpa using hyx)
                  have HFI := Lib.hid hfin
                  clear hyx hfin
                  go_wp2_with fail
                  refine wp_region_ext_lit (by kernel_rfl) (by kernel_rfl) ?_
                  repeat (go_big_quiet_step ((go_at_call 85; exact Calls.ext_of (HEI.out _ (hbx _)))))
                  refine wpQuiet_nil ?_
                  intro _ hw'
                  obtain ⟨u2, hw''⟩ := hw'
                  subst hw''
                  go_wp2_with fail
                  go_ret2
                  exact ⟨_, by rw [HFI.out]; rfl, by rw [nodesOut_no HFI.out]; exact (Own.of_row (World.ownsRow_lit _ #[] 0 (Nat.le_refl _) (by decide) rfl) rfl rfl).mono (hbx _).size (Nat.le_refl _), (hbx _).alloc (hbx _).size _⟩
              | false =>
                have hsf : stepFrom g (sid, false) = e.2.1 := by rw [stepFrom]; simp [HSE.out]
                have hsto : stepTo g (sid, false) = e.2.2.1 := by rw [stepTo, stepFrom]; simp [HSE.out]
                have HSF := Lib.hid hsf
                have HSTO := Lib.hid hsto
                clear hsf hsto
                by_cases hyx : e.2.1 = x
                · have hq : (e.2.1 != x) = false := by simp [hyx]
                  have hto0 : 0 ≤ stepTo g (sid, false) := by
                    have h1 := @stepFrom_neg g (sid, false)
                    have h2 := @stepFrom_neg g (sid, !false)
                    have h3 : stepTo g (sid, false) = stepFrom g (sid, !false) := rfl
                    have h4 := HSF.out
                    rw [h3]
                    by_cases h5 : 0 ≤ stepFrom g (sid, !false)
                    · exact h5
                    · have h6 := h2.1 (by omega)
                      have h7 := h1.2 h6
                      omega
                  have HYX := Lib.hid hyx
                  have HTO0 := Lib.hid hto0
                  clear hyx hto0
                  go_wp2_with fail
                  refine wp_region_ext_lit (by kernel_rfl) (by kernel_rfl) ?_
                  repeat (go_big_quiet_step ((go_at_call 85; exact Calls.ext_of (HEI.out _ (hbx _)))))
                  refine wpQuiet_nil ?_
                  intro _ hw'
                  obtain ⟨u2, hw''⟩ := hw'
                  subst hw''
                  have hw3 := ext_below wr u2
                  have hrow3 := ownsRow_below HROW.out hw3 (Nat.le_refl _)
                  have hs3 := Nat.le_trans hs1 hw3.size
                  have hbel3 := below_trans hbel hw3
                  have htl : ((nodesL g (st, steps)).take (i + 1)).length ≤ 61 := by rw [List.length_take]; omega
                  clear hw3
                  go_wp2_with (at_builtin; (refine wpList_append1 cI elInt rfl _ _ rfl w1.heap.size (.slice (some ⟨gb, 0, none⟩) m cp) ((nodesL g (st, steps)).take (i + 1)) (e.2.2.1) _ 1 _ (by rfl) hrow3 (by rfl) rfl rfl rfl (cI_one _) (by omega) (by omega) hs3 ?_); rw [← HSTO.out, ← nodesL_succ HXS.out]; intro v' w4 hrow' hb4 _ _)
                  go_roundw
                  case rel => exact ⟨i + 1, by omega, by go_num, range_all_succ HA.out (by rw [HLK.out, HSF.out, HYX.out]; simp), hrow', ⟨_, nodesL_next HXS.out, HTO0.out⟩, hbel3.trans hb4⟩
                  case measure => simp [intOf]; omega
                · have hq : (e.2.1 != x) = true := by simp [hyx]
                  have hfin : walkOk g (st, steps) = false := by rw [HF.out]; exact range_all_false hlt (by rw [HLK.out, HSF.out]; simpa using hyx)
                  have HFI := Lib.hid hfin
                  clear hyx hfin
                  go_wp2_with fail
                  refine wp_region_ext_lit (by kernel_rfl) (by kernel_rfl) ?_
                  repeat (go_big_quiet_step ((go_at_call 85; exact Calls.ext_of (HEI.out _ (hbx _)))))
                  refine wpQuiet_nil ?_
                  intro _ hw'
                  obtain ⟨u2, hw''⟩ := hw'
                  subst hw''
                  go_wp2_with fail
                  go_ret2
                  exact ⟨_, by rw [HFI.out]; rfl, by rw [nodesOut_no HFI.out]; exact (Own.of_row (World.ownsRow_lit _ #[] 0 (Nat.le_refl _) (by decide) rfl) rfl rfl).mono (hbx _).size (Nat.le_refl _), (hbx _).alloc (hbx _).size _⟩
          · obtain rfl : i = steps.length := by omega
            have y1 := (hbel.cell (p := ⟨_, _, none⟩) (by simp only; omega)).trans y1
            have hlw := hbel.size
            have k1 : w.heap.size + 1 < wr.heap.size := by omega
            have hfin : walkOk g (st, steps) = true := by rw [HF.out, HA.out]
            have HFF := Lib.hid hfin
            have htk : (nodesL g (st, steps)).take (steps.length + 1) = nodesL g (st, steps) := List.take_of_length_le (by rw [nodesL_len]; simp)
            rw [htk] at hrow
            have HROW := Lib.hid hrow
            clear hfin HF HA htk hml hrow
            go_wp2_with fail
            go_ret2
            exact ⟨_, by rw [HFF.out]; rfl, by rw [nodesOut_yes HFF.out]; exact (Own.of_row HROW.out rfl rfl).mono hb2.size (Nat.le_refl _), hbw⟩
      · have hlen' : decide ((steps.length : Int) > 60) = true := by simp; omega
        have hfin : walkOk g (st, steps) = false := by rw [HW.out]; simp [hlen]
        have HF := Lib.hid hfin
        clear HW hfin hg
        go_wp2_with (go_at_call 43; refine (HWI.out _ _ _ _).mono ?_; rintro e w1 ⟨rfl, rfl⟩)
        go_ret2
        exact ⟨_, by rw [HF.out]; rfl, by rw [nodesOut_no HF.out]; exact (Own.of_row (World.ownsRow_lit _ #[] 0 (Nat.le_refl _) (by decide) rfl) rfl rfl).mono hb2.size (Nat.le_refl _), hb2.alloc hb2.size _⟩
end Go.Proofs.Ytallglnmeeahiaa

/- Where a walk ends: WalkEnd, the program's and the reference's. -/
namespace Go.Proofs.Ytallglnmeeahiaa
set_option linter.unusedVariables false
set_option linter.unusedSimpArgs false
open Go.ChangeShapes Go.WideShapes Go.ChangeAt Go.RowKit
attribute [local go_sem] ext_cell ext_frozen ext_lt ext_lt1 ext_lt2 ext_lt3 ltn2 ltn3 ltn13 lts1 lts2 lts3

set_option maxHeartbeats 2000000 in
theorem implWalkEnd (v1 v2 : Value) (g : Gr) (k : Wk) (w : World) (hv1 : GrV 0 w.heap.size w v1 g) (hv2 : WkV 0 w.heap.size w v2 k) :
    Calls Try.prog 20 #[v1, v2] w fun en w' => en = .returned (.int .i64 (walkEnd g k)) ∧ Below w.heap.size w w' := by
  have hv0 := hv1
  have hv3 := hv2
  obtain ⟨A1, n1, c1, A2, n2, c2, rfl⟩ := hv1.shape
  obtain ⟨A3, n3, c3, rfl⟩ := hv2.shape
  clear hv1 hv2
  have hb0 : Below w.heap.size w ((w.alloc (.cells #[.slice A1 n1 c1, .slice A2 n2 c2] 38)).alloc (.cells #[.int .i64 k.1, .slice A3 n3 c3] 41)) := ((Below.refl _ _).alloc (Nat.le_refl _) _).alloc (by simp) _
  have hc := implNodes _ _ g k _ (hv0.keep hb0) (hv3.keep hb0)
  have HC := Lib.hid hc
  clear hc
  obtain ⟨R, hR⟩ : ∃ R, R = walkEnd g k := ⟨_, rfl⟩
  rw [← hR]
  cases hw : walkOk g k with
  | false =>
    rw [hw] at HC
    have hfin : R = -1 := by rw [hR, walkEnd, hw]; rfl
    subst hfin
    clear hR hw
    go_enter Try.func20, Try.ntmps20
    go_wp2_with fail
    refine HC.out.mono ?_
    rintro e w1 ⟨v, rfl, ho, hb1⟩
    obtain ⟨A6, c6, rfl, -, -, -⟩ := ho.form cI_len
    go_wp2_with fail
    go_ret
    exact ⟨rfl, below_trans hb0 hb1⟩
  | true =>
    rw [hw] at HC
    have hfin : R = (nodeAt g k k.2.length : Int) := by rw [hR, walkEnd, hw]; rfl
    have HF := Lib.hid hfin
    have HW := Lib.hid hw
    have hl60 := (walkOk_parts hw).2.2.1
    clear hR hw hfin
    go_enter Try.func20, Try.ntmps20
    go_wp2_with fail
    refine HC.out.mono ?_
    rintro e w1 ⟨v, rfl, ho, hb1⟩
    rw [nodesOut_yes HW.out] at ho
    have hr := ho.1
    rw [nodesL_len] at hr
    obtain ⟨gN, cN, rfl, -, hgN, -, -⟩ := own_some hr (by omega)
    have q0 := (World.ownsRow.cellAt hr k.2.length (by omega)).trans (flatI_at (nodeAt_lt HW.out (Nat.le_refl _)).1)
    have m1 : ((k.2.length : Int) + 1) - 1 = (k.2.length : Int) := by omega
    clear hr ho
    go_wp2_with fail
    go_ret
    exact ⟨by rw [HF.out]; rfl, below_trans hb0 hb1⟩

set_option maxHeartbeats 2000000 in
theorem specWalkEnd (v1 v2 : Value) (g : Gr) (k : Wk) (w : World) (hv1 : GrV 0 w.heap.size w v1 g) (hv2 : WkV 0 w.heap.size w v2 k) :
    Calls Try.prog 21 #[v1, v2] w fun en w' => en = .returned (.int .i64 (walkEnd g k)) ∧ Below w.heap.size w w' := by
  have hv0 := hv1
  have hv3 := hv2
  obtain ⟨A1, n1, c1, A2, n2, c2, rfl⟩ := hv1.shape
  obtain ⟨A3, n3, c3, rfl⟩ := hv2.shape
  clear hv1 hv2
  have hb0 : Below w.heap.size w ((w.alloc (.cells #[.slice A1 n1 c1, .slice A2 n2 c2] 38)).alloc (.cells #[.int .i64 k.1, .slice A3 n3 c3] 41)) := ((Below.refl _ _).alloc (Nat.le_refl _) _).alloc (by simp) _
  have hc := specNodes _ _ g k _ (hv0.keep hb0) (hv3.keep hb0)
  have HC := Lib.hid hc
  clear hc
  obtain ⟨R, hR⟩ : ∃ R, R = walkEnd g k := ⟨_, rfl⟩
  rw [← hR]
  cases hw : walkOk g k with
  | false =>
    rw [hw] at HC
    have hfin : R = -1 := by rw [hR, walkEnd, hw]; rfl
    subst hfin
    clear hR hw
    go_enter Try.func21, Try.ntmps21
    go_wp2_with fail
    refine HC.out.mono ?_
    rintro e w1 ⟨v, rfl, ho, hb1⟩
    obtain ⟨A6, c6, rfl, -, -, -⟩ := ho.form cI_len
    go_wp2_with fail
    go_ret
    exact ⟨rfl, below_trans hb0 hb1⟩
  | true =>
    rw [hw] at HC
    have hfin : R = (nodeAt g k k.2.length : Int) := by rw [hR, walkEnd, hw]; rfl
    have HF := Lib.hid hfin
    have HW := Lib.hid hw
    have hl60 := (walkOk_parts hw).2.2.1
    clear hR hw hfin
    go_enter Try.func21, Try.ntmps21
    go_wp2_with fail
    refine HC.out.mono ?_
    rintro e w1 ⟨v, rfl, ho, hb1⟩
    rw [nodesOut_yes HW.out] at ho
    have hr := ho.1
    rw [nodesL_len] at hr
    obtain ⟨gN, cN, rfl, -, hgN, -, -⟩ := own_some hr (by omega)
    have q0 := (World.ownsRow.cellAt hr k.2.length (by omega)).trans (flatI_at (nodeAt_lt HW.out (Nat.le_refl _)).1)
    have m1 : ((k.2.length : Int) + 1) - 1 = (k.2.length : Int) := by omega
    clear hr ho
    go_wp2_with fail
    go_ret
    exact ⟨by rw [HF.out]; rfl, below_trans hb0 hb1⟩
end Go.Proofs.Ytallglnmeeahiaa

/- The reference's walks: when one is a walk of a graph, and when it is allowed. -/
namespace Go.Proofs.Ytallglnmeeahiaa
set_option linter.unusedVariables false
set_option linter.unusedSimpArgs false
open Go.ChangeShapes Go.WideShapes Go.ChangeAt Go.RowKit
attribute [local go_sem] ext_cell ext_frozen ext_lt ext_lt1 ext_lt2 ext_lt3 ltn2 ltn3 ltn13 lts1 lts2 lts3


end Go.Proofs.Ytallglnmeeahiaa

/- The reference's walks in the product: l18Next, l18Ends, l18Along, WalkEnd, MatchesWalk, IsWitness. -/
namespace Go.Proofs.Ytallglnmeeahiaa
set_option linter.unusedVariables false
set_option linter.unusedSimpArgs false
open Go.ChangeShapes Go.WideShapes Go.ChangeAt Go.RowKit
attribute [local go_sem] ext_cell ext_frozen ext_lt ext_lt1 ext_lt2 ext_lt3 ltn2 ltn3 ltn13 lts1 lts2 lts3

def foldFr (a : Au) (l set m0 q : Nat) : Nat := (mem q set).foldl (aft1 a l) m0
theorem foldFr_no {a : Au} {l set m0 q : Nat} (h : set.testBit q = false) : foldFr a l set m0 (q + 1) = foldFr a l set m0 q := by rw [foldFr, mem_no h]; rfl
theorem foldFr_yes {a : Au} {l set m0 q : Nat} (h : set.testBit q = true) : foldFr a l set m0 (q + 1) = aft1 a l (foldFr a l set m0 q) q := by rw [foldFr, mem_yes h, List.foldl_append]; rfl
theorem foldFr_lt {a : Au} (h : auOk a = true) (l set m0 q : Nat) (hm : m0 < 2 ^ a.accept.length) : foldFr a l set m0 q < 2 ^ a.accept.length := foldl_inv (P := fun m => m < 2 ^ a.accept.length) (fun m x hm => aft1_lt h l m x hm) _ _ hm
def foldS (a : Au) (v l set q : Nat) : Nat := (mem q set).foldl (aftS a v l) 0
theorem foldS_no {a : Au} {v l set q : Nat} (h : set.testBit q = false) : foldS a v l set (q + 1) = foldS a v l set q := by rw [foldS, mem_no h]; rfl
theorem foldS_yes {a : Au} {v l set q : Nat} (ha : auOk a = true) (hq : q < a.accept.length) (h : set.testBit q = true) : foldS a v l set (q + 1) = foldFr a l (cls a v q) (foldS a v l set q) a.accept.length := by
  rw [foldS, mem_yes h, List.foldl_append]
  show aftS a v l _ q = _
  rw [aftS, mem12 ha (cls_lt ha v q hq)]; rfl
theorem foldS_lt {a : Au} (h : auOk a = true) (v l set q : Nat) : foldS a v l set q < 2 ^ a.accept.length := foldl_inv (P := fun m => m < 2 ^ a.accept.length) (fun m x hm => aftS_lt h v l m x hm) _ _ (Nat.two_pow_pos _)
theorem foldS_all {a : Au} (h : auOk a = true) {v l set : Nat} (hs : set < 2 ^ a.accept.length) : foldS a v l set a.accept.length = aft a set v l := by rw [foldS, aft, mem12 h hs]
theorem stepEd_idx {g : Gr} {id : Int} {e : Ed} (h : stepEd g id = some e) : ∃ ix : Nat, edgeIdx g id = ix ∧ g.edges[ix]? = some e := by
  obtain ⟨hg, hm, he⟩ := stepEd_ok h
  obtain ⟨ix, hix⟩ := List.getElem?_of_mem hm
  refine ⟨ix, ?_, hix⟩
  rw [← he]
  exact edgeIdx_at hg hix





end Go.Proofs.Ytallglnmeeahiaa

/- Counting simple paths, plainly: both sides walk the same arcs in the same order. -/
namespace Go.Proofs.Ytallglnmeeahiaa
set_option linter.unusedVariables false
set_option linter.unusedSimpArgs false
open Go.ChangeShapes Go.WideShapes Go.ChangeAt Go.RowKit

def cntC (g : Gr) (a : Au) (rec : Nat → Nat → Nat → Int) (x s used : Nat) (n : Int) (p : Arc) : Int :=
  if aft a s (valAt g x) p.2.1.toNat = 0 ∨ used.testBit p.2.2.toNat = true then n
  else wrap64 (n + rec p.2.2.toNat (aft a s (valAt g x) p.2.1.toNat) (ins used p.2.2.toNat))
def cnt0 (g : Gr) (a : Au) (y : Int) (x s : Nat) : Int := if decide ((x : Int) = y) && acc a s (valAt g x) then 1 else 0
def cnt (g : Gr) (a : Au) (y : Int) : Nat → Nat → Nat → Nat → Int
  | 0, _, _, _ => 0
  | f + 1, x, s, used => (arcsOf g (x : Int)).foldl (cntC g a (cnt g a y f) x s used) (cnt0 g a y x s)
def cntTo (g : Gr) (a : Au) (y : Int) (f x s used i : Nat) : Int := ((arcsOf g (x : Int)).take i).foldl (cntC g a (cnt g a y f) x s used) (cnt0 g a y x s)
theorem cntTo_all (g : Gr) (a : Au) (y : Int) (f x s used : Nat) : cntTo g a y f x s used (arcsOf g (x : Int)).length = cnt g a y (f + 1) x s used := by rw [cntTo, List.take_length]; rfl
theorem cntTo_succ {g : Gr} {a : Au} {y : Int} {f x s used i : Nat} {p : Arc} (h : (arcsOf g (x : Int))[i]? = some p) : cntTo g a y f x s used (i + 1) = cntC g a (cnt g a y f) x s used (cntTo g a y f x s used i) p := foldl_take h _
theorem arc_stepEd {g : Gr} (hgo : grOk g = true) {x : Int} {p : Arc} (hp : p ∈ arcsOf g x) : ∃ e : Ed, stepEd g p.1.1 = some e ∧ arcLetter p.1.2 e = p.2.1 ∧ arcTo p.1.2 e = p.2.2 := by
  have hg := grOk_iff.1 hgo
  obtain ⟨i, e, hi, hie, hl, ht, hid, hm⟩ := arc_edge hg hp
  cases hs : stepEd g p.1.1 with
  | none =>
    rw [stepEd, if_pos hgo, List.find?_eq_none] at hs
    exact absurd (hs e hm) (by simp [hid])
  | some e2 =>
    obtain ⟨ix, h1, h2⟩ := stepEd_idx hs
    have : ix = i := by omega
    subst this
    rw [hie] at h2
    injection h2 with h2
    subst h2
    exact ⟨e, rfl, hl.symm, ht.symm⟩
theorem ins_gt {m t : Nat} (h : m.testBit t = false) : m < ins m t := by
  have h1 : m ≤ ins m t := Nat.left_le_or
  have h2 : m ≠ ins m t := fun e => by
    have h3 := ins_test m t t
    rw [← e, h] at h3
    simp at h3
  omega
theorem cntC_no {g : Gr} {a : Au} {rec : Nat → Nat → Nat → Int} {x s used t m : Nat} {n : Int} {p : Arc} (ht : p.2.2 = (t : Int)) (hm : aft a s (valAt g x) p.2.1.toNat = m) (h : m = 0 ∨ used.testBit t = true) : cntC g a rec x s used n p = n := by
  rw [cntC, hm, ht, Int.toNat_natCast, if_pos h]
theorem cntC_yes {g : Gr} {a : Au} {rec : Nat → Nat → Nat → Int} {x s used t m : Nat} {n : Int} {p : Arc} (ht : p.2.2 = (t : Int)) (hm : aft a s (valAt g x) p.2.1.toNat = m) (h : ¬ m = 0) (h2 : used.testBit t = false) : cntC g a rec x s used n p = wrap64 (n + rec t m (ins used t)) := by
  rw [cntC, hm, ht, Int.toNat_natCast, if_neg (by simp [h, h2])]
def cntOk (g : Gr) (a : Au) (x y : Int) : Bool := wi x 0 ((g.vals.length : Int) - 1) && (wi y 0 ((g.vals.length : Int) - 1) && (grOk g && auOk a))
/-- 32 rounds suffice, for a set of five nodes grows with each. -/
def cntSimple (g : Gr) (a : Au) (x y : Int) : Int := if cntOk g a x y = true then cnt g a y 32 x.toNat (bit a.start.toNat) (bit x.toNat) else 0
end Go.Proofs.Ytallglnmeeahiaa

/- The program's sets of states: move, closure, members, after, acceptsAt. -/
namespace Go.Proofs.Ytallglnmeeahiaa
set_option linter.unusedVariables false
set_option linter.unusedSimpArgs false
open Go.ChangeShapes Go.WideShapes Go.ChangeAt Go.RowKit
attribute [local go_sem] ext_cell ext_frozen ext_lt ext_lt1 ext_lt2 ext_lt3 ltn2 ltn3 ltn13 lts1 lts2 lts3

theorem isLetter_any (n : Int) (w : World) : Calls Try.prog 110 #[.int .i64 n] w fun e w' => e = .returned (.bool (wi n 0 8)) ∧ w' = w := by
  have HW := Lib.hid within_any
  go_enter Try.func110, Try.ntmps110
  go_wp2_with (go_at_call 39; refine (HW.out _ _ _ _).mono ?_; rintro e w' ⟨rfl, rfl⟩)
  go_ret
  exact ⟨rfl, rfl⟩

def mvI (a : Au) (s l : Int) : Int := if 0 ≤ s ∧ wi l 0 8 = true then mv a s.toNat l.toNat else -1
theorem mvI_in {a : Au} {s l : Nat} (hl : l < 9) : mvI a s l = mv a s l := by
  rw [mvI, if_pos ⟨by omega, wi_iff.2 ⟨by omega, by omega⟩⟩]; simp
set_option maxHeartbeats 1000000 in
theorem move_any (v : Value) (a : Au) (s l : Int) (w : World) (hv : AuV 0 w.heap.size w v a) (hok : auOk a = true) (hs : s < (a.accept.length : Int)) :
    Calls Try.prog 91 #[v, .int .i64 s, .int .i64 l] w fun e w' => e = .returned (.int .i64 (mvI a s l)) ∧ Below w.heap.size w w' := by
  obtain ⟨A1, c1, A2, c2, rfl, hl1, hm1, hl2, hm2, hC⟩ := hv.form hok
  have HL := Lib.hid isLetter_any
  have hb0 : Below w.heap.size w (w.alloc (.cells #[.int .i64 a.start, .slice A1 a.accept.length c1, .slice A2 a.accept.length c2] 27)) := (Below.refl _ _).alloc (Nat.le_refl _) _
  have HOK := Lib.hid hok
  clear hok hv
  by_cases h0 : s < 0
  · have hfin : mvI a s l = -1 := by rw [mvI, if_neg (by omega)]
    have HF := Lib.hid hfin
    clear hfin
    go_enter Try.func91, Try.ntmps91
    go_wp2_with fail
    go_ret
    exact ⟨by rw [HF.out]; rfl, hb0⟩
  · obtain ⟨s, rfl⟩ := Int.eq_ofNat_of_zero_le (show 0 ≤ s by omega)
    cases hl : wi l 0 8 with
    | false =>
      have hfin : mvI a s l = -1 := by rw [mvI, if_neg (by simp [hl])]
      have HF := Lib.hid hfin
      clear hfin
      go_enter Try.func91, Try.ntmps91
      go_wp2_with (go_at_call 110; refine (HL.out _ _).mono ?_; rintro e w' ⟨rfl, rfl⟩)
      go_ret
      exact ⟨by rw [HF.out]; rfl, hb0⟩
    | true =>
      have hl0 := wi_iff.1 hl
      obtain ⟨l, rfl⟩ := Int.eq_ofNat_of_zero_le hl0.1
      obtain ⟨b2, o2, b3, o3, c3, rfl, hb2, d2, hl3, hm3, hb3, hc3⟩ := hC.row s (by omega)
      have hl9 : l < 9 := by omega
      have d3 := hc3 l hl9
      have HF := Lib.hid (mvI_in (a := a) (s := s) (l := l) (by omega))
      clear hc3 hC hl0
      go_enter Try.func91, Try.ntmps91
      go_wp2_with (go_at_call 110; refine (HL.out _ _).mono ?_; rintro e w' ⟨rfl, rfl⟩)
      go_ret
      exact ⟨by rw [HF.out]; rfl, hb0⟩

set_option maxHeartbeats 1000000 in
theorem closure_any (v : Value) (a : Au) (s x : Nat) (w : World) (hv : AuV 0 w.heap.size w v a) (hok : auOk a = true) (hs : s < a.accept.length) (hx : x ≤ 2) :
    Calls Try.prog 65 #[v, .int .i64 (s : Int), .int .i64 (x : Int)] w fun e w' => e = .returned (.int .i64 (cls a x s : Int)) ∧ Below w.heap.size w w' := by
  have hv0 := hv
  obtain ⟨A1, c1, A2, c2, rfl, -⟩ := hv.form hok
  clear hv
  have hn12 : a.accept.length ≤ 12 := (auOk_iff.1 hok).1.2
  have hb0 : Below w.heap.size w (w.alloc (.cells #[.int .i64 a.start, .slice A1 a.accept.length c1, .slice A2 a.accept.length c2] 27)) := (Below.refl _ _).alloc (Nat.le_refl _) _
  have HV := Lib.hid hv0
  have HOK := Lib.hid hok
  clear hok
  obtain ⟨R, hR⟩ : ∃ R, R = cls a x s := ⟨_, rfl⟩
  rw [← hR]
  have HR := Lib.hid hR
  clear hR hv0
  go_enter Try.func65, Try.ntmps65
  go_wp2_with fail
  go_loopw [7, 8] (fun st ss wr => ∃ (f m : Nat) (s : Int) (u : World), st = .int .i64 (m : Int) ∧ ss = .int .i64 s ∧ clsF a (6 + x) f s m = R ∧ f + (mem 12 m).length = 13 ∧ m < 2 ^ a.accept.length ∧ s < (a.accept.length : Int) ∧ wr = ext (w.alloc (.cells #[.int .i64 a.start, .slice A1 a.accept.length c1, .slice A2 a.accept.length c2] 27)) u) (fun st _ _ => 13 - (mem 12 (intOf st).toNat).length)
  case atStart => exact ⟨13, 0, s, _, rfl, rfl, HR.out.symm, by simp [mem], Nat.two_pow_pos _, by omega, ext_self _⟩
  case round =>
    obtain ⟨f, m, s, u, rfl, rfl, hcl, hf, hm, hs, rfl⟩ := hrel
    have hm2 := lt12 HOK.out hm
    have hml := mem_len 12 m
    have HC := Lib.hid hcl
    have HFC := Lib.hid hf
    have hbw := below_trans hb0 (ext_below _ u)
    clear hcl hf
    by_cases h0 : 0 ≤ s
    · obtain ⟨s, rfl⟩ := Int.eq_ofNat_of_zero_le h0
      have hs12 : s < 12 := by omega
      have e1 := shl_bit (s := s) (by omega)
      have e2 := or_ins (m := m) (s := s) (by omega) (by omega)
      cases hb : m.testBit s with
      | true =>
        have e3 := bit_on (by omega) (by omega) hb
        have hfin : m = R := by rw [← HC.out]; exact (clsF_stop (.inr (by simpa using hb))).symm
        have HF := Lib.hid hfin
        clear hfin hb h0
        go_wp2_with fail
        go_ret
        exact ⟨by rw [HF.out]; rfl, hbw⟩
      | false =>
        have e3 := bit_off (by omega) (by omega) hb
        have HB := Lib.hid hb
        have hmv := mv_lt HOK.out s (6 + x)
        clear hb h0
        go_wp2_with fail
        refine (move_any _ a (s : Int) _ _ (HV.out.keep hbw) HOK.out (by omega)).mono ?_
        rintro e w1 ⟨rfl, hb1⟩
        obtain ⟨u1, rfl⟩ := ext_of (below_trans (ext_below _ u) hb1)
        rw [show (6 : Int) + (x : Int) = ((6 + x : Nat) : Int) by omega, mvI_in (by omega)]
        go_wp2_with fail
        go_roundw
        case rel =>
          have h1 := cnt_or (n := 12) (m := m) hs12 HB.out
          have h2 := HFC.out
          obtain ⟨f, rfl⟩ : ∃ f', f = f' + 1 := ⟨f - 1, by omega⟩
          refine ⟨f, ins m s, _, _, rfl, rfl, by rw [← HC.out]; exact (clsF_go HB.out).symm, by omega, ins_lt hm (by omega), by omega, rfl⟩
        case measure =>
          have h1 := cnt_or (n := 12) (m := m) hs12 HB.out
          simp [intOf]; omega
    · have hfin : m = R := by rw [← HC.out]; exact (clsF_stop (.inl (by omega))).symm
      have h0' : decide (s ≥ 0) = false := by simp; omega
      have HF := Lib.hid hfin
      clear hfin
      go_wp2_with fail
      go_ret
      exact ⟨by rw [HF.out]; rfl, hbw⟩

set_option maxHeartbeats 1000000 in
theorem members_any (m : Nat) (w : World) (hm : m < 4096) :
    Calls Try.prog 60 #[.int .i64 (m : Int)] w fun e w' => ∃ v', e = .returned v' ∧ Own w.heap.size w'.heap.size w' 3 cN 1 v' (mem 12 m) ∧ Below w.heap.size w w' := by
  obtain ⟨R, hR⟩ : ∃ R, R = mem 12 m := ⟨_, rfl⟩
  rw [← hR]
  have HR := Lib.hid hR
  clear hR
  go_enter Try.func60, Try.ntmps60
  go_wp2_with fail
  go_loopw [3, 4] (fun out ii wr => ∃ i : Nat, i ≤ 12 ∧ ii = .int .i64 (i : Int) ∧ wr.ownsRow w.heap.size 3 1 out (mem i m).length ((mem i m).flatMap cN) ∧ Below w.heap.size w wr) (fun _ ii _ => 12 - (intOf ii).toNat)
  case atStart => exact ⟨0, Nat.zero_le _, rfl, World.ownsRow_lit w #[] 0 (Nat.le_refl _) (by decide) rfl, (Below.refl _ _).alloc (Nat.le_refl _) _⟩
  case round =>
    obtain ⟨i, hi, rfl, hrow, hbel⟩ := hrel
    have HROW := Lib.hid hrow
    have hs := hbel.size
    have hml := mem_len i m
    clear hrow
    by_cases hlt : 2 ^ i ≤ m
    · have e1 := shr_on (by omega) hlt
      have hi12 : i < 12 := by
        rcases Nat.lt_or_ge i 12 with h | h
        · exact h
        · have : 2 ^ 12 ≤ 2 ^ i := Nat.pow_le_pow_right (by omega) h
          omega
      clear hlt
      cases hb : m.testBit i with
      | true =>
        have e3 := bit_on (by omega) (by omega) hb
        have HM := Lib.hid (mem_yes hb)
        clear hb
        go_wp2_with (at_builtin; (refine wpList_append1 cN elInt rfl _ _ rfl w.heap.size _ (mem i m) i _ 1 _ (by rfl) HROW.out (by rfl) rfl rfl rfl (cN_one _) (by omega) (by omega) hs ?_); rw [← HM.out]; intro v' w4 hrow' hb4 _ _)
        go_roundw
        case rel => exact ⟨i + 1, by omega, by go_num, hrow', hbel.trans hb4⟩
        case measure => simp [intOf]; omega
      | false =>
        have e3 := bit_off (by omega) (by omega) hb
        have HM := Lib.hid (mem_no hb)
        clear hb
        go_wp2_with fail
        go_roundw
        case rel => exact ⟨i + 1, by omega, by go_num, by rw [HM.out]; exact HROW.out, hbel⟩
        case measure => simp [intOf]; omega
    · have e1 := shr_off (i := i) (m := m) (by omega) (by omega)
      have hfin : R = mem i m := by rw [HR.out]; exact mem_stop (by omega) hi
      have HF := Lib.hid hfin
      clear hfin hlt
      go_wp2_with fail
      go_ret
      exact ⟨_, rfl, by rw [HF.out]; exact Own.of_row HROW.out rfl rfl, hbel⟩

set_option maxHeartbeats 2000000 in
theorem after_any (v : Value) (a : Au) (set x l : Nat) (w : World) (hv : AuV 0 w.heap.size w v a) (hok : auOk a = true) (hset : set < 2 ^ a.accept.length) (hx : x ≤ 2) (hl : l < 9) :
    Calls Try.prog 61 #[v, .int .i64 (set : Int), .int .i64 (x : Int), .int .i64 (l : Int)] w fun e w' => e = .returned (.int .i64 (aft a set x l : Int)) ∧ Below w.heap.size w w' := by
  have hv0 := hv
  obtain ⟨A1, c1, A2, c2, rfl, -⟩ := hv.form hok
  clear hv
  have hn12 : a.accept.length ≤ 12 := (auOk_iff.1 hok).1.2
  have hb0 : Below w.heap.size w (w.alloc (.cells #[.int .i64 a.start, .slice A1 a.accept.length c1, .slice A2 a.accept.length c2] 27)) := (Below.refl _ _).alloc (Nat.le_refl _) _
  have HV := Lib.hid hv0
  have HOK := Lib.hid hok
  have HSET := Lib.hid hset
  have h4096 := lt12 hok hset
  clear hok hv0 hset
  go_enter Try.func61, Try.ntmps61
  go_wp2_with fail
  refine (members_any set _ h4096).mono ?_
  rintro e w1 ⟨v1, rfl, ho, hb1⟩
  obtain ⟨A3, c3, rfl, hl3, hm3, hC3⟩ := ho.form cN_len
  have hml := mem_len 12 set
  have hb2 := below_trans hb0 hb1
  have HC3 := Lib.hid hC3
  have b0 := (Blk.new w _ _ w.heap.size rfl).keep hb1
  have x0 : w1.cell? ⟨w.heap.size, 0, none⟩ = some _ := b0.cell 0
  have x1 : w1.cell? ⟨w.heap.size, 1, none⟩ = some _ := b0.cell 1
  have x2 : w1.cell? ⟨w.heap.size, 2, none⟩ = some _ := b0.cell 2
  have l0 := b0.lt
  clear b0
  clear hb1 hb0 ho hC3
  go_wp2_with fail
  have hfl : ∀ i, ((mem 12 set).take i).foldl (aftS a x l) 0 < 2 ^ a.accept.length := fun i => foldl_inv (P := fun m => m < 2 ^ a.accept.length) (fun m s hm => aftS_lt HOK.out x l m s hm) _ _ (Nat.two_pow_pos _)
  have HFL := Lib.hid hfl
  clear hfl
  go_loopw [9, 18] (fun out ii wr => ∃ (i : Nat) (u : World), i ≤ (mem 12 set).length ∧ ii = .int .i64 (i : Int) ∧ out = .int .i64 (((mem 12 set).take i).foldl (aftS a x l) 0 : Nat) ∧ wr = ext w1 u) (fun _ ii _ => (mem 12 set).length - (intOf ii).toNat)
  case atStart => exact ⟨0, w1, Nat.zero_le _, rfl, rfl, ext_self _⟩
  case round =>
    obtain ⟨i, u, hi, rfl, rfl, rfl⟩ := hrel
    by_cases hlt : i < (mem 12 set).length
    · have hsi : (mem 12 set)[i]? = some (mem 12 set)[i] := List.getElem?_eq_getElem hlt
      have hsm := mem_mem.1 (List.getElem_mem hlt)
      generalize (mem 12 set)[i] = s at hsi hsm
      have hsn : s < a.accept.length := by
        rcases Nat.lt_or_ge s a.accept.length with h | h
        · exact h
        · have := Nat.testBit_lt_two_pow (Nat.lt_of_lt_of_le HSET.out (Nat.pow_le_pow_right (by omega) h))
          rw [hsm.2] at this; cases this
      obtain ⟨b3, o3, rfl, hb3, d3⟩ := HC3.out.nat hsi
      have HFT := Lib.hid (foldl_take (f := aftS a x l) hsi 0)
      have hbw := below_trans hb2 (ext_below w1 u)
      have hm0 := HFL.out i
      generalize ((mem 12 set).take i).foldl (aftS a x l) 0 = m0 at *
      clear hsi hsm
      go_wp2_with fail
      refine (closure_any _ a s x _ (HV.out.keep hbw) HOK.out hsn hx).mono ?_
      rintro e w2 ⟨rfl, hb5⟩
      obtain ⟨u2, rfl⟩ := ext_of (below_trans (ext_below w1 u) hb5)
      have hcl := cls_lt HOK.out x s hsn
      have hcl4 := lt12 HOK.out hcl
      go_wp2_with fail
      refine (members_any (cls a x s) _ hcl4).mono ?_
      rintro e w3 ⟨v4, rfl, ho4, hb6⟩
      obtain ⟨A4, c4, rfl, hl4, hm4, hC4⟩ := ho4.form cN_len
      have hml4 := mem_len 12 (cls a x s)
      have hb7 := below_trans (ext_below w1 u2) hb6
      have hb8 := below_trans hb2 hb7
      have x0 := bcell hb7 x0 l0
      have x1 := bcell hb7 x1 l0
      have x2 := bcell hb7 x2 l0
      have l0 := Nat.lt_of_lt_of_le l0 hb7.size
      have HC4 := Lib.hid hC4
      have HCL := Lib.hid hcl
      clear hb6 hb5 hbw ho4 hC4 hcl
      go_wp2_with fail
      go_loopw [9, 28] (fun out jj wr => ∃ (j : Nat) (u : World), j ≤ (mem 12 (cls a x s)).length ∧ jj = .int .i64 (j : Int) ∧ out = .int .i64 (((mem 12 (cls a x s)).take j).foldl (aft1 a l) m0 : Nat) ∧ wr = ext w3 u) (fun _ jj _ => (mem 12 (cls a x s)).length - (intOf jj).toNat)
      case atStart => exact ⟨0, w3, Nat.zero_le _, rfl, rfl, ext_self _⟩
      case round =>
        obtain ⟨j, u3, hj, rfl, rfl, rfl⟩ := hrel
        by_cases hlt2 : j < (mem 12 (cls a x s)).length
        · have hti : (mem 12 (cls a x s))[j]? = some (mem 12 (cls a x s))[j] := List.getElem?_eq_getElem hlt2
          have htm := mem_mem.1 (List.getElem_mem hlt2)
          generalize (mem 12 (cls a x s))[j] = t at hti htm
          have htn : t < a.accept.length := by
            rcases Nat.lt_or_ge t a.accept.length with h | h
            · exact h
            · have := Nat.testBit_lt_two_pow (Nat.lt_of_lt_of_le HCL.out (Nat.pow_le_pow_right (by omega) h))
              rw [htm.2] at this; cases this
          obtain ⟨b4, o4, rfl, hb4, d4⟩ := HC4.out.nat hti
          have HFT2 := Lib.hid (foldl_take (f := aft1 a l) hti m0)
          have hm1 : ((mem 12 (cls a x s)).take j).foldl (aft1 a l) m0 < 2 ^ a.accept.length := foldl_inv (P := fun m => m < 2 ^ a.accept.length) (fun m s hm => aft1_lt HOK.out l m s hm) _ _ hm0
          have hm14 := lt12 HOK.out hm1
          generalize ((mem 12 (cls a x s)).take j).foldl (aft1 a l) m0 = m1 at *
          have hbw := below_trans hb8 (ext_below w3 u3)
          have hmv := mv_lt HOK.out t l
          have HA := Lib.hid (show aft1 a l m1 t = if 0 ≤ mv a t l then ins m1 (mv a t l).toNat else m1 from rfl)
          clear hti htm hm0
          go_wp2_with fail
          refine (move_any _ a (t : Int) (l : Int) _ (HV.out.keep hbw) HOK.out (by omega)).mono ?_
          rintro e w4 ⟨rfl, hb9⟩
          obtain ⟨u4, rfl⟩ := ext_of (below_trans (ext_below w3 u3) hb9)
          rw [mvI_in hl]
          clear hb9
          by_cases h0 : 0 ≤ mv a t l
          · generalize mv a t l = z at *
            obtain ⟨z, rfl⟩ := Int.eq_ofNat_of_zero_le h0
            have e1 := shl_bit (s := z) (by omega)
            have e2 := or_ins (m := m1) (s := z) (by omega) (by omega)
            go_wp2_with fail
            go_roundw
            case rel => exact ⟨j + 1, u4, by omega, by go_num, by rw [HFT2.out, HA.out, if_pos h0]; simp, rfl⟩
            case measure => simp [intOf]; omega
          · have h0' : decide (mv a t l ≥ 0) = false := by simp; omega
            go_wp2_with fail
            go_roundw
            case rel => exact ⟨j + 1, u4, by omega, by go_num, by rw [HFT2.out, HA.out, if_neg (by omega)], rfl⟩
            case measure => simp [intOf]; omega
        · obtain rfl : j = (mem 12 (cls a x s)).length := by omega
          have HT := Lib.hid (show ((mem 12 (cls a x s)).take (mem 12 (cls a x s)).length).foldl (aft1 a l) m0 = aftS a x l m0 s by rw [List.take_length]; rfl)
          go_wp2_with fail
          go_roundw
          case rel =>
            obtain ⟨u5, hu5⟩ := ext_of (below_trans hb7 (ext_below w3 u3))
            exact ⟨i + 1, u5, by omega, by go_num, by rw [HFT.out, HT.out], hu5⟩
          case measure => simp [intOf]; omega
    · obtain rfl : i = (mem 12 set).length := by omega
      have HT := Lib.hid (show ((mem 12 set).take (mem 12 set).length).foldl (aftS a x l) 0 = aft a set x l by rw [List.take_length]; rfl)
      go_wp2_with fail
      go_ret
      exact ⟨by rw [HT.out]; rfl, below_trans hb2 (ext_below w1 u)⟩

theorem bit_in {n m t : Nat} (hm : m < 2 ^ n) (ht : m.testBit t = true) : t < n := by
  rcases Nat.lt_or_ge t n with h | h
  · exact h
  · have := Nat.testBit_lt_two_pow (Nat.lt_of_lt_of_le hm (Nat.pow_le_pow_right (by omega) h))
    rw [ht] at this; cases this
end Go.Proofs.Ytallglnmeeahiaa

/- The program's hasState, TestClosure and ProductIndex. -/
namespace Go.Proofs.Ytallglnmeeahiaa
set_option linter.unusedVariables false
set_option linter.unusedSimpArgs false
open Go.ChangeShapes Go.WideShapes Go.ChangeAt Go.RowKit
attribute [local go_sem] ext_cell ext_frozen ext_lt ext_lt1 ext_lt2 ext_lt3 ltn2 ltn3 ltn13 lts1 lts2 lts3

/-- a state of a good automaton -/
def hasSt (a : Au) (s : Int) : Bool := wi s 0 ((a.accept.length : Int) - 1) && auOk a
set_option maxHeartbeats 1000000 in
theorem hasState_any (v : Value) (a : Au) (s : Int) (w : World) (hv : AuV 0 w.heap.size w v a) :
    Calls Try.prog 58 #[v, .int .i64 s] w fun e w' => e = .returned (.bool (hasSt a s)) ∧ Below w.heap.size w w' := by
  have hv0 := hv
  obtain ⟨ac, nx, rfl, ⟨A1, c1, rfl, hl1, hm1, -⟩, -⟩ := hv
  unfold maxLen at hm1
  have hb0 : Below w.heap.size w (w.alloc (.cells #[.int .i64 a.start, .slice A1 a.accept.length c1, nx] 27)) := (Below.refl _ _).alloc (Nat.le_refl _) _
  have HA := Lib.hid (implValidAutomaton _ a _ (hv0.keep hb0))
  have HV := Lib.hid hv0
  clear hv0
  obtain ⟨B, hB⟩ : ∃ B, B = wi s 0 ((a.accept.length : Int) - 1) := ⟨_, rfl⟩
  rw [hasSt, ← hB]
  have HB := Lib.hid hB
  clear hB
  go_enter Try.func58, Try.ntmps58
  go_wp2_with fail
  refine (within_any _ _ _ _).mono ?_
  rintro e w1 ⟨rfl, hw⟩
  rw [hw, ← HB.out]
  clear hw
  cases B
  · go_wp2_with fail
    go_ret
    exact ⟨rfl, hb0⟩
  · go_wp2_with fail
    refine HA.out.mono ?_
    rintro e w2 ⟨rfl, hb2⟩
    go_wp2_with fail
    go_ret
    exact ⟨by rw [Bool.true_and]; rfl, below_trans hb0 hb2⟩
def tclL (a : Au) (s x : Int) : List Nat := if (hasSt a s && wi x 0 2) = true then mem 12 (cls a x.toNat s.toNat) else []
set_option maxHeartbeats 1000000 in
theorem implTestClosure (v : Value) (a : Au) (s x : Int) (w : World) (hv : AuV 0 w.heap.size w v a) :
    Calls Try.prog 28 #[v, .int .i64 s, .int .i64 x] w fun e w' => ∃ v', e = .returned v' ∧ Own w.heap.size w'.heap.size w' 3 cN 1 v' (tclL a s x) ∧ Below w.heap.size w w' := by
  have HV := Lib.hid hv
  obtain ⟨A1, n1, c1, A2, n2, c2, rfl⟩ := hv.shape
  clear hv
  have hb0 : Below w.heap.size w (w.alloc (.cells #[.int .i64 a.start, .slice A1 n1 c1, .slice A2 n2 c2] 27)) := (Below.refl _ _).alloc (Nat.le_refl _) _
  have bg := Blk.new w 27 #[.int .i64 a.start, .slice A1 n1 c1, .slice A2 n2 c2] _ rfl
  have HT := Lib.hid (show tclL a s x = if (hasSt a s && wi x 0 2) = true then mem 12 (cls a x.toNat s.toNat) else [] from rfl)
  generalize tclL a s x = T at *
  go_enter Try.func28, Try.ntmps28
  go_wp2_with fail
  refine (hasState_any _ a s _ (HV.out.keep hb0)).mono ?_
  rintro e w1 ⟨rfl, hb1⟩
  have bg1 := bg.keep hb1
  have hb2 := below_trans hb0 hb1
  clear bg hb0 hb1
  cases hh : hasSt a s
  · rw [hh] at HT
    have hT : T = [] := HT.out
    subst hT
    clear hh HT
    go_wp2_with fail
    go_ret
    exact ⟨_, rfl, Own.nil _ _ _ _ _ _, hb2⟩
  · go_wp2_with fail
    refine (within_any _ _ _ _).mono ?_
    rintro e w2 ⟨rfl, hw⟩
    rw [hw]
    clear hw
    cases hx : wi x 0 2
    · rw [hh, hx] at HT
      have hT : T = [] := HT.out
      subst hT
      clear hh HT hx
      go_wp2_with fail
      go_ret
      exact ⟨_, rfl, Own.nil _ _ _ _ _ _, hb2⟩
    · rw [hh, hx] at HT
      have hT : T = mem 12 (cls a x.toNat s.toNat) := HT.out
      rw [hasSt, Bool.and_eq_true] at hh
      obtain ⟨hs, hok⟩ := hh
      rw [wi_iff] at hs hx
      obtain ⟨s, rfl⟩ := Int.eq_ofNat_of_zero_le hs.1
      obtain ⟨x, rfl⟩ := Int.eq_ofNat_of_zero_le hx.1
      have hn12 := (auOk_iff.1 hok).1.2
      have hlt := cls_lt hok x s (by omega)
      have h12 : 2 ^ a.accept.length ≤ 2 ^ 12 := Nat.pow_le_pow_right (by omega) hn12
      have HC := Lib.hid (closure_any _ a s x _ (HV.out.keep hb2) hok (by omega) (by omega))
      have HM := Lib.hid (fun W => members_any (cls a x s) W (by omega))
      have HTT := Lib.hid hT
      have x0 : w1.cell? ⟨w.heap.size, 0, none⟩ = some (.int .i64 a.start) := bg1.cell 0
      have x1 : w1.cell? ⟨w.heap.size, 1, none⟩ = some (.slice A1 n1 c1) := bg1.cell 1
      have x2 : w1.cell? ⟨w.heap.size, 2, none⟩ = some (.slice A2 n2 c2) := bg1.cell 2
      clear hT HT hs hx hok hn12 hlt h12 bg1
      go_wp2_with fail
      refine HC.out.mono ?_
      rintro e w3 ⟨rfl, hb3⟩
      go_wp2_with fail
      refine (HM.out _).mono ?_
      rintro e w4 ⟨v4, rfl, ho4, hb4⟩
      have hb5 := below_trans hb2 hb3
      have hTT := HTT.out
      simp only [Int.toNat_natCast] at hTT
      rw [← hTT] at ho4
      have HO := Lib.hid (ho4.mono hb5.size (Nat.le_refl _))
      clear hTT ho4
      go_wp2_with fail
      go_ret
      exact ⟨_, rfl, HO.out, below_trans hb5 hb4⟩
def pidx (a : Au) (x s : Int) : Int := if (hasSt a s && wi x 0 4) = true then x * a.accept.length + s else -1
set_option maxHeartbeats 1000000 in
theorem implProductIndex (v : Value) (a : Au) (x s : Int) (w : World) (hv : AuV 0 w.heap.size w v a) :
    Calls Try.prog 35 #[v, .int .i64 x, .int .i64 s] w fun e w' => e = .returned (.int .i64 (pidx a x s)) ∧ Below w.heap.size w w' := by
  have HV := Lib.hid hv
  obtain ⟨ac, nx, rfl, ⟨A1, c1, rfl, -, -, -⟩, -⟩ := hv
  have hb0 : Below w.heap.size w (w.alloc (.cells #[.int .i64 a.start, .slice A1 a.accept.length c1, nx] 27)) := (Below.refl _ _).alloc (Nat.le_refl _) _
  have bg := Blk.new w 27 #[.int .i64 a.start, .slice A1 a.accept.length c1, nx] _ rfl
  have HT := Lib.hid (show pidx a x s = if (hasSt a s && wi x 0 4) = true then x * a.accept.length + s else -1 from rfl)
  generalize pidx a x s = T at *
  go_enter Try.func35, Try.ntmps35
  go_wp2_with fail
  refine (hasState_any _ a s _ (HV.out.keep hb0)).mono ?_
  rintro e w1 ⟨rfl, hb1⟩
  have bg1 := bg.keep hb1
  have hb2 := below_trans hb0 hb1
  clear bg hb0 hb1
  cases hh : hasSt a s
  · rw [hh] at HT
    have hT : T = -1 := HT.out
    subst hT
    clear hh HT
    go_wp2_with fail
    go_ret
    exact ⟨rfl, hb2⟩
  · go_wp2_with fail
    refine (within_any _ _ _ _).mono ?_
    rintro e w2 ⟨rfl, hw⟩
    rw [hw]
    clear hw
    cases hx : wi x 0 4
    · rw [hh, hx] at HT
      have hT : T = -1 := HT.out
      subst hT
      clear hh HT hx
      go_wp2_with fail
      go_ret
      exact ⟨rfl, hb2⟩
    · rw [hh, hx] at HT
      have hT : T = x * a.accept.length + s := HT.out
      subst hT
      rw [hasSt, Bool.and_eq_true] at hh
      obtain ⟨hs, hok⟩ := hh
      rw [wi_iff] at hs hx
      have hn12 := (auOk_iff.1 hok).1.2
      have hx0 := hx.1
      have hx1 := hx.2
      have hs0 := hs.1
      have hs1 := hs.2
      have hm0 : 0 ≤ x * (a.accept.length : Int) := Int.mul_nonneg hx0 (by omega)
      have hm1 : x * (a.accept.length : Int) ≤ 4 * 12 := Int.mul_le_mul hx1 (by omega) (by omega) (by omega)
      have x1 : w1.cell? ⟨w.heap.size, 1, none⟩ = some (.slice A1 a.accept.length c1) := bg1.cell 1
      clear HT hs hx hok bg1
      go_wp2_with fail
      go_ret
      exact ⟨rfl, hb2⟩
end Go.Proofs.Ytallglnmeeahiaa

/- The law of FnProduct's first half, plainly: a step of the product is an edge's step and a state behind the closure's tests. -/
namespace Go.Proofs.Ytallglnmeeahiaa
set_option linter.unusedVariables false
set_option linter.unusedSimpArgs false
open Go.ChangeShapes Go.WideShapes Go.ChangeAt Go.RowKit

/-- a product's step: the graph's step, the node and the state behind it -/
abbrev PSt := St × Int × Int
def prodL (g : Gr) (a : Au) (x s : Int) : List PSt :=
  if (wi x 0 ((g.vals.length : Int) - 1) && (grOk g && auOk a) && hasSt a s) = true then (arcsOf g x).flatMap fun y => (mem 12 (aft a (bit s.toNat) (valAt g x.toNat) y.2.1.toNat)).map fun (t : Nat) => ((y.1, y.2.2, (t : Int)) : PSt) else []
theorem aft1_bits (a : Au) (l : Nat) (t : Nat) : ∀ (L : List Nat) (m : Nat), (L.foldl (aft1 a l) m).testBit t = true → m.testBit t = true ∨ ∃ c ∈ L, mv a c l = (t : Int)
  | [], m, h => .inl h
  | c :: L, m, h => by
    rcases aft1_bits a l t L _ h with h1 | ⟨c', hc', h2⟩
    · unfold aft1 at h1
      split at h1
      · rename_i h0
        rw [ins_test, Bool.or_eq_true, decide_eq_true_eq] at h1
        rcases h1 with h1 | h1
        · exact .inl h1
        · exact .inr ⟨c, List.mem_cons_self, by omega⟩
      · exact .inl h1
    · exact .inr ⟨c', List.mem_cons_of_mem _ hc', h2⟩
theorem aft_from {a : Au} (v l : Nat) {s t : Nat} (hs : s < 12) (h : t ∈ mem 12 (aft a (bit s) v l)) : ∃ c ∈ mem 12 (cls a v s), mv a c l = (t : Int) := by
  rw [mem_mem, aft, mem_pow hs] at h
  rcases aft1_bits a l t _ _ h.2 with h1 | h1
  · simp at h1
  · exact h1
theorem prod_mem {g : Gr} {a : Au} {x s : Int} {e : PSt} (h : e ∈ prodL g a x s) :
    stepFrom g e.1 = x ∧ stepTo g e.1 = e.2.1 ∧ (0 ≤ x ∧ x < (g.vals.length : Int)) ∧ (0 ≤ stepLetter g e.1 ∧ stepLetter g e.1 ≤ 5) ∧ ∃ c ∈ tclL a s (valAt g x.toNat : Int), mv a c (stepLetter g e.1).toNat = e.2.2 := by
  unfold prodL at h
  split at h
  · rename_i hok
    simp only [Bool.and_eq_true, wi_iff] at hok
    obtain ⟨⟨hx, hg, ha⟩, hst⟩ := hok
    obtain ⟨y, hy, hm⟩ := List.mem_flatMap.1 h
    obtain ⟨t, ht, rfl⟩ := List.mem_map.1 hm
    obtain ⟨d, hd, hl, hto⟩ := arc_stepEd hg hy
    have hgo := grOk_iff.1 hg
    have hr := (arc_range hgo hy).1
    have hs2 := hst
    rw [hasSt, Bool.and_eq_true, wi_iff] at hs2
    obtain ⟨⟨hs0, hs1⟩, -⟩ := hs2
    have hn12 := (auOk_iff.1 ha).1.2
    obtain ⟨c, hc, hcm⟩ := aft_from _ _ (by omega) ht
    have hlet : stepLetter g y.1 = y.2.1 := by rw [stepLetter_of hd, hl]
    refine ⟨?_, by rw [stepTo_of hd, hto], by omega, by rw [hlet]; exact hr, c, ?_, by rw [hlet]; exact hcm⟩
    · obtain ⟨e2, he2, hye⟩ := List.mem_flatMap.1 hy
      obtain ⟨i, hi, hie⟩ := List.getElem_of_mem he2
      have hid := edgeIdx_at hgo (show g.edges[i]? = some e2 by rw [← hie]; exact List.getElem?_eq_getElem hi)
      obtain ⟨j, e3, hj, hj2, -, -, hj3, -⟩ := arc_edge hgo hy
      have hdd : d = e2 := by
        obtain ⟨-, hdm, hdi⟩ := stepEd_ok hd
        obtain ⟨k, hk, hke⟩ := List.getElem_of_mem hdm
        have hkd : g.edges[k]? = some d := by rw [← hke]; exact List.getElem?_eq_getElem hk
        have hk2 := edgeIdx_at hgo hkd
        have he1 : e2.1 = y.1.1 := by rcases mem_arcE.1 hye with ⟨-, rfl⟩ | ⟨-, rfl⟩ <;> rfl
        rw [hdi, ← he1, hid] at hk2
        obtain rfl : i = k := by omega
        exact hke.symm.trans hie
      subst hdd
      rw [stepFrom_of hd]
      rcases mem_arcE.1 hye with ⟨h1, rfl⟩ | ⟨h1, rfl⟩
      · exact h1
      · exact h1
    · have hv := valAt_lt hgo x.toNat
      rw [tclL, if_pos (by rw [Bool.and_eq_true, wi_iff]; exact ⟨hst, by omega, by omega⟩), Int.toNat_natCast]
      exact hc
  · cases h
end Go.Proofs.Ytallglnmeeahiaa

/- The reference's ProductSteps is prodL. -/
namespace Go.Proofs.Ytallglnmeeahiaa
set_option linter.unusedVariables false
set_option linter.unusedSimpArgs false
open Go.ChangeShapes Go.WideShapes Go.ChangeAt Go.RowKit
attribute [local go_sem] ext_cell ext_frozen ext_lt ext_lt1 ext_lt2 ext_lt3 ltn2 ltn3 ltn13 lts1 lts2 lts3

theorem prodL_yes {g : Gr} {a : Au} {x s : Int} (h : (wi x 0 ((g.vals.length : Int) - 1) && (grOk g && auOk a) && hasSt a s) = true) : prodL g a x s = prodSteps g a x.toNat s.toNat := by
  have hx : ((x.toNat : Nat) : Int) = x := by
    simp only [Bool.and_eq_true, wi_iff] at h
    omega
  rw [prodL, if_pos h, prodSteps, hx]
  rfl
theorem prodL_no {g : Gr} {a : Au} {x s : Int} (h : (wi x 0 ((g.vals.length : Int) - 1) && (grOk g && auOk a) && hasSt a s) = false) : prodL g a x s = [] := by
  rw [prodL, h]; rfl
theorem prodL_len (g : Gr) (a : Au) (x s : Int) : (prodL g a x s).length ≤ 288 := by
  cases h : (wi x 0 ((g.vals.length : Int) - 1) && (grOk g && auOk a) && hasSt a s) with
  | false => rw [prodL_no h]; exact Nat.zero_le _
  | true =>
    rw [prodL_yes h]
    simp only [Bool.and_eq_true] at h
    exact prodSteps_len (grOk_iff.1 h.1.2.1) a _ _
theorem lit_nilP {w : World} {lo : Nat} {e : TypeId} {α : Type} {E : α → List Value} {k : Nat} (hl : lo ≤ w.heap.size) : Own lo (w.alloc (.cells #[] e)).heap.size (w.alloc (.cells #[] e)) e E k (.slice (some ⟨w.heap.size, 0, none⟩) 0 0) ([] : List α) :=
  Own.of_row (n := 0) (cs := []) ⟨by simp, .inr ⟨w.heap.size, 0, #[], rfl, hl, heap_alloc_new w _, Nat.le_refl _, by unfold maxLen; omega, by simp, by simp⟩⟩ rfl rfl
theorem goodB_prod (g : Gr) (a : Au) (x s : Int) : goodB g a x s = (wi x 0 ((g.vals.length : Int) - 1) && (grOk g && auOk a) && hasSt a s) := by
  rw [goodB, hasSt]
  cases grOk g <;> cases auOk a <;> cases wi x 0 ((g.vals.length : Int) - 1) <;> cases wi s 0 ((a.accept.length : Int) - 1) <;> rfl
set_option maxHeartbeats 2000000 in
theorem specProductSteps (vg va : Value) (g : Gr) (a : Au) (x s : Int) (w : World) (hgv : GrV 0 w.heap.size w vg g) (hav : AuV 0 w.heap.size w va a) :
    Calls Try.prog 25 #[vg, va, .int .i64 x, .int .i64 s] w fun e w' => ∃ v', e = .returned v' ∧ Own w.heap.size w'.heap.size w' 56 cPS 4 v' (prodL g a x s) ∧ Below w.heap.size w w' := by
  have hgv0 := hgv
  have hav0 := hav
  obtain ⟨A1, n1, c1, A2, n2, c2, rfl⟩ := hgv.shape
  obtain ⟨A3, n3, c3, A4, n4, c4, rfl⟩ := hav.shape
  have hb0 : Below w.heap.size w ((w.alloc (.cells #[.slice A1 n1 c1, .slice A2 n2 c2] 38)).alloc (.cells #[.int .i64 a.start, .slice A3 n3 c3, .slice A4 n4 c4] 27)) := ((Below.refl _ _).alloc (Nat.le_refl _) _).alloc (by simp) _
  have HGV := Lib.hid hgv0
  have HAV := Lib.hid hav0
  clear hgv hav hgv0 hav0
  obtain ⟨R, hR⟩ : ∃ R, R = prodL g a x s := ⟨_, rfl⟩
  rw [← hR]
  have HR := Lib.hid hR
  clear hR
  go_enter Try.func25, Try.ntmps25
  go_wp2_with fail
  obtain ⟨W0, hW0⟩ : ∃ W0, W0 = ((w.alloc (.cells #[.slice A1 n1 c1, .slice A2 n2 c2] 38)).alloc (.cells #[.int .i64 a.start, .slice A3 n3 c3, .slice A4 n4 c4] 27)) := ⟨_, rfl⟩
  rw [← hW0] at hb0 ⊢
  have x0 : W0.cell? ⟨w.heap.size, 0, none⟩ = some (.slice A1 n1 c1) := by rw [hW0]; simp
  have x1 : W0.cell? ⟨w.heap.size, 1, none⟩ = some (.slice A2 n2 c2) := by rw [hW0]; simp
  have y0 : W0.cell? ⟨w.heap.size + 1, 0, none⟩ = some (.int .i64 a.start) := by rw [hW0]; simp
  have y1 : W0.cell? ⟨w.heap.size + 1, 1, none⟩ = some (.slice A3 n3 c3) := by rw [hW0]; simp
  have y2 : W0.cell? ⟨w.heap.size + 1, 2, none⟩ = some (.slice A4 n4 c4) := by rw [hW0]; simp
  have hs0 : w.heap.size + 1 + 1 = W0.heap.size := by rw [hW0]; simp
  try rw [hs0]
  have l0 : w.heap.size + 1 < W0.heap.size := by omega
  have l00 : w.heap.size < W0.heap.size := by omega
  clear hW0 hs0
  have hgx := l14Good_any _ _ g a x s W0 (HGV.out.keep hb0) (HAV.out.keep hb0)
  rw [goodB_prod] at hgx
  have HGX := Lib.hid hgx
  clear hgx
  cases hk : (wi x 0 ((g.vals.length : Int) - 1) && (grOk g && auOk a) && hasSt a s) with
  | false =>
    rw [hk] at HGX
    have HR0 := Lib.hid (HR.out.trans (prodL_no hk))
    clear hk HR
    refine HGX.out.mono ?_
    rintro e w1 ⟨rfl, hb1⟩
    have hb2 := below_trans hb0 hb1
    go_wp2_with fail
    go_ret
    exact ⟨_, rfl, by rw [HR0.out]; exact lit_nilP hb2.size, hb2.alloc hb2.size _⟩
  | true =>
    rw [hk] at HGX
    have HR0 := Lib.hid (HR.out.trans (prodL_yes hk))
    simp only [Bool.and_eq_true, hasSt, wi_iff] at hk
    obtain ⟨⟨⟨hx0, hx1⟩, hgo, ha⟩, ⟨hs0, hs1⟩, -⟩ := hk
    obtain ⟨x, rfl⟩ := Int.eq_ofNat_of_zero_le hx0
    obtain ⟨s, rfl⟩ := Int.eq_ofNat_of_zero_le hs0
    have hxl : x < g.vals.length := by omega
    have hsl : s < a.accept.length := by omega
    have HLF := Lib.hid (fun (W : World) (hW : Below w.heap.size w W) => l14Steps_any _ _ g a x s W (HGV.out.keep hW) (HAV.out.keep hW) hgo ha hxl hsl)
    clear hx0 hx1 hgo ha hs0 hs1 HR
    refine HGX.out.mono ?_
    rintro e w1 ⟨rfl, hb1⟩
    have hb2 := below_trans hb0 hb1
    have x0 := kcell hb1 x0
    have x1 := kcell hb1 x1
    have y0 := kcell hb1 y0
    have y1 := kcell hb1 y1
    have y2 := kcell hb1 y2
    have hs1 := hb2.size
    clear hb1 hb0
    go_wp2_with fail
    refine (HLF.out w1 hb2).mono ?_
    rintro e w3 ⟨v3, rfl, ho3, hb3⟩
    have HO3 := Lib.hid (ho3.mono hs1 (Nat.le_refl _))
    have HB3 := Lib.hid (below_trans hb2 hb3)
    have HV3 := Lib.hid ho3.shape
    clear ho3 hb3
    go_wp2_with fail
    go_ret
    exact ⟨_, rfl, by rw [HR0.out]; exact HO3.out, HB3.out⟩
end Go.Proofs.Ytallglnmeeahiaa

/- Plain: the rows of arcs, edge by edge. -/
namespace Go.Proofs.Ytallglnmeeahiaa
set_option linter.unusedVariables false
set_option linter.unusedSimpArgs false
/-- the arcs of all nodes by the first i edges -/
def rowsTo (g : Gr) (i : Nat) : List (List Arc) := (List.range g.vals.length).map fun (x : Nat) => (g.edges.take i).flatMap (arcE (x : Int))
theorem rowsTo_at {g : Gr} {i x : Nat} (h : x < g.vals.length) : (rowsTo g i)[x]? = some ((g.edges.take i).flatMap (arcE (x : Int))) := by simp [rowsTo, h]
theorem rowsTo_len (g : Gr) (i : Nat) : (rowsTo g i).length = g.vals.length := by simp [rowsTo]
theorem rowsTo_zero (g : Gr) : rowsTo g 0 = List.replicate g.vals.length [] := by
  apply List.ext_getElem?
  intro x
  simp only [rowsTo, List.take_zero, List.flatMap_nil, List.getElem?_map, List.getElem?_replicate, List.getElem?_range]
  by_cases h : x < g.vals.length
  · simp [h]
  · simp [h]
def rowFrom (g : Gr) (i : Nat) (e : Ed) : List (List Arc) := (rowsTo g i).set e.2.1.toNat ((g.edges.take i).flatMap (arcE e.2.1) ++ [((e.1, false), arcLetter false e, e.2.2.1)])
def rowBack (g : Gr) (i : Nat) (e : Ed) : List Arc := (g.edges.take i).flatMap (arcE e.2.2.1) ++ if e.2.1 = e.2.2.1 then [((e.1, false), arcLetter false e, e.2.2.1)] else []
theorem rowFrom_at {g : Gr} {i : Nat} {e : Ed} (h0 : 0 ≤ e.2.1) (hn : e.2.1 ≤ (g.vals.length : Int) - 1) (h1 : 0 ≤ e.2.2.1) (h2 : e.2.2.1 ≤ (g.vals.length : Int) - 1) : (rowFrom g i e)[e.2.2.1.toNat]? = some (rowBack g i e) := by
  unfold rowFrom rowBack
  rw [List.getElem?_set]
  by_cases h : e.2.1 = e.2.2.1
  · rw [if_pos (by rw [h]), if_pos (by rw [rowsTo_len]; omega), if_pos h, h]
  · rw [if_neg (by omega), if_neg h, rowsTo_at (by omega), Int.toNat_of_nonneg h1]; simp
theorem rowsTo_push {g : Gr} {i : Nat} {e : Ed} (he : g.edges[i]? = some e) (h0 : 0 ≤ e.2.1) (hn : e.2.1 ≤ (g.vals.length : Int) - 1) (h1 : 0 ≤ e.2.2.1) (h2 : e.2.2.1 ≤ (g.vals.length : Int) - 1) :
    (rowFrom g i e).set e.2.2.1.toNat (rowBack g i e ++ [((e.1, true), arcLetter true e, e.2.1)]) = rowsTo g (i + 1) := by
  apply List.ext_getElem?
  intro x
  by_cases hx : x < g.vals.length
  · rw [rowsTo_at hx, flat_take he, List.getElem?_set]
    unfold rowFrom rowBack
    rw [List.length_set, rowsTo_len]
    by_cases hb : e.2.2.1 = (x : Int)
    · rw [if_pos (by omega), if_pos (by omega)]
      congr 1
      rw [hb, List.append_assoc]
      congr 1
      unfold arcE arcLetter
      by_cases hf : e.2.1 = (x : Int)
      · simp [hf, hb]
      · simp [hf, hb]
    · rw [if_neg (by omega), List.getElem?_set, rowsTo_len]
      by_cases hf : e.2.1 = (x : Int)
      · rw [if_pos (by omega), if_pos (by omega)]
        congr 1
        rw [hf]
        congr 1
        unfold arcE arcLetter
        simp [hf, hb]
      · rw [if_neg (by omega), rowsTo_at hx]
        congr 1
        unfold arcE
        simp [hf, hb]
  · rw [List.getElem?_eq_none (by rw [List.length_set, rowFrom, List.length_set, rowsTo_len]; omega), List.getElem?_eq_none (by rw [rowsTo_len]; omega)]
theorem rowsTo_all (g : Gr) : rowsTo g g.edges.length = (List.range g.vals.length).map fun (x : Nat) => arcsOf g (x : Int) := by
  unfold rowsTo arcsOf
  rw [List.take_length]

end Go.Proofs.Ytallglnmeeahiaa

