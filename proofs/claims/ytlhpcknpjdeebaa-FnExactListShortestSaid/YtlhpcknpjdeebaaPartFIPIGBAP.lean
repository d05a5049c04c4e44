/- Parts of the proof, joined into one text: GraphS, StepS, NodesS, WalkS, SetS, FromS, HeldL. -/
import Derived.Test.YtlhpcknpjdeebaaPartHCBNMMEI
import Derived.Test.YtlhpcknpjdeebaaPartJMJACPBF
import Derived.Test.YtlhpcknpjdeebaaPartLOMEEABO
import Derived.Test.YtlhpcknpjdeebaaPartNEFHKDJH
/- The reference's functions on graphs: validity, edges, steps. -/
namespace Go.Proofs.Ytlhpcknpjdeebaa
set_option linter.unusedVariables false
set_option linter.unusedSimpArgs false
open Go.ChangeShapes Go.WideShapes Go.ChangeAt Go.RowKit
attribute [local go_sem] ext_cell ext_frozen ext_lt ext_lt1 ext_lt2 ext_lt3 ltn2 ltn3 ltn13 lts1 lts2 lts3

set_option maxHeartbeats 1000000 in
theorem l3Edge_any (A : Option Addr) (n cc : Nat) (es : Value) (e : Ed) (w : World) (hn : n ≤ 9223372036854775807) :
    Calls Try.prog 110 #[.agg #[.slice A n cc, es], .agg #[.int .i64 e.1, .int .i64 e.2.1, .int .i64 e.2.2.1, .int .i64 e.2.2.2]] w fun en w' => en = .returned (.bool (edOk n e)) ∧ Below w.heap.size w w' := by
  obtain ⟨a, b, c, d⟩ := e
  have HW := Lib.hid l1In_any
  unfold edOk
  simp only
  have hb0 : Below w.heap.size w ((w.alloc (.cells #[.slice A n cc, es] 39)).alloc (.cells #[.int .i64 a, .int .i64 b, .int .i64 c, .int .i64 d] 114)) := ((Below.refl _ _).alloc (Nat.le_refl _) _).alloc (by simp) _
  cases g1 : wi a 1 99 with
  | false =>
    have HZ := Lib.hid g1
    go_enter Try.func110, Try.ntmps110
    go_wp2_with (go_at_call 36; refine (HW.out _ _ _ _).mono ?_; rintro e w' ⟨rfl, rfl⟩)
    go_ret
    exact ⟨rfl, hb0⟩
  | true =>
    cases g2 : wi b 0 ((n : Int) - 1) with
    | false =>
      go_enter Try.func110, Try.ntmps110
      go_wp2_with (go_at_call 36; refine (HW.out _ _ _ _).mono ?_; rintro e w' ⟨rfl, rfl⟩)
      go_ret
      exact ⟨rfl, hb0⟩
    | true =>
      cases g3 : wi c 0 ((n : Int) - 1) with
      | false =>
        go_enter Try.func110, Try.ntmps110
        go_wp2_with (go_at_call 36; refine (HW.out _ _ _ _).mono ?_; rintro e w' ⟨rfl, rfl⟩)
        go_ret
        exact ⟨rfl, hb0⟩
      | true =>
        go_enter Try.func110, Try.ntmps110
        go_wp2_with (go_at_call 36; refine (HW.out _ _ _ _).mono ?_; rintro e w' ⟨rfl, rfl⟩)
        go_ret
        exact ⟨rfl, hb0⟩

set_option maxHeartbeats 2000000 in
theorem specValidGraph (v : Value) (g : Gr) (w : World) (hv : GrV 0 w.heap.size w v g) :
    Calls Try.prog 92 #[v] w fun e w' => e = .returned (.bool (grOk g)) ∧ Below w.heap.size w w' := by
  obtain ⟨vs, es, rfl, ⟨A1, c1, rfl, hl1, hm1, hx1⟩, ⟨A2, c2, rfl, hl2, hm2, hx2⟩⟩ := hv
  unfold maxLen at hm1 hm2
  have hb0 : Below w.heap.size w (w.alloc (.cells #[.slice A1 g.vals.length c1, .slice A2 g.edges.length c2] 39)) := (Below.refl _ _).alloc (Nat.le_refl _) _
  have HW := Lib.hid l1In_any
  have HX1 := Lib.hid hx1
  have HX2 := Lib.hid hx2
  clear hx1 hx2
  go_enter Try.func92, Try.ntmps92
  go_wp2_with fail
  go_loop [3] (fun ii => ∃ i : Nat, i ≤ g.vals.length ∧ ii = .int .i64 i ∧ (g.vals.take i).all (fun v => wi v 0 2) = true) (fun ii => g.vals.length - (intOf ii).toNat)
  case atStart => exact ⟨0, Nat.zero_le _, rfl, rfl⟩
  case round =>
    obtain ⟨i, hi, rfl, hall⟩ := hrel
    have HA := Lib.hid hall
    clear hall
    by_cases hlt : i < g.vals.length
    · have hxi : g.vals[i]? = some g.vals[i] := List.getElem?_eq_getElem hlt
      obtain ⟨b, o, rfl, -, hb1, hc⟩ := HX1.out i _ hxi
      generalize g.vals[i] = x at hc hxi
      have c0 := hc 0 _ rfl
      simp only [Nat.mul_one, Nat.add_zero] at c0
      have HX := Lib.hid hxi
      clear hc hxi
      cases g4 : wi x 0 2 with
      | true =>
        have G4 := Lib.hid g4
        go_wp2_with (go_at_call 36; refine (HW.out _ _ _ _).mono ?_; rintro e w' ⟨rfl, rfl⟩)
        go_round
        case rel => exact ⟨i + 1, by omega, by go_num, all_take_succ HX.out HA.out G4.out⟩
        case measure => simp [intOf]; omega
      | false =>
        have hfin : grOk g = false := by
          rw [grOk, all_false_of HX.out g4]
          rfl
        have HF := Lib.hid hfin
        clear hfin
        go_wp2_with (go_at_call 36; refine (HW.out _ _ _ _).mono ?_; rintro e w' ⟨rfl, rfl⟩)
        go_ret
        exact ⟨by rw [HF.out]; rfl, hb0⟩
    · obtain rfl : i = g.vals.length := by omega
      have hallv : g.vals.all (fun v => wi v 0 2) = true := by have := HA.out; rwa [List.take_length] at this
      have HV := Lib.hid hallv
      clear hallv HA
      go_wp2_with fail
      go_loopw [4] (fun ii wr => ∃ (i : Nat) (u : World), i ≤ g.edges.length ∧ ii = .int .i64 i ∧ (List.range i).all (edAt g.vals.length g.edges) = true ∧ wr = ext (w.alloc (.cells #[.slice A1 g.vals.length c1, .slice A2 g.edges.length c2] 39)) u) (fun ii _ => g.edges.length - (intOf ii).toNat)
      case atStart => exact ⟨0, _, Nat.zero_le _, rfl, rfl, ext_self _⟩
      case round =>
        obtain ⟨i, u, hi, rfl, hall, rfl⟩ := hrel
        have HA := Lib.hid hall
        clear hall
        by_cases hlt : i < g.edges.length
        · have hxi : g.edges[i]? = some g.edges[i] := List.getElem?_eq_getElem hlt
          obtain ⟨b, o', rfl, -, hb1, hc⟩ := HX2.out i _ hxi
          generalize g.edges[i] = x at hc hxi
          have hb1' : b < w.heap.size + 1 := by omega
          have c0 := hc 0 _ rfl
          have c1' := hc 1 _ rfl
          have c2' := hc 2 _ rfl
          have c3 := hc 3 _ rfl
          simp only [Nat.add_zero] at c0
          have HX := Lib.hid hxi
          have hlen : g.vals.length ≤ 9223372036854775807 := by omega
          clear hc hxi
          have hgr : grOk g = ((List.range g.edges.length).all (edAt g.vals.length g.edges) && wi g.vals.length 1 5 && decide (g.edges.length ≤ 12)) := by
            rw [grOk, HV.out]; rfl
          have HGR := Lib.hid hgr
          clear hgr
          cases g4 : edOk g.vals.length x with
          | false =>
            have hfin : grOk g = false := by
              rw [HGR.out, range_all_false hlt (by rw [edAt, HX.out]; simp [g4])]
              rfl
            have HF := Lib.hid hfin
            clear hfin
            go_wp2_with fail
            refine wp_region_ext_lit (by kernel_rfl) (by kernel_rfl) ?_
            repeat (go_big_quiet_step ((go_at_call 110; exact Calls.ext_of (l3Edge_any A1 g.vals.length c1 _ x _ hlen))))
            refine wpQuiet_nil ?_
            intro _ hw'
            obtain ⟨u2, hw''⟩ := hw'
            subst hw''
            go_wp2_with fail
            go_ret
            exact ⟨by rw [HF.out]; rfl, below_trans hb0 (below_trans (ext_below _ _) (ext_below _ _))⟩
          | true =>
            have G4 := Lib.hid g4
            have hbx : ∀ u2, ∃ z, ext (ext (w.alloc (.cells #[.slice A1 g.vals.length c1, .slice (some ⟨b, o', none⟩) g.edges.length c2] 39)) u) u2 = ext (w.alloc (.cells #[.slice A1 g.vals.length c1, .slice (some ⟨b, o', none⟩) g.edges.length c2] 39)) z :=
              fun u2 => ext_of (below_trans (ext_below _ _) (ext_below _ _))
            by_cases hi0 : i = 0
            · subst hi0
              have hat : edAt g.vals.length g.edges 0 = true := by rw [edAt, HX.out]; simp [G4.out]
              have HAT := Lib.hid hat
              clear hat
              simp only [Nat.zero_mul, Nat.add_zero, Nat.zero_add] at c0 c1' c2' c3
              go_wp2_with fail
              refine wp_region_ext_lit (by kernel_rfl) (by kernel_rfl) ?_
              repeat (go_big_quiet_step ((go_at_call 110; exact Calls.ext_of (l3Edge_any A1 g.vals.length c1 _ x _ hlen))))
              refine wpQuiet_nil ?_
              intro _ hw'
              obtain ⟨u2, hw''⟩ := hw'
              subst hw''
              go_wp2_with fail
              go_roundw
              case rel =>
                obtain ⟨z, hz⟩ := hbx u2
                exact ⟨1, z, by omega, by go_num, range_all_succ HA.out HAT.out, hz⟩
              case measure => simp [intOf]; omega
            · have hi1 : 0 < i := by omega
              have hxj : g.edges[i - 1]? = some g.edges[i - 1] := List.getElem?_eq_getElem (by omega)
              obtain ⟨b9, o9, ho9, -, -, hcj⟩ := HX2.out (i - 1) _ hxj
              obtain ⟨rfl, rfl⟩ : b = b9 ∧ o' = o9 := by injection ho9 with h1; injection h1 with h1 h2; exact ⟨h1, h2⟩
              generalize g.edges[i - 1] = p at hcj hxj
              have hb1' : b < w.heap.size + 1 := by omega
              have p0 := hcj 0 _ rfl
              simp only [Nat.add_zero] at p0
              have HXJ := Lib.hid hxj
              have hi00 : ((i : Int) > 0) := by omega
              clear hcj hxj ho9
              by_cases hlt2 : p.1 < x.1
              · have hat : edAt g.vals.length g.edges i = true := by rw [edAt, HX.out]; simp [G4.out, HXJ.out, hlt2]
                have hge : decide (p.1 ≥ x.1) = false := by simp; omega
                have HAT := Lib.hid hat
                clear hat
                go_wp2_with fail
                have q1 : IntKind.i64.wrap ((i : Int) - 1) = (i : Int) - 1 := IntWalk.i64_in _ (by omega)
                have q2 : 0 ≤ (i : Int) - 1 := by omega
                have q3 : (i : Int) - 1 < (g.edges.length : Int) := by omega
                have q4 : ((i : Int) - 1).toNat = i - 1 := by omega
                refine wp_region_ext_lit (by kernel_rfl) (by kernel_rfl) ?_
                repeat (go_big_quiet_step ((go_at_call 110; exact Calls.ext_of (l3Edge_any A1 g.vals.length c1 _ x _ hlen))))
                refine wpQuiet_nil ?_
                intro _ hw'
                obtain ⟨u2, hw''⟩ := hw'
                subst hw''
                clear q1 q2 q3 q4
                go_wp2_with fail
                go_roundw
                case rel =>
                  obtain ⟨z, hz⟩ := hbx u2
                  exact ⟨i + 1, z, by omega, by go_num, range_all_succ HA.out HAT.out, hz⟩
                case measure => simp [intOf]; omega
              · have hfin : grOk g = false := by
                  rw [HGR.out, range_all_false hlt (by rw [edAt, HX.out]; simp [G4.out, HXJ.out, hi0]; omega)]
                  rfl
                have hge : decide (p.1 ≥ x.1) = true := by simp; omega
                have HF := Lib.hid hfin
                clear hfin
                go_wp2_with fail
                have q1 : IntKind.i64.wrap ((i : Int) - 1) = (i : Int) - 1 := IntWalk.i64_in _ (by omega)
                have q2 : 0 ≤ (i : Int) - 1 := by omega
                have q3 : (i : Int) - 1 < (g.edges.length : Int) := by omega
                have q4 : ((i : Int) - 1).toNat = i - 1 := by omega
                refine wp_region_ext_lit (by kernel_rfl) (by kernel_rfl) ?_
                repeat (go_big_quiet_step ((go_at_call 110; exact Calls.ext_of (l3Edge_any A1 g.vals.length c1 _ x _ hlen))))
                refine wpQuiet_nil ?_
                intro _ hw'
                obtain ⟨u2, hw''⟩ := hw'
                subst hw''
                clear q1 q2 q3 q4
                go_wp2_with fail
                go_ret
                exact ⟨by rw [HF.out]; rfl, below_trans hb0 (below_trans (ext_below _ _) (ext_below _ _))⟩
        · obtain rfl : i = g.edges.length := by omega
          have hgr : grOk g = (wi g.vals.length 1 5 && decide (g.edges.length ≤ 12)) := by
            rw [grOk, HV.out, HA.out]; rfl
          have HGR := Lib.hid hgr
          clear hgr HA HV
          cases g5 : wi g.vals.length 1 5 with
          | false =>
            rw [g5] at HGR
            go_wp2_with (go_at_call 36; refine (HW.out _ _ _ _).mono ?_; rintro e w' ⟨rfl, rfl⟩)
            go_ret
            exact ⟨by rw [HGR.out]; rfl, below_trans hb0 (ext_below _ _)⟩
          | true =>
            rw [g5] at HGR
            have HG5 := Lib.hid g5
            by_cases g6 : g.edges.length ≤ 12
            · have g6' : decide ((g.edges.length : Int) ≤ 12) = true := by simp; omega
              have hfin : grOk g = true := by rw [HGR.out]; simp [g6]
              have HF := Lib.hid hfin
              clear hfin HGR
              go_wp2_with (go_at_call 36; refine (HW.out _ _ _ _).mono ?_; rintro e w' ⟨rfl, rfl⟩)
              go_ret
              exact ⟨by rw [HF.out]; rfl, below_trans hb0 (ext_below _ _)⟩
            · have g6' : decide ((g.edges.length : Int) ≤ 12) = false := by simp; omega
              have hfin : grOk g = false := by rw [HGR.out]; simp [g6]
              have HF := Lib.hid hfin
              clear hfin HGR
              go_wp2_with (go_at_call 36; refine (HW.out _ _ _ _).mono ?_; rintro e w' ⟨rfl, rfl⟩)
              go_ret
              exact ⟨by rw [HF.out]; rfl, below_trans hb0 (ext_below _ _)⟩
end Go.Proofs.Ytlhpcknpjdeebaa

/- The reference's steps of a graph: where they lead from and to, and whether they are allowed. -/
namespace Go.Proofs.Ytlhpcknpjdeebaa
set_option linter.unusedVariables false
set_option linter.unusedSimpArgs false
open Go.ChangeShapes Go.WideShapes Go.ChangeAt Go.RowKit
attribute [local go_sem] ext_cell ext_frozen ext_lt ext_lt1 ext_lt2 ext_lt3 ltn2 ltn3 ltn13 lts1 lts2 lts3

set_option maxHeartbeats 1000000 in
theorem specEdgeIndex (v : Value) (g : Gr) (id : Int) (w : World) (hv : GrV 0 w.heap.size w v g) :
    Calls Try.prog 88 #[v, .int .i64 id] w fun e w' => e = .returned (.int .i64 (edgeIdx g id)) ∧ Below w.heap.size w w' := by
  obtain ⟨vs, es, rfl, hvs, ⟨A2, c2, rfl, hl2, hm2, hx2⟩⟩ := hv
  obtain ⟨A1, n1, c1, rfl⟩ := hvs.shape
  unfold maxLen at hm2
  have hb0 : Below w.heap.size w (w.alloc (.cells #[.slice A1 n1 c1, .slice A2 g.edges.length c2] 39)) := (Below.refl _ _).alloc (Nat.le_refl _) _
  have HX := Lib.hid hx2
  clear hx2 hvs
  go_enter Try.func88, Try.ntmps88
  go_wp2_with fail
  go_loop [5] (fun ii => ∃ i : Nat, i ≤ g.edges.length ∧ ii = .int .i64 i ∧ ∀ e ∈ g.edges.take i, ¬ e.1 = id) (fun ii => g.edges.length - (intOf ii).toNat)
  case atStart => exact ⟨0, Nat.zero_le _, rfl, by simp⟩
  case round =>
    obtain ⟨i, hi, rfl, hno⟩ := hrel
    have HN := Lib.hid hno
    clear hno
    by_cases hlt : i < g.edges.length
    · have hxi : g.edges[i]? = some g.edges[i] := List.getElem?_eq_getElem hlt
      generalize g.edges[i] = x at hxi
      obtain ⟨b, o, rfl, -, hb, hc⟩ := HX.out i x hxi
      have c0 := hc 0 _ rfl
      simp only [Nat.add_zero] at c0
      have HXI := Lib.hid hxi
      clear hc hxi
      by_cases hp : x.1 = id
      · have hq : (x.1 == id) = true := by simp [hp]
        have hres : edgeIdx g id = i := edgeIdx_some HXI.out hp HN.out
        have HR := Lib.hid hres
        clear hres hp
        go_wp2_with fail
        go_ret
        exact ⟨by rw [HR.out]; rfl, hb0⟩
      · have hq : (x.1 == id) = false := by simp [hp]
        have HP := Lib.hid hp
        clear hp
        go_wp2_with fail
        go_round
        case rel =>
          refine ⟨i + 1, by omega, by go_num, fun y hy => ?_⟩
          rw [take_snoc HXI.out] at hy
          rcases List.mem_append.1 hy with hy | hy
          · exact HN.out y hy
          · obtain rfl : y = x := by simpa using hy
            exact HP.out
        case measure => simp [intOf]; omega
    · obtain rfl : i = g.edges.length := by omega
      have hres : edgeIdx g id = -1 := edgeIdx_none (fun x hx => HN.out x (by rw [List.take_length]; exact hx))
      have HR := Lib.hid hres
      clear hres
      go_wp2_with fail
      go_ret
      exact ⟨by rw [HR.out]; rfl, hb0⟩





theorem getDS_of {xs : List Int} {i : Nat} {x : Int} (h : xs[i]? = some x) : xs.getD i 0 = x := by rw [List.getD_eq_getElem?_getD, h]; rfl

end Go.Proofs.Ytlhpcknpjdeebaa

/- The reference's walks: their nodes, and when they are walks of a graph. -/
namespace Go.Proofs.Ytlhpcknpjdeebaa
set_option linter.unusedVariables false
set_option linter.unusedSimpArgs false
open Go.ChangeShapes Go.WideShapes Go.ChangeAt Go.RowKit
attribute [local go_sem] ext_cell ext_frozen ext_lt ext_lt1 ext_lt2 ext_lt3 ltn2 ltn3 ltn13 lts1 lts2 lts3

theorem row_shapeS {W : World} {base k n : Nat} {e : TypeId} {v : Value} {cs : List Value} (h : W.ownsRow base e k v n cs) (hn : n ≠ 0) : ∃ g c, v = .slice (some ⟨g, 0, none⟩) n c ∧ base ≤ g ∧ g < W.heap.size ∧ n ≤ c ∧ c ≤ maxLen := by
  have hlt := h.lt
  obtain ⟨hl, hs⟩ := h
  rcases hs with ⟨_, h0⟩ | ⟨g, cap, cur, rfl, hg, hh, hnc, hcm, r⟩
  · exact absurd h0 hn
  · exact ⟨g, cap, rfl, hg, (hlt g rfl).2, hnc, hcm⟩

set_option maxRecDepth 100000 in
set_option maxHeartbeats 8000000 in
theorem specNodes (v1 v2 : Value) (g : Gr) (k : Wk) (w : World) (hv1 : GrV 0 w.heap.size w v1 g) (hv2 : WkV 0 w.heap.size w v2 k) :
    Calls Try.prog 106 #[v1, v2] w fun en w' => ∃ v, en = .returned (.tuple #[v, .bool (walkOk g k)]) ∧ Own w.heap.size w'.heap.size w' 3 cI 1 v (nodesOut g k) ∧ Below w.heap.size w w' := by
  have hv0 := hv1
  obtain ⟨vs, es, rfl, ⟨A1, c1, rfl, hl1, hm1, -⟩, hes⟩ := hv1
  obtain ⟨A2, c2, rfl, hl2, hm2, hx2⟩ := hes
  have HX2 := Lib.hid hx2
  obtain ⟨ss, rfl, ⟨A3, c3, rfl, hl3, hm3, hx3⟩⟩ := hv2
  unfold maxLen at hm1 hm2 hm3
  obtain ⟨st, steps⟩ := k
  simp only at *
  have hb0 : Below w.heap.size w ((w.alloc (.cells #[.slice A1 g.vals.length c1, .slice A2 g.edges.length c2] 39)).alloc (.cells #[.int .i64 st, .slice A3 steps.length c3] 34)) := ((Below.refl _ _).alloc (Nat.le_refl _) _).alloc (by simp) _
  have HX3 := Lib.hid hx3
  have hwo : walkOk g (st, steps) = (grOk g && wi st 0 ((g.vals.length : Int) - 1) && decide (steps.length ≤ 60) && (List.range steps.length).all (linkAt g (st, steps))) := rfl
  have HW := Lib.hid hwo
  clear hx3 hx2 hwo
  have hvg := specValidGraph _ g _ (hv0.keep hb0)
  have HV := Lib.hid hvg
  clear hvg
  go_enter Try.func106, Try.ntmps106
  go_wp2_with fail
  refine HV.out.mono ?_
  rintro e w1 ⟨rfl, hb1⟩
  have b0 := ((Blk.new w _ _ w.heap.size rfl).alloc _).keep hb1
  have b1 := (Blk.new (w.alloc _) _ _ (w.heap.size + 1) (by simp)).keep hb1
  have hb2 := below_trans hb0 hb1
  clear hb0 hb1 HV
  have x0 : w1.cell? ⟨w.heap.size, 0, none⟩ = some _ := b0.cell 0
  have x1 : w1.cell? ⟨w.heap.size, 1, none⟩ = some _ := b0.cell 1
  have y0 : w1.cell? ⟨w.heap.size + 1, 0, none⟩ = some _ := b1.cell 0
  have y1 : w1.cell? ⟨w.heap.size + 1, 1, none⟩ = some _ := b1.cell 1
  have hlt1 := b1.lt
  have HWI := Lib.hid l1In_any
  cases hg : grOk g with
  | false =>
    have hfin : walkOk g (st, steps) = false := by rw [HW.out, hg]; rfl
    have HF := Lib.hid hfin
    clear HW hfin hg
    go_wp2_with fail
    go_ret2
    exact ⟨_, by rw [HF.out]; rfl, by rw [nodesOut_no HF.out]; exact (Own.of_row (World.ownsRow_lit _ #[] 0 (Nat.le_refl _) (by decide) rfl) rfl rfl).mono hb2.size (Nat.le_refl _), hb2.alloc hb2.size _⟩
  | true =>
    have q1 : IntKind.i64.wrap ((g.vals.length : Int) - 1) = (g.vals.length : Int) - 1 := IntWalk.i64_in _ (by omega)
    cases hs : wi st 0 ((g.vals.length : Int) - 1) with
    | false =>
      have hfin : walkOk g (st, steps) = false := by rw [HW.out, hg, hs]; rfl
      have HF := Lib.hid hfin
      clear HW hfin hg
      go_wp2_with (go_at_call 36; refine (HWI.out _ _ _ _).mono ?_; rintro e w1 ⟨rfl, rfl⟩)
      go_ret2
      exact ⟨_, by rw [HF.out]; rfl, by rw [nodesOut_no HF.out]; exact (Own.of_row (World.ownsRow_lit _ #[] 0 (Nat.le_refl _) (by decide) rfl) rfl rfl).mono hb2.size (Nat.le_refl _), hb2.alloc hb2.size _⟩
    | true =>
      by_cases hlen : steps.length ≤ 60
      · have hlen' : decide ((steps.length : Int) > 60) = false := by simp; omega
        have hfin : walkOk g (st, steps) = (List.range steps.length).all (linkAt g (st, steps)) := by rw [HW.out, hg, hs]; simp [hlen]
        have HF := Lib.hid hfin
        have HG := Lib.hid hg
        clear HW hfin hg
        go_wp2_with (go_at_call 36; refine (HWI.out _ _ _ _).mono ?_; rintro e w1 ⟨rfl, rfl⟩)
        have hst0 : 0 ≤ st := by unfold wi at hs; simp at hs; omega
        have HS := Lib.hid hs
        clear hs
        go_loopw [6, 7] (fun out ii wr => ∃ i : Nat, i ≤ steps.length ∧ ii = .int .i64 i ∧ (List.range i).all (linkAt g (st, steps)) = true ∧ wr.ownsRow w1.heap.size 3 1 out ((nodesL g (st, steps)).take (i + 1)).length (((nodesL g (st, steps)).take (i + 1)).flatMap cI) ∧ (∃ x, (nodesL g (st, steps))[i]? = some x ∧ 0 ≤ x) ∧ Below w1.heap.size w1 wr) (fun _ ii _ => steps.length - (intOf ii).toNat)
        case atStart => exact ⟨0, Nat.zero_le _, rfl, rfl, World.ownsRow_lit w1 #[.int .i64 st] 1 (Nat.le_refl _) (by decide) rfl, ⟨st, rfl, hst0⟩, (Below.refl _ _).alloc (Nat.le_refl _) _⟩
        case round =>
          obtain ⟨i, hi, rfl, hal, hrow, ⟨x, hxl, hx0⟩, hbel⟩ := hrel
          have HA := Lib.hid hal
          have hbw := below_trans hb2 hbel
          have hml : ((nodesL g (st, steps)).take (i + 1)).length = i + 1 := by rw [List.length_take, nodesL_len]; simp only; omega
          clear hal
          by_cases hlt : i < steps.length
          · have hxs : steps[i]? = some steps[i] := List.getElem?_eq_getElem hlt
            generalize steps[i] = s at hxs
            obtain ⟨sid, sinv⟩ := s
            obtain ⟨b, o, rfl, -, hb, hc⟩ := HX3.out i _ hxs
            have d0 := hc 0 _ rfl
            have d1 := hc 1 _ rfl
            simp only [Nat.add_zero] at d0
            have d0 := (hbw.cell (p := ⟨_, _, none⟩) hb).trans d0
            have d1 := (hbw.cell (p := ⟨_, _, none⟩) hb).trans d1
            obtain ⟨gb, cp, hv, hg1, hg2, hnc, hcm⟩ := row_shapeS hrow (by omega)
            obtain ⟨m, hm⟩ : ∃ m, m = i + 1 := ⟨_, rfl⟩
            rw [hml, ← hm] at hv
            subst hv
            have hrm := hrow
            rw [show ((nodesL g (st, steps)).take (i + 1)).length = m by rw [hml, hm]] at hrm
            have c0 := (World.ownsRow.cellAt hrm i (by omega)).trans (by have := flat_at cI_len (xs := (nodesL g (st, steps)).take (i + 1)) (i := i) (x := x) (by rw [List.getElem?_take]; simp [hxl]) 0 _ rfl; simpa using this)
            clear hrm
            have hei := fun W (hW : Below w.heap.size w W) => specEdgeIndex _ g sid W (hv0.keep hW)
            have hlk := linkAt_eq (k := (st, steps)) hxs hxl
            have HLK := Lib.hid hlk
            have HEI := Lib.hid hei
            have HXS := Lib.hid hxs
            have HROW := Lib.hid hrow
            have hbx := fun u => below_trans hbw (ext_below wr u)
            have x0 := (hbel.cell (p := ⟨_, _, none⟩) (by simp only; omega)).trans x0
            have x1 := (hbel.cell (p := ⟨_, _, none⟩) (by simp only; omega)).trans x1
            have y0 := (hbel.cell (p := ⟨_, _, none⟩) (by simp only; omega)).trans y0
            have y1 := (hbel.cell (p := ⟨_, _, none⟩) (by simp only; omega)).trans y1
            have hs1 := hbel.size
            have q2 : IntKind.i64.wrap ((m : Int) - 1) = (i : Int) := by rw [IntWalk.i64_in _ (by omega)]; omega
            have q3 : (i : Int) < (m : Int) := by omega
            have HM := Lib.hid hm
            have hbw' : b < wr.heap.size := by omega
            have k0 : w.heap.size < wr.heap.size := by omega
            have k1 : w.heap.size + 1 < wr.heap.size := by omega
            have hspec := edgeIdx_spec g sid
            have HSPEC := Lib.hid hspec
            clear hlk hei hxs hrow hml hm hxl hc q1 hnc hcm hspec
            rcases HSPEC.out with ⟨hk, hno⟩ | ⟨ix, e, hk, hex, he, hno⟩
            · have hsn := stepEd_none hno
              have hsf : stepFrom g (sid, sinv) = -1 := by rw [stepFrom]; simp [hsn]
              rw [hk] at HEI
              have hfin : walkOk g (st, steps) = false := by rw [HF.out]; exact range_all_false hlt (by rw [HLK.out, hsf]; simp; omega)
              have HFI := Lib.hid hfin
              clear hk hno hsn hsf hfin HSPEC
              go_wp2_with fail
              refine wp_region_ext_lit (by kernel_rfl) (by kernel_rfl) ?_
              repeat (go_big_quiet_step ((go_at_call 88; exact Calls.ext_of (HEI.out _ (hbx _)))))
              refine wpQuiet_nil ?_
              intro _ hw'
              obtain ⟨u2, hw''⟩ := hw'
              subst hw''
              go_wp2_with fail
              go_ret2
              exact ⟨_, by rw [HFI.out]; rfl, by rw [nodesOut_no HFI.out]; exact (Own.of_row (World.ownsRow_lit _ #[] 0 (Nat.le_refl _) (by decide) rfl) rfl rfl).mono (hbx _).size (Nat.le_refl _), (hbx _).alloc (hbx _).size _⟩
            · have hse := stepEd_some HG.out hex he hno
              have HSE := Lib.hid hse
              rw [hk] at HEI
              obtain ⟨b9, o9, rfl, -, hb9, hc9⟩ := HX2.out ix e hex
              have e1 := hc9 1 _ rfl
              have e2 := hc9 2 _ rfl
              have e1 := (hbw.cell (p := ⟨_, _, none⟩) hb9).trans e1
              have e2 := (hbw.cell (p := ⟨_, _, none⟩) hb9).trans e2
              have hb9' : b9 < wr.heap.size := by omega
              have hixl : ix < g.edges.length := (List.getElem?_eq_some_iff.1 hex).1
              clear hk hno he hex hse hc9 HSPEC
              cases sinv with
              | true =>
                have hsf : stepFrom g (sid, true) = e.2.2.1 := by rw [stepFrom]; simp [HSE.out]
                have hsto : stepTo g (sid, true) = e.2.1 := by rw [stepTo, stepFrom]; simp [HSE.out]
                have HSF := Lib.hid hsf
                have HSTO := Lib.hid hsto
                clear hsf hsto
                by_cases hyx : e.2.2.1 = x
                · have hq : (e.2.2.1 != x) = false := by simp [hyx]
                  have hto0 : 0 ≤ stepTo g (sid, true) := by
                    have h1 := @stepFrom_neg g (sid, true)
                    have h2 := @stepFrom_neg g (sid, !true)
                    have h3 : stepTo g (sid, true) = stepFrom g (sid, !true) := rfl
                    have h4 := HSF.out
                    rw [h3]
                    by_cases h5 : 0 ≤ stepFrom g (sid, !true)
                    · exact h5
                    · have h6 := h2.1 (by omega)
                      have h7 := h1.2 h6
                      omega
                  have HYX := Lib.hid hyx
                  have HTO0 := Lib.hid hto0
                  clear hyx hto0
                  go_wp2_with fail
                  refine wp_region_ext_lit (by kernel_rfl) (by kernel_rfl) ?_
                  repeat (go_big_quiet_step ((go_at_call 88; exact Calls.ext_of (HEI.out _ (hbx _)))))
                  refine wpQuiet_nil ?_
                  intro _ hw'
                  obtain ⟨u2, hw''⟩ := hw'
                  subst hw''
                  have hw3 := ext_below wr u2
                  have hrow3 := ownsRow_below HROW.out hw3 (Nat.le_refl _)
                  have hs3 := Nat.le_trans hs1 hw3.size
                  have hbel3 := below_trans hbel hw3
                  have htl : ((nodesL g (st, steps)).take (i + 1)).length ≤ 61 := by rw [List.length_take]; omega
                  clear hw3
                  go_wp2_with (at_builtin; (refine wpList_append1 cI elInt rfl _ _ rfl w1.heap.size (.slice (some ⟨gb, 0, none⟩) m cp) ((nodesL g (st, steps)).take (i + 1)) (e.2.1) _ 1 _ (by rfl) hrow3 (by rfl) rfl rfl rfl (cI_one _) (by omega) (by omega) hs3 ?_); rw [← HSTO.out, ← nodesL_succ HXS.out]; intro v' w4 hrow' hb4 _ _)
                  go_roundw
                  case rel => exact ⟨i + 1, by omega, by go_num, range_all_succ HA.out (by rw [HLK.out, HSF.out, HYX.out]; simp), hrow', ⟨_, nodesL_next HXS.out, HTO0.out⟩, hbel3.trans hb4⟩
                  case measure => simp [intOf]; omega
                · have hq : (e.2.2.1 != x) = true := by simp [hyx]
                  have hfin : walkOk g (st, steps) = false := by rw [HF.out]; exact range_all_false hlt (by rw [HLK.out, HSF.out]; simpa using hyx)
                  have HFI := Lib.hid hfin
                  clear hyx hfin
                  go_wp2_with fail
                  refine wp_region_ext_lit (by kernel_rfl) (by kernel_rfl) ?_
                  repeat (go_big_quiet_step ((go_at_call 88; exact Calls.ext_of (HEI.out _ (hbx _)))))
                  refine wpQuiet_nil ?_
                  intro _ hw'
                  obtain ⟨u2, hw''⟩ := hw'
                  subst hw''
                  go_wp2_with fail
                  go_ret2
                  exact ⟨_, by rw [HFI.out]; rfl, by rw [nodesOut_no HFI.out]; exact (Own.of_row (World.ownsRow_lit _ #[] 0 (Nat.le_refl _) (by decide) rfl) rfl rfl).mono (hbx _).size (Nat.le_refl _), (hbx _).alloc (hbx _).size _⟩
              | false =>
                have hsf : stepFrom g (sid, false) = e.2.1 := by rw [stepFrom]; simp [HSE.out]
                have hsto : stepTo g (sid, false) = e.2.2.1 := by rw [stepTo, stepFrom]; simp [HSE.out]
                have HSF := Lib.hid hsf
                have HSTO := Lib.hid hsto
                clear hsf hsto
                by_cases hyx : e.2.1 = x
                · have hq : (e.2.1 != x) = false := by simp [hyx]
                  have hto0 : 0 ≤ stepTo g (sid, false) := by
                    have h1 := @stepFrom_neg g (sid, false)
                    have h2 := @stepFrom_neg g (sid, !false)
                    have h3 : stepTo g (sid, false) = stepFrom g (sid, !false) := rfl
                    have h4 := HSF.out
                    rw [h3]
                    by_cases h5 : 0 ≤ stepFrom g (sid, !false)
                    · exact h5
                    · have h6 := h2.1 (by omega)
                      have h7 := h1.2 h6
                      omega
                  have HYX := Lib.hid hyx
                  have HTO0 := Lib.hid hto0
                  clear hyx hto0
                  go_wp2_with fail
                  refine wp_region_ext_lit (by kernel_rfl) (by kernel_rfl) ?_
                  repeat (go_big_quiet_step ((go_at_call 88; exact Calls.ext_of (HEI.out _ (hbx _)))))
                  refine wpQuiet_nil ?_
                  intro _ hw'
                  obtain ⟨u2, hw''⟩ := hw'
                  subst hw''
                  have hw3 := ext_below wr u2
                  have hrow3 := ownsRow_below HROW.out hw3 (Nat.le_refl _)
                  have hs3 := Nat.le_trans hs1 hw3.size
                  have hbel3 := below_trans hbel hw3
                  have htl : ((nodesL g (st, steps)).take (i + 1)).length ≤ 61 := by rw [List.length_take]; omega
                  clear hw3
                  go_wp2_with (at_builtin; (refine wpList_append1 cI elInt rfl _ _ rfl w1.heap.size (.slice (some ⟨gb, 0, none⟩) m cp) ((nodesL g (st, steps)).take (i + 1)) (e.2.2.1) _ 1 _ (by rfl) hrow3 (by rfl) rfl rfl rfl (cI_one _) (by omega) (by omega) hs3 ?_); rw [← HSTO.out, ← nodesL_succ HXS.out]; intro v' w4 hrow' hb4 _ _)
                  go_roundw
                  case rel => exact ⟨i + 1, by omega, by go_num, range_all_succ HA.out (by rw [HLK.out, HSF.out, HYX.out]; simp), hrow', ⟨_, nodesL_next HXS.out, HTO0.out⟩, hbel3.trans hb4⟩
                  case measure => simp [intOf]; omega
                · have hq : (e.2.1 != x) = true := by simp [hyx]
                  have hfin : walkOk g (st, steps) = false := by rw [HF.out]; exact range_all_false hlt (by rw [HLK.out, HSF.out]; simpa using hyx)
                  have HFI := Lib.hid hfin
                  clear hyx hfin
                  go_wp2_with fail
                  refine wp_region_ext_lit (by kernel_rfl) (by kernel_rfl) ?_
                  repeat (go_big_quiet_step ((go_at_call 88; exact Calls.ext_of (HEI.out _ (hbx _)))))
                  refine wpQuiet_nil ?_
                  intro _ hw'
                  obtain ⟨u2, hw''⟩ := hw'
                  subst hw''
                  go_wp2_with fail
                  go_ret2
                  exact ⟨_, by rw [HFI.out]; rfl, by rw [nodesOut_no HFI.out]; exact (Own.of_row (World.ownsRow_lit _ #[] 0 (Nat.le_refl _) (by decide) rfl) rfl rfl).mono (hbx _).size (Nat.le_refl _), (hbx _).alloc (hbx _).size _⟩
          · obtain rfl : i = steps.length := by omega
            have y1 := (hbel.cell (p := ⟨_, _, none⟩) (by simp only; omega)).trans y1
            have hlw := hbel.size
            have k1 : w.heap.size + 1 < wr.heap.size := by omega
            have hfin : walkOk g (st, steps) = true := by rw [HF.out, HA.out]
            have HFF := Lib.hid hfin
            have htk : (nodesL g (st, steps)).take (steps.length + 1) = nodesL g (st, steps) := List.take_of_length_le (by rw [nodesL_len]; simp)
            rw [htk] at hrow
            have HROW := Lib.hid hrow
            clear hfin HF HA htk hml hrow
            go_wp2_with fail
            go_ret2
            exact ⟨_, by rw [HFF.out]; rfl, by rw [nodesOut_yes HFF.out]; exact (Own.of_row HROW.out rfl rfl).mono hb2.size (Nat.le_refl _), hbw⟩
      · have hlen' : decide ((steps.length : Int) > 60) = true := by simp; omega
        have hfin : walkOk g (st, steps) = false := by rw [HW.out]; simp [hlen]
        have HF := Lib.hid hfin
        clear HW hfin hg
        go_wp2_with (go_at_call 36; refine (HWI.out _ _ _ _).mono ?_; rintro e w1 ⟨rfl, rfl⟩)
        go_ret2
        exact ⟨_, by rw [HF.out]; rfl, by rw [nodesOut_no HF.out]; exact (Own.of_row (World.ownsRow_lit _ #[] 0 (Nat.le_refl _) (by decide) rfl) rfl rfl).mono hb2.size (Nat.le_refl _), hb2.alloc hb2.size _⟩
end Go.Proofs.Ytlhpcknpjdeebaa

/- The reference's walks: when one is a walk of a graph, and when it is allowed. -/
namespace Go.Proofs.Ytlhpcknpjdeebaa
set_option linter.unusedVariables false
set_option linter.unusedSimpArgs false
open Go.ChangeShapes Go.WideShapes Go.ChangeAt Go.RowKit
attribute [local go_sem] ext_cell ext_frozen ext_lt ext_lt1 ext_lt2 ext_lt3 ltn2 ltn3 ltn13 lts1 lts2 lts3

theorem specIsWalk (v1 v2 : Value) (g : Gr) (k : Wk) (w : World) (hv1 : GrV 0 w.heap.size w v1 g) (hv2 : WkV 0 w.heap.size w v2 k) :
    Calls Try.prog 104 #[v1, v2] w fun en w' => en = .returned (.bool (walkOk g k)) ∧ Below w.heap.size w w' := by
  have hv0 := hv1
  have hv3 := hv2
  obtain ⟨A1, n1, c1, A2, n2, c2, rfl⟩ := hv1.shape
  obtain ⟨A3, n3, c3, rfl⟩ := hv2.shape
  clear hv1 hv2
  have hb0 : Below w.heap.size w ((w.alloc (.cells #[.slice A1 n1 c1, .slice A2 n2 c2] 39)).alloc (.cells #[.int .i64 k.1, .slice A3 n3 c3] 34)) := ((Below.refl _ _).alloc (Nat.le_refl _) _).alloc (by simp) _
  have hc := specNodes _ _ g k _ (hv0.keep hb0) (hv3.keep hb0)
  have HC := Lib.hid hc
  clear hc
  generalize walkOk g k = bb at HC
  go_enter Try.func104, Try.ntmps104
  go_wp2_with fail
  refine HC.out.mono ?_
  rintro e w1 ⟨v, rfl, -, hb1⟩
  go_wp2_with fail
  go_ret
  exact ⟨rfl, below_trans hb0 hb1⟩

end Go.Proofs.Ytlhpcknpjdeebaa

/- The reference's product: l14Good, l14Closure, l14Letter, l14To, l4From. -/
namespace Go.Proofs.Ytlhpcknpjdeebaa
set_option linter.unusedVariables false
set_option linter.unusedSimpArgs false
open Go.ChangeShapes Go.WideShapes Go.ChangeAt Go.RowKit
attribute [local go_sem] ext_cell ext_frozen ext_lt ext_lt1 ext_lt2 ext_lt3 ltn2 ltn3 ltn13 lts1 lts2 lts3

def goodB (g : Gr) (a : Au) (x s : Int) : Bool := grOk g && (auOk a && (wi x 0 ((g.vals.length : Int) - 1) && wi s 0 ((a.accept.length : Int) - 1)))
set_option maxHeartbeats 2000000 in
theorem l14Good_any (vg va : Value) (g : Gr) (a : Au) (x s : Int) (w : World) (hgv : GrV 0 w.heap.size w vg g) (hav : AuV 0 w.heap.size w va a) :
    Calls Try.prog 70 #[vg, va, .int .i64 x, .int .i64 s] w fun e w' => e = .returned (.bool (goodB g a x s)) ∧ Below w.heap.size w w' := by
  have hgv0 := hgv
  have hav0 := hav
  obtain ⟨A1, c1, A2, c2, rfl, hl1, hm1, hl2, hm2, -, -⟩ := hgv.form
  obtain ⟨ac, nx, rfl, hac, hnx⟩ := hav
  obtain ⟨A3, c3, rfl, hl3, hm3, -⟩ := SlE.form hac
  obtain ⟨A4, n4, c4, rfl⟩ := hnx.shape
  have hb0 : Below w.heap.size w ((w.alloc (.cells #[.slice A1 g.vals.length c1, .slice A2 g.edges.length c2] 39)).alloc (.cells #[.int .i64 a.start, .slice A3 a.accept.length c3, .slice A4 n4 c4] 41)) := ((Below.refl _ _).alloc (Nat.le_refl _) _).alloc (by simp) _
  have HGV := Lib.hid hgv0
  have HAV := Lib.hid hav0
  have HWI := Lib.hid l1In_any
  have HG := Lib.hid (show goodB g a x s = (grOk g && (auOk a && (wi x 0 ((g.vals.length : Int) - 1) && wi s 0 ((a.accept.length : Int) - 1)))) from rfl)
  clear hac hnx hgv0 hav0 hgv
  cases hgo : grOk g with
  | false =>
    have hfin : goodB g a x s = false := by rw [HG.out, hgo]; rfl
    have HF := Lib.hid hfin
    have hc := specValidGraph _ g _ (HGV.out.keep hb0)
    rw [hgo] at hc
    have HC := Lib.hid hc
    clear hgo hfin hc
    go_enter Try.func70, Try.ntmps70
    go_wp2_with fail
    refine HC.out.mono ?_
    rintro e w1 ⟨rfl, hb1⟩
    go_wp2_with fail
    go_ret
    exact ⟨by rw [HF.out]; rfl, below_trans hb0 hb1⟩
  | true =>
    have hc := specValidGraph _ g _ (HGV.out.keep hb0)
    rw [hgo] at hc
    have HC := Lib.hid hc
    have HGO := Lib.hid hgo
    clear hgo hc
    cases hao : auOk a with
    | false =>
      have hfin : goodB g a x s = false := by rw [HG.out, HGO.out, hao]; rfl
      have HF := Lib.hid hfin
      have HAO := Lib.hid hao
      clear hao hfin
      go_enter Try.func70, Try.ntmps70
      go_wp2_with fail
      refine HC.out.mono ?_
      rintro e w1 ⟨rfl, hb1⟩
      obtain ⟨u1, rfl⟩ := ext_of hb1
      go_wp2_with fail
      refine (specValidAutomaton _ a _ (HAV.out.keep (below_trans hb0 hb1))).mono ?_
      rw [HAO.out]
      rintro e w2 ⟨rfl, hb2⟩
      go_wp2_with fail
      go_ret
      exact ⟨by rw [HF.out]; rfl, below_trans (below_trans hb0 hb1) hb2⟩
    | true =>
      have HAO := Lib.hid hao
      clear hao
      go_enter Try.func70, Try.ntmps70
      go_wp2_with fail
      refine HC.out.mono ?_
      rintro e w1 ⟨rfl, hb1⟩
      obtain ⟨u1, rfl⟩ := ext_of hb1
      have hb3 := below_trans hb0 hb1
      clear hb1
      go_wp2_with fail
      refine (specValidAutomaton _ a _ (HAV.out.keep hb3)).mono ?_
      rw [HAO.out]
      rintro e w2 ⟨rfl, hb2⟩
      obtain ⟨u2, rfl⟩ := ext_of (below_trans (ext_below _ u1) hb2)
      have hb4 := below_trans hb3 hb2
      clear hb2 hb3
      have hfin : goodB g a x s = (wi x 0 ((g.vals.length : Int) - 1) && wi s 0 ((a.accept.length : Int) - 1)) := by rw [HG.out, HGO.out, HAO.out]; rfl
      have HF := Lib.hid hfin
      clear hfin
      cases h1 : wi x 0 ((g.vals.length : Int) - 1) with
      | false =>
        have H1 := Lib.hid h1
        go_wp2_with (go_at_call 36; refine (HWI.out _ _ _ _).mono ?_; rintro e w1 ⟨rfl, rfl⟩)
        go_ret
        exact ⟨by rw [HF.out, H1.out]; rfl, hb4⟩
      | true =>
        have H1 := Lib.hid h1
        go_wp2_with (go_at_call 36; refine (HWI.out _ _ _ _).mono ?_; rintro e w1 ⟨rfl, rfl⟩)
        go_ret
        exact ⟨by rw [HF.out, H1.out]; rfl, hb4⟩
theorem l14Letter_any (e : Ed) (b : Bool) (w : World) (h0 : 0 ≤ e.2.2.2) (h2 : e.2.2.2 ≤ 2) :
    Calls Try.prog 90 #[.agg #[.int .i64 e.1, .int .i64 e.2.1, .int .i64 e.2.2.1, .int .i64 e.2.2.2], .bool b] w fun en w' => en = .returned (.int .i64 (arcLetter b e)) ∧ Below w.heap.size w w' := by
  obtain ⟨a, f, t, l⟩ := e
  simp only at h0 h2 ⊢
  cases b
  all_goals
    go_enter Try.func90, Try.ntmps90
    go_wp2_with fail
    go_ret
    exact ⟨rfl, (Below.refl _ _).alloc (Nat.le_refl _) _⟩
theorem l14To_any (e : Ed) (b : Bool) (w : World) :
    Calls Try.prog 91 #[.agg #[.int .i64 e.1, .int .i64 e.2.1, .int .i64 e.2.2.1, .int .i64 e.2.2.2], .bool b] w fun en w' => en = .returned (.int .i64 (arcTo b e)) ∧ Below w.heap.size w w' := by
  obtain ⟨a, f, t, l⟩ := e
  cases b
  all_goals
    go_enter Try.func91, Try.ntmps91
    go_wp2_with fail
    go_ret
    exact ⟨rfl, (Below.refl _ _).alloc (Nat.le_refl _) _⟩
set_option maxHeartbeats 1000000 in
theorem l14Closure_any (v : Value) (a : Au) (s x : Nat) (w : World) (hv : AuV 0 w.heap.size w v a) (hok : auOk a = true) (hs : s < a.accept.length) (hx : x ≤ 2) :
    Calls Try.prog 89 #[v, .int .i64 (s : Int), .int .i64 (x : Int)] w fun e w' => e = .returned (.int .i64 (cls a x s : Int)) ∧ Below w.heap.size w w' := by
  obtain ⟨A1, c1, A2, c2, rfl, hl1, hm1, hl2, hm2, hC⟩ := hv.form hok
  clear hv
  have hn12 : a.accept.length ≤ 12 := (auOk_iff.1 hok).1.2
  have hb0 : Below w.heap.size w (w.alloc (.cells #[.int .i64 a.start, .slice A1 a.accept.length c1, .slice A2 a.accept.length c2] 41)) := (Below.refl _ _).alloc (Nat.le_refl _) _
  have HOK := Lib.hid hok
  have HC := Lib.hid hC
  obtain ⟨R, hR⟩ : ∃ R, R = cls a x s := ⟨_, rfl⟩
  rw [← hR]
  have HR := Lib.hid hR
  clear hR hok hC
  go_enter Try.func89, Try.ntmps89
  go_wp2_with fail
  go_loop [1, 7] (fun ss st => ∃ (f m : Nat) (s : Int), st = .int .i64 (m : Int) ∧ ss = .int .i64 s ∧ clsF a (6 + x) f s m = R ∧ f + (mem 12 m).length = 13 ∧ m < 2 ^ a.accept.length ∧ s < (a.accept.length : Int)) (fun _ st => 13 - (mem 12 (intOf st).toNat).length)
  case atStart => exact ⟨13, 0, s, rfl, rfl, HR.out.symm, by simp [mem], Nat.two_pow_pos _, by omega⟩
  case round =>
    obtain ⟨f, m, s, rfl, rfl, hcl, hf, hm, hs⟩ := hrel
    have hm2 := lt12 HOK.out hm
    have hml := mem_len 12 m
    have HCL := Lib.hid hcl
    have HFC := Lib.hid hf
    clear hcl hf
    by_cases h0 : 0 ≤ s
    · obtain ⟨s, rfl⟩ := Int.eq_ofNat_of_zero_le h0
      have hs12 : s < 12 := by omega
      have hsn : (s : Int) < (a.accept.length : Int) := hs
      obtain ⟨b2, o2, b3, o3, c3, hA2, hb2, d2, hl3, hm3, hb3, hc3⟩ := HC.out.row s (by omega)
      subst hA2
      have d3 := hc3 (6 + x) (by omega)
      have hx9 : (6 : Int) + (x : Int) < 9 := by omega
      have e1 := shl_bit (s := s) (by omega)
      have e2 := or_ins (m := m) (s := s) (by omega) (by omega)
      clear hc3
      cases hb : m.testBit s with
      | true =>
        have e3 := bit_on (by omega) (by omega) hb
        have hfin : m = R := by rw [← HCL.out]; exact (clsF_stop (.inr (by simpa using hb))).symm
        have HF := Lib.hid hfin
        clear hfin hb h0
        go_wp2_with fail
        go_ret
        exact ⟨by rw [HF.out]; rfl, hb0⟩
      | false =>
        have e3 := bit_off (by omega) (by omega) hb
        have HB := Lib.hid hb
        have hmv := mv_lt HOK.out s (6 + x)
        clear hb h0
        go_wp2_with fail
        go_round
        case rel =>
          have h1 := cnt_or (n := 12) (m := m) hs12 HB.out
          have h2 := HFC.out
          obtain ⟨f, rfl⟩ : ∃ f', f = f' + 1 := ⟨f - 1, by omega⟩
          exact ⟨f, ins m s, _, rfl, rfl, by rw [← HCL.out]; exact (clsF_go HB.out).symm, by omega, ins_lt hm (by omega), by omega⟩
        case measure =>
          have h1 := cnt_or (n := 12) (m := m) hs12 HB.out
          simp [intOf]; omega
    · have hfin : m = R := by rw [← HCL.out]; exact (clsF_stop (.inl (by omega))).symm
      have h0' : decide (s ≥ 0) = false := by simp; omega
      have HF := Lib.hid hfin
      clear hfin
      go_wp2_with fail
      go_ret
      exact ⟨by rw [HF.out]; rfl, hb0⟩
end Go.Proofs.Ytlhpcknpjdeebaa

/- The reference's l4From: the steps from a node. -/
namespace Go.Proofs.Ytlhpcknpjdeebaa
set_option linter.unusedVariables false
set_option linter.unusedSimpArgs false
open Go.ChangeShapes Go.WideShapes Go.ChangeAt Go.RowKit
attribute [local go_sem] ext_cell ext_frozen ext_lt ext_lt1 ext_lt2 ext_lt3 ltn2 ltn3 ltn13 lts1 lts2 lts3

def fromTo (g : Gr) (x : Int) (i : Nat) : List St := ((g.edges.take i).flatMap (arcE x)).map (·.1)
theorem fromTo_len (g : Gr) (x : Int) (i : Nat) : (fromTo g x i).length ≤ i * 2 := by
  unfold fromTo
  rw [List.length_map]
  have h1 := flat_len (arcE_len x) (g.edges.take i)
  rw [List.length_take] at h1
  have : min i g.edges.length * 2 ≤ i * 2 := Nat.mul_le_mul_right 2 (Nat.min_le_left _ _)
  omega
theorem fromTo_succ {g : Gr} {x : Int} {i : Nat} {e : Ed} (he : g.edges[i]? = some e) : fromTo g x (i + 1) = (fromTo g x i ++ if e.2.1 = x then [(e.1, false)] else []) ++ if e.2.2.1 = x then [(e.1, true)] else [] := by
  unfold fromTo
  rw [flat_take he, List.map_append, List.append_assoc]
  congr 1
  unfold arcE
  by_cases h1 : e.2.1 = x <;> by_cases h2 : e.2.2.1 = x <;> simp [h1, h2]
theorem elStF : ElemOk Try.prog 32 96 (.agg #[.int .i64 0, .bool false]) 2 16 := ⟨Try.underlying32, by kernel_rfl, rfl, by omega⟩
set_option maxHeartbeats 4000000 in
theorem l4From_any (vg : Value) (g : Gr) (x : Int) (w : World) (hgv : GrV 0 w.heap.size w vg g) (he12 : g.edges.length ≤ 12) :
    Calls Try.prog 66 #[vg, .int .i64 x] w fun e w' => ∃ v', e = .returned v' ∧ Own w.heap.size w'.heap.size w' 96 cSt 2 v' ((arcsOf g x).map (·.1)) ∧ Below w.heap.size w w' := by
  obtain ⟨A1, c1, A2, c2, rfl, hl1, hm1, hl2, hm2, -, hC2⟩ := hgv.form
  have HC2 := Lib.hid hC2
  have hb0 : Below w.heap.size w (w.alloc (.cells #[.slice A1 g.vals.length c1, .slice A2 g.edges.length c2] 39)) := (Below.refl _ _).alloc (Nat.le_refl _) _
  obtain ⟨R, hR⟩ : ∃ R, R = (arcsOf g x).map (·.1) := ⟨_, rfl⟩
  rw [← hR]
  have HR := Lib.hid hR
  clear hgv hC2 hR
  go_enter Try.func66, Try.ntmps66
  go_wp2_with fail
  obtain ⟨W0, hW0⟩ : ∃ W0, W0 = (w.alloc (.cells #[.slice A1 g.vals.length c1, .slice A2 g.edges.length c2] 39)) := ⟨_, rfl⟩
  rw [← hW0] at hb0 ⊢
  have x0 : W0.cell? ⟨w.heap.size, 1, none⟩ = some (.slice A2 g.edges.length c2) := by rw [hW0]; simp
  have hs0 : w.heap.size + 1 = W0.heap.size := by rw [hW0]; simp
  rw [hs0]
  have l0 : w.heap.size < W0.heap.size := by omega
  clear hW0 hs0
  go_loopw [5, 6] (fun out ii wr => ∃ i : Nat, i ≤ g.edges.length ∧ ii = .int .i64 (i : Int) ∧ wr.ownsRow W0.heap.size 96 2 out (fromTo g x i).length ((fromTo g x i).flatMap cSt) ∧ Below W0.heap.size W0 wr) (fun _ ii _ => g.edges.length - (intOf ii).toNat)
  case atStart => exact ⟨0, Nat.zero_le _, rfl, World.ownsRow_lit W0 #[] 0 (Nat.le_refl _) (by decide) rfl, (Below.refl _ _).alloc (Nat.le_refl _) _⟩
  case round =>
    obtain ⟨i, hi, rfl, hrow, hbel⟩ := hrel
    have HROW := Lib.hid hrow
    have hlen := fromTo_len g x i
    have x0 := kcell hbel x0
    have l1 := Nat.lt_of_lt_of_le l0 hbel.size
    have hsz := hbel.size
    clear hrow
    by_cases hlt : i < g.edges.length
    · have hei : g.edges[i]? = some g.edges[i] := List.getElem?_eq_getElem hlt
      generalize g.edges[i] = e at hei
      obtain ⟨b, o, rfl, hb, q0, q1, q2, -⟩ := HC2.out.ed hei
      have hbw := below_trans hb0 hbel
      have q0 := kcell hbw q0
      have q1 := kcell hbw q1
      have q2 := kcell hbw q2
      have hsu := fromTo_succ (x := x) hei
      have HSU := Lib.hid hsu
      obtain ⟨eid, ef, et, el⟩ := e
      simp only at q0 q1 q2 HSU
      clear hei hsu hbw
      by_cases h1 : ef = x <;> by_cases h2 : et = x
      · have k1 : (ef == x) = true := by simpa using h1
        have k2 : (et == x) = true := by simpa using h2
        rw [if_pos h1, if_pos h2] at HSU
        clear h1 h2
        have tok1 : True := trivial
        go_wp2_with (first | (at_builtin; have _t := tok1; (refine wpList_append1 cSt elStF rfl _ _ rfl W0.heap.size _ (fromTo g x i) (eid, false) _ 1 _ (by rfl) HROW.out (by rfl) rfl rfl rfl (cSt_one _) (by omega) (by omega) hsz ?_); intro v' w4 hrow' hb4 _ _; clear tok1; have HR4 := Lib.hid hrow'; clear hrow'; have q0 := (hb4.cell (p := ⟨b, o + i * 4, none⟩) (by simp only; omega)).trans q0; have q2 := (hb4.cell (p := ⟨b, o + i * 4 + 2, none⟩) (by simp only; omega)).trans q2; have x0 := (hb4.cell (p := ⟨w.heap.size, 1, none⟩) (by simp only; omega)).trans x0; have hsz4 := hb4.size) | (at_builtin; (refine wpList_append1 cSt elStF rfl _ _ rfl W0.heap.size _ (fromTo g x i ++ [(eid, false)]) (eid, true) _ 1 _ (by rfl) HR4.out (by rfl) rfl rfl rfl (cSt_one _) (by simp only [List.length_append, List.length_singleton]; omega) (by omega) (by omega) ?_); intro v' w5 hrow' hb5 _ _))
        go_roundw
        case rel => exact ⟨i + 1, by omega, by go_num, by rw [HSU.out]; exact hrow', (hbel.trans hb4).trans hb5⟩
        case measure => simp [intOf]; omega
      · have k1 : (ef == x) = true := by simpa using h1
        have k2 : (et == x) = false := by simpa using h2
        rw [if_pos h1, if_neg h2, List.append_nil] at HSU
        clear h1 h2
        go_wp2_with (at_builtin; (refine wpList_append1 cSt elStF rfl _ _ rfl W0.heap.size _ (fromTo g x i) (eid, false) _ 1 _ (by rfl) HROW.out (by rfl) rfl rfl rfl (cSt_one _) (by omega) (by omega) hsz ?_); intro v' w4 hrow' hb4 _ _; have HR4 := Lib.hid hrow'; clear hrow'; have q2 := (hb4.cell (p := ⟨b, o + i * 4 + 2, none⟩) (by simp only; omega)).trans q2; have x0 := (hb4.cell (p := ⟨w.heap.size, 1, none⟩) (by simp only; omega)).trans x0)
        go_roundw
        case rel => exact ⟨i + 1, by omega, by go_num, by rw [HSU.out]; exact HR4.out, hbel.trans hb4⟩
        case measure => simp [intOf]; omega
      · have k1 : (ef == x) = false := by simpa using h1
        have k2 : (et == x) = true := by simpa using h2
        rw [if_neg h1, if_pos h2, List.append_nil] at HSU
        clear h1 h2
        go_wp2_with (at_builtin; (refine wpList_append1 cSt elStF rfl _ _ rfl W0.heap.size _ (fromTo g x i) (eid, true) _ 1 _ (by rfl) HROW.out (by rfl) rfl rfl rfl (cSt_one _) (by omega) (by omega) hsz ?_); intro v' w4 hrow' hb4 _ _)
        go_roundw
        case rel => exact ⟨i + 1, by omega, by go_num, by rw [HSU.out]; exact hrow', hbel.trans hb4⟩
        case measure => simp [intOf]; omega
      · have k1 : (ef == x) = false := by simpa using h1
        have k2 : (et == x) = false := by simpa using h2
        rw [if_neg h1, if_neg h2, List.append_nil, List.append_nil] at HSU
        clear h1 h2
        go_wp2_with fail
        go_roundw
        case rel => exact ⟨i + 1, by omega, by go_num, by rw [HSU.out]; exact HROW.out, hbel⟩
        case measure => simp [intOf]; omega
    · obtain rfl : i = g.edges.length := by omega
      have hall : fromTo g x g.edges.length = R := by rw [HR.out, fromTo, List.take_length]; rfl
      have hown := Own.of_row (xs := fromTo g x g.edges.length) (ownsRow_mono HROW.out hb0.size) rfl rfl
      rw [hall] at hown
      have HO := Lib.hid hown
      clear hown hall
      go_wp2_with fail
      go_ret
      exact ⟨_, rfl, HO.out, below_trans hb0 hbel⟩
end Go.Proofs.Ytlhpcknpjdeebaa

/- A region that draws its order: loads come first under a condition S that is asked before its last operations alone (a store to a cell that the region loads). Over any program. -/
namespace Go.Proofs.Ytlhpcknpjdeebaa
set_option linter.unusedVariables false
set_option linter.unusedSimpArgs false
open Go.RowKit

section
variable {P : Program} {ops : Array Oper} {Q : Exit → Act → World → Prop} {md : Region.Mode} {S : World → Prop} {n : Nat}

/-- whatever order is picked; S holds behind each operation below n -/
def wpAnyF (P : Program) (md : Region.Mode) (ops : Array Oper) (Q : Exit → Act → World → Prop) (S : World → Prop) (n : Nat) : Nat → Array Bool → Act → World → Prop
  | 0, listed, a, w => Region.ready md ops listed = [] ∧ Q .normal a w
  | f + 1, listed, a, w => (Region.ready md ops listed = [] → Q .normal a w) ∧
    ∀ i ∈ Region.ready md ops listed, wpOp P ops Q i (fun a' w' => (i < n → S w') ∧ wpAnyF P md ops Q S n f (listed.setIfInBounds i true) a' w') a w
theorem F_any : ∀ (f : Nat) (listed : Array Bool) (a : Act) (w : World), wpAnyF P md ops Q S n f listed a w → wpAny P md ops Q f listed a w
  | 0, _, _, _, h => h
  | f + 1, _, _, _, h => ⟨h.1, fun i hi => wpOp_mono (fun _ _ h' => F_any f _ _ _ h'.2) (h.2 i hi)⟩
theorem F_first {i : Nat} {oi : Oper} {v : Value} (hi : ops[i]? = some oi) (hsel : ∀ (j : Nat) (o : Oper) cs b, ops[j]? = some o → o.op ≠ .select cs b) (hQ : ∀ c a w, Q (.panic c) (a.put oi.dst v) w → Q (.panic c) a w)
    (hs : Region.sinkB md ops n = true) (hc : Region.chainB md ops n = true) (hn : n < ops.size) (hin : i < n) : ∀ (f : Nat) (listed : Array Bool) (a : Act) (w : World), HeadInv md ops n listed →
      (∀ j oj, ops[j]? = some oj → j ≠ i → listed.getD j true = false → (∀ e ∈ oj.after, Region.binds md e = true → e.on ≠ i) → oi.apart ops oj = true) →
      i ∈ Region.ready md ops listed → YieldsIf P ops S oi v a → S w →
      wpAnyF P md ops Q S n f (listed.setIfInBounds i true) (a.put oi.dst v) w → wpAnyF P md ops Q S n (f + 1) listed a w := by
  intro f
  induction f with
  | zero =>
    intro listed a w inv _ hr hy hS H
    have hun := (mem_ready.1 hr).1
    refine ⟨fun h => (by rw [h] at hr; cases hr), fun j hj => ?_⟩
    by_cases hji : j = i
    · subst hji; exact hy.wpOp hi hS ⟨fun _ => hS, H⟩
    · have := ready_mono hj hji
      rw [H.1] at this
      cases this
  | succ f ih =>
    intro listed a w inv hfree hr hy hS H
    have hun := (mem_ready.1 hr).1
    refine ⟨fun h => (by rw [h] at hr; cases hr), fun j hj => ?_⟩
    have hjn : j < n := by
      rcases Nat.lt_or_ge j n with h | h
      · exact h
      · exact absurd hj (tail_waits hs hc hn inv _ i rfl hin hun j h)
    by_cases hji : j = i
    · subst hji; exact hy.wpOp hi hS ⟨fun _ => hS, H⟩
    · have h1 := H.2 j (ready_mono hj hji)
      obtain ⟨hjun, oj, hoj, hall⟩ := mem_ready.1 hj
      have hnot : ∀ e ∈ oj.after, Region.binds md e = true → e.on ≠ i := fun e he hb heq => by
        have h1 := hall e he hb
        rw [heq, getD_both hun] at h1
        cases h1
      have h2 := wpOp_putIf hoj (hfree j oj hoj hji hjun hnot) (fun cs b => hsel i oi cs b hi) (fun cs b => hsel j oj cs b hoj) hQ hy h1
      have hfree' : ∀ k ok, ops[k]? = some ok → k ≠ i → (listed.setIfInBounds j true).getD k true = false → (∀ e ∈ ok.after, Region.binds md e = true → e.on ≠ i) → oi.apart ops ok = true := fun k ok hk hki hun hno => by
        refine hfree k ok hk hki ?_ hno
        by_cases hjk : j = k
        · subst hjk; exact hjun
        · rw [getD_set_ne true hjk] at hun; exact hun
      refine wpOp_mono (fun a' w' h3 => ⟨h3.2.1, ih (listed.setIfInBounds j true) a' w' (inv.set hj hjn) hfree' (ready_mono hr (Ne.symm hji)) h3.1 (h3.2.1 hjn) ?_⟩) h2
      rw [Array.setIfInBounds_comm _ _ hji]
      exact h3.2.2
theorem F_take {i : Nat} {oi : Oper} {v : Value} {f : Nat} {listed : Array Bool} {a : Act} {w : World} (hi : ops[i]? = some oi) (hB : (Region.noSelect ops && Region.sinkB md ops n && Region.chainB md ops n && decide (n < ops.size) && decide (i < n)) = true)
    (hf : Region.free md ops listed i = true) (hr : (Region.ready md ops listed).contains i = true) (hQ : ∀ c a w, Q (.panic c) (a.put oi.dst v) w → Q (.panic c) a w) (inv : HeadInv md ops n listed) (hy : YieldsIf P ops S oi v a) (hS : S w)
    (h : HeadInv md ops n (listed.setIfInBounds i true) → wpAnyF P md ops Q S n f (listed.setIfInBounds i true) (a.put oi.dst v) w) : wpAnyF P md ops Q S n (f + 1) listed a w := by
  simp only [Bool.and_eq_true, decide_eq_true_eq] at hB
  obtain ⟨⟨⟨⟨h1, h2⟩, h3⟩, h4⟩, h5⟩ := hB
  have hr' : i ∈ Region.ready md ops listed := by simpa using hr
  exact F_first hi (Region.noSelect_spec h1) hQ h2 h3 h4 h5 f listed a w inv (Region.free_spec hi hf) hr' hy hS (h (inv.set hr' h5))
/-- the only one that may come up: an operation below n -/
theorem F_one {i : Nat} {oi : Oper} {f : Nat} {listed : Array Bool} {a : Act} {w : World} (hr : Region.ready md ops listed = [i]) (hi : ops[i]? = some oi) (hg : oi.guard = none) (hin : i < n) (inv : HeadInv md ops n listed)
    (h : ∀ K : Act → World → Prop, Shut (∀ a' w', S w' → (S w' → HeadInv md ops n (listed.setIfInBounds i true) → wpAnyF P md ops Q S n f (listed.setIfInBounds i true) a' w') → K a' w') → Oper.wp P oi a w K Q) : wpAnyF P md ops Q S n (f + 1) listed a w := by
  refine ⟨fun h0 => (by rw [hr] at h0; cases h0), fun j hj => ?_⟩
  have hj2 := hj
  rw [hr] at hj2
  obtain rfl : j = i := by simpa using hj2
  have hw : Region.wanted oi (yielded ops a.tmps) = true := by simp [Region.wanted, hg]
  unfold wpOp
  simp only [hi, hw, if_true]
  exact .inl (h _ (fun a' w' hS hF => ⟨fun _ => hS, hF hS (inv.set hj hin)⟩))
/-- the last one -/
theorem F_last {i : Nat} {oi : Oper} {f : Nat} {listed : Array Bool} {a : Act} {w : World} (hr : Region.ready md ops listed = [i]) (hi : ops[i]? = some oi) (hg : oi.guard = none) (hin : n ≤ i) (he : Region.ready md ops (listed.setIfInBounds i true) = [])
    (h : ∀ K : Act → World → Prop, (∀ a' w', Q .normal a' w' → K a' w') → Oper.wp P oi a w K Q) : wpAnyF P md ops Q S n (f + 1) listed a w := by
  refine ⟨fun h0 => (by rw [hr] at h0; cases h0), fun j hj => ?_⟩
  rw [hr] at hj
  obtain rfl : j = i := by simpa using hj
  have hw : Region.wanted oi (yielded ops a.tmps) = true := by simp [Region.wanted, hg]
  unfold wpOp
  simp only [hi, hw, if_true]
  refine .inl (h _ (fun a' w' hq => ⟨fun h => absurd h (by omega), ?_⟩))
  cases f with
  | zero => exact ⟨he, hq⟩
  | succ f => exact ⟨fun _ => hq, by rw [he]; simp⟩
/-- two that may come up -/
theorem F_two {i j : Nat} {oi oj : Oper} {f : Nat} {listed : Array Bool} {a : Act} {w : World} (hr : Region.ready md ops listed = [i, j]) (hi : ops[i]? = some oi) (hj : ops[j]? = some oj) (hgi : oi.guard = none) (hgj : oj.guard = none) (hin : i < n ∧ j < n) (inv : HeadInv md ops n listed)
    (h1 : ∀ K : Act → World → Prop, Shut (∀ a' w', S w' → (S w' → HeadInv md ops n (listed.setIfInBounds i true) → wpAnyF P md ops Q S n f (listed.setIfInBounds i true) a' w') → K a' w') → Oper.wp P oi a w K Q)
    (h2 : ∀ K : Act → World → Prop, Shut (∀ a' w', S w' → (S w' → HeadInv md ops n (listed.setIfInBounds j true) → wpAnyF P md ops Q S n f (listed.setIfInBounds j true) a' w') → K a' w') → Oper.wp P oj a w K Q) : wpAnyF P md ops Q S n (f + 1) listed a w := by
  refine ⟨fun h0 => (by rw [hr] at h0; cases h0), fun k hk => ?_⟩
  have hk2 := hk
  rw [hr] at hk2
  simp only [List.mem_cons, List.not_mem_nil, or_false] at hk2
  rcases hk2 with rfl | rfl
  · have hw : Region.wanted oi (yielded ops a.tmps) = true := by simp [Region.wanted, hgi]
    unfold wpOp
    simp only [hi, hw, if_true]
    exact .inl (h1 _ (fun a' w' hS hF => ⟨fun _ => hS, hF hS (inv.set hk hin.1)⟩))
  · have hw : Region.wanted oj (yielded ops a.tmps) = true := by simp [Region.wanted, hgj]
    unfold wpOp
    simp only [hj, hw, if_true]
    exact .inl (h2 _ (fun a' w' hS hF => ⟨fun _ => hS, hF hS (inv.set hk hin.2)⟩))
/-- one of the chain at the end, not the last -/
theorem F_tail {i : Nat} {oi : Oper} {f : Nat} {listed : Array Bool} {a : Act} {w : World} (hr : Region.ready md ops listed = [i]) (hi : ops[i]? = some oi) (hg : oi.guard = none) (hin : n ≤ i)
    (h : ∀ K : Act → World → Prop, Shut (∀ a' w', wpAnyF P md ops Q S n f (listed.setIfInBounds i true) a' w' → K a' w') → Oper.wp P oi a w K Q) : wpAnyF P md ops Q S n (f + 1) listed a w := by
  refine ⟨fun h0 => (by rw [hr] at h0; cases h0), fun j hj => ?_⟩
  rw [hr] at hj
  obtain rfl : j = i := by simpa using hj
  have hw : Region.wanted oi (yielded ops a.tmps) = true := by simp [Region.wanted, hg]
  unfold wpOp
  simp only [hi, hw, if_true]
  exact .inl (h _ (fun a' w' hF => ⟨fun hlt => absurd hlt (by omega), hF⟩))
theorem F_start {id : Nat} {a : Act} {w : World} (n : Nat) (S : World → Prop) (hm : P.follows .mixedOrders = true) (hS : S w.drew)
    (h : S w.drew → HeadInv .any ops n (Array.replicate ops.size false) → wpAnyF P .any ops Q S n ops.size (Array.replicate ops.size false) a w.drew) : (Code.region id ops true).wp P Q a w :=
  wp_region_any hm (F_any _ _ _ _ (h hS ⟨by simp, fun j oj _ hl => (by rw [getD_replicate_false] at hl; cases hl), fun t _ ht => getD_in (by simpa using ht) (getD_replicate_false _ _)⟩))

/-- append(s, x): as an operation by itself; the one element lies in block H -/
theorem op_append1 {w : World} {α : Type} (E : α → List Value) {o : Oper} {a : Act} {K : Act → World → Prop} {t e : TypeId} {z : Value} {k bytes : Nat} (el : ElemOk P t e z k bytes) (hgd : o.guard = none) (s y : Operand)
    (ho : o.op = .call { callee := .builtin .append, args := #[s, y], argTypes := #[t, t] })
    (base : Nat) (v : Value) (xs : List α) (x : α) (c H : Nat) (hs : a.eval s = v) (hown : w.ownsRow base e k v xs.length (xs.flatMap E)) (hy : a.eval y = .slice (some ⟨H, 0, none⟩) 1 c)
    (hH : w.heap[H]? = some (.cells (E x).toArray e (0, 0))) (hE : (E x).length = k) (h1 : ∀ u ∈ E x, u.oneCell' = true) (hbytes : (xs.length + 1) * bytes ≤ 140737488355328) (hb0 : 0 < bytes) (hbase : base ≤ w.heap.size)
    (h : ∀ g cap w', w'.ownsRow base e k (.slice (some ⟨g, 0, none⟩) (xs.length + 1) cap) (xs ++ [x]).length ((xs ++ [x]).flatMap E) → w.grownBy w' v.ownBlock → (v.ownBlock = some g ∨ w.heap.size ≤ g) → g < w'.heap.size →
      K (a.put o.dst (.slice (some ⟨g, 0, none⟩) (xs.length + 1) cap)) w') : Oper.wp P o a w K Q := by
  have h2 := step_append1 (ops := #[]) (EE := True) (Q := Q) (K := K) E el hgd s y ho base v xs x c H hs hown hy hH hE h1 hbytes hb0 hbase h
  have hw : Region.wanted o (yielded #[] a.tmps) = true := by simp [Region.wanted, hgd]
  rwa [if_pos hw] at h2
/-- the same at the head of a list of operations -/
theorem wpList_append2 {w : World} {α : Type} (E : α → List Value) {rest : List Oper} {o : Oper} {a : Act} {t e : TypeId} {z : Value} {k bytes : Nat} (el : ElemOk P t e z k bytes) (hgd : o.guard = none) (s y : Operand)
    (ho : o.op = .call { callee := .builtin .append, args := #[s, y], argTypes := #[t, t] })
    (base : Nat) (v : Value) (xs : List α) (x : α) (c H : Nat) (hs : a.eval s = v) (hown : w.ownsRow base e k v xs.length (xs.flatMap E)) (hy : a.eval y = .slice (some ⟨H, 0, none⟩) 1 c)
    (hH : w.heap[H]? = some (.cells (E x).toArray e (0, 0))) (hE : (E x).length = k) (h1 : ∀ u ∈ E x, u.oneCell' = true) (hbytes : (xs.length + 1) * bytes ≤ 140737488355328) (hb0 : 0 < bytes) (hbase : base ≤ w.heap.size)
    (h : ∀ g cap w', w'.ownsRow base e k (.slice (some ⟨g, 0, none⟩) (xs.length + 1) cap) (xs ++ [x]).length ((xs ++ [x]).flatMap E) → w.grownBy w' v.ownBlock → (v.ownBlock = some g ∨ w.heap.size ≤ g) → g < w'.heap.size →
      wpList P ops Q rest (a.put o.dst (.slice (some ⟨g, 0, none⟩) (xs.length + 1) cap)) w') : wpList P ops Q (o :: rest) a w :=
  wpList_plain hgd fun _ hK => op_append1 E el hgd s y ho base v xs x c H hs hown hy hH hE h1 hbytes hb0 hbase fun g cap w' h2 h3 h4 h5 => hK _ _ (h g cap w' h2 h3 h4 h5)
end
end Go.Proofs.Ytlhpcknpjdeebaa

