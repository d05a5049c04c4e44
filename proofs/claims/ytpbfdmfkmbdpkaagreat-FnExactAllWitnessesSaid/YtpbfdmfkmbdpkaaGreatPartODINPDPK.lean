/- Parts of the proof, joined into one text: GraphI, BothI, ArcM, ProdI. -/
import Derived.Test.YtpbfdmfkmbdpkaaGreatPartPBJACGOB
import Derived.Test.YtpbfdmfkmbdpkaaGreatPartBPNIFNNL
import Derived.Test.YtpbfdmfkmbdpkaaGreatPartCPHKMOBB
import Derived.Test.YtpbfdmfkmbdpkaaGreatPartHJLKGLGC
/- The program's functions on graphs: validity, edges, steps. -/
namespace Go.Proofs.YtpbfdmfkmbdpkaaGreat
set_option linter.unusedVariables false
set_option linter.unusedSimpArgs false
open Go.ChangeShapes Go.WideShapes Go.ChangeAt Go.RowKit
attribute [local go_sem] ext_cell ext_frozen ext_lt ext_lt1 ext_lt2 ext_lt3 ltn2 ltn3 ltn13 lts1 lts2 lts3

set_option maxHeartbeats 1000000 in
theorem edgeOk_any (e : Ed) (n : Nat) (w : World) (hn : n ≤ 9223372036854775807) :
    Calls Tryz.prog 115 #[.agg #[.int .i64 e.1, .int .i64 e.2.1, .int .i64 e.2.2.1, .int .i64 e.2.2.2], .int .i64 (n : Int)] w fun en w' => en = .returned (.bool (edOk n e)) ∧ Below w.heap.size w w' := by
  obtain ⟨a, b, c, d⟩ := e
  have HW := Lib.hid within_any
  unfold edOk
  simp only
  have hb0 : Below w.heap.size w (w.alloc (.cells #[.int .i64 a, .int .i64 b, .int .i64 c, .int .i64 d] 89)) := (Below.refl _ _).alloc (Nat.le_refl _) _
  cases g1 : wi a 1 99 with
  | false =>
    have HZ := Lib.hid g1
    go_enter Tryz.func115, Tryz.ntmps115
    go_wp2_with (go_at_call 69; refine (HW.out _ _ _ _).mono ?_; rintro e w' ⟨rfl, rfl⟩)
    go_ret
    exact ⟨rfl, hb0⟩
  | true =>
    cases g2 : wi b 0 ((n : Int) - 1) with
    | false =>
      go_enter Tryz.func115, Tryz.ntmps115
      go_wp2_with (go_at_call 69; refine (HW.out _ _ _ _).mono ?_; rintro e w' ⟨rfl, rfl⟩)
      go_ret
      exact ⟨rfl, hb0⟩
    | true =>
      cases g3 : wi c 0 ((n : Int) - 1) with
      | false =>
        go_enter Tryz.func115, Tryz.ntmps115
        go_wp2_with (go_at_call 69; refine (HW.out _ _ _ _).mono ?_; rintro e w' ⟨rfl, rfl⟩)
        go_ret
        exact ⟨rfl, hb0⟩
      | true =>
        go_enter Tryz.func115, Tryz.ntmps115
        go_wp2_with (go_at_call 69; refine (HW.out _ _ _ _).mono ?_; rintro e w' ⟨rfl, rfl⟩)
        go_ret
        exact ⟨rfl, hb0⟩

set_option maxHeartbeats 2000000 in
theorem implValidGraph (v : Value) (g : Gr) (w : World) (hv : GrV 0 w.heap.size w v g) :
    Calls Tryz.prog 90 #[v] w fun e w' => e = .returned (.bool (grOk g)) ∧ Below w.heap.size w w' := by
  obtain ⟨vs, es, rfl, ⟨A1, c1, rfl, hl1, hm1, hx1⟩, ⟨A2, c2, rfl, hl2, hm2, hx2⟩⟩ := hv
  unfold maxLen at hm1 hm2
  have hb0 : Below w.heap.size w (w.alloc (.cells #[.slice A1 g.vals.length c1, .slice A2 g.edges.length c2] 36)) := (Below.refl _ _).alloc (Nat.le_refl _) _
  have HW := Lib.hid within_any
  have HX1 := Lib.hid hx1
  have HX2 := Lib.hid hx2
  clear hx1 hx2
  go_enter Tryz.func90, Tryz.ntmps90
  go_wp2_with fail
  go_loop [14] (fun ii => ∃ i : Nat, i ≤ g.vals.length ∧ ii = .int .i64 i ∧ (g.vals.take i).all (fun v => wi v 0 2) = true) (fun ii => g.vals.length - (intOf ii).toNat)
  case atStart => exact ⟨0, Nat.zero_le _, rfl, rfl⟩
  case round =>
    obtain ⟨i, hi, rfl, hall⟩ := hrel
    have HA := Lib.hid hall
    clear hall
    by_cases hlt : i < g.vals.length
    · have hxi : g.vals[i]? = some g.vals[i] := List.getElem?_eq_getElem hlt
      obtain ⟨b, o, rfl, -, hb1, hc⟩ := HX1.out i _ hxi
      generalize g.vals[i] = x at hc hxi
      have c0 := hc 0 _ rfl
      simp only [Nat.mul_one, Nat.add_zero] at c0
      have HX := Lib.hid hxi
      clear hc hxi
      cases g4 : wi x 0 2 with
      | true =>
        have G4 := Lib.hid g4
        go_wp2_with (go_at_call 69; refine (HW.out _ _ _ _).mono ?_; rintro e w' ⟨rfl, rfl⟩)
        go_round
        case rel => exact ⟨i + 1, by omega, by go_num, all_take_succ HX.out HA.out G4.out⟩
        case measure => simp [intOf]; omega
      | false =>
        have hfin : grOk g = false := by
          rw [grOk, all_false_of HX.out g4]
          rfl
        have HF := Lib.hid hfin
        clear hfin
        go_wp2_with (go_at_call 69; refine (HW.out _ _ _ _).mono ?_; rintro e w' ⟨rfl, rfl⟩)
        go_ret
        exact ⟨by rw [HF.out]; rfl, hb0⟩
    · obtain rfl : i = g.vals.length := by omega
      have hallv : g.vals.all (fun v => wi v 0 2) = true := by have := HA.out; rwa [List.take_length] at this
      have HV := Lib.hid hallv
      clear hallv HA
      go_wp2_with fail
      go_loopw [25] (fun ii wr => ∃ (i : Nat) (u : World), i ≤ g.edges.length ∧ ii = .int .i64 i ∧ (List.range i).all (edAt g.vals.length g.edges) = true ∧ wr = ext (w.alloc (.cells #[.slice A1 g.vals.length c1, .slice A2 g.edges.length c2] 36)) u) (fun ii _ => g.edges.length - (intOf ii).toNat)
      case atStart => exact ⟨0, _, Nat.zero_le _, rfl, rfl, ext_self _⟩
      case round =>
        obtain ⟨i, u, hi, rfl, hall, rfl⟩ := hrel
        have HA := Lib.hid hall
        clear hall
        by_cases hlt : i < g.edges.length
        · have hxi : g.edges[i]? = some g.edges[i] := List.getElem?_eq_getElem hlt
          obtain ⟨b, o', rfl, -, hb1, hc⟩ := HX2.out i _ hxi
          generalize g.edges[i] = x at hc hxi
          have c0 := hc 0 _ rfl
          have c1' := hc 1 _ rfl
          have c2' := hc 2 _ rfl
          have c3 := hc 3 _ rfl
          simp only [Nat.add_zero] at c0
          have HX := Lib.hid hxi
          have hlen : g.vals.length ≤ 9223372036854775807 := by omega
          clear hc hxi
          have hgr : grOk g = ((List.range g.edges.length).all (edAt g.vals.length g.edges) && wi g.vals.length 1 5 && decide (g.edges.length ≤ 12)) := by
            rw [grOk, HV.out]; rfl
          have HGR := Lib.hid hgr
          clear hgr
          cases g4 : edOk g.vals.length x with
          | false =>
            have hfin : grOk g = false := by
              rw [HGR.out, range_all_false hlt (by rw [edAt, HX.out]; simp [g4])]
              rfl
            have HF := Lib.hid hfin
            clear hfin
            go_wp2_with fail
            refine wp_region_ext_lit (by kernel_rfl) (by kernel_rfl) ?_
            repeat (go_big_quiet_step ((go_at_call 115; exact Calls.ext_of (edgeOk_any x g.vals.length _ hlen))))
            refine wpQuiet_nil ?_
            intro _ hw'
            obtain ⟨u2, hw''⟩ := hw'
            subst hw''
            go_wp2_with fail
            go_ret
            exact ⟨by rw [HF.out]; rfl, below_trans hb0 (below_trans (ext_below _ _) (below_trans ((Below.refl _ _).alloc (Nat.le_refl _) _) (ext_below _ _)))⟩
          | true =>
            have G4 := Lib.hid g4
            have hbx : ∀ o u2, ∃ z, ext ((ext (w.alloc (.cells #[.slice A1 g.vals.length c1, .slice (some ⟨b, o', none⟩) g.edges.length c2] 36)) u).alloc o) u2 = ext (w.alloc (.cells #[.slice A1 g.vals.length c1, .slice (some ⟨b, o', none⟩) g.edges.length c2] 36)) z :=
              fun o u2 => ext_of (below_trans (ext_below _ _) (below_trans ((Below.refl _ _).alloc (Nat.le_refl _) _) (ext_below _ _)))
            by_cases hi0 : i = 0
            · subst hi0
              have hat : edAt g.vals.length g.edges 0 = true := by rw [edAt, HX.out]; simp [G4.out]
              have HAT := Lib.hid hat
              clear hat
              simp only [Nat.zero_mul, Nat.add_zero, Nat.zero_add] at c0 c1' c2' c3
              go_wp2_with fail
              refine wp_region_ext_lit (by kernel_rfl) (by kernel_rfl) ?_
              repeat (go_big_quiet_step ((go_at_call 115; exact Calls.ext_of (edgeOk_any x g.vals.length _ hlen))))
              refine wpQuiet_nil ?_
              intro _ hw'
              obtain ⟨u2, hw''⟩ := hw'
              subst hw''
              go_wp2_with fail
              go_roundw
              case rel =>
                obtain ⟨z, hz⟩ := hbx _ u2
                exact ⟨1, z, by omega, by go_num, range_all_succ HA.out HAT.out, hz⟩
              case measure => simp [intOf]; omega
            · have hi1 : 0 < i := by omega
              have hxj : g.edges[i - 1]? = some g.edges[i - 1] := List.getElem?_eq_getElem (by omega)
              obtain ⟨b9, o9, ho9, -, -, hcj⟩ := HX2.out (i - 1) _ hxj
              obtain ⟨rfl, rfl⟩ : b = b9 ∧ o' = o9 := by injection ho9 with h1; injection h1 with h1 h2; exact ⟨h1, h2⟩
              generalize g.edges[i - 1] = p at hcj hxj
              have hb1' : b < w.heap.size + 1 := by omega
              have p0 := hcj 0 _ rfl
              simp only [Nat.add_zero] at p0
              have HXJ := Lib.hid hxj
              have hi00 : ((i : Int) > 0) := by omega
              clear hcj hxj ho9
              by_cases hlt2 : p.1 < x.1
              · have hat : edAt g.vals.length g.edges i = true := by rw [edAt, HX.out]; simp [G4.out, HXJ.out, hlt2]
                have hge : decide (p.1 ≥ x.1) = false := by simp; omega
                have HAT := Lib.hid hat
                clear hat
                go_wp2_with fail
                have q1 : IntKind.i64.wrap ((i : Int) - 1) = (i : Int) - 1 := IntWalk.i64_in _ (by omega)
                have q2 : 0 ≤ (i : Int) - 1 := by omega
                have q3 : (i : Int) - 1 < (g.edges.length : Int) := by omega
                have q4 : ((i : Int) - 1).toNat = i - 1 := by omega
                refine wp_region_ext_lit (by kernel_rfl) (by kernel_rfl) ?_
                repeat (go_big_quiet_step ((go_at_call 115; exact Calls.ext_of (edgeOk_any x g.vals.length _ hlen))))
                refine wpQuiet_nil ?_
                intro _ hw'
                obtain ⟨u2, hw''⟩ := hw'
                subst hw''
                clear q1 q2 q3 q4
                go_wp2_with fail
                go_roundw
                case rel =>
                  obtain ⟨z, hz⟩ := hbx _ u2
                  exact ⟨i + 1, z, by omega, by go_num, range_all_succ HA.out HAT.out, hz⟩
                case measure => simp [intOf]; omega
              · have hfin : grOk g = false := by
                  rw [HGR.out, range_all_false hlt (by rw [edAt, HX.out]; simp [G4.out, HXJ.out, hi0]; omega)]
                  rfl
                have hge : decide (p.1 ≥ x.1) = true := by simp; omega
                have HF := Lib.hid hfin
                clear hfin
                go_wp2_with fail
                have q1 : IntKind.i64.wrap ((i : Int) - 1) = (i : Int) - 1 := IntWalk.i64_in _ (by omega)
                have q2 : 0 ≤ (i : Int) - 1 := by omega
                have q3 : (i : Int) - 1 < (g.edges.length : Int) := by omega
                have q4 : ((i : Int) - 1).toNat = i - 1 := by omega
                refine wp_region_ext_lit (by kernel_rfl) (by kernel_rfl) ?_
                repeat (go_big_quiet_step ((go_at_call 115; exact Calls.ext_of (edgeOk_any x g.vals.length _ hlen))))
                refine wpQuiet_nil ?_
                intro _ hw'
                obtain ⟨u2, hw''⟩ := hw'
                subst hw''
                clear q1 q2 q3 q4
                go_wp2_with fail
                go_ret
                exact ⟨by rw [HF.out]; rfl, below_trans hb0 (below_trans (ext_below _ _) (below_trans ((Below.refl _ _).alloc (Nat.le_refl _) _) (ext_below _ _)))⟩
        · obtain rfl : i = g.edges.length := by omega
          have hgr : grOk g = (wi g.vals.length 1 5 && decide (g.edges.length ≤ 12)) := by
            rw [grOk, HV.out, HA.out]; rfl
          have HGR := Lib.hid hgr
          clear hgr HA HV
          cases g5 : wi g.vals.length 1 5 with
          | false =>
            rw [g5] at HGR
            go_wp2_with (go_at_call 69; refine (HW.out _ _ _ _).mono ?_; rintro e w' ⟨rfl, rfl⟩)
            go_ret
            exact ⟨by rw [HGR.out]; rfl, below_trans hb0 (ext_below _ _)⟩
          | true =>
            rw [g5] at HGR
            have HG5 := Lib.hid g5
            by_cases g6 : g.edges.length ≤ 12
            · have g6' : decide ((g.edges.length : Int) ≤ 12) = true := by simp; omega
              have hfin : grOk g = true := by rw [HGR.out]; simp [g6]
              have HF := Lib.hid hfin
              clear hfin HGR
              go_wp2_with (go_at_call 69; refine (HW.out _ _ _ _).mono ?_; rintro e w' ⟨rfl, rfl⟩)
              go_ret
              exact ⟨by rw [HF.out]; rfl, below_trans hb0 (ext_below _ _)⟩
            · have g6' : decide ((g.edges.length : Int) ≤ 12) = false := by simp; omega
              have hfin : grOk g = false := by rw [HGR.out]; simp [g6]
              have HF := Lib.hid hfin
              clear hfin HGR
              go_wp2_with (go_at_call 69; refine (HW.out _ _ _ _).mono ?_; rintro e w' ⟨rfl, rfl⟩)
              go_ret
              exact ⟨by rw [HF.out]; rfl, below_trans hb0 (ext_below _ _)⟩

end Go.Proofs.YtpbfdmfkmbdpkaaGreat

/- The program's bothOk: a graph, an automaton and nodes are valid. -/
namespace Go.Proofs.YtpbfdmfkmbdpkaaGreat
set_option linter.unusedVariables false
set_option linter.unusedSimpArgs false
open Go.ChangeShapes Go.WideShapes Go.ChangeAt Go.RowKit
attribute [local go_sem] ext_cell ext_frozen ext_lt ext_lt1 ext_lt2 ext_lt3 ltn2 ltn3 ltn13 lts1 lts2 lts3

set_option maxHeartbeats 1000000 in
theorem bothOk_any (vg va lv : Value) (g : Gr) (a : Au) (ss : List Int) (w : World) (hg : GrV 0 w.heap.size w vg g) (ha : AuV 0 w.heap.size w va a) (hl : SlE w cI 1 lv ss) :
    Calls Tryz.prog 61 #[vg, va, lv] w fun e w' => e = .returned (.bool (ss.all (fun s => wi s 0 ((g.vals.length : Int) - 1)) && (grOk g && auOk a))) ∧ Below w.heap.size w w' := by
  have hg0 := hg
  have ha0 := ha
  obtain ⟨A1, c1, A2, c2, rfl, hl1, hm1, -, -, -, -⟩ := hg.form
  obtain ⟨A3, n3, c3, A4, n4, c4, rfl⟩ := ha.shape
  obtain ⟨A5, c5, rfl, hl5, hm5, hC5⟩ := hl.form
  have HG := Lib.hid hg0
  have HA := Lib.hid ha0
  have HC5 := Lib.hid hC5
  have HW := Lib.hid within_any
  have hb0 : Below w.heap.size w ((w.alloc (.cells #[.slice A1 g.vals.length c1, .slice A2 g.edges.length c2] 36)).alloc (.cells #[.int .i64 a.start, .slice A3 n3 c3, .slice A4 n4 c4] 38)) := ((Below.refl _ _).alloc (Nat.le_refl _) _).alloc (by simp) _
  clear hg ha hl hg0 ha0 hC5
  go_enter Tryz.func61, Tryz.ntmps61
  go_wp2_with fail
  go_loop [11] (fun ii => ∃ i : Nat, i ≤ ss.length ∧ ii = .int .i64 i ∧ (ss.take i).all (fun s => wi s 0 ((g.vals.length : Int) - 1)) = true) (fun ii => ss.length - (intOf ii).toNat)
  case atStart => exact ⟨0, Nat.zero_le _, rfl, rfl⟩
  case round =>
    obtain ⟨i, hi, rfl, hall⟩ := hrel
    have HALL := Lib.hid hall
    clear hall
    by_cases hlt : i < ss.length
    · have hxi : ss[i]? = some ss[i] := List.getElem?_eq_getElem hlt
      generalize ss[i] = s at hxi
      obtain ⟨b, o, rfl, hb1, c0⟩ := HC5.out.int hxi
      have HX := Lib.hid hxi
      clear hxi
      by_cases g4 : wi s 0 ((g.vals.length : Int) - 1) = true
      · go_wp2_with (go_at_call 69; refine (HW.out _ _ _ _).mono ?_; rintro e w' ⟨rfl, rfl⟩)
        go_round
        case rel => exact ⟨i + 1, by omega, by go_num, all_take_succ HX.out HALL.out g4⟩
        case measure => simp [intOf]; omega
      · simp only [Bool.not_eq_true] at g4
        have hfin : ss.all (fun s => wi s 0 ((g.vals.length : Int) - 1)) = false := all_false_of HX.out g4
        have HF := Lib.hid hfin
        clear hfin
        go_wp2_with (go_at_call 69; refine (HW.out _ _ _ _).mono ?_; rintro e w' ⟨rfl, rfl⟩)
        go_ret
        exact ⟨by rw [HF.out]; rfl, hb0⟩
    · obtain rfl : i = ss.length := by omega
      have hfin : ss.all (fun s => wi s 0 ((g.vals.length : Int) - 1)) = true := by have := HALL.out; rwa [List.take_length] at this
      have HF := Lib.hid hfin
      clear hfin
      go_wp2_with fail
      refine (implValidGraph _ g _ (HG.out.keep hb0)).mono ?_
      rintro e w1 ⟨he, hb1⟩
      obtain ⟨u1, rfl⟩ := ext_of hb1
      have hb2 := below_trans hb0 hb1
      clear hb1
      subst he
      cases hgo : grOk g with
      | false =>
        have HGO := Lib.hid hgo
        clear hgo
        go_wp2_with fail
        go_ret
        exact ⟨by rw [HF.out, HGO.out]; rfl, hb2⟩
      | true =>
        have HGO := Lib.hid hgo
        clear hgo
        go_wp2_with fail
        refine (implValidAutomaton _ a _ (HA.out.keep hb2)).mono ?_
        rintro e w2 ⟨rfl, hb3⟩
        go_wp2_with fail
        go_ret
        exact ⟨by rw [HF.out, HGO.out]; rfl, below_trans hb2 hb3⟩
end Go.Proofs.YtpbfdmfkmbdpkaaGreat

/- Plain: the rows of arcs, edge by edge. -/
namespace Go.Proofs.YtpbfdmfkmbdpkaaGreat
set_option linter.unusedVariables false
set_option linter.unusedSimpArgs false
/-- the arcs of all nodes by the first i edges -/
def rowsTo (g : Gr) (i : Nat) : List (List Arc) := (List.range g.vals.length).map fun (x : Nat) => (g.edges.take i).flatMap (arcE (x : Int))
theorem rowsTo_at {g : Gr} {i x : Nat} (h : x < g.vals.length) : (rowsTo g i)[x]? = some ((g.edges.take i).flatMap (arcE (x : Int))) := by simp [rowsTo, h]
theorem rowsTo_len (g : Gr) (i : Nat) : (rowsTo g i).length = g.vals.length := by simp [rowsTo]
theorem rowsTo_zero (g : Gr) : rowsTo g 0 = List.replicate g.vals.length [] := by
  apply List.ext_getElem?
  intro x
  simp only [rowsTo, List.take_zero, List.flatMap_nil, List.getElem?_map, List.getElem?_replicate, List.getElem?_range]
  by_cases h : x < g.vals.length
  · simp [h]
  · simp [h]
def rowFrom (g : Gr) (i : Nat) (e : Ed) : List (List Arc) := (rowsTo g i).set e.2.1.toNat ((g.edges.take i).flatMap (arcE e.2.1) ++ [((e.1, false), arcLetter false e, e.2.2.1)])
def rowBack (g : Gr) (i : Nat) (e : Ed) : List Arc := (g.edges.take i).flatMap (arcE e.2.2.1) ++ if e.2.1 = e.2.2.1 then [((e.1, false), arcLetter false e, e.2.2.1)] else []
theorem rowFrom_at {g : Gr} {i : Nat} {e : Ed} (h0 : 0 ≤ e.2.1) (hn : e.2.1 ≤ (g.vals.length : Int) - 1) (h1 : 0 ≤ e.2.2.1) (h2 : e.2.2.1 ≤ (g.vals.length : Int) - 1) : (rowFrom g i e)[e.2.2.1.toNat]? = some (rowBack g i e) := by
  unfold rowFrom rowBack
  rw [List.getElem?_set]
  by_cases h : e.2.1 = e.2.2.1
  · rw [if_pos (by rw [h]), if_pos (by rw [rowsTo_len]; omega), if_pos h, h]
  · rw [if_neg (by omega), if_neg h, rowsTo_at (by omega), Int.toNat_of_nonneg h1]; simp
theorem rowsTo_push {g : Gr} {i : Nat} {e : Ed} (he : g.edges[i]? = some e) (h0 : 0 ≤ e.2.1) (hn : e.2.1 ≤ (g.vals.length : Int) - 1) (h1 : 0 ≤ e.2.2.1) (h2 : e.2.2.1 ≤ (g.vals.length : Int) - 1) :
    (rowFrom g i e).set e.2.2.1.toNat (rowBack g i e ++ [((e.1, true), arcLetter true e, e.2.1)]) = rowsTo g (i + 1) := by
  apply List.ext_getElem?
  intro x
  by_cases hx : x < g.vals.length
  · rw [rowsTo_at hx, flat_take he, List.getElem?_set]
    unfold rowFrom rowBack
    rw [List.length_set, rowsTo_len]
    by_cases hb : e.2.2.1 = (x : Int)
    · rw [if_pos (by omega), if_pos (by omega)]
      congr 1
      rw [hb, List.append_assoc]
      congr 1
      unfold arcE arcLetter
      by_cases hf : e.2.1 = (x : Int)
      · simp [hf, hb]
      · simp [hf, hb]
    · rw [if_neg (by omega), List.getElem?_set, rowsTo_len]
      by_cases hf : e.2.1 = (x : Int)
      · rw [if_pos (by omega), if_pos (by omega)]
        congr 1
        rw [hf]
        congr 1
        unfold arcE arcLetter
        simp [hf, hb]
      · rw [if_neg (by omega), rowsTo_at hx]
        congr 1
        unfold arcE
        simp [hf, hb]
  · rw [List.getElem?_eq_none (by rw [List.length_set, rowFrom, List.length_set, rowsTo_len]; omega), List.getElem?_eq_none (by rw [rowsTo_len]; omega)]
theorem rowsTo_all (g : Gr) : rowsTo g g.edges.length = (List.range g.vals.length).map fun (x : Nat) => arcsOf g (x : Int) := by
  unfold rowsTo arcsOf
  rw [List.take_length]

end Go.Proofs.YtpbfdmfkmbdpkaaGreat

/- The program's product: reads, arcs, bothOk, nextVertices. -/
namespace Go.Proofs.YtpbfdmfkmbdpkaaGreat
set_option linter.unusedVariables false
set_option linter.unusedSimpArgs false
open Go.ChangeShapes Go.WideShapes Go.ChangeAt Go.RowKit
attribute [local go_sem] ext_cell ext_frozen ext_lt ext_lt1 ext_lt2 ext_lt3 ltn2 ltn3 ltn13 lts1 lts2 lts3

/-- an arc as four cells -/
def cA (y : Arc) : List Value := [.int .i64 y.1.1, .bool y.1.2, .int .i64 y.2.1, .int .i64 y.2.2]
theorem cA_len (y : Arc) : (cA y).length = 4 := rfl
theorem cA_one (y : Arc) : ∀ u ∈ cA y, u.oneCell' = true := by intro u hu; simp only [cA, List.mem_cons, List.not_mem_nil, or_false] at hu; rcases hu with rfl | rfl | rfl | rfl <;> rfl

theorem reads_any (e : Ed) (b : Bool) (w : World) (h0 : 0 ≤ e.2.2.2) (h2 : e.2.2.2 ≤ 2) :
    Calls Tryz.prog 126 #[.agg #[.int .i64 e.1, .int .i64 e.2.1, .int .i64 e.2.2.1, .int .i64 e.2.2.2], .bool b] w fun en w' => en = .returned (.int .i64 (arcLetter b e)) ∧ Below w.heap.size w w' := by
  obtain ⟨a, f, t, l⟩ := e
  simp only at h0 h2 ⊢
  cases b
  all_goals
    go_enter Tryz.func126, Tryz.ntmps126
    go_wp2_with fail
    go_ret
    exact ⟨rfl, (Below.refl _ _).alloc (Nat.le_refl _) _⟩

theorem elArc : ElemOk Tryz.prog 147 149 (.agg #[.int .i64 0, .bool false, .int .i64 0, .int .i64 0]) 4 32 := ⟨Tryz.underlying147, by kernel_rfl, rfl, by omega⟩
theorem elArcs : ElemOk Tryz.prog 128 147 (.slice none 0 0) 1 24 := ⟨Tryz.underlying128, by kernel_rfl, rfl, by omega⟩
set_option maxHeartbeats 4000000 in
set_option maxRecDepth 100000 in
theorem arcs_any (v : Value) (g : Gr) (w : World) (hv : GrV 0 w.heap.size w v g) (hg : GrOk g) :
    Calls Tryz.prog 103 #[v] w fun e w' => ∃ v', e = .returned v' ∧ SSE w.heap.size w'.heap.size w' cA 4 v' ((List.range g.vals.length).map fun (x : Nat) => arcsOf g (x : Int)) ∧ Below w.heap.size w w' := by
  obtain ⟨A1, c1, A2, c2, rfl, hl1, hm1, hl2, hm2, hC1, hC2⟩ := hv.form
  have hn5 := hg.n5
  have he12 := hg.e12
  have HG := Lib.hid hg
  have HC2 := Lib.hid hC2
  clear hC1 hC2 hv hg
  obtain ⟨R, hR⟩ : ∃ R, R = (List.range g.vals.length).map fun (x : Nat) => arcsOf g (x : Int) := ⟨_, rfl⟩
  rw [← hR]
  have HR := Lib.hid hR
  clear hR
  go_enter Tryz.func103, Tryz.ntmps103
  go_wp2_with (at_make; refine wpList_makeE (P := Tryz.prog) cV (.slice none 0 0) elArcs rfl rfl rfl _ _ rfl (w.heap.size + 1) g.vals.length _ (by rfl) (by rfl) rfl (by omega) (by unfold maxLen; omega) (by simp) ?_; intro w1 hrow1 hbel1
               have b0 := (Blk.new w _ _ w.heap.size rfl).below hbel1 (by simp)
               have hb1 : Below w.heap.size w w1 := ((Below.refl _ _).alloc (Nat.le_refl _) _).trans (hbel1.mono (by simp))
               simp only [World.size_alloc] at hrow1 ⊢
               have hr1 := Rws.made (base := w.heap.size + 1) (α := Arc) (E := cA) (k := 4) (rT := 149) hrow1
               have HR1 := Lib.hid hr1
               have x0 : w1.cell? ⟨w.heap.size, 0, none⟩ = some (.slice A1 g.vals.length c1) := b0.cell 0
               have x1 : w1.cell? ⟨w.heap.size, 1, none⟩ = some (.slice A2 g.edges.length c2) := b0.cell 1
               clear hbel1 hrow1 b0 hr1)
  generalize hgb : w.heap.size + 1 = gb at *
  have hgw : w.heap.size < gb := by omega
  clear hgb
  go_loopw [13] (fun ii wr => ∃ (i : Nat) (hs : List Value), i ≤ g.edges.length ∧ ii = .int .i64 (i : Int) ∧ Rws wr gb 147 149 cA 4 gb hs (rowsTo g i) ∧ Below w.heap.size w wr) (fun ii _ => g.edges.length - (intOf ii).toNat)
  case atStart => exact ⟨0, _, Nat.zero_le _, rfl, by rw [rowsTo_zero]; exact HR1.out, hb1⟩
  case round =>
    obtain ⟨i, hs, hi, rfl, hrow, hbel⟩ := hrel
    clear hb1 HR1 x0 x1
    by_cases hlt : i < g.edges.length
    · have hei : g.edges[i]? = some g.edges[i] := List.getElem?_eq_getElem hlt
      have hge := HG.out.edges _ (List.getElem_mem hlt)
      generalize g.edges[i] = e at hei hge
      obtain ⟨-, ⟨hf0, hf1⟩, ⟨ht0, ht1⟩, hl0, hl2⟩ := hge
      obtain ⟨b, o, rfl, hb, q0, q1, q2, q3⟩ := HC2.out.ed hei
      have d0 := bcell hbel q0 hb
      have d1 := bcell hbel q1 hb
      have d2 := bcell hbel q2 hb
      have d3 := bcell hbel q3 hb
      have hbw := Nat.lt_of_lt_of_le hb hbel.size
      have HEI := Lib.hid hei
      clear hei q0 q1 q2 q3
      have hgl := hrow.gLt
      have hfh : e.2.1.toNat < hs.length := by rw [hrow.len, rowsTo_len]; omega
      have hhf : hs[e.2.1.toNat]? = some hs[e.2.1.toNat] := List.getElem?_eq_getElem hfh
      generalize hs[e.2.1.toNat] = hv1 at hhf
      have hx1 := rowsTo_at (g := g) (i := i) (x := e.2.1.toNat) (by omega)
      rw [Int.toNat_of_nonneg hf0] at hx1
      obtain ⟨eid, ef, et, el⟩ := e
      simp only at *
      have hfn : ef.toNat < g.vals.length := by omega
      obtain ⟨ef, rfl⟩ := Int.eq_ofNat_of_zero_le hf0
      obtain ⟨et, rfl⟩ := Int.eq_ofNat_of_zero_le ht0
      simp only [Int.toNat_natCast] at *
      have hfi : (ef : Int) < (g.vals.length : Int) := by omega
      have hti : (et : Int) < (g.vals.length : Int) := by omega
      have hcf := hrow.cell hhf
      have hff := hrow.frozen ef
      have HROW := Lib.hid hrow
      have HX1 := Lib.hid hx1
      have HHF := Lib.hid hhf
      have hfar := hrow.far _ _ hhf
      have HFAR := Lib.hid hfar
      have hgs := hgl.2
      have hlv : hs.length = g.vals.length := by rw [hrow.len, rowsTo_len]
      have hgv : gb < wr.heap.size := hgl.2
      have hsz := hbel.size
      clear hrow hx1 hhf hfar hgl hfh hlv
      go_wp2_with fail
      have e0 : (wr.alloc (.cells #[.int .i64 eid, .int .i64 (ef : Int), .int .i64 (et : Int), .int .i64 el] 89)).cell? ⟨wr.heap.size, 0, none⟩ = some (.int .i64 eid) := by simp
      have e1 : (wr.alloc (.cells #[.int .i64 eid, .int .i64 (ef : Int), .int .i64 (et : Int), .int .i64 el] 89)).cell? ⟨wr.heap.size, 1, none⟩ = some (.int .i64 (ef : Int)) := by simp
      have e2 : (wr.alloc (.cells #[.int .i64 eid, .int .i64 (ef : Int), .int .i64 (et : Int), .int .i64 el] 89)).cell? ⟨wr.heap.size, 2, none⟩ = some (.int .i64 (et : Int)) := by simp
      have e3 : (wr.alloc (.cells #[.int .i64 eid, .int .i64 (ef : Int), .int .i64 (et : Int), .int .i64 el] 89)).cell? ⟨wr.heap.size, 3, none⟩ = some (.int .i64 el) := by simp
      generalize hW : (wr.alloc (.cells #[.int .i64 eid, .int .i64 (ef : Int), .int .i64 (et : Int), .int .i64 el] 89)) = wE
      rw [hW] at e0 e1 e2 e3
      have hbE : Below wr.heap.size wr wE := by rw [← hW]; exact (Below.refl _ _).alloc (Nat.le_refl _) _
      have hcE : wE.cell? ⟨gb, ef, none⟩ = some hv1 := bcell hbE hcf hgs
      have hfE : wE.frozen? ⟨gb, ef, none⟩ = false := by rw [hbE.frozen (p := ⟨gb, ef, none⟩) hgs]; exact hff
      have hsE : wr.heap.size < wE.heap.size := by rw [← hW]; simp
      have hgE : gb < wE.heap.size := by omega
      have hgE1 : wr.heap.size ≠ gb := by omega
      have HRE := Lib.hid (HROW.out.below hbE)
      have HBE := Lib.hid (hbel.trans (hbE.mono hsz))
      have hne1 : some wr.heap.size ≠ hv1.ownBlock := fun h => by have := ((HROW.out.row ef hv1 _ HHF.out HX1.out).lt _ h.symm).2; omega
      have hne2 : some gb ≠ hv1.ownBlock := Ne.symm HFAR.out
      have hneR0 : ∀ (j : Nat) (h : Value), hs[j]? = some h → some wr.heap.size ≠ h.ownBlock := fun j h hj e9 => by
        have hjx : j < (rowsTo g i).length := by rw [← HROW.out.len]; exact (List.getElem?_eq_some_iff.1 hj).1
        have := ((HROW.out.row j h _ hj (List.getElem?_eq_getElem hjx)).lt _ e9.symm).2
        omega
      have HNER := Lib.hid hneR0
      clear hneR0
      have HRO := Lib.hid (HRE.out.row ef hv1 _ HHF.out HX1.out)
      have hrl : ((g.edges.take i).flatMap (arcE (ef : Int))).length ≤ 24 := by
        have h1 := flat_len (arcE_len (ef : Int)) (g.edges.take i)
        rw [List.length_take] at h1
        omega
      clear hW hbE hcf hff HROW hbel
      obtain ⟨row1, hrow1⟩ : ∃ row1, row1 = (g.edges.take i).flatMap (arcE (ef : Int)) := ⟨_, rfl⟩
      rw [← hrow1] at hrl HRO HX1
      have HROW1 := Lib.hid hrow1
      clear hrow1
      refine F_start 19 (fun w' => w'.cell? ⟨wr.heap.size, 0, none⟩ = some (.int .i64 eid) ∧ w'.cell? ⟨wr.heap.size, 1, none⟩ = some (.int .i64 (ef : Int)) ∧ w'.cell? ⟨wr.heap.size, 2, none⟩ = some (.int .i64 (et : Int)) ∧ w'.cell? ⟨wr.heap.size, 3, none⟩ = some (.int .i64 el) ∧ w'.cell? ⟨gb, ef, none⟩ = some hv1) (by kernel_rfl) (by exact ⟨e0, e1, e2, e3, hcE⟩) (fun hS inv => ?_)
      refine F_take (i := 0) (v := ?_) rfl (by kernel_rfl) (by kernel_rfl) (by kernel_rfl) (fun _ _ _ h => h) inv (Or.inl ⟨by rfl, ?_⟩) (by assumption) (fun invn => ?_)
      rotate_left
      · (intro w hSw; (try dsimp only at hSw); go_simp; try with_reducible rfl)
      try simp only [List.getElem_toArray, List.getElem_cons_zero, List.getElem_cons_succ, Act.put, List.setIfInBounds_toArray, List.set_cons_zero, List.set_cons_succ]
      clear inv
      have inv := invn
      clear invn
      refine F_take (i := 1) (v := ?_) rfl (by kernel_rfl) (by kernel_rfl) (by kernel_rfl) (fun _ _ _ h => h) inv (Or.inl ⟨by rfl, ?_⟩) (by assumption) (fun invn => ?_)
      rotate_left
      · (intro w hSw; (try dsimp only at hSw); go_simp; try with_reducible rfl)
      try simp only [List.getElem_toArray, List.getElem_cons_zero, List.getElem_cons_succ, Act.put, List.setIfInBounds_toArray, List.set_cons_zero, List.set_cons_succ]
      clear inv
      have inv := invn
      clear invn
      refine F_take (i := 2) (v := ?_) rfl (by kernel_rfl) (by kernel_rfl) (by kernel_rfl) (fun _ _ _ h => h) inv (Or.inl ⟨by rfl, ?_⟩) (by assumption) (fun invn => ?_)
      rotate_left
      · (intro w hSw; (try dsimp only at hSw); go_simp; try with_reducible rfl)
      try simp only [List.getElem_toArray, List.getElem_cons_zero, List.getElem_cons_succ, Act.put, List.setIfInBounds_toArray, List.set_cons_zero, List.set_cons_succ]
      clear inv
      have inv := invn
      clear invn
      refine F_take (i := 3) (v := ?_) rfl (by kernel_rfl) (by kernel_rfl) (by kernel_rfl) (fun _ _ _ h => h) inv (Or.inl ⟨by rfl, ?_⟩) (by assumption) (fun invn => ?_)
      rotate_left
      · (intro w hSw; (try dsimp only at hSw); go_simp; try with_reducible rfl)
      try simp only [List.getElem_toArray, List.getElem_cons_zero, List.getElem_cons_succ, Act.put, List.setIfInBounds_toArray, List.set_cons_zero, List.set_cons_succ]
      clear inv
      have inv := invn
      clear invn
      refine F_take (i := 4) (v := ?_) rfl (by kernel_rfl) (by kernel_rfl) (by kernel_rfl) (fun _ _ _ h => h) inv (Or.inl ⟨by rfl, ?_⟩) (by assumption) (fun invn => ?_)
      rotate_left
      · (intro w hSw; (try dsimp only at hSw); go_simp; try with_reducible rfl)
      try simp only [List.getElem_toArray, List.getElem_cons_zero, List.getElem_cons_succ, Act.put, List.setIfInBounds_toArray, List.set_cons_zero, List.set_cons_succ]
      clear inv
      have inv := invn
      clear invn
      refine F_take (i := 5) (v := ?_) rfl (by kernel_rfl) (by kernel_rfl) (by kernel_rfl) (fun _ _ _ h => h) inv (Or.inl ⟨by rfl, ?_⟩) (by assumption) (fun invn => ?_)
      rotate_left
      · (intro w hSw; (try dsimp only at hSw); go_simp; try with_reducible rfl)
      try simp only [List.getElem_toArray, List.getElem_cons_zero, List.getElem_cons_succ, Act.put, List.setIfInBounds_toArray, List.set_cons_zero, List.set_cons_succ]
      clear inv
      have inv := invn
      clear invn
      refine F_take (i := 6) (v := ?_) rfl (by kernel_rfl) (by kernel_rfl) (by kernel_rfl) (fun _ _ _ h => h) inv (Or.inl ⟨by rfl, ?_⟩) (by assumption) (fun invn => ?_)
      rotate_left
      · (intro w hSw; (try dsimp only at hSw); go_simp; try with_reducible rfl)
      try simp only [List.getElem_toArray, List.getElem_cons_zero, List.getElem_cons_succ, Act.put, List.setIfInBounds_toArray, List.set_cons_zero, List.set_cons_succ]
      clear inv
      have inv := invn
      clear invn
      refine F_take (i := 7) (v := ?_) rfl (by kernel_rfl) (by kernel_rfl) (by kernel_rfl) (fun _ _ _ h => h) inv (Or.inl ⟨by rfl, ?_⟩) (by assumption) (fun invn => ?_)
      rotate_left
      · (intro w hSw; (try dsimp only at hSw); go_simp; try with_reducible rfl)
      try simp only [List.getElem_toArray, List.getElem_cons_zero, List.getElem_cons_succ, Act.put, List.setIfInBounds_toArray, List.set_cons_zero, List.set_cons_succ]
      clear inv
      have inv := invn
      clear invn
      refine F_take (i := 8) (v := ?_) rfl (by kernel_rfl) (by kernel_rfl) (by kernel_rfl) (fun _ _ _ h => h) inv (Or.inl ⟨by rfl, ?_⟩) (by assumption) (fun invn => ?_)
      rotate_left
      · (intro w hSw; (try dsimp only at hSw); go_simp; try with_reducible rfl)
      try simp only [List.getElem_toArray, List.getElem_cons_zero, List.getElem_cons_succ, Act.put, List.setIfInBounds_toArray, List.set_cons_zero, List.set_cons_succ]
      clear inv
      have inv := invn
      clear invn
      refine F_take (i := 9) (v := ?_) rfl (by kernel_rfl) (by kernel_rfl) (by kernel_rfl) (fun _ _ _ h => h) inv (Or.inl ⟨by rfl, ?_⟩) (by assumption) (fun invn => ?_)
      rotate_left
      · (intro w hSw; (try dsimp only at hSw); go_simp; try with_reducible rfl)
      try simp only [List.getElem_toArray, List.getElem_cons_zero, List.getElem_cons_succ, Act.put, List.setIfInBounds_toArray, List.set_cons_zero, List.set_cons_succ]
      clear inv
      have inv := invn
      clear invn
      refine F_take (i := 10) (v := ?_) rfl (by kernel_rfl) (by kernel_rfl) (by kernel_rfl) (fun _ _ _ h => h) inv (Or.inl ⟨by rfl, ?_⟩) (by assumption) (fun invn => ?_)
      rotate_left
      · (intro w hSw; (try dsimp only at hSw); go_simp; try with_reducible rfl)
      try simp only [List.getElem_toArray, List.getElem_cons_zero, List.getElem_cons_succ, Act.put, List.setIfInBounds_toArray, List.set_cons_zero, List.set_cons_succ]
      clear inv
      have inv := invn
      clear invn
      refine F_take (i := 11) (v := ?_) rfl (by kernel_rfl) (by kernel_rfl) (by kernel_rfl) (fun _ _ _ h => h) inv (Or.inl ⟨by rfl, ?_⟩) (by assumption) (fun invn => ?_)
      rotate_left
      · (intro w hSw; (try dsimp only at hSw); go_simp; try with_reducible rfl)
      try simp only [List.getElem_toArray, List.getElem_cons_zero, List.getElem_cons_succ, Act.put, List.setIfInBounds_toArray, List.set_cons_zero, List.set_cons_succ]
      clear inv
      have inv := invn
      clear invn
      refine F_take (i := 13) (v := ?_) rfl (by kernel_rfl) (by kernel_rfl) (by kernel_rfl) (fun _ _ _ h => h) inv (Or.inl ⟨by rfl, ?_⟩) (by assumption) (fun invn => ?_)
      rotate_left
      · (intro w hSw; (try dsimp only at hSw); go_simp; try with_reducible rfl)
      try simp only [List.getElem_toArray, List.getElem_cons_zero, List.getElem_cons_succ, Act.put, List.setIfInBounds_toArray, List.set_cons_zero, List.set_cons_succ]
      clear inv
      have inv := invn
      clear invn
      refine F_take (i := 14) (v := ?_) rfl (by kernel_rfl) (by kernel_rfl) (by kernel_rfl) (fun _ _ _ h => h) inv (Or.inl ⟨by rfl, ?_⟩) (by assumption) (fun invn => ?_)
      rotate_left
      · (intro w hSw; (try dsimp only at hSw); go_simp; try with_reducible rfl)
      try simp only [List.getElem_toArray, List.getElem_cons_zero, List.getElem_cons_succ, Act.put, List.setIfInBounds_toArray, List.set_cons_zero, List.set_cons_succ]
      clear inv
      have inv := invn
      clear invn
      refine F_one (i := 12) (by kernel_rfl) rfl rfl (by omega) inv (fun K hK => ?_)
      try simp only [List.getElem_toArray, List.getElem_cons_zero, List.getElem_cons_succ]
      go_simp
      refine (reads_any (eid, (ef : Int), (et : Int), el) false _ hl0 hl2).mono ?_
      rintro en wR ⟨rfl, hbR⟩
      have hbR := below_trans (Below.refl wE.heap.size wE).drew hbR
      have hcR := kcell hbR hcE
      have hfR := kfb hbR hcE hfE
      have hsR := hbR.size
      have HRX := Lib.hid (ownsRow_below HRO.out hbR (Nat.le_refl _))
      refine hK.out _ _ (kB5 hbR ⟨e0, e1, e2, e3, hcE⟩) (fun hSn invn => ?_)
      try simp only [List.getElem_toArray, List.getElem_cons_zero, List.getElem_cons_succ, Act.put, List.setIfInBounds_toArray, List.set_cons_zero, List.set_cons_succ]
      clear hK K inv hS
      have inv := invn
      have hS := hSn
      clear invn hSn
      refine F_take (i := 15) (v := ?_) rfl (by kernel_rfl) (by kernel_rfl) (by kernel_rfl) (fun _ _ _ h => h) inv (Or.inl ⟨by rfl, ?_⟩) (by assumption) (fun invn => ?_)
      rotate_left
      · (intro w hSw; (try dsimp only at hSw); go_simp; try with_reducible rfl)
      try simp only [List.getElem_toArray, List.getElem_cons_zero, List.getElem_cons_succ, Act.put, List.setIfInBounds_toArray, List.set_cons_zero, List.set_cons_succ]
      clear inv
      have inv := invn
      clear invn
      refine F_one (i := 16) (by kernel_rfl) rfl rfl (by omega) inv (fun K hK => ?_)
      try simp only [List.getElem_toArray, List.getElem_cons_zero, List.getElem_cons_succ]
      go_simp
      refine hK.out _ _ (kA5 _ hS) (fun hSn invn => ?_)
      try simp only [List.getElem_toArray, List.getElem_cons_zero, List.getElem_cons_succ, Act.put, List.setIfInBounds_toArray, List.set_cons_zero, List.set_cons_succ]
      clear hK K inv hS
      have inv := invn
      have hS := hSn
      clear invn hSn
      refine F_one (i := 17) (by kernel_rfl) rfl rfl (by omega) inv (fun K hK => ?_)
      try simp only [List.getElem_toArray, List.getElem_cons_zero, List.getElem_cons_succ]
      refine op_append1 cA elArc rfl _ _ (by rfl) gb hv1 row1 ((eid, false), arcLetter false (eid, (ef : Int), (et : Int), el), (et : Int)) 1 _ (by rfl) (HRX.out.alloc _) (by rfl) (heap_alloc_new _ _) rfl (cA_one _) (by omega) (by omega) (by simp; omega) ?_
      intro g2 cp2 w3 hown3 hgr3 hat3 hlt3
      have HO3 := Lib.hid hown3
      have HG3 := Lib.hid hgr3
      have HA3 := Lib.hid hat3
      clear hown3 hgr3 hat3
      refine hK.out _ _ (kG5 HG3.out hne1 hne1 hne1 hne1 hne2 hS) (fun hSn invn => ?_)
      try simp only [List.getElem_toArray, List.getElem_cons_zero, List.getElem_cons_succ, Act.put, List.setIfInBounds_toArray, List.set_cons_zero, List.set_cons_succ]
      clear hK K inv hS
      have inv := invn
      have hS := hSn
      clear invn hSn
      refine F_take (i := 18) (v := ?_) rfl (by kernel_rfl) (by kernel_rfl) (by kernel_rfl) (fun _ _ _ h => h) inv (Or.inl ⟨by rfl, ?_⟩) (by assumption) (fun invn => ?_)
      rotate_left
      · (intro w hSw; (try dsimp only at hSw); go_simp; try with_reducible rfl)
      try simp only [List.getElem_toArray, List.getElem_cons_zero, List.getElem_cons_succ, Act.put, List.setIfInBounds_toArray, List.set_cons_zero, List.set_cons_succ]
      clear inv
      have inv := invn
      clear invn
      have hcz := HG3.out.cell (kcell ((Below.refl _ _).alloc (Nat.le_refl _) _) hcR) hne2
      have hfz := kfg HG3.out (p := ⟨gb, ef, none⟩) hne2 (kcell ((Below.refl _ _).alloc (Nat.le_refl _) _) hcR) (kfb ((Below.refl _ _).alloc (Nat.le_refl _) _) hcR hfR)
      refine F_last (i := 19) (by kernel_rfl) rfl rfl (by omega) (by kernel_rfl) (fun K hK => ?_)
      go_simp
      refine hK _ _ ?_
      clear hK K inv hS
      have hbA : Below wE.heap.size wE (wR.alloc (.cells #[.int .i64 eid, .bool false, .int .i64 (arcLetter false (eid, (ef : Int), (et : Int), el)), .int .i64 (et : Int)] 149)) := hbR.alloc hsR _
      have hrF := Rws.push (HRE.out.below hbA) HHF.out HX1.out HO3.out HG3.out rfl HA3.out
      have hbF : Below w.heap.size w (w3.setCell ⟨gb, ef, none⟩ (.slice (some ⟨g2, 0, none⟩) (row1.length + 1) cp2)) :=
        ((HBE.out.trans (hbA.mono HBE.out.size)).grown HG3.out (Nat.le_trans HBE.out.size hbA.size) (fun b hb => by have := (HRX.out.lt b hb).1; omega)).setCell (by simp only; omega) _
      have f0 := (World.cell?_setCell_far w3 ⟨gb, ef, none⟩ ⟨wr.heap.size, 0, none⟩ (.slice (some ⟨g2, 0, none⟩) (row1.length + 1) cp2) (Ne.symm hgE1)).trans (HG3.out.cell (kcell hbA e0) hne1)
      have f1 := (World.cell?_setCell_far w3 ⟨gb, ef, none⟩ ⟨wr.heap.size, 1, none⟩ (.slice (some ⟨g2, 0, none⟩) (row1.length + 1) cp2) (Ne.symm hgE1)).trans (HG3.out.cell (kcell hbA e1) hne1)
      have f2 := (World.cell?_setCell_far w3 ⟨gb, ef, none⟩ ⟨wr.heap.size, 2, none⟩ (.slice (some ⟨g2, 0, none⟩) (row1.length + 1) cp2) (Ne.symm hgE1)).trans (HG3.out.cell (kcell hbA e2) hne1)
      have f3 := (World.cell?_setCell_far w3 ⟨gb, ef, none⟩ ⟨wr.heap.size, 3, none⟩ (.slice (some ⟨g2, 0, none⟩) (row1.length + 1) cp2) (Ne.symm hgE1)).trans (HG3.out.cell (kcell hbA e3) hne1)
      have hg23 : some wr.heap.size ≠ (Value.slice (some ⟨g2, 0, none⟩) (row1.length + 1) cp2).ownBlock := by
        simp only [Value.ownBlock, ne_eq, Option.some.injEq]
        intro e9; subst e9
        rcases HA3.out with h9 | h9
        · exact hne1 h9.symm
        · have := hbA.size; omega
      rw [show (rowsTo g i).set ef (row1 ++ [((eid, false), arcLetter false (eid, (ef : Int), (et : Int), el), (et : Int))]) = rowFrom g i (eid, (ef : Int), (et : Int), el) by rw [HROW1.out]; rfl] at hrF
      generalize (w3.setCell ⟨gb, ef, none⟩ (.slice (some ⟨g2, 0, none⟩) (row1.length + 1) cp2)) = wF at *
      have hethF : et < (hs.set ef (.slice (some ⟨g2, 0, none⟩) (row1.length + 1) cp2)).length := by rw [List.length_set, HRE.out.len, rowsTo_len]; omega
      have hhb : (hs.set ef (.slice (some ⟨g2, 0, none⟩) (row1.length + 1) cp2))[et]? = some (hs.set ef (.slice (some ⟨g2, 0, none⟩) (row1.length + 1) cp2))[et] := List.getElem?_eq_getElem hethF
      generalize (hs.set ef (.slice (some ⟨g2, 0, none⟩) (row1.length + 1) cp2))[et] = hv2 at hhb
      have hx2 : (rowFrom g i (eid, (ef : Int), (et : Int), el))[et]? = some (rowBack g i (eid, (ef : Int), (et : Int), el)) := by have := rowFrom_at (g := g) (i := i) (e := (eid, (ef : Int), (et : Int), el)) (by simp only; omega) (by simp only; omega) (by simp only; omega) (by simp only; omega); simpa using this
      have hne3 : some wr.heap.size ≠ hv2.ownBlock := by
        rw [List.getElem?_set] at hhb
        split at hhb
        · split at hhb
          · injection hhb with hhb; rw [← hhb]; exact hg23
          · cases hhb
        · exact HNER.out et hv2 hhb
      have hne4 : some gb ≠ hv2.ownBlock := Ne.symm (hrF.far _ _ hhb)
      have hcF := hrF.cell hhb
      have hfF := hrF.frozen et
      have hgF := hrF.gLt.2
      have HRO2 := Lib.hid (hrF.row et hv2 _ hhb hx2)
      have hlq : wr.heap.size < wF.heap.size := World.block_lt_of_cell? wF _ f0
      have hrl2 : (rowBack g i (eid, (ef : Int), (et : Int), el)).length ≤ 25 := by
        have h1 := flat_len (arcE_len (et : Int)) (g.edges.take i)
        rw [List.length_take] at h1
        unfold rowBack
        rw [List.length_append]
        split
        · simp only [List.length_singleton]; omega
        · simp only [List.length_nil]; omega
      have HHB := Lib.hid hhb
      have HX2 := Lib.hid hx2
      have HRF := Lib.hid hrF
      have HBF := Lib.hid hbF
      clear hhb hx2 hrF hbF hbA hethF
      obtain ⟨row2, hrow2⟩ : ∃ row2, row2 = rowBack g i (eid, (ef : Int), (et : Int), el) := ⟨_, rfl⟩
      rw [← hrow2] at hrl2 HRO2 HX2
      have HROW2 := Lib.hid hrow2
      clear hrow2 hcz hfz hbR hcR hfR hsR HRX HO3 HG3 HA3 e0 e1 e2 e3 hcE hfE hsE hgE HRE HBE hne1 hne2 HRO hrl HNER hg23 hlt3
      go_wp2_with fail
      refine F_start 19 (fun w' => w'.cell? ⟨wr.heap.size, 0, none⟩ = some (.int .i64 eid) ∧ w'.cell? ⟨wr.heap.size, 1, none⟩ = some (.int .i64 (ef : Int)) ∧ w'.cell? ⟨wr.heap.size, 2, none⟩ = some (.int .i64 (et : Int)) ∧ w'.cell? ⟨wr.heap.size, 3, none⟩ = some (.int .i64 el) ∧ w'.cell? ⟨gb, et, none⟩ = some hv2) (by kernel_rfl) (by exact ⟨f0, f1, f2, f3, hcF⟩) (fun hS inv => ?_)
      refine F_take (i := 0) (v := ?_) rfl (by kernel_rfl) (by kernel_rfl) (by kernel_rfl) (fun _ _ _ h => h) inv (Or.inl ⟨by rfl, ?_⟩) (by assumption) (fun invn => ?_)
      rotate_left
      · (intro w hSw; (try dsimp only at hSw); go_simp; try with_reducible rfl)
      try simp only [List.getElem_toArray, List.getElem_cons_zero, List.getElem_cons_succ, Act.put, List.setIfInBounds_toArray, List.set_cons_zero, List.set_cons_succ]
      clear inv
      have inv := invn
      clear invn
      refine F_take (i := 1) (v := ?_) rfl (by kernel_rfl) (by kernel_rfl) (by kernel_rfl) (fun _ _ _ h => h) inv (Or.inl ⟨by rfl, ?_⟩) (by assumption) (fun invn => ?_)
      rotate_left
      · (intro w hSw; (try dsimp only at hSw); go_simp; try with_reducible rfl)
      try simp only [List.getElem_toArray, List.getElem_cons_zero, List.getElem_cons_succ, Act.put, List.setIfInBounds_toArray, List.set_cons_zero, List.set_cons_succ]
      clear inv
      have inv := invn
      clear invn
      refine F_take (i := 2) (v := ?_) rfl (by kernel_rfl) (by kernel_rfl) (by kernel_rfl) (fun _ _ _ h => h) inv (Or.inl ⟨by rfl, ?_⟩) (by assumption) (fun invn => ?_)
      rotate_left
      · (intro w hSw; (try dsimp only at hSw); go_simp; try with_reducible rfl)
      try simp only [List.getElem_toArray, List.getElem_cons_zero, List.getElem_cons_succ, Act.put, List.setIfInBounds_toArray, List.set_cons_zero, List.set_cons_succ]
      clear inv
      have inv := invn
      clear invn
      refine F_take (i := 3) (v := ?_) rfl (by kernel_rfl) (by kernel_rfl) (by kernel_rfl) (fun _ _ _ h => h) inv (Or.inl ⟨by rfl, ?_⟩) (by assumption) (fun invn => ?_)
      rotate_left
      · (intro w hSw; (try dsimp only at hSw); go_simp; try with_reducible rfl)
      try simp only [List.getElem_toArray, List.getElem_cons_zero, List.getElem_cons_succ, Act.put, List.setIfInBounds_toArray, List.set_cons_zero, List.set_cons_succ]
      clear inv
      have inv := invn
      clear invn
      refine F_take (i := 4) (v := ?_) rfl (by kernel_rfl) (by kernel_rfl) (by kernel_rfl) (fun _ _ _ h => h) inv (Or.inl ⟨by rfl, ?_⟩) (by assumption) (fun invn => ?_)
      rotate_left
      · (intro w hSw; (try dsimp only at hSw); go_simp; try with_reducible rfl)
      try simp only [List.getElem_toArray, List.getElem_cons_zero, List.getElem_cons_succ, Act.put, List.setIfInBounds_toArray, List.set_cons_zero, List.set_cons_succ]
      clear inv
      have inv := invn
      clear invn
      refine F_take (i := 5) (v := ?_) rfl (by kernel_rfl) (by kernel_rfl) (by kernel_rfl) (fun _ _ _ h => h) inv (Or.inl ⟨by rfl, ?_⟩) (by assumption) (fun invn => ?_)
      rotate_left
      · (intro w hSw; (try dsimp only at hSw); go_simp; try with_reducible rfl)
      try simp only [List.getElem_toArray, List.getElem_cons_zero, List.getElem_cons_succ, Act.put, List.setIfInBounds_toArray, List.set_cons_zero, List.set_cons_succ]
      clear inv
      have inv := invn
      clear invn
      refine F_take (i := 6) (v := ?_) rfl (by kernel_rfl) (by kernel_rfl) (by kernel_rfl) (fun _ _ _ h => h) inv (Or.inl ⟨by rfl, ?_⟩) (by assumption) (fun invn => ?_)
      rotate_left
      · (intro w hSw; (try dsimp only at hSw); go_simp; try with_reducible rfl)
      try simp only [List.getElem_toArray, List.getElem_cons_zero, List.getElem_cons_succ, Act.put, List.setIfInBounds_toArray, List.set_cons_zero, List.set_cons_succ]
      clear inv
      have inv := invn
      clear invn
      refine F_take (i := 7) (v := ?_) rfl (by kernel_rfl) (by kernel_rfl) (by kernel_rfl) (fun _ _ _ h => h) inv (Or.inl ⟨by rfl, ?_⟩) (by assumption) (fun invn => ?_)
      rotate_left
      · (intro w hSw; (try dsimp only at hSw); go_simp; try with_reducible rfl)
      try simp only [List.getElem_toArray, List.getElem_cons_zero, List.getElem_cons_succ, Act.put, List.setIfInBounds_toArray, List.set_cons_zero, List.set_cons_succ]
      clear inv
      have inv := invn
      clear invn
      refine F_take (i := 8) (v := ?_) rfl (by kernel_rfl) (by kernel_rfl) (by kernel_rfl) (fun _ _ _ h => h) inv (Or.inl ⟨by rfl, ?_⟩) (by assumption) (fun invn => ?_)
      rotate_left
      · (intro w hSw; (try dsimp only at hSw); go_simp; try with_reducible rfl)
      try simp only [List.getElem_toArray, List.getElem_cons_zero, List.getElem_cons_succ, Act.put, List.setIfInBounds_toArray, List.set_cons_zero, List.set_cons_succ]
      clear inv
      have inv := invn
      clear invn
      refine F_take (i := 9) (v := ?_) rfl (by kernel_rfl) (by kernel_rfl) (by kernel_rfl) (fun _ _ _ h => h) inv (Or.inl ⟨by rfl, ?_⟩) (by assumption) (fun invn => ?_)
      rotate_left
      · (intro w hSw; (try dsimp only at hSw); go_simp; try with_reducible rfl)
      try simp only [List.getElem_toArray, List.getElem_cons_zero, List.getElem_cons_succ, Act.put, List.setIfInBounds_toArray, List.set_cons_zero, List.set_cons_succ]
      clear inv
      have inv := invn
      clear invn
      refine F_take (i := 10) (v := ?_) rfl (by kernel_rfl) (by kernel_rfl) (by kernel_rfl) (fun _ _ _ h => h) inv (Or.inl ⟨by rfl, ?_⟩) (by assumption) (fun invn => ?_)
      rotate_left
      · (intro w hSw; (try dsimp only at hSw); go_simp; try with_reducible rfl)
      try simp only [List.getElem_toArray, List.getElem_cons_zero, List.getElem_cons_succ, Act.put, List.setIfInBounds_toArray, List.set_cons_zero, List.set_cons_succ]
      clear inv
      have inv := invn
      clear invn
      refine F_take (i := 11) (v := ?_) rfl (by kernel_rfl) (by kernel_rfl) (by kernel_rfl) (fun _ _ _ h => h) inv (Or.inl ⟨by rfl, ?_⟩) (by assumption) (fun invn => ?_)
      rotate_left
      · (intro w hSw; (try dsimp only at hSw); go_simp; try with_reducible rfl)
      try simp only [List.getElem_toArray, List.getElem_cons_zero, List.getElem_cons_succ, Act.put, List.setIfInBounds_toArray, List.set_cons_zero, List.set_cons_succ]
      clear inv
      have inv := invn
      clear invn
      refine F_take (i := 13) (v := ?_) rfl (by kernel_rfl) (by kernel_rfl) (by kernel_rfl) (fun _ _ _ h => h) inv (Or.inl ⟨by rfl, ?_⟩) (by assumption) (fun invn => ?_)
      rotate_left
      · (intro w hSw; (try dsimp only at hSw); go_simp; try with_reducible rfl)
      try simp only [List.getElem_toArray, List.getElem_cons_zero, List.getElem_cons_succ, Act.put, List.setIfInBounds_toArray, List.set_cons_zero, List.set_cons_succ]
      clear inv
      have inv := invn
      clear invn
      refine F_take (i := 14) (v := ?_) rfl (by kernel_rfl) (by kernel_rfl) (by kernel_rfl) (fun _ _ _ h => h) inv (Or.inl ⟨by rfl, ?_⟩) (by assumption) (fun invn => ?_)
      rotate_left
      · (intro w hSw; (try dsimp only at hSw); go_simp; try with_reducible rfl)
      try simp only [List.getElem_toArray, List.getElem_cons_zero, List.getElem_cons_succ, Act.put, List.setIfInBounds_toArray, List.set_cons_zero, List.set_cons_succ]
      clear inv
      have inv := invn
      clear invn
      refine F_one (i := 12) (by kernel_rfl) rfl rfl (by omega) inv (fun K hK => ?_)
      try simp only [List.getElem_toArray, List.getElem_cons_zero, List.getElem_cons_succ]
      go_simp
      refine (reads_any (eid, (ef : Int), (et : Int), el) true _ hl0 hl2).mono ?_
      rintro en wS ⟨rfl, hbR⟩
      have hbR := below_trans (Below.refl wF.heap.size wF).drew hbR
      have hcR := kcell hbR hcF
      have hfR := kfb hbR hcF hfF
      have hsR := hbR.size
      have HRX := Lib.hid (ownsRow_below HRO2.out hbR (Nat.le_refl _))
      refine hK.out _ _ (kB5 hbR ⟨f0, f1, f2, f3, hcF⟩) (fun hSn invn => ?_)
      try simp only [List.getElem_toArray, List.getElem_cons_zero, List.getElem_cons_succ, Act.put, List.setIfInBounds_toArray, List.set_cons_zero, List.set_cons_succ]
      clear hK K inv hS
      have inv := invn
      have hS := hSn
      clear invn hSn
      refine F_take (i := 15) (v := ?_) rfl (by kernel_rfl) (by kernel_rfl) (by kernel_rfl) (fun _ _ _ h => h) inv (Or.inl ⟨by rfl, ?_⟩) (by assumption) (fun invn => ?_)
      rotate_left
      · (intro w hSw; (try dsimp only at hSw); go_simp; try with_reducible rfl)
      try simp only [List.getElem_toArray, List.getElem_cons_zero, List.getElem_cons_succ, Act.put, List.setIfInBounds_toArray, List.set_cons_zero, List.set_cons_succ]
      clear inv
      have inv := invn
      clear invn
      refine F_one (i := 16) (by kernel_rfl) rfl rfl (by omega) inv (fun K hK => ?_)
      try simp only [List.getElem_toArray, List.getElem_cons_zero, List.getElem_cons_succ]
      go_simp
      refine hK.out _ _ (kA5 _ hS) (fun hSn invn => ?_)
      try simp only [List.getElem_toArray, List.getElem_cons_zero, List.getElem_cons_succ, Act.put, List.setIfInBounds_toArray, List.set_cons_zero, List.set_cons_succ]
      clear hK K inv hS
      have inv := invn
      have hS := hSn
      clear invn hSn
      refine F_one (i := 17) (by kernel_rfl) rfl rfl (by omega) inv (fun K hK => ?_)
      try simp only [List.getElem_toArray, List.getElem_cons_zero, List.getElem_cons_succ]
      refine op_append1 cA elArc rfl _ _ (by rfl) gb hv2 row2 ((eid, true), arcLetter true (eid, (ef : Int), (et : Int), el), (ef : Int)) 1 _ (by rfl) (HRX.out.alloc _) (by rfl) (heap_alloc_new _ _) rfl (cA_one _) (by omega) (by omega) (by simp; omega) ?_
      intro g3 cp3 w4 hown3 hgr3 hat3 hlt3
      have HO3 := Lib.hid hown3
      have HG3 := Lib.hid hgr3
      have HA3 := Lib.hid hat3
      clear hown3 hgr3 hat3
      refine hK.out _ _ (kG5 HG3.out hne3 hne3 hne3 hne3 hne4 hS) (fun hSn invn => ?_)
      try simp only [List.getElem_toArray, List.getElem_cons_zero, List.getElem_cons_succ, Act.put, List.setIfInBounds_toArray, List.set_cons_zero, List.set_cons_succ]
      clear hK K inv hS
      have inv := invn
      have hS := hSn
      clear invn hSn
      refine F_take (i := 18) (v := ?_) rfl (by kernel_rfl) (by kernel_rfl) (by kernel_rfl) (fun _ _ _ h => h) inv (Or.inl ⟨by rfl, ?_⟩) (by assumption) (fun invn => ?_)
      rotate_left
      · (intro w hSw; (try dsimp only at hSw); go_simp; try with_reducible rfl)
      try simp only [List.getElem_toArray, List.getElem_cons_zero, List.getElem_cons_succ, Act.put, List.setIfInBounds_toArray, List.set_cons_zero, List.set_cons_succ]
      clear inv
      have inv := invn
      clear invn
      have hcz := HG3.out.cell (kcell ((Below.refl _ _).alloc (Nat.le_refl _) _) hcR) hne4
      have hfz := kfg HG3.out (p := ⟨gb, et, none⟩) hne4 (kcell ((Below.refl _ _).alloc (Nat.le_refl _) _) hcR) (kfb ((Below.refl _ _).alloc (Nat.le_refl _) _) hcR hfR)
      refine F_last (i := 19) (by kernel_rfl) rfl rfl (by omega) (by kernel_rfl) (fun K hK => ?_)
      go_simp
      refine hK _ _ ?_
      clear hK K inv hS
      have hbA : Below wF.heap.size wF (wS.alloc (.cells #[.int .i64 eid, .bool true, .int .i64 (arcLetter true (eid, (ef : Int), (et : Int), el)), .int .i64 (ef : Int)] 149)) := hbR.alloc hsR _
      have hrG := Rws.push (HRF.out.below hbA) HHB.out HX2.out HO3.out HG3.out rfl HA3.out
      have hbG : Below w.heap.size w (w4.setCell ⟨gb, et, none⟩ (.slice (some ⟨g3, 0, none⟩) (row2.length + 1) cp3)) :=
        ((HBF.out.trans (hbA.mono HBF.out.size)).grown HG3.out (Nat.le_trans HBF.out.size hbA.size) (fun b hb => by have := (HRX.out.lt b hb).1; omega)).setCell (by simp only; omega) _
      have hpush := rowsTo_push (g := g) HEI.out (by simp only; omega) (by simp only; omega) (by simp only; omega) (by simp only; omega)
      simp only [Int.toNat_natCast] at hpush
      rw [HROW2.out, hpush] at hrG
      have HRG := Lib.hid hrG
      have HBG := Lib.hid hbG
      clear hrG hbG hbA hpush hcz hfz hbR hcR hfR
      rw [← HROW2.out] at HRG
      go_wp2_with fail
      go_roundw
      case rel => exact ⟨i + 1, _, by omega, by go_num, HRG.out, HBG.out⟩
      case measure => simp [intOf]; omega
    · obtain rfl : i = g.edges.length := by omega
      have hs1 := hrow.sse cA_len (lo := w.heap.size) (by omega) (by omega)
      have hln : hs.length = g.vals.length := by rw [hrow.len, rowsTo_len]
      rw [rowsTo_all, hln] at hs1
      have HS1 := Lib.hid hs1
      clear hrow hs1 hln
      go_wp2_with fail
      go_ret
      exact ⟨_, rfl, by rw [HR.out]; exact HS1.out, hbel⟩
end Go.Proofs.YtpbfdmfkmbdpkaaGreat

