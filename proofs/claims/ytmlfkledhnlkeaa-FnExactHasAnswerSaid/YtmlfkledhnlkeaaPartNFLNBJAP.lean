/- Parts of the proof, joined into one text: GraphS, Keep, HelpStep, SetS. -/
import Derived.Test.YtmlfkledhnlkeaaPartKBLPOAAF
import Derived.Test.YtmlfkledhnlkeaaPartCAPLBKNO
import Derived.Test.YtmlfkledhnlkeaaPartPLILMNPP
import Derived.Deep.RegionHeld
/- The reference's functions on graphs: validity, edges, steps. -/
namespace Go.Proofs.Ytmlfkledhnlkeaa
set_option linter.unusedVariables false
set_option linter.unusedSimpArgs false
open Go.ChangeShapes Go.WideShapes Go.ChangeAt Go.RowKit
attribute [local go_sem] ext_cell ext_frozen ext_lt ext_lt1 ext_lt2 ext_lt3 ltn2 ltn3 ltn13 lts1 lts2 lts3

set_option maxHeartbeats 1000000 in
theorem l3Edge_any (A : Option Addr) (n cc : Nat) (es : Value) (e : Ed) (w : World) (hn : n ≤ 9223372036854775807) :
    Calls Try.prog 148 #[.agg #[.slice A n cc, es], .agg #[.int .i64 e.1, .int .i64 e.2.1, .int .i64 e.2.2.1, .int .i64 e.2.2.2]] w fun en w' => en = .returned (.bool (edOk n e)) ∧ Below w.heap.size w w' := by
  obtain ⟨a, b, c, d⟩ := e
  have HW := Lib.hid l1In_any
  unfold edOk
  simp only
  have hb0 : Below w.heap.size w ((w.alloc (.cells #[.slice A n cc, es] 48)).alloc (.cells #[.int .i64 a, .int .i64 b, .int .i64 c, .int .i64 d] 144)) := ((Below.refl _ _).alloc (Nat.le_refl _) _).alloc (by simp) _
  cases g1 : wi a 1 99 with
  | false =>
    have HZ := Lib.hid g1
    go_enter Try.func148, Try.ntmps148
    go_wp2_with (go_at_call 77; refine (HW.out _ _ _ _).mono ?_; rintro e w' ⟨rfl, rfl⟩)
    go_ret
    exact ⟨rfl, hb0⟩
  | true =>
    cases g2 : wi b 0 ((n : Int) - 1) with
    | false =>
      go_enter Try.func148, Try.ntmps148
      go_wp2_with (go_at_call 77; refine (HW.out _ _ _ _).mono ?_; rintro e w' ⟨rfl, rfl⟩)
      go_ret
      exact ⟨rfl, hb0⟩
    | true =>
      cases g3 : wi c 0 ((n : Int) - 1) with
      | false =>
        go_enter Try.func148, Try.ntmps148
        go_wp2_with (go_at_call 77; refine (HW.out _ _ _ _).mono ?_; rintro e w' ⟨rfl, rfl⟩)
        go_ret
        exact ⟨rfl, hb0⟩
      | true =>
        go_enter Try.func148, Try.ntmps148
        go_wp2_with (go_at_call 77; refine (HW.out _ _ _ _).mono ?_; rintro e w' ⟨rfl, rfl⟩)
        go_ret
        exact ⟨rfl, hb0⟩

set_option maxHeartbeats 2000000 in
theorem specValidGraph (v : Value) (g : Gr) (w : World) (hv : GrV 0 w.heap.size w v g) :
    Calls Try.prog 115 #[v] w fun e w' => e = .returned (.bool (grOk g)) ∧ Below w.heap.size w w' := by
  obtain ⟨vs, es, rfl, ⟨A1, c1, rfl, hl1, hm1, hx1⟩, ⟨A2, c2, rfl, hl2, hm2, hx2⟩⟩ := hv
  unfold maxLen at hm1 hm2
  have hb0 : Below w.heap.size w (w.alloc (.cells #[.slice A1 g.vals.length c1, .slice A2 g.edges.length c2] 48)) := (Below.refl _ _).alloc (Nat.le_refl _) _
  have HW := Lib.hid l1In_any
  have HX1 := Lib.hid hx1
  have HX2 := Lib.hid hx2
  clear hx1 hx2
  go_enter Try.func115, Try.ntmps115
  go_wp2_with fail
  go_loop [3] (fun ii => ∃ i : Nat, i ≤ g.vals.length ∧ ii = .int .i64 i ∧ (g.vals.take i).all (fun v => wi v 0 2) = true) (fun ii => g.vals.length - (intOf ii).toNat)
  case atStart => exact ⟨0, Nat.zero_le _, rfl, rfl⟩
  case round =>
    obtain ⟨i, hi, rfl, hall⟩ := hrel
    have HA := Lib.hid hall
    clear hall
    by_cases hlt : i < g.vals.length
    · have hxi : g.vals[i]? = some g.vals[i] := List.getElem?_eq_getElem hlt
      obtain ⟨b, o, rfl, -, hb1, hc⟩ := HX1.out i _ hxi
      generalize g.vals[i] = x at hc hxi
      have c0 := hc 0 _ rfl
      simp only [Nat.mul_one, Nat.add_zero] at c0
      have HX := Lib.hid hxi
      clear hc hxi
      cases g4 : wi x 0 2 with
      | true =>
        have G4 := Lib.hid g4
        go_wp2_with (go_at_call 77; refine (HW.out _ _ _ _).mono ?_; rintro e w' ⟨rfl, rfl⟩)
        go_round
        case rel => exact ⟨i + 1, by omega, by go_num, all_take_succ HX.out HA.out G4.out⟩
        case measure => simp [intOf]; omega
      | false =>
        have hfin : grOk g = false := by
          rw [grOk, all_false_of HX.out g4]
          rfl
        have HF := Lib.hid hfin
        clear hfin
        go_wp2_with (go_at_call 77; refine (HW.out _ _ _ _).mono ?_; rintro e w' ⟨rfl, rfl⟩)
        go_ret
        exact ⟨by rw [HF.out]; rfl, hb0⟩
    · obtain rfl : i = g.vals.length := by omega
      have hallv : g.vals.all (fun v => wi v 0 2) = true := by have := HA.out; rwa [List.take_length] at this
      have HV := Lib.hid hallv
      clear hallv HA
      go_wp2_with fail
      go_loopw [4] (fun ii wr => ∃ (i : Nat) (u : World), i ≤ g.edges.length ∧ ii = .int .i64 i ∧ (List.range i).all (edAt g.vals.length g.edges) = true ∧ wr = ext (w.alloc (.cells #[.slice A1 g.vals.length c1, .slice A2 g.edges.length c2] 48)) u) (fun ii _ => g.edges.length - (intOf ii).toNat)
      case atStart => exact ⟨0, _, Nat.zero_le _, rfl, rfl, ext_self _⟩
      case round =>
        obtain ⟨i, u, hi, rfl, hall, rfl⟩ := hrel
        have HA := Lib.hid hall
        clear hall
        by_cases hlt : i < g.edges.length
        · have hxi : g.edges[i]? = some g.edges[i] := List.getElem?_eq_getElem hlt
          obtain ⟨b, o', rfl, -, hb1, hc⟩ := HX2.out i _ hxi
          generalize g.edges[i] = x at hc hxi
          have hb1' : b < w.heap.size + 1 := by omega
          have c0 := hc 0 _ rfl
          have c1' := hc 1 _ rfl
          have c2' := hc 2 _ rfl
          have c3 := hc 3 _ rfl
          simp only [Nat.add_zero] at c0
          have HX := Lib.hid hxi
          have hlen : g.vals.length ≤ 9223372036854775807 := by omega
          clear hc hxi
          have hgr : grOk g = ((List.range g.edges.length).all (edAt g.vals.length g.edges) && wi g.vals.length 1 5 && decide (g.edges.length ≤ 12)) := by
            rw [grOk, HV.out]; rfl
          have HGR := Lib.hid hgr
          clear hgr
          cases g4 : edOk g.vals.length x with
          | false =>
            have hfin : grOk g = false := by
              rw [HGR.out, range_all_false hlt (by rw [edAt, HX.out]; simp [g4])]
              rfl
            have HF := Lib.hid hfin
            clear hfin
            go_wp2_with fail
            refine wp_region_ext_lit (by kernel_rfl) (by kernel_rfl) ?_
            repeat (go_big_quiet_step ((go_at_call 148; exact Calls.ext_of (l3Edge_any A1 g.vals.length c1 _ x _ hlen))))
            refine wpQuiet_nil ?_
            intro _ hw'
            obtain ⟨u2, hw''⟩ := hw'
            subst hw''
            go_wp2_with fail
            go_ret
            exact ⟨by rw [HF.out]; rfl, below_trans hb0 (below_trans (ext_below _ _) (ext_below _ _))⟩
          | true =>
            have G4 := Lib.hid g4
            have hbx : ∀ u2, ∃ z, ext (ext (w.alloc (.cells #[.slice A1 g.vals.length c1, .slice (some ⟨b, o', none⟩) g.edges.length c2] 48)) u) u2 = ext (w.alloc (.cells #[.slice A1 g.vals.length c1, .slice (some ⟨b, o', none⟩) g.edges.length c2] 48)) z :=
              fun u2 => ext_of (below_trans (ext_below _ _) (ext_below _ _))
            by_cases hi0 : i = 0
            · subst hi0
              have hat : edAt g.vals.length g.edges 0 = true := by rw [edAt, HX.out]; simp [G4.out]
              have HAT := Lib.hid hat
              clear hat
              simp only [Nat.zero_mul, Nat.add_zero, Nat.zero_add] at c0 c1' c2' c3
              go_wp2_with fail
              refine wp_region_ext_lit (by kernel_rfl) (by kernel_rfl) ?_
              repeat (go_big_quiet_step ((go_at_call 148; exact Calls.ext_of (l3Edge_any A1 g.vals.length c1 _ x _ hlen))))
              refine wpQuiet_nil ?_
              intro _ hw'
              obtain ⟨u2, hw''⟩ := hw'
              subst hw''
              go_wp2_with fail
              go_roundw
              case rel =>
                obtain ⟨z, hz⟩ := hbx u2
                exact ⟨1, z, by omega, by go_num, range_all_succ HA.out HAT.out, hz⟩
              case measure => simp [intOf]; omega
            · have hi1 : 0 < i := by omega
              have hxj : g.edges[i - 1]? = some g.edges[i - 1] := List.getElem?_eq_getElem (by omega)
              obtain ⟨b9, o9, ho9, -, -, hcj⟩ := HX2.out (i - 1) _ hxj
              obtain ⟨rfl, rfl⟩ : b = b9 ∧ o' = o9 := by injection ho9 with h1; injection h1 with h1 h2; exact ⟨h1, h2⟩
              generalize g.edges[i - 1] = p at hcj hxj
              have hb1' : b < w.heap.size + 1 := by omega
              have p0 := hcj 0 _ rfl
              simp only [Nat.add_zero] at p0
              have HXJ := Lib.hid hxj
              have hi00 : ((i : Int) > 0) := by omega
              clear hcj hxj ho9
              by_cases hlt2 : p.1 < x.1
              · have hat : edAt g.vals.length g.edges i = true := by rw [edAt, HX.out]; simp [G4.out, HXJ.out, hlt2]
                have hge : decide (p.1 ≥ x.1) = false := by simp; omega
                have HAT := Lib.hid hat
                clear hat
                go_wp2_with fail
                have q1 : IntKind.i64.wrap ((i : Int) - 1) = (i : Int) - 1 := IntWalk.i64_in _ (by omega)
                have q2 : 0 ≤ (i : Int) - 1 := by omega
                have q3 : (i : Int) - 1 < (g.edges.length : Int) := by omega
                have q4 : ((i : Int) - 1).toNat = i - 1 := by omega
                refine wp_region_ext_lit (by kernel_rfl) (by kernel_rfl) ?_
                repeat (go_big_quiet_step ((go_at_call 148; exact Calls.ext_of (l3Edge_any A1 g.vals.length c1 _ x _ hlen))))
                refine wpQuiet_nil ?_
                intro _ hw'
                obtain ⟨u2, hw''⟩ := hw'
                subst hw''
                clear q1 q2 q3 q4
                go_wp2_with fail
                go_roundw
                case rel =>
                  obtain ⟨z, hz⟩ := hbx u2
                  exact ⟨i + 1, z, by omega, by go_num, range_all_succ HA.out HAT.out, hz⟩
                case measure => simp [intOf]; omega
              · have hfin : grOk g = false := by
                  rw [HGR.out, range_all_false hlt (by rw [edAt, HX.out]; simp [G4.out, HXJ.out, hi0]; omega)]
                  rfl
                have hge : decide (p.1 ≥ x.1) = true := by simp; omega
                have HF := Lib.hid hfin
                clear hfin
                go_wp2_with fail
                have q1 : IntKind.i64.wrap ((i : Int) - 1) = (i : Int) - 1 := IntWalk.i64_in _ (by omega)
                have q2 : 0 ≤ (i : Int) - 1 := by omega
                have q3 : (i : Int) - 1 < (g.edges.length : Int) := by omega
                have q4 : ((i : Int) - 1).toNat = i - 1 := by omega
                refine wp_region_ext_lit (by kernel_rfl) (by kernel_rfl) ?_
                repeat (go_big_quiet_step ((go_at_call 148; exact Calls.ext_of (l3Edge_any A1 g.vals.length c1 _ x _ hlen))))
                refine wpQuiet_nil ?_
                intro _ hw'
                obtain ⟨u2, hw''⟩ := hw'
                subst hw''
                clear q1 q2 q3 q4
                go_wp2_with fail
                go_ret
                exact ⟨by rw [HF.out]; rfl, below_trans hb0 (below_trans (ext_below _ _) (ext_below _ _))⟩
        · obtain rfl : i = g.edges.length := by omega
          have hgr : grOk g = (wi g.vals.length 1 5 && decide (g.edges.length ≤ 12)) := by
            rw [grOk, HV.out, HA.out]; rfl
          have HGR := Lib.hid hgr
          clear hgr HA HV
          cases g5 : wi g.vals.length 1 5 with
          | false =>
            rw [g5] at HGR
            go_wp2_with (go_at_call 77; refine (HW.out _ _ _ _).mono ?_; rintro e w' ⟨rfl, rfl⟩)
            go_ret
            exact ⟨by rw [HGR.out]; rfl, below_trans hb0 (ext_below _ _)⟩
          | true =>
            rw [g5] at HGR
            have HG5 := Lib.hid g5
            by_cases g6 : g.edges.length ≤ 12
            · have g6' : decide ((g.edges.length : Int) ≤ 12) = true := by simp; omega
              have hfin : grOk g = true := by rw [HGR.out]; simp [g6]
              have HF := Lib.hid hfin
              clear hfin HGR
              go_wp2_with (go_at_call 77; refine (HW.out _ _ _ _).mono ?_; rintro e w' ⟨rfl, rfl⟩)
              go_ret
              exact ⟨by rw [HF.out]; rfl, below_trans hb0 (ext_below _ _)⟩
            · have g6' : decide ((g.edges.length : Int) ≤ 12) = false := by simp; omega
              have hfin : grOk g = false := by rw [HGR.out]; simp [g6]
              have HF := Lib.hid hfin
              clear hfin HGR
              go_wp2_with (go_at_call 77; refine (HW.out _ _ _ _).mono ?_; rintro e w' ⟨rfl, rfl⟩)
              go_ret
              exact ⟨by rw [HF.out]; rfl, below_trans hb0 (ext_below _ _)⟩
end Go.Proofs.Ytmlfkledhnlkeaa

/- What a drawn region reads is kept behind calls, new blocks and appends to rows of other blocks. -/
namespace Go.Proofs.Ytmlfkledhnlkeaa
set_option linter.unusedVariables false
set_option linter.unusedSimpArgs false
open Go.ChangeShapes Go.WideShapes Go.ChangeAt Go.RowKit
section
variable {w w' : World}
theorem kcell (hb : Below w.heap.size w w') {p : Addr} {v : Value} (h : w.cell? p = some v) : w'.cell? p = some v := (hb.cell (World.block_lt_of_cell? w _ h)).trans h
theorem kfb (hb : Below w.heap.size w w') {p : Addr} {v : Value} (hc : w.cell? p = some v) (hf : w.frozen? p = false) : w'.frozen? p = false := (hb.frozen (World.block_lt_of_cell? w _ hc)).trans hf
theorem kfg {row : Option Nat} (hg : w.grownBy w' row) {p : Addr} {v : Value} (hn : some p.block ≠ row) (hc : w.cell? p = some v) (hf : w.frozen? p = false) : w'.frozen? p = false := (World.frozen?_of_block (hg.block p.block (World.block_lt_of_cell? w _ hc) hn)).trans hf
theorem kB2 {p0 p1 : Addr} {v0 v1 : Value} (hb : Below w.heap.size w w') (h : w.cell? p0 = some v0 ∧ w.cell? p1 = some v1) : w'.cell? p0 = some v0 ∧ w'.cell? p1 = some v1 := by
  obtain ⟨c0, c1⟩ := h
  exact ⟨kcell hb c0, kcell hb c1⟩
theorem kA2 {p0 p1 : Addr} {v0 v1 : Value} (o : Obj) (h : w.cell? p0 = some v0 ∧ w.cell? p1 = some v1) : (w.alloc o).cell? p0 = some v0 ∧ (w.alloc o).cell? p1 = some v1 := kB2 ((Below.refl _ _).alloc (Nat.le_refl _) _) h
theorem kS2 {p0 p1 q : Addr} {v0 v1 x : Value} (n0 : q.block ≠ p0.block) (n1 : q.block ≠ p1.block) (h : w.cell? p0 = some v0 ∧ w.cell? p1 = some v1) : (w.setCell q x).cell? p0 = some v0 ∧ (w.setCell q x).cell? p1 = some v1 := by
  obtain ⟨c0, c1⟩ := h
  exact ⟨(World.cell?_setCell_far _ _ _ _ n0).trans c0, (World.cell?_setCell_far _ _ _ _ n1).trans c1⟩
theorem kG2 {p0 p1 : Addr} {v0 v1 : Value} {row : Option Nat} (hg : w.grownBy w' row) (n0 : some p0.block ≠ row) (n1 : some p1.block ≠ row) (h : w.cell? p0 = some v0 ∧ w.cell? p1 = some v1) : w'.cell? p0 = some v0 ∧ w'.cell? p1 = some v1 := by
  obtain ⟨c0, c1⟩ := h
  exact ⟨hg.cell c0 n0, hg.cell c1 n1⟩
theorem kB3 {p0 p1 p2 : Addr} {v0 v1 v2 : Value} (hb : Below w.heap.size w w') (h : w.cell? p0 = some v0 ∧ w.cell? p1 = some v1 ∧ w.cell? p2 = some v2) : w'.cell? p0 = some v0 ∧ w'.cell? p1 = some v1 ∧ w'.cell? p2 = some v2 := by
  obtain ⟨c0, c1, c2⟩ := h
  exact ⟨kcell hb c0, kcell hb c1, kcell hb c2⟩
theorem kA3 {p0 p1 p2 : Addr} {v0 v1 v2 : Value} (o : Obj) (h : w.cell? p0 = some v0 ∧ w.cell? p1 = some v1 ∧ w.cell? p2 = some v2) : (w.alloc o).cell? p0 = some v0 ∧ (w.alloc o).cell? p1 = some v1 ∧ (w.alloc o).cell? p2 = some v2 := kB3 ((Below.refl _ _).alloc (Nat.le_refl _) _) h
theorem kS3 {p0 p1 p2 q : Addr} {v0 v1 v2 x : Value} (n0 : q.block ≠ p0.block) (n1 : q.block ≠ p1.block) (n2 : q.block ≠ p2.block) (h : w.cell? p0 = some v0 ∧ w.cell? p1 = some v1 ∧ w.cell? p2 = some v2) : (w.setCell q x).cell? p0 = some v0 ∧ (w.setCell q x).cell? p1 = some v1 ∧ (w.setCell q x).cell? p2 = some v2 := by
  obtain ⟨c0, c1, c2⟩ := h
  exact ⟨(World.cell?_setCell_far _ _ _ _ n0).trans c0, (World.cell?_setCell_far _ _ _ _ n1).trans c1, (World.cell?_setCell_far _ _ _ _ n2).trans c2⟩
theorem kG3 {p0 p1 p2 : Addr} {v0 v1 v2 : Value} {row : Option Nat} (hg : w.grownBy w' row) (n0 : some p0.block ≠ row) (n1 : some p1.block ≠ row) (n2 : some p2.block ≠ row) (h : w.cell? p0 = some v0 ∧ w.cell? p1 = some v1 ∧ w.cell? p2 = some v2) : w'.cell? p0 = some v0 ∧ w'.cell? p1 = some v1 ∧ w'.cell? p2 = some v2 := by
  obtain ⟨c0, c1, c2⟩ := h
  exact ⟨hg.cell c0 n0, hg.cell c1 n1, hg.cell c2 n2⟩
theorem kB4 {p0 p1 p2 p3 : Addr} {v0 v1 v2 v3 : Value} (hb : Below w.heap.size w w') (h : w.cell? p0 = some v0 ∧ w.cell? p1 = some v1 ∧ w.cell? p2 = some v2 ∧ w.cell? p3 = some v3) : w'.cell? p0 = some v0 ∧ w'.cell? p1 = some v1 ∧ w'.cell? p2 = some v2 ∧ w'.cell? p3 = some v3 := by
  obtain ⟨c0, c1, c2, c3⟩ := h
  exact ⟨kcell hb c0, kcell hb c1, kcell hb c2, kcell hb c3⟩
theorem kA4 {p0 p1 p2 p3 : Addr} {v0 v1 v2 v3 : Value} (o : Obj) (h : w.cell? p0 = some v0 ∧ w.cell? p1 = some v1 ∧ w.cell? p2 = some v2 ∧ w.cell? p3 = some v3) : (w.alloc o).cell? p0 = some v0 ∧ (w.alloc o).cell? p1 = some v1 ∧ (w.alloc o).cell? p2 = some v2 ∧ (w.alloc o).cell? p3 = some v3 := kB4 ((Below.refl _ _).alloc (Nat.le_refl _) _) h
theorem kS4 {p0 p1 p2 p3 q : Addr} {v0 v1 v2 v3 x : Value} (n0 : q.block ≠ p0.block) (n1 : q.block ≠ p1.block) (n2 : q.block ≠ p2.block) (n3 : q.block ≠ p3.block) (h : w.cell? p0 = some v0 ∧ w.cell? p1 = some v1 ∧ w.cell? p2 = some v2 ∧ w.cell? p3 = some v3) : (w.setCell q x).cell? p0 = some v0 ∧ (w.setCell q x).cell? p1 = some v1 ∧ (w.setCell q x).cell? p2 = some v2 ∧ (w.setCell q x).cell? p3 = some v3 := by
  obtain ⟨c0, c1, c2, c3⟩ := h
  exact ⟨(World.cell?_setCell_far _ _ _ _ n0).trans c0, (World.cell?_setCell_far _ _ _ _ n1).trans c1, (World.cell?_setCell_far _ _ _ _ n2).trans c2, (World.cell?_setCell_far _ _ _ _ n3).trans c3⟩
theorem kG4 {p0 p1 p2 p3 : Addr} {v0 v1 v2 v3 : Value} {row : Option Nat} (hg : w.grownBy w' row) (n0 : some p0.block ≠ row) (n1 : some p1.block ≠ row) (n2 : some p2.block ≠ row) (n3 : some p3.block ≠ row) (h : w.cell? p0 = some v0 ∧ w.cell? p1 = some v1 ∧ w.cell? p2 = some v2 ∧ w.cell? p3 = some v3) : w'.cell? p0 = some v0 ∧ w'.cell? p1 = some v1 ∧ w'.cell? p2 = some v2 ∧ w'.cell? p3 = some v3 := by
  obtain ⟨c0, c1, c2, c3⟩ := h
  exact ⟨hg.cell c0 n0, hg.cell c1 n1, hg.cell c2 n2, hg.cell c3 n3⟩
theorem kB5 {p0 p1 p2 p3 p4 : Addr} {v0 v1 v2 v3 v4 : Value} (hb : Below w.heap.size w w') (h : w.cell? p0 = some v0 ∧ w.cell? p1 = some v1 ∧ w.cell? p2 = some v2 ∧ w.cell? p3 = some v3 ∧ w.cell? p4 = some v4) : w'.cell? p0 = some v0 ∧ w'.cell? p1 = some v1 ∧ w'.cell? p2 = some v2 ∧ w'.cell? p3 = some v3 ∧ w'.cell? p4 = some v4 := by
  obtain ⟨c0, c1, c2, c3, c4⟩ := h
  exact ⟨kcell hb c0, kcell hb c1, kcell hb c2, kcell hb c3, kcell hb c4⟩
theorem kA5 {p0 p1 p2 p3 p4 : Addr} {v0 v1 v2 v3 v4 : Value} (o : Obj) (h : w.cell? p0 = some v0 ∧ w.cell? p1 = some v1 ∧ w.cell? p2 = some v2 ∧ w.cell? p3 = some v3 ∧ w.cell? p4 = some v4) : (w.alloc o).cell? p0 = some v0 ∧ (w.alloc o).cell? p1 = some v1 ∧ (w.alloc o).cell? p2 = some v2 ∧ (w.alloc o).cell? p3 = some v3 ∧ (w.alloc o).cell? p4 = some v4 := kB5 ((Below.refl _ _).alloc (Nat.le_refl _) _) h
theorem kS5 {p0 p1 p2 p3 p4 q : Addr} {v0 v1 v2 v3 v4 x : Value} (n0 : q.block ≠ p0.block) (n1 : q.block ≠ p1.block) (n2 : q.block ≠ p2.block) (n3 : q.block ≠ p3.block) (n4 : q.block ≠ p4.block) (h : w.cell? p0 = some v0 ∧ w.cell? p1 = some v1 ∧ w.cell? p2 = some v2 ∧ w.cell? p3 = some v3 ∧ w.cell? p4 = some v4) : (w.setCell q x).cell? p0 = some v0 ∧ (w.setCell q x).cell? p1 = some v1 ∧ (w.setCell q x).cell? p2 = some v2 ∧ (w.setCell q x).cell? p3 = some v3 ∧ (w.setCell q x).cell? p4 = some v4 := by
  obtain ⟨c0, c1, c2, c3, c4⟩ := h
  exact ⟨(World.cell?_setCell_far _ _ _ _ n0).trans c0, (World.cell?_setCell_far _ _ _ _ n1).trans c1, (World.cell?_setCell_far _ _ _ _ n2).trans c2, (World.cell?_setCell_far _ _ _ _ n3).trans c3, (World.cell?_setCell_far _ _ _ _ n4).trans c4⟩
theorem kG5 {p0 p1 p2 p3 p4 : Addr} {v0 v1 v2 v3 v4 : Value} {row : Option Nat} (hg : w.grownBy w' row) (n0 : some p0.block ≠ row) (n1 : some p1.block ≠ row) (n2 : some p2.block ≠ row) (n3 : some p3.block ≠ row) (n4 : some p4.block ≠ row) (h : w.cell? p0 = some v0 ∧ w.cell? p1 = some v1 ∧ w.cell? p2 = some v2 ∧ w.cell? p3 = some v3 ∧ w.cell? p4 = some v4) : w'.cell? p0 = some v0 ∧ w'.cell? p1 = some v1 ∧ w'.cell? p2 = some v2 ∧ w'.cell? p3 = some v3 ∧ w'.cell? p4 = some v4 := by
  obtain ⟨c0, c1, c2, c3, c4⟩ := h
  exact ⟨hg.cell c0 n0, hg.cell c1 n1, hg.cell c2 n2, hg.cell c3 n3, hg.cell c4 n4⟩
theorem kB6 {p0 p1 p2 p3 p4 p5 : Addr} {v0 v1 v2 v3 v4 v5 : Value} (hb : Below w.heap.size w w') (h : w.cell? p0 = some v0 ∧ w.cell? p1 = some v1 ∧ w.cell? p2 = some v2 ∧ w.cell? p3 = some v3 ∧ w.cell? p4 = some v4 ∧ w.cell? p5 = some v5) : w'.cell? p0 = some v0 ∧ w'.cell? p1 = some v1 ∧ w'.cell? p2 = some v2 ∧ w'.cell? p3 = some v3 ∧ w'.cell? p4 = some v4 ∧ w'.cell? p5 = some v5 := by
  obtain ⟨c0, c1, c2, c3, c4, c5⟩ := h
  exact ⟨kcell hb c0, kcell hb c1, kcell hb c2, kcell hb c3, kcell hb c4, kcell hb c5⟩
theorem kA6 {p0 p1 p2 p3 p4 p5 : Addr} {v0 v1 v2 v3 v4 v5 : Value} (o : Obj) (h : w.cell? p0 = some v0 ∧ w.cell? p1 = some v1 ∧ w.cell? p2 = some v2 ∧ w.cell? p3 = some v3 ∧ w.cell? p4 = some v4 ∧ w.cell? p5 = some v5) : (w.alloc o).cell? p0 = some v0 ∧ (w.alloc o).cell? p1 = some v1 ∧ (w.alloc o).cell? p2 = some v2 ∧ (w.alloc o).cell? p3 = some v3 ∧ (w.alloc o).cell? p4 = some v4 ∧ (w.alloc o).cell? p5 = some v5 := kB6 ((Below.refl _ _).alloc (Nat.le_refl _) _) h
theorem kS6 {p0 p1 p2 p3 p4 p5 q : Addr} {v0 v1 v2 v3 v4 v5 x : Value} (n0 : q.block ≠ p0.block) (n1 : q.block ≠ p1.block) (n2 : q.block ≠ p2.block) (n3 : q.block ≠ p3.block) (n4 : q.block ≠ p4.block) (n5 : q.block ≠ p5.block) (h : w.cell? p0 = some v0 ∧ w.cell? p1 = some v1 ∧ w.cell? p2 = some v2 ∧ w.cell? p3 = some v3 ∧ w.cell? p4 = some v4 ∧ w.cell? p5 = some v5) : (w.setCell q x).cell? p0 = some v0 ∧ (w.setCell q x).cell? p1 = some v1 ∧ (w.setCell q x).cell? p2 = some v2 ∧ (w.setCell q x).cell? p3 = some v3 ∧ (w.setCell q x).cell? p4 = some v4 ∧ (w.setCell q x).cell? p5 = some v5 := by
  obtain ⟨c0, c1, c2, c3, c4, c5⟩ := h
  exact ⟨(World.cell?_setCell_far _ _ _ _ n0).trans c0, (World.cell?_setCell_far _ _ _ _ n1).trans c1, (World.cell?_setCell_far _ _ _ _ n2).trans c2, (World.cell?_setCell_far _ _ _ _ n3).trans c3, (World.cell?_setCell_far _ _ _ _ n4).trans c4, (World.cell?_setCell_far _ _ _ _ n5).trans c5⟩
theorem kG6 {p0 p1 p2 p3 p4 p5 : Addr} {v0 v1 v2 v3 v4 v5 : Value} {row : Option Nat} (hg : w.grownBy w' row) (n0 : some p0.block ≠ row) (n1 : some p1.block ≠ row) (n2 : some p2.block ≠ row) (n3 : some p3.block ≠ row) (n4 : some p4.block ≠ row) (n5 : some p5.block ≠ row) (h : w.cell? p0 = some v0 ∧ w.cell? p1 = some v1 ∧ w.cell? p2 = some v2 ∧ w.cell? p3 = some v3 ∧ w.cell? p4 = some v4 ∧ w.cell? p5 = some v5) : w'.cell? p0 = some v0 ∧ w'.cell? p1 = some v1 ∧ w'.cell? p2 = some v2 ∧ w'.cell? p3 = some v3 ∧ w'.cell? p4 = some v4 ∧ w'.cell? p5 = some v5 := by
  obtain ⟨c0, c1, c2, c3, c4, c5⟩ := h
  exact ⟨hg.cell c0 n0, hg.cell c1 n1, hg.cell c2 n2, hg.cell c3 n3, hg.cell c4 n4, hg.cell c5 n5⟩
theorem kB7 {p0 p1 p2 p3 p4 p5 p6 : Addr} {v0 v1 v2 v3 v4 v5 v6 : Value} (hb : Below w.heap.size w w') (h : w.cell? p0 = some v0 ∧ w.cell? p1 = some v1 ∧ w.cell? p2 = some v2 ∧ w.cell? p3 = some v3 ∧ w.cell? p4 = some v4 ∧ w.cell? p5 = some v5 ∧ w.cell? p6 = some v6) : w'.cell? p0 = some v0 ∧ w'.cell? p1 = some v1 ∧ w'.cell? p2 = some v2 ∧ w'.cell? p3 = some v3 ∧ w'.cell? p4 = some v4 ∧ w'.cell? p5 = some v5 ∧ w'.cell? p6 = some v6 := by
  obtain ⟨c0, c1, c2, c3, c4, c5, c6⟩ := h
  exact ⟨kcell hb c0, kcell hb c1, kcell hb c2, kcell hb c3, kcell hb c4, kcell hb c5, kcell hb c6⟩
theorem kA7 {p0 p1 p2 p3 p4 p5 p6 : Addr} {v0 v1 v2 v3 v4 v5 v6 : Value} (o : Obj) (h : w.cell? p0 = some v0 ∧ w.cell? p1 = some v1 ∧ w.cell? p2 = some v2 ∧ w.cell? p3 = some v3 ∧ w.cell? p4 = some v4 ∧ w.cell? p5 = some v5 ∧ w.cell? p6 = some v6) : (w.alloc o).cell? p0 = some v0 ∧ (w.alloc o).cell? p1 = some v1 ∧ (w.alloc o).cell? p2 = some v2 ∧ (w.alloc o).cell? p3 = some v3 ∧ (w.alloc o).cell? p4 = some v4 ∧ (w.alloc o).cell? p5 = some v5 ∧ (w.alloc o).cell? p6 = some v6 := kB7 ((Below.refl _ _).alloc (Nat.le_refl _) _) h
theorem kS7 {p0 p1 p2 p3 p4 p5 p6 q : Addr} {v0 v1 v2 v3 v4 v5 v6 x : Value} (n0 : q.block ≠ p0.block) (n1 : q.block ≠ p1.block) (n2 : q.block ≠ p2.block) (n3 : q.block ≠ p3.block) (n4 : q.block ≠ p4.block) (n5 : q.block ≠ p5.block) (n6 : q.block ≠ p6.block) (h : w.cell? p0 = some v0 ∧ w.cell? p1 = some v1 ∧ w.cell? p2 = some v2 ∧ w.cell? p3 = some v3 ∧ w.cell? p4 = some v4 ∧ w.cell? p5 = some v5 ∧ w.cell? p6 = some v6) : (w.setCell q x).cell? p0 = some v0 ∧ (w.setCell q x).cell? p1 = some v1 ∧ (w.setCell q x).cell? p2 = some v2 ∧ (w.setCell q x).cell? p3 = some v3 ∧ (w.setCell q x).cell? p4 = some v4 ∧ (w.setCell q x).cell? p5 = some v5 ∧ (w.setCell q x).cell? p6 = some v6 := by
  obtain ⟨c0, c1, c2, c3, c4, c5, c6⟩ := h
  exact ⟨(World.cell?_setCell_far _ _ _ _ n0).trans c0, (World.cell?_setCell_far _ _ _ _ n1).trans c1, (World.cell?_setCell_far _ _ _ _ n2).trans c2, (World.cell?_setCell_far _ _ _ _ n3).trans c3, (World.cell?_setCell_far _ _ _ _ n4).trans c4, (World.cell?_setCell_far _ _ _ _ n5).trans c5, (World.cell?_setCell_far _ _ _ _ n6).trans c6⟩
theorem kG7 {p0 p1 p2 p3 p4 p5 p6 : Addr} {v0 v1 v2 v3 v4 v5 v6 : Value} {row : Option Nat} (hg : w.grownBy w' row) (n0 : some p0.block ≠ row) (n1 : some p1.block ≠ row) (n2 : some p2.block ≠ row) (n3 : some p3.block ≠ row) (n4 : some p4.block ≠ row) (n5 : some p5.block ≠ row) (n6 : some p6.block ≠ row) (h : w.cell? p0 = some v0 ∧ w.cell? p1 = some v1 ∧ w.cell? p2 = some v2 ∧ w.cell? p3 = some v3 ∧ w.cell? p4 = some v4 ∧ w.cell? p5 = some v5 ∧ w.cell? p6 = some v6) : w'.cell? p0 = some v0 ∧ w'.cell? p1 = some v1 ∧ w'.cell? p2 = some v2 ∧ w'.cell? p3 = some v3 ∧ w'.cell? p4 = some v4 ∧ w'.cell? p5 = some v5 ∧ w'.cell? p6 = some v6 := by
  obtain ⟨c0, c1, c2, c3, c4, c5, c6⟩ := h
  exact ⟨hg.cell c0 n0, hg.cell c1 n1, hg.cell c2 n2, hg.cell c3 n3, hg.cell c4 n4, hg.cell c5 n5, hg.cell c6 n6⟩
theorem kB8 {p0 p1 p2 p3 p4 p5 p6 p7 : Addr} {v0 v1 v2 v3 v4 v5 v6 v7 : Value} (hb : Below w.heap.size w w') (h : w.cell? p0 = some v0 ∧ w.cell? p1 = some v1 ∧ w.cell? p2 = some v2 ∧ w.cell? p3 = some v3 ∧ w.cell? p4 = some v4 ∧ w.cell? p5 = some v5 ∧ w.cell? p6 = some v6 ∧ w.cell? p7 = some v7) : w'.cell? p0 = some v0 ∧ w'.cell? p1 = some v1 ∧ w'.cell? p2 = some v2 ∧ w'.cell? p3 = some v3 ∧ w'.cell? p4 = some v4 ∧ w'.cell? p5 = some v5 ∧ w'.cell? p6 = some v6 ∧ w'.cell? p7 = some v7 := by
  obtain ⟨c0, c1, c2, c3, c4, c5, c6, c7⟩ := h
  exact ⟨kcell hb c0, kcell hb c1, kcell hb c2, kcell hb c3, kcell hb c4, kcell hb c5, kcell hb c6, kcell hb c7⟩
theorem kA8 {p0 p1 p2 p3 p4 p5 p6 p7 : Addr} {v0 v1 v2 v3 v4 v5 v6 v7 : Value} (o : Obj) (h : w.cell? p0 = some v0 ∧ w.cell? p1 = some v1 ∧ w.cell? p2 = some v2 ∧ w.cell? p3 = some v3 ∧ w.cell? p4 = some v4 ∧ w.cell? p5 = some v5 ∧ w.cell? p6 = some v6 ∧ w.cell? p7 = some v7) : (w.alloc o).cell? p0 = some v0 ∧ (w.alloc o).cell? p1 = some v1 ∧ (w.alloc o).cell? p2 = some v2 ∧ (w.alloc o).cell? p3 = some v3 ∧ (w.alloc o).cell? p4 = some v4 ∧ (w.alloc o).cell? p5 = some v5 ∧ (w.alloc o).cell? p6 = some v6 ∧ (w.alloc o).cell? p7 = some v7 := kB8 ((Below.refl _ _).alloc (Nat.le_refl _) _) h
theorem kS8 {p0 p1 p2 p3 p4 p5 p6 p7 q : Addr} {v0 v1 v2 v3 v4 v5 v6 v7 x : Value} (n0 : q.block ≠ p0.block) (n1 : q.block ≠ p1.block) (n2 : q.block ≠ p2.block) (n3 : q.block ≠ p3.block) (n4 : q.block ≠ p4.block) (n5 : q.block ≠ p5.block) (n6 : q.block ≠ p6.block) (n7 : q.block ≠ p7.block) (h : w.cell? p0 = some v0 ∧ w.cell? p1 = some v1 ∧ w.cell? p2 = some v2 ∧ w.cell? p3 = some v3 ∧ w.cell? p4 = some v4 ∧ w.cell? p5 = some v5 ∧ w.cell? p6 = some v6 ∧ w.cell? p7 = some v7) : (w.setCell q x).cell? p0 = some v0 ∧ (w.setCell q x).cell? p1 = some v1 ∧ (w.setCell q x).cell? p2 = some v2 ∧ (w.setCell q x).cell? p3 = some v3 ∧ (w.setCell q x).cell? p4 = some v4 ∧ (w.setCell q x).cell? p5 = some v5 ∧ (w.setCell q x).cell? p6 = some v6 ∧ (w.setCell q x).cell? p7 = some v7 := by
  obtain ⟨c0, c1, c2, c3, c4, c5, c6, c7⟩ := h
  exact ⟨(World.cell?_setCell_far _ _ _ _ n0).trans c0, (World.cell?_setCell_far _ _ _ _ n1).trans c1, (World.cell?_setCell_far _ _ _ _ n2).trans c2, (World.cell?_setCell_far _ _ _ _ n3).trans c3, (World.cell?_setCell_far _ _ _ _ n4).trans c4, (World.cell?_setCell_far _ _ _ _ n5).trans c5, (World.cell?_setCell_far _ _ _ _ n6).trans c6, (World.cell?_setCell_far _ _ _ _ n7).trans c7⟩
theorem kG8 {p0 p1 p2 p3 p4 p5 p6 p7 : Addr} {v0 v1 v2 v3 v4 v5 v6 v7 : Value} {row : Option Nat} (hg : w.grownBy w' row) (n0 : some p0.block ≠ row) (n1 : some p1.block ≠ row) (n2 : some p2.block ≠ row) (n3 : some p3.block ≠ row) (n4 : some p4.block ≠ row) (n5 : some p5.block ≠ row) (n6 : some p6.block ≠ row) (n7 : some p7.block ≠ row) (h : w.cell? p0 = some v0 ∧ w.cell? p1 = some v1 ∧ w.cell? p2 = some v2 ∧ w.cell? p3 = some v3 ∧ w.cell? p4 = some v4 ∧ w.cell? p5 = some v5 ∧ w.cell? p6 = some v6 ∧ w.cell? p7 = some v7) : w'.cell? p0 = some v0 ∧ w'.cell? p1 = some v1 ∧ w'.cell? p2 = some v2 ∧ w'.cell? p3 = some v3 ∧ w'.cell? p4 = some v4 ∧ w'.cell? p5 = some v5 ∧ w'.cell? p6 = some v6 ∧ w'.cell? p7 = some v7 := by
  obtain ⟨c0, c1, c2, c3, c4, c5, c6, c7⟩ := h
  exact ⟨hg.cell c0 n0, hg.cell c1 n1, hg.cell c2 n2, hg.cell c3 n3, hg.cell c4 n4, hg.cell c5 n5, hg.cell c6 n6, hg.cell c7 n7⟩
theorem kB9 {p0 p1 p2 p3 p4 p5 p6 p7 p8 : Addr} {v0 v1 v2 v3 v4 v5 v6 v7 v8 : Value} (hb : Below w.heap.size w w') (h : w.cell? p0 = some v0 ∧ w.cell? p1 = some v1 ∧ w.cell? p2 = some v2 ∧ w.cell? p3 = some v3 ∧ w.cell? p4 = some v4 ∧ w.cell? p5 = some v5 ∧ w.cell? p6 = some v6 ∧ w.cell? p7 = some v7 ∧ w.cell? p8 = some v8) : w'.cell? p0 = some v0 ∧ w'.cell? p1 = some v1 ∧ w'.cell? p2 = some v2 ∧ w'.cell? p3 = some v3 ∧ w'.cell? p4 = some v4 ∧ w'.cell? p5 = some v5 ∧ w'.cell? p6 = some v6 ∧ w'.cell? p7 = some v7 ∧ w'.cell? p8 = some v8 := by
  obtain ⟨c0, c1, c2, c3, c4, c5, c6, c7, c8⟩ := h
  exact ⟨kcell hb c0, kcell hb c1, kcell hb c2, kcell hb c3, kcell hb c4, kcell hb c5, kcell hb c6, kcell hb c7, kcell hb c8⟩
theorem kA9 {p0 p1 p2 p3 p4 p5 p6 p7 p8 : Addr} {v0 v1 v2 v3 v4 v5 v6 v7 v8 : Value} (o : Obj) (h : w.cell? p0 = some v0 ∧ w.cell? p1 = some v1 ∧ w.cell? p2 = some v2 ∧ w.cell? p3 = some v3 ∧ w.cell? p4 = some v4 ∧ w.cell? p5 = some v5 ∧ w.cell? p6 = some v6 ∧ w.cell? p7 = some v7 ∧ w.cell? p8 = some v8) : (w.alloc o).cell? p0 = some v0 ∧ (w.alloc o).cell? p1 = some v1 ∧ (w.alloc o).cell? p2 = some v2 ∧ (w.alloc o).cell? p3 = some v3 ∧ (w.alloc o).cell? p4 = some v4 ∧ (w.alloc o).cell? p5 = some v5 ∧ (w.alloc o).cell? p6 = some v6 ∧ (w.alloc o).cell? p7 = some v7 ∧ (w.alloc o).cell? p8 = some v8 := kB9 ((Below.refl _ _).alloc (Nat.le_refl _) _) h
theorem kS9 {p0 p1 p2 p3 p4 p5 p6 p7 p8 q : Addr} {v0 v1 v2 v3 v4 v5 v6 v7 v8 x : Value} (n0 : q.block ≠ p0.block) (n1 : q.block ≠ p1.block) (n2 : q.block ≠ p2.block) (n3 : q.block ≠ p3.block) (n4 : q.block ≠ p4.block) (n5 : q.block ≠ p5.block) (n6 : q.block ≠ p6.block) (n7 : q.block ≠ p7.block) (n8 : q.block ≠ p8.block) (h : w.cell? p0 = some v0 ∧ w.cell? p1 = some v1 ∧ w.cell? p2 = some v2 ∧ w.cell? p3 = some v3 ∧ w.cell? p4 = some v4 ∧ w.cell? p5 = some v5 ∧ w.cell? p6 = some v6 ∧ w.cell? p7 = some v7 ∧ w.cell? p8 = some v8) : (w.setCell q x).cell? p0 = some v0 ∧ (w.setCell q x).cell? p1 = some v1 ∧ (w.setCell q x).cell? p2 = some v2 ∧ (w.setCell q x).cell? p3 = some v3 ∧ (w.setCell q x).cell? p4 = some v4 ∧ (w.setCell q x).cell? p5 = some v5 ∧ (w.setCell q x).cell? p6 = some v6 ∧ (w.setCell q x).cell? p7 = some v7 ∧ (w.setCell q x).cell? p8 = some v8 := by
  obtain ⟨c0, c1, c2, c3, c4, c5, c6, c7, c8⟩ := h
  exact ⟨(World.cell?_setCell_far _ _ _ _ n0).trans c0, (World.cell?_setCell_far _ _ _ _ n1).trans c1, (World.cell?_setCell_far _ _ _ _ n2).trans c2, (World.cell?_setCell_far _ _ _ _ n3).trans c3, (World.cell?_setCell_far _ _ _ _ n4).trans c4, (World.cell?_setCell_far _ _ _ _ n5).trans c5, (World.cell?_setCell_far _ _ _ _ n6).trans c6, (World.cell?_setCell_far _ _ _ _ n7).trans c7, (World.cell?_setCell_far _ _ _ _ n8).trans c8⟩
theorem kG9 {p0 p1 p2 p3 p4 p5 p6 p7 p8 : Addr} {v0 v1 v2 v3 v4 v5 v6 v7 v8 : Value} {row : Option Nat} (hg : w.grownBy w' row) (n0 : some p0.block ≠ row) (n1 : some p1.block ≠ row) (n2 : some p2.block ≠ row) (n3 : some p3.block ≠ row) (n4 : some p4.block ≠ row) (n5 : some p5.block ≠ row) (n6 : some p6.block ≠ row) (n7 : some p7.block ≠ row) (n8 : some p8.block ≠ row) (h : w.cell? p0 = some v0 ∧ w.cell? p1 = some v1 ∧ w.cell? p2 = some v2 ∧ w.cell? p3 = some v3 ∧ w.cell? p4 = some v4 ∧ w.cell? p5 = some v5 ∧ w.cell? p6 = some v6 ∧ w.cell? p7 = some v7 ∧ w.cell? p8 = some v8) : w'.cell? p0 = some v0 ∧ w'.cell? p1 = some v1 ∧ w'.cell? p2 = some v2 ∧ w'.cell? p3 = some v3 ∧ w'.cell? p4 = some v4 ∧ w'.cell? p5 = some v5 ∧ w'.cell? p6 = some v6 ∧ w'.cell? p7 = some v7 ∧ w'.cell? p8 = some v8 := by
  obtain ⟨c0, c1, c2, c3, c4, c5, c6, c7, c8⟩ := h
  exact ⟨hg.cell c0 n0, hg.cell c1 n1, hg.cell c2 n2, hg.cell c3 n3, hg.cell c4 n4, hg.cell c5 n5, hg.cell c6 n6, hg.cell c7 n7, hg.cell c8 n8⟩
theorem kB10 {p0 p1 p2 p3 p4 p5 p6 p7 p8 p9 : Addr} {v0 v1 v2 v3 v4 v5 v6 v7 v8 v9 : Value} (hb : Below w.heap.size w w') (h : w.cell? p0 = some v0 ∧ w.cell? p1 = some v1 ∧ w.cell? p2 = some v2 ∧ w.cell? p3 = some v3 ∧ w.cell? p4 = some v4 ∧ w.cell? p5 = some v5 ∧ w.cell? p6 = some v6 ∧ w.cell? p7 = some v7 ∧ w.cell? p8 = some v8 ∧ w.cell? p9 = some v9) : w'.cell? p0 = some v0 ∧ w'.cell? p1 = some v1 ∧ w'.cell? p2 = some v2 ∧ w'.cell? p3 = some v3 ∧ w'.cell? p4 = some v4 ∧ w'.cell? p5 = some v5 ∧ w'.cell? p6 = some v6 ∧ w'.cell? p7 = some v7 ∧ w'.cell? p8 = some v8 ∧ w'.cell? p9 = some v9 := by
  obtain ⟨c0, c1, c2, c3, c4, c5, c6, c7, c8, c9⟩ := h
  exact ⟨kcell hb c0, kcell hb c1, kcell hb c2, kcell hb c3, kcell hb c4, kcell hb c5, kcell hb c6, kcell hb c7, kcell hb c8, kcell hb c9⟩
theorem kA10 {p0 p1 p2 p3 p4 p5 p6 p7 p8 p9 : Addr} {v0 v1 v2 v3 v4 v5 v6 v7 v8 v9 : Value} (o : Obj) (h : w.cell? p0 = some v0 ∧ w.cell? p1 = some v1 ∧ w.cell? p2 = some v2 ∧ w.cell? p3 = some v3 ∧ w.cell? p4 = some v4 ∧ w.cell? p5 = some v5 ∧ w.cell? p6 = some v6 ∧ w.cell? p7 = some v7 ∧ w.cell? p8 = some v8 ∧ w.cell? p9 = some v9) : (w.alloc o).cell? p0 = some v0 ∧ (w.alloc o).cell? p1 = some v1 ∧ (w.alloc o).cell? p2 = some v2 ∧ (w.alloc o).cell? p3 = some v3 ∧ (w.alloc o).cell? p4 = some v4 ∧ (w.alloc o).cell? p5 = some v5 ∧ (w.alloc o).cell? p6 = some v6 ∧ (w.alloc o).cell? p7 = some v7 ∧ (w.alloc o).cell? p8 = some v8 ∧ (w.alloc o).cell? p9 = some v9 := kB10 ((Below.refl _ _).alloc (Nat.le_refl _) _) h
theorem kS10 {p0 p1 p2 p3 p4 p5 p6 p7 p8 p9 q : Addr} {v0 v1 v2 v3 v4 v5 v6 v7 v8 v9 x : Value} (n0 : q.block ≠ p0.block) (n1 : q.block ≠ p1.block) (n2 : q.block ≠ p2.block) (n3 : q.block ≠ p3.block) (n4 : q.block ≠ p4.block) (n5 : q.block ≠ p5.block) (n6 : q.block ≠ p6.block) (n7 : q.block ≠ p7.block) (n8 : q.block ≠ p8.block) (n9 : q.block ≠ p9.block) (h : w.cell? p0 = some v0 ∧ w.cell? p1 = some v1 ∧ w.cell? p2 = some v2 ∧ w.cell? p3 = some v3 ∧ w.cell? p4 = some v4 ∧ w.cell? p5 = some v5 ∧ w.cell? p6 = some v6 ∧ w.cell? p7 = some v7 ∧ w.cell? p8 = some v8 ∧ w.cell? p9 = some v9) : (w.setCell q x).cell? p0 = some v0 ∧ (w.setCell q x).cell? p1 = some v1 ∧ (w.setCell q x).cell? p2 = some v2 ∧ (w.setCell q x).cell? p3 = some v3 ∧ (w.setCell q x).cell? p4 = some v4 ∧ (w.setCell q x).cell? p5 = some v5 ∧ (w.setCell q x).cell? p6 = some v6 ∧ (w.setCell q x).cell? p7 = some v7 ∧ (w.setCell q x).cell? p8 = some v8 ∧ (w.setCell q x).cell? p9 = some v9 := by
  obtain ⟨c0, c1, c2, c3, c4, c5, c6, c7, c8, c9⟩ := h
  exact ⟨(World.cell?_setCell_far _ _ _ _ n0).trans c0, (World.cell?_setCell_far _ _ _ _ n1).trans c1, (World.cell?_setCell_far _ _ _ _ n2).trans c2, (World.cell?_setCell_far _ _ _ _ n3).trans c3, (World.cell?_setCell_far _ _ _ _ n4).trans c4, (World.cell?_setCell_far _ _ _ _ n5).trans c5, (World.cell?_setCell_far _ _ _ _ n6).trans c6, (World.cell?_setCell_far _ _ _ _ n7).trans c7, (World.cell?_setCell_far _ _ _ _ n8).trans c8, (World.cell?_setCell_far _ _ _ _ n9).trans c9⟩
theorem kG10 {p0 p1 p2 p3 p4 p5 p6 p7 p8 p9 : Addr} {v0 v1 v2 v3 v4 v5 v6 v7 v8 v9 : Value} {row : Option Nat} (hg : w.grownBy w' row) (n0 : some p0.block ≠ row) (n1 : some p1.block ≠ row) (n2 : some p2.block ≠ row) (n3 : some p3.block ≠ row) (n4 : some p4.block ≠ row) (n5 : some p5.block ≠ row) (n6 : some p6.block ≠ row) (n7 : some p7.block ≠ row) (n8 : some p8.block ≠ row) (n9 : some p9.block ≠ row) (h : w.cell? p0 = some v0 ∧ w.cell? p1 = some v1 ∧ w.cell? p2 = some v2 ∧ w.cell? p3 = some v3 ∧ w.cell? p4 = some v4 ∧ w.cell? p5 = some v5 ∧ w.cell? p6 = some v6 ∧ w.cell? p7 = some v7 ∧ w.cell? p8 = some v8 ∧ w.cell? p9 = some v9) : w'.cell? p0 = some v0 ∧ w'.cell? p1 = some v1 ∧ w'.cell? p2 = some v2 ∧ w'.cell? p3 = some v3 ∧ w'.cell? p4 = some v4 ∧ w'.cell? p5 = some v5 ∧ w'.cell? p6 = some v6 ∧ w'.cell? p7 = some v7 ∧ w'.cell? p8 = some v8 ∧ w'.cell? p9 = some v9 := by
  obtain ⟨c0, c1, c2, c3, c4, c5, c6, c7, c8, c9⟩ := h
  exact ⟨hg.cell c0 n0, hg.cell c1 n1, hg.cell c2 n2, hg.cell c3 n3, hg.cell c4 n4, hg.cell c5 n5, hg.cell c6 n6, hg.cell c7 n7, hg.cell c8 n8, hg.cell c9 n9⟩
theorem kB11 {p0 p1 p2 p3 p4 p5 p6 p7 p8 p9 p10 : Addr} {v0 v1 v2 v3 v4 v5 v6 v7 v8 v9 v10 : Value} (hb : Below w.heap.size w w') (h : w.cell? p0 = some v0 ∧ w.cell? p1 = some v1 ∧ w.cell? p2 = some v2 ∧ w.cell? p3 = some v3 ∧ w.cell? p4 = some v4 ∧ w.cell? p5 = some v5 ∧ w.cell? p6 = some v6 ∧ w.cell? p7 = some v7 ∧ w.cell? p8 = some v8 ∧ w.cell? p9 = some v9 ∧ w.cell? p10 = some v10) : w'.cell? p0 = some v0 ∧ w'.cell? p1 = some v1 ∧ w'.cell? p2 = some v2 ∧ w'.cell? p3 = some v3 ∧ w'.cell? p4 = some v4 ∧ w'.cell? p5 = some v5 ∧ w'.cell? p6 = some v6 ∧ w'.cell? p7 = some v7 ∧ w'.cell? p8 = some v8 ∧ w'.cell? p9 = some v9 ∧ w'.cell? p10 = some v10 := by
  obtain ⟨c0, c1, c2, c3, c4, c5, c6, c7, c8, c9, c10⟩ := h
  exact ⟨kcell hb c0, kcell hb c1, kcell hb c2, kcell hb c3, kcell hb c4, kcell hb c5, kcell hb c6, kcell hb c7, kcell hb c8, kcell hb c9, kcell hb c10⟩
theorem kA11 {p0 p1 p2 p3 p4 p5 p6 p7 p8 p9 p10 : Addr} {v0 v1 v2 v3 v4 v5 v6 v7 v8 v9 v10 : Value} (o : Obj) (h : w.cell? p0 = some v0 ∧ w.cell? p1 = some v1 ∧ w.cell? p2 = some v2 ∧ w.cell? p3 = some v3 ∧ w.cell? p4 = some v4 ∧ w.cell? p5 = some v5 ∧ w.cell? p6 = some v6 ∧ w.cell? p7 = some v7 ∧ w.cell? p8 = some v8 ∧ w.cell? p9 = some v9 ∧ w.cell? p10 = some v10) : (w.alloc o).cell? p0 = some v0 ∧ (w.alloc o).cell? p1 = some v1 ∧ (w.alloc o).cell? p2 = some v2 ∧ (w.alloc o).cell? p3 = some v3 ∧ (w.alloc o).cell? p4 = some v4 ∧ (w.alloc o).cell? p5 = some v5 ∧ (w.alloc o).cell? p6 = some v6 ∧ (w.alloc o).cell? p7 = some v7 ∧ (w.alloc o).cell? p8 = some v8 ∧ (w.alloc o).cell? p9 = some v9 ∧ (w.alloc o).cell? p10 = some v10 := kB11 ((Below.refl _ _).alloc (Nat.le_refl _) _) h
theorem kS11 {p0 p1 p2 p3 p4 p5 p6 p7 p8 p9 p10 q : Addr} {v0 v1 v2 v3 v4 v5 v6 v7 v8 v9 v10 x : Value} (n0 : q.block ≠ p0.block) (n1 : q.block ≠ p1.block) (n2 : q.block ≠ p2.block) (n3 : q.block ≠ p3.block) (n4 : q.block ≠ p4.block) (n5 : q.block ≠ p5.block) (n6 : q.block ≠ p6.block) (n7 : q.block ≠ p7.block) (n8 : q.block ≠ p8.block) (n9 : q.block ≠ p9.block) (n10 : q.block ≠ p10.block) (h : w.cell? p0 = some v0 ∧ w.cell? p1 = some v1 ∧ w.cell? p2 = some v2 ∧ w.cell? p3 = some v3 ∧ w.cell? p4 = some v4 ∧ w.cell? p5 = some v5 ∧ w.cell? p6 = some v6 ∧ w.cell? p7 = some v7 ∧ w.cell? p8 = some v8 ∧ w.cell? p9 = some v9 ∧ w.cell? p10 = some v10) : (w.setCell q x).cell? p0 = some v0 ∧ (w.setCell q x).cell? p1 = some v1 ∧ (w.setCell q x).cell? p2 = some v2 ∧ (w.setCell q x).cell? p3 = some v3 ∧ (w.setCell q x).cell? p4 = some v4 ∧ (w.setCell q x).cell? p5 = some v5 ∧ (w.setCell q x).cell? p6 = some v6 ∧ (w.setCell q x).cell? p7 = some v7 ∧ (w.setCell q x).cell? p8 = some v8 ∧ (w.setCell q x).cell? p9 = some v9 ∧ (w.setCell q x).cell? p10 = some v10 := by
  obtain ⟨c0, c1, c2, c3, c4, c5, c6, c7, c8, c9, c10⟩ := h
  exact ⟨(World.cell?_setCell_far _ _ _ _ n0).trans c0, (World.cell?_setCell_far _ _ _ _ n1).trans c1, (World.cell?_setCell_far _ _ _ _ n2).trans c2, (World.cell?_setCell_far _ _ _ _ n3).trans c3, (World.cell?_setCell_far _ _ _ _ n4).trans c4, (World.cell?_setCell_far _ _ _ _ n5).trans c5, (World.cell?_setCell_far _ _ _ _ n6).trans c6, (World.cell?_setCell_far _ _ _ _ n7).trans c7, (World.cell?_setCell_far _ _ _ _ n8).trans c8, (World.cell?_setCell_far _ _ _ _ n9).trans c9, (World.cell?_setCell_far _ _ _ _ n10).trans c10⟩
theorem kG11 {p0 p1 p2 p3 p4 p5 p6 p7 p8 p9 p10 : Addr} {v0 v1 v2 v3 v4 v5 v6 v7 v8 v9 v10 : Value} {row : Option Nat} (hg : w.grownBy w' row) (n0 : some p0.block ≠ row) (n1 : some p1.block ≠ row) (n2 : some p2.block ≠ row) (n3 : some p3.block ≠ row) (n4 : some p4.block ≠ row) (n5 : some p5.block ≠ row) (n6 : some p6.block ≠ row) (n7 : some p7.block ≠ row) (n8 : some p8.block ≠ row) (n9 : some p9.block ≠ row) (n10 : some p10.block ≠ row) (h : w.cell? p0 = some v0 ∧ w.cell? p1 = some v1 ∧ w.cell? p2 = some v2 ∧ w.cell? p3 = some v3 ∧ w.cell? p4 = some v4 ∧ w.cell? p5 = some v5 ∧ w.cell? p6 = some v6 ∧ w.cell? p7 = some v7 ∧ w.cell? p8 = some v8 ∧ w.cell? p9 = some v9 ∧ w.cell? p10 = some v10) : w'.cell? p0 = some v0 ∧ w'.cell? p1 = some v1 ∧ w'.cell? p2 = some v2 ∧ w'.cell? p3 = some v3 ∧ w'.cell? p4 = some v4 ∧ w'.cell? p5 = some v5 ∧ w'.cell? p6 = some v6 ∧ w'.cell? p7 = some v7 ∧ w'.cell? p8 = some v8 ∧ w'.cell? p9 = some v9 ∧ w'.cell? p10 = some v10 := by
  obtain ⟨c0, c1, c2, c3, c4, c5, c6, c7, c8, c9, c10⟩ := h
  exact ⟨hg.cell c0 n0, hg.cell c1 n1, hg.cell c2 n2, hg.cell c3 n3, hg.cell c4 n4, hg.cell c5 n5, hg.cell c6 n6, hg.cell c7 n7, hg.cell c8 n8, hg.cell c9 n9, hg.cell c10 n10⟩
theorem kB12 {p0 p1 p2 p3 p4 p5 p6 p7 p8 p9 p10 p11 : Addr} {v0 v1 v2 v3 v4 v5 v6 v7 v8 v9 v10 v11 : Value} (hb : Below w.heap.size w w') (h : w.cell? p0 = some v0 ∧ w.cell? p1 = some v1 ∧ w.cell? p2 = some v2 ∧ w.cell? p3 = some v3 ∧ w.cell? p4 = some v4 ∧ w.cell? p5 = some v5 ∧ w.cell? p6 = some v6 ∧ w.cell? p7 = some v7 ∧ w.cell? p8 = some v8 ∧ w.cell? p9 = some v9 ∧ w.cell? p10 = some v10 ∧ w.cell? p11 = some v11) : w'.cell? p0 = some v0 ∧ w'.cell? p1 = some v1 ∧ w'.cell? p2 = some v2 ∧ w'.cell? p3 = some v3 ∧ w'.cell? p4 = some v4 ∧ w'.cell? p5 = some v5 ∧ w'.cell? p6 = some v6 ∧ w'.cell? p7 = some v7 ∧ w'.cell? p8 = some v8 ∧ w'.cell? p9 = some v9 ∧ w'.cell? p10 = some v10 ∧ w'.cell? p11 = some v11 := by
  obtain ⟨c0, c1, c2, c3, c4, c5, c6, c7, c8, c9, c10, c11⟩ := h
  exact ⟨kcell hb c0, kcell hb c1, kcell hb c2, kcell hb c3, kcell hb c4, kcell hb c5, kcell hb c6, kcell hb c7, kcell hb c8, kcell hb c9, kcell hb c10, kcell hb c11⟩
theorem kA12 {p0 p1 p2 p3 p4 p5 p6 p7 p8 p9 p10 p11 : Addr} {v0 v1 v2 v3 v4 v5 v6 v7 v8 v9 v10 v11 : Value} (o : Obj) (h : w.cell? p0 = some v0 ∧ w.cell? p1 = some v1 ∧ w.cell? p2 = some v2 ∧ w.cell? p3 = some v3 ∧ w.cell? p4 = some v4 ∧ w.cell? p5 = some v5 ∧ w.cell? p6 = some v6 ∧ w.cell? p7 = some v7 ∧ w.cell? p8 = some v8 ∧ w.cell? p9 = some v9 ∧ w.cell? p10 = some v10 ∧ w.cell? p11 = some v11) : (w.alloc o).cell? p0 = some v0 ∧ (w.alloc o).cell? p1 = some v1 ∧ (w.alloc o).cell? p2 = some v2 ∧ (w.alloc o).cell? p3 = some v3 ∧ (w.alloc o).cell? p4 = some v4 ∧ (w.alloc o).cell? p5 = some v5 ∧ (w.alloc o).cell? p6 = some v6 ∧ (w.alloc o).cell? p7 = some v7 ∧ (w.alloc o).cell? p8 = some v8 ∧ (w.alloc o).cell? p9 = some v9 ∧ (w.alloc o).cell? p10 = some v10 ∧ (w.alloc o).cell? p11 = some v11 := kB12 ((Below.refl _ _).alloc (Nat.le_refl _) _) h
theorem kS12 {p0 p1 p2 p3 p4 p5 p6 p7 p8 p9 p10 p11 q : Addr} {v0 v1 v2 v3 v4 v5 v6 v7 v8 v9 v10 v11 x : Value} (n0 : q.block ≠ p0.block) (n1 : q.block ≠ p1.block) (n2 : q.block ≠ p2.block) (n3 : q.block ≠ p3.block) (n4 : q.block ≠ p4.block) (n5 : q.block ≠ p5.block) (n6 : q.block ≠ p6.block) (n7 : q.block ≠ p7.block) (n8 : q.block ≠ p8.block) (n9 : q.block ≠ p9.block) (n10 : q.block ≠ p10.block) (n11 : q.block ≠ p11.block) (h : w.cell? p0 = some v0 ∧ w.cell? p1 = some v1 ∧ w.cell? p2 = some v2 ∧ w.cell? p3 = some v3 ∧ w.cell? p4 = some v4 ∧ w.cell? p5 = some v5 ∧ w.cell? p6 = some v6 ∧ w.cell? p7 = some v7 ∧ w.cell? p8 = some v8 ∧ w.cell? p9 = some v9 ∧ w.cell? p10 = some v10 ∧ w.cell? p11 = some v11) : (w.setCell q x).cell? p0 = some v0 ∧ (w.setCell q x).cell? p1 = some v1 ∧ (w.setCell q x).cell? p2 = some v2 ∧ (w.setCell q x).cell? p3 = some v3 ∧ (w.setCell q x).cell? p4 = some v4 ∧ (w.setCell q x).cell? p5 = some v5 ∧ (w.setCell q x).cell? p6 = some v6 ∧ (w.setCell q x).cell? p7 = some v7 ∧ (w.setCell q x).cell? p8 = some v8 ∧ (w.setCell q x).cell? p9 = some v9 ∧ (w.setCell q x).cell? p10 = some v10 ∧ (w.setCell q x).cell? p11 = some v11 := by
  obtain ⟨c0, c1, c2, c3, c4, c5, c6, c7, c8, c9, c10, c11⟩ := h
  exact ⟨(World.cell?_setCell_far _ _ _ _ n0).trans c0, (World.cell?_setCell_far _ _ _ _ n1).trans c1, (World.cell?_setCell_far _ _ _ _ n2).trans c2, (World.cell?_setCell_far _ _ _ _ n3).trans c3, (World.cell?_setCell_far _ _ _ _ n4).trans c4, (World.cell?_setCell_far _ _ _ _ n5).trans c5, (World.cell?_setCell_far _ _ _ _ n6).trans c6, (World.cell?_setCell_far _ _ _ _ n7).trans c7, (World.cell?_setCell_far _ _ _ _ n8).trans c8, (World.cell?_setCell_far _ _ _ _ n9).trans c9, (World.cell?_setCell_far _ _ _ _ n10).trans c10, (World.cell?_setCell_far _ _ _ _ n11).trans c11⟩
theorem kG12 {p0 p1 p2 p3 p4 p5 p6 p7 p8 p9 p10 p11 : Addr} {v0 v1 v2 v3 v4 v5 v6 v7 v8 v9 v10 v11 : Value} {row : Option Nat} (hg : w.grownBy w' row) (n0 : some p0.block ≠ row) (n1 : some p1.block ≠ row) (n2 : some p2.block ≠ row) (n3 : some p3.block ≠ row) (n4 : some p4.block ≠ row) (n5 : some p5.block ≠ row) (n6 : some p6.block ≠ row) (n7 : some p7.block ≠ row) (n8 : some p8.block ≠ row) (n9 : some p9.block ≠ row) (n10 : some p10.block ≠ row) (n11 : some p11.block ≠ row) (h : w.cell? p0 = some v0 ∧ w.cell? p1 = some v1 ∧ w.cell? p2 = some v2 ∧ w.cell? p3 = some v3 ∧ w.cell? p4 = some v4 ∧ w.cell? p5 = some v5 ∧ w.cell? p6 = some v6 ∧ w.cell? p7 = some v7 ∧ w.cell? p8 = some v8 ∧ w.cell? p9 = some v9 ∧ w.cell? p10 = some v10 ∧ w.cell? p11 = some v11) : w'.cell? p0 = some v0 ∧ w'.cell? p1 = some v1 ∧ w'.cell? p2 = some v2 ∧ w'.cell? p3 = some v3 ∧ w'.cell? p4 = some v4 ∧ w'.cell? p5 = some v5 ∧ w'.cell? p6 = some v6 ∧ w'.cell? p7 = some v7 ∧ w'.cell? p8 = some v8 ∧ w'.cell? p9 = some v9 ∧ w'.cell? p10 = some v10 ∧ w'.cell? p11 = some v11 := by
  obtain ⟨c0, c1, c2, c3, c4, c5, c6, c7, c8, c9, c10, c11⟩ := h
  exact ⟨hg.cell c0 n0, hg.cell c1 n1, hg.cell c2 n2, hg.cell c3 n3, hg.cell c4 n4, hg.cell c5 n5, hg.cell c6 n6, hg.cell c7 n7, hg.cell c8 n8, hg.cell c9 n9, hg.cell c10 n10, hg.cell c11 n11⟩
end
end Go.Proofs.Ytmlfkledhnlkeaa

/- Step in the laws' helpers: equal lists are told equal; marking, looking, copying, measuring. -/
namespace Go.Proofs.Ytmlfkledhnlkeaa
set_option linter.unusedVariables false
set_option linter.unusedSimpArgs false
open Go.ChangeShapes Go.WideShapes Go.ChangeAt Go.RowKit
attribute [local go_sem] ext_cell ext_frozen ext_lt ext_lt1 ext_lt2 ext_lt3 ltn2 ltn3 ltn13 lts1 lts2 lts3

theorem eqStep_same (p : St) (w : World) :
    Calls Try.prog 136 #[.agg #[.int .i64 p.1, .bool p.2], .agg #[.int .i64 p.1, .bool p.2]] w fun e w' => e = .returned (.bool true) ∧ Below w.heap.size w w' := by
  obtain ⟨a0, a1⟩ := p
  go_enter Try.func136, Try.ntmps136
  go_wp2
  go_ret
  refine ⟨rfl, ?_⟩
  repeat (first | exact Below.refl _ _ | refine Below.alloc ?_ (by simp) _)
set_option maxHeartbeats 400000 in
theorem eqStepS_same (v1 v2 : Value) (xs : List St) (w : World) (hv1 : SlE w cSt 2 v1 xs) (hv2 : SlE w cSt 2 v2 xs) :
    Calls Try.prog 89 #[v1, v2] w fun e w' => e = .returned (.bool true) ∧ Below w.heap.size w w' := by
  obtain ⟨A1, c1, rfl, hl1, hm1, hx1⟩ := hv1
  obtain ⟨A2, c2, rfl, hl2, hm2, hx2⟩ := hv2
  unfold maxLen at hm1 hm2
  go_enter Try.func89, Try.ntmps89
  go_wp2
  go_loopw [5] (fun i wr => ∃ (k : Nat) (u : World), k ≤ xs.length ∧ i = .int .i64 k ∧ wr = ext w u) (fun i _ => xs.length - (intOf i).toNat)
  case atStart => exact ⟨0, w, Nat.zero_le _, rfl, ext_self w⟩
  case round =>
    obtain ⟨k, u, hk, rfl, rfl⟩ := hrel
    by_cases hlt : k < xs.length
    · obtain ⟨b1, o1, rfl, -, hb1, hc1⟩ := hx1 k xs[k] (List.getElem?_eq_getElem hlt)
      obtain ⟨b2, o2, rfl, -, hb2, hc2⟩ := hx2 k xs[k] (List.getElem?_eq_getElem hlt)
      generalize xs[k] = x at hc1 hc2
      have c10 := hc1 0 _ rfl
      have c11 := hc1 1 _ rfl
      have c20 := hc2 0 _ rfl
      have c21 := hc2 1 _ rfl
      simp only [Nat.add_zero] at c10 c20
      clear hc1 hc2 hx1 hx2
      go_wp2
      refine wp_region_ext_lit (by kernel_rfl) (by kernel_rfl) ?_
      repeat (go_big_quiet_step ((go_at_call 136; exact Calls.ext_of (eqStep_same x _))))
      refine wpQuiet_nil ?_
      intro _ hw'
      obtain ⟨u2, hw''⟩ := hw'
      subst hw''
      go_wp2
      go_roundw
      case rel =>
        obtain ⟨y, hy⟩ := ext_ext w u u2
        exact ⟨k + 1, y, by omega, by go_num, hy⟩
      case measure => simp [intOf]; omega
    · go_wp2
      go_ret
      exact ⟨rfl, ext_below _ _⟩
def mkStep (k : Int) (n : Nat) : List St := (List.range n).map fun (i : Nat) => (k + 2 * (i : Int), ((k + 2 * (i : Int) + 1) % 3 == 0))
theorem mkStep_len (k : Int) (n : Nat) : (mkStep k n).length = n := by simp [mkStep]
theorem mkStep_succ (k : Int) (i : Nat) : mkStep k (i + 1) = mkStep k i ++ [(k + 2 * (i : Int), ((k + 2 * (i : Int) + 1) % 3 == 0))] := by simp [mkStep, List.range_succ]
theorem mkStep_at (k : Int) {n i : Nat} (h : i < n) : (mkStep k n)[i]? = some (k + 2 * (i : Int), ((k + 2 * (i : Int) + 1) % 3 == 0)) := by simp [mkStep, h]
theorem flatStep_len (l : List St) : (l.flatMap cSt).length = l.length * 2 := by
  induction l with
  | nil => rfl
  | cons x l ih => simp only [List.flatMap_cons, List.length_append, cSt_len, ih, List.length_cons]; omega
theorem markStep_step (k : Int) (xs : List St) (i : Nat) (hi : i < xs.length) :
    ((((mkStep k i ++ xs.drop i).flatMap cSt).set (i * 2) (.int .i64 (k + 2 * (i : Int)))).set (i * 2 + 1) (.bool (((k + 2 * (i : Int) + 1) % 3 == 0)))) = (mkStep k (i + 1) ++ xs.drop (i + 1)).flatMap cSt := by
  rw [List.drop_eq_getElem_cons hi, mkStep_succ]
  have hl : ((mkStep k i).flatMap cSt).length = i * 2 := by rw [flatStep_len, mkStep_len]
  simp only [List.flatMap_append, List.flatMap_cons, List.flatMap_nil, List.append_nil, List.append_assoc]
  rw [List.set_append_right _ _ (by omega), List.set_append_right _ _ (by omega), hl]
  simp [cSt]
theorem toStep_any (p : St) (w : World) :
    Calls Try.prog 134 #[.agg #[.int .i64 p.1, .bool p.2]] w fun e w' => e = .returned (.agg #[.int .i64 p.1, .bool p.2]) ∧ Below w.heap.size w w' := by
  obtain ⟨a0, a1⟩ := p
  go_enter Try.func134, Try.ntmps134
  go_wp2
  refine bodyPost_ret (v := .agg #[.int .i64 a0, .bool a1]) (by simp [results, Try.results134, go_sem]) rfl ⟨rfl, ?_⟩
  repeat (first | exact Below.refl _ _ | refine Below.setCell ?_ (by simp <;> omega) _ | refine Below.alloc ?_ (by simp <;> omega) _)
theorem szStepS_any (A : Option Addr) (n c : Nat) (left : Int) (w : World) (hn : n ≤ maxLen) (h0 : 0 ≤ left) (h1 : left ≤ 1048576) :
    Calls Try.prog 85 #[.slice A n c, .int .i64 left] w fun e w' => e = .returned (.int .i64 (if left < n then -1 else left - n)) ∧ w' = w := by
  unfold maxLen at hn
  by_cases hlt : left < n
  · rw [if_pos hlt]
    go_enter Try.func85, Try.ntmps85
    go_wp2
    go_ret
    exact ⟨rfl, rfl⟩
  · rw [if_neg hlt]
    go_enter Try.func85, Try.ntmps85
    go_wp2
    go_ret
    exact ⟨rfl, rfl⟩
theorem elStep : ElemOk Try.prog 62 142 (.agg #[.int .i64 0, .bool false]) 2 16 := ⟨Try.underlying62, by kernel_rfl, rfl, by omega⟩
theorem toStep_step (xs : List St) (i : Nat) (x : St) (hx : xs[i]? = some x) :
    ((((xs.take i ++ List.replicate (xs.length - i) (0, false)).flatMap cSt).set (i * 2) (.int .i64 x.1)).set (i * 2 + 1) (.bool x.2)) = (xs.take (i + 1) ++ List.replicate (xs.length - (i + 1)) (0, false)).flatMap cSt := by
  have hi := (List.getElem?_eq_some_iff.1 hx).1
  rw [take_snoc hx, show xs.length - i = (xs.length - (i + 1)) + 1 by omega, List.replicate_succ]
  have hl : ((xs.take i).flatMap cSt).length = i * 2 := by rw [flatStep_len, List.length_take]; congr 1; omega
  simp only [List.flatMap_append, List.flatMap_cons, List.flatMap_nil, List.append_nil, List.append_assoc]
  rw [List.set_append_right _ _ (by omega), List.set_append_right _ _ (by omega), hl]
  simp [cSt]
set_option maxHeartbeats 1000000 in
theorem toStepS_any (v : Value) (xs : List St) (w : World) (hv : SlE w cSt 2 v xs) (hn : xs.length ≤ 1048576) :
    Calls Try.prog 87 #[v] w fun en w' => ∃ v', en = .returned v' ∧ Own w.heap.size w'.heap.size w' 142 cSt 2 v' xs ∧ Below w.heap.size w w' := by
  obtain ⟨A, c, rfl, hl, hm, hx⟩ := hv
  go_enter Try.func87, Try.ntmps87
  go_wp2_with (at_make; refine wpList_makeE (P := Try.prog) cSt (0, false) elStep rfl rfl rfl _ _ rfl w.heap.size xs.length _ (by rfl) (by rfl) rfl (by omega) (by unfold maxLen; omega) (Nat.le_refl _) ?_; intro w1 hrow1 hbel1)
  go_loopw [4] (fun ii wr => ∃ i : Nat, i ≤ xs.length ∧ ii = .int .i64 i ∧ wr.ownsRow w.heap.size 142 2 (.slice (some ⟨w.heap.size, 0, none⟩) xs.length xs.length) xs.length ((xs.take i ++ List.replicate (xs.length - i) (0, false)).flatMap cSt) ∧ Below w.heap.size w wr) (fun ii _ => xs.length - (intOf ii).toNat)
  case atStart => exact ⟨0, Nat.zero_le _, rfl, by simpa using hrow1, hbel1⟩
  case round =>
    obtain ⟨i, hi', rfl, hrow, hbel⟩ := hrel
    by_cases hlt : i < xs.length
    · have hxi : xs[i]? = some xs[i] := List.getElem?_eq_getElem hlt
      obtain ⟨b, o, rfl, -, hb1, hc⟩ := hx i _ hxi
      have hstep := toStep_step xs i _ hxi
      have hcur : (xs.take i ++ List.replicate (xs.length - i) (0, false))[i]? = some (0, false) := by
        rw [List.getElem?_append_right (by rw [List.length_take]; omega), List.getElem?_replicate, if_pos (by rw [List.length_take]; omega)]
      generalize xs[i] = x at hc hstep hxi
      have hs := hbel.size
      have c0 := (hbel.cell (p := ⟨b, o + i * 2 + 0, none⟩) hb1).trans (hc 0 _ rfl)
      have c1 := (hbel.cell (p := ⟨b, o + i * 2 + 1, none⟩) hb1).trans (hc 1 _ rfl)
      simp only [Nat.add_zero] at c0
      clear hc hx hxi hrow1 hbel1
      go_wp2_with fail
      refine (toStep_any x _).mono ?_; rintro e w2 ⟨rfl, hb2⟩
      have hrow2 := ownsRow_below hrow hb2 (Nat.le_refl _)
      have d0 := World.ownsRow.cellAt hrow2 (i * 2) (by omega)
      have f0 := World.ownsRow.frozenAt hrow2 (i * 2)
      have e0 := flat_at cSt_len hcur 0 _ rfl
      simp only [Nat.add_zero] at e0
      rw [e0] at d0
      clear e0
      have d1 := World.ownsRow.cellAt hrow2 (i * 2 + 1) (by omega)
      have f1 := World.ownsRow.frozenAt hrow2 (i * 2 + 1)
      have e1 := flat_at cSt_len hcur 1 _ rfl
      rw [e1] at d1
      clear e1
      have hst := (World.ownsRow.stored (World.ownsRow.stored hrow2 (i * 2) (.int .i64 x.1)).1 (i * 2 + 1) (.bool x.2)).1
      rw [hstep] at hst
      have HST := Lib.hid hst
      clear hst hstep hcur hrow hrow2
      go_wp2
      go_roundw
      case rel => exact ⟨i + 1, by omega, by go_num, HST.out, (((hbel.trans (hb2.mono hs)).setCell (Nat.le_refl _) _).setCell (Nat.le_refl _) _)⟩
      case measure => simp [intOf]; omega
    · obtain rfl : i = xs.length := by omega
      go_wp2
      go_ret
      exact ⟨_, rfl, Own.of_row hrow rfl (by simp), hbel⟩
end Go.Proofs.Ytmlfkledhnlkeaa

/- The reference's product: l14Good, l14Closure, l14Letter, l14To, l4From. -/
namespace Go.Proofs.Ytmlfkledhnlkeaa
set_option linter.unusedVariables false
set_option linter.unusedSimpArgs false
open Go.ChangeShapes Go.WideShapes Go.ChangeAt Go.RowKit
attribute [local go_sem] ext_cell ext_frozen ext_lt ext_lt1 ext_lt2 ext_lt3 ltn2 ltn3 ltn13 lts1 lts2 lts3

def goodB (g : Gr) (a : Au) (x s : Int) : Bool := grOk g && (auOk a && (wi x 0 ((g.vals.length : Int) - 1) && wi s 0 ((a.accept.length : Int) - 1)))
set_option maxHeartbeats 2000000 in
theorem l14Good_any (vg va : Value) (g : Gr) (a : Au) (x s : Int) (w : World) (hgv : GrV 0 w.heap.size w vg g) (hav : AuV 0 w.heap.size w va a) :
    Calls Try.prog 66 #[vg, va, .int .i64 x, .int .i64 s] w fun e w' => e = .returned (.bool (goodB g a x s)) ∧ Below w.heap.size w w' := by
  have hgv0 := hgv
  have hav0 := hav
  obtain ⟨A1, c1, A2, c2, rfl, hl1, hm1, hl2, hm2, -, -⟩ := hgv.form
  obtain ⟨ac, nx, rfl, hac, hnx⟩ := hav
  obtain ⟨A3, c3, rfl, hl3, hm3, -⟩ := SlE.form hac
  obtain ⟨A4, n4, c4, rfl⟩ := hnx.shape
  have hb0 : Below w.heap.size w ((w.alloc (.cells #[.slice A1 g.vals.length c1, .slice A2 g.edges.length c2] 48)).alloc (.cells #[.int .i64 a.start, .slice A3 a.accept.length c3, .slice A4 n4 c4] 50)) := ((Below.refl _ _).alloc (Nat.le_refl _) _).alloc (by simp) _
  have HGV := Lib.hid hgv0
  have HAV := Lib.hid hav0
  have HWI := Lib.hid l1In_any
  have HG := Lib.hid (show goodB g a x s = (grOk g && (auOk a && (wi x 0 ((g.vals.length : Int) - 1) && wi s 0 ((a.accept.length : Int) - 1)))) from rfl)
  clear hac hnx hgv0 hav0 hgv
  cases hgo : grOk g with
  | false =>
    have hfin : goodB g a x s = false := by rw [HG.out, hgo]; rfl
    have HF := Lib.hid hfin
    have hc := specValidGraph _ g _ (HGV.out.keep hb0)
    rw [hgo] at hc
    have HC := Lib.hid hc
    clear hgo hfin hc
    go_enter Try.func66, Try.ntmps66
    go_wp2_with fail
    refine HC.out.mono ?_
    rintro e w1 ⟨rfl, hb1⟩
    go_wp2_with fail
    go_ret
    exact ⟨by rw [HF.out]; rfl, below_trans hb0 hb1⟩
  | true =>
    have hc := specValidGraph _ g _ (HGV.out.keep hb0)
    rw [hgo] at hc
    have HC := Lib.hid hc
    have HGO := Lib.hid hgo
    clear hgo hc
    cases hao : auOk a with
    | false =>
      have hfin : goodB g a x s = false := by rw [HG.out, HGO.out, hao]; rfl
      have HF := Lib.hid hfin
      have HAO := Lib.hid hao
      clear hao hfin
      go_enter Try.func66, Try.ntmps66
      go_wp2_with fail
      refine HC.out.mono ?_
      rintro e w1 ⟨rfl, hb1⟩
      obtain ⟨u1, rfl⟩ := ext_of hb1
      go_wp2_with fail
      refine (specValidAutomaton _ a _ (HAV.out.keep (below_trans hb0 hb1))).mono ?_
      rw [HAO.out]
      rintro e w2 ⟨rfl, hb2⟩
      go_wp2_with fail
      go_ret
      exact ⟨by rw [HF.out]; rfl, below_trans (below_trans hb0 hb1) hb2⟩
    | true =>
      have HAO := Lib.hid hao
      clear hao
      go_enter Try.func66, Try.ntmps66
      go_wp2_with fail
      refine HC.out.mono ?_
      rintro e w1 ⟨rfl, hb1⟩
      obtain ⟨u1, rfl⟩ := ext_of hb1
      have hb3 := below_trans hb0 hb1
      clear hb1
      go_wp2_with fail
      refine (specValidAutomaton _ a _ (HAV.out.keep hb3)).mono ?_
      rw [HAO.out]
      rintro e w2 ⟨rfl, hb2⟩
      obtain ⟨u2, rfl⟩ := ext_of (below_trans (ext_below _ u1) hb2)
      have hb4 := below_trans hb3 hb2
      clear hb2 hb3
      have hfin : goodB g a x s = (wi x 0 ((g.vals.length : Int) - 1) && wi s 0 ((a.accept.length : Int) - 1)) := by rw [HG.out, HGO.out, HAO.out]; rfl
      have HF := Lib.hid hfin
      clear hfin
      cases h1 : wi x 0 ((g.vals.length : Int) - 1) with
      | false =>
        have H1 := Lib.hid h1
        go_wp2_with (go_at_call 77; refine (HWI.out _ _ _ _).mono ?_; rintro e w1 ⟨rfl, rfl⟩)
        go_ret
        exact ⟨by rw [HF.out, H1.out]; rfl, hb4⟩
      | true =>
        have H1 := Lib.hid h1
        go_wp2_with (go_at_call 77; refine (HWI.out _ _ _ _).mono ?_; rintro e w1 ⟨rfl, rfl⟩)
        go_ret
        exact ⟨by rw [HF.out, H1.out]; rfl, hb4⟩
theorem l14Letter_any (e : Ed) (b : Bool) (w : World) (h0 : 0 ≤ e.2.2.2) (h2 : e.2.2.2 ≤ 2) :
    Calls Try.prog 151 #[.agg #[.int .i64 e.1, .int .i64 e.2.1, .int .i64 e.2.2.1, .int .i64 e.2.2.2], .bool b] w fun en w' => en = .returned (.int .i64 (arcLetter b e)) ∧ Below w.heap.size w w' := by
  obtain ⟨a, f, t, l⟩ := e
  simp only at h0 h2 ⊢
  cases b
  all_goals
    go_enter Try.func151, Try.ntmps151
    go_wp2_with fail
    go_ret
    exact ⟨rfl, (Below.refl _ _).alloc (Nat.le_refl _) _⟩
theorem l14To_any (e : Ed) (b : Bool) (w : World) :
    Calls Try.prog 152 #[.agg #[.int .i64 e.1, .int .i64 e.2.1, .int .i64 e.2.2.1, .int .i64 e.2.2.2], .bool b] w fun en w' => en = .returned (.int .i64 (arcTo b e)) ∧ Below w.heap.size w w' := by
  obtain ⟨a, f, t, l⟩ := e
  cases b
  all_goals
    go_enter Try.func152, Try.ntmps152
    go_wp2_with fail
    go_ret
    exact ⟨rfl, (Below.refl _ _).alloc (Nat.le_refl _) _⟩
set_option maxHeartbeats 1000000 in
theorem l14Closure_any (v : Value) (a : Au) (s x : Nat) (w : World) (hv : AuV 0 w.heap.size w v a) (hok : auOk a = true) (hs : s < a.accept.length) (hx : x ≤ 2) :
    Calls Try.prog 150 #[v, .int .i64 (s : Int), .int .i64 (x : Int)] w fun e w' => e = .returned (.int .i64 (cls a x s : Int)) ∧ Below w.heap.size w w' := by
  obtain ⟨A1, c1, A2, c2, rfl, hl1, hm1, hl2, hm2, hC⟩ := hv.form hok
  clear hv
  have hn12 : a.accept.length ≤ 12 := (auOk_iff.1 hok).1.2
  have hb0 : Below w.heap.size w (w.alloc (.cells #[.int .i64 a.start, .slice A1 a.accept.length c1, .slice A2 a.accept.length c2] 50)) := (Below.refl _ _).alloc (Nat.le_refl _) _
  have HOK := Lib.hid hok
  have HC := Lib.hid hC
  obtain ⟨R, hR⟩ : ∃ R, R = cls a x s := ⟨_, rfl⟩
  rw [← hR]
  have HR := Lib.hid hR
  clear hR hok hC
  go_enter Try.func150, Try.ntmps150
  go_wp2_with fail
  go_loop [1, 7] (fun ss st => ∃ (f m : Nat) (s : Int), st = .int .i64 (m : Int) ∧ ss = .int .i64 s ∧ clsF a (6 + x) f s m = R ∧ f + (mem 12 m).length = 13 ∧ m < 2 ^ a.accept.length ∧ s < (a.accept.length : Int)) (fun _ st => 13 - (mem 12 (intOf st).toNat).length)
  case atStart => exact ⟨13, 0, s, rfl, rfl, HR.out.symm, by simp [mem], Nat.two_pow_pos _, by omega⟩
  case round =>
    obtain ⟨f, m, s, rfl, rfl, hcl, hf, hm, hs⟩ := hrel
    have hm2 := lt12 HOK.out hm
    have hml := mem_len 12 m
    have HCL := Lib.hid hcl
    have HFC := Lib.hid hf
    clear hcl hf
    by_cases h0 : 0 ≤ s
    · obtain ⟨s, rfl⟩ := Int.eq_ofNat_of_zero_le h0
      have hs12 : s < 12 := by omega
      have hsn : (s : Int) < (a.accept.length : Int) := hs
      obtain ⟨b2, o2, b3, o3, c3, hA2, hb2, d2, hl3, hm3, hb3, hc3⟩ := HC.out.row s (by omega)
      subst hA2
      have d3 := hc3 (6 + x) (by omega)
      have hx9 : (6 : Int) + (x : Int) < 9 := by omega
      have e1 := shl_bit (s := s) (by omega)
      have e2 := or_ins (m := m) (s := s) (by omega) (by omega)
      clear hc3
      cases hb : m.testBit s with
      | true =>
        have e3 := bit_on (by omega) (by omega) hb
        have hfin : m = R := by rw [← HCL.out]; exact (clsF_stop (.inr (by simpa using hb))).symm
        have HF := Lib.hid hfin
        clear hfin hb h0
        go_wp2_with fail
        go_ret
        exact ⟨by rw [HF.out]; rfl, hb0⟩
      | false =>
        have e3 := bit_off (by omega) (by omega) hb
        have HB := Lib.hid hb
        have hmv := mv_lt HOK.out s (6 + x)
        clear hb h0
        go_wp2_with fail
        go_round
        case rel =>
          have h1 := cnt_or (n := 12) (m := m) hs12 HB.out
          have h2 := HFC.out
          obtain ⟨f, rfl⟩ : ∃ f', f = f' + 1 := ⟨f - 1, by omega⟩
          exact ⟨f, ins m s, _, rfl, rfl, by rw [← HCL.out]; exact (clsF_go HB.out).symm, by omega, ins_lt hm (by omega), by omega⟩
        case measure =>
          have h1 := cnt_or (n := 12) (m := m) hs12 HB.out
          simp [intOf]; omega
    · have hfin : m = R := by rw [← HCL.out]; exact (clsF_stop (.inl (by omega))).symm
      have h0' : decide (s ≥ 0) = false := by simp; omega
      have HF := Lib.hid hfin
      clear hfin
      go_wp2_with fail
      go_ret
      exact ⟨by rw [HF.out]; rfl, hb0⟩
end Go.Proofs.Ytmlfkledhnlkeaa

