/- Parts of the proof, joined into one text: AutS, GraphS, SetI, Holds, HeldL, AppL. -/
import Derived.Test.YtbkaoghlkdbofaaPartNFGBNNPI
import Derived.Test.YtbkaoghlkdbofaaPartOLGJHFGJ
import Derived.Test.YtbkaoghlkdbofaaPartEFEALPJP
import Derived.Test.YtbkaoghlkdbofaaPartJICGGFLG
/- The reference's functions on automata. -/
namespace Go.Proofs.Ytbkaoghlkdbofaa
set_option linter.unusedVariables false
set_option linter.unusedSimpArgs false
open Go.ChangeShapes Go.WideShapes Go.ChangeAt Go.RowKit
attribute [local go_sem] ext_cell ext_frozen ext_lt ext_lt1 ext_lt2 ext_lt3 ltn2 ltn3 ltn13 lts1 lts2 lts3

theorem l1In_any (n a b : Int) (w : World) : Calls Try.prog 106 #[.int .i64 n, .int .i64 a, .int .i64 b] w fun e w' => e = .returned (.bool (wi n a b)) ∧ w' = w := by
  unfold wi
  by_cases h1 : a ≤ n
  · have e1 : decide (a ≤ n) = true := by simpa using h1
    by_cases h2 : n ≤ b
    · go_enter Try.func106, Try.ntmps106
      go_wp2
      go_ret
      exact ⟨by simp [h1, h2], rfl⟩
    · go_enter Try.func106, Try.ntmps106
      go_wp2
      go_ret
      exact ⟨by simp [h1]; try omega, rfl⟩
  · have e1 : decide (a ≤ n) = false := by simpa using h1
    go_enter Try.func106, Try.ntmps106
    go_wp2
    go_ret
    exact ⟨by simp [h1]; try omega, rfl⟩

def auFits (a : Au) : Bool := wi a.start 0 ((a.accept.length : Int) - 1) && (a.next.length == a.accept.length) && a.next.all (rowOk a.accept.length)
theorem auFits_ok (a : Au) : (decide (a.accept.length ≤ 12) && auFits a) = auOk a := by
  rw [Bool.eq_iff_iff]
  simp only [auFits, auOk, Bool.and_eq_true, decide_eq_true_eq, wi_iff, beq_iff_eq]
  constructor
  · rintro ⟨h1, ⟨h2, h3⟩, h4⟩
    exact ⟨⟨⟨by omega, h2⟩, h3⟩, h4⟩
  · rintro ⟨⟨⟨h1, h2⟩, h3⟩, h4⟩
    exact ⟨by omega, ⟨h2, h3⟩, h4⟩

set_option maxHeartbeats 1000000 in
theorem l11Fits_any (v : Value) (a : Au) (w : World) (hv : AuV 0 w.heap.size w v a) :
    Calls Try.prog 180 #[v] w fun e w' => e = .returned (.bool (auFits a)) ∧ Below w.heap.size w w' := by
  obtain ⟨ac, nx, rfl, ⟨A1, c1, rfl, hl1, hm1, -⟩, us, ⟨A2, c2, rfl, hl2, hm2, hx2⟩, hul, hrows⟩ := hv
  rw [hul] at hl2 ⊢
  have HU := Lib.hid hul
  clear hul
  unfold maxLen at hm1 hm2
  have hb0 : Below w.heap.size w (w.alloc (.cells #[.int .i64 a.start, .slice A1 a.accept.length c1, .slice A2 a.next.length c2] 58)) := (Below.refl _ _).alloc (Nat.le_refl _) _
  have HW := Lib.hid l1In_any
  by_cases g2 : wi a.start 0 ((a.accept.length : Int) - 1) = true
  · by_cases g3 : a.next.length = a.accept.length
    · have HG3 := Lib.hid g3
      have g3' : ((a.next.length : Int) != (a.accept.length : Int)) = false := by simp; omega
      have hr : auFits a = a.next.all (rowOk a.accept.length) := by simp [auFits, g2, g3]
      have HR := Lib.hid hr
      clear hr g3
      obtain ⟨hn1, hn2⟩ := wi_iff.1 g2
      go_enter Try.func180, Try.ntmps180
      go_wp2_with (go_at_call 106; refine (HW.out _ _ _ _).mono ?_; rintro e w' ⟨rfl, rfl⟩)
      go_loop [4, 5] (fun ii jj => ∃ i : Nat, i ≤ a.accept.length ∧ ii = .int .i64 i ∧ (a.next.take i).all (rowOk a.accept.length) = true) (fun ii _ => a.accept.length - (intOf ii).toNat)
      case atStart => exact ⟨0, Nat.zero_le _, rfl, rfl⟩
      case round =>
        obtain ⟨i, hi, rfl, hall⟩ := hrel
        have HA := Lib.hid hall
        clear hall
        by_cases hlt : i < a.accept.length
        · have hlt' : i < a.next.length := by have := HG3.out; omega
          obtain ⟨u, hu⟩ : ∃ u, us[i]? = some u := ⟨_, List.getElem?_eq_getElem (by have := HU.out; omega)⟩
          obtain ⟨b, o, rfl, -, hb1, hc⟩ := hx2 i u hu
          have hxi : a.next[i]? = some a.next[i] := List.getElem?_eq_getElem hlt'
          have hvi := hrows i u _ hu hxi
          generalize a.next[i] = row at hvi hxi
          have c0 := hc 0 _ rfl
          simp only [Nat.mul_one, Nat.add_zero] at c0
          obtain ⟨A3, c3, rfl, hl3, hm3, hx3⟩ := hvi
          unfold maxLen at hm3
          have HX := Lib.hid hxi
          clear hc hx2 hu hxi hrows
          by_cases g9 : row.length = 9
          · have g9' : ((row.length : Int) != 9) = false := by simp; omega
            have HG9 := Lib.hid g9
            have hl9 : 9 ≤ row.length := by omega
            clear g9
            go_wp2_with fail
            go_loop [5] (fun jj => ∃ j : Nat, j ≤ 9 ∧ jj = .int .i64 j ∧ (row.take j).all (fun t => wi t (-1) ((a.accept.length : Int) - 1)) = true) (fun jj => 9 - (intOf jj).toNat)
            case atStart => exact ⟨0, Nat.zero_le _, rfl, rfl⟩
            case round =>
              obtain ⟨j, hj, rfl, hall2⟩ := hrel
              have HB := Lib.hid hall2
              clear hall2
              by_cases hlt2 : j < 9
              · have hlt3 : j < row.length := by omega
                have hxj : row[j]? = some row[j] := List.getElem?_eq_getElem hlt3
                obtain ⟨b2, o2, rfl, -, hb2, hc2⟩ := hx3 j _ hxj
                generalize row[j] = t at hc2 hxj
                have d0 := hc2 0 _ rfl
                simp only [Nat.mul_one, Nat.add_zero] at d0
                have HXJ := Lib.hid hxj
                clear hc2 hx3 hxj
                by_cases g4 : wi t (-1) ((a.accept.length : Int) - 1) = true
                · go_wp2_with (go_at_call 106; refine (HW.out _ _ _ _).mono ?_; rintro e w' ⟨rfl, rfl⟩)
                  go_round
                  case rel => exact ⟨j + 1, by omega, by go_num, all_take_succ HXJ.out HB.out g4⟩
                  case measure => simp [intOf]; omega
                · simp only [Bool.not_eq_true] at g4
                  have hfin : auFits a = false := by
                    rw [HR.out]
                    refine all_false_of HX.out ?_
                    rw [rowOk, all_false_of HXJ.out g4]
                    rfl
                  have HF := Lib.hid hfin
                  clear hfin
                  go_wp2_with (go_at_call 106; refine (HW.out _ _ _ _).mono ?_; rintro e w' ⟨rfl, rfl⟩)
                  go_ret
                  exact ⟨by rw [HF.out]; rfl, hb0⟩
              · obtain rfl : j = 9 := by omega
                have hok : rowOk a.accept.length row = true := by
                  have h3 := HB.out
                  rw [show 9 = row.length from HG9.out.symm, List.take_length] at h3
                  rw [rowOk, h3, HG9.out]
                  rfl
                have HO := Lib.hid hok
                clear hok hx3
                go_wp2_with fail
                go_round
                case rel => exact ⟨i + 1, by omega, by go_num, all_take_succ HX.out HA.out HO.out⟩
                case measure => simp [intOf]; omega
          · have g9' : ((row.length : Int) != 9) = true := by simp; omega
            have hfin : auFits a = false := by
              rw [HR.out]
              refine all_false_of HX.out ?_
              rw [rowOk]
              simp [g9]
            have HF := Lib.hid hfin
            clear hfin g9
            go_wp2_with fail
            go_ret
            exact ⟨by rw [HF.out]; rfl, hb0⟩
        · obtain rfl : i = a.accept.length := by omega
          have hfin : auFits a = true := by rw [HR.out]; have := HA.out; rw [← HG3.out, List.take_length] at this; rw [HG3.out] at this; exact this
          have HF := Lib.hid hfin
          clear hfin hx2 hrows
          go_wp2_with fail
          go_ret
          exact ⟨by rw [HF.out]; rfl, hb0⟩
    · have g3' : ((a.next.length : Int) != (a.accept.length : Int)) = true := by simp; omega
      have hr : auFits a = false := by simp [auFits, g3]
      have HR := Lib.hid hr
      clear hr g3
      go_enter Try.func180, Try.ntmps180
      go_wp2_with (go_at_call 106; refine (HW.out _ _ _ _).mono ?_; rintro e w' ⟨rfl, rfl⟩)
      go_ret
      exact ⟨by rw [HR.out]; rfl, hb0⟩
  · simp only [Bool.not_eq_true] at g2
    have hr : auFits a = false := by simp [auFits, g2]
    have HR := Lib.hid hr
    clear hr
    go_enter Try.func180, Try.ntmps180
    go_wp2_with (go_at_call 106; refine (HW.out _ _ _ _).mono ?_; rintro e w' ⟨rfl, rfl⟩)
    go_ret
    exact ⟨by rw [HR.out]; rfl, hb0⟩

theorem specValidAutomaton (v : Value) (a : Au) (w : World) (hv : AuV 0 w.heap.size w v a) :
    Calls Try.prog 152 #[v] w fun e w' => e = .returned (.bool (auOk a)) ∧ Below w.heap.size w w' := by
  have hv0 := hv
  obtain ⟨ac, nx, rfl, ⟨A1, c1, rfl, hl1, hm1, -⟩, -⟩ := hv
  unfold maxLen at hm1
  have hb0 : Below w.heap.size w (w.alloc (.cells #[.int .i64 a.start, .slice A1 a.accept.length c1, nx] 58)) := (Below.refl _ _).alloc (Nat.le_refl _) _
  have hok := auFits_ok a
  by_cases g : a.accept.length ≤ 12
  · have e1 : decide ((a.accept.length : Int) ≤ 12) = true := by simp; omega
    rw [decide_eq_true g, Bool.true_and] at hok
    have HO := Lib.hid hok
    clear hok
    go_enter Try.func152, Try.ntmps152
    go_wp2_with fail
    refine (l11Fits_any _ a _ (hv0.keep hb0)).mono ?_
    rintro e w1 ⟨rfl, hb1⟩
    go_wp2_with fail
    go_ret
    exact ⟨by rw [← HO.out]; rfl, below_trans hb0 hb1⟩
  · have e1 : decide ((a.accept.length : Int) ≤ 12) = false := by simp; omega
    rw [decide_eq_false g, Bool.false_and] at hok
    have HO := Lib.hid hok
    clear hok
    go_enter Try.func152, Try.ntmps152
    go_wp2_with fail
    go_ret
    exact ⟨by rw [← HO.out]; rfl, hb0⟩

theorem l22State_any (v : Value) (a : Au) (s : Int) (w : World) (hv : AuV 0 w.heap.size w v a) :
    Calls Try.prog 119 #[v, .int .i64 s] w fun e w' => e = .returned (.bool (auOk a && wi s 0 ((a.accept.length : Int) - 1))) ∧ Below w.heap.size w w' := by
  have hv0 := hv
  obtain ⟨ac, nx, rfl, ⟨A1, c1, rfl, hl1, hm1, -⟩, -⟩ := hv
  unfold maxLen at hm1
  have hb0 : Below w.heap.size w (w.alloc (.cells #[.int .i64 a.start, .slice A1 a.accept.length c1, nx] 58)) := (Below.refl _ _).alloc (Nat.le_refl _) _
  by_cases g : auOk a = true
  · rw [g, Bool.true_and]
    go_enter Try.func119, Try.ntmps119
    go_wp2_with fail
    refine (specValidAutomaton _ a _ (hv0.keep hb0)).mono ?_
    rintro e w1 ⟨rfl, hb1⟩
    have b0 := (Blk.new w _ _ w.heap.size rfl).keep hb1
    have x1 : w1.cell? ⟨w.heap.size, 1, none⟩ = some (.slice A1 a.accept.length c1) := b0.cell 1
    clear b0
    go_wp2_with fail
    refine (l1In_any _ _ _ _).mono ?_
    rintro e w2 ⟨rfl, rfl⟩
    go_wp2_with fail
    go_ret
    exact ⟨rfl, below_trans hb0 hb1⟩
  · simp only [Bool.not_eq_true] at g
    rw [g, Bool.false_and]
    go_enter Try.func119, Try.ntmps119
    go_wp2_with fail
    refine (specValidAutomaton _ a _ (hv0.keep hb0)).mono ?_
    rintro e w1 ⟨rfl, hb1⟩
    go_wp2_with fail
    go_ret
    exact ⟨rfl, below_trans hb0 hb1⟩
end Go.Proofs.Ytbkaoghlkdbofaa

/- The reference's functions on graphs: validity, edges, steps. -/
namespace Go.Proofs.Ytbkaoghlkdbofaa
set_option linter.unusedVariables false
set_option linter.unusedSimpArgs false
open Go.ChangeShapes Go.WideShapes Go.ChangeAt Go.RowKit
attribute [local go_sem] ext_cell ext_frozen ext_lt ext_lt1 ext_lt2 ext_lt3 ltn2 ltn3 ltn13 lts1 lts2 lts3

set_option maxHeartbeats 1000000 in
theorem l3Edge_any (A : Option Addr) (n cc : Nat) (es : Value) (e : Ed) (w : World) (hn : n ≤ 9223372036854775807) :
    Calls Try.prog 125 #[.agg #[.slice A n cc, es], .agg #[.int .i64 e.1, .int .i64 e.2.1, .int .i64 e.2.2.1, .int .i64 e.2.2.2]] w fun en w' => en = .returned (.bool (edOk n e)) ∧ Below w.heap.size w w' := by
  obtain ⟨a, b, c, d⟩ := e
  have HW := Lib.hid l1In_any
  unfold edOk
  simp only
  have hb0 : Below w.heap.size w ((w.alloc (.cells #[.slice A n cc, es] 31)).alloc (.cells #[.int .i64 a, .int .i64 b, .int .i64 c, .int .i64 d] 93)) := ((Below.refl _ _).alloc (Nat.le_refl _) _).alloc (by simp) _
  cases g1 : wi a 1 99 with
  | false =>
    have HZ := Lib.hid g1
    go_enter Try.func125, Try.ntmps125
    go_wp2_with (go_at_call 106; refine (HW.out _ _ _ _).mono ?_; rintro e w' ⟨rfl, rfl⟩)
    go_ret
    exact ⟨rfl, hb0⟩
  | true =>
    cases g2 : wi b 0 ((n : Int) - 1) with
    | false =>
      go_enter Try.func125, Try.ntmps125
      go_wp2_with (go_at_call 106; refine (HW.out _ _ _ _).mono ?_; rintro e w' ⟨rfl, rfl⟩)
      go_ret
      exact ⟨rfl, hb0⟩
    | true =>
      cases g3 : wi c 0 ((n : Int) - 1) with
      | false =>
        go_enter Try.func125, Try.ntmps125
        go_wp2_with (go_at_call 106; refine (HW.out _ _ _ _).mono ?_; rintro e w' ⟨rfl, rfl⟩)
        go_ret
        exact ⟨rfl, hb0⟩
      | true =>
        go_enter Try.func125, Try.ntmps125
        go_wp2_with (go_at_call 106; refine (HW.out _ _ _ _).mono ?_; rintro e w' ⟨rfl, rfl⟩)
        go_ret
        exact ⟨rfl, hb0⟩

set_option maxHeartbeats 2000000 in
theorem specValidGraph (v : Value) (g : Gr) (w : World) (hv : GrV 0 w.heap.size w v g) :
    Calls Try.prog 64 #[v] w fun e w' => e = .returned (.bool (grOk g)) ∧ Below w.heap.size w w' := by
  obtain ⟨vs, es, rfl, ⟨A1, c1, rfl, hl1, hm1, hx1⟩, ⟨A2, c2, rfl, hl2, hm2, hx2⟩⟩ := hv
  unfold maxLen at hm1 hm2
  have hb0 : Below w.heap.size w (w.alloc (.cells #[.slice A1 g.vals.length c1, .slice A2 g.edges.length c2] 31)) := (Below.refl _ _).alloc (Nat.le_refl _) _
  have HW := Lib.hid l1In_any
  have HX1 := Lib.hid hx1
  have HX2 := Lib.hid hx2
  clear hx1 hx2
  go_enter Try.func64, Try.ntmps64
  go_wp2_with fail
  go_loop [3] (fun ii => ∃ i : Nat, i ≤ g.vals.length ∧ ii = .int .i64 i ∧ (g.vals.take i).all (fun v => wi v 0 2) = true) (fun ii => g.vals.length - (intOf ii).toNat)
  case atStart => exact ⟨0, Nat.zero_le _, rfl, rfl⟩
  case round =>
    obtain ⟨i, hi, rfl, hall⟩ := hrel
    have HA := Lib.hid hall
    clear hall
    by_cases hlt : i < g.vals.length
    · have hxi : g.vals[i]? = some g.vals[i] := List.getElem?_eq_getElem hlt
      obtain ⟨b, o, rfl, -, hb1, hc⟩ := HX1.out i _ hxi
      generalize g.vals[i] = x at hc hxi
      have c0 := hc 0 _ rfl
      simp only [Nat.mul_one, Nat.add_zero] at c0
      have HX := Lib.hid hxi
      clear hc hxi
      cases g4 : wi x 0 2 with
      | true =>
        have G4 := Lib.hid g4
        go_wp2_with (go_at_call 106; refine (HW.out _ _ _ _).mono ?_; rintro e w' ⟨rfl, rfl⟩)
        go_round
        case rel => exact ⟨i + 1, by omega, by go_num, all_take_succ HX.out HA.out G4.out⟩
        case measure => simp [intOf]; omega
      | false =>
        have hfin : grOk g = false := by
          rw [grOk, all_false_of HX.out g4]
          rfl
        have HF := Lib.hid hfin
        clear hfin
        go_wp2_with (go_at_call 106; refine (HW.out _ _ _ _).mono ?_; rintro e w' ⟨rfl, rfl⟩)
        go_ret
        exact ⟨by rw [HF.out]; rfl, hb0⟩
    · obtain rfl : i = g.vals.length := by omega
      have hallv : g.vals.all (fun v => wi v 0 2) = true := by have := HA.out; rwa [List.take_length] at this
      have HV := Lib.hid hallv
      clear hallv HA
      go_wp2_with fail
      go_loopw [4] (fun ii wr => ∃ (i : Nat) (u : World), i ≤ g.edges.length ∧ ii = .int .i64 i ∧ (List.range i).all (edAt g.vals.length g.edges) = true ∧ wr = ext (w.alloc (.cells #[.slice A1 g.vals.length c1, .slice A2 g.edges.length c2] 31)) u) (fun ii _ => g.edges.length - (intOf ii).toNat)
      case atStart => exact ⟨0, _, Nat.zero_le _, rfl, rfl, ext_self _⟩
      case round =>
        obtain ⟨i, u, hi, rfl, hall, rfl⟩ := hrel
        have HA := Lib.hid hall
        clear hall
        by_cases hlt : i < g.edges.length
        · have hxi : g.edges[i]? = some g.edges[i] := List.getElem?_eq_getElem hlt
          obtain ⟨b, o', rfl, -, hb1, hc⟩ := HX2.out i _ hxi
          generalize g.edges[i] = x at hc hxi
          have hb1' : b < w.heap.size + 1 := by omega
          have c0 := hc 0 _ rfl
          have c1' := hc 1 _ rfl
          have c2' := hc 2 _ rfl
          have c3 := hc 3 _ rfl
          simp only [Nat.add_zero] at c0
          have HX := Lib.hid hxi
          have hlen : g.vals.length ≤ 9223372036854775807 := by omega
          clear hc hxi
          have hgr : grOk g = ((List.range g.edges.length).all (edAt g.vals.length g.edges) && wi g.vals.length 1 5 && decide (g.edges.length ≤ 12)) := by
            rw [grOk, HV.out]; rfl
          have HGR := Lib.hid hgr
          clear hgr
          cases g4 : edOk g.vals.length x with
          | false =>
            have hfin : grOk g = false := by
              rw [HGR.out, range_all_false hlt (by rw [edAt, HX.out]; simp [g4])]
              rfl
            have HF := Lib.hid hfin
            clear hfin
            go_wp2_with fail
            refine wp_region_ext_lit (by kernel_rfl) (by kernel_rfl) ?_
            repeat (go_big_quiet_step ((go_at_call 125; exact Calls.ext_of (l3Edge_any A1 g.vals.length c1 _ x _ hlen))))
            refine wpQuiet_nil ?_
            intro _ hw'
            obtain ⟨u2, hw''⟩ := hw'
            subst hw''
            go_wp2_with fail
            go_ret
            exact ⟨by rw [HF.out]; rfl, below_trans hb0 (below_trans (ext_below _ _) (ext_below _ _))⟩
          | true =>
            have G4 := Lib.hid g4
            have hbx : ∀ u2, ∃ z, ext (ext (w.alloc (.cells #[.slice A1 g.vals.length c1, .slice (some ⟨b, o', none⟩) g.edges.length c2] 31)) u) u2 = ext (w.alloc (.cells #[.slice A1 g.vals.length c1, .slice (some ⟨b, o', none⟩) g.edges.length c2] 31)) z :=
              fun u2 => ext_of (below_trans (ext_below _ _) (ext_below _ _))
            by_cases hi0 : i = 0
            · subst hi0
              have hat : edAt g.vals.length g.edges 0 = true := by rw [edAt, HX.out]; simp [G4.out]
              have HAT := Lib.hid hat
              clear hat
              simp only [Nat.zero_mul, Nat.add_zero, Nat.zero_add] at c0 c1' c2' c3
              go_wp2_with fail
              refine wp_region_ext_lit (by kernel_rfl) (by kernel_rfl) ?_
              repeat (go_big_quiet_step ((go_at_call 125; exact Calls.ext_of (l3Edge_any A1 g.vals.length c1 _ x _ hlen))))
              refine wpQuiet_nil ?_
              intro _ hw'
              obtain ⟨u2, hw''⟩ := hw'
              subst hw''
              go_wp2_with fail
              go_roundw
              case rel =>
                obtain ⟨z, hz⟩ := hbx u2
                exact ⟨1, z, by omega, by go_num, range_all_succ HA.out HAT.out, hz⟩
              case measure => simp [intOf]; omega
            · have hi1 : 0 < i := by omega
              have hxj : g.edges[i - 1]? = some g.edges[i - 1] := List.getElem?_eq_getElem (by omega)
              obtain ⟨b9, o9, ho9, -, -, hcj⟩ := HX2.out (i - 1) _ hxj
              obtain ⟨rfl, rfl⟩ : b = b9 ∧ o' = o9 := by injection ho9 with h1; injection h1 with h1 h2; exact ⟨h1, h2⟩
              generalize g.edges[i - 1] = p at hcj hxj
              have hb1' : b < w.heap.size + 1 := by omega
              have p0 := hcj 0 _ rfl
              simp only [Nat.add_zero] at p0
              have HXJ := Lib.hid hxj
              have hi00 : ((i : Int) > 0) := by omega
              clear hcj hxj ho9
              by_cases hlt2 : p.1 < x.1
              · have hat : edAt g.vals.length g.edges i = true := by rw [edAt, HX.out]; simp [G4.out, HXJ.out, hlt2]
                have hge : decide (p.1 ≥ x.1) = false := by simp; omega
                have HAT := Lib.hid hat
                clear hat
                go_wp2_with fail
                have q1 : IntKind.i64.wrap ((i : Int) - 1) = (i : Int) - 1 := IntWalk.i64_in _ (by omega)
                have q2 : 0 ≤ (i : Int) - 1 := by omega
                have q3 : (i : Int) - 1 < (g.edges.length : Int) := by omega
                have q4 : ((i : Int) - 1).toNat = i - 1 := by omega
                refine wp_region_ext_lit (by kernel_rfl) (by kernel_rfl) ?_
                repeat (go_big_quiet_step ((go_at_call 125; exact Calls.ext_of (l3Edge_any A1 g.vals.length c1 _ x _ hlen))))
                refine wpQuiet_nil ?_
                intro _ hw'
                obtain ⟨u2, hw''⟩ := hw'
                subst hw''
                clear q1 q2 q3 q4
                go_wp2_with fail
                go_roundw
                case rel =>
                  obtain ⟨z, hz⟩ := hbx u2
                  exact ⟨i + 1, z, by omega, by go_num, range_all_succ HA.out HAT.out, hz⟩
                case measure => simp [intOf]; omega
              · have hfin : grOk g = false := by
                  rw [HGR.out, range_all_false hlt (by rw [edAt, HX.out]; simp [G4.out, HXJ.out, hi0]; omega)]
                  rfl
                have hge : decide (p.1 ≥ x.1) = true := by simp; omega
                have HF := Lib.hid hfin
                clear hfin
                go_wp2_with fail
                have q1 : IntKind.i64.wrap ((i : Int) - 1) = (i : Int) - 1 := IntWalk.i64_in _ (by omega)
                have q2 : 0 ≤ (i : Int) - 1 := by omega
                have q3 : (i : Int) - 1 < (g.edges.length : Int) := by omega
                have q4 : ((i : Int) - 1).toNat = i - 1 := by omega
                refine wp_region_ext_lit (by kernel_rfl) (by kernel_rfl) ?_
                repeat (go_big_quiet_step ((go_at_call 125; exact Calls.ext_of (l3Edge_any A1 g.vals.length c1 _ x _ hlen))))
                refine wpQuiet_nil ?_
                intro _ hw'
                obtain ⟨u2, hw''⟩ := hw'
                subst hw''
                clear q1 q2 q3 q4
                go_wp2_with fail
                go_ret
                exact ⟨by rw [HF.out]; rfl, below_trans hb0 (below_trans (ext_below _ _) (ext_below _ _))⟩
        · obtain rfl : i = g.edges.length := by omega
          have hgr : grOk g = (wi g.vals.length 1 5 && decide (g.edges.length ≤ 12)) := by
            rw [grOk, HV.out, HA.out]; rfl
          have HGR := Lib.hid hgr
          clear hgr HA HV
          cases g5 : wi g.vals.length 1 5 with
          | false =>
            rw [g5] at HGR
            go_wp2_with (go_at_call 106; refine (HW.out _ _ _ _).mono ?_; rintro e w' ⟨rfl, rfl⟩)
            go_ret
            exact ⟨by rw [HGR.out]; rfl, below_trans hb0 (ext_below _ _)⟩
          | true =>
            rw [g5] at HGR
            have HG5 := Lib.hid g5
            by_cases g6 : g.edges.length ≤ 12
            · have g6' : decide ((g.edges.length : Int) ≤ 12) = true := by simp; omega
              have hfin : grOk g = true := by rw [HGR.out]; simp [g6]
              have HF := Lib.hid hfin
              clear hfin HGR
              go_wp2_with (go_at_call 106; refine (HW.out _ _ _ _).mono ?_; rintro e w' ⟨rfl, rfl⟩)
              go_ret
              exact ⟨by rw [HF.out]; rfl, below_trans hb0 (ext_below _ _)⟩
            · have g6' : decide ((g.edges.length : Int) ≤ 12) = false := by simp; omega
              have hfin : grOk g = false := by rw [HGR.out]; simp [g6]
              have HF := Lib.hid hfin
              clear hfin HGR
              go_wp2_with (go_at_call 106; refine (HW.out _ _ _ _).mono ?_; rintro e w' ⟨rfl, rfl⟩)
              go_ret
              exact ⟨by rw [HF.out]; rfl, below_trans hb0 (ext_below _ _)⟩
end Go.Proofs.Ytbkaoghlkdbofaa

/- The program's sets of states: move, closure, members, after, acceptsAt. -/
namespace Go.Proofs.Ytbkaoghlkdbofaa
set_option linter.unusedVariables false
set_option linter.unusedSimpArgs false
open Go.ChangeShapes Go.WideShapes Go.ChangeAt Go.RowKit
attribute [local go_sem] ext_cell ext_frozen ext_lt ext_lt1 ext_lt2 ext_lt3 ltn2 ltn3 ltn13 lts1 lts2 lts3

theorem isLetter_any (n : Int) (w : World) : Calls Try.prog 70 #[.int .i64 n] w fun e w' => e = .returned (.bool (wi n 0 8)) ∧ w' = w := by
  have HW := Lib.hid within_any
  go_enter Try.func70, Try.ntmps70
  go_wp2_with (go_at_call 92; refine (HW.out _ _ _ _).mono ?_; rintro e w' ⟨rfl, rfl⟩)
  go_ret
  exact ⟨rfl, rfl⟩

def mvI (a : Au) (s l : Int) : Int := if 0 ≤ s ∧ wi l 0 8 = true then mv a s.toNat l.toNat else -1
theorem mvI_in {a : Au} {s l : Nat} (hl : l < 9) : mvI a s l = mv a s l := by
  rw [mvI, if_pos ⟨by omega, wi_iff.2 ⟨by omega, by omega⟩⟩]; simp
set_option maxHeartbeats 1000000 in
theorem move_any (v : Value) (a : Au) (s l : Int) (w : World) (hv : AuV 0 w.heap.size w v a) (hok : auOk a = true) (hs : s < (a.accept.length : Int)) :
    Calls Try.prog 179 #[v, .int .i64 s, .int .i64 l] w fun e w' => e = .returned (.int .i64 (mvI a s l)) ∧ Below w.heap.size w w' := by
  obtain ⟨A1, c1, A2, c2, rfl, hl1, hm1, hl2, hm2, hC⟩ := hv.form hok
  have HL := Lib.hid isLetter_any
  have hb0 : Below w.heap.size w (w.alloc (.cells #[.int .i64 a.start, .slice A1 a.accept.length c1, .slice A2 a.accept.length c2] 58)) := (Below.refl _ _).alloc (Nat.le_refl _) _
  have HOK := Lib.hid hok
  clear hok hv
  by_cases h0 : s < 0
  · have hfin : mvI a s l = -1 := by rw [mvI, if_neg (by omega)]
    have HF := Lib.hid hfin
    clear hfin
    go_enter Try.func179, Try.ntmps179
    go_wp2_with fail
    go_ret
    exact ⟨by rw [HF.out]; rfl, hb0⟩
  · obtain ⟨s, rfl⟩ := Int.eq_ofNat_of_zero_le (show 0 ≤ s by omega)
    cases hl : wi l 0 8 with
    | false =>
      have hfin : mvI a s l = -1 := by rw [mvI, if_neg (by simp [hl])]
      have HF := Lib.hid hfin
      clear hfin
      go_enter Try.func179, Try.ntmps179
      go_wp2_with (go_at_call 70; refine (HL.out _ _).mono ?_; rintro e w' ⟨rfl, rfl⟩)
      go_ret
      exact ⟨by rw [HF.out]; rfl, hb0⟩
    | true =>
      have hl0 := wi_iff.1 hl
      obtain ⟨l, rfl⟩ := Int.eq_ofNat_of_zero_le hl0.1
      obtain ⟨b2, o2, b3, o3, c3, rfl, hb2, d2, hl3, hm3, hb3, hc3⟩ := hC.row s (by omega)
      have hl9 : l < 9 := by omega
      have d3 := hc3 l hl9
      have HF := Lib.hid (mvI_in (a := a) (s := s) (l := l) (by omega))
      clear hc3 hC hl0
      go_enter Try.func179, Try.ntmps179
      go_wp2_with (go_at_call 70; refine (HL.out _ _).mono ?_; rintro e w' ⟨rfl, rfl⟩)
      go_ret
      exact ⟨by rw [HF.out]; rfl, hb0⟩

set_option maxHeartbeats 1000000 in
theorem closure_any (v : Value) (a : Au) (s x : Nat) (w : World) (hv : AuV 0 w.heap.size w v a) (hok : auOk a = true) (hs : s < a.accept.length) (hx : x ≤ 2) :
    Calls Try.prog 178 #[v, .int .i64 (s : Int), .int .i64 (x : Int)] w fun e w' => e = .returned (.int .i64 (cls a x s : Int)) ∧ Below w.heap.size w w' := by
  have hv0 := hv
  obtain ⟨A1, c1, A2, c2, rfl, -⟩ := hv.form hok
  clear hv
  have hn12 : a.accept.length ≤ 12 := (auOk_iff.1 hok).1.2
  have hb0 : Below w.heap.size w (w.alloc (.cells #[.int .i64 a.start, .slice A1 a.accept.length c1, .slice A2 a.accept.length c2] 58)) := (Below.refl _ _).alloc (Nat.le_refl _) _
  have HV := Lib.hid hv0
  have HOK := Lib.hid hok
  clear hok
  obtain ⟨R, hR⟩ : ∃ R, R = cls a x s := ⟨_, rfl⟩
  rw [← hR]
  have HR := Lib.hid hR
  clear hR hv0
  go_enter Try.func178, Try.ntmps178
  go_wp2_with fail
  go_loopw [7, 8] (fun st ss wr => ∃ (f m : Nat) (s : Int) (u : World), st = .int .i64 (m : Int) ∧ ss = .int .i64 s ∧ clsF a (6 + x) f s m = R ∧ f + (mem 12 m).length = 13 ∧ m < 2 ^ a.accept.length ∧ s < (a.accept.length : Int) ∧ wr = ext (w.alloc (.cells #[.int .i64 a.start, .slice A1 a.accept.length c1, .slice A2 a.accept.length c2] 58)) u) (fun st _ _ => 13 - (mem 12 (intOf st).toNat).length)
  case atStart => exact ⟨13, 0, s, _, rfl, rfl, HR.out.symm, by simp [mem], Nat.two_pow_pos _, by omega, ext_self _⟩
  case round =>
    obtain ⟨f, m, s, u, rfl, rfl, hcl, hf, hm, hs, rfl⟩ := hrel
    have hm2 := lt12 HOK.out hm
    have hml := mem_len 12 m
    have HC := Lib.hid hcl
    have HFC := Lib.hid hf
    have hbw := below_trans hb0 (ext_below _ u)
    clear hcl hf
    by_cases h0 : 0 ≤ s
    · obtain ⟨s, rfl⟩ := Int.eq_ofNat_of_zero_le h0
      have hs12 : s < 12 := by omega
      have e1 := shl_bit (s := s) (by omega)
      have e2 := or_ins (m := m) (s := s) (by omega) (by omega)
      cases hb : m.testBit s with
      | true =>
        have e3 := bit_on (by omega) (by omega) hb
        have hfin : m = R := by rw [← HC.out]; exact (clsF_stop (.inr (by simpa using hb))).symm
        have HF := Lib.hid hfin
        clear hfin hb h0
        go_wp2_with fail
        go_ret
        exact ⟨by rw [HF.out]; rfl, hbw⟩
      | false =>
        have e3 := bit_off (by omega) (by omega) hb
        have HB := Lib.hid hb
        have hmv := mv_lt HOK.out s (6 + x)
        clear hb h0
        go_wp2_with fail
        refine (move_any _ a (s : Int) _ _ (HV.out.keep hbw) HOK.out (by omega)).mono ?_
        rintro e w1 ⟨rfl, hb1⟩
        obtain ⟨u1, rfl⟩ := ext_of (below_trans (ext_below _ u) hb1)
        rw [show (6 : Int) + (x : Int) = ((6 + x : Nat) : Int) by omega, mvI_in (by omega)]
        go_wp2_with fail
        go_roundw
        case rel =>
          have h1 := cnt_or (n := 12) (m := m) hs12 HB.out
          have h2 := HFC.out
          obtain ⟨f, rfl⟩ : ∃ f', f = f' + 1 := ⟨f - 1, by omega⟩
          refine ⟨f, ins m s, _, _, rfl, rfl, by rw [← HC.out]; exact (clsF_go HB.out).symm, by omega, ins_lt hm (by omega), by omega, rfl⟩
        case measure =>
          have h1 := cnt_or (n := 12) (m := m) hs12 HB.out
          simp [intOf]; omega
    · have hfin : m = R := by rw [← HC.out]; exact (clsF_stop (.inl (by omega))).symm
      have h0' : decide (s ≥ 0) = false := by simp; omega
      have HF := Lib.hid hfin
      clear hfin
      go_wp2_with fail
      go_ret
      exact ⟨by rw [HF.out]; rfl, hbw⟩

set_option maxHeartbeats 1000000 in
theorem members_any (m : Nat) (w : World) (hm : m < 4096) :
    Calls Try.prog 147 #[.int .i64 (m : Int)] w fun e w' => ∃ v', e = .returned v' ∧ Own w.heap.size w'.heap.size w' 3 cN 1 v' (mem 12 m) ∧ Below w.heap.size w w' := by
  obtain ⟨R, hR⟩ : ∃ R, R = mem 12 m := ⟨_, rfl⟩
  rw [← hR]
  have HR := Lib.hid hR
  clear hR
  go_enter Try.func147, Try.ntmps147
  go_wp2_with fail
  go_loopw [3, 4] (fun out ii wr => ∃ i : Nat, i ≤ 12 ∧ ii = .int .i64 (i : Int) ∧ wr.ownsRow w.heap.size 3 1 out (mem i m).length ((mem i m).flatMap cN) ∧ Below w.heap.size w wr) (fun _ ii _ => 12 - (intOf ii).toNat)
  case atStart => exact ⟨0, Nat.zero_le _, rfl, World.ownsRow_lit w #[] 0 (Nat.le_refl _) (by decide) rfl, (Below.refl _ _).alloc (Nat.le_refl _) _⟩
  case round =>
    obtain ⟨i, hi, rfl, hrow, hbel⟩ := hrel
    have HROW := Lib.hid hrow
    have hs := hbel.size
    have hml := mem_len i m
    clear hrow
    by_cases hlt : 2 ^ i ≤ m
    · have e1 := shr_on (by omega) hlt
      have hi12 : i < 12 := by
        rcases Nat.lt_or_ge i 12 with h | h
        · exact h
        · have : 2 ^ 12 ≤ 2 ^ i := Nat.pow_le_pow_right (by omega) h
          omega
      clear hlt
      cases hb : m.testBit i with
      | true =>
        have e3 := bit_on (by omega) (by omega) hb
        have HM := Lib.hid (mem_yes hb)
        clear hb
        go_wp2_with (at_builtin; (refine wpList_append1 cN elInt rfl _ _ rfl w.heap.size _ (mem i m) i _ 1 _ (by rfl) HROW.out (by rfl) rfl rfl rfl (cN_one _) (by omega) (by omega) hs ?_); rw [← HM.out]; intro v' w4 hrow' hb4 _ _)
        go_roundw
        case rel => exact ⟨i + 1, by omega, by go_num, hrow', hbel.trans hb4⟩
        case measure => simp [intOf]; omega
      | false =>
        have e3 := bit_off (by omega) (by omega) hb
        have HM := Lib.hid (mem_no hb)
        clear hb
        go_wp2_with fail
        go_roundw
        case rel => exact ⟨i + 1, by omega, by go_num, by rw [HM.out]; exact HROW.out, hbel⟩
        case measure => simp [intOf]; omega
    · have e1 := shr_off (i := i) (m := m) (by omega) (by omega)
      have hfin : R = mem i m := by rw [HR.out]; exact mem_stop (by omega) hi
      have HF := Lib.hid hfin
      clear hfin hlt
      go_wp2_with fail
      go_ret
      exact ⟨_, rfl, by rw [HF.out]; exact Own.of_row HROW.out rfl rfl, hbel⟩

set_option maxHeartbeats 2000000 in
theorem after_any (v : Value) (a : Au) (set x l : Nat) (w : World) (hv : AuV 0 w.heap.size w v a) (hok : auOk a = true) (hset : set < 2 ^ a.accept.length) (hx : x ≤ 2) (hl : l < 9) :
    Calls Try.prog 149 #[v, .int .i64 (set : Int), .int .i64 (x : Int), .int .i64 (l : Int)] w fun e w' => e = .returned (.int .i64 (aft a set x l : Int)) ∧ Below w.heap.size w w' := by
  have hv0 := hv
  obtain ⟨A1, c1, A2, c2, rfl, -⟩ := hv.form hok
  clear hv
  have hn12 : a.accept.length ≤ 12 := (auOk_iff.1 hok).1.2
  have hb0 : Below w.heap.size w (w.alloc (.cells #[.int .i64 a.start, .slice A1 a.accept.length c1, .slice A2 a.accept.length c2] 58)) := (Below.refl _ _).alloc (Nat.le_refl _) _
  have HV := Lib.hid hv0
  have HOK := Lib.hid hok
  have HSET := Lib.hid hset
  have h4096 := lt12 hok hset
  clear hok hv0 hset
  go_enter Try.func149, Try.ntmps149
  go_wp2_with fail
  refine (members_any set _ h4096).mono ?_
  rintro e w1 ⟨v1, rfl, ho, hb1⟩
  obtain ⟨A3, c3, rfl, hl3, hm3, hC3⟩ := ho.form cN_len
  have hml := mem_len 12 set
  have hb2 := below_trans hb0 hb1
  have HC3 := Lib.hid hC3
  have b0 := (Blk.new w _ _ w.heap.size rfl).keep hb1
  have x0 : w1.cell? ⟨w.heap.size, 0, none⟩ = some _ := b0.cell 0
  have x1 : w1.cell? ⟨w.heap.size, 1, none⟩ = some _ := b0.cell 1
  have x2 : w1.cell? ⟨w.heap.size, 2, none⟩ = some _ := b0.cell 2
  have l0 := b0.lt
  clear b0
  clear hb1 hb0 ho hC3
  go_wp2_with fail
  have hfl : ∀ i, ((mem 12 set).take i).foldl (aftS a x l) 0 < 2 ^ a.accept.length := fun i => foldl_inv (P := fun m => m < 2 ^ a.accept.length) (fun m s hm => aftS_lt HOK.out x l m s hm) _ _ (Nat.two_pow_pos _)
  have HFL := Lib.hid hfl
  clear hfl
  go_loopw [9, 18] (fun out ii wr => ∃ (i : Nat) (u : World), i ≤ (mem 12 set).length ∧ ii = .int .i64 (i : Int) ∧ out = .int .i64 (((mem 12 set).take i).foldl (aftS a x l) 0 : Nat) ∧ wr = ext w1 u) (fun _ ii _ => (mem 12 set).length - (intOf ii).toNat)
  case atStart => exact ⟨0, w1, Nat.zero_le _, rfl, rfl, ext_self _⟩
  case round =>
    obtain ⟨i, u, hi, rfl, rfl, rfl⟩ := hrel
    by_cases hlt : i < (mem 12 set).length
    · have hsi : (mem 12 set)[i]? = some (mem 12 set)[i] := List.getElem?_eq_getElem hlt
      have hsm := mem_mem.1 (List.getElem_mem hlt)
      generalize (mem 12 set)[i] = s at hsi hsm
      have hsn : s < a.accept.length := by
        rcases Nat.lt_or_ge s a.accept.length with h | h
        · exact h
        · have := Nat.testBit_lt_two_pow (Nat.lt_of_lt_of_le HSET.out (Nat.pow_le_pow_right (by omega) h))
          rw [hsm.2] at this; cases this
      obtain ⟨b3, o3, rfl, hb3, d3⟩ := HC3.out.nat hsi
      have HFT := Lib.hid (foldl_take (f := aftS a x l) hsi 0)
      have hbw := below_trans hb2 (ext_below w1 u)
      have hm0 := HFL.out i
      generalize ((mem 12 set).take i).foldl (aftS a x l) 0 = m0 at *
      clear hsi hsm
      go_wp2_with fail
      refine (closure_any _ a s x _ (HV.out.keep hbw) HOK.out hsn hx).mono ?_
      rintro e w2 ⟨rfl, hb5⟩
      obtain ⟨u2, rfl⟩ := ext_of (below_trans (ext_below w1 u) hb5)
      have hcl := cls_lt HOK.out x s hsn
      have hcl4 := lt12 HOK.out hcl
      go_wp2_with fail
      refine (members_any (cls a x s) _ hcl4).mono ?_
      rintro e w3 ⟨v4, rfl, ho4, hb6⟩
      obtain ⟨A4, c4, rfl, hl4, hm4, hC4⟩ := ho4.form cN_len
      have hml4 := mem_len 12 (cls a x s)
      have hb7 := below_trans (ext_below w1 u2) hb6
      have hb8 := below_trans hb2 hb7
      have x0 := bcell hb7 x0 l0
      have x1 := bcell hb7 x1 l0
      have x2 := bcell hb7 x2 l0
      have l0 := Nat.lt_of_lt_of_le l0 hb7.size
      have HC4 := Lib.hid hC4
      have HCL := Lib.hid hcl
      clear hb6 hb5 hbw ho4 hC4 hcl
      go_wp2_with fail
      go_loopw [9, 28] (fun out jj wr => ∃ (j : Nat) (u : World), j ≤ (mem 12 (cls a x s)).length ∧ jj = .int .i64 (j : Int) ∧ out = .int .i64 (((mem 12 (cls a x s)).take j).foldl (aft1 a l) m0 : Nat) ∧ wr = ext w3 u) (fun _ jj _ => (mem 12 (cls a x s)).length - (intOf jj).toNat)
      case atStart => exact ⟨0, w3, Nat.zero_le _, rfl, rfl, ext_self _⟩
      case round =>
        obtain ⟨j, u3, hj, rfl, rfl, rfl⟩ := hrel
        by_cases hlt2 : j < (mem 12 (cls a x s)).length
        · have hti : (mem 12 (cls a x s))[j]? = some (mem 12 (cls a x s))[j] := List.getElem?_eq_getElem hlt2
          have htm := mem_mem.1 (List.getElem_mem hlt2)
          generalize (mem 12 (cls a x s))[j] = t at hti htm
          have htn : t < a.accept.length := by
            rcases Nat.lt_or_ge t a.accept.length with h | h
            · exact h
            · have := Nat.testBit_lt_two_pow (Nat.lt_of_lt_of_le HCL.out (Nat.pow_le_pow_right (by omega) h))
              rw [htm.2] at this; cases this
          obtain ⟨b4, o4, rfl, hb4, d4⟩ := HC4.out.nat hti
          have HFT2 := Lib.hid (foldl_take (f := aft1 a l) hti m0)
          have hm1 : ((mem 12 (cls a x s)).take j).foldl (aft1 a l) m0 < 2 ^ a.accept.length := foldl_inv (P := fun m => m < 2 ^ a.accept.length) (fun m s hm => aft1_lt HOK.out l m s hm) _ _ hm0
          have hm14 := lt12 HOK.out hm1
          generalize ((mem 12 (cls a x s)).take j).foldl (aft1 a l) m0 = m1 at *
          have hbw := below_trans hb8 (ext_below w3 u3)
          have hmv := mv_lt HOK.out t l
          have HA := Lib.hid (show aft1 a l m1 t = if 0 ≤ mv a t l then ins m1 (mv a t l).toNat else m1 from rfl)
          clear hti htm hm0
          go_wp2_with fail
          refine (move_any _ a (t : Int) (l : Int) _ (HV.out.keep hbw) HOK.out (by omega)).mono ?_
          rintro e w4 ⟨rfl, hb9⟩
          obtain ⟨u4, rfl⟩ := ext_of (below_trans (ext_below w3 u3) hb9)
          rw [mvI_in hl]
          clear hb9
          by_cases h0 : 0 ≤ mv a t l
          · generalize mv a t l = z at *
            obtain ⟨z, rfl⟩ := Int.eq_ofNat_of_zero_le h0
            have e1 := shl_bit (s := z) (by omega)
            have e2 := or_ins (m := m1) (s := z) (by omega) (by omega)
            go_wp2_with fail
            go_roundw
            case rel => exact ⟨j + 1, u4, by omega, by go_num, by rw [HFT2.out, HA.out, if_pos h0]; simp, rfl⟩
            case measure => simp [intOf]; omega
          · have h0' : decide (mv a t l ≥ 0) = false := by simp; omega
            go_wp2_with fail
            go_roundw
            case rel => exact ⟨j + 1, u4, by omega, by go_num, by rw [HFT2.out, HA.out, if_neg (by omega)], rfl⟩
            case measure => simp [intOf]; omega
        · obtain rfl : j = (mem 12 (cls a x s)).length := by omega
          have HT := Lib.hid (show ((mem 12 (cls a x s)).take (mem 12 (cls a x s)).length).foldl (aft1 a l) m0 = aftS a x l m0 s by rw [List.take_length]; rfl)
          go_wp2_with fail
          go_roundw
          case rel =>
            obtain ⟨u5, hu5⟩ := ext_of (below_trans hb7 (ext_below w3 u3))
            exact ⟨i + 1, u5, by omega, by go_num, by rw [HFT.out, HT.out], hu5⟩
          case measure => simp [intOf]; omega
    · obtain rfl : i = (mem 12 set).length := by omega
      have HT := Lib.hid (show ((mem 12 set).take (mem 12 set).length).foldl (aftS a x l) 0 = aft a set x l by rw [List.take_length]; rfl)
      go_wp2_with fail
      go_ret
      exact ⟨by rw [HT.out]; rfl, below_trans hb2 (ext_below w1 u)⟩

theorem bit_in {n m t : Nat} (hm : m < 2 ^ n) (ht : m.testBit t = true) : t < n := by
  rcases Nat.lt_or_ge t n with h | h
  · exact h
  · have := Nat.testBit_lt_two_pow (Nat.lt_of_lt_of_le hm (Nat.pow_le_pow_right (by omega) h))
    rw [ht] at this; cases this
theorem any_take {α : Type} {p : α → Bool} {xs : List α} {i : Nat} {x : α} (h : xs[i]? = some x) : (xs.take (i + 1)).any p = ((xs.take i).any p || p x) := by
  rw [take_snoc h, List.any_append]; simp
theorem any_of_at {α : Type} {p : α → Bool} {xs : List α} {i : Nat} {x : α} (h : xs[i]? = some x) (hp : p x = true) : xs.any p = true := List.any_eq_true.2 ⟨x, List.mem_of_getElem? h, hp⟩
set_option maxHeartbeats 2000000 in
theorem acceptsAt_any (v : Value) (a : Au) (set x : Nat) (w : World) (hv : AuV 0 w.heap.size w v a) (hok : auOk a = true) (hset : set < 2 ^ a.accept.length) (hx : x ≤ 2) :
    Calls Try.prog 148 #[v, .int .i64 (set : Int), .int .i64 (x : Int)] w fun e w' => e = .returned (.bool (acc a set x)) ∧ Below w.heap.size w w' := by
  have hv0 := hv
  obtain ⟨A1, c1, A2, c2, rfl, hl1, hm1, -, -, hAC, -⟩ := hv.form hok
  clear hv
  have hn12 : a.accept.length ≤ 12 := (auOk_iff.1 hok).1.2
  have hb0 : Below w.heap.size w (w.alloc (.cells #[.int .i64 a.start, .slice A1 a.accept.length c1, .slice A2 a.accept.length c2] 58)) := (Below.refl _ _).alloc (Nat.le_refl _) _
  have HV := Lib.hid hv0
  have HOK := Lib.hid hok
  have HSET := Lib.hid hset
  have HAC := Lib.hid hAC
  have h4096 := lt12 hok hset
  clear hok hv0 hset hAC
  go_enter Try.func148, Try.ntmps148
  go_wp2_with fail
  refine (members_any set _ h4096).mono ?_
  rintro e w1 ⟨v1, rfl, ho, hb1⟩
  obtain ⟨A3, c3, rfl, hl3, hm3, hC3⟩ := ho.form cN_len
  have hml := mem_len 12 set
  have hb2 := below_trans hb0 hb1
  have HC3 := Lib.hid hC3
  have b0 := (Blk.new w _ _ w.heap.size rfl).keep hb1
  have x0 : w1.cell? ⟨w.heap.size, 0, none⟩ = some _ := b0.cell 0
  have x1 : w1.cell? ⟨w.heap.size, 1, none⟩ = some _ := b0.cell 1
  have x2 : w1.cell? ⟨w.heap.size, 2, none⟩ = some _ := b0.cell 2
  have l0 := b0.lt
  clear b0
  clear hb1 hb0 ho hC3
  go_wp2_with fail
  go_loopw [14] (fun ii wr => ∃ (i : Nat) (u : World), i ≤ (mem 12 set).length ∧ ii = .int .i64 (i : Int) ∧ ((mem 12 set).take i).any (accC a x) = false ∧ wr = ext w1 u) (fun ii _ => (mem 12 set).length - (intOf ii).toNat)
  case atStart => exact ⟨0, w1, Nat.zero_le _, rfl, rfl, ext_self _⟩
  case round =>
    obtain ⟨i, u, hi, rfl, hno, rfl⟩ := hrel
    have HNO := Lib.hid hno
    clear hno
    by_cases hlt : i < (mem 12 set).length
    · have hsi : (mem 12 set)[i]? = some (mem 12 set)[i] := List.getElem?_eq_getElem hlt
      have hsm := mem_mem.1 (List.getElem_mem hlt)
      generalize (mem 12 set)[i] = s at hsi hsm
      have hsn := bit_in HSET.out hsm.2
      obtain ⟨b3, o3, rfl, hb3, d3⟩ := HC3.out.nat hsi
      have hbw := below_trans hb2 (ext_below w1 u)
      have HSI := Lib.hid hsi
      clear hsi hsm
      go_wp2_with fail
      refine (closure_any _ a s x _ (HV.out.keep hbw) HOK.out hsn hx).mono ?_
      rintro e w2 ⟨rfl, hb5⟩
      obtain ⟨u2, rfl⟩ := ext_of (below_trans (ext_below w1 u) hb5)
      have hcl := cls_lt HOK.out x s hsn
      have hcl4 := lt12 HOK.out hcl
      go_wp2_with fail
      refine (members_any (cls a x s) _ hcl4).mono ?_
      rintro e w3 ⟨v4, rfl, ho4, hb6⟩
      obtain ⟨A4, c4, rfl, hl4, hm4, hC4⟩ := ho4.form cN_len
      have hml4 := mem_len 12 (cls a x s)
      have hb7 := below_trans (ext_below w1 u2) hb6
      have hb8 := below_trans hb2 hb7
      have x0 := bcell hb7 x0 l0
      have x1 := bcell hb7 x1 l0
      have x2 := bcell hb7 x2 l0
      have l0 := Nat.lt_of_lt_of_le l0 hb7.size
      have HC4 := Lib.hid hC4
      have HCL := Lib.hid hcl
      have HAC3 := Lib.hid (HAC.out.keep hb8)
      have HAE := Lib.hid (show accC a x s = (mem 12 (cls a x s)).any fun t => a.accept.getD t false from rfl)
      clear hb6 hb5 hbw ho4 hC4 hcl
      go_wp2_with fail
      go_loopw [24] (fun jj wr => ∃ (j : Nat) (u : World), j ≤ (mem 12 (cls a x s)).length ∧ jj = .int .i64 (j : Int) ∧ ((mem 12 (cls a x s)).take j).any (fun t => a.accept.getD t false) = false ∧ wr = ext w3 u) (fun jj _ => (mem 12 (cls a x s)).length - (intOf jj).toNat)
      case atStart => exact ⟨0, w3, Nat.zero_le _, rfl, rfl, ext_self _⟩
      case round =>
        obtain ⟨j, u3, hj, rfl, hno, rfl⟩ := hrel
        have HNJ := Lib.hid hno
        clear hno
        by_cases hlt2 : j < (mem 12 (cls a x s)).length
        · have hti : (mem 12 (cls a x s))[j]? = some (mem 12 (cls a x s))[j] := List.getElem?_eq_getElem hlt2
          have htm := mem_mem.1 (List.getElem_mem hlt2)
          generalize (mem 12 (cls a x s))[j] = t at hti htm
          have htn := bit_in HCL.out htm.2
          obtain ⟨b4, o4, rfl, hb4, d4⟩ := HC4.out.nat hti
          have hbw := below_trans hb8 (ext_below w3 u3)
          have hai : a.accept[t]? = some a.accept[t] := List.getElem?_eq_getElem htn
          obtain ⟨b5, o5, rfl, hb5, d5⟩ := HAC3.out.bool hai
          have hag : a.accept.getD t false = a.accept[t] := by simp [List.getD, hai]
          generalize a.accept[t] = b at *
          have HAG := Lib.hid hag
          have HTI := Lib.hid hti
          clear hti htm hai hag
          cases b with
          | true =>
            have hfin : acc a set x = true := any_of_at HSI.out (by rw [HAE.out]; exact any_of_at HTI.out HAG.out)
            have HF := Lib.hid hfin
            clear hfin
            go_wp2_with fail
            go_ret
            exact ⟨by rw [HF.out]; rfl, hbw⟩
          | false =>
            go_wp2_with fail
            go_roundw
            case rel => exact ⟨j + 1, u3, by omega, by go_num, by rw [any_take HTI.out, HNJ.out, HAG.out]; rfl, rfl⟩
            case measure => simp [intOf]; omega
        · obtain rfl : j = (mem 12 (cls a x s)).length := by omega
          have HT := Lib.hid (show accC a x s = false by have h := HNJ.out; rw [List.take_length] at h; rw [HAE.out]; exact h)
          go_wp2_with fail
          go_roundw
          case rel =>
            obtain ⟨u5, hu5⟩ := ext_of (below_trans hb7 (ext_below w3 u3))
            exact ⟨i + 1, u5, by omega, by go_num, by rw [any_take HSI.out, HNO.out, HT.out]; rfl, hu5⟩
          case measure => simp [intOf]; omega
    · obtain rfl : i = (mem 12 set).length := by omega
      have HT := Lib.hid (show acc a set x = false by have h := HNO.out; rw [List.take_length] at h; exact h)
      go_wp2_with fail
      go_ret
      exact ⟨by rw [HT.out]; rfl, below_trans hb2 (ext_below w1 u)⟩
end Go.Proofs.Ytbkaoghlkdbofaa

/- HoldsAt, in both of the program's halves: the letters 6, 7, 8 stand at nodes of the values 0, 1, 2. -/
namespace Go.Proofs.Ytbkaoghlkdbofaa
set_option linter.unusedVariables false
set_option linter.unusedSimpArgs false
open Go.ChangeShapes Go.WideShapes Go.ChangeAt Go.RowKit
attribute [local go_sem] ext_cell ext_frozen ext_lt ext_lt1 ext_lt2 ext_lt3 ltn2 ltn3 ltn13 lts1 lts2 lts3

set_option maxHeartbeats 2000000 in
theorem implHolds (v : Value) (g : Gr) (w : World) (hv : GrV 0 w.heap.size w v g) (hg : GrOk g) (x : Nat) (a : Int) (hx : g.vals[x]? = some a) (letter : Int) :
    Calls Try.prog 72 #[v, .int .i64 (x : Int), .int .i64 letter] w fun e w' => e = .returned (.bool (decide (letter = 6 + a))) ∧ Below w.heap.size w w' := by
  have hvo := hv
  obtain ⟨vs, es, rfl, ⟨A1, c1, rfl, hl1, hm1, hC1⟩, ⟨A2, c2, rfl, hl2, hm2, hC2⟩⟩ := hv
  unfold maxLen at hm1 hm2
  have hn5 := hg.n5
  have hn1 := hg.n1
  have hxn := (List.getElem?_eq_some_iff.1 hx).1
  have hav := hg.vals a (List.mem_of_getElem? hx)
  have hx1 : wi (x : Int) 0 ((g.vals.length : Int) - 1) = true := wi_iff.2 ⟨by omega, by omega⟩
  obtain ⟨b, ob, rfl, -, hb1, hc⟩ := hC1 x a hx
  have c0 := hc 0 _ rfl
  simp only [Nat.mul_one, Nat.add_zero] at c0
  have hb0 : Below w.heap.size w (w.alloc (.cells #[.slice (some ⟨b, ob, none⟩) g.vals.length c1, .slice A2 g.edges.length c2] 31)) := (Below.refl _ _).alloc (Nat.le_refl _) _
  have bl := Blk.new w 31 #[.slice (some ⟨b, ob, none⟩) g.vals.length c1, .slice A2 g.edges.length c2] w.heap.size rfl
  have hvg := implValidGraph _ g (w.alloc (.cells #[.slice (some ⟨b, ob, none⟩) g.vals.length c1, .slice A2 g.edges.length c2] 31)) (hvo.keep hb0)
  rw [grOk_iff.2 hg] at hvg
  have HVG := Lib.hid hvg
  have HB0 := Lib.hid hb0
  have HBL := Lib.hid bl
  clear hvg hb0 bl hc hC1 hC2 hvo hg hx
  go_enter Try.func72, Try.ntmps72
  go_wp2_with fail
  refine HVG.out.mono ?_
  rintro e w2 ⟨rfl, hb2⟩
  have b2 := HBL.out.keep hb2
  have y0 : w2.cell? ⟨w.heap.size, 0, none⟩ = some (.slice (some ⟨b, ob, none⟩) g.vals.length c1) := b2.cell 0
  have y1 : w2.cell? ⟨w.heap.size, 1, none⟩ = some (.slice A2 g.edges.length c2) := b2.cell 1
  have d0 := kcell (below_trans HB0.out hb2) c0
  have HB2 := Lib.hid (below_trans HB0.out hb2)
  have hz2 := b2.lt
  clear b2 hb2
  have q1 : IntKind.i64.wrap ((g.vals.length : Int) - 1) = (g.vals.length : Int) - 1 := IntWalk.i64_in _ (by omega)
  go_wp2_with fail
  refine (within_any (x : Int) 0 ((g.vals.length : Int) - 1) _).mono ?_
  rintro e w3 ⟨rfl, hw⟩
  rw [hw, hx1]
  clear hw w3
  go_wp2_with fail
  refine (isLetter_any letter _).mono ?_
  rintro e w3 ⟨rfl, hw⟩
  rw [hw]
  clear hw w3
  cases gl : wi letter 0 8 with
  | false =>
    have hne : ¬ letter = 6 + a := fun h => by
      have : wi letter 0 8 = true := wi_iff.2 ⟨by omega, by omega⟩
      rw [this] at gl
      cases gl
    go_wp2_with fail
    go_ret
    exact ⟨by simp [hne], HB2.out⟩
  | true =>
    obtain ⟨l0, l8⟩ := wi_iff.1 gl
    have hxx : (x : Int) < (g.vals.length : Int) := by omega
    have q2 : IntKind.i64.wrap (6 + a) = 6 + a := IntWalk.i64_in _ (by omega)
    by_cases he : letter = 6 + a
    · have hq : letter = 6 + a := by omega
      have HE := Lib.hid he
      clear he
      go_wp2_with fail
      go_ret
      exact ⟨by rw [decide_eq_true HE.out] <;> simp [hq], HB2.out⟩
    · have hq : ¬ letter = 6 + a := by omega
      go_wp2_with fail
      go_ret
      exact ⟨by simp [he, hq], HB2.out⟩

set_option maxHeartbeats 2000000 in
theorem specHolds (v : Value) (g : Gr) (w : World) (hv : GrV 0 w.heap.size w v g) (hg : GrOk g) (x : Nat) (a : Int) (hx : g.vals[x]? = some a) (letter : Int) :
    Calls Try.prog 65 #[v, .int .i64 (x : Int), .int .i64 letter] w fun e w' => e = .returned (.bool (decide (letter = 6 + a))) ∧ Below w.heap.size w w' := by
  have hvo := hv
  obtain ⟨vs, es, rfl, ⟨A1, c1, rfl, hl1, hm1, hC1⟩, ⟨A2, c2, rfl, hl2, hm2, hC2⟩⟩ := hv
  unfold maxLen at hm1 hm2
  have hn5 := hg.n5
  have hn1 := hg.n1
  have hxn := (List.getElem?_eq_some_iff.1 hx).1
  have hav := hg.vals a (List.mem_of_getElem? hx)
  have hx1 : wi (x : Int) 0 ((g.vals.length : Int) - 1) = true := wi_iff.2 ⟨by omega, by omega⟩
  obtain ⟨b, ob, rfl, -, hb1, hc⟩ := hC1 x a hx
  have c0 := hc 0 _ rfl
  simp only [Nat.mul_one, Nat.add_zero] at c0
  have hb0 : Below w.heap.size w (w.alloc (.cells #[.slice (some ⟨b, ob, none⟩) g.vals.length c1, .slice A2 g.edges.length c2] 31)) := (Below.refl _ _).alloc (Nat.le_refl _) _
  have bl := Blk.new w 31 #[.slice (some ⟨b, ob, none⟩) g.vals.length c1, .slice A2 g.edges.length c2] w.heap.size rfl
  have hvg := specValidGraph _ g (w.alloc (.cells #[.slice (some ⟨b, ob, none⟩) g.vals.length c1, .slice A2 g.edges.length c2] 31)) (hvo.keep hb0)
  rw [grOk_iff.2 hg] at hvg
  have HVG := Lib.hid hvg
  have HB0 := Lib.hid hb0
  have HBL := Lib.hid bl
  clear hvg hb0 bl hc hC1 hC2 hvo hg hx
  go_enter Try.func65, Try.ntmps65
  go_wp2_with fail
  refine HVG.out.mono ?_
  rintro e w2 ⟨rfl, hb2⟩
  have b2 := HBL.out.keep hb2
  have y0 : w2.cell? ⟨w.heap.size, 0, none⟩ = some (.slice (some ⟨b, ob, none⟩) g.vals.length c1) := b2.cell 0
  have y1 : w2.cell? ⟨w.heap.size, 1, none⟩ = some (.slice A2 g.edges.length c2) := b2.cell 1
  have d0 := kcell (below_trans HB0.out hb2) c0
  have HB2 := Lib.hid (below_trans HB0.out hb2)
  have hz2 := b2.lt
  clear b2 hb2
  have q1 : IntKind.i64.wrap ((g.vals.length : Int) - 1) = (g.vals.length : Int) - 1 := IntWalk.i64_in _ (by omega)
  go_wp2_with fail
  refine (l1In_any (x : Int) 0 ((g.vals.length : Int) - 1) _).mono ?_
  rintro e w3 ⟨rfl, hw⟩
  rw [hw, hx1]
  clear hw w3
  go_wp2_with fail
  refine (l1In_any letter 6 8 _).mono ?_
  rintro e w3 ⟨rfl, hw⟩
  rw [hw]
  clear hw w3
  cases gl : wi letter 6 8 with
  | false =>
    have hne : ¬ letter = 6 + a := fun h => by
      have : wi letter 6 8 = true := wi_iff.2 ⟨by omega, by omega⟩
      rw [this] at gl
      cases gl
    go_wp2_with fail
    go_ret
    exact ⟨by simp [hne], HB2.out⟩
  | true =>
    obtain ⟨l0, l8⟩ := wi_iff.1 gl
    have hxx : (x : Int) < (g.vals.length : Int) := by omega
    have q2 : IntKind.i64.wrap (letter - 6) = letter - 6 := IntWalk.i64_in _ (by omega)
    by_cases he : letter = 6 + a
    · have hq : a = letter - 6 := by omega
      have HE := Lib.hid he
      clear he
      go_wp2_with fail
      go_ret
      exact ⟨by rw [decide_eq_true HE.out] <;> simp [hq], HB2.out⟩
    · have hq : ¬ a = letter - 6 := by omega
      go_wp2_with fail
      go_ret
      exact ⟨by simp [he, hq], HB2.out⟩

end Go.Proofs.Ytbkaoghlkdbofaa

/- A region that draws its order: loads come first under a condition S that is asked before its last operations alone (a store to a cell that the region loads). Over any program. -/
namespace Go.Proofs.Ytbkaoghlkdbofaa
set_option linter.unusedVariables false
set_option linter.unusedSimpArgs false
open Go.RowKit

section
variable {P : Program} {ops : Array Oper} {Q : Exit → Act → World → Prop} {md : Region.Mode} {S : World → Prop} {n : Nat}

/-- whatever order is picked; S holds behind each operation below n -/
def wpAnyF (P : Program) (md : Region.Mode) (ops : Array Oper) (Q : Exit → Act → World → Prop) (S : World → Prop) (n : Nat) : Nat → Array Bool → Act → World → Prop
  | 0, listed, a, w => Region.ready md ops listed = [] ∧ Q .normal a w
  | f + 1, listed, a, w => (Region.ready md ops listed = [] → Q .normal a w) ∧
    ∀ i ∈ Region.ready md ops listed, wpOp P ops Q i (fun a' w' => (i < n → S w') ∧ wpAnyF P md ops Q S n f (listed.setIfInBounds i true) a' w') a w
theorem F_any : ∀ (f : Nat) (listed : Array Bool) (a : Act) (w : World), wpAnyF P md ops Q S n f listed a w → wpAny P md ops Q f listed a w
  | 0, _, _, _, h => h
  | f + 1, _, _, _, h => ⟨h.1, fun i hi => wpOp_mono (fun _ _ h' => F_any f _ _ _ h'.2) (h.2 i hi)⟩
theorem F_first {i : Nat} {oi : Oper} {v : Value} (hi : ops[i]? = some oi) (hsel : ∀ (j : Nat) (o : Oper) cs b, ops[j]? = some o → o.op ≠ .select cs b) (hQ : ∀ c a w, Q (.panic c) (a.put oi.dst v) w → Q (.panic c) a w)
    (hs : Region.sinkB md ops n = true) (hc : Region.chainB md ops n = true) (hn : n < ops.size) (hin : i < n) : ∀ (f : Nat) (listed : Array Bool) (a : Act) (w : World), HeadInv md ops n listed →
      (∀ j oj, ops[j]? = some oj → j ≠ i → listed.getD j true = false → (∀ e ∈ oj.after, Region.binds md e = true → e.on ≠ i) → oi.apart ops oj = true) →
      i ∈ Region.ready md ops listed → YieldsIf P ops S oi v a → S w →
      wpAnyF P md ops Q S n f (listed.setIfInBounds i true) (a.put oi.dst v) w → wpAnyF P md ops Q S n (f + 1) listed a w := by
  intro f
  induction f with
  | zero =>
    intro listed a w inv _ hr hy hS H
    have hun := (mem_ready.1 hr).1
    refine ⟨fun h => (by rw [h] at hr; cases hr), fun j hj => ?_⟩
    by_cases hji : j = i
    · subst hji; exact hy.wpOp hi hS ⟨fun _ => hS, H⟩
    · have := ready_mono hj hji
      rw [H.1] at this
      cases this
  | succ f ih =>
    intro listed a w inv hfree hr hy hS H
    have hun := (mem_ready.1 hr).1
    refine ⟨fun h => (by rw [h] at hr; cases hr), fun j hj => ?_⟩
    have hjn : j < n := by
      rcases Nat.lt_or_ge j n with h | h
      · exact h
      · exact absurd hj (tail_waits hs hc hn inv _ i rfl hin hun j h)
    by_cases hji : j = i
    · subst hji; exact hy.wpOp hi hS ⟨fun _ => hS, H⟩
    · have h1 := H.2 j (ready_mono hj hji)
      obtain ⟨hjun, oj, hoj, hall⟩ := mem_ready.1 hj
      have hnot : ∀ e ∈ oj.after, Region.binds md e = true → e.on ≠ i := fun e he hb heq => by
        have h1 := hall e he hb
        rw [heq, getD_both hun] at h1
        cases h1
      have h2 := wpOp_putIf hoj (hfree j oj hoj hji hjun hnot) (fun cs b => hsel i oi cs b hi) (fun cs b => hsel j oj cs b hoj) hQ hy h1
      have hfree' : ∀ k ok, ops[k]? = some ok → k ≠ i → (listed.setIfInBounds j true).getD k true = false → (∀ e ∈ ok.after, Region.binds md e = true → e.on ≠ i) → oi.apart ops ok = true := fun k ok hk hki hun hno => by
        refine hfree k ok hk hki ?_ hno
        by_cases hjk : j = k
        · subst hjk; exact hjun
        · rw [getD_set_ne true hjk] at hun; exact hun
      refine wpOp_mono (fun a' w' h3 => ⟨h3.2.1, ih (listed.setIfInBounds j true) a' w' (inv.set hj hjn) hfree' (ready_mono hr (Ne.symm hji)) h3.1 (h3.2.1 hjn) ?_⟩) h2
      rw [Array.setIfInBounds_comm _ _ hji]
      exact h3.2.2
theorem F_take {i : Nat} {oi : Oper} {v : Value} {f : Nat} {listed : Array Bool} {a : Act} {w : World} (hi : ops[i]? = some oi) (hB : (Region.noSelect ops && Region.sinkB md ops n && Region.chainB md ops n && decide (n < ops.size) && decide (i < n)) = true)
    (hf : Region.free md ops listed i = true) (hr : (Region.ready md ops listed).contains i = true) (hQ : ∀ c a w, Q (.panic c) (a.put oi.dst v) w → Q (.panic c) a w) (inv : HeadInv md ops n listed) (hy : YieldsIf P ops S oi v a) (hS : S w)
    (h : HeadInv md ops n (listed.setIfInBounds i true) → wpAnyF P md ops Q S n f (listed.setIfInBounds i true) (a.put oi.dst v) w) : wpAnyF P md ops Q S n (f + 1) listed a w := by
  simp only [Bool.and_eq_true, decide_eq_true_eq] at hB
  obtain ⟨⟨⟨⟨h1, h2⟩, h3⟩, h4⟩, h5⟩ := hB
  have hr' : i ∈ Region.ready md ops listed := by simpa using hr
  exact F_first hi (Region.noSelect_spec h1) hQ h2 h3 h4 h5 f listed a w inv (Region.free_spec hi hf) hr' hy hS (h (inv.set hr' h5))
/-- the only one that may come up: an operation below n -/
theorem F_one {i : Nat} {oi : Oper} {f : Nat} {listed : Array Bool} {a : Act} {w : World} (hr : Region.ready md ops listed = [i]) (hi : ops[i]? = some oi) (hg : oi.guard = none) (hin : i < n) (inv : HeadInv md ops n listed)
    (h : ∀ K : Act → World → Prop, Shut (∀ a' w', S w' → (S w' → HeadInv md ops n (listed.setIfInBounds i true) → wpAnyF P md ops Q S n f (listed.setIfInBounds i true) a' w') → K a' w') → Oper.wp P oi a w K Q) : wpAnyF P md ops Q S n (f + 1) listed a w := by
  refine ⟨fun h0 => (by rw [hr] at h0; cases h0), fun j hj => ?_⟩
  have hj2 := hj
  rw [hr] at hj2
  obtain rfl : j = i := by simpa using hj2
  have hw : Region.wanted oi (yielded ops a.tmps) = true := by simp [Region.wanted, hg]
  unfold wpOp
  simp only [hi, hw, if_true]
  exact .inl (h _ (fun a' w' hS hF => ⟨fun _ => hS, hF hS (inv.set hj hin)⟩))
/-- the last one -/
theorem F_last {i : Nat} {oi : Oper} {f : Nat} {listed : Array Bool} {a : Act} {w : World} (hr : Region.ready md ops listed = [i]) (hi : ops[i]? = some oi) (hg : oi.guard = none) (hin : n ≤ i) (he : Region.ready md ops (listed.setIfInBounds i true) = [])
    (h : ∀ K : Act → World → Prop, (∀ a' w', Q .normal a' w' → K a' w') → Oper.wp P oi a w K Q) : wpAnyF P md ops Q S n (f + 1) listed a w := by
  refine ⟨fun h0 => (by rw [hr] at h0; cases h0), fun j hj => ?_⟩
  rw [hr] at hj
  obtain rfl : j = i := by simpa using hj
  have hw : Region.wanted oi (yielded ops a.tmps) = true := by simp [Region.wanted, hg]
  unfold wpOp
  simp only [hi, hw, if_true]
  refine .inl (h _ (fun a' w' hq => ⟨fun h => absurd h (by omega), ?_⟩))
  cases f with
  | zero => exact ⟨he, hq⟩
  | succ f => exact ⟨fun _ => hq, by rw [he]; simp⟩
/-- two that may come up -/
theorem F_two {i j : Nat} {oi oj : Oper} {f : Nat} {listed : Array Bool} {a : Act} {w : World} (hr : Region.ready md ops listed = [i, j]) (hi : ops[i]? = some oi) (hj : ops[j]? = some oj) (hgi : oi.guard = none) (hgj : oj.guard = none) (hin : i < n ∧ j < n) (inv : HeadInv md ops n listed)
    (h1 : ∀ K : Act → World → Prop, Shut (∀ a' w', S w' → (S w' → HeadInv md ops n (listed.setIfInBounds i true) → wpAnyF P md ops Q S n f (listed.setIfInBounds i true) a' w') → K a' w') → Oper.wp P oi a w K Q)
    (h2 : ∀ K : Act → World → Prop, Shut (∀ a' w', S w' → (S w' → HeadInv md ops n (listed.setIfInBounds j true) → wpAnyF P md ops Q S n f (listed.setIfInBounds j true) a' w') → K a' w') → Oper.wp P oj a w K Q) : wpAnyF P md ops Q S n (f + 1) listed a w := by
  refine ⟨fun h0 => (by rw [hr] at h0; cases h0), fun k hk => ?_⟩
  have hk2 := hk
  rw [hr] at hk2
  simp only [List.mem_cons, List.not_mem_nil, or_false] at hk2
  rcases hk2 with rfl | rfl
  · have hw : Region.wanted oi (yielded ops a.tmps) = true := by simp [Region.wanted, hgi]
    unfold wpOp
    simp only [hi, hw, if_true]
    exact .inl (h1 _ (fun a' w' hS hF => ⟨fun _ => hS, hF hS (inv.set hk hin.1)⟩))
  · have hw : Region.wanted oj (yielded ops a.tmps) = true := by simp [Region.wanted, hgj]
    unfold wpOp
    simp only [hj, hw, if_true]
    exact .inl (h2 _ (fun a' w' hS hF => ⟨fun _ => hS, hF hS (inv.set hk hin.2)⟩))
/-- one of the chain at the end, not the last -/
theorem F_tail {i : Nat} {oi : Oper} {f : Nat} {listed : Array Bool} {a : Act} {w : World} (hr : Region.ready md ops listed = [i]) (hi : ops[i]? = some oi) (hg : oi.guard = none) (hin : n ≤ i)
    (h : ∀ K : Act → World → Prop, Shut (∀ a' w', wpAnyF P md ops Q S n f (listed.setIfInBounds i true) a' w' → K a' w') → Oper.wp P oi a w K Q) : wpAnyF P md ops Q S n (f + 1) listed a w := by
  refine ⟨fun h0 => (by rw [hr] at h0; cases h0), fun j hj => ?_⟩
  rw [hr] at hj
  obtain rfl : j = i := by simpa using hj
  have hw : Region.wanted oi (yielded ops a.tmps) = true := by simp [Region.wanted, hg]
  unfold wpOp
  simp only [hi, hw, if_true]
  exact .inl (h _ (fun a' w' hF => ⟨fun hlt => absurd hlt (by omega), hF⟩))
theorem F_start {id : Nat} {a : Act} {w : World} (n : Nat) (S : World → Prop) (hm : P.follows .mixedOrders = true) (hS : S w.drew)
    (h : S w.drew → HeadInv .any ops n (Array.replicate ops.size false) → wpAnyF P .any ops Q S n ops.size (Array.replicate ops.size false) a w.drew) : (Code.region id ops true).wp P Q a w :=
  wp_region_any hm (F_any _ _ _ _ (h hS ⟨by simp, fun j oj _ hl => (by rw [getD_replicate_false] at hl; cases hl), fun t _ ht => getD_in (by simpa using ht) (getD_replicate_false _ _)⟩))

/-- append(s, x): as an operation by itself; the one element lies in block H -/
theorem op_append1 {w : World} {α : Type} (E : α → List Value) {o : Oper} {a : Act} {K : Act → World → Prop} {t e : TypeId} {z : Value} {k bytes : Nat} (el : ElemOk P t e z k bytes) (hgd : o.guard = none) (s y : Operand)
    (ho : o.op = .call { callee := .builtin .append, args := #[s, y], argTypes := #[t, t] })
    (base : Nat) (v : Value) (xs : List α) (x : α) (c H : Nat) (hs : a.eval s = v) (hown : w.ownsRow base e k v xs.length (xs.flatMap E)) (hy : a.eval y = .slice (some ⟨H, 0, none⟩) 1 c)
    (hH : w.heap[H]? = some (.cells (E x).toArray e (0, 0))) (hE : (E x).length = k) (h1 : ∀ u ∈ E x, u.oneCell' = true) (hbytes : (xs.length + 1) * bytes ≤ 140737488355328) (hb0 : 0 < bytes) (hbase : base ≤ w.heap.size)
    (h : ∀ g cap w', w'.ownsRow base e k (.slice (some ⟨g, 0, none⟩) (xs.length + 1) cap) (xs ++ [x]).length ((xs ++ [x]).flatMap E) → w.grownBy w' v.ownBlock → (v.ownBlock = some g ∨ w.heap.size ≤ g) → g < w'.heap.size →
      K (a.put o.dst (.slice (some ⟨g, 0, none⟩) (xs.length + 1) cap)) w') : Oper.wp P o a w K Q := by
  have h2 := step_append1 (ops := #[]) (EE := True) (Q := Q) (K := K) E el hgd s y ho base v xs x c H hs hown hy hH hE h1 hbytes hb0 hbase h
  have hw : Region.wanted o (yielded #[] a.tmps) = true := by simp [Region.wanted, hgd]
  rwa [if_pos hw] at h2
/-- the same at the head of a list of operations -/
theorem wpList_append2 {w : World} {α : Type} (E : α → List Value) {rest : List Oper} {o : Oper} {a : Act} {t e : TypeId} {z : Value} {k bytes : Nat} (el : ElemOk P t e z k bytes) (hgd : o.guard = none) (s y : Operand)
    (ho : o.op = .call { callee := .builtin .append, args := #[s, y], argTypes := #[t, t] })
    (base : Nat) (v : Value) (xs : List α) (x : α) (c H : Nat) (hs : a.eval s = v) (hown : w.ownsRow base e k v xs.length (xs.flatMap E)) (hy : a.eval y = .slice (some ⟨H, 0, none⟩) 1 c)
    (hH : w.heap[H]? = some (.cells (E x).toArray e (0, 0))) (hE : (E x).length = k) (h1 : ∀ u ∈ E x, u.oneCell' = true) (hbytes : (xs.length + 1) * bytes ≤ 140737488355328) (hb0 : 0 < bytes) (hbase : base ≤ w.heap.size)
    (h : ∀ g cap w', w'.ownsRow base e k (.slice (some ⟨g, 0, none⟩) (xs.length + 1) cap) (xs ++ [x]).length ((xs ++ [x]).flatMap E) → w.grownBy w' v.ownBlock → (v.ownBlock = some g ∨ w.heap.size ≤ g) → g < w'.heap.size →
      wpList P ops Q rest (a.put o.dst (.slice (some ⟨g, 0, none⟩) (xs.length + 1) cap)) w') : wpList P ops Q (o :: rest) a w :=
  wpList_plain hgd fun _ hK => op_append1 E el hgd s y ho base v xs x c H hs hown hy hH hE h1 hbytes hb0 hbase fun g cap w' h2 h3 h4 h5 => hK _ _ (h g cap w' h2 h3 h4 h5)
end
end Go.Proofs.Ytbkaoghlkdbofaa

/- append of a whole list to a row of the call's own, from whatever slice reads as the list. Over any program. -/
namespace Go.Proofs.Ytbkaoghlkdbofaa
set_option linter.unusedVariables false
set_option linter.unusedSimpArgs false
open Go.ChangeShapes Go.WideShapes Go.ChangeAt Go.RowKit
section
variable {P : Program} {w : World}
theorem run_append_nil0 (base : Nat) (t ty e : TypeId) (i : TypeInfo) (size : Nat) (ht : P.underlying t = some (.slice e)) (hi : P.info? e = some i) (v : Value) (n : Nat) (xs : List Value) (hown : w.ownsRow base e size v n xs) (c : Nat) :
    (Builtin.append_ #[t, t] ty #[v, .slice none 0 c]).run P w = .ok v w := by
  obtain ⟨_, h2⟩ := hown
  rcases h2 with ⟨rfl, _⟩ | ⟨g, cap, cur, rfl, _, _, hnc, _⟩
  · simp [Builtin.append_, run_underlying ht, sizeOf, typeInfo, hi, Builtin.lenOf, Builtin.firstCells]
  · simp [Builtin.append_, run_underlying ht, sizeOf, typeInfo, hi, Builtin.lenOf, Builtin.firstCells, hnc, storeCells]
theorem flat_one {α : Type} {E : α → List Value} {xs : List α} (h1 : ∀ x, ∀ u ∈ E x, u.oneCell' = true) : ∀ u ∈ xs.flatMap E, u.oneCell' = true := fun u hu => by
  obtain ⟨x, _, hx⟩ := List.mem_flatMap.1 hu
  exact h1 x u hx
theorem flat_lenE {α : Type} {E : α → List Value} {k : Nat} (hE : ∀ x, (E x).length = k) : ∀ xs : List α, (xs.flatMap E).length = xs.length * k
  | [] => by simp
  | x :: xs => by rw [List.flatMap_cons, List.length_append, hE, flat_lenE hE xs, List.length_cons, Nat.succ_mul, Nat.add_comm]
/-- all cells of a list lie one behind the other -/
theorem flat_cells {α : Type} {E : α → List Value} {k : Nat} (hE : ∀ x, (E x).length = k) (hk : 0 < k) {b o : Nat} {ys : List α} (h : ∀ i x, ys[i]? = some x → ∀ j u, (E x)[j]? = some u → w.cell? ⟨b, o + i * k + j, none⟩ = some u) :
    ∀ j u, (ys.flatMap E)[j]? = some u → w.cell? ((⟨b, o, none⟩ : Addr).add j) = some u := by
  intro j u hu
  have hl := (List.getElem?_eq_some_iff.1 hu).1
  rw [flat_lenE hE] at hl
  have hi : j / k < ys.length := Nat.div_lt_of_lt_mul (by rw [Nat.mul_comm]; exact hl)
  have hx : ys[j / k]? = some ys[j / k] := List.getElem?_eq_getElem hi
  have hj : j % k < (E ys[j / k]).length := by rw [hE]; exact Nat.mod_lt _ hk
  have hf := flat_at hE hx (j % k) _ (List.getElem?_eq_getElem hj)
  have hjj : j / k * k + j % k = j := by rw [Nat.mul_comm]; exact Nat.div_add_mod j k
  rw [hjj, hu] at hf
  injection hf with hf
  have hc := h _ _ hx (j % k) _ (List.getElem?_eq_getElem hj)
  have hadd : (⟨b, o, none⟩ : Addr).add j = ⟨b, o + j, none⟩ := by unfold Addr.add; split <;> simp_all
  rw [hadd, hf, ← hc]
  congr 2
  omega
theorem run_appendL {α : Type} (E : α → List Value) {t e : TypeId} {z : Value} {k bytes : Nat} (el : ElemOk P t e z k bytes) (hE : ∀ x, (E x).length = k) (h1 : ∀ x, ∀ u ∈ E x, u.oneCell' = true)
    (base : Nat) (v : Value) (xs ys : List α) (hown : w.ownsRow base e k v xs.length (xs.flatMap E)) (lo hi : Nat) (y : Value) (hy : SlI lo hi w E k y ys) (hbytes : (xs.length + ys.length) * bytes ≤ 140737488355328) (hb0 : 0 < bytes) (hbase : base ≤ w.heap.size) (ty : TypeId) :
    ∃ v' w', (Builtin.append_ #[t, t] ty #[v, y]).run P w = .ok v' w' ∧ w'.ownsRow base e k v' (xs ++ ys).length ((xs ++ ys).flatMap E) ∧ w.grownBy w' v.ownBlock ∧ (v'.ownBlock = v.ownBlock ∨ v'.ownBlock = some w.heap.size) := by
  obtain ⟨i, hi, hz0, hz1, hz2⟩ := info_parts el.info
  have hlen : xs.length + ys.length ≤ 140737488355328 := Nat.le_trans (Nat.le_mul_of_pos_right _ hb0) hbytes
  obtain ⟨A, c, rfl, _, _, hx⟩ := hy
  have key : ∀ a : Addr, A = some a → (∀ j u, (ys.flatMap E)[j]? = some u → w.cell? (a.add j) = some u) → ∃ v' w', (Builtin.append_ #[t, t] ty #[v, .slice A ys.length c]).run P w = .ok v' w' ∧ w'.ownsRow base e k v' (xs ++ ys).length ((xs ++ ys).flatMap E) ∧ w.grownBy w' v.ownBlock ∧ (v'.ownBlock = v.ownBlock ∨ v'.ownBlock = some w.heap.size) := by
    intro a ha hc
    subst ha
    obtain ⟨v', w', hr, h2, h3, _, h5⟩ := run_append_own_at (P := P) w base t ty e i z k bytes el.und hi hz0 hz1 hz2 el.zc el.pos v xs.length (xs.flatMap E) hown a ys.length c (ys.flatMap E) (flat_lenE hE ys) hc (flat_one h1) (by unfold maxLen; omega) hbytes hbase
    exact ⟨v', w', hr, by rw [List.flatMap_append, List.length_append]; exact h2, h3, h5⟩
  cases ys with
  | nil =>
    cases A with
    | none => exact ⟨v, w, run_append_nil0 base t ty e i k el.und hi v _ _ hown c, by simpa using hown, World.grownBy.refl w _, .inl rfl⟩
    | some a => exact key a rfl (fun j u hu => by simp at hu)
  | cons x ys =>
    obtain ⟨b, o, hA, -, -, -⟩ := hx 0 x rfl
    refine key ⟨b, o, none⟩ hA (flat_cells hE el.pos fun i x hi j u hu => ?_)
    obtain ⟨b', o', hA', -, -, hc⟩ := hx i x hi
    rw [hA] at hA'
    injection hA' with hA'
    injection hA' with e1 e2
    subst e1 e2
    exact hc j u hu
theorem wpList_appendL {α : Type} (E : α → List Value) {ops : Array Oper} {rest : List Oper} {o : Oper} {a : Act} {Q : Exit → Act → World → Prop} {t e : TypeId} {z : Value} {k bytes : Nat} (el : ElemOk P t e z k bytes) (hE : ∀ x, (E x).length = k) (h1 : ∀ x, ∀ u ∈ E x, u.oneCell' = true)
    (hgd : o.guard = none) (s y : Operand) (ho : o.op = .call { callee := .builtin .append, args := #[s, y], argTypes := #[t, t] })
    (base : Nat) (v : Value) (xs ys : List α) (hs : a.eval s = v) (hown : w.ownsRow base e k v xs.length (xs.flatMap E)) (lo hi : Nat) (yv : Value) (hyv : a.eval y = yv) (hy : SlI lo hi w E k yv ys) (hbytes : (xs.length + ys.length) * bytes ≤ 140737488355328) (hb0 : 0 < bytes) (hbase : base ≤ w.heap.size)
    (h : ∀ v' w', w'.ownsRow base e k v' (xs ++ ys).length ((xs ++ ys).flatMap E) → w.grownBy w' v.ownBlock → (v'.ownBlock = v.ownBlock ∨ v'.ownBlock = some w.heap.size) → wpList P ops Q rest (a.put o.dst v') w') : wpList P ops Q (o :: rest) a w := by
  refine wpList_plain hgd fun K hK => ?_
  obtain ⟨v', w', hr, h2, h3, h5⟩ := run_appendL E el hE h1 base v xs ys hown lo hi yv hy hbytes hb0 hbase o.type
  unfold Oper.wp execOp
  simp only [ho, resolve, invoke, builtin, Sem.run_bind, Sem.run_pure, Result.andThen_ok, List.map_toArray, List.map_cons, List.map_nil, hs, hyv, hr]
  exact hK _ _ (h v' w' h2 h3 h5)
end
end Go.Proofs.Ytbkaoghlkdbofaa

