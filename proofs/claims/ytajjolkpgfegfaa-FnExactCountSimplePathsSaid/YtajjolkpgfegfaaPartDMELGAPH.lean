/- Parts of the proof, joined into one text: CntM, CntI, CntP, CntS. -/
import Derived.Test.YtajjolkpgfegfaaPartCDOKCKDD
import Derived.Test.YtajjolkpgfegfaaPartEIJBOOFA
import Derived.Test.YtajjolkpgfegfaaPartBMOJJLNE
import Derived.Test.YtajjolkpgfegfaaPartHIHIBPFG
import Derived.Test.YtajjolkpgfegfaaPartMLHMDHDM
import Derived.Test.YtajjolkpgfegfaaPartCPDJAGBF
import Derived.Test.YtajjolkpgfegfaaPartMKPEBINK
/- Counting simple paths, plainly: both sides walk the same arcs in the same order. -/
namespace Go.Proofs.Ytajjolkpgfegfaa
set_option linter.unusedVariables false
set_option linter.unusedSimpArgs false
open Go.ChangeShapes Go.WideShapes Go.ChangeAt Go.RowKit

def cntC (g : Gr) (a : Au) (rec : Nat → Nat → Nat → Int) (x s used : Nat) (n : Int) (p : Arc) : Int :=
  if aft a s (valAt g x) p.2.1.toNat = 0 ∨ used.testBit p.2.2.toNat = true then n
  else wrap64 (n + rec p.2.2.toNat (aft a s (valAt g x) p.2.1.toNat) (ins used p.2.2.toNat))
def cnt0 (g : Gr) (a : Au) (y : Int) (x s : Nat) : Int := if decide ((x : Int) = y) && acc a s (valAt g x) then 1 else 0
def cnt (g : Gr) (a : Au) (y : Int) : Nat → Nat → Nat → Nat → Int
  | 0, _, _, _ => 0
  | f + 1, x, s, used => (arcsOf g (x : Int)).foldl (cntC g a (cnt g a y f) x s used) (cnt0 g a y x s)
def cntTo (g : Gr) (a : Au) (y : Int) (f x s used i : Nat) : Int := ((arcsOf g (x : Int)).take i).foldl (cntC g a (cnt g a y f) x s used) (cnt0 g a y x s)
theorem cntTo_all (g : Gr) (a : Au) (y : Int) (f x s used : Nat) : cntTo g a y f x s used (arcsOf g (x : Int)).length = cnt g a y (f + 1) x s used := by rw [cntTo, List.take_length]; rfl
theorem cntTo_succ {g : Gr} {a : Au} {y : Int} {f x s used i : Nat} {p : Arc} (h : (arcsOf g (x : Int))[i]? = some p) : cntTo g a y f x s used (i + 1) = cntC g a (cnt g a y f) x s used (cntTo g a y f x s used i) p := foldl_take h _
theorem arc_stepEd {g : Gr} (hgo : grOk g = true) {x : Int} {p : Arc} (hp : p ∈ arcsOf g x) : ∃ e : Ed, stepEd g p.1.1 = some e ∧ arcLetter p.1.2 e = p.2.1 ∧ arcTo p.1.2 e = p.2.2 := by
  have hg := grOk_iff.1 hgo
  obtain ⟨i, e, hi, hie, hl, ht, hid, hm⟩ := arc_edge hg hp
  cases hs : stepEd g p.1.1 with
  | none =>
    rw [stepEd, if_pos hgo, List.find?_eq_none] at hs
    exact absurd (hs e hm) (by simp [hid])
  | some e2 =>
    obtain ⟨ix, h1, h2⟩ := stepEd_idx hs
    have : ix = i := by omega
    subst this
    rw [hie] at h2
    injection h2 with h2
    subst h2
    exact ⟨e, rfl, hl.symm, ht.symm⟩
theorem ins_gt {m t : Nat} (h : m.testBit t = false) : m < ins m t := by
  have h1 : m ≤ ins m t := Nat.left_le_or
  have h2 : m ≠ ins m t := fun e => by
    have h3 := ins_test m t t
    rw [← e, h] at h3
    simp at h3
  omega
theorem cntC_no {g : Gr} {a : Au} {rec : Nat → Nat → Nat → Int} {x s used t m : Nat} {n : Int} {p : Arc} (ht : p.2.2 = (t : Int)) (hm : aft a s (valAt g x) p.2.1.toNat = m) (h : m = 0 ∨ used.testBit t = true) : cntC g a rec x s used n p = n := by
  rw [cntC, hm, ht, Int.toNat_natCast, if_pos h]
theorem cntC_yes {g : Gr} {a : Au} {rec : Nat → Nat → Nat → Int} {x s used t m : Nat} {n : Int} {p : Arc} (ht : p.2.2 = (t : Int)) (hm : aft a s (valAt g x) p.2.1.toNat = m) (h : ¬ m = 0) (h2 : used.testBit t = false) : cntC g a rec x s used n p = wrap64 (n + rec t m (ins used t)) := by
  rw [cntC, hm, ht, Int.toNat_natCast, if_neg (by simp [h, h2])]
def cntOk (g : Gr) (a : Au) (x y : Int) : Bool := wi x 0 ((g.vals.length : Int) - 1) && (wi y 0 ((g.vals.length : Int) - 1) && (grOk g && auOk a))
/-- 32 rounds suffice, for a set of five nodes grows with each. -/
def cntSimple (g : Gr) (a : Au) (x y : Int) : Int := if cntOk g a x y = true then cnt g a y 32 x.toNat (bit a.start.toNat) (bit x.toNat) else 0
end Go.Proofs.Ytajjolkpgfegfaa

/- The program's count of simple paths: countSimple, CountSimplePaths. -/
namespace Go.Proofs.Ytajjolkpgfegfaa
set_option linter.unusedVariables false
set_option linter.unusedSimpArgs false
open Go.ChangeShapes Go.WideShapes Go.ChangeAt Go.RowKit
attribute [local go_sem] ext_cell ext_frozen ext_lt ext_lt1 ext_lt2 ext_lt3 ltn2 ltn3 ltn13 lts1 lts2 lts3

theorem contains_any (v : Value) (us : List Int) (x : Int) (w : World) (hv : SlE w cI 1 v us) (hn : us.length ≤ 1000000) :
    Calls Try.prog 118 #[v, .int .i64 x] w fun e w' => e = .returned (.bool (us.contains x)) ∧ w' = w := by
  obtain ⟨A, c, rfl, -, -, h⟩ := SlE.form hv
  cases us with
  | nil => exact Try.slices_Contains_int_empty A c x w
  | cons u us =>
    obtain ⟨b, o, rfl, -, -⟩ := h.int (i := 0) (x := u) rfl
    have hct := Try.slices_Contains_int b o (u :: us).length c (u :: us) x w (Nat.le_refl _) (by omega) (fun j hj => (SlC.intA h (getD_of hj)).2)
    rw [List.take_length] at hct
    exact hct
set_option maxHeartbeats 8000000 in
set_option maxRecDepth 100000 in
theorem countSimple_any (g : Gr) (a : Au) (y : Int) (hgo : grOk g = true) (ha : auOk a = true) (f : Nat) : ∀ (x s used : Nat) (us : List Int) (vg va lv uv : Value) (w : World), GrV 0 w.heap.size w vg g → AuV 0 w.heap.size w va a →
    SSE 0 w.heap.size w cA 4 lv ((List.range g.vals.length).map fun (x : Nat) => arcsOf g (x : Int)) → SlE w cI 1 uv us → (∀ t : Nat, used.testBit t = us.contains (t : Int)) → us.length + f ≤ 33 → x < g.vals.length → s < 2 ^ a.accept.length → used < 32 → 32 ≤ used + f →
    Calls Try.prog 72 #[vg, va, lv, .int .i64 (x : Int), .int .i64 (s : Int), .int .i64 y, uv] w fun e w' => e = .returned (.int .i64 (cnt g a y f x s used)) ∧ Below w.heap.size w w' := by
  induction f with
  | zero => intro x s used us vg va lv uv w _ _ _ _ _ _ _ _ h1 h2; omega
  | succ f ih =>
    intro x s used us vg va lv uv w hgv hav hlv huv hus hul hx hs hu huf
    have HIH := Lib.hid ih
    have hgv0 := hgv
    have hav0 := hav
    obtain ⟨A1, c1, A2, c2, rfl, hl1, hm1, hl2, hm2, hC1, -⟩ := hgv.form
    obtain ⟨A3, c3, A4, c4, rfl, hl3, hm3, hl4, hm4, -⟩ := hav.form ha
    have hlv0 := hlv
    have huv0 := huv
    obtain ⟨A5, c5, hv5, hl5, hm5⟩ := hlv.shape
    have hlen5 : ((List.range g.vals.length).map fun (x : Nat) => arcsOf g (x : Int)).length = g.vals.length := by simp
    rw [hlen5] at hv5 hl5
    subst hv5
    obtain ⟨A6, c6, rfl, hl6, hm6, -⟩ := SlE.form huv
    obtain ⟨b5, o5, A7, c7, rfl, -, hb5, d5, hl7, hm7, hI7, -⟩ := hlv.row (Nat.le_refl _) (i := x) (xs := arcsOf g (x : Int)) (by simp [hx])
    have hxi : g.vals[x]? = some g.vals[x] := List.getElem?_eq_getElem hx
    have hvr := (grOk_iff.1 hgo).vals _ (List.getElem_mem hx)
    generalize g.vals[x] = vx at hxi hvr
    obtain ⟨vx, rfl⟩ := Int.eq_ofNat_of_zero_le hvr.1
    have hva := valAt_of hxi
    rw [Int.toNat_natCast] at hva
    obtain ⟨b1, o1, rfl, hbb1, dv⟩ := hC1.int hxi
    have hxx : (x : Int) < (g.vals.length : Int) := by omega
    have hb0 : Below w.heap.size w ((w.alloc (.cells #[.slice (some ⟨b1, o1, none⟩) g.vals.length c1, .slice A2 g.edges.length c2] 35)).alloc (.cells #[.int .i64 a.start, .slice A3 a.accept.length c3, .slice A4 a.accept.length c4] 37)) := ((Below.refl _ _).alloc (Nat.le_refl _) _).alloc (by simp) _
    have HGV := Lib.hid hgv0
    have HAV := Lib.hid hav0
    have HLV := Lib.hid hlv0
    have HUV := Lib.hid huv0
    have HUS := Lib.hid hus
    have HGO := Lib.hid hgo
    have HA := Lib.hid ha
    have HS := Lib.hid hs
    have HI7 := Lib.hid hI7
    have hs4 := lt12 ha hs
    have hn5 := (grOk_iff.1 hgo).n5
    have hAL := arcs_len (grOk_iff.1 hgo) (x : Int)
    have HEND := Lib.hid (fun (W : World) (hW : Below w.heap.size w W) => acceptsAt_any _ a s vx W (hav0.keep hW) ha hs (by omega))
    have HVA := Lib.hid hva
    obtain ⟨R, hR⟩ : ∃ R, R = cnt g a y (f + 1) x s used := ⟨_, rfl⟩
    rw [← hR]
    have HR := Lib.hid (hR.trans (cntTo_all g a y f x s used).symm)
    clear hgv hav hgv0 hav0 hlv hlv0 huv huv0 hus hgo ha hR hs ih hC1 hI7 hxi hva hlen5
    go_enter Try.func72, Try.ntmps72
    go_upto_region 2 with fail
    obtain ⟨W0, hW0⟩ : ∃ W0, W0 = ((w.alloc (.cells #[.slice (some ⟨b1, o1, none⟩) g.vals.length c1, .slice A2 g.edges.length c2] 35)).alloc (.cells #[.int .i64 a.start, .slice A3 a.accept.length c3, .slice A4 a.accept.length c4] 37)) := ⟨_, rfl⟩
    rw [← hW0] at hb0 ⊢
    have x0 : W0.cell? ⟨w.heap.size, 0, none⟩ = some (.slice (some ⟨b1, o1, none⟩) g.vals.length c1) := by rw [hW0]; simp
    have x1 : W0.cell? ⟨w.heap.size, 1, none⟩ = some (.slice A2 g.edges.length c2) := by rw [hW0]; simp
    have y0 : W0.cell? ⟨w.heap.size + 1, 0, none⟩ = some (.int .i64 a.start) := by rw [hW0]; simp
    have y1 : W0.cell? ⟨w.heap.size + 1, 1, none⟩ = some (.slice A3 a.accept.length c3) := by rw [hW0]; simp
    have y2 : W0.cell? ⟨w.heap.size + 1, 2, none⟩ = some (.slice A4 a.accept.length c4) := by rw [hW0]; simp
    have hs0 : w.heap.size + 1 + 1 = W0.heap.size := by rw [hW0]; simp
    try rw [hs0]
    have l0 : w.heap.size + 1 < W0.heap.size := by omega
    have l00 : w.heap.size < W0.heap.size := by omega
    clear hW0 hs0
    have dv := kcell hb0 dv
    have d5 := kcell hb0 d5
    have hb5 := Nat.lt_of_lt_of_le hb5 hb0.size
    have hbb1 := Nat.lt_of_lt_of_le hbb1 hb0.size
    obtain ⟨BB, hBB⟩ : ∃ BB, BB = (decide ((x : Int) = y) && acc a s vx) := ⟨_, rfl⟩
    have HBB := Lib.hid hBB
    clear hBB
    go_cut [31] (fun b wx => ∃ u, b = .bool BB ∧ wx = ext W0 u)
    case first =>
      by_cases hxy : (x : Int) = y
      · have hd : decide ((x : Int) = y) = true := decide_eq_true hxy
        have hd2 : ((x : Int) == y) = true := by simp [hxy]
        have HBT := Lib.hid (HBB.out.trans (by rw [hd, Bool.true_and]))
        generalize acc a s vx = bb at *
        clear hxy HBB
        refine wp_region_ext_lit (by kernel_rfl) (by kernel_rfl) ?_
        repeat (go_big_quiet_step ((go_at_call 101; exact Calls.ext_of (HEND.out _ (below_trans hb0 (ext_below _ _))))))
        refine wpQuiet_nil ?_
        intro _ hw'
        obtain ⟨u2, hw''⟩ := hw'
        subst hw''
        go_wp2_with fail
        go_meet
        exact ⟨u2, by rw [HBT.out], rfl⟩
      · have hd : decide ((x : Int) = y) = false := decide_eq_false hxy
        have hd2 : ((x : Int) == y) = false := by simp [hxy]
        have HBT := Lib.hid (HBB.out.trans (by rw [hd, Bool.false_and]))
        clear hxy HBB
        refine wp_region_ext_lit (by kernel_rfl) (by kernel_rfl) ?_
        repeat (go_big_quiet_step (fail))
        refine wpQuiet_nil ?_
        intro _ hw'
        obtain ⟨u2, hw''⟩ := hw'
        subst hw''
        go_wp2_with fail
        go_meet
        exact ⟨u2, by rw [HBT.out], rfl⟩
    case rest =>
      obtain ⟨u, rfl, rfl⟩ := hcut
      have HC0 := Lib.hid (show cnt0 g a y x s = if BB = true then 1 else 0 by rw [HBB.out, ← HVA.out]; rfl)
      clear HBB
      go_upto_if 31 with fail
      go_cut [15] (fun n wx => n = .int .i64 (cnt0 g a y x s) ∧ wx = ext W0 u)
      case first =>
        generalize cnt0 g a y x s = n0 at *
        cases BB with
        | true =>
          go_wp2_with fail
          go_meet
          exact ⟨by rw [HC0.out]; rfl, rfl⟩
        | false =>
          go_wp2_with fail
          go_meet
          exact ⟨by rw [HC0.out]; rfl, rfl⟩
      case rest =>
        obtain ⟨rfl, rfl⟩ := hcut
        have hN0 : cnt0 g a y x s = cntTo g a y f x s used 0 := rfl
        have HN0 := Lib.hid hN0
        clear hN0
        generalize cnt0 g a y x s = n0 at *
        clear HC0 HEND
        go_wp2_with fail
        go_loopw [15, 37] (fun nn ii wr => ∃ (i : Nat) (u : World), i ≤ (arcsOf g (x : Int)).length ∧ ii = .int .i64 (i : Int) ∧ nn = .int .i64 (cntTo g a y f x s used i) ∧ wr = ext W0 u) (fun _ ii _ => (arcsOf g (x : Int)).length - (intOf ii).toNat)
        case atStart => exact ⟨0, u, Nat.zero_le _, rfl, by rw [HN0.out], rfl⟩
        case round =>
          clear HN0 u
          obtain ⟨i, u, hi, rfl, rfl, rfl⟩ := hrel
          by_cases hlt : i < (arcsOf g (x : Int)).length
          · have hyi : (arcsOf g (x : Int))[i]? = some (arcsOf g (x : Int))[i] := List.getElem?_eq_getElem hlt
            have hyr := arc_range (grOk_iff.1 HGO.out) (List.getElem_mem hlt)
            generalize (arcsOf g (x : Int))[i] = p at hyi hyr
            have HTS := Lib.hid (cntTo_succ (a := a) (y := y) (f := f) (s := s) (used := used) hyi)
            generalize cntTo g a y f x s used i = m1 at *
            obtain ⟨⟨sid, sinv⟩, l, t⟩ := p
            simp only at hyr
            obtain ⟨l, rfl⟩ := Int.eq_ofNat_of_zero_le hyr.1.1
            obtain ⟨t, rfl⟩ := Int.eq_ofNat_of_zero_le hyr.2.1
            obtain ⟨b7, o7, rfl, -, hb7, z0, z1, z2, z3⟩ := HI7.out.arc hyi
            simp only at z0 z1 z2 z3
            have z0 := kcell hb0 z0
            have z1 := kcell hb0 z1
            have z2 := kcell hb0 z2
            have z3 := kcell hb0 z3
            have hb7 := Nat.lt_of_lt_of_le hb7 hb0.size
            have hM := aft_lt HA.out s vx l
            have hm4 := lt12 HA.out hM
            have HAF := Lib.hid (fun (W : World) (hW : Below w.heap.size w W) => after_any _ a s vx l W (HAV.out.keep hW) HA.out HS.out (by omega) (by omega))
            have hmv : aft a s (valAt g x) ((l : Int)).toNat = aft a s vx l := by rw [HVA.out, Int.toNat_natCast]
            have HCN := Lib.hid (fun h => cntC_no (g := g) (a := a) (rec := cnt g a y f) (x := x) (s := s) (used := used) (t := t) (n := m1) (p := ((sid, sinv), (l : Int), (t : Int))) rfl hmv h)
            have HCY := Lib.hid (fun h h2 => cntC_yes (g := g) (a := a) (rec := cnt g a y f) (x := x) (s := s) (used := used) (t := t) (n := m1) (p := ((sid, sinv), (l : Int), (t : Int))) rfl hmv h h2)
            clear hmv
            generalize aft a s vx l = M at *
            have HM := Lib.hid hM
            have HUT := Lib.hid (HUS.out t)
            have hii : (i : Int) < ((arcsOf g (x : Int)).length : Int) := by omega
            clear hyi hM
            have hbu := below_trans hb0 (ext_below W0 u)
            go_wp2_with fail
            have e2 : ((ext W0 u).alloc (.cells #[.int .i64 sid, .bool sinv, .int .i64 (l : Int), .int .i64 (t : Int)] 121)).cell? ⟨(ext W0 u).heap.size, 2, none⟩ = some (.int .i64 (l : Int)) := by simp
            have e3 : ((ext W0 u).alloc (.cells #[.int .i64 sid, .bool sinv, .int .i64 (l : Int), .int .i64 (t : Int)] 121)).cell? ⟨(ext W0 u).heap.size, 3, none⟩ = some (.int .i64 (t : Int)) := by simp
            have hbE := (Below.refl (ext W0 u).heap.size (ext W0 u)).alloc (Nat.le_refl _) (.cells #[.int .i64 sid, .bool sinv, .int .i64 (l : Int), .int .i64 (t : Int)] 121)
            have hsE : (ext W0 u).heap.size < ((ext W0 u).alloc (.cells #[.int .i64 sid, .bool sinv, .int .i64 (l : Int), .int .i64 (t : Int)] 121)).heap.size := by simp
            generalize (ext W0 u).alloc (.cells #[.int .i64 sid, .bool sinv, .int .i64 (l : Int), .int .i64 (t : Int)] 121) = wE at *
            have hbWE := below_trans (ext_below W0 u) hbE
            have hbw := below_trans hb0 hbWE
            have x0 := kcell hbWE x0
            have x1 := kcell hbWE x1
            have y0 := kcell hbWE y0
            have y1 := kcell hbWE y1
            have y2 := kcell hbWE y2
            have dv := kcell hbWE dv
            have l0 := Nat.lt_of_lt_of_le l0 hbWE.size
            have l00 := Nat.lt_of_lt_of_le l00 hbWE.size
            have hbb1 := Nat.lt_of_lt_of_le hbb1 hbWE.size
            generalize (ext W0 u).heap.size = eb at *
            have HBW := Lib.hid hbw
            clear z0 z1 z2 z3 hbu hbE hbw
            refine wp_region_ext_lit (by kernel_rfl) (by kernel_rfl) ?_
            repeat (go_big_quiet_step ((go_at_call 117; exact Calls.ext_of (HAF.out _ (below_trans HBW.out (ext_below _ _))))))
            refine wpQuiet_nil ?_
            intro _ hw'
            obtain ⟨u2, hw''⟩ := hw'
            subst hw''
            by_cases hm0 : M = 0
            · have HE := Lib.hid (show m1 = cntTo g a y f x s used (i + 1) by rw [HTS.out, HCN.out (.inl hm0)])
              clear HM HAF HCN HCY HTS HUT
              subst hm0
              obtain ⟨u4, hu4⟩ := ext_of (below_trans hbWE (ext_below wE u2))
              go_wp2_with fail
              go_roundw
              case rel => exact ⟨i + 1, u4, by omega, by go_num, by rw [← HE.out], rfl⟩
              case measure => simp [intOf]; omega
            · have hmi : ((M : Int) != 0) = true := by simp; omega
              have hct := contains_any _ us (t : Int) (ext wE u2) (SlE.keep HUV.out (below_trans HBW.out (ext_below _ _))) (by omega)
              rw [← HUT.out] at hct
              have HCT := Lib.hid hct
              clear hct
              cases hb : used.testBit t with
              | true =>
                rw [hb] at HCT
                have HE := Lib.hid (show m1 = cntTo g a y f x s used (i + 1) by rw [HTS.out, HCN.out (.inr hb)])
                clear HM HAF HCN HCY HTS HUT hb
                obtain ⟨u4, hu4⟩ := ext_of (below_trans hbWE (ext_below wE u2))
                have HU4 := Lib.hid hu4
                clear hu4
                go_wp2_with fail
                refine HCT.out.mono ?_
                rintro en w9 ⟨rfl, rfl⟩
                go_wp2_with fail
                go_roundw
                case rel => exact ⟨i + 1, u4, by omega, by go_num, by rw [← HE.out], HU4.out⟩
                case measure => simp [intOf]; omega
              | false =>
                rw [hb] at HCT
                have HE := Lib.hid (show wrap64 (m1 + cnt g a y f t M (ins used t)) = cntTo g a y f x s used (i + 1) by rw [HTS.out, HCY.out hm0 hb])
                have hgt := ins_gt hb
                have hlt5 : ins used t < 32 := ins_lt (n := 5) hu (by omega)
                have hus2 : ∀ t2 : Nat, (ins used t).testBit t2 = (us ++ [(t : Int)]).contains (t2 : Int) := fun t2 => by
                  rw [ins_test, HUS.out t2]
                  by_cases e : t = t2
                  · subst e; simp
                  · have e' : ¬ (t2 : Int) = (t : Int) := by omega
                    simp [e, e']
                have HREC := Lib.hid (fun (lv uv : Value) (W : World) (hW : Below w.heap.size w W) h1 h2 => HIH.out t M (ins used t) (us ++ [(t : Int)]) _ _ lv uv W (HGV.out.keep hW) (HAV.out.keep hW) h1 h2 hus2 (by simp; omega) (by omega) HM.out hlt5 (by omega))
                have hbE2 := ext_below wE u2
                have hbX := below_trans hbWE hbE2
                have hbw := below_trans HBW.out hbE2
                have x0 := kcell hbE2 x0
                have x1 := kcell hbE2 x1
                have y0 := kcell hbE2 y0
                have y1 := kcell hbE2 y1
                have y2 := kcell hbE2 y2
                have e3 := kcell hbE2 e3
                have l0 := Nat.lt_of_lt_of_le l0 hbE2.size
                have l00 := Nat.lt_of_lt_of_le l00 hbE2.size
                have hsE := Nat.lt_of_lt_of_le hsE hbE2.size
                have HBX := Lib.hid hbX
                have HBw := Lib.hid hbw
                generalize ins used t = U at *
                generalize cnt g a y f t M U = C at *
                generalize ext wE u2 = wX at *
                obtain ⟨SS, hSS⟩ : ∃ SS, SS = wrap64 (m1 + C) := ⟨_, rfl⟩
                rw [← hSS] at HE
                have Q1 := Lib.hid (show IntKind.i64.wrap (m1 + C) = SS by rw [hSS]; exact IntWalk.i64_left _)
                have Q2 := Lib.hid hSS.symm
                clear hSS
                clear HM HAF HCN HCY HTS HUT hb HIH hus2 hgt hlt5 hbE2 hbX hbw
                go_wp2_with fail
                refine HCT.out.mono ?_
                rintro en w9 ⟨rfl, rfl⟩
                go_wp2_with fail
                have hbD := below_trans HBw.out ((Below.refl w9.heap.size w9).drew)
                refine F_start 16 (fun w' => w'.cell? ⟨w.heap.size, 0, none⟩ = some (.slice (some ⟨b1, o1, none⟩) g.vals.length c1) ∧ w'.cell? ⟨w.heap.size, 1, none⟩ = some (.slice A2 g.edges.length c2) ∧ w'.cell? ⟨w.heap.size + 1, 0, none⟩ = some (.int .i64 a.start) ∧ w'.cell? ⟨w.heap.size + 1, 1, none⟩ = some (.slice A3 a.accept.length c3) ∧ w'.cell? ⟨w.heap.size + 1, 2, none⟩ = some (.slice A4 a.accept.length c4) ∧ w'.cell? ⟨eb, 3, none⟩ = some (.int .i64 (t : Int))) (by kernel_rfl) (by exact ⟨x0, x1, y0, y1, y2, e3⟩) (fun hS inv => ?_)
                refine F_take (i := 0) (v := ?_) rfl (by kernel_rfl) (by kernel_rfl) (by kernel_rfl) (fun _ _ _ h => h) inv (Or.inl ⟨by rfl, ?_⟩) (by assumption) (fun invn => ?_)
                rotate_left
                · (intro w hSw; (try dsimp only at hSw); go_simp; try with_reducible rfl)
                try simp only [List.getElem_toArray, List.getElem_cons_zero, List.getElem_cons_succ, Act.put, List.setIfInBounds_toArray, List.set_cons_zero, List.set_cons_succ]
                clear inv
                have inv := invn
                clear invn
                refine F_take (i := 1) (v := ?_) rfl (by kernel_rfl) (by kernel_rfl) (by kernel_rfl) (fun _ _ _ h => h) inv (Or.inl ⟨by rfl, ?_⟩) (by assumption) (fun invn => ?_)
                rotate_left
                · (intro w hSw; (try dsimp only at hSw); go_simp; try with_reducible rfl)
                try simp only [List.getElem_toArray, List.getElem_cons_zero, List.getElem_cons_succ, Act.put, List.setIfInBounds_toArray, List.set_cons_zero, List.set_cons_succ]
                clear inv
                have inv := invn
                clear invn
                refine F_take (i := 2) (v := ?_) rfl (by kernel_rfl) (by kernel_rfl) (by kernel_rfl) (fun _ _ _ h => h) inv (Or.inl ⟨by rfl, ?_⟩) (by assumption) (fun invn => ?_)
                rotate_left
                · (intro w hSw; (try dsimp only at hSw); go_simp; try with_reducible rfl)
                try simp only [List.getElem_toArray, List.getElem_cons_zero, List.getElem_cons_succ, Act.put, List.setIfInBounds_toArray, List.set_cons_zero, List.set_cons_succ]
                clear inv
                have inv := invn
                clear invn
                refine F_take (i := 3) (v := ?_) rfl (by kernel_rfl) (by kernel_rfl) (by kernel_rfl) (fun _ _ _ h => h) inv (Or.inl ⟨by rfl, ?_⟩) (by assumption) (fun invn => ?_)
                rotate_left
                · (intro w hSw; (try dsimp only at hSw); go_simp; try with_reducible rfl)
                try simp only [List.getElem_toArray, List.getElem_cons_zero, List.getElem_cons_succ, Act.put, List.setIfInBounds_toArray, List.set_cons_zero, List.set_cons_succ]
                clear inv
                have inv := invn
                clear invn
                refine F_take (i := 4) (v := ?_) rfl (by kernel_rfl) (by kernel_rfl) (by kernel_rfl) (fun _ _ _ h => h) inv (Or.inl ⟨by rfl, ?_⟩) (by assumption) (fun invn => ?_)
                rotate_left
                · (intro w hSw; (try dsimp only at hSw); go_simp; try with_reducible rfl)
                try simp only [List.getElem_toArray, List.getElem_cons_zero, List.getElem_cons_succ, Act.put, List.setIfInBounds_toArray, List.set_cons_zero, List.set_cons_succ]
                clear inv
                have inv := invn
                clear invn
                refine F_take (i := 5) (v := ?_) rfl (by kernel_rfl) (by kernel_rfl) (by kernel_rfl) (fun _ _ _ h => h) inv (Or.inl ⟨by rfl, ?_⟩) (by assumption) (fun invn => ?_)
                rotate_left
                · (intro w hSw; (try dsimp only at hSw); go_simp; try with_reducible rfl)
                try simp only [List.getElem_toArray, List.getElem_cons_zero, List.getElem_cons_succ, Act.put, List.setIfInBounds_toArray, List.set_cons_zero, List.set_cons_succ]
                clear inv
                have inv := invn
                clear invn
                refine F_take (i := 6) (v := ?_) rfl (by kernel_rfl) (by kernel_rfl) (by kernel_rfl) (fun _ _ _ h => h) inv (Or.inl ⟨by rfl, ?_⟩) (by assumption) (fun invn => ?_)
                rotate_left
                · (intro w hSw; (try dsimp only at hSw); go_simp; try with_reducible rfl)
                try simp only [List.getElem_toArray, List.getElem_cons_zero, List.getElem_cons_succ, Act.put, List.setIfInBounds_toArray, List.set_cons_zero, List.set_cons_succ]
                clear inv
                have inv := invn
                clear invn
                refine F_take (i := 7) (v := ?_) rfl (by kernel_rfl) (by kernel_rfl) (by kernel_rfl) (fun _ _ _ h => h) inv (Or.inl ⟨by rfl, ?_⟩) (by assumption) (fun invn => ?_)
                rotate_left
                · (intro w hSw; (try dsimp only at hSw); go_simp; try with_reducible rfl)
                try simp only [List.getElem_toArray, List.getElem_cons_zero, List.getElem_cons_succ, Act.put, List.setIfInBounds_toArray, List.set_cons_zero, List.set_cons_succ]
                clear inv
                have inv := invn
                clear invn
                refine F_take (i := 8) (v := ?_) rfl (by kernel_rfl) (by kernel_rfl) (by kernel_rfl) (fun _ _ _ h => h) inv (Or.inl ⟨by rfl, ?_⟩) (by assumption) (fun invn => ?_)
                rotate_left
                · (intro w hSw; (try dsimp only at hSw); go_simp; try with_reducible rfl)
                try simp only [List.getElem_toArray, List.getElem_cons_zero, List.getElem_cons_succ, Act.put, List.setIfInBounds_toArray, List.set_cons_zero, List.set_cons_succ]
                clear inv
                have inv := invn
                clear invn
                refine F_take (i := 10) (v := ?_) rfl (by kernel_rfl) (by kernel_rfl) (by kernel_rfl) (fun _ _ _ h => h) inv (Or.inl ⟨by rfl, ?_⟩) (by assumption) (fun invn => ?_)
                rotate_left
                · (intro w hSw; (try dsimp only at hSw); go_simp; try with_reducible rfl)
                try simp only [List.getElem_toArray, List.getElem_cons_zero, List.getElem_cons_succ, Act.put, List.setIfInBounds_toArray, List.set_cons_zero, List.set_cons_succ]
                clear inv
                have inv := invn
                clear invn
                refine F_take (i := 11) (v := ?_) rfl (by kernel_rfl) (by kernel_rfl) (by kernel_rfl) (fun _ _ _ h => h) inv (Or.inl ⟨by rfl, ?_⟩) (by assumption) (fun invn => ?_)
                rotate_left
                · (intro w hSw; (try dsimp only at hSw); go_simp; try with_reducible rfl)
                try simp only [List.getElem_toArray, List.getElem_cons_zero, List.getElem_cons_succ, Act.put, List.setIfInBounds_toArray, List.set_cons_zero, List.set_cons_succ]
                clear inv
                have inv := invn
                clear invn
                have hS0 := hS
                refine F_two (i := 9) (j := 12) (by kernel_rfl) rfl rfl rfl rfl (by omega) inv (fun K hK => ?_) (fun K hK => ?_)
                all_goals (try simp only [List.getElem_toArray, List.getElem_cons_zero, List.getElem_cons_succ])
                · go_simp
                  refine (copyInts_any _ us _ (SlE.keep (w' := w9.drew) HUV.out hbD) (by omega)).mono ?_
                  rintro en wA ⟨vA, rfl, hoA, hbA⟩
                  have hbDA := below_trans hbD hbA
                  have HOA := Lib.hid hoA.1
                  have hsA := hbA.size
                  clear hoA
                  refine hK.out _ _ (kB6 hbA hS) (fun hSn invn => ?_)
                  try simp only [List.getElem_toArray, List.getElem_cons_zero, List.getElem_cons_succ, Act.put, List.setIfInBounds_toArray, List.set_cons_zero, List.set_cons_succ]
                  clear hK K inv hS
                  have inv := invn
                  have hS := hSn
                  clear invn hSn
                  refine F_one (i := 12) (by kernel_rfl) rfl rfl (by omega) inv (fun K hK => ?_)
                  try simp only [List.getElem_toArray, List.getElem_cons_zero, List.getElem_cons_succ]
                  go_simp
                  refine hK.out _ _ (kA6 _ hS) (fun hSn invn => ?_)
                  try simp only [List.getElem_toArray, List.getElem_cons_zero, List.getElem_cons_succ, Act.put, List.setIfInBounds_toArray, List.set_cons_zero, List.set_cons_succ]
                  clear hK K inv hS
                  have inv := invn
                  have hS := hSn
                  clear invn hSn
                  refine F_one (i := 13) (by kernel_rfl) rfl rfl (by omega) inv (fun K hK => ?_)
                  try simp only [List.getElem_toArray, List.getElem_cons_zero, List.getElem_cons_succ]
                  refine op_append1 cI elInt rfl _ _ (by rfl) w9.drew.heap.size _ us (t : Int) 1 _ (by rfl) (HOA.out.alloc _) (by first | rfl | simp) (heap_alloc_new _ _) rfl (cI_one _) (by omega) (by omega) (Nat.le_trans hsA (by simp)) ?_
                  intro g2 cp2 w3 hown3 hgr3 hat3 hlt3
                  have hbT := (hbA.alloc hsA (.cells #[.int .i64 (t : Int)] 3)).trans (own_below (HOA.out.alloc (.cells #[.int .i64 (t : Int)] 3)) (Nat.le_trans hsA (by simp)) hgr3)
                  have HOW := Lib.hid hown3
                  have hbDT := below_trans hbD hbT
                  clear hown3 hgr3 hat3
                  refine hK.out _ _ (kB6 hbT hS0) (fun hSn invn => ?_)
                  try simp only [List.getElem_toArray, List.getElem_cons_zero, List.getElem_cons_succ, Act.put, List.setIfInBounds_toArray, List.set_cons_zero, List.set_cons_succ]
                  clear hK K inv hS
                  have inv := invn
                  have hS := hSn
                  clear invn hSn
                  refine F_one (i := 14) (by kernel_rfl) rfl rfl (by omega) inv (fun K hK => ?_)
                  try simp only [List.getElem_toArray, List.getElem_cons_zero, List.getElem_cons_succ]
                  go_simp
                  have hsl := ((Own.of_row (xs := us ++ [(t : Int)]) HOW.out (by simp) rfl).sl cI_len).all (Nat.le_refl _)
                  refine (HREC.out _ _ _ hbDT (HLV.out.keep hbDT) (by simpa using hsl)).mono ?_
                  rintro en wC ⟨rfl, hbC⟩
                  obtain ⟨u4, hu4⟩ := ext_of (below_trans HBX.out (below_trans ((Below.refl w9.heap.size w9).drew) (below_trans hbT hbC)))
                  refine hK.out _ _ (kB6 hbC hS) (fun hSn invn => ?_)
                  try simp only [List.getElem_toArray, List.getElem_cons_zero, List.getElem_cons_succ, Act.put, List.setIfInBounds_toArray, List.set_cons_zero, List.set_cons_succ]
                  clear hK K inv hS
                  have inv := invn
                  have hS := hSn
                  clear invn hSn
                  have q1 := Q1.out
                  have q2 := Q2.out
                  refine F_take (i := 15) (v := ?_) rfl (by kernel_rfl) (by kernel_rfl) (by kernel_rfl) (fun _ _ _ h => h) inv (Or.inl ⟨by rfl, ?_⟩) (by assumption) (fun invn => ?_)
                  rotate_left
                  · (intro w hSw; (try dsimp only at hSw); go_simp; try with_reducible rfl)
                  try simp only [List.getElem_toArray, List.getElem_cons_zero, List.getElem_cons_succ, Act.put, List.setIfInBounds_toArray, List.set_cons_zero, List.set_cons_succ]
                  clear inv
                  have inv := invn
                  clear invn
                  refine F_last (i := 16) (by kernel_rfl) rfl rfl (by omega) (by kernel_rfl) (fun K hK => ?_)
                  go_simp
                  refine hK _ _ ?_
                  clear hK K inv hS
                  clear q1 q2
                  go_wp2_with fail
                  go_roundw
                  case rel => exact ⟨i + 1, u4, by omega, by go_num, by rw [← HE.out], rfl⟩
                  case measure => simp [intOf]; omega
                · go_simp
                  have hbL : Below w9.drew.heap.size w9.drew (w9.drew.alloc (.cells #[.int .i64 (t : Int)] 3)) := (Below.refl _ _).alloc (Nat.le_refl _) _
                  have hsL : w9.drew.heap.size < (w9.drew.alloc (.cells #[.int .i64 (t : Int)] 3)).heap.size := by simp
                  refine hK.out _ _ (kB6 hbL hS) (fun hSn invn => ?_)
                  try simp only [List.getElem_toArray, List.getElem_cons_zero, List.getElem_cons_succ, Act.put, List.setIfInBounds_toArray, List.set_cons_zero, List.set_cons_succ]
                  clear hK K inv hS
                  have inv := invn
                  have hS := hSn
                  clear invn hSn
                  refine F_one (i := 9) (by kernel_rfl) rfl rfl (by omega) inv (fun K hK => ?_)
                  try simp only [List.getElem_toArray, List.getElem_cons_zero, List.getElem_cons_succ]
                  go_simp
                  refine (copyInts_any _ us _ (SlE.keep (w' := w9.drew.alloc (.cells #[.int .i64 (t : Int)] 3)) HUV.out (below_trans hbD hbL)) (by omega)).mono ?_
                  rintro en wA ⟨vA, rfl, hoA, hbA⟩
                  have HOA := Lib.hid hoA.1
                  have hsA := hbA.size
                  have hlit : wA.heap[w9.drew.heap.size]? = some (.cells #[.int .i64 (t : Int)] 3 (0, 0)) := (hbA.block _ hsL).trans (heap_alloc_new _ _)
                  have HLIT := Lib.hid hlit
                  clear hoA hlit
                  refine hK.out _ _ (kB6 hbA hS) (fun hSn invn => ?_)
                  try simp only [List.getElem_toArray, List.getElem_cons_zero, List.getElem_cons_succ, Act.put, List.setIfInBounds_toArray, List.set_cons_zero, List.set_cons_succ]
                  clear hK K inv hS
                  have inv := invn
                  have hS := hSn
                  clear invn hSn
                  refine F_one (i := 13) (by kernel_rfl) rfl rfl (by omega) inv (fun K hK => ?_)
                  try simp only [List.getElem_toArray, List.getElem_cons_zero, List.getElem_cons_succ]
                  refine op_append1 cI elInt rfl _ _ (by rfl) _ _ us (t : Int) 1 _ (by rfl) HOA.out (by first | rfl | simp) HLIT.out rfl (cI_one _) (by omega) (by omega) hsA ?_
                  intro g2 cp2 w3 hown3 hgr3 hat3 hlt3
                  have hbT := below_trans hbL (hbA.trans (own_below HOA.out hsA hgr3))
                  have HOW := Lib.hid hown3
                  have hbDT := below_trans hbD hbT
                  clear hown3 hgr3 hat3
                  refine hK.out _ _ (kB6 hbT hS0) (fun hSn invn => ?_)
                  try simp only [List.getElem_toArray, List.getElem_cons_zero, List.getElem_cons_succ, Act.put, List.setIfInBounds_toArray, List.set_cons_zero, List.set_cons_succ]
                  clear hK K inv hS
                  have inv := invn
                  have hS := hSn
                  clear invn hSn
                  refine F_one (i := 14) (by kernel_rfl) rfl rfl (by omega) inv (fun K hK => ?_)
                  try simp only [List.getElem_toArray, List.getElem_cons_zero, List.getElem_cons_succ]
                  go_simp
                  have hsl := ((Own.of_row (xs := us ++ [(t : Int)]) HOW.out (by simp) rfl).sl cI_len).all (Nat.le_refl _)
                  refine (HREC.out _ _ _ hbDT (HLV.out.keep hbDT) (by simpa using hsl)).mono ?_
                  rintro en wC ⟨rfl, hbC⟩
                  obtain ⟨u4, hu4⟩ := ext_of (below_trans HBX.out (below_trans ((Below.refl w9.heap.size w9).drew) (below_trans hbT hbC)))
                  refine hK.out _ _ (kB6 hbC hS) (fun hSn invn => ?_)
                  try simp only [List.getElem_toArray, List.getElem_cons_zero, List.getElem_cons_succ, Act.put, List.setIfInBounds_toArray, List.set_cons_zero, List.set_cons_succ]
                  clear hK K inv hS
                  have inv := invn
                  have hS := hSn
                  clear invn hSn
                  have q1 := Q1.out
                  have q2 := Q2.out
                  refine F_take (i := 15) (v := ?_) rfl (by kernel_rfl) (by kernel_rfl) (by kernel_rfl) (fun _ _ _ h => h) inv (Or.inl ⟨by rfl, ?_⟩) (by assumption) (fun invn => ?_)
                  rotate_left
                  · (intro w hSw; (try dsimp only at hSw); go_simp; try with_reducible rfl)
                  try simp only [List.getElem_toArray, List.getElem_cons_zero, List.getElem_cons_succ, Act.put, List.setIfInBounds_toArray, List.set_cons_zero, List.set_cons_succ]
                  clear inv
                  have inv := invn
                  clear invn
                  refine F_last (i := 16) (by kernel_rfl) rfl rfl (by omega) (by kernel_rfl) (fun K hK => ?_)
                  go_simp
                  refine hK _ _ ?_
                  clear hK K inv hS
                  clear q1 q2
                  go_wp2_with fail
                  go_roundw
                  case rel => exact ⟨i + 1, u4, by omega, by go_num, by rw [← HE.out], rfl⟩
                  case measure => simp [intOf]; omega
          · obtain rfl : i = (arcsOf g (x : Int)).length := by omega
            rw [← HR.out]
            go_wp2_with fail
            go_ret
            exact ⟨rfl, below_trans hb0 (ext_below _ _)⟩
end Go.Proofs.Ytajjolkpgfegfaa

/- The program's CountSimplePaths. -/
namespace Go.Proofs.Ytajjolkpgfegfaa
set_option linter.unusedVariables false
set_option linter.unusedSimpArgs false
open Go.ChangeShapes Go.WideShapes Go.ChangeAt Go.RowKit
attribute [local go_sem] ext_cell ext_frozen ext_lt ext_lt1 ext_lt2 ext_lt3 ltn2 ltn3 ltn13 lts1 lts2 lts3

set_option maxHeartbeats 4000000 in
set_option maxRecDepth 100000 in
theorem implCountSimplePaths (vg va : Value) (g : Gr) (a : Au) (x y : Int) (w : World) (hgv : GrV 0 w.heap.size w vg g) (hav : AuV 0 w.heap.size w va a) :
    Calls Try.prog 20 #[vg, va, .int .i64 x, .int .i64 y] w fun e w' => e = .returned (.int .i64 (cntSimple g a x y)) ∧ Below w.heap.size w w' := by
  have hgv0 := hgv
  have hav0 := hav
  obtain ⟨A1, n1, c1, A2, n2, c2, rfl⟩ := hgv.shape
  obtain ⟨ac, nx, rfl, hac, hnx⟩ := hav
  obtain ⟨A3, c3, rfl, -, -, -⟩ := SlE.form hac
  obtain ⟨A4, n4, c4, rfl⟩ := hnx.shape
  have hb0 : Below w.heap.size w ((w.alloc (.cells #[.slice A1 n1 c1, .slice A2 n2 c2] 35)).alloc (.cells #[.int .i64 a.start, .slice A3 a.accept.length c3, .slice A4 n4 c4] 37)) := ((Below.refl _ _).alloc (Nat.le_refl _) _).alloc (by simp) _
  have hb1 := hb0.alloc hb0.size (.cells #[.int .i64 x, .int .i64 y] 3)
  have hst : SlE (((w.alloc (.cells #[.slice A1 n1 c1, .slice A2 n2 c2] 35)).alloc (.cells #[.int .i64 a.start, .slice A3 a.accept.length c3, .slice A4 n4 c4] 37)).alloc (.cells #[.int .i64 x, .int .i64 y] 3)) cI 1 (.slice (some ⟨w.heap.size + 1 + 1, 0, none⟩) 2 2) [x, y] := by
    have h := lit_sl ((w.alloc (.cells #[.slice A1 n1 c1, .slice A2 n2 c2] 35)).alloc (.cells #[.int .i64 a.start, .slice A3 a.accept.length c3, .slice A4 n4 c4] 37)) 3 [x, y] (by unfold maxLen; simp)
    simpa using h
  have hbo := bothOk_any _ _ _ g a [x, y] _ (hgv0.keep hb1) (hav0.keep hb1) hst
  have HBO := Lib.hid hbo
  have HGV := Lib.hid hgv0
  have HAV := Lib.hid hav0
  clear hgv hac hnx hgv0 hav0 hbo hst
  cases hk : ([x, y].all (fun s => wi s 0 ((g.vals.length : Int) - 1)) && (grOk g && auOk a)) with
  | false =>
    rw [hk] at HBO
    have hfin : cntSimple g a x y = 0 := by unfold cntSimple; rw [if_neg]; simpa [cntOk, Bool.and_assoc] using hk
    have HF := Lib.hid hfin
    clear hk hfin
    go_enter Try.func20, Try.ntmps20
    go_wp2_with fail
    refine HBO.out.mono ?_
    rintro e w1 ⟨rfl, hb2⟩
    go_wp2_with fail
    go_ret
    exact ⟨by rw [HF.out]; rfl, below_trans hb1 hb2⟩
  | true =>
    rw [hk] at HBO
    simp only [List.all_cons, List.all_nil, Bool.and_true, Bool.and_eq_true] at hk
    obtain ⟨⟨hx, hy⟩, hgo, hao⟩ := hk
    have hok : cntOk g a x y = true := by rw [cntOk, hx, hy, hgo, hao]; rfl
    rw [wi_iff] at hx hy
    have hgo2 := grOk_iff.1 hgo
    obtain ⟨x, rfl⟩ := Int.eq_ofNat_of_zero_le hx.1
    have hxl : x < g.vals.length := by omega
    have hn5 := hgo2.n5
    obtain ⟨⟨hm1, hm12⟩, ⟨hst0, hst1⟩, -, -⟩ := auOk_iff.1 hao
    obtain ⟨s, hs⟩ : ∃ s : Nat, a.start = (s : Int) := ⟨a.start.toNat, by omega⟩
    have hsl : s < a.accept.length := by omega
    obtain ⟨R, hR⟩ : ∃ R, R = cntSimple g a (x : Int) y := ⟨_, rfl⟩
    rw [← hR]
    have hfin : R = cnt g a y 32 x (bit s) (bit x) := by rw [hR, cntSimple, if_pos hok, hs]; rfl
    have hbx : bit x < 32 := bit_lt (n := 5) (by omega)
    have hbs := bit_lt hsl
    have HREC := Lib.hid (fun (lv uv : Value) (W : World) (hW : Below w.heap.size w W) h1 h2 => countSimple_any g a y hgo hao 32 x (bit s) (bit x) [(x : Int)] _ _ lv uv W (HGV.out.keep hW) (HAV.out.keep hW) h1 h2 (fun t => by
      rw [bit_test]
      by_cases e : x = t
      · subst e; simp
      · have e' : ¬ (t : Int) = (x : Int) := by omega
        simp [e, e']) (by simp) hxl hbs hbx (by omega))
    have HGO := Lib.hid hgo2
    have HF := Lib.hid hfin
    clear hgo hgo2 hao hfin hx hy hok hR hst0 hst1 hbx hbs
    generalize a.start = st at *
    subst hs
    have e1 := Lib.hid (shl_bit (s := s) (by omega))
    have e2 := Lib.hid (shl_bit2 (s := s) (by omega))
    have e3 := Lib.hid (shl_bit3 (s := s) (by omega))
    go_enter Try.func20, Try.ntmps20
    go_wp2_with fail
    refine HBO.out.mono ?_
    rintro e w1 ⟨rfl, hb2⟩
    have hb3 := below_trans hb1 hb2
    have b0 := (((Blk.new w 35 #[.slice A1 n1 c1, .slice A2 n2 c2] w.heap.size rfl).alloc (.cells #[.int .i64 (s : Int), .slice A3 a.accept.length c3, .slice A4 n4 c4] 37)).alloc (.cells #[.int .i64 (x : Int), .int .i64 y] 3)).keep hb2
    have b1 := ((Blk.new (w.alloc (.cells #[.slice A1 n1 c1, .slice A2 n2 c2] 35)) 37 #[.int .i64 (s : Int), .slice A3 a.accept.length c3, .slice A4 n4 c4] (w.heap.size + 1) (by simp)).alloc (.cells #[.int .i64 (x : Int), .int .i64 y] 3)).keep hb2
    have x0 : w1.cell? ⟨w.heap.size, 0, none⟩ = some (.slice A1 n1 c1) := by exact b0.cell 0
    have x1 : w1.cell? ⟨w.heap.size, 1, none⟩ = some (.slice A2 n2 c2) := by exact b0.cell 1
    have y0 : w1.cell? ⟨w.heap.size + 1, 0, none⟩ = some (.int .i64 (s : Int)) := by exact b1.cell 0
    have y1 : w1.cell? ⟨w.heap.size + 1, 1, none⟩ = some (.slice A3 a.accept.length c3) := by exact b1.cell 1
    have y2 : w1.cell? ⟨w.heap.size + 1, 2, none⟩ = some (.slice A4 n4 c4) := by exact b1.cell 2
    clear hb0 hb1 hb2 b0 b1 HBO
    go_wp2_with fail
    have s1 := e1.out
    have s2 := e2.out
    have s3 := e3.out
    refine F_start 12 (fun w' => w'.cell? ⟨w.heap.size, 0, none⟩ = some (.slice A1 n1 c1) ∧ w'.cell? ⟨w.heap.size, 1, none⟩ = some (.slice A2 n2 c2) ∧ w'.cell? ⟨w.heap.size + 1, 0, none⟩ = some (.int .i64 (s : Int)) ∧ w'.cell? ⟨w.heap.size + 1, 1, none⟩ = some (.slice A3 a.accept.length c3) ∧ w'.cell? ⟨w.heap.size + 1, 2, none⟩ = some (.slice A4 n4 c4)) (by kernel_rfl) (by exact ⟨x0, x1, y0, y1, y2⟩) (fun hS inv => ?_)
    refine F_take (i := 0) (v := ?_) rfl (by kernel_rfl) (by kernel_rfl) (by kernel_rfl) (fun _ _ _ h => h) inv (Or.inl ⟨by rfl, ?_⟩) (by assumption) (fun invn => ?_)
    rotate_left
    · (intro w hSw; (try dsimp only at hSw); go_simp; try with_reducible rfl)
    try simp only [List.getElem_toArray, List.getElem_cons_zero, List.getElem_cons_succ, Act.put, List.setIfInBounds_toArray, List.set_cons_zero, List.set_cons_succ]
    clear inv
    have inv := invn
    clear invn
    refine F_take (i := 1) (v := ?_) rfl (by kernel_rfl) (by kernel_rfl) (by kernel_rfl) (fun _ _ _ h => h) inv (Or.inl ⟨by rfl, ?_⟩) (by assumption) (fun invn => ?_)
    rotate_left
    · (intro w hSw; (try dsimp only at hSw); go_simp; try with_reducible rfl)
    try simp only [List.getElem_toArray, List.getElem_cons_zero, List.getElem_cons_succ, Act.put, List.setIfInBounds_toArray, List.set_cons_zero, List.set_cons_succ]
    clear inv
    have inv := invn
    clear invn
    refine F_take (i := 2) (v := ?_) rfl (by kernel_rfl) (by kernel_rfl) (by kernel_rfl) (fun _ _ _ h => h) inv (Or.inl ⟨by rfl, ?_⟩) (by assumption) (fun invn => ?_)
    rotate_left
    · (intro w hSw; (try dsimp only at hSw); go_simp; try with_reducible rfl)
    try simp only [List.getElem_toArray, List.getElem_cons_zero, List.getElem_cons_succ, Act.put, List.setIfInBounds_toArray, List.set_cons_zero, List.set_cons_succ]
    clear inv
    have inv := invn
    clear invn
    refine F_take (i := 4) (v := ?_) rfl (by kernel_rfl) (by kernel_rfl) (by kernel_rfl) (fun _ _ _ h => h) inv (Or.inl ⟨by rfl, ?_⟩) (by assumption) (fun invn => ?_)
    rotate_left
    · (intro w hSw; (try dsimp only at hSw); go_simp; try with_reducible rfl)
    try simp only [List.getElem_toArray, List.getElem_cons_zero, List.getElem_cons_succ, Act.put, List.setIfInBounds_toArray, List.set_cons_zero, List.set_cons_succ]
    clear inv
    have inv := invn
    clear invn
    refine F_take (i := 5) (v := ?_) rfl (by kernel_rfl) (by kernel_rfl) (by kernel_rfl) (fun _ _ _ h => h) inv (Or.inl ⟨by rfl, ?_⟩) (by assumption) (fun invn => ?_)
    rotate_left
    · (intro w hSw; (try dsimp only at hSw); go_simp; try with_reducible rfl)
    try simp only [List.getElem_toArray, List.getElem_cons_zero, List.getElem_cons_succ, Act.put, List.setIfInBounds_toArray, List.set_cons_zero, List.set_cons_succ]
    clear inv
    have inv := invn
    clear invn
    refine F_take (i := 6) (v := ?_) rfl (by kernel_rfl) (by kernel_rfl) (by kernel_rfl) (fun _ _ _ h => h) inv (Or.inl ⟨by rfl, ?_⟩) (by assumption) (fun invn => ?_)
    rotate_left
    · (intro w hSw; (try dsimp only at hSw); go_simp; try with_reducible rfl)
    try simp only [List.getElem_toArray, List.getElem_cons_zero, List.getElem_cons_succ, Act.put, List.setIfInBounds_toArray, List.set_cons_zero, List.set_cons_succ]
    clear inv
    have inv := invn
    clear invn
    refine F_take (i := 7) (v := ?_) rfl (by kernel_rfl) (by kernel_rfl) (by kernel_rfl) (fun _ _ _ h => h) inv (Or.inl ⟨by rfl, ?_⟩) (by assumption) (fun invn => ?_)
    rotate_left
    · (intro w hSw; (try dsimp only at hSw); go_simp; try with_reducible rfl)
    try simp only [List.getElem_toArray, List.getElem_cons_zero, List.getElem_cons_succ, Act.put, List.setIfInBounds_toArray, List.set_cons_zero, List.set_cons_succ]
    clear inv
    have inv := invn
    clear invn
    refine F_take (i := 8) (v := ?_) rfl (by kernel_rfl) (by kernel_rfl) (by kernel_rfl) (fun _ _ _ h => h) inv (Or.inl ⟨by rfl, ?_⟩) (by assumption) (fun invn => ?_)
    rotate_left
    · (intro w hSw; (try dsimp only at hSw); go_simp; try with_reducible rfl)
    try simp only [List.getElem_toArray, List.getElem_cons_zero, List.getElem_cons_succ, Act.put, List.setIfInBounds_toArray, List.set_cons_zero, List.set_cons_succ]
    clear inv
    have inv := invn
    clear invn
    refine F_take (i := 9) (v := ?_) rfl (by kernel_rfl) (by kernel_rfl) (by kernel_rfl) (fun _ _ _ h => h) inv (Or.inl ⟨by rfl, ?_⟩) (by assumption) (fun invn => ?_)
    rotate_left
    · (intro w hSw; (try dsimp only at hSw); go_simp; try with_reducible rfl)
    try simp only [List.getElem_toArray, List.getElem_cons_zero, List.getElem_cons_succ, Act.put, List.setIfInBounds_toArray, List.set_cons_zero, List.set_cons_succ]
    clear inv
    have inv := invn
    clear invn
    refine F_two (i := 3) (j := 10) (by kernel_rfl) rfl rfl rfl rfl (by omega) inv (fun K hK => ?_) (fun K hK => ?_)
    all_goals (try simp only [List.getElem_toArray, List.getElem_cons_zero, List.getElem_cons_succ])
    · go_simp
      refine (arcs_any _ g _ (GrV.keep (w' := w1.drew) HGV.out hb3.drew) HGO.out).mono ?_
      rintro e wA ⟨vA, rfl, hsA, hbA⟩
      refine hK.out _ _ (kB5 hbA hS) (fun hSn invn => ?_)
      try simp only [List.getElem_toArray, List.getElem_cons_zero, List.getElem_cons_succ, Act.put, List.setIfInBounds_toArray, List.set_cons_zero, List.set_cons_succ]
      clear hK K inv hS
      have inv := invn
      have hS := hSn
      clear invn hSn
      refine F_one (i := 10) (by kernel_rfl) rfl rfl (by omega) inv (fun K hK => ?_)
      try simp only [List.getElem_toArray, List.getElem_cons_zero, List.getElem_cons_succ]
      go_simp
      refine hK.out _ _ (kA5 _ hS) (fun hSn invn => ?_)
      try simp only [List.getElem_toArray, List.getElem_cons_zero, List.getElem_cons_succ, Act.put, List.setIfInBounds_toArray, List.set_cons_zero, List.set_cons_succ]
      clear hK K inv hS
      have inv := invn
      have hS := hSn
      clear invn hSn
      refine F_one (i := 11) (by kernel_rfl) rfl rfl (by omega) inv (fun K hK => ?_)
      try simp only [List.getElem_toArray, List.getElem_cons_zero, List.getElem_cons_succ]
      go_simp
      have hbl : Below wA.heap.size wA (wA.alloc (.cells #[.int .i64 (x : Int)] 3)) := (Below.refl _ _).alloc (Nat.le_refl _) _
      have hbW := below_trans hb3.drew (below_trans hbA hbl)
      refine (HREC.out vA _ _ hbW ((hsA.mono (Nat.zero_le _) (Nat.le_refl _)).keep hbl) (lit_sl wA _ [(x : Int)] (by unfold maxLen; simp))).mono ?_
      rintro e wD ⟨rfl, hbD⟩
      have hbF := below_trans hbW hbD
      refine hK.out _ _ (kB5 hbD hS) (fun hSn invn => ?_)
      try simp only [List.getElem_toArray, List.getElem_cons_zero, List.getElem_cons_succ, Act.put, List.setIfInBounds_toArray, List.set_cons_zero, List.set_cons_succ]
      clear hK K inv hS
      have inv := invn
      have hS := hSn
      clear invn hSn
      refine F_last (i := 12) (by kernel_rfl) rfl rfl (by omega) (by kernel_rfl) (fun K hK => ?_)
      go_simp
      refine hK _ _ ?_
      clear hK K inv hS
      clear s1 s2 s3
      go_wp2_with fail
      go_ret
      exact ⟨by rw [HF.out]; rfl, hbF⟩
    · go_simp
      have hla := lit_sl w1.drew 3 [(x : Int)] (by unfold maxLen; simp)
      have hba := (Below.refl w1.drew.heap.size w1.drew).alloc (Nat.le_refl _) (.cells #[.int .i64 (x : Int)] 3)
      have hbz := below_trans hb3.drew hba
      refine hK.out _ _ (kA5 _ hS) (fun hSn invn => ?_)
      try simp only [List.getElem_toArray, List.getElem_cons_zero, List.getElem_cons_succ, Act.put, List.setIfInBounds_toArray, List.set_cons_zero, List.set_cons_succ]
      clear hK K inv hS
      have inv := invn
      have hS := hSn
      clear invn hSn
      refine F_one (i := 3) (by kernel_rfl) rfl rfl (by omega) inv (fun K hK => ?_)
      try simp only [List.getElem_toArray, List.getElem_cons_zero, List.getElem_cons_succ]
      go_simp
      refine (arcs_any _ g _ (HGV.out.keep hbz) HGO.out).mono ?_
      rintro e wA ⟨vA, rfl, hsA, hbA⟩
      refine hK.out _ _ (kB5 hbA hS) (fun hSn invn => ?_)
      try simp only [List.getElem_toArray, List.getElem_cons_zero, List.getElem_cons_succ, Act.put, List.setIfInBounds_toArray, List.set_cons_zero, List.set_cons_succ]
      clear hK K inv hS
      have inv := invn
      have hS := hSn
      clear invn hSn
      refine F_one (i := 11) (by kernel_rfl) rfl rfl (by omega) inv (fun K hK => ?_)
      try simp only [List.getElem_toArray, List.getElem_cons_zero, List.getElem_cons_succ]
      go_simp
      have hbW := below_trans hbz hbA
      refine (HREC.out vA _ _ hbW (hsA.mono (Nat.zero_le _) (Nat.le_refl _)) (SlE.keep hla hbA)).mono ?_
      rintro e wD ⟨rfl, hbD⟩
      have hbF := below_trans hbW hbD
      refine hK.out _ _ (kB5 hbD hS) (fun hSn invn => ?_)
      try simp only [List.getElem_toArray, List.getElem_cons_zero, List.getElem_cons_succ, Act.put, List.setIfInBounds_toArray, List.set_cons_zero, List.set_cons_succ]
      clear hK K inv hS
      have inv := invn
      have hS := hSn
      clear invn hSn
      refine F_last (i := 12) (by kernel_rfl) rfl rfl (by omega) (by kernel_rfl) (fun K hK => ?_)
      go_simp
      refine hK _ _ ?_
      clear hK K inv hS
      clear s1 s2 s3
      go_wp2_with fail
      go_ret
      exact ⟨by rw [HF.out]; rfl, hbF⟩
end Go.Proofs.Ytajjolkpgfegfaa

/- The reference's count of simple paths: l21Count, CountSimplePaths. -/
namespace Go.Proofs.Ytajjolkpgfegfaa
set_option linter.unusedVariables false
set_option linter.unusedSimpArgs false
open Go.ChangeShapes Go.WideShapes Go.ChangeAt Go.RowKit
attribute [local go_sem] ext_cell ext_frozen ext_lt ext_lt1 ext_lt2 ext_lt3 ltn2 ltn3 ltn13 lts1 lts2 lts3

set_option maxHeartbeats 8000000 in
set_option maxRecDepth 100000 in
theorem l21Count_any (g : Gr) (a : Au) (y : Int) (hgo : grOk g = true) (ha : auOk a = true) (f : Nat) : ∀ (x s used : Nat) (vg va : Value) (w : World), GrV 0 w.heap.size w vg g → AuV 0 w.heap.size w va a → x < g.vals.length → s < 2 ^ a.accept.length → used < 32 → 32 ≤ used + f →
    Calls Try.prog 66 #[vg, va, .int .i64 (x : Int), .int .i64 (s : Int), .int .i64 (used : Int), .int .i64 y] w fun e w' => e = .returned (.int .i64 (cnt g a y f x s used)) ∧ Below w.heap.size w w' := by
  induction f with
  | zero => intro x s used vg va w _ _ _ _ h1 h2; omega
  | succ f ih =>
    intro x s used vg va w hgv hav hx hs hu huf
    have HIH := Lib.hid ih
    have hgv0 := hgv
    have hav0 := hav
    obtain ⟨A1, n1, c1, A2, n2, c2, rfl⟩ := hgv.shape
    obtain ⟨A3, n3, c3, A4, n4, c4, rfl⟩ := hav.shape
    have hb0 : Below w.heap.size w ((w.alloc (.cells #[.slice A1 n1 c1, .slice A2 n2 c2] 35)).alloc (.cells #[.int .i64 a.start, .slice A3 n3 c3, .slice A4 n4 c4] 37)) := ((Below.refl _ _).alloc (Nat.le_refl _) _).alloc (by simp) _
    have HGV := Lib.hid hgv0
    have HAV := Lib.hid hav0
    have HGO := Lib.hid hgo
    have HA := Lib.hid ha
    have HS := Lib.hid hs
    have hs4 := lt12 ha hs
    have hn5 := (grOk_iff.1 hgo).n5
    have he12 := (grOk_iff.1 hgo).e12
    have HEND := Lib.hid (fun (W : World) (hW : Below w.heap.size w W) => l18Ends_any _ _ g a x s W (hgv0.keep hW) (hav0.keep hW) hgo ha hx hs)
    have HFROM := Lib.hid (fun (W : World) (hW : Below w.heap.size w W) => l4From_any _ g (x : Int) W (hgv0.keep hW) he12)
    obtain ⟨R, hR⟩ : ∃ R, R = cnt g a y (f + 1) x s used := ⟨_, rfl⟩
    rw [← hR]
    have HR := Lib.hid (hR.trans (cntTo_all g a y f x s used).symm)
    clear hgv hav hgv0 hav0 hgo ha hR hs ih
    go_enter Try.func66, Try.ntmps66
    go_upto_region 2 with fail
    obtain ⟨W0, hW0⟩ : ∃ W0, W0 = ((w.alloc (.cells #[.slice A1 n1 c1, .slice A2 n2 c2] 35)).alloc (.cells #[.int .i64 a.start, .slice A3 n3 c3, .slice A4 n4 c4] 37)) := ⟨_, rfl⟩
    rw [← hW0] at hb0 ⊢
    have x0 : W0.cell? ⟨w.heap.size, 0, none⟩ = some (.slice A1 n1 c1) := by rw [hW0]; simp
    have x1 : W0.cell? ⟨w.heap.size, 1, none⟩ = some (.slice A2 n2 c2) := by rw [hW0]; simp
    have y0 : W0.cell? ⟨w.heap.size + 1, 0, none⟩ = some (.int .i64 a.start) := by rw [hW0]; simp
    have y1 : W0.cell? ⟨w.heap.size + 1, 1, none⟩ = some (.slice A3 n3 c3) := by rw [hW0]; simp
    have y2 : W0.cell? ⟨w.heap.size + 1, 2, none⟩ = some (.slice A4 n4 c4) := by rw [hW0]; simp
    have hs0 : w.heap.size + 1 + 1 = W0.heap.size := by rw [hW0]; simp
    try rw [hs0]
    have l0 : w.heap.size + 1 < W0.heap.size := by omega
    have l00 : w.heap.size < W0.heap.size := by omega
    clear hW0 hs0
    obtain ⟨BB, hBB⟩ : ∃ BB, BB = (decide ((x : Int) = y) && acc a s (valAt g x)) := ⟨_, rfl⟩
    have HBB := Lib.hid hBB
    clear hBB
    go_cut [27] (fun b wx => ∃ u, b = .bool BB ∧ wx = ext W0 u)
    case first =>
      by_cases hxy : (x : Int) = y
      · have hd : decide ((x : Int) = y) = true := decide_eq_true hxy
        have hd2 : ((x : Int) == y) = true := by simp [hxy]
        have HBT := Lib.hid (HBB.out.trans (by rw [hd, Bool.true_and]))
        generalize acc a s (valAt g x) = bb at *
        clear hxy HBB
        go_wp2_with fail
        refine (HEND.out _ hb0).mono ?_
        rintro en w1 ⟨rfl, hb1⟩
        obtain ⟨u, hu⟩ := ext_of hb1
        subst hu
        go_wp2_with fail
        go_meet
        exact ⟨u, by rw [HBT.out], rfl⟩
      · have hd : decide ((x : Int) = y) = false := decide_eq_false hxy
        have hd2 : ((x : Int) == y) = false := by simp [hxy]
        have HBT := Lib.hid (HBB.out.trans (by rw [hd, Bool.false_and]))
        clear hxy HBB
        go_wp2_with fail
        go_meet
        exact ⟨W0, by rw [HBT.out], ext_self _⟩
    case rest =>
      obtain ⟨u, rfl, rfl⟩ := hcut
      have HC0 := Lib.hid (show cnt0 g a y x s = if BB = true then 1 else 0 by rw [HBB.out]; rfl)
      clear HBB
      go_upto_if 27 with fail
      go_cut [13] (fun n wx => n = .int .i64 (cnt0 g a y x s) ∧ wx = ext W0 u)
      case first =>
        generalize cnt0 g a y x s = n0 at *
        cases BB with
        | true =>
          go_wp2_with fail
          go_meet
          exact ⟨by rw [HC0.out]; rfl, rfl⟩
        | false =>
          go_wp2_with fail
          go_meet
          exact ⟨by rw [HC0.out]; rfl, rfl⟩
      case rest =>
        obtain ⟨rfl, rfl⟩ := hcut
        have hN0 : cnt0 g a y x s = cntTo g a y f x s used 0 := rfl
        have HN0 := Lib.hid hN0
        clear hN0
        generalize cnt0 g a y x s = n0 at *
        have hbu := below_trans hb0 (ext_below W0 u)
        go_wp2_with fail
        refine (HFROM.out _ hbu).mono ?_
        rintro en w1 ⟨v1, rfl, ho1, hb1⟩
        have hbw := below_trans hbu hb1
        have hb1' := below_trans (ext_below W0 u) hb1
        obtain ⟨A5, c5, rfl, hl5, hm5, hC5⟩ := ho1.form cSt_len
        have hlen5 : ((arcsOf g (x : Int)).map (·.1)).length = (arcsOf g (x : Int)).length := by simp
        rw [hlen5] at hl5 ⊢
        have hAL := arcs_len (grOk_iff.1 HGO.out) (x : Int)
        have HC5 := Lib.hid hC5
        have x0 := kcell hb1' x0
        have x1 := kcell hb1' x1
        have y0 := kcell hb1' y0
        have y1 := kcell hb1' y1
        have y2 := kcell hb1' y2
        have l0 := Nat.lt_of_lt_of_le l0 hb1'.size
        have l00 := Nat.lt_of_lt_of_le l00 hb1'.size
        have HBW := Lib.hid hbw
        clear hlen5 hC5 ho1 hbu hb1 hbw hb1' HC0 HFROM HEND
        go_wp2_with fail
        go_loopw [13, 15] (fun nn ii wr => ∃ (i : Nat) (u : World), i ≤ (arcsOf g (x : Int)).length ∧ ii = .int .i64 (i : Int) ∧ nn = .int .i64 (cntTo g a y f x s used i) ∧ wr = ext w1 u) (fun _ ii _ => (arcsOf g (x : Int)).length - (intOf ii).toNat)
        case atStart => exact ⟨0, w1, Nat.zero_le _, rfl, by rw [HN0.out], ext_self _⟩
        case round =>
          clear HN0
          obtain ⟨i, u, hi, rfl, rfl, rfl⟩ := hrel
          by_cases hlt : i < (arcsOf g (x : Int)).length
          · have hyi : (arcsOf g (x : Int))[i]? = some (arcsOf g (x : Int))[i] := List.getElem?_eq_getElem hlt
            have hyr := arc_range (grOk_iff.1 HGO.out) (List.getElem_mem hlt)
            obtain ⟨e, he, hl, ht⟩ := arc_stepEd HGO.out (List.getElem_mem hlt)
            generalize (arcsOf g (x : Int))[i] = p at hyi hyr he hl ht
            have hli : ((arcsOf g (x : Int)).map (·.1))[i]? = some p.1 := by rw [List.getElem?_map, hyi]; rfl
            have HTS := Lib.hid (cntTo_succ (a := a) (y := y) (f := f) (s := s) (used := used) hyi)
            generalize cntTo g a y f x s used i = m1 at *
            obtain ⟨b5, o5, rfl, hb5, p0, p1⟩ := HC5.out.st hli
            obtain ⟨⟨sid, sinv⟩, l, t⟩ := p
            simp only at hyr he hl ht p0 p1
            obtain ⟨l, rfl⟩ := Int.eq_ofNat_of_zero_le hyr.1.1
            obtain ⟨t, rfl⟩ := Int.eq_ofNat_of_zero_le hyr.2.1
            have HNX := Lib.hid (fun (W : World) (hW : Below w.heap.size w W) => by
              have h := l18Next_any _ _ g a x s (sid, sinv) e l W (HGV.out.keep hW) (HAV.out.keep hW) HGO.out HA.out hx HS.out he hl
              rw [ht] at h
              exact h)
            have hM := aft_lt HA.out s (valAt g x) l
            have hm4 := lt12 HA.out hM
            have HCN := Lib.hid (fun h => cntC_no (g := g) (a := a) (rec := cnt g a y f) (x := x) (s := s) (used := used) (t := t) (n := m1) (p := ((sid, sinv), (l : Int), (t : Int))) rfl rfl h)
            have HCY := Lib.hid (fun h h2 => cntC_yes (g := g) (a := a) (rec := cnt g a y f) (x := x) (s := s) (used := used) (t := t) (n := m1) (p := ((sid, sinv), (l : Int), (t : Int))) rfl rfl h h2)
            simp only [Int.toNat_natCast] at HCN HCY
            generalize aft a s (valAt g x) l = M at *
            have HM := Lib.hid hM
            have hii : (i : Int) < ((arcsOf g (x : Int)).length : Int) := by omega
            clear hyi hli he hl ht hM
            go_wp2_with fail
            refine wp_region_ext_lit (by kernel_rfl) (by kernel_rfl) ?_
            repeat (go_big_quiet_step ((go_at_call 113; exact Calls.ext_of (HNX.out _ (below_trans HBW.out (below_trans (ext_below _ _) (ext_below _ _)))))))
            refine wpQuiet_nil ?_
            intro _ hw'
            obtain ⟨u2, hw''⟩ := hw'
            subst hw''
            obtain ⟨u4, hu4⟩ := ext_of (below_trans (ext_below w1 u) (ext_below (ext w1 u) u2))
            rw [hu4]
            clear hu4 p0 p1 u u2
            by_cases hm0 : M = 0
            · have HE := Lib.hid (show m1 = cntTo g a y f x s used (i + 1) by rw [HTS.out, HCN.out (.inl hm0)])
              clear HM HNX HCN HCY HTS
              subst hm0
              go_wp2_with fail
              go_roundw
              case rel => exact ⟨i + 1, u4, by omega, by go_num, by rw [← HE.out], rfl⟩
              case measure => simp [intOf]; omega
            · have hmi : ((M : Int) != 0) = true := by simp; omega
              cases hb : used.testBit t with
              | true =>
                have b1t := bit_on (by omega) (by omega) hb
                have HE := Lib.hid (show m1 = cntTo g a y f x s used (i + 1) by rw [HTS.out, HCN.out (.inr hb)])
                clear HM HNX HCN HCY HTS hb
                go_wp2_with fail
                go_roundw
                case rel => exact ⟨i + 1, u4, by omega, by go_num, by rw [← HE.out], rfl⟩
                case measure => simp [intOf]; omega
              | false =>
                have b1f := bit_off (by omega) (by omega) hb
                have HE := Lib.hid (show wrap64 (m1 + cnt g a y f t M (ins used t)) = cntTo g a y f x s used (i + 1) by rw [HTS.out, HCY.out hm0 hb])
                have hgt := ins_gt hb
                have hlt5 : ins used t < 32 := ins_lt (n := 5) hu (by omega)
                have e1' := shl_bit (s := t) (by omega)
                have e2' := or_ins (m := used) (s := t) (by omega) (by omega)
                have HCA := Lib.hid (fun (W : World) (hW : Below w.heap.size w W) => HIH.out t M (ins used t) _ _ W (HGV.out.keep hW) (HAV.out.keep hW) (by omega) HM.out hlt5 (by omega))
                generalize ins used t = U at *
                generalize cnt g a y f t M U = C at *
                clear HM HNX HCN HCY HTS hb HIH
                go_wp2_with fail
                refine wp_region_ext_lit (by kernel_rfl) (by kernel_rfl) ?_
                repeat (go_big_quiet_step ((go_at_call 66; exact Calls.ext_of (HCA.out _ (below_trans HBW.out (below_trans (ext_below _ _) (ext_below _ _)))))))
                refine wpQuiet_nil ?_
                intro _ hw'
                obtain ⟨u5, hw''⟩ := hw'
                subst hw''
                obtain ⟨u6, hu6⟩ := ext_of (below_trans (ext_below w1 u4) (ext_below (ext w1 u4) u5))
                rw [hu6]
                go_wp2_with fail
                go_roundw
                case rel => exact ⟨i + 1, u6, by omega, by go_num, by rw [← HE.out], rfl⟩
                case measure => simp [intOf]; omega
          · obtain rfl : i = (arcsOf g (x : Int)).length := by omega
            rw [← HR.out]
            go_wp2_with fail
            go_ret
            exact ⟨rfl, below_trans HBW.out (ext_below _ _)⟩

set_option maxHeartbeats 4000000 in
set_option maxRecDepth 100000 in
theorem specCountSimple (vg va : Value) (g : Gr) (a : Au) (x y : Int) (w : World) (hgv : GrV 0 w.heap.size w vg g) (hav : AuV 0 w.heap.size w va a) :
    Calls Try.prog 17 #[vg, va, .int .i64 x, .int .i64 y] w fun e w' => e = .returned (.int .i64 (cntSimple g a x y)) ∧ Below w.heap.size w w' := by
  have hgv0 := hgv
  have hav0 := hav
  obtain ⟨A1, n1, c1, A2, n2, c2, rfl⟩ := hgv.shape
  obtain ⟨A3, n3, c3, A4, n4, c4, rfl⟩ := hav.shape
  have hb0 : Below w.heap.size w ((w.alloc (.cells #[.slice A1 n1 c1, .slice A2 n2 c2] 35)).alloc (.cells #[.int .i64 a.start, .slice A3 n3 c3, .slice A4 n4 c4] 37)) := ((Below.refl _ _).alloc (Nat.le_refl _) _).alloc (by simp) _
  have HGV := Lib.hid hgv0
  have HAV := Lib.hid hav0
  clear hgv hav hgv0 hav0
  go_enter Try.func17, Try.ntmps17
  go_wp2_with fail
  obtain ⟨W0, hW0⟩ : ∃ W0, W0 = ((w.alloc (.cells #[.slice A1 n1 c1, .slice A2 n2 c2] 35)).alloc (.cells #[.int .i64 a.start, .slice A3 n3 c3, .slice A4 n4 c4] 37)) := ⟨_, rfl⟩
  rw [← hW0] at hb0 ⊢
  have x0 : W0.cell? ⟨w.heap.size, 0, none⟩ = some (.slice A1 n1 c1) := by rw [hW0]; simp
  have x1 : W0.cell? ⟨w.heap.size, 1, none⟩ = some (.slice A2 n2 c2) := by rw [hW0]; simp
  have y0 : W0.cell? ⟨w.heap.size + 1, 0, none⟩ = some (.int .i64 a.start) := by rw [hW0]; simp
  have y1 : W0.cell? ⟨w.heap.size + 1, 1, none⟩ = some (.slice A3 n3 c3) := by rw [hW0]; simp
  have y2 : W0.cell? ⟨w.heap.size + 1, 2, none⟩ = some (.slice A4 n4 c4) := by rw [hW0]; simp
  have hs0 : w.heap.size + 1 + 1 = W0.heap.size := by rw [hW0]; simp
  try rw [hs0]
  have l0 : w.heap.size + 1 < W0.heap.size := by omega
  have l00 : w.heap.size < W0.heap.size := by omega
  clear hW0 hs0
  have hgx := l14Good_any _ _ g a x 0 W0 (HGV.out.keep hb0) (HAV.out.keep hb0)
  have HGX := Lib.hid hgx
  clear hgx
  cases hk : goodB g a x 0 with
  | false =>
    rw [hk] at HGX
    have hfin : cntSimple g a x y = 0 := by
      unfold cntSimple cntOk
      rw [if_neg]
      intro h
      rw [goodB0] at hk
      simp only [Bool.and_eq_true] at h
      simp [h] at hk
    have HF := Lib.hid hfin
    clear hk hfin
    refine HGX.out.mono ?_
    rintro e w1 ⟨rfl, hb1⟩
    go_wp2_with fail
    go_ret
    exact ⟨by rw [HF.out]; rfl, below_trans hb0 hb1⟩
  | true =>
    rw [hk] at HGX
    have HK := Lib.hid hk
    clear hk
    refine HGX.out.mono ?_
    rintro e w1 ⟨rfl, hb1⟩
    have hb2 := below_trans hb0 hb1
    have x0 := kcell hb1 x0
    have x1 := kcell hb1 x1
    have y0 := kcell hb1 y0
    have y1 := kcell hb1 y1
    have y2 := kcell hb1 y2
    have l0 := Nat.lt_of_lt_of_le l0 hb1.size
    have l00 := Nat.lt_of_lt_of_le l00 hb1.size
    have hgy := l14Good_any _ _ g a y 0 w1 (HGV.out.keep hb2) (HAV.out.keep hb2)
    have HGY := Lib.hid hgy
    clear hgy
    cases hk : goodB g a y 0 with
    | false =>
      rw [hk] at HGY
      have hfin : cntSimple g a x y = 0 := by
        unfold cntSimple cntOk
        rw [if_neg]
        intro h
        rw [goodB0] at hk
        simp only [Bool.and_eq_true] at h
        simp [h] at hk
      have HF := Lib.hid hfin
      clear hk hfin
      go_wp2_with fail
      refine HGY.out.mono ?_
      rintro e w3 ⟨rfl, hb3⟩
      go_wp2_with fail
      go_ret
      exact ⟨by rw [HF.out]; rfl, below_trans hb2 hb3⟩
    | true =>
      rw [hk] at HGY
      rw [goodB0] at hk
      have hk2 := HK.out
      rw [goodB0] at hk2
      simp only [Bool.and_eq_true, wi_iff] at hk hk2
      obtain ⟨hgo, hao, hy0, hy1⟩ := hk
      obtain ⟨-, -, hx0, hx1⟩ := hk2
      obtain ⟨x, rfl⟩ := Int.eq_ofNat_of_zero_le hx0
      have hst0 := (auOk_iff.1 hao).2.1
      have hm12 := (auOk_iff.1 hao).1.2
      have hn5 := (grOk_iff.1 hgo).n5
      obtain ⟨s, hs⟩ : ∃ s : Nat, a.start = (s : Int) := ⟨a.start.toNat, by omega⟩
      have hfin : cntSimple g a (x : Int) y = cnt g a y 32 x (bit s) (bit x) := by
        unfold cntSimple
        rw [if_pos (by simp [cntOk, wi_iff, hx0, hx1, hy0, hy1, hgo, hao]), hs, Int.toNat_natCast, Int.toNat_natCast]
      have e1 := shl_bit (s := s) (by omega)
      have e2 := shl_bit (s := x) (by omega)
      have hbs : bit s < 2 ^ a.accept.length := bit_lt (by omega)
      have hbx : bit x < 32 := bit_lt (n := 5) (by omega)
      have HL := Lib.hid (fun (W : World) (hW : Below w.heap.size w W) => l21Count_any g a y hgo hao 32 x (bit s) (bit x) _ _ W (HGV.out.keep hW) (HAV.out.keep hW) (by omega) hbs hbx (by omega))
      generalize bit s = bs at *
      generalize bit x = bx at *
      have HF := Lib.hid hfin
      generalize cnt g a y 32 x bs bx = R at *
      have HST := Lib.hid hs
      rw [hs] at HL
      have E1 := Lib.hid e1
      have E2 := Lib.hid e2
      have hs61 : s < 62 := by omega
      have hx61 : x < 62 := by omega
      clear hfin hgo hao hx0 hx1 hy0 hy1 hst0 hs HK e1 e2 hbs hbx hm12 hn5
      go_wp2_with fail
      refine HGY.out.mono ?_
      rintro e w3 ⟨rfl, hb3⟩
      have hb4 := below_trans hb2 hb3
      have x0 := kcell hb3 x0
      have x1 := kcell hb3 x1
      have y0 := kcell hb3 y0
      have y1 := kcell hb3 y1
      have y2 := kcell hb3 y2
      have l0 := Nat.lt_of_lt_of_le l0 hb3.size
      have l00 := Nat.lt_of_lt_of_le l00 hb3.size
      clear hb0 hb1 hb2 hb3 HGY HGX
      go_wp2_with fail
      have e1 := E1.out
      have e2 := E2.out
      rw [HST.out] at y0
      refine wp_region_ext_lit (by kernel_rfl) (by kernel_rfl) ?_
      repeat (go_big_quiet_step ((go_at_call 66; exact Calls.ext_of (HL.out _ (below_trans hb4 (ext_below _ _))))))
      refine wpQuiet_nil ?_
      intro _ hw'
      obtain ⟨u2, hw''⟩ := hw'
      subst hw''
      go_wp2_with fail
      go_ret
      exact ⟨by rw [HF.out]; rfl, below_trans hb4 (ext_below _ _)⟩
end Go.Proofs.Ytajjolkpgfegfaa

