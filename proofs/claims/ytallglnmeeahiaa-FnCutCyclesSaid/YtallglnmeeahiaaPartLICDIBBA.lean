/- Parts of the proof, joined into one text: NodesI, Shelf, Reslice, AscM, DistM, SpreadM, NextM, GoalM, DistP, BackM, StepsM. -/
import Derived.Test.YtallglnmeeahiaaPartDLBGOHJO
import Derived.Test.YtallglnmeeahiaaPartFDAIEBNB
import Derived.Test.YtallglnmeeahiaaPartCKFBLHLD
import Derived.Shelf.Small.Bits
import Derived.Shelf.Small.Wraps
import Derived.Shelf.Strconv.Itoa0
import Derived.Shelf.Sort.Plain
import Derived.Shelf.Bits.Mul64
import Derived.Shelf.Slices.Turned
import Derived.Ground.Names2Prog
import Derived.Shelf.Slices.CompactI
import Derived.Shelf.Slices.SearchI
import Derived.Shelf.Slices.Cells
import Derived.Shelf.Slices.In.SortNone
import Derived.Test.YtallglnmeeahiaaProg
import Derived.Lib.SlicesCompact
/- The program's walks: their nodes, and when they are walks of a graph. -/
namespace Go.Proofs.Ytallglnmeeahiaa
set_option linter.unusedVariables false
set_option linter.unusedSimpArgs false
open Go.ChangeShapes Go.WideShapes Go.ChangeAt Go.RowKit
attribute [local go_sem] ext_cell ext_frozen ext_lt ext_lt1 ext_lt2 ext_lt3 ltn2 ltn3 ltn13 lts1 lts2 lts3

theorem row_shape {W : World} {base k n : Nat} {e : TypeId} {v : Value} {cs : List Value} (h : W.ownsRow base e k v n cs) (hn : n ≠ 0) : ∃ g c, v = .slice (some ⟨g, 0, none⟩) n c ∧ base ≤ g ∧ g < W.heap.size ∧ n ≤ c ∧ c ≤ maxLen := by
  have hlt := h.lt
  obtain ⟨hl, hs⟩ := h
  rcases hs with ⟨_, h0⟩ | ⟨g, cap, cur, rfl, hg, hh, hnc, hcm, r⟩
  · exact absurd h0 hn
  · exact ⟨g, cap, rfl, hg, (hlt g rfl).2, hnc, hcm⟩

set_option maxHeartbeats 4000000 in
theorem implNodes (v1 v2 : Value) (g : Gr) (k : Wk) (w : World) (hv1 : GrV 0 w.heap.size w v1 g) (hv2 : WkV 0 w.heap.size w v2 k) :
    Calls Try.prog 49 #[v1, v2] w fun en w' => ∃ v, en = .returned (.tuple #[v, .bool (walkOk g k)]) ∧ Own w.heap.size w'.heap.size w' 3 cI 1 v (nodesOut g k) ∧ Below w.heap.size w w' := by
  have hv0 := hv1
  obtain ⟨vs, es, rfl, ⟨A1, c1, rfl, hl1, hm1, -⟩, hes⟩ := hv1
  obtain ⟨A2, n2, c2, rfl⟩ := hes.shape
  obtain ⟨ss, rfl, ⟨A3, c3, rfl, hl3, hm3, hx3⟩⟩ := hv2
  unfold maxLen at hm1 hm3
  obtain ⟨st, steps⟩ := k
  simp only at *
  have hb0 : Below w.heap.size w ((w.alloc (.cells #[.slice A1 g.vals.length c1, .slice A2 n2 c2] 38)).alloc (.cells #[.int .i64 st, .slice A3 steps.length c3] 41)) := ((Below.refl _ _).alloc (Nat.le_refl _) _).alloc (by simp) _
  have HX3 := Lib.hid hx3
  have hwo : walkOk g (st, steps) = (grOk g && wi st 0 ((g.vals.length : Int) - 1) && decide (steps.length ≤ 60) && (List.range steps.length).all (linkAt g (st, steps))) := rfl
  have HW := Lib.hid hwo
  clear hx3 hes hwo
  have hvg := implValidGraph _ g _ (hv0.keep hb0)
  have HV := Lib.hid hvg
  clear hvg
  go_enter Try.func49, Try.ntmps49
  go_wp2_with fail
  refine HV.out.mono ?_
  rintro e w1 ⟨rfl, hb1⟩
  have b0 := ((Blk.new w _ _ w.heap.size rfl).alloc _).keep hb1
  have b1 := (Blk.new (w.alloc _) _ _ (w.heap.size + 1) (by simp)).keep hb1
  have hb2 := below_trans hb0 hb1
  clear hb0 hb1 HV
  have x0 : w1.cell? ⟨w.heap.size, 0, none⟩ = some _ := b0.cell 0
  have x1 : w1.cell? ⟨w.heap.size, 1, none⟩ = some _ := b0.cell 1
  have y0 : w1.cell? ⟨w.heap.size + 1, 0, none⟩ = some _ := b1.cell 0
  have y1 : w1.cell? ⟨w.heap.size + 1, 1, none⟩ = some _ := b1.cell 1
  have hlt1 := b1.lt
  have HWI := Lib.hid within_any
  cases hg : grOk g with
  | false =>
    have hfin : walkOk g (st, steps) = false := by rw [HW.out, hg]; rfl
    have HF := Lib.hid hfin
    clear HW hfin hg
    go_wp2_with fail
    go_ret2
    exact ⟨_, by rw [HF.out]; rfl, by rw [nodesOut_no HF.out]; exact Own.nil _ _ _ _ _ _, hb2⟩
  | true =>
    have q1 : IntKind.i64.wrap ((g.vals.length : Int) - 1) = (g.vals.length : Int) - 1 := IntWalk.i64_in _ (by omega)
    cases hs : wi st 0 ((g.vals.length : Int) - 1) with
    | false =>
      have hfin : walkOk g (st, steps) = false := by rw [HW.out, hg, hs]; rfl
      have HF := Lib.hid hfin
      clear HW hfin hg
      go_wp2_with (go_at_call 39; refine (HWI.out _ _ _ _).mono ?_; rintro e w' ⟨rfl, rfl⟩)
      go_ret2
      exact ⟨_, by rw [HF.out]; rfl, by rw [nodesOut_no HF.out]; exact Own.nil _ _ _ _ _ _, hb2⟩
    | true =>
      by_cases hlen : steps.length ≤ 60
      · have hlen' : decide ((steps.length : Int) > 60) = false := by simp; omega
        have hfin : walkOk g (st, steps) = (List.range steps.length).all (linkAt g (st, steps)) := by rw [HW.out, hg, hs]; simp [hlen]
        have HF := Lib.hid hfin
        clear HW hfin hg
        go_wp2_with (go_at_call 39; refine (HWI.out _ _ _ _).mono ?_; rintro e w1 ⟨rfl, rfl⟩)
        have HS := Lib.hid hs
        clear hs
        go_loopw [6, 34] (fun out ii wr => ∃ i : Nat, i ≤ steps.length ∧ ii = .int .i64 i ∧ (List.range i).all (linkAt g (st, steps)) = true ∧ wr.ownsRow w1.heap.size 3 1 out ((nodesL g (st, steps)).take (i + 1)).length (((nodesL g (st, steps)).take (i + 1)).flatMap cI) ∧ Below w1.heap.size w1 wr) (fun _ ii _ => steps.length - (intOf ii).toNat)
        case atStart => exact ⟨0, Nat.zero_le _, rfl, rfl, World.ownsRow_lit w1 #[.int .i64 st] 1 (Nat.le_refl _) (by decide) rfl, (Below.refl _ _).alloc (Nat.le_refl _) _⟩
        case round =>
          obtain ⟨i, hi, rfl, hal, hrow, hbel⟩ := hrel
          have HA := Lib.hid hal
          have hbw := below_trans hb2 hbel
          have hml : ((nodesL g (st, steps)).take (i + 1)).length = i + 1 := by rw [List.length_take, nodesL_len]; simp only; omega
          clear hal
          by_cases hlt : i < steps.length
          · have hxs : steps[i]? = some steps[i] := List.getElem?_eq_getElem hlt
            generalize steps[i] = s at hxs
            obtain ⟨sid, sinv⟩ := s
            obtain ⟨b, o, rfl, -, hb, hc⟩ := HX3.out i _ hxs
            have d0 := hc 0 _ rfl
            have d1 := hc 1 _ rfl
            simp only [Nat.add_zero] at d0
            have d0 := (hbw.cell (p := ⟨_, _, none⟩) hb).trans d0
            have d1 := (hbw.cell (p := ⟨_, _, none⟩) hb).trans d1
            obtain ⟨x, hxl⟩ : ∃ x, (nodesL g (st, steps))[i]? = some x := ⟨_, List.getElem?_eq_getElem (by rw [nodesL_len]; simp only; omega)⟩
            obtain ⟨gb, cp, hv, hg1, hg2, hnc, hcm⟩ := row_shape hrow (by omega)
            obtain ⟨m, hm⟩ : ∃ m, m = i + 1 := ⟨_, rfl⟩
            rw [hml, ← hm] at hv
            subst hv
            have hrm := hrow
            rw [show ((nodesL g (st, steps)).take (i + 1)).length = m by rw [hml, hm]] at hrm
            have c0 := (World.ownsRow.cellAt hrm i (by omega)).trans (by have := flat_at cI_len (xs := (nodesL g (st, steps)).take (i + 1)) (i := i) (x := x) (by rw [List.getElem?_take]; simp [hxl]) 0 _ rfl; simpa using this)
            clear hrm
            have hf := fun W (hW : Below w.heap.size w W) => implStepFrom _ g (sid, sinv) W (hv0.keep hW)
            have ht := fun W (hW : Below w.heap.size w W) => implStepTo _ g (sid, sinv) W (hv0.keep hW)
            have hlk := linkAt_eq (k := (st, steps)) hxs hxl
            have HLK := Lib.hid hlk
            have HFF := Lib.hid hf
            have HTT := Lib.hid ht
            have HXS := Lib.hid hxs
            have HROW := Lib.hid hrow
            have hbx := fun (X : Obj) u => below_trans (hbw.alloc hbw.size X) (ext_below (wr.alloc X) u)
            have x0 := (hbel.cell (p := ⟨_, _, none⟩) (by simp only; omega)).trans x0
            have x1 := (hbel.cell (p := ⟨_, _, none⟩) (by simp only; omega)).trans x1
            have hs1 := hbel.size
            have q2 : IntKind.i64.wrap ((m : Int) - 1) = (i : Int) := by rw [IntWalk.i64_in _ (by omega)]; omega
            have q3 : (i : Int) < (m : Int) := by omega
            have HM := Lib.hid hm
            clear hlk hf ht hxs hrow hml hm hxl hc q1 hnc hcm
            generalize stepFrom g (sid, sinv) = y at HLK HFF
            have k0 : w.heap.size < wr.heap.size := by omega
            by_cases hyx : y = x
            · have hq : (y != x) = false := by simp [hyx]
              have HYX := Lib.hid hyx
              clear hyx
              go_wp2_with fail
              refine wp_region_ext_lit (by kernel_rfl) (by kernel_rfl) ?_
              repeat (go_big_quiet_step ((go_at_call 26; exact Calls.ext_of (HFF.out _ (hbx _ _)))))
              refine wpQuiet_nil ?_
              intro _ hw'
              obtain ⟨u2, hw''⟩ := hw'
              subst hw''
              go_wp2_with fail
              refine (HTT.out _ (hbx _ _)).mono ?_
              rintro e w3 ⟨rfl, hb3⟩
              have hw3 := below_trans (Below.refl wr.heap.size wr |>.alloc (Nat.le_refl _) _) (below_trans (ext_below _ u2) hb3)
              have hrow3 := ownsRow_below HROW.out hw3 (Nat.le_refl _)
              have hs3 := Nat.le_trans hs1 hw3.size
              have hbel3 := below_trans hbel hw3
              have htl : ((nodesL g (st, steps)).take (i + 1)).length ≤ 61 := by rw [List.length_take]; omega
              clear hb3 hbx
              go_wp2_with (at_builtin; (refine wpList_append1 cI elInt rfl _ _ rfl w1.heap.size (.slice (some ⟨gb, 0, none⟩) m cp) ((nodesL g (st, steps)).take (i + 1)) (stepTo g (sid, sinv)) _ 1 _ (by rfl) hrow3 (by rfl) rfl rfl rfl (cI_one _) (by omega) (by omega) hs3 ?_); rw [← nodesL_succ HXS.out]; intro v' w4 hrow' hb4 _ _)
              go_roundw
              case rel => exact ⟨i + 1, by omega, by go_num, range_all_succ HA.out (by rw [HLK.out, HYX.out]; simp), hrow', hbel3.trans hb4⟩
              case measure => simp [intOf]; omega
            · have hq : (y != x) = true := by simp [hyx]
              have HYX := Lib.hid hyx
              clear hyx
              go_wp2_with fail
              refine wp_region_ext_lit (by kernel_rfl) (by kernel_rfl) ?_
              repeat (go_big_quiet_step ((go_at_call 26; exact Calls.ext_of (HFF.out _ (hbx _ _)))))
              refine wpQuiet_nil ?_
              intro _ hw'
              obtain ⟨u2, hw''⟩ := hw'
              subst hw''
              have hfin : walkOk g (st, steps) = false := by rw [HF.out]; exact range_all_false hlt (by rw [HLK.out]; simpa using HYX.out)
              have HFI := Lib.hid hfin
              clear hfin
              go_wp2_with fail
              go_ret2
              exact ⟨_, by rw [HFI.out]; rfl, by rw [nodesOut_no HFI.out]; exact Own.nil _ _ _ _ _ _, hbx _ _⟩
          · obtain rfl : i = steps.length := by omega
            have hfin : walkOk g (st, steps) = true := by rw [HF.out, HA.out]
            have HFF := Lib.hid hfin
            have htk : (nodesL g (st, steps)).take (steps.length + 1) = nodesL g (st, steps) := List.take_of_length_le (by rw [nodesL_len]; simp)
            rw [htk] at hrow
            have HROW := Lib.hid hrow
            clear hfin HF HA htk hml hrow
            go_wp2_with fail
            go_ret2
            exact ⟨_, by rw [HFF.out]; rfl, by rw [nodesOut_yes HFF.out]; exact (Own.of_row HROW.out rfl rfl).mono hb2.size (Nat.le_refl _), hbw⟩
      · have hlen' : decide ((steps.length : Int) > 60) = true := by simp; omega
        have hfin : walkOk g (st, steps) = false := by rw [HW.out]; simp [hlen]
        have HF := Lib.hid hfin
        clear HW hfin hg
        go_wp2_with (go_at_call 39; refine (HWI.out _ _ _ _).mono ?_; rintro e w' ⟨rfl, rfl⟩)
        go_ret2
        exact ⟨_, by rw [HF.out]; rfl, by rw [nodesOut_no HF.out]; exact Own.nil _ _ _ _ _ _, hb2⟩
end Go.Proofs.Ytallglnmeeahiaa

/-
  DERIVED: THE SHELF's CONTRACTS AT THIS DUMP, IN PLAIN WORDS (tools/lay-plain.mjs out of 'TryShelf.lean', which tools/lay-shelf.mjs wrote): THE SAME DECLARATIONS UNDER THE SAME NAMES: 'import', 'namespace', 'open', 'def', 'theorem' AND NOTHING ELSE: no command of the shelf's: FOR A HAND-IN. Each laying: the table of numbers ('.._ren') and one theorem, a field a fact of the dump's own or the kernel's comparison; each contract: ONE APPLICATION.
-/
namespace Go.Proofs
open Go.Shelf
def Try.lays128_ren : Go.Shelf.Ren := ⟨fun | 128 => 123 | n => n, fun | 51 => 151 | 3 => 3 | 4 => 4 | 46 => 123 | 5 => 5 | 9 => 9 | n => n, fun | n => n⟩
theorem Try.lays128 : Go.Proofs.Lays.n128 Try.prog Try.lays128_ren := {
  mixed := by kernel_rfl
  f128 := Try.func123.trans (congrArg some (by kernel_rfl))
  t3 := Try.underlying3
  a3 := Try.isAgg3
  z3 := Try.sizeOf3
  v3 := Try.zeroValue3
  t4 := Try.underlying4
  a4 := Try.isAgg4
  z4 := Try.sizeOf4
  v4 := Try.zeroValue4
  t5 := Try.underlying5
  a5 := Try.isAgg5
  z5 := Try.sizeOf5
  v5 := Try.zeroValue5
  t9 := Try.underlying9
  a9 := Try.isAgg9
  z9 := Try.sizeOf9
  v9 := Try.zeroValue9
  t46 := Try.underlying123
  a46 := Try.isAgg123
  z46 := Try.sizeOf123
  v46 := Try.zeroValue123
  t51 := Try.underlying151
  a51 := Try.isAgg151
  z51 := Try.sizeOf151
  v51 := Try.zeroValue151 }
/-- bits.Len32: "Len32 returns the minimum number of bits required to represent x; the result is 0 for x == 0.": IT RETURNS 'Lib.bitLen x'; the world is as it was. ('h0', 'h1': x is a uint32.) (LAID: no walk: one application.) -/
theorem Try.bits_Len32 (x : Int) (w : World) (h0 : 0 ≤ x) (h1 : x ≤ 4294967295) :
    Calls Try.prog 123 #[.int .u32 x] w fun e w' => e = .returned (.int .i64 (Lib.bitLen x.toNat)) ∧ w' = w := Any.bits_Len32 Try.lays128 x w h0 h1
def Try.lays125_ren : Go.Shelf.Ren := ⟨fun | 125 => 100 | 128 => 123 | 129 => 124 | n => n, fun | 46 => 123 | 3 => 3 | 51 => 151 | 53 => 153 | 4 => 4 | 5 => 5 | 9 => 9 | n => n, fun | n => n⟩
theorem Try.lays125 : Go.Proofs.Lays.n125 Try.prog Try.lays125_ren := {
  mixed := by kernel_rfl
  f125 := Try.func100.trans (congrArg some (by kernel_rfl))
  f128 := Try.func123.trans (congrArg some (by kernel_rfl))
  f129 := Try.func124.trans (congrArg some (by kernel_rfl))
  t3 := Try.underlying3
  a3 := Try.isAgg3
  z3 := Try.sizeOf3
  v3 := Try.zeroValue3
  t4 := Try.underlying4
  a4 := Try.isAgg4
  z4 := Try.sizeOf4
  v4 := Try.zeroValue4
  t5 := Try.underlying5
  a5 := Try.isAgg5
  z5 := Try.sizeOf5
  v5 := Try.zeroValue5
  t9 := Try.underlying9
  a9 := Try.isAgg9
  z9 := Try.sizeOf9
  v9 := Try.zeroValue9
  t46 := Try.underlying123
  a46 := Try.isAgg123
  z46 := Try.sizeOf123
  v46 := Try.zeroValue123
  t51 := Try.underlying151
  a51 := Try.isAgg151
  z51 := Try.sizeOf151
  v51 := Try.zeroValue151
  t53 := Try.underlying153
  a53 := Try.isAgg153
  z53 := Try.sizeOf153
  v53 := Try.zeroValue153 }
/-- bits.Len: "Len returns the minimum number of bits required to represent x; the result is 0 for x == 0.": IT RETURNS 'Lib.bitLen x'; the world is as it was. (A uint has 64 bits in the model.) ITS CALLEE bits.Len64 IS MET BY ITS OWN CONTRACT OFF THE SHELF (lay that first). (LAID: no walk: one application.) -/
theorem Try.bits_Len (x : Int) (w : World) (h0 : 0 ≤ x) (h1 : x ≤ 18446744073709551615) :
    Calls Try.prog 100 #[.int .u64 x] w fun e w' => e = .returned (.int .i64 (Lib.bitLen x.toNat)) ∧ w' = w := Any.bits_Len Try.lays125 x w h0 h1
def Try.lays215_ren : Go.Shelf.Ren := ⟨fun | 215 => 139 | n => n, fun | 3 => 3 | 4 => 4 | n => n, fun | n => n⟩
theorem Try.lays215 : Go.Proofs.Lays.n215 Try.prog Try.lays215_ren := {
  mixed := by kernel_rfl
  f215 := Try.func139.trans (congrArg some (by kernel_rfl))
  t3 := Try.underlying3
  a3 := Try.isAgg3
  z3 := Try.sizeOf3
  v3 := Try.zeroValue3
  t4 := Try.underlying4
  a4 := Try.isAgg4
  z4 := Try.sizeOf4
  v4 := Try.zeroValue4 }
open Go.RowKit in
/-- cmp.isNaN at int: 'x != x': false. (LAID: no walk: one application.) -/
theorem Try.cmp_isNaN_int (x : Int) (w : World) :
    Calls Try.prog 139 #[.int .i64 x] w fun e w' => e = .returned (.bool false) ∧ w' = w := Any.cmp_isNaN_int Try.lays215 x w
def Try.lays129_ren : Go.Shelf.Ren := ⟨fun | 129 => 124 | n => n, fun | 53 => 153 | 3 => 3 | 4 => 4 | 46 => 123 | 5 => 5 | 9 => 9 | n => n, fun | n => n⟩
theorem Try.lays129 : Go.Proofs.Lays.n129 Try.prog Try.lays129_ren := {
  mixed := by kernel_rfl
  f129 := Try.func124.trans (congrArg some (by kernel_rfl))
  t3 := Try.underlying3
  a3 := Try.isAgg3
  z3 := Try.sizeOf3
  v3 := Try.zeroValue3
  t4 := Try.underlying4
  a4 := Try.isAgg4
  z4 := Try.sizeOf4
  v4 := Try.zeroValue4
  t5 := Try.underlying5
  a5 := Try.isAgg5
  z5 := Try.sizeOf5
  v5 := Try.zeroValue5
  t9 := Try.underlying9
  a9 := Try.isAgg9
  z9 := Try.sizeOf9
  v9 := Try.zeroValue9
  t46 := Try.underlying123
  a46 := Try.isAgg123
  z46 := Try.sizeOf123
  v46 := Try.zeroValue123
  t53 := Try.underlying153
  a53 := Try.isAgg153
  z53 := Try.sizeOf153
  v53 := Try.zeroValue153 }
/-- bits.Len64: "Len64 returns the minimum number of bits required to represent x; the result is 0 for x == 0.": IT RETURNS 'Lib.bitLen x'; the world is as it was. ('h0', 'h1': x is a uint64.) (LAID: no walk: one application.) -/
theorem Try.bits_Len64 (x : Int) (w : World) (h0 : 0 ≤ x) (h1 : x ≤ 18446744073709551615) :
    Calls Try.prog 124 #[.int .u64 x] w fun e w' => e = .returned (.int .i64 (Lib.bitLen x.toNat)) ∧ w' = w := Any.bits_Len64 Try.lays129 x w h0 h1
def Try.lays189_ren : Go.Shelf.Ren := ⟨fun | 189 => 74 | 125 => 100 | 257 => 99 | 128 => 123 | 129 => 124 | 294 => 114 | 295 => 115 | 296 => 116 | 297 => 117 | 298 => 118 | 299 => 119 | 216 => 120 | 300 => 121 | 301 => 122 | 328 => 134 | 329 => 135 | 330 => 136 | 331 => 137 | 332 => 138 | 215 => 139 | 343 => 150 | n => n, fun | 28 => 30 | 3 => 3 | 46 => 123 | 0 => 0 | 51 => 151 | 53 => 153 | 4 => 4 | 183 => 143 | 182 => 142 | 131 => 148 | 5 => 5 | 9 => 9 | 218 => 169 | 222 => 173 | 228 => 184 | 229 => 185 | n => n, fun | n => n⟩
theorem Try.lays189 : Go.Proofs.Lays.n189 Try.prog Try.lays189_ren := {
  mixed := by kernel_rfl
  f125 := Try.func100.trans (congrArg some (by kernel_rfl))
  f128 := Try.func123.trans (congrArg some (by kernel_rfl))
  f129 := Try.func124.trans (congrArg some (by kernel_rfl))
  f189 := Try.func74.trans (congrArg some (by kernel_rfl))
  f215 := Try.func139.trans (congrArg some (by kernel_rfl))
  f216 := Try.func120.trans (congrArg some (by kernel_rfl))
  f257 := Try.func99.trans (congrArg some (by kernel_rfl))
  f294 := Try.func114.trans (congrArg some (by kernel_rfl))
  f295 := Try.func115.trans (congrArg some (by kernel_rfl))
  f296 := Try.func116.trans (congrArg some (by kernel_rfl))
  f297 := Try.func117.trans (congrArg some (by kernel_rfl))
  f298 := Try.func118.trans (congrArg some (by kernel_rfl))
  f299 := Try.func119.trans (congrArg some (by kernel_rfl))
  f300 := Try.func121.trans (congrArg some (by kernel_rfl))
  f301 := Try.func122.trans (congrArg some (by kernel_rfl))
  f328 := Try.func134.trans (congrArg some (by kernel_rfl))
  f329 := Try.func135.trans (congrArg some (by kernel_rfl))
  f330 := Try.func136.trans (congrArg some (by kernel_rfl))
  f331 := Try.func137.trans (congrArg some (by kernel_rfl))
  f332 := Try.func138.trans (congrArg some (by kernel_rfl))
  f343 := Try.func150.trans (congrArg some (by kernel_rfl))
  t0 := Try.underlying0
  a0 := Try.isAgg0
  z0 := Try.sizeOf0
  v0 := Try.zeroValue0
  t3 := Try.underlying3
  a3 := Try.isAgg3
  z3 := Try.sizeOf3
  v3 := Try.zeroValue3
  t4 := Try.underlying4
  a4 := Try.isAgg4
  z4 := Try.sizeOf4
  v4 := Try.zeroValue4
  t5 := Try.underlying5
  a5 := Try.isAgg5
  z5 := Try.sizeOf5
  v5 := Try.zeroValue5
  t9 := Try.underlying9
  a9 := Try.isAgg9
  z9 := Try.sizeOf9
  v9 := Try.zeroValue9
  t28 := Try.underlying30
  a28 := Try.isAgg30
  z28 := Try.sizeOf30
  v28 := Try.zeroValue30
  t46 := Try.underlying123
  a46 := Try.isAgg123
  z46 := Try.sizeOf123
  v46 := Try.zeroValue123
  t51 := Try.underlying151
  a51 := Try.isAgg151
  z51 := Try.sizeOf151
  v51 := Try.zeroValue151
  t53 := Try.underlying153
  a53 := Try.isAgg153
  z53 := Try.sizeOf153
  v53 := Try.zeroValue153
  t131 := Try.underlying148
  a131 := Try.isAgg148
  z131 := Try.sizeOf148
  v131 := Try.zeroValue148
  t182 := Try.underlying142
  a182 := Try.isAgg142
  z182 := Try.sizeOf142
  v182 := Try.zeroValue142
  t183 := Try.underlying143
  a183 := Try.isAgg143
  z183 := Try.sizeOf143
  v183 := Try.zeroValue143
  t218 := Try.underlying169
  a218 := Try.isAgg169
  z218 := Try.sizeOf169
  v218 := Try.zeroValue169
  t222 := Try.underlying173
  a222 := Try.isAgg173
  z222 := Try.sizeOf173
  v222 := Try.zeroValue173
  t228 := Try.underlying184
  a228 := Try.isAgg184
  z228 := Try.sizeOf184
  v228 := Try.zeroValue184
  t229 := Try.underlying185
  a229 := Try.isAgg185
  z229 := Try.sizeOf185
  v229 := Try.zeroValue185 }
open Go.Sort Go.RowKit in
theorem Try.slices_Sort_int (blk off cap : Nat) (zs : List Int) (w : World) (hH : Holds (Value.int .i64) w blk off zs.toArray) (hblk : blk < w.heap.size) (hsz : zs.length < 4611686018427387904) :
    Calls Try.prog 74 #[.slice (some ⟨blk, off, none⟩) zs.length cap] w fun e w' =>
      e = .returned (.tuple #[]) ∧ ∃ n os, w' = grow (putRow (Value.int .i64) (Sort.ahead w n) blk off (zs.mergeSort fun x y => decide (x ≤ y)).toArray) os := Any.slices_Sort_int Try.lays189 blk off cap zs w hH hblk hsz
def Try.lays264_ren : Go.Shelf.Ren := ⟨fun | 264 => 133 | n => n, fun | 53 => 153 | 46 => 123 | n => n, fun | n => n⟩
theorem Try.lays264 : Go.Proofs.Lays.n264 Try.prog Try.lays264_ren := {
  mixed := by kernel_rfl
  f264 := Try.func133.trans (congrArg some (by kernel_rfl))
  t46 := Try.underlying123
  a46 := Try.isAgg123
  z46 := Try.sizeOf123
  v46 := Try.zeroValue123
  t53 := Try.underlying153
  a53 := Try.isAgg153
  z53 := Try.sizeOf153
  v53 := Try.zeroValue153 }
open Go.RowKit Go.Lib in
theorem Try.bits_Mul64 (x y : Nat) (hx : x < 18446744073709551616) (hy : y < 18446744073709551616) (w : World) :
    Calls Try.prog 133 #[.int .u64 x, .int .u64 y] w fun e w' => e = .returned (.tuple #[.int .u64 ((x * y / 18446744073709551616 : Nat) : Int), .int .u64 ((x * y % 18446744073709551616 : Nat) : Int)]) ∧ w' = w := Any.bits_Mul64 Try.lays264 x y hx hy w
def Try.lays212_ren : Go.Shelf.Ren := ⟨fun | 212 => 113 | 263 => 132 | 264 => 133 | n => n, fun | 46 => 123 | 51 => 151 | 146 => 165 | 53 => 153 | 148 => 167 | n => n, fun | n => n⟩
theorem Try.lays212 : Go.Proofs.Lays.n212 Try.prog Try.lays212_ren := {
  mixed := by kernel_rfl
  f212 := Try.func113.trans (congrArg some (by kernel_rfl))
  f263 := Try.func132.trans (congrArg some (by kernel_rfl))
  f264 := Try.func133.trans (congrArg some (by kernel_rfl))
  t46 := Try.underlying123
  a46 := Try.isAgg123
  z46 := Try.sizeOf123
  v46 := Try.zeroValue123
  t51 := Try.underlying151
  a51 := Try.isAgg151
  z51 := Try.sizeOf151
  v51 := Try.zeroValue151
  t53 := Try.underlying153
  a53 := Try.isAgg153
  z53 := Try.sizeOf153
  v53 := Try.zeroValue153
  t146 := Try.underlying165
  a146 := Try.isAgg165
  z146 := Try.sizeOf165
  v146 := Try.zeroValue165
  t148 := Try.underlying167
  a148 := Try.isAgg167
  z148 := Try.sizeOf167
  v148 := Try.zeroValue167 }
open Go.RowKit Go.Lib in
/-- math/bits.Mul: "Mul returns the full-width product of x and y": on a machine of 64 bits: Mul64's. (LAID: no walk: one application.) -/
theorem Try.bits_Mul (x y : Nat) (hx : x < 18446744073709551616) (hy : y < 18446744073709551616) (w : World) :
    Calls Try.prog 113 #[.int .u64 x, .int .u64 y] w fun e w' => e = .returned (.tuple #[.int .u64 ((x * y / 18446744073709551616 : Nat) : Int), .int .u64 ((x * y % 18446744073709551616 : Nat) : Int)]) ∧ w' = w := Any.bits_Mul Try.lays212 x y hx hy w
def Try.lays108_ren : Go.Shelf.Ren := ⟨fun | 108 => 50 | n => n, fun | 28 => 30 | 3 => 3 | 0 => 0 | 4 => 4 | n => n, fun | n => n⟩
theorem Try.lays108 : Go.Proofs.Lays.n108 Try.prog Try.lays108_ren := {
  mixed := by kernel_rfl
  f108 := Try.func50.trans (congrArg some (by kernel_rfl))
  t0 := Try.underlying0
  a0 := Try.isAgg0
  z0 := Try.sizeOf0
  v0 := Try.zeroValue0
  t3 := Try.underlying3
  a3 := Try.isAgg3
  z3 := Try.sizeOf3
  v3 := Try.zeroValue3
  t4 := Try.underlying4
  a4 := Try.isAgg4
  z4 := Try.sizeOf4
  v4 := Try.zeroValue4
  t28 := Try.underlying30
  a28 := Try.isAgg30
  z28 := Try.sizeOf30
  v28 := Try.zeroValue30 }
open Go.Lib in
/-- slices.Index at []int: "Index returns the index of the first occurrence of v in s, or -1 if not present.": IT RETURNS 'Lib.idxOf (the elements) v'; the world is as it was. 'zs': what the cells behind the slice's address hold (its spare capacity too, if you have it); 'zs.take n': its elements. (LAID: no walk: one application.) -/
theorem Try.slices_Index_int (b off n c : Nat) (zs : List Int) (x : Int) (w : World) (hz : n ≤ zs.length) (hbig : n ≤ 9223372036854775807) (hc : ∀ j, j < zs.length → w.cell? ⟨b, off + j, none⟩ = some (.int .i64 (zs.getD j 0))) :
    Calls Try.prog 50 #[.slice (some ⟨b, off, none⟩) n c, .int .i64 x] w fun e w' => e = .returned (.int .i64 (Lib.idxOf (zs.take n) x)) ∧ w' = w := Any.slices_Index_int Try.lays108 b off n c zs x w hz hbig hc
open Go.Lib in
/-- The same at a slice of length 0, a nil one too: no cell is known, none is asked for. (LAID: no walk: one application.) -/
theorem Try.slices_Index_int_empty (a : Option Addr) (c : Nat) (x : Int) (w : World) :
    Calls Try.prog 50 #[.slice a 0 c, .int .i64 x] w fun e w' => e = .returned (.int .i64 (Lib.idxOf [] x)) ∧ w' = w := Any.slices_Index_int_empty Try.lays108 a c x w
def Try.laysNm220_ren : Go.Shelf.Ren := ⟨fun | 20 => 75 | n => n, fun | 22 => 30 | 3 => 3 | 4 => 4 | 0 => 0 | n => n, fun | n => n⟩
theorem Try.laysNm220 : Go.Proofs.Lays2.n20 Try.prog Try.laysNm220_ren := {
  mixed := by kernel_rfl
  f20 := Try.func75.trans (congrArg some (by kernel_rfl))
  t0 := Try.underlying0
  a0 := Try.isAgg0
  z0 := Try.sizeOf0
  v0 := Try.zeroValue0
  t3 := Try.underlying3
  a3 := Try.isAgg3
  z3 := Try.sizeOf3
  v3 := Try.zeroValue3
  t4 := Try.underlying4
  a4 := Try.isAgg4
  z4 := Try.sizeOf4
  v4 := Try.zeroValue4
  t22 := Try.underlying30
  a22 := Try.isAgg30
  z22 := Try.sizeOf30
  v22 := Try.zeroValue30
  i3 := by kernel_rfl }
open Go.RowKit Go.Lib Go.Sort in
/-- slices.Compact at []int, over an array: the library's two loops are walked. (LAID: no walk: one application.) -/
theorem Try.slices_Compact_int_arr (blk off cap : Nat) (d : Array Int) (w : World) (hH : Holds encI w blk off d) (hsz : d.size ≤ 9223372036854775807) (hcap : d.size ≤ cap) :
    Calls Try.prog 75 #[.slice (some ⟨blk, off, none⟩) d.size cap] w fun e w' => e = .returned (.slice (some ⟨blk, off, none⟩) (compactUpTo d d.size).length cap) ∧ ∃ q, w' = putRow encI (Sort.ahead w q) blk off (compactUpTo d d.size ++ List.replicate (d.size - (compactUpTo d d.size).length) 0).toArray := Any.slices_Compact_int_arr Try.laysNm220 blk off cap d w hH hsz hcap
open Go.RowKit Go.Lib Go.Sort in
/-- slices.Compact at []int: "Compact replaces consecutive runs of equal elements with a single copy. This is like the uniq command found on Unix. Compact modifies the contents of the slice s and returns the modified slice, which may have a smaller length. Compact zeroes the elements between the new length and the original length. The result preserves the nilness of s.": IT RETURNS THE SLICE CUT TO 'Lib.compact zs'; ITS CELLS HOLD 'Lib.compact zs', THEN ZERO VALUES up to the old length; all else is as it was, but for the count of draws. IN THE WORDS OF slices.Sort's CONTRACT ('Holds', 'putRow'): so the everyday 'slices.Sort(xs); xs = slices.Compact(xs)' goes from the one contract to the other. It asks 'zs.length ≤ cap' (every slice's: the reslicing 's[:k]' looks at it). Length 0, nil: '.._empty'. (LAID: no walk: one application.) -/
theorem Try.slices_Compact_int (blk off cap : Nat) (zs : List Int) (w : World) (hH : Holds (Value.int .i64) w blk off zs.toArray) (hsz : zs.length ≤ 9223372036854775807) (hcap : zs.length ≤ cap) :
    Calls Try.prog 75 #[.slice (some ⟨blk, off, none⟩) zs.length cap] w fun e w' => e = .returned (.slice (some ⟨blk, off, none⟩) (Lib.compact zs).length cap) ∧ ∃ q, w' = putRow (Value.int .i64) (Sort.ahead w q) blk off (Lib.compact zs ++ List.replicate (zs.length - (Lib.compact zs).length) 0).toArray := Any.slices_Compact_int Try.laysNm220 blk off cap zs w hH hsz hcap
open Go.RowKit Go.Lib Go.Sort in
/-- The same at a slice of length 0, a nil one too: it comes back as it is. (LAID: no walk: one application.) -/
theorem Try.slices_Compact_int_empty (a : Option Addr) (cap : Nat) (w : World) :
    Calls Try.prog 75 #[.slice a 0 cap] w fun e w' => e = .returned (.slice a 0 cap) ∧ w' = w := Any.slices_Compact_int_empty Try.laysNm220 a cap w
def Try.laysNm237_ren : Go.Shelf.Ren := ⟨fun | 37 => 139 | n => n, fun | 3 => 3 | 4 => 4 | n => n, fun | n => n⟩
theorem Try.laysNm237 : Go.Proofs.Lays2.n37 Try.prog Try.laysNm237_ren := {
  mixed := by kernel_rfl
  f37 := Try.func139.trans (congrArg some (by kernel_rfl))
  t3 := Try.underlying3
  a3 := Try.isAgg3
  z3 := Try.sizeOf3
  v3 := Try.zeroValue3
  t4 := Try.underlying4
  a4 := Try.isAgg4
  z4 := Try.sizeOf4
  v4 := Try.zeroValue4 }
open Go.RowKit Go.Lib in
/-- cmp.isNaN[int]: 'x != x': false. (LAID: no walk: one application.) -/
theorem Try.cmp_isNaN_int2 (x : Int) (w : World) :
    Calls Try.prog 139 #[.int .i64 x] w fun e w' => e = .returned (.bool false) ∧ w' = w := Any.cmp_isNaN_int2 Try.laysNm237 x w
def Try.laysNm231_ren : Go.Shelf.Ren := ⟨fun | 31 => 120 | 37 => 139 | n => n, fun | 3 => 3 | 4 => 4 | n => n, fun | n => n⟩
theorem Try.laysNm231 : Go.Proofs.Lays2.n31 Try.prog Try.laysNm231_ren := {
  mixed := by kernel_rfl
  f31 := Try.func120.trans (congrArg some (by kernel_rfl))
  f37 := Try.func139.trans (congrArg some (by kernel_rfl))
  t3 := Try.underlying3
  a3 := Try.isAgg3
  z3 := Try.sizeOf3
  v3 := Try.zeroValue3
  t4 := Try.underlying4
  a4 := Try.isAgg4
  z4 := Try.sizeOf4
  v4 := Try.zeroValue4 }
open Go.RowKit Go.Lib in
/-- cmp.Less[int]: "Less reports whether x is less than y.": 'x < y'; the world is as it was. (LAID: no walk: one application.) -/
theorem Try.cmp_Less_int2 (x y : Int) (w : World) :
    Calls Try.prog 120 #[.int .i64 x, .int .i64 y] w fun e w' => e = .returned (.bool (decide (x < y))) ∧ w' = w := Any.cmp_Less_int2 Try.laysNm231 x y w
open Go.RowKit Go.Lib Go.Sort in
/-- slices.Compact at []int, of an argument: the slice cut to 'Lib.compact (elements)'; the n cells hold that, then zeros. (LAID: no walk: one application.) -/
theorem Try.slices_Compact_int_cells (b off n c : Nat) (zs : List Int) (w : World) (hz : n ≤ zs.length) (hbig : n ≤ 9223372036854775807) (hcap : n ≤ c) (hc : ∀ j, j < zs.length → w.cell? ⟨b, off + j, none⟩ = some (.int .i64 (zs.getD j 0))) (hf : ∀ j, j < n → w.frozen? ⟨b, off + j, none⟩ = false) :
    Calls Try.prog 75 #[.slice (some ⟨b, off, none⟩) n c] w fun e w' => e = .returned (.slice (some ⟨b, off, none⟩) (Lib.compact (zs.take n)).length c) ∧ ∃ q, w' = (w.drewN q).setCells b off ((Lib.compact (zs.take n) ++ List.replicate (n - (Lib.compact (zs.take n)).length) 0).map (Value.int .i64)) := Any.slices_Compact_int_cells Try.laysNm220 b off n c zs w hz hbig hcap hc hf
open Go.RowKit Go.Sort in
/-- .. and plain. (LAID: no walk: one application.) -/
theorem Try.slices_Sort_int_none (p : Option Addr) (cap : Nat) (w : World) :
    Calls Try.prog 74 #[.slice p 0 cap] w fun e w' => e = .returned (.tuple #[]) ∧ w' = w := Any.slices_Sort_int_none Try.lays189 p cap w
end Go.Proofs

/- A row of one's own, cut short: what 's[:m]' leaves is a row of one's own. -/
namespace Go.Proofs.Ytallglnmeeahiaa
set_option linter.unusedVariables false
set_option linter.unusedSimpArgs false
open Go.ChangeShapes Go.WideShapes Go.ChangeAt Go.RowKit

theorem ownsRow_take {W : World} {base k n m g cap : Nat} {e : TypeId} {cs : List Value} (h : W.ownsRow base e k (.slice (some ⟨g, 0, none⟩) n cap) n cs) (hm : m ≤ n) : W.ownsRow base e k (.slice (some ⟨g, 0, none⟩) m cap) m (cs.take (m * k)) := by
  obtain ⟨hl, hs⟩ := h
  have hmk : m * k ≤ n * k := Nat.mul_le_mul_right k hm
  refine ⟨by rw [List.length_take, hl]; omega, ?_⟩
  rcases hs with ⟨h1, _⟩ | ⟨g', cap', cur, hv, hg, hh, hnc, hcm, hsz, htk⟩
  · cases h1
  · simp only [Value.slice.injEq, Option.some.injEq, Addr.mk.injEq, and_true, true_and] at hv
    obtain ⟨rfl, rfl⟩ := hv
    refine .inr ⟨g, cap, cur, rfl, hg, hh, by omega, hcm, hsz, ?_⟩
    rw [← htk, List.take_take]
    congr 1
    omega
end Go.Proofs.Ytallglnmeeahiaa

/- Plain: numbers in ascending order, each once. -/
namespace Go.Proofs.Ytallglnmeeahiaa
set_option linter.unusedVariables false
set_option linter.unusedSimpArgs false
open Go.Lib
def ascL (xs : List Int) : List Int := Lib.compact (xs.mergeSort fun x y => decide (x ≤ y))
theorem get_bang {zs : List Int} {j : Nat} (h : j < zs.length) : zs.toArray[j]! = zs[j] := by
  rw [getElem!_pos _ j (by simpa using h)]; simp
theorem asc_aux {zs : List Int} (hs : zs.Pairwise (· ≤ ·)) : ∀ m, m ≤ zs.length → (compactUpTo zs.toArray m).Pairwise (· < ·) ∧ ∀ x, x ∈ compactUpTo zs.toArray m ↔ ∃ j, ∃ h : j < zs.length, j < m ∧ zs[j] = x := by
  intro m
  induction m with
  | zero => intro _; simp [compactUpTo]
  | succ m ih =>
    intro hm
    obtain ⟨ih1, ih2⟩ := ih (by omega)
    have hml : m < zs.length := by omega
    rw [compactUpTo_succ]
    have hbd : ∀ x ∈ compactUpTo zs.toArray m, x ≤ zs[m] ∧ (0 < m → x ≤ zs[m - 1]) := fun x hx => by
      obtain ⟨j, hj, hjm, rfl⟩ := (ih2 x).1 hx
      refine ⟨List.pairwise_iff_getElem.1 hs j m hj hml hjm, fun h0 => ?_⟩
      rcases Nat.lt_or_ge j (m - 1) with h | h
      · exact List.pairwise_iff_getElem.1 hs j (m - 1) hj (by omega) h
      · have : j = m - 1 := by omega
        subst this
        exact Int.le_refl _
    by_cases hk : keeps zs.toArray m = true
    · rw [if_pos hk, get_bang hml]
      refine ⟨List.pairwise_append.2 ⟨ih1, by simp, fun x hx y hy => ?_⟩, fun x => ?_⟩
      · rw [List.mem_singleton] at hy
        subst hy
        rcases Nat.eq_zero_or_pos m with h0 | h0
        · subst h0
          simp [compactUpTo] at hx
        · have h1 := (hbd x hx).2 h0
          have h2 : zs[m - 1] ≤ zs[m] := List.pairwise_iff_getElem.1 hs (m - 1) m (by omega) hml (by omega)
          have h3 : zs[m] ≠ zs[m - 1] := by
            simp only [keeps, decide_eq_true_eq] at hk
            rcases hk with h | h
            · omega
            · rwa [get_bang hml, get_bang (show m - 1 < zs.length by omega)] at h
          have h4 : zs[m - 1] ≠ zs[m] := fun e => h3 e.symm
          omega
      · rw [List.mem_append, List.mem_singleton, ih2]
        constructor
        · rintro (⟨j, hj, hjm, rfl⟩ | rfl)
          · exact ⟨j, hj, by omega, rfl⟩
          · exact ⟨m, hml, by omega, rfl⟩
        · rintro ⟨j, hj, hjm, rfl⟩
          rcases Nat.lt_or_ge j m with h | h
          · exact .inl ⟨j, hj, h, rfl⟩
          · obtain rfl : j = m := by omega
            exact .inr rfl
    · rw [if_neg hk, List.append_nil]
      refine ⟨ih1, fun x => ?_⟩
      rw [ih2]
      have h0 : 0 < m ∧ zs[m] = zs[m - 1] := by
        simp only [keeps, decide_eq_true_eq, not_or] at hk
        refine ⟨by omega, ?_⟩
        have := hk.2
        rw [get_bang hml, get_bang (show m - 1 < zs.length by omega)] at this
        exact Classical.not_not.1 this
      constructor
      · rintro ⟨j, hj, hjm, rfl⟩
        exact ⟨j, hj, by omega, rfl⟩
      · rintro ⟨j, hj, hjm, rfl⟩
        rcases Nat.lt_or_ge j m with h | h
        · exact ⟨j, hj, h, rfl⟩
        · obtain rfl : j = m := by omega
          exact ⟨j - 1, by omega, by omega, h0.2.symm⟩
theorem ascL_spec (xs : List Int) : (ascL xs).Pairwise (· < ·) ∧ ∀ x, x ∈ ascL xs ↔ x ∈ xs := by
  have hs : (xs.mergeSort fun x y => decide (x ≤ y)).Pairwise (· ≤ ·) := by
    have h := List.pairwise_mergeSort (le := fun x y : Int => decide (x ≤ y)) (fun a b c h1 h2 => by simp only [decide_eq_true_eq] at *; omega) (fun a b => by simp only [Bool.or_eq_true, decide_eq_true_eq]; omega) xs
    exact h.imp (fun h => by simpa using h)
  obtain ⟨h1, h2⟩ := asc_aux hs _ (Nat.le_refl _)
  refine ⟨h1, fun x => ?_⟩
  have h3 := h2 x
  unfold ascL compact
  rw [h3, ← List.mem_mergeSort (le := fun x y : Int => decide (x ≤ y)), List.mem_iff_getElem]
  constructor
  · rintro ⟨j, hj, _, e⟩; exact ⟨j, hj, e⟩
  · rintro ⟨j, hj, e⟩; exact ⟨j, hj, hj, e⟩
theorem asc_uniq : ∀ {l r : List Int}, l.Pairwise (· < ·) → r.Pairwise (· < ·) → (∀ x, x ∈ l ↔ x ∈ r) → l = r
  | [], [], _, _, _ => rfl
  | [], y :: r, _, _, h => absurd ((h y).2 (by simp)) (by simp)
  | x :: l, [], _, _, h => absurd ((h x).1 (by simp)) (by simp)
  | x :: l, y :: r, h1, h2, h => by
    obtain ⟨a1, a2⟩ := List.pairwise_cons.1 h1
    obtain ⟨b1, b2⟩ := List.pairwise_cons.1 h2
    have hxy : x = y := by
      have e1 := (h x).1 (by simp)
      have e2 := (h y).2 (by simp)
      rcases List.mem_cons.1 e1 with e1 | e1
      · exact e1
      · rcases List.mem_cons.1 e2 with e2 | e2
        · exact e2.symm
        · have := b1 x e1
          have := a1 y e2
          omega
    subst hxy
    rw [asc_uniq a2 b2 fun z => ?_]
    have hz := h z
    simp only [List.mem_cons] at hz
    constructor
    · intro hm
      rcases hz.1 (.inr hm) with e | e
      · have := a1 z hm; omega
      · exact e
    · intro hm
      rcases hz.2 (.inr hm) with e | e
      · have := b1 z hm; omega
      · exact e
/-- the members of a set, as numbers -/
def memI (n m : Nat) : List Int := (mem n m).map fun (t : Nat) => (t : Int)
theorem memI_asc (n m : Nat) : (memI n m).Pairwise (· < ·) := by
  unfold memI mem
  rw [List.pairwise_map]
  refine (List.Pairwise.filter _ (List.pairwise_lt_range)).imp fun h => by omega
theorem mem_memI {n m : Nat} {x : Int} : x ∈ memI n m ↔ ∃ t : Nat, x = (t : Int) ∧ t < n ∧ m.testBit t = true := by
  unfold memI
  rw [List.mem_map]
  constructor
  · rintro ⟨t, ht, rfl⟩; exact ⟨t, rfl, mem_mem.1 ht⟩
  · rintro ⟨t, rfl, h⟩; exact ⟨t, mem_mem.2 h, rfl⟩
end Go.Proofs.Ytallglnmeeahiaa

/- Plain: breadth first search finds the least number of steps to a goal. -/
namespace Go.Proofs.Ytallglnmeeahiaa
set_option linter.unusedVariables false
set_option linter.unusedSimpArgs false

/-- a goal is n steps away from i -/
def toG (next : Nat → List Nat) (goal : Nat → Prop) : Nat → Nat → Prop
  | 0, i => goal i
  | n + 1, i => ∃ k ∈ next i, toG next goal n k
def IsDist (next : Nat → List Nat) (goal : Nat → Prop) (i : Nat) (d : Int) : Prop :=
  (d = -1 ∧ ∀ n, ¬ toG next goal n i) ∨ (0 ≤ d ∧ toG next goal d.toNat i ∧ ∀ m : Nat, m < d.toNat → ¬ toG next goal m i)
theorem IsDist.uniq {next : Nat → List Nat} {goal : Nat → Prop} {i : Nat} {d e : Int} (h : IsDist next goal i d) (k : IsDist next goal i e) : d = e := by
  rcases h with ⟨rfl, h⟩ | ⟨h0, h1, h2⟩
  · rcases k with ⟨rfl, _⟩ | ⟨_, k1, _⟩
    · rfl
    · exact absurd k1 (h _)
  · rcases k with ⟨rfl, k⟩ | ⟨k0, k1, k2⟩
    · exact absurd h1 (k _)
    · rcases Nat.lt_trichotomy d.toNat e.toNat with hlt | heq | hgt
      · exact absurd h1 (k2 _ hlt)
      · omega
      · exact absurd k1 (h2 _ hgt)

section
variable {prev next : Nat → List Nat} {goal : Nat → Prop} {N : Nat} {D : List Int} {q : List Nat}
structure BO (prev next : Nat → List Nat) (goal : Nat → Prop) (N : Nat) (D : List Int) (q : List Nat) : Prop where
  len : D.length = N
  sound : ∀ i, i < N → 0 ≤ D.getD i 0 → toG next goal (D.getD i 0).toNat i
  src : ∀ i, i < N → goal i → D.getD i 0 = 0
  done : ∀ k, k < N → 0 ≤ D.getD k 0 → k ∉ q → ∀ i ∈ prev k, 0 ≤ D.getD i 0 ∧ D.getD i 0 ≤ D.getD k 0 + 1
  top : ∀ h r, q = h :: r → ∀ i, i < N → D.getD i 0 ≤ D.getD h 0 + 1
  sorted : q.Pairwise (fun a b => D.getD a 0 ≤ D.getD b 0)
  qN : ∀ x ∈ q, x < N ∧ 0 ≤ D.getD x 0
  low : ∀ i, i < N → -1 ≤ D.getD i 0
structure BI (prev next : Nat → List Nat) (goal : Nat → Prop) (N : Nat) (D : List Int) (q : List Nat) (h : Nat) (l : List Nat) : Prop where
  len : D.length = N
  hN : h < N
  hD : 0 ≤ D.getD h 0
  sound : ∀ i, i < N → 0 ≤ D.getD i 0 → toG next goal (D.getD i 0).toNat i
  src : ∀ i, i < N → goal i → D.getD i 0 = 0
  done : ∀ k, k < N → 0 ≤ D.getD k 0 → k ∉ q → k ≠ h → ∀ i ∈ prev k, 0 ≤ D.getD i 0 ∧ D.getD i 0 ≤ D.getD k 0 + 1
  here : ∀ i ∈ prev h, i ∈ l ∨ (0 ≤ D.getD i 0 ∧ D.getD i 0 ≤ D.getD h 0 + 1)
  top : ∀ i, i < N → D.getD i 0 ≤ D.getD h 0 + 1
  qs : ∀ x ∈ q, D.getD h 0 ≤ D.getD x 0
  sorted : q.Pairwise (fun a b => D.getD a 0 ≤ D.getD b 0)
  qN : ∀ x ∈ q, x < N ∧ 0 ≤ D.getD x 0
  low : ∀ i, i < N → -1 ≤ D.getD i 0

theorem BO.enter {h : Nat} (b : BO prev next goal N D (h :: q)) : BI prev next goal N D q h (prev h) :=
  ⟨b.len, (b.qN h (by simp)).1, (b.qN h (by simp)).2, b.sound, b.src, fun k hk h0 hq hh => b.done k hk h0 (by simp [hq, hh]), fun i hi => .inl hi, b.top h q rfl,
    fun x hx => (List.pairwise_cons.1 b.sorted).1 x hx, (List.pairwise_cons.1 b.sorted).2, fun x hx => b.qN x (List.mem_cons_of_mem _ hx), b.low⟩
theorem BI.leave {h : Nat} (b : BI prev next goal N D q h []) : BO prev next goal N D q := by
  refine ⟨b.len, b.sound, b.src, fun k hk h0 hq => ?_, fun x r hx i hi => ?_, b.sorted, b.qN, b.low⟩
  · by_cases hkh : k = h
    · subst hkh
      intro i hi
      rcases b.here i hi with h | h
      · simp at h
      · exact h
    · exact b.done k hk h0 hq hkh
  · have h1 := b.top i hi
    have h2 := b.qs x (by rw [hx]; simp)
    omega
theorem BI.old {h k : Nat} {l : List Nat} (b : BI prev next goal N D q h (k :: l)) (hk : k < N) (h0 : ¬ D.getD k 0 < 0) : BI prev next goal N D q h l := by
  refine ⟨b.len, b.hN, b.hD, b.sound, b.src, b.done, fun i hi => ?_, b.top, b.qs, b.sorted, b.qN, b.low⟩
  rcases b.here i hi with h1 | h1
  · rcases List.mem_cons.1 h1 with rfl | h1
    · exact .inr ⟨by omega, b.top _ hk⟩
    · exact .inl h1
  · exact .inr h1
theorem BI.new {h k : Nat} {l : List Nat} (hpn : ∀ i k, i < N → k < N → i ∈ prev k → k ∈ next i) (hpN : ∀ i k, k < N → i ∈ prev k → i < N) (b : BI prev next goal N D q h (k :: l)) (hkp : k ∈ prev h) (h0 : D.getD k 0 < 0) :
    BI prev next goal N (D.set k (D.getD h 0 + 1)) (q ++ [k]) h l := by
  have hk : k < N := hpN k h b.hN hkp
  have hkl : k < D.length := by rw [b.len]; exact hk
  have hD := b.hD
  have hkh : k ≠ h := by intro e; subst e; omega
  have hh : (D.set k (D.getD h 0 + 1)).getD h 0 = D.getD h 0 := by rw [getD_set' hkl, if_neg (Ne.symm hkh)]
  have hset : ∀ x, x ≠ k → (D.set k (D.getD h 0 + 1)).getD x 0 = D.getD x 0 := fun x hx => by rw [getD_set' hkl, if_neg hx]
  have hsk : (D.set k (D.getD h 0 + 1)).getD k 0 = D.getD h 0 + 1 := by rw [getD_set' hkl, if_pos rfl]
  have hkq : ∀ x ∈ q, x ≠ k := fun x hx e => by subst e; have := (b.qN x hx).2; omega
  refine ⟨by rw [List.length_set]; exact b.len, b.hN, by rw [hh]; exact hD, fun i hi h1 => ?_, fun i hi hg => ?_, fun x hx h1 hxq hxh i hi => ?_, fun i hi => ?_, fun i hi => ?_, fun x hx => ?_, ?_, fun x hx => ?_, fun i hi => ?_⟩
  · by_cases e : i = k
    · subst e
      rw [hsk]
      have h2 := b.sound h b.hN hD
      rw [show (D.getD h 0 + 1).toNat = (D.getD h 0).toNat + 1 by omega]
      exact ⟨h, hpn i h hi b.hN hkp, h2⟩
    · rw [hset i e] at h1 ⊢
      exact b.sound i hi h1
  · have e : i ≠ k := by
      intro e; subst e
      have := b.src i hi hg
      omega
    rw [hset i e]
    exact b.src i hi hg
  · have e : x ≠ k := by intro e; subst e; simp at hxq
    rw [hset x e] at h1 ⊢
    have h2 := b.done x hx h1 (fun h => hxq (by simp [h])) hxh i hi
    have e2 : i ≠ k := by intro e2; subst e2; omega
    rw [hset i e2]
    exact h2
  · rw [hh]
    by_cases e : i = k
    · subst e
      refine .inr ?_
      rw [hsk]
      omega
    · rw [hset i e]
      rcases b.here i hi with h1 | h1
      · rcases List.mem_cons.1 h1 with h1 | h1
        · exact absurd h1 e
        · exact .inl h1
      · exact .inr h1
  · rw [hh]
    by_cases e : i = k
    · subst e; rw [hsk]; omega
    · rw [hset i e]; exact b.top i hi
  · rw [hh]
    rcases List.mem_append.1 hx with hx | hx
    · rw [hset x (hkq x hx)]; exact b.qs x hx
    · have : x = k := by simpa using hx
      subst this
      rw [hsk]; omega
  · rw [List.pairwise_append]
    refine ⟨?_, by simp, fun x hx y hy => ?_⟩
    · refine List.Pairwise.imp_of_mem (fun {x y} hx hy hxy => ?_) b.sorted
      rw [hset x (hkq x hx), hset y (hkq y hy)]
      exact hxy
    · have : y = k := by simpa using hy
      subst this
      rw [hset x (hkq x hx), hsk]
      exact b.top x (b.qN x hx).1
  · rcases List.mem_append.1 hx with hx | hx
    · rw [hset x (hkq x hx)]; exact b.qN x hx
    · have : x = k := by simpa using hx
      subst this
      rw [hsk]
      exact ⟨hk, by omega⟩
  · by_cases e : i = k
    · subst e; rw [hsk]; omega
    · rw [hset i e]; exact b.low i hi

theorem BI.all (hpn : ∀ i k, i < N → k < N → i ∈ prev k → k ∈ next i) (hpN : ∀ i k, k < N → i ∈ prev k → i < N) {h : Nat} : ∀ (l : List Nat) (D : List Int) (q : List Nat) (d : Int), d = D.getD h 0 + 1 → BI prev next goal N D q h l → (∀ k ∈ l, k ∈ prev h) →
    BO prev next goal N (relax d l D q).1 (relax d l D q).2 ∧ (relax d l D q).2.length + negs (relax d l D q).1 = q.length + negs D
  | [], _, _, _, _, b, _ => ⟨b.leave, rfl⟩
  | k :: l, D, q, d, hd, b, hl => by
    have hk : k < N := hpN k h b.hN (hl k (by simp))
    rw [relax]
    by_cases h0 : D.getD k 0 < 0
    · rw [if_pos h0]
      have hkl : k < D.length := by rw [b.len]; exact hk
      have hkh : k ≠ h := by intro e; subst e; have := b.hD; omega
      have h1 := BI.new hpn hpN b (hl k (by simp)) h0
      rw [← hd] at h1
      have := BI.all hpn hpN l (D.set k d) (q ++ [k]) d (by rw [getD_set' hkl, if_neg (Ne.symm hkh)]; exact hd) h1 (fun x hx => hl x (List.mem_cons_of_mem _ hx))
      refine ⟨this.1, this.2.trans ?_⟩
      have h3 := negs_set hkl h0 (d := d) (by have := b.hD; omega)
      rw [List.length_append, List.length_singleton]
      omega
    · rw [if_neg h0]
      exact BI.all hpn hpN l D q d hd (b.old hk h0) (fun x hx => hl x (List.mem_cons_of_mem _ hx))

theorem BO.fin (hnN : ∀ i k, i < N → k ∈ next i → k < N) (hnp : ∀ i k, i < N → k < N → k ∈ next i → i ∈ prev k) (b : BO prev next goal N D []) : ∀ i, i < N → IsDist next goal i (D.getD i 0) := by
  have hall : ∀ (n i : Nat), i < N → toG next goal n i → 0 ≤ D.getD i 0 ∧ D.getD i 0 ≤ n := by
    intro n
    induction n with
    | zero =>
      intro i hi h
      rw [b.src i hi h]
      omega
    | succ n ih =>
      rintro i hi ⟨k, hk, h⟩
      have hkN := hnN i k hi hk
      have h1 := ih k hkN h
      have h2 := b.done k hkN h1.1 (by simp) i (hnp i k hi hkN hk)
      omega
  intro i hi
  by_cases h0 : 0 ≤ D.getD i 0
  · exact .inr ⟨h0, b.sound i hi h0, fun m hm h => by have := hall m i hi h; omega⟩
  · refine .inl ⟨by have := b.low i hi; omega, fun n h => h0 (hall n i hi h).1⟩

theorem bfs_dist (hpn : ∀ i k, i < N → k < N → i ∈ prev k → k ∈ next i) (hpN : ∀ i k, k < N → i ∈ prev k → i < N) (hnN : ∀ i k, i < N → k ∈ next i → k < N) (hnp : ∀ i k, i < N → k < N → k ∈ next i → i ∈ prev k) :
    ∀ (f : Nat) (D : List Int) (q : List Nat), BO prev next goal N D q → q.length + negs D ≤ f → ∀ i, i < N → IsDist next goal i ((bfs prev f D q).getD i 0) := by
  intro f
  induction f with
  | zero =>
    intro D q b hf
    have : q = [] := List.eq_nil_of_length_eq_zero (by omega)
    subst this
    exact b.fin hnN hnp
  | succ f ih =>
    intro D q b hf
    cases q with
    | nil => exact b.fin hnN hnp
    | cons h q =>
      rw [bfs]
      have := BI.all hpn hpN (prev h) D q _ rfl b.enter (fun _ h => h)
      exact ih _ _ this.1 (by rw [this.2]; rw [List.length_cons] at hf; omega)

/-! ### The same by sweeps -/
/-- after the sweeps up to d: the distances up to d are known -/
def SwO (next : Nat → List Nat) (goal : Nat → Prop) (N : Nat) (D : List Int) (d : Nat) : Prop :=
  D.length = N ∧ ∀ i, i < N → (D.getD i 0 = -1 ∧ ∀ m, m ≤ d → ¬ toG next goal m i) ∨ (0 ≤ D.getD i 0 ∧ D.getD i 0 ≤ d ∧ IsDist next goal i (D.getD i 0))
/-- within the sweep for d + 1: the vertices below j are done -/
def SwI (next : Nat → List Nat) (goal : Nat → Prop) (N : Nat) (D : List Int) (d j : Nat) (ch : Bool) : Prop :=
  D.length = N ∧ (∀ i, i < N → (D.getD i 0 = -1 ∧ (∀ m, m ≤ d → ¬ toG next goal m i) ∧ (i < j → ¬ toG next goal (d + 1) i)) ∨ (0 ≤ D.getD i 0 ∧ D.getD i 0 ≤ (d : Int) + 1 ∧ IsDist next goal i (D.getD i 0))) ∧
    (ch = false → ∀ i, i < N → D.getD i 0 ≤ d)
theorem SwO.enter {d : Nat} (h : SwO next goal N D d) : SwI next goal N D d 0 false := by
  refine ⟨h.1, fun i hi => ?_, fun _ i hi => ?_⟩
  · rcases h.2 i hi with h1 | h1
    · exact .inl ⟨h1.1, h1.2, fun h => by omega⟩
    · exact .inr ⟨h1.1, by omega, h1.2.2⟩
  · rcases h.2 i hi with h1 | h1 <;> omega
theorem SwI.leave {d : Nat} {ch : Bool} (h : SwI next goal N D d N ch) : SwO next goal N D (d + 1) := by
  refine ⟨h.1, fun i hi => ?_⟩
  rcases h.2.1 i hi with h1 | h1
  · refine .inl ⟨h1.1, fun m hm => ?_⟩
    by_cases e : m = d + 1
    · subst e; exact h1.2.2 hi
    · exact h1.2.1 m (by omega)
  · exact .inr ⟨h1.1, by omega, h1.2.2⟩
theorem SwI.stop (hnN : ∀ i k, i < N → k ∈ next i → k < N) {d : Nat} (h : SwI next goal N D d N false) : ∀ i, i < N → IsDist next goal i (D.getD i 0) := by
  have hno : ∀ i, i < N → toG next goal (d + 1) i → ∃ m, m ≤ d ∧ toG next goal m i := by
    intro i hi ht
    rcases h.2.1 i hi with h1 | h1
    · exact absurd ht (h1.2.2 hi)
    · have h2 := h.2.2 rfl i hi
      rcases h1.2.2 with h3 | h3
      · omega
      · exact ⟨_, by omega, h3.2.1⟩
  have hall : ∀ (n i : Nat), i < N → toG next goal n i → ∃ m, m ≤ d ∧ toG next goal m i := by
    intro n
    induction n with
    | zero => intro i _ h; exact ⟨0, Nat.zero_le _, h⟩
    | succ n ih =>
      rintro i hi ⟨k, hk, ht⟩
      obtain ⟨m, hm, h2⟩ := ih k (hnN i k hi hk) ht
      by_cases e : m = d
      · subst e
        exact hno i hi ⟨k, hk, h2⟩
      · exact ⟨m + 1, by omega, k, hk, h2⟩
  intro i hi
  rcases h.2.1 i hi with h1 | h1
  · refine .inl ⟨h1.1, fun n hn => ?_⟩
    obtain ⟨m, hm, h2⟩ := hall n i hi hn
    exact h1.2.1 m hm h2
  · exact h1.2.2
/-- vertex j is known already, or none of its next ones is at distance d -/
theorem SwI.skip {d j : Nat} {ch : Bool} (h : SwI next goal N D d j ch) (hs : ¬ D.getD j 0 < 0 ∨ ∀ k ∈ next j, D.getD k 0 ≠ d) (hnN : ∀ i k, i < N → k ∈ next i → k < N) : SwI next goal N D d (j + 1) ch := by
  refine ⟨h.1, fun i hi => ?_, h.2.2⟩
  rcases h.2.1 i hi with h1 | h1
  · refine .inl ⟨h1.1, h1.2.1, fun hij => ?_⟩
    by_cases e : i = j
    · subst e
      rcases hs with hs | hs
      · omega
      · rintro ⟨k, hk, ht⟩
        have hkN := hnN i k hi hk
        rcases h.2.1 k hkN with h2 | h2
        · exact h2.2.1 d (Nat.le_refl _) ht
        · rcases h2.2.2 with h3 | h3
          · omega
          · have h4 : ¬ d < (D.getD k 0).toNat := fun hlt => h3.2.2 d hlt ht
            have h5 := hs k hk
            refine h1.2.1 ((D.getD k 0).toNat + 1) (by omega) ⟨k, hk, h3.2.1⟩
    · exact h1.2.2 (by omega)
  · exact .inr h1
theorem SwI.put {d j k : Nat} {ch : Bool} (h : SwI next goal N D d j ch) (hj : j < N) (h0 : D.getD j 0 < 0) (hk : k ∈ next j) (hkd : D.getD k 0 = d) (hnN : ∀ i k, i < N → k ∈ next i → k < N) : SwI next goal N (D.set j ((d : Int) + 1)) d (j + 1) true := by
  have hjl : j < D.length := by rw [h.1]; exact hj
  have hkN := hnN j k hj hk
  refine ⟨by rw [List.length_set]; exact h.1, fun i hi => ?_, fun h => by cases h⟩
  by_cases e : i = j
  · subst e
    rw [getD_set' hjl, if_pos rfl]
    rcases h.2.1 i hi with h1 | h1
    · refine .inr ⟨by omega, by omega, .inr ⟨by omega, ?_, fun m hm => h1.2.1 m (by omega)⟩⟩
      rcases h.2.1 k hkN with h2 | h2
      · omega
      · rcases h2.2.2 with h3 | h3
        · omega
        · have h4 := h3.2.1
          rw [hkd] at h4
          rw [show ((d : Int) + 1).toNat = d + 1 by omega]
          exact ⟨k, hk, by simpa using h4⟩
    · omega
  · rw [getD_set' hjl, if_neg e]
    rcases h.2.1 i hi with h1 | h1
    · exact .inl ⟨h1.1, h1.2.1, fun hij => h1.2.2 (by omega)⟩
    · exact .inr h1
end

/-- the lists turned round -/
def turnL (N : Nat) (next : Nat → List Nat) (k : Nat) : List Nat := (List.range N).flatMap fun i => (next i).filterMap fun x => if x = k then some i else none
theorem mem_turnL {N : Nat} {next : Nat → List Nat} {i k : Nat} : i ∈ turnL N next k ↔ i < N ∧ k ∈ next i := by
  unfold turnL
  simp only [List.mem_flatMap, List.mem_range, List.mem_filterMap]
  constructor
  · rintro ⟨j, hj, x, hx, he⟩
    by_cases h : x = k
    · rw [if_pos h] at he
      injection he with he
      subst h he
      exact ⟨hj, hx⟩
    · rw [if_neg h] at he; cases he
  · rintro ⟨hi, hk⟩
    exact ⟨i, hi, k, hk, by simp⟩
end Go.Proofs.Ytallglnmeeahiaa

/- Plain: breadth first search from some vertices. -/
namespace Go.Proofs.Ytallglnmeeahiaa
set_option linter.unusedVariables false
set_option linter.unusedSimpArgs false

def srcD (N : Nat) (fs : List Nat) : List Int := fs.foldl (fun D i => D.set i 0) (List.replicate N (-1))
theorem srcD_len (N : Nat) (fs : List Nat) : (srcD N fs).length = N := by
  have h : ∀ (fs : List Nat) (D : List Int), (fs.foldl (fun D i => D.set i 0) D).length = D.length := by
    intro fs
    induction fs with
    | nil => intro D; rfl
    | cons x fs ih => intro D; rw [List.foldl_cons, ih, List.length_set]
  rw [srcD, h, List.length_replicate]
theorem srcD_at {N : Nat} {fs : List Nat} {i : Nat} (hi : i < N) : (srcD N fs).getD i 0 = if i ∈ fs then 0 else -1 := by
  have h : ∀ (fs : List Nat) (D : List Int), i < D.length → (fs.foldl (fun D i => D.set i 0) D).getD i 0 = if i ∈ fs then 0 else D.getD i 0 := by
    intro fs
    induction fs with
    | nil => intro D _; simp
    | cons x fs ih =>
      intro D hD
      rw [List.foldl_cons, ih _ (by rw [List.length_set]; exact hD)]
      by_cases h1 : i ∈ fs
      · simp [h1]
      · rw [if_neg h1]
        by_cases h2 : i = x
        · subst h2
          rw [getD_set' hD, if_pos rfl]; simp
        · have hx : (D.set x 0).getD i 0 = D.getD i 0 := by
            simp only [List.getD, List.getElem?_set]
            rw [if_neg (fun e => h2 e.symm)]
          rw [hx, if_neg (by simp [h1, h2])]
  rw [srcD, h fs _ (by simpa using hi)]
  simp [List.getD, List.getElem?_replicate, hi]
theorem srcD_snoc (N : Nat) (fs : List Nat) (x : Nat) : srcD N (fs ++ [x]) = (srcD N fs).set x 0 := by simp [srcD, List.foldl_append]
theorem srcD_out {N : Nat} {fs : List Nat} {i : Nat} (hi : ¬ i < N) : (srcD N fs).getD i 0 = 0 := by
  simp only [List.getD]
  rw [List.getElem?_eq_none (by rw [srcD_len]; omega)]
  rfl
theorem negs_le (D : List Int) : negs D ≤ D.length := List.countP_le_length
theorem srcD_bfsI {N : Nat} {fs : List Nat} (hfs : ∀ i ∈ fs, i < N) : BfsI N (fs.length + N) (fs.length + N) (srcD N fs) fs := by
  have hv : ∀ i, (srcD N fs).getD i 0 = 0 ∨ (srcD N fs).getD i 0 = -1 := by
    intro i
    by_cases hi : i < N
    · rw [srcD_at hi]
      split
      · exact .inl rfl
      · exact .inr rfl
    · exact .inl (srcD_out hi)
  refine ⟨srcD_len N fs, fun h hh => ⟨hfs h hh, ?_⟩, ?_, fun h => ?_, fun h => ?_, Nat.le_refl _⟩
  · rw [srcD_at (hfs h hh), if_pos hh]; omega
  · have := negs_le (srcD N fs)
    rw [srcD_len] at this
    omega
  · rcases hv h with h1 | h1 <;> rw [h1] <;> omega
  · rcases hv h with h1 | h1 <;> rw [h1] <;> omega
def spreadR (N : Nat) (next : Nat → List Nat) (fs : List Nat) : List Int := bfs next (fs.length + N) (srcD N fs) fs
theorem spreadR_len (N : Nat) (next : Nat → List Nat) (fs : List Nat) : (spreadR N next fs).length = N := by rw [spreadR, bfs_len, srcD_len]

/-- from the goals, the rows turned round: the least number of steps to a goal -/
theorem spread_dist {N : Nat} {next : Nat → List Nat} {fs : List Nat} (hfs : ∀ i ∈ fs, i < N) (hn : ∀ i k, i < N → k ∈ next i → k < N) (i : Nat) (hi : i < N) :
    IsDist next (fun i => i ∈ fs) i ((spreadR N (turnL N next) fs).getD i 0) := by
  refine bfs_dist (prev := turnL N next) (fun i k _ _ h => (mem_turnL.1 h).2) (fun i k _ h => (mem_turnL.1 h).1) hn (fun i k hi _ h => mem_turnL.2 ⟨hi, h⟩) _ _ _ ?_ (srcD_bfsI hfs).fuel i hi
  refine ⟨srcD_len N fs, fun i hi h0 => ?_, fun i hi hg => ?_, fun k hk h0 hq => ?_, fun h r hq i hi => ?_, ?_, (srcD_bfsI hfs).queue, fun i hi => (srcD_bfsI hfs).low i⟩
  · rw [srcD_at hi] at h0 ⊢
    by_cases h : i ∈ fs
    · rw [if_pos h]; exact h
    · rw [if_neg h] at h0; omega
  · rw [srcD_at hi, if_pos hg]
  · rw [srcD_at hk, if_neg hq] at h0; omega
  · have hm : h ∈ fs := by rw [hq]; simp
    have e1 := srcD_at (fs := fs) (hfs h hm)
    rw [if_pos hm] at e1
    rw [srcD_at hi, e1]
    split <;> omega
  · have : ∀ l : List Nat, (∀ x ∈ l, x ∈ fs) → l.Pairwise (fun a b => (srcD N fs).getD a 0 ≤ (srcD N fs).getD b 0) := by
      intro l
      induction l with
      | nil => intro _; simp
      | cons x l ih =>
        intro hl
        refine List.pairwise_cons.2 ⟨fun y hy => ?_, ih fun z hz => hl z (List.mem_cons_of_mem _ hz)⟩
        have h1 := hl x (by simp)
        have h2 := hl y (List.mem_cons_of_mem _ hy)
        rw [srcD_at (hfs x h1), srcD_at (hfs y h2), if_pos h1, if_pos h2]
        omega
    exact this fs (fun _ h => h)
theorem relax_mid (d : Int) (k : Nat) (l : List Nat) (D : List Int) (q : List Nat) (h : D.getD k 0 < 0) : relax d (k :: l) D q = relax d l (D.set k d) (q ++ [k]) := by rw [relax, if_pos h]
theorem relax_old (d : Int) (k : Nat) (l : List Nat) (D : List Int) (q : List Nat) (h : ¬ D.getD k 0 < 0) : relax d (k :: l) D q = relax d l D q := by rw [relax, if_neg h]
end Go.Proofs.Ytallglnmeeahiaa

/- Plain: the rows of vertices behind each vertex, filled vertex by vertex; the rows turned round. -/
namespace Go.Proofs.Ytallglnmeeahiaa
set_option linter.unusedVariables false
set_option linter.unusedSimpArgs false

/-- rows below i are whole, row i holds cur, the others are empty -/
def fillTo (N : Nat) (next : Nat → List Nat) (i : Nat) (cur : List Nat) : List (List Nat) := (List.range N).map fun m => if m < i then next m else if m = i then cur else []
theorem fill_at {N i m : Nat} {next : Nat → List Nat} {cur : List Nat} (h : m < N) : (fillTo N next i cur)[m]? = some (if m < i then next m else if m = i then cur else []) := by simp [fillTo, h]
theorem fill_cur {N i : Nat} {next : Nat → List Nat} {cur : List Nat} (h : i < N) : (fillTo N next i cur)[i]? = some cur := by rw [fill_at h, if_neg (by omega), if_pos rfl]
theorem fill_len (N i : Nat) (next : Nat → List Nat) (cur : List Nat) : (fillTo N next i cur).length = N := by simp [fillTo]
theorem fill_zero (N : Nat) (next : Nat → List Nat) : fillTo N next 0 [] = List.replicate N [] := by
  apply List.ext_getElem?
  intro x
  by_cases h : x < N
  · rw [fill_at h, List.getElem?_replicate, if_pos h]; simp
  · rw [List.getElem?_eq_none (by rw [fill_len]; omega), List.getElem?_eq_none (by rw [List.length_replicate]; omega)]
theorem fill_push {N i : Nat} {next : Nat → List Nat} {cur : List Nat} (v : List Nat) (h : i < N) : (fillTo N next i cur).set i v = fillTo N next i v := by
  apply List.ext_getElem?
  intro x
  rw [List.getElem?_set, fill_len]
  by_cases hx : x < N
  · by_cases e : i = x
    · subst e
      rw [if_pos rfl, if_pos h, fill_cur h]
    · rw [if_neg e, fill_at hx, fill_at hx]
      have : ¬ x = i := fun h => e h.symm
      simp [this]
  · rw [List.getElem?_eq_none (l := fillTo N next i v) (by rw [fill_len]; omega)]
    rw [if_neg (by omega), List.getElem?_eq_none (by rw [fill_len]; omega)]
theorem fill_next {N i : Nat} {next : Nat → List Nat} : fillTo N next i (next i) = fillTo N next (i + 1) [] := by
  unfold fillTo
  apply List.map_congr_left
  intro m _
  by_cases h1 : m < i
  · rw [if_pos h1, if_pos (by omega)]
  · by_cases h2 : m = i
    · subst h2
      rw [if_neg h1, if_pos rfl, if_pos (by omega)]
    · rw [if_neg h1, if_neg h2, if_neg (by omega)]
      split <;> rfl
theorem fill_all (N : Nat) (next : Nat → List Nat) : fillTo N next N [] = (List.range N).map next := by
  unfold fillTo
  apply List.map_congr_left
  intro m hm
  rw [if_pos (List.mem_range.1 hm)]
theorem nextI_at {g : Gr} {a : Au} {x s : Nat} (hs : s < a.accept.length) : nextI g a (x * a.accept.length + s) = nextV g a x s := by
  unfold nextI
  rw [Nat.add_comm, Nat.add_mul_div_right _ _ (by omega), Nat.div_eq_of_lt hs, Nat.add_mul_mod_self_right, Nat.mod_eq_of_lt hs, Nat.zero_add]
theorem vert_lt {n m x s : Nat} (hx : x < m) (hs : s < n) : x * n + s < m * n := by
  have := Nat.mul_le_mul_right n (show x + 1 ≤ m by omega)
  rw [Nat.succ_mul] at this
  omega

/-- the rows turned round, by the first i rows and j entries of row i -/
def turnTo (N : Nat) (next : Nat → List Nat) (i : Nat) (cur : List Nat) : List (List Nat) := (List.range N).map fun k => ((List.range i).flatMap fun m => (next m).filterMap fun x => if x = k then some m else none) ++ cur.filterMap fun x => if x = k then some i else none
theorem turn_at {N i k : Nat} {next : Nat → List Nat} {cur : List Nat} (h : k < N) : (turnTo N next i cur)[k]? = some (((List.range i).flatMap fun m => (next m).filterMap fun x => if x = k then some m else none) ++ cur.filterMap fun x => if x = k then some i else none) := by simp [turnTo, h]
theorem turn_len (N i : Nat) (next : Nat → List Nat) (cur : List Nat) : (turnTo N next i cur).length = N := by simp [turnTo]
theorem turn_zero (N : Nat) (next : Nat → List Nat) : turnTo N next 0 [] = List.replicate N [] := by
  apply List.ext_getElem?
  intro x
  by_cases h : x < N
  · rw [turn_at h, List.getElem?_replicate, if_pos h]; simp
  · rw [List.getElem?_eq_none (by rw [turn_len]; omega), List.getElem?_eq_none (by rw [List.length_replicate]; omega)]
theorem turn_push {N i k : Nat} {next : Nat → List Nat} {cur row : List Nat} (h : k < N) (hr : (turnTo N next i cur)[k]? = some row) : (turnTo N next i cur).set k (row ++ [i]) = turnTo N next i (cur ++ [k]) := by
  apply List.ext_getElem?
  intro x
  rw [List.getElem?_set, turn_len]
  by_cases hx : x < N
  · by_cases e : k = x
    · subst e
      rw [turn_at h] at hr
      injection hr with hr
      rw [if_pos rfl, if_pos h, turn_at h, ← hr, List.filterMap_append]
      simp
    · rw [if_neg e, turn_at hx, turn_at hx, List.filterMap_append]
      simp [e]
  · rw [List.getElem?_eq_none (l := turnTo N next i (cur ++ [k])) (by rw [turn_len]; omega)]
    rw [if_neg (by omega), List.getElem?_eq_none (by rw [turn_len]; omega)]
theorem turn_next {N i : Nat} {next : Nat → List Nat} : turnTo N next i (next i) = turnTo N next (i + 1) [] := by
  unfold turnTo
  apply List.map_congr_left
  intro k _
  rw [List.range_succ, List.flatMap_append]
  simp
theorem turn_all (N : Nat) (next : Nat → List Nat) : turnTo N next N [] = (List.range N).map (turnL N next) := by
  unfold turnTo turnL
  apply List.map_congr_left
  intro k _
  simp
end Go.Proofs.Ytallglnmeeahiaa

/- Plain: the vertices of a node that accept. -/
namespace Go.Proofs.Ytallglnmeeahiaa
set_option linter.unusedVariables false
set_option linter.unusedSimpArgs false
def goalsTo (g : Gr) (a : Au) (y i : Nat) : List Nat := ((List.range i).filter (accC a (valAt g y))).map fun s => y * a.accept.length + s
def goalsL (g : Gr) (a : Au) (y : Nat) : List Nat := goalsTo g a y a.accept.length
theorem goalsTo_yes {g : Gr} {a : Au} {y i : Nat} (h : accC a (valAt g y) i = true) : goalsTo g a y (i + 1) = goalsTo g a y i ++ [y * a.accept.length + i] := by
  unfold goalsTo
  rw [List.range_succ, List.filter_append, List.map_append]
  simp [h]
theorem goalsTo_no {g : Gr} {a : Au} {y i : Nat} (h : accC a (valAt g y) i = false) : goalsTo g a y (i + 1) = goalsTo g a y i := by
  unfold goalsTo
  rw [List.range_succ, List.filter_append, List.map_append]
  simp [h]
theorem goalsTo_len (g : Gr) (a : Au) (y i : Nat) : (goalsTo g a y i).length ≤ i := by
  unfold goalsTo
  rw [List.length_map]
  have := List.length_filter_le (accC a (valAt g y)) (List.range i)
  rw [List.length_range] at this
  exact this
theorem mem_goalsL {g : Gr} {a : Au} {y v : Nat} : v ∈ goalsL g a y ↔ ∃ s, s < a.accept.length ∧ accC a (valAt g y) s = true ∧ v = y * a.accept.length + s := by
  unfold goalsL goalsTo
  simp only [List.mem_map, List.mem_filter, List.mem_range]
  constructor
  · rintro ⟨s, ⟨h1, h2⟩, rfl⟩; exact ⟨s, h1, h2, rfl⟩
  · rintro ⟨s, h1, h2, rfl⟩; exact ⟨s, ⟨h1, h2⟩, rfl⟩
end Go.Proofs.Ytallglnmeeahiaa

/- Plain: the distances to a node, and the shortest length. -/
namespace Go.Proofs.Ytallglnmeeahiaa
set_option linter.unusedVariables false
set_option linter.unusedSimpArgs false
def distTo (g : Gr) (a : Au) (y : Int) : List Int :=
  if (wi y 0 ((g.vals.length : Int) - 1) && (grOk g && auOk a)) = true then spreadR (g.vals.length * a.accept.length) (turnL (g.vals.length * a.accept.length) (nextI g a)) (goalsL g a y.toNat) else []
def shortLen (g : Gr) (a : Au) (x y : Int) : Int :=
  if (wi x 0 ((g.vals.length : Int) - 1) && (wi y 0 ((g.vals.length : Int) - 1) && (grOk g && auOk a))) = true then (distTo g a y).getD (x.toNat * a.accept.length + a.start.toNat) 0 else -1
theorem distTo_len {g : Gr} {a : Au} {y : Int} (h : (wi y 0 ((g.vals.length : Int) - 1) && (grOk g && auOk a)) = true) : (distTo g a y).length = g.vals.length * a.accept.length := by rw [distTo, if_pos h, spreadR_len]
end Go.Proofs.Ytallglnmeeahiaa

/- Plain: the distances to a node by sweeps, as the reference finds them. -/
namespace Go.Proofs.Ytallglnmeeahiaa
set_option linter.unusedVariables false
set_option linter.unusedSimpArgs false
/-- the first list -/
def ini (g : Gr) (a : Au) (y z : Nat) : Int := if (z / a.accept.length == y && accC a (valAt g y) (z % a.accept.length)) = true then 0 else -1
def iniL (g : Gr) (a : Au) (y k : Nat) : List Int := (List.range k).map (ini g a y)
theorem iniL_len (g : Gr) (a : Au) (y k : Nat) : (iniL g a y k).length = k := by simp [iniL]
theorem iniL_snoc (g : Gr) (a : Au) (y k : Nat) : iniL g a y (k + 1) = iniL g a y k ++ [ini g a y k] := by simp [iniL, List.range_succ]
theorem iniL_at {g : Gr} {a : Au} {y k i : Nat} (h : i < k) : (iniL g a y k).getD i 0 = ini g a y i := by simp [iniL, List.getD, h]
theorem ini_goal {g : Gr} {a : Au} {y z : Nat} (hn : 0 < a.accept.length) : (z / a.accept.length == y && accC a (valAt g y) (z % a.accept.length)) = true ↔ z ∈ goalsL g a y := by
  rw [mem_goalsL, Bool.and_eq_true, beq_iff_eq]
  constructor
  · rintro ⟨rfl, h⟩
    exact ⟨z % a.accept.length, Nat.mod_lt _ hn, h, by rw [Nat.mul_comm]; exact (Nat.div_add_mod z _).symm⟩
  · rintro ⟨s, hs, hc, rfl⟩
    have h1 : (y * a.accept.length + s) / a.accept.length = y := by rw [Nat.mul_comm, Nat.mul_add_div hn, Nat.div_eq_of_lt hs]; rfl
    have h2 : (y * a.accept.length + s) % a.accept.length = s := by rw [Nat.mul_comm, Nat.mul_add_mod, Nat.mod_eq_of_lt hs]
    rw [h1, h2]
    exact ⟨rfl, hc⟩
theorem ini_SwO {g : Gr} {a : Au} {y N : Nat} (hn : 0 < a.accept.length) (next : Nat → List Nat) : SwO next (fun i => i ∈ goalsL g a y) N (iniL g a y N) 0 := by
  refine ⟨iniL_len .., fun i hi => ?_⟩
  rw [iniL_at hi, ini]
  by_cases h : (i / a.accept.length == y && accC a (valAt g y) (i % a.accept.length)) = true
  · rw [if_pos h]
    exact .inr ⟨Int.le_refl _, Int.le_refl _, .inr ⟨Int.le_refl _, (ini_goal hn).1 h, fun m hm => absurd hm (by simp)⟩⟩
  · rw [if_neg h]
    refine .inl ⟨rfl, fun m hm => ?_⟩
    obtain rfl : m = 0 := by omega
    exact fun hg => h ((ini_goal hn).2 hg)
/-- what the sweeps find is what the search found -/
theorem sweep_eq {g : Gr} {a : Au} {y : Nat} (hg : grOk g = true) (ha : auOk a = true) (hy : y < g.vals.length) {D : List Int} (hl : D.length = g.vals.length * a.accept.length)
    (h : ∀ i, i < g.vals.length * a.accept.length → IsDist (nextI g a) (fun i => i ∈ goalsL g a y) i (D.getD i 0)) : D = distTo g a (y : Int) := by
  have hd : (wi (y : Int) 0 ((g.vals.length : Int) - 1) && (grOk g && auOk a)) = true := by
    simp only [Bool.and_eq_true]
    exact ⟨by rw [wi_iff]; omega, hg, ha⟩
  have hN : ∀ i k, i < g.vals.length * a.accept.length → k ∈ nextI g a i → k < g.vals.length * a.accept.length := fun i k _ hk => nextV_lt (grOk_iff.1 hg) ha hk
  have hfs : ∀ i ∈ goalsL g a y, i < g.vals.length * a.accept.length := fun i hi => by
    obtain ⟨s, hs, _, rfl⟩ := mem_goalsL.1 hi
    calc y * a.accept.length + s < y * a.accept.length + a.accept.length := by omega
      _ = (y + 1) * a.accept.length := by rw [Nat.add_mul, Nat.one_mul]
      _ ≤ _ := Nat.mul_le_mul_right _ hy
  rw [distTo, if_pos hd, Int.toNat_natCast]
  refine List.ext_getElem (by rw [hl, spreadR_len]) fun i h1 h2 => ?_
  have hi : i < g.vals.length * a.accept.length := by omega
  have e := (h i hi).uniq (spread_dist hfs hN i hi)
  simpa [List.getD, h1, h2] using e
/-! ### The sweeps' rounds -/
section
variable {next : Nat → List Nat} {goal : Nat → Prop} {N : Nat} {D D0 : List Int} {e i k : Nat} {ch ch0 : Bool}
/-- within a sweep, at vertex i, with k of its next ones looked at -/
def KI (next : Nat → List Nat) (D0 : List Int) (ch0 : Bool) (e i k : Nat) (D : List Int) (ch : Bool) : Prop :=
  (D = D0 ∧ ch = ch0 ∧ ∀ v ∈ (next i).take k, D0.getD v 0 ≠ (e : Int)) ∨ (D = D0.set i ((e : Int) + 1) ∧ ch = true ∧ D0.getD i 0 < 0 ∧ ∃ v ∈ next i, D0.getD v 0 = (e : Int))
def CI (e N : Nat) (D : List Int) (ch : Bool) : Prop := e + negs D ≤ N ∧ (ch = true → e + negs D + 1 ≤ N)
/-- after sweeps -/
def SW (next : Nat → List Nat) (goal : Nat → Prop) (N e : Nat) (D : List Int) (ch : Bool) : Prop :=
  D.length = N ∧ (ch = true → SwO next goal N D e ∧ e + negs D ≤ N) ∧ (ch = false → ∀ i, i < N → IsDist next goal i (D.getD i 0))
theorem KI.start : KI next D0 ch0 e i 0 D0 ch0 := .inl ⟨rfl, rfl, by simp⟩
theorem KI.len (h : KI next D0 ch0 e i k D ch) : D.length = D0.length := by
  rcases h with ⟨rfl, _⟩ | ⟨rfl, _⟩ <;> simp
theorem KI.neg (h : KI next D0 ch0 e i k D ch) (hi : i < D0.length) (hn : D.getD i 0 < 0) : D = D0 ∧ ch = ch0 ∧ ∀ v ∈ (next i).take k, D0.getD v 0 ≠ (e : Int) := by
  rcases h with h | ⟨rfl, _⟩
  · exact h
  · rw [getD_set' hi, if_pos rfl] at hn
    omega
theorem KI.miss (h : KI next D0 ch0 e i k D ch) (hi : i < D0.length) (hn : D.getD i 0 < 0) {v : Nat} (hv : (next i)[k]? = some v) (hd : ¬ D.getD v 0 = (e : Int)) : KI next D0 ch0 e i (k + 1) D ch := by
  obtain ⟨rfl, rfl, h3⟩ := h.neg hi hn
  refine .inl ⟨rfl, rfl, fun x hx => ?_⟩
  rw [take_snoc hv, List.mem_append, List.mem_singleton] at hx
  rcases hx with hx | rfl
  · exact h3 x hx
  · exact hd
theorem KI.hit (h : KI next D0 ch0 e i k D ch) (hi : i < D0.length) (hn : D.getD i 0 < 0) {v : Nat} (hv : (next i)[k]? = some v) (hd : D.getD v 0 = (e : Int)) : KI next D0 ch0 e i (k + 1) (D.set i ((e : Int) + 1)) true := by
  obtain ⟨rfl, rfl, h3⟩ := h.neg hi hn
  exact .inr ⟨rfl, rfl, hn, v, List.mem_of_getElem? hv, hd⟩
theorem KI.fin (h : KI next D0 ch0 e i k D ch) (hs : SwI next goal N D0 e i ch0) (hi : i < N) (hk : (next i).length ≤ k ∨ ¬ D.getD i 0 < 0) (hnN : ∀ i k, i < N → k ∈ next i → k < N) : SwI next goal N D e (i + 1) ch := by
  rcases h with ⟨rfl, rfl, h3⟩ | ⟨rfl, rfl, h3, v, hv, hd⟩
  · refine hs.skip ?_ hnN
    rcases hk with hk | hk
    · exact .inr fun v hv => h3 v (by rw [List.take_of_length_le hk]; exact hv)
    · exact .inl hk
  · exact hs.put hi h3 hv hd hnN
theorem KI.cnt (h : KI next D0 ch0 e i k D ch) (hc : CI e N D0 ch0) (hi : i < D0.length) : CI e N D ch := by
  rcases h with ⟨rfl, rfl, _⟩ | ⟨rfl, rfl, h3, _⟩
  · exact hc
  · have h1 := negs_set (k := i) (d := (e : Int) + 1) hi h3 (by omega)
    have h2 := hc.1
    exact ⟨by omega, fun _ => by omega⟩
theorem SW.enter (h : SW next goal N e D true) : SwI next goal N D e 0 false ∧ CI e N D false := ⟨(h.2.1 rfl).1.enter, (h.2.1 rfl).2, by simp⟩
theorem SW.leave (h : SwI next goal N D e N ch) (hc : CI e N D ch) (hnN : ∀ i k, i < N → k ∈ next i → k < N) : SW next goal N (e + 1) D ch := by
  refine ⟨h.1, fun ht => ⟨h.leave, ?_⟩, fun hf => ?_⟩
  · have := hc.2 ht; omega
  · subst hf; exact h.stop hnN
theorem SW.ini (h : SwO next goal N D 0) : SW next goal N 0 D true := by
  refine ⟨h.1, fun _ => ⟨h, ?_⟩, by simp⟩
  have := List.countP_le_length (p := fun x : Int => decide (x < 0)) (l := D)
  rw [h.1] at this
  simpa [negs] using this
theorem CI.le (h : CI e N D ch) : e ≤ N := by have := h.1; omega
end
end Go.Proofs.Ytallglnmeeahiaa

/- Plain: the steps of the product from a vertex, as the reference lists them. -/
namespace Go.Proofs.Ytallglnmeeahiaa
set_option linter.unusedVariables false
set_option linter.unusedSimpArgs false
abbrev PS := St × Int × Int
def psA (g : Gr) (a : Au) (x s : Nat) (y : Arc) : List PS := (mem 12 (aft a (bit s) (valAt g x) y.2.1.toNat)).map fun (q : Nat) => (y.1, y.2.2, (q : Int))
def prodSteps (g : Gr) (a : Au) (x s : Nat) : List PS := (arcsOf g (x : Int)).flatMap (psA g a x s)
def psV (n : Nat) (p : PS) : Nat := p.2.1.toNat * n + p.2.2.toNat
theorem psV_next (g : Gr) (a : Au) (x s : Nat) : (prodSteps g a x s).map (psV a.accept.length) = nextV g a x s := by
  unfold prodSteps nextV
  rw [List.map_flatMap]
  congr 1
  funext y
  unfold psA nextA
  rw [List.map_map]
  apply List.map_congr_left
  intro q _
  simp [psV]
theorem psA_len (g : Gr) (a : Au) (x s : Nat) (y : Arc) : (psA g a x s y).length ≤ 12 := by rw [psA, List.length_map]; exact mem_len _ _
theorem prodSteps_len {g : Gr} (hg : GrOk g) (a : Au) (x s : Nat) : (prodSteps g a x s).length ≤ 288 := by
  have h2 := flat_len (psA_len g a x s) (arcsOf g (x : Int))
  have h3 := arcs_len hg (x : Int)
  unfold prodSteps
  omega
theorem prodSteps_range {g : Gr} {a : Au} (hg : GrOk g) (ha : auOk a = true) {x s : Nat} {p : PS} (h : p ∈ prodSteps g a x s) : (0 ≤ p.2.1 ∧ p.2.1 ≤ (g.vals.length : Int) - 1) ∧ 0 ≤ p.2.2 ∧ p.2.2 < (a.accept.length : Int) := by
  obtain ⟨y, hy, hp⟩ := List.mem_flatMap.1 h
  obtain ⟨q, hq, rfl⟩ := List.mem_map.1 hp
  have h1 := (arc_range hg hy).2
  have h2 := aft_lt ha (bit s) (valAt g x) y.2.1.toNat
  rw [mem12 ha h2, mem_mem] at hq
  exact ⟨h1, by simp only; omega, by simp only; omega⟩
def foldTo (a : Au) (l set q : Nat) : Nat := (mem q set).foldl (aft1 a l) 0
theorem foldTo_no {a : Au} {l set q : Nat} (h : set.testBit q = false) : foldTo a l set (q + 1) = foldTo a l set q := by rw [foldTo, mem_no h]; rfl
theorem foldTo_yes {a : Au} {l set q : Nat} (h : set.testBit q = true) : foldTo a l set (q + 1) = aft1 a l (foldTo a l set q) q := by rw [foldTo, mem_yes h, List.foldl_append]; rfl
theorem foldTo_lt {a : Au} (h : auOk a = true) (l set q : Nat) : foldTo a l set q < 2 ^ a.accept.length := foldl_inv (P := fun m => m < 2 ^ a.accept.length) (fun m x hm => aft1_lt h l m x hm) _ _ (Nat.two_pow_pos _)
theorem foldTo_all {a : Au} (h : auOk a = true) {v s l : Nat} (hs : s < a.accept.length) : foldTo a l (cls a v s) a.accept.length = aft a (bit s) v l := by
  rw [aft_one v l (show s < 12 by have := (auOk_iff.1 h).1.2; omega), mem12 h (cls_lt h v s hs)]; rfl
end Go.Proofs.Ytallglnmeeahiaa

