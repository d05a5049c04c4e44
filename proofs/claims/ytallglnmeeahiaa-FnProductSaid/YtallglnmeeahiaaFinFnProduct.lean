/- 'laws.FnProduct' returns true for every list of bytes, without any condition: the steps of the product are steps of the graph that the automaton reads, and the vertices that are reached are exactly those with a distance. -/
import Derived.Test.YtallglnmeeahiaaPartEHONMLDA
import Derived.Test.YtallglnmeeahiaaPartOFPIKNKI
import Derived.Test.YtallglnmeeahiaaPartKAOIFGGM
import Derived.Test.YtallglnmeeahiaaPartBNGDPPFA
import Derived.Test.YtallglnmeeahiaaPartNBHFPOFO
import Derived.Test.YtallglnmeeahiaaPartOCEIFGLH
namespace Go.Proofs.Ytallglnmeeahiaa.fnProduct
set_option linter.unusedVariables false
set_option linter.unusedSimpArgs false
open Go.ChangeShapes Go.WideShapes Go.ChangeAt Go.RowKit
attribute [local go_sem] ext_cell ext_frozen ext_lt ext_lt1 ext_lt2 ext_lt3 ltn2 ltn3 ltn13 lts1 lts2 lts3

/-- the first k states behind the tests: whether one of them goes to t by l -/
def foundTo (a : Au) (c : List Nat) (l : Nat) (t : Int) (k : Nat) : Bool := (c.take k).any (fun q => decide (mv a q l = t))
theorem foundTo_zero (a : Au) (c : List Nat) (l : Nat) (t : Int) : foundTo a c l t 0 = false := rfl
theorem foundTo_succ {a : Au} {c : List Nat} {l : Nat} {t : Int} {k q : Nat} (h : c[k]? = some q) : foundTo a c l t (k + 1) = (foundTo a c l t k || decide (mv a q l = t)) := by
  rw [foundTo, take_snoc h, List.any_append]; simp [foundTo]
theorem foundTo_all {a : Au} {c : List Nat} {l : Nat} {t : Int} (h : ∃ q ∈ c, mv a q l = t) : foundTo a c l t c.length = true := by
  obtain ⟨q, hq, h⟩ := h
  rw [foundTo, List.take_length, List.any_eq_true]
  exact ⟨q, hq, by simpa using h⟩
theorem prod_ok {g : Gr} {a : Au} {x s : Int} {e : PSt} (h : e ∈ prodL g a x s) : (0 ≤ x ∧ x < (g.vals.length : Int)) ∧ grOk g = true ∧ auOk a = true := by
  cases hc : (wi x 0 ((g.vals.length : Int) - 1) && (grOk g && auOk a) && hasSt a s) with
  | false => rw [prodL_no hc] at h; cases h
  | true =>
    simp only [Bool.and_eq_true, wi_iff] at hc
    exact ⟨by omega, hc.1.2⟩
theorem tcl_lt {a : Au} (ha : auOk a = true) {s x : Int} {q : Nat} (h : q ∈ tclL a s x) : q < a.accept.length := by
  rw [tclL] at h
  split at h
  · rename_i hc
    rw [Bool.and_eq_true, hasSt, Bool.and_eq_true, wi_iff, wi_iff] at hc
    obtain ⟨⟨hs, -⟩, hx⟩ := hc
    exact bit_in (cls_lt ha _ _ (by omega)) (mem_mem.1 h).2
  · cases h
theorem hasB_iff {xs : List Int} {x : Int} : hasB xs x = true ↔ x ∈ xs := by simp [hasB]
theorem neqPS (p : PS) (w : World) : (binOp .neq 56 (.agg #[.int .i64 p.1.1, .bool p.1.2, .int .i64 p.2.1, .int .i64 p.2.2]) (.agg #[.int .i64 p.1.1, .bool p.1.2, .int .i64 p.2.1, .int .i64 p.2.2])).run Try.prog w = .ok (.bool false) w := by
  have u3 := Try.underlying3
  have a3 := Try.isAgg3
  have z3 := Try.sizeOf3
  have u5 := Try.isAgg54
  have z5 := Try.sizeOf54
  have hS : Try.prog.underlying 56 = some (.struct (Try.prog.fieldsOf 56)) := by kernel_rfl
  have hp : Try.prog.stoodInHeld 56 = false := by kernel_rfl
  rw [run_neq_struct]
  rw [show (10000 : Nat) = 9999 + 1 from rfl, run_equalIn_agg w 9999 56 _ _ hS hp]
  simp only [Program.fieldsOf, Try.underlying56]
  go_simp
theorem psAll {lo hi : Nat} {w : World} {A : Option Addr} {n c : Nat} {xs : List PS} (h : SlI lo hi w cPS 4 (.slice A n c) xs) {i : Nat} {x : PS} (hx : xs[i]? = some x) :
    ∃ b o, A = some ⟨b, o, none⟩ ∧ lo ≤ b ∧ b < hi ∧ w.cell? ⟨b, o + i * 4, none⟩ = some (.int .i64 x.1.1) ∧ w.cell? ⟨b, o + i * 4 + 1, none⟩ = some (.bool x.1.2) ∧ w.cell? ⟨b, o + i * 4 + 2, none⟩ = some (.int .i64 x.2.1) ∧ w.cell? ⟨b, o + i * 4 + 3, none⟩ = some (.int .i64 x.2.2) := by
  obtain ⟨A', c', hv, _, _, h3⟩ := h
  injection hv with h1 _ _
  subst h1
  obtain ⟨b, o, e, g1, g2, hc⟩ := h3 i x hx
  exact ⟨b, o, e, g1, g2, by simpa using hc 0 _ rfl, hc 1 _ rfl, hc 2 _ rfl, hc 3 _ rfl⟩
theorem guardPS : Try.prog.eqGuardType Try.prog.depth 56 = false := by kernel_rfl
attribute [local go_sem] guardPS
set_option maxRecDepth 100000 in
set_option maxHeartbeats 16000000 in
theorem walk (w : World) (v0 : Value) (bs : List Int) (hv0 : SlI 0 w.heap.size w cU 1 v0 bs) :
    Calls Try.prog 5 #[v0] w fun e w' => e = .returned (.bool true) ∧ Below w.heap.size w w' := by
  have HV := Lib.hid hv0
  obtain ⟨A0, c0, rfl, hl0, hm0, -⟩ := hv0
  by_cases hbig : 1048576 < bs.length
  · go_enter Try.func5, Try.ntmps5
    go_wp2_with fail
    refine (big_yes _ _ _ _ hbig (by omega)).mono ?_
    rintro e w' ⟨rfl, rfl⟩
    go_wp2_with fail
    go_ret
    exact ⟨rfl, Below.refl _ _⟩
  go_enter Try.func5, Try.ntmps5
  go_wp2_with fail
  refine (big_no _ _ _ _ hbig).mono ?_
  rintro e w' ⟨rfl, rfl⟩
  clear hbig hl0 hm0
  go_wp2_with fail
  refine (drawProductSteps_any _ bs _ HV.out).mono ?_
  rintro e w1 ⟨vg, va, g, a, x, s, rfl, hgv, -, hav, hb1⟩
  obtain ⟨A1, n1, c1, A2, n2, c2, rfl⟩ := hgv.shape
  obtain ⟨A3, n3, c3, A4, n4, c4, rfl⟩ := hav.shape
  have hal := ((Below.refl w1.heap.size w1).alloc (Nat.le_refl _) (.cells #[.slice A1 n1 c1, .slice A2 n2 c2] 38)).alloc (by simp) (.cells #[.int .i64 a.start, .slice A3 n3 c3, .slice A4 n4 c4] 27)
  have bg := (Blk.new w1 38 #[.slice A1 n1 c1, .slice A2 n2 c2] _ rfl).alloc (.cells #[.int .i64 a.start, .slice A3 n3 c3, .slice A4 n4 c4] 27)
  have ba := Blk.new (w1.alloc (.cells #[.slice A1 n1 c1, .slice A2 n2 c2] 38)) 27 #[.int .i64 a.start, .slice A3 n3 c3, .slice A4 n4 c4] (w1.heap.size + 1) (by simp)
  have HGV := Lib.hid (hgv.keep hal)
  have HAV := Lib.hid (hav.keep hal)
  have HB := Lib.hid (below_trans hb1 hal)
  clear hal hgv hav hb1
  go_upto_region 4 with fail
  generalize ((w1.alloc (.cells #[.slice A1 n1 c1, .slice A2 n2 c2] 38)).alloc (.cells #[.int .i64 a.start, .slice A3 n3 c3, .slice A4 n4 c4] 27)) = W at *
  have x0 : W.cell? ⟨w1.heap.size, 0, none⟩ = some (.slice A1 n1 c1) := by exact bg.cell 0
  have x1 : W.cell? ⟨w1.heap.size, 1, none⟩ = some (.slice A2 n2 c2) := by exact bg.cell 1
  have y0 : W.cell? ⟨w1.heap.size + 1, 0, none⟩ = some (.int .i64 a.start) := by exact ba.cell 0
  have y1 : W.cell? ⟨w1.heap.size + 1, 1, none⟩ = some (.slice A3 n3 c3) := by exact ba.cell 1
  have y2 : W.cell? ⟨w1.heap.size + 1, 2, none⟩ = some (.slice A4 n4 c4) := by exact ba.cell 2
  clear bg ba
  go_wp2_with fail
  refine (implProductSteps _ _ g a x s _ HGV.out HAV.out).mono ?_
  rintro e w2 ⟨vl, rfl, hol, hb2⟩
  obtain ⟨A5, k5, c5, rfl⟩ := hol.shape
  have HL := Lib.hid ((hol.sl cPS_len).all (Nat.le_refl _))
  have HGV := Lib.hid (HGV.out.keep hb2)
  have HAV := Lib.hid (HAV.out.keep hb2)
  have HB := Lib.hid (below_trans HB.out hb2)
  have x0 := kcell hb2 x0
  have x1 := kcell hb2 x1
  have y0 := kcell hb2 y0
  have y1 := kcell hb2 y1
  have y2 := kcell hb2 y2
  clear hol hb2
  go_wp2_with fail
  refine (specProductSteps _ _ g a x s _ HGV.out HAV.out).mono ?_
  rintro e w3 ⟨vm, rfl, hom, hb3⟩
  obtain ⟨A6, k6, c6, rfl⟩ := hom.shape
  have HM := Lib.hid ((hom.sl cPS_len).all (Nat.le_refl _))
  have HL := Lib.hid (SlE.keep HL.out hb3)
  have HGV := Lib.hid (HGV.out.keep hb3)
  have HAV := Lib.hid (HAV.out.keep hb3)
  have HB := Lib.hid (below_trans HB.out hb3)
  have x0 := kcell hb3 x0
  have x1 := kcell hb3 x1
  have y0 := kcell hb3 y0
  have y1 := kcell hb3 y1
  have y2 := kcell hb3 y2
  clear hom hb3
  obtain ⟨k, hk⟩ : ∃ k, k = (prodL g a x s).length := ⟨_, rfl⟩
  have hk5 : k5 = k := by obtain ⟨A', c', e, h, -⟩ := HL.out; injection e with e1 e2 e3; omega
  have hk6 : k6 = k := by obtain ⟨A', c', e, h, -⟩ := HM.out; injection e with e1 e2 e3; omega
  subst hk5
  subst hk6
  have hk288 : k6 ≤ 288 := by rw [hk]; exact prodL_len g a x s
  have HK := Lib.hid hk
  clear hk
  go_wp2_with fail
  go_loopw [9] (fun ii wr => ∃ i : Nat, i ≤ k6 ∧ ii = .int .i64 (i : Int) ∧ Below w3.heap.size w3 wr) (fun ii _ => k6 - (intOf ii).toNat)
  case atStart => exact ⟨0, Nat.zero_le _, rfl, Below.refl _ _⟩
  case round =>
    obtain ⟨i, hi, rfl, hbr⟩ := hrel
    by_cases hlt : i < k6
    · have hltL : i < (prodL g a x s).length := by rw [← HK.out]; exact hlt
      obtain ⟨E, hE⟩ : ∃ E, E = (prodL g a x s)[i] := ⟨_, rfl⟩
      have hei : (prodL g a x s)[i]? = some E := by rw [hE]; exact List.getElem?_eq_getElem hltL
      have hem : E ∈ prodL g a x s := by rw [hE]; exact List.getElem_mem hltL
      clear hE hltL
      have hpok := prod_ok hem
      obtain ⟨hfr, hto, -, hlet, c, hc, hmc⟩ := prod_mem hem
      have HFA := Lib.hid (foundTo_all (a := a) (l := (stepLetter g E.1).toNat) ⟨c, hc, hmc⟩)
      obtain ⟨b5, o5, rfl, -, hb5, p0, p1, p2, p3⟩ := psAll HL.out hei
      obtain ⟨b6, o6, rfl, -, hb6, q0, q1, q2, q3⟩ := psAll HM.out hei
      have p0 := kcell hbr p0
      have p1 := kcell hbr p1
      have p2 := kcell hbr p2
      have p3 := kcell hbr p3
      have q0 := kcell hbr q0
      have q1 := kcell hbr q1
      have q2 := kcell hbr q2
      have q3 := kcell hbr q3
      have x0 := kcell hbr x0
      have x1 := kcell hbr x1
      have hii : (i : Int) < (k6 : Int) := by omega
      have HFR := Lib.hid (fun W (hW : Below w3.heap.size w3 W) => show Calls Try.prog 26 #[.agg #[.slice A1 n1 c1, .slice A2 n2 c2], .agg #[.int .i64 E.1.1, .bool E.1.2]] W fun en w' => en = .returned (.int .i64 x) ∧ Below W.heap.size W w' by
        have h := implStepFrom _ g E.1 W (HGV.out.keep hW)
        rwa [hfr] at h)
      have HTO := Lib.hid (fun W (hW : Below w3.heap.size w3 W) => show Calls Try.prog 27 #[.agg #[.slice A1 n1 c1, .slice A2 n2 c2], .agg #[.int .i64 E.1.1, .bool E.1.2]] W fun en w' => en = .returned (.int .i64 E.2.1) ∧ Below W.heap.size W w' by
        have h := implStepTo _ g E.1 W (HGV.out.keep hW)
        rwa [hto] at h)
      have HNE := Lib.hid (neqPS E)
      have HBR := Lib.hid hbr
      clear hei hem hfr hto hc hmc hb5 hb6 hbr
      go_wp2_with fail
      refine F_start 34 (fun w' => w'.cell? ⟨w1.heap.size, 0, none⟩ = some (.slice A1 n1 c1) ∧ w'.cell? ⟨w1.heap.size, 1, none⟩ = some (.slice A2 n2 c2) ∧ w'.cell? ⟨b5, o5 + i * 4, none⟩ = some (.int .i64 E.1.1) ∧ w'.cell? ⟨b5, o5 + i * 4 + 1, none⟩ = some (.bool E.1.2) ∧ w'.cell? ⟨b5, o5 + i * 4 + 2, none⟩ = some (.int .i64 E.2.1) ∧ w'.cell? ⟨b5, o5 + i * 4 + 3, none⟩ = some (.int .i64 E.2.2) ∧ w'.cell? ⟨b6, o6 + i * 4, none⟩ = some (.int .i64 E.1.1) ∧ w'.cell? ⟨b6, o6 + i * 4 + 1, none⟩ = some (.bool E.1.2) ∧ w'.cell? ⟨b6, o6 + i * 4 + 2, none⟩ = some (.int .i64 E.2.1) ∧ w'.cell? ⟨b6, o6 + i * 4 + 3, none⟩ = some (.int .i64 E.2.2)) (by kernel_rfl) (by exact ⟨x0, x1, p0, p1, p2, p3, q0, q1, q2, q3⟩) (fun hS inv => ?_)
      refine F_take (i := 0) (v := ?_) rfl (by kernel_rfl) (by kernel_rfl) (by kernel_rfl) (fun _ _ _ h => h) inv (Or.inl ⟨by rfl, ?_⟩) (by assumption) (fun invn => ?_)
      rotate_left
      · (intro w hSw; (try dsimp only at hSw); go_simp; try with_reducible rfl)
      try simp only [List.getElem_toArray, List.getElem_cons_zero, List.getElem_cons_succ, Act.put, List.setIfInBounds_toArray, List.set_cons_zero, List.set_cons_succ]
      clear inv
      have inv := invn
      clear invn
      refine F_take (i := 1) (v := ?_) rfl (by kernel_rfl) (by kernel_rfl) (by kernel_rfl) (fun _ _ _ h => h) inv (Or.inl ⟨by rfl, ?_⟩) (by assumption) (fun invn => ?_)
      rotate_left
      · (intro w hSw; (try dsimp only at hSw); go_simp; try with_reducible rfl)
      try simp only [List.getElem_toArray, List.getElem_cons_zero, List.getElem_cons_succ, Act.put, List.setIfInBounds_toArray, List.set_cons_zero, List.set_cons_succ]
      clear inv
      have inv := invn
      clear invn
      refine F_take (i := 2) (v := ?_) rfl (by kernel_rfl) (by kernel_rfl) (by kernel_rfl) (fun _ _ _ h => h) inv (Or.inl ⟨by rfl, ?_⟩) (by assumption) (fun invn => ?_)
      rotate_left
      · (intro w hSw; (try dsimp only at hSw); go_simp; try with_reducible rfl)
      try simp only [List.getElem_toArray, List.getElem_cons_zero, List.getElem_cons_succ, Act.put, List.setIfInBounds_toArray, List.set_cons_zero, List.set_cons_succ]
      clear inv
      have inv := invn
      clear invn
      refine F_take (i := 3) (v := ?_) rfl (by kernel_rfl) (by kernel_rfl) (by kernel_rfl) (fun _ _ _ h => h) inv (Or.inl ⟨by rfl, ?_⟩) (by assumption) (fun invn => ?_)
      rotate_left
      · (intro w hSw; (try dsimp only at hSw); go_simp; try with_reducible rfl)
      try simp only [List.getElem_toArray, List.getElem_cons_zero, List.getElem_cons_succ, Act.put, List.setIfInBounds_toArray, List.set_cons_zero, List.set_cons_succ]
      clear inv
      have inv := invn
      clear invn
      refine F_take (i := 4) (v := ?_) rfl (by kernel_rfl) (by kernel_rfl) (by kernel_rfl) (fun _ _ _ h => h) inv (Or.inl ⟨by rfl, ?_⟩) (by assumption) (fun invn => ?_)
      rotate_left
      · (intro w hSw; (try dsimp only at hSw); go_simp; try with_reducible rfl)
      try simp only [List.getElem_toArray, List.getElem_cons_zero, List.getElem_cons_succ, Act.put, List.setIfInBounds_toArray, List.set_cons_zero, List.set_cons_succ]
      clear inv
      have inv := invn
      clear invn
      refine F_take (i := 5) (v := ?_) rfl (by kernel_rfl) (by kernel_rfl) (by kernel_rfl) (fun _ _ _ h => h) inv (Or.inl ⟨by rfl, ?_⟩) (by assumption) (fun invn => ?_)
      rotate_left
      · (intro w hSw; (try dsimp only at hSw); go_simp; try with_reducible rfl)
      try simp only [List.getElem_toArray, List.getElem_cons_zero, List.getElem_cons_succ, Act.put, List.setIfInBounds_toArray, List.set_cons_zero, List.set_cons_succ]
      clear inv
      have inv := invn
      clear invn
      refine F_take (i := 6) (v := ?_) rfl (by kernel_rfl) (by kernel_rfl) (by kernel_rfl) (fun _ _ _ h => h) inv (Or.inl ⟨by rfl, ?_⟩) (by assumption) (fun invn => ?_)
      rotate_left
      · (intro w hSw; (try dsimp only at hSw); go_simp; try with_reducible rfl)
      try simp only [List.getElem_toArray, List.getElem_cons_zero, List.getElem_cons_succ, Act.put, List.setIfInBounds_toArray, List.set_cons_zero, List.set_cons_succ]
      clear inv
      have inv := invn
      clear invn
      refine F_take (i := 7) (v := ?_) rfl (by kernel_rfl) (by kernel_rfl) (by kernel_rfl) (fun _ _ _ h => h) inv (Or.inl ⟨by rfl, ?_⟩) (by assumption) (fun invn => ?_)
      rotate_left
      · (intro w hSw; (try dsimp only at hSw); go_simp; try with_reducible rfl)
      try simp only [List.getElem_toArray, List.getElem_cons_zero, List.getElem_cons_succ, Act.put, List.setIfInBounds_toArray, List.set_cons_zero, List.set_cons_succ]
      clear inv
      have inv := invn
      clear invn
      have hne := HNE.out
      refine F_take (i := 8) (v := ?_) rfl (by kernel_rfl) (by kernel_rfl) (by kernel_rfl) (fun _ _ _ h => h) inv (Or.inl ⟨by rfl, ?_⟩) (by assumption) (fun invn => ?_)
      rotate_left
      · (intro w hSw; (try dsimp only at hSw); go_simp; try with_reducible rfl)
      try simp only [List.getElem_toArray, List.getElem_cons_zero, List.getElem_cons_succ, Act.put, List.setIfInBounds_toArray, List.set_cons_zero, List.set_cons_succ]
      clear inv
      have inv := invn
      clear invn
      refine F_take (i := 9) (v := ?_) rfl (by kernel_rfl) (by kernel_rfl) (by kernel_rfl) (fun _ _ _ h => h) inv (Or.inl ⟨by rfl, ?_⟩) (by assumption) (fun invn => ?_)
      rotate_left
      · (intro w hSw; (try dsimp only at hSw); go_simp; try with_reducible rfl)
      try simp only [List.getElem_toArray, List.getElem_cons_zero, List.getElem_cons_succ, Act.put, List.setIfInBounds_toArray, List.set_cons_zero, List.set_cons_succ]
      clear inv
      have inv := invn
      clear invn
      refine F_take (i := 10) (v := ?_) rfl (by kernel_rfl) (by kernel_rfl) (by kernel_rfl) (fun _ _ _ h => h) inv (Or.inl ⟨by rfl, ?_⟩) (by assumption) (fun invn => ?_)
      rotate_left
      · (intro w hSw; (try dsimp only at hSw); go_simp; try with_reducible rfl)
      try simp only [List.getElem_toArray, List.getElem_cons_zero, List.getElem_cons_succ, Act.put, List.setIfInBounds_toArray, List.set_cons_zero, List.set_cons_succ]
      clear inv
      have inv := invn
      clear invn
      refine F_take (i := 11) (v := ?_) rfl (by kernel_rfl) (by kernel_rfl) (by kernel_rfl) (fun _ _ _ h => h) inv (Or.inl ⟨by rfl, ?_⟩) (by assumption) (fun invn => ?_)
      rotate_left
      · (intro w hSw; (try dsimp only at hSw); go_simp; try with_reducible rfl)
      try simp only [List.getElem_toArray, List.getElem_cons_zero, List.getElem_cons_succ, Act.put, List.setIfInBounds_toArray, List.set_cons_zero, List.set_cons_succ]
      clear inv
      have inv := invn
      clear invn
      refine F_take (i := 12) (v := ?_) rfl (by kernel_rfl) (by kernel_rfl) (by kernel_rfl) (fun _ _ _ h => h) inv (Or.inl ⟨by rfl, ?_⟩) (by assumption) (fun invn => ?_)
      rotate_left
      · (intro w hSw; (try dsimp only at hSw); go_simp; try with_reducible rfl)
      try simp only [List.getElem_toArray, List.getElem_cons_zero, List.getElem_cons_succ, Act.put, List.setIfInBounds_toArray, List.set_cons_zero, List.set_cons_succ]
      clear inv
      have inv := invn
      clear invn
      refine F_take (i := 13) (v := ?_) rfl (by kernel_rfl) (by kernel_rfl) (by kernel_rfl) (fun _ _ _ h => h) inv (Or.inl ⟨by rfl, ?_⟩) (by assumption) (fun invn => ?_)
      rotate_left
      · (intro w hSw; (try dsimp only at hSw); go_simp; try with_reducible rfl)
      try simp only [List.getElem_toArray, List.getElem_cons_zero, List.getElem_cons_succ, Act.put, List.setIfInBounds_toArray, List.set_cons_zero, List.set_cons_succ]
      clear inv
      have inv := invn
      clear invn
      refine F_take (i := 14) (v := ?_) rfl (by kernel_rfl) (by kernel_rfl) (by kernel_rfl) (fun _ _ _ h => h) inv (Or.inl ⟨by rfl, ?_⟩) (by assumption) (fun invn => ?_)
      rotate_left
      · (intro w hSw; (try dsimp only at hSw); go_simp; try with_reducible rfl)
      try simp only [List.getElem_toArray, List.getElem_cons_zero, List.getElem_cons_succ, Act.put, List.setIfInBounds_toArray, List.set_cons_zero, List.set_cons_succ]
      clear inv
      have inv := invn
      clear invn
      refine F_take (i := 15) (v := ?_) rfl (by kernel_rfl) (by kernel_rfl) (by kernel_rfl) (fun _ _ _ h => h) inv (Or.inl ⟨by rfl, ?_⟩) (by assumption) (fun invn => ?_)
      rotate_left
      · (intro w hSw; (try dsimp only at hSw); go_simp; try with_reducible rfl)
      try simp only [List.getElem_toArray, List.getElem_cons_zero, List.getElem_cons_succ, Act.put, List.setIfInBounds_toArray, List.set_cons_zero, List.set_cons_succ]
      clear inv
      have inv := invn
      clear invn
      refine F_take (i := 17) (v := ?_) rfl (by kernel_rfl) (by kernel_rfl) (by kernel_rfl) (fun _ _ _ h => h) inv (Or.inl ⟨by rfl, ?_⟩) (by assumption) (fun invn => ?_)
      rotate_left
      · (intro w hSw; (try dsimp only at hSw); go_simp; try with_reducible rfl)
      try simp only [List.getElem_toArray, List.getElem_cons_zero, List.getElem_cons_succ, Act.put, List.setIfInBounds_toArray, List.set_cons_zero, List.set_cons_succ]
      clear inv
      have inv := invn
      clear invn
      clear x0 x1 p0 p1 p2 p3 q0 q1 q2 q3 hne
      refine F_oneH (i := 16) (by kernel_rfl) rfl (by rfl) (by omega) inv (fun K hK => ?_)
      try simp only [List.getElem_toArray, List.getElem_cons_zero, List.getElem_cons_succ]
      go_simp
      refine (HFR.out wr.drew HBR.out.drew).mono ?_
      rintro e w4 ⟨rfl, hb4⟩
      refine hK.out _ _ (kB10 hb4 hS) (fun hSn invn => ?_)
      try simp only [List.getElem_toArray, List.getElem_cons_zero, List.getElem_cons_succ, Act.put, List.setIfInBounds_toArray, List.set_cons_zero, List.set_cons_succ]
      clear hK K inv hS
      have inv := invn
      have hS := hSn
      clear invn hSn
      have HB4 := Lib.hid (below_trans HBR.out.drew hb4)
      clear hb4
      refine F_take (i := 18) (v := ?_) rfl (by kernel_rfl) (by kernel_rfl) (by kernel_rfl) (fun _ _ _ h => h) inv (Or.inl ⟨by rfl, ?_⟩) (by assumption) (fun invn => ?_)
      rotate_left
      · (intro w hSw; (try dsimp only at hSw); go_simp; try with_reducible rfl)
      try simp only [List.getElem_toArray, List.getElem_cons_zero, List.getElem_cons_succ, Act.put, List.setIfInBounds_toArray, List.set_cons_zero, List.set_cons_succ]
      clear inv
      have inv := invn
      clear invn
      refine F_take (i := 19) (v := ?_) rfl (by kernel_rfl) (by kernel_rfl) (by kernel_rfl) (fun _ _ _ h => h) inv (Or.inl ⟨by rfl, ?_⟩) (by assumption) (fun invn => ?_)
      rotate_left
      · (intro w hSw; (try dsimp only at hSw); go_simp; try with_reducible rfl)
      try simp only [List.getElem_toArray, List.getElem_cons_zero, List.getElem_cons_succ, Act.put, List.setIfInBounds_toArray, List.set_cons_zero, List.set_cons_succ]
      clear inv
      have inv := invn
      clear invn
      refine F_take (i := 20) (v := ?_) rfl (by kernel_rfl) (by kernel_rfl) (by kernel_rfl) (fun _ _ _ h => h) inv (Or.inl ⟨by rfl, ?_⟩) (by assumption) (fun invn => ?_)
      rotate_left
      · (intro w hSw; (try dsimp only at hSw); go_simp; try with_reducible rfl)
      try simp only [List.getElem_toArray, List.getElem_cons_zero, List.getElem_cons_succ, Act.put, List.setIfInBounds_toArray, List.set_cons_zero, List.set_cons_succ]
      clear inv
      have inv := invn
      clear invn
      refine F_take (i := 21) (v := ?_) rfl (by kernel_rfl) (by kernel_rfl) (by kernel_rfl) (fun _ _ _ h => h) inv (Or.inl ⟨by rfl, ?_⟩) (by assumption) (fun invn => ?_)
      rotate_left
      · (intro w hSw; (try dsimp only at hSw); go_simp; try with_reducible rfl)
      try simp only [List.getElem_toArray, List.getElem_cons_zero, List.getElem_cons_succ, Act.put, List.setIfInBounds_toArray, List.set_cons_zero, List.set_cons_succ]
      clear inv
      have inv := invn
      clear invn
      refine F_take (i := 22) (v := ?_) rfl (by kernel_rfl) (by kernel_rfl) (by kernel_rfl) (fun _ _ _ h => h) inv (Or.inl ⟨by rfl, ?_⟩) (by assumption) (fun invn => ?_)
      rotate_left
      · (intro w hSw; (try dsimp only at hSw); go_simp; try with_reducible rfl)
      try simp only [List.getElem_toArray, List.getElem_cons_zero, List.getElem_cons_succ, Act.put, List.setIfInBounds_toArray, List.set_cons_zero, List.set_cons_succ]
      clear inv
      have inv := invn
      clear invn
      refine F_take (i := 23) (v := ?_) rfl (by kernel_rfl) (by kernel_rfl) (by kernel_rfl) (fun _ _ _ h => h) inv (Or.inl ⟨by rfl, ?_⟩) (by assumption) (fun invn => ?_)
      rotate_left
      · (intro w hSw; (try dsimp only at hSw); go_simp; try with_reducible rfl)
      try simp only [List.getElem_toArray, List.getElem_cons_zero, List.getElem_cons_succ, Act.put, List.setIfInBounds_toArray, List.set_cons_zero, List.set_cons_succ]
      clear inv
      have inv := invn
      clear invn
      refine F_take (i := 24) (v := ?_) rfl (by kernel_rfl) (by kernel_rfl) (by kernel_rfl) (fun _ _ _ h => h) inv (Or.inl ⟨by rfl, ?_⟩) (by assumption) (fun invn => ?_)
      rotate_left
      · (intro w hSw; (try dsimp only at hSw); go_simp; try with_reducible rfl)
      try simp only [List.getElem_toArray, List.getElem_cons_zero, List.getElem_cons_succ, Act.put, List.setIfInBounds_toArray, List.set_cons_zero, List.set_cons_succ]
      clear inv
      have inv := invn
      clear invn
      refine F_take (i := 25) (v := ?_) rfl (by kernel_rfl) (by kernel_rfl) (by kernel_rfl) (fun _ _ _ h => h) inv (Or.inl ⟨by rfl, ?_⟩) (by assumption) (fun invn => ?_)
      rotate_left
      · (intro w hSw; (try dsimp only at hSw); go_simp; try with_reducible rfl)
      try simp only [List.getElem_toArray, List.getElem_cons_zero, List.getElem_cons_succ, Act.put, List.setIfInBounds_toArray, List.set_cons_zero, List.set_cons_succ]
      clear inv
      have inv := invn
      clear invn
      refine F_take (i := 26) (v := ?_) rfl (by kernel_rfl) (by kernel_rfl) (by kernel_rfl) (fun _ _ _ h => h) inv (Or.inl ⟨by rfl, ?_⟩) (by assumption) (fun invn => ?_)
      rotate_left
      · (intro w hSw; (try dsimp only at hSw); go_simp; try with_reducible rfl)
      try simp only [List.getElem_toArray, List.getElem_cons_zero, List.getElem_cons_succ, Act.put, List.setIfInBounds_toArray, List.set_cons_zero, List.set_cons_succ]
      clear inv
      have inv := invn
      clear invn
      refine F_take (i := 28) (v := ?_) rfl (by kernel_rfl) (by kernel_rfl) (by kernel_rfl) (fun _ _ _ h => h) inv (Or.inl ⟨by rfl, ?_⟩) (by assumption) (fun invn => ?_)
      rotate_left
      · (intro w hSw; (try dsimp only at hSw); go_simp; try with_reducible rfl)
      try simp only [List.getElem_toArray, List.getElem_cons_zero, List.getElem_cons_succ, Act.put, List.setIfInBounds_toArray, List.set_cons_zero, List.set_cons_succ]
      clear inv
      have inv := invn
      clear invn
      refine F_take (i := 29) (v := ?_) rfl (by kernel_rfl) (by kernel_rfl) (by kernel_rfl) (fun _ _ _ h => h) inv (Or.inl ⟨by rfl, ?_⟩) (by assumption) (fun invn => ?_)
      rotate_left
      · (intro w hSw; (try dsimp only at hSw); go_simp; try with_reducible rfl)
      try simp only [List.getElem_toArray, List.getElem_cons_zero, List.getElem_cons_succ, Act.put, List.setIfInBounds_toArray, List.set_cons_zero, List.set_cons_succ]
      clear inv
      have inv := invn
      clear invn
      refine F_take (i := 30) (v := ?_) rfl (by kernel_rfl) (by kernel_rfl) (by kernel_rfl) (fun _ _ _ h => h) inv (Or.inl ⟨by rfl, ?_⟩) (by assumption) (fun invn => ?_)
      rotate_left
      · (intro w hSw; (try dsimp only at hSw); go_simp; try with_reducible rfl)
      try simp only [List.getElem_toArray, List.getElem_cons_zero, List.getElem_cons_succ, Act.put, List.setIfInBounds_toArray, List.set_cons_zero, List.set_cons_succ]
      clear inv
      have inv := invn
      clear invn
      refine F_take (i := 31) (v := ?_) rfl (by kernel_rfl) (by kernel_rfl) (by kernel_rfl) (fun _ _ _ h => h) inv (Or.inl ⟨by rfl, ?_⟩) (by assumption) (fun invn => ?_)
      rotate_left
      · (intro w hSw; (try dsimp only at hSw); go_simp; try with_reducible rfl)
      try simp only [List.getElem_toArray, List.getElem_cons_zero, List.getElem_cons_succ, Act.put, List.setIfInBounds_toArray, List.set_cons_zero, List.set_cons_succ]
      clear inv
      have inv := invn
      clear invn
      refine F_take (i := 32) (v := ?_) rfl (by kernel_rfl) (by kernel_rfl) (by kernel_rfl) (fun _ _ _ h => h) inv (Or.inl ⟨by rfl, ?_⟩) (by assumption) (fun invn => ?_)
      rotate_left
      · (intro w hSw; (try dsimp only at hSw); go_simp; try with_reducible rfl)
      try simp only [List.getElem_toArray, List.getElem_cons_zero, List.getElem_cons_succ, Act.put, List.setIfInBounds_toArray, List.set_cons_zero, List.set_cons_succ]
      clear inv
      have inv := invn
      clear invn
      refine F_oneH (i := 27) (by kernel_rfl) rfl (by rfl) (by omega) inv (fun K hK => ?_)
      try simp only [List.getElem_toArray, List.getElem_cons_zero, List.getElem_cons_succ]
      go_simp
      refine (HTO.out w4 HB4.out).mono ?_
      rintro e w5 ⟨rfl, hb5⟩
      refine hK.out _ _ (kB10 hb5 hS) (fun hSn invn => ?_)
      try simp only [List.getElem_toArray, List.getElem_cons_zero, List.getElem_cons_succ, Act.put, List.setIfInBounds_toArray, List.set_cons_zero, List.set_cons_succ]
      clear hK K inv hS
      have inv := invn
      have hS := hSn
      clear invn hSn
      have HB5 := Lib.hid (below_trans HB4.out hb5)
      clear hb5 HB4
      refine F_take (i := 33) (v := ?_) rfl (by kernel_rfl) (by kernel_rfl) (by kernel_rfl) (fun _ _ _ h => h) inv (Or.inl ⟨by rfl, ?_⟩) (by assumption) (fun invn => ?_)
      rotate_left
      · (intro w hSw; (try dsimp only at hSw); go_simp; try with_reducible rfl)
      try simp only [List.getElem_toArray, List.getElem_cons_zero, List.getElem_cons_succ, Act.put, List.setIfInBounds_toArray, List.set_cons_zero, List.set_cons_succ]
      clear inv
      have inv := invn
      clear invn
      obtain ⟨x0, x1, p0, p1, p2, p3, q0, q1, q2, q3⟩ := id hS
      refine F_last (i := 34) (by kernel_rfl) rfl rfl (by omega) (by kernel_rfl) (fun K hK => ?_)
      go_simp
      refine hK _ _ ?_
      clear hK K
      replace y0 := kcell HB5.out y0
      replace y1 := kcell HB5.out y1
      replace y2 := kcell HB5.out y2
      obtain ⟨hxr, hgo, hao⟩ := hpok
      have HGV5 := Lib.hid (HGV.out.keep HB5.out)
      have HAV5 := Lib.hid (HAV.out.keep HB5.out)
      clear HNE HFR HTO HBR
      obtain ⟨A1', c1', A2', c2', hv, -, -, -, -, hC1, -⟩ := HGV5.out.form
      simp only [Value.agg.injEq, Array.mk.injEq, List.cons.injEq, Value.slice.injEq, and_true] at hv
      obtain ⟨⟨rfl, rfl, rfl⟩, rfl, rfl, rfl⟩ := hv
      obtain ⟨A3', c3', A4', c4', hv, -, -, -, -, hAC⟩ := HAV5.out.form hao
      simp only [Value.agg.injEq, Array.mk.injEq, List.cons.injEq, Value.slice.injEq, and_true, true_and] at hv
      obtain ⟨⟨rfl, rfl, rfl⟩, rfl, rfl, rfl⟩ := hv
      have hgo2 := grOk_iff.1 hgo
      obtain ⟨x, rfl⟩ := Int.eq_ofNat_of_zero_le hxr.1
      have hxl : x < g.vals.length := by omega
      have hxi2 : (x : Int) < (g.vals.length : Int) := by omega
      have hxi : g.vals[x]? = some g.vals[x] := List.getElem?_eq_getElem hxl
      have hvr := hgo2.vals _ (List.getElem_mem hxl)
      generalize g.vals[x] = vx at hxi hvr
      obtain ⟨vx, rfl⟩ := Int.eq_ofNat_of_zero_le hvr.1
      have hva := valAt_of hxi
      rw [Int.toNat_natCast] at hva
      obtain ⟨b1, o1, rfl, hbb1, dv⟩ := hC1.int hxi
      have hfa := HFA.out
      rw [Int.toNat_natCast, hva] at hfa
      have HFA := Lib.hid hfa
      have HAC := Lib.hid hAC
      have HTL := Lib.hid (fun q (h : q ∈ tclL a s (vx : Int)) => tcl_lt hao h)
      have HAO := Lib.hid hao
      clear hfa hAC hva hxi hC1 hgo2 hgo hvr hao hxr HGV5
      go_wp2_with fail
      refine F_start 8 (fun w' => w'.cell? ⟨w1.heap.size, 0, none⟩ = some (.slice (some ⟨b1, o1, none⟩) g.vals.length c1) ∧ w'.cell? ⟨b1, o1 + x, none⟩ = some (.int .i64 (vx : Int)) ∧ w'.cell? ⟨w1.heap.size + 1, 0, none⟩ = some (.int .i64 a.start) ∧ w'.cell? ⟨w1.heap.size + 1, 1, none⟩ = some (.slice A3 a.accept.length c3) ∧ w'.cell? ⟨w1.heap.size + 1, 2, none⟩ = some (.slice A4 a.accept.length c4)) (by kernel_rfl) (by exact ⟨x0, dv, y0, y1, y2⟩) (fun hS inv => ?_)
      refine F_take (i := 0) (v := ?_) rfl (by kernel_rfl) (by kernel_rfl) (by kernel_rfl) (fun _ _ _ h => h) inv (Or.inl ⟨by rfl, ?_⟩) (by assumption) (fun invn => ?_)
      rotate_left
      · (intro w hSw; (try dsimp only at hSw); go_simp; try with_reducible rfl)
      try simp only [List.getElem_toArray, List.getElem_cons_zero, List.getElem_cons_succ, Act.put, List.setIfInBounds_toArray, List.set_cons_zero, List.set_cons_succ]
      clear inv
      have inv := invn
      clear invn
      refine F_take (i := 1) (v := ?_) rfl (by kernel_rfl) (by kernel_rfl) (by kernel_rfl) (fun _ _ _ h => h) inv (Or.inl ⟨by rfl, ?_⟩) (by assumption) (fun invn => ?_)
      rotate_left
      · (intro w hSw; (try dsimp only at hSw); go_simp; try with_reducible rfl)
      try simp only [List.getElem_toArray, List.getElem_cons_zero, List.getElem_cons_succ, Act.put, List.setIfInBounds_toArray, List.set_cons_zero, List.set_cons_succ]
      clear inv
      have inv := invn
      clear invn
      refine F_take (i := 2) (v := ?_) rfl (by kernel_rfl) (by kernel_rfl) (by kernel_rfl) (fun _ _ _ h => h) inv (Or.inl ⟨by rfl, ?_⟩) (by assumption) (fun invn => ?_)
      rotate_left
      · (intro w hSw; (try dsimp only at hSw); go_simp; try with_reducible rfl)
      try simp only [List.getElem_toArray, List.getElem_cons_zero, List.getElem_cons_succ, Act.put, List.setIfInBounds_toArray, List.set_cons_zero, List.set_cons_succ]
      clear inv
      have inv := invn
      clear invn
      refine F_take (i := 3) (v := ?_) rfl (by kernel_rfl) (by kernel_rfl) (by kernel_rfl) (fun _ _ _ h => h) inv (Or.inl ⟨by rfl, ?_⟩) (by assumption) (fun invn => ?_)
      rotate_left
      · (intro w hSw; (try dsimp only at hSw); go_simp; try with_reducible rfl)
      try simp only [List.getElem_toArray, List.getElem_cons_zero, List.getElem_cons_succ, Act.put, List.setIfInBounds_toArray, List.set_cons_zero, List.set_cons_succ]
      clear inv
      have inv := invn
      clear invn
      refine F_take (i := 4) (v := ?_) rfl (by kernel_rfl) (by kernel_rfl) (by kernel_rfl) (fun _ _ _ h => h) inv (Or.inl ⟨by rfl, ?_⟩) (by assumption) (fun invn => ?_)
      rotate_left
      · (intro w hSw; (try dsimp only at hSw); go_simp; try with_reducible rfl)
      try simp only [List.getElem_toArray, List.getElem_cons_zero, List.getElem_cons_succ, Act.put, List.setIfInBounds_toArray, List.set_cons_zero, List.set_cons_succ]
      clear inv
      have inv := invn
      clear invn
      refine F_take (i := 5) (v := ?_) rfl (by kernel_rfl) (by kernel_rfl) (by kernel_rfl) (fun _ _ _ h => h) inv (Or.inl ⟨by rfl, ?_⟩) (by assumption) (fun invn => ?_)
      rotate_left
      · (intro w hSw; (try dsimp only at hSw); go_simp; try with_reducible rfl)
      try simp only [List.getElem_toArray, List.getElem_cons_zero, List.getElem_cons_succ, Act.put, List.setIfInBounds_toArray, List.set_cons_zero, List.set_cons_succ]
      clear inv
      have inv := invn
      clear invn
      refine F_take (i := 6) (v := ?_) rfl (by kernel_rfl) (by kernel_rfl) (by kernel_rfl) (fun _ _ _ h => h) inv (Or.inl ⟨by rfl, ?_⟩) (by assumption) (fun invn => ?_)
      rotate_left
      · (intro w hSw; (try dsimp only at hSw); go_simp; try with_reducible rfl)
      try simp only [List.getElem_toArray, List.getElem_cons_zero, List.getElem_cons_succ, Act.put, List.setIfInBounds_toArray, List.set_cons_zero, List.set_cons_succ]
      clear inv
      have inv := invn
      clear invn
      clear dv y0 y1
      refine F_one (i := 7) (by kernel_rfl) rfl rfl (by omega) inv (fun K hK => ?_)
      try simp only [List.getElem_toArray, List.getElem_cons_zero, List.getElem_cons_succ]
      go_simp
      refine (implTestClosure _ a s (vx : Int) _ (HAV5.out.keep (Below.refl w5.heap.size w5).drew)).mono ?_
      rintro e w6 ⟨vc, rfl, hoc, hb6⟩
      refine hK.out _ _ (kB5 hb6 hS) (fun hSn invn => ?_)
      try simp only [List.getElem_toArray, List.getElem_cons_zero, List.getElem_cons_succ, Act.put, List.setIfInBounds_toArray, List.set_cons_zero, List.set_cons_succ]
      clear hK K inv hS
      have inv := invn
      have hS := hSn
      clear invn hSn
      have hb6 := below_trans (Below.refl w5.heap.size w5).drew hb6
      have HB6 := Lib.hid (below_trans HB5.out hb6)
      have HCL := Lib.hid ((hoc.sl cN_len).all (Nat.le_refl _))
      obtain ⟨A7, k7, c7, rfl⟩ := hoc.shape
      replace x0 := kcell hb6 x0
      replace x1 := kcell hb6 x1
      replace y2 := kcell hb6 y2
      replace p0 := kcell hb6 p0
      replace p1 := kcell hb6 p1
      replace p2 := kcell hb6 p2
      replace p3 := kcell hb6 p3
      have HAC := Lib.hid (HAC.out.keep hb6)
      have HAV6 := Lib.hid (HAV5.out.keep hb6)
      clear hoc hb6 HAV5
      refine F_last (i := 8) (by kernel_rfl) rfl rfl (by omega) (by kernel_rfl) (fun K hK => ?_)
      go_simp
      refine hK _ _ ?_
      clear hK K
      have hk7 : k7 = (tclL a s (vx : Int)).length := by obtain ⟨A', c', e, h, -⟩ := HCL.out; injection e with e1 e2 e3
      have hC12 : (tclL a s (vx : Int)).length ≤ 12 := by
        rw [tclL]
        split
        · exact mem_len _ _
        · simp
      obtain ⟨C, hC⟩ : ∃ C, C = tclL a s (vx : Int) := ⟨_, rfl⟩
      rw [← hC] at HCL hk7 HFA HTL hC12
      clear hC
      subst hk7
      obtain ⟨l, hl⟩ : ∃ l : Nat, stepLetter g E.1 = (l : Int) := ⟨_, (Int.toNat_of_nonneg hlet.1).symm⟩
      have hl9 : l < 9 := by omega
      have hlz : (l : Int) < 9 := by omega
      have hfa := HFA.out
      rw [hl, Int.toNat_natCast] at hfa
      have HFA := Lib.hid hfa
      have HSL := Lib.hid (fun W (hW : Below w3.heap.size w3 W) => show Calls Try.prog 29 #[.agg #[.slice (some ⟨b1, o1, none⟩) g.vals.length c1, .slice A2 g.edges.length c2], .agg #[.int .i64 E.1.1, .bool E.1.2]] W fun en w' => en = .returned (.int .i64 (l : Int)) ∧ Below W.heap.size W w' by
        have h := specStepLetter _ g E.1 W (HGV.out.keep hW)
        rwa [hl] at h)
      clear hfa hl hlet
      go_wp2_with fail
      go_loopw [11, 12] (fun ff kk w' => ∃ k : Nat, k ≤ C.length ∧ kk = .int .i64 (k : Int) ∧ ff = .bool (foundTo a C l E.2.2 k) ∧ Below w6.heap.size w6 w') (fun _ kk _ => C.length - (intOf kk).toNat)
      case atStart => exact ⟨0, Nat.zero_le _, rfl, by rw [foundTo_zero], Below.refl _ _⟩
      case round =>
        obtain ⟨wo, rfl⟩ : ∃ wo : World, wo = wr := ⟨_, rfl⟩
        obtain ⟨k, hk, rfl, rfl, hbk⟩ := hrel
        by_cases hltk : k < C.length
        · have hck : C[k]? = some C[k] := List.getElem?_eq_getElem hltk
          have hqn := HTL.out _ (List.getElem_mem hltk)
          generalize C[k] = q at hck hqn
          have HSU := Lib.hid (foundTo_succ (a := a) (l := l) (t := E.2.2) hck)
          obtain ⟨b7, o7, rfl, -, hb7, d7⟩ := HCL.out.nat hck
          have d7 := kcell hbk d7
          have HBK := Lib.hid (below_trans HB6.out hbk)
          have hkk : (k : Int) < (C.length : Int) := by omega
          have x0 := kcell hbk x0
          have x1 := kcell hbk x1
          have y2 := kcell hbk y2
          have p0 := kcell hbk p0
          have p1 := kcell hbk p1
          have p3 := kcell hbk p3
          obtain ⟨b8, o8, b9, o9, c9, rfl, hb8, hrw, -, -, hb9, hmvs⟩ := HAC.out.row q hqn
          have r0 := kcell hbk hrw
          have r1 := kcell hbk (hmvs l hl9)
          have hqi : (q : Int) < (a.accept.length : Int) := by omega
          clear hck hrw hmvs
          cases hfo : foundTo a C l E.2.2 k with
          | true =>
            have HS1 := Lib.hid (show foundTo a C l E.2.2 (k + 1) = true by rw [HSU.out, hfo]; rfl)
            go_wp2_with fail
            refine F_start 26 (fun w' => w'.cell? ⟨w1.heap.size, 1, none⟩ = some (.slice A2 g.edges.length c2) ∧ w'.cell? ⟨w1.heap.size + 1, 2, none⟩ = some (.slice (some ⟨b8, o8, none⟩) a.accept.length c4)) (by kernel_rfl) (by exact ⟨x1, y2⟩) (fun hS inv => ?_)
            refine F_take (i := 0) (v := ?_) rfl (by kernel_rfl) (by kernel_rfl) (by kernel_rfl) (fun _ _ _ h => h) inv (Or.inl ⟨by rfl, ?_⟩) (by assumption) (fun invn => ?_)
            rotate_left
            · (intro w hSw; (try dsimp only at hSw); go_simp; try with_reducible rfl)
            try simp only [List.getElem_toArray, List.getElem_cons_zero, List.getElem_cons_succ, Act.put, List.setIfInBounds_toArray, List.set_cons_zero, List.set_cons_succ]
            clear inv
            have inv := invn
            clear invn
            refine F_take (i := 1) (v := ?_) rfl (by kernel_rfl) (by kernel_rfl) (by kernel_rfl) (fun _ _ _ h => h) inv (Or.inl ⟨by rfl, ?_⟩) (by assumption) (fun invn => ?_)
            rotate_left
            · (intro w hSw; (try dsimp only at hSw); go_simp; try with_reducible rfl)
            try simp only [List.getElem_toArray, List.getElem_cons_zero, List.getElem_cons_succ, Act.put, List.setIfInBounds_toArray, List.set_cons_zero, List.set_cons_succ]
            clear inv
            have inv := invn
            clear invn
            refine F_take (i := 2) (v := undef) rfl (by kernel_rfl) (by kernel_rfl) (by kernel_rfl) (fun _ _ _ h => h) inv (Or.inr ⟨by rfl, rfl⟩) (by assumption) (fun invn => ?_)
            try simp only [List.getElem_toArray, List.getElem_cons_zero, List.getElem_cons_succ, Act.put, List.setIfInBounds_toArray, List.set_cons_zero, List.set_cons_succ]
            clear inv
            have inv := invn
            clear invn
            refine F_take (i := 3) (v := undef) rfl (by kernel_rfl) (by kernel_rfl) (by kernel_rfl) (fun _ _ _ h => h) inv (Or.inr ⟨by rfl, rfl⟩) (by assumption) (fun invn => ?_)
            try simp only [List.getElem_toArray, List.getElem_cons_zero, List.getElem_cons_succ, Act.put, List.setIfInBounds_toArray, List.set_cons_zero, List.set_cons_succ]
            clear inv
            have inv := invn
            clear invn
            refine F_take (i := 4) (v := undef) rfl (by kernel_rfl) (by kernel_rfl) (by kernel_rfl) (fun _ _ _ h => h) inv (Or.inr ⟨by rfl, rfl⟩) (by assumption) (fun invn => ?_)
            try simp only [List.getElem_toArray, List.getElem_cons_zero, List.getElem_cons_succ, Act.put, List.setIfInBounds_toArray, List.set_cons_zero, List.set_cons_succ]
            clear inv
            have inv := invn
            clear invn
            refine F_take (i := 5) (v := undef) rfl (by kernel_rfl) (by kernel_rfl) (by kernel_rfl) (fun _ _ _ h => h) inv (Or.inr ⟨by rfl, rfl⟩) (by assumption) (fun invn => ?_)
            try simp only [List.getElem_toArray, List.getElem_cons_zero, List.getElem_cons_succ, Act.put, List.setIfInBounds_toArray, List.set_cons_zero, List.set_cons_succ]
            clear inv
            have inv := invn
            clear invn
            refine F_take (i := 6) (v := undef) rfl (by kernel_rfl) (by kernel_rfl) (by kernel_rfl) (fun _ _ _ h => h) inv (Or.inr ⟨by rfl, rfl⟩) (by assumption) (fun invn => ?_)
            try simp only [List.getElem_toArray, List.getElem_cons_zero, List.getElem_cons_succ, Act.put, List.setIfInBounds_toArray, List.set_cons_zero, List.set_cons_succ]
            clear inv
            have inv := invn
            clear invn
            refine F_take (i := 7) (v := undef) rfl (by kernel_rfl) (by kernel_rfl) (by kernel_rfl) (fun _ _ _ h => h) inv (Or.inr ⟨by rfl, rfl⟩) (by assumption) (fun invn => ?_)
            try simp only [List.getElem_toArray, List.getElem_cons_zero, List.getElem_cons_succ, Act.put, List.setIfInBounds_toArray, List.set_cons_zero, List.set_cons_succ]
            clear inv
            have inv := invn
            clear invn
            refine F_take (i := 8) (v := undef) rfl (by kernel_rfl) (by kernel_rfl) (by kernel_rfl) (fun _ _ _ h => h) inv (Or.inr ⟨by rfl, rfl⟩) (by assumption) (fun invn => ?_)
            try simp only [List.getElem_toArray, List.getElem_cons_zero, List.getElem_cons_succ, Act.put, List.setIfInBounds_toArray, List.set_cons_zero, List.set_cons_succ]
            clear inv
            have inv := invn
            clear invn
            refine F_take (i := 9) (v := undef) rfl (by kernel_rfl) (by kernel_rfl) (by kernel_rfl) (fun _ _ _ h => h) inv (Or.inr ⟨by rfl, rfl⟩) (by assumption) (fun invn => ?_)
            try simp only [List.getElem_toArray, List.getElem_cons_zero, List.getElem_cons_succ, Act.put, List.setIfInBounds_toArray, List.set_cons_zero, List.set_cons_succ]
            clear inv
            have inv := invn
            clear invn
            refine F_take (i := 10) (v := undef) rfl (by kernel_rfl) (by kernel_rfl) (by kernel_rfl) (fun _ _ _ h => h) inv (Or.inr ⟨by rfl, rfl⟩) (by assumption) (fun invn => ?_)
            try simp only [List.getElem_toArray, List.getElem_cons_zero, List.getElem_cons_succ, Act.put, List.setIfInBounds_toArray, List.set_cons_zero, List.set_cons_succ]
            clear inv
            have inv := invn
            clear invn
            refine F_take (i := 11) (v := undef) rfl (by kernel_rfl) (by kernel_rfl) (by kernel_rfl) (fun _ _ _ h => h) inv (Or.inr ⟨by rfl, rfl⟩) (by assumption) (fun invn => ?_)
            try simp only [List.getElem_toArray, List.getElem_cons_zero, List.getElem_cons_succ, Act.put, List.setIfInBounds_toArray, List.set_cons_zero, List.set_cons_succ]
            clear inv
            have inv := invn
            clear invn
            refine F_take (i := 12) (v := undef) rfl (by kernel_rfl) (by kernel_rfl) (by kernel_rfl) (fun _ _ _ h => h) inv (Or.inr ⟨by rfl, rfl⟩) (by assumption) (fun invn => ?_)
            try simp only [List.getElem_toArray, List.getElem_cons_zero, List.getElem_cons_succ, Act.put, List.setIfInBounds_toArray, List.set_cons_zero, List.set_cons_succ]
            clear inv
            have inv := invn
            clear invn
            refine F_take (i := 13) (v := undef) rfl (by kernel_rfl) (by kernel_rfl) (by kernel_rfl) (fun _ _ _ h => h) inv (Or.inr ⟨by rfl, rfl⟩) (by assumption) (fun invn => ?_)
            try simp only [List.getElem_toArray, List.getElem_cons_zero, List.getElem_cons_succ, Act.put, List.setIfInBounds_toArray, List.set_cons_zero, List.set_cons_succ]
            clear inv
            have inv := invn
            clear invn
            refine F_take (i := 14) (v := undef) rfl (by kernel_rfl) (by kernel_rfl) (by kernel_rfl) (fun _ _ _ h => h) inv (Or.inr ⟨by rfl, rfl⟩) (by assumption) (fun invn => ?_)
            try simp only [List.getElem_toArray, List.getElem_cons_zero, List.getElem_cons_succ, Act.put, List.setIfInBounds_toArray, List.set_cons_zero, List.set_cons_succ]
            clear inv
            have inv := invn
            clear invn
            refine F_take (i := 15) (v := undef) rfl (by kernel_rfl) (by kernel_rfl) (by kernel_rfl) (fun _ _ _ h => h) inv (Or.inr ⟨by rfl, rfl⟩) (by assumption) (fun invn => ?_)
            try simp only [List.getElem_toArray, List.getElem_cons_zero, List.getElem_cons_succ, Act.put, List.setIfInBounds_toArray, List.set_cons_zero, List.set_cons_succ]
            clear inv
            have inv := invn
            clear invn
            refine F_take (i := 19) (v := undef) rfl (by kernel_rfl) (by kernel_rfl) (by kernel_rfl) (fun _ _ _ h => h) inv (Or.inr ⟨by rfl, rfl⟩) (by assumption) (fun invn => ?_)
            try simp only [List.getElem_toArray, List.getElem_cons_zero, List.getElem_cons_succ, Act.put, List.setIfInBounds_toArray, List.set_cons_zero, List.set_cons_succ]
            clear inv
            have inv := invn
            clear invn
            refine F_take (i := 20) (v := undef) rfl (by kernel_rfl) (by kernel_rfl) (by kernel_rfl) (fun _ _ _ h => h) inv (Or.inr ⟨by rfl, rfl⟩) (by assumption) (fun invn => ?_)
            try simp only [List.getElem_toArray, List.getElem_cons_zero, List.getElem_cons_succ, Act.put, List.setIfInBounds_toArray, List.set_cons_zero, List.set_cons_succ]
            clear inv
            have inv := invn
            clear invn
            refine F_take (i := 21) (v := undef) rfl (by kernel_rfl) (by kernel_rfl) (by kernel_rfl) (fun _ _ _ h => h) inv (Or.inr ⟨by rfl, rfl⟩) (by assumption) (fun invn => ?_)
            try simp only [List.getElem_toArray, List.getElem_cons_zero, List.getElem_cons_succ, Act.put, List.setIfInBounds_toArray, List.set_cons_zero, List.set_cons_succ]
            clear inv
            have inv := invn
            clear invn
            refine F_take (i := 22) (v := undef) rfl (by kernel_rfl) (by kernel_rfl) (by kernel_rfl) (fun _ _ _ h => h) inv (Or.inr ⟨by rfl, rfl⟩) (by assumption) (fun invn => ?_)
            try simp only [List.getElem_toArray, List.getElem_cons_zero, List.getElem_cons_succ, Act.put, List.setIfInBounds_toArray, List.set_cons_zero, List.set_cons_succ]
            clear inv
            have inv := invn
            clear invn
            refine F_take (i := 23) (v := undef) rfl (by kernel_rfl) (by kernel_rfl) (by kernel_rfl) (fun _ _ _ h => h) inv (Or.inr ⟨by rfl, rfl⟩) (by assumption) (fun invn => ?_)
            try simp only [List.getElem_toArray, List.getElem_cons_zero, List.getElem_cons_succ, Act.put, List.setIfInBounds_toArray, List.set_cons_zero, List.set_cons_succ]
            clear inv
            have inv := invn
            clear invn
            refine F_oneN (i := 16) (by kernel_rfl) rfl (by rfl) (by omega) inv (by assumption) (fun invn => ?_)
            try simp only [List.getElem_toArray, List.getElem_cons_zero, List.getElem_cons_succ, Act.put, List.setIfInBounds_toArray, List.set_cons_zero, List.set_cons_succ]
            clear inv
            have inv := invn
            clear invn
            refine F_take (i := 17) (v := undef) rfl (by kernel_rfl) (by kernel_rfl) (by kernel_rfl) (fun _ _ _ h => h) inv (Or.inr ⟨by rfl, rfl⟩) (by assumption) (fun invn => ?_)
            try simp only [List.getElem_toArray, List.getElem_cons_zero, List.getElem_cons_succ, Act.put, List.setIfInBounds_toArray, List.set_cons_zero, List.set_cons_succ]
            clear inv
            have inv := invn
            clear invn
            refine F_take (i := 18) (v := undef) rfl (by kernel_rfl) (by kernel_rfl) (by kernel_rfl) (fun _ _ _ h => h) inv (Or.inr ⟨by rfl, rfl⟩) (by assumption) (fun invn => ?_)
            try simp only [List.getElem_toArray, List.getElem_cons_zero, List.getElem_cons_succ, Act.put, List.setIfInBounds_toArray, List.set_cons_zero, List.set_cons_succ]
            clear inv
            have inv := invn
            clear invn
            refine F_take (i := 24) (v := undef) rfl (by kernel_rfl) (by kernel_rfl) (by kernel_rfl) (fun _ _ _ h => h) inv (Or.inr ⟨by rfl, rfl⟩) (by assumption) (fun invn => ?_)
            try simp only [List.getElem_toArray, List.getElem_cons_zero, List.getElem_cons_succ, Act.put, List.setIfInBounds_toArray, List.set_cons_zero, List.set_cons_succ]
            clear inv
            have inv := invn
            clear invn
            refine F_take (i := 25) (v := ?_) rfl (by kernel_rfl) (by kernel_rfl) (by kernel_rfl) (fun _ _ _ h => h) inv (Or.inl ⟨by rfl, ?_⟩) (by assumption) (fun invn => ?_)
            rotate_left
            · (intro w hSw; (try dsimp only at hSw); go_simp; try with_reducible rfl)
            try simp only [List.getElem_toArray, List.getElem_cons_zero, List.getElem_cons_succ, Act.put, List.setIfInBounds_toArray, List.set_cons_zero, List.set_cons_succ]
            clear inv
            have inv := invn
            clear invn
            refine F_last (i := 26) (by kernel_rfl) rfl rfl (by omega) (by kernel_rfl) (fun K hK => ?_)
            go_simp
            refine hK _ _ ?_
            clear hK K
            go_wp2_with fail
            go_roundw
            case rel => exact ⟨k + 1, by omega, by go_num, by rw [HS1.out], hbk.drew⟩
            case measure => simp [intOf]; omega
          | false =>
            have HS1 := Lib.hid (show foundTo a C l E.2.2 (k + 1) = decide (mv a q l = E.2.2) by rw [HSU.out, hfo]; rfl)
            have HSL2 := Lib.hid (HSL.out wo.drew HBK.out.drew)
            go_wp2_with fail
            refine F_start 26 (fun w' => w'.cell? ⟨w1.heap.size, 0, none⟩ = some (.slice (some ⟨b1, o1, none⟩) g.vals.length c1) ∧ w'.cell? ⟨w1.heap.size, 1, none⟩ = some (.slice A2 g.edges.length c2) ∧ w'.cell? ⟨w1.heap.size + 1, 2, none⟩ = some (.slice (some ⟨b8, o8, none⟩) a.accept.length c4) ∧ w'.cell? ⟨b7, o7 + k, none⟩ = some (.int .i64 (q : Int)) ∧ w'.cell? ⟨b8, o8 + q, none⟩ = some (.slice (some ⟨b9, o9, none⟩) 9 c9) ∧ w'.cell? ⟨b9, o9 + l, none⟩ = some (.int .i64 (mv a q l)) ∧ w'.cell? ⟨b5, o5 + i * 4, none⟩ = some (.int .i64 E.1.1) ∧ w'.cell? ⟨b5, o5 + i * 4 + 1, none⟩ = some (.bool E.1.2) ∧ w'.cell? ⟨b5, o5 + i * 4 + 3, none⟩ = some (.int .i64 E.2.2)) (by kernel_rfl) (by exact ⟨x0, x1, y2, d7, r0, r1, p0, p1, p3⟩) (fun hS inv => ?_)
            refine F_take (i := 0) (v := ?_) rfl (by kernel_rfl) (by kernel_rfl) (by kernel_rfl) (fun _ _ _ h => h) inv (Or.inl ⟨by rfl, ?_⟩) (by assumption) (fun invn => ?_)
            rotate_left
            · (intro w hSw; (try dsimp only at hSw); go_simp; try with_reducible rfl)
            try simp only [List.getElem_toArray, List.getElem_cons_zero, List.getElem_cons_succ, Act.put, List.setIfInBounds_toArray, List.set_cons_zero, List.set_cons_succ]
            clear inv
            have inv := invn
            clear invn
            refine F_take (i := 1) (v := ?_) rfl (by kernel_rfl) (by kernel_rfl) (by kernel_rfl) (fun _ _ _ h => h) inv (Or.inl ⟨by rfl, ?_⟩) (by assumption) (fun invn => ?_)
            rotate_left
            · (intro w hSw; (try dsimp only at hSw); go_simp; try with_reducible rfl)
            try simp only [List.getElem_toArray, List.getElem_cons_zero, List.getElem_cons_succ, Act.put, List.setIfInBounds_toArray, List.set_cons_zero, List.set_cons_succ]
            clear inv
            have inv := invn
            clear invn
            refine F_take (i := 2) (v := ?_) rfl (by kernel_rfl) (by kernel_rfl) (by kernel_rfl) (fun _ _ _ h => h) inv (Or.inl ⟨by rfl, ?_⟩) (by assumption) (fun invn => ?_)
            rotate_left
            · (intro w hSw; (try dsimp only at hSw); go_simp; try with_reducible rfl)
            try simp only [List.getElem_toArray, List.getElem_cons_zero, List.getElem_cons_succ, Act.put, List.setIfInBounds_toArray, List.set_cons_zero, List.set_cons_succ]
            clear inv
            have inv := invn
            clear invn
            refine F_take (i := 3) (v := ?_) rfl (by kernel_rfl) (by kernel_rfl) (by kernel_rfl) (fun _ _ _ h => h) inv (Or.inl ⟨by rfl, ?_⟩) (by assumption) (fun invn => ?_)
            rotate_left
            · (intro w hSw; (try dsimp only at hSw); go_simp; try with_reducible rfl)
            try simp only [List.getElem_toArray, List.getElem_cons_zero, List.getElem_cons_succ, Act.put, List.setIfInBounds_toArray, List.set_cons_zero, List.set_cons_succ]
            clear inv
            have inv := invn
            clear invn
            refine F_take (i := 4) (v := ?_) rfl (by kernel_rfl) (by kernel_rfl) (by kernel_rfl) (fun _ _ _ h => h) inv (Or.inl ⟨by rfl, ?_⟩) (by assumption) (fun invn => ?_)
            rotate_left
            · (intro w hSw; (try dsimp only at hSw); go_simp; try with_reducible rfl)
            try simp only [List.getElem_toArray, List.getElem_cons_zero, List.getElem_cons_succ, Act.put, List.setIfInBounds_toArray, List.set_cons_zero, List.set_cons_succ]
            clear inv
            have inv := invn
            clear invn
            refine F_take (i := 5) (v := ?_) rfl (by kernel_rfl) (by kernel_rfl) (by kernel_rfl) (fun _ _ _ h => h) inv (Or.inl ⟨by rfl, ?_⟩) (by assumption) (fun invn => ?_)
            rotate_left
            · (intro w hSw; (try dsimp only at hSw); go_simp; try with_reducible rfl)
            try simp only [List.getElem_toArray, List.getElem_cons_zero, List.getElem_cons_succ, Act.put, List.setIfInBounds_toArray, List.set_cons_zero, List.set_cons_succ]
            clear inv
            have inv := invn
            clear invn
            refine F_take (i := 6) (v := ?_) rfl (by kernel_rfl) (by kernel_rfl) (by kernel_rfl) (fun _ _ _ h => h) inv (Or.inl ⟨by rfl, ?_⟩) (by assumption) (fun invn => ?_)
            rotate_left
            · (intro w hSw; (try dsimp only at hSw); go_simp; try with_reducible rfl)
            try simp only [List.getElem_toArray, List.getElem_cons_zero, List.getElem_cons_succ, Act.put, List.setIfInBounds_toArray, List.set_cons_zero, List.set_cons_succ]
            clear inv
            have inv := invn
            clear invn
            refine F_take (i := 7) (v := ?_) rfl (by kernel_rfl) (by kernel_rfl) (by kernel_rfl) (fun _ _ _ h => h) inv (Or.inl ⟨by rfl, ?_⟩) (by assumption) (fun invn => ?_)
            rotate_left
            · (intro w hSw; (try dsimp only at hSw); go_simp; try with_reducible rfl)
            try simp only [List.getElem_toArray, List.getElem_cons_zero, List.getElem_cons_succ, Act.put, List.setIfInBounds_toArray, List.set_cons_zero, List.set_cons_succ]
            clear inv
            have inv := invn
            clear invn
            refine F_take (i := 8) (v := ?_) rfl (by kernel_rfl) (by kernel_rfl) (by kernel_rfl) (fun _ _ _ h => h) inv (Or.inl ⟨by rfl, ?_⟩) (by assumption) (fun invn => ?_)
            rotate_left
            · (intro w hSw; (try dsimp only at hSw); go_simp; try with_reducible rfl)
            try simp only [List.getElem_toArray, List.getElem_cons_zero, List.getElem_cons_succ, Act.put, List.setIfInBounds_toArray, List.set_cons_zero, List.set_cons_succ]
            clear inv
            have inv := invn
            clear invn
            refine F_take (i := 9) (v := ?_) rfl (by kernel_rfl) (by kernel_rfl) (by kernel_rfl) (fun _ _ _ h => h) inv (Or.inl ⟨by rfl, ?_⟩) (by assumption) (fun invn => ?_)
            rotate_left
            · (intro w hSw; (try dsimp only at hSw); go_simp; try with_reducible rfl)
            try simp only [List.getElem_toArray, List.getElem_cons_zero, List.getElem_cons_succ, Act.put, List.setIfInBounds_toArray, List.set_cons_zero, List.set_cons_succ]
            clear inv
            have inv := invn
            clear invn
            refine F_take (i := 10) (v := ?_) rfl (by kernel_rfl) (by kernel_rfl) (by kernel_rfl) (fun _ _ _ h => h) inv (Or.inl ⟨by rfl, ?_⟩) (by assumption) (fun invn => ?_)
            rotate_left
            · (intro w hSw; (try dsimp only at hSw); go_simp; try with_reducible rfl)
            try simp only [List.getElem_toArray, List.getElem_cons_zero, List.getElem_cons_succ, Act.put, List.setIfInBounds_toArray, List.set_cons_zero, List.set_cons_succ]
            clear inv
            have inv := invn
            clear invn
            refine F_take (i := 11) (v := ?_) rfl (by kernel_rfl) (by kernel_rfl) (by kernel_rfl) (fun _ _ _ h => h) inv (Or.inl ⟨by rfl, ?_⟩) (by assumption) (fun invn => ?_)
            rotate_left
            · (intro w hSw; (try dsimp only at hSw); go_simp; try with_reducible rfl)
            try simp only [List.getElem_toArray, List.getElem_cons_zero, List.getElem_cons_succ, Act.put, List.setIfInBounds_toArray, List.set_cons_zero, List.set_cons_succ]
            clear inv
            have inv := invn
            clear invn
            refine F_take (i := 12) (v := ?_) rfl (by kernel_rfl) (by kernel_rfl) (by kernel_rfl) (fun _ _ _ h => h) inv (Or.inl ⟨by rfl, ?_⟩) (by assumption) (fun invn => ?_)
            rotate_left
            · (intro w hSw; (try dsimp only at hSw); go_simp; try with_reducible rfl)
            try simp only [List.getElem_toArray, List.getElem_cons_zero, List.getElem_cons_succ, Act.put, List.setIfInBounds_toArray, List.set_cons_zero, List.set_cons_succ]
            clear inv
            have inv := invn
            clear invn
            refine F_take (i := 13) (v := ?_) rfl (by kernel_rfl) (by kernel_rfl) (by kernel_rfl) (fun _ _ _ h => h) inv (Or.inl ⟨by rfl, ?_⟩) (by assumption) (fun invn => ?_)
            rotate_left
            · (intro w hSw; (try dsimp only at hSw); go_simp; try with_reducible rfl)
            try simp only [List.getElem_toArray, List.getElem_cons_zero, List.getElem_cons_succ, Act.put, List.setIfInBounds_toArray, List.set_cons_zero, List.set_cons_succ]
            clear inv
            have inv := invn
            clear invn
            refine F_take (i := 14) (v := ?_) rfl (by kernel_rfl) (by kernel_rfl) (by kernel_rfl) (fun _ _ _ h => h) inv (Or.inl ⟨by rfl, ?_⟩) (by assumption) (fun invn => ?_)
            rotate_left
            · (intro w hSw; (try dsimp only at hSw); go_simp; try with_reducible rfl)
            try simp only [List.getElem_toArray, List.getElem_cons_zero, List.getElem_cons_succ, Act.put, List.setIfInBounds_toArray, List.set_cons_zero, List.set_cons_succ]
            clear inv
            have inv := invn
            clear invn
            refine F_take (i := 15) (v := ?_) rfl (by kernel_rfl) (by kernel_rfl) (by kernel_rfl) (fun _ _ _ h => h) inv (Or.inl ⟨by rfl, ?_⟩) (by assumption) (fun invn => ?_)
            rotate_left
            · (intro w hSw; (try dsimp only at hSw); go_simp; try with_reducible rfl)
            try simp only [List.getElem_toArray, List.getElem_cons_zero, List.getElem_cons_succ, Act.put, List.setIfInBounds_toArray, List.set_cons_zero, List.set_cons_succ]
            clear inv
            have inv := invn
            clear invn
            refine F_take (i := 19) (v := ?_) rfl (by kernel_rfl) (by kernel_rfl) (by kernel_rfl) (fun _ _ _ h => h) inv (Or.inl ⟨by rfl, ?_⟩) (by assumption) (fun invn => ?_)
            rotate_left
            · (intro w hSw; (try dsimp only at hSw); go_simp; try with_reducible rfl)
            try simp only [List.getElem_toArray, List.getElem_cons_zero, List.getElem_cons_succ, Act.put, List.setIfInBounds_toArray, List.set_cons_zero, List.set_cons_succ]
            clear inv
            have inv := invn
            clear invn
            refine F_take (i := 20) (v := ?_) rfl (by kernel_rfl) (by kernel_rfl) (by kernel_rfl) (fun _ _ _ h => h) inv (Or.inl ⟨by rfl, ?_⟩) (by assumption) (fun invn => ?_)
            rotate_left
            · (intro w hSw; (try dsimp only at hSw); go_simp; try with_reducible rfl)
            try simp only [List.getElem_toArray, List.getElem_cons_zero, List.getElem_cons_succ, Act.put, List.setIfInBounds_toArray, List.set_cons_zero, List.set_cons_succ]
            clear inv
            have inv := invn
            clear invn
            refine F_take (i := 21) (v := ?_) rfl (by kernel_rfl) (by kernel_rfl) (by kernel_rfl) (fun _ _ _ h => h) inv (Or.inl ⟨by rfl, ?_⟩) (by assumption) (fun invn => ?_)
            rotate_left
            · (intro w hSw; (try dsimp only at hSw); go_simp; try with_reducible rfl)
            try simp only [List.getElem_toArray, List.getElem_cons_zero, List.getElem_cons_succ, Act.put, List.setIfInBounds_toArray, List.set_cons_zero, List.set_cons_succ]
            clear inv
            have inv := invn
            clear invn
            refine F_take (i := 22) (v := ?_) rfl (by kernel_rfl) (by kernel_rfl) (by kernel_rfl) (fun _ _ _ h => h) inv (Or.inl ⟨by rfl, ?_⟩) (by assumption) (fun invn => ?_)
            rotate_left
            · (intro w hSw; (try dsimp only at hSw); go_simp; try with_reducible rfl)
            try simp only [List.getElem_toArray, List.getElem_cons_zero, List.getElem_cons_succ, Act.put, List.setIfInBounds_toArray, List.set_cons_zero, List.set_cons_succ]
            clear inv
            have inv := invn
            clear invn
            refine F_take (i := 23) (v := ?_) rfl (by kernel_rfl) (by kernel_rfl) (by kernel_rfl) (fun _ _ _ h => h) inv (Or.inl ⟨by rfl, ?_⟩) (by assumption) (fun invn => ?_)
            rotate_left
            · (intro w hSw; (try dsimp only at hSw); go_simp; try with_reducible rfl)
            try simp only [List.getElem_toArray, List.getElem_cons_zero, List.getElem_cons_succ, Act.put, List.setIfInBounds_toArray, List.set_cons_zero, List.set_cons_succ]
            clear inv
            have inv := invn
            clear invn
            clear x0 x1 y2 d7 r0 r1 p0 p1 p3 p2
            refine F_oneH (i := 16) (by kernel_rfl) rfl (by rfl) (by omega) inv (fun K hK => ?_)
            try simp only [List.getElem_toArray, List.getElem_cons_zero, List.getElem_cons_succ]
            go_simp
            refine HSL2.out.mono ?_
            rintro e w7 ⟨rfl, hb7⟩
            refine hK.out _ _ (kB9 hb7 hS) (fun hSn invn => ?_)
            try simp only [List.getElem_toArray, List.getElem_cons_zero, List.getElem_cons_succ, Act.put, List.setIfInBounds_toArray, List.set_cons_zero, List.set_cons_succ]
            clear hK K inv hS
            have inv := invn
            have hS := hSn
            clear invn hSn
            have HB7 := Lib.hid (below_trans hbk.drew hb7)
            clear hb7
            refine F_take (i := 17) (v := ?_) rfl (by kernel_rfl) (by kernel_rfl) (by kernel_rfl) (fun _ _ _ h => h) inv (Or.inl ⟨by rfl, ?_⟩) (by assumption) (fun invn => ?_)
            rotate_left
            · (intro w hSw; (try dsimp only at hSw); go_simp; try with_reducible rfl)
            try simp only [List.getElem_toArray, List.getElem_cons_zero, List.getElem_cons_succ, Act.put, List.setIfInBounds_toArray, List.set_cons_zero, List.set_cons_succ]
            clear inv
            have inv := invn
            clear invn
            refine F_take (i := 18) (v := ?_) rfl (by kernel_rfl) (by kernel_rfl) (by kernel_rfl) (fun _ _ _ h => h) inv (Or.inl ⟨by rfl, ?_⟩) (by assumption) (fun invn => ?_)
            rotate_left
            · (intro w hSw; (try dsimp only at hSw); go_simp; try with_reducible rfl)
            try simp only [List.getElem_toArray, List.getElem_cons_zero, List.getElem_cons_succ, Act.put, List.setIfInBounds_toArray, List.set_cons_zero, List.set_cons_succ]
            clear inv
            have inv := invn
            clear invn
            refine F_take (i := 24) (v := ?_) rfl (by kernel_rfl) (by kernel_rfl) (by kernel_rfl) (fun _ _ _ h => h) inv (Or.inl ⟨by rfl, ?_⟩) (by assumption) (fun invn => ?_)
            rotate_left
            · (intro w hSw; (try dsimp only at hSw); go_simp; try with_reducible rfl)
            try simp only [List.getElem_toArray, List.getElem_cons_zero, List.getElem_cons_succ, Act.put, List.setIfInBounds_toArray, List.set_cons_zero, List.set_cons_succ]
            clear inv
            have inv := invn
            clear invn
            refine F_take (i := 25) (v := ?_) rfl (by kernel_rfl) (by kernel_rfl) (by kernel_rfl) (fun _ _ _ h => h) inv (Or.inl ⟨by rfl, ?_⟩) (by assumption) (fun invn => ?_)
            rotate_left
            · (intro w hSw; (try dsimp only at hSw); go_simp; try with_reducible rfl)
            try simp only [List.getElem_toArray, List.getElem_cons_zero, List.getElem_cons_succ, Act.put, List.setIfInBounds_toArray, List.set_cons_zero, List.set_cons_succ]
            clear inv
            have inv := invn
            clear invn
            refine F_last (i := 26) (by kernel_rfl) rfl rfl (by omega) (by kernel_rfl) (fun K hK => ?_)
            go_simp
            refine hK _ _ ?_
            clear hK K
            go_wp2_with fail
            go_roundw
            case rel => exact ⟨k + 1, by omega, by go_num, by rw [HS1.out]; rfl, HB7.out⟩
            case measure => simp [intOf]; omega
        · obtain rfl : k = C.length := by omega
          have hfo := HFA.out
          rw [hfo]
          have HBK := Lib.hid (HB6.out.trans (hbk.mono (HB6.out.size)))
          go_wp2_with fail
          go_roundw
          case rel => exact ⟨i + 1, by omega, by go_num, HBK.out⟩
          case measure => simp [intOf]; omega
    · obtain rfl : i = k6 := by omega
      have HVr := Lib.hid (SlE.keep HV.out (HB.out.trans (hbr.mono HB.out.size)))
      have HBr := Lib.hid (HB.out.trans (hbr.mono HB.out.size))
      clear hbr x0 x1 y0 y1 y2 HGV HAV HL HM HB HK HV
      go_wp2_with fail
      refine (drawReachableProduct_any _ bs _ HVr.out).mono ?_
      rintro e w4 ⟨vg2, va2, g2, a2, x2, rfl, hgv, -, hav, hb4⟩
      obtain ⟨B1, m1, d1, B2, m2, d2, rfl⟩ := hgv.shape
      obtain ⟨B3, m3, d3, B4, m4, d4, rfl⟩ := hav.shape
      have hal := ((Below.refl w4.heap.size w4).alloc (Nat.le_refl _) (.cells #[.slice B1 m1 d1, .slice B2 m2 d2] 38)).alloc (by simp) (.cells #[.int .i64 a2.start, .slice B3 m3 d3, .slice B4 m4 d4] 27)
      have bg := (Blk.new w4 38 #[.slice B1 m1 d1, .slice B2 m2 d2] _ rfl).alloc (.cells #[.int .i64 a2.start, .slice B3 m3 d3, .slice B4 m4 d4] 27)
      have ba := Blk.new (w4.alloc (.cells #[.slice B1 m1 d1, .slice B2 m2 d2] 38)) 27 #[.int .i64 a2.start, .slice B3 m3 d3, .slice B4 m4 d4] (w4.heap.size + 1) (by simp)
      have HGV := Lib.hid (hgv.keep hal)
      have HAV := Lib.hid (hav.keep hal)
      have HB := Lib.hid (below_trans HBr.out (below_trans hb4 hal))
      clear hal hgv hav hb4 HVr HBr
      go_upto_region 22 with fail
      generalize ((w4.alloc (.cells #[.slice B1 m1 d1, .slice B2 m2 d2] 38)).alloc (.cells #[.int .i64 a2.start, .slice B3 m3 d3, .slice B4 m4 d4] 27)) = W at *
      have x0 : W.cell? ⟨w4.heap.size, 0, none⟩ = some (.slice B1 m1 d1) := by exact bg.cell 0
      have x1 : W.cell? ⟨w4.heap.size, 1, none⟩ = some (.slice B2 m2 d2) := by exact bg.cell 1
      have y0 : W.cell? ⟨w4.heap.size + 1, 0, none⟩ = some (.int .i64 a2.start) := by exact ba.cell 0
      have y1 : W.cell? ⟨w4.heap.size + 1, 1, none⟩ = some (.slice B3 m3 d3) := by exact ba.cell 1
      have y2 : W.cell? ⟨w4.heap.size + 1, 2, none⟩ = some (.slice B4 m4 d4) := by exact ba.cell 2
      clear bg ba
      go_wp2_with fail
      refine (implReachableProduct _ _ g2 a2 x2 _ HGV.out HAV.out).mono ?_
      rintro e w5 ⟨vr, rfl, hor, hb5⟩
      obtain ⟨A7, k7, c7, rfl⟩ := hor.shape
      have HRL := Lib.hid ((hor.sl cI_len).all (Nat.le_refl _))
      have HGV := Lib.hid (HGV.out.keep hb5)
      have HAV := Lib.hid (HAV.out.keep hb5)
      have HB := Lib.hid (below_trans HB.out hb5)
      have x0 := kcell hb5 x0
      have x1 := kcell hb5 x1
      have y0 := kcell hb5 y0
      have y1 := kcell hb5 y1
      have y2 := kcell hb5 y2
      clear hor hb5
      go_wp2_with fail
      refine (implDistancesFrom _ _ g2 a2 x2 _ HGV.out HAV.out).mono ?_
      rintro e w6 ⟨vd, rfl, hod, hb6⟩
      obtain ⟨A8, k8, c8, rfl⟩ := hod.shape
      have HDL := Lib.hid ((hod.sl cI_len).all (Nat.le_refl _))
      have HRL := Lib.hid (SlE.keep HRL.out hb6)
      have HGV := Lib.hid (HGV.out.keep hb6)
      have HAV := Lib.hid (HAV.out.keep hb6)
      have HB := Lib.hid (below_trans HB.out hb6)
      have x0 := kcell hb6 x0
      have x1 := kcell hb6 x1
      have y0 := kcell hb6 y0
      have y1 := kcell hb6 y1
      have y2 := kcell hb6 y2
      clear hod hb6
      go_wp2_with fail
      refine (specReachableProduct _ _ g2 a2 x2 _ HGV.out HAV.out).mono ?_
      rintro e w7 ⟨vs, rfl, hos, hb7⟩
      have HSP := Lib.hid ((hos.sl cI_len).all (Nat.le_refl _))
      have HRL := Lib.hid (SlE.keep HRL.out hb7)
      have HDL := Lib.hid (SlE.keep HDL.out hb7)
      have HGV := Lib.hid (HGV.out.keep hb7)
      have HAV := Lib.hid (HAV.out.keep hb7)
      have HB := Lib.hid (below_trans HB.out hb7)
      have x0 := kcell hb7 x0
      have x1 := kcell hb7 x1
      have y0 := kcell hb7 y0
      have y1 := kcell hb7 y1
      have y2 := kcell hb7 y2
      clear hos hb7
      go_wp2_with fail
      refine (sameInts_same _ _ (reachL g2 a2 x2) _ HRL.out HSP.out).mono ?_
      rintro e w8 ⟨rfl, hb8⟩
      have HRL := Lib.hid (SlE.keep HRL.out hb8)
      have HDL := Lib.hid (SlE.keep HDL.out hb8)
      have HGV := Lib.hid (HGV.out.keep hb8)
      have HAV := Lib.hid (HAV.out.keep hb8)
      have HB := Lib.hid (below_trans HB.out hb8)
      have x0 := kcell hb8 x0
      have x1 := kcell hb8 x1
      have y0 := kcell hb8 y0
      have y1 := kcell hb8 y1
      have y2 := kcell hb8 y2
      clear hb8 HSP
      go_wp2_with fail
      refine (specDistancesFrom _ _ g2 a2 x2 _ HGV.out HAV.out).mono ?_
      rintro e w9 ⟨vs2, rfl, hos, hb9⟩
      have HSP := Lib.hid ((hos.sl cI_len).all (Nat.le_refl _))
      have HRL := Lib.hid (SlE.keep HRL.out hb9)
      have HDL := Lib.hid (SlE.keep HDL.out hb9)
      have HAV := Lib.hid (HAV.out.keep hb9)
      have HB := Lib.hid (below_trans HB.out hb9)
      have x0 := kcell hb9 x0
      have x1 := kcell hb9 x1
      have y0 := kcell hb9 y0
      have y1 := kcell hb9 y1
      have y2 := kcell hb9 y2
      clear hos hb9 HGV
      go_wp2_with fail
      refine (sameInts_same _ _ (distFrom g2 a2 x2) _ HDL.out HSP.out).mono ?_
      rintro e w10 ⟨rfl, hb10⟩
      have HRL := Lib.hid (SlE.keep HRL.out hb10)
      have HDL := Lib.hid (SlE.keep HDL.out hb10)
      have HAV := Lib.hid (HAV.out.keep hb10)
      have HB := Lib.hid (below_trans HB.out hb10)
      have x0 := kcell hb10 x0
      have x1 := kcell hb10 x1
      have y0 := kcell hb10 y0
      have y1 := kcell hb10 y1
      have y2 := kcell hb10 y2
      clear hb10 HSP
      have hr7 : k7 = (reachL g2 a2 x2).length := by obtain ⟨A', c', e, h, -⟩ := HRL.out; injection e with e1 e2 e3
      have hd8 : k8 = (distFrom g2 a2 x2).length := by obtain ⟨A', c', e, h, -⟩ := HDL.out; injection e with e1 e2 e3
      have HR7 := Lib.hid hr7
      have HD8 := Lib.hid hd8
      have h60 : k8 ≤ 60 := by rw [hd8]; exact distFrom_le g2 a2 x2
      have hlr := World.block_lt_of_cell? _ _ y0
      clear hr7 hd8 x0 x1
      go_wp2_with fail
      go_loopw [18] (fun ii wr => ∃ i : Nat, i ≤ k8 ∧ ii = .int .i64 (i : Int) ∧ Below w10.heap.size w10 wr) (fun ii _ => k8 - (intOf ii).toNat)
      case atStart => exact ⟨0, Nat.zero_le _, rfl, Below.refl _ _⟩
      case round =>
        obtain ⟨j, hj, rfl, hbj⟩ := hrel
        by_cases hltj : j < k8
        · have hjD : j < (distFrom g2 a2 x2).length := by rw [← HD8.out]; exact hltj
          obtain ⟨D, hD⟩ : ∃ D, D = (distFrom g2 a2 x2)[j] := ⟨_, rfl⟩
          have hej : (distFrom g2 a2 x2)[j]? = some D := by rw [hD]; exact List.getElem?_eq_getElem hjD
          clear hD
          have hmr := mem_reachL hej
          have hHB : hasB (reachL g2 a2 x2) (j : Int) = decide (0 ≤ D) := by
            by_cases h0 : 0 ≤ D
            · rw [decide_eq_true h0]; exact hasB_iff.2 (hmr.2 h0)
            · rw [decide_eq_false h0]
              cases hh : hasB (reachL g2 a2 x2) (j : Int) with
              | false => rfl
              | true => exact absurd (hmr.1 (hasB_iff.1 hh)) h0
          obtain ⟨b8, o8, rfl, -, hb8, e8⟩ := HDL.out.intI hej
          have e8 := kcell hbj e8
          have hjj : (j : Int) < (k8 : Int) := by omega
          have hb8j : b8 < wr.heap.size := World.block_lt_of_cell? _ _ e8
          have HH := Lib.hid (show ∀ W, Below w10.heap.size w10 W → Calls Try.prog 14 #[.slice A7 k7 c7, .int .i64 (j : Int)] W fun e w' => e = .returned (.bool (decide (0 ≤ D))) ∧ Below W.heap.size W w' from fun W hW => (lawHas_any _ _ (j : Int) W (SlE.keep HRL.out hW)).mono (by rintro e w' ⟨h, rfl⟩; rw [hHB] at h; exact ⟨h, Below.refl _ _⟩))
          have HBJ := Lib.hid hbj
          have hdd : (decide (D ≥ 0)) = decide (0 ≤ D) := rfl
          clear hej hmr hHB hjD hbj
          go_wp2_with fail
          refine F_start 8 (fun w' => w'.cell? ⟨b8, o8 + j, none⟩ = some (.int .i64 D)) (by kernel_rfl) (by exact e8) (fun hS inv => ?_)
          refine F_take (i := 0) (v := ?_) rfl (by kernel_rfl) (by kernel_rfl) (by kernel_rfl) (fun _ _ _ h => h) inv (Or.inl ⟨by rfl, ?_⟩) (by assumption) (fun invn => ?_)
          rotate_left
          · (intro w hSw; (try dsimp only at hSw); go_simp; try with_reducible rfl)
          try simp only [List.getElem_toArray, List.getElem_cons_zero, List.getElem_cons_succ, Act.put, List.setIfInBounds_toArray, List.set_cons_zero, List.set_cons_succ]
          clear inv
          have inv := invn
          clear invn
          refine F_take (i := 1) (v := ?_) rfl (by kernel_rfl) (by kernel_rfl) (by kernel_rfl) (fun _ _ _ h => h) inv (Or.inl ⟨by rfl, ?_⟩) (by assumption) (fun invn => ?_)
          rotate_left
          · (intro w hSw; (try dsimp only at hSw); go_simp; try with_reducible rfl)
          try simp only [List.getElem_toArray, List.getElem_cons_zero, List.getElem_cons_succ, Act.put, List.setIfInBounds_toArray, List.set_cons_zero, List.set_cons_succ]
          clear inv
          have inv := invn
          clear invn
          refine F_take (i := 3) (v := ?_) rfl (by kernel_rfl) (by kernel_rfl) (by kernel_rfl) (fun _ _ _ h => h) inv (Or.inl ⟨by rfl, ?_⟩) (by assumption) (fun invn => ?_)
          rotate_left
          · (intro w hSw; (try dsimp only at hSw); go_simp; try with_reducible rfl)
          try simp only [List.getElem_toArray, List.getElem_cons_zero, List.getElem_cons_succ, Act.put, List.setIfInBounds_toArray, List.set_cons_zero, List.set_cons_succ]
          clear inv
          have inv := invn
          clear invn
          refine F_take (i := 4) (v := ?_) rfl (by kernel_rfl) (by kernel_rfl) (by kernel_rfl) (fun _ _ _ h => h) inv (Or.inl ⟨by rfl, ?_⟩) (by assumption) (fun invn => ?_)
          rotate_left
          · (intro w hSw; (try dsimp only at hSw); go_simp; try with_reducible rfl)
          try simp only [List.getElem_toArray, List.getElem_cons_zero, List.getElem_cons_succ, Act.put, List.setIfInBounds_toArray, List.set_cons_zero, List.set_cons_succ]
          clear inv
          have inv := invn
          clear invn
          refine F_take (i := 5) (v := ?_) rfl (by kernel_rfl) (by kernel_rfl) (by kernel_rfl) (fun _ _ _ h => h) inv (Or.inl ⟨by rfl, ?_⟩) (by assumption) (fun invn => ?_)
          rotate_left
          · (intro w hSw; (try dsimp only at hSw); go_simp; try with_reducible rfl)
          try simp only [List.getElem_toArray, List.getElem_cons_zero, List.getElem_cons_succ, Act.put, List.setIfInBounds_toArray, List.set_cons_zero, List.set_cons_succ]
          clear inv
          have inv := invn
          clear invn
          refine F_take (i := 6) (v := ?_) rfl (by kernel_rfl) (by kernel_rfl) (by kernel_rfl) (fun _ _ _ h => h) inv (Or.inl ⟨by rfl, ?_⟩) (by assumption) (fun invn => ?_)
          rotate_left
          · (intro w hSw; (try dsimp only at hSw); go_simp; try with_reducible rfl)
          try simp only [List.getElem_toArray, List.getElem_cons_zero, List.getElem_cons_succ, Act.put, List.setIfInBounds_toArray, List.set_cons_zero, List.set_cons_succ]
          clear inv
          have inv := invn
          clear invn
          refine F_take (i := 7) (v := ?_) rfl (by kernel_rfl) (by kernel_rfl) (by kernel_rfl) (fun _ _ _ h => h) inv (Or.inl ⟨by rfl, ?_⟩) (by assumption) (fun invn => ?_)
          rotate_left
          · (intro w hSw; (try dsimp only at hSw); go_simp; try with_reducible rfl)
          try simp only [List.getElem_toArray, List.getElem_cons_zero, List.getElem_cons_succ, Act.put, List.setIfInBounds_toArray, List.set_cons_zero, List.set_cons_succ]
          clear inv
          have inv := invn
          clear invn
          clear e8
          refine F_one (i := 2) (by kernel_rfl) rfl rfl (by omega) inv (fun K hK => ?_)
          try simp only [List.getElem_toArray, List.getElem_cons_zero, List.getElem_cons_succ]
          go_simp
          refine (HH.out wr.drew HBJ.out.drew).mono ?_
          rintro e w11 ⟨rfl, hb11⟩
          refine hK.out _ _ (kcell hb11 hS) (fun hSn invn => ?_)
          try simp only [List.getElem_toArray, List.getElem_cons_zero, List.getElem_cons_succ, Act.put, List.setIfInBounds_toArray, List.set_cons_zero, List.set_cons_succ]
          clear hK K inv hS
          have inv := invn
          have hS := hSn
          clear invn hSn
          have HB11 := Lib.hid (below_trans HBJ.out.drew hb11)
          clear hb11
          refine F_last (i := 8) (by kernel_rfl) rfl rfl (by omega) (by kernel_rfl) (fun K hK => ?_)
          go_simp
          refine hK _ _ ?_
          clear hK K
          go_wp2_with fail
          go_roundw
          case rel => exact ⟨j + 1, by omega, by go_num, HB11.out⟩
          case measure => simp [intOf]; omega
        · obtain rfl : j = k8 := by omega
          have y0 := kcell hbj y0
          have y1 := kcell hbj y1
          have y2 := kcell hbj y2
          have HAV := Lib.hid (HAV.out.keep hbj)
          have HRL := Lib.hid (SlE.keep HRL.out hbj)
          have HB := Lib.hid (below_trans HB.out hbj)
          clear hbj
          by_cases hk7 : k7 = 0
          · subst hk7
            go_wp2_with fail
            go_ret
            exact ⟨rfl, HB.out⟩
          · have hne : reachL g2 a2 x2 ≠ [] := fun h => hk7 (by rw [HR7.out, h]; rfl)
            have HST := Lib.hid (hasB_iff.2 (reach_start hne))
            have hz : ((k7 : Int) == 0) = false := by simpa using hk7
            clear hne
            go_wp2_with fail
            refine (implProductIndex _ a2 x2 a2.start _ HAV.out).mono ?_
            rintro e w12 ⟨rfl, hb12⟩
            have HRL := Lib.hid (SlE.keep HRL.out hb12)
            have HB := Lib.hid (below_trans HB.out hb12)
            clear hb12
            go_wp2_with fail
            refine (lawHas_any _ _ _ _ HRL.out).mono ?_
            rintro e w13 ⟨rfl, rfl⟩
            rw [HST.out]
            go_wp2_with fail
            go_ret
            exact ⟨rfl, HB.out⟩
end Go.Proofs.Ytallglnmeeahiaa.fnProduct

namespace Go.Proofs.Ytallglnmeeahiaa.fnProduct
set_option linter.unusedVariables false
set_option linter.unusedSimpArgs false
open Go.ChangeShapes Go.WideShapes Go.ChangeAt Go.RowKit
/-! ### The row -/
theorem own : ownKnob Try.prog.godebug = none := by kernel_rfl
theorem laidOut : laidOutB Try.prog = true := by kernel_rfl
set_option maxRecDepth 100000 in
theorem lifted (os : Os) (started : os.Started) (H : Type) (enc : TypeId × Value → H) :
    ReturnsInHanded {} Try.checked os 5 .any (Rows.fnProductSpec.pre6 enc Try.prog Try.f5 Rows.fnProductRow.domain false) (Rows.fnProductSpec.post enc Try.prog Try.f5 false true false false) := by
  refine returnsInHanded_of_change (C := Try.checked) own started (by kernel_rfl) Try.func5
    (ChangeSpec.witness6 (enc := enc) (C := Try.checked) false ⟨#[], #[.slice none 0 0], []⟩ 8 (by kernel_rfl) (by kernel_rfl) (by kernel_rfl) (by kernel_rfl)) ?_
  intro W base args ds gs before hval0 hW hcnd _
  have hval : ∀ (j : Nat) t v, Try.f5.params[j]? = some t → args[j]? = some v → Value.okWide Try.prog W .any base t v := hval0
  have hW' := hW
  obtain ⟨p, q, hA0, hV, rfl, hfz, hnd⟩ := hW
  have hA : DataW.TrodAll enc Try.prog W 0 (fun _ => true) true Try.f5.params.toList args.toList ds p := hA0
  rw [Try.params5] at hA hval
  obtain ⟨v0, vs0, d0, ds0, p0, q0, hargs, rfl, rfl, h0, r0⟩ := trodAll_cons hA
  obtain ⟨rfl, rfl, rfl⟩ := trodAll_nil r0
  obtain rfl : args = #[v0] := by cases args; simp_all
  obtain ⟨rfl, rfl⟩ := trodVars_none hV
  obtain ⟨a0, w0⟩ := openBytes (hval 0 22 v0 rfl rfl) h0
  refine (walk W v0 a0 w0).mono fun e W' ⟨he, hb⟩ => ?_
  subst he
  exact ⟨_, rfl, law_post laidOut (by kernel_rfl) rfl Try.underlying4 rfl rfl hW' hb⟩
theorem unf : Try.pinned.checked.prog.unfollowed 5 = true := by kernel_rfl
theorem inpl : Try.pinned.checked.prog.inPlace 5 = [] := by kernel_rfl
theorem vnam : Try.pinned.checked.prog.varsNamed 5 = [] := by kernel_rfl
theorem rec_ : Try.pinned.checked.prog.recurses 5 = true := by rw [Program.recurses, unf, Bool.true_or]
theorem over : Rows.fnProductRow.holds Try.pinned (OpenSpec.ofChange Rows.fnProductSpec) :=
  OpenClaim.holds_of_wide 5 Try.f5 rfl rfl rfl rfl rfl rfl rfl ⟨rfl, rfl, rfl, rfl, rfl⟩ rfl rfl rfl rfl rfl (by kernel_rfl) Try.func5 (by unfold joinedFacts; rw [seat_mayEnter, seat_lifts, seat_laidOut, seat_mapsRowed, unf, rec_, inpl, vnam]; kernel_rfl)
    (of_decide_eq_true (by kernel_rfl)) (by unfold Func.isWrapper; first | (rw [if_pos (by decide +kernel)]; kernel_rfl) | (rw [if_neg (by decide +kernel)]; exact ⟨rfl, rfl⟩))
    (fun os started H enc _ => lifted os started H enc)
theorem proved : Rows.FnProductSaid := over
end Go.Proofs.Ytallglnmeeahiaa.fnProduct

