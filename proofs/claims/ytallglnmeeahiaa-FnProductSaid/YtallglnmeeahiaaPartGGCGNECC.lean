/- Parts of the proof, joined into one text: ProdI, NextI, BothI, TurnI. -/
import Derived.Test.YtallglnmeeahiaaPartGEEOALPK
import Derived.Test.YtallglnmeeahiaaPartNBHFPOFO
import Derived.Test.YtallglnmeeahiaaPartDHAIKELB
import Derived.Test.YtallglnmeeahiaaPartKAOIFGGM
import Derived.Test.YtallglnmeeahiaaPartNBJMBDKF
/- The program's product: reads, arcs, bothOk, nextVertices. -/
namespace Go.Proofs.Ytallglnmeeahiaa
set_option linter.unusedVariables false
set_option linter.unusedSimpArgs false
open Go.ChangeShapes Go.WideShapes Go.ChangeAt Go.RowKit
attribute [local go_sem] ext_cell ext_frozen ext_lt ext_lt1 ext_lt2 ext_lt3 ltn2 ltn3 ltn13 lts1 lts2 lts3

/-- an arc as four cells -/
def cA (y : Arc) : List Value := [.int .i64 y.1.1, .bool y.1.2, .int .i64 y.2.1, .int .i64 y.2.2]
theorem cA_len (y : Arc) : (cA y).length = 4 := rfl
theorem cA_one (y : Arc) : ∀ u ∈ cA y, u.oneCell' = true := by intro u hu; simp only [cA, List.mem_cons, List.not_mem_nil, or_false] at hu; rcases hu with rfl | rfl | rfl | rfl <;> rfl

theorem reads_any (e : Ed) (b : Bool) (w : World) (h0 : 0 ≤ e.2.2.2) (h2 : e.2.2.2 ≤ 2) :
    Calls Try.prog 90 #[.agg #[.int .i64 e.1, .int .i64 e.2.1, .int .i64 e.2.2.1, .int .i64 e.2.2.2], .bool b] w fun en w' => en = .returned (.int .i64 (arcLetter b e)) ∧ Below w.heap.size w w' := by
  obtain ⟨a, f, t, l⟩ := e
  simp only at h0 h2 ⊢
  cases b
  all_goals
    go_enter Try.func90, Try.ntmps90
    go_wp2_with fail
    go_ret
    exact ⟨rfl, (Below.refl _ _).alloc (Nat.le_refl _) _⟩

theorem elArc : ElemOk Try.prog 81 85 (.agg #[.int .i64 0, .bool false, .int .i64 0, .int .i64 0]) 4 32 := ⟨Try.underlying81, by kernel_rfl, rfl, by omega⟩
theorem elArcs : ElemOk Try.prog 82 81 (.slice none 0 0) 1 24 := ⟨Try.underlying82, by kernel_rfl, rfl, by omega⟩
set_option maxHeartbeats 4000000 in
set_option maxRecDepth 100000 in
theorem arcs_any (v : Value) (g : Gr) (w : World) (hv : GrV 0 w.heap.size w v g) (hg : GrOk g) :
    Calls Try.prog 59 #[v] w fun e w' => ∃ v', e = .returned v' ∧ SSE w.heap.size w'.heap.size w' cA 4 v' ((List.range g.vals.length).map fun (x : Nat) => arcsOf g (x : Int)) ∧ Below w.heap.size w w' := by
  obtain ⟨A1, c1, A2, c2, rfl, hl1, hm1, hl2, hm2, hC1, hC2⟩ := hv.form
  have hn5 := hg.n5
  have he12 := hg.e12
  have HG := Lib.hid hg
  have HC2 := Lib.hid hC2
  clear hC1 hC2 hv hg
  obtain ⟨R, hR⟩ : ∃ R, R = (List.range g.vals.length).map fun (x : Nat) => arcsOf g (x : Int) := ⟨_, rfl⟩
  rw [← hR]
  have HR := Lib.hid hR
  clear hR
  go_enter Try.func59, Try.ntmps59
  go_wp2_with (at_make; refine wpList_makeE (P := Try.prog) cV (.slice none 0 0) elArcs rfl rfl rfl _ _ rfl (w.heap.size + 1) g.vals.length _ (by rfl) (by rfl) rfl (by omega) (by unfold maxLen; omega) (by simp) ?_; intro w1 hrow1 hbel1
               have b0 := (Blk.new w _ _ w.heap.size rfl).below hbel1 (by simp)
               have hb1 : Below w.heap.size w w1 := ((Below.refl _ _).alloc (Nat.le_refl _) _).trans (hbel1.mono (by simp))
               simp only [World.size_alloc] at hrow1 ⊢
               have hr1 := Rws.made (base := w.heap.size + 1) (α := Arc) (E := cA) (k := 4) (rT := 85) hrow1
               have HR1 := Lib.hid hr1
               have x0 : w1.cell? ⟨w.heap.size, 0, none⟩ = some (.slice A1 g.vals.length c1) := b0.cell 0
               have x1 : w1.cell? ⟨w.heap.size, 1, none⟩ = some (.slice A2 g.edges.length c2) := b0.cell 1
               clear hbel1 hrow1 b0 hr1)
  generalize hgb : w.heap.size + 1 = gb at *
  have hgw : w.heap.size < gb := by omega
  clear hgb
  go_loopw [13] (fun ii wr => ∃ (i : Nat) (hs : List Value), i ≤ g.edges.length ∧ ii = .int .i64 (i : Int) ∧ Rws wr gb 81 85 cA 4 gb hs (rowsTo g i) ∧ Below w.heap.size w wr) (fun ii _ => g.edges.length - (intOf ii).toNat)
  case atStart => exact ⟨0, _, Nat.zero_le _, rfl, by rw [rowsTo_zero]; exact HR1.out, hb1⟩
  case round =>
    obtain ⟨i, hs, hi, rfl, hrow, hbel⟩ := hrel
    clear hb1 HR1 x0 x1
    by_cases hlt : i < g.edges.length
    · have hei : g.edges[i]? = some g.edges[i] := List.getElem?_eq_getElem hlt
      have hge := HG.out.edges _ (List.getElem_mem hlt)
      generalize g.edges[i] = e at hei hge
      obtain ⟨-, ⟨hf0, hf1⟩, ⟨ht0, ht1⟩, hl0, hl2⟩ := hge
      obtain ⟨b, o, rfl, hb, q0, q1, q2, q3⟩ := HC2.out.ed hei
      have d0 := bcell hbel q0 hb
      have d1 := bcell hbel q1 hb
      have d2 := bcell hbel q2 hb
      have d3 := bcell hbel q3 hb
      have hbw := Nat.lt_of_lt_of_le hb hbel.size
      have HEI := Lib.hid hei
      clear hei q0 q1 q2 q3
      have hgl := hrow.gLt
      have hfh : e.2.1.toNat < hs.length := by rw [hrow.len, rowsTo_len]; omega
      have hhf : hs[e.2.1.toNat]? = some hs[e.2.1.toNat] := List.getElem?_eq_getElem hfh
      generalize hs[e.2.1.toNat] = hv1 at hhf
      have hx1 := rowsTo_at (g := g) (i := i) (x := e.2.1.toNat) (by omega)
      rw [Int.toNat_of_nonneg hf0] at hx1
      obtain ⟨eid, ef, et, el⟩ := e
      simp only at *
      have hfn : ef.toNat < g.vals.length := by omega
      obtain ⟨ef, rfl⟩ := Int.eq_ofNat_of_zero_le hf0
      obtain ⟨et, rfl⟩ := Int.eq_ofNat_of_zero_le ht0
      simp only [Int.toNat_natCast] at *
      have hfi : (ef : Int) < (g.vals.length : Int) := by omega
      have hti : (et : Int) < (g.vals.length : Int) := by omega
      have hcf := hrow.cell hhf
      have hff := hrow.frozen ef
      have HROW := Lib.hid hrow
      have HX1 := Lib.hid hx1
      have HHF := Lib.hid hhf
      have hfar := hrow.far _ _ hhf
      have HFAR := Lib.hid hfar
      have hgs := hgl.2
      have hlv : hs.length = g.vals.length := by rw [hrow.len, rowsTo_len]
      have hgv : gb < wr.heap.size := hgl.2
      have hsz := hbel.size
      clear hrow hx1 hhf hfar hgl hfh hlv
      go_wp2_with fail
      have e0 : (wr.alloc (.cells #[.int .i64 eid, .int .i64 (ef : Int), .int .i64 (et : Int), .int .i64 el] 90)).cell? ⟨wr.heap.size, 0, none⟩ = some (.int .i64 eid) := by simp
      have e1 : (wr.alloc (.cells #[.int .i64 eid, .int .i64 (ef : Int), .int .i64 (et : Int), .int .i64 el] 90)).cell? ⟨wr.heap.size, 1, none⟩ = some (.int .i64 (ef : Int)) := by simp
      have e2 : (wr.alloc (.cells #[.int .i64 eid, .int .i64 (ef : Int), .int .i64 (et : Int), .int .i64 el] 90)).cell? ⟨wr.heap.size, 2, none⟩ = some (.int .i64 (et : Int)) := by simp
      have e3 : (wr.alloc (.cells #[.int .i64 eid, .int .i64 (ef : Int), .int .i64 (et : Int), .int .i64 el] 90)).cell? ⟨wr.heap.size, 3, none⟩ = some (.int .i64 el) := by simp
      generalize hW : (wr.alloc (.cells #[.int .i64 eid, .int .i64 (ef : Int), .int .i64 (et : Int), .int .i64 el] 90)) = wE
      rw [hW] at e0 e1 e2 e3
      have hbE : Below wr.heap.size wr wE := by rw [← hW]; exact (Below.refl _ _).alloc (Nat.le_refl _) _
      have hcE : wE.cell? ⟨gb, ef, none⟩ = some hv1 := bcell hbE hcf hgs
      have hfE : wE.frozen? ⟨gb, ef, none⟩ = false := by rw [hbE.frozen (p := ⟨gb, ef, none⟩) hgs]; exact hff
      have hsE : wr.heap.size < wE.heap.size := by rw [← hW]; simp
      have hgE : gb < wE.heap.size := by omega
      have hgE1 : wr.heap.size ≠ gb := by omega
      have HRE := Lib.hid (HROW.out.below hbE)
      have HBE := Lib.hid (hbel.trans (hbE.mono hsz))
      have hne1 : some wr.heap.size ≠ hv1.ownBlock := fun h => by have := ((HROW.out.row ef hv1 _ HHF.out HX1.out).lt _ h.symm).2; omega
      have hne2 : some gb ≠ hv1.ownBlock := Ne.symm HFAR.out
      have hneR0 : ∀ (j : Nat) (h : Value), hs[j]? = some h → some wr.heap.size ≠ h.ownBlock := fun j h hj e9 => by
        have hjx : j < (rowsTo g i).length := by rw [← HROW.out.len]; exact (List.getElem?_eq_some_iff.1 hj).1
        have := ((HROW.out.row j h _ hj (List.getElem?_eq_getElem hjx)).lt _ e9.symm).2
        omega
      have HNER := Lib.hid hneR0
      clear hneR0
      have HRO := Lib.hid (HRE.out.row ef hv1 _ HHF.out HX1.out)
      have hrl : ((g.edges.take i).flatMap (arcE (ef : Int))).length ≤ 24 := by
        have h1 := flat_len (arcE_len (ef : Int)) (g.edges.take i)
        rw [List.length_take] at h1
        omega
      clear hW hbE hcf hff HROW hbel
      obtain ⟨row1, hrow1⟩ : ∃ row1, row1 = (g.edges.take i).flatMap (arcE (ef : Int)) := ⟨_, rfl⟩
      rw [← hrow1] at hrl HRO HX1
      have HROW1 := Lib.hid hrow1
      clear hrow1
      refine F_start 19 (fun w' => w'.cell? ⟨wr.heap.size, 0, none⟩ = some (.int .i64 eid) ∧ w'.cell? ⟨wr.heap.size, 1, none⟩ = some (.int .i64 (ef : Int)) ∧ w'.cell? ⟨wr.heap.size, 2, none⟩ = some (.int .i64 (et : Int)) ∧ w'.cell? ⟨wr.heap.size, 3, none⟩ = some (.int .i64 el) ∧ w'.cell? ⟨gb, ef, none⟩ = some hv1) (by kernel_rfl) (by exact ⟨e0, e1, e2, e3, hcE⟩) (fun hS inv => ?_)
      refine F_take (i := 0) (v := ?_) rfl (by kernel_rfl) (by kernel_rfl) (by kernel_rfl) (fun _ _ _ h => h) inv (Or.inl ⟨by rfl, ?_⟩) (by assumption) (fun invn => ?_)
      rotate_left
      · (intro w hSw; (try dsimp only at hSw); go_simp; try with_reducible rfl)
      try simp only [List.getElem_toArray, List.getElem_cons_zero, List.getElem_cons_succ, Act.put, List.setIfInBounds_toArray, List.set_cons_zero, List.set_cons_succ]
      clear inv
      have inv := invn
      clear invn
      refine F_take (i := 1) (v := ?_) rfl (by kernel_rfl) (by kernel_rfl) (by kernel_rfl) (fun _ _ _ h => h) inv (Or.inl ⟨by rfl, ?_⟩) (by assumption) (fun invn => ?_)
      rotate_left
      · (intro w hSw; (try dsimp only at hSw); go_simp; try with_reducible rfl)
      try simp only [List.getElem_toArray, List.getElem_cons_zero, List.getElem_cons_succ, Act.put, List.setIfInBounds_toArray, List.set_cons_zero, List.set_cons_succ]
      clear inv
      have inv := invn
      clear invn
      refine F_take (i := 2) (v := ?_) rfl (by kernel_rfl) (by kernel_rfl) (by kernel_rfl) (fun _ _ _ h => h) inv (Or.inl ⟨by rfl, ?_⟩) (by assumption) (fun invn => ?_)
      rotate_left
      · (intro w hSw; (try dsimp only at hSw); go_simp; try with_reducible rfl)
      try simp only [List.getElem_toArray, List.getElem_cons_zero, List.getElem_cons_succ, Act.put, List.setIfInBounds_toArray, List.set_cons_zero, List.set_cons_succ]
      clear inv
      have inv := invn
      clear invn
      refine F_take (i := 3) (v := ?_) rfl (by kernel_rfl) (by kernel_rfl) (by kernel_rfl) (fun _ _ _ h => h) inv (Or.inl ⟨by rfl, ?_⟩) (by assumption) (fun invn => ?_)
      rotate_left
      · (intro w hSw; (try dsimp only at hSw); go_simp; try with_reducible rfl)
      try simp only [List.getElem_toArray, List.getElem_cons_zero, List.getElem_cons_succ, Act.put, List.setIfInBounds_toArray, List.set_cons_zero, List.set_cons_succ]
      clear inv
      have inv := invn
      clear invn
      refine F_take (i := 4) (v := ?_) rfl (by kernel_rfl) (by kernel_rfl) (by kernel_rfl) (fun _ _ _ h => h) inv (Or.inl ⟨by rfl, ?_⟩) (by assumption) (fun invn => ?_)
      rotate_left
      · (intro w hSw; (try dsimp only at hSw); go_simp; try with_reducible rfl)
      try simp only [List.getElem_toArray, List.getElem_cons_zero, List.getElem_cons_succ, Act.put, List.setIfInBounds_toArray, List.set_cons_zero, List.set_cons_succ]
      clear inv
      have inv := invn
      clear invn
      refine F_take (i := 5) (v := ?_) rfl (by kernel_rfl) (by kernel_rfl) (by kernel_rfl) (fun _ _ _ h => h) inv (Or.inl ⟨by rfl, ?_⟩) (by assumption) (fun invn => ?_)
      rotate_left
      · (intro w hSw; (try dsimp only at hSw); go_simp; try with_reducible rfl)
      try simp only [List.getElem_toArray, List.getElem_cons_zero, List.getElem_cons_succ, Act.put, List.setIfInBounds_toArray, List.set_cons_zero, List.set_cons_succ]
      clear inv
      have inv := invn
      clear invn
      refine F_take (i := 6) (v := ?_) rfl (by kernel_rfl) (by kernel_rfl) (by kernel_rfl) (fun _ _ _ h => h) inv (Or.inl ⟨by rfl, ?_⟩) (by assumption) (fun invn => ?_)
      rotate_left
      · (intro w hSw; (try dsimp only at hSw); go_simp; try with_reducible rfl)
      try simp only [List.getElem_toArray, List.getElem_cons_zero, List.getElem_cons_succ, Act.put, List.setIfInBounds_toArray, List.set_cons_zero, List.set_cons_succ]
      clear inv
      have inv := invn
      clear invn
      refine F_take (i := 7) (v := ?_) rfl (by kernel_rfl) (by kernel_rfl) (by kernel_rfl) (fun _ _ _ h => h) inv (Or.inl ⟨by rfl, ?_⟩) (by assumption) (fun invn => ?_)
      rotate_left
      · (intro w hSw; (try dsimp only at hSw); go_simp; try with_reducible rfl)
      try simp only [List.getElem_toArray, List.getElem_cons_zero, List.getElem_cons_succ, Act.put, List.setIfInBounds_toArray, List.set_cons_zero, List.set_cons_succ]
      clear inv
      have inv := invn
      clear invn
      refine F_take (i := 8) (v := ?_) rfl (by kernel_rfl) (by kernel_rfl) (by kernel_rfl) (fun _ _ _ h => h) inv (Or.inl ⟨by rfl, ?_⟩) (by assumption) (fun invn => ?_)
      rotate_left
      · (intro w hSw; (try dsimp only at hSw); go_simp; try with_reducible rfl)
      try simp only [List.getElem_toArray, List.getElem_cons_zero, List.getElem_cons_succ, Act.put, List.setIfInBounds_toArray, List.set_cons_zero, List.set_cons_succ]
      clear inv
      have inv := invn
      clear invn
      refine F_take (i := 9) (v := ?_) rfl (by kernel_rfl) (by kernel_rfl) (by kernel_rfl) (fun _ _ _ h => h) inv (Or.inl ⟨by rfl, ?_⟩) (by assumption) (fun invn => ?_)
      rotate_left
      · (intro w hSw; (try dsimp only at hSw); go_simp; try with_reducible rfl)
      try simp only [List.getElem_toArray, List.getElem_cons_zero, List.getElem_cons_succ, Act.put, List.setIfInBounds_toArray, List.set_cons_zero, List.set_cons_succ]
      clear inv
      have inv := invn
      clear invn
      refine F_take (i := 10) (v := ?_) rfl (by kernel_rfl) (by kernel_rfl) (by kernel_rfl) (fun _ _ _ h => h) inv (Or.inl ⟨by rfl, ?_⟩) (by assumption) (fun invn => ?_)
      rotate_left
      · (intro w hSw; (try dsimp only at hSw); go_simp; try with_reducible rfl)
      try simp only [List.getElem_toArray, List.getElem_cons_zero, List.getElem_cons_succ, Act.put, List.setIfInBounds_toArray, List.set_cons_zero, List.set_cons_succ]
      clear inv
      have inv := invn
      clear invn
      refine F_take (i := 11) (v := ?_) rfl (by kernel_rfl) (by kernel_rfl) (by kernel_rfl) (fun _ _ _ h => h) inv (Or.inl ⟨by rfl, ?_⟩) (by assumption) (fun invn => ?_)
      rotate_left
      · (intro w hSw; (try dsimp only at hSw); go_simp; try with_reducible rfl)
      try simp only [List.getElem_toArray, List.getElem_cons_zero, List.getElem_cons_succ, Act.put, List.setIfInBounds_toArray, List.set_cons_zero, List.set_cons_succ]
      clear inv
      have inv := invn
      clear invn
      refine F_take (i := 13) (v := ?_) rfl (by kernel_rfl) (by kernel_rfl) (by kernel_rfl) (fun _ _ _ h => h) inv (Or.inl ⟨by rfl, ?_⟩) (by assumption) (fun invn => ?_)
      rotate_left
      · (intro w hSw; (try dsimp only at hSw); go_simp; try with_reducible rfl)
      try simp only [List.getElem_toArray, List.getElem_cons_zero, List.getElem_cons_succ, Act.put, List.setIfInBounds_toArray, List.set_cons_zero, List.set_cons_succ]
      clear inv
      have inv := invn
      clear invn
      refine F_take (i := 14) (v := ?_) rfl (by kernel_rfl) (by kernel_rfl) (by kernel_rfl) (fun _ _ _ h => h) inv (Or.inl ⟨by rfl, ?_⟩) (by assumption) (fun invn => ?_)
      rotate_left
      · (intro w hSw; (try dsimp only at hSw); go_simp; try with_reducible rfl)
      try simp only [List.getElem_toArray, List.getElem_cons_zero, List.getElem_cons_succ, Act.put, List.setIfInBounds_toArray, List.set_cons_zero, List.set_cons_succ]
      clear inv
      have inv := invn
      clear invn
      refine F_one (i := 12) (by kernel_rfl) rfl rfl (by omega) inv (fun K hK => ?_)
      try simp only [List.getElem_toArray, List.getElem_cons_zero, List.getElem_cons_succ]
      go_simp
      refine (reads_any (eid, (ef : Int), (et : Int), el) false _ hl0 hl2).mono ?_
      rintro en wR ⟨rfl, hbR⟩
      have hbR := below_trans (Below.refl wE.heap.size wE).drew hbR
      have hcR := kcell hbR hcE
      have hfR := kfb hbR hcE hfE
      have hsR := hbR.size
      have HRX := Lib.hid (ownsRow_below HRO.out hbR (Nat.le_refl _))
      refine hK.out _ _ (kB5 hbR ⟨e0, e1, e2, e3, hcE⟩) (fun hSn invn => ?_)
      try simp only [List.getElem_toArray, List.getElem_cons_zero, List.getElem_cons_succ, Act.put, List.setIfInBounds_toArray, List.set_cons_zero, List.set_cons_succ]
      clear hK K inv hS
      have inv := invn
      have hS := hSn
      clear invn hSn
      refine F_take (i := 15) (v := ?_) rfl (by kernel_rfl) (by kernel_rfl) (by kernel_rfl) (fun _ _ _ h => h) inv (Or.inl ⟨by rfl, ?_⟩) (by assumption) (fun invn => ?_)
      rotate_left
      · (intro w hSw; (try dsimp only at hSw); go_simp; try with_reducible rfl)
      try simp only [List.getElem_toArray, List.getElem_cons_zero, List.getElem_cons_succ, Act.put, List.setIfInBounds_toArray, List.set_cons_zero, List.set_cons_succ]
      clear inv
      have inv := invn
      clear invn
      refine F_one (i := 16) (by kernel_rfl) rfl rfl (by omega) inv (fun K hK => ?_)
      try simp only [List.getElem_toArray, List.getElem_cons_zero, List.getElem_cons_succ]
      go_simp
      refine hK.out _ _ (kA5 _ hS) (fun hSn invn => ?_)
      try simp only [List.getElem_toArray, List.getElem_cons_zero, List.getElem_cons_succ, Act.put, List.setIfInBounds_toArray, List.set_cons_zero, List.set_cons_succ]
      clear hK K inv hS
      have inv := invn
      have hS := hSn
      clear invn hSn
      refine F_one (i := 17) (by kernel_rfl) rfl rfl (by omega) inv (fun K hK => ?_)
      try simp only [List.getElem_toArray, List.getElem_cons_zero, List.getElem_cons_succ]
      refine op_append1 cA elArc rfl _ _ (by rfl) gb hv1 row1 ((eid, false), arcLetter false (eid, (ef : Int), (et : Int), el), (et : Int)) 1 _ (by rfl) (HRX.out.alloc _) (by rfl) (heap_alloc_new _ _) rfl (cA_one _) (by omega) (by omega) (by simp; omega) ?_
      intro g2 cp2 w3 hown3 hgr3 hat3 hlt3
      have HO3 := Lib.hid hown3
      have HG3 := Lib.hid hgr3
      have HA3 := Lib.hid hat3
      clear hown3 hgr3 hat3
      refine hK.out _ _ (kG5 HG3.out hne1 hne1 hne1 hne1 hne2 hS) (fun hSn invn => ?_)
      try simp only [List.getElem_toArray, List.getElem_cons_zero, List.getElem_cons_succ, Act.put, List.setIfInBounds_toArray, List.set_cons_zero, List.set_cons_succ]
      clear hK K inv hS
      have inv := invn
      have hS := hSn
      clear invn hSn
      refine F_take (i := 18) (v := ?_) rfl (by kernel_rfl) (by kernel_rfl) (by kernel_rfl) (fun _ _ _ h => h) inv (Or.inl ⟨by rfl, ?_⟩) (by assumption) (fun invn => ?_)
      rotate_left
      · (intro w hSw; (try dsimp only at hSw); go_simp; try with_reducible rfl)
      try simp only [List.getElem_toArray, List.getElem_cons_zero, List.getElem_cons_succ, Act.put, List.setIfInBounds_toArray, List.set_cons_zero, List.set_cons_succ]
      clear inv
      have inv := invn
      clear invn
      have hcz := HG3.out.cell (kcell ((Below.refl _ _).alloc (Nat.le_refl _) _) hcR) hne2
      have hfz := kfg HG3.out (p := ⟨gb, ef, none⟩) hne2 (kcell ((Below.refl _ _).alloc (Nat.le_refl _) _) hcR) (kfb ((Below.refl _ _).alloc (Nat.le_refl _) _) hcR hfR)
      refine F_last (i := 19) (by kernel_rfl) rfl rfl (by omega) (by kernel_rfl) (fun K hK => ?_)
      go_simp
      refine hK _ _ ?_
      clear hK K inv hS
      have hbA : Below wE.heap.size wE (wR.alloc (.cells #[.int .i64 eid, .bool false, .int .i64 (arcLetter false (eid, (ef : Int), (et : Int), el)), .int .i64 (et : Int)] 85)) := hbR.alloc hsR _
      have hrF := Rws.push (HRE.out.below hbA) HHF.out HX1.out HO3.out HG3.out rfl HA3.out
      have hbF : Below w.heap.size w (w3.setCell ⟨gb, ef, none⟩ (.slice (some ⟨g2, 0, none⟩) (row1.length + 1) cp2)) :=
        ((HBE.out.trans (hbA.mono HBE.out.size)).grown HG3.out (Nat.le_trans HBE.out.size hbA.size) (fun b hb => by have := (HRX.out.lt b hb).1; omega)).setCell (by simp only; omega) _
      have f0 := (World.cell?_setCell_far w3 ⟨gb, ef, none⟩ ⟨wr.heap.size, 0, none⟩ (.slice (some ⟨g2, 0, none⟩) (row1.length + 1) cp2) (Ne.symm hgE1)).trans (HG3.out.cell (kcell hbA e0) hne1)
      have f1 := (World.cell?_setCell_far w3 ⟨gb, ef, none⟩ ⟨wr.heap.size, 1, none⟩ (.slice (some ⟨g2, 0, none⟩) (row1.length + 1) cp2) (Ne.symm hgE1)).trans (HG3.out.cell (kcell hbA e1) hne1)
      have f2 := (World.cell?_setCell_far w3 ⟨gb, ef, none⟩ ⟨wr.heap.size, 2, none⟩ (.slice (some ⟨g2, 0, none⟩) (row1.length + 1) cp2) (Ne.symm hgE1)).trans (HG3.out.cell (kcell hbA e2) hne1)
      have f3 := (World.cell?_setCell_far w3 ⟨gb, ef, none⟩ ⟨wr.heap.size, 3, none⟩ (.slice (some ⟨g2, 0, none⟩) (row1.length + 1) cp2) (Ne.symm hgE1)).trans (HG3.out.cell (kcell hbA e3) hne1)
      have hg23 : some wr.heap.size ≠ (Value.slice (some ⟨g2, 0, none⟩) (row1.length + 1) cp2).ownBlock := by
        simp only [Value.ownBlock, ne_eq, Option.some.injEq]
        intro e9; subst e9
        rcases HA3.out with h9 | h9
        · exact hne1 h9.symm
        · have := hbA.size; omega
      rw [show (rowsTo g i).set ef (row1 ++ [((eid, false), arcLetter false (eid, (ef : Int), (et : Int), el), (et : Int))]) = rowFrom g i (eid, (ef : Int), (et : Int), el) by rw [HROW1.out]; rfl] at hrF
      generalize (w3.setCell ⟨gb, ef, none⟩ (.slice (some ⟨g2, 0, none⟩) (row1.length + 1) cp2)) = wF at *
      have hethF : et < (hs.set ef (.slice (some ⟨g2, 0, none⟩) (row1.length + 1) cp2)).length := by rw [List.length_set, HRE.out.len, rowsTo_len]; omega
      have hhb : (hs.set ef (.slice (some ⟨g2, 0, none⟩) (row1.length + 1) cp2))[et]? = some (hs.set ef (.slice (some ⟨g2, 0, none⟩) (row1.length + 1) cp2))[et] := List.getElem?_eq_getElem hethF
      generalize (hs.set ef (.slice (some ⟨g2, 0, none⟩) (row1.length + 1) cp2))[et] = hv2 at hhb
      have hx2 : (rowFrom g i (eid, (ef : Int), (et : Int), el))[et]? = some (rowBack g i (eid, (ef : Int), (et : Int), el)) := by have := rowFrom_at (g := g) (i := i) (e := (eid, (ef : Int), (et : Int), el)) (by simp only; omega) (by simp only; omega) (by simp only; omega) (by simp only; omega); simpa using this
      have hne3 : some wr.heap.size ≠ hv2.ownBlock := by
        rw [List.getElem?_set] at hhb
        split at hhb
        · split at hhb
          · injection hhb with hhb; rw [← hhb]; exact hg23
          · cases hhb
        · exact HNER.out et hv2 hhb
      have hne4 : some gb ≠ hv2.ownBlock := Ne.symm (hrF.far _ _ hhb)
      have hcF := hrF.cell hhb
      have hfF := hrF.frozen et
      have hgF := hrF.gLt.2
      have HRO2 := Lib.hid (hrF.row et hv2 _ hhb hx2)
      have hlq : wr.heap.size < wF.heap.size := World.block_lt_of_cell? wF _ f0
      have hrl2 : (rowBack g i (eid, (ef : Int), (et : Int), el)).length ≤ 25 := by
        have h1 := flat_len (arcE_len (et : Int)) (g.edges.take i)
        rw [List.length_take] at h1
        unfold rowBack
        rw [List.length_append]
        split
        · simp only [List.length_singleton]; omega
        · simp only [List.length_nil]; omega
      have HHB := Lib.hid hhb
      have HX2 := Lib.hid hx2
      have HRF := Lib.hid hrF
      have HBF := Lib.hid hbF
      clear hhb hx2 hrF hbF hbA hethF
      obtain ⟨row2, hrow2⟩ : ∃ row2, row2 = rowBack g i (eid, (ef : Int), (et : Int), el) := ⟨_, rfl⟩
      rw [← hrow2] at hrl2 HRO2 HX2
      have HROW2 := Lib.hid hrow2
      clear hrow2 hcz hfz hbR hcR hfR hsR HRX HO3 HG3 HA3 e0 e1 e2 e3 hcE hfE hsE hgE HRE HBE hne1 hne2 HRO hrl HNER hg23 hlt3
      go_wp2_with fail
      refine F_start 19 (fun w' => w'.cell? ⟨wr.heap.size, 0, none⟩ = some (.int .i64 eid) ∧ w'.cell? ⟨wr.heap.size, 1, none⟩ = some (.int .i64 (ef : Int)) ∧ w'.cell? ⟨wr.heap.size, 2, none⟩ = some (.int .i64 (et : Int)) ∧ w'.cell? ⟨wr.heap.size, 3, none⟩ = some (.int .i64 el) ∧ w'.cell? ⟨gb, et, none⟩ = some hv2) (by kernel_rfl) (by exact ⟨f0, f1, f2, f3, hcF⟩) (fun hS inv => ?_)
      refine F_take (i := 0) (v := ?_) rfl (by kernel_rfl) (by kernel_rfl) (by kernel_rfl) (fun _ _ _ h => h) inv (Or.inl ⟨by rfl, ?_⟩) (by assumption) (fun invn => ?_)
      rotate_left
      · (intro w hSw; (try dsimp only at hSw); go_simp; try with_reducible rfl)
      try simp only [List.getElem_toArray, List.getElem_cons_zero, List.getElem_cons_succ, Act.put, List.setIfInBounds_toArray, List.set_cons_zero, List.set_cons_succ]
      clear inv
      have inv := invn
      clear invn
      refine F_take (i := 1) (v := ?_) rfl (by kernel_rfl) (by kernel_rfl) (by kernel_rfl) (fun _ _ _ h => h) inv (Or.inl ⟨by rfl, ?_⟩) (by assumption) (fun invn => ?_)
      rotate_left
      · (intro w hSw; (try dsimp only at hSw); go_simp; try with_reducible rfl)
      try simp only [List.getElem_toArray, List.getElem_cons_zero, List.getElem_cons_succ, Act.put, List.setIfInBounds_toArray, List.set_cons_zero, List.set_cons_succ]
      clear inv
      have inv := invn
      clear invn
      refine F_take (i := 2) (v := ?_) rfl (by kernel_rfl) (by kernel_rfl) (by kernel_rfl) (fun _ _ _ h => h) inv (Or.inl ⟨by rfl, ?_⟩) (by assumption) (fun invn => ?_)
      rotate_left
      · (intro w hSw; (try dsimp only at hSw); go_simp; try with_reducible rfl)
      try simp only [List.getElem_toArray, List.getElem_cons_zero, List.getElem_cons_succ, Act.put, List.setIfInBounds_toArray, List.set_cons_zero, List.set_cons_succ]
      clear inv
      have inv := invn
      clear invn
      refine F_take (i := 3) (v := ?_) rfl (by kernel_rfl) (by kernel_rfl) (by kernel_rfl) (fun _ _ _ h => h) inv (Or.inl ⟨by rfl, ?_⟩) (by assumption) (fun invn => ?_)
      rotate_left
      · (intro w hSw; (try dsimp only at hSw); go_simp; try with_reducible rfl)
      try simp only [List.getElem_toArray, List.getElem_cons_zero, List.getElem_cons_succ, Act.put, List.setIfInBounds_toArray, List.set_cons_zero, List.set_cons_succ]
      clear inv
      have inv := invn
      clear invn
      refine F_take (i := 4) (v := ?_) rfl (by kernel_rfl) (by kernel_rfl) (by kernel_rfl) (fun _ _ _ h => h) inv (Or.inl ⟨by rfl, ?_⟩) (by assumption) (fun invn => ?_)
      rotate_left
      · (intro w hSw; (try dsimp only at hSw); go_simp; try with_reducible rfl)
      try simp only [List.getElem_toArray, List.getElem_cons_zero, List.getElem_cons_succ, Act.put, List.setIfInBounds_toArray, List.set_cons_zero, List.set_cons_succ]
      clear inv
      have inv := invn
      clear invn
      refine F_take (i := 5) (v := ?_) rfl (by kernel_rfl) (by kernel_rfl) (by kernel_rfl) (fun _ _ _ h => h) inv (Or.inl ⟨by rfl, ?_⟩) (by assumption) (fun invn => ?_)
      rotate_left
      · (intro w hSw; (try dsimp only at hSw); go_simp; try with_reducible rfl)
      try simp only [List.getElem_toArray, List.getElem_cons_zero, List.getElem_cons_succ, Act.put, List.setIfInBounds_toArray, List.set_cons_zero, List.set_cons_succ]
      clear inv
      have inv := invn
      clear invn
      refine F_take (i := 6) (v := ?_) rfl (by kernel_rfl) (by kernel_rfl) (by kernel_rfl) (fun _ _ _ h => h) inv (Or.inl ⟨by rfl, ?_⟩) (by assumption) (fun invn => ?_)
      rotate_left
      · (intro w hSw; (try dsimp only at hSw); go_simp; try with_reducible rfl)
      try simp only [List.getElem_toArray, List.getElem_cons_zero, List.getElem_cons_succ, Act.put, List.setIfInBounds_toArray, List.set_cons_zero, List.set_cons_succ]
      clear inv
      have inv := invn
      clear invn
      refine F_take (i := 7) (v := ?_) rfl (by kernel_rfl) (by kernel_rfl) (by kernel_rfl) (fun _ _ _ h => h) inv (Or.inl ⟨by rfl, ?_⟩) (by assumption) (fun invn => ?_)
      rotate_left
      · (intro w hSw; (try dsimp only at hSw); go_simp; try with_reducible rfl)
      try simp only [List.getElem_toArray, List.getElem_cons_zero, List.getElem_cons_succ, Act.put, List.setIfInBounds_toArray, List.set_cons_zero, List.set_cons_succ]
      clear inv
      have inv := invn
      clear invn
      refine F_take (i := 8) (v := ?_) rfl (by kernel_rfl) (by kernel_rfl) (by kernel_rfl) (fun _ _ _ h => h) inv (Or.inl ⟨by rfl, ?_⟩) (by assumption) (fun invn => ?_)
      rotate_left
      · (intro w hSw; (try dsimp only at hSw); go_simp; try with_reducible rfl)
      try simp only [List.getElem_toArray, List.getElem_cons_zero, List.getElem_cons_succ, Act.put, List.setIfInBounds_toArray, List.set_cons_zero, List.set_cons_succ]
      clear inv
      have inv := invn
      clear invn
      refine F_take (i := 9) (v := ?_) rfl (by kernel_rfl) (by kernel_rfl) (by kernel_rfl) (fun _ _ _ h => h) inv (Or.inl ⟨by rfl, ?_⟩) (by assumption) (fun invn => ?_)
      rotate_left
      · (intro w hSw; (try dsimp only at hSw); go_simp; try with_reducible rfl)
      try simp only [List.getElem_toArray, List.getElem_cons_zero, List.getElem_cons_succ, Act.put, List.setIfInBounds_toArray, List.set_cons_zero, List.set_cons_succ]
      clear inv
      have inv := invn
      clear invn
      refine F_take (i := 10) (v := ?_) rfl (by kernel_rfl) (by kernel_rfl) (by kernel_rfl) (fun _ _ _ h => h) inv (Or.inl ⟨by rfl, ?_⟩) (by assumption) (fun invn => ?_)
      rotate_left
      · (intro w hSw; (try dsimp only at hSw); go_simp; try with_reducible rfl)
      try simp only [List.getElem_toArray, List.getElem_cons_zero, List.getElem_cons_succ, Act.put, List.setIfInBounds_toArray, List.set_cons_zero, List.set_cons_succ]
      clear inv
      have inv := invn
      clear invn
      refine F_take (i := 11) (v := ?_) rfl (by kernel_rfl) (by kernel_rfl) (by kernel_rfl) (fun _ _ _ h => h) inv (Or.inl ⟨by rfl, ?_⟩) (by assumption) (fun invn => ?_)
      rotate_left
      · (intro w hSw; (try dsimp only at hSw); go_simp; try with_reducible rfl)
      try simp only [List.getElem_toArray, List.getElem_cons_zero, List.getElem_cons_succ, Act.put, List.setIfInBounds_toArray, List.set_cons_zero, List.set_cons_succ]
      clear inv
      have inv := invn
      clear invn
      refine F_take (i := 13) (v := ?_) rfl (by kernel_rfl) (by kernel_rfl) (by kernel_rfl) (fun _ _ _ h => h) inv (Or.inl ⟨by rfl, ?_⟩) (by assumption) (fun invn => ?_)
      rotate_left
      · (intro w hSw; (try dsimp only at hSw); go_simp; try with_reducible rfl)
      try simp only [List.getElem_toArray, List.getElem_cons_zero, List.getElem_cons_succ, Act.put, List.setIfInBounds_toArray, List.set_cons_zero, List.set_cons_succ]
      clear inv
      have inv := invn
      clear invn
      refine F_take (i := 14) (v := ?_) rfl (by kernel_rfl) (by kernel_rfl) (by kernel_rfl) (fun _ _ _ h => h) inv (Or.inl ⟨by rfl, ?_⟩) (by assumption) (fun invn => ?_)
      rotate_left
      · (intro w hSw; (try dsimp only at hSw); go_simp; try with_reducible rfl)
      try simp only [List.getElem_toArray, List.getElem_cons_zero, List.getElem_cons_succ, Act.put, List.setIfInBounds_toArray, List.set_cons_zero, List.set_cons_succ]
      clear inv
      have inv := invn
      clear invn
      refine F_one (i := 12) (by kernel_rfl) rfl rfl (by omega) inv (fun K hK => ?_)
      try simp only [List.getElem_toArray, List.getElem_cons_zero, List.getElem_cons_succ]
      go_simp
      refine (reads_any (eid, (ef : Int), (et : Int), el) true _ hl0 hl2).mono ?_
      rintro en wS ⟨rfl, hbR⟩
      have hbR := below_trans (Below.refl wF.heap.size wF).drew hbR
      have hcR := kcell hbR hcF
      have hfR := kfb hbR hcF hfF
      have hsR := hbR.size
      have HRX := Lib.hid (ownsRow_below HRO2.out hbR (Nat.le_refl _))
      refine hK.out _ _ (kB5 hbR ⟨f0, f1, f2, f3, hcF⟩) (fun hSn invn => ?_)
      try simp only [List.getElem_toArray, List.getElem_cons_zero, List.getElem_cons_succ, Act.put, List.setIfInBounds_toArray, List.set_cons_zero, List.set_cons_succ]
      clear hK K inv hS
      have inv := invn
      have hS := hSn
      clear invn hSn
      refine F_take (i := 15) (v := ?_) rfl (by kernel_rfl) (by kernel_rfl) (by kernel_rfl) (fun _ _ _ h => h) inv (Or.inl ⟨by rfl, ?_⟩) (by assumption) (fun invn => ?_)
      rotate_left
      · (intro w hSw; (try dsimp only at hSw); go_simp; try with_reducible rfl)
      try simp only [List.getElem_toArray, List.getElem_cons_zero, List.getElem_cons_succ, Act.put, List.setIfInBounds_toArray, List.set_cons_zero, List.set_cons_succ]
      clear inv
      have inv := invn
      clear invn
      refine F_one (i := 16) (by kernel_rfl) rfl rfl (by omega) inv (fun K hK => ?_)
      try simp only [List.getElem_toArray, List.getElem_cons_zero, List.getElem_cons_succ]
      go_simp
      refine hK.out _ _ (kA5 _ hS) (fun hSn invn => ?_)
      try simp only [List.getElem_toArray, List.getElem_cons_zero, List.getElem_cons_succ, Act.put, List.setIfInBounds_toArray, List.set_cons_zero, List.set_cons_succ]
      clear hK K inv hS
      have inv := invn
      have hS := hSn
      clear invn hSn
      refine F_one (i := 17) (by kernel_rfl) rfl rfl (by omega) inv (fun K hK => ?_)
      try simp only [List.getElem_toArray, List.getElem_cons_zero, List.getElem_cons_succ]
      refine op_append1 cA elArc rfl _ _ (by rfl) gb hv2 row2 ((eid, true), arcLetter true (eid, (ef : Int), (et : Int), el), (ef : Int)) 1 _ (by rfl) (HRX.out.alloc _) (by rfl) (heap_alloc_new _ _) rfl (cA_one _) (by omega) (by omega) (by simp; omega) ?_
      intro g3 cp3 w4 hown3 hgr3 hat3 hlt3
      have HO3 := Lib.hid hown3
      have HG3 := Lib.hid hgr3
      have HA3 := Lib.hid hat3
      clear hown3 hgr3 hat3
      refine hK.out _ _ (kG5 HG3.out hne3 hne3 hne3 hne3 hne4 hS) (fun hSn invn => ?_)
      try simp only [List.getElem_toArray, List.getElem_cons_zero, List.getElem_cons_succ, Act.put, List.setIfInBounds_toArray, List.set_cons_zero, List.set_cons_succ]
      clear hK K inv hS
      have inv := invn
      have hS := hSn
      clear invn hSn
      refine F_take (i := 18) (v := ?_) rfl (by kernel_rfl) (by kernel_rfl) (by kernel_rfl) (fun _ _ _ h => h) inv (Or.inl ⟨by rfl, ?_⟩) (by assumption) (fun invn => ?_)
      rotate_left
      · (intro w hSw; (try dsimp only at hSw); go_simp; try with_reducible rfl)
      try simp only [List.getElem_toArray, List.getElem_cons_zero, List.getElem_cons_succ, Act.put, List.setIfInBounds_toArray, List.set_cons_zero, List.set_cons_succ]
      clear inv
      have inv := invn
      clear invn
      have hcz := HG3.out.cell (kcell ((Below.refl _ _).alloc (Nat.le_refl _) _) hcR) hne4
      have hfz := kfg HG3.out (p := ⟨gb, et, none⟩) hne4 (kcell ((Below.refl _ _).alloc (Nat.le_refl _) _) hcR) (kfb ((Below.refl _ _).alloc (Nat.le_refl _) _) hcR hfR)
      refine F_last (i := 19) (by kernel_rfl) rfl rfl (by omega) (by kernel_rfl) (fun K hK => ?_)
      go_simp
      refine hK _ _ ?_
      clear hK K inv hS
      have hbA : Below wF.heap.size wF (wS.alloc (.cells #[.int .i64 eid, .bool true, .int .i64 (arcLetter true (eid, (ef : Int), (et : Int), el)), .int .i64 (ef : Int)] 85)) := hbR.alloc hsR _
      have hrG := Rws.push (HRF.out.below hbA) HHB.out HX2.out HO3.out HG3.out rfl HA3.out
      have hbG : Below w.heap.size w (w4.setCell ⟨gb, et, none⟩ (.slice (some ⟨g3, 0, none⟩) (row2.length + 1) cp3)) :=
        ((HBF.out.trans (hbA.mono HBF.out.size)).grown HG3.out (Nat.le_trans HBF.out.size hbA.size) (fun b hb => by have := (HRX.out.lt b hb).1; omega)).setCell (by simp only; omega) _
      have hpush := rowsTo_push (g := g) HEI.out (by simp only; omega) (by simp only; omega) (by simp only; omega) (by simp only; omega)
      simp only [Int.toNat_natCast] at hpush
      rw [HROW2.out, hpush] at hrG
      have HRG := Lib.hid hrG
      have HBG := Lib.hid hbG
      clear hrG hbG hbA hpush hcz hfz hbR hcR hfR
      rw [← HROW2.out] at HRG
      go_wp2_with fail
      go_roundw
      case rel => exact ⟨i + 1, _, by omega, by go_num, HRG.out, HBG.out⟩
      case measure => simp [intOf]; omega
    · obtain rfl : i = g.edges.length := by omega
      have hs1 := hrow.sse cA_len (lo := w.heap.size) (by omega) (by omega)
      have hln : hs.length = g.vals.length := by rw [hrow.len, rowsTo_len]
      rw [rowsTo_all, hln] at hs1
      have HS1 := Lib.hid hs1
      clear hrow hs1 hln
      go_wp2_with fail
      go_ret
      exact ⟨_, rfl, by rw [HR.out]; exact HS1.out, hbel⟩
end Go.Proofs.Ytallglnmeeahiaa

/- The program's nextVertices: the vertices behind each vertex of the product. -/
namespace Go.Proofs.Ytallglnmeeahiaa
set_option linter.unusedVariables false
set_option linter.unusedSimpArgs false
open Go.ChangeShapes Go.WideShapes Go.ChangeAt Go.RowKit
attribute [local go_sem] ext_cell ext_frozen ext_lt ext_lt1 ext_lt2 ext_lt3 ltn2 ltn3 ltn13 lts1 lts2 lts3

theorem SlI.arc {lo hi : Nat} {w : World} {A : Option Addr} {n c : Nat} {xs : List Arc} (h : SlI lo hi w cA 4 (.slice A n c) xs) {i : Nat} {y : Arc} (hx : xs[i]? = some y) :
    ∃ b o, A = some ⟨b, o, none⟩ ∧ lo ≤ b ∧ b < hi ∧ w.cell? ⟨b, o + i * 4, none⟩ = some (.int .i64 y.1.1) ∧ w.cell? ⟨b, o + i * 4 + 1, none⟩ = some (.bool y.1.2) ∧ w.cell? ⟨b, o + i * 4 + 2, none⟩ = some (.int .i64 y.2.1) ∧ w.cell? ⟨b, o + i * 4 + 3, none⟩ = some (.int .i64 y.2.2) := by
  obtain ⟨A', c', hv, _, _, h3⟩ := h
  injection hv with h1 _ _
  subst h1
  obtain ⟨b, o, e, g1, g2, hc⟩ := h3 i y hx
  exact ⟨b, o, e, g1, g2, by simpa using hc 0 _ rfl, hc 1 _ rfl, hc 2 _ rfl, hc 3 _ rfl⟩
theorem elInts : ElemOk Try.prog 25 30 (.slice none 0 0) 1 24 := ⟨Try.underlying25, by kernel_rfl, rfl, by omega⟩
set_option maxHeartbeats 8000000 in
set_option maxRecDepth 100000 in
theorem nextVertices_any (vg va : Value) (g : Gr) (a : Au) (w : World) (hgv : GrV 0 w.heap.size w vg g) (hav : AuV 0 w.heap.size w va a) (hg : GrOk g) (ha : auOk a = true) :
    Calls Try.prog 68 #[vg, va] w fun e w' => ∃ v', e = .returned v' ∧ SSE w.heap.size w'.heap.size w' cN 1 v' ((List.range (g.vals.length * a.accept.length)).map (nextI g a)) ∧ Below w.heap.size w w' := by
  have hgv0 := hgv
  have hav0 := hav
  obtain ⟨A1, c1, A2, c2, rfl, hl1, hm1, hl2, hm2, hC1, -⟩ := hgv.form
  obtain ⟨A3, c3, A4, c4, rfl, hl3, hm3, hl4, hm4, -⟩ := hav.form ha
  have hn5 := hg.n5
  have hn12 := (auOk_iff.1 ha).1.2
  have hn1 := (auOk_iff.1 ha).1.1
  have HGO := Lib.hid hg
  have HAO := Lib.hid ha
  have HGV := Lib.hid hgv0
  have HAV := Lib.hid hav0
  have HC1 := Lib.hid hC1
  clear hgv hav hgv0 hav0 hg ha hC1
  obtain ⟨R, hR⟩ : ∃ R, R = (List.range (g.vals.length * a.accept.length)).map (nextI g a) := ⟨_, rfl⟩
  rw [← hR]
  have HR := Lib.hid hR
  clear hR
  have hNm : g.vals.length * a.accept.length ≤ 60 := by have := Nat.mul_le_mul hn5 hn12; omega
  obtain ⟨N, hN⟩ : ∃ N, N = g.vals.length * a.accept.length := ⟨_, rfl⟩
  rw [← hN] at hNm
  have q0 : IntKind.i64.wrap ((a.accept.length : Int) * (g.vals.length : Int)) = (N : Int) := by rw [IntWalk.i64_in _ (by rw [Int.mul_comm, ← Int.natCast_mul, ← hN]; omega)]; rw [hN, Int.natCast_mul, Int.mul_comm]
  have q0' : (a.accept.length : Int) * (g.vals.length : Int) = (N : Int) := by rw [hN, Int.natCast_mul, Int.mul_comm]
  have HN := Lib.hid hN
  clear hN
  have hb0 : Below w.heap.size w ((w.alloc (.cells #[.slice A1 g.vals.length c1, .slice A2 g.edges.length c2] 38)).alloc (.cells #[.int .i64 a.start, .slice A3 a.accept.length c3, .slice A4 a.accept.length c4] 27)) := ((Below.refl _ _).alloc (Nat.le_refl _) _).alloc (by simp) _
  go_enter Try.func68, Try.ntmps68
  go_wp2_with (at_make; refine wpList_makeE (P := Try.prog) cV (.slice none 0 0) elInts rfl rfl rfl _ _ rfl (w.heap.size + 1 + 1) N (N : Int) (by first | rfl | simp [q0']) (by first | rfl | simp [q0']) rfl (by omega) (by unfold maxLen; omega) (by simp) ?_; intro w1 hrow1 hbel1
               have b0 := ((Blk.new w 38 #[.slice A1 g.vals.length c1, .slice A2 g.edges.length c2] w.heap.size rfl).alloc (.cells #[.int .i64 a.start, .slice A3 a.accept.length c3, .slice A4 a.accept.length c4] 27)).below hbel1 (by simp <;> omega)
               have b1 := (Blk.new (w.alloc (.cells #[.slice A1 g.vals.length c1, .slice A2 g.edges.length c2] 38)) 27 #[.int .i64 a.start, .slice A3 a.accept.length c3, .slice A4 a.accept.length c4] (w.heap.size + 1) (by simp)).below hbel1 (by simp <;> omega)
               have hb1 : Below w.heap.size w w1 := hb0.trans (hbel1.mono (by simp <;> omega))
               simp only [World.size_alloc] at hrow1 ⊢
               have HROW1 := Lib.hid hrow1
               have x0 : w1.cell? ⟨w.heap.size, 0, none⟩ = some (.slice A1 g.vals.length c1) := b0.cell 0
               have x1 : w1.cell? ⟨w.heap.size, 1, none⟩ = some (.slice A2 g.edges.length c2) := b0.cell 1
               have y0 : w1.cell? ⟨w.heap.size + 1, 0, none⟩ = some (.int .i64 a.start) := b1.cell 0
               have y1 : w1.cell? ⟨w.heap.size + 1, 1, none⟩ = some (.slice A3 a.accept.length c3) := b1.cell 1
               have y2 : w1.cell? ⟨w.heap.size + 1, 2, none⟩ = some (.slice A4 a.accept.length c4) := b1.cell 2
               clear hbel1 hrow1 b0 b1)
  refine (arcs_any _ g _ (HGV.out.keep hb1) HGO.out).mono ?_
  rintro e w2 ⟨v2, rfl, hsse, hb2⟩
  have hrw := Rws.made (base := w2.heap.size) (α := Nat) (E := cN) (k := 1) (rT := 3) (ownsRow_below HROW1.out hb2 (Nat.le_refl _))
  rw [← fill_zero N (nextI g a)] at hrw
  have x0 := kcell hb2 x0
  have x1 := kcell hb2 x1
  have y0 := kcell hb2 y0
  have y1 := kcell hb2 y1
  have y2 := kcell hb2 y2
  have hgl := hrw.gLt.2
  have hg1 : w.heap.size + 1 + 1 < w1.heap.size := (HROW1.out.lt _ rfl).2
  obtain ⟨A5, c5, hv5, hl5, hm5⟩ := hsse.shape
  have hlen5 : ((List.range g.vals.length).map fun (x : Nat) => arcsOf g (x : Int)).length = g.vals.length := by simp
  rw [hlen5] at hv5 hl5
  subst hv5
  have hbw := below_trans hb1 hb2
  have HRW := Lib.hid hrw
  have HSSE := Lib.hid hsse
  have hg9 : w.heap.size + 1 < w2.heap.size := by omega
  clear hrw hsse hlen5 hb1 hb2
  generalize hgb : w.heap.size + 1 + 1 = gb at *
  have hgw : w.heap.size + 1 < gb := by omega
  clear hgb
  go_wp2_with fail
  go_loopw [26] (fun xx wr => ∃ (x : Nat) (hs : List Value), x ≤ g.vals.length ∧ xx = .int .i64 (x : Int) ∧ Rws wr w2.heap.size 30 3 cN 1 gb hs (fillTo N (nextI g a) (x * a.accept.length) []) ∧ Only gb (gb + 1) w2 wr) (fun xx _ => g.vals.length - (intOf xx).toNat)
  case atStart => exact ⟨0, _, Nat.zero_le _, rfl, by rw [Nat.zero_mul]; exact HRW.out, Only.refl _ _ _⟩
  case round =>
    obtain ⟨x, hs, hx, rfl, hrw, hon⟩ := hrel
    have HRW := Lib.hid hrw
    clear hrw
    by_cases hlt : x < g.vals.length
    · obtain ⟨xn, hxn⟩ : ∃ xn, xn = x * a.accept.length := ⟨_, rfl⟩
      have hxn2 : xn + a.accept.length ≤ N := by rw [hxn, HN.out]; have := Nat.mul_le_mul_right a.accept.length (show x + 1 ≤ g.vals.length by omega); rw [Nat.succ_mul] at this; exact this
      rw [← hxn] at HRW
      have q1 : IntKind.i64.wrap ((x : Int) * (a.accept.length : Int)) = (xn : Int) := by rw [IntWalk.i64_in _ (by rw [← Int.natCast_mul, ← hxn]; omega), hxn, Int.natCast_mul]
      have q1' : (x : Int) * (a.accept.length : Int) = (xn : Int) := by rw [hxn, Int.natCast_mul]
      have HXN := Lib.hid hxn
      clear hxn
      obtain ⟨b5, o5, A6, c6, rfl, hlo5, hb5, d5, hl6, hm6, hI6, -⟩ := HSSE.out.row (Nat.le_refl _) (i := x) (xs := arcsOf g (x : Int)) (by simp [hlt])
      have d5 := ocell hon d5 hb5 (.inr (by omega))
      have hxi : g.vals[x]? = some g.vals[x] := List.getElem?_eq_getElem hlt
      have hvr := HGO.out.vals _ (List.getElem_mem hlt)
      generalize g.vals[x] = vx at hxi hvr
      obtain ⟨vx, rfl⟩ := Int.eq_ofNat_of_zero_le hvr.1
      have hva := valAt_of hxi
      rw [Int.toNat_natCast] at hva
      obtain ⟨b1, o1, rfl, hbb1, dv⟩ := HC1.out.int hxi
      have dv2 := kcell hbw dv
      have hAL := arcs_len HGO.out (x : Int)
      have HVA := Lib.hid hva
      have HI6 := Lib.hid hI6
      clear hva hI6 hxi dv
      go_wp2_with fail
      go_loopw [9] (fun ss wr => ∃ (s : Nat) (hs : List Value), s ≤ a.accept.length ∧ ss = .int .i64 (s : Int) ∧ Rws wr w2.heap.size 30 3 cN 1 gb hs (fillTo N (nextI g a) (xn + s) []) ∧ Only gb (gb + 1) w2 wr) (fun ss _ => a.accept.length - (intOf ss).toNat)
      case atStart => exact ⟨0, _, Nat.zero_le _, rfl, HRW.out, hon⟩
      case round =>
        clear d5 hon HRW
        obtain ⟨s, hs, hs1, rfl, hrw, hon⟩ := hrel
        have HRW := Lib.hid hrw
        clear hrw
        by_cases hlt2 : s < a.accept.length
        · have hs12 : s < 12 := by omega
          have hix : xn + s < N := by omega
          have q2 : IntKind.i64.wrap ((xn : Int) + (s : Int)) = (xn : Int) + (s : Int) := IntWalk.i64_in _ (by omega)
          have q2a : (0 : Int) ≤ (xn : Int) + (s : Int) := by omega
          have q2b : (xn : Int) + (s : Int) < (N : Int) := by omega
          have q2c : ((xn : Int) + (s : Int)).toNat = xn + s := by omega
          go_wp2_with fail
          go_loopw [38] (fun jj wr => ∃ (j : Nat) (hs : List Value), j ≤ (arcsOf g (x : Int)).length ∧ jj = .int .i64 (j : Int) ∧ Rws wr w2.heap.size 30 3 cN 1 gb hs (fillTo N (nextI g a) (xn + s) (((arcsOf g (x : Int)).take j).flatMap (nextA g a x s))) ∧ Only gb (gb + 1) w2 wr) (fun jj _ => (arcsOf g (x : Int)).length - (intOf jj).toNat)
          case atStart => exact ⟨0, _, Nat.zero_le _, rfl, HRW.out, hon⟩
          case round =>
            clear hon HRW
            obtain ⟨j, hs, hj, rfl, hrw, hon⟩ := hrel
            have HRW := Lib.hid hrw
            clear hrw
            by_cases hlt3 : j < (arcsOf g (x : Int)).length
            · have hyj : (arcsOf g (x : Int))[j]? = some (arcsOf g (x : Int))[j] := List.getElem?_eq_getElem hlt3
              have hyr := arc_range HGO.out (List.getElem_mem hlt3)
              generalize (arcsOf g (x : Int))[j] = y at hyj hyr
              obtain ⟨⟨yid, yinv⟩, yl, yt⟩ := y
              simp only at hyr
              obtain ⟨⟨hyl0, hyl5⟩, hyt0, hyt1⟩ := hyr
              obtain ⟨yl, rfl⟩ := Int.eq_ofNat_of_zero_le hyl0
              obtain ⟨yt, rfl⟩ := Int.eq_ofNat_of_zero_le hyt0
              obtain ⟨b6, o6, rfl, hlo6, hb6, z0, z1, z2, z3⟩ := HI6.out.arc hyj
              have z0 := ocell hon z0 hb6 (.inr (by omega))
              have z1 := ocell hon z1 hb6 (.inr (by omega))
              have z2 := ocell hon z2 hb6 (.inr (by omega))
              have z3 := ocell hon z3 hb6 (.inr (by omega))
              have HYJ := Lib.hid hyj
              clear hyj
              go_wp2_with fail
              have e2 : (wr.alloc (.cells #[.int .i64 yid, .bool yinv, .int .i64 (yl : Int), .int .i64 (yt : Int)] 85)).cell? ⟨wr.heap.size, 2, none⟩ = some (.int .i64 (yl : Int)) := by simp
              have e3 : (wr.alloc (.cells #[.int .i64 yid, .bool yinv, .int .i64 (yl : Int), .int .i64 (yt : Int)] 85)).cell? ⟨wr.heap.size, 3, none⟩ = some (.int .i64 (yt : Int)) := by simp
              generalize hW : (wr.alloc (.cells #[.int .i64 yid, .bool yinv, .int .i64 (yl : Int), .int .i64 (yt : Int)] 85)) = wE at e2 e3 ⊢
              have hbE : Below wr.heap.size wr wE := by rw [← hW]; exact (Below.refl _ _).alloc (Nat.le_refl _) _
              have hsE : wr.heap.size < wE.heap.size := by rw [← hW]; simp
              have hsW := hon.size
              have yE0 := kcell hbE (ocell hon y0 hg9 (.inl (by omega)))
              have yE1 := kcell hbE (ocell hon y1 hg9 (.inl (by omega)))
              have yE2 := kcell hbE (ocell hon y2 hg9 (.inl (by omega)))
              have xE0 := kcell hbE (ocell hon x0 (by omega) (.inl (by omega)))
              have dE := kcell hbE (ocell hon dv2 (Nat.lt_of_lt_of_le hbb1 (by omega)) (.inl (by omega)))
              have hbwE : Below w.heap.size w wE := below_trans (hbw.trans (hon.below (by omega) (by omega))) hbE
              have HRE := Lib.hid (HRW.out.below hbE)
              have HBWE := Lib.hid hbwE
              have HNB := Lib.hid (show ∀ (i : Nat) (hv : Value), hs[i]? = some hv → ∀ b, hv.ownBlock = some b → b < wr.heap.size from fun i hv hi b hb => by
                have hjx : i < (fillTo N (nextI g a) (xn + s) (((arcsOf g (x : Int)).take j).flatMap (nextA g a x s))).length := by rw [← HRW.out.len]; exact (List.getElem?_eq_some_iff.1 hi).1
                exact ((HRW.out.row i hv _ hi (List.getElem?_eq_getElem hjx)).lt _ hb).2)
              have hfl := aft_lt HAO.out (bit s) vx yl
              have hfl4 := lt12 HAO.out hfl
              have s1 := shl_bit (s := s) (by omega)
              have s2 := shl_bit2 (s := s) (by omega)
              have s3 := shl_bit3 (s := s) (by omega)
              have HFL := Lib.hid hfl
              clear hW z0 z1 z2 z3 HRW hbwE hfl
              go_region_held3 (fun w' => w'.cell? ⟨w.heap.size + 1, 0, none⟩ = some (.int .i64 a.start) ∧ w'.cell? ⟨w.heap.size + 1, 1, none⟩ = some (.slice A3 a.accept.length c3) ∧ w'.cell? ⟨w.heap.size + 1, 2, none⟩ = some (.slice A4 a.accept.length c4) ∧ w'.cell? ⟨w.heap.size, 0, none⟩ = some (.slice (some ⟨b1, o1, none⟩) g.vals.length c1) ∧ w'.cell? ⟨b1, o1 + x, none⟩ = some (.int .i64 (vx : Int)) ∧ w'.cell? ⟨wr.heap.size, 2, none⟩ = some (.int .i64 (yl : Int)))
                (first | (exact ⟨yE0, yE1, yE2, xE0, dE, e2⟩) | (exact kB6 hbA (by assumption)) | (exact kB6 hbM (by assumption)))
                (first | (go_at_call 61; refine (after_any _ a (bit s) vx yl _ (AuV.keep (w' := wE.drew) HAV.out HBWE.out.drew) HAO.out (bit_lt hlt2) (by omega) (by omega)).mono ?_; rintro e wA ⟨rfl, hbA⟩) | (go_at_call 60; refine (members_any (aft a (bit s) vx yl) _ hfl4).mono ?_; rintro e wM ⟨vM, rfl, hoM, hbM⟩; obtain ⟨A7, c7, rfl, hl7, hm7, -⟩ := hoM.form cN_len))
              have hbX : Below wE.heap.size wE wM := below_trans (below_trans (Below.refl wE.heap.size wE).drew hbA) hbM
              have hM := hoM.form cN_len
              have hoI := hoM.sl cN_len
              rename_i hh
              have e3M := kcell hbX e3
              have hsM := hbX.size
              have hmA : wE.heap.size ≤ wA.heap.size := hbA.size
              have HRM := Lib.hid (HRE.out.below hbX)
              have HONM := Lib.hid (((hon.trans (Only.of_below hbE gb (gb + 1))).trans (Only.of_below hbX gb (gb + 1))))
              have HOI := Lib.hid (hoI.mono hmA (Nat.le_refl _))
              have hml7 := mem_len 12 (aft a (bit s) vx yl)
              have HNA := Lib.hid (show nextA g a x s ((yid, yinv), (yl : Int), (yt : Int)) = (mem 12 (aft a (bit s) vx yl)).map fun t => yt * a.accept.length + t by rw [nextA, HVA.out]; simp)
              have hytn : yt * a.accept.length + a.accept.length ≤ N := by rw [HN.out]; have := Nat.mul_le_mul_right a.accept.length (show yt + 1 ≤ g.vals.length by omega); rw [Nat.succ_mul] at this; exact this
              obtain ⟨yn, hyn⟩ : ∃ yn, yn = yt * a.accept.length := ⟨_, rfl⟩
              rw [← hyn] at hytn HNA
              have q3 : IntKind.i64.wrap ((yt : Int) * (a.accept.length : Int)) = (yn : Int) := by rw [IntWalk.i64_in _ (by rw [← Int.natCast_mul, ← hyn]; omega), hyn, Int.natCast_mul]
              have q3' : (yt : Int) * (a.accept.length : Int) = (yn : Int) := by rw [hyn, Int.natCast_mul]
              obtain ⟨ms, hms⟩ : ∃ ms, ms = mem 12 (aft a (bit s) vx yl) := ⟨_, rfl⟩
              have hmsn : ∀ t ∈ ms, t < a.accept.length := fun t ht => by rw [hms] at ht; exact bit_in HFL.out (mem_mem.1 ht).2
              rw [← hms] at HOI HNA hml7 hl7
              have HMS := Lib.hid hmsn
              obtain ⟨cur, hcur⟩ : ∃ cur, cur = ((arcsOf g (x : Int)).take j).flatMap (nextA g a x s) := ⟨_, rfl⟩
              have hcl : cur.length ≤ 288 := by
                have h1 : ∀ y, (nextA g a x s y).length ≤ 12 := fun y => by rw [nextA, List.length_map]; exact mem_len _ _
                have h2 := flat_len h1 ((arcsOf g (x : Int)).take j)
                rw [List.length_take] at h2
                rw [hcur]; omega
              rw [← hcur] at HRM
              have hix2 : ∀ hv, hs[xn + s]? = some hv → ∀ b, hv.ownBlock = some b → b < wr.heap.size ∨ wM.heap.size ≤ b := fun hv hi b hb => by
                have hr := HRE.out.row (xn + s) hv _ hi (fill_cur (cur := ((arcsOf g (x : Int)).take j).flatMap (nextA g a x s)) hix)
                exact .inl (HNB.out _ _ hi _ hb)
              have HIX := Lib.hid hix2
              have HCUR := Lib.hid hcur
              rw [← hms]
              have HMQ := Lib.hid hms
              have hgr := hon.size
              clear hbA hbM hoM hh hM hoI hbX hon hbE HRE HBWE yE0 yE1 yE2 xE0 dE e2 e3 s1 s2 s3 hyn hms hcur hix2 hfl4 hmsn
              go_wp2_with fail
              obtain ⟨wo, rfl⟩ : ∃ wo : World, wo = wr := ⟨_, rfl⟩
              go_loopw [55] (fun kk w' => ∃ (k : Nat) (hs : List Value), k ≤ ms.length ∧ kk = .int .i64 (k : Int) ∧ Rws w' w2.heap.size 30 3 cN 1 gb hs (fillTo N (nextI g a) (xn + s) (cur ++ (ms.take k).map (fun t => yn + t))) ∧ Only gb (gb + 1) w2 w' ∧ Only 0 wo.heap.size wM w' ∧
                  (∀ hv, hs[xn + s]? = some hv → ∀ b, hv.ownBlock = some b → b < wo.heap.size ∨ wM.heap.size ≤ b)) (fun kk _ => ms.length - (intOf kk).toNat)
              case atStart => exact ⟨0, _, Nat.zero_le _, rfl, by simpa using HRM.out, HONM.out, Only.refl _ _ _, HIX.out⟩
              case round =>
                clear HRM HONM HIX
                obtain ⟨k, hs, hk, rfl, hrw, hon, hon2, hix2⟩ := hrel
                have HRW := Lib.hid hrw
                have HIX := Lib.hid hix2
                clear hrw hix2
                by_cases hlt4 : k < ms.length
                · have hti : ms[k]? = some ms[k] := List.getElem?_eq_getElem hlt4
                  have htn := HMS.out _ (List.getElem_mem hlt4)
                  generalize ms[k] = t at hti htn
                  obtain ⟨b7, o7, rfl, hlo7, hb7, d7⟩ := (HOI.out.only hon2 (Nat.le_refl _) (.inr (Nat.le_of_lt hsE))).nat hti
                  have hb7w := Nat.lt_of_lt_of_le hb7 hon2.size
                  have f3 := ocell hon2 e3M (Nat.lt_of_lt_of_le hsE hsM) (.inr (Nat.le_refl _))
                  have hil : xn + s < hs.length := by rw [HRW.out.len, fill_len]; exact hix
                  have hhi : hs[xn + s]? = some hs[xn + s] := List.getElem?_eq_getElem hil
                  generalize hs[xn + s] = hv at hhi
                  have hcv := HRW.out.cell hhi
                  have hfv := HRW.out.frozen (xn + s)
                  have hro := HRW.out.row (xn + s) hv _ hhi (fill_cur hix)
                  have hgw2 := HRW.out.gLt.2
                  have hne1 : some gb ≠ hv.ownBlock := Ne.symm (HRW.out.far _ _ hhi)
                  have hne2 : some wo.heap.size ≠ hv.ownBlock := fun e9 => by
                    have := HIX.out hv hhi _ e9.symm
                    omega
                  have hneg : wo.heap.size ≠ gb := by omega
                  obtain ⟨row, hrow⟩ : ∃ row, row = cur ++ (ms.take k).map (fun t => yn + t) := ⟨_, rfl⟩
                  have hrl : row.length ≤ 300 := by rw [hrow, List.length_append, List.length_map, List.length_take]; omega
                  rw [← hrow] at hro
                  have HRO := Lib.hid hro
                  have HROW := Lib.hid hrow
                  have HTI := Lib.hid hti
                  have HHI := Lib.hid hhi
                  have HNE1 := Lib.hid hne1
                  have HNE2 := Lib.hid hne2
                  have q4 : IntKind.i64.wrap ((yn : Int) + (t : Int)) = (yn : Int) + (t : Int) := IntWalk.i64_in _ (by omega)
                  have hsw2 := hon.size
                  have q5 : IntKind.i64.wrap (xn : Int) = (xn : Int) := IntWalk.i64_in _ (by omega)
                  have q6 : IntKind.i64.wrap (yn : Int) = (yn : Int) := IntWalk.i64_in _ (by omega)
                  clear hro hrow hti hhi hne1 hne2
                  go_wp2_with fail
                  refine F_start 23 (fun w' => w'.cell? ⟨gb, xn + s, none⟩ = some hv ∧ w'.cell? ⟨wo.heap.size, 3, none⟩ = some (.int .i64 (yt : Int))) (by kernel_rfl) (by exact ⟨hcv, f3⟩) (fun hS inv => ?_)
                  refine F_take (i := 0) (v := ?_) rfl (by kernel_rfl) (by kernel_rfl) (by kernel_rfl) (fun _ _ _ h => h) inv (Or.inl ⟨by rfl, ?_⟩) (by assumption) (fun invn => ?_)
                  rotate_left
                  · (intro w hSw; (try dsimp only at hSw); go_simp; try with_reducible rfl)
                  try simp only [List.getElem_toArray, List.getElem_cons_zero, List.getElem_cons_succ, Act.put, List.setIfInBounds_toArray, List.set_cons_zero, List.set_cons_succ]
                  clear inv
                  have inv := invn
                  clear invn
                  refine F_take (i := 1) (v := ?_) rfl (by kernel_rfl) (by kernel_rfl) (by kernel_rfl) (fun _ _ _ h => h) inv (Or.inl ⟨by rfl, ?_⟩) (by assumption) (fun invn => ?_)
                  rotate_left
                  · (intro w hSw; (try dsimp only at hSw); go_simp; try with_reducible rfl)
                  try simp only [List.getElem_toArray, List.getElem_cons_zero, List.getElem_cons_succ, Act.put, List.setIfInBounds_toArray, List.set_cons_zero, List.set_cons_succ]
                  clear inv
                  have inv := invn
                  clear invn
                  refine F_take (i := 2) (v := ?_) rfl (by kernel_rfl) (by kernel_rfl) (by kernel_rfl) (fun _ _ _ h => h) inv (Or.inl ⟨by rfl, ?_⟩) (by assumption) (fun invn => ?_)
                  rotate_left
                  · (intro w hSw; (try dsimp only at hSw); go_simp; try with_reducible rfl)
                  try simp only [List.getElem_toArray, List.getElem_cons_zero, List.getElem_cons_succ, Act.put, List.setIfInBounds_toArray, List.set_cons_zero, List.set_cons_succ]
                  clear inv
                  have inv := invn
                  clear invn
                  refine F_take (i := 3) (v := ?_) rfl (by kernel_rfl) (by kernel_rfl) (by kernel_rfl) (fun _ _ _ h => h) inv (Or.inl ⟨by rfl, ?_⟩) (by assumption) (fun invn => ?_)
                  rotate_left
                  · (intro w hSw; (try dsimp only at hSw); go_simp; try with_reducible rfl)
                  try simp only [List.getElem_toArray, List.getElem_cons_zero, List.getElem_cons_succ, Act.put, List.setIfInBounds_toArray, List.set_cons_zero, List.set_cons_succ]
                  clear inv
                  have inv := invn
                  clear invn
                  refine F_take (i := 4) (v := ?_) rfl (by kernel_rfl) (by kernel_rfl) (by kernel_rfl) (fun _ _ _ h => h) inv (Or.inl ⟨by rfl, ?_⟩) (by assumption) (fun invn => ?_)
                  rotate_left
                  · (intro w hSw; (try dsimp only at hSw); go_simp; try with_reducible rfl)
                  try simp only [List.getElem_toArray, List.getElem_cons_zero, List.getElem_cons_succ, Act.put, List.setIfInBounds_toArray, List.set_cons_zero, List.set_cons_succ]
                  clear inv
                  have inv := invn
                  clear invn
                  refine F_take (i := 5) (v := ?_) rfl (by kernel_rfl) (by kernel_rfl) (by kernel_rfl) (fun _ _ _ h => h) inv (Or.inl ⟨by rfl, ?_⟩) (by assumption) (fun invn => ?_)
                  rotate_left
                  · (intro w hSw; (try dsimp only at hSw); go_simp; try with_reducible rfl)
                  try simp only [List.getElem_toArray, List.getElem_cons_zero, List.getElem_cons_succ, Act.put, List.setIfInBounds_toArray, List.set_cons_zero, List.set_cons_succ]
                  clear inv
                  have inv := invn
                  clear invn
                  refine F_take (i := 6) (v := ?_) rfl (by kernel_rfl) (by kernel_rfl) (by kernel_rfl) (fun _ _ _ h => h) inv (Or.inl ⟨by rfl, ?_⟩) (by assumption) (fun invn => ?_)
                  rotate_left
                  · (intro w hSw; (try dsimp only at hSw); go_simp; try with_reducible rfl)
                  try simp only [List.getElem_toArray, List.getElem_cons_zero, List.getElem_cons_succ, Act.put, List.setIfInBounds_toArray, List.set_cons_zero, List.set_cons_succ]
                  clear inv
                  have inv := invn
                  clear invn
                  refine F_take (i := 7) (v := ?_) rfl (by kernel_rfl) (by kernel_rfl) (by kernel_rfl) (fun _ _ _ h => h) inv (Or.inl ⟨by rfl, ?_⟩) (by assumption) (fun invn => ?_)
                  rotate_left
                  · (intro w hSw; (try dsimp only at hSw); go_simp; try with_reducible rfl)
                  try simp only [List.getElem_toArray, List.getElem_cons_zero, List.getElem_cons_succ, Act.put, List.setIfInBounds_toArray, List.set_cons_zero, List.set_cons_succ]
                  clear inv
                  have inv := invn
                  clear invn
                  refine F_take (i := 8) (v := ?_) rfl (by kernel_rfl) (by kernel_rfl) (by kernel_rfl) (fun _ _ _ h => h) inv (Or.inl ⟨by rfl, ?_⟩) (by assumption) (fun invn => ?_)
                  rotate_left
                  · (intro w hSw; (try dsimp only at hSw); go_simp; try with_reducible rfl)
                  try simp only [List.getElem_toArray, List.getElem_cons_zero, List.getElem_cons_succ, Act.put, List.setIfInBounds_toArray, List.set_cons_zero, List.set_cons_succ]
                  clear inv
                  have inv := invn
                  clear invn
                  refine F_take (i := 9) (v := ?_) rfl (by kernel_rfl) (by kernel_rfl) (by kernel_rfl) (fun _ _ _ h => h) inv (Or.inl ⟨by rfl, ?_⟩) (by assumption) (fun invn => ?_)
                  rotate_left
                  · (intro w hSw; (try dsimp only at hSw); go_simp; try with_reducible rfl)
                  try simp only [List.getElem_toArray, List.getElem_cons_zero, List.getElem_cons_succ, Act.put, List.setIfInBounds_toArray, List.set_cons_zero, List.set_cons_succ]
                  clear inv
                  have inv := invn
                  clear invn
                  refine F_take (i := 10) (v := ?_) rfl (by kernel_rfl) (by kernel_rfl) (by kernel_rfl) (fun _ _ _ h => h) inv (Or.inl ⟨by rfl, ?_⟩) (by assumption) (fun invn => ?_)
                  rotate_left
                  · (intro w hSw; (try dsimp only at hSw); go_simp; try with_reducible rfl)
                  try simp only [List.getElem_toArray, List.getElem_cons_zero, List.getElem_cons_succ, Act.put, List.setIfInBounds_toArray, List.set_cons_zero, List.set_cons_succ]
                  clear inv
                  have inv := invn
                  clear invn
                  refine F_take (i := 11) (v := ?_) rfl (by kernel_rfl) (by kernel_rfl) (by kernel_rfl) (fun _ _ _ h => h) inv (Or.inl ⟨by rfl, ?_⟩) (by assumption) (fun invn => ?_)
                  rotate_left
                  · (intro w hSw; (try dsimp only at hSw); go_simp; try with_reducible rfl)
                  try simp only [List.getElem_toArray, List.getElem_cons_zero, List.getElem_cons_succ, Act.put, List.setIfInBounds_toArray, List.set_cons_zero, List.set_cons_succ]
                  clear inv
                  have inv := invn
                  clear invn
                  refine F_take (i := 12) (v := ?_) rfl (by kernel_rfl) (by kernel_rfl) (by kernel_rfl) (fun _ _ _ h => h) inv (Or.inl ⟨by rfl, ?_⟩) (by assumption) (fun invn => ?_)
                  rotate_left
                  · (intro w hSw; (try dsimp only at hSw); go_simp; try with_reducible rfl)
                  try simp only [List.getElem_toArray, List.getElem_cons_zero, List.getElem_cons_succ, Act.put, List.setIfInBounds_toArray, List.set_cons_zero, List.set_cons_succ]
                  clear inv
                  have inv := invn
                  clear invn
                  refine F_take (i := 13) (v := ?_) rfl (by kernel_rfl) (by kernel_rfl) (by kernel_rfl) (fun _ _ _ h => h) inv (Or.inl ⟨by rfl, ?_⟩) (by assumption) (fun invn => ?_)
                  rotate_left
                  · (intro w hSw; (try dsimp only at hSw); go_simp; try with_reducible rfl)
                  try simp only [List.getElem_toArray, List.getElem_cons_zero, List.getElem_cons_succ, Act.put, List.setIfInBounds_toArray, List.set_cons_zero, List.set_cons_succ]
                  clear inv
                  have inv := invn
                  clear invn
                  refine F_take (i := 14) (v := ?_) rfl (by kernel_rfl) (by kernel_rfl) (by kernel_rfl) (fun _ _ _ h => h) inv (Or.inl ⟨by rfl, ?_⟩) (by assumption) (fun invn => ?_)
                  rotate_left
                  · (intro w hSw; (try dsimp only at hSw); go_simp; try with_reducible rfl)
                  try simp only [List.getElem_toArray, List.getElem_cons_zero, List.getElem_cons_succ, Act.put, List.setIfInBounds_toArray, List.set_cons_zero, List.set_cons_succ]
                  clear inv
                  have inv := invn
                  clear invn
                  refine F_take (i := 15) (v := ?_) rfl (by kernel_rfl) (by kernel_rfl) (by kernel_rfl) (fun _ _ _ h => h) inv (Or.inl ⟨by rfl, ?_⟩) (by assumption) (fun invn => ?_)
                  rotate_left
                  · (intro w hSw; (try dsimp only at hSw); go_simp; try with_reducible rfl)
                  try simp only [List.getElem_toArray, List.getElem_cons_zero, List.getElem_cons_succ, Act.put, List.setIfInBounds_toArray, List.set_cons_zero, List.set_cons_succ]
                  clear inv
                  have inv := invn
                  clear invn
                  refine F_take (i := 16) (v := ?_) rfl (by kernel_rfl) (by kernel_rfl) (by kernel_rfl) (fun _ _ _ h => h) inv (Or.inl ⟨by rfl, ?_⟩) (by assumption) (fun invn => ?_)
                  rotate_left
                  · (intro w hSw; (try dsimp only at hSw); go_simp; try with_reducible rfl)
                  try simp only [List.getElem_toArray, List.getElem_cons_zero, List.getElem_cons_succ, Act.put, List.setIfInBounds_toArray, List.set_cons_zero, List.set_cons_succ]
                  clear inv
                  have inv := invn
                  clear invn
                  refine F_take (i := 17) (v := ?_) rfl (by kernel_rfl) (by kernel_rfl) (by kernel_rfl) (fun _ _ _ h => h) inv (Or.inl ⟨by rfl, ?_⟩) (by assumption) (fun invn => ?_)
                  rotate_left
                  · (intro w hSw; (try dsimp only at hSw); go_simp; try with_reducible rfl)
                  try simp only [List.getElem_toArray, List.getElem_cons_zero, List.getElem_cons_succ, Act.put, List.setIfInBounds_toArray, List.set_cons_zero, List.set_cons_succ]
                  clear inv
                  have inv := invn
                  clear invn
                  refine F_take (i := 18) (v := ?_) rfl (by kernel_rfl) (by kernel_rfl) (by kernel_rfl) (fun _ _ _ h => h) inv (Or.inl ⟨by rfl, ?_⟩) (by assumption) (fun invn => ?_)
                  rotate_left
                  · (intro w hSw; (try dsimp only at hSw); go_simp; try with_reducible rfl)
                  try simp only [List.getElem_toArray, List.getElem_cons_zero, List.getElem_cons_succ, Act.put, List.setIfInBounds_toArray, List.set_cons_zero, List.set_cons_succ]
                  clear inv
                  have inv := invn
                  clear invn
                  refine F_take (i := 19) (v := ?_) rfl (by kernel_rfl) (by kernel_rfl) (by kernel_rfl) (fun _ _ _ h => h) inv (Or.inl ⟨by rfl, ?_⟩) (by assumption) (fun invn => ?_)
                  rotate_left
                  · (intro w hSw; (try dsimp only at hSw); go_simp; try with_reducible rfl)
                  try simp only [List.getElem_toArray, List.getElem_cons_zero, List.getElem_cons_succ, Act.put, List.setIfInBounds_toArray, List.set_cons_zero, List.set_cons_succ]
                  clear inv
                  have inv := invn
                  clear invn
                  refine F_one (i := 20) (by kernel_rfl) rfl rfl (by omega) inv (fun K hK => ?_)
                  try simp only [List.getElem_toArray, List.getElem_cons_zero, List.getElem_cons_succ]
                  go_simp
                  refine hK.out _ _ (kA2 _ hS) (fun hSn invn => ?_)
                  try simp only [List.getElem_toArray, List.getElem_cons_zero, List.getElem_cons_succ, Act.put, List.setIfInBounds_toArray, List.set_cons_zero, List.set_cons_succ]
                  clear hK K inv hS
                  have inv := invn
                  have hS := hSn
                  clear invn hSn
                  refine F_one (i := 21) (by kernel_rfl) rfl rfl (by omega) inv (fun K hK => ?_)
                  try simp only [List.getElem_toArray, List.getElem_cons_zero, List.getElem_cons_succ]
                  refine op_append1 cN elInt rfl _ _ (by rfl) w2.heap.size hv row (yn + t) 1 _ (by rfl) (HRO.out.alloc _) (by first | rfl | simp) (heap_alloc_new _ _) rfl (cN_one _) (by omega) (by omega) (by simp; omega) ?_
                  intro g2 cp2 w3 hown3 hgr3 hat3 hlt3
                  have HO3 := Lib.hid hown3
                  have HG3 := Lib.hid hgr3
                  have HA3 := Lib.hid hat3
                  clear hown3 hgr3 hat3
                  refine hK.out _ _ (kG2 HG3.out HNE1.out HNE2.out hS) (fun hSn invn => ?_)
                  try simp only [List.getElem_toArray, List.getElem_cons_zero, List.getElem_cons_succ, Act.put, List.setIfInBounds_toArray, List.set_cons_zero, List.set_cons_succ]
                  clear hK K inv hS
                  have inv := invn
                  have hS := hSn
                  clear invn hSn
                  refine F_take (i := 22) (v := ?_) rfl (by kernel_rfl) (by kernel_rfl) (by kernel_rfl) (fun _ _ _ h => h) inv (Or.inl ⟨by rfl, ?_⟩) (by assumption) (fun invn => ?_)
                  rotate_left
                  · (intro w hSw; (try dsimp only at hSw); go_simp; try with_reducible rfl)
                  try simp only [List.getElem_toArray, List.getElem_cons_zero, List.getElem_cons_succ, Act.put, List.setIfInBounds_toArray, List.set_cons_zero, List.set_cons_succ]
                  clear inv
                  have inv := invn
                  clear invn
                  have hcz := HG3.out.cell (kcell ((Below.refl _ _).alloc (Nat.le_refl _) _) hcv) HNE1.out
                  have hfz := kfg HG3.out (p := ⟨gb, xn + s, none⟩) HNE1.out (kcell ((Below.refl _ _).alloc (Nat.le_refl _) _) hcv) (kfb ((Below.refl _ _).alloc (Nat.le_refl _) _) hcv hfv)
                  refine F_last (i := 23) (by kernel_rfl) rfl rfl (by omega) (by kernel_rfl) (fun K hK => ?_)
                  go_simp
                  refine hK _ _ ?_
                  clear hK K inv hS
                  have hrF := Rws.push (HRW.out.below (w' := wr.drew.alloc (.cells #[.int .i64 ((yn : Int) + (t : Int))] 3)) ((Below.refl _ _).drew.alloc (Nat.le_refl _) _)) HHI.out (by rw [← HROW.out]; exact fill_cur hix) HO3.out HG3.out rfl HA3.out
                  rw [fill_push _ hix] at hrF
                  have hpF : row ++ [yn + t] = cur ++ (ms.take (k + 1)).map (fun t => yn + t) := by rw [HROW.out, take_snoc HTI.out, List.map_append, List.append_assoc]; rfl
                  rw [hpF] at hrF
                  have hon3 := Only.pushed (lo := gb) (hi := gb + 1) (u := .slice (some ⟨g2, 0, none⟩) (row.length + 1) cp2) (i := xn + s) (g := gb) ((hon.drew).alloc (.cells #[.int .i64 ((yn : Int) + (t : Int))] 3)) HG3.out (fun b hb => .inr (HRO.out.lt b hb).1) (.inl ⟨Nat.le_refl _, Nat.lt_succ_self _⟩)
                  have hon4 := Only.pushed (lo := 0) (hi := wo.heap.size) (u := .slice (some ⟨g2, 0, none⟩) (row.length + 1) cp2) (i := xn + s) (g := gb) ((hon2.drew).alloc (.cells #[.int .i64 ((yn : Int) + (t : Int))] 3)) HG3.out (fun b hb => (HIX.out hv HHI.out b hb).imp (fun h => ⟨Nat.zero_le _, h⟩) id) (.inl ⟨Nat.zero_le _, by omega⟩)
                  have hixF : ∀ hv', (hs.set (xn + s) (.slice (some ⟨g2, 0, none⟩) (row.length + 1) cp2))[xn + s]? = some hv' → ∀ b, hv'.ownBlock = some b → b < wo.heap.size ∨ wM.heap.size ≤ b := fun hv' hi b hb => by
                    rw [List.getElem?_set, if_pos rfl, if_pos hil] at hi
                    injection hi with hi
                    subst hi
                    injection hb with hb
                    subst hb
                    rcases HA3.out with h9 | h9
                    · exact HIX.out hv HHI.out _ h9
                    · have := hon2.size
                      simp at h9
                      exact .inr (show wM.heap.size ≤ g2 by omega)
                  have HRF := Lib.hid hrF
                  have HO5 := Lib.hid hon3
                  have HO6 := Lib.hid hon4
                  have HIXF := Lib.hid hixF
                  clear hrF hpF hon3 hon4 hixF hcz hfz
                  go_wp2_with fail
                  go_roundw
                  case rel => exact ⟨k + 1, _, by omega, by go_num, HRF.out, HO5.out, HO6.out, HIXF.out⟩
                  case measure => simp [intOf]; omega
                · obtain rfl : k = ms.length := by omega
                  have hall : cur ++ (ms.take ms.length).map (fun t => yn + t) = ((arcsOf g (x : Int)).take (j + 1)).flatMap (nextA g a x s) := by rw [List.take_length, flat_take HYJ.out, ← HCUR.out, HNA.out]
                  rw [hall] at HRW
                  clear hall
                  go_wp2_with fail
                  go_roundw
                  case rel => exact ⟨j + 1, _, by omega, by go_num, HRW.out, hon⟩
                  case measure => simp [intOf]; omega
            · obtain rfl : j = (arcsOf g (x : Int)).length := by omega
              have hall : ((arcsOf g (x : Int)).take (arcsOf g (x : Int)).length).flatMap (nextA g a x s) = nextI g a (xn + s) := by rw [List.take_length, HXN.out, nextI_at hlt2]; rfl
              rw [hall, fill_next] at HRW
              clear hall
              go_wp2_with fail
              go_roundw
              case rel => exact ⟨s + 1, _, by omega, by go_num, HRW.out, hon⟩
              case measure => simp [intOf]; omega
        · obtain rfl : s = a.accept.length := by omega
          have hall : xn + a.accept.length = (x + 1) * a.accept.length := by rw [HXN.out, Nat.succ_mul]
          rw [hall] at HRW
          clear hall
          go_wp2_with fail
          go_roundw
          case rel => exact ⟨x + 1, _, by omega, by go_num, HRW.out, hon⟩
          case measure => simp [intOf]; omega
    · obtain rfl : x = g.vals.length := by omega
      have hs1 := HRW.out
      rw [← HN.out, fill_all] at hs1
      have hln : hs.length = N := by rw [hs1.len]; simp
      have hs2 := hs1.sse cN_len (lo := w.heap.size) (by omega) (by omega)
      rw [hln] at hs2
      have HS2 := Lib.hid hs2
      have HBF := Lib.hid (hbw.trans (hon.below (B := w.heap.size) (by omega) (by omega)))
      clear hs1 hs2 hln
      go_wp2_with fail
      go_ret
      exact ⟨_, rfl, by rw [HR.out, ← HN.out]; exact HS2.out, HBF.out⟩
end Go.Proofs.Ytallglnmeeahiaa

/- The program's bothOk: a graph, an automaton and nodes are valid. -/
namespace Go.Proofs.Ytallglnmeeahiaa
set_option linter.unusedVariables false
set_option linter.unusedSimpArgs false
open Go.ChangeShapes Go.WideShapes Go.ChangeAt Go.RowKit
attribute [local go_sem] ext_cell ext_frozen ext_lt ext_lt1 ext_lt2 ext_lt3 ltn2 ltn3 ltn13 lts1 lts2 lts3

set_option maxHeartbeats 1000000 in
theorem bothOk_any (vg va lv : Value) (g : Gr) (a : Au) (ss : List Int) (w : World) (hg : GrV 0 w.heap.size w vg g) (ha : AuV 0 w.heap.size w va a) (hl : SlE w cI 1 lv ss) :
    Calls Try.prog 57 #[vg, va, lv] w fun e w' => e = .returned (.bool (ss.all (fun s => wi s 0 ((g.vals.length : Int) - 1)) && (grOk g && auOk a))) ∧ Below w.heap.size w w' := by
  have hg0 := hg
  have ha0 := ha
  obtain ⟨A1, c1, A2, c2, rfl, hl1, hm1, -, -, -, -⟩ := hg.form
  obtain ⟨A3, n3, c3, A4, n4, c4, rfl⟩ := ha.shape
  obtain ⟨A5, c5, rfl, hl5, hm5, hC5⟩ := hl.form
  have HG := Lib.hid hg0
  have HA := Lib.hid ha0
  have HC5 := Lib.hid hC5
  have HW := Lib.hid within_any
  have hb0 : Below w.heap.size w ((w.alloc (.cells #[.slice A1 g.vals.length c1, .slice A2 g.edges.length c2] 38)).alloc (.cells #[.int .i64 a.start, .slice A3 n3 c3, .slice A4 n4 c4] 27)) := ((Below.refl _ _).alloc (Nat.le_refl _) _).alloc (by simp) _
  clear hg ha hl hg0 ha0 hC5
  go_enter Try.func57, Try.ntmps57
  go_wp2_with fail
  go_loop [11] (fun ii => ∃ i : Nat, i ≤ ss.length ∧ ii = .int .i64 i ∧ (ss.take i).all (fun s => wi s 0 ((g.vals.length : Int) - 1)) = true) (fun ii => ss.length - (intOf ii).toNat)
  case atStart => exact ⟨0, Nat.zero_le _, rfl, rfl⟩
  case round =>
    obtain ⟨i, hi, rfl, hall⟩ := hrel
    have HALL := Lib.hid hall
    clear hall
    by_cases hlt : i < ss.length
    · have hxi : ss[i]? = some ss[i] := List.getElem?_eq_getElem hlt
      generalize ss[i] = s at hxi
      obtain ⟨b, o, rfl, hb1, c0⟩ := HC5.out.int hxi
      have HX := Lib.hid hxi
      clear hxi
      by_cases g4 : wi s 0 ((g.vals.length : Int) - 1) = true
      · go_wp2_with (go_at_call 39; refine (HW.out _ _ _ _).mono ?_; rintro e w' ⟨rfl, rfl⟩)
        go_round
        case rel => exact ⟨i + 1, by omega, by go_num, all_take_succ HX.out HALL.out g4⟩
        case measure => simp [intOf]; omega
      · simp only [Bool.not_eq_true] at g4
        have hfin : ss.all (fun s => wi s 0 ((g.vals.length : Int) - 1)) = false := all_false_of HX.out g4
        have HF := Lib.hid hfin
        clear hfin
        go_wp2_with (go_at_call 39; refine (HW.out _ _ _ _).mono ?_; rintro e w' ⟨rfl, rfl⟩)
        go_ret
        exact ⟨by rw [HF.out]; rfl, hb0⟩
    · obtain rfl : i = ss.length := by omega
      have hfin : ss.all (fun s => wi s 0 ((g.vals.length : Int) - 1)) = true := by have := HALL.out; rwa [List.take_length] at this
      have HF := Lib.hid hfin
      clear hfin
      go_wp2_with fail
      refine (implValidGraph _ g _ (HG.out.keep hb0)).mono ?_
      rintro e w1 ⟨he, hb1⟩
      obtain ⟨u1, rfl⟩ := ext_of hb1
      have hb2 := below_trans hb0 hb1
      clear hb1
      subst he
      cases hgo : grOk g with
      | false =>
        have HGO := Lib.hid hgo
        clear hgo
        go_wp2_with fail
        go_ret
        exact ⟨by rw [HF.out, HGO.out]; rfl, hb2⟩
      | true =>
        have HGO := Lib.hid hgo
        clear hgo
        go_wp2_with fail
        refine (implValidAutomaton _ a _ (HA.out.keep hb2)).mono ?_
        rintro e w2 ⟨rfl, hb3⟩
        go_wp2_with fail
        go_ret
        exact ⟨by rw [HF.out, HGO.out]; rfl, below_trans hb2 hb3⟩
end Go.Proofs.Ytallglnmeeahiaa

/- The program's turned: rows of numbers turned round. -/
namespace Go.Proofs.Ytallglnmeeahiaa
set_option linter.unusedVariables false
set_option linter.unusedSimpArgs false
open Go.ChangeShapes Go.WideShapes Go.ChangeAt Go.RowKit
attribute [local go_sem] ext_cell ext_frozen ext_lt ext_lt1 ext_lt2 ext_lt3 ltn2 ltn3 ltn13 lts1 lts2 lts3

end Go.Proofs.Ytallglnmeeahiaa

