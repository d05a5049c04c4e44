/- Parts of the proof, joined into one text: ProdI. -/
import Derived.Test.YtmlfkledhnlkeaaPartMIKLFIHB
import Derived.Test.YtmlfkledhnlkeaaPartMKLPAJLM
import Derived.Test.YtmlfkledhnlkeaaPartNFLNBJAP
/- The program's product: reads, arcs, bothOk, nextVertices. -/
namespace Go.Proofs.Ytmlfkledhnlkeaa
set_option linter.unusedVariables false
set_option linter.unusedSimpArgs false
open Go.ChangeShapes Go.WideShapes Go.ChangeAt Go.RowKit
attribute [local go_sem] ext_cell ext_frozen ext_lt ext_lt1 ext_lt2 ext_lt3 ltn2 ltn3 ltn13 lts1 lts2 lts3

/-- an arc as four cells -/
def cA (y : Arc) : List Value := [.int .i64 y.1.1, .bool y.1.2, .int .i64 y.2.1, .int .i64 y.2.2]
theorem cA_len (y : Arc) : (cA y).length = 4 := rfl
theorem cA_one (y : Arc) : ∀ u ∈ cA y, u.oneCell' = true := by intro u hu; simp only [cA, List.mem_cons, List.not_mem_nil, or_false] at hu; rcases hu with rfl | rfl | rfl | rfl <;> rfl

theorem reads_any (e : Ed) (b : Bool) (w : World) (h0 : 0 ≤ e.2.2.2) (h2 : e.2.2.2 ≤ 2) :
    Calls Try.prog 123 #[.agg #[.int .i64 e.1, .int .i64 e.2.1, .int .i64 e.2.2.1, .int .i64 e.2.2.2], .bool b] w fun en w' => en = .returned (.int .i64 (arcLetter b e)) ∧ Below w.heap.size w w' := by
  obtain ⟨a, f, t, l⟩ := e
  simp only at h0 h2 ⊢
  cases b
  all_goals
    go_enter Try.func123, Try.ntmps123
    go_wp2_with fail
    go_ret
    exact ⟨rfl, (Below.refl _ _).alloc (Nat.le_refl _) _⟩

theorem elArc : ElemOk Try.prog 147 149 (.agg #[.int .i64 0, .bool false, .int .i64 0, .int .i64 0]) 4 32 := ⟨Try.underlying147, by kernel_rfl, rfl, by omega⟩
theorem elArcs : ElemOk Try.prog 98 147 (.slice none 0 0) 1 24 := ⟨Try.underlying98, by kernel_rfl, rfl, by omega⟩
set_option maxHeartbeats 4000000 in
set_option maxRecDepth 100000 in
theorem arcs_any (v : Value) (g : Gr) (w : World) (hv : GrV 0 w.heap.size w v g) (hg : GrOk g) :
    Calls Try.prog 73 #[v] w fun e w' => ∃ v', e = .returned v' ∧ SSE w.heap.size w'.heap.size w' cA 4 v' ((List.range g.vals.length).map fun (x : Nat) => arcsOf g (x : Int)) ∧ Below w.heap.size w w' := by
  obtain ⟨A1, c1, A2, c2, rfl, hl1, hm1, hl2, hm2, hC1, hC2⟩ := hv.form
  have hn5 := hg.n5
  have he12 := hg.e12
  have HG := Lib.hid hg
  have HC2 := Lib.hid hC2
  clear hC1 hC2 hv hg
  obtain ⟨R, hR⟩ : ∃ R, R = (List.range g.vals.length).map fun (x : Nat) => arcsOf g (x : Int) := ⟨_, rfl⟩
  rw [← hR]
  have HR := Lib.hid hR
  clear hR
  go_enter Try.func73, Try.ntmps73
  go_wp2_with (at_make; refine wpList_makeE (P := Try.prog) cV (.slice none 0 0) elArcs rfl rfl rfl _ _ rfl (w.heap.size + 1) g.vals.length _ (by rfl) (by rfl) rfl (by omega) (by unfold maxLen; omega) (by simp) ?_; intro w1 hrow1 hbel1
               have b0 := (Blk.new w _ _ w.heap.size rfl).below hbel1 (by simp)
               have hb1 : Below w.heap.size w w1 := ((Below.refl _ _).alloc (Nat.le_refl _) _).trans (hbel1.mono (by simp))
               simp only [World.size_alloc] at hrow1 ⊢
               have hr1 := Rws.made (base := w.heap.size + 1) (α := Arc) (E := cA) (k := 4) (rT := 149) hrow1
               have HR1 := Lib.hid hr1
               have x0 : w1.cell? ⟨w.heap.size, 0, none⟩ = some (.slice A1 g.vals.length c1) := b0.cell 0
               have x1 : w1.cell? ⟨w.heap.size, 1, none⟩ = some (.slice A2 g.edges.length c2) := b0.cell 1
               clear hbel1 hrow1 b0 hr1)
  generalize hgb : w.heap.size + 1 = gb at *
  have hgw : w.heap.size < gb := by omega
  clear hgb
  go_loopw [13] (fun ii wr => ∃ (i : Nat) (hs : List Value), i ≤ g.edges.length ∧ ii = .int .i64 (i : Int) ∧ Rws wr gb 147 149 cA 4 gb hs (rowsTo g i) ∧ Below w.heap.size w wr) (fun ii _ => g.edges.length - (intOf ii).toNat)
  case atStart => exact ⟨0, _, Nat.zero_le _, rfl, by rw [rowsTo_zero]; exact HR1.out, hb1⟩
  case round =>
    obtain ⟨i, hs, hi, rfl, hrow, hbel⟩ := hrel
    clear hb1 HR1 x0 x1
    by_cases hlt : i < g.edges.length
    · have hei : g.edges[i]? = some g.edges[i] := List.getElem?_eq_getElem hlt
      have hge := HG.out.edges _ (List.getElem_mem hlt)
      generalize g.edges[i] = e at hei hge
      obtain ⟨-, ⟨hf0, hf1⟩, ⟨ht0, ht1⟩, hl0, hl2⟩ := hge
      obtain ⟨b, o, rfl, hb, q0, q1, q2, q3⟩ := HC2.out.ed hei
      have d0 := bcell hbel q0 hb
      have d1 := bcell hbel q1 hb
      have d2 := bcell hbel q2 hb
      have d3 := bcell hbel q3 hb
      have hbw := Nat.lt_of_lt_of_le hb hbel.size
      have HEI := Lib.hid hei
      clear hei q0 q1 q2 q3
      have hgl := hrow.gLt
      have hfh : e.2.1.toNat < hs.length := by rw [hrow.len, rowsTo_len]; omega
      have hhf : hs[e.2.1.toNat]? = some hs[e.2.1.toNat] := List.getElem?_eq_getElem hfh
      generalize hs[e.2.1.toNat] = hv1 at hhf
      have hx1 := rowsTo_at (g := g) (i := i) (x := e.2.1.toNat) (by omega)
      rw [Int.toNat_of_nonneg hf0] at hx1
      obtain ⟨eid, ef, et, el⟩ := e
      simp only at *
      have hfn : ef.toNat < g.vals.length := by omega
      obtain ⟨ef, rfl⟩ := Int.eq_ofNat_of_zero_le hf0
      obtain ⟨et, rfl⟩ := Int.eq_ofNat_of_zero_le ht0
      simp only [Int.toNat_natCast] at *
      have hfi : (ef : Int) < (g.vals.length : Int) := by omega
      have hti : (et : Int) < (g.vals.length : Int) := by omega
      have hcf := hrow.cell hhf
      have hff := hrow.frozen ef
      have HROW := Lib.hid hrow
      have HX1 := Lib.hid hx1
      have HHF := Lib.hid hhf
      have hfar := hrow.far _ _ hhf
      have HFAR := Lib.hid hfar
      have hgs := hgl.2
      have hlv : hs.length = g.vals.length := by rw [hrow.len, rowsTo_len]
      have hgv : gb < wr.heap.size := hgl.2
      have hsz := hbel.size
      clear hrow hx1 hhf hfar hgl hfh hlv
      go_wp2_with fail
      have e0 : (wr.alloc (.cells #[.int .i64 eid, .int .i64 (ef : Int), .int .i64 (et : Int), .int .i64 el] 144)).cell? ⟨wr.heap.size, 0, none⟩ = some (.int .i64 eid) := by simp
      have e1 : (wr.alloc (.cells #[.int .i64 eid, .int .i64 (ef : Int), .int .i64 (et : Int), .int .i64 el] 144)).cell? ⟨wr.heap.size, 1, none⟩ = some (.int .i64 (ef : Int)) := by simp
      have e2 : (wr.alloc (.cells #[.int .i64 eid, .int .i64 (ef : Int), .int .i64 (et : Int), .int .i64 el] 144)).cell? ⟨wr.heap.size, 2, none⟩ = some (.int .i64 (et : Int)) := by simp
      have e3 : (wr.alloc (.cells #[.int .i64 eid, .int .i64 (ef : Int), .int .i64 (et : Int), .int .i64 el] 144)).cell? ⟨wr.heap.size, 3, none⟩ = some (.int .i64 el) := by simp
      generalize hW : (wr.alloc (.cells #[.int .i64 eid, .int .i64 (ef : Int), .int .i64 (et : Int), .int .i64 el] 144)) = wE
      rw [hW] at e0 e1 e2 e3
      have hbE : Below wr.heap.size wr wE := by rw [← hW]; exact (Below.refl _ _).alloc (Nat.le_refl _) _
      have hcE : wE.cell? ⟨gb, ef, none⟩ = some hv1 := bcell hbE hcf hgs
      have hfE : wE.frozen? ⟨gb, ef, none⟩ = false := by rw [hbE.frozen (p := ⟨gb, ef, none⟩) hgs]; exact hff
      have hsE : wr.heap.size < wE.heap.size := by rw [← hW]; simp
      have hgE : gb < wE.heap.size := by omega
      have hgE1 : wr.heap.size ≠ gb := by omega
      have HRE := Lib.hid (HROW.out.below hbE)
      have HBE := Lib.hid (hbel.trans (hbE.mono hsz))
      have hne1 : some wr.heap.size ≠ hv1.ownBlock := fun h => by have := ((HROW.out.row ef hv1 _ HHF.out HX1.out).lt _ h.symm).2; omega
      have hne2 : some gb ≠ hv1.ownBlock := Ne.symm HFAR.out
      have hneR0 : ∀ (j : Nat) (h : Value), hs[j]? = some h → some wr.heap.size ≠ h.ownBlock := fun j h hj e9 => by
        have hjx : j < (rowsTo g i).length := by rw [← HROW.out.len]; exact (List.getElem?_eq_some_iff.1 hj).1
        have := ((HROW.out.row j h _ hj (List.getElem?_eq_getElem hjx)).lt _ e9.symm).2
        omega
      have HNER := Lib.hid hneR0
      clear hneR0
      have HRO := Lib.hid (HRE.out.row ef hv1 _ HHF.out HX1.out)
      have hrl : ((g.edges.take i).flatMap (arcE (ef : Int))).length ≤ 24 := by
        have h1 := flat_len (arcE_len (ef : Int)) (g.edges.take i)
        rw [List.length_take] at h1
        omega
      clear hW hbE hcf hff HROW hbel
      obtain ⟨row1, hrow1⟩ : ∃ row1, row1 = (g.edges.take i).flatMap (arcE (ef : Int)) := ⟨_, rfl⟩
      rw [← hrow1] at hrl HRO HX1
      have HROW1 := Lib.hid hrow1
      clear hrow1
      refine F_start 19 (fun w' => w'.cell? ⟨wr.heap.size, 0, none⟩ = some (.int .i64 eid) ∧ w'.cell? ⟨wr.heap.size, 1, none⟩ = some (.int .i64 (ef : Int)) ∧ w'.cell? ⟨wr.heap.size, 2, none⟩ = some (.int .i64 (et : Int)) ∧ w'.cell? ⟨wr.heap.size, 3, none⟩ = some (.int .i64 el) ∧ w'.cell? ⟨gb, ef, none⟩ = some hv1) (by kernel_rfl) (by exact ⟨e0, e1, e2, e3, hcE⟩) (fun hS inv => ?_)
      refine F_take (i := 0) (v := ?_) rfl (by kernel_rfl) (by kernel_rfl) (by kernel_rfl) (fun _ _ _ h => h) inv (Or.inl ⟨by rfl, ?_⟩) (by assumption) (fun invn => ?_)
      rotate_left
      · (intro w hSw; (try dsimp only at hSw); go_simp; try with_reducible rfl)
      try simp only [List.getElem_toArray, List.getElem_cons_zero, List.getElem_cons_succ, Act.put, List.setIfInBounds_toArray, List.set_cons_zero, List.set_cons_succ]
      clear inv
      have inv := invn
      clear invn
      refine F_take (i := 1) (v := ?_) rfl (by kernel_rfl) (by kernel_rfl) (by kernel_rfl) (fun _ _ _ h => h) inv (Or.inl ⟨by rfl, ?_⟩) (by assumption) (fun invn => ?_)
      rotate_left
      · (intro w hSw; (try dsimp only at hSw); go_simp; try with_reducible rfl)
      try simp only [List.getElem_toArray, List.getElem_cons_zero, List.getElem_cons_succ, Act.put, List.setIfInBounds_toArray, List.set_cons_zero, List.set_cons_succ]
      clear inv
      have inv := invn
      clear invn
      refine F_take (i := 2) (v := ?_) rfl (by kernel_rfl) (by kernel_rfl) (by kernel_rfl) (fun _ _ _ h => h) inv (Or.inl ⟨by rfl, ?_⟩) (by assumption) (fun invn => ?_)
      rotate_left
      · (intro w hSw; (try dsimp only at hSw); go_simp; try with_reducible rfl)
      try simp only [List.getElem_toArray, List.getElem_cons_zero, List.getElem_cons_succ, Act.put, List.setIfInBounds_toArray, List.set_cons_zero, List.set_cons_succ]
      clear inv
      have inv := invn
      clear invn
      refine F_take (i := 3) (v := ?_) rfl (by kernel_rfl) (by kernel_rfl) (by kernel_rfl) (fun _ _ _ h => h) inv (Or.inl ⟨by rfl, ?_⟩) (by assumption) (fun invn => ?_)
      rotate_left
      · (intro w hSw; (try dsimp only at hSw); go_simp; try with_reducible rfl)
      try simp only [List.getElem_toArray, List.getElem_cons_zero, List.getElem_cons_succ, Act.put, List.setIfInBounds_toArray, List.set_cons_zero, List.set_cons_succ]
      clear inv
      have inv := invn
      clear invn
      refine F_take (i := 4) (v := ?_) rfl (by kernel_rfl) (by kernel_rfl) (by kernel_rfl) (fun _ _ _ h => h) inv (Or.inl ⟨by rfl, ?_⟩) (by assumption) (fun invn => ?_)
      rotate_left
      · (intro w hSw; (try dsimp only at hSw); go_simp; try with_reducible rfl)
      try simp only [List.getElem_toArray, List.getElem_cons_zero, List.getElem_cons_succ, Act.put, List.setIfInBounds_toArray, List.set_cons_zero, List.set_cons_succ]
      clear inv
      have inv := invn
      clear invn
      refine F_take (i := 5) (v := ?_) rfl (by kernel_rfl) (by kernel_rfl) (by kernel_rfl) (fun _ _ _ h => h) inv (Or.inl ⟨by rfl, ?_⟩) (by assumption) (fun invn => ?_)
      rotate_left
      · (intro w hSw; (try dsimp only at hSw); go_simp; try with_reducible rfl)
      try simp only [List.getElem_toArray, List.getElem_cons_zero, List.getElem_cons_succ, Act.put, List.setIfInBounds_toArray, List.set_cons_zero, List.set_cons_succ]
      clear inv
      have inv := invn
      clear invn
      refine F_take (i := 6) (v := ?_) rfl (by kernel_rfl) (by kernel_rfl) (by kernel_rfl) (fun _ _ _ h => h) inv (Or.inl ⟨by rfl, ?_⟩) (by assumption) (fun invn => ?_)
      rotate_left
      · (intro w hSw; (try dsimp only at hSw); go_simp; try with_reducible rfl)
      try simp only [List.getElem_toArray, List.getElem_cons_zero, List.getElem_cons_succ, Act.put, List.setIfInBounds_toArray, List.set_cons_zero, List.set_cons_succ]
      clear inv
      have inv := invn
      clear invn
      refine F_take (i := 7) (v := ?_) rfl (by kernel_rfl) (by kernel_rfl) (by kernel_rfl) (fun _ _ _ h => h) inv (Or.inl ⟨by rfl, ?_⟩) (by assumption) (fun invn => ?_)
      rotate_left
      · (intro w hSw; (try dsimp only at hSw); go_simp; try with_reducible rfl)
      try simp only [List.getElem_toArray, List.getElem_cons_zero, List.getElem_cons_succ, Act.put, List.setIfInBounds_toArray, List.set_cons_zero, List.set_cons_succ]
      clear inv
      have inv := invn
      clear invn
      refine F_take (i := 8) (v := ?_) rfl (by kernel_rfl) (by kernel_rfl) (by kernel_rfl) (fun _ _ _ h => h) inv (Or.inl ⟨by rfl, ?_⟩) (by assumption) (fun invn => ?_)
      rotate_left
      · (intro w hSw; (try dsimp only at hSw); go_simp; try with_reducible rfl)
      try simp only [List.getElem_toArray, List.getElem_cons_zero, List.getElem_cons_succ, Act.put, List.setIfInBounds_toArray, List.set_cons_zero, List.set_cons_succ]
      clear inv
      have inv := invn
      clear invn
      refine F_take (i := 9) (v := ?_) rfl (by kernel_rfl) (by kernel_rfl) (by kernel_rfl) (fun _ _ _ h => h) inv (Or.inl ⟨by rfl, ?_⟩) (by assumption) (fun invn => ?_)
      rotate_left
      · (intro w hSw; (try dsimp only at hSw); go_simp; try with_reducible rfl)
      try simp only [List.getElem_toArray, List.getElem_cons_zero, List.getElem_cons_succ, Act.put, List.setIfInBounds_toArray, List.set_cons_zero, List.set_cons_succ]
      clear inv
      have inv := invn
      clear invn
      refine F_take (i := 10) (v := ?_) rfl (by kernel_rfl) (by kernel_rfl) (by kernel_rfl) (fun _ _ _ h => h) inv (Or.inl ⟨by rfl, ?_⟩) (by assumption) (fun invn => ?_)
      rotate_left
      · (intro w hSw; (try dsimp only at hSw); go_simp; try with_reducible rfl)
      try simp only [List.getElem_toArray, List.getElem_cons_zero, List.getElem_cons_succ, Act.put, List.setIfInBounds_toArray, List.set_cons_zero, List.set_cons_succ]
      clear inv
      have inv := invn
      clear invn
      refine F_take (i := 11) (v := ?_) rfl (by kernel_rfl) (by kernel_rfl) (by kernel_rfl) (fun _ _ _ h => h) inv (Or.inl ⟨by rfl, ?_⟩) (by assumption) (fun invn => ?_)
      rotate_left
      · (intro w hSw; (try dsimp only at hSw); go_simp; try with_reducible rfl)
      try simp only [List.getElem_toArray, List.getElem_cons_zero, List.getElem_cons_succ, Act.put, List.setIfInBounds_toArray, List.set_cons_zero, List.set_cons_succ]
      clear inv
      have inv := invn
      clear invn
      refine F_take (i := 13) (v := ?_) rfl (by kernel_rfl) (by kernel_rfl) (by kernel_rfl) (fun _ _ _ h => h) inv (Or.inl ⟨by rfl, ?_⟩) (by assumption) (fun invn => ?_)
      rotate_left
      · (intro w hSw; (try dsimp only at hSw); go_simp; try with_reducible rfl)
      try simp only [List.getElem_toArray, List.getElem_cons_zero, List.getElem_cons_succ, Act.put, List.setIfInBounds_toArray, List.set_cons_zero, List.set_cons_succ]
      clear inv
      have inv := invn
      clear invn
      refine F_take (i := 14) (v := ?_) rfl (by kernel_rfl) (by kernel_rfl) (by kernel_rfl) (fun _ _ _ h => h) inv (Or.inl ⟨by rfl, ?_⟩) (by assumption) (fun invn => ?_)
      rotate_left
      · (intro w hSw; (try dsimp only at hSw); go_simp; try with_reducible rfl)
      try simp only [List.getElem_toArray, List.getElem_cons_zero, List.getElem_cons_succ, Act.put, List.setIfInBounds_toArray, List.set_cons_zero, List.set_cons_succ]
      clear inv
      have inv := invn
      clear invn
      refine F_one (i := 12) (by kernel_rfl) rfl rfl (by omega) inv (fun K hK => ?_)
      try simp only [List.getElem_toArray, List.getElem_cons_zero, List.getElem_cons_succ]
      go_simp
      refine (reads_any (eid, (ef : Int), (et : Int), el) false _ hl0 hl2).mono ?_
      rintro en wR ⟨rfl, hbR⟩
      have hbR := below_trans (Below.refl wE.heap.size wE).drew hbR
      have hcR := kcell hbR hcE
      have hfR := kfb hbR hcE hfE
      have hsR := hbR.size
      have HRX := Lib.hid (ownsRow_below HRO.out hbR (Nat.le_refl _))
      refine hK.out _ _ (kB5 hbR ⟨e0, e1, e2, e3, hcE⟩) (fun hSn invn => ?_)
      try simp only [List.getElem_toArray, List.getElem_cons_zero, List.getElem_cons_succ, Act.put, List.setIfInBounds_toArray, List.set_cons_zero, List.set_cons_succ]
      clear hK K inv hS
      have inv := invn
      have hS := hSn
      clear invn hSn
      refine F_take (i := 15) (v := ?_) rfl (by kernel_rfl) (by kernel_rfl) (by kernel_rfl) (fun _ _ _ h => h) inv (Or.inl ⟨by rfl, ?_⟩) (by assumption) (fun invn => ?_)
      rotate_left
      · (intro w hSw; (try dsimp only at hSw); go_simp; try with_reducible rfl)
      try simp only [List.getElem_toArray, List.getElem_cons_zero, List.getElem_cons_succ, Act.put, List.setIfInBounds_toArray, List.set_cons_zero, List.set_cons_succ]
      clear inv
      have inv := invn
      clear invn
      refine F_one (i := 16) (by kernel_rfl) rfl rfl (by omega) inv (fun K hK => ?_)
      try simp only [List.getElem_toArray, List.getElem_cons_zero, List.getElem_cons_succ]
      go_simp
      refine hK.out _ _ (kA5 _ hS) (fun hSn invn => ?_)
      try simp only [List.getElem_toArray, List.getElem_cons_zero, List.getElem_cons_succ, Act.put, List.setIfInBounds_toArray, List.set_cons_zero, List.set_cons_succ]
      clear hK K inv hS
      have inv := invn
      have hS := hSn
      clear invn hSn
      refine F_one (i := 17) (by kernel_rfl) rfl rfl (by omega) inv (fun K hK => ?_)
      try simp only [List.getElem_toArray, List.getElem_cons_zero, List.getElem_cons_succ]
      refine op_append1 cA elArc rfl _ _ (by rfl) gb hv1 row1 ((eid, false), arcLetter false (eid, (ef : Int), (et : Int), el), (et : Int)) 1 _ (by rfl) (HRX.out.alloc _) (by rfl) (heap_alloc_new _ _) rfl (cA_one _) (by omega) (by omega) (by simp; omega) ?_
      intro g2 cp2 w3 hown3 hgr3 hat3 hlt3
      have HO3 := Lib.hid hown3
      have HG3 := Lib.hid hgr3
      have HA3 := Lib.hid hat3
      clear hown3 hgr3 hat3
      refine hK.out _ _ (kG5 HG3.out hne1 hne1 hne1 hne1 hne2 hS) (fun hSn invn => ?_)
      try simp only [List.getElem_toArray, List.getElem_cons_zero, List.getElem_cons_succ, Act.put, List.setIfInBounds_toArray, List.set_cons_zero, List.set_cons_succ]
      clear hK K inv hS
      have inv := invn
      have hS := hSn
      clear invn hSn
      refine F_take (i := 18) (v := ?_) rfl (by kernel_rfl) (by kernel_rfl) (by kernel_rfl) (fun _ _ _ h => h) inv (Or.inl ⟨by rfl, ?_⟩) (by assumption) (fun invn => ?_)
      rotate_left
      · (intro w hSw; (try dsimp only at hSw); go_simp; try with_reducible rfl)
      try simp only [List.getElem_toArray, List.getElem_cons_zero, List.getElem_cons_succ, Act.put, List.setIfInBounds_toArray, List.set_cons_zero, List.set_cons_succ]
      clear inv
      have inv := invn
      clear invn
      have hcz := HG3.out.cell (kcell ((Below.refl _ _).alloc (Nat.le_refl _) _) hcR) hne2
      have hfz := kfg HG3.out (p := ⟨gb, ef, none⟩) hne2 (kcell ((Below.refl _ _).alloc (Nat.le_refl _) _) hcR) (kfb ((Below.refl _ _).alloc (Nat.le_refl _) _) hcR hfR)
      refine F_last (i := 19) (by kernel_rfl) rfl rfl (by omega) (by kernel_rfl) (fun K hK => ?_)
      go_simp
      refine hK _ _ ?_
      clear hK K inv hS
      have hbA : Below wE.heap.size wE (wR.alloc (.cells #[.int .i64 eid, .bool false, .int .i64 (arcLetter false (eid, (ef : Int), (et : Int), el)), .int .i64 (et : Int)] 149)) := hbR.alloc hsR _
      have hrF := Rws.push (HRE.out.below hbA) HHF.out HX1.out HO3.out HG3.out rfl HA3.out
      have hbF : Below w.heap.size w (w3.setCell ⟨gb, ef, none⟩ (.slice (some ⟨g2, 0, none⟩) (row1.length + 1) cp2)) :=
        ((HBE.out.trans (hbA.mono HBE.out.size)).grown HG3.out (Nat.le_trans HBE.out.size hbA.size) (fun b hb => by have := (HRX.out.lt b hb).1; omega)).setCell (by simp only; omega) _
      have f0 := (World.cell?_setCell_far w3 ⟨gb, ef, none⟩ ⟨wr.heap.size, 0, none⟩ (.slice (some ⟨g2, 0, none⟩) (row1.length + 1) cp2) (Ne.symm hgE1)).trans (HG3.out.cell (kcell hbA e0) hne1)
      have f1 := (World.cell?_setCell_far w3 ⟨gb, ef, none⟩ ⟨wr.heap.size, 1, none⟩ (.slice (some ⟨g2, 0, none⟩) (row1.length + 1) cp2) (Ne.symm hgE1)).trans (HG3.out.cell (kcell hbA e1) hne1)
      have f2 := (World.cell?_setCell_far w3 ⟨gb, ef, none⟩ ⟨wr.heap.size, 2, none⟩ (.slice (some ⟨g2, 0, none⟩) (row1.length + 1) cp2) (Ne.symm hgE1)).trans (HG3.out.cell (kcell hbA e2) hne1)
      have f3 := (World.cell?_setCell_far w3 ⟨gb, ef, none⟩ ⟨wr.heap.size, 3, none⟩ (.slice (some ⟨g2, 0, none⟩) (row1.length + 1) cp2) (Ne.symm hgE1)).trans (HG3.out.cell (kcell hbA e3) hne1)
      have hg23 : some wr.heap.size ≠ (Value.slice (some ⟨g2, 0, none⟩) (row1.length + 1) cp2).ownBlock := by
        simp only [Value.ownBlock, ne_eq, Option.some.injEq]
        intro e9; subst e9
        rcases HA3.out with h9 | h9
        · exact hne1 h9.symm
        · have := hbA.size; omega
      rw [show (rowsTo g i).set ef (row1 ++ [((eid, false), arcLetter false (eid, (ef : Int), (et : Int), el), (et : Int))]) = rowFrom g i (eid, (ef : Int), (et : Int), el) by rw [HROW1.out]; rfl] at hrF
      generalize (w3.setCell ⟨gb, ef, none⟩ (.slice (some ⟨g2, 0, none⟩) (row1.length + 1) cp2)) = wF at *
      have hethF : et < (hs.set ef (.slice (some ⟨g2, 0, none⟩) (row1.length + 1) cp2)).length := by rw [List.length_set, HRE.out.len, rowsTo_len]; omega
      have hhb : (hs.set ef (.slice (some ⟨g2, 0, none⟩) (row1.length + 1) cp2))[et]? = some (hs.set ef (.slice (some ⟨g2, 0, none⟩) (row1.length + 1) cp2))[et] := List.getElem?_eq_getElem hethF
      generalize (hs.set ef (.slice (some ⟨g2, 0, none⟩) (row1.length + 1) cp2))[et] = hv2 at hhb
      have hx2 : (rowFrom g i (eid, (ef : Int), (et : Int), el))[et]? = some (rowBack g i (eid, (ef : Int), (et : Int), el)) := by have := rowFrom_at (g := g) (i := i) (e := (eid, (ef : Int), (et : Int), el)) (by simp only; omega) (by simp only; omega) (by simp only; omega) (by simp only; omega); simpa using this
      have hne3 : some wr.heap.size ≠ hv2.ownBlock := by
        rw [List.getElem?_set] at hhb
        split at hhb
        · split at hhb
          · injection hhb with hhb; rw [← hhb]; exact hg23
          · cases hhb
        · exact HNER.out et hv2 hhb
      have hne4 : some gb ≠ hv2.ownBlock := Ne.symm (hrF.far _ _ hhb)
      have hcF := hrF.cell hhb
      have hfF := hrF.frozen et
      have hgF := hrF.gLt.2
      have HRO2 := Lib.hid (hrF.row et hv2 _ hhb hx2)
      have hlq : wr.heap.size < wF.heap.size := World.block_lt_of_cell? wF _ f0
      have hrl2 : (rowBack g i (eid, (ef : Int), (et : Int), el)).length ≤ 25 := by
        have h1 := flat_len (arcE_len (et : Int)) (g.edges.take i)
        rw [List.length_take] at h1
        unfold rowBack
        rw [List.length_append]
        split
        · simp only [List.length_singleton]; omega
        · simp only [List.length_nil]; omega
      have HHB := Lib.hid hhb
      have HX2 := Lib.hid hx2
      have HRF := Lib.hid hrF
      have HBF := Lib.hid hbF
      clear hhb hx2 hrF hbF hbA hethF
      obtain ⟨row2, hrow2⟩ : ∃ row2, row2 = rowBack g i (eid, (ef : Int), (et : Int), el) := ⟨_, rfl⟩
      rw [← hrow2] at hrl2 HRO2 HX2
      have HROW2 := Lib.hid hrow2
      clear hrow2 hcz hfz hbR hcR hfR hsR HRX HO3 HG3 HA3 e0 e1 e2 e3 hcE hfE hsE hgE HRE HBE hne1 hne2 HRO hrl HNER hg23 hlt3
      go_wp2_with fail
      refine F_start 19 (fun w' => w'.cell? ⟨wr.heap.size, 0, none⟩ = some (.int .i64 eid) ∧ w'.cell? ⟨wr.heap.size, 1, none⟩ = some (.int .i64 (ef : Int)) ∧ w'.cell? ⟨wr.heap.size, 2, none⟩ = some (.int .i64 (et : Int)) ∧ w'.cell? ⟨wr.heap.size, 3, none⟩ = some (.int .i64 el) ∧ w'.cell? ⟨gb, et, none⟩ = some hv2) (by kernel_rfl) (by exact ⟨f0, f1, f2, f3, hcF⟩) (fun hS inv => ?_)
      refine F_take (i := 0) (v := ?_) rfl (by kernel_rfl) (by kernel_rfl) (by kernel_rfl) (fun _ _ _ h => h) inv (Or.inl ⟨by rfl, ?_⟩) (by assumption) (fun invn => ?_)
      rotate_left
      · (intro w hSw; (try dsimp only at hSw); go_simp; try with_reducible rfl)
      try simp only [List.getElem_toArray, List.getElem_cons_zero, List.getElem_cons_succ, Act.put, List.setIfInBounds_toArray, List.set_cons_zero, List.set_cons_succ]
      clear inv
      have inv := invn
      clear invn
      refine F_take (i := 1) (v := ?_) rfl (by kernel_rfl) (by kernel_rfl) (by kernel_rfl) (fun _ _ _ h => h) inv (Or.inl ⟨by rfl, ?_⟩) (by assumption) (fun invn => ?_)
      rotate_left
      · (intro w hSw; (try dsimp only at hSw); go_simp; try with_reducible rfl)
      try simp only [List.getElem_toArray, List.getElem_cons_zero, List.getElem_cons_succ, Act.put, List.setIfInBounds_toArray, List.set_cons_zero, List.set_cons_succ]
      clear inv
      have inv := invn
      clear invn
      refine F_take (i := 2) (v := ?_) rfl (by kernel_rfl) (by kernel_rfl) (by kernel_rfl) (fun _ _ _ h => h) inv (Or.inl ⟨by rfl, ?_⟩) (by assumption) (fun invn => ?_)
      rotate_left
      · (intro w hSw; (try dsimp only at hSw); go_simp; try with_reducible rfl)
      try simp only [List.getElem_toArray, List.getElem_cons_zero, List.getElem_cons_succ, Act.put, List.setIfInBounds_toArray, List.set_cons_zero, List.set_cons_succ]
      clear inv
      have inv := invn
      clear invn
      refine F_take (i := 3) (v := ?_) rfl (by kernel_rfl) (by kernel_rfl) (by kernel_rfl) (fun _ _ _ h => h) inv (Or.inl ⟨by rfl, ?_⟩) (by assumption) (fun invn => ?_)
      rotate_left
      · (intro w hSw; (try dsimp only at hSw); go_simp; try with_reducible rfl)
      try simp only [List.getElem_toArray, List.getElem_cons_zero, List.getElem_cons_succ, Act.put, List.setIfInBounds_toArray, List.set_cons_zero, List.set_cons_succ]
      clear inv
      have inv := invn
      clear invn
      refine F_take (i := 4) (v := ?_) rfl (by kernel_rfl) (by kernel_rfl) (by kernel_rfl) (fun _ _ _ h => h) inv (Or.inl ⟨by rfl, ?_⟩) (by assumption) (fun invn => ?_)
      rotate_left
      · (intro w hSw; (try dsimp only at hSw); go_simp; try with_reducible rfl)
      try simp only [List.getElem_toArray, List.getElem_cons_zero, List.getElem_cons_succ, Act.put, List.setIfInBounds_toArray, List.set_cons_zero, List.set_cons_succ]
      clear inv
      have inv := invn
      clear invn
      refine F_take (i := 5) (v := ?_) rfl (by kernel_rfl) (by kernel_rfl) (by kernel_rfl) (fun _ _ _ h => h) inv (Or.inl ⟨by rfl, ?_⟩) (by assumption) (fun invn => ?_)
      rotate_left
      · (intro w hSw; (try dsimp only at hSw); go_simp; try with_reducible rfl)
      try simp only [List.getElem_toArray, List.getElem_cons_zero, List.getElem_cons_succ, Act.put, List.setIfInBounds_toArray, List.set_cons_zero, List.set_cons_succ]
      clear inv
      have inv := invn
      clear invn
      refine F_take (i := 6) (v := ?_) rfl (by kernel_rfl) (by kernel_rfl) (by kernel_rfl) (fun _ _ _ h => h) inv (Or.inl ⟨by rfl, ?_⟩) (by assumption) (fun invn => ?_)
      rotate_left
      · (intro w hSw; (try dsimp only at hSw); go_simp; try with_reducible rfl)
      try simp only [List.getElem_toArray, List.getElem_cons_zero, List.getElem_cons_succ, Act.put, List.setIfInBounds_toArray, List.set_cons_zero, List.set_cons_succ]
      clear inv
      have inv := invn
      clear invn
      refine F_take (i := 7) (v := ?_) rfl (by kernel_rfl) (by kernel_rfl) (by kernel_rfl) (fun _ _ _ h => h) inv (Or.inl ⟨by rfl, ?_⟩) (by assumption) (fun invn => ?_)
      rotate_left
      · (intro w hSw; (try dsimp only at hSw); go_simp; try with_reducible rfl)
      try simp only [List.getElem_toArray, List.getElem_cons_zero, List.getElem_cons_succ, Act.put, List.setIfInBounds_toArray, List.set_cons_zero, List.set_cons_succ]
      clear inv
      have inv := invn
      clear invn
      refine F_take (i := 8) (v := ?_) rfl (by kernel_rfl) (by kernel_rfl) (by kernel_rfl) (fun _ _ _ h => h) inv (Or.inl ⟨by rfl, ?_⟩) (by assumption) (fun invn => ?_)
      rotate_left
      · (intro w hSw; (try dsimp only at hSw); go_simp; try with_reducible rfl)
      try simp only [List.getElem_toArray, List.getElem_cons_zero, List.getElem_cons_succ, Act.put, List.setIfInBounds_toArray, List.set_cons_zero, List.set_cons_succ]
      clear inv
      have inv := invn
      clear invn
      refine F_take (i := 9) (v := ?_) rfl (by kernel_rfl) (by kernel_rfl) (by kernel_rfl) (fun _ _ _ h => h) inv (Or.inl ⟨by rfl, ?_⟩) (by assumption) (fun invn => ?_)
      rotate_left
      · (intro w hSw; (try dsimp only at hSw); go_simp; try with_reducible rfl)
      try simp only [List.getElem_toArray, List.getElem_cons_zero, List.getElem_cons_succ, Act.put, List.setIfInBounds_toArray, List.set_cons_zero, List.set_cons_succ]
      clear inv
      have inv := invn
      clear invn
      refine F_take (i := 10) (v := ?_) rfl (by kernel_rfl) (by kernel_rfl) (by kernel_rfl) (fun _ _ _ h => h) inv (Or.inl ⟨by rfl, ?_⟩) (by assumption) (fun invn => ?_)
      rotate_left
      · (intro w hSw; (try dsimp only at hSw); go_simp; try with_reducible rfl)
      try simp only [List.getElem_toArray, List.getElem_cons_zero, List.getElem_cons_succ, Act.put, List.setIfInBounds_toArray, List.set_cons_zero, List.set_cons_succ]
      clear inv
      have inv := invn
      clear invn
      refine F_take (i := 11) (v := ?_) rfl (by kernel_rfl) (by kernel_rfl) (by kernel_rfl) (fun _ _ _ h => h) inv (Or.inl ⟨by rfl, ?_⟩) (by assumption) (fun invn => ?_)
      rotate_left
      · (intro w hSw; (try dsimp only at hSw); go_simp; try with_reducible rfl)
      try simp only [List.getElem_toArray, List.getElem_cons_zero, List.getElem_cons_succ, Act.put, List.setIfInBounds_toArray, List.set_cons_zero, List.set_cons_succ]
      clear inv
      have inv := invn
      clear invn
      refine F_take (i := 13) (v := ?_) rfl (by kernel_rfl) (by kernel_rfl) (by kernel_rfl) (fun _ _ _ h => h) inv (Or.inl ⟨by rfl, ?_⟩) (by assumption) (fun invn => ?_)
      rotate_left
      · (intro w hSw; (try dsimp only at hSw); go_simp; try with_reducible rfl)
      try simp only [List.getElem_toArray, List.getElem_cons_zero, List.getElem_cons_succ, Act.put, List.setIfInBounds_toArray, List.set_cons_zero, List.set_cons_succ]
      clear inv
      have inv := invn
      clear invn
      refine F_take (i := 14) (v := ?_) rfl (by kernel_rfl) (by kernel_rfl) (by kernel_rfl) (fun _ _ _ h => h) inv (Or.inl ⟨by rfl, ?_⟩) (by assumption) (fun invn => ?_)
      rotate_left
      · (intro w hSw; (try dsimp only at hSw); go_simp; try with_reducible rfl)
      try simp only [List.getElem_toArray, List.getElem_cons_zero, List.getElem_cons_succ, Act.put, List.setIfInBounds_toArray, List.set_cons_zero, List.set_cons_succ]
      clear inv
      have inv := invn
      clear invn
      refine F_one (i := 12) (by kernel_rfl) rfl rfl (by omega) inv (fun K hK => ?_)
      try simp only [List.getElem_toArray, List.getElem_cons_zero, List.getElem_cons_succ]
      go_simp
      refine (reads_any (eid, (ef : Int), (et : Int), el) true _ hl0 hl2).mono ?_
      rintro en wS ⟨rfl, hbR⟩
      have hbR := below_trans (Below.refl wF.heap.size wF).drew hbR
      have hcR := kcell hbR hcF
      have hfR := kfb hbR hcF hfF
      have hsR := hbR.size
      have HRX := Lib.hid (ownsRow_below HRO2.out hbR (Nat.le_refl _))
      refine hK.out _ _ (kB5 hbR ⟨f0, f1, f2, f3, hcF⟩) (fun hSn invn => ?_)
      try simp only [List.getElem_toArray, List.getElem_cons_zero, List.getElem_cons_succ, Act.put, List.setIfInBounds_toArray, List.set_cons_zero, List.set_cons_succ]
      clear hK K inv hS
      have inv := invn
      have hS := hSn
      clear invn hSn
      refine F_take (i := 15) (v := ?_) rfl (by kernel_rfl) (by kernel_rfl) (by kernel_rfl) (fun _ _ _ h => h) inv (Or.inl ⟨by rfl, ?_⟩) (by assumption) (fun invn => ?_)
      rotate_left
      · (intro w hSw; (try dsimp only at hSw); go_simp; try with_reducible rfl)
      try simp only [List.getElem_toArray, List.getElem_cons_zero, List.getElem_cons_succ, Act.put, List.setIfInBounds_toArray, List.set_cons_zero, List.set_cons_succ]
      clear inv
      have inv := invn
      clear invn
      refine F_one (i := 16) (by kernel_rfl) rfl rfl (by omega) inv (fun K hK => ?_)
      try simp only [List.getElem_toArray, List.getElem_cons_zero, List.getElem_cons_succ]
      go_simp
      refine hK.out _ _ (kA5 _ hS) (fun hSn invn => ?_)
      try simp only [List.getElem_toArray, List.getElem_cons_zero, List.getElem_cons_succ, Act.put, List.setIfInBounds_toArray, List.set_cons_zero, List.set_cons_succ]
      clear hK K inv hS
      have inv := invn
      have hS := hSn
      clear invn hSn
      refine F_one (i := 17) (by kernel_rfl) rfl rfl (by omega) inv (fun K hK => ?_)
      try simp only [List.getElem_toArray, List.getElem_cons_zero, List.getElem_cons_succ]
      refine op_append1 cA elArc rfl _ _ (by rfl) gb hv2 row2 ((eid, true), arcLetter true (eid, (ef : Int), (et : Int), el), (ef : Int)) 1 _ (by rfl) (HRX.out.alloc _) (by rfl) (heap_alloc_new _ _) rfl (cA_one _) (by omega) (by omega) (by simp; omega) ?_
      intro g3 cp3 w4 hown3 hgr3 hat3 hlt3
      have HO3 := Lib.hid hown3
      have HG3 := Lib.hid hgr3
      have HA3 := Lib.hid hat3
      clear hown3 hgr3 hat3
      refine hK.out _ _ (kG5 HG3.out hne3 hne3 hne3 hne3 hne4 hS) (fun hSn invn => ?_)
      try simp only [List.getElem_toArray, List.getElem_cons_zero, List.getElem_cons_succ, Act.put, List.setIfInBounds_toArray, List.set_cons_zero, List.set_cons_succ]
      clear hK K inv hS
      have inv := invn
      have hS := hSn
      clear invn hSn
      refine F_take (i := 18) (v := ?_) rfl (by kernel_rfl) (by kernel_rfl) (by kernel_rfl) (fun _ _ _ h => h) inv (Or.inl ⟨by rfl, ?_⟩) (by assumption) (fun invn => ?_)
      rotate_left
      · (intro w hSw; (try dsimp only at hSw); go_simp; try with_reducible rfl)
      try simp only [List.getElem_toArray, List.getElem_cons_zero, List.getElem_cons_succ, Act.put, List.setIfInBounds_toArray, List.set_cons_zero, List.set_cons_succ]
      clear inv
      have inv := invn
      clear invn
      have hcz := HG3.out.cell (kcell ((Below.refl _ _).alloc (Nat.le_refl _) _) hcR) hne4
      have hfz := kfg HG3.out (p := ⟨gb, et, none⟩) hne4 (kcell ((Below.refl _ _).alloc (Nat.le_refl _) _) hcR) (kfb ((Below.refl _ _).alloc (Nat.le_refl _) _) hcR hfR)
      refine F_last (i := 19) (by kernel_rfl) rfl rfl (by omega) (by kernel_rfl) (fun K hK => ?_)
      go_simp
      refine hK _ _ ?_
      clear hK K inv hS
      have hbA : Below wF.heap.size wF (wS.alloc (.cells #[.int .i64 eid, .bool true, .int .i64 (arcLetter true (eid, (ef : Int), (et : Int), el)), .int .i64 (ef : Int)] 149)) := hbR.alloc hsR _
      have hrG := Rws.push (HRF.out.below hbA) HHB.out HX2.out HO3.out HG3.out rfl HA3.out
      have hbG : Below w.heap.size w (w4.setCell ⟨gb, et, none⟩ (.slice (some ⟨g3, 0, none⟩) (row2.length + 1) cp3)) :=
        ((HBF.out.trans (hbA.mono HBF.out.size)).grown HG3.out (Nat.le_trans HBF.out.size hbA.size) (fun b hb => by have := (HRX.out.lt b hb).1; omega)).setCell (by simp only; omega) _
      have hpush := rowsTo_push (g := g) HEI.out (by simp only; omega) (by simp only; omega) (by simp only; omega) (by simp only; omega)
      simp only [Int.toNat_natCast] at hpush
      rw [HROW2.out, hpush] at hrG
      have HRG := Lib.hid hrG
      have HBG := Lib.hid hbG
      clear hrG hbG hbA hpush hcz hfz hbR hcR hfR
      rw [← HROW2.out] at HRG
      go_wp2_with fail
      go_roundw
      case rel => exact ⟨i + 1, _, by omega, by go_num, HRG.out, HBG.out⟩
      case measure => simp [intOf]; omega
    · obtain rfl : i = g.edges.length := by omega
      have hs1 := hrow.sse cA_len (lo := w.heap.size) (by omega) (by omega)
      have hln : hs.length = g.vals.length := by rw [hrow.len, rowsTo_len]
      rw [rowsTo_all, hln] at hs1
      have HS1 := Lib.hid hs1
      clear hrow hs1 hln
      go_wp2_with fail
      go_ret
      exact ⟨_, rfl, by rw [HR.out]; exact HS1.out, hbel⟩
end Go.Proofs.Ytmlfkledhnlkeaa

