/- Parts of the proof, joined into one text: MemD, Ctr, Count, CtrN, NthI, WalksI, LstI, ListM. -/
import Derived.Test.YtpbfdmfkmbdpkaaGreatPartJLPHDKBB
import Derived.Maps.Views
import Derived.Test.YtpbfdmfkmbdpkaaGreatPartHFDECNJL
import Derived.Test.YtpbfdmfkmbdpkaaGreatPartJJDOAKLA
import Derived.Test.YtpbfdmfkmbdpkaaGreatPartPBJACGOB
import Derived.Test.YtpbfdmfkmbdpkaaGreatPartHJLKGLGC
import Derived.Deep.LoopGhost
import Derived.Test.YtpbfdmfkmbdpkaaGreatPartODINPDPK
import Derived.Test.YtpbfdmfkmbdpkaaGreatPartAIPHIKGG
/- What the counter's memory holds: counts of places, each once. -/
namespace Go.Proofs.YtpbfdmfkmbdpkaaGreat
set_option linter.unusedVariables false
set_option linter.unusedSimpArgs false
open Go.ChangeShapes Go.WideShapes Go.ChangeAt Go.RowKit Go.Maps
theorem wf_nat {x : Nat} (h : x ≤ 9223372036854775807) : (Lit.int .i64 (x : Int)).wf = true := by
  have e1 : IntKind.i64.min = -9223372036854775808 := by decide
  have e2 : IntKind.i64.max = 9223372036854775807 := by decide
  simp [Lit.wf, IntKind.wrap] <;> omega
abbrev Plc := Nat × Nat × Nat
def plcOk (z : Plc) : Prop := z.1 < 5 ∧ z.2.1 < 4096 ∧ z.2.2 ≤ 60
structure MemD {H : Type} (g : Gr) (a : Au) (y : Int) (D : DataW H) (M : List Plc) : Prop where
  map : IsMap D
  nod : M.Nodup
  rng : ∀ z ∈ M, plcOk z
  has : ∀ z : Plc, plcOk z → Maps.has D (plKey z.1 z.2.1 z.2.2) = decide (z ∈ M)
  val : ∀ z ∈ M, D.atKey (plKey z.1 z.2.1 z.2.2) (.lit (.int .i64 0)) = .lit (.int .i64 (cw g a y z.2.2 z.1 z.2.1 : Nat))
theorem plKey_nat {z z' : Plc} (h : plcOk z) (h' : plcOk z') (e : plKey z.1 z.2.1 z.2.2 = plKey z'.1 z'.2.1 z'.2.2) : z = z' := by
  obtain ⟨x, s, f⟩ := z
  obtain ⟨x', s', f'⟩ := z'
  unfold plcOk at h h'
  simp only at h h' e
  obtain ⟨h1, h2, h3⟩ := plKey_inj (wf_nat (by omega)) (wf_nat (by omega)) (wf_nat (by omega)) (wf_nat (by omega)) (wf_nat (by omega)) (wf_nat (by omega)) e
  simp only [Prod.mk.injEq]
  omega
theorem MemD.empty {H : Type} (g : Gr) (a : Au) (y : Int) : MemD g a y (.map [] : DataW H) [] :=
  ⟨isMap_empty, List.nodup_nil, (fun z hz => by cases hz), (fun z _ => by simp [Maps.has_eq]), (fun z hz => by cases hz)⟩
theorem MemD.put {H : Type} {g : Gr} {a : Au} {y : Int} {D : DataW H} {M : List Plc} (h : MemD g a y D M) {z : Plc} (hz : plcOk z) (hn : z ∉ M) :
    MemD g a y (D.put (plKey z.1 z.2.1 z.2.2) (.lit (.int .i64 (cw g a y z.2.2 z.1 z.2.1 : Nat)))) (M ++ [z]) := by
  refine ⟨h.map.put _ _, List.nodup_append.2 ⟨h.nod, by simp, fun b hb c hc e => ?_⟩, fun u hu => ?_, fun u hu => ?_, fun u hu => ?_⟩
  · rw [List.mem_singleton] at hc
    subst hc e
    exact hn hb
  · rcases List.mem_append.1 hu with hu | hu
    · exact h.rng u hu
    · rw [List.mem_singleton] at hu
      subst hu
      exact hz
  · by_cases e : u = z
    · subst e
      rw [Maps.has_put_same h.map (show WideAt.IsKeyLit (plKey u.1 u.2.1 u.2.2) from trivial)]
      simp
    · rw [Maps.has_put_other (fun e2 => e (plKey_nat hu hz e2)), h.has u hu, decide_eq_decide, List.mem_append, List.mem_singleton]
      exact ⟨.inl, fun h => h.resolve_right e⟩
  · by_cases e : u = z
    · subst e
      rw [atKey_put_same h.map (show WideAt.IsKeyLit (plKey u.1 u.2.1 u.2.2) from trivial)]
    · have hu2 : u ∈ M := by
        rcases List.mem_append.1 hu with hu | hu
        · exact hu
        · rw [List.mem_singleton] at hu; exact absurd hu e
      rw [atKey_put_other (fun e2 => e (plKey_nat (h.rng u hu2) hz e2))]
      exact h.val u hu2
theorem MemD.len {H : Type} {g : Gr} {a : Au} {y : Int} {D : DataW H} {M : List Plc} (h : MemD g a y D M) : M.length ≤ 1249280 := by
  have h1 := nodup_subN (M.map fun z => (z.1 * 4096 + z.2.1) * 61 + z.2.2) (List.range 1249280) ?_ ?_
  · simpa using h1
  · rw [List.Nodup, List.pairwise_map]
    refine List.Pairwise.imp_of_mem ?_ h.nod
    intro b c hb hc hne he
    refine hne ?_
    have hb := h.rng b hb
    have hc := h.rng c hc
    unfold plcOk at hb hc
    exact Prod.ext (by omega) (Prod.ext (by omega) (by omega))
  · intro u hu
    obtain ⟨z, hz, rfl⟩ := List.mem_map.1 hu
    have hz := h.rng z hz
    unfold plcOk at hz
    rw [List.mem_range]
    omega
end Go.Proofs.YtpbfdmfkmbdpkaaGreat

/- The program's counter: what it holds, the place behind a step, and the count with its memory. -/
namespace Go.Proofs.YtpbfdmfkmbdpkaaGreat
set_option linter.unusedVariables false
set_option linter.unusedSimpArgs false
open Go.ChangeShapes Go.WideShapes Go.ChangeAt Go.RowKit Go.Maps
attribute [local go_sem] ext_cell ext_frozen ext_lt ext_lt1 ext_lt2 ext_lt3 ltn2 ltn3 ltn13 lts1 lts2 lts3

theorem ownsMap_at {H : Type} {P : Program} {k : TypeId} {R : Value → Option (DataW H × List MemPlace)} {w w' : World} {b n : Nat} {D : DataW H} (h : w.ownsMap P k R b n D) (hb : w'.heap[b]? = w.heap[b]?) : w'.ownsMap P k R b n D := by
  obtain ⟨es, clock, h1, h2⟩ := h
  exact ⟨es, clock, hb.trans h1, h2⟩
/-- 'm[k] = v', at the operation -/
theorem op_mapUpdate_own {H : Type} {P : Program} (w : World) {o : Oper} {a : Act} {K : Act → World → Prop} {Q : Exit → Act → World → Prop}
    (m x v : Operand) (t : TypeId) (hop : o.op = Op.mapUpdate t m x v)
    (k e : TypeId) (KK : Keyed P k) (ht : P.underlying t = some (.map k e)) (R : Value → Option (DataW H × List MemPlace)) (b n : Nat) (D : DataW H)
    (hm : a.eval m = .map (some b)) (hown : w.ownsMap P k R b n D) (hn : n < maxLen) (key val : Value) (kl : Lit) (hx : a.eval x = key) (hv : a.eval v = val) (hkey : keyOf P k key = some kl)
    (d : DataW H) (ps : List MemPlace) (hval : R val = some (d, ps))
    (hK : ∀ w', w'.ownsMap P k R b (n + 1) (D.put kl d) → w.grownBy w' (some b) → K (a.put o.dst undef) w') : Oper.wp P o a w K Q := by
  obtain ⟨w', hrun, r1, r2⟩ := hown.update KK ht hn hkey hval
  unfold Oper.wp
  simp [execOp, hop, hm, hx, hv, hrun, Result.andThen]
  exact hK w' r1 r2
/-- the counter in block bC; its memory is the map in block bM -/
def Ctr (g : Gr) (a : Au) (y : Int) (w : World) (bC bM : Nat) : Prop :=
  ∃ (B lo hi : Nat) (A1 A2 A3 A4 A5 : Option Addr) (c1 c2 c3 c4 c5 : Nat),
    Blk w bC 145 #[.slice A1 g.vals.length c1, .slice A2 g.edges.length c2, .int .i64 a.start, .slice A3 a.accept.length c3, .slice A4 a.accept.length c4, .int .i64 y, .slice A5 g.vals.length c5, .map (some bM)] ∧
    GrV 0 B w (.agg #[.slice A1 g.vals.length c1, .slice A2 g.edges.length c2]) g ∧ AuV 0 B w (.agg #[.int .i64 a.start, .slice A3 a.accept.length c3, .slice A4 a.accept.length c4]) a ∧
    SSE lo hi w cA 4 (.slice A5 g.vals.length c5) ((List.range g.vals.length).map fun (x : Nat) => arcsOf g (x : Int)) ∧ B ≤ bM ∧ (hi ≤ bM ∨ bM < lo) ∧ hi ≤ w.heap.size ∧ B ≤ w.heap.size ∧ bC ≠ bM
theorem Ctr.only {g : Gr} {a : Au} {y : Int} {w w' : World} {bC bM : Nat} (h : Ctr g a y w bC bM) (ho : Only bM (bM + 1) w w') : Ctr g a y w' bC bM := by
  obtain ⟨B, lo, hi, A1, A2, A3, A4, A5, c1, c2, c3, c4, c5, h1, h2, h3, h4, h5, h6, h7, h8, h9⟩ := h
  have hs := ho.size
  exact ⟨B, lo, hi, A1, A2, A3, A4, A5, c1, c2, c3, c4, c5, h1.only ho (by omega), h2.only ho h8 (.inl h5), h3.only ho h8 (.inl h5), h4.only ho h7 (by omega), h5, h6, by omega, by omega, h9⟩
theorem Ctr.keep {g : Gr} {a : Au} {y : Int} {w w' : World} {bC bM : Nat} (h : Ctr g a y w bC bM) (hb : Below w.heap.size w w') : Ctr g a y w' bC bM := h.only (Only.of_below hb _ _)
theorem Ctr.lt {g : Gr} {a : Au} {y : Int} {w : World} {bC bM : Nat} (h : Ctr g a y w bC bM) : bC < w.heap.size := by
  obtain ⟨B, lo, hi, A1, A2, A3, A4, A5, c1, c2, c3, c4, c5, h1, -⟩ := h
  exact h1.lt
theorem valOf {g : Gr} (hgo : grOk g = true) {x : Nat} (hx : x < g.vals.length) : ∃ vx : Nat, g.vals[x]? = some (vx : Int) ∧ valAt g x = vx ∧ vx ≤ 2 := by
  have hxi : g.vals[x]? = some g.vals[x] := List.getElem?_eq_getElem hx
  have hvr := (grOk_iff.1 hgo).vals _ (List.getElem_mem hx)
  obtain ⟨vx, hvx⟩ := Int.eq_ofNat_of_zero_le hvr.1
  refine ⟨vx, by rw [hxi, hvx], ?_, by omega⟩
  have := valAt_of hxi
  rw [this, hvx, Int.toNat_natCast]
/-- the memory, and what the counter's calls do to it: places of at most f steps come in -/
def Mem (g : Gr) (a : Au) (y : Int) (w : World) (bM : Nat) (M : List Plc) : Prop := ∃ D : DataW Unit, w.ownsMap Tryz.prog 121 (plainElem Tryz.prog 3) bM M.length D ∧ MemD g a y D M
theorem Mem.keep {g : Gr} {a : Au} {y : Int} {w w' : World} {bM : Nat} {M : List Plc} (h : Mem g a y w bM M) (hb : Below w.heap.size w w') : Mem g a y w' bM M := by
  obtain ⟨D, h1, h2⟩ := h
  exact ⟨D, ownsMap_at h1 (hb.block _ h1.lt), h2⟩
def More (f : Nat) (M M' : List Plc) : Prop := ∃ T, M' = M ++ T ∧ ∀ z ∈ T, z.2.2 ≤ f
theorem More.refl (f : Nat) (M : List Plc) : More f M M := ⟨[], by simp, fun z hz => by cases hz⟩
theorem More.trans {f : Nat} {M M' M'' : List Plc} (h : More f M M') (h' : More f M' M'') : More f M M'' := by
  obtain ⟨T, rfl, h1⟩ := h
  obtain ⟨T', rfl, h2⟩ := h'
  exact ⟨T ++ T', by rw [List.append_assoc], fun z hz => by rcases List.mem_append.1 hz with h | h; exact h1 z h; exact h2 z h⟩
theorem More.mono {f f' : Nat} {M M' : List Plc} (h : More f M M') (hf : f ≤ f') : More f' M M' := by
  obtain ⟨T, h1, h2⟩ := h
  exact ⟨T, h1, fun z hz => Nat.le_trans (h2 z hz) hf⟩
set_option maxHeartbeats 2000000 in
set_option maxRecDepth 100000 in
theorem next_any (g : Gr) (a : Au) (y : Int) (hgo : grOk g = true) (ha : auOk a = true) (bC bM x s lf l : Nat) (t : Int) (sid : Int) (sinv : Bool) (w : World) (hc : Ctr g a y w bC bM) (hx : x < g.vals.length) (hs : s < 2 ^ a.accept.length) (hlf : lf ≤ 60) (hl : l < 9) :
    Calls Tryz.prog 123 #[.pointer (some ⟨bC, 0, none⟩), .agg #[.int .i64 (x : Int), .int .i64 (s : Int), .int .i64 ((lf + 1 : Nat) : Int)], .agg #[.int .i64 sid, .bool sinv, .int .i64 (l : Int), .int .i64 t]] w fun e w' =>
      e = .returned (.agg #[.int .i64 t, .int .i64 (aft a s (valAt g x) l : Nat), .int .i64 (lf : Int)]) ∧ Below w.heap.size w w' := by
  obtain ⟨B, lo, hi, A1, A2, A3, A4, A5, c1, c2, c3, c4, c5, hbk, hgv, hav, hlv, h5, h6, h7, h8, h9⟩ := hc
  obtain ⟨vx, hxi, hva, hvx⟩ := valOf hgo hx
  obtain ⟨vs, es, hag, h1, -⟩ := hgv
  injection hag with hag
  simp at hag
  obtain ⟨rfl, rfl⟩ := hag
  obtain ⟨b1, o1, rfl, -, hb1, dv⟩ := h1.intI hxi
  have hs4 := lt12 ha hs
  rw [hva]
  have z0 : w.cell? ⟨bC, 0, none⟩ = some (.slice (some ⟨b1, o1, none⟩) g.vals.length c1) := hbk.cell 0
  have z2 : w.cell? ⟨bC, 2, none⟩ = some (.int .i64 a.start) := hbk.cell 2
  have z3 : w.cell? ⟨bC, 3, none⟩ = some (.slice A3 a.accept.length c3) := hbk.cell 3
  have z4 : w.cell? ⟨bC, 4, none⟩ = some (.slice A4 a.accept.length c4) := hbk.cell 4
  have lC := hbk.lt
  have hb1w : b1 < w.heap.size := by omega
  have hxx : (x : Int) < (g.vals.length : Int) := by omega
  have HAF := Lib.hid (fun (W : World) (hW : Below w.heap.size w W) => after_any _ a s vx l W ((hav.mono (Nat.le_refl _) h8).keep hW) ha hs hvx hl)
  obtain ⟨M, hM⟩ : ∃ M, M = aft a s vx l := ⟨_, rfl⟩
  rw [← hM] at HAF ⊢
  obtain ⟨L1, hL1⟩ : ∃ L1, L1 = lf + 1 := ⟨_, rfl⟩
  rw [← hL1]
  have hL1a : lf + 1 ≤ L1 := by omega
  have hL1b : L1 ≤ lf + 1 := by omega
  have ql : IntKind.i64.wrap ((L1 : Int) - 1) = (lf : Int) := by rw [IntWalk.i64_in _ (by omega)]; omega
  clear hbk hav hlv h1 hxi hva hM hL1 hgo ha
  have lts : ∀ b, b < w.heap.size → b < w.heap.size + 1 + 1 + 1 := fun b h => by omega
  have lC1 : bC < w.heap.size + 1 := by omega
  have lC2 : bC < w.heap.size + 1 + 1 := by omega
  have lC3 : bC < w.heap.size + 1 + 1 + 1 := by omega
  have lb1 : b1 < w.heap.size + 1 := by omega
  have lb2 : b1 < w.heap.size + 1 + 1 := by omega
  have lb3 : b1 < w.heap.size + 1 + 1 + 1 := by omega
  clear lts
  go_enter Tryz.func123, Tryz.ntmps123
  go_wp2_with fail
  refine wp_region_ext_tail 24 (by kernel_rfl) (by kernel_rfl) ?_
  simp only [List.take_succ_cons, List.take_zero]
  repeat (go_big_quiet_step ((go_at_call 129; exact Calls.ext_of (HAF.out _ (by repeat (first | exact Below.refl _ _ | assumption | refine Below.alloc ?_ (by simp <;> omega) _ | refine Below.drew ?_ | refine below_ext ?_ (by simp <;> omega) _ | exact ext_below _ _))))))
  refine wpQuiet_nil ?_
  intro _ hw'
  obtain ⟨u2, hw''⟩ := hw'
  subst hw''
  simp only [List.drop_succ_cons, List.drop_zero]
  go_wp2_with fail
  refine bodyPost_ret (v := .agg #[.int .i64 t, .int .i64 (M : Int), .int .i64 (lf : Int)]) (by simp [results, Tryz.results123, go_sem]) rfl ⟨rfl, ?_⟩
  repeat (first | exact Below.refl _ _ | refine Below.setCell ?_ (by simp <;> omega) _ | refine Below.alloc ?_ (by simp <;> omega) _ | refine below_ext ?_ (by simp <;> omega) _)
end Go.Proofs.YtpbfdmfkmbdpkaaGreat

/- The program's count of walks, with its memory. -/
namespace Go.Proofs.YtpbfdmfkmbdpkaaGreat
set_option linter.unusedVariables false
set_option linter.unusedSimpArgs false
open Go.ChangeShapes Go.WideShapes Go.ChangeAt Go.RowKit Go.Maps
attribute [local go_sem] ext_cell ext_frozen ext_lt ext_lt1 ext_lt2 ext_lt3 ltn2 ltn3 ltn13 lts1 lts2 lts3
theorem cw_zeroS (g : Gr) (a : Au) (y : Int) (x s vx : Nat) (h : valAt g x = vx) : cw g a y 0 x s = if (decide ((x : Int) = y) && acc a s vx) = true then 1 else 0 := by rw [cw, h]
/-- what a call leaves -/
def Left (g : Gr) (a : Au) (y : Int) (f : Nat) (M : List Plc) (bM : Nat) (w w' : World) : Prop := Only bM (bM + 1) w w' ∧ ∃ M', Mem g a y w' bM M' ∧ More f M M'
theorem Left.of_below {g : Gr} {a : Au} {y : Int} {f : Nat} {M : List Plc} {bM : Nat} {w w' : World} (hm : Mem g a y w bM M) (hb : Below w.heap.size w w') : Left g a y f M bM w w' :=
  ⟨Only.of_below hb _ _, M, hm.keep hb, More.refl _ _⟩
theorem Mem.bound {g : Gr} {a : Au} {y : Int} {w : World} {bM : Nat} {M : List Plc} (h : Mem g a y w bM M) : M.length < maxLen := by
  obtain ⟨D, _, h2⟩ := h
  have := h2.len
  unfold maxLen; omega
theorem Mem.lt {g : Gr} {a : Au} {y : Int} {w : World} {bM : Nat} {M : List Plc} (h : Mem g a y w bM M) : bM < w.heap.size := by
  obtain ⟨D, h1, _⟩ := h
  exact h1.lt
theorem keyOfPlc {z : Plc} (hz : plcOk z) : keyOf Tryz.prog 121 (.agg #[.int .i64 (z.1 : Int), .int .i64 (z.2.1 : Int), .int .i64 (z.2.2 : Int)]) = some (plKey z.1 z.2.1 z.2.2) := by
  unfold plcOk at hz
  exact keyPlace _ _ _ (wf_nat (by omega)) (wf_nat (by omega)) (wf_nat (by omega))
theorem litI_inj {H : Type} {a b : Int} (h : (DataW.lit (.int .i64 a) : DataW H) = .lit (.int .i64 b)) : a = b := by
  injection h with h
  injection h
/-- the look-up, at each world that keeps the memory -/
theorem Mem.look {g : Gr} {a : Au} {y : Int} {w : World} {bM : Nat} {M : List Plc} (h : Mem g a y w bM M) {z : Plc} (hz : plcOk z) :
    (Instr.lookup 143 (.map (some bM)) (.agg #[.int .i64 (z.1 : Int), .int .i64 (z.2.1 : Int), .int .i64 (z.2.2 : Int)]) true).run Tryz.prog w =
      .ok (.tuple #[.int .i64 (if z ∈ M then (cw g a y z.2.2 z.1 z.2.1 : Int) else 0), .bool (decide (z ∈ M))]) w := by
  obtain ⟨D, h1, h2⟩ := h
  obtain ⟨v, ps, hrun, hv⟩ := h1.look_ok keyedPlace Tryz.underlying143 (Tryz.zeroValue3 _) (plainElem_int Tryz.underlying3 (by decide)) (keyOfPlc hz)
  obtain ⟨c, rfl, hc, -⟩ := plainElem_int_inv Tryz.underlying3 hv
  have hc := congrArg Prod.fst hc
  simp only at hc
  have hh := h2.has z hz
  rw [hh] at hrun
  rw [hrun]
  by_cases hm : z ∈ M
  · rw [if_pos hm, ← litI_inj ((h2.val z hm).symm.trans hc)]
  · have h3 := Maps.atKey_of_not_has (show Maps.has D (plKey z.1 z.2.1 z.2.2) = false by rw [hh]; exact decide_eq_false hm) (.lit (.int .i64 0))
    rw [if_neg hm, ← litI_inj (h3.symm.trans hc)]
set_option maxHeartbeats 8000000 in
set_option maxRecDepth 100000 in
theorem count_any (g : Gr) (a : Au) (y : Int) (hgo : grOk g = true) (ha : auOk a = true) (bC bM : Nat) : ∀ (lf x s : Nat) (M : List Plc) (w : World), Ctr g a y w bC bM → Mem g a y w bM M → x < g.vals.length → s < 2 ^ a.accept.length → lf ≤ 60 →
    Calls Tryz.prog 98 #[.pointer (some ⟨bC, 0, none⟩), .agg #[.int .i64 (x : Int), .int .i64 (s : Int), .int .i64 (lf : Int)]] w fun e w' => e = .returned (.int .i64 (cw g a y lf x s : Nat)) ∧ Left g a y lf M bM w w' := by
  intro lf
  induction lf with
  | zero =>
    intro x s M w hc hm hx hs hlf
    have HM := Lib.hid hm
    have hb0 : Below w.heap.size w (w.alloc (.cells #[.int .i64 (x : Int), .int .i64 (s : Int), .int .i64 0] 121)) := (Below.refl _ _).alloc (Nat.le_refl _) _
    by_cases hs0 : s = 0
    · have HR := Lib.hid (show cw g a y 0 x s = 0 by rw [hs0, cw_none])
      subst hs0
      clear hc hm hgo ha
      go_enter Tryz.func98, Tryz.ntmps98
      go_wp2_with fail
      go_ret
      exact ⟨by rw [HR.out]; rfl, Left.of_below HM.out hb0⟩
    · obtain ⟨B, lo, hi, A1, A2, A3, A4, A5, c1, c2, c3, c4, c5, hbk, hgv, hav, hlv, h5, h6, h7, h8, h9⟩ := hc
      obtain ⟨vx, hxi, hva, hvx⟩ := valOf hgo hx
      obtain ⟨vs, es, hag, h1, -⟩ := hgv
      injection hag with hag
      simp at hag
      obtain ⟨rfl, rfl⟩ := hag
      obtain ⟨b1, o1, rfl, -, hb1, dv⟩ := h1.intI hxi
      have hs4 := lt12 ha hs
      have z0 : w.cell? ⟨bC, 0, none⟩ = some (.slice (some ⟨b1, o1, none⟩) g.vals.length c1) := hbk.cell 0
      have z2 : w.cell? ⟨bC, 2, none⟩ = some (.int .i64 a.start) := hbk.cell 2
      have z3 : w.cell? ⟨bC, 3, none⟩ = some (.slice A3 a.accept.length c3) := hbk.cell 3
      have z4 : w.cell? ⟨bC, 4, none⟩ = some (.slice A4 a.accept.length c4) := hbk.cell 4
      have z5 : w.cell? ⟨bC, 5, none⟩ = some (.int .i64 y) := hbk.cell 5
      have lC := hbk.lt
      have lC1 : bC < w.heap.size + 1 := by omega
      have hb1w : b1 < w.heap.size := by omega
      have hb1w1 : b1 < w.heap.size + 1 := by omega
      have hxx : (x : Int) < (g.vals.length : Int) := by omega
      have HEND := Lib.hid (fun (W : World) (hW : Below w.heap.size w W) => acceptsAt_any _ a s vx W ((hav.mono (Nat.le_refl _) h8).keep hW) ha hs hvx)
      have hne : ((s : Int) == 0) = false := by simp; omega
      have hne2 : decide ((s : Int) = 0) = false := by simp; omega
      have HC0 := Lib.hid (cw_zeroS g a y x s vx hva)
      clear hbk hav hlv h1 hxi hva hgo ha hm
      by_cases hxy : (x : Int) = y
      · have hd : decide ((x : Int) = y) = true := decide_eq_true hxy
        have hd2 : ((x : Int) == y) = true := by simp [hxy]
        have hbb := HC0.out
        rw [hd, Bool.true_and] at hbb
        generalize acc a s vx = bb at *
        cases bb with
        | true =>
          have HBB := Lib.hid (hbb.trans (if_pos rfl))
          clear hxy HC0 hbb
          go_enter Tryz.func98, Tryz.ntmps98
          go_wp2_with fail
          refine wp_region_ext_lit (by kernel_rfl) (by kernel_rfl) ?_
          repeat (go_big_quiet_step ((go_at_call 93; exact Calls.ext_of (HEND.out _ (below_trans hb0 (ext_below _ _))))))
          refine wpQuiet_nil ?_
          intro _ hw'
          obtain ⟨u2, hw''⟩ := hw'
          subst hw''
          go_wp2_with fail
          go_ret
          exact ⟨by rw [HBB.out]; rfl, Left.of_below HM.out (below_trans hb0 (ext_below _ _))⟩
        | false =>
          have HBB := Lib.hid (hbb.trans (if_neg (by simp)))
          clear hxy HC0 hbb
          go_enter Tryz.func98, Tryz.ntmps98
          go_wp2_with fail
          refine wp_region_ext_lit (by kernel_rfl) (by kernel_rfl) ?_
          repeat (go_big_quiet_step ((go_at_call 93; exact Calls.ext_of (HEND.out _ (below_trans hb0 (ext_below _ _))))))
          refine wpQuiet_nil ?_
          intro _ hw'
          obtain ⟨u2, hw''⟩ := hw'
          subst hw''
          go_wp2_with fail
          go_ret
          exact ⟨by rw [HBB.out]; rfl, Left.of_below HM.out (below_trans hb0 (ext_below _ _))⟩
      · have hd : decide ((x : Int) = y) = false := decide_eq_false hxy
        have hd2 : ((x : Int) == y) = false := by simp [hxy]
        have HBB := Lib.hid (show cw g a y 0 x s = 0 from HC0.out.trans (by rw [hd, Bool.false_and]; simp))
        clear hxy HC0
        go_enter Tryz.func98, Tryz.ntmps98
        go_wp2_with fail
        refine wp_region_ext_lit (by kernel_rfl) (by kernel_rfl) ?_
        repeat (go_big_quiet_step (fail))
        refine wpQuiet_nil ?_
        intro _ hw'
        obtain ⟨u2, hw''⟩ := hw'
        subst hw''
        go_wp2_with fail
        go_ret
        exact ⟨by rw [HBB.out]; rfl, Left.of_below HM.out (below_trans hb0 (ext_below _ _))⟩
  | succ lf ih =>
    intro x s M w hc hm hx hs hlf
    obtain ⟨L1, hL1⟩ : ∃ L1, L1 = lf + 1 := ⟨_, rfl⟩
    have HNX := Lib.hid (fun (l : Nat) (t sid : Int) (sinv : Bool) (W : World) (hW : Ctr g a y W bC bM) (hl : l < 9) => next_any g a y hgo ha bC bM x s lf l t sid sinv W hW hx hs (by omega) hl)
    rw [← hL1] at hlf HNX ⊢
    have hL1a : lf + 1 ≤ L1 := by omega
    have hL1b : L1 ≤ lf + 1 := by omega
    have HM := Lib.hid hm
    have HCT := Lib.hid hc
    have hbMw := hm.lt
    have hbCM : bC ≠ bM := by obtain ⟨_, _, _, _, _, _, _, _, _, _, _, _, _, h⟩ := hc; exact h.2.2.2.2.2.2.2.2
    have hb0 : Below w.heap.size w (w.alloc (.cells #[.int .i64 (x : Int), .int .i64 (s : Int), .int .i64 (L1 : Int)] 121)) := (Below.refl _ _).alloc (Nat.le_refl _) _
    have hs4 := lt12 ha hs
    have hn5 := (grOk_iff.1 hgo).n5
    by_cases hs0 : s = 0
    · have HR := Lib.hid (show cw g a y L1 x s = 0 by rw [hs0, cw_none])
      subst hs0
      clear hc hm hgo ha ih hL1 HNX
      go_enter Tryz.func98, Tryz.ntmps98
      go_wp2_with fail
      go_ret
      exact ⟨by rw [HR.out]; rfl, Left.of_below HM.out hb0⟩
    · have hz : plcOk (x, s, L1) := ⟨by simp only; omega, by simp only; omega, by simp only; omega⟩
      have hlk : ∀ u, (Instr.lookup 143 (.map (some bM)) (.agg #[.int .i64 (x : Int), .int .i64 (s : Int), .int .i64 (L1 : Int)]) true).run Tryz.prog (ext (w.alloc (.cells #[.int .i64 (x : Int), .int .i64 (s : Int), .int .i64 (L1 : Int)] 121)) u) =
          .ok (.tuple #[.int .i64 (if (x, s, L1) ∈ M then (cw g a y L1 x s : Int) else 0), .bool (decide ((x, s, L1) ∈ M))]) (ext (w.alloc (.cells #[.int .i64 (x : Int), .int .i64 (s : Int), .int .i64 (L1 : Int)] 121)) u) :=
        fun u => ((hm.keep hb0).keep (ext_below _ u)).look hz
      obtain ⟨B, lo, hi, A1, A2, A3, A4, A5, c1, c2, c3, c4, c5, hbk, hgv, hav, hlv, h5, h6, h7, h8, h9⟩ := hc
      have z7 : w.cell? ⟨bC, 7, none⟩ = some (.map (some bM)) := hbk.cell 7
      have z6 : w.cell? ⟨bC, 6, none⟩ = some (.slice A5 g.vals.length c5) := hbk.cell 6
      have lC := hbk.lt
      have lC1 : bC < w.heap.size + 1 := by omega
      have hne : ((s : Int) == 0) = false := by simp; omega
      have hne2 : decide ((s : Int) = 0) = false := by simp; omega
      have hl0 : ((L1 : Int) == 0) = false := by simp; omega
      have hl1 : decide ((L1 : Int) = 0) = false := by simp; omega
      by_cases hmem : (x, s, L1) ∈ M
      · rw [if_pos hmem, decide_eq_true hmem] at hlk
        generalize cw g a y L1 x s = C at *
        clear hbk hgv hav hlv hgo ha ih hL1 HNX hm hmem hz
        go_enter Tryz.func98, Tryz.ntmps98
        go_wp2_with fail
        refine wp_region_ext_lit (by kernel_rfl) (by kernel_rfl) ?_
        repeat (go_big_quiet_step (fail))
        refine wpQuiet_nil ?_
        intro _ hw'
        obtain ⟨u2, hw''⟩ := hw'
        subst hw''
        go_wp2_with fail
        go_ret
        exact ⟨rfl, Left.of_below HM.out (below_trans hb0 (ext_below _ _))⟩
      · rw [if_neg hmem, decide_eq_false hmem] at hlk
        have HNM := Lib.hid hmem
        have HZ := Lib.hid hz
        have hA5 : ∃ b5 o5, A5 = some ⟨b5, o5, none⟩ ∧ b5 < w.heap.size ∧ ∃ A7 c7, w.cell? ⟨b5, o5 + x, none⟩ = some (.slice A7 (arcsOf g (x : Int)).length c7) ∧ (arcsOf g (x : Int)).length ≤ c7 ∧ c7 ≤ 9223372036854775807 ∧ SlI lo hi w cA 4 (.slice A7 (arcsOf g (x : Int)).length c7) (arcsOf g (x : Int)) := by
          obtain ⟨b5, o5, A7, c7, e1, e2, e3, e4, e5, e6, e7, -⟩ := hlv.row h7 (i := x) (xs := arcsOf g (x : Int)) (by simp [hx])
          exact ⟨b5, o5, e1, by omega, A7, c7, e4, e5, e6, e7⟩
        obtain ⟨b5, o5, rfl, hb5, A7, c7, d5, hl7, hm7, hI7⟩ := hA5
        have hal := arcs_len (grOk_iff.1 hgo) (x : Int)
        have hxx : (x : Int) < (g.vals.length : Int) := by omega
        have hb51 : b5 < w.heap.size + 1 := by omega
        have HI7 := Lib.hid hI7
        have HREC := Lib.hid ih
        have HGO := Lib.hid hgo
        have HA := Lib.hid ha
        have HALL := Lib.hid (cwTo_all g a y lf x s)
        rw [← hL1] at HALL
        have HL := Lib.hid hL1
        clear hbk hgv hav hlv hgo ha ih hL1 hm hmem hz hI7
        go_enter Tryz.func98, Tryz.ntmps98
        go_upto_region 7 with fail
        refine wp_region_ext_lit (by kernel_rfl) (by kernel_rfl) ?_
        repeat (go_big_quiet_step (fail))
        refine wpQuiet_nil ?_
        intro _ hw'
        obtain ⟨u2, hw''⟩ := hw'
        subst hw''
        clear hlk
        go_upto_region 11 with fail
        refine wp_region_ext_lit (by kernel_rfl) (by kernel_rfl) ?_
        repeat (go_big_quiet_step (fail))
        refine wpQuiet_nil ?_
        intro _ hw'
        obtain ⟨u3, hw''⟩ := hw'
        subst hw''
        go_wp2_with fail
        obtain ⟨W1, hW1⟩ : ∃ W1, W1 = ext (ext (w.alloc (.cells #[.int .i64 (x : Int), .int .i64 (s : Int), .int .i64 (L1 : Int)] 121)) u2) u3 := ⟨_, rfl⟩
        have hbU := below_trans (ext_below (w.alloc (.cells #[.int .i64 (x : Int), .int .i64 (s : Int), .int .i64 (L1 : Int)] 121)) u2) (ext_below _ u3)
        have hbW := below_trans hb0 hbU
        rw [← hW1] at hbU hbW ⊢
        have e0 : W1.cell? ⟨w.heap.size, 0, none⟩ = some (.int .i64 (x : Int)) := kcell hbU (by simp)
        have e1 : W1.cell? ⟨w.heap.size, 1, none⟩ = some (.int .i64 (s : Int)) := kcell hbU (by simp)
        have e2 : W1.cell? ⟨w.heap.size, 2, none⟩ = some (.int .i64 (L1 : Int)) := kcell hbU (by simp)
        have lE : w.heap.size < W1.heap.size := by have := hbU.size; simp at this; omega
        have HM1 := Lib.hid (HM.out.keep hbW)
        have HC1 := Lib.hid (HCT.out.keep hbW)
        have z7 := kcell hbW z7
        have HBW := Lib.hid hbW
        clear hW1 hbU hbW d5 z6 hb0 HCT lC1 hb51
        go_loopw [7, 61] (fun nn ii wr => ∃ (i : Nat) (M' : List Plc), i ≤ (arcsOf g (x : Int)).length ∧ ii = .int .i64 (i : Int) ∧ nn = .int .i64 (cwTo g a y lf x s i : Nat) ∧ Only bM (bM + 1) W1 wr ∧ Mem g a y wr bM M' ∧ More lf M M') (fun _ ii _ => (arcsOf g (x : Int)).length - (intOf ii).toNat)
        case atStart => exact ⟨0, M, Nat.zero_le _, rfl, rfl, Only.refl _ _ _, HM1.out, More.refl _ _⟩
        case round =>
          clear HM1
          obtain ⟨i, M', hi, rfl, rfl, hon, hmm, hmo⟩ := hrel
          have hsz := hon.size
          have e0 := ocell hon e0 lE (.inr (by omega))
          have e1 := ocell hon e1 lE (.inr (by omega))
          have e2 := ocell hon e2 lE (.inr (by omega))
          have lEr : w.heap.size < wr.heap.size := by omega
          have HON := Lib.hid hon
          have HMM := Lib.hid hmm
          have HMO := Lib.hid hmo
          have hcle := cwTo_le g a y lf x s i
          by_cases hlt : i < (arcsOf g (x : Int)).length
          · have hyi : (arcsOf g (x : Int))[i]? = some (arcsOf g (x : Int))[i] := List.getElem?_eq_getElem hlt
            have hyr := arc_range (grOk_iff.1 HGO.out) (List.getElem_mem hlt)
            generalize (arcsOf g (x : Int))[i] = p at hyi hyr
            obtain ⟨⟨sid, sinv⟩, l, t⟩ := p
            simp only at hyr
            obtain ⟨l, rfl⟩ := Int.eq_ofNat_of_zero_le hyr.1.1
            obtain ⟨t, rfl⟩ := Int.eq_ofNat_of_zero_le hyr.2.1
            obtain ⟨b7, o7, rfl, hb7l, hb7, k0, k1, k2, k3⟩ := HI7.out.arc hyi
            simp only at k0 k1 k2 k3
            have hb7M : b7 < bM ∨ bM + 1 ≤ b7 := by omega
            have hb71 := Nat.lt_of_lt_of_le (show b7 < w.heap.size by omega) HBW.out.size
            have k0 := ocell hon (kcell HBW.out k0) hb71 hb7M
            have k1 := ocell hon (kcell HBW.out k1) hb71 hb7M
            have k2 := ocell hon (kcell HBW.out k2) hb71 hb7M
            have k3 := ocell hon (kcell HBW.out k3) hb71 hb7M
            have hb7w : b7 < wr.heap.size := by omega
            have hts : cwTo g a y lf x s (i + 1) = min 1000000 (cwTo g a y lf x s i + cw g a y lf t (aft a s (valAt g x) l)) := by
              rw [cwTo_succ hyi, cwStep]; simp
            have hAF := aft_lt HA.out s (valAt g x) l
            have hcl2 := cw_le g a y lf t (aft a s (valAt g x) l)
            have HNC := Lib.hid (fun (W : World) (hW : Ctr g a y W bC bM) => HNX.out l (t : Int) sid sinv W hW (by omega))
            have HRC := Lib.hid (fun (W : World) (h1 : Ctr g a y W bC bM) (h2 : Mem g a y W bM M') => HREC.out t (aft a s (valAt g x) l) M' W h1 h2 (by omega) hAF (by omega))
            generalize aft a s (valAt g x) l = AF at *
            have hbE : Below wr.heap.size wr (wr.alloc (.cells #[.int .i64 sid, .bool sinv, .int .i64 (l : Int), .int .i64 (t : Int)] 149)) := (Below.refl _ _).alloc (Nat.le_refl _) _
            have hii : (i : Int) < ((arcsOf g (x : Int)).length : Int) := by omega
            have HTS := Lib.hid hts
            clear hts hyi hon hmm hmo
            generalize cwTo g a y lf x s i = m1 at *
            generalize cw g a y lf t AF = CC at *
            go_wp2_with fail
            refine (HNC.out _ ((HC1.out.only HON.out).keep hbE)).mono ?_
            rintro en w3 ⟨rfl, hb3⟩
            have hb3' := below_trans hbE hb3
            have HC3 := Lib.hid ((HC1.out.only HON.out).keep hb3')
            have HM3 := Lib.hid (HMM.out.keep hb3')
            have HO3 := Lib.hid (HON.out.trans (Only.of_below hb3' bM (bM + 1)))
            clear hb3 hb3' k0 k1 k2 k3
            go_wp2_with fail
            refine (HRC.out _ HC3.out HM3.out).mono ?_
            rintro en w4 ⟨rfl, hon4, M4, hm4, hmo4⟩
            have HO4 := Lib.hid (HO3.out.trans hon4)
            have HM4 := Lib.hid hm4
            have HMO4 := Lib.hid (HMO.out.trans hmo4)
            clear hon4 hm4 hmo4
            go_wp2_with fail
            go_roundw
            case rel => exact ⟨i + 1, M4, by omega, by go_num, by rw [HTS.out]; exact congrArg (Value.int IntKind.i64) (by first | omega | (split <;> omega)), HO4.out, HM4.out, HMO4.out⟩
            case measure => simp [intOf]; omega
          · obtain rfl : i = (arcsOf g (x : Int)).length := by omega
            rw [HALL.out] at hcle ⊢
            generalize hCW : cw g a y L1 x s = CW at *
            have z7 := ocell hon z7 (by omega) (by omega)
            have lCr : bC < wr.heap.size := by omega
            have HCW := Lib.hid hCW
            clear hon hmm hmo hCW HALL
            go_upto_region 16 with fail
            refine F_start 6 (fun w' => w'.cell? ⟨bC, 7, none⟩ = some (.map (some bM)) ∧ w'.cell? ⟨w.heap.size, 0, none⟩ = some (.int .i64 (x : Int)) ∧ w'.cell? ⟨w.heap.size, 1, none⟩ = some (.int .i64 (s : Int)) ∧ w'.cell? ⟨w.heap.size, 2, none⟩ = some (.int .i64 (L1 : Int))) (by kernel_rfl) (by exact ⟨z7, e0, e1, e2⟩) (fun hS inv => ?_)
            refine F_take (i := 0) (v := ?_) rfl (by kernel_rfl) (by kernel_rfl) (by kernel_rfl) (fun _ _ _ h => h) inv (Or.inl ⟨by rfl, ?_⟩) (by assumption) (fun invn => ?_)
            rotate_left
            · (intro w hSw; (try dsimp only at hSw); go_simp; try with_reducible rfl)
            try simp only [List.getElem_toArray, List.getElem_cons_zero, List.getElem_cons_succ, Act.put, List.setIfInBounds_toArray, List.set_cons_zero, List.set_cons_succ]
            clear inv
            have inv := invn
            clear invn
            refine F_take (i := 1) (v := ?_) rfl (by kernel_rfl) (by kernel_rfl) (by kernel_rfl) (fun _ _ _ h => h) inv (Or.inl ⟨by rfl, ?_⟩) (by assumption) (fun invn => ?_)
            rotate_left
            · (intro w hSw; (try dsimp only at hSw); go_simp; try with_reducible rfl)
            try simp only [List.getElem_toArray, List.getElem_cons_zero, List.getElem_cons_succ, Act.put, List.setIfInBounds_toArray, List.set_cons_zero, List.set_cons_succ]
            clear inv
            have inv := invn
            clear invn
            refine F_take (i := 2) (v := ?_) rfl (by kernel_rfl) (by kernel_rfl) (by kernel_rfl) (fun _ _ _ h => h) inv (Or.inl ⟨by rfl, ?_⟩) (by assumption) (fun invn => ?_)
            rotate_left
            · (intro w hSw; (try dsimp only at hSw); go_simp; try with_reducible rfl)
            try simp only [List.getElem_toArray, List.getElem_cons_zero, List.getElem_cons_succ, Act.put, List.setIfInBounds_toArray, List.set_cons_zero, List.set_cons_succ]
            clear inv
            have inv := invn
            clear invn
            refine F_take (i := 3) (v := ?_) rfl (by kernel_rfl) (by kernel_rfl) (by kernel_rfl) (fun _ _ _ h => h) inv (Or.inl ⟨by rfl, ?_⟩) (by assumption) (fun invn => ?_)
            rotate_left
            · (intro w hSw; (try dsimp only at hSw); go_simp; try with_reducible rfl)
            try simp only [List.getElem_toArray, List.getElem_cons_zero, List.getElem_cons_succ, Act.put, List.setIfInBounds_toArray, List.set_cons_zero, List.set_cons_succ]
            clear inv
            have inv := invn
            clear invn
            refine F_take (i := 4) (v := ?_) rfl (by kernel_rfl) (by kernel_rfl) (by kernel_rfl) (fun _ _ _ h => h) inv (Or.inl ⟨by rfl, ?_⟩) (by assumption) (fun invn => ?_)
            rotate_left
            · (intro w hSw; (try dsimp only at hSw); go_simp; try with_reducible rfl)
            try simp only [List.getElem_toArray, List.getElem_cons_zero, List.getElem_cons_succ, Act.put, List.setIfInBounds_toArray, List.set_cons_zero, List.set_cons_succ]
            clear inv
            have inv := invn
            clear invn
            refine F_take (i := 5) (v := ?_) rfl (by kernel_rfl) (by kernel_rfl) (by kernel_rfl) (fun _ _ _ h => h) inv (Or.inl ⟨by rfl, ?_⟩) (by assumption) (fun invn => ?_)
            rotate_left
            · (intro w hSw; (try dsimp only at hSw); go_simp; try with_reducible rfl)
            try simp only [List.getElem_toArray, List.getElem_cons_zero, List.getElem_cons_succ, Act.put, List.setIfInBounds_toArray, List.set_cons_zero, List.set_cons_succ]
            clear inv
            have inv := invn
            clear invn
            obtain ⟨D', hD1, hD2⟩ := HMM.out
            have hln := hD2.len
            have hnz : (x, s, L1) ∉ M' := by
              obtain ⟨T, hT, hTl⟩ := HMO.out
              rw [hT, List.mem_append]
              rintro (h | h)
              · exact HNM.out h
              · have := hTl _ h; simp only at this; omega
            refine F_last (i := 6) (by kernel_rfl) rfl rfl (by omega) (by kernel_rfl) (fun K hK => ?_)
            refine op_mapUpdate_own _ _ _ _ _ rfl _ _ keyedPlace Tryz.underlying143 (plainElem Tryz.prog 3) _ _ _ (by rfl) hD1.drew (by unfold maxLen; omega) _ _ _ (by rfl) (by rfl) (keyOfPlc HZ.out) _ _ (plainElem_int Tryz.underlying3 (wf_nat (by omega))) ?_
            intro w9 hown9 hgr9
            refine hK _ _ ?_
            clear hK K inv hS
            try simp only [List.getElem_toArray, List.getElem_cons_zero, List.getElem_cons_succ, Act.put, List.setIfInBounds_toArray, List.set_cons_zero, List.set_cons_succ]
            have hput := hD2.put HZ.out hnz
            simp only at hput
            rw [HCW.out] at hput
            have hm9 : Mem g a y w9 bM (M' ++ [(x, s, L1)]) := ⟨_, by rw [List.length_append]; exact hown9, hput⟩
            have ho9 : Only bM (bM + 1) wr w9 := ⟨hgr9.os, hgr9.tape, hgr9.output, hgr9.size, fun n hn ho => hgr9.block n hn (fun e => by injection e with e; omega)⟩
            have HO9 := Lib.hid ((Only.of_below HBW.out bM (bM + 1)).trans (HON.out.trans ho9))
            have HM9 := Lib.hid hm9
            have HMO9 := Lib.hid (show More L1 M (M' ++ [(x, s, L1)]) from (HMO.out.mono (by omega)).trans ⟨[(x, s, L1)], rfl, fun z hz => by rw [List.mem_singleton] at hz; subst hz; exact Nat.le_refl _⟩)
            clear hown9 hgr9 hm9 ho9 hput hnz hD1 hD2
            go_wp2_with fail
            go_ret
            exact ⟨by rw [HCW.out]; rfl, HO9.out, _, HM9.out, HMO9.out⟩
end Go.Proofs.YtpbfdmfkmbdpkaaGreat

/- The program's newCounter and start. -/
namespace Go.Proofs.YtpbfdmfkmbdpkaaGreat
set_option linter.unusedVariables false
set_option linter.unusedSimpArgs false
open Go.ChangeShapes Go.WideShapes Go.ChangeAt Go.RowKit Go.Maps
attribute [local go_sem] ext_cell ext_frozen ext_lt ext_lt1 ext_lt2 ext_lt3 ltn2 ltn3 ltn13 lts1 lts2 lts3
theorem Mem.new (g : Gr) (a : Au) (y : Int) (w : World) : Mem g a y (w.alloc (.map #[] 0)) w.heap.size [] := ⟨.map [], World.ownsMap_made w _ _ _, MemD.empty g a y⟩
set_option maxHeartbeats 4000000 in
set_option maxRecDepth 100000 in
theorem newCounter_any (v1 v2 : Value) (g : Gr) (a : Au) (y : Int) (w : World) (hgv : GrV 0 w.heap.size w v1 g) (hav : AuV 0 w.heap.size w v2 a) (hgo : grOk g = true) (ha : auOk a = true) :
    Calls Tryz.prog 96 #[v1, v2, .int .i64 y] w fun e w' => ∃ bC bM, e = .returned (.pointer (some ⟨bC, 0, none⟩)) ∧ w.heap.size ≤ bM ∧ Ctr g a y w' bC bM ∧ Mem g a y w' bM [] ∧ Below w.heap.size w w' := by
  have hgv0 := hgv
  have hav0 := hav
  obtain ⟨A1, c1, A2, c2, rfl, hl1, hm1, hl2, hm2, -, -⟩ := hgv.form
  obtain ⟨A3, c3, A4, c4, rfl, hl3, hm3, hl4, hm4, -⟩ := hav.form ha
  have hb0 : Below w.heap.size w ((w.alloc (.cells #[.slice A1 g.vals.length c1, .slice A2 g.edges.length c2] 36)).alloc (.cells #[.int .i64 a.start, .slice A3 a.accept.length c3, .slice A4 a.accept.length c4] 38)) := ((Below.refl _ _).alloc (Nat.le_refl _) _).alloc (by simp) _
  have HGV := Lib.hid hgv0
  have HAV := Lib.hid hav0
  have HAR := Lib.hid (fun (W : World) (hW : Below w.heap.size w W) => arcs_any _ g W (HGV.out.keep hW) (grOk_iff.1 hgo))
  clear hgv hav hgv0 hav0 hgo ha
  have hmm := @run_makeMap Tryz.prog
  go_enter Tryz.func96, Tryz.ntmps96
  go_upto_region 1 with fail
  obtain ⟨W0, hW0⟩ : ∃ W0, W0 = ((w.alloc (.cells #[.slice A1 g.vals.length c1, .slice A2 g.edges.length c2] 36)).alloc (.cells #[.int .i64 a.start, .slice A3 a.accept.length c3, .slice A4 a.accept.length c4] 38)) := ⟨_, rfl⟩
  rw [← hW0] at hb0 ⊢
  have x0 : W0.cell? ⟨w.heap.size, 0, none⟩ = some (.slice A1 g.vals.length c1) := by rw [hW0]; simp
  have x1 : W0.cell? ⟨w.heap.size, 1, none⟩ = some (.slice A2 g.edges.length c2) := by rw [hW0]; simp
  have y0 : W0.cell? ⟨w.heap.size + 1, 0, none⟩ = some (.int .i64 a.start) := by rw [hW0]; simp
  have y1 : W0.cell? ⟨w.heap.size + 1, 1, none⟩ = some (.slice A3 a.accept.length c3) := by rw [hW0]; simp
  have y2 : W0.cell? ⟨w.heap.size + 1, 2, none⟩ = some (.slice A4 a.accept.length c4) := by rw [hW0]; simp
  have hs0 : w.heap.size + 1 + 1 = W0.heap.size := by rw [hW0]; simp
  try rw [hs0]
  have l0 : w.heap.size + 1 < W0.heap.size := by omega
  have l00 : w.heap.size < W0.heap.size := by omega
  clear hW0 hs0
  have hbD := below_trans hb0 ((Below.refl W0.heap.size W0).drew)
  refine F_start 7 (fun w' => w'.cell? ⟨w.heap.size, 0, none⟩ = some (.slice A1 g.vals.length c1) ∧ w'.cell? ⟨w.heap.size, 1, none⟩ = some (.slice A2 g.edges.length c2) ∧ w'.cell? ⟨w.heap.size + 1, 0, none⟩ = some (.int .i64 a.start) ∧ w'.cell? ⟨w.heap.size + 1, 1, none⟩ = some (.slice A3 a.accept.length c3) ∧ w'.cell? ⟨w.heap.size + 1, 2, none⟩ = some (.slice A4 a.accept.length c4)) (by kernel_rfl) (by exact ⟨x0, x1, y0, y1, y2⟩) (fun hS inv => ?_)
  refine F_take (i := 0) (v := ?_) rfl (by kernel_rfl) (by kernel_rfl) (by kernel_rfl) (fun _ _ _ h => h) inv (Or.inl ⟨by rfl, ?_⟩) (by assumption) (fun invn => ?_)
  rotate_left
  · (intro w hSw; (try dsimp only at hSw); go_simp; try with_reducible rfl)
  try simp only [List.getElem_toArray, List.getElem_cons_zero, List.getElem_cons_succ, Act.put, List.setIfInBounds_toArray, List.set_cons_zero, List.set_cons_succ]
  clear inv
  have inv := invn
  clear invn
  refine F_take (i := 1) (v := ?_) rfl (by kernel_rfl) (by kernel_rfl) (by kernel_rfl) (fun _ _ _ h => h) inv (Or.inl ⟨by rfl, ?_⟩) (by assumption) (fun invn => ?_)
  rotate_left
  · (intro w hSw; (try dsimp only at hSw); go_simp; try with_reducible rfl)
  try simp only [List.getElem_toArray, List.getElem_cons_zero, List.getElem_cons_succ, Act.put, List.setIfInBounds_toArray, List.set_cons_zero, List.set_cons_succ]
  clear inv
  have inv := invn
  clear invn
  refine F_take (i := 2) (v := ?_) rfl (by kernel_rfl) (by kernel_rfl) (by kernel_rfl) (fun _ _ _ h => h) inv (Or.inl ⟨by rfl, ?_⟩) (by assumption) (fun invn => ?_)
  rotate_left
  · (intro w hSw; (try dsimp only at hSw); go_simp; try with_reducible rfl)
  try simp only [List.getElem_toArray, List.getElem_cons_zero, List.getElem_cons_succ, Act.put, List.setIfInBounds_toArray, List.set_cons_zero, List.set_cons_succ]
  clear inv
  have inv := invn
  clear invn
  refine F_take (i := 3) (v := ?_) rfl (by kernel_rfl) (by kernel_rfl) (by kernel_rfl) (fun _ _ _ h => h) inv (Or.inl ⟨by rfl, ?_⟩) (by assumption) (fun invn => ?_)
  rotate_left
  · (intro w hSw; (try dsimp only at hSw); go_simp; try with_reducible rfl)
  try simp only [List.getElem_toArray, List.getElem_cons_zero, List.getElem_cons_succ, Act.put, List.setIfInBounds_toArray, List.set_cons_zero, List.set_cons_succ]
  clear inv
  have inv := invn
  clear invn
  have hS0 := hS
  refine F_two (i := 4) (j := 5) (by kernel_rfl) rfl rfl rfl rfl (by omega) inv (fun K hK => ?_) (fun K hK => ?_)
  all_goals (try simp only [List.getElem_toArray, List.getElem_cons_zero, List.getElem_cons_succ])
  · go_simp
    refine (HAR.out _ hbD).mono ?_
    rintro en wA ⟨vA, rfl, hsse, hbA⟩
    obtain ⟨A5, c5, hv5, hl5, hm5⟩ := hsse.shape
    have hlen5 : ((List.range g.vals.length).map fun (x : Nat) => arcsOf g (x : Int)).length = g.vals.length := by simp
    rw [hlen5] at hv5 hl5
    subst hv5
    have hbDA := below_trans hbD hbA
    have HSSE := Lib.hid hsse
    have hsA := hbA.size
    clear hsse hlen5
    refine hK.out _ _ (kB5 hbA hS) (fun hSn invn => ?_)
    try simp only [List.getElem_toArray, List.getElem_cons_zero, List.getElem_cons_succ, Act.put, List.setIfInBounds_toArray, List.set_cons_zero, List.set_cons_succ]
    clear hK K inv hS
    have inv := invn
    have hS := hSn
    clear invn hSn
    refine F_one (i := 5) (by kernel_rfl) rfl rfl (by omega) inv (fun K hK => ?_)
    try simp only [List.getElem_toArray, List.getElem_cons_zero, List.getElem_cons_succ]
    go_simp
    have hbM : Below wA.heap.size wA (wA.alloc (.map #[] 0)) := (Below.refl _ _).alloc (Nat.le_refl _) _
    have HMM := Lib.hid (Mem.new g a y wA)
    refine hK.out _ _ (kA5 _ hS) (fun hSn invn => ?_)
    try simp only [List.getElem_toArray, List.getElem_cons_zero, List.getElem_cons_succ, Act.put, List.setIfInBounds_toArray, List.set_cons_zero, List.set_cons_succ]
    clear hK K inv hS
    have inv := invn
    have hS := hSn
    clear invn hSn
    refine F_take (i := 6) (v := ?_) rfl (by kernel_rfl) (by kernel_rfl) (by kernel_rfl) (fun _ _ _ h => h) inv (Or.inl ⟨by rfl, ?_⟩) (by assumption) (fun invn => ?_)
    rotate_left
    · (intro w hSw; (try dsimp only at hSw); go_simp; try with_reducible rfl)
    try simp only [List.getElem_toArray, List.getElem_cons_zero, List.getElem_cons_succ, Act.put, List.setIfInBounds_toArray, List.set_cons_zero, List.set_cons_succ]
    clear inv
    have inv := invn
    clear invn
    refine F_tail (i := 7) (by kernel_rfl) rfl rfl (by omega) (fun K hK => ?_)
    try simp only [List.getElem_toArray, List.getElem_cons_zero, List.getElem_cons_succ]
    go_simp
    refine hK.out _ _ ?_
    try simp only [List.getElem_toArray, List.getElem_cons_zero, List.getElem_cons_succ, Act.put, List.setIfInBounds_toArray, List.set_cons_zero, List.set_cons_succ]
    clear hK K inv hS
    refine F_last (i := 8) (by kernel_rfl) rfl rfl (by omega) (by kernel_rfl) (fun K hK => ?_)
    go_simp
    refine hK _ _ ?_
    clear hK K
    go_wp2_with fail
    have hbX : Below (wA.alloc (.map #[] 0)).heap.size (wA.alloc (.map #[] 0)) ((wA.alloc (.map #[] 0)).alloc (.cells #[.slice A1 g.vals.length c1, .slice A2 g.edges.length c2, .int .i64 a.start, .slice A3 a.accept.length c3, .slice A4 a.accept.length c4, .int .i64 y, .slice A5 g.vals.length c5, .map (some wA.heap.size)] 145)) := (Below.refl _ _).alloc (Nat.le_refl _) _
    have hbY := below_trans hbDA (below_trans hbM hbX)
    have hbZ := below_trans hbM hbX
    have hsw := hbD.size
    have hszz := hbZ.size
    go_ret
    exact ⟨_, wA.heap.size, rfl, Nat.le_trans hsw hsA, ⟨w.heap.size, _, wA.heap.size, A1, A2, A3, A4, A5, c1, c2, c3, c4, c5, Blk.new _ _ _ _ (by simp), HGV.out.below hbY (Nat.le_refl _), HAV.out.below hbY (Nat.le_refl _), HSSE.out.below hbZ (Nat.le_refl _), Nat.le_trans hsw hsA, .inl (Nat.le_refl _), hszz, hbY.size, by simp⟩, HMM.out.keep hbX, hbY⟩
  · go_simp
    have hbM : Below W0.drew.heap.size W0.drew (W0.drew.alloc (.map #[] 0)) := (Below.refl _ _).alloc (Nat.le_refl _) _
    have HMM := Lib.hid (Mem.new g a y W0.drew)
    have hbDM := below_trans hbD hbM
    refine hK.out _ _ (kA5 _ hS) (fun hSn invn => ?_)
    try simp only [List.getElem_toArray, List.getElem_cons_zero, List.getElem_cons_succ, Act.put, List.setIfInBounds_toArray, List.set_cons_zero, List.set_cons_succ]
    clear hK K inv hS
    have inv := invn
    have hS := hSn
    clear invn hSn
    refine F_one (i := 4) (by kernel_rfl) rfl rfl (by omega) inv (fun K hK => ?_)
    try simp only [List.getElem_toArray, List.getElem_cons_zero, List.getElem_cons_succ]
    go_simp
    refine (HAR.out _ hbDM).mono ?_
    rintro en wA ⟨vA, rfl, hsse, hbA⟩
    obtain ⟨A5, c5, hv5, hl5, hm5⟩ := hsse.shape
    have hlen5 : ((List.range g.vals.length).map fun (x : Nat) => arcsOf g (x : Int)).length = g.vals.length := by simp
    rw [hlen5] at hv5 hl5
    subst hv5
    have HSSE := Lib.hid hsse
    have hsA := hbA.size
    have hsw := hbD.size
    have hbDA := below_trans hbDM hbA
    clear hsse hlen5
    refine hK.out _ _ (kB5 hbA hS) (fun hSn invn => ?_)
    try simp only [List.getElem_toArray, List.getElem_cons_zero, List.getElem_cons_succ, Act.put, List.setIfInBounds_toArray, List.set_cons_zero, List.set_cons_succ]
    clear hK K inv hS
    have inv := invn
    have hS := hSn
    clear invn hSn
    refine F_take (i := 6) (v := ?_) rfl (by kernel_rfl) (by kernel_rfl) (by kernel_rfl) (fun _ _ _ h => h) inv (Or.inl ⟨by rfl, ?_⟩) (by assumption) (fun invn => ?_)
    rotate_left
    · (intro w hSw; (try dsimp only at hSw); go_simp; try with_reducible rfl)
    try simp only [List.getElem_toArray, List.getElem_cons_zero, List.getElem_cons_succ, Act.put, List.setIfInBounds_toArray, List.set_cons_zero, List.set_cons_succ]
    clear inv
    have inv := invn
    clear invn
    refine F_tail (i := 7) (by kernel_rfl) rfl rfl (by omega) (fun K hK => ?_)
    try simp only [List.getElem_toArray, List.getElem_cons_zero, List.getElem_cons_succ]
    go_simp
    refine hK.out _ _ ?_
    try simp only [List.getElem_toArray, List.getElem_cons_zero, List.getElem_cons_succ, Act.put, List.setIfInBounds_toArray, List.set_cons_zero, List.set_cons_succ]
    clear hK K inv hS
    refine F_last (i := 8) (by kernel_rfl) rfl rfl (by omega) (by kernel_rfl) (fun K hK => ?_)
    go_simp
    refine hK _ _ ?_
    clear hK K
    go_wp2_with fail
    have hbX : Below wA.heap.size wA (wA.alloc (.cells #[.slice A1 g.vals.length c1, .slice A2 g.edges.length c2, .int .i64 a.start, .slice A3 a.accept.length c3, .slice A4 a.accept.length c4, .int .i64 y, .slice A5 g.vals.length c5, .map (some W0.heap.size)] 145)) := (Below.refl _ _).alloc (Nat.le_refl _) _
    have hbY := below_trans hbDA hbX
    have hszz := hbX.size
    have hwM : W0.heap.size < wA.heap.size := by simp at hsA; omega
    go_ret
    exact ⟨_, W0.heap.size, rfl, hsw, ⟨w.heap.size, W0.heap.size + 1, wA.heap.size, A1, A2, A3, A4, A5, c1, c2, c3, c4, c5, Blk.new _ _ _ _ rfl, HGV.out.below hbY (Nat.le_refl _), HAV.out.below hbY (Nat.le_refl _), (HSSE.out.mono (by simp) (Nat.le_refl _)).below hbX (Nat.le_refl _), hsw, .inr (Nat.lt_succ_self _), hszz, hbY.size, by omega⟩, (HMM.out.keep hbA).keep hbX, hbY⟩
theorem start_any (g : Gr) (a : Au) (y : Int) (ha : auOk a = true) (bC bM x lf : Nat) (w : World) (hc : Ctr g a y w bC bM) (hx : x ≤ 1000000) (hlf : lf ≤ 60) :
    Calls Tryz.prog 97 #[.pointer (some ⟨bC, 0, none⟩), .int .i64 (x : Int), .int .i64 (lf : Int)] w fun e w' => e = .returned (.agg #[.int .i64 (x : Int), .int .i64 (bit a.start.toNat : Nat), .int .i64 (lf : Int)]) ∧ Below w.heap.size w w' := by
  obtain ⟨B, lo, hi, A1, A2, A3, A4, A5, c1, c2, c3, c4, c5, hbk, -⟩ := hc
  obtain ⟨⟨_, hn⟩, ⟨h0, h1⟩, -, -⟩ := auOk_iff.1 ha
  obtain ⟨s, hs⟩ := Int.eq_ofNat_of_zero_le h0
  have z2 : w.cell? ⟨bC, 2, none⟩ = some (.int .i64 (s : Int)) := by rw [← hs]; exact hbk.cell 2
  have lC := hbk.lt
  have lC1 : bC < w.heap.size + 1 := by omega
  rw [hs, Int.toNat_natCast]
  have e1 := shl_bit (s := s) (by omega)
  have e2 : wrap64 (2 ^ min s 64) = (bit s : Int) := by rw [Nat.min_eq_left (by omega)]; exact e1
  clear hbk h0 h1 hs ha
  go_enter Tryz.func97, Tryz.ntmps97
  go_wp2_with fail
  refine bodyPost_ret (v := .agg #[.int .i64 (x : Int), .int .i64 (bit s : Int), .int .i64 (lf : Int)]) (by simp [results, Tryz.results97, go_sem, e2]) rfl ⟨rfl, ?_⟩
  repeat (first | exact Below.refl _ _ | refine Below.setCell ?_ (by simp <;> omega) _ | refine Below.alloc ?_ (by simp <;> omega) _)
end Go.Proofs.YtpbfdmfkmbdpkaaGreat

/- The program's nth: walk number n from a place. -/
namespace Go.Proofs.YtpbfdmfkmbdpkaaGreat
set_option linter.unusedVariables false
set_option linter.unusedSimpArgs false
open Go.ChangeShapes Go.WideShapes Go.ChangeAt Go.RowKit Go.Maps
attribute [local go_sem] ext_cell ext_frozen ext_lt ext_lt1 ext_lt2 ext_lt3 ltn2 ltn3 ltn13 lts1 lts2 lts3
theorem leftN_succ {α : Type} {k : α → Nat} {l : List α} {i n : Nat} {p : α} (h : l[i]? = some p) : leftN k (l.take (i + 1)) n = leftN k (l.take i) n - k p := foldl_take h n
theorem leftN_le {α : Type} (k : α → Nat) : ∀ (l : List α) (n : Nat), leftN k l n ≤ n
  | [], n => Nat.le_refl _
  | p :: l, n => Nat.le_trans (leftN_le k l (n - k p)) (Nat.sub_le _ _)
/-- the first that is not passed over is the one picked -/
theorem pick_here {α : Type} {k : α → Nat} {l : List α} {i n : Nat} {p : α} (h : l[i]? = some p) (hno : ∀ j q, j < i → l[j]? = some q → ¬ leftN k (l.take j) n < k q) (hy : leftN k (l.take i) n < k p) : pick k l n = some (p, leftN k (l.take i) n) := by
  have hi := (List.getElem?_eq_some_iff.1 h).1
  rw [pick_skip hno (by omega), List.drop_eq_getElem_cons hi, (List.getElem?_eq_some_iff.1 h).2, pick, if_pos hy]
theorem pick_end {α : Type} {k : α → Nat} {l : List α} {n : Nat} (hno : ∀ j q, j < l.length → l[j]? = some q → ¬ leftN k (l.take j) n < k q) : pick k l n = none := by
  rw [pick_skip hno (Nat.le_refl _), List.drop_length]; rfl
theorem Blk.set3 {w : World} {g : Nat} {t : TypeId} {c0 c1 c2 : Value} (h : Blk w g t #[c0, c1, c2]) (d0 d1 d2 : Value) : Blk (((w.setCell ⟨g, 0, none⟩ d0).setCell ⟨g, 1, none⟩ d1).setCell ⟨g, 2, none⟩ d2) g t #[d0, d1, d2] := by
  have h2 := ((h.set_ 0 d0).set_ 1 d1).set_ 2 d2
  simpa using h2
theorem only_set3 {lo hi : Nat} {a w : World} (h : Only lo hi a w) {g : Nat} (hg : a.heap.size ≤ g) (d0 d1 d2 : Value) : Only lo hi a (((w.setCell ⟨g, 0, none⟩ d0).setCell ⟨g, 1, none⟩ d1).setCell ⟨g, 2, none⟩ d2) :=
  ((h.setCell (p := ⟨g, 0, none⟩) (.inr hg) d0).setCell (p := ⟨g, 1, none⟩) (.inr hg) d1).setCell (p := ⟨g, 2, none⟩) (.inr hg) d2
theorem set3_block (w : World) (g : Nat) (d0 d1 d2 : Value) (b : Nat) (hb : b ≠ g) : (((w.setCell ⟨g, 0, none⟩ d0).setCell ⟨g, 1, none⟩ d1).setCell ⟨g, 2, none⟩ d2).heap[b]? = w.heap[b]? := by
  rw [Below.heap_setCell _ _ _ _ hb, Below.heap_setCell _ _ _ _ hb, Below.heap_setCell _ _ _ _ hb]
theorem gBlockN {w w' : World} {row : Option Nat} (hg : w.grownBy w' row) {b : Nat} (hb : b < w.heap.size) (hne : row ≠ some b) : w'.heap[b]? = w.heap[b]? := hg.block b hb (fun e => hne e.symm)
theorem only_below {lo hi B : Nat} {a b c : World} (h : Only lo hi a b) (hb : Below B b c) (hB : a.heap.size ≤ B) : Only lo hi a c :=
  ⟨hb.os.trans h.os, hb.tape.trans h.tape, hb.output.trans h.output, Nat.le_trans h.size hb.size, fun n hn ho => (hb.block n (by omega)).trans (h.block n hn ho)⟩
theorem Mem.at_ {g : Gr} {a : Au} {y : Int} {w w' : World} {bM : Nat} {M : List Plc} (h : Mem g a y w bM M) (hb : w'.heap[bM]? = w.heap[bM]?) : Mem g a y w' bM M := by
  obtain ⟨D, h1, h2⟩ := h
  exact ⟨D, ownsMap_at h1 hb, h2⟩
theorem elStepN : ElemOk Tryz.prog 57 86 (.agg #[.int .i64 0, .bool false]) 2 16 := ⟨Tryz.underlying57, by kernel_rfl, rfl, by omega⟩
set_option maxHeartbeats 8000000 in
set_option maxRecDepth 100000 in
theorem nth_any (g : Gr) (a : Au) (y : Int) (hgo : grOk g = true) (ha : auOk a = true) (bC bM lf x s n : Nat) (M : List Plc) (w : World) (hc : Ctr g a y w bC bM) (hm : Mem g a y w bM M) (hx : x < g.vals.length) (hs : s < 2 ^ a.accept.length) (hlf : lf ≤ 60) (hn : n < cw g a y lf x s) :
    Calls Tryz.prog 99 #[.pointer (some ⟨bC, 0, none⟩), .agg #[.int .i64 (x : Int), .int .i64 (s : Int), .int .i64 (lf : Int)], .int .i64 (n : Int)] w fun e w' => ∃ v', e = .returned v' ∧ Own w.heap.size w'.heap.size w' 86 cSt 2 v' (nthL g a y lf x s n) ∧ Only bM (bM + 1) w w' ∧ ∃ M', Mem g a y w' bM M' := by
  have HM := Lib.hid hm
  have HCT := Lib.hid hc
  have hbMw := hm.lt
  obtain ⟨RR, hRR⟩ : ∃ RR, RR = nthL g a y lf x s n := ⟨_, rfl⟩
  rw [← hRR]
  have HRR := Lib.hid hRR
  have HN := Lib.hid hn
  have HGO := Lib.hid hgo
  have HA := Lib.hid ha
  have HS := Lib.hid hs
  have hnle : n ≤ 1000000 := by have := cw_le g a y lf x s; omega
  have hn5 := (grOk_iff.1 hgo).n5
  clear hm hc hRR hn hgo ha hs
  go_enter Tryz.func99, Tryz.ntmps99
  go_wp2_with fail
  have HB0 := Lib.hid ((Blk.new w 121 #[.int .i64 (x : Int), .int .i64 (s : Int), .int .i64 (lf : Int)] w.heap.size rfl).alloc (.cells #[] 86))
  have hbl0 : Below w.heap.size w ((w.alloc (.cells #[.int .i64 (x : Int), .int .i64 (s : Int), .int .i64 (lf : Int)] 121)).alloc (.cells #[] 86)) := ((Below.refl _ _).alloc (Nat.le_refl _) _).alloc (by simp) _
  have HO0 := Lib.hid (Only.of_below hbl0 bM (bM + 1))
  have HM0 := Lib.hid (HM.out.keep hbl0)
  have HR0 := Lib.hid (show ((w.alloc (.cells #[.int .i64 (x : Int), .int .i64 (s : Int), .int .i64 (lf : Int)] 121)).alloc (.cells #[] 86)).ownsRow (w.heap.size + 1) 86 2 (.slice (some ⟨w.heap.size + 1, 0, none⟩) 0 0) ([] : List St).length (([] : List St).flatMap cSt) from by
    have h := World.ownsRow_lit (base := w.heap.size + 1) (e := 86) (size := 2) (w.alloc (.cells #[.int .i64 (x : Int), .int .i64 (s : Int), .int .i64 (lf : Int)] 121)) #[] 0 (by simp) (by decide) rfl
    simpa using h)
  clear hbl0
  go_loopg [2, 7] lf (fun gk nn oo wr => ∃ (x' s' n' : Nat) (O : List St) (M' : List Plc), nn = .int .i64 (n' : Int) ∧ gk ≤ lf ∧ x' < g.vals.length ∧ s' < 2 ^ a.accept.length ∧ n' < cw g a y gk x' s' ∧ O ++ nthL g a y gk x' s' n' = RR ∧ O.length + gk = lf ∧
      Blk wr w.heap.size 121 #[.int .i64 (x' : Int), .int .i64 (s' : Int), .int .i64 (gk : Int)] ∧ wr.ownsRow (w.heap.size + 1) 86 2 oo O.length (O.flatMap cSt) ∧ Only bM (bM + 1) w wr ∧ Mem g a y wr bM M')
  case atStart => exact ⟨x, s, n, [], M, rfl, Nat.le_refl _, hx, HS.out, HN.out, HRR.out.symm, by simp, HB0.out, HR0.out, HO0.out, HM0.out⟩
  case round =>
    clear HB0 HO0 HM0 HR0
    obtain ⟨x', s', n', O, M', rfl, hgk, hx', hs', hn', hO, hOl, hblk, hrow, hon, hmm⟩ := hrel
    have hs4 := lt12 HA.out hs'
    have e0 : wr.cell? ⟨w.heap.size, 0, none⟩ = some (.int .i64 (x' : Int)) := hblk.cell 0
    have e1 : wr.cell? ⟨w.heap.size, 1, none⟩ = some (.int .i64 (s' : Int)) := hblk.cell 1
    have e2 : wr.cell? ⟨w.heap.size, 2, none⟩ = some (.int .i64 (gk : Int)) := hblk.cell 2
    have lE := hblk.lt
    have HBK := Lib.hid hblk
    have HROW := Lib.hid hrow
    have HON := Lib.hid hon
    have HMM := Lib.hid hmm
    have HO := Lib.hid hO
    have hnle' : n' ≤ 1000000 := by have := cw_le g a y gk x' s'; omega
    by_cases h0 : gk = 0
    · subst h0
      have hOe : O = RR := by rw [← hO]; simp [nthL]
      have hown := Own.of_row (xs := O) hrow rfl rfl
      obtain ⟨A9, n9, c9, rfl⟩ := hown.shape
      rw [hOe] at hown
      have HOW := Lib.hid (hown.mono (lo' := w.heap.size) (by omega) (Nat.le_refl _))
      clear hblk hrow hon hmm hO hn' hOl hOe hown
      go_wp2_with fail
      go_ret
      exact ⟨_, rfl, HOW.out, HON.out, _, HMM.out⟩
    · obtain ⟨f, hf⟩ : ∃ f, gk = f + 1 := ⟨gk - 1, by omega⟩
      have hpick := pick_cw (show n' < cw g a y (f + 1) x' s' by rw [← hf]; exact hn')
      have HNX := Lib.hid (fun (l : Nat) (t sid : Int) (sinv : Bool) (W : World) (hW : Ctr g a y W bC bM) (hl : l < 9) => next_any g a y HGO.out HA.out bC bM x' s' f l t sid sinv W hW hx' hs' (by omega) hl)
      rw [← hf] at HNX
      have HNS := Lib.hid (fun n'' p (h : pick (cwAt g a y f x' s') (arcsOf g (x' : Int)) n' = some (p, n'')) => nthL_succ (y := y) h)
      rw [← hf] at HNS
      have hfl : f < gk := by omega
      have hgp : (0 : Int) < (gk : Int) := by omega
      have hgn : 0 < gk := by omega
      have hctr := HCT.out.only hon
      have HC1 := Lib.hid hctr
      obtain ⟨B, lo, hi, A1, A2, A3, A4, A5, c1, c2, c3, c4, c5, hbk, hgv, hav, hlv, h5, h6, h7, h8, h9⟩ := hctr
      have z6 : wr.cell? ⟨bC, 6, none⟩ = some (.slice A5 g.vals.length c5) := hbk.cell 6
      have lC := hbk.lt
      have hA5 : ∃ b5 o5, A5 = some ⟨b5, o5, none⟩ ∧ b5 < wr.heap.size ∧ ∃ A7 c7, wr.cell? ⟨b5, o5 + x', none⟩ = some (.slice A7 (arcsOf g (x' : Int)).length c7) ∧ (arcsOf g (x' : Int)).length ≤ c7 ∧ c7 ≤ 9223372036854775807 ∧ SlI lo hi wr cA 4 (.slice A7 (arcsOf g (x' : Int)).length c7) (arcsOf g (x' : Int)) := by
        obtain ⟨b5, o5, A7, c7, q1, q2, q3, q4, q5, q6, q7, -⟩ := hlv.row h7 (i := x') (xs := arcsOf g (x' : Int)) (by simp [hx'])
        exact ⟨b5, o5, q1, by omega, A7, c7, q4, q5, q6, q7⟩
      obtain ⟨b5, o5, rfl, hb5, A7, c7, d5, hl7, hm7, hI7⟩ := hA5
      have hal := arcs_len (grOk_iff.1 HGO.out) (x' : Int)
      have hxx : (x' : Int) < (g.vals.length : Int) := by omega
      have HI7 := Lib.hid hI7
      have HP := Lib.hid hpick
      have hgk60 : gk ≤ 60 := by omega
      have hol : O.length ≤ 60 := by omega
      have HF := Lib.hid hf
      have hrlt := hrow.lt
      have HRL := Lib.hid hrlt
      obtain ⟨wo, hwo⟩ : ∃ wo : World, wo = wr := ⟨_, rfl⟩
      rw [← hwo] at HBK HROW HON HMM HC1 HI7 HRL e0 e1 e2 lE z6 lC hb5 d5 h7 ⊢
      obtain ⟨vO, rfl⟩ : ∃ vO, vO = u7 := ⟨_, rfl⟩
      clear hwo hbk hgv hav hlv h8 hpick hblk hrow hon hmm hO hn' hI7 hf hrlt h0
      go_upto_region 3 with fail
      refine wp_region_ext_lit (by kernel_rfl) (by kernel_rfl) ?_
      repeat (go_big_quiet_step (fail))
      refine wpQuiet_nil ?_
      intro _ hw'
      obtain ⟨u2, hw''⟩ := hw'
      subst hw''
      clear d5 z6
      have hbU := ext_below wo u2
      go_wp2_with fail
      go_loopw [25, 2, 7] (fun ii nn oo wi => ∃ (i : Nat) (M2 : List Plc), i ≤ (arcsOf g (x' : Int)).length ∧ ii = .int .i64 (i : Int) ∧ oo = vO ∧ nn = .int .i64 (leftN (cwAt g a y f x' s') ((arcsOf g (x' : Int)).take i) n' : Nat) ∧ (∀ j q, j < i → (arcsOf g (x' : Int))[j]? = some q → ¬ leftN (cwAt g a y f x' s') ((arcsOf g (x' : Int)).take j) n' < cwAt g a y f x' s' q) ∧ Only bM (bM + 1) wo wi ∧ Mem g a y wi bM M2) (fun ii _ _ _ => (arcsOf g (x' : Int)).length - (intOf ii).toNat)
      case atStart => exact ⟨0, M', Nat.zero_le _, rfl, rfl, rfl, fun j q hj => by omega, Only.of_below hbU _ _, HMM.out.keep hbU⟩
      case round =>
        obtain ⟨i, M2, hi, rfl, hvo, rfl, hno, hon, hmm⟩ := hrel
        subst hvo
        by_cases hlt : i < (arcsOf g (x' : Int)).length
        · have hyi : (arcsOf g (x' : Int))[i]? = some (arcsOf g (x' : Int))[i] := List.getElem?_eq_getElem hlt
          have hyr := arc_range (grOk_iff.1 HGO.out) (List.getElem_mem hlt)
          generalize (arcsOf g (x' : Int))[i] = p at hyi hyr
          obtain ⟨⟨sid, sinv⟩, l, t⟩ := p
          simp only at hyr
          obtain ⟨l, rfl⟩ := Int.eq_ofNat_of_zero_le hyr.1.1
          obtain ⟨t, rfl⟩ := Int.eq_ofNat_of_zero_le hyr.2.1
          obtain ⟨b7, o7, rfl, hb7l, hb7, k0, k1, k2, k3⟩ := HI7.out.arc hyi
          simp only at k0 k1 k2 k3
          have hb7M : b7 < bM ∨ bM + 1 ≤ b7 := by omega
          have hb7o : b7 < wo.heap.size := by omega
          have k0 := ocell hon k0 hb7o hb7M
          have k1 := ocell hon k1 hb7o hb7M
          have k2 := ocell hon k2 hb7o hb7M
          have k3 := ocell hon k3 hb7o hb7M
          have hsz := hon.size
          have e0 := ocell hon e0 lE (.inr (by omega))
          have e1 := ocell hon e1 lE (.inr (by omega))
          have e2 := ocell hon e2 lE (.inr (by omega))
          have hb7w : b7 < wr.heap.size := by omega
          have lEr : w.heap.size < wr.heap.size := by omega
          have hAF := aft_lt HA.out s' (valAt g x') l
          have hKA : cwAt g a y f x' s' ((sid, sinv), (l : Int), (t : Int)) = cw g a y f t (aft a s' (valAt g x') l) := by rw [cwAt]; simp
          have hPH := fun h => pick_here hyi hno h
          have hLS := leftN_succ (k := cwAt g a y f x' s') (n := n') hyi
          have hLL := leftN_le (cwAt g a y f x' s') ((arcsOf g (x' : Int)).take i) n'
          rw [hKA] at hPH hLS
          have hno2 : ¬ leftN (cwAt g a y f x' s') ((arcsOf g (x' : Int)).take i) n' < cw g a y f t (aft a s' (valAt g x') l) → ∀ j q, j < i + 1 → (arcsOf g (x' : Int))[j]? = some q → ¬ leftN (cwAt g a y f x' s') ((arcsOf g (x' : Int)).take j) n' < cwAt g a y f x' s' q := fun h j q hj hq => by
            rcases Nat.lt_or_ge j i with h1 | h1
            · exact hno j q h1 hq
            · obtain rfl : j = i := by omega
              rw [hyi] at hq
              injection hq with hq
              rw [← hq, hKA]; exact h
          have hNSS := fun n'' h => HNS.out n'' ((sid, sinv), (l : Int), (t : Int)) h
          simp only [Int.toNat_natCast] at hNSS
          have hcl2 := cw_le g a y f t (aft a s' (valAt g x') l)
          have HNC := Lib.hid (fun (W : World) (hW : Ctr g a y W bC bM) => HNX.out l (t : Int) sid sinv W hW (by omega))
          have HRC := Lib.hid (fun (W : World) (h1 : Ctr g a y W bC bM) (h2 : Mem g a y W bM M2) => count_any g a y HGO.out HA.out bC bM f t (aft a s' (valAt g x') l) M2 W h1 h2 (by omega) hAF (by omega))
          obtain ⟨CC, hCC⟩ : ∃ CC, CC = cw g a y f t (aft a s' (valAt g x') l) := ⟨_, rfl⟩
          rw [← hCC] at hPH hLS hno2 hcl2 HRC
          have HCC := Lib.hid hCC
          generalize aft a s' (valAt g x') l = AF at *
          have hii : (i : Int) < ((arcsOf g (x' : Int)).length : Int) := by omega
          have HLS := Lib.hid hLS
          have HPH := Lib.hid hPH
          have HN2 := Lib.hid hno2
          have HNSS := Lib.hid hNSS
          have HON2 := Lib.hid hon
          have HMM2 := Lib.hid hmm
          have hAF4 : AF < 4096 := lt12 HA.out hAF
          have htl : t < g.vals.length := by omega
          have HAF := Lib.hid hAF
          clear hyi hno hLS hPH hno2 hNSS hCC hon hmm hKA hAF
          generalize leftN (cwAt g a y f x' s') ((arcsOf g (x' : Int)).take i) n' = m1 at *
          have hbE : Below wr.heap.size wr (wr.alloc (.cells #[.int .i64 sid, .bool sinv, .int .i64 (l : Int), .int .i64 (t : Int)] 149)) := (Below.refl _ _).alloc (Nat.le_refl _) _
          have a0 : (wr.alloc (.cells #[.int .i64 sid, .bool sinv, .int .i64 (l : Int), .int .i64 (t : Int)] 149)).cell? ⟨wr.heap.size, 0, none⟩ = some (.int .i64 sid) := by simp
          have a1 : (wr.alloc (.cells #[.int .i64 sid, .bool sinv, .int .i64 (l : Int), .int .i64 (t : Int)] 149)).cell? ⟨wr.heap.size, 1, none⟩ = some (.bool sinv) := by simp
          go_wp2_with fail
          refine (HNC.out _ ((HC1.out.only HON2.out).keep hbE)).mono ?_
          rintro en w3 ⟨rfl, hb3⟩
          have hbQ : Below w3.heap.size w3 (w3.alloc (.cells #[.int .i64 (t : Int), .int .i64 (AF : Int), .int .i64 (f : Int)] 121)) := (Below.refl _ _).alloc (Nat.le_refl _) _
          have hbEQ := below_trans hbE (below_trans hb3 hbQ)
          have hb3Q := below_trans hb3 hbQ
          have q0 : (w3.alloc (.cells #[.int .i64 (t : Int), .int .i64 (AF : Int), .int .i64 (f : Int)] 121)).cell? ⟨w3.heap.size, 0, none⟩ = some (.int .i64 (t : Int)) := by simp
          have q1 : (w3.alloc (.cells #[.int .i64 (t : Int), .int .i64 (AF : Int), .int .i64 (f : Int)] 121)).cell? ⟨w3.heap.size, 1, none⟩ = some (.int .i64 (AF : Int)) := by simp
          have q2 : (w3.alloc (.cells #[.int .i64 (t : Int), .int .i64 (AF : Int), .int .i64 (f : Int)] 121)).cell? ⟨w3.heap.size, 2, none⟩ = some (.int .i64 (f : Int)) := by simp
          have a0 := kcell hb3Q a0
          have a1 := kcell hb3Q a1
          have hsE : wr.heap.size < w3.heap.size := by have := hb3.size; simp at this; omega
          have HC3 := Lib.hid ((HC1.out.only HON2.out).keep hbEQ)
          have HM3 := Lib.hid (HMM2.out.keep hbEQ)
          have HO3 := Lib.hid (HON2.out.trans (Only.of_below hbEQ bM (bM + 1)))
          have lQ : w3.heap.size < (w3.alloc (.cells #[.int .i64 (t : Int), .int .i64 (AF : Int), .int .i64 (f : Int)] 121)).heap.size := by simp
          clear hb3 hbQ hbEQ hb3Q hbE k0 k1 k2 k3 e0 e1 e2
          go_wp2_with fail
          refine (HRC.out _ HC3.out HM3.out).mono ?_
          rintro en w4 ⟨rfl, hon4, M4, hm4, hmo4⟩
          have q0 := ocell hon4 q0 lQ (.inr (by omega))
          have q1 := ocell hon4 q1 lQ (.inr (by omega))
          have q2 := ocell hon4 q2 lQ (.inr (by omega))
          have a0 := ocell hon4 a0 (by omega) (.inr (by omega))
          have a1 := ocell hon4 a1 (by omega) (.inr (by omega))
          have hs4w := hon4.size
          have HO4 := Lib.hid (HO3.out.trans hon4)
          have HM4 := Lib.hid hm4
          clear hon4 hm4 hmo4
          by_cases hpk : m1 < CC
          · have hpk1 : (m1 : Int) < (CC : Int) := by omega
            have HPK := Lib.hid (HPH.out hpk)
            have HNR := Lib.hid (HNSS.out m1 (HPH.out hpk))
            have honA := HO4.out
            have hrow4 := ownsRow_block HROW.out (fun g hg => honA.block g (HRL.out g hg).2 (.inr (by have := (HRL.out g hg).1; omega)))
            have hbk4 := HBK.out.only honA (.inr (by omega))
            have HR4 := Lib.hid hrow4
            have HBK4 := Lib.hid hbk4
            have hs44 : wo.heap.size ≤ w4.heap.size := by omega
            have lQ4 : w3.heap.size < w4.heap.size := by omega
            clear HN2 HLS HPH HNSS hrow4 hbk4 honA
            go_upto_region 10 with (at_builtin; (refine wpList_append1 cSt elStepN rfl _ _ rfl (w.heap.size + 1) _ O (sid, sinv) _ 1 _ (by rfl) HR4.out (by rfl) rfl rfl rfl (cSt_one _) (by omega) (by omega) (by omega) ?_); intro v8 w8 hrow8 hb8 hat8 hgr8)
            have hs8 := hb8.size
            have hne : ∀ b, wo.heap.size ≤ b → u7.ownBlock ≠ some b := fun b hb e => by have := (HRL.out b e).2; omega
            have hneM : u7.ownBlock ≠ some bM := fun e => by have := (HRL.out bM e).1; omega
            have g8 : ∀ b, b < w4.heap.size → u7.ownBlock ≠ some b → w8.heap[b]? = w4.heap[b]? := fun b hb hn => (gBlockN hgr8 (by simp; omega) hn).trans (Below.heap_alloc _ _ _ hb)
            have q0 : w8.cell? ⟨w3.heap.size, 0, none⟩ = some (.int .i64 (t : Int)) := (World.cell?_of_block (a := ⟨w3.heap.size, 0, none⟩) (g8 _ lQ4 (hne w3.heap.size (by omega)))).trans q0
            have q1 : w8.cell? ⟨w3.heap.size, 1, none⟩ = some (.int .i64 (AF : Int)) := (World.cell?_of_block (a := ⟨w3.heap.size, 1, none⟩) (g8 _ lQ4 (hne w3.heap.size (by omega)))).trans q1
            have q2 : w8.cell? ⟨w3.heap.size, 2, none⟩ = some (.int .i64 (f : Int)) := (World.cell?_of_block (a := ⟨w3.heap.size, 2, none⟩) (g8 _ lQ4 (hne w3.heap.size (by omega)))).trans q2
            have hbk8 := HBK4.out.below hb8 (Nat.lt_succ_self _)
            have z0 : w8.cell? ⟨w.heap.size, 0, none⟩ = some (.int .i64 (x' : Int)) := hbk8.cell 0
            have z1 : w8.cell? ⟨w.heap.size, 1, none⟩ = some (.int .i64 (s' : Int)) := hbk8.cell 1
            have z2 : w8.cell? ⟨w.heap.size, 2, none⟩ = some (.int .i64 (gk : Int)) := hbk8.cell 2
            have f0 := hbk8.frozen 0
            have f1 := hbk8.frozen 1
            have f2 := hbk8.frozen 2
            have l8 := hbk8.lt
            have lbM4 := HM4.out.lt
            have hmm8 := HM4.out.at_ (g8 bM lbM4 hneM)
            have hon8 := only_below (HON.out.trans HO4.out) hb8 (show w.heap.size ≤ w.heap.size + 1 by omega)
            have HB8 := Lib.hid (hbk8.set3 (.int .i64 (t : Int)) (.int .i64 (AF : Int)) (.int .i64 (f : Int)))
            have HR8 := Lib.hid (ownsRow_block hrow8 (fun g hg => set3_block w8 w.heap.size (.int .i64 (t : Int)) (.int .i64 (AF : Int)) (.int .i64 (f : Int)) g (by have := (hrow8.lt g hg).1; omega)))
            have HM8 := Lib.hid (hmm8.at_ (set3_block w8 w.heap.size (.int .i64 (t : Int)) (.int .i64 (AF : Int)) (.int .i64 (f : Int)) bM (by omega)))
            have HO8 := Lib.hid (only_set3 hon8 (Nat.le_refl _) (.int .i64 (t : Int)) (.int .i64 (AF : Int)) (.int .i64 (f : Int)))
            clear hbk8 hrow8 hmm8 hon8 hb8 hat8 hgr8 g8 hne hneM a0 a1
            go_wp2_with fail
            go_roundg f
            case measure => omega
            case rel => exact ⟨t, AF, m1, O ++ [(sid, sinv)], M4, rfl, by omega, htl, HAF.out, by rw [← HCC.out]; exact hpk, by rw [← HO.out, HNR.out, List.append_assoc]; rfl, by have := HF.out; simp; omega, HB8.out, HR8.out, HO8.out, HM8.out⟩
          · have hpk1 : ¬ (m1 : Int) < (CC : Int) := by omega
            have hsub : IntKind.i64.wrap ((m1 : Int) - (CC : Int)) = ((m1 - CC : Nat) : Int) := by rw [IntWalk.i64_in _ (by omega)]; omega
            have hsub2 : (m1 : Int) - (CC : Int) = ((m1 - CC : Nat) : Int) := by omega
            have HNO := Lib.hid (HN2.out hpk)
            clear HPH HNSS HN2
            go_wp2_with fail
            go_roundw
            case rel => exact ⟨i + 1, M4, by omega, by go_num, rfl, by rw [HLS.out], HNO.out, HO4.out, HM4.out⟩
            case measure => simp [intOf]; omega
        · obtain rfl : i = (arcsOf g (x' : Int)).length := by omega
          obtain ⟨p, n'', h1, -⟩ := HP.out
          rw [pick_end hno] at h1
          cases h1
end Go.Proofs.YtpbfdmfkmbdpkaaGreat

/- The program's CountShortest, CountWalks, NthShortest, LeastWitness, NthWalk. -/
namespace Go.Proofs.YtpbfdmfkmbdpkaaGreat
set_option linter.unusedVariables false
set_option linter.unusedSimpArgs false
open Go.ChangeShapes Go.WideShapes Go.ChangeAt Go.RowKit Go.Maps
attribute [local go_sem] ext_cell ext_frozen ext_lt ext_lt1 ext_lt2 ext_lt3 ltn2 ltn3 ltn13 lts1 lts2 lts3

theorem startOk {a : Au} (ha : auOk a = true) : bit a.start.toNat < 2 ^ a.accept.length := by
  obtain ⟨⟨_, hn⟩, ⟨h0, h1⟩, -, -⟩ := auOk_iff.1 ha
  exact bit_lt (by omega)
theorem Left.below {g : Gr} {a : Au} {y : Int} {f : Nat} {M : List Plc} {bM : Nat} {w w' : World} (h : Left g a y f M bM w w') {B : Nat} (hB : B ≤ bM) (hs : B ≤ w.heap.size) : Below B w w' := h.1.below hB hs

set_option maxHeartbeats 8000000 in
set_option maxRecDepth 100000 in
theorem implNthShortest (vg va : Value) (g : Gr) (a : Au) (x y n : Int) (w : World) (hgv : GrV 0 w.heap.size w vg g) (hav : AuV 0 w.heap.size w va a) :
    Calls Tryz.prog 63 #[vg, va, .int .i64 x, .int .i64 y, .int .i64 n] w fun e w' => ∃ v', e = .returned (.tuple #[v', .bool (nthShort g a x y n).2]) ∧ WkO w.heap.size w'.heap.size w' v' (nthShort g a x y n).1 ∧ Below w.heap.size w w' := by
  have hgv0 := hgv
  have hav0 := hav
  obtain ⟨A1, n1, c1, A2, n2, c2, rfl⟩ := hgv.shape
  obtain ⟨A3, n3, c3, A4, n4, c4, rfl⟩ := hav.shape
  have hb0 : Below w.heap.size w (((w.alloc (.cells #[.slice A1 n1 c1, .slice A2 n2 c2] 36)).alloc (.cells #[.int .i64 a.start, .slice A3 n3 c3, .slice A4 n4 c4] 38)).alloc (.cells #[.int .i64 0, .slice none 0 0] 59)) := (((Below.refl _ _).alloc (Nat.le_refl _) _).alloc (by simp) _).alloc (by simp; omega) _
  have hbG := ((Blk.new w 36 #[.slice A1 n1 c1, .slice A2 n2 c2] w.heap.size rfl).alloc (.cells #[.int .i64 a.start, .slice A3 n3 c3, .slice A4 n4 c4] 38)).alloc (.cells #[.int .i64 0, .slice none 0 0] 59)
  have hbA := (Blk.new (w.alloc (.cells #[.slice A1 n1 c1, .slice A2 n2 c2] 36)) 38 #[.int .i64 a.start, .slice A3 n3 c3, .slice A4 n4 c4] (w.heap.size + 1) (by simp)).alloc (.cells #[.int .i64 0, .slice none 0 0] 59)
  have hbR := Blk.new ((w.alloc (.cells #[.slice A1 n1 c1, .slice A2 n2 c2] 36)).alloc (.cells #[.int .i64 a.start, .slice A3 n3 c3, .slice A4 n4 c4] 38)) 59 #[.int .i64 0, .slice none 0 0] (w.heap.size + 1 + 1) (by simp)
  have HBG := Lib.hid hbG
  have HBA := Lib.hid hbA
  have HBR := Lib.hid hbR
  have HGV := Lib.hid hgv0
  have HAV := Lib.hid hav0
  have HB0 := Lib.hid hb0
  have HSL := Lib.hid (fun (W : World) (hW : Below w.heap.size w W) => implShortestLength _ _ g a x y W (HGV.out.keep hW) (HAV.out.keep hW))
  clear hgv hav hgv0 hav0 hb0 hbG hbA hbR
  obtain ⟨R, hR⟩ : ∃ R, R = nthShort g a x y n := ⟨_, rfl⟩
  rw [← hR]
  by_cases hneg : shortLen g a x y < 0
  · have HF := Lib.hid (show R = ((0, []), false) by rw [hR, nthShort, if_neg]; rw [nthSh, decide_eq_false (by omega)]; simp)
    generalize shortLen g a x y = SL at *
    clear hR
    go_enter Tryz.func63, Tryz.ntmps63
    go_wp2_with fail
    refine (HSL.out _ HB0.out).mono ?_
    rintro e w1 ⟨rfl, hb1⟩
    have hb2 := below_trans HB0.out hb1
    have bR := HBR.out.keep hb1
    have r0 : w1.cell? ⟨w.heap.size + 1 + 1, 0, none⟩ = some (.int .i64 0) := bR.cell 0
    have r1 : w1.cell? ⟨w.heap.size + 1 + 1, 1, none⟩ = some (.slice none 0 0) := bR.cell 1
    have fr0 := bR.frozen 0
    have fr1 := bR.frozen 1
    have lr := bR.lt
    clear bR
    clear hb1
    go_wp2_with fail
    refine bodyPost_ret (v := .tuple #[.agg #[.int .i64 0, .slice none 0 0], .bool false]) (by simp [results, Tryz.results63, go_sem, r0, r1]) rfl ⟨_, by rw [HF.out], ?_, (hb2.setCell (p := ⟨w.heap.size + 1 + 1, 0, none⟩) (by simp only; omega) _).setCell (p := ⟨w.heap.size + 1 + 1, 1, none⟩) (by simp only; omega) _⟩
    rw [HF.out]
    exact ⟨_, rfl, Own.nil _ _ _ _ _ _⟩
  · have hco := shortLen_ok (show 0 ≤ shortLen g a x y by omega)
    obtain ⟨⟨hx0, hx1⟩, ⟨hy0, hy1⟩, hgo, ha⟩ := cntOk_iff.1 hco
    have hlt := shortLen_lt g a x y
    obtain ⟨L, hL⟩ := Int.eq_ofNat_of_zero_le (show 0 ≤ shortLen g a x y by omega)
    rw [hL] at HSL hlt hneg
    obtain ⟨x, rfl⟩ := Int.eq_ofNat_of_zero_le hx0
    have HGO := Lib.hid hgo
    have HA := Lib.hid ha
    have HSO := Lib.hid (startOk ha)
    have hn5 := (grOk_iff.1 hgo).n5
    have hxl : x < g.vals.length := by omega
    have hln : ¬ (L : Int) < 0 := by omega
    have hcle := cw_le g a y L x (bit a.start.toNat)
    obtain ⟨C, hC⟩ : ∃ C, C = cw g a y L x (bit a.start.toNat) := ⟨_, rfl⟩
    have hsh : nthSh g a (x : Int) y n = wi n 0 ((C : Int) - 1) := by rw [nthSh, decide_eq_true (by omega), Bool.true_and, hL, Int.toNat_natCast, hC]; rfl
    rw [← hC] at hcle
    have HC := Lib.hid hC
    have HW := Lib.hid (fun W => within_any n 0 ((C : Int) - 1) W)
    have hgv2 := HGV
    cases hwn : wi n 0 ((C : Int) - 1) with
    | false =>
      have HF := Lib.hid (show R = ((0, []), false) by rw [hR, nthShort, if_neg]; rw [hsh, hwn]; simp)
      rw [hwn] at HW
      clear hco hgo ha hL hneg hx0 hx1 hy0 hy1 hR hC hsh hwn
      go_enter Tryz.func63, Tryz.ntmps63
      go_wp2_with fail
      refine (HSL.out _ HB0.out).mono ?_
      rintro e w1 ⟨rfl, hb1⟩
      have hb2 := below_trans HB0.out hb1
      have bG := HBG.out.keep hb1
      have bA := HBA.out.keep hb1
      have x0 : w1.cell? ⟨w.heap.size, 0, none⟩ = some (.slice A1 n1 c1) := bG.cell 0
      have x1 : w1.cell? ⟨w.heap.size, 1, none⟩ = some (.slice A2 n2 c2) := bG.cell 1
      have y0 : w1.cell? ⟨w.heap.size + 1, 0, none⟩ = some (.int .i64 a.start) := bA.cell 0
      have y1 : w1.cell? ⟨w.heap.size + 1, 1, none⟩ = some (.slice A3 n3 c3) := bA.cell 1
      have y2 : w1.cell? ⟨w.heap.size + 1, 2, none⟩ = some (.slice A4 n4 c4) := bA.cell 2
      clear bG bA
      have HR1 := Lib.hid (HBR.out.keep hb1)
      clear hb1
      go_wp2_with fail
      refine (newCounter_any _ _ g a y _ (HGV.out.keep hb2) (HAV.out.keep hb2) HGO.out HA.out).mono ?_
      rintro e w2 ⟨bC, bM, rfl, hbM, hctr, hmem, hb3⟩
      have hb4 := below_trans hb2 hb3
      have hwM : w.heap.size ≤ bM := Nat.le_trans hb2.size hbM
      have hsz3 := hb3.size
      have lbMw := hmem.lt
      have HR2 := Lib.hid (HR1.out.keep hb3)
      clear hb3 x0 x1 y0 y1 y2
      go_wp2_with fail
      refine (start_any g a y HA.out bC bM x L _ hctr (by omega) (by omega)).mono ?_
      rintro e w3 ⟨rfl, hb5⟩
      have hbQ := (Below.refl w3.heap.size w3).alloc (Nat.le_refl _) (.cells #[.int .i64 (x : Int), .int .i64 (bit a.start.toNat : Nat), .int .i64 (L : Int)] 121)
      have hb6 := below_trans hb5 hbQ
      go_wp2_with fail
      refine (count_any g a y HGO.out HA.out bC bM L x _ [] _ (hctr.keep hb6) (hmem.keep hb6) hxl HSO.out (by omega)).mono ?_
      rintro e w4 ⟨rfl, hleft⟩
      rw [← HC.out]
      have hb7 := below_trans hb4 hb6
      have hb8 := hb7.trans (hleft.below hwM hb7.size)
      have hR4 := (HR2.out.keep hb6).only hleft.1 (.inl (by have := HR1.out.lt; omega))
      have bR := hR4
      have r0 : w4.cell? ⟨w.heap.size + 1 + 1, 0, none⟩ = some (.int .i64 0) := bR.cell 0
      have r1 : w4.cell? ⟨w.heap.size + 1 + 1, 1, none⟩ = some (.slice none 0 0) := bR.cell 1
      have fr0 := bR.frozen 0
      have fr1 := bR.frozen 1
      have lr := bR.lt
      clear bR
      clear hleft hb5 hbQ hb6 hR4
      go_wp2_with fail
      refine (HW.out _).mono ?_
      rintro e w9 ⟨rfl, hw9⟩
      rw [hw9]
      clear hw9
      go_wp2_with fail
      refine bodyPost_ret (v := .tuple #[.agg #[.int .i64 0, .slice none 0 0], .bool false]) (by simp [results, Tryz.results63, go_sem, r0, r1]) rfl ⟨_, by rw [HF.out], ?_, (hb8.setCell (p := ⟨w.heap.size + 1 + 1, 0, none⟩) (by simp only; omega) _).setCell (p := ⟨w.heap.size + 1 + 1, 1, none⟩) (by simp only; omega) _⟩
      rw [HF.out]
      exact ⟨_, rfl, Own.nil _ _ _ _ _ _⟩
    | true =>
      have hwi := wi_iff.1 hwn
      obtain ⟨n, rfl⟩ := Int.eq_ofNat_of_zero_le hwi.1
      have HF := Lib.hid (show R = (((x : Int), nthL g a y L x (bit a.start.toNat) n), true) by rw [hR, nthShort, if_pos (by rw [hsh, hwn]), hL]; rfl)
      have HNN := Lib.hid (show n < cw g a y L x (bit a.start.toNat) by rw [← hC]; omega)
      rw [hwn] at HW
      clear hco hgo ha hL hneg hx0 hx1 hy0 hy1 hR hC hsh hwn hwi
      go_enter Tryz.func63, Tryz.ntmps63
      go_wp2_with fail
      refine (HSL.out _ HB0.out).mono ?_
      rintro e w1 ⟨rfl, hb1⟩
      have hb2 := below_trans HB0.out hb1
      have bG := HBG.out.keep hb1
      have bA := HBA.out.keep hb1
      have x0 : w1.cell? ⟨w.heap.size, 0, none⟩ = some (.slice A1 n1 c1) := bG.cell 0
      have x1 : w1.cell? ⟨w.heap.size, 1, none⟩ = some (.slice A2 n2 c2) := bG.cell 1
      have y0 : w1.cell? ⟨w.heap.size + 1, 0, none⟩ = some (.int .i64 a.start) := bA.cell 0
      have y1 : w1.cell? ⟨w.heap.size + 1, 1, none⟩ = some (.slice A3 n3 c3) := bA.cell 1
      have y2 : w1.cell? ⟨w.heap.size + 1, 2, none⟩ = some (.slice A4 n4 c4) := bA.cell 2
      clear bG bA
      have HR1 := Lib.hid (HBR.out.keep hb1)
      clear hb1
      go_wp2_with fail
      refine (newCounter_any _ _ g a y _ (HGV.out.keep hb2) (HAV.out.keep hb2) HGO.out HA.out).mono ?_
      rintro e w2 ⟨bC, bM, rfl, hbM, hctr, hmem, hb3⟩
      have hb4 := below_trans hb2 hb3
      have hwM : w.heap.size ≤ bM := Nat.le_trans hb2.size hbM
      have hsz3 := hb3.size
      have lbMw := hmem.lt
      have HR2 := Lib.hid (HR1.out.keep hb3)
      clear hb3 x0 x1 y0 y1 y2
      go_wp2_with fail
      refine (start_any g a y HA.out bC bM x L _ hctr (by omega) (by omega)).mono ?_
      rintro e w3 ⟨rfl, hb5⟩
      have hbQ := (Below.refl w3.heap.size w3).alloc (Nat.le_refl _) (.cells #[.int .i64 (x : Int), .int .i64 (bit a.start.toNat : Nat), .int .i64 (L : Int)] 121)
      have bQ := Blk.new w3 121 #[.int .i64 (x : Int), .int .i64 (bit a.start.toNat : Nat), .int .i64 (L : Int)] w3.heap.size rfl
      have hb6 := below_trans hb5 hbQ
      go_wp2_with fail
      refine (count_any g a y HGO.out HA.out bC bM L x _ [] _ (hctr.keep hb6) (hmem.keep hb6) hxl HSO.out (by omega)).mono ?_
      rintro e w4 ⟨rfl, hleft⟩
      rw [← HC.out]
      have hb7 := below_trans hb4 hb6
      have hb8 := hb7.trans (hleft.below hwM hb7.size)
      have hR4 := (HR2.out.keep hb6).only hleft.1 (.inl (by have := HR1.out.lt; omega))
      have bQ4 := bQ.only hleft.1 (.inr (by have := hb5.size; omega))
      have q0 : w4.cell? ⟨w3.heap.size, 0, none⟩ = some (.int .i64 (x : Int)) := bQ4.cell 0
      have q1 : w4.cell? ⟨w3.heap.size, 1, none⟩ = some (.int .i64 (bit a.start.toNat : Nat)) := bQ4.cell 1
      have q2 : w4.cell? ⟨w3.heap.size, 2, none⟩ = some (.int .i64 (L : Int)) := bQ4.cell 2
      have lQ := bQ4.lt
      obtain ⟨hon4, M4, hm4, -⟩ := hleft
      have HCT4 := Lib.hid ((hctr.keep hb6).only hon4)
      have HM4 := Lib.hid hm4
      have HR4 := Lib.hid hR4
      clear hb5 hbQ hb6 hR4 bQ bQ4 hm4 hon4
      go_wp2_with fail
      refine (HW.out _).mono ?_
      rintro e w9 ⟨rfl, hw9⟩
      rw [hw9]
      clear hw9
      go_wp2_with fail
      refine (nth_any g a y HGO.out HA.out bC bM L x _ n M4 w4 HCT4.out HM4.out hxl HSO.out (by omega) HNN.out).mono ?_
      rintro e w5 ⟨v5, rfl, ho5, hon5, M5, hm5⟩
      have hb9 := hb8.trans (hon5.below hwM hb8.size)
      have hR5 := HR4.out.only hon5 (.inl (by have := HR1.out.lt; omega))
      have bR := hR5
      have r0 : w5.cell? ⟨w.heap.size + 1 + 1, 0, none⟩ = some (.int .i64 0) := bR.cell 0
      have r1 : w5.cell? ⟨w.heap.size + 1 + 1, 1, none⟩ = some (.slice none 0 0) := bR.cell 1
      have fr0 := bR.frozen 0
      have fr1 := bR.frozen 1
      have lr := bR.lt
      clear bR
      obtain ⟨A9, n9, c9, rfl⟩ := ho5.shape
      have hsz4 := hb8.size
      have lr4 := HR4.out.lt
      have hon3 := ((Only.refl (w.heap.size + 1 + 1) (w.heap.size + 1 + 1 + 1) w5).setCell (p := ⟨w.heap.size + 1 + 1, 0, none⟩) (.inl ⟨Nat.le_refl _, Nat.lt_succ_self _⟩) (.int .i64 (x : Int))).setCell (p := ⟨w.heap.size + 1 + 1, 1, none⟩) (.inl ⟨Nat.le_refl _, Nat.lt_succ_self _⟩) (.slice A9 n9 c9)
      have HO5 := Lib.hid ((ho5.only hon3 (.inr (by omega))).mono (show w.heap.size ≤ w4.heap.size by omega) hon3.size)
      have HB5 := Lib.hid (hb9.trans (hon3.below (show w.heap.size ≤ w.heap.size + 1 + 1 by omega) hb9.size))
      clear ho5 hon5 hm5 hR5 hon3 q0 q1 q2
      go_wp2_with fail
      refine bodyPost_ret (v := .tuple #[.agg #[.int .i64 (x : Int), .slice A9 n9 c9], .bool true]) (by simp [results, Tryz.results63, go_sem, r0, r1]) rfl ⟨_, by rw [HF.out], ?_, HB5.out⟩
      rw [HF.out]
      exact ⟨_, rfl, HO5.out⟩
end Go.Proofs.YtpbfdmfkmbdpkaaGreat

/- The program's LeastWitness. -/
namespace Go.Proofs.YtpbfdmfkmbdpkaaGreat
set_option linter.unusedVariables false
set_option linter.unusedSimpArgs false
open Go.ChangeShapes Go.WideShapes Go.ChangeAt Go.RowKit Go.Maps
attribute [local go_sem] ext_cell ext_frozen ext_lt ext_lt1 ext_lt2 ext_lt3 ltn2 ltn3 ltn13 lts1 lts2 lts3

theorem lstShort_len (g : Gr) (a : Au) (x y : Int) : (lstShort g a x y).1.2.length ≤ 60 := by rw [lst_nth]; exact nthShort_len ..
set_option maxHeartbeats 8000000 in
set_option maxRecDepth 100000 in
theorem implLeastWitness (vg va : Value) (g : Gr) (a : Au) (x y : Int) (w : World) (hgv : GrV 0 w.heap.size w vg g) (hav : AuV 0 w.heap.size w va a) :
    Calls Tryz.prog 34 #[vg, va, .int .i64 x, .int .i64 y] w fun e w' => ∃ v', e = .returned (.tuple #[v', .bool (lstShort g a x y).2]) ∧ WkO w.heap.size w'.heap.size w' v' (lstShort g a x y).1 ∧ Below w.heap.size w w' := by
  have hgv0 := hgv
  have hav0 := hav
  obtain ⟨A1, n1, c1, A2, n2, c2, rfl⟩ := hgv.shape
  obtain ⟨A3, n3, c3, A4, n4, c4, rfl⟩ := hav.shape
  have hb0 : Below w.heap.size w (((w.alloc (.cells #[.slice A1 n1 c1, .slice A2 n2 c2] 36)).alloc (.cells #[.int .i64 a.start, .slice A3 n3 c3, .slice A4 n4 c4] 38)).alloc (.cells #[.int .i64 0, .slice none 0 0] 59)) := (((Below.refl _ _).alloc (Nat.le_refl _) _).alloc (by simp) _).alloc (by simp; omega) _
  have hbG := ((Blk.new w 36 #[.slice A1 n1 c1, .slice A2 n2 c2] w.heap.size rfl).alloc (.cells #[.int .i64 a.start, .slice A3 n3 c3, .slice A4 n4 c4] 38)).alloc (.cells #[.int .i64 0, .slice none 0 0] 59)
  have hbA := (Blk.new (w.alloc (.cells #[.slice A1 n1 c1, .slice A2 n2 c2] 36)) 38 #[.int .i64 a.start, .slice A3 n3 c3, .slice A4 n4 c4] (w.heap.size + 1) (by simp)).alloc (.cells #[.int .i64 0, .slice none 0 0] 59)
  have hbR := Blk.new ((w.alloc (.cells #[.slice A1 n1 c1, .slice A2 n2 c2] 36)).alloc (.cells #[.int .i64 a.start, .slice A3 n3 c3, .slice A4 n4 c4] 38)) 59 #[.int .i64 0, .slice none 0 0] (w.heap.size + 1 + 1) (by simp)
  have HBG := Lib.hid hbG
  have HBA := Lib.hid hbA
  have HBR := Lib.hid hbR
  have HGV := Lib.hid hgv0
  have HAV := Lib.hid hav0
  have HB0 := Lib.hid hb0
  have HSL := Lib.hid (fun (W : World) (hW : Below w.heap.size w W) => implShortestLength _ _ g a x y W (HGV.out.keep hW) (HAV.out.keep hW))
  clear hgv hav hgv0 hav0 hb0 hbG hbA hbR
  have HNS := fun (W : World) (hW : Below w.heap.size w W) => implNthShortest _ _ g a x y 0 W (HGV.out.keep hW) (HAV.out.keep hW)
  rw [← lst_nth] at HNS
  obtain ⟨R, hR⟩ : ∃ R, R = lstShort g a x y := ⟨_, rfl⟩
  rw [← hR] at HNS ⊢
  replace HNS := Lib.hid HNS
  clear hR HSL
  go_enter Tryz.func34, Tryz.ntmps34
  go_wp2_with fail
  refine (HNS.out _ HB0.out).mono ?_
  rintro e w1 ⟨v1, rfl, ⟨ss, rfl, hss⟩, hb1⟩
  obtain ⟨A9, n9, c9, rfl⟩ := hss.shape
  have hb2 := below_trans HB0.out hb1
  have bR := HBR.out.keep hb1
  have r0 : w1.cell? ⟨w.heap.size + 1 + 1, 0, none⟩ = some (.int .i64 0) := bR.cell 0
  have r1 : w1.cell? ⟨w.heap.size + 1 + 1, 1, none⟩ = some (.slice none 0 0) := bR.cell 1
  have fr0 := bR.frozen 0
  have fr1 := bR.frozen 1
  have lr := bR.lt
  clear bR
  have hsz := HB0.out.size
  have lr0 := HBR.out.lt
  have hon3 := ((Only.refl (w.heap.size + 1 + 1) (w.heap.size + 1 + 1 + 1) w1).setCell (p := ⟨w.heap.size + 1 + 1, 0, none⟩) (.inl ⟨Nat.le_refl _, Nat.lt_succ_self _⟩) (.int .i64 R.1.1)).setCell (p := ⟨w.heap.size + 1 + 1, 1, none⟩) (.inl ⟨Nat.le_refl _, Nat.lt_succ_self _⟩) (.slice A9 n9 c9)
  have HO5 := Lib.hid ((hss.only hon3 (.inr lr0)).mono hsz hon3.size)
  have HB5 := Lib.hid (hb2.trans (hon3.below (show w.heap.size ≤ w.heap.size + 1 + 1 by omega) hb2.size))
  clear hss hb1 hb2 hon3 hsz lr0
  go_wp2_with fail
  refine bodyPost_ret (v := .tuple #[.agg #[.int .i64 R.1.1, .slice A9 n9 c9], .bool R.2]) (by simp [results, Tryz.results34, go_sem, r0, r1]) rfl ⟨_, rfl, ?_, HB5.out⟩
  exact ⟨_, rfl, HO5.out⟩
end Go.Proofs.YtpbfdmfkmbdpkaaGreat

/- The list of shortest witnesses, plainly. -/
namespace Go.Proofs.YtpbfdmfkmbdpkaaGreat
set_option linter.unusedVariables false
set_option linter.unusedSimpArgs false
open Go.ChangeShapes Go.WideShapes Go.ChangeAt Go.RowKit
def cntN (g : Gr) (a : Au) (x y : Int) : Nat := if shortLen g a x y < 0 then 0 else cwI g a x y (shortLen g a x y).toNat
theorem nthSh_nat (g : Gr) (a : Au) (x y : Int) (n : Nat) : nthSh g a x y (n : Int) = decide (n < cntN g a x y) := by
  rw [nthSh, cntN]
  by_cases h : shortLen g a x y < 0
  · rw [if_pos h, decide_eq_false (by omega), decide_eq_false (by omega)]; rfl
  · rw [if_neg h, decide_eq_true (by omega), Bool.true_and]
    by_cases h2 : n < cwI g a x y (shortLen g a x y).toNat
    · rw [decide_eq_true h2, wi_iff]; omega
    · rw [decide_eq_false h2]
      cases hw : wi (n : Int) 0 ((cwI g a x y (shortLen g a x y).toNat : Nat) - 1) with
      | false => rfl
      | true => rw [wi_iff] at hw; omega
theorem nthShort_snd (g : Gr) (a : Au) (x y n : Int) : (nthShort g a x y n).2 = nthSh g a x y n := by
  unfold nthShort
  cases nthSh g a x y n <;> rfl
def listTo (g : Gr) (a : Au) (x y : Int) (n : Nat) : List Wk := (List.range n).map fun (i : Nat) => (nthShort g a x y (i : Int)).1
theorem listTo_succ (g : Gr) (a : Au) (x y : Int) (n : Nat) : listTo g a x y (n + 1) = listTo g a x y n ++ [(nthShort g a x y (n : Int)).1] := by simp [listTo, List.range_succ]
theorem listTo_len (g : Gr) (a : Au) (x y : Int) (n : Nat) : (listTo g a x y n).length = n := by simp [listTo]
def listN (g : Gr) (a : Au) (x y m : Int) : Nat := if wi m 1 50 = true then min m.toNat (cntN g a x y) else 0
def listSh (g : Gr) (a : Au) (x y m : Int) : List Wk := listTo g a x y (listN g a x y m)
theorem amt_listTo (g : Gr) (a : Au) (x y : Int) : ∀ n, amtW (listTo g a x y n) ≤ n * 121
  | 0 => by simp [listTo, amtW]
  | n + 1 => by
    rw [listTo_succ, amtW_app]
    have h1 := amt_listTo g a x y n
    have h2 := nthShort_len g a x y (n : Int)
    simp only [amtW]
    omega
theorem listN_le (g : Gr) (a : Au) (x y m : Int) : listN g a x y m ≤ 50 := by
  unfold listN
  split
  · rename_i h
    rw [wi_iff] at h
    omega
  · omega
theorem amt_listSh (g : Gr) (a : Au) (x y m : Int) : amtW (listSh g a x y m) ≤ 10000 := by
  have h1 := amt_listTo g a x y (listN g a x y m)
  have h2 := listN_le g a x y m
  unfold listSh
  omega
theorem cWv_one (n : Int) (A : Option Addr) (k c : Nat) : ∀ u ∈ cWv (n, .slice A k c), u.oneCell' = true := by
  intro u hu
  simp only [cWv, List.mem_cons, List.not_mem_nil, or_false] at hu
  rcases hu with rfl | rfl <;> rfl
theorem elWk : ElemOk Tryz.prog 32 59 (.agg #[.int .i64 0, .slice none 0 0]) 2 32 := ⟨Tryz.underlying32, by kernel_rfl, rfl, by omega⟩
end Go.Proofs.YtpbfdmfkmbdpkaaGreat

