/- Parts of the proof, joined into one text: RnkM, StepI, NodesI, AlongI, EqSt. -/
import Derived.Test.YtlhpcknpjdeebaaPartBEHCIADD
import Derived.Test.YtlhpcknpjdeebaaPartHCBNMMEI
import Derived.Test.YtlhpcknpjdeebaaPartLAIGJDJG
import Derived.Test.YtlhpcknpjdeebaaPartHLLMONOC
import Derived.Test.YtlhpcknpjdeebaaPartLOMEEABO
import Derived.Test.YtlhpcknpjdeebaaPartJMJACPBF
import Derived.Test.YtlhpcknpjdeebaaPartFIPIGBAP
/- The rank of a walk, plainly: what is passed over at each step of a witness, by the arcs and by the layers' rows. -/
namespace Go.Proofs.Ytlhpcknpjdeebaa
set_option linter.unusedVariables false
set_option linter.unusedSimpArgs false
open Go.ChangeShapes Go.WideShapes Go.ChangeAt Go.RowKit

/-- add up what is passed over, at most a million -/
def addK {α : Type} (k : α → Nat) (r : Nat) (p : α) : Nat := min 1000000 (r + k p)
def passK {α : Type} (k : α → Nat) (l : List α) (r : Nat) : Nat := l.foldl (addK k) r
theorem passK_le {α : Type} (k : α → Nat) : ∀ (l : List α) (r : Nat), r ≤ 1000000 → passK k l r ≤ 1000000
  | [], _, h => h
  | p :: l, _, _ => passK_le k l _ (Nat.min_le_left _ _)
theorem passK_succ {α : Type} {k : α → Nat} {l : List α} {i r : Nat} {p : α} (h : l[i]? = some p) : passK k (l.take (i + 1)) r = min 1000000 (passK k (l.take i) r + k p) := foldl_take h r
/-- what is passed over ahead of step st -/
def overK (k : Arc → Nat) (l : List Arc) (st : St) (r : Nat) : Nat := passK k (l.take (l.findIdx (fun p => p.1 == st))) r
theorem overK_le (k : Arc → Nat) (l : List Arc) (st : St) {r : Nat} (h : r ≤ 1000000) : overK k l st r ≤ 1000000 := passK_le _ _ _ h
theorem overK_here {k : Arc → Nat} {l : List Arc} {st : St} {r i : Nat} {p : Arc} (h : l[i]? = some p) (hp : p.1 = st) (hno : ∀ j q, j < i → l[j]? = some q → q.1 ≠ st) : overK k l st r = passK k (l.take i) r := by
  have hi := (List.getElem?_eq_some_iff.1 h).1
  have : l.findIdx (fun p => p.1 == st) = i := by
    rw [List.findIdx_eq hi]
    refine ⟨?_, fun j hj => ?_⟩
    · rw [(List.getElem?_eq_some_iff.1 h).2, hp]; simp
    · have := hno j l[j] hj (List.getElem?_eq_getElem (by omega))
      simpa using this
  rw [overK, this]
theorem overK_cons_no {k : Arc → Nat} {l : List Arc} {st : St} {r : Nat} {p : Arc} (hp : p.1 ≠ st) : overK k (p :: l) st r = overK k l st (addK k r p) := by
  have : (p :: l).findIdx (fun p => p.1 == st) = l.findIdx (fun p => p.1 == st) + 1 := by
    rw [List.findIdx_cons, show (p.1 == st) = false by simpa using hp]; rfl
  rw [overK, this, List.take_succ_cons]; rfl
theorem overK_cons_yes {k : Arc → Nat} {l : List Arc} {st : St} {r : Nat} {p : Arc} (hp : p.1 = st) : overK k (p :: l) st r = r := by
  have : (p :: l).findIdx (fun p => p.1 == st) = 0 := by
    rw [List.findIdx_cons, show (p.1 == st) = true by simpa using hp]; rfl
  rw [overK, this]; rfl
theorem RowR.over {g : Gr} {a : Au} {y : Int} {f x s : Nat} {N : List Key} {C : Nat → Nat} (hC : ∀ i k, N[i]? = some k → C i = cw g a y f k.1 k.2) {st : St} {l : List Arc} {T : List (St × Nat)} (h : RowR g a x s N l T)
    (hne : ∀ p ∈ l, p.1 = st → aft a s (valAt g x) p.2.1.toNat ≠ 0) (hex : ∃ p ∈ l, p.1 = st) : ∀ r, r ≤ 1000000 →
    ∃ j i p, T[j]? = some (st, i) ∧ (∀ j' q, j' < j → T[j']? = some q → q.1 ≠ st) ∧ passK (fun e : St × Nat => C e.2) (T.take j) r = overK (cwAt g a y f x s) l st r ∧ p ∈ l ∧ p.1 = st ∧ N[i]? = some (p.2.2.toNat, aft a s (valAt g x) p.2.1.toNat) := by
  induction h with
  | nil => obtain ⟨p, hp, _⟩ := hex; cases hp
  | @skip p0 l0 T0 h1 _ ih =>
    intro r hr
    have hp0 : p0.1 ≠ st := fun e => hne p0 (List.mem_cons_self ..) e h1
    obtain ⟨j, i, p, e1, e2, e3, e4, e5, e6⟩ := ih (fun p hp => hne p (List.mem_cons_of_mem _ hp)) (by
      obtain ⟨p, hp, hps⟩ := hex
      rcases List.mem_cons.1 hp with rfl | hp
      · exact absurd hps hp0
      · exact ⟨p, hp, hps⟩) r hr
    refine ⟨j, i, p, e1, e2, ?_, List.mem_cons_of_mem _ e4, e5, e6⟩
    rw [e3, overK_cons_no hp0, addK, cwAt, h1, cw_none, Nat.add_zero, Nat.min_eq_right hr]
  | @take p0 l0 T0 i0 h1 h2 _ ih =>
    intro r hr
    by_cases hp0 : p0.1 = st
    · refine ⟨0, i0, p0, by rw [← hp0]; rfl, fun j' q hj => by omega, ?_, List.mem_cons_self .., hp0, h2⟩
      rw [overK_cons_yes hp0]; rfl
    · obtain ⟨j, i, p, e1, e2, e3, e4, e5, e6⟩ := ih (fun p hp => hne p (List.mem_cons_of_mem _ hp)) (by
        obtain ⟨p, hp, hps⟩ := hex
        rcases List.mem_cons.1 hp with rfl | hp
        · exact absurd hps hp0
        · exact ⟨p, hp, hps⟩) (addK (cwAt g a y f x s) r p0) (Nat.min_le_left _ _)
      refine ⟨j + 1, i, p, by simpa using e1, fun j' q hj hq => ?_, ?_, List.mem_cons_of_mem _ e4, e5, e6⟩
      · cases j' with
        | zero => simp only [List.getElem?_cons_zero, Option.some.injEq] at hq; rw [← hq]; exact hp0
        | succ j' => exact e2 j' q (by omega) (by simpa using hq)
      · rw [overK_cons_no hp0, ← e3, List.take_succ_cons]
        show passK _ _ (addK (fun e : St × Nat => C e.2) r (p0.1, i0)) = _
        rw [addK, addK, hC _ _ h2]; rfl

/-! ### A witness' steps among the arcs -/
theorem arc_of_edge {g : Gr} {e : Ed} (he : e ∈ g.edges) (b : Bool) : ∃ p ∈ arcsOf g (arcTo (!b) e), p.1 = (e.1, b) := by
  cases b with
  | false => exact ⟨((e.1, false), 2 * e.2.2.2, e.2.2.1), List.mem_flatMap.2 ⟨e, he, mem_arcE.2 (.inl ⟨rfl, rfl⟩)⟩, rfl⟩
  | true => exact ⟨((e.1, true), 2 * e.2.2.2 + 1, e.2.1), List.mem_flatMap.2 ⟨e, he, mem_arcE.2 (.inr ⟨rfl, rfl⟩)⟩, rfl⟩
theorem step_arc {g : Gr} {k : Wk} (h : walkOk g k = true) {i : Nat} (hi : i < k.2.length) : ∃ s, k.2[i]? = some s ∧ (∃ p ∈ arcsOf g (nodeAt g k i : Int), p.1 = s) ∧ ∀ p ∈ arcsOf g (nodeAt g k i : Int), p.1 = s → p.2.1.toNat = letAt g k i ∧ p.2.2 = (nodeAt g k (i + 1) : Int) := by
  obtain ⟨s, e, hs, he, h1, h2, h3, h4⟩ := walk_step h hi
  obtain ⟨s', e', hs', he', hf, -⟩ := (walk_parts h (Nat.le_of_lt hi)).2 hi
  rw [hs] at hs'
  injection hs' with hs'
  subst hs'
  rw [he] at he'
  injection he' with he'
  subst he'
  obtain ⟨hg, hm, hid⟩ := stepEd_ok he
  have hn := (nodeAt_lt h (Nat.le_of_lt hi)).1
  rw [nodeAt_at (Nat.le_of_lt hi)] at hn
  injection hn with hn
  refine ⟨s, hs, ?_, fun p hp hps => ?_⟩
  · obtain ⟨p, hp, hps⟩ := arc_of_edge hm s.2
    refine ⟨p, ?_, by rw [hps, hid]⟩
    rw [← hn, ← hf, stepFrom_of he]; exact hp
  · obtain ⟨e2, g1, g2, g3⟩ := arc_stepEd (grOk_iff.2 hg) hp
    rw [hps, he] at g1
    injection g1 with g1
    subst g1
    rw [hps] at g2 g3
    exact ⟨by rw [← g2, h2, Int.toNat_natCast], by rw [← g3, h1]⟩
theorem setAt_none {g : Gr} {a : Au} {k : Wk} {i : Nat} (h : setAt g a k i = 0) : ∀ j, i ≤ j → setAt g a k j = 0 := by
  intro j hj
  obtain ⟨d, rfl⟩ := Nat.exists_eq_add_of_le hj
  induction d with
  | zero => exact h
  | succ d ih => rw [← Nat.add_assoc, setAt, ih (by omega), aft_none]
theorem isWit_parts {g : Gr} {a : Au} {x y : Int} {k : Wk} (h : isWit g a x y k = true) : k.1 = x ∧ walkOk g k = true ∧ auOk a = true ∧ ∀ i, i ≤ k.2.length → setAt g a k i ≠ 0 := by
  simp only [isWit, matchB, Bool.and_eq_true, beq_iff_eq] at h
  obtain ⟨⟨h1, -⟩, ⟨h2, h3⟩, h4⟩ := h
  refine ⟨h1, h2, h3, fun i hi hz => ?_⟩
  rw [setAt_none hz _ hi, acc_none] at h4
  cases h4
theorem wit_arc {g : Gr} {a : Au} {x y : Int} {k : Wk} (h : isWit g a x y k = true) {i : Nat} (hi : i < k.2.length) : ∃ s, k.2[i]? = some s ∧ (∃ p ∈ arcsOf g (nodeAt g k i : Int), p.1 = s) ∧ ∀ p ∈ arcsOf g (nodeAt g k i : Int), p.1 = s → p.2.2 = (nodeAt g k (i + 1) : Int) ∧ aft a (setAt g a k i) (valAt g (nodeAt g k i)) p.2.1.toNat = setAt g a k (i + 1) ∧ setAt g a k (i + 1) ≠ 0 := by
  obtain ⟨h1, h2, h3, h4⟩ := isWit_parts h
  obtain ⟨s, hs, he, hp⟩ := step_arc h2 hi
  exact ⟨s, hs, he, fun p hpm hps => ⟨(hp p hpm hps).2, by rw [(hp p hpm hps).1, setAt], h4 _ hi⟩⟩

/-! ### The rank -/
def rankTo (g : Gr) (a : Au) (y : Int) (k : Wk) (n : Nat) : Nat → Nat
  | 0 => 0
  | d + 1 => overK (cwAt g a y (n - (d + 1)) (nodeAt g k d) (setAt g a k d)) (arcsOf g (nodeAt g k d : Int)) (k.2.getD d (0, false)) (rankTo g a y k n d)
theorem rankTo_le (g : Gr) (a : Au) (y : Int) (k : Wk) (n : Nat) : ∀ d, rankTo g a y k n d ≤ 1000000
  | 0 => by rw [rankTo]; omega
  | d + 1 => overK_le _ _ _ (rankTo_le g a y k n d)
def rankSh (g : Gr) (a : Au) (x y : Int) (k : Wk) : Int :=
  if ((decide (0 ≤ shortLen g a x y) && decide ((k.2.length : Int) = shortLen g a x y)) && isWit g a x y k) = true then (rankTo g a y k k.2.length k.2.length : Nat) else -1
end Go.Proofs.Ytlhpcknpjdeebaa

/- The program's steps of a graph: where they lead from and to, and whether they are allowed. -/
namespace Go.Proofs.Ytlhpcknpjdeebaa
set_option linter.unusedVariables false
set_option linter.unusedSimpArgs false
open Go.ChangeShapes Go.WideShapes Go.ChangeAt Go.RowKit
attribute [local go_sem] ext_cell ext_frozen ext_lt ext_lt1 ext_lt2 ext_lt3 ltn2 ltn3 ltn13 lts1 lts2 lts3

set_option maxHeartbeats 1000000 in
theorem implStepEdge (v : Value) (g : Gr) (s : St) (w : World) (hv : GrV 0 w.heap.size w v g) :
    Calls Try.prog 119 #[v, .agg #[.int .i64 s.1, .bool s.2]] w fun en w' => ∃ e : Ed, en = .returned (.tuple #[.agg #[.int .i64 e.1, .int .i64 e.2.1, .int .i64 e.2.2.1, .int .i64 e.2.2.2], .bool (stepEd g s.1).isSome]) ∧ (∀ e', stepEd g s.1 = some e' → e' = e) ∧ Below w.heap.size w w' := by
  have hv0 := hv
  obtain ⟨vs, es, rfl, hvs, ⟨A2, c2, rfl, hl2, hm2, hx2⟩⟩ := hv
  obtain ⟨A1, n1, c1, rfl⟩ := hvs.shape
  obtain ⟨id, inv⟩ := s
  unfold maxLen at hm2
  have hb0 : Below w.heap.size w (((w.alloc (.cells #[.slice A1 n1 c1, .slice A2 g.edges.length c2] 39)).alloc (.cells #[.int .i64 id, .bool inv] 96)).alloc (.cells #[.int .i64 0, .int .i64 0, .int .i64 0, .int .i64 0] 114)) := (((Below.refl _ _).alloc (Nat.le_refl _) _).alloc (by simp) _).alloc (by simp <;> omega) _
  have hspec := edgeIdx_spec g id
  simp only
  go_enter Try.func119, Try.ntmps119
  have HS := Lib.hid hspec
  clear hspec
  go_wp2_with fail
  refine (implEdgeIndex _ g id _ (hv0.keep hb0)).mono ?_
  rintro e w1 ⟨rfl, hb1⟩
  have b0 := (((Blk.new w _ _ w.heap.size rfl).alloc _).alloc _).keep hb1
  have b2 := (Blk.new ((w.alloc _).alloc _) _ _ (w.heap.size + 1 + 1) (by simp)).keep hb1
  have hb2 := below_trans hb0 hb1
  clear hb0 hb1
  rcases HS.out with ⟨hi, hno⟩ | ⟨i, e, hi, hx, he, hno⟩
  · have hnone := stepEd_none hno
    have HN := Lib.hid hnone
    rw [hi]
    have z0 : w1.cell? ⟨w.heap.size + 1 + 1, 0, none⟩ = some _ := b2.cell 0
    have z1 : w1.cell? ⟨w.heap.size + 1 + 1, 1, none⟩ = some _ := b2.cell 1
    have z2 : w1.cell? ⟨w.heap.size + 1 + 1, 2, none⟩ = some _ := b2.cell 2
    have z3 : w1.cell? ⟨w.heap.size + 1 + 1, 3, none⟩ = some _ := b2.cell 3
    have f0 := b2.frozen 0
    have f1 := b2.frozen 1
    have f2 := b2.frozen 2
    have f3 := b2.frozen 3
    clear hnone hno hi HS b0
    go_wp2_with fail
    refine bodyPost_ret (v := .tuple #[.agg #[.int .i64 0, .int .i64 0, .int .i64 0, .int .i64 0], .bool false]) (by simp [results, Try.results119, go_sem, z0, z1, z2, z3]) rfl ⟨(0, 0, 0, 0), by rw [HN.out]; rfl, (by rw [HN.out]; intro e' he'; cases he'), (((hb2.setCell (p := ⟨w.heap.size + 1 + 1, 0, none⟩) (by simp <;> omega) _).setCell (p := ⟨w.heap.size + 1 + 1, 1, none⟩) (by simp <;> omega) _).setCell (p := ⟨w.heap.size + 1 + 1, 2, none⟩) (by simp <;> omega) _).setCell (p := ⟨w.heap.size + 1 + 1, 3, none⟩) (by simp <;> omega) _⟩
  · rw [hi]
    have x0 : w1.cell? ⟨w.heap.size, 0, none⟩ = some _ := b0.cell 0
    have x1 : w1.cell? ⟨w.heap.size, 1, none⟩ = some _ := b0.cell 1
    have hil : i < g.edges.length := (List.getElem?_eq_some_iff.1 hx).1
    cases hg : grOk g with
    | false =>
      have hnone := stepEd_bad id hg
      have HN := Lib.hid hnone
      clear hnone hno HS hx
      go_wp2_with fail
      refine (implValidGraph _ g _ (hv0.keep hb2)).mono ?_
      rintro en w2 ⟨rfl, hb3⟩
      rw [hg]
      have b2 := b2.keep hb3
      have hb2 := below_trans hb2 hb3
      clear hb3 b0 x0 x1
      have z0 : w2.cell? ⟨w.heap.size + 1 + 1, 0, none⟩ = some _ := b2.cell 0
      have z1 : w2.cell? ⟨w.heap.size + 1 + 1, 1, none⟩ = some _ := b2.cell 1
      have z2 : w2.cell? ⟨w.heap.size + 1 + 1, 2, none⟩ = some _ := b2.cell 2
      have z3 : w2.cell? ⟨w.heap.size + 1 + 1, 3, none⟩ = some _ := b2.cell 3
      have f0 := b2.frozen 0
      have f1 := b2.frozen 1
      have f2 := b2.frozen 2
      have f3 := b2.frozen 3
      go_wp2_with fail
      refine bodyPost_ret (v := .tuple #[.agg #[.int .i64 0, .int .i64 0, .int .i64 0, .int .i64 0], .bool false]) (by simp [results, Try.results119, go_sem, z0, z1, z2, z3]) rfl ⟨(0, 0, 0, 0), by rw [HN.out]; rfl, (by rw [HN.out]; intro e' he'; cases he'), (((hb2.setCell (p := ⟨w.heap.size + 1 + 1, 0, none⟩) (by simp <;> omega) _).setCell (p := ⟨w.heap.size + 1 + 1, 1, none⟩) (by simp <;> omega) _).setCell (p := ⟨w.heap.size + 1 + 1, 2, none⟩) (by simp <;> omega) _).setCell (p := ⟨w.heap.size + 1 + 1, 3, none⟩) (by simp <;> omega) _⟩
    | true =>
      have hsome := stepEd_some hg hx he hno
      have HN := Lib.hid hsome
      obtain ⟨b9, o9, rfl, -, hb9, hc9⟩ := hx2 i e hx
      have d0 := hc9 0 _ rfl
      have d1 := hc9 1 _ rfl
      have d2 := hc9 2 _ rfl
      have d3 := hc9 3 _ rfl
      simp only [Nat.add_zero] at d0
      have HI := Lib.hid hi
      clear hsome hno HS hx hc9 hx2 he hi
      go_wp2_with fail
      refine (implValidGraph _ g _ (hv0.keep hb2)).mono ?_
      rintro en w2 ⟨rfl, hb3⟩
      rw [hg]
      have b2 := b2.keep hb3
      have b0 := b0.keep hb3
      have hb2 := below_trans hb2 hb3
      have d0 := (hb2.cell (p := ⟨b9, o9 + i * 4, none⟩) hb9).trans d0
      have d1 := (hb2.cell (p := ⟨b9, o9 + i * 4 + 1, none⟩) hb9).trans d1
      have d2 := (hb2.cell (p := ⟨b9, o9 + i * 4 + 2, none⟩) hb9).trans d2
      have d3 := (hb2.cell (p := ⟨b9, o9 + i * 4 + 3, none⟩) hb9).trans d3
      clear hb3 x0 x1
      have x1 : w2.cell? ⟨w.heap.size, 1, none⟩ = some _ := b0.cell 1
      have z0 : w2.cell? ⟨w.heap.size + 1 + 1, 0, none⟩ = some _ := b2.cell 0
      have z1 : w2.cell? ⟨w.heap.size + 1 + 1, 1, none⟩ = some _ := b2.cell 1
      have z2 : w2.cell? ⟨w.heap.size + 1 + 1, 2, none⟩ = some _ := b2.cell 2
      have z3 : w2.cell? ⟨w.heap.size + 1 + 1, 3, none⟩ = some _ := b2.cell 3
      have f0 := b2.frozen 0
      have f1 := b2.frozen 1
      have f2 := b2.frozen 2
      have f3 := b2.frozen 3
      go_wp2_with fail
      refine bodyPost_ret (v := .tuple #[.agg #[.int .i64 e.1, .int .i64 e.2.1, .int .i64 e.2.2.1, .int .i64 e.2.2.2], .bool true]) (by simp [results, Try.results119, go_sem, z0, z1, z2, z3]) rfl ⟨e, by rw [HN.out]; rfl, (by rw [HN.out]; intro e' he'; injection he' with he'; exact he'.symm), (((hb2.setCell (p := ⟨w.heap.size + 1 + 1, 0, none⟩) (by simp <;> omega) _).setCell (p := ⟨w.heap.size + 1 + 1, 1, none⟩) (by simp <;> omega) _).setCell (p := ⟨w.heap.size + 1 + 1, 2, none⟩) (by simp <;> omega) _).setCell (p := ⟨w.heap.size + 1 + 1, 3, none⟩) (by simp <;> omega) _⟩
set_option maxHeartbeats 1000000 in
theorem implStepFrom (v : Value) (g : Gr) (s : St) (w : World) (hv : GrV 0 w.heap.size w v g) :
    Calls Try.prog 114 #[v, .agg #[.int .i64 s.1, .bool s.2]] w fun en w' => en = .returned (.int .i64 (stepFrom g s)) ∧ Below w.heap.size w w' := by
  have hv0 := hv
  obtain ⟨A1, n1, c1, A2, n2, c2, rfl⟩ := hv.shape
  clear hv
  obtain ⟨id, inv⟩ := s
  have hb0 : Below w.heap.size w ((w.alloc (.cells #[.slice A1 n1 c1, .slice A2 n2 c2] 39)).alloc (.cells #[.int .i64 id, .bool inv] 96)) := ((Below.refl _ _).alloc (Nat.le_refl _) _).alloc (by simp) _
  have hc := fun W (hW : Below w.heap.size w W) => implStepEdge _ g (id, inv) W (hv0.keep hW)
  simp only at hc ⊢
  have HC := Lib.hid hc
  clear hc
  cases hs : stepEd g id with
  | none =>
    have hres : stepFrom g (id, inv) = -1 := by rw [stepFrom]; simp [hs]
    have HR := Lib.hid hres
    rw [hs] at HC
    clear hres hs
    go_enter Try.func114, Try.ntmps114
    go_wp2_with fail
    refine (HC.out _ hb0).mono ?_
    rintro en w1 ⟨e, rfl, -, hb1⟩
    have hb2 := below_trans hb0 hb1
    clear hb0 hb1
    go_wp2_with fail
    go_ret
    exact ⟨ret_int HR.out.symm, hb2.alloc hb2.size _⟩
  | some e =>
    rw [hs] at HC
    have hres : stepFrom g (id, inv) = if inv then e.2.2.1 else e.2.1 := by rw [stepFrom]; simp [hs]
    have HR := Lib.hid hres
    clear hres hs
    go_enter Try.func114, Try.ntmps114
    go_wp2_with fail
    refine (HC.out _ hb0).mono ?_
    rintro en w1 ⟨e1, rfl, he1, hb1⟩
    obtain rfl := he1 e rfl
    have b1 := (Blk.new (w.alloc _) _ _ (w.heap.size + 1) (by simp)).keep hb1
    have y1 : w1.cell? ⟨w.heap.size + 1, 1, none⟩ = some _ := b1.cell 1
    have hlt := b1.lt
    have hb2 := below_trans hb0 hb1
    clear hb0 hb1 he1 b1
    cases inv with
    | true =>
      go_wp2_with fail
      go_ret
      exact ⟨ret_int HR.out.symm, hb2.alloc hb2.size _⟩
    | false =>
      go_wp2_with fail
      go_ret
      exact ⟨ret_int HR.out.symm, hb2.alloc hb2.size _⟩

set_option maxHeartbeats 1000000 in
theorem implStepTo (v : Value) (g : Gr) (s : St) (w : World) (hv : GrV 0 w.heap.size w v g) :
    Calls Try.prog 115 #[v, .agg #[.int .i64 s.1, .bool s.2]] w fun en w' => en = .returned (.int .i64 (stepTo g s)) ∧ Below w.heap.size w w' := by
  have hv0 := hv
  obtain ⟨A1, n1, c1, A2, n2, c2, rfl⟩ := hv.shape
  clear hv
  obtain ⟨id, inv⟩ := s
  have hb0 : Below w.heap.size w ((w.alloc (.cells #[.slice A1 n1 c1, .slice A2 n2 c2] 39)).alloc (.cells #[.int .i64 id, .bool inv] 96)) := ((Below.refl _ _).alloc (Nat.le_refl _) _).alloc (by simp) _
  simp only
  go_enter Try.func115, Try.ntmps115
  go_wp2_with fail
  refine (implStepFrom _ g (id, !inv) _ (hv0.keep hb0)).mono ?_
  rintro en w1 ⟨rfl, hb1⟩
  go_wp2_with fail
  go_ret
  exact ⟨rfl, below_trans hb0 hb1⟩


theorem getD_eqS {xs : List Int} {i : Nat} {x : Int} (h : xs[i]? = some x) : xs.getD i 0 = x := by rw [List.getD_eq_getElem?_getD, h]; rfl

end Go.Proofs.Ytlhpcknpjdeebaa

/- The program's walks: their nodes, and when they are walks of a graph. -/
namespace Go.Proofs.Ytlhpcknpjdeebaa
set_option linter.unusedVariables false
set_option linter.unusedSimpArgs false
open Go.ChangeShapes Go.WideShapes Go.ChangeAt Go.RowKit
attribute [local go_sem] ext_cell ext_frozen ext_lt ext_lt1 ext_lt2 ext_lt3 ltn2 ltn3 ltn13 lts1 lts2 lts3

theorem row_shape {W : World} {base k n : Nat} {e : TypeId} {v : Value} {cs : List Value} (h : W.ownsRow base e k v n cs) (hn : n ≠ 0) : ∃ g c, v = .slice (some ⟨g, 0, none⟩) n c ∧ base ≤ g ∧ g < W.heap.size ∧ n ≤ c ∧ c ≤ maxLen := by
  have hlt := h.lt
  obtain ⟨hl, hs⟩ := h
  rcases hs with ⟨_, h0⟩ | ⟨g, cap, cur, rfl, hg, hh, hnc, hcm, r⟩
  · exact absurd h0 hn
  · exact ⟨g, cap, rfl, hg, (hlt g rfl).2, hnc, hcm⟩

set_option maxHeartbeats 4000000 in
theorem implNodes (v1 v2 : Value) (g : Gr) (k : Wk) (w : World) (hv1 : GrV 0 w.heap.size w v1 g) (hv2 : WkV 0 w.heap.size w v2 k) :
    Calls Try.prog 107 #[v1, v2] w fun en w' => ∃ v, en = .returned (.tuple #[v, .bool (walkOk g k)]) ∧ Own w.heap.size w'.heap.size w' 3 cI 1 v (nodesOut g k) ∧ Below w.heap.size w w' := by
  have hv0 := hv1
  obtain ⟨vs, es, rfl, ⟨A1, c1, rfl, hl1, hm1, -⟩, hes⟩ := hv1
  obtain ⟨A2, n2, c2, rfl⟩ := hes.shape
  obtain ⟨ss, rfl, ⟨A3, c3, rfl, hl3, hm3, hx3⟩⟩ := hv2
  unfold maxLen at hm1 hm3
  obtain ⟨st, steps⟩ := k
  simp only at *
  have hb0 : Below w.heap.size w ((w.alloc (.cells #[.slice A1 g.vals.length c1, .slice A2 n2 c2] 39)).alloc (.cells #[.int .i64 st, .slice A3 steps.length c3] 34)) := ((Below.refl _ _).alloc (Nat.le_refl _) _).alloc (by simp) _
  have HX3 := Lib.hid hx3
  have hwo : walkOk g (st, steps) = (grOk g && wi st 0 ((g.vals.length : Int) - 1) && decide (steps.length ≤ 60) && (List.range steps.length).all (linkAt g (st, steps))) := rfl
  have HW := Lib.hid hwo
  clear hx3 hes hwo
  have hvg := implValidGraph _ g _ (hv0.keep hb0)
  have HV := Lib.hid hvg
  clear hvg
  go_enter Try.func107, Try.ntmps107
  go_wp2_with fail
  refine HV.out.mono ?_
  rintro e w1 ⟨rfl, hb1⟩
  have b0 := ((Blk.new w _ _ w.heap.size rfl).alloc _).keep hb1
  have b1 := (Blk.new (w.alloc _) _ _ (w.heap.size + 1) (by simp)).keep hb1
  have hb2 := below_trans hb0 hb1
  clear hb0 hb1 HV
  have x0 : w1.cell? ⟨w.heap.size, 0, none⟩ = some _ := b0.cell 0
  have x1 : w1.cell? ⟨w.heap.size, 1, none⟩ = some _ := b0.cell 1
  have y0 : w1.cell? ⟨w.heap.size + 1, 0, none⟩ = some _ := b1.cell 0
  have y1 : w1.cell? ⟨w.heap.size + 1, 1, none⟩ = some _ := b1.cell 1
  have hlt1 := b1.lt
  have HWI := Lib.hid within_any
  cases hg : grOk g with
  | false =>
    have hfin : walkOk g (st, steps) = false := by rw [HW.out, hg]; rfl
    have HF := Lib.hid hfin
    clear HW hfin hg
    go_wp2_with fail
    go_ret2
    exact ⟨_, by rw [HF.out]; rfl, by rw [nodesOut_no HF.out]; exact Own.nil _ _ _ _ _ _, hb2⟩
  | true =>
    have q1 : IntKind.i64.wrap ((g.vals.length : Int) - 1) = (g.vals.length : Int) - 1 := IntWalk.i64_in _ (by omega)
    cases hs : wi st 0 ((g.vals.length : Int) - 1) with
    | false =>
      have hfin : walkOk g (st, steps) = false := by rw [HW.out, hg, hs]; rfl
      have HF := Lib.hid hfin
      clear HW hfin hg
      go_wp2_with (go_at_call 44; refine (HWI.out _ _ _ _).mono ?_; rintro e w' ⟨rfl, rfl⟩)
      go_ret2
      exact ⟨_, by rw [HF.out]; rfl, by rw [nodesOut_no HF.out]; exact Own.nil _ _ _ _ _ _, hb2⟩
    | true =>
      by_cases hlen : steps.length ≤ 60
      · have hlen' : decide ((steps.length : Int) > 60) = false := by simp; omega
        have hfin : walkOk g (st, steps) = (List.range steps.length).all (linkAt g (st, steps)) := by rw [HW.out, hg, hs]; simp [hlen]
        have HF := Lib.hid hfin
        clear HW hfin hg
        go_wp2_with (go_at_call 44; refine (HWI.out _ _ _ _).mono ?_; rintro e w1 ⟨rfl, rfl⟩)
        have HS := Lib.hid hs
        clear hs
        go_loopw [6, 34] (fun out ii wr => ∃ i : Nat, i ≤ steps.length ∧ ii = .int .i64 i ∧ (List.range i).all (linkAt g (st, steps)) = true ∧ wr.ownsRow w1.heap.size 3 1 out ((nodesL g (st, steps)).take (i + 1)).length (((nodesL g (st, steps)).take (i + 1)).flatMap cI) ∧ Below w1.heap.size w1 wr) (fun _ ii _ => steps.length - (intOf ii).toNat)
        case atStart => exact ⟨0, Nat.zero_le _, rfl, rfl, World.ownsRow_lit w1 #[.int .i64 st] 1 (Nat.le_refl _) (by decide) rfl, (Below.refl _ _).alloc (Nat.le_refl _) _⟩
        case round =>
          obtain ⟨i, hi, rfl, hal, hrow, hbel⟩ := hrel
          have HA := Lib.hid hal
          have hbw := below_trans hb2 hbel
          have hml : ((nodesL g (st, steps)).take (i + 1)).length = i + 1 := by rw [List.length_take, nodesL_len]; simp only; omega
          clear hal
          by_cases hlt : i < steps.length
          · have hxs : steps[i]? = some steps[i] := List.getElem?_eq_getElem hlt
            generalize steps[i] = s at hxs
            obtain ⟨sid, sinv⟩ := s
            obtain ⟨b, o, rfl, -, hb, hc⟩ := HX3.out i _ hxs
            have d0 := hc 0 _ rfl
            have d1 := hc 1 _ rfl
            simp only [Nat.add_zero] at d0
            have d0 := (hbw.cell (p := ⟨_, _, none⟩) hb).trans d0
            have d1 := (hbw.cell (p := ⟨_, _, none⟩) hb).trans d1
            obtain ⟨x, hxl⟩ : ∃ x, (nodesL g (st, steps))[i]? = some x := ⟨_, List.getElem?_eq_getElem (by rw [nodesL_len]; simp only; omega)⟩
            obtain ⟨gb, cp, hv, hg1, hg2, hnc, hcm⟩ := row_shape hrow (by omega)
            obtain ⟨m, hm⟩ : ∃ m, m = i + 1 := ⟨_, rfl⟩
            rw [hml, ← hm] at hv
            subst hv
            have hrm := hrow
            rw [show ((nodesL g (st, steps)).take (i + 1)).length = m by rw [hml, hm]] at hrm
            have c0 := (World.ownsRow.cellAt hrm i (by omega)).trans (by have := flat_at cI_len (xs := (nodesL g (st, steps)).take (i + 1)) (i := i) (x := x) (by rw [List.getElem?_take]; simp [hxl]) 0 _ rfl; simpa using this)
            clear hrm
            have hf := fun W (hW : Below w.heap.size w W) => implStepFrom _ g (sid, sinv) W (hv0.keep hW)
            have ht := fun W (hW : Below w.heap.size w W) => implStepTo _ g (sid, sinv) W (hv0.keep hW)
            have hlk := linkAt_eq (k := (st, steps)) hxs hxl
            have HLK := Lib.hid hlk
            have HFF := Lib.hid hf
            have HTT := Lib.hid ht
            have HXS := Lib.hid hxs
            have HROW := Lib.hid hrow
            have hbx := fun (X : Obj) u => below_trans (hbw.alloc hbw.size X) (ext_below (wr.alloc X) u)
            have x0 := (hbel.cell (p := ⟨_, _, none⟩) (by simp only; omega)).trans x0
            have x1 := (hbel.cell (p := ⟨_, _, none⟩) (by simp only; omega)).trans x1
            have hs1 := hbel.size
            have q2 : IntKind.i64.wrap ((m : Int) - 1) = (i : Int) := by rw [IntWalk.i64_in _ (by omega)]; omega
            have q3 : (i : Int) < (m : Int) := by omega
            have HM := Lib.hid hm
            clear hlk hf ht hxs hrow hml hm hxl hc q1 hnc hcm
            generalize stepFrom g (sid, sinv) = y at HLK HFF
            have k0 : w.heap.size < wr.heap.size := by omega
            by_cases hyx : y = x
            · have hq : (y != x) = false := by simp [hyx]
              have HYX := Lib.hid hyx
              clear hyx
              go_wp2_with fail
              refine wp_region_ext_lit (by kernel_rfl) (by kernel_rfl) ?_
              repeat (go_big_quiet_step ((go_at_call 114; exact Calls.ext_of (HFF.out _ (hbx _ _)))))
              refine wpQuiet_nil ?_
              intro _ hw'
              obtain ⟨u2, hw''⟩ := hw'
              subst hw''
              go_wp2_with fail
              refine (HTT.out _ (hbx _ _)).mono ?_
              rintro e w3 ⟨rfl, hb3⟩
              have hw3 := below_trans (Below.refl wr.heap.size wr |>.alloc (Nat.le_refl _) _) (below_trans (ext_below _ u2) hb3)
              have hrow3 := ownsRow_below HROW.out hw3 (Nat.le_refl _)
              have hs3 := Nat.le_trans hs1 hw3.size
              have hbel3 := below_trans hbel hw3
              have htl : ((nodesL g (st, steps)).take (i + 1)).length ≤ 61 := by rw [List.length_take]; omega
              clear hb3 hbx
              go_wp2_with (at_builtin; (refine wpList_append1 cI elInt rfl _ _ rfl w1.heap.size (.slice (some ⟨gb, 0, none⟩) m cp) ((nodesL g (st, steps)).take (i + 1)) (stepTo g (sid, sinv)) _ 1 _ (by rfl) hrow3 (by rfl) rfl rfl rfl (cI_one _) (by omega) (by omega) hs3 ?_); rw [← nodesL_succ HXS.out]; intro v' w4 hrow' hb4 _ _)
              go_roundw
              case rel => exact ⟨i + 1, by omega, by go_num, range_all_succ HA.out (by rw [HLK.out, HYX.out]; simp), hrow', hbel3.trans hb4⟩
              case measure => simp [intOf]; omega
            · have hq : (y != x) = true := by simp [hyx]
              have HYX := Lib.hid hyx
              clear hyx
              go_wp2_with fail
              refine wp_region_ext_lit (by kernel_rfl) (by kernel_rfl) ?_
              repeat (go_big_quiet_step ((go_at_call 114; exact Calls.ext_of (HFF.out _ (hbx _ _)))))
              refine wpQuiet_nil ?_
              intro _ hw'
              obtain ⟨u2, hw''⟩ := hw'
              subst hw''
              have hfin : walkOk g (st, steps) = false := by rw [HF.out]; exact range_all_false hlt (by rw [HLK.out]; simpa using HYX.out)
              have HFI := Lib.hid hfin
              clear hfin
              go_wp2_with fail
              go_ret2
              exact ⟨_, by rw [HFI.out]; rfl, by rw [nodesOut_no HFI.out]; exact Own.nil _ _ _ _ _ _, hbx _ _⟩
          · obtain rfl : i = steps.length := by omega
            have hfin : walkOk g (st, steps) = true := by rw [HF.out, HA.out]
            have HFF := Lib.hid hfin
            have htk : (nodesL g (st, steps)).take (steps.length + 1) = nodesL g (st, steps) := List.take_of_length_le (by rw [nodesL_len]; simp)
            rw [htk] at hrow
            have HROW := Lib.hid hrow
            clear hfin HF HA htk hml hrow
            go_wp2_with fail
            go_ret2
            exact ⟨_, by rw [HFF.out]; rfl, by rw [nodesOut_yes HFF.out]; exact (Own.of_row HROW.out rfl rfl).mono hb2.size (Nat.le_refl _), hbw⟩
      · have hlen' : decide ((steps.length : Int) > 60) = true := by simp; omega
        have hfin : walkOk g (st, steps) = false := by rw [HW.out]; simp [hlen]
        have HF := Lib.hid hfin
        clear HW hfin hg
        go_wp2_with (go_at_call 44; refine (HWI.out _ _ _ _).mono ?_; rintro e w' ⟨rfl, rfl⟩)
        go_ret2
        exact ⟨_, by rw [HF.out]; rfl, by rw [nodesOut_no HF.out]; exact Own.nil _ _ _ _ _ _, hb2⟩
end Go.Proofs.Ytlhpcknpjdeebaa

/- The program's walks in the product: StepLetter, along, WalkEnd, MatchesWalk, IsWitness. -/
namespace Go.Proofs.Ytlhpcknpjdeebaa
set_option linter.unusedVariables false
set_option linter.unusedSimpArgs false
open Go.ChangeShapes Go.WideShapes Go.ChangeAt Go.RowKit
attribute [local go_sem] ext_cell ext_frozen ext_lt ext_lt1 ext_lt2 ext_lt3 ltn2 ltn3 ltn13 lts1 lts2 lts3

set_option maxHeartbeats 1000000 in
theorem implStepLetter (v : Value) (g : Gr) (s : St) (w : World) (hv : GrV 0 w.heap.size w v g) :
    Calls Try.prog 116 #[v, .agg #[.int .i64 s.1, .bool s.2]] w fun en w' => en = .returned (.int .i64 (stepLetter g s)) ∧ Below w.heap.size w w' := by
  have hv0 := hv
  obtain ⟨A1, n1, c1, A2, n2, c2, rfl⟩ := hv.shape
  clear hv
  obtain ⟨id, inv⟩ := s
  have hb0 : Below w.heap.size w ((w.alloc (.cells #[.slice A1 n1 c1, .slice A2 n2 c2] 39)).alloc (.cells #[.int .i64 id, .bool inv] 96)) := ((Below.refl _ _).alloc (Nat.le_refl _) _).alloc (by simp) _
  have hc := fun W (hW : Below w.heap.size w W) => implStepEdge _ g (id, inv) W (hv0.keep hW)
  simp only at hc ⊢
  have HC := Lib.hid hc
  clear hc
  cases hs : stepEd g id with
  | none =>
    have hres : stepLetter g (id, inv) = -1 := by rw [stepLetter]; simp [hs]
    have HR := Lib.hid hres
    rw [hs] at HC
    clear hres hs
    go_enter Try.func116, Try.ntmps116
    go_wp2_with fail
    refine (HC.out _ hb0).mono ?_
    rintro en w1 ⟨e, rfl, -, hb1⟩
    have hb2 := below_trans hb0 hb1
    clear hb0 hb1
    go_wp2_with fail
    go_ret
    exact ⟨ret_int HR.out.symm, hb2.alloc hb2.size _⟩
  | some e =>
    rw [hs] at HC
    have hres : stepLetter g (id, inv) = arcLetter inv e := stepLetter_of (s := (id, inv)) hs
    obtain ⟨hg, hm, -⟩ := stepEd_ok hs
    have hl := (hg.edges e hm).2.2.2
    have HR := Lib.hid hres
    clear hres hs hg hm
    go_enter Try.func116, Try.ntmps116
    go_wp2_with fail
    refine (HC.out _ hb0).mono ?_
    rintro en w1 ⟨e1, rfl, he1, hb1⟩
    obtain rfl := he1 e rfl
    have b1 := (Blk.new (w.alloc _) _ _ (w.heap.size + 1) (by simp)).keep hb1
    have y1 : w1.cell? ⟨w.heap.size + 1, 1, none⟩ = some _ := b1.cell 1
    have hlt := b1.lt
    have hb2 := below_trans hb0 hb1
    have hb3 := hb2.alloc hb2.size (.cells #[.int .i64 e.1, .int .i64 e.2.1, .int .i64 e.2.2.1, .int .i64 e.2.2.2] 114)
    clear hb0 hb1 he1 b1
    go_wp2_with fail
    refine (reads_any e inv _ hl.1 hl.2).mono ?_
    rintro en w2 ⟨rfl, hb4⟩
    go_wp2_with fail
    go_ret
    exact ⟨ret_int HR.out.symm, below_trans hb3 hb4⟩

theorem flatN_at {xs : List Nat} {t : Nat} {x : Nat} (h : xs[t]? = some x) : (xs.flatMap cN)[t]? = some (.int .i64 (x : Int)) := by
  have := flat_at cN_len h 0 _ rfl
  simpa using this
set_option maxHeartbeats 8000000 in
set_option maxRecDepth 100000 in
theorem along_any (vg va vk : Value) (g : Gr) (a : Au) (k : Wk) (w : World) (hgv : GrV 0 w.heap.size w vg g) (hav : AuV 0 w.heap.size w va a) (hkv : WkV 0 w.heap.size w vk k) :
    Calls Try.prog 108 #[vg, va, vk] w fun e w' => ∃ v1 v2, e = .returned (.tuple #[v1, v2, .bool (walkOk g k && auOk a)]) ∧ Own w.heap.size w'.heap.size w' 3 cN 1 v1 (alongS g a k) ∧ Own w.heap.size w'.heap.size w' 3 cI 1 v2 (alongN g a k) ∧ Below w.heap.size w w' := by
  have hgv0 := hgv
  have hav0 := hav
  have hkv0 := hkv
  obtain ⟨A1, c1, A2, c2, rfl, hl1, hm1, hl2, hm2, hC1, -⟩ := hgv.form
  obtain ⟨A3, n3, c3, A4, n4, c4, rfl⟩ := hav.shape
  obtain ⟨A5, c5, rfl, hl5, hm5, hC5⟩ := hkv.form
  have hb0 : Below w.heap.size w (((w.alloc (.cells #[.slice A1 g.vals.length c1, .slice A2 g.edges.length c2] 39)).alloc (.cells #[.int .i64 a.start, .slice A3 n3 c3, .slice A4 n4 c4] 41)).alloc (.cells #[.int .i64 k.1, .slice A5 k.2.length c5] 34)) := (((Below.refl _ _).alloc (Nat.le_refl _) _).alloc (by simp) _).alloc (by simp; omega) _
  obtain ⟨RS, hRS⟩ : ∃ RS, RS = alongS g a k := ⟨_, rfl⟩
  obtain ⟨RN, hRN⟩ : ∃ RN, RN = alongN g a k := ⟨_, rfl⟩
  obtain ⟨ok, hok⟩ : ∃ ok, ok = (walkOk g k && auOk a) := ⟨_, rfl⟩
  rw [← hRS, ← hRN, ← hok]
  have HOK := Lib.hid hok
  have HRS := Lib.hid hRS
  have HRN := Lib.hid hRN
  have HGV := Lib.hid hgv0
  have HAV := Lib.hid hav0
  have HKV := Lib.hid hkv0
  have HC1 := Lib.hid hC1
  have HC5 := Lib.hid hC5
  clear hgv hav hkv hgv0 hav0 hkv0 hC1 hC5 hRS hRN hok
  go_enter Try.func108, Try.ntmps108
  go_wp2_with fail
  obtain ⟨W0, hW0⟩ : ∃ W0, W0 = (((w.alloc (.cells #[.slice A1 g.vals.length c1, .slice A2 g.edges.length c2] 39)).alloc (.cells #[.int .i64 a.start, .slice A3 n3 c3, .slice A4 n4 c4] 41)).alloc (.cells #[.int .i64 k.1, .slice A5 k.2.length c5] 34)) := ⟨_, rfl⟩
  rw [← hW0] at hb0 ⊢
  have bx : Blk W0 w.heap.size 39 #[.slice A1 g.vals.length c1, .slice A2 g.edges.length c2] := by rw [hW0]; exact ((Blk.new w _ _ w.heap.size rfl).alloc _).alloc _
  have by_ : Blk W0 (w.heap.size + 1) 41 #[.int .i64 a.start, .slice A3 n3 c3, .slice A4 n4 c4] := by rw [hW0]; exact (Blk.new (w.alloc _) _ _ (w.heap.size + 1) (by simp)).alloc _
  have bz : Blk W0 (w.heap.size + 1 + 1) 34 #[.int .i64 k.1, .slice A5 k.2.length c5] := by rw [hW0]; exact Blk.new ((w.alloc _).alloc _) _ _ (w.heap.size + 1 + 1) (by simp)
  have x0 : W0.cell? ⟨w.heap.size, 0, none⟩ = some (.slice A1 g.vals.length c1) := by exact bx.cell 0
  have x1 : W0.cell? ⟨w.heap.size, 1, none⟩ = some (.slice A2 g.edges.length c2) := by exact bx.cell 1
  have y0 : W0.cell? ⟨w.heap.size + 1, 0, none⟩ = some (.int .i64 a.start) := by exact by_.cell 0
  have y1 : W0.cell? ⟨w.heap.size + 1, 1, none⟩ = some (.slice A3 n3 c3) := by exact by_.cell 1
  have y2 : W0.cell? ⟨w.heap.size + 1, 2, none⟩ = some (.slice A4 n4 c4) := by exact by_.cell 2
  have z0 : W0.cell? ⟨w.heap.size + 1 + 1, 0, none⟩ = some (.int .i64 k.1) := by exact bz.cell 0
  have z1 : W0.cell? ⟨w.heap.size + 1 + 1, 1, none⟩ = some (.slice A5 k.2.length c5) := by exact bz.cell 1
  have hs0 : w.heap.size + 1 + 1 + 1 = W0.heap.size := by rw [hW0]; simp
  have l0 : w.heap.size + 1 + 1 < W0.heap.size := by omega
  clear hW0 hs0 bx by_ bz
  have hnod := implNodes _ _ g k W0 (HGV.out.keep hb0) (HKV.out.keep hb0)
  have HNOD := Lib.hid hnod
  clear hnod
  cases hw : walkOk g k with
  | false =>
    rw [hw] at HNOD
    have hfS : RS = [] := by rw [HRS.out, alongS, hw]; rfl
    have hfN : RN = [] := by rw [HRN.out, alongN, hw]; rfl
    have hfK : ok = false := by rw [HOK.out, hw]; rfl
    subst hfS hfN hfK
    refine HNOD.out.mono ?_
    rintro e w1 ⟨v1, rfl, ho1, hb1⟩
    obtain ⟨A6, c6, rfl, -, -, -⟩ := ho1.form cI_len
    clear hw HRS HRN HOK
    go_wp2_with fail
    go_ret3
    exact ⟨_, _, rfl, Own.nil _ _ _ _ _ _, Own.nil _ _ _ _ _ _, below_trans hb0 hb1⟩
  | true =>
    rw [hw] at HNOD
    cases ha : auOk a with
    | false =>
      have hfS : RS = [] := by rw [HRS.out, alongS, hw, ha]; rfl
      have hfN : RN = [] := by rw [HRN.out, alongN, hw, ha]; rfl
      have hfK : ok = false := by rw [HOK.out, hw, ha]; rfl
      subst hfS hfN hfK
      have HA := Lib.hid ha
      clear hw HRS HRN ha HOK
      refine HNOD.out.mono ?_
      rintro e w1 ⟨v1, rfl, ho1, hb1⟩
      obtain ⟨A6, c6, rfl, -, -, -⟩ := ho1.form cI_len
      have hb2 := below_trans hb0 hb1
      have y0 := kcell hb1 y0
      have y1 := kcell hb1 y1
      have y2 := kcell hb1 y2
      have l0 := Nat.lt_of_lt_of_le l0 hb1.size
      go_wp2_with fail
      refine (implValidAutomaton _ a _ (HAV.out.keep hb2)).mono ?_
      rw [HA.out]
      rintro e w2 ⟨rfl, hb3⟩
      go_wp2_with fail
      go_ret3
      exact ⟨_, _, rfl, Own.nil _ _ _ _ _ _, Own.nil _ _ _ _ _ _, below_trans hb2 hb3⟩
    | true =>
      have hfS : RS = setsL g a k (k.2.length + 1) := by rw [HRS.out, alongS, hw, ha]; rfl
      have hfN : RN = nodesL g k := by rw [HRN.out, alongN, hw, ha]; rfl
      have HFS := Lib.hid hfS
      have HFN := Lib.hid hfN
      have HW := Lib.hid hw
      have HA := Lib.hid ha
      have hfK : ok = true := by rw [HOK.out, hw, ha]; rfl
      subst hfK
      clear hw HRS HRN ha hfS hfN HOK
      refine HNOD.out.mono ?_
      rintro e w1 ⟨v1, rfl, ho1, hb1⟩
      rw [nodesOut_yes HW.out] at ho1
      obtain ⟨A6, c6, rfl, hl6, hm6, -⟩ := ho1.form cI_len
      have hb2 := below_trans hb0 hb1
      have x0 := kcell hb1 x0
      have x1 := kcell hb1 x1
      have y0 := kcell hb1 y0
      have y1 := kcell hb1 y1
      have y2 := kcell hb1 y2
      have z0 := kcell hb1 z0
      have z1 := kcell hb1 z1
      have l0 := Nat.lt_of_lt_of_le l0 hb1.size
      have HO1 := Lib.hid ho1
      clear ho1 HNOD
      rw [nodesL_len] at hl6 ⊢
      go_wp2_with fail
      refine (implValidAutomaton _ a _ (HAV.out.keep hb2)).mono ?_
      rw [HA.out]
      rintro e w2 ⟨rfl, hb3⟩
      have hbw := below_trans hb2 hb3
      have x0 := kcell hb3 x0
      have x1 := kcell hb3 x1
      have y0 := kcell hb3 y0
      have y1 := kcell hb3 y1
      have y2 := kcell hb3 y2
      have z0 := kcell hb3 z0
      have z1 := kcell hb3 z1
      have l0 := Nat.lt_of_lt_of_le l0 hb3.size
      obtain ⟨⟨hn1, hn12⟩, ⟨hst0, hst1⟩, -, -⟩ := auOk_iff.1 HA.out
      obtain ⟨s, hs⟩ : ∃ s : Nat, a.start = (s : Int) := ⟨a.start.toNat, by omega⟩
      rw [hs] at y0 HAV
      have hsn : s < a.accept.length := by omega
      have e1 := shl_bit (s := s) (by omega)
      have hS1 : setsL g a k (0 + 1) = [bit s] := by simp [setsL, setAt, hs]
      have HS1 := Lib.hid hS1
      have hr1 := ownsRow_below (HO1.out.1) hb3 (Nat.le_refl _)
      rw [nodesL_len] at hr1
      obtain ⟨gN, cN', hvN, -, hgN, -, -⟩ := own_some hr1 (by omega)
      injection hvN with e2 _ e3
      subst e2
      subst e3
      have HR1 := Lib.hid hr1
      have HB3 := Lib.hid hb3
      have hs3 := hb3.size
      have hs2 := hb2.size
      have hg3 := (walkOk_parts HW.out).2.2.1
      have HGO := Lib.hid (walkOk_parts HW.out).1
      clear hs hst0 hst1 hS1 hr1 hb3 hb1 hb0 HO1
      go_wp2_with fail
      go_loopw [11, 34] (fun ss ii wr => ∃ i : Nat, i ≤ k.2.length ∧ ii = .int .i64 (i : Int) ∧ wr.ownsRow w2.heap.size 3 1 ss (setsL g a k (i + 1)).length ((setsL g a k (i + 1)).flatMap cN) ∧ Below w2.heap.size w2 wr) (fun _ ii _ => k.2.length - (intOf ii).toNat)
      case atStart => exact ⟨0, Nat.zero_le _, rfl, by rw [HS1.out]; exact World.ownsRow_lit w2 #[.int .i64 (bit s : Int)] 1 (Nat.le_refl _) (by decide) rfl, (Below.refl _ _).alloc (Nat.le_refl _) _⟩
      case round =>
        clear HS1 e1
        obtain ⟨i, hi, rfl, hrow, hbel⟩ := hrel
        have hbw2 := below_trans hbw hbel
        have x0 := kcell hbel x0
        have x1 := kcell hbel x1
        have y0 := kcell hbel y0
        have y1 := kcell hbel y1
        have y2 := kcell hbel y2
        have z0 := kcell hbel z0
        have z1 := kcell hbel z1
        have l0 := Nat.lt_of_lt_of_le l0 hbel.size
        have hsz := hbel.size
        have HROW := Lib.hid hrow
        have HBW2 := Lib.hid hbw2
        clear hrow hbw2
        by_cases hlt : i < k.2.length
        · obtain ⟨st, e, hst, he, ht, hl, hsl, hl6⟩ := walk_step HW.out hlt
          obtain ⟨sid, sinv⟩ := st
          obtain ⟨b5, o5, rfl, hb5, p0, p1⟩ := HC5.out.st hst
          have p0 := kcell hbel (kcell hbw p0)
          have p1 := kcell hbel (kcell hbw p1)
          obtain ⟨hna, hnl⟩ := nodeAt_lt HW.out hi
          have q0 := kcell hbel ((World.ownsRow.cellAt HR1.out i (by omega)).trans (flatI_at hna))
          have hvi : g.vals[nodeAt g k i]? = some g.vals[nodeAt g k i] := List.getElem?_eq_getElem hnl
          have hvr := HGO.out.vals _ (List.getElem_mem hnl)
          generalize g.vals[nodeAt g k i] = vx at hvi hvr
          obtain ⟨vx, rfl⟩ := Int.eq_ofNat_of_zero_le hvr.1
          have hva := valAt_of hvi
          rw [Int.toNat_natCast] at hva
          obtain ⟨b1, o1, rfl, hb1, d1⟩ := HC1.out.int hvi
          have d1 := kcell hbel (kcell hbw d1)
          have hrow := HROW.out
          rw [setsL_len] at hrow
          obtain ⟨gS, cS, rfl, hgS, hgS2, -, -⟩ := own_some hrow (by omega)
          have s0 := (World.ownsRow.cellAt hrow i (by omega)).trans (flatN_at (setsL_at (g := g) (a := a) (k := k) (show i < i + 1 by omega)))
          have HSA := Lib.hid (show setAt g a k (i + 1) = aft a (setAt g a k i) vx (letAt g k i) by rw [← hva]; rfl)
          have HSN := Lib.hid (setsL_snoc g a k (i + 1))
          have hsla := setAt_lt HA.out k i (g := g)
          have hsla4 := lt12 HA.out hsla
          have hsal := setsL_len g a k (i + 1)
          have HLET := Lib.hid (show ∀ W, Below w.heap.size w W → Calls Try.prog 116 #[.agg #[.slice (some ⟨b1, o1, none⟩) g.vals.length c1, .slice A2 g.edges.length c2], .agg #[.int .i64 sid, .bool sinv]] W fun e w' => e = .returned (.int .i64 (letAt g k i : Int)) ∧ Below W.heap.size W w' from fun W hW => by
            have h := implStepLetter _ g (sid, sinv) W (HGV.out.keep hW)
            rwa [hsl] at h)
          have HSL := Lib.hid hsla
          generalize letAt g k i = LI at *
          generalize setAt g a k i = SI at *
          generalize nodeAt g k i = NI at *
          generalize setsL g a k (i + 1) = SX at *
          have hki : (i : Int) < (k.2.length : Int) := by omega
          have hni : (NI : Int) < (g.vals.length : Int) := by omega
          have hki1 : (i : Int) < ((k.2.length : Int) + 1) := by omega
          clear hst he ht hl hsl hna hvi hva hrow hsla
          go_wp2_with fail
          have hbA : Below wr.heap.size wr (wr.alloc (.cells #[.int .i64 sid, .bool sinv] 96)) := (Below.refl _ _).alloc (Nat.le_refl _) _
          have t0 : (wr.alloc (.cells #[.int .i64 sid, .bool sinv] 96)).cell? ⟨wr.heap.size, 0, none⟩ = some (.int .i64 sid) := by simp
          have t1 : (wr.alloc (.cells #[.int .i64 sid, .bool sinv] 96)).cell? ⟨wr.heap.size, 1, none⟩ = some (.bool sinv) := by simp
          have x0 := kcell hbA x0
          have x1 := kcell hbA x1
          have y0 := kcell hbA y0
          have y1 := kcell hbA y1
          have y2 := kcell hbA y2
          have q0 := kcell hbA q0
          have d1 := kcell hbA d1
          have s0 := kcell hbA s0
          have HRA := Lib.hid (ownsRow_below HROW.out hbA (Nat.le_refl _))
          have hsA := hbA.size
          generalize wr.alloc (.cells #[.int .i64 sid, .bool sinv] 96) = wA at *
          have hii1 : (i : Int) < (i : Int) + 1 := by omega
          have hbAd := below_trans hbA ((Below.refl wA.heap.size wA).drew)
          refine F_start 19 (fun w' => w'.cell? ⟨w.heap.size, 0, none⟩ = some (.slice (some ⟨b1, o1, none⟩) g.vals.length c1) ∧ w'.cell? ⟨w.heap.size, 1, none⟩ = some (.slice A2 g.edges.length c2) ∧ w'.cell? ⟨w.heap.size + 1, 0, none⟩ = some (.int .i64 (s : Int)) ∧ w'.cell? ⟨w.heap.size + 1, 1, none⟩ = some (.slice A3 n3 c3) ∧ w'.cell? ⟨w.heap.size + 1, 2, none⟩ = some (.slice A4 n4 c4) ∧ w'.cell? ⟨gN, i, none⟩ = some (.int .i64 (NI : Int)) ∧ w'.cell? ⟨b1, o1 + NI, none⟩ = some (.int .i64 (vx : Int)) ∧ w'.cell? ⟨gS, i, none⟩ = some (.int .i64 (SI : Int)) ∧ w'.cell? ⟨wr.heap.size, 0, none⟩ = some (.int .i64 sid) ∧ w'.cell? ⟨wr.heap.size, 1, none⟩ = some (.bool sinv)) (by kernel_rfl) (by exact ⟨x0, x1, y0, y1, y2, q0, d1, s0, t0, t1⟩) (fun hS inv => ?_)
          refine F_take (i := 0) (v := ?_) rfl (by kernel_rfl) (by kernel_rfl) (by kernel_rfl) (fun _ _ _ h => h) inv (Or.inl ⟨by rfl, ?_⟩) (by assumption) (fun invn => ?_)
          rotate_left
          · (intro w hSw; (try dsimp only at hSw); go_simp; try with_reducible rfl)
          try simp only [List.getElem_toArray, List.getElem_cons_zero, List.getElem_cons_succ, Act.put, List.setIfInBounds_toArray, List.set_cons_zero, List.set_cons_succ]
          clear inv
          have inv := invn
          clear invn
          refine F_take (i := 1) (v := ?_) rfl (by kernel_rfl) (by kernel_rfl) (by kernel_rfl) (fun _ _ _ h => h) inv (Or.inl ⟨by rfl, ?_⟩) (by assumption) (fun invn => ?_)
          rotate_left
          · (intro w hSw; (try dsimp only at hSw); go_simp; try with_reducible rfl)
          try simp only [List.getElem_toArray, List.getElem_cons_zero, List.getElem_cons_succ, Act.put, List.setIfInBounds_toArray, List.set_cons_zero, List.set_cons_succ]
          clear inv
          have inv := invn
          clear invn
          refine F_take (i := 2) (v := ?_) rfl (by kernel_rfl) (by kernel_rfl) (by kernel_rfl) (fun _ _ _ h => h) inv (Or.inl ⟨by rfl, ?_⟩) (by assumption) (fun invn => ?_)
          rotate_left
          · (intro w hSw; (try dsimp only at hSw); go_simp; try with_reducible rfl)
          try simp only [List.getElem_toArray, List.getElem_cons_zero, List.getElem_cons_succ, Act.put, List.setIfInBounds_toArray, List.set_cons_zero, List.set_cons_succ]
          clear inv
          have inv := invn
          clear invn
          refine F_take (i := 3) (v := ?_) rfl (by kernel_rfl) (by kernel_rfl) (by kernel_rfl) (fun _ _ _ h => h) inv (Or.inl ⟨by rfl, ?_⟩) (by assumption) (fun invn => ?_)
          rotate_left
          · (intro w hSw; (try dsimp only at hSw); go_simp; try with_reducible rfl)
          try simp only [List.getElem_toArray, List.getElem_cons_zero, List.getElem_cons_succ, Act.put, List.setIfInBounds_toArray, List.set_cons_zero, List.set_cons_succ]
          clear inv
          have inv := invn
          clear invn
          refine F_take (i := 4) (v := ?_) rfl (by kernel_rfl) (by kernel_rfl) (by kernel_rfl) (fun _ _ _ h => h) inv (Or.inl ⟨by rfl, ?_⟩) (by assumption) (fun invn => ?_)
          rotate_left
          · (intro w hSw; (try dsimp only at hSw); go_simp; try with_reducible rfl)
          try simp only [List.getElem_toArray, List.getElem_cons_zero, List.getElem_cons_succ, Act.put, List.setIfInBounds_toArray, List.set_cons_zero, List.set_cons_succ]
          clear inv
          have inv := invn
          clear invn
          refine F_take (i := 5) (v := ?_) rfl (by kernel_rfl) (by kernel_rfl) (by kernel_rfl) (fun _ _ _ h => h) inv (Or.inl ⟨by rfl, ?_⟩) (by assumption) (fun invn => ?_)
          rotate_left
          · (intro w hSw; (try dsimp only at hSw); go_simp; try with_reducible rfl)
          try simp only [List.getElem_toArray, List.getElem_cons_zero, List.getElem_cons_succ, Act.put, List.setIfInBounds_toArray, List.set_cons_zero, List.set_cons_succ]
          clear inv
          have inv := invn
          clear invn
          refine F_take (i := 6) (v := ?_) rfl (by kernel_rfl) (by kernel_rfl) (by kernel_rfl) (fun _ _ _ h => h) inv (Or.inl ⟨by rfl, ?_⟩) (by assumption) (fun invn => ?_)
          rotate_left
          · (intro w hSw; (try dsimp only at hSw); go_simp; try with_reducible rfl)
          try simp only [List.getElem_toArray, List.getElem_cons_zero, List.getElem_cons_succ, Act.put, List.setIfInBounds_toArray, List.set_cons_zero, List.set_cons_succ]
          clear inv
          have inv := invn
          clear invn
          refine F_take (i := 7) (v := ?_) rfl (by kernel_rfl) (by kernel_rfl) (by kernel_rfl) (fun _ _ _ h => h) inv (Or.inl ⟨by rfl, ?_⟩) (by assumption) (fun invn => ?_)
          rotate_left
          · (intro w hSw; (try dsimp only at hSw); go_simp; try with_reducible rfl)
          try simp only [List.getElem_toArray, List.getElem_cons_zero, List.getElem_cons_succ, Act.put, List.setIfInBounds_toArray, List.set_cons_zero, List.set_cons_succ]
          clear inv
          have inv := invn
          clear invn
          refine F_take (i := 8) (v := ?_) rfl (by kernel_rfl) (by kernel_rfl) (by kernel_rfl) (fun _ _ _ h => h) inv (Or.inl ⟨by rfl, ?_⟩) (by assumption) (fun invn => ?_)
          rotate_left
          · (intro w hSw; (try dsimp only at hSw); go_simp; try with_reducible rfl)
          try simp only [List.getElem_toArray, List.getElem_cons_zero, List.getElem_cons_succ, Act.put, List.setIfInBounds_toArray, List.set_cons_zero, List.set_cons_succ]
          clear inv
          have inv := invn
          clear invn
          refine F_take (i := 9) (v := ?_) rfl (by kernel_rfl) (by kernel_rfl) (by kernel_rfl) (fun _ _ _ h => h) inv (Or.inl ⟨by rfl, ?_⟩) (by assumption) (fun invn => ?_)
          rotate_left
          · (intro w hSw; (try dsimp only at hSw); go_simp; try with_reducible rfl)
          try simp only [List.getElem_toArray, List.getElem_cons_zero, List.getElem_cons_succ, Act.put, List.setIfInBounds_toArray, List.set_cons_zero, List.set_cons_succ]
          clear inv
          have inv := invn
          clear invn
          refine F_take (i := 10) (v := ?_) rfl (by kernel_rfl) (by kernel_rfl) (by kernel_rfl) (fun _ _ _ h => h) inv (Or.inl ⟨by rfl, ?_⟩) (by assumption) (fun invn => ?_)
          rotate_left
          · (intro w hSw; (try dsimp only at hSw); go_simp; try with_reducible rfl)
          try simp only [List.getElem_toArray, List.getElem_cons_zero, List.getElem_cons_succ, Act.put, List.setIfInBounds_toArray, List.set_cons_zero, List.set_cons_succ]
          clear inv
          have inv := invn
          clear invn
          refine F_take (i := 11) (v := ?_) rfl (by kernel_rfl) (by kernel_rfl) (by kernel_rfl) (fun _ _ _ h => h) inv (Or.inl ⟨by rfl, ?_⟩) (by assumption) (fun invn => ?_)
          rotate_left
          · (intro w hSw; (try dsimp only at hSw); go_simp; try with_reducible rfl)
          try simp only [List.getElem_toArray, List.getElem_cons_zero, List.getElem_cons_succ, Act.put, List.setIfInBounds_toArray, List.set_cons_zero, List.set_cons_succ]
          clear inv
          have inv := invn
          clear invn
          refine F_take (i := 12) (v := ?_) rfl (by kernel_rfl) (by kernel_rfl) (by kernel_rfl) (fun _ _ _ h => h) inv (Or.inl ⟨by rfl, ?_⟩) (by assumption) (fun invn => ?_)
          rotate_left
          · (intro w hSw; (try dsimp only at hSw); go_simp; try with_reducible rfl)
          try simp only [List.getElem_toArray, List.getElem_cons_zero, List.getElem_cons_succ, Act.put, List.setIfInBounds_toArray, List.set_cons_zero, List.set_cons_succ]
          clear inv
          have inv := invn
          clear invn
          refine F_take (i := 13) (v := ?_) rfl (by kernel_rfl) (by kernel_rfl) (by kernel_rfl) (fun _ _ _ h => h) inv (Or.inl ⟨by rfl, ?_⟩) (by assumption) (fun invn => ?_)
          rotate_left
          · (intro w hSw; (try dsimp only at hSw); go_simp; try with_reducible rfl)
          try simp only [List.getElem_toArray, List.getElem_cons_zero, List.getElem_cons_succ, Act.put, List.setIfInBounds_toArray, List.set_cons_zero, List.set_cons_succ]
          clear inv
          have inv := invn
          clear invn
          refine F_take (i := 14) (v := ?_) rfl (by kernel_rfl) (by kernel_rfl) (by kernel_rfl) (fun _ _ _ h => h) inv (Or.inl ⟨by rfl, ?_⟩) (by assumption) (fun invn => ?_)
          rotate_left
          · (intro w hSw; (try dsimp only at hSw); go_simp; try with_reducible rfl)
          try simp only [List.getElem_toArray, List.getElem_cons_zero, List.getElem_cons_succ, Act.put, List.setIfInBounds_toArray, List.set_cons_zero, List.set_cons_succ]
          clear inv
          have inv := invn
          clear invn
          refine F_take (i := 15) (v := ?_) rfl (by kernel_rfl) (by kernel_rfl) (by kernel_rfl) (fun _ _ _ h => h) inv (Or.inl ⟨by rfl, ?_⟩) (by assumption) (fun invn => ?_)
          rotate_left
          · (intro w hSw; (try dsimp only at hSw); go_simp; try with_reducible rfl)
          try simp only [List.getElem_toArray, List.getElem_cons_zero, List.getElem_cons_succ, Act.put, List.setIfInBounds_toArray, List.set_cons_zero, List.set_cons_succ]
          clear inv
          have inv := invn
          clear invn
          refine F_one (i := 16) (by kernel_rfl) rfl rfl (by omega) inv (fun K hK => ?_)
          try simp only [List.getElem_toArray, List.getElem_cons_zero, List.getElem_cons_succ]
          go_simp
          refine (HLET.out _ (below_trans HBW2.out hbAd)).mono ?_
          rintro e wL ⟨rfl, hbL⟩
          refine hK.out _ _ (kB10 hbL hS) (fun hSn invn => ?_)
          try simp only [List.getElem_toArray, List.getElem_cons_zero, List.getElem_cons_succ, Act.put, List.setIfInBounds_toArray, List.set_cons_zero, List.set_cons_succ]
          clear hK K inv hS
          have inv := invn
          have hS := hSn
          clear invn hSn
          refine F_one (i := 17) (by kernel_rfl) rfl rfl (by omega) inv (fun K hK => ?_)
          try simp only [List.getElem_toArray, List.getElem_cons_zero, List.getElem_cons_succ]
          go_simp
          refine (after_any _ a SI vx LI _ (HAV.out.keep (below_trans HBW2.out (below_trans hbAd hbL))) HA.out HSL.out (by omega) (by omega)).mono ?_
          rintro e wT ⟨rfl, hbT⟩
          have hbAT := below_trans ((Below.refl wA.heap.size wA).drew) (below_trans hbL hbT)
          have HRT := Lib.hid (ownsRow_below HRA.out hbAT (Nat.le_refl _))
          have hsT := hbAT.size
          refine hK.out _ _ (kB10 hbT hS) (fun hSn invn => ?_)
          try simp only [List.getElem_toArray, List.getElem_cons_zero, List.getElem_cons_succ, Act.put, List.setIfInBounds_toArray, List.set_cons_zero, List.set_cons_succ]
          clear hK K inv hS
          have inv := invn
          have hS := hSn
          clear invn hSn
          refine F_one (i := 18) (by kernel_rfl) rfl rfl (by omega) inv (fun K hK => ?_)
          try simp only [List.getElem_toArray, List.getElem_cons_zero, List.getElem_cons_succ]
          go_simp
          refine hK.out _ _ (kA10 _ hS) (fun hSn invn => ?_)
          try simp only [List.getElem_toArray, List.getElem_cons_zero, List.getElem_cons_succ, Act.put, List.setIfInBounds_toArray, List.set_cons_zero, List.set_cons_succ]
          clear hK K inv hS
          have inv := invn
          have hS := hSn
          clear invn hSn
          refine F_tail (i := 19) (by kernel_rfl) rfl rfl (by omega) (fun K hK => ?_)
          try simp only [List.getElem_toArray, List.getElem_cons_zero, List.getElem_cons_succ]
          refine op_append1 cN elInt rfl _ _ (by rfl) w2.heap.size _ SX (aft a SI vx LI) 1 _ (by rfl) (by have h := HRT.out.alloc (.cells #[.int .i64 (aft a SI vx LI : Int)] 3); rw [hsal] at h ⊢; exact h) (by first | rfl | simp) (heap_alloc_new _ _) rfl (cN_one _) (by omega) (by omega) (by simp; omega) ?_
          intro g2 cp2 w3 hown3 hgr3 hat3 hlt3
          have HW3 := Lib.hid hown3
          have HG3 := Lib.hid hgr3
          clear hown3 hgr3 hat3
          refine hK.out _ _ ?_
          try simp only [List.getElem_toArray, List.getElem_cons_zero, List.getElem_cons_succ, Act.put, List.setIfInBounds_toArray, List.set_cons_zero, List.set_cons_succ]
          clear hK K inv hS
          refine F_last (i := 20) (by kernel_rfl) rfl rfl (by omega) (by kernel_rfl) (fun K hK => ?_)
          go_simp
          refine hK _ _ ?_
          clear hK K
          go_wp2_with fail
          go_roundw
          case rel => exact ⟨i + 1, by omega, by go_num, by rw [HSN.out, HSA.out]; have h := HW3.out; rw [hsal] at h; exact h, (((hbel.trans (hbA.mono hsz)).trans (hbAT.mono (by omega))).alloc (by omega) _).trans (own_below (HRT.out.alloc _) (by simp; omega) HG3.out)⟩
          case measure => simp [intOf]; omega
        · obtain rfl : i = k.2.length := by omega
          have hrow := HROW.out
          rw [setsL_len] at hrow
          obtain ⟨gS, cS, rfl, hgS, hgS2, -, -⟩ := own_some hrow (by omega)
          have hoS := Own.of_row (xs := setsL g a k (k.2.length + 1)) (ownsRow_mono (b := w.heap.size) HROW.out (by omega)) (by rw [setsL_len]) rfl
          rw [← HFS.out] at hoS
          have hoN := Own.of_row (xs := nodesL g k) (ownsRow_mono (b := w.heap.size) (ownsRow_below HR1.out hbel (Nat.le_refl _)) (by omega)) (nodesL_len g k) rfl
          rw [← HFN.out] at hoN
          have HOS := Lib.hid hoS
          have HON := Lib.hid hoN
          clear hrow hoS hoN
          go_wp2_with fail
          go_ret3
          exact ⟨_, _, rfl, HOS.out, HON.out, HBW2.out⟩

set_option maxHeartbeats 2000000 in
theorem implWalkEnd (v1 v2 : Value) (g : Gr) (k : Wk) (w : World) (hv1 : GrV 0 w.heap.size w v1 g) (hv2 : WkV 0 w.heap.size w v2 k) :
    Calls Try.prog 83 #[v1, v2] w fun en w' => en = .returned (.int .i64 (walkEnd g k)) ∧ Below w.heap.size w w' := by
  have hv0 := hv1
  have hv3 := hv2
  obtain ⟨A1, n1, c1, A2, n2, c2, rfl⟩ := hv1.shape
  obtain ⟨A3, n3, c3, rfl⟩ := hv2.shape
  clear hv1 hv2
  have hb0 : Below w.heap.size w ((w.alloc (.cells #[.slice A1 n1 c1, .slice A2 n2 c2] 39)).alloc (.cells #[.int .i64 k.1, .slice A3 n3 c3] 34)) := ((Below.refl _ _).alloc (Nat.le_refl _) _).alloc (by simp) _
  have hc := implNodes _ _ g k _ (hv0.keep hb0) (hv3.keep hb0)
  have HC := Lib.hid hc
  clear hc
  obtain ⟨R, hR⟩ : ∃ R, R = walkEnd g k := ⟨_, rfl⟩
  rw [← hR]
  cases hw : walkOk g k with
  | false =>
    rw [hw] at HC
    have hfin : R = -1 := by rw [hR, walkEnd, hw]; rfl
    subst hfin
    clear hR hw
    go_enter Try.func83, Try.ntmps83
    go_wp2_with fail
    refine HC.out.mono ?_
    rintro e w1 ⟨v, rfl, ho, hb1⟩
    obtain ⟨A6, c6, rfl, -, -, -⟩ := ho.form cI_len
    go_wp2_with fail
    go_ret
    exact ⟨rfl, below_trans hb0 hb1⟩
  | true =>
    rw [hw] at HC
    have hfin : R = (nodeAt g k k.2.length : Int) := by rw [hR, walkEnd, hw]; rfl
    have HF := Lib.hid hfin
    have HW := Lib.hid hw
    have hl60 := (walkOk_parts hw).2.2.1
    clear hR hw hfin
    go_enter Try.func83, Try.ntmps83
    go_wp2_with fail
    refine HC.out.mono ?_
    rintro e w1 ⟨v, rfl, ho, hb1⟩
    rw [nodesOut_yes HW.out] at ho
    have hr := ho.1
    rw [nodesL_len] at hr
    obtain ⟨gN, cN, rfl, -, hgN, -, -⟩ := own_some hr (by omega)
    have q0 := (World.ownsRow.cellAt hr k.2.length (by omega)).trans (flatI_at (nodeAt_lt HW.out (Nat.le_refl _)).1)
    have m1 : ((k.2.length : Int) + 1) - 1 = (k.2.length : Int) := by omega
    clear hr ho
    go_wp2_with fail
    go_ret
    exact ⟨by rw [HF.out]; rfl, below_trans hb0 hb1⟩

set_option maxHeartbeats 4000000 in
set_option maxRecDepth 100000 in
theorem implMatchesWalk (vg va vk : Value) (g : Gr) (a : Au) (k : Wk) (w : World) (hgv : GrV 0 w.heap.size w vg g) (hav : AuV 0 w.heap.size w va a) (hkv : WkV 0 w.heap.size w vk k) :
    Calls Try.prog 84 #[vg, va, vk] w fun e w' => e = .returned (.bool (matchB g a k)) ∧ Below w.heap.size w w' := by
  have hgv0 := hgv
  have hav0 := hav
  have hkv0 := hkv
  obtain ⟨A1, c1, A2, c2, rfl, hl1, hm1, hl2, hm2, hC1, -⟩ := hgv.form
  obtain ⟨A3, n3, c3, A4, n4, c4, rfl⟩ := hav.shape
  obtain ⟨A5, n5, c5, rfl⟩ := hkv.shape
  have hb0 : Below w.heap.size w (((w.alloc (.cells #[.slice A1 g.vals.length c1, .slice A2 g.edges.length c2] 39)).alloc (.cells #[.int .i64 a.start, .slice A3 n3 c3, .slice A4 n4 c4] 41)).alloc (.cells #[.int .i64 k.1, .slice A5 n5 c5] 34)) := (((Below.refl _ _).alloc (Nat.le_refl _) _).alloc (by simp) _).alloc (by simp; omega) _
  have hal := along_any _ _ _ g a k _ (hgv0.keep hb0) (hav0.keep hb0) (hkv0.keep hb0)
  obtain ⟨R, hR⟩ : ∃ R, R = matchB g a k := ⟨_, rfl⟩
  rw [← hR]
  have HAL := Lib.hid hal
  have HR := Lib.hid hR
  have HGV := Lib.hid hgv0
  have HAV := Lib.hid hav0
  have HC1 := Lib.hid hC1
  clear hgv hav hkv hgv0 hav0 hkv0 hC1 hR hal
  cases hok : walkOk g k && auOk a with
  | false =>
    rw [hok] at HAL
    have hfin : R = false := by rw [HR.out, matchB, hok]; rfl
    subst hfin
    clear HR hok
    go_enter Try.func84, Try.ntmps84
    go_wp2_with fail
    refine HAL.out.mono ?_
    rintro e w1 ⟨v1, v2, rfl, ho1, ho2, hb1⟩
    obtain ⟨A6, n6, c6, rfl⟩ := ho1.shape
    obtain ⟨A7, n7, c7, rfl⟩ := ho2.shape
    go_wp2_with fail
    refine wp_region_ext_lit (by kernel_rfl) (by kernel_rfl) ?_
    repeat (go_big_quiet_step (fail))
    refine wpQuiet_nil ?_
    intro _ hw'
    obtain ⟨u2, hw''⟩ := hw'
    subst hw''
    go_wp2_with fail
    go_ret
    exact ⟨rfl, below_trans (below_trans hb0 hb1) (ext_below _ _)⟩
  | true =>
    rw [hok] at HAL
    have hfin : R = acc a (setAt g a k k.2.length) (valAt g (nodeAt g k k.2.length)) := by rw [HR.out, matchB, hok]; simp
    have hS : alongS g a k = setsL g a k (k.2.length + 1) := by rw [alongS, hok]; rfl
    have hN : alongN g a k = nodesL g k := by rw [alongN, hok]; rfl
    rw [hS, hN] at HAL
    simp only [Bool.and_eq_true] at hok
    obtain ⟨hw, ha⟩ := hok
    have hl60 := (walkOk_parts hw).2.2.1
    have hgo := (walkOk_parts hw).1
    obtain ⟨hna, hnl⟩ := nodeAt_lt hw (Nat.le_refl _)
    have hvi : g.vals[nodeAt g k k.2.length]? = some g.vals[nodeAt g k k.2.length] := List.getElem?_eq_getElem hnl
    have hvr := hgo.vals _ (List.getElem_mem hnl)
    generalize g.vals[nodeAt g k k.2.length] = vx at hvi hvr
    obtain ⟨vx, rfl⟩ := Int.eq_ofNat_of_zero_le hvr.1
    have hva := valAt_of hvi
    rw [Int.toNat_natCast] at hva
    rw [hva] at hfin
    obtain ⟨b1, o1, rfl, hb1w, d1⟩ := HC1.out.int hvi
    have hsla := setAt_lt ha k k.2.length (g := g)
    have hs1 := setsL_at (g := g) (a := a) (k := k) (show k.2.length < k.2.length + 1 by omega)
    generalize setAt g a k k.2.length = SI at *
    generalize nodeAt g k k.2.length = NI at *
    have hni : (NI : Int) < (g.vals.length : Int) := by omega
    have HF := Lib.hid hfin
    have HW := Lib.hid hw
    have HA := Lib.hid ha
    have HS1 := Lib.hid hs1
    have HNA := Lib.hid hna
    have HSL := Lib.hid hsla
    clear HR hfin hS hN hw ha hvi hva hgo hs1 hna hsla
    go_enter Try.func84, Try.ntmps84
    go_wp2_with fail
    obtain ⟨W0, hW0⟩ : ∃ W0, W0 = (((w.alloc (.cells #[.slice (some ⟨b1, o1, none⟩) g.vals.length c1, .slice A2 g.edges.length c2] 39)).alloc (.cells #[.int .i64 a.start, .slice A3 n3 c3, .slice A4 n4 c4] 41)).alloc (.cells #[.int .i64 k.1, .slice A5 n5 c5] 34)) := ⟨_, rfl⟩
    rw [← hW0] at hb0 HAL ⊢
    have bx : Blk W0 w.heap.size 39 #[.slice (some ⟨b1, o1, none⟩) g.vals.length c1, .slice A2 g.edges.length c2] := by rw [hW0]; exact ((Blk.new w _ _ w.heap.size rfl).alloc _).alloc _
    have by_ : Blk W0 (w.heap.size + 1) 41 #[.int .i64 a.start, .slice A3 n3 c3, .slice A4 n4 c4] := by rw [hW0]; exact (Blk.new (w.alloc _) _ _ (w.heap.size + 1) (by simp)).alloc _
    have x0 : W0.cell? ⟨w.heap.size, 0, none⟩ = some (.slice (some ⟨b1, o1, none⟩) g.vals.length c1) := by exact bx.cell 0
    have x1 : W0.cell? ⟨w.heap.size, 1, none⟩ = some (.slice A2 g.edges.length c2) := by exact bx.cell 1
    have y0 : W0.cell? ⟨w.heap.size + 1, 0, none⟩ = some (.int .i64 a.start) := by exact by_.cell 0
    have y1 : W0.cell? ⟨w.heap.size + 1, 1, none⟩ = some (.slice A3 n3 c3) := by exact by_.cell 1
    have y2 : W0.cell? ⟨w.heap.size + 1, 2, none⟩ = some (.slice A4 n4 c4) := by exact by_.cell 2
    have l0 := by_.lt
    have l00 := bx.lt
    have d1 := kcell hb0 d1
    have l1 : b1 < W0.heap.size := Nat.lt_of_lt_of_le hb1w hb0.size
    clear hW0 bx by_
    refine HAL.out.mono ?_
    rintro e w1 ⟨v1, v2, rfl, ho1, ho2, hb1⟩
    have x0 := kcell hb1 x0
    have x1 := kcell hb1 x1
    have y0 := kcell hb1 y0
    have y1 := kcell hb1 y1
    have y2 := kcell hb1 y2
    have d1 := kcell hb1 d1
    have hs1 := hb1.size
    have l0 := Nat.lt_of_lt_of_le l0 hs1
    have l00 := Nat.lt_of_lt_of_le l00 hs1
    have l1 := Nat.lt_of_lt_of_le l1 hs1
    have r1 := ho1.1
    have r2 := ho2.1
    rw [setsL_len] at r1
    rw [nodesL_len] at r2
    obtain ⟨gS, cS, rfl, -, hgS, -, -⟩ := own_some r1 (by omega)
    obtain ⟨gN, cN', rfl, -, hgN, -, -⟩ := own_some r2 (by omega)
    have s0 := (World.ownsRow.cellAt r1 k.2.length (by omega)).trans (flatN_at HS1.out)
    have q0 := (World.ownsRow.cellAt r2 k.2.length (by omega)).trans (flatI_at HNA.out)
    have hbw := below_trans hb0 hb1
    have HBW := Lib.hid hbw
    have m1 : ((k.2.length : Int) + 1) - 1 = (k.2.length : Int) := by omega
    clear r1 r2 ho1 ho2 hb0 hb1 hbw
    go_wp2_with fail
    refine wp_region_ext_lit (by kernel_rfl) (by kernel_rfl) ?_
    repeat (go_big_quiet_step ((go_at_call 77; exact Calls.ext_of (acceptsAt_any _ a SI vx _ (HAV.out.keep (below_trans HBW.out (ext_below _ _))) HA.out HSL.out (by omega)))))
    refine wpQuiet_nil ?_
    intro _ hw'
    obtain ⟨u2, hw''⟩ := hw'
    subst hw''
    go_wp2_with fail
    go_ret
    exact ⟨by rw [HF.out]; rfl, below_trans HBW.out (ext_below _ _)⟩

set_option maxHeartbeats 4000000 in
theorem implIsWitness (vg va vk : Value) (g : Gr) (a : Au) (x y : Int) (k : Wk) (w : World) (hgv : GrV 0 w.heap.size w vg g) (hav : AuV 0 w.heap.size w va a) (hkv : WkV 0 w.heap.size w vk k) :
    Calls Try.prog 63 #[vg, va, .int .i64 x, .int .i64 y, vk] w fun e w' => e = .returned (.bool (isWit g a x y k)) ∧ Below w.heap.size w w' := by
  have hgv0 := hgv
  have hav0 := hav
  have hkv0 := hkv
  obtain ⟨A1, n1, c1, A2, n2, c2, rfl⟩ := hgv.shape
  obtain ⟨A3, n3, c3, A4, n4, c4, rfl⟩ := hav.shape
  obtain ⟨A5, n5, c5, rfl⟩ := hkv.shape
  have hb0 : Below w.heap.size w (((w.alloc (.cells #[.slice A1 n1 c1, .slice A2 n2 c2] 39)).alloc (.cells #[.int .i64 a.start, .slice A3 n3 c3, .slice A4 n4 c4] 41)).alloc (.cells #[.int .i64 k.1, .slice A5 n5 c5] 34)) := (((Below.refl _ _).alloc (Nat.le_refl _) _).alloc (by simp) _).alloc (by simp; omega) _
  obtain ⟨R, hR⟩ : ∃ R, R = isWit g a x y k := ⟨_, rfl⟩
  rw [← hR]
  have HR := Lib.hid (hR.trans (show isWit g a x y k = ((k.1 == x && walkEnd g k == y) && matchB g a k) from rfl))
  have HGV := Lib.hid hgv0
  have HAV := Lib.hid hav0
  have HKV := Lib.hid hkv0
  clear hgv hav hkv hgv0 hav0 hkv0 hR
  have HMW := Lib.hid (fun (W : World) (hW : Below w.heap.size w W) => implMatchesWalk _ _ _ g a k W (HGV.out.keep hW) (HAV.out.keep hW) (HKV.out.keep hW))
  have HWE := Lib.hid (fun (W : World) (hW : Below w.heap.size w W) => implWalkEnd _ _ g k W (HGV.out.keep hW) (HKV.out.keep hW))
  go_enter Try.func63, Try.ntmps63
  generalize matchB g a k = mb at HR HMW
  generalize walkEnd g k = we at HR HWE
  cases h1 : (k.1 == x) with
  | false =>
    have hfin : R = false := by rw [HR.out, h1]; rfl
    subst hfin
    clear HR
    go_wp2_with fail
    go_ret
    exact ⟨rfl, hb0⟩
  | true =>
    rw [h1, Bool.true_and] at HR
    go_wp2_with fail
    obtain ⟨W0, hW0⟩ : ∃ W0, W0 = (((w.alloc (.cells #[.slice A1 n1 c1, .slice A2 n2 c2] 39)).alloc (.cells #[.int .i64 a.start, .slice A3 n3 c3, .slice A4 n4 c4] 41)).alloc (.cells #[.int .i64 k.1, .slice A5 n5 c5] 34)) := ⟨_, rfl⟩
    rw [← hW0] at hb0 ⊢
    have bx : Blk W0 w.heap.size 39 #[.slice A1 n1 c1, .slice A2 n2 c2] := by rw [hW0]; exact ((Blk.new w _ _ w.heap.size rfl).alloc _).alloc _
    have by_ : Blk W0 (w.heap.size + 1) 41 #[.int .i64 a.start, .slice A3 n3 c3, .slice A4 n4 c4] := by rw [hW0]; exact (Blk.new (w.alloc _) _ _ (w.heap.size + 1) (by simp)).alloc _
    have bz : Blk W0 (w.heap.size + 1 + 1) 34 #[.int .i64 k.1, .slice A5 n5 c5] := by rw [hW0]; exact Blk.new ((w.alloc _).alloc _) _ _ (w.heap.size + 1 + 1) (by simp)
    have x0 : W0.cell? ⟨w.heap.size, 0, none⟩ = some (.slice A1 n1 c1) := by exact bx.cell 0
    have x1 : W0.cell? ⟨w.heap.size, 1, none⟩ = some (.slice A2 n2 c2) := by exact bx.cell 1
    have y0 : W0.cell? ⟨w.heap.size + 1, 0, none⟩ = some (.int .i64 a.start) := by exact by_.cell 0
    have y1 : W0.cell? ⟨w.heap.size + 1, 1, none⟩ = some (.slice A3 n3 c3) := by exact by_.cell 1
    have y2 : W0.cell? ⟨w.heap.size + 1, 2, none⟩ = some (.slice A4 n4 c4) := by exact by_.cell 2
    have z0 : W0.cell? ⟨w.heap.size + 1 + 1, 0, none⟩ = some (.int .i64 k.1) := by exact bz.cell 0
    have z1 : W0.cell? ⟨w.heap.size + 1 + 1, 1, none⟩ = some (.slice A5 n5 c5) := by exact bz.cell 1
    clear hW0 bx by_ bz
    refine (HWE.out W0 hb0).mono ?_
    rintro e w1 ⟨rfl, hb1⟩
    have hb2 := below_trans hb0 hb1
    have x0 := kcell hb1 x0
    have x1 := kcell hb1 x1
    have y0 := kcell hb1 y0
    have y1 := kcell hb1 y1
    have y2 := kcell hb1 y2
    have z0 := kcell hb1 z0
    have z1 := kcell hb1 z1
    cases h2 : (we == y) with
    | false =>
      have hfin : R = false := by rw [HR.out, h2]; rfl
      subst hfin
      clear HR
      go_wp2_with fail
      go_ret
      exact ⟨rfl, hb2⟩
    | true =>
      rw [h2, Bool.true_and] at HR
      go_wp2_with fail
      refine (HMW.out w1 hb2).mono ?_
      rintro e w3 ⟨rfl, hb3⟩
      go_wp2_with fail
      go_ret
      exact ⟨by rw [HR.out]; rfl, below_trans hb2 hb3⟩
end Go.Proofs.Ytlhpcknpjdeebaa

/- Go's '==' at steps. -/
namespace Go.Proofs.Ytlhpcknpjdeebaa
set_option linter.unusedVariables false
set_option linter.unusedSimpArgs false
open Go.ChangeShapes Go.WideShapes Go.ChangeAt Go.RowKit
theorem eqSt (a : Int) (b : Bool) (c : Int) (d : Bool) (w : World) : (Op.equalIn 10000 96 (.agg #[.int .i64 a, .bool b]) (.agg #[.int .i64 c, .bool d])).run Try.prog w = .ok (a == c && b == d) w := by
  have u3 := Try.underlying3
  have a3 := Try.isAgg3
  have z3 := Try.sizeOf3
  have u4 := Try.underlying4
  have a4 := Try.isAgg4
  have z4 := Try.sizeOf4
  have hS : Try.prog.underlying 96 = some (.struct (Try.prog.fieldsOf 96)) := by kernel_rfl
  have hp : Try.prog.stoodInHeld 96 = false := by kernel_rfl
  rw [show (10000 : Nat) = 9999 + 1 from rfl, run_equalIn_agg w 9999 96 _ _ hS hp]
  simp only [Program.fieldsOf, Try.underlying96]
  go_simp
  by_cases h1 : a = c <;> by_cases h2 : b = d <;> simp [h1, h2]
theorem guardSt : Try.prog.eqGuardType Try.prog.depth 96 = false := by kernel_rfl
theorem eqlSt (u v : St) (w : World) : (binOp .eql 96 (.agg #[.int .i64 u.1, .bool u.2]) (.agg #[.int .i64 v.1, .bool v.2])).run Try.prog w = .ok (.bool (decide (u = v))) w := by
  rw [run_eql_struct, eqSt]
  obtain ⟨a, b⟩ := u
  obtain ⟨c, d⟩ := v
  by_cases h1 : a = c <;> by_cases h2 : b = d <;> simp [h1, h2]
end Go.Proofs.Ytlhpcknpjdeebaa

