/- Parts of the proof, joined into one text: CntM, CwM, KeyP, AscM, ImgM, MemD, NthM, ArcM, AutI, SetI. -/
import Derived.Test.YtlhpcknpjdeebaaPartHCBNMMEI
import Derived.Test.YtlhpcknpjdeebaaPartGNMHAPIG
import Derived.Test.YtlhpcknpjdeebaaPartLOMEEABO
import Derived.Maps.OwnSet
import Derived.DeepKeys4
import Derived.Lib.SlicesCompact
import Derived.Test.YtlhpcknpjdeebaaPartNEFHKDJH
import Derived.Maps.Views
import Derived.Test.YtlhpcknpjdeebaaPartJMJACPBF
/- Counting simple paths, plainly: both sides walk the same arcs in the same order. -/
namespace Go.Proofs.Ytlhpcknpjdeebaa
set_option linter.unusedVariables false
set_option linter.unusedSimpArgs false
open Go.ChangeShapes Go.WideShapes Go.ChangeAt Go.RowKit

def cntC (g : Gr) (a : Au) (rec : Nat → Nat → Nat → Int) (x s used : Nat) (n : Int) (p : Arc) : Int :=
  if aft a s (valAt g x) p.2.1.toNat = 0 ∨ used.testBit p.2.2.toNat = true then n
  else wrap64 (n + rec p.2.2.toNat (aft a s (valAt g x) p.2.1.toNat) (ins used p.2.2.toNat))
def cnt0 (g : Gr) (a : Au) (y : Int) (x s : Nat) : Int := if decide ((x : Int) = y) && acc a s (valAt g x) then 1 else 0
def cnt (g : Gr) (a : Au) (y : Int) : Nat → Nat → Nat → Nat → Int
  | 0, _, _, _ => 0
  | f + 1, x, s, used => (arcsOf g (x : Int)).foldl (cntC g a (cnt g a y f) x s used) (cnt0 g a y x s)
def cntTo (g : Gr) (a : Au) (y : Int) (f x s used i : Nat) : Int := ((arcsOf g (x : Int)).take i).foldl (cntC g a (cnt g a y f) x s used) (cnt0 g a y x s)
theorem cntTo_all (g : Gr) (a : Au) (y : Int) (f x s used : Nat) : cntTo g a y f x s used (arcsOf g (x : Int)).length = cnt g a y (f + 1) x s used := by rw [cntTo, List.take_length]; rfl
theorem cntTo_succ {g : Gr} {a : Au} {y : Int} {f x s used i : Nat} {p : Arc} (h : (arcsOf g (x : Int))[i]? = some p) : cntTo g a y f x s used (i + 1) = cntC g a (cnt g a y f) x s used (cntTo g a y f x s used i) p := foldl_take h _
theorem arc_stepEd {g : Gr} (hgo : grOk g = true) {x : Int} {p : Arc} (hp : p ∈ arcsOf g x) : ∃ e : Ed, stepEd g p.1.1 = some e ∧ arcLetter p.1.2 e = p.2.1 ∧ arcTo p.1.2 e = p.2.2 := by
  have hg := grOk_iff.1 hgo
  obtain ⟨i, e, hi, hie, hl, ht, hid, hm⟩ := arc_edge hg hp
  cases hs : stepEd g p.1.1 with
  | none =>
    rw [stepEd, if_pos hgo, List.find?_eq_none] at hs
    exact absurd (hs e hm) (by simp [hid])
  | some e2 =>
    obtain ⟨ix, h1, h2⟩ := stepEd_idx hs
    have : ix = i := by omega
    subst this
    rw [hie] at h2
    injection h2 with h2
    subst h2
    exact ⟨e, rfl, hl.symm, ht.symm⟩
theorem ins_gt {m t : Nat} (h : m.testBit t = false) : m < ins m t := by
  have h1 : m ≤ ins m t := Nat.left_le_or
  have h2 : m ≠ ins m t := fun e => by
    have h3 := ins_test m t t
    rw [← e, h] at h3
    simp at h3
  omega
theorem cntC_no {g : Gr} {a : Au} {rec : Nat → Nat → Nat → Int} {x s used t m : Nat} {n : Int} {p : Arc} (ht : p.2.2 = (t : Int)) (hm : aft a s (valAt g x) p.2.1.toNat = m) (h : m = 0 ∨ used.testBit t = true) : cntC g a rec x s used n p = n := by
  rw [cntC, hm, ht, Int.toNat_natCast, if_pos h]
theorem cntC_yes {g : Gr} {a : Au} {rec : Nat → Nat → Nat → Int} {x s used t m : Nat} {n : Int} {p : Arc} (ht : p.2.2 = (t : Int)) (hm : aft a s (valAt g x) p.2.1.toNat = m) (h : ¬ m = 0) (h2 : used.testBit t = false) : cntC g a rec x s used n p = wrap64 (n + rec t m (ins used t)) := by
  rw [cntC, hm, ht, Int.toNat_natCast, if_neg (by simp [h, h2])]
def cntOk (g : Gr) (a : Au) (x y : Int) : Bool := wi x 0 ((g.vals.length : Int) - 1) && (wi y 0 ((g.vals.length : Int) - 1) && (grOk g && auOk a))
/-- 32 rounds suffice, for a set of five nodes grows with each. -/
def cntSimple (g : Gr) (a : Au) (x y : Int) : Int := if cntOk g a x y = true then cnt g a y 32 x.toNat (bit a.start.toNat) (bit x.toNat) else 0
end Go.Proofs.Ytlhpcknpjdeebaa

/- The counting of walks, plainly: the count by recursion, and the layers that the reference builds. -/
namespace Go.Proofs.Ytlhpcknpjdeebaa
set_option linter.unusedVariables false
set_option linter.unusedSimpArgs false
open Go.ChangeShapes Go.WideShapes Go.ChangeAt Go.RowKit

def cwStep (g : Gr) (a : Au) (rec : Nat → Nat → Nat) (x s n : Nat) (p : Arc) : Nat := min 1000000 (n + rec p.2.2.toNat (aft a s (valAt g x) p.2.1.toNat))
/-- the walks of f steps from node x with states s to y, at most a million -/
def cw (g : Gr) (a : Au) (y : Int) : Nat → Nat → Nat → Nat
  | 0, x, s => if (decide ((x : Int) = y) && acc a s (valAt g x)) = true then 1 else 0
  | f + 1, x, s => (arcsOf g (x : Int)).foldl (cwStep g a (cw g a y f) x s) 0
def cwTo (g : Gr) (a : Au) (y : Int) (f x s i : Nat) : Nat := ((arcsOf g (x : Int)).take i).foldl (cwStep g a (cw g a y f) x s) 0
theorem cwTo_all (g : Gr) (a : Au) (y : Int) (f x s : Nat) : cwTo g a y f x s (arcsOf g (x : Int)).length = cw g a y (f + 1) x s := by rw [cwTo, List.take_length]; rfl
theorem cwTo_succ {g : Gr} {a : Au} {y : Int} {f x s i : Nat} {p : Arc} (h : (arcsOf g (x : Int))[i]? = some p) : cwTo g a y f x s (i + 1) = cwStep g a (cw g a y f) x s (cwTo g a y f x s i) p := foldl_take h _
theorem mem_of_zero : ∀ k : Nat, mem k 0 = []
  | 0 => rfl
  | k + 1 => by rw [mem_no (by simp), mem_of_zero k]
theorem aft_none (a : Au) (v l : Nat) : aft a 0 v l = 0 := by rw [aft, mem_of_zero]; rfl
theorem acc_none (a : Au) (v : Nat) : acc a 0 v = false := by rw [acc, mem_of_zero]; rfl
theorem foldl_le {g : Gr} {a : Au} {rec : Nat → Nat → Nat} {x s : Nat} : ∀ (l : List Arc) (n : Nat), n ≤ 1000000 → l.foldl (cwStep g a rec x s) n ≤ 1000000
  | [], n, h => h
  | p :: l, n, h => foldl_le l _ (Nat.min_le_left _ _)
theorem cw_le (g : Gr) (a : Au) (y : Int) (f x s : Nat) : cw g a y f x s ≤ 1000000 := by
  cases f with
  | zero => rw [cw]; split <;> omega
  | succ f => exact foldl_le _ 0 (by omega)
theorem cwTo_le (g : Gr) (a : Au) (y : Int) (f x s i : Nat) : cwTo g a y f x s i ≤ 1000000 := foldl_le _ 0 (by omega)
theorem cw_none (g : Gr) (a : Au) (y : Int) : ∀ (f x : Nat), cw g a y f x 0 = 0
  | 0, x => by rw [cw, acc_none]; simp
  | f + 1, x => by
    rw [cw]
    generalize arcsOf g (x : Int) = l
    induction l with
    | nil => rfl
    | cons p l ih =>
      rw [List.foldl_cons, cwStep, aft_none, cw_none g a y f]
      exact ih

/-! ### The layers -/
abbrev Key := Nat × Nat
def findK (N : List Key) (k : Key) : Option Nat := N.findIdx? (fun z => z == k)
theorem findK_some {N : List Key} {k : Key} {i : Nat} (h : findK N k = some i) : N[i]? = some k := by
  obtain ⟨h1, h2, -⟩ := List.findIdx?_eq_some_iff_getElem.1 h
  rw [List.getElem?_eq_getElem h1]
  congr 1
  simpa using h2
abbrev LSt := List Key × List (St × Nat)
def arcL (g : Gr) (a : Au) (x s : Nat) (st : LSt) (p : Arc) : LSt :=
  if aft a s (valAt g x) p.2.1.toNat = 0 then st else
  match findK st.1 (p.2.2.toNat, aft a s (valAt g x) p.2.1.toNat) with
  | some i => (st.1, st.2 ++ [(p.1, i)])
  | none => (st.1 ++ [(p.2.2.toNat, aft a s (valAt g x) p.2.1.toNat)], st.2 ++ [(p.1, st.1.length)])
def rowL (g : Gr) (a : Au) (N : List Key) (x s : Nat) : LSt := (arcsOf g (x : Int)).foldl (arcL g a x s) (N, [])
def cntL (C : List Nat) (n : Nat) (e : St × Nat) : Nat := min 1000000 (n + C.getD e.2 0)
/-- the next layer's nodes, and each node's steps with their ends -/
def layL (g : Gr) (a : Au) : List Key → List Key → List Key × List (List (St × Nat))
  | [], N => (N, [])
  | k :: last, N => ((layL g a last (rowL g a N k.1 k.2).1).1, (rowL g a N k.1 k.2).2 :: (layL g a last (rowL g a N k.1 k.2).1).2)
theorem arcs_fold {g : Gr} {a : Au} {y : Int} {f x s : Nat} : ∀ (l : List Arc) (N : List Key) (T : List (St × Nat)),
    ∃ N2 T2, l.foldl (arcL g a x s) (N, T) = (N ++ N2, T ++ T2) ∧ ∀ (N3 : List Key) (C : List Nat) (n : Nat), (∀ i k, (N ++ N2 ++ N3)[i]? = some k → C.getD i 0 = cw g a y f k.1 k.2) → n ≤ 1000000 →
      T2.foldl (cntL C) n = l.foldl (cwStep g a (cw g a y f) x s) n
  | [], N, T => ⟨[], [], by simp, fun _ _ _ _ _ => rfl⟩
  | p :: l, N, T => by
    by_cases h0 : aft a s (valAt g x) p.2.1.toNat = 0
    · obtain ⟨N2, T2, h1, h2⟩ := arcs_fold (g := g) (a := a) (y := y) (f := f) (x := x) (s := s) l N T
      refine ⟨N2, T2, by rw [List.foldl_cons, arcL, if_pos h0, h1], fun N3 C n hC hn => ?_⟩
      rw [List.foldl_cons, cwStep, h0, cw_none, Nat.add_zero, Nat.min_eq_right hn]
      exact h2 N3 C n hC hn
    · cases hf : findK N (p.2.2.toNat, aft a s (valAt g x) p.2.1.toNat) with
      | some i =>
        obtain ⟨N2, T2, h1, h2⟩ := arcs_fold (g := g) (a := a) (y := y) (f := f) (x := x) (s := s) l N (T ++ [(p.1, i)])
        refine ⟨N2, (p.1, i) :: T2, by rw [List.foldl_cons, arcL, if_neg h0]; simp only [hf]; rw [h1, List.append_assoc]; rfl, fun N3 C n hC hn => ?_⟩
        have hk := findK_some hf
        have hCi := hC i _ (by rw [List.append_assoc, List.getElem?_append_left (List.getElem?_eq_some_iff.1 hk).1]; exact hk)
        rw [List.foldl_cons, List.foldl_cons, cntL, cwStep, hCi]
        exact h2 N3 C _ hC (Nat.min_le_left _ _)
      | none =>
        obtain ⟨N2, T2, h1, h2⟩ := arcs_fold (g := g) (a := a) (y := y) (f := f) (x := x) (s := s) l (N ++ [(p.2.2.toNat, aft a s (valAt g x) p.2.1.toNat)]) (T ++ [(p.1, N.length)])
        refine ⟨(p.2.2.toNat, aft a s (valAt g x) p.2.1.toNat) :: N2, (p.1, N.length) :: T2, by rw [List.foldl_cons, arcL, if_neg h0]; simp only [hf]; rw [h1, List.append_assoc, List.append_assoc]; rfl, fun N3 C n hC hn => ?_⟩
        have hCi := hC N.length _ (by rw [List.append_assoc, List.getElem?_append_right (Nat.le_refl _), Nat.sub_self]; rfl)
        rw [List.foldl_cons, List.foldl_cons, cntL, cwStep, hCi]
        exact h2 N3 C _ (fun i k hk => hC i k (by simpa using hk)) (Nat.min_le_left _ _)
/-- a layer's rows count what the recursion counts -/
theorem layL_cnt {g : Gr} {a : Au} {y : Int} {f : Nat} : ∀ (last N : List Key), ∃ N2, (layL g a last N).1 = N ++ N2 ∧ (layL g a last N).2.length = last.length ∧
    ∀ (N3 : List Key) (C : List Nat), (∀ i k, (N ++ N2 ++ N3)[i]? = some k → C.getD i 0 = cw g a y f k.1 k.2) →
      ∀ (j : Nat) (k : Key) (T : List (St × Nat)), last[j]? = some k → (layL g a last N).2[j]? = some T → T.foldl (cntL C) 0 = cw g a y (f + 1) k.1 k.2
  | [], N => ⟨[], by simp [layL], rfl, fun _ _ _ j k T hj => by simp at hj⟩
  | z :: last, N => by
    obtain ⟨N1, T1, h1, h2⟩ := arcs_fold (g := g) (a := a) (y := y) (f := f) (x := z.1) (s := z.2) (arcsOf g (z.1 : Int)) N []
    obtain ⟨N2, g1, g2, g3⟩ := layL_cnt (g := g) (a := a) (y := y) (f := f) last (N ++ N1)
    have hr : rowL g a N z.1 z.2 = (N ++ N1, T1) := by rw [rowL, h1, List.nil_append]
    refine ⟨N1 ++ N2, by rw [layL, hr]; simp only; rw [g1, List.append_assoc], by rw [layL, hr]; simp only [List.length_cons]; rw [g2], fun N3 C hC j k T hj hT => ?_⟩
    rw [layL, hr] at hT
    cases j with
    | zero =>
      simp only [List.getElem?_cons_zero, Option.some.injEq] at hj hT
      subst hj hT
      rw [h2 (N2 ++ N3) C 0 (fun i k hk => hC i k (by simpa using hk)) (by omega)]
      rfl
    | succ j =>
      simp only [List.getElem?_cons_succ] at hj hT
      exact g3 N3 C (fun i k hk => hC i k (by simpa using hk)) j k T hj hT
end Go.Proofs.Ytlhpcknpjdeebaa

/- Keys of the memory that counts walks: a node, a set of states, a number of steps. -/
namespace Go.Proofs.Ytlhpcknpjdeebaa
set_option linter.unusedVariables false
set_option linter.unusedSimpArgs false
open Go.ChangeShapes Go.WideShapes Go.ChangeAt Go.RowKit Go.Maps

theorem key3 {P : Program} {k : TypeId} {f0 f1 f2 : Field} (hu : P.underlying k = some (.struct #[f0, f1, f2])) (h1 : P.keyType k = true) (hc : P.cellsOf k = 3) (h0 : P.underlying f0.type = some (.int .i64)) (h0' : P.underlying f1.type = some (.int .i64)) (h0'' : P.underlying f2.type = some (.int .i64))
    (c0 : P.cellsOf f0.type = 1) (c1 : P.cellsOf f1.type = 1) (c2 : P.cellsOf f2.type = 1) (o0 : f0.offset = 0) (o1 : f1.offset = 1) (o2 : f2.offset = 2) (n0 : (f0.name != "_") = true) (n1 : (f1.name != "_") = true) (n2 : (f2.name != "_") = true) {n : Nat} (hn : P.types.size = n + 1)
    (x s f : Int) (hx : (Lit.int .i64 x).wf = true) (hs : (Lit.int .i64 s).wf = true) (hf : (Lit.int .i64 f).wf = true) : keyOf P k (.agg #[.int .i64 x, .int .i64 s, .int .i64 f]) = some (.string (keyBytes [.int .i64 x, .int .i64 s, .int .i64 f])) := by
  have h4 : (Value.agg #[.int .i64 x, .int .i64 s, .int .i64 f]).formed P k = true := by simp [Value.formed, hu, hc]
  simp only [bne_iff_ne, ne_eq] at n0 n1 n2
  simp [keyOf, hu, h1, h4, hn, Program.keyLits, hc, h0, h0', h0'', c0, c1, c2, o0, o1, o2, n0, n1, n2, hx, hs, hf, Value.cells]
theorem laidOutK : laidOutB Try.prog = true := by kernel_rfl
theorem widePlace : (match Try.prog.underlying 82 with | some (.array _ _) | some (.struct _) => true | _ => false) = true := by rw [Try.underlying82]
theorem rowPlace : decide (82 < Try.prog.types.size) = true := by kernel_rfl
theorem typePlace : Try.prog.keyTypeAt 5 82 = true := by kernel_rfl
set_option maxRecDepth 100000 in
theorem keyedPlace : Keyed Try.prog 82 := Keyed.of_law (deep_law_laid laidOutK (m := 5) (by decide) (of_decide_eq_true rowPlace) typePlace widePlace)
theorem sizeK : ∃ n, Try.prog.types.size = n + 1 := ⟨Try.prog.types.size - 1, by have h : 0 < Try.prog.types.size := of_decide_eq_true (by kernel_rfl); omega⟩
def plKey (x s f : Int) : Lit := .string (keyBytes [.int .i64 x, .int .i64 s, .int .i64 f])
theorem keyTPlace : Try.prog.keyType 82 = true := by kernel_rfl
theorem cellsPlace : Try.prog.cellsOf 82 = 3 := by kernel_rfl
theorem cellsIntK : Try.prog.cellsOf 3 = 1 := by kernel_rfl
theorem keyPlace (x s f : Int) (hx : (Lit.int .i64 x).wf = true) (hs : (Lit.int .i64 s).wf = true) (hf : (Lit.int .i64 f).wf = true) : keyOf Try.prog 82 (.agg #[.int .i64 x, .int .i64 s, .int .i64 f]) = some (plKey x s f) := by
  obtain ⟨n, hn⟩ := sizeK
  exact key3 Try.underlying82 keyTPlace cellsPlace Try.underlying3 Try.underlying3 Try.underlying3 cellsIntK cellsIntK cellsIntK rfl rfl rfl (by decide) (by decide) (by decide) hn x s f hx hs hf
theorem plKey_inj {x s f x' s' f' : Int} (hx : (Lit.int .i64 x).wf = true) (hs : (Lit.int .i64 s).wf = true) (hf : (Lit.int .i64 f).wf = true) (hx' : (Lit.int .i64 x').wf = true) (hs' : (Lit.int .i64 s').wf = true) (hf' : (Lit.int .i64 f').wf = true) (h : plKey x s f = plKey x' s' f') : x = x' ∧ s = s' ∧ f = f' := by
  have h1 := keyPlace x s f hx hs hf
  have h2 := keyPlace x' s' f' hx' hs' hf'
  rw [← h] at h2
  have h3 := keyedPlace.inj h1 h2
  injection h3 with h3
  simpa using h3
end Go.Proofs.Ytlhpcknpjdeebaa

/- Plain: numbers in ascending order, each once. -/
namespace Go.Proofs.Ytlhpcknpjdeebaa
set_option linter.unusedVariables false
set_option linter.unusedSimpArgs false
open Go.Lib
def ascL (xs : List Int) : List Int := Lib.compact (xs.mergeSort fun x y => decide (x ≤ y))
theorem get_bang {zs : List Int} {j : Nat} (h : j < zs.length) : zs.toArray[j]! = zs[j] := by
  rw [getElem!_pos _ j (by simpa using h)]; simp
theorem asc_aux {zs : List Int} (hs : zs.Pairwise (· ≤ ·)) : ∀ m, m ≤ zs.length → (compactUpTo zs.toArray m).Pairwise (· < ·) ∧ ∀ x, x ∈ compactUpTo zs.toArray m ↔ ∃ j, ∃ h : j < zs.length, j < m ∧ zs[j] = x := by
  intro m
  induction m with
  | zero => intro _; simp [compactUpTo]
  | succ m ih =>
    intro hm
    obtain ⟨ih1, ih2⟩ := ih (by omega)
    have hml : m < zs.length := by omega
    rw [compactUpTo_succ]
    have hbd : ∀ x ∈ compactUpTo zs.toArray m, x ≤ zs[m] ∧ (0 < m → x ≤ zs[m - 1]) := fun x hx => by
      obtain ⟨j, hj, hjm, rfl⟩ := (ih2 x).1 hx
      refine ⟨List.pairwise_iff_getElem.1 hs j m hj hml hjm, fun h0 => ?_⟩
      rcases Nat.lt_or_ge j (m - 1) with h | h
      · exact List.pairwise_iff_getElem.1 hs j (m - 1) hj (by omega) h
      · have : j = m - 1 := by omega
        subst this
        exact Int.le_refl _
    by_cases hk : keeps zs.toArray m = true
    · rw [if_pos hk, get_bang hml]
      refine ⟨List.pairwise_append.2 ⟨ih1, by simp, fun x hx y hy => ?_⟩, fun x => ?_⟩
      · rw [List.mem_singleton] at hy
        subst hy
        rcases Nat.eq_zero_or_pos m with h0 | h0
        · subst h0
          simp [compactUpTo] at hx
        · have h1 := (hbd x hx).2 h0
          have h2 : zs[m - 1] ≤ zs[m] := List.pairwise_iff_getElem.1 hs (m - 1) m (by omega) hml (by omega)
          have h3 : zs[m] ≠ zs[m - 1] := by
            simp only [keeps, decide_eq_true_eq] at hk
            rcases hk with h | h
            · omega
            · rwa [get_bang hml, get_bang (show m - 1 < zs.length by omega)] at h
          have h4 : zs[m - 1] ≠ zs[m] := fun e => h3 e.symm
          omega
      · rw [List.mem_append, List.mem_singleton, ih2]
        constructor
        · rintro (⟨j, hj, hjm, rfl⟩ | rfl)
          · exact ⟨j, hj, by omega, rfl⟩
          · exact ⟨m, hml, by omega, rfl⟩
        · rintro ⟨j, hj, hjm, rfl⟩
          rcases Nat.lt_or_ge j m with h | h
          · exact .inl ⟨j, hj, h, rfl⟩
          · obtain rfl : j = m := by omega
            exact .inr rfl
    · rw [if_neg hk, List.append_nil]
      refine ⟨ih1, fun x => ?_⟩
      rw [ih2]
      have h0 : 0 < m ∧ zs[m] = zs[m - 1] := by
        simp only [keeps, decide_eq_true_eq, not_or] at hk
        refine ⟨by omega, ?_⟩
        have := hk.2
        rw [get_bang hml, get_bang (show m - 1 < zs.length by omega)] at this
        exact Classical.not_not.1 this
      constructor
      · rintro ⟨j, hj, hjm, rfl⟩
        exact ⟨j, hj, by omega, rfl⟩
      · rintro ⟨j, hj, hjm, rfl⟩
        rcases Nat.lt_or_ge j m with h | h
        · exact ⟨j, hj, h, rfl⟩
        · obtain rfl : j = m := by omega
          exact ⟨j - 1, by omega, by omega, h0.2.symm⟩
theorem ascL_spec (xs : List Int) : (ascL xs).Pairwise (· < ·) ∧ ∀ x, x ∈ ascL xs ↔ x ∈ xs := by
  have hs : (xs.mergeSort fun x y => decide (x ≤ y)).Pairwise (· ≤ ·) := by
    have h := List.pairwise_mergeSort (le := fun x y : Int => decide (x ≤ y)) (fun a b c h1 h2 => by simp only [decide_eq_true_eq] at *; omega) (fun a b => by simp only [Bool.or_eq_true, decide_eq_true_eq]; omega) xs
    exact h.imp (fun h => by simpa using h)
  obtain ⟨h1, h2⟩ := asc_aux hs _ (Nat.le_refl _)
  refine ⟨h1, fun x => ?_⟩
  have h3 := h2 x
  unfold ascL compact
  rw [h3, ← List.mem_mergeSort (le := fun x y : Int => decide (x ≤ y)), List.mem_iff_getElem]
  constructor
  · rintro ⟨j, hj, _, e⟩; exact ⟨j, hj, e⟩
  · rintro ⟨j, hj, e⟩; exact ⟨j, hj, hj, e⟩
theorem asc_uniq : ∀ {l r : List Int}, l.Pairwise (· < ·) → r.Pairwise (· < ·) → (∀ x, x ∈ l ↔ x ∈ r) → l = r
  | [], [], _, _, _ => rfl
  | [], y :: r, _, _, h => absurd ((h y).2 (by simp)) (by simp)
  | x :: l, [], _, _, h => absurd ((h x).1 (by simp)) (by simp)
  | x :: l, y :: r, h1, h2, h => by
    obtain ⟨a1, a2⟩ := List.pairwise_cons.1 h1
    obtain ⟨b1, b2⟩ := List.pairwise_cons.1 h2
    have hxy : x = y := by
      have e1 := (h x).1 (by simp)
      have e2 := (h y).2 (by simp)
      rcases List.mem_cons.1 e1 with e1 | e1
      · exact e1
      · rcases List.mem_cons.1 e2 with e2 | e2
        · exact e2.symm
        · have := b1 x e1
          have := a1 y e2
          omega
    subst hxy
    rw [asc_uniq a2 b2 fun z => ?_]
    have hz := h z
    simp only [List.mem_cons] at hz
    constructor
    · intro hm
      rcases hz.1 (.inr hm) with e | e
      · have := a1 z hm; omega
      · exact e
    · intro hm
      rcases hz.2 (.inr hm) with e | e
      · have := b1 z hm; omega
      · exact e
/-- the members of a set, as numbers -/
def memI (n m : Nat) : List Int := (mem n m).map fun (t : Nat) => (t : Int)
theorem memI_asc (n m : Nat) : (memI n m).Pairwise (· < ·) := by
  unfold memI mem
  rw [List.pairwise_map]
  refine (List.Pairwise.filter _ (List.pairwise_lt_range)).imp fun h => by omega
theorem mem_memI {n m : Nat} {x : Int} : x ∈ memI n m ↔ ∃ t : Nat, x = (t : Int) ∧ t < n ∧ m.testBit t = true := by
  unfold memI
  rw [List.mem_map]
  constructor
  · rintro ⟨t, ht, rfl⟩; exact ⟨t, rfl, mem_mem.1 ht⟩
  · rintro ⟨t, rfl, h⟩; exact ⟨t, mem_mem.2 h, rfl⟩
end Go.Proofs.Ytlhpcknpjdeebaa

/- LoopImages, plainly: the pairs of states that one word leads to, in the order in which they are met. -/
namespace Go.Proofs.Ytlhpcknpjdeebaa
set_option linter.unusedVariables false
set_option linter.unusedSimpArgs false

def nxP (f : Int → Nat → Int) (u : Int × Int) (k : Nat) : Int × Int := (f u.1 k, f u.2 k)
/-- one letter: the pairs met so far -/
def metP (f : Int → Nat → Int) (u : Int × Int) (r : List (Int × Int)) (k : Nat) : List (Int × Int) :=
  if (nxP f u k).2 < 0 ∨ nxP f u k ∈ r then r else r ++ [nxP f u k]
/-- the letters below k -/
def rowP (f : Int → Nat → Int) (u : Int × Int) (r : List (Int × Int)) : Nat → List (Int × Int)
  | 0 => r
  | k + 1 => metP f u (rowP f u r k) k
/-- the first k pairs taken -/
def imgP (f : Int → Nat → Int) (L : Nat) (s : Int × Int) : Nat → List (Int × Int)
  | 0 => []
  | k + 1 => match (s :: imgP f L s k)[k]? with
    | none => imgP f L s k
    | some u => rowP f u (imgP f L s k) L
/-- those that lie at q -/
def outP (q : Int) (r : List (Int × Int)) : List Int := (r.filter fun z => decide (z.2 = q)).map (·.1)

theorem metP_pre (f : Int → Nat → Int) (u : Int × Int) (r : List (Int × Int)) (k : Nat) : r <+: metP f u r k := by
  unfold metP; split
  · exact List.prefix_refl _
  · exact ⟨_, rfl⟩
theorem rowP_pre (f : Int → Nat → Int) (u : Int × Int) (r : List (Int × Int)) : ∀ k, r <+: rowP f u r k
  | 0 => List.prefix_refl _
  | k + 1 => (rowP_pre f u r k).trans (metP_pre f u _ k)
theorem imgP_succ {f : Int → Nat → Int} {L : Nat} {s : Int × Int} {k : Nat} {u : Int × Int} (h : (s :: imgP f L s k)[k]? = some u) : imgP f L s (k + 1) = rowP f u (imgP f L s k) L := by
  simp only [imgP, h]
theorem imgP_stop {f : Int → Nat → Int} {L : Nat} {s : Int × Int} {k : Nat} (h : (s :: imgP f L s k)[k]? = none) : imgP f L s (k + 1) = imgP f L s k := by
  simp only [imgP, h]
theorem imgP_pre (f : Int → Nat → Int) (L : Nat) (s : Int × Int) (k : Nat) : imgP f L s k <+: imgP f L s (k + 1) := by
  rcases h : (s :: imgP f L s k)[k]? with _ | u
  · rw [imgP_stop h]; exact List.prefix_refl _
  · rw [imgP_succ h]; exact rowP_pre f u _ L
theorem metP_good {f : Int → Nat → Int} {N : Int} (hf : ∀ s k, -1 ≤ f s k ∧ f s k < N) {u : Int × Int} {r : List (Int × Int)} (h : r.Nodup ∧ ∀ z ∈ r, -1 ≤ z.1 ∧ z.1 < N ∧ 0 ≤ z.2 ∧ z.2 < N) (k : Nat) :
    (metP f u r k).Nodup ∧ ∀ z ∈ metP f u r k, -1 ≤ z.1 ∧ z.1 < N ∧ 0 ≤ z.2 ∧ z.2 < N := by
  unfold metP; split
  · exact h
  · rename_i hc
    rw [not_or] at hc
    refine ⟨List.nodup_append.2 ⟨h.1, by simp, fun a ha b hb => ?_⟩, fun z hz => ?_⟩
    · rw [List.mem_singleton] at hb
      subst hb
      exact fun e => hc.2 (e ▸ ha)
    · rcases List.mem_append.1 hz with hz | hz
      · exact h.2 z hz
      · rw [List.mem_singleton] at hz
        subst hz
        exact ⟨(hf _ _).1, (hf _ _).2, by have := hc.1; omega, (hf _ _).2⟩
theorem rowP_good {f : Int → Nat → Int} {N : Int} (hf : ∀ s k, -1 ≤ f s k ∧ f s k < N) {u : Int × Int} {r : List (Int × Int)} (h : r.Nodup ∧ ∀ z ∈ r, -1 ≤ z.1 ∧ z.1 < N ∧ 0 ≤ z.2 ∧ z.2 < N) : ∀ k : Nat,
    (rowP f u r k).Nodup ∧ ∀ z ∈ rowP f u r k, -1 ≤ z.1 ∧ z.1 < N ∧ 0 ≤ z.2 ∧ z.2 < N
  | 0 => h
  | k + 1 => metP_good hf (rowP_good hf h k) k
theorem imgP_good {f : Int → Nat → Int} {N : Int} (hf : ∀ s k, -1 ≤ f s k ∧ f s k < N) (L : Nat) (s : Int × Int) : ∀ k : Nat,
    (imgP f L s k).Nodup ∧ ∀ z ∈ imgP f L s k, -1 ≤ z.1 ∧ z.1 < N ∧ 0 ≤ z.2 ∧ z.2 < N
  | 0 => ⟨List.nodup_nil, fun z hz => by cases hz⟩
  | k + 1 => by
    rcases h : (s :: imgP f L s k)[k]? with _ | u
    · rw [imgP_stop h]; exact imgP_good hf L s k
    · rw [imgP_succ h]; exact rowP_good hf (imgP_good hf L s k) L
theorem nodup_subN : ∀ (s l : List Nat), s.Nodup → (∀ x ∈ s, x ∈ l) → s.length ≤ l.length
  | [], _, _, _ => Nat.zero_le _
  | x :: s, l, hn, h => by
    obtain ⟨h1, h2⟩ := List.nodup_cons.1 hn
    have hx := h x (by simp)
    have := nodup_subN s (l.erase x) h2 (fun y hy => by
      have hne : y ≠ x := fun e => h1 (e ▸ hy)
      exact (List.mem_erase_of_ne hne).2 (h y (List.mem_cons_of_mem _ hy)))
    rw [List.length_erase_of_mem hx] at this
    have hp := List.length_pos_of_mem hx
    rw [List.length_cons]
    omega
/-- so there are at most (N + 1) * N of them -/
theorem good_len {N : Nat} {r : List (Int × Int)} (h : r.Nodup ∧ ∀ z ∈ r, -1 ≤ z.1 ∧ z.1 < (N : Int) ∧ 0 ≤ z.2 ∧ z.2 < (N : Int)) : r.length ≤ (N + 1) * N := by
  have h1 := nodup_subN (r.map fun z => (z.1 + 1).toNat * N + z.2.toNat) (List.range ((N + 1) * N)) ?_ ?_
  · simpa using h1
  · rw [List.Nodup, List.pairwise_map]
    refine List.Pairwise.imp_of_mem ?_ h.1
    intro a b ha hb hne he
    refine hne ?_
    obtain ⟨a1, a2, a3, a4⟩ := h.2 a ha
    obtain ⟨b1, b2, b3, b4⟩ := h.2 b hb
    have hN : 0 < N := by omega
    have hd : ((a.1 + 1).toNat * N + a.2.toNat) / N = ((b.1 + 1).toNat * N + b.2.toNat) / N := by rw [he]
    have hm : ((a.1 + 1).toNat * N + a.2.toNat) % N = ((b.1 + 1).toNat * N + b.2.toNat) % N := by rw [he]
    rw [Nat.mul_comm, Nat.mul_add_div hN, Nat.div_eq_of_lt (by omega), Nat.mul_comm _ N, Nat.mul_add_div hN, Nat.div_eq_of_lt (by omega)] at hd
    rw [Nat.mul_comm, Nat.mul_add_mod, Nat.mod_eq_of_lt (by omega), Nat.mul_comm _ N, Nat.mul_add_mod, Nat.mod_eq_of_lt (by omega)] at hm
    exact Prod.ext (by omega) (by omega)
  · intro x hx
    obtain ⟨z, hz, rfl⟩ := List.mem_map.1 hx
    obtain ⟨z1, z2, z3, z4⟩ := h.2 z hz
    rw [List.mem_range]
    have h2 : (z.1 + 1).toNat * N ≤ N * N := Nat.mul_le_mul_right _ (by omega)
    rw [Nat.add_mul]
    omega
/-- the numbers at q: each once, in bounds -/
theorem outP_good {N q : Int} {r : List (Int × Int)} (h : r.Nodup ∧ ∀ z ∈ r, -1 ≤ z.1 ∧ z.1 < N ∧ 0 ≤ z.2 ∧ z.2 < N) : (outP q r).Nodup ∧ ∀ x ∈ outP q r, -1 ≤ x ∧ x < N := by
  refine ⟨?_, fun x hx => ?_⟩
  · unfold outP
    rw [List.Nodup, List.pairwise_map]
    refine List.Pairwise.imp_of_mem ?_ (List.Pairwise.filter _ h.1)
    intro a b ha hb hne he
    refine hne ?_
    have ha2 := of_decide_eq_true (List.mem_filter.1 ha).2
    have hb2 := of_decide_eq_true (List.mem_filter.1 hb).2
    exact Prod.ext he (ha2.trans hb2.symm)
  · obtain ⟨z, hz, rfl⟩ := List.mem_map.1 hx
    have := h.2 z (List.mem_filter.1 hz).1
    exact ⟨this.1, this.2.1⟩
theorem mem_outP {q x : Int} {r : List (Int × Int)} : x ∈ outP q r ↔ (x, q) ∈ r := by
  unfold outP
  rw [List.mem_map]
  constructor
  · rintro ⟨z, hz, rfl⟩
    obtain ⟨h1, h2⟩ := List.mem_filter.1 hz
    rw [← of_decide_eq_true h2]
    exact h1
  · intro h
    exact ⟨_, List.mem_filter.2 ⟨h, by simp⟩, rfl⟩
theorem outP_metP_new {f : Int → Nat → Int} {u : Int × Int} {r : List (Int × Int)} {k : Nat} {q : Int} (h : ¬ ((nxP f u k).2 < 0 ∨ nxP f u k ∈ r)) :
    outP q (metP f u r k) = if (nxP f u k).2 = q then outP q r ++ [(nxP f u k).1] else outP q r := by
  unfold metP outP
  rw [if_neg h]
  by_cases hq : (nxP f u k).2 = q <;> simp [hq]
/-- the reference's side: a pair met again adds nothing -/
theorem mem_outP_metP {f : Int → Nat → Int} {u : Int × Int} {r : List (Int × Int)} {k : Nat} {q : Int} (hz : ¬ (nxP f u k).2 < 0) (x : Int) :
    x ∈ outP q (metP f u r k) ↔ x ∈ outP q r ∨ ((nxP f u k).2 = q ∧ x = (nxP f u k).1) := by
  rw [mem_outP, mem_outP]
  unfold metP
  by_cases hr : nxP f u k ∈ r
  · rw [if_pos (.inr hr)]
    constructor
    · exact .inl
    · rintro (h | ⟨h1, rfl⟩)
      · exact h
      · rw [← h1]; exact hr
  · rw [if_neg (by rw [not_or]; exact ⟨hz, hr⟩), List.mem_append, List.mem_singleton]
    constructor
    · rintro (h | h)
      · exact .inl h
      · exact .inr ⟨by rw [← h], by rw [← h]⟩
    · rintro (h | ⟨h1, h2⟩)
      · exact .inl h
      · exact .inr (Prod.ext h2 h1.symm)
/-- all pairs taken: nothing more comes -/
theorem imgP_still {f : Int → Nat → Int} {L : Nat} {s : Int × Int} {k : Nat} (h : (imgP f L s k).length < k) : ∀ j, imgP f L s (k + j) = imgP f L s k
  | 0 => rfl
  | j + 1 => by
    have ih := imgP_still h j
    rw [← Nat.add_assoc, imgP_stop, ih]
    rw [ih]
    exact List.getElem?_eq_none (by simp; omega)

end Go.Proofs.Ytlhpcknpjdeebaa

/- What the counter's memory holds: counts of places, each once. -/
namespace Go.Proofs.Ytlhpcknpjdeebaa
set_option linter.unusedVariables false
set_option linter.unusedSimpArgs false
open Go.ChangeShapes Go.WideShapes Go.ChangeAt Go.RowKit Go.Maps
theorem wf_nat {x : Nat} (h : x ≤ 9223372036854775807) : (Lit.int .i64 (x : Int)).wf = true := by
  have e1 : IntKind.i64.min = -9223372036854775808 := by decide
  have e2 : IntKind.i64.max = 9223372036854775807 := by decide
  simp [Lit.wf, IntKind.wrap] <;> omega
abbrev Plc := Nat × Nat × Nat
def plcOk (z : Plc) : Prop := z.1 < 5 ∧ z.2.1 < 4096 ∧ z.2.2 ≤ 60
structure MemD {H : Type} (g : Gr) (a : Au) (y : Int) (D : DataW H) (M : List Plc) : Prop where
  map : IsMap D
  nod : M.Nodup
  rng : ∀ z ∈ M, plcOk z
  has : ∀ z : Plc, plcOk z → Maps.has D (plKey z.1 z.2.1 z.2.2) = decide (z ∈ M)
  val : ∀ z ∈ M, D.atKey (plKey z.1 z.2.1 z.2.2) (.lit (.int .i64 0)) = .lit (.int .i64 (cw g a y z.2.2 z.1 z.2.1 : Nat))
theorem plKey_nat {z z' : Plc} (h : plcOk z) (h' : plcOk z') (e : plKey z.1 z.2.1 z.2.2 = plKey z'.1 z'.2.1 z'.2.2) : z = z' := by
  obtain ⟨x, s, f⟩ := z
  obtain ⟨x', s', f'⟩ := z'
  unfold plcOk at h h'
  simp only at h h' e
  obtain ⟨h1, h2, h3⟩ := plKey_inj (wf_nat (by omega)) (wf_nat (by omega)) (wf_nat (by omega)) (wf_nat (by omega)) (wf_nat (by omega)) (wf_nat (by omega)) e
  simp only [Prod.mk.injEq]
  omega
theorem MemD.empty {H : Type} (g : Gr) (a : Au) (y : Int) : MemD g a y (.map [] : DataW H) [] :=
  ⟨isMap_empty, List.nodup_nil, (fun z hz => by cases hz), (fun z _ => by simp [Maps.has_eq]), (fun z hz => by cases hz)⟩
theorem MemD.put {H : Type} {g : Gr} {a : Au} {y : Int} {D : DataW H} {M : List Plc} (h : MemD g a y D M) {z : Plc} (hz : plcOk z) (hn : z ∉ M) :
    MemD g a y (D.put (plKey z.1 z.2.1 z.2.2) (.lit (.int .i64 (cw g a y z.2.2 z.1 z.2.1 : Nat)))) (M ++ [z]) := by
  refine ⟨h.map.put _ _, List.nodup_append.2 ⟨h.nod, by simp, fun b hb c hc e => ?_⟩, fun u hu => ?_, fun u hu => ?_, fun u hu => ?_⟩
  · rw [List.mem_singleton] at hc
    subst hc e
    exact hn hb
  · rcases List.mem_append.1 hu with hu | hu
    · exact h.rng u hu
    · rw [List.mem_singleton] at hu
      subst hu
      exact hz
  · by_cases e : u = z
    · subst e
      rw [Maps.has_put_same h.map (show WideAt.IsKeyLit (plKey u.1 u.2.1 u.2.2) from trivial)]
      simp
    · rw [Maps.has_put_other (fun e2 => e (plKey_nat hu hz e2)), h.has u hu, decide_eq_decide, List.mem_append, List.mem_singleton]
      exact ⟨.inl, fun h => h.resolve_right e⟩
  · by_cases e : u = z
    · subst e
      rw [atKey_put_same h.map (show WideAt.IsKeyLit (plKey u.1 u.2.1 u.2.2) from trivial)]
    · have hu2 : u ∈ M := by
        rcases List.mem_append.1 hu with hu | hu
        · exact hu
        · rw [List.mem_singleton] at hu; exact absurd hu e
      rw [atKey_put_other (fun e2 => e (plKey_nat (h.rng u hu2) hz e2))]
      exact h.val u hu2
theorem MemD.len {H : Type} {g : Gr} {a : Au} {y : Int} {D : DataW H} {M : List Plc} (h : MemD g a y D M) : M.length ≤ 1249280 := by
  have h1 := nodup_subN (M.map fun z => (z.1 * 4096 + z.2.1) * 61 + z.2.2) (List.range 1249280) ?_ ?_
  · simpa using h1
  · rw [List.Nodup, List.pairwise_map]
    refine List.Pairwise.imp_of_mem ?_ h.nod
    intro b c hb hc hne he
    refine hne ?_
    have hb := h.rng b hb
    have hc := h.rng c hc
    unfold plcOk at hb hc
    exact Prod.ext (by omega) (Prod.ext (by omega) (by omega))
  · intro u hu
    obtain ⟨z, hz, rfl⟩ := List.mem_map.1 hu
    have hz := h.rng z hz
    unfold plcOk at hz
    rw [List.mem_range]
    omega
end Go.Proofs.Ytlhpcknpjdeebaa

/- The walks by their numbers, plainly: the layers' rows tell the same arcs as the recursion, and number n is picked alike. -/
namespace Go.Proofs.Ytlhpcknpjdeebaa
set_option linter.unusedVariables false
set_option linter.unusedSimpArgs false
open Go.ChangeShapes Go.WideShapes Go.ChangeAt Go.RowKit

/-! ### A layer's row beside the arcs of its node -/
inductive RowR (g : Gr) (a : Au) (x s : Nat) (N : List Key) : List Arc → List (St × Nat) → Prop
  | nil : RowR g a x s N [] []
  | skip {p : Arc} {l : List Arc} {T : List (St × Nat)} : aft a s (valAt g x) p.2.1.toNat = 0 → RowR g a x s N l T → RowR g a x s N (p :: l) T
  | take {p : Arc} {l : List Arc} {T : List (St × Nat)} {i : Nat} : aft a s (valAt g x) p.2.1.toNat ≠ 0 → N[i]? = some (p.2.2.toNat, aft a s (valAt g x) p.2.1.toNat) → RowR g a x s N l T → RowR g a x s N (p :: l) ((p.1, i) :: T)
theorem RowR.more {g : Gr} {a : Au} {x s : Nat} {N : List Key} {l : List Arc} {T : List (St × Nat)} (h : RowR g a x s N l T) (N3 : List Key) : RowR g a x s (N ++ N3) l T := by
  induction h with
  | nil => exact .nil
  | skip h1 _ ih => exact .skip h1 ih
  | take h1 h2 _ ih => exact .take h1 (by rw [List.getElem?_append_left (List.getElem?_eq_some_iff.1 h2).1]; exact h2) ih
theorem RowR.app {g : Gr} {a : Au} {x s : Nat} {N : List Key} {l l' : List Arc} {T T' : List (St × Nat)} (h : RowR g a x s N l T) (h' : RowR g a x s N l' T') : RowR g a x s N (l ++ l') (T ++ T') := by
  induction h with
  | nil => exact h'
  | skip h1 _ ih => exact .skip h1 ih
  | take h1 h2 _ ih => exact .take h1 h2 ih
/-- the fold of a row's making, told at each prefix of the arcs -/
def rowTk (g : Gr) (a : Au) (N : List Key) (x s k : Nat) : LSt := ((arcsOf g (x : Int)).take k).foldl (arcL g a x s) (N, [])
theorem rowTk_succ {g : Gr} {a : Au} {N : List Key} {x s k : Nat} {p : Arc} (h : (arcsOf g (x : Int))[k]? = some p) : rowTk g a N x s (k + 1) = arcL g a x s (rowTk g a N x s k) p := foldl_take h _
theorem rowTk_all (g : Gr) (a : Au) (N : List Key) (x s : Nat) : rowTk g a N x s (arcsOf g (x : Int)).length = rowL g a N x s := by rw [rowTk, List.take_length]; rfl
theorem arcs_row {g : Gr} {a : Au} {x s : Nat} : ∀ (l : List Arc) (N : List Key) (T : List (St × Nat)),
    ∃ N2 T2, l.foldl (arcL g a x s) (N, T) = (N ++ N2, T ++ T2) ∧ RowR g a x s (N ++ N2) l T2
  | [], N, T => ⟨[], [], by simp, .nil⟩
  | p :: l, N, T => by
    by_cases h0 : aft a s (valAt g x) p.2.1.toNat = 0
    · obtain ⟨N2, T2, h1, h2⟩ := arcs_row (g := g) (a := a) (x := x) (s := s) l N T
      exact ⟨N2, T2, by rw [List.foldl_cons, arcL, if_pos h0, h1], .skip h0 h2⟩
    · cases hf : findK N (p.2.2.toNat, aft a s (valAt g x) p.2.1.toNat) with
      | some i =>
        obtain ⟨N2, T2, h1, h2⟩ := arcs_row (g := g) (a := a) (x := x) (s := s) l N (T ++ [(p.1, i)])
        have hk := findK_some hf
        refine ⟨N2, (p.1, i) :: T2, by rw [List.foldl_cons, arcL, if_neg h0]; simp only [hf]; rw [h1, List.append_assoc]; rfl, .take h0 ?_ h2⟩
        rw [List.getElem?_append_left (List.getElem?_eq_some_iff.1 hk).1]; exact hk
      | none =>
        obtain ⟨N2, T2, h1, h2⟩ := arcs_row (g := g) (a := a) (x := x) (s := s) l (N ++ [(p.2.2.toNat, aft a s (valAt g x) p.2.1.toNat)]) (T ++ [(p.1, N.length)])
        refine ⟨(p.2.2.toNat, aft a s (valAt g x) p.2.1.toNat) :: N2, (p.1, N.length) :: T2, by rw [List.foldl_cons, arcL, if_neg h0]; simp only [hf]; rw [h1, List.append_assoc, List.append_assoc]; rfl, .take h0 ?_ ?_⟩
        · rw [List.getElem?_append_right (Nat.le_refl _), Nat.sub_self]; rfl
        · simpa using h2
theorem rowL_row (g : Gr) (a : Au) (N : List Key) (x s : Nat) : ∃ N2, (rowL g a N x s).1 = N ++ N2 ∧ RowR g a x s (N ++ N2) (arcsOf g (x : Int)) (rowL g a N x s).2 := by
  obtain ⟨N2, T2, h1, h2⟩ := arcs_row (g := g) (a := a) (x := x) (s := s) (arcsOf g (x : Int)) N []
  rw [List.nil_append] at h1
  exact ⟨N2, by rw [rowL, h1], by rw [rowL, h1]; exact h2⟩
/-- the layer, told at each prefix of its rows -/
def layTo (g : Gr) (a : Au) (last : List Key) (i : Nat) : List Key × List (List (St × Nat)) :=
  (last.take i).foldl (fun st k => ((rowL g a st.1 k.1 k.2).1, st.2 ++ [(rowL g a st.1 k.1 k.2).2])) ([], [])
theorem layTo_succ {g : Gr} {a : Au} {last : List Key} {i : Nat} {k : Key} (h : last[i]? = some k) :
    layTo g a last (i + 1) = ((rowL g a (layTo g a last i).1 k.1 k.2).1, (layTo g a last i).2 ++ [(rowL g a (layTo g a last i).1 k.1 k.2).2]) := by
  rw [layTo, foldl_take h]; rfl
def layA (g : Gr) (a : Au) (last : List Key) : List Key × List (List (St × Nat)) := layTo g a last last.length
theorem layTo_row (g : Gr) (a : Au) (last : List Key) : ∀ i, i ≤ last.length → (layTo g a last i).2.length = i ∧ ∀ (j : Nat) (k : Key) (T : List (St × Nat)), last[j]? = some k → (layTo g a last i).2[j]? = some T → RowR g a k.1 k.2 (layTo g a last i).1 (arcsOf g (k.1 : Int)) T
  | 0, _ => ⟨rfl, fun j k T _ hT => by simp [layTo] at hT⟩
  | i + 1, hi => by
    obtain ⟨h1, h2⟩ := layTo_row g a last i (by omega)
    have hk : last[i]? = some last[i] := List.getElem?_eq_getElem (by omega)
    generalize last[i] = k0 at hk
    obtain ⟨N2, g1, g2⟩ := rowL_row g a (layTo g a last i).1 k0.1 k0.2
    rw [layTo_succ hk]
    refine ⟨by simp [h1], fun j k T hj hT => ?_⟩
    simp only at hT ⊢
    rcases Nat.lt_or_ge j i with hlt | hge
    · rw [List.getElem?_append_left (by omega)] at hT
      rw [g1]
      exact (h2 j k T hj hT).more N2
    · rw [List.getElem?_append_right (by omega), h1] at hT
      have hj0 : j - i = 0 := by
        have := (List.getElem?_eq_some_iff.1 hT).1
        simp at this; omega
      rw [hj0] at hT
      simp only [List.getElem?_cons_zero, Option.some.injEq] at hT
      obtain rfl : j = i := by omega
      rw [hk] at hj
      injection hj with hj
      subst hj hT
      rw [g1]
      exact g2
theorem layA_row (g : Gr) (a : Au) (last : List Key) : (layA g a last).2.length = last.length ∧ ∀ (j : Nat) (k : Key) (T : List (St × Nat)), last[j]? = some k → (layA g a last).2[j]? = some T → RowR g a k.1 k.2 (layA g a last).1 (arcsOf g (k.1 : Int)) T := layTo_row g a last _ (Nat.le_refl _)

/-! ### Counting -/
theorem RowR.cnt {g : Gr} {a : Au} {y : Int} {f x s : Nat} {N : List Key} {C : List Nat} (hC : ∀ i k, N[i]? = some k → C.getD i 0 = cw g a y f k.1 k.2) {l : List Arc} {T : List (St × Nat)} (h : RowR g a x s N l T) :
    ∀ n, n ≤ 1000000 → T.foldl (cntL C) n = l.foldl (cwStep g a (cw g a y f) x s) n := by
  induction h with
  | nil => intro n _; rfl
  | skip h1 _ ih =>
    intro n hn
    rw [List.foldl_cons, cwStep, h1, cw_none, Nat.add_zero, Nat.min_eq_right hn]
    exact ih n hn
  | take h1 h2 _ ih =>
    intro n hn
    rw [List.foldl_cons, List.foldl_cons, cntL, cwStep, hC _ _ h2]
    exact ih _ (Nat.min_le_left _ _)

/-! ### Picking -/
/-- the first of l before which fewer than n are counted: and what is left of n -/
def pick {α : Type} (k : α → Nat) : List α → Nat → Option (α × Nat)
  | [], _ => none
  | p :: l, n => if n < k p then some (p, n) else pick k l (n - k p)
def cwAt (g : Gr) (a : Au) (y : Int) (f x s : Nat) (p : Arc) : Nat := cw g a y f p.2.2.toNat (aft a s (valAt g x) p.2.1.toNat)
theorem RowR.pick {g : Gr} {a : Au} {y : Int} {f x s : Nat} {N : List Key} {C : List Nat} (hC : ∀ i k, N[i]? = some k → C.getD i 0 = cw g a y f k.1 k.2) {l : List Arc} {T : List (St × Nat)} (h : RowR g a x s N l T) :
    ∀ n, (pick (fun e : St × Nat => C.getD e.2 0) T n = none ∧ Go.Proofs.Ytlhpcknpjdeebaa.pick (cwAt g a y f x s) l n = none) ∨
      ∃ p i n', pick (fun e : St × Nat => C.getD e.2 0) T n = some ((p.1, i), n') ∧ Go.Proofs.Ytlhpcknpjdeebaa.pick (cwAt g a y f x s) l n = some (p, n') ∧ N[i]? = some (p.2.2.toNat, aft a s (valAt g x) p.2.1.toNat) ∧ p ∈ l := by
  induction h with
  | nil => intro n; exact .inl ⟨rfl, rfl⟩
  | @skip p0 l0 T0 h1 _ ih =>
    intro n
    have hz : ¬ n < cwAt g a y f x s p0 := by rw [cwAt, h1, cw_none]; omega
    have hz2 : n - cwAt g a y f x s p0 = n := by rw [cwAt, h1, cw_none]; omega
    rcases ih n with ⟨e1, e2⟩ | ⟨p, i, n', e1, e2, e3, e4⟩
    · exact .inl ⟨e1, by rw [Go.Proofs.Ytlhpcknpjdeebaa.pick, if_neg hz, hz2, e2]⟩
    · exact .inr ⟨p, i, n', e1, by rw [Go.Proofs.Ytlhpcknpjdeebaa.pick, if_neg hz, hz2, e2], e3, List.mem_cons_of_mem _ e4⟩
  | @take p l T i h1 h2 _ ih =>
    intro n
    have hc : C.getD i 0 = cwAt g a y f x s p := hC _ _ h2
    by_cases hn : n < cwAt g a y f x s p
    · exact .inr ⟨p, i, n, by rw [Go.Proofs.Ytlhpcknpjdeebaa.pick, if_pos (by rw [hc]; exact hn)], by rw [Go.Proofs.Ytlhpcknpjdeebaa.pick, if_pos hn], h2, List.mem_cons_self ..⟩
    · rcases ih (n - cwAt g a y f x s p) with ⟨e1, e2⟩ | ⟨p', i', n', e1, e2, e3, e4⟩
      · exact .inl ⟨by rw [Go.Proofs.Ytlhpcknpjdeebaa.pick, if_neg (by rw [hc]; exact hn)]; simp only [hc]; exact e1, by rw [Go.Proofs.Ytlhpcknpjdeebaa.pick, if_neg hn, e2]⟩
      · exact .inr ⟨p', i', n', by rw [Go.Proofs.Ytlhpcknpjdeebaa.pick, if_neg (by rw [hc]; exact hn)]; simp only [hc]; exact e1, by rw [Go.Proofs.Ytlhpcknpjdeebaa.pick, if_neg hn, e2], e3, List.mem_cons_of_mem _ e4⟩
/-- what is left of n when the first i are passed over -/
def leftN {α : Type} (k : α → Nat) (l : List α) (n : Nat) : Nat := l.foldl (fun m p => m - k p) n
theorem pick_skip {α : Type} {k : α → Nat} : ∀ {l : List α} {i n : Nat}, (∀ j p, j < i → l[j]? = some p → ¬ leftN k (l.take j) n < k p) → i ≤ l.length → pick k l n = pick k (l.drop i) (leftN k (l.take i) n)
  | l, 0, n, _, _ => by simp [leftN]
  | [], i + 1, n, _, h => by simp at h
  | p :: l, i + 1, n, h, hi => by
    have h0 := h 0 p (by omega) rfl
    simp only [List.take_zero, leftN, List.foldl_nil] at h0
    rw [pick, if_neg h0, pick_skip (l := l) (i := i) (n := n - k p) (fun j q hj hq => ?_) (by simpa using hi)]
    · simp [leftN]
    · have := h (j + 1) q (by omega) (by simpa using hq)
      simpa [leftN] using this
theorem pick_fold {g : Gr} {a : Au} {y : Int} {f x s : Nat} : ∀ (l : List Arc) (n m : Nat), m ≤ 1000000 → n + m < l.foldl (cwStep g a (cw g a y f) x s) m → ∃ p n', pick (cwAt g a y f x s) l n = some (p, n') ∧ n' < cwAt g a y f x s p ∧ p ∈ l
  | [], n, m, _, h => by simp only [List.foldl_nil] at h; omega
  | p :: l, n, m, hm, h => by
    by_cases hn : n < cwAt g a y f x s p
    · exact ⟨p, n, by rw [pick, if_pos hn], hn, List.mem_cons_self ..⟩
    · have hle : cwStep g a (cw g a y f) x s m p ≤ 1000000 := Nat.min_le_left _ _
      rw [List.foldl_cons] at h
      have hs : cwStep g a (cw g a y f) x s m p = min 1000000 (m + cwAt g a y f x s p) := rfl
      have hmn : min 1000000 (m + cwAt g a y f x s p) ≤ m + cwAt g a y f x s p := Nat.min_le_right _ _
      obtain ⟨p', n', e1, e2, e3⟩ := pick_fold l (n - cwAt g a y f x s p) (cwStep g a (cw g a y f) x s m p) hle (Nat.lt_of_le_of_lt (show n - cwAt g a y f x s p + cwStep g a (cw g a y f) x s m p ≤ n + m by have hS : cwStep g a (cw g a y f) x s m p ≤ m + cwAt g a y f x s p := hmn; omega) h)
      exact ⟨p', n', by rw [pick, if_neg hn, e1], e2, List.mem_cons_of_mem _ e3⟩
theorem pick_cw {g : Gr} {a : Au} {y : Int} {f x s n : Nat} (h : n < cw g a y (f + 1) x s) : ∃ p n', pick (cwAt g a y f x s) (arcsOf g (x : Int)) n = some (p, n') ∧ n' < cwAt g a y f x s p ∧ p ∈ arcsOf g (x : Int) :=
  pick_fold _ n 0 (by omega) (by simpa [cw] using h)
/-- walk number n's steps -/
def nthL (g : Gr) (a : Au) (y : Int) : Nat → Nat → Nat → Nat → List St
  | 0, _, _, _ => []
  | f + 1, x, s, n => match pick (cwAt g a y f x s) (arcsOf g (x : Int)) n with
    | none => []
    | some (p, n') => p.1 :: nthL g a y f p.2.2.toNat (aft a s (valAt g x) p.2.1.toNat) n'
theorem nthL_succ {g : Gr} {a : Au} {y : Int} {f x s n n' : Nat} {p : Arc} (h : pick (cwAt g a y f x s) (arcsOf g (x : Int)) n = some (p, n')) :
    nthL g a y (f + 1) x s n = p.1 :: nthL g a y f p.2.2.toNat (aft a s (valAt g x) p.2.1.toNat) n' := by rw [nthL]; simp only [h]
theorem nthL_len {g : Gr} {a : Au} {y : Int} : ∀ {f x s n : Nat}, n < cw g a y f x s → (nthL g a y f x s n).length = f
  | 0, _, _, _, _ => rfl
  | f + 1, x, s, n, h => by
    obtain ⟨p, n', e1, e2, -⟩ := pick_cw h
    rw [nthL_succ e1, List.length_cons, nthL_len e2]
end Go.Proofs.Ytlhpcknpjdeebaa

/- Plain: the rows of arcs, edge by edge. -/
namespace Go.Proofs.Ytlhpcknpjdeebaa
set_option linter.unusedVariables false
set_option linter.unusedSimpArgs false
/-- the arcs of all nodes by the first i edges -/
def rowsTo (g : Gr) (i : Nat) : List (List Arc) := (List.range g.vals.length).map fun (x : Nat) => (g.edges.take i).flatMap (arcE (x : Int))
theorem rowsTo_at {g : Gr} {i x : Nat} (h : x < g.vals.length) : (rowsTo g i)[x]? = some ((g.edges.take i).flatMap (arcE (x : Int))) := by simp [rowsTo, h]
theorem rowsTo_len (g : Gr) (i : Nat) : (rowsTo g i).length = g.vals.length := by simp [rowsTo]
theorem rowsTo_zero (g : Gr) : rowsTo g 0 = List.replicate g.vals.length [] := by
  apply List.ext_getElem?
  intro x
  simp only [rowsTo, List.take_zero, List.flatMap_nil, List.getElem?_map, List.getElem?_replicate, List.getElem?_range]
  by_cases h : x < g.vals.length
  · simp [h]
  · simp [h]
def rowFrom (g : Gr) (i : Nat) (e : Ed) : List (List Arc) := (rowsTo g i).set e.2.1.toNat ((g.edges.take i).flatMap (arcE e.2.1) ++ [((e.1, false), arcLetter false e, e.2.2.1)])
def rowBack (g : Gr) (i : Nat) (e : Ed) : List Arc := (g.edges.take i).flatMap (arcE e.2.2.1) ++ if e.2.1 = e.2.2.1 then [((e.1, false), arcLetter false e, e.2.2.1)] else []
theorem rowFrom_at {g : Gr} {i : Nat} {e : Ed} (h0 : 0 ≤ e.2.1) (hn : e.2.1 ≤ (g.vals.length : Int) - 1) (h1 : 0 ≤ e.2.2.1) (h2 : e.2.2.1 ≤ (g.vals.length : Int) - 1) : (rowFrom g i e)[e.2.2.1.toNat]? = some (rowBack g i e) := by
  unfold rowFrom rowBack
  rw [List.getElem?_set]
  by_cases h : e.2.1 = e.2.2.1
  · rw [if_pos (by rw [h]), if_pos (by rw [rowsTo_len]; omega), if_pos h, h]
  · rw [if_neg (by omega), if_neg h, rowsTo_at (by omega), Int.toNat_of_nonneg h1]; simp
theorem rowsTo_push {g : Gr} {i : Nat} {e : Ed} (he : g.edges[i]? = some e) (h0 : 0 ≤ e.2.1) (hn : e.2.1 ≤ (g.vals.length : Int) - 1) (h1 : 0 ≤ e.2.2.1) (h2 : e.2.2.1 ≤ (g.vals.length : Int) - 1) :
    (rowFrom g i e).set e.2.2.1.toNat (rowBack g i e ++ [((e.1, true), arcLetter true e, e.2.1)]) = rowsTo g (i + 1) := by
  apply List.ext_getElem?
  intro x
  by_cases hx : x < g.vals.length
  · rw [rowsTo_at hx, flat_take he, List.getElem?_set]
    unfold rowFrom rowBack
    rw [List.length_set, rowsTo_len]
    by_cases hb : e.2.2.1 = (x : Int)
    · rw [if_pos (by omega), if_pos (by omega)]
      congr 1
      rw [hb, List.append_assoc]
      congr 1
      unfold arcE arcLetter
      by_cases hf : e.2.1 = (x : Int)
      · simp [hf, hb]
      · simp [hf, hb]
    · rw [if_neg (by omega), List.getElem?_set, rowsTo_len]
      by_cases hf : e.2.1 = (x : Int)
      · rw [if_pos (by omega), if_pos (by omega)]
        congr 1
        rw [hf]
        congr 1
        unfold arcE arcLetter
        simp [hf, hb]
      · rw [if_neg (by omega), rowsTo_at hx]
        congr 1
        unfold arcE
        simp [hf, hb]
  · rw [List.getElem?_eq_none (by rw [List.length_set, rowFrom, List.length_set, rowsTo_len]; omega), List.getElem?_eq_none (by rw [rowsTo_len]; omega)]
theorem rowsTo_all (g : Gr) : rowsTo g g.edges.length = (List.range g.vals.length).map fun (x : Nat) => arcsOf g (x : Int) := by
  unfold rowsTo arcsOf
  rw [List.take_length]

end Go.Proofs.Ytlhpcknpjdeebaa

/- The program's functions on automata. -/
namespace Go.Proofs.Ytlhpcknpjdeebaa
set_option linter.unusedVariables false
set_option linter.unusedSimpArgs false
open Go.ChangeShapes Go.WideShapes Go.ChangeAt Go.RowKit
attribute [local go_sem] ext_cell ext_frozen ext_lt ext_lt1 ext_lt2 ext_lt3 ltn2 ltn3 ltn13 lts1 lts2 lts3

theorem within_any (n a b : Int) (w : World) : Calls Try.prog 44 #[.int .i64 n, .int .i64 a, .int .i64 b] w fun e w' => e = .returned (.bool (wi n a b)) ∧ w' = w := by
  unfold wi
  by_cases h1 : a ≤ n
  · have e1 : decide (a ≤ n) = true := by simpa using h1
    by_cases h2 : n ≤ b
    · go_enter Try.func44, Try.ntmps44
      go_wp2
      go_ret
      exact ⟨by simp [h1, h2], rfl⟩
    · go_enter Try.func44, Try.ntmps44
      go_wp2
      go_ret
      exact ⟨by simp [h1]; try omega, rfl⟩
  · have e1 : decide (a ≤ n) = false := by simpa using h1
    go_enter Try.func44, Try.ntmps44
    go_wp2
    go_ret
    exact ⟨by simp [h1]; try omega, rfl⟩

set_option maxHeartbeats 1000000 in
theorem implValidAutomaton (v : Value) (a : Au) (w : World) (hv : AuV 0 w.heap.size w v a) :
    Calls Try.prog 96 #[v] w fun e w' => e = .returned (.bool (auOk a)) ∧ Below w.heap.size w w' := by
  obtain ⟨ac, nx, rfl, ⟨A1, c1, rfl, hl1, hm1, -⟩, us, ⟨A2, c2, rfl, hl2, hm2, hx2⟩, hul, hrows⟩ := hv
  rw [hul] at hl2 ⊢
  have HU := Lib.hid hul
  clear hul
  unfold maxLen at hm1 hm2
  have hb0 : Below w.heap.size w (w.alloc (.cells #[.int .i64 a.start, .slice A1 a.accept.length c1, .slice A2 a.next.length c2] 41)) := (Below.refl _ _).alloc (Nat.le_refl _) _
  have HW := Lib.hid within_any
  by_cases g1 : wi a.accept.length 1 12 = true
  · by_cases g2 : wi a.start 0 ((a.accept.length : Int) - 1) = true
    · by_cases g3 : a.next.length = a.accept.length
      · have HG3 := Lib.hid g3
        have g3' : ((a.next.length : Int) != (a.accept.length : Int)) = false := by simp; omega
        have hr : auOk a = a.next.all (rowOk a.accept.length) := by simp [auOk, g1, g2, g3]
        have HR := Lib.hid hr
        clear hr g3
        obtain ⟨hn1, hn2⟩ := wi_iff.1 g1
        go_enter Try.func96, Try.ntmps96
        go_wp2_with (go_at_call 44; refine (HW.out _ _ _ _).mono ?_; rintro e w' ⟨rfl, rfl⟩)
        go_loop [32] (fun ii => ∃ i : Nat, i ≤ a.next.length ∧ ii = .int .i64 i ∧ (a.next.take i).all (rowOk a.accept.length) = true) (fun ii => a.next.length - (intOf ii).toNat)
        case atStart => exact ⟨0, Nat.zero_le _, rfl, rfl⟩
        case round =>
          obtain ⟨i, hi, rfl, hall⟩ := hrel
          have HA := Lib.hid hall
          clear hall
          by_cases hlt : i < a.next.length
          · obtain ⟨u, hu⟩ : ∃ u, us[i]? = some u := ⟨_, List.getElem?_eq_getElem (by have := HU.out; omega)⟩
            obtain ⟨b, o, rfl, -, hb1, hc⟩ := hx2 i u hu
            have hxi : a.next[i]? = some a.next[i] := List.getElem?_eq_getElem hlt
            have hvi := hrows i u _ hu hxi
            generalize a.next[i] = row at hvi hxi
            have c0 := hc 0 _ rfl
            simp only [Nat.mul_one, Nat.add_zero] at c0
            obtain ⟨A3, c3, rfl, hl3, hm3, hx3⟩ := hvi
            unfold maxLen at hm3
            have HX := Lib.hid hxi
            clear hc hx2 hu hxi hrows
            go_wp2_with fail
            go_loop [38] (fun jj => ∃ j : Nat, j ≤ row.length ∧ jj = .int .i64 j ∧ (row.take j).all (fun t => wi t (-1) ((a.accept.length : Int) - 1)) = true) (fun jj => row.length - (intOf jj).toNat)
            case atStart => exact ⟨0, Nat.zero_le _, rfl, rfl⟩
            case round =>
              obtain ⟨j, hj, rfl, hall2⟩ := hrel
              have HB := Lib.hid hall2
              clear hall2
              by_cases hlt2 : j < row.length
              · have hxj : row[j]? = some row[j] := List.getElem?_eq_getElem hlt2
                obtain ⟨b2, o2, rfl, -, hb2, hc2⟩ := hx3 j _ hxj
                generalize row[j] = t at hc2 hxj
                have d0 := hc2 0 _ rfl
                simp only [Nat.mul_one, Nat.add_zero] at d0
                have HXJ := Lib.hid hxj
                clear hc2 hx3 hxj
                by_cases g4 : wi t (-1) ((a.accept.length : Int) - 1) = true
                · go_wp2_with (go_at_call 44; refine (HW.out _ _ _ _).mono ?_; rintro e w' ⟨rfl, rfl⟩)
                  go_round
                  case rel => exact ⟨j + 1, by omega, by go_num, all_take_succ HXJ.out HB.out g4⟩
                  case measure => simp [intOf]; omega
                · simp only [Bool.not_eq_true] at g4
                  have hfin : auOk a = false := by
                    rw [HR.out]
                    refine all_false_of HX.out ?_
                    rw [rowOk, all_false_of HXJ.out g4]
                    rfl
                  have HF := Lib.hid hfin
                  clear hfin
                  go_wp2_with (go_at_call 44; refine (HW.out _ _ _ _).mono ?_; rintro e w' ⟨rfl, rfl⟩)
                  go_ret
                  exact ⟨by rw [HF.out]; rfl, hb0⟩
              · obtain rfl : j = row.length := by omega
                have hall3 : row.all (fun t => wi t (-1) ((a.accept.length : Int) - 1)) = true := by have := HB.out; rwa [List.take_length] at this
                have H3 := Lib.hid hall3
                clear hall3
                clear hx3
                by_cases g9 : row.length = 9
                · have g9' : ((row.length : Int) != 9) = false := by simp; omega
                  have hok : rowOk a.accept.length row = true := by rw [rowOk, H3.out, g9]; rfl
                  have HO := Lib.hid hok
                  clear hok g9
                  go_wp2_with fail
                  go_round
                  case rel => exact ⟨i + 1, by omega, by go_num, all_take_succ HX.out HA.out HO.out⟩
                  case measure => simp [intOf]; omega
                · have g9' : ((row.length : Int) != 9) = true := by simp; omega
                  have hfin : auOk a = false := by
                    rw [HR.out]
                    refine all_false_of HX.out ?_
                    rw [rowOk]
                    simp [g9]
                  have HF := Lib.hid hfin
                  clear hfin g9
                  go_wp2_with fail
                  go_ret
                  exact ⟨by rw [HF.out]; rfl, hb0⟩
          · obtain rfl : i = a.next.length := by omega
            have hfin : auOk a = true := by rw [HR.out]; have := HA.out; rwa [List.take_length] at this
            have HF := Lib.hid hfin
            clear hfin hx2 hrows
            go_wp2_with fail
            go_ret
            exact ⟨by rw [HF.out]; rfl, hb0⟩
      · have g3' : ((a.next.length : Int) != (a.accept.length : Int)) = true := by simp; omega
        have hr : auOk a = false := by simp [auOk, g3]
        have HR := Lib.hid hr
        clear hr g3
        go_enter Try.func96, Try.ntmps96
        go_wp2_with (go_at_call 44; refine (HW.out _ _ _ _).mono ?_; rintro e w' ⟨rfl, rfl⟩)
        go_ret
        exact ⟨by rw [HR.out]; rfl, hb0⟩
    · simp only [Bool.not_eq_true] at g2
      have hr : auOk a = false := by simp [auOk, g2]
      have HR := Lib.hid hr
      clear hr
      go_enter Try.func96, Try.ntmps96
      go_wp2_with (go_at_call 44; refine (HW.out _ _ _ _).mono ?_; rintro e w' ⟨rfl, rfl⟩)
      go_ret
      exact ⟨by rw [HR.out]; rfl, hb0⟩
  · simp only [Bool.not_eq_true] at g1
    have hr : auOk a = false := by simp [auOk, g1]
    have HR := Lib.hid hr
    clear hr
    go_enter Try.func96, Try.ntmps96
    go_wp2_with (go_at_call 44; refine (HW.out _ _ _ _).mono ?_; rintro e w' ⟨rfl, rfl⟩)
    go_ret
    exact ⟨by rw [HR.out]; rfl, hb0⟩

end Go.Proofs.Ytlhpcknpjdeebaa

/- The program's sets of states: move, closure, members, after, acceptsAt. -/
namespace Go.Proofs.Ytlhpcknpjdeebaa
set_option linter.unusedVariables false
set_option linter.unusedSimpArgs false
open Go.ChangeShapes Go.WideShapes Go.ChangeAt Go.RowKit
attribute [local go_sem] ext_cell ext_frozen ext_lt ext_lt1 ext_lt2 ext_lt3 ltn2 ltn3 ltn13 lts1 lts2 lts3

theorem isLetter_any (n : Int) (w : World) : Calls Try.prog 117 #[.int .i64 n] w fun e w' => e = .returned (.bool (wi n 0 8)) ∧ w' = w := by
  have HW := Lib.hid within_any
  go_enter Try.func117, Try.ntmps117
  go_wp2_with (go_at_call 44; refine (HW.out _ _ _ _).mono ?_; rintro e w' ⟨rfl, rfl⟩)
  go_ret
  exact ⟨rfl, rfl⟩

def mvI (a : Au) (s l : Int) : Int := if 0 ≤ s ∧ wi l 0 8 = true then mv a s.toNat l.toNat else -1
theorem mvI_in {a : Au} {s l : Nat} (hl : l < 9) : mvI a s l = mv a s l := by
  rw [mvI, if_pos ⟨by omega, wi_iff.2 ⟨by omega, by omega⟩⟩]; simp
set_option maxHeartbeats 1000000 in
theorem move_any (v : Value) (a : Au) (s l : Int) (w : World) (hv : AuV 0 w.heap.size w v a) (hok : auOk a = true) (hs : s < (a.accept.length : Int)) :
    Calls Try.prog 109 #[v, .int .i64 s, .int .i64 l] w fun e w' => e = .returned (.int .i64 (mvI a s l)) ∧ Below w.heap.size w w' := by
  obtain ⟨A1, c1, A2, c2, rfl, hl1, hm1, hl2, hm2, hC⟩ := hv.form hok
  have HL := Lib.hid isLetter_any
  have hb0 : Below w.heap.size w (w.alloc (.cells #[.int .i64 a.start, .slice A1 a.accept.length c1, .slice A2 a.accept.length c2] 41)) := (Below.refl _ _).alloc (Nat.le_refl _) _
  have HOK := Lib.hid hok
  clear hok hv
  by_cases h0 : s < 0
  · have hfin : mvI a s l = -1 := by rw [mvI, if_neg (by omega)]
    have HF := Lib.hid hfin
    clear hfin
    go_enter Try.func109, Try.ntmps109
    go_wp2_with fail
    go_ret
    exact ⟨by rw [HF.out]; rfl, hb0⟩
  · obtain ⟨s, rfl⟩ := Int.eq_ofNat_of_zero_le (show 0 ≤ s by omega)
    cases hl : wi l 0 8 with
    | false =>
      have hfin : mvI a s l = -1 := by rw [mvI, if_neg (by simp [hl])]
      have HF := Lib.hid hfin
      clear hfin
      go_enter Try.func109, Try.ntmps109
      go_wp2_with (go_at_call 117; refine (HL.out _ _).mono ?_; rintro e w' ⟨rfl, rfl⟩)
      go_ret
      exact ⟨by rw [HF.out]; rfl, hb0⟩
    | true =>
      have hl0 := wi_iff.1 hl
      obtain ⟨l, rfl⟩ := Int.eq_ofNat_of_zero_le hl0.1
      obtain ⟨b2, o2, b3, o3, c3, rfl, hb2, d2, hl3, hm3, hb3, hc3⟩ := hC.row s (by omega)
      have hl9 : l < 9 := by omega
      have d3 := hc3 l hl9
      have HF := Lib.hid (mvI_in (a := a) (s := s) (l := l) (by omega))
      clear hc3 hC hl0
      go_enter Try.func109, Try.ntmps109
      go_wp2_with (go_at_call 117; refine (HL.out _ _).mono ?_; rintro e w' ⟨rfl, rfl⟩)
      go_ret
      exact ⟨by rw [HF.out]; rfl, hb0⟩

set_option maxHeartbeats 1000000 in
theorem closure_any (v : Value) (a : Au) (s x : Nat) (w : World) (hv : AuV 0 w.heap.size w v a) (hok : auOk a = true) (hs : s < a.accept.length) (hx : x ≤ 2) :
    Calls Try.prog 103 #[v, .int .i64 (s : Int), .int .i64 (x : Int)] w fun e w' => e = .returned (.int .i64 (cls a x s : Int)) ∧ Below w.heap.size w w' := by
  have hv0 := hv
  obtain ⟨A1, c1, A2, c2, rfl, -⟩ := hv.form hok
  clear hv
  have hn12 : a.accept.length ≤ 12 := (auOk_iff.1 hok).1.2
  have hb0 : Below w.heap.size w (w.alloc (.cells #[.int .i64 a.start, .slice A1 a.accept.length c1, .slice A2 a.accept.length c2] 41)) := (Below.refl _ _).alloc (Nat.le_refl _) _
  have HV := Lib.hid hv0
  have HOK := Lib.hid hok
  clear hok
  obtain ⟨R, hR⟩ : ∃ R, R = cls a x s := ⟨_, rfl⟩
  rw [← hR]
  have HR := Lib.hid hR
  clear hR hv0
  go_enter Try.func103, Try.ntmps103
  go_wp2_with fail
  go_loopw [7, 8] (fun st ss wr => ∃ (f m : Nat) (s : Int) (u : World), st = .int .i64 (m : Int) ∧ ss = .int .i64 s ∧ clsF a (6 + x) f s m = R ∧ f + (mem 12 m).length = 13 ∧ m < 2 ^ a.accept.length ∧ s < (a.accept.length : Int) ∧ wr = ext (w.alloc (.cells #[.int .i64 a.start, .slice A1 a.accept.length c1, .slice A2 a.accept.length c2] 41)) u) (fun st _ _ => 13 - (mem 12 (intOf st).toNat).length)
  case atStart => exact ⟨13, 0, s, _, rfl, rfl, HR.out.symm, by simp [mem], Nat.two_pow_pos _, by omega, ext_self _⟩
  case round =>
    obtain ⟨f, m, s, u, rfl, rfl, hcl, hf, hm, hs, rfl⟩ := hrel
    have hm2 := lt12 HOK.out hm
    have hml := mem_len 12 m
    have HC := Lib.hid hcl
    have HFC := Lib.hid hf
    have hbw := below_trans hb0 (ext_below _ u)
    clear hcl hf
    by_cases h0 : 0 ≤ s
    · obtain ⟨s, rfl⟩ := Int.eq_ofNat_of_zero_le h0
      have hs12 : s < 12 := by omega
      have e1 := shl_bit (s := s) (by omega)
      have e2 := or_ins (m := m) (s := s) (by omega) (by omega)
      cases hb : m.testBit s with
      | true =>
        have e3 := bit_on (by omega) (by omega) hb
        have hfin : m = R := by rw [← HC.out]; exact (clsF_stop (.inr (by simpa using hb))).symm
        have HF := Lib.hid hfin
        clear hfin hb h0
        go_wp2_with fail
        go_ret
        exact ⟨by rw [HF.out]; rfl, hbw⟩
      | false =>
        have e3 := bit_off (by omega) (by omega) hb
        have HB := Lib.hid hb
        have hmv := mv_lt HOK.out s (6 + x)
        clear hb h0
        go_wp2_with fail
        refine (move_any _ a (s : Int) _ _ (HV.out.keep hbw) HOK.out (by omega)).mono ?_
        rintro e w1 ⟨rfl, hb1⟩
        obtain ⟨u1, rfl⟩ := ext_of (below_trans (ext_below _ u) hb1)
        rw [show (6 : Int) + (x : Int) = ((6 + x : Nat) : Int) by omega, mvI_in (by omega)]
        go_wp2_with fail
        go_roundw
        case rel =>
          have h1 := cnt_or (n := 12) (m := m) hs12 HB.out
          have h2 := HFC.out
          obtain ⟨f, rfl⟩ : ∃ f', f = f' + 1 := ⟨f - 1, by omega⟩
          refine ⟨f, ins m s, _, _, rfl, rfl, by rw [← HC.out]; exact (clsF_go HB.out).symm, by omega, ins_lt hm (by omega), by omega, rfl⟩
        case measure =>
          have h1 := cnt_or (n := 12) (m := m) hs12 HB.out
          simp [intOf]; omega
    · have hfin : m = R := by rw [← HC.out]; exact (clsF_stop (.inl (by omega))).symm
      have h0' : decide (s ≥ 0) = false := by simp; omega
      have HF := Lib.hid hfin
      clear hfin
      go_wp2_with fail
      go_ret
      exact ⟨by rw [HF.out]; rfl, hbw⟩

set_option maxHeartbeats 1000000 in
theorem members_any (m : Nat) (w : World) (hm : m < 4096) :
    Calls Try.prog 102 #[.int .i64 (m : Int)] w fun e w' => ∃ v', e = .returned v' ∧ Own w.heap.size w'.heap.size w' 3 cN 1 v' (mem 12 m) ∧ Below w.heap.size w w' := by
  obtain ⟨R, hR⟩ : ∃ R, R = mem 12 m := ⟨_, rfl⟩
  rw [← hR]
  have HR := Lib.hid hR
  clear hR
  go_enter Try.func102, Try.ntmps102
  go_wp2_with fail
  go_loopw [3, 4] (fun out ii wr => ∃ i : Nat, i ≤ 12 ∧ ii = .int .i64 (i : Int) ∧ wr.ownsRow w.heap.size 3 1 out (mem i m).length ((mem i m).flatMap cN) ∧ Below w.heap.size w wr) (fun _ ii _ => 12 - (intOf ii).toNat)
  case atStart => exact ⟨0, Nat.zero_le _, rfl, World.ownsRow_lit w #[] 0 (Nat.le_refl _) (by decide) rfl, (Below.refl _ _).alloc (Nat.le_refl _) _⟩
  case round =>
    obtain ⟨i, hi, rfl, hrow, hbel⟩ := hrel
    have HROW := Lib.hid hrow
    have hs := hbel.size
    have hml := mem_len i m
    clear hrow
    by_cases hlt : 2 ^ i ≤ m
    · have e1 := shr_on (by omega) hlt
      have hi12 : i < 12 := by
        rcases Nat.lt_or_ge i 12 with h | h
        · exact h
        · have : 2 ^ 12 ≤ 2 ^ i := Nat.pow_le_pow_right (by omega) h
          omega
      clear hlt
      cases hb : m.testBit i with
      | true =>
        have e3 := bit_on (by omega) (by omega) hb
        have HM := Lib.hid (mem_yes hb)
        clear hb
        go_wp2_with (at_builtin; (refine wpList_append1 cN elInt rfl _ _ rfl w.heap.size _ (mem i m) i _ 1 _ (by rfl) HROW.out (by rfl) rfl rfl rfl (cN_one _) (by omega) (by omega) hs ?_); rw [← HM.out]; intro v' w4 hrow' hb4 _ _)
        go_roundw
        case rel => exact ⟨i + 1, by omega, by go_num, hrow', hbel.trans hb4⟩
        case measure => simp [intOf]; omega
      | false =>
        have e3 := bit_off (by omega) (by omega) hb
        have HM := Lib.hid (mem_no hb)
        clear hb
        go_wp2_with fail
        go_roundw
        case rel => exact ⟨i + 1, by omega, by go_num, by rw [HM.out]; exact HROW.out, hbel⟩
        case measure => simp [intOf]; omega
    · have e1 := shr_off (i := i) (m := m) (by omega) (by omega)
      have hfin : R = mem i m := by rw [HR.out]; exact mem_stop (by omega) hi
      have HF := Lib.hid hfin
      clear hfin hlt
      go_wp2_with fail
      go_ret
      exact ⟨_, rfl, by rw [HF.out]; exact Own.of_row HROW.out rfl rfl, hbel⟩

set_option maxHeartbeats 2000000 in
theorem after_any (v : Value) (a : Au) (set x l : Nat) (w : World) (hv : AuV 0 w.heap.size w v a) (hok : auOk a = true) (hset : set < 2 ^ a.accept.length) (hx : x ≤ 2) (hl : l < 9) :
    Calls Try.prog 85 #[v, .int .i64 (set : Int), .int .i64 (x : Int), .int .i64 (l : Int)] w fun e w' => e = .returned (.int .i64 (aft a set x l : Int)) ∧ Below w.heap.size w w' := by
  have hv0 := hv
  obtain ⟨A1, c1, A2, c2, rfl, -⟩ := hv.form hok
  clear hv
  have hn12 : a.accept.length ≤ 12 := (auOk_iff.1 hok).1.2
  have hb0 : Below w.heap.size w (w.alloc (.cells #[.int .i64 a.start, .slice A1 a.accept.length c1, .slice A2 a.accept.length c2] 41)) := (Below.refl _ _).alloc (Nat.le_refl _) _
  have HV := Lib.hid hv0
  have HOK := Lib.hid hok
  have HSET := Lib.hid hset
  have h4096 := lt12 hok hset
  clear hok hv0 hset
  go_enter Try.func85, Try.ntmps85
  go_wp2_with fail
  refine (members_any set _ h4096).mono ?_
  rintro e w1 ⟨v1, rfl, ho, hb1⟩
  obtain ⟨A3, c3, rfl, hl3, hm3, hC3⟩ := ho.form cN_len
  have hml := mem_len 12 set
  have hb2 := below_trans hb0 hb1
  have HC3 := Lib.hid hC3
  have b0 := (Blk.new w _ _ w.heap.size rfl).keep hb1
  have x0 : w1.cell? ⟨w.heap.size, 0, none⟩ = some _ := b0.cell 0
  have x1 : w1.cell? ⟨w.heap.size, 1, none⟩ = some _ := b0.cell 1
  have x2 : w1.cell? ⟨w.heap.size, 2, none⟩ = some _ := b0.cell 2
  have l0 := b0.lt
  clear b0
  clear hb1 hb0 ho hC3
  go_wp2_with fail
  have hfl : ∀ i, ((mem 12 set).take i).foldl (aftS a x l) 0 < 2 ^ a.accept.length := fun i => foldl_inv (P := fun m => m < 2 ^ a.accept.length) (fun m s hm => aftS_lt HOK.out x l m s hm) _ _ (Nat.two_pow_pos _)
  have HFL := Lib.hid hfl
  clear hfl
  go_loopw [9, 18] (fun out ii wr => ∃ (i : Nat) (u : World), i ≤ (mem 12 set).length ∧ ii = .int .i64 (i : Int) ∧ out = .int .i64 (((mem 12 set).take i).foldl (aftS a x l) 0 : Nat) ∧ wr = ext w1 u) (fun _ ii _ => (mem 12 set).length - (intOf ii).toNat)
  case atStart => exact ⟨0, w1, Nat.zero_le _, rfl, rfl, ext_self _⟩
  case round =>
    obtain ⟨i, u, hi, rfl, rfl, rfl⟩ := hrel
    by_cases hlt : i < (mem 12 set).length
    · have hsi : (mem 12 set)[i]? = some (mem 12 set)[i] := List.getElem?_eq_getElem hlt
      have hsm := mem_mem.1 (List.getElem_mem hlt)
      generalize (mem 12 set)[i] = s at hsi hsm
      have hsn : s < a.accept.length := by
        rcases Nat.lt_or_ge s a.accept.length with h | h
        · exact h
        · have := Nat.testBit_lt_two_pow (Nat.lt_of_lt_of_le HSET.out (Nat.pow_le_pow_right (by omega) h))
          rw [hsm.2] at this; cases this
      obtain ⟨b3, o3, rfl, hb3, d3⟩ := HC3.out.nat hsi
      have HFT := Lib.hid (foldl_take (f := aftS a x l) hsi 0)
      have hbw := below_trans hb2 (ext_below w1 u)
      have hm0 := HFL.out i
      generalize ((mem 12 set).take i).foldl (aftS a x l) 0 = m0 at *
      clear hsi hsm
      go_wp2_with fail
      refine (closure_any _ a s x _ (HV.out.keep hbw) HOK.out hsn hx).mono ?_
      rintro e w2 ⟨rfl, hb5⟩
      obtain ⟨u2, rfl⟩ := ext_of (below_trans (ext_below w1 u) hb5)
      have hcl := cls_lt HOK.out x s hsn
      have hcl4 := lt12 HOK.out hcl
      go_wp2_with fail
      refine (members_any (cls a x s) _ hcl4).mono ?_
      rintro e w3 ⟨v4, rfl, ho4, hb6⟩
      obtain ⟨A4, c4, rfl, hl4, hm4, hC4⟩ := ho4.form cN_len
      have hml4 := mem_len 12 (cls a x s)
      have hb7 := below_trans (ext_below w1 u2) hb6
      have hb8 := below_trans hb2 hb7
      have x0 := bcell hb7 x0 l0
      have x1 := bcell hb7 x1 l0
      have x2 := bcell hb7 x2 l0
      have l0 := Nat.lt_of_lt_of_le l0 hb7.size
      have HC4 := Lib.hid hC4
      have HCL := Lib.hid hcl
      clear hb6 hb5 hbw ho4 hC4 hcl
      go_wp2_with fail
      go_loopw [9, 28] (fun out jj wr => ∃ (j : Nat) (u : World), j ≤ (mem 12 (cls a x s)).length ∧ jj = .int .i64 (j : Int) ∧ out = .int .i64 (((mem 12 (cls a x s)).take j).foldl (aft1 a l) m0 : Nat) ∧ wr = ext w3 u) (fun _ jj _ => (mem 12 (cls a x s)).length - (intOf jj).toNat)
      case atStart => exact ⟨0, w3, Nat.zero_le _, rfl, rfl, ext_self _⟩
      case round =>
        obtain ⟨j, u3, hj, rfl, rfl, rfl⟩ := hrel
        by_cases hlt2 : j < (mem 12 (cls a x s)).length
        · have hti : (mem 12 (cls a x s))[j]? = some (mem 12 (cls a x s))[j] := List.getElem?_eq_getElem hlt2
          have htm := mem_mem.1 (List.getElem_mem hlt2)
          generalize (mem 12 (cls a x s))[j] = t at hti htm
          have htn : t < a.accept.length := by
            rcases Nat.lt_or_ge t a.accept.length with h | h
            · exact h
            · have := Nat.testBit_lt_two_pow (Nat.lt_of_lt_of_le HCL.out (Nat.pow_le_pow_right (by omega) h))
              rw [htm.2] at this; cases this
          obtain ⟨b4, o4, rfl, hb4, d4⟩ := HC4.out.nat hti
          have HFT2 := Lib.hid (foldl_take (f := aft1 a l) hti m0)
          have hm1 : ((mem 12 (cls a x s)).take j).foldl (aft1 a l) m0 < 2 ^ a.accept.length := foldl_inv (P := fun m => m < 2 ^ a.accept.length) (fun m s hm => aft1_lt HOK.out l m s hm) _ _ hm0
          have hm14 := lt12 HOK.out hm1
          generalize ((mem 12 (cls a x s)).take j).foldl (aft1 a l) m0 = m1 at *
          have hbw := below_trans hb8 (ext_below w3 u3)
          have hmv := mv_lt HOK.out t l
          have HA := Lib.hid (show aft1 a l m1 t = if 0 ≤ mv a t l then ins m1 (mv a t l).toNat else m1 from rfl)
          clear hti htm hm0
          go_wp2_with fail
          refine (move_any _ a (t : Int) (l : Int) _ (HV.out.keep hbw) HOK.out (by omega)).mono ?_
          rintro e w4 ⟨rfl, hb9⟩
          obtain ⟨u4, rfl⟩ := ext_of (below_trans (ext_below w3 u3) hb9)
          rw [mvI_in hl]
          clear hb9
          by_cases h0 : 0 ≤ mv a t l
          · generalize mv a t l = z at *
            obtain ⟨z, rfl⟩ := Int.eq_ofNat_of_zero_le h0
            have e1 := shl_bit (s := z) (by omega)
            have e2 := or_ins (m := m1) (s := z) (by omega) (by omega)
            go_wp2_with fail
            go_roundw
            case rel => exact ⟨j + 1, u4, by omega, by go_num, by rw [HFT2.out, HA.out, if_pos h0]; simp, rfl⟩
            case measure => simp [intOf]; omega
          · have h0' : decide (mv a t l ≥ 0) = false := by simp; omega
            go_wp2_with fail
            go_roundw
            case rel => exact ⟨j + 1, u4, by omega, by go_num, by rw [HFT2.out, HA.out, if_neg (by omega)], rfl⟩
            case measure => simp [intOf]; omega
        · obtain rfl : j = (mem 12 (cls a x s)).length := by omega
          have HT := Lib.hid (show ((mem 12 (cls a x s)).take (mem 12 (cls a x s)).length).foldl (aft1 a l) m0 = aftS a x l m0 s by rw [List.take_length]; rfl)
          go_wp2_with fail
          go_roundw
          case rel =>
            obtain ⟨u5, hu5⟩ := ext_of (below_trans hb7 (ext_below w3 u3))
            exact ⟨i + 1, u5, by omega, by go_num, by rw [HFT.out, HT.out], hu5⟩
          case measure => simp [intOf]; omega
    · obtain rfl : i = (mem 12 set).length := by omega
      have HT := Lib.hid (show ((mem 12 set).take (mem 12 set).length).foldl (aftS a x l) 0 = aft a set x l by rw [List.take_length]; rfl)
      go_wp2_with fail
      go_ret
      exact ⟨by rw [HT.out]; rfl, below_trans hb2 (ext_below w1 u)⟩

theorem bit_in {n m t : Nat} (hm : m < 2 ^ n) (ht : m.testBit t = true) : t < n := by
  rcases Nat.lt_or_ge t n with h | h
  · exact h
  · have := Nat.testBit_lt_two_pow (Nat.lt_of_lt_of_le hm (Nat.pow_le_pow_right (by omega) h))
    rw [ht] at this; cases this
theorem any_take {α : Type} {p : α → Bool} {xs : List α} {i : Nat} {x : α} (h : xs[i]? = some x) : (xs.take (i + 1)).any p = ((xs.take i).any p || p x) := by
  rw [take_snoc h, List.any_append]; simp
theorem any_of_at {α : Type} {p : α → Bool} {xs : List α} {i : Nat} {x : α} (h : xs[i]? = some x) (hp : p x = true) : xs.any p = true := List.any_eq_true.2 ⟨x, List.mem_of_getElem? h, hp⟩
set_option maxHeartbeats 2000000 in
theorem acceptsAt_any (v : Value) (a : Au) (set x : Nat) (w : World) (hv : AuV 0 w.heap.size w v a) (hok : auOk a = true) (hset : set < 2 ^ a.accept.length) (hx : x ≤ 2) :
    Calls Try.prog 77 #[v, .int .i64 (set : Int), .int .i64 (x : Int)] w fun e w' => e = .returned (.bool (acc a set x)) ∧ Below w.heap.size w w' := by
  have hv0 := hv
  obtain ⟨A1, c1, A2, c2, rfl, hl1, hm1, -, -, hAC, -⟩ := hv.form hok
  clear hv
  have hn12 : a.accept.length ≤ 12 := (auOk_iff.1 hok).1.2
  have hb0 : Below w.heap.size w (w.alloc (.cells #[.int .i64 a.start, .slice A1 a.accept.length c1, .slice A2 a.accept.length c2] 41)) := (Below.refl _ _).alloc (Nat.le_refl _) _
  have HV := Lib.hid hv0
  have HOK := Lib.hid hok
  have HSET := Lib.hid hset
  have HAC := Lib.hid hAC
  have h4096 := lt12 hok hset
  clear hok hv0 hset hAC
  go_enter Try.func77, Try.ntmps77
  go_wp2_with fail
  refine (members_any set _ h4096).mono ?_
  rintro e w1 ⟨v1, rfl, ho, hb1⟩
  obtain ⟨A3, c3, rfl, hl3, hm3, hC3⟩ := ho.form cN_len
  have hml := mem_len 12 set
  have hb2 := below_trans hb0 hb1
  have HC3 := Lib.hid hC3
  have b0 := (Blk.new w _ _ w.heap.size rfl).keep hb1
  have x0 : w1.cell? ⟨w.heap.size, 0, none⟩ = some _ := b0.cell 0
  have x1 : w1.cell? ⟨w.heap.size, 1, none⟩ = some _ := b0.cell 1
  have x2 : w1.cell? ⟨w.heap.size, 2, none⟩ = some _ := b0.cell 2
  have l0 := b0.lt
  clear b0
  clear hb1 hb0 ho hC3
  go_wp2_with fail
  go_loopw [14] (fun ii wr => ∃ (i : Nat) (u : World), i ≤ (mem 12 set).length ∧ ii = .int .i64 (i : Int) ∧ ((mem 12 set).take i).any (accC a x) = false ∧ wr = ext w1 u) (fun ii _ => (mem 12 set).length - (intOf ii).toNat)
  case atStart => exact ⟨0, w1, Nat.zero_le _, rfl, rfl, ext_self _⟩
  case round =>
    obtain ⟨i, u, hi, rfl, hno, rfl⟩ := hrel
    have HNO := Lib.hid hno
    clear hno
    by_cases hlt : i < (mem 12 set).length
    · have hsi : (mem 12 set)[i]? = some (mem 12 set)[i] := List.getElem?_eq_getElem hlt
      have hsm := mem_mem.1 (List.getElem_mem hlt)
      generalize (mem 12 set)[i] = s at hsi hsm
      have hsn := bit_in HSET.out hsm.2
      obtain ⟨b3, o3, rfl, hb3, d3⟩ := HC3.out.nat hsi
      have hbw := below_trans hb2 (ext_below w1 u)
      have HSI := Lib.hid hsi
      clear hsi hsm
      go_wp2_with fail
      refine (closure_any _ a s x _ (HV.out.keep hbw) HOK.out hsn hx).mono ?_
      rintro e w2 ⟨rfl, hb5⟩
      obtain ⟨u2, rfl⟩ := ext_of (below_trans (ext_below w1 u) hb5)
      have hcl := cls_lt HOK.out x s hsn
      have hcl4 := lt12 HOK.out hcl
      go_wp2_with fail
      refine (members_any (cls a x s) _ hcl4).mono ?_
      rintro e w3 ⟨v4, rfl, ho4, hb6⟩
      obtain ⟨A4, c4, rfl, hl4, hm4, hC4⟩ := ho4.form cN_len
      have hml4 := mem_len 12 (cls a x s)
      have hb7 := below_trans (ext_below w1 u2) hb6
      have hb8 := below_trans hb2 hb7
      have x0 := bcell hb7 x0 l0
      have x1 := bcell hb7 x1 l0
      have x2 := bcell hb7 x2 l0
      have l0 := Nat.lt_of_lt_of_le l0 hb7.size
      have HC4 := Lib.hid hC4
      have HCL := Lib.hid hcl
      have HAC3 := Lib.hid (HAC.out.keep hb8)
      have HAE := Lib.hid (show accC a x s = (mem 12 (cls a x s)).any fun t => a.accept.getD t false from rfl)
      clear hb6 hb5 hbw ho4 hC4 hcl
      go_wp2_with fail
      go_loopw [24] (fun jj wr => ∃ (j : Nat) (u : World), j ≤ (mem 12 (cls a x s)).length ∧ jj = .int .i64 (j : Int) ∧ ((mem 12 (cls a x s)).take j).any (fun t => a.accept.getD t false) = false ∧ wr = ext w3 u) (fun jj _ => (mem 12 (cls a x s)).length - (intOf jj).toNat)
      case atStart => exact ⟨0, w3, Nat.zero_le _, rfl, rfl, ext_self _⟩
      case round =>
        obtain ⟨j, u3, hj, rfl, hno, rfl⟩ := hrel
        have HNJ := Lib.hid hno
        clear hno
        by_cases hlt2 : j < (mem 12 (cls a x s)).length
        · have hti : (mem 12 (cls a x s))[j]? = some (mem 12 (cls a x s))[j] := List.getElem?_eq_getElem hlt2
          have htm := mem_mem.1 (List.getElem_mem hlt2)
          generalize (mem 12 (cls a x s))[j] = t at hti htm
          have htn := bit_in HCL.out htm.2
          obtain ⟨b4, o4, rfl, hb4, d4⟩ := HC4.out.nat hti
          have hbw := below_trans hb8 (ext_below w3 u3)
          have hai : a.accept[t]? = some a.accept[t] := List.getElem?_eq_getElem htn
          obtain ⟨b5, o5, rfl, hb5, d5⟩ := HAC3.out.bool hai
          have hag : a.accept.getD t false = a.accept[t] := by simp [List.getD, hai]
          generalize a.accept[t] = b at *
          have HAG := Lib.hid hag
          have HTI := Lib.hid hti
          clear hti htm hai hag
          cases b with
          | true =>
            have hfin : acc a set x = true := any_of_at HSI.out (by rw [HAE.out]; exact any_of_at HTI.out HAG.out)
            have HF := Lib.hid hfin
            clear hfin
            go_wp2_with fail
            go_ret
            exact ⟨by rw [HF.out]; rfl, hbw⟩
          | false =>
            go_wp2_with fail
            go_roundw
            case rel => exact ⟨j + 1, u3, by omega, by go_num, by rw [any_take HTI.out, HNJ.out, HAG.out]; rfl, rfl⟩
            case measure => simp [intOf]; omega
        · obtain rfl : j = (mem 12 (cls a x s)).length := by omega
          have HT := Lib.hid (show accC a x s = false by have h := HNJ.out; rw [List.take_length] at h; rw [HAE.out]; exact h)
          go_wp2_with fail
          go_roundw
          case rel =>
            obtain ⟨u5, hu5⟩ := ext_of (below_trans hb7 (ext_below w3 u3))
            exact ⟨i + 1, u5, by omega, by go_num, by rw [any_take HSI.out, HNO.out, HT.out]; rfl, hu5⟩
          case measure => simp [intOf]; omega
    · obtain rfl : i = (mem 12 set).length := by omega
      have HT := Lib.hid (show acc a set x = false by have h := HNO.out; rw [List.take_length] at h; exact h)
      go_wp2_with fail
      go_ret
      exact ⟨by rw [HT.out]; rfl, below_trans hb2 (ext_below w1 u)⟩
end Go.Proofs.Ytlhpcknpjdeebaa

