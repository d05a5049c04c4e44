/- Parts of the proof, joined into one text: PKey, PairI, RelI, Rec, Seat. -/
import Derived.Shelf.SlSortCmp.WholeK
import Derived.Test.YtmdgloeejjepmaaPartFMMHGNHK
import Derived.Test.YtmdgloeejjepmaaPartMNPNFNDO
import Derived.Lib.SliceRun
import Derived.Test.YtmdgloeejjepmaaPartBLFIJLDM
import Derived.JoinedOf
import Derived.Test.YtmdgloeejjepmaaRows
/- A row of pairs, as the shelf's sort tells it. -/
namespace Go.Proofs.Ytmdgloeejjepmaa
set_option linter.unusedVariables false
set_option linter.unusedSimpArgs false
open Go.ChangeShapes Go.WideShapes Go.ChangeAt Go.RowKit Go.Sort

theorem konly_ahead (lo hi : Nat) (w : World) (n : Nat) : Only lo hi w (Sort.ahead w n) := ⟨rfl, rfl, rfl, Nat.le_refl _, fun _ _ _ => rfl⟩
theorem konly_grow (lo hi : Nat) (w : World) (os : Array Obj) : Only lo hi w (grow w os) := ⟨rfl, rfl, rfl, by simp [grow], fun n hn _ => by simp [grow, Array.getElem?_append, hn]⟩
theorem konly_put {α : Type} [Inhabited α] (enc : α → Value) (w : World) (g off : Nat) (d : Array α) : Only g (g + 1) w (putRow enc w g off d) :=
  ⟨rfl, rfl, rfl, by simp [putRow, mapBlock], fun n hn ho => by simp only [putRow, mapBlock, Array.getElem?_modify]; rw [if_neg (by omega)]⟩
theorem row_putF {w : World} {base g n cap k : Nat} {e : TypeId} {cs : List Value} (h : w.ownsRow base e k (.slice (some ⟨g, 0, none⟩) n cap) n cs) {F : Array Value} (hF : F.size = n * k) :
    (putRow id w g 0 F).ownsRow base e k (.slice (some ⟨g, 0, none⟩) n cap) n F.toList := by
  obtain ⟨hl, hs⟩ := h
  refine ⟨by simp [hF], ?_⟩
  rcases hs with ⟨h1, _⟩ | ⟨g', cap', cur, hv, hg, hh, hnc, hcm, hsz, htk⟩
  · cases h1
  · simp only [Value.slice.injEq, Option.some.injEq, Addr.mk.injEq, and_true, true_and] at hv
    obtain ⟨rfl, rfl⟩ := hv
    have hcs : n * k ≤ cur.size := by rw [hsz]; exact Nat.mul_le_mul_right k hnc
    refine .inr ⟨g, cap, putCells id 0 F cur, rfl, hg, ?_, hnc, hcm, by simp [putCells, hsz], ?_⟩
    · simp [putRow, mapBlock, Array.getElem?_modify, hh, onCells]
    · apply List.ext_getElem?
      intro j
      rw [List.getElem?_take]
      by_cases hk : j < n * k
      · rw [if_pos hk]
        have hkc : j < cur.size := by omega
        have hkd : j < F.size := by omega
        simp [putCells, hkc, hkd, getElem!_pos]
      · rw [if_neg hk, List.getElem?_eq_none (by simp; omega)]
theorem flatK_list (ds : List Pr) : (flatK cPr 2 ds.toArray).toList = ds.flatMap cPr := by
  apply List.ext_getElem?
  intro t
  by_cases ht : t < ds.length * 2
  · have hi : t / 2 < ds.length := by omega
    have hx : ds[t / 2]? = some ds[t / 2] := List.getElem?_eq_getElem hi
    have hj : t % 2 < (cPr ds[t / 2]).length := by rw [cPr_len]; omega
    have h1 := flat_at cPr_len hx (t % 2) _ (List.getElem?_eq_getElem hj)
    rw [show t / 2 * 2 + t % 2 = t by omega] at h1
    rw [h1, Array.getElem?_toList, Array.getElem?_eq_getElem (by simpa using ht)]
    congr 1
    have h2 := get_flatK cPr 2 ds.toArray t (by simpa using ht)
    rw [getElem!_pos _ _ (by simpa using ht)] at h2
    rw [h2, getElem!_pos ds.toArray _ (by simpa using hi), getElem!_pos _ _ (by simpa using hj)]
    simp
  · rw [List.getElem?_eq_none (by simp; omega), List.getElem?_eq_none]
    have : (ds.flatMap cPr).length = ds.length * 2 := by
      clear ht
      induction ds with
      | nil => rfl
      | cons d ds ih => rw [List.flatMap_cons, List.length_append, ih, cPr_len, List.length_cons]; omega
    omega
theorem holds_ownK {w : World} {base g n cap : Nat} {e : TypeId} {zs : List Pr} (h : w.ownsRow base e 2 (.slice (some ⟨g, 0, none⟩) n cap) n (zs.flatMap cPr)) (hz : zs.length = n) : HoldsK cPr 2 w g 0 zs.toArray := by
  intro j hj
  have hj' : j < zs.length * 2 := by simpa using hj
  refine ⟨?_, by rw [Nat.zero_add]; exact World.ownsRow.frozenAt h j⟩
  rw [Nat.zero_add, World.ownsRow.cellAt h j (by omega), ← flatK_list, Array.getElem?_toList, Array.getElem?_eq_getElem hj, getElem!_pos _ j hj]
  rfl
end Go.Proofs.Ytmdgloeejjepmaa

/- The program's pairSet: a copy of pairs, sorted, like neighbours struck out. -/
namespace Go.Proofs.Ytmdgloeejjepmaa
set_option linter.unusedVariables false
set_option linter.unusedSimpArgs false
open Go.ChangeShapes Go.WideShapes Go.ChangeAt Go.RowKit Go.Sort
attribute [local go_sem] ext_cell ext_frozen ext_lt ext_lt1 ext_lt2 ext_lt3 ltn2 ltn3 ltn13 lts1 lts2 lts3

def cmpI (a b : Int) : Int := if a < b then -1 else if b < a then 1 else 0
def cmpP (p q : Pr) : Int := if p.1 = q.1 then cmpI p.2 q.2 else cmpI p.1 q.1
theorem ltOf_cmp (p q : Pr) : ltOf cmpP p q = ltP p q := by
  have h1 := @ltP_iff p q
  rw [Bool.eq_iff_iff, h1, ltOf, decide_eq_true_eq, cmpP]
  unfold cmpI
  split <;> split <;> (try split) <;> omega
theorem swoP : SWO (ltOf cmpP) := by
  refine ⟨fun x => ?_, fun x y z h1 h2 => ?_, fun x y z h1 h2 => ?_⟩
  · rw [ltOf_cmp, ltP_no]; omega
  · rw [ltOf_cmp] at *
    exact ltP_trans h1 h2
  · rw [ltOf_cmp, ltP_no] at *
    omega
theorem alloc2_grow (W : World) (o1 o2 : Obj) : (W.alloc o1).alloc o2 = grow (W.drewN 0) #[o1, o2] := by
  cases W
  simp only [World.alloc, grow, World.drewN, World.mk.injEq, and_true, true_and]
  simp [← Array.toList_inj]
theorem compareInts_any (a b : Int) (w : World) : Calls Try.prog 162 #[.int .i64 a, .int .i64 b] w fun e w' => e = .returned (.int .i64 (cmpI a b)) ∧ w' = w := by
  unfold cmpI
  by_cases h1 : a < b
  · rw [if_pos h1]
    have k1 : decide (a < b) = true := by simpa using h1
    clear h1
    go_enter Try.func162, Try.ntmps162
    go_wp2_with fail
    go_ret
    exact ⟨rfl, rfl⟩
  · rw [if_neg h1]
    have k1 : decide (a < b) = false := by simpa using h1
    by_cases h2 : b < a
    · rw [if_pos h2]
      have k2 : decide (a > b) = true := by simpa using h2
      clear h1 h2
      go_enter Try.func162, Try.ntmps162
      go_wp2_with fail
      go_ret
      exact ⟨rfl, rfl⟩
    · rw [if_neg h2]
      have k2 : decide (a > b) = false := by simpa using h2
      clear h1 h2
      go_enter Try.func162, Try.ntmps162
      go_wp2_with fail
      go_ret
      exact ⟨rfl, rfl⟩
theorem comparePairs_any (p q : Pr) (w : World) : Calls Try.prog 122 #[.agg #[.int .i64 p.1, .int .i64 p.2], .agg #[.int .i64 q.1, .int .i64 q.2]] w fun e w' => e = .returned (.int .i64 (cmpP p q)) ∧
    w' = (w.alloc (.cells #[.int .i64 p.1, .int .i64 p.2] 86)).alloc (.cells #[.int .i64 q.1, .int .i64 q.2] 86) := by
  obtain ⟨p1, p2⟩ := p
  obtain ⟨q1, q2⟩ := q
  simp only [cmpP]
  have HC := Lib.hid (fun (a b : Int) (W : World) => compareInts_any a b W)
  by_cases h1 : p1 = q1
  · rw [if_pos h1]
    have k1 : (p1 != q1) = false := by simpa using h1
    clear h1
    go_enter Try.func122, Try.ntmps122
    go_wp2_with fail
    refine (HC.out p2 q2 _).mono ?_
    rintro e w1 ⟨rfl, hw⟩
    rw [hw]
    go_wp2_with fail
    go_ret
    exact ⟨rfl, rfl⟩
  · rw [if_neg h1]
    have k1 : (p1 != q1) = true := by simpa using h1
    clear h1
    go_enter Try.func122, Try.ntmps122
    go_wp2_with fail
    refine (HC.out p1 q1 _).mono ?_
    rintro e w1 ⟨rfl, hw⟩
    rw [hw]
    go_wp2_with fail
    go_ret
    exact ⟨rfl, rfl⟩
/-- slices.SortFunc over pairs: a row of the call's own is put in order -/
theorem sortPairs_any (lo g c : Nat) (xs : List Pr) (w : World) (hrow : w.ownsRow lo 86 2 (.slice (some ⟨g, 0, none⟩) xs.length c) xs.length (xs.flatMap cPr)) (hn : xs.length ≤ 2199023255552) :
    Calls Try.prog 121 #[.slice (some ⟨g, 0, none⟩) xs.length c, .func (.func 122) #[] #[]] w fun e w' => e = .returned (.tuple #[]) ∧
      ∃ ys : List Pr, ys.length = xs.length ∧ (∀ x, x ∈ ys ↔ x ∈ xs) ∧ (∀ i j, i < j → j < ys.length → ltP (ys.getD j (0, 0)) (ys.getD i (0, 0)) = false) ∧
        w'.ownsRow lo 86 2 (.slice (some ⟨g, 0, none⟩) xs.length c) xs.length (ys.flatMap cPr) ∧ Only g (g + 1) w w' := by
  have hlt := hrow.lt g rfl
  have eg : ∀ args w, (callFunc 122 args).run Try.prog w = .ok (.enter 122 args) w := enters_of Try.func122 (by kernel_rfl) rfl
  have hcmp : CmpLays Try.prog 122 #[] cPr 2 cmpP g 0 xs.toArray.size w := fun m os dk _ x y => by
    refine (comparePairs_any x y _).mono ?_
    rintro e w' ⟨rfl, rfl⟩
    exact ⟨rfl, 0, _, alloc2_grow _ _ _⟩
  have h := AnyQ.slices_SortFunc Try.laysSF 2 Try.isAgg86 Try.sizeOf86 cPr cPr_len cPr_one cmpP swoP 122 #[] g 0 c xs.toArray w eg hcmp (holds_ownK hrow rfl) hlt.2 (by simp; omega)
  have h' : Calls Try.prog 121 #[.slice (some ⟨g, 0, none⟩) xs.length c, .func (.func 122) #[] #[]] w _ := h
  refine h'.mono ?_
  rintro e w' ⟨rfl, d', n, os, hperm, hsort, rfl⟩
  obtain ⟨hsz, -, hpm⟩ := hperm
  have hsz' : d'.toList.length = xs.length := by simpa using hsz
  refine ⟨rfl, d'.toList, hsz', fun x => ?_, fun i j hij hj => ?_, ?_, ?_⟩
  · have h1 := hpm.mem_iff (a := x)
    have e1 : (d'.extract 0 xs.toArray.size).toList = d'.toList := by rw [show xs.toArray.size = d'.size from hsz.symm]; simp
    have e2 : (xs.toArray.extract 0 xs.toArray.size).toList = xs := by simp
    rw [e1, e2] at h1
    exact h1
  · have hj' : j < xs.length := by omega
    have h1 := hsort i j (Nat.zero_le _) hij (by simpa using hj')
    rw [ltOf_cmp] at h1
    have gd : ∀ k, k < xs.length → d'.toList.getD k (0, 0) = d'[k]! := fun k hk => by
      have hk' : k < d'.size := by rw [hsz]; simpa using hk
      rw [getElem!_pos d' k hk', List.getD_eq_getElem?_getD, Array.getElem?_toList, Array.getElem?_eq_getElem hk']; rfl
    rw [gd j hj', gd i (by omega)]
    exact h1
  · have h2 : (Sort.ahead w n).ownsRow lo 86 2 (.slice (some ⟨g, 0, none⟩) xs.length c) xs.length (xs.flatMap cPr) := hrow
    have h3 := row_putF h2 (F := flatK cPr 2 d') (by rw [size_flatK, hsz]; simp)
    have h4 : (flatK cPr 2 d').toList = d'.toList.flatMap cPr := by
      have := flatK_list d'.toList
      simpa using this
    rw [h4] at h3
    exact ownsRow_block h3 fun b hb => (konly_grow 0 0 (putRowK cPr 2 (Sort.ahead w n) g 0 d') os).block b (h3.lt b hb).2 (.inr (Nat.zero_le _))
  · exact ((konly_ahead g (g + 1) w n).trans (konly_put id _ g 0 (flatK cPr 2 d'))).trans (konly_grow g (g + 1) _ os)
/-! ### slices.Compact over pairs -/
theorem neqlPr (a b c d : Int) (w : World) : (binOp .neq 86 (.agg #[.int .i64 a, .int .i64 b]) (.agg #[.int .i64 c, .int .i64 d])).run Try.prog w = .ok (.bool (!decide ((a, b) = (c, d)))) w := by
  rw [run_neq_struct, eqPr]
  by_cases h1 : a = c <;> by_cases h2 : b = d <;> simp [h1, h2]
attribute [local go_sem] guardPr
theorem clear_pairs (w : World) (ty : TypeId) (g o n c : Nat) (hn : 0 < n) (hc : ∀ j, j < n * 2 → (w.cell? ⟨g, o + j, none⟩).isSome = true) (hf : ∀ j, j < n * 2 → w.frozen? ⟨g, o + j, none⟩ = false) :
    (Builtin.clear_ #[24] ty #[.slice (some ⟨g, o, none⟩) n c]).run Try.prog w = .ok (.tuple #[]) (w.setCells g o (Builtin.zeroCells #[.int .i64 0, .int .i64 0] n).toList) := by
  have hl : (Builtin.zeroCells #[Value.int .i64 0, Value.int .i64 0] n).toList.length = n * 2 := by simp [Builtin.zeroCells]
  have h1 : ∀ v ∈ (Builtin.zeroCells #[Value.int .i64 0, Value.int .i64 0] n).toList, v.oneCell' = true := by
    intro v hv
    simp only [Builtin.zeroCells, Array.toList_map, List.mem_map, Array.mem_toList_iff, Array.mem_range] at hv
    obtain ⟨i, _, rfl⟩ := hv
    have : i % 2 = 0 ∨ i % 2 = 1 := by omega
    rcases this with h | h <;> simp [h] <;> rfl
  have hst := run_storeCells_cells (P := Try.prog) g o (Builtin.zeroCells #[Value.int .i64 0, Value.int .i64 0] n).toList 0 w (by simpa [hl] using hc) (by simpa [hl] using hf) h1
  simp only [Nat.add_zero] at hst
  obtain ⟨m, rfl⟩ : ∃ m, n = m + 1 := ⟨n - 1, by omega⟩
  have hz : ∀ w, (zeroValue 86).run Try.prog w = .ok (.agg #[.int .i64 0, .int .i64 0]) w := Try.zeroValue86
  have hzc : (Value.agg #[Value.int .i64 0, Value.int .i64 0]).cells = #[.int .i64 0, .int .i64 0] := rfl
  simp [Builtin.clear_, run_underlying Try.underlying24, hz, hzc, hst]
theorem setCells_ownP {base k g n cap : Nat} {e : TypeId} : ∀ (zs : List Value) (o : Nat) (cs : List Value) (W : World), W.ownsRow base e k (.slice (some ⟨g, 0, none⟩) n cap) n cs →
    ∃ cs', (W.setCells g o zs).ownsRow base e k (.slice (some ⟨g, 0, none⟩) n cap) n cs' ∧ cs'.take o = cs.take o ∧ Only g (g + 1) W (W.setCells g o zs)
  | [], o, cs, W, h => ⟨cs, h, rfl, Only.refl _ _ _⟩
  | z :: zs, o, cs, W, h => by
    have h1 := (World.ownsRow.stored h o z).1
    obtain ⟨cs', h2, h3, h4⟩ := setCells_ownP zs (o + 1) _ _ h1
    refine ⟨cs', h2, ?_, ((Only.refl g (g + 1) W).setCell (p := ⟨g, o, none⟩) (.inl ⟨Nat.le_refl _, Nat.lt_succ_self _⟩) z).trans h4⟩
    have h5 : cs'.take o = (cs'.take (o + 1)).take o := by rw [List.take_take]; congr 1; omega
    rw [h5, h3, List.take_take, Nat.min_eq_left (Nat.le_succ o), List.take_set, List.set_eq_of_length_le (by rw [List.length_take]; omega)]
theorem flatP_len (xs : List Pr) : (xs.flatMap cPr).length = xs.length * 2 := by
  induction xs with
  | nil => rfl
  | cons x xs ih => rw [List.flatMap_cons, List.length_append, ih, cPr_len, List.length_cons]; omega
theorem flatP_at {xs : List Pr} {i : Nat} {x : Pr} (h : xs[i]? = some x) : (xs.flatMap cPr)[i * 2]? = some (.int .i64 x.1) ∧ (xs.flatMap cPr)[i * 2 + 1]? = some (.int .i64 x.2) :=
  ⟨flat_at cPr_len h 0 _ rfl, flat_at cPr_len h 1 _ rfl⟩
theorem flatP_set : ∀ (xs : List Pr) (i : Nat) (x : Pr), i < xs.length → ((xs.flatMap cPr).set (i * 2) (.int .i64 x.1)).set (i * 2 + 1) (.int .i64 x.2) = (xs.set i x).flatMap cPr
  | [], _, _, h => absurd h (Nat.not_lt_zero _)
  | y :: ys, 0, x, _ => by simp [cPr]
  | y :: ys, i + 1, x, h => by
    have ih := flatP_set ys i x (by simpa using h)
    simp only [List.flatMap_cons, cPr, List.cons_append, List.nil_append, List.set_cons_succ, Nat.succ_mul]
    rw [← ih]
theorem flatP_take (xs : List Pr) : ∀ k, (xs.flatMap cPr).take (k * 2) = (xs.take k).flatMap cPr := by
  induction xs with
  | nil => intro k; simp
  | cons a l ih =>
    intro k
    cases k with
    | zero => simp
    | succ k => rw [Nat.succ_mul]; simp only [List.flatMap_cons, List.take_succ_cons, cPr, List.cons_append, List.nil_append]; rw [ih]
theorem compTo_take {xs : List Pr} {k : Nat} (hk : k ≤ xs.length) (h : ∀ j, j < k → keepP xs j = true) : compTo xs k = xs.take k := by
  induction k with
  | zero => simp [compTo]
  | succ k ih =>
    have hx : xs[k]? = some (xs.getD k (0, 0)) := by rw [List.getD_eq_getElem?_getD, List.getElem?_eq_getElem (by omega)]; rfl
    rw [compTo_yes (h k (by omega)), ih (by omega) (fun j hj => h j (by omega)), take_snoc hx]
theorem getP {xs : List Pr} {i : Nat} (h : i < xs.length) : xs[i]? = some (xs.getD i (0, 0)) := by rw [List.getD_eq_getElem?_getD, List.getElem?_eq_getElem h]; rfl
theorem keepP_pos {xs : List Pr} {i : Nat} (h : 0 < i) : keepP xs i = !decide (xs.getD i (0, 0) = xs.getD (i - 1) (0, 0)) := by
  have h6 : (i == 0) = false := by simp; omega
  rw [keepP, h6, Bool.false_or, bne]
  congr 1
  rw [Bool.eq_iff_iff, beq_iff_eq, decide_eq_true_eq]

set_option maxHeartbeats 4000000 in
set_option maxRecDepth 100000 in
theorem compactP_any (lo g c : Nat) (xs : List Pr) (w : World) (hrow : w.ownsRow lo 86 2 (.slice (some ⟨g, 0, none⟩) xs.length c) xs.length (xs.flatMap cPr)) (hn : xs.length ≤ 2199023255552) :
    Calls Try.prog 123 #[.slice (some ⟨g, 0, none⟩) xs.length c] w fun e w' => ∃ m, e = .returned (.slice (some ⟨g, 0, none⟩) m c) ∧
      w'.ownsRow lo 86 2 (.slice (some ⟨g, 0, none⟩) m c) (compTo xs xs.length).length ((compTo xs xs.length).flatMap cPr) ∧ Only g (g + 1) w w' := by
  obtain ⟨hg1, hg2⟩ := hrow.lt g rfl
  obtain ⟨hlc, hcm⟩ := row_cap hrow
  obtain ⟨R, hR⟩ : ∃ R, R = compTo xs xs.length := ⟨_, rfl⟩
  rw [← hR]
  have HR := Lib.hid hR
  have HROW := Lib.hid hrow
  clear hR hrow
  obtain ⟨N, hN⟩ : ∃ N, N = xs.length := ⟨_, rfl⟩
  rw [← hN] at hn hlc HROW HR ⊢
  have HN := Lib.hid hN
  clear hN
  by_cases h2 : N < 2
  · have hfin : R = xs := by
      rw [HR.out, compTo_take (by have := HN.out; omega) (fun j hj => by obtain rfl : j = 0 := (by omega); rfl), HN.out, List.take_length]
    have HF := Lib.hid hfin
    have hnz : (N : Int) < 2 := by omega
    clear hfin
    go_enter Try.func123, Try.ntmps123
    go_wp2_with fail
    go_ret
    exact ⟨_, rfl, by rw [HF.out, ← HN.out]; exact HROW.out, Only.refl _ _ _⟩
  · have hnz : ¬ (N : Int) < 2 := by omega
    go_enter Try.func123, Try.ntmps123
    go_wp2_with fail
    go_loopw [3] (fun ii wr => ∃ (i : Nat) (u : World), 1 ≤ i ∧ i ≤ N ∧ ii = .int .i64 (i : Int) ∧ (∀ j, j < i → keepP xs j = true) ∧ wr = ext w u) (fun ii _ => N - (intOf ii).toNat)
    case atStart => exact ⟨1, w, Nat.le_refl _, by omega, rfl, (fun j hj => by obtain rfl : j = 0 := (by omega); rfl), ext_self w⟩
    case round =>
      obtain ⟨i0, u, h1, hi, rfl, hkp, rfl⟩ := hrel
      have HKP := Lib.hid hkp
      clear hkp
      by_cases hlt : i0 < N
      · have hxi := getP (xs := xs) (i := i0) (by have := HN.out; omega)
        have hxj := getP (xs := xs) (i := i0 - 1) (by have := HN.out; omega)
        have hk0 := keepP_pos (xs := xs) h1
        obtain ⟨i1, rfl⟩ : ∃ i1, i0 = i1 + 1 := ⟨i0 - 1, by omega⟩
        simp only [Nat.add_sub_cancel] at hxj hk0
        have HROWu := Lib.hid (ownsRow_below HROW.out (ext_below w u) (Nat.le_refl _))
        obtain ⟨a0, a1⟩ := flatP_at hxi
        obtain ⟨b0, b1⟩ := flatP_at hxj
        have d0 := (World.ownsRow.cellAt HROW.out ((i1 + 1) * 2) (by omega)).trans a0
        have d1 := (World.ownsRow.cellAt HROW.out ((i1 + 1) * 2 + 1) (by omega)).trans a1
        have f0 := (World.ownsRow.cellAt HROW.out (i1 * 2) (by omega)).trans b0
        have f1 := (World.ownsRow.cellAt HROW.out (i1 * 2 + 1) (by omega)).trans b1
        have HXI := Lib.hid hxi
        have HXJ := Lib.hid hxj
        have HK0 := Lib.hid hk0
        clear a0 a1 b0 b1 hxi hxj hk0
        generalize hx : xs.getD (i1 + 1) (0, 0) = x at *
        generalize hy : xs.getD i1 (0, 0) = y at *
        obtain ⟨xa, xb⟩ := x
        obtain ⟨ya, yb⟩ := y
        simp only at d0 d1 f0 f1
        have q1 : IntKind.i64.wrap (((i1 + 1 : Nat) : Int) - 1) = (i1 : Int) := by rw [IntWalk.i64_in _ (by omega)]; omega
        have hii : ((i1 + 1 : Nat) : Int) < (N : Int) := by omega
        have hjj : (i1 : Int) < (N : Int) := by omega
        have HEQ := Lib.hid (fun (w : World) => eqlPr xa xb ya yb w)
        obtain ⟨bb, hb2⟩ : ∃ bb, bb = decide ((xa, xb) = (ya, yb)) := ⟨_, rfl⟩
        rw [← hb2] at HEQ HK0
        have heq := HEQ.out
        clear hb2 hx hy
        go_wp2_with fail
        refine wp_region_ext_lit (by kernel_rfl) (by kernel_rfl) ?_
        repeat (go_big_quiet_step (fail))
        refine wpQuiet_nil ?_
        intro _ hw'
        obtain ⟨u2, hw''⟩ := hw'
        subst hw''
        obtain ⟨u4, hu4⟩ := ext_ext w u u2
        rw [hu4]
        have HU4 := Lib.hid hu4
        clear hu4 heq HEQ
        cases bb with
        | false =>
          go_wp2_with fail
          go_roundw
          case rel =>
            refine ⟨i1 + 1 + 1, u4, by omega, by omega, by go_num, fun j hj => ?_, rfl⟩
            rcases Nat.lt_or_ge j (i1 + 1) with h | h
            · exact HKP.out j h
            · obtain rfl : j = i1 + 1 := by omega
              exact HK0.out
          case measure => simp [intOf]; omega
        | true =>
          have HST := Lib.hid (show xs.take (i1 + 1) = compTo xs (i1 + 1 + 1) by rw [compTo_no HK0.out, compTo_take (by have := HN.out; omega) HKP.out])
          have hci : ¬ c = i1 + 1 := by omega
          have HROW1 := Lib.hid (ownsRow_below HROW.out (ext_below w u4) (Nat.le_refl _))
          have HON1 := Lib.hid (Only.of_below (ext_below w u4) g (g + 1))
          have hic : ((i1 + 1 : Nat) : Int) ≤ (N : Int) := by omega
          generalize ext w u4 = W1 at *
          clear HK0 HXI HXJ HKP HROWu d0 d1 f0 f1 q1
          go_wp2_with fail
          go_loopw [3, 5] (fun ii kk wr => ∃ (i k : Nat) (L : List Pr), 1 ≤ k ∧ k ≤ N - (i1 + 1) ∧ i ≤ i1 + k ∧ ii = .int .i64 (i : Int) ∧ kk = .int .i64 (k : Int) ∧ L.length = N ∧ L.take i = compTo xs (i1 + 1 + k) ∧ L.drop (i1 + k) = xs.drop (i1 + k) ∧
            wr.ownsRow lo 86 2 (.slice (some ⟨g, 0, none⟩) N c) N (L.flatMap cPr) ∧ Only g (g + 1) w wr) (fun _ kk _ => N - (i1 + 1) - (intOf kk).toNat)
          case atStart => exact ⟨i1 + 1, 1, xs, Nat.le_refl _, by omega, Nat.le_refl _, rfl, rfl, HN.out.symm, HST.out, rfl, HROW1.out, HON1.out⟩
          case round =>
            clear HROW1 HON1 HST
            obtain ⟨i, k, L, hk1, hkN, hik, rfl, rfl, hLn, hLt, hLd, hrow, hon⟩ := hrel
            have HLN := Lib.hid hLn
            have HLT := Lib.hid hLt
            have HLD := Lib.hid hLd
            have HROW := Lib.hid hrow
            have HON := Lib.hid hon
            have hsz := hon.size
            clear hLn hLt hLd hrow hon
            obtain ⟨k1, rfl⟩ : ∃ k1, k = k1 + 1 := ⟨k - 1, by omega⟩
            by_cases hlk : k1 + 1 < N - (i1 + 1)
            · have hxi := getP (xs := xs) (i := i1 + 1 + (k1 + 1)) (by have := HN.out; omega)
              have hxj := getP (xs := xs) (i := i1 + 1 + k1) (by have := HN.out; omega)
              have hk0 := keepP_pos (xs := xs) (i := i1 + 1 + (k1 + 1)) (by omega)
              rw [show i1 + 1 + (k1 + 1) - 1 = i1 + 1 + k1 by omega] at hk0
              have hLi : L[i1 + 1 + (k1 + 1)]? = some (xs.getD (i1 + 1 + (k1 + 1)) (0, 0)) := by
                have h := congrArg (fun l => l[1]?) HLD.out
                simp only [List.getElem?_drop] at h
                rw [show i1 + (k1 + 1) + 1 = i1 + 1 + (k1 + 1) by omega] at h
                rw [h, hxi]
              have hLj : L[i1 + 1 + k1]? = some (xs.getD (i1 + 1 + k1) (0, 0)) := by
                have h := congrArg (fun l => l[0]?) HLD.out
                simp only [List.getElem?_drop] at h
                rw [show i1 + (k1 + 1) + 0 = i1 + 1 + k1 by omega] at h
                rw [h, hxj]
              have hLo := getP (xs := L) (i := i) (by have := HLN.out; omega)
              obtain ⟨a0, a1⟩ := flatP_at hLi
              obtain ⟨b0, b1⟩ := flatP_at hLj
              obtain ⟨g0, g1⟩ := flatP_at hLo
              have d0 := (World.ownsRow.cellAt HROW.out ((i1 + 1 + (k1 + 1)) * 2) (by omega)).trans a0
              have d1 := (World.ownsRow.cellAt HROW.out ((i1 + 1 + (k1 + 1)) * 2 + 1) (by omega)).trans a1
              have f0 := (World.ownsRow.cellAt HROW.out ((i1 + 1 + k1) * 2) (by omega)).trans b0
              have f1 := (World.ownsRow.cellAt HROW.out ((i1 + 1 + k1) * 2 + 1) (by omega)).trans b1
              rw [show (i1 + 1 + (k1 + 1)) * 2 = (i1 + 1) * 2 + (k1 + 1) * 2 by omega] at d0 d1
              rw [show (i1 + 1 + k1) * 2 = (i1 + 1) * 2 + k1 * 2 by omega] at f0 f1
              have hgw : g < wr.heap.size := by omega
              have HK0 := Lib.hid hk0
              have HXI := Lib.hid (show ∀ h : keepP xs (i1 + 1 + (k1 + 1)) = true, compTo xs (i1 + 1 + (k1 + 1) + 1) = compTo xs (i1 + 1 + (k1 + 1)) ++ [xs.getD (i1 + 1 + (k1 + 1)) (0, 0)] from fun h => compTo_yes h)
              have HXJ := Lib.hid (show ∀ h : keepP xs (i1 + 1 + (k1 + 1)) = false, compTo xs (i1 + 1 + (k1 + 1) + 1) = compTo xs (i1 + 1 + (k1 + 1)) from fun h => compTo_no h)
              have HG0 := Lib.hid g0
              have HG1 := Lib.hid g1
              clear a0 a1 b0 b1 hxi hxj hk0 hLi hLj hLo g0 g1
              generalize hx : xs.getD (i1 + 1 + (k1 + 1)) (0, 0) = x at *
              generalize hy : xs.getD (i1 + 1 + k1) (0, 0) = y at *
              generalize L.getD i (0, 0) = old at *
              clear hx hy
              obtain ⟨xa, xb⟩ := x
              obtain ⟨ya, yb⟩ := y
              simp only at d0 d1 f0 f1
              have q1 : IntKind.i64.wrap (((k1 + 1 : Nat) : Int) - 1) = (k1 : Int) := by rw [IntWalk.i64_in _ (by omega)]; omega
              have hii : ((k1 + 1 : Nat) : Int) < ((N - (i1 + 1) : Nat) : Int) := by omega
              have hjj : (k1 : Int) < ((N - (i1 + 1) : Nat) : Int) := by omega
              have hiN : (i : Int) < (N : Int) := by omega
              have HEQ := Lib.hid (fun (w : World) => neqlPr xa xb ya yb w)
              obtain ⟨bb, hb2⟩ : ∃ bb, bb = !decide ((xa, xb) = (ya, yb)) := ⟨_, rfl⟩
              rw [← hb2] at HEQ HK0
              have heq := HEQ.out
              clear hb2
              go_wp2_with fail
              refine wp_region_ext_lit (by kernel_rfl) (by kernel_rfl) ?_
              repeat (go_big_quiet_step (fail))
              refine wpQuiet_nil ?_
              intro _ hw'
              obtain ⟨u2, hw''⟩ := hw'
              subst hw''
              have hbu := ext_below wr u2
              have HROWx := Lib.hid (ownsRow_below HROW.out hbu (Nat.le_refl _))
              have HONx := Lib.hid (HON.out.trans (Only.of_below hbu g (g + 1)))
              have d0 := kcell hbu d0
              have d1 := kcell hbu d1
              have hgx := Nat.lt_of_lt_of_le hgw hbu.size
              generalize ext wr u2 = wx at *
              clear heq HEQ f0 f1 hbu
              cases bb with
              | true =>
                have ci0 := (World.ownsRow.cellAt HROWx.out (i * 2) (by omega)).trans HG0.out
                have ci1 := (World.ownsRow.cellAt HROWx.out (i * 2 + 1) (by omega)).trans HG1.out
                have fi0 := World.ownsRow.frozenAt HROWx.out (i * 2)
                have fi1 := World.ownsRow.frozenAt HROWx.out (i * 2 + 1)
                have hrow3 := (World.ownsRow.stored (World.ownsRow.stored HROWx.out (i * 2) (.int .i64 xa)).1 (i * 2 + 1) (.int .i64 xb)).1
                rw [flatP_set L i (xa, xb) (by have := HLN.out; omega)] at hrow3
                have hon3 := (HONx.out.setCell (p := ⟨g, i * 2, none⟩) (.inl ⟨Nat.le_refl _, Nat.lt_succ_self _⟩) (.int .i64 xa)).setCell (p := ⟨g, i * 2 + 1, none⟩) (.inl ⟨Nat.le_refl _, Nat.lt_succ_self _⟩) (.int .i64 xb)
                have HROW3 := Lib.hid hrow3
                have HON3 := Lib.hid hon3
                have HL3 := Lib.hid (show (L.set i (xa, xb)).length = N by rw [List.length_set]; exact HLN.out)
                have HT3 := Lib.hid (show (L.set i (xa, xb)).take (i + 1) = compTo xs (i1 + 1 + (k1 + 1 + 1)) by
                  have h1 : (L.set i (xa, xb))[i]? = some (xa, xb) := List.getElem?_set_self (by have := HLN.out; omega)
                  rw [take_snoc h1, List.take_set, List.set_eq_of_length_le (by rw [List.length_take]; omega), HLT.out, show i1 + 1 + (k1 + 1 + 1) = i1 + 1 + (k1 + 1) + 1 by omega, HXI.out HK0.out])
                have HD3 := Lib.hid (show (L.set i (xa, xb)).drop (i1 + (k1 + 1 + 1)) = xs.drop (i1 + (k1 + 1 + 1)) by
                  rw [List.drop_set_of_lt (by omega), ← Nat.add_assoc, ← List.drop_drop, HLD.out, List.drop_drop])
                clear hrow3 hon3
                go_wp2_with fail
                go_roundw
                case rel => exact ⟨i + 1, k1 + 1 + 1, L.set i (xa, xb), by omega, by omega, by omega, by go_num, by go_num, HL3.out, HT3.out, HD3.out, HROW3.out, HON3.out⟩
                case measure => simp [intOf]; omega
              | false =>
                have HT3 := Lib.hid (show L.take i = compTo xs (i1 + 1 + (k1 + 1 + 1)) by rw [HLT.out, show i1 + 1 + (k1 + 1 + 1) = i1 + 1 + (k1 + 1) + 1 by omega, HXJ.out HK0.out])
                have HD3 := Lib.hid (show L.drop (i1 + (k1 + 1 + 1)) = xs.drop (i1 + (k1 + 1 + 1)) by
                  rw [← Nat.add_assoc, ← List.drop_drop, HLD.out, List.drop_drop])
                go_wp2_with fail
                go_roundw
                case rel => exact ⟨i, k1 + 1 + 1, L, by omega, by omega, by omega, rfl, by go_num, HLN.out, HT3.out, HD3.out, HROWx.out, HONx.out⟩
                case measure => simp [intOf]; omega
            · have hkk : k1 + 1 = N - (i1 + 1) := by omega
              have hlz : ¬ ((k1 + 1 : Nat) : Int) < ((N - (i1 + 1) : Nat) : Int) := by omega
              have hci2 : ¬ c = i := by omega
              have hcl : ∀ ty, (Builtin.clear_ #[24] ty #[.slice (some ⟨g, i * 2, none⟩) (N - i) (c - i)]).run Try.prog wr = .ok (.tuple #[]) (wr.setCells g (i * 2) (Builtin.zeroCells #[.int .i64 0, .int .i64 0] (N - i)).toList) :=
                fun ty => clear_pairs wr ty g (i * 2) (N - i) (c - i) (by omega) (fun t ht => by
                  rw [World.ownsRow.cellAt HROW.out (i * 2 + t) (by omega), List.getElem?_eq_getElem (by rw [flatP_len]; have := HLN.out; omega)]; rfl) (fun t ht => World.ownsRow.frozenAt HROW.out (i * 2 + t))
              obtain ⟨cs', h1, h2, h3⟩ := setCells_ownP (Builtin.zeroCells #[.int .i64 0, .int .i64 0] (N - i)).toList (i * 2) _ _ HROW.out
              have h4 := ownsRow_take h1 (show i ≤ N by omega)
              have hfin : R = L.take i := by rw [HR.out, HLT.out]; congr 1; omega
              rw [h2, flatP_take, ← hfin] at h4
              have hRl : R.length = i := by rw [hfin, List.length_take]; have := HLN.out; omega
              have HOWN := Lib.hid h4
              have HRL := Lib.hid hRl
              have HON2 := Lib.hid (HON.out.trans h3)
              have hcz : (i : Int) ≤ (N : Int) := by omega
              have hcz2 : (i : Int) ≤ (c : Int) := by omega
              clear h1 h2 h3 h4 hfin hRl hkk
              go_wp2_with fail
              go_ret
              exact ⟨_, rfl, by rw [HRL.out]; exact HOWN.out, HON2.out⟩
      · obtain rfl : i0 = N := by omega
        have hfin : R = xs := by rw [HR.out, compTo_take (by have := HN.out; omega) HKP.out, HN.out, List.take_length]
        have HF := Lib.hid hfin
        have HROWu := Lib.hid (ownsRow_below HROW.out (ext_below w u) (Nat.le_refl _))
        clear hfin
        go_wp2_with fail
        go_ret
        exact ⟨_, rfl, by rw [HF.out, ← HN.out]; exact HROWu.out, Only.of_below (ext_below w u) _ _⟩
end Go.Proofs.Ytmdgloeejjepmaa

/- The program's pairSet, InvertRelation and ComposeRelations. -/
namespace Go.Proofs.Ytmdgloeejjepmaa
set_option linter.unusedVariables false
set_option linter.unusedSimpArgs false
open Go.ChangeShapes Go.WideShapes Go.ChangeAt Go.RowKit
attribute [local go_sem] ext_cell ext_frozen ext_lt ext_lt1 ext_lt2 ext_lt3 ltn2 ltn3 ltn13 lts1 lts2 lts3

theorem ocellI {lo hi : Nat} {w w' : World} (h : Only lo hi w w') {b o : Nat} {v : Value} (hc : w.cell? ⟨b, o, none⟩ = some v) (hb : b < w.heap.size) (ho : b < lo ∨ hi ≤ b) : w'.cell? ⟨b, o, none⟩ = some v := (h.cell (p := ⟨b, o, none⟩) hb ho).trans hc
theorem onlyGrown {lo hi : Nat} {a w w' : World} {row : Option Nat} (h : Only lo hi a w) (hg : w.grownBy w' row) (hr : ∀ b, row = some b → (lo ≤ b ∧ b < hi) ∨ a.heap.size ≤ b) : Only lo hi a w' :=
  ⟨hg.os.trans h.os, hg.tape.trans h.tape, hg.output.trans h.output, Nat.le_trans h.size hg.size, fun n hn ho => (hg.block n (Nat.lt_of_lt_of_le hn h.size) (fun e => by have := hr n e.symm; omega)).trans (h.block n hn ho)⟩
theorem own_blk {W : World} {base k n : Nat} {e : TypeId} {v : Value} {cs : List Value} (h : W.ownsRow base e k v n cs) {b : Nat} (hb : v.ownBlock = some b) : ∃ c, v = .slice (some ⟨b, 0, none⟩) n c := by
  obtain ⟨_, hs⟩ := h
  rcases hs with ⟨rfl, _⟩ | ⟨g, cap, cur, rfl, _⟩
  · cases hb
  · injection hb with hb
    subst hb
    exact ⟨cap, rfl⟩

set_option maxHeartbeats 2000000 in
theorem pairSet_any (v : Value) (xs : List Pr) (w : World) (hv : SlE w cPr 2 v xs) (hn : xs.length ≤ 1099511627776) :
    Calls Try.prog 64 #[v] w fun e w' => ∃ v', e = .returned v' ∧ Own w.heap.size w'.heap.size w' 86 cPr 2 v' (psetL xs) ∧ Below w.heap.size w w' := by
  have hv0 := hv
  obtain ⟨A, c, rfl, hl, hm, -⟩ := hv
  unfold maxLen at hm
  have hba : Below w.heap.size w (w.alloc (.cells #[] 86)) := (Below.refl _ _).alloc (Nat.le_refl _) _
  have hv1 := SlE.keep hv0 hba
  have hrow := World.ownsRow_lit (base := w.heap.size) (e := 86) (size := 2) w #[] 0 (Nat.le_refl _) (by decide) rfl
  obtain ⟨R, hR⟩ : ∃ R, R = psetL xs := ⟨_, rfl⟩
  rw [← hR]
  have HRS := Lib.hid hR
  have HV := Lib.hid hv1
  have HR := Lib.hid hrow
  have HBA := Lib.hid hba
  clear hv0 hv1 hrow hR hba
  go_enter Try.func64, Try.ntmps64
  go_wp2_with (at_builtin; (refine wpList_appendL cPr elPair cPr_len cPr_one rfl _ _ rfl w.heap.size _ [] xs (by rfl) HR.out 0 _ _ (by rfl) HV.out (by simp; omega) (by omega) (by simp) ?_); intro v' w4 hrow' hgr4 hat4)
  simp only [List.nil_append] at hrow'
  have hb4 := HBA.out.trans (own_below HR.out (by simp) hgr4)
  have hob : ∃ b, v'.ownBlock = some b := by
    rcases hat4 with h | h
    · exact ⟨w.heap.size, h⟩
    · exact ⟨_, h⟩
  obtain ⟨g, hob⟩ := hob
  obtain ⟨c', rfl⟩ := own_blk hrow' hob
  have HS := Lib.hid (sortPairs_any w.heap.size g c' xs w4 hrow' (by omega))
  have HB4 := Lib.hid hb4
  have hg1 := (hrow'.lt g rfl).1
  have hg2 := (hrow'.lt g rfl).2
  clear hrow' hgr4 hat4 hob hb4
  refine HS.out.mono ?_
  rintro e w5 ⟨rfl, ys, hyl, hym, hys, hrow5, hon5⟩
  have hset := compTo_set hys hym
  rw [← HRS.out] at hset
  rw [← hyl] at hrow5
  have HC := Lib.hid (compactP_any w.heap.size g c' ys w5 hrow5 (by omega))
  rw [hset] at HC
  have HB5 := Lib.hid (HB4.out.trans (hon5.below (B := w.heap.size) hg1 (by omega)))
  have hs5 := hon5.size
  rw [← hyl]
  clear hset hrow5 hon5 hys hym hyl HS
  go_wp2_with fail
  refine HC.out.mono ?_
  rintro e w6 ⟨m, rfl, hrow6, hon6⟩
  have HO := Lib.hid (Own.of_row (xs := R) hrow6 rfl rfl)
  have HB6 := Lib.hid (HB5.out.trans (hon6.below (B := w.heap.size) hg1 (by omega)))
  clear hrow6 hon6
  go_wp2_with fail
  go_ret
  exact ⟨_, rfl, HO.out, HB6.out⟩

set_option maxHeartbeats 2000000 in
theorem implInvert (v : Value) (xs : List Pr) (w : World) (hv : SlE w cPr 2 v xs) (hn : xs.length ≤ 1048576) :
    Calls Try.prog 18 #[v] w fun e w' => ∃ v', e = .returned v' ∧ Own w.heap.size w'.heap.size w' 86 cPr 2 v' (invertL xs) ∧ Below w.heap.size w w' := by
  have hsl := hv
  obtain ⟨A, c, rfl, hl, hm, -⟩ := hv
  unfold maxLen at hm
  obtain ⟨R, hR⟩ : ∃ R, R = invertL xs := ⟨_, rfl⟩
  rw [← hR]
  have HR := Lib.hid hR
  have HSL := Lib.hid hsl
  clear hR hsl
  go_enter Try.func18, Try.ntmps18
  go_wp2_with fail
  go_loopw [3, 9] (fun oo ii wr => ∃ i : Nat, i ≤ xs.length ∧ ii = .int .i64 (i : Int) ∧ wr.ownsRow w.heap.size 86 2 oo ((xs.take i).map fun p => (p.2, p.1)).length (((xs.take i).map fun p => (p.2, p.1)).flatMap cPr) ∧ Below w.heap.size w wr) (fun _ ii _ => xs.length - (intOf ii).toNat)
  case atStart => exact ⟨0, Nat.zero_le _, rfl, World.ownsRow_lit w #[] 0 (Nat.le_refl _) (by decide) rfl, (Below.refl _ _).alloc (Nat.le_refl _) _⟩
  case round =>
    obtain ⟨i, hi, rfl, hrow, hbel⟩ := hrel
    have HROW := Lib.hid hrow
    have hsz := hbel.size
    clear hrow
    by_cases hlt : i < xs.length
    · have hxi : xs[i]? = some xs[i] := List.getElem?_eq_getElem hlt
      generalize xs[i] = x at hxi
      obtain ⟨b, o, rfl, ⟨-, hb⟩, d0, d1⟩ := HSL.out.prA hxi
      have d0 := kcell hbel d0
      have d1 := kcell hbel d1
      obtain ⟨xa, xb⟩ := x
      simp only at d0 d1
      have hbw : b < wr.heap.size := by omega
      have hii : (i : Int) < (xs.length : Int) := by omega
      have HSN := Lib.hid (show ((xs.take (i + 1)).map fun p => (p.2, p.1)) = ((xs.take i).map fun p => (p.2, p.1)) ++ [(xb, xa)] from take_mapS hxi)
      have hpl : ((xs.take i).map fun p : Pr => (p.2, p.1)).length ≤ xs.length := by rw [List.length_map, List.length_take]; omega
      have HRA := Lib.hid (HROW.out.alloc (.cells #[.int .i64 xa, .int .i64 xb] 86))
      have HBA := Lib.hid (hbel.alloc hsz (.cells #[.int .i64 xa, .int .i64 xb] 86))
      clear hxi
      generalize ((xs.take i).map fun p : Pr => (p.2, p.1)) = L at *
      go_wp2_with (at_builtin; (refine wpList_append1 cPr elPair rfl _ _ rfl w.heap.size _ L (xb, xa) _ 1 (wr.heap.size + 1) (by rfl) HRA.out (by rfl) (by simp) rfl rfl (cPr_one _) (by omega) (by omega) (by simp; omega) ?_); intro v' w4 hrow' hb4 _ _)
      go_roundw
      case rel => exact ⟨i + 1, by omega, by go_num, by rw [HSN.out]; exact hrow', HBA.out.trans hb4⟩
      case measure => simp [intOf]; omega
    · obtain rfl : i = xs.length := by omega
      rw [List.take_length] at HROW
      have hown := Own.of_row (xs := xs.map fun p : Pr => (p.2, p.1)) HROW.out rfl rfl
      have HP := Lib.hid (pairSet_any _ (xs.map fun p : Pr => (p.2, p.1)) wr ((hown.sl cPr_len).all (Nat.le_refl _)) (by rw [List.length_map]; omega))
      rw [show psetL (xs.map fun p : Pr => (p.2, p.1)) = R from HR.out.symm] at HP
      clear hown
      go_wp2_with fail
      refine HP.out.mono ?_
      rintro e w5 ⟨v5, rfl, ho5, hb5⟩
      have HO := Lib.hid (ho5.mono hsz (Nat.le_refl _))
      have HB := Lib.hid (below_trans hbel hb5)
      obtain ⟨A9, n9, c9, rfl⟩ := ho5.shape
      clear ho5 hb5
      go_wp2_with fail
      go_ret
      exact ⟨_, rfl, HO.out, HB.out⟩

set_option maxHeartbeats 4000000 in
set_option maxRecDepth 100000 in
theorem implCompose (va vb : Value) (a b : List Pr) (w : World) (hva : SlE w cPr 2 va a) (hvb : SlE w cPr 2 vb b) (hna : a.length ≤ 1048576) (hnb : b.length ≤ 1048576) :
    Calls Try.prog 23 #[va, vb] w fun e w' => ∃ v', e = .returned v' ∧ Own w.heap.size w'.heap.size w' 86 cPr 2 v' (composeL a b) ∧ Below w.heap.size w w' := by
  have hsa := hva
  have hsb := hvb
  obtain ⟨A, ca, rfl, hla, hma, -⟩ := hva
  obtain ⟨B, cb, rfl, hlb, hmb, -⟩ := hvb
  unfold maxLen at hma hmb
  obtain ⟨R, hR⟩ : ∃ R, R = composeL a b := ⟨_, rfl⟩
  rw [← hR]
  rw [← composeL_pset] at hR
  obtain ⟨gO, hgO⟩ : ∃ gO, gO = w.heap.size := ⟨_, rfl⟩
  obtain ⟨W0, hW0⟩ : ∃ W0, W0 = w.alloc (.cells #[] 86) := ⟨_, rfl⟩
  have hb0 : Below w.heap.size w W0 := by rw [hW0]; exact (Below.refl _ _).alloc (Nat.le_refl _) _
  have hrow0 : W0.ownsRow gO 86 2 (.slice (some ⟨gO, 0, none⟩) 0 0) 0 [] := by
    rw [hW0, hgO]
    exact World.ownsRow_lit w #[] 0 (Nat.le_refl _) (by decide) rfl
  have hgs : gO < W0.heap.size := by rw [hW0, hgO]; simp
  have hps := pairSet_any _ a W0 (SlE.keep hsa hb0) (by omega)
  have hpl := psetL_len a
  have HR := Lib.hid hR
  have HSB := Lib.hid hsb
  have HPS := Lib.hid hps
  have HB0 := Lib.hid hb0
  have HROW0 := Lib.hid hrow0
  clear hR hsa hsb hps hb0 hrow0
  generalize psetL a = pa at *
  go_enter Try.func23, Try.ntmps23
  go_wp2_with fail
  rw [← hW0, ← hgO]
  clear hW0
  refine HPS.out.mono ?_
  rintro e w1 ⟨v1, rfl, ho1, hb1⟩
  have HB1 := Lib.hid (below_trans HB0.out hb1)
  have HROW1 := Lib.hid (ownsRow_below HROW0.out hb1 (Nat.le_refl _))
  have hs1 := hb1.size
  have HC6 := Lib.hid (ho1.sl cPr_len)
  obtain ⟨A6, c6, rfl, hl6, hm6, -⟩ := ho1.form cPr_len
  have HWG := Lib.hid hgO
  have hwg : w.heap.size ≤ gO := by omega
  have hgw : gO ≤ w.heap.size := by omega
  clear ho1 hb1 HPS HROW0 hgO
  go_wp2_with fail
  go_loopw [5, 14] (fun oo ii wr => ∃ i : Nat, i ≤ pa.length ∧ ii = .int .i64 (i : Int) ∧ wr.ownsRow gO 86 2 oo (compL (pa.take i) b).length ((compL (pa.take i) b).flatMap cPr) ∧ Only gO (gO + 1) w1 wr ∧ (∀ b, oo.ownBlock = some b → b = gO ∨ w1.heap.size ≤ b)) (fun _ ii _ => pa.length - (intOf ii).toNat)
  case atStart => exact ⟨0, Nat.zero_le _, rfl, HROW1.out, Only.refl _ _ _, fun b hb => by cases hb; exact .inl rfl⟩
  case round =>
    clear HROW1
    obtain ⟨i, hi, rfl, hrow, hon, hob⟩ := hrel
    have HROW := Lib.hid hrow
    have HON := Lib.hid hon
    have HOB := Lib.hid hob
    have hsz := hon.size
    clear hrow hon hob
    obtain ⟨wo, rfl⟩ : ∃ wo : World, wo = wr := ⟨_, rfl⟩
    by_cases hlt : i < pa.length
    · have hxi : pa[i]? = some pa[i] := List.getElem?_eq_getElem hlt
      generalize pa[i] = x at hxi
      obtain ⟨b1, o1, rfl, ⟨hb10, hb1⟩, d0, d1⟩ := HC6.out.prA hxi
      have d0 := ocellI HON.out d0 hb1 (.inr (by omega))
      have d1 := ocellI HON.out d1 hb1 (.inr (by omega))
      obtain ⟨xa, xb⟩ := x
      simp only at d0 d1
      have hb1w : b1 < wo.heap.size := by omega
      have hii : (i : Int) < (pa.length : Int) := by omega
      have HRY := Lib.hid (fun (q : Pr) (j : Nat) (h : b[j]? = some q) he => compRow_yes (p := (xa, xb)) h he)
      have HRN := Lib.hid (fun (q : Pr) (j : Nat) (h : b[j]? = some q) he => compRow_no (p := (xa, xb)) h he)
      have HTK := Lib.hid (compL_take (b := b) hxi)
      have HRL := Lib.hid (compRow_len (xa, xb) b)
      have hcl := compL_len (pa.take i) b
      have hcl2 : (compL (pa.take i) b).length ≤ 1099511627776 - 1048576 := Nat.le_trans hcl (Nat.le_trans (Nat.mul_le_mul (show (pa.take i).length ≤ 1048575 by rw [List.length_take]; omega) hnb) (by omega))
      clear hxi hcl
      generalize compL (pa.take i) b = C at *
      obtain ⟨W7, hW7⟩ : ∃ W7, W7 = wo.alloc (.cells #[.int .i64 xa, .int .i64 xb] 86) := ⟨_, rfl⟩
      have e0 : W7.cell? ⟨wo.heap.size, 0, none⟩ = some (.int .i64 xa) := by rw [hW7]; simp
      have e1 : W7.cell? ⟨wo.heap.size, 1, none⟩ = some (.int .i64 xb) := by rw [hW7]; simp
      have hs7 : wo.heap.size < W7.heap.size := by rw [hW7]; simp
      have HROW7 := Lib.hid (show W7.ownsRow gO 86 2 _ C.length (C.flatMap cPr) by rw [hW7]; exact HROW.out.alloc _)
      have HON7 := Lib.hid (show Only gO (gO + 1) w1 W7 by rw [hW7]; exact HON.out.alloc _)
      have hlt7 := HROW.out.lt
      have HL7 := Lib.hid hlt7
      clear hlt7
      go_wp2_with fail
      rw [← hW7]
      clear hW7 d0 d1
      go_loopw [5, 20] (fun oo jj wr => ∃ j : Nat, j ≤ b.length ∧ jj = .int .i64 (j : Int) ∧ wr.ownsRow gO 86 2 oo (C ++ compRow (xa, xb) (b.take j)).length ((C ++ compRow (xa, xb) (b.take j)).flatMap cPr) ∧
        Only gO (gO + 1) w1 wr ∧ Only gO wo.heap.size W7 wr ∧ (∀ b, oo.ownBlock = some b → (b = gO ∨ w1.heap.size ≤ b) ∧ ((gO ≤ b ∧ b < wo.heap.size) ∨ W7.heap.size ≤ b))) (fun _ jj _ => b.length - (intOf jj).toNat)
      case atStart => exact ⟨0, Nat.zero_le _, rfl, by simpa [compRow] using HROW7.out, HON7.out, Only.refl _ _ _, fun b hb => ⟨HOB.out b hb, .inl (HL7.out b hb)⟩⟩
      case round =>
        clear HROW7 HON7 HL7
        obtain ⟨j, hj, rfl, hrow2, hon2, hon3, hob2⟩ := hrel
        have HROW2 := Lib.hid hrow2
        have HON2 := Lib.hid hon2
        have HON3 := Lib.hid hon3
        have HOB2 := Lib.hid hob2
        have hsz2 := hon2.size
        have hsz3 := hon3.size
        have e0 := ocellI hon3 e0 hs7 (.inr (Nat.le_refl _))
        have e1 := ocellI hon3 e1 hs7 (.inr (Nat.le_refl _))
        have hbw := HB1.out.trans (hon2.below (B := w.heap.size) hwg HB1.out.size)
        have HBW := Lib.hid hbw
        have hbs := hbw.size
        clear hrow2 hon2 hon3 hob2 hbw
        by_cases hlj : j < b.length
        · have hyj : b[j]? = some b[j] := List.getElem?_eq_getElem hlj
          generalize b[j] = y at hyj
          obtain ⟨b2, o2, rfl, ⟨-, hb2⟩, f0, f1⟩ := HSB.out.prA hyj
          have f0 := kcell HBW.out f0
          have f1 := kcell HBW.out f1
          obtain ⟨ya, yb⟩ := y
          simp only at f0 f1
          have hb2w : b2 < wr.heap.size := by omega
          have hwo : wo.heap.size < wr.heap.size := by omega
          have hjj : (j : Int) < (b.length : Int) := by omega
          have HYJ := Lib.hid hyj
          have hrl := HRL.out j
          have hll : (C ++ compRow (xa, xb) (b.take j)).length ≤ 1099511627776 := by rw [List.length_append]; omega
          clear hyj
          have HRA := Lib.hid (HROW2.out.alloc (.cells #[.int .i64 ya, .int .i64 yb] 86))
          have HOA2 := Lib.hid (HON2.out.alloc (.cells #[.int .i64 ya, .int .i64 yb] 86))
          have HOA3 := Lib.hid (HON3.out.alloc (.cells #[.int .i64 ya, .int .i64 yb] 86))
          cases hxy : (xb == ya) with
          | true =>
            have HSN := Lib.hid (show C ++ compRow (xa, xb) (b.take (j + 1)) = (C ++ compRow (xa, xb) (b.take j)) ++ [(xa, yb)] by
              rw [HRY.out _ j HYJ.out (by simpa using hxy), ← List.append_assoc])
            generalize C ++ compRow (xa, xb) (b.take j) = L at *
            go_wp2_with (at_builtin; (refine wpList_append1 cPr elPair rfl _ _ rfl gO _ L (xa, yb) _ 1 (wr.heap.size + 1) (by rfl) HRA.out (by rfl) (by simp) rfl rfl (cPr_one _) (by omega) (by omega) (by simp; omega) ?_); intro v' w4 hrow' hb4 hat4 hgr4)
            go_roundw
            case rel =>
              refine ⟨j + 1, by omega, by go_num, by rw [HSN.out]; exact hrow', onlyGrown (HOA2.out.alloc _) hgr4 (fun b hb => by have := (HOB2.out b hb).1; omega), onlyGrown (HOA3.out.alloc _) hgr4 (fun b hb => (HOB2.out b hb).2), fun b hb => ?_⟩
              rcases hat4 with h1 | ⟨g1, h1, h2⟩
              · exact HOB2.out b (by rw [← h1]; exact hb)
              · rw [h1] at hb
                injection hb with hb
                simp at h2
                exact ⟨.inr (by omega), .inr (by omega)⟩
            case measure => simp [intOf]; omega
          | false =>
            have HSN := Lib.hid (show C ++ compRow (xa, xb) (b.take (j + 1)) = C ++ compRow (xa, xb) (b.take j) by
              rw [HRN.out _ j HYJ.out (by simpa using hxy)])
            generalize C ++ compRow (xa, xb) (b.take j) = L at *
            go_wp2_with fail
            go_roundw
            case rel => exact ⟨j + 1, by omega, by go_num, by rw [HSN.out]; exact HRA.out, HOA2.out, HOA3.out, HOB2.out⟩
            case measure => simp [intOf]; omega
        · obtain rfl : j = b.length := by omega
          rw [List.take_length, ← HTK.out] at HROW2
          go_wp2_with fail
          go_roundw
          case rel => exact ⟨i + 1, by omega, by go_num, HROW2.out, HON2.out, fun b hb => (HOB2.out b hb).1⟩
          case measure => simp [intOf]; omega
    · obtain rfl : i = pa.length := by omega
      rw [List.take_length] at HROW
      have hown := Own.of_row (xs := compL pa b) HROW.out rfl rfl
      have hcl := compL_len pa b
      have hcl2 : (compL pa b).length ≤ 1099511627776 := Nat.le_trans hcl (Nat.le_trans (Nat.mul_le_mul (show pa.length ≤ 1048576 by omega) hnb) (by omega))
      have HP := Lib.hid (pairSet_any _ (compL pa b) wo ((hown.sl cPr_len).all (Nat.le_refl _)) hcl2)
      rw [← HR.out] at HP
      have HBW := Lib.hid (HB1.out.trans (HON.out.below (B := w.heap.size) hwg HB1.out.size))
      clear hown hcl hcl2
      go_wp2_with fail
      refine HP.out.mono ?_
      rintro e w5 ⟨v5, rfl, ho5, hb5⟩
      have HO := Lib.hid (ho5.mono HBW.out.size (Nat.le_refl _))
      have HB := Lib.hid (below_trans HBW.out hb5)
      obtain ⟨A9, n9, c9, rfl⟩ := ho5.shape
      clear ho5 hb5
      go_wp2_with fail
      go_ret
      exact ⟨_, rfl, HO.out, HB.out⟩
end Go.Proofs.Ytmdgloeejjepmaa

/- Whether a program's text can call itself: told by ranks along the calls. Over any program. -/
namespace Go.Proofs.Ytmdgloeejjepmaa
set_option linter.unusedVariables false
set_option linter.unusedSimpArgs false
def leadsOf (P : Program) (f : FuncId) : List FuncId := (P.funcs[f]?).elim [] P.leadsTo
def rankOk (P : Program) (T : List (FuncId × Nat)) : Bool :=
  T.all fun q => T.lookup q.1 == some q.2 && (leadsOf P q.1).all fun h => match T.lookup h with | some r => decide (r < q.2) | none => false
def plainAll (P : Program) (T : List (FuncId × Nat)) : Bool :=
  T.all fun q => !((P.funcs[q.1]?).any fun fn => match fn.body with | some c => c.unfollowed | none => entryCalls fn)
theorem via_sub {P : Program} {p : FuncId → Prop} (hp : ∀ f, p f → ∀ h ∈ leadsOf P f, p h) : ∀ (n : Nat) (todo seen : List FuncId), (∀ f ∈ todo, p f) → (∀ f ∈ seen, p f) → ∀ g ∈ P.closureVia n todo seen, p g
  | 0, _, seen, _, hs, g, hg => hs g (by simpa [Program.closureVia] using hg)
  | _ + 1, [], seen, _, hs, g, hg => hs g (by simpa [Program.closureVia] using hg)
  | n + 1, f :: todo, seen, ht, hs, g, hg => by
    rw [Program.closureVia] at hg
    split at hg
    · exact via_sub hp n todo seen (fun x hx => ht x (List.mem_cons_of_mem _ hx)) hs g hg
    · refine via_sub hp n _ _ (fun x hx => ?_) (fun x hx => ?_) g hg
      · rcases List.mem_append.1 hx with h | h
        · exact hp f (ht f (List.mem_cons_self ..)) x h
        · exact ht x (List.mem_cons_of_mem _ h)
      · rcases List.mem_cons.1 hx with rfl | h
        · exact ht x (List.mem_cons_self ..)
        · exact hs x h
theorem closure_sub {P : Program} {p : FuncId → Prop} (hp : ∀ f, p f → ∀ h ∈ leadsOf P f, p h) {f : FuncId} (hf : p f) : ∀ g ∈ P.closure f, p g := by
  unfold Program.closure
  exact via_sub hp _ _ _ (by simpa using hf) (by simp)
theorem lookup_mem {T : List (FuncId × Nat)} {x : FuncId} {r : Nat} (h : T.lookup x = some r) : (x, r) ∈ T := by
  induction T with
  | nil => simp at h
  | cons q T ih =>
    obtain ⟨a, b⟩ := q
    rw [List.lookup_cons] at h
    split at h
    · rename_i hx
      have e1 : x = a := by simpa using hx
      have e2 : b = r := by simpa using h
      subst e1 e2
      exact List.mem_cons_self ..
    · exact List.mem_cons_of_mem _ (ih h)
theorem rank_step {P : Program} {T : List (FuncId × Nat)} (hT : rankOk P T = true) {f : FuncId} {r : Nat} (hf : T.lookup f = some r) {h : FuncId} (hh : h ∈ leadsOf P f) : ∃ s, T.lookup h = some s ∧ s < r := by
  have h1 := List.all_eq_true.1 hT _ (lookup_mem hf)
  simp only [Bool.and_eq_true] at h1
  have h2 := List.all_eq_true.1 h1.2 h hh
  cases hl : T.lookup h with
  | none => rw [hl] at h2; cases h2
  | some s => rw [hl] at h2; exact ⟨s, rfl, by simpa using h2⟩
theorem rank_closure {P : Program} {T : List (FuncId × Nat)} (hT : rankOk P T = true) {f : FuncId} {r : Nat} (hf : T.lookup f = some r) : ∀ g ∈ P.closure f, ∃ s, T.lookup g = some s ∧ s ≤ r :=
  closure_sub (p := fun g => ∃ s, T.lookup g = some s ∧ s ≤ r) (fun x ⟨s, hs, hr⟩ h hh => by
    obtain ⟨t, ht, hlt⟩ := rank_step hT hs hh
    exact ⟨t, ht, by omega⟩) ⟨r, hf, Nat.le_refl _⟩
theorem unfollowed_no {P : Program} {T : List (FuncId × Nat)} {f : FuncId} {r : Nat} (hT : rankOk P T = true) (hp : plainAll P T = true) (hf : T.lookup f = some r) : P.unfollowed f = false := by
  rw [Program.unfollowed, List.any_eq_false]
  intro g hg
  obtain ⟨s, hs, _⟩ := rank_closure hT hf g hg
  have := List.all_eq_true.1 hp _ (lookup_mem hs)
  exact Bool.eq_false_iff.1 (Eq.mp (Bool.not_eq_true' _) this)
theorem recurses_no {P : Program} {T : List (FuncId × Nat)} {f : FuncId} {r : Nat} (hT : rankOk P T = true) (hp : plainAll P T = true) (hf : T.lookup f = some r) : P.recurses f = false := by
  rw [Program.recurses, unfollowed_no hT hp hf, Bool.false_or, List.any_eq_false]
  intro g hg
  obtain ⟨s, hs, _⟩ := rank_closure hT hf g hg
  rw [Bool.not_eq_true, List.any_eq_false]
  intro h hh
  obtain ⟨t, ht, hlt⟩ := rank_step hT hs hh
  intro hc
  have hm : g ∈ P.closure h := by simpa using hc
  obtain ⟨u, hu, hle⟩ := rank_closure hT ht g hm
  rw [hs] at hu
  injection hu with e
  omega
theorem recurses_yes {P : Program} {f : FuncId} (g h : FuncId) (h1 : (P.closure f).contains g = true) (h2 : (leadsOf P g).contains h = true) (h3 : (P.closure h).contains g = true) : P.recurses f = true := by
  rw [Program.recurses, Bool.or_eq_true]
  refine .inr (List.any_eq_true.2 ⟨g, by simpa using h1, List.any_eq_true.2 ⟨h, by simpa [leadsOf] using h2, h3⟩⟩)
end Go.Proofs.Ytmdgloeejjepmaa

/- Facts on this seat's program as a whole that every row asks for: told once. -/
namespace Go.Proofs.Ytmdgloeejjepmaa
set_option linter.unusedVariables false
set_option linter.unusedSimpArgs false
theorem seat_mayEnter : Try.pinned.checked.prog.mayEnter = true := by kernel_rfl
theorem seat_lifts : Try.pinned.checked.prog.liftsFinal = false := by kernel_rfl
theorem seat_laidOut : laidOutB Try.pinned.checked.prog = true := by kernel_rfl
theorem seat_mapsRowed : mapsRowed Try.pinned.checked.prog = true := by kernel_rfl
end Go.Proofs.Ytmdgloeejjepmaa

