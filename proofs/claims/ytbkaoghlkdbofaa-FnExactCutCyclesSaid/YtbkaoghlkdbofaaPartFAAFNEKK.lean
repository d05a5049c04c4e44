/- Parts of the proof, joined into one text: PairI, RelI, ProdI, DistM, NextM. -/
import Derived.Lib.SliceRun
import Derived.Test.YtbkaoghlkdbofaaPartMJJEGDDE
import Derived.Test.YtbkaoghlkdbofaaPartNFGBNNPI
import Derived.Test.YtbkaoghlkdbofaaPartJICGGFLG
import Derived.Test.YtbkaoghlkdbofaaPartEDIBNICH
/- The program's pairSet: a copy of pairs, sorted, like neighbours struck out. -/
namespace Go.Proofs.Ytbkaoghlkdbofaa
set_option linter.unusedVariables false
set_option linter.unusedSimpArgs false
open Go.ChangeShapes Go.WideShapes Go.ChangeAt Go.RowKit Go.Sort
attribute [local go_sem] ext_cell ext_frozen ext_lt ext_lt1 ext_lt2 ext_lt3 ltn2 ltn3 ltn13 lts1 lts2 lts3

def cmpI (a b : Int) : Int := if a < b then -1 else if b < a then 1 else 0
def cmpP (p q : Pr) : Int := if p.1 = q.1 then cmpI p.2 q.2 else cmpI p.1 q.1
theorem ltOf_cmp (p q : Pr) : ltOf cmpP p q = ltP p q := by
  have h1 := @ltP_iff p q
  rw [Bool.eq_iff_iff, h1, ltOf, decide_eq_true_eq, cmpP]
  unfold cmpI
  split <;> split <;> (try split) <;> omega
theorem swoP : SWO (ltOf cmpP) := by
  refine ⟨fun x => ?_, fun x y z h1 h2 => ?_, fun x y z h1 h2 => ?_⟩
  · rw [ltOf_cmp, ltP_no]; omega
  · rw [ltOf_cmp] at *
    exact ltP_trans h1 h2
  · rw [ltOf_cmp, ltP_no] at *
    omega
theorem alloc2_grow (W : World) (o1 o2 : Obj) : (W.alloc o1).alloc o2 = grow (W.drewN 0) #[o1, o2] := by
  cases W
  simp only [World.alloc, grow, World.drewN, World.mk.injEq, and_true, true_and]
  simp [← Array.toList_inj]
theorem compareInts_any (a b : Int) (w : World) : Calls Try.prog 171 #[.int .i64 a, .int .i64 b] w fun e w' => e = .returned (.int .i64 (cmpI a b)) ∧ w' = w := by
  unfold cmpI
  by_cases h1 : a < b
  · rw [if_pos h1]
    have k1 : decide (a < b) = true := by simpa using h1
    clear h1
    go_enter Try.func171, Try.ntmps171
    go_wp2_with fail
    go_ret
    exact ⟨rfl, rfl⟩
  · rw [if_neg h1]
    have k1 : decide (a < b) = false := by simpa using h1
    by_cases h2 : b < a
    · rw [if_pos h2]
      have k2 : decide (a > b) = true := by simpa using h2
      clear h1 h2
      go_enter Try.func171, Try.ntmps171
      go_wp2_with fail
      go_ret
      exact ⟨rfl, rfl⟩
    · rw [if_neg h2]
      have k2 : decide (a > b) = false := by simpa using h2
      clear h1 h2
      go_enter Try.func171, Try.ntmps171
      go_wp2_with fail
      go_ret
      exact ⟨rfl, rfl⟩
theorem comparePairs_any (p q : Pr) (w : World) : Calls Try.prog 131 #[.agg #[.int .i64 p.1, .int .i64 p.2], .agg #[.int .i64 q.1, .int .i64 q.2]] w fun e w' => e = .returned (.int .i64 (cmpP p q)) ∧
    w' = (w.alloc (.cells #[.int .i64 p.1, .int .i64 p.2] 91)).alloc (.cells #[.int .i64 q.1, .int .i64 q.2] 91) := by
  obtain ⟨p1, p2⟩ := p
  obtain ⟨q1, q2⟩ := q
  simp only [cmpP]
  have HC := Lib.hid (fun (a b : Int) (W : World) => compareInts_any a b W)
  by_cases h1 : p1 = q1
  · rw [if_pos h1]
    have k1 : (p1 != q1) = false := by simpa using h1
    clear h1
    go_enter Try.func131, Try.ntmps131
    go_wp2_with fail
    refine (HC.out p2 q2 _).mono ?_
    rintro e w1 ⟨rfl, hw⟩
    rw [hw]
    go_wp2_with fail
    go_ret
    exact ⟨rfl, rfl⟩
  · rw [if_neg h1]
    have k1 : (p1 != q1) = true := by simpa using h1
    clear h1
    go_enter Try.func131, Try.ntmps131
    go_wp2_with fail
    refine (HC.out p1 q1 _).mono ?_
    rintro e w1 ⟨rfl, hw⟩
    rw [hw]
    go_wp2_with fail
    go_ret
    exact ⟨rfl, rfl⟩
/-- slices.SortFunc over pairs: a row of the call's own is put in order -/
theorem sortPairs_any (lo g c : Nat) (xs : List Pr) (w : World) (hrow : w.ownsRow lo 91 2 (.slice (some ⟨g, 0, none⟩) xs.length c) xs.length (xs.flatMap cPr)) (hn : xs.length ≤ 2199023255552) :
    Calls Try.prog 130 #[.slice (some ⟨g, 0, none⟩) xs.length c, .func (.func 131) #[] #[]] w fun e w' => e = .returned (.tuple #[]) ∧
      ∃ ys : List Pr, ys.length = xs.length ∧ (∀ x, x ∈ ys ↔ x ∈ xs) ∧ (∀ i j, i < j → j < ys.length → ltP (ys.getD j (0, 0)) (ys.getD i (0, 0)) = false) ∧
        w'.ownsRow lo 91 2 (.slice (some ⟨g, 0, none⟩) xs.length c) xs.length (ys.flatMap cPr) ∧ Only g (g + 1) w w' := by
  have hlt := hrow.lt g rfl
  have eg : ∀ args w, (callFunc 131 args).run Try.prog w = .ok (.enter 131 args) w := enters_of Try.func131 (by kernel_rfl) rfl
  have hcmp : CmpLays Try.prog 131 #[] cPr 2 cmpP g 0 xs.toArray.size w := fun m os dk _ x y => by
    refine (comparePairs_any x y _).mono ?_
    rintro e w' ⟨rfl, rfl⟩
    exact ⟨rfl, 0, _, alloc2_grow _ _ _⟩
  have h := AnyQ.slices_SortFunc Try.laysSF 2 Try.isAgg91 Try.sizeOf91 cPr cPr_len cPr_one cmpP swoP 131 #[] g 0 c xs.toArray w eg hcmp (holds_ownK hrow rfl) hlt.2 (by simp; omega)
  have h' : Calls Try.prog 130 #[.slice (some ⟨g, 0, none⟩) xs.length c, .func (.func 131) #[] #[]] w _ := h
  refine h'.mono ?_
  rintro e w' ⟨rfl, d', n, os, hperm, hsort, rfl⟩
  obtain ⟨hsz, -, hpm⟩ := hperm
  have hsz' : d'.toList.length = xs.length := by simpa using hsz
  refine ⟨rfl, d'.toList, hsz', fun x => ?_, fun i j hij hj => ?_, ?_, ?_⟩
  · have h1 := hpm.mem_iff (a := x)
    have e1 : (d'.extract 0 xs.toArray.size).toList = d'.toList := by rw [show xs.toArray.size = d'.size from hsz.symm]; simp
    have e2 : (xs.toArray.extract 0 xs.toArray.size).toList = xs := by simp
    rw [e1, e2] at h1
    exact h1
  · have hj' : j < xs.length := by omega
    have h1 := hsort i j (Nat.zero_le _) hij (by simpa using hj')
    rw [ltOf_cmp] at h1
    have gd : ∀ k, k < xs.length → d'.toList.getD k (0, 0) = d'[k]! := fun k hk => by
      have hk' : k < d'.size := by rw [hsz]; simpa using hk
      rw [getElem!_pos d' k hk', List.getD_eq_getElem?_getD, Array.getElem?_toList, Array.getElem?_eq_getElem hk']; rfl
    rw [gd j hj', gd i (by omega)]
    exact h1
  · have h2 : (Sort.ahead w n).ownsRow lo 91 2 (.slice (some ⟨g, 0, none⟩) xs.length c) xs.length (xs.flatMap cPr) := hrow
    have h3 := row_putF h2 (F := flatK cPr 2 d') (by rw [size_flatK, hsz]; simp)
    have h4 : (flatK cPr 2 d').toList = d'.toList.flatMap cPr := by
      have := flatK_list d'.toList
      simpa using this
    rw [h4] at h3
    exact ownsRow_block h3 fun b hb => (konly_grow 0 0 (putRowK cPr 2 (Sort.ahead w n) g 0 d') os).block b (h3.lt b hb).2 (.inr (Nat.zero_le _))
  · exact ((konly_ahead g (g + 1) w n).trans (konly_put id _ g 0 (flatK cPr 2 d'))).trans (konly_grow g (g + 1) _ os)
/-! ### slices.Compact over pairs -/
theorem neqlPr (a b c d : Int) (w : World) : (binOp .neq 91 (.agg #[.int .i64 a, .int .i64 b]) (.agg #[.int .i64 c, .int .i64 d])).run Try.prog w = .ok (.bool (!decide ((a, b) = (c, d)))) w := by
  rw [run_neq_struct, eqPr]
  by_cases h1 : a = c <;> by_cases h2 : b = d <;> simp [h1, h2]
attribute [local go_sem] guardPr
theorem clear_pairs (w : World) (ty : TypeId) (g o n c : Nat) (hn : 0 < n) (hc : ∀ j, j < n * 2 → (w.cell? ⟨g, o + j, none⟩).isSome = true) (hf : ∀ j, j < n * 2 → w.frozen? ⟨g, o + j, none⟩ = false) :
    (Builtin.clear_ #[27] ty #[.slice (some ⟨g, o, none⟩) n c]).run Try.prog w = .ok (.tuple #[]) (w.setCells g o (Builtin.zeroCells #[.int .i64 0, .int .i64 0] n).toList) := by
  have hl : (Builtin.zeroCells #[Value.int .i64 0, Value.int .i64 0] n).toList.length = n * 2 := by simp [Builtin.zeroCells]
  have h1 : ∀ v ∈ (Builtin.zeroCells #[Value.int .i64 0, Value.int .i64 0] n).toList, v.oneCell' = true := by
    intro v hv
    simp only [Builtin.zeroCells, Array.toList_map, List.mem_map, Array.mem_toList_iff, Array.mem_range] at hv
    obtain ⟨i, _, rfl⟩ := hv
    have : i % 2 = 0 ∨ i % 2 = 1 := by omega
    rcases this with h | h <;> simp [h] <;> rfl
  have hst := run_storeCells_cells (P := Try.prog) g o (Builtin.zeroCells #[Value.int .i64 0, Value.int .i64 0] n).toList 0 w (by simpa [hl] using hc) (by simpa [hl] using hf) h1
  simp only [Nat.add_zero] at hst
  obtain ⟨m, rfl⟩ : ∃ m, n = m + 1 := ⟨n - 1, by omega⟩
  have hz : ∀ w, (zeroValue 91).run Try.prog w = .ok (.agg #[.int .i64 0, .int .i64 0]) w := Try.zeroValue91
  have hzc : (Value.agg #[Value.int .i64 0, Value.int .i64 0]).cells = #[.int .i64 0, .int .i64 0] := rfl
  simp [Builtin.clear_, run_underlying Try.underlying27, hz, hzc, hst]
theorem setCells_ownP {base k g n cap : Nat} {e : TypeId} : ∀ (zs : List Value) (o : Nat) (cs : List Value) (W : World), W.ownsRow base e k (.slice (some ⟨g, 0, none⟩) n cap) n cs →
    ∃ cs', (W.setCells g o zs).ownsRow base e k (.slice (some ⟨g, 0, none⟩) n cap) n cs' ∧ cs'.take o = cs.take o ∧ Only g (g + 1) W (W.setCells g o zs)
  | [], o, cs, W, h => ⟨cs, h, rfl, Only.refl _ _ _⟩
  | z :: zs, o, cs, W, h => by
    have h1 := (World.ownsRow.stored h o z).1
    obtain ⟨cs', h2, h3, h4⟩ := setCells_ownP zs (o + 1) _ _ h1
    refine ⟨cs', h2, ?_, ((Only.refl g (g + 1) W).setCell (p := ⟨g, o, none⟩) (.inl ⟨Nat.le_refl _, Nat.lt_succ_self _⟩) z).trans h4⟩
    have h5 : cs'.take o = (cs'.take (o + 1)).take o := by rw [List.take_take]; congr 1; omega
    rw [h5, h3, List.take_take, Nat.min_eq_left (Nat.le_succ o), List.take_set, List.set_eq_of_length_le (by rw [List.length_take]; omega)]
theorem flatP_len (xs : List Pr) : (xs.flatMap cPr).length = xs.length * 2 := by
  induction xs with
  | nil => rfl
  | cons x xs ih => rw [List.flatMap_cons, List.length_append, ih, cPr_len, List.length_cons]; omega
theorem flatP_at {xs : List Pr} {i : Nat} {x : Pr} (h : xs[i]? = some x) : (xs.flatMap cPr)[i * 2]? = some (.int .i64 x.1) ∧ (xs.flatMap cPr)[i * 2 + 1]? = some (.int .i64 x.2) :=
  ⟨flat_at cPr_len h 0 _ rfl, flat_at cPr_len h 1 _ rfl⟩
theorem flatP_set : ∀ (xs : List Pr) (i : Nat) (x : Pr), i < xs.length → ((xs.flatMap cPr).set (i * 2) (.int .i64 x.1)).set (i * 2 + 1) (.int .i64 x.2) = (xs.set i x).flatMap cPr
  | [], _, _, h => absurd h (Nat.not_lt_zero _)
  | y :: ys, 0, x, _ => by simp [cPr]
  | y :: ys, i + 1, x, h => by
    have ih := flatP_set ys i x (by simpa using h)
    simp only [List.flatMap_cons, cPr, List.cons_append, List.nil_append, List.set_cons_succ, Nat.succ_mul]
    rw [← ih]
theorem flatP_take (xs : List Pr) : ∀ k, (xs.flatMap cPr).take (k * 2) = (xs.take k).flatMap cPr := by
  induction xs with
  | nil => intro k; simp
  | cons a l ih =>
    intro k
    cases k with
    | zero => simp
    | succ k => rw [Nat.succ_mul]; simp only [List.flatMap_cons, List.take_succ_cons, cPr, List.cons_append, List.nil_append]; rw [ih]
theorem compTo_take {xs : List Pr} {k : Nat} (hk : k ≤ xs.length) (h : ∀ j, j < k → keepP xs j = true) : compTo xs k = xs.take k := by
  induction k with
  | zero => simp [compTo]
  | succ k ih =>
    have hx : xs[k]? = some (xs.getD k (0, 0)) := by rw [List.getD_eq_getElem?_getD, List.getElem?_eq_getElem (by omega)]; rfl
    rw [compTo_yes (h k (by omega)), ih (by omega) (fun j hj => h j (by omega)), take_snoc hx]
theorem getP {xs : List Pr} {i : Nat} (h : i < xs.length) : xs[i]? = some (xs.getD i (0, 0)) := by rw [List.getD_eq_getElem?_getD, List.getElem?_eq_getElem h]; rfl
theorem keepP_pos {xs : List Pr} {i : Nat} (h : 0 < i) : keepP xs i = !decide (xs.getD i (0, 0) = xs.getD (i - 1) (0, 0)) := by
  have h6 : (i == 0) = false := by simp; omega
  rw [keepP, h6, Bool.false_or, bne]
  congr 1
  rw [Bool.eq_iff_iff, beq_iff_eq, decide_eq_true_eq]

set_option maxHeartbeats 4000000 in
set_option maxRecDepth 100000 in
theorem compactP_any (lo g c : Nat) (xs : List Pr) (w : World) (hrow : w.ownsRow lo 91 2 (.slice (some ⟨g, 0, none⟩) xs.length c) xs.length (xs.flatMap cPr)) (hn : xs.length ≤ 2199023255552) :
    Calls Try.prog 132 #[.slice (some ⟨g, 0, none⟩) xs.length c] w fun e w' => ∃ m, e = .returned (.slice (some ⟨g, 0, none⟩) m c) ∧
      w'.ownsRow lo 91 2 (.slice (some ⟨g, 0, none⟩) m c) (compTo xs xs.length).length ((compTo xs xs.length).flatMap cPr) ∧ Only g (g + 1) w w' := by
  obtain ⟨hg1, hg2⟩ := hrow.lt g rfl
  obtain ⟨hlc, hcm⟩ := row_cap hrow
  obtain ⟨R, hR⟩ : ∃ R, R = compTo xs xs.length := ⟨_, rfl⟩
  rw [← hR]
  have HR := Lib.hid hR
  have HROW := Lib.hid hrow
  clear hR hrow
  obtain ⟨N, hN⟩ : ∃ N, N = xs.length := ⟨_, rfl⟩
  rw [← hN] at hn hlc HROW HR ⊢
  have HN := Lib.hid hN
  clear hN
  by_cases h2 : N < 2
  · have hfin : R = xs := by
      rw [HR.out, compTo_take (by have := HN.out; omega) (fun j hj => by obtain rfl : j = 0 := (by omega); rfl), HN.out, List.take_length]
    have HF := Lib.hid hfin
    have hnz : (N : Int) < 2 := by omega
    clear hfin
    go_enter Try.func132, Try.ntmps132
    go_wp2_with fail
    go_ret
    exact ⟨_, rfl, by rw [HF.out, ← HN.out]; exact HROW.out, Only.refl _ _ _⟩
  · have hnz : ¬ (N : Int) < 2 := by omega
    go_enter Try.func132, Try.ntmps132
    go_wp2_with fail
    go_loopw [3] (fun ii wr => ∃ (i : Nat) (u : World), 1 ≤ i ∧ i ≤ N ∧ ii = .int .i64 (i : Int) ∧ (∀ j, j < i → keepP xs j = true) ∧ wr = ext w u) (fun ii _ => N - (intOf ii).toNat)
    case atStart => exact ⟨1, w, Nat.le_refl _, by omega, rfl, (fun j hj => by obtain rfl : j = 0 := (by omega); rfl), ext_self w⟩
    case round =>
      obtain ⟨i0, u, h1, hi, rfl, hkp, rfl⟩ := hrel
      have HKP := Lib.hid hkp
      clear hkp
      by_cases hlt : i0 < N
      · have hxi := getP (xs := xs) (i := i0) (by have := HN.out; omega)
        have hxj := getP (xs := xs) (i := i0 - 1) (by have := HN.out; omega)
        have hk0 := keepP_pos (xs := xs) h1
        obtain ⟨i1, rfl⟩ : ∃ i1, i0 = i1 + 1 := ⟨i0 - 1, by omega⟩
        simp only [Nat.add_sub_cancel] at hxj hk0
        have HROWu := Lib.hid (ownsRow_below HROW.out (ext_below w u) (Nat.le_refl _))
        obtain ⟨a0, a1⟩ := flatP_at hxi
        obtain ⟨b0, b1⟩ := flatP_at hxj
        have d0 := (World.ownsRow.cellAt HROW.out ((i1 + 1) * 2) (by omega)).trans a0
        have d1 := (World.ownsRow.cellAt HROW.out ((i1 + 1) * 2 + 1) (by omega)).trans a1
        have f0 := (World.ownsRow.cellAt HROW.out (i1 * 2) (by omega)).trans b0
        have f1 := (World.ownsRow.cellAt HROW.out (i1 * 2 + 1) (by omega)).trans b1
        have HXI := Lib.hid hxi
        have HXJ := Lib.hid hxj
        have HK0 := Lib.hid hk0
        clear a0 a1 b0 b1 hxi hxj hk0
        generalize hx : xs.getD (i1 + 1) (0, 0) = x at *
        generalize hy : xs.getD i1 (0, 0) = y at *
        obtain ⟨xa, xb⟩ := x
        obtain ⟨ya, yb⟩ := y
        simp only at d0 d1 f0 f1
        have q1 : IntKind.i64.wrap (((i1 + 1 : Nat) : Int) - 1) = (i1 : Int) := by rw [IntWalk.i64_in _ (by omega)]; omega
        have hii : ((i1 + 1 : Nat) : Int) < (N : Int) := by omega
        have hjj : (i1 : Int) < (N : Int) := by omega
        have HEQ := Lib.hid (fun (w : World) => eqlPr xa xb ya yb w)
        obtain ⟨bb, hb2⟩ : ∃ bb, bb = decide ((xa, xb) = (ya, yb)) := ⟨_, rfl⟩
        rw [← hb2] at HEQ HK0
        have heq := HEQ.out
        clear hb2 hx hy
        go_wp2_with fail
        refine wp_region_ext_lit (by kernel_rfl) (by kernel_rfl) ?_
        repeat (go_big_quiet_step (fail))
        refine wpQuiet_nil ?_
        intro _ hw'
        obtain ⟨u2, hw''⟩ := hw'
        subst hw''
        obtain ⟨u4, hu4⟩ := ext_ext w u u2
        rw [hu4]
        have HU4 := Lib.hid hu4
        clear hu4 heq HEQ
        cases bb with
        | false =>
          go_wp2_with fail
          go_roundw
          case rel =>
            refine ⟨i1 + 1 + 1, u4, by omega, by omega, by go_num, fun j hj => ?_, rfl⟩
            rcases Nat.lt_or_ge j (i1 + 1) with h | h
            · exact HKP.out j h
            · obtain rfl : j = i1 + 1 := by omega
              exact HK0.out
          case measure => simp [intOf]; omega
        | true =>
          have HST := Lib.hid (show xs.take (i1 + 1) = compTo xs (i1 + 1 + 1) by rw [compTo_no HK0.out, compTo_take (by have := HN.out; omega) HKP.out])
          have hci : ¬ c = i1 + 1 := by omega
          have HROW1 := Lib.hid (ownsRow_below HROW.out (ext_below w u4) (Nat.le_refl _))
          have HON1 := Lib.hid (Only.of_below (ext_below w u4) g (g + 1))
          have hic : ((i1 + 1 : Nat) : Int) ≤ (N : Int) := by omega
          generalize ext w u4 = W1 at *
          clear HK0 HXI HXJ HKP HROWu d0 d1 f0 f1 q1
          go_wp2_with fail
          go_loopw [3, 5] (fun ii kk wr => ∃ (i k : Nat) (L : List Pr), 1 ≤ k ∧ k ≤ N - (i1 + 1) ∧ i ≤ i1 + k ∧ ii = .int .i64 (i : Int) ∧ kk = .int .i64 (k : Int) ∧ L.length = N ∧ L.take i = compTo xs (i1 + 1 + k) ∧ L.drop (i1 + k) = xs.drop (i1 + k) ∧
            wr.ownsRow lo 91 2 (.slice (some ⟨g, 0, none⟩) N c) N (L.flatMap cPr) ∧ Only g (g + 1) w wr) (fun _ kk _ => N - (i1 + 1) - (intOf kk).toNat)
          case atStart => exact ⟨i1 + 1, 1, xs, Nat.le_refl _, by omega, Nat.le_refl _, rfl, rfl, HN.out.symm, HST.out, rfl, HROW1.out, HON1.out⟩
          case round =>
            clear HROW1 HON1 HST
            obtain ⟨i, k, L, hk1, hkN, hik, rfl, rfl, hLn, hLt, hLd, hrow, hon⟩ := hrel
            have HLN := Lib.hid hLn
            have HLT := Lib.hid hLt
            have HLD := Lib.hid hLd
            have HROW := Lib.hid hrow
            have HON := Lib.hid hon
            have hsz := hon.size
            clear hLn hLt hLd hrow hon
            obtain ⟨k1, rfl⟩ : ∃ k1, k = k1 + 1 := ⟨k - 1, by omega⟩
            by_cases hlk : k1 + 1 < N - (i1 + 1)
            · have hxi := getP (xs := xs) (i := i1 + 1 + (k1 + 1)) (by have := HN.out; omega)
              have hxj := getP (xs := xs) (i := i1 + 1 + k1) (by have := HN.out; omega)
              have hk0 := keepP_pos (xs := xs) (i := i1 + 1 + (k1 + 1)) (by omega)
              rw [show i1 + 1 + (k1 + 1) - 1 = i1 + 1 + k1 by omega] at hk0
              have hLi : L[i1 + 1 + (k1 + 1)]? = some (xs.getD (i1 + 1 + (k1 + 1)) (0, 0)) := by
                have h := congrArg (fun l => l[1]?) HLD.out
                simp only [List.getElem?_drop] at h
                rw [show i1 + (k1 + 1) + 1 = i1 + 1 + (k1 + 1) by omega] at h
                rw [h, hxi]
              have hLj : L[i1 + 1 + k1]? = some (xs.getD (i1 + 1 + k1) (0, 0)) := by
                have h := congrArg (fun l => l[0]?) HLD.out
                simp only [List.getElem?_drop] at h
                rw [show i1 + (k1 + 1) + 0 = i1 + 1 + k1 by omega] at h
                rw [h, hxj]
              have hLo := getP (xs := L) (i := i) (by have := HLN.out; omega)
              obtain ⟨a0, a1⟩ := flatP_at hLi
              obtain ⟨b0, b1⟩ := flatP_at hLj
              obtain ⟨g0, g1⟩ := flatP_at hLo
              have d0 := (World.ownsRow.cellAt HROW.out ((i1 + 1 + (k1 + 1)) * 2) (by omega)).trans a0
              have d1 := (World.ownsRow.cellAt HROW.out ((i1 + 1 + (k1 + 1)) * 2 + 1) (by omega)).trans a1
              have f0 := (World.ownsRow.cellAt HROW.out ((i1 + 1 + k1) * 2) (by omega)).trans b0
              have f1 := (World.ownsRow.cellAt HROW.out ((i1 + 1 + k1) * 2 + 1) (by omega)).trans b1
              rw [show (i1 + 1 + (k1 + 1)) * 2 = (i1 + 1) * 2 + (k1 + 1) * 2 by omega] at d0 d1
              rw [show (i1 + 1 + k1) * 2 = (i1 + 1) * 2 + k1 * 2 by omega] at f0 f1
              have hgw : g < wr.heap.size := by omega
              have HK0 := Lib.hid hk0
              have HXI := Lib.hid (show ∀ h : keepP xs (i1 + 1 + (k1 + 1)) = true, compTo xs (i1 + 1 + (k1 + 1) + 1) = compTo xs (i1 + 1 + (k1 + 1)) ++ [xs.getD (i1 + 1 + (k1 + 1)) (0, 0)] from fun h => compTo_yes h)
              have HXJ := Lib.hid (show ∀ h : keepP xs (i1 + 1 + (k1 + 1)) = false, compTo xs (i1 + 1 + (k1 + 1) + 1) = compTo xs (i1 + 1 + (k1 + 1)) from fun h => compTo_no h)
              have HG0 := Lib.hid g0
              have HG1 := Lib.hid g1
              clear a0 a1 b0 b1 hxi hxj hk0 hLi hLj hLo g0 g1
              generalize hx : xs.getD (i1 + 1 + (k1 + 1)) (0, 0) = x at *
              generalize hy : xs.getD (i1 + 1 + k1) (0, 0) = y at *
              generalize L.getD i (0, 0) = old at *
              clear hx hy
              obtain ⟨xa, xb⟩ := x
              obtain ⟨ya, yb⟩ := y
              simp only at d0 d1 f0 f1
              have q1 : IntKind.i64.wrap (((k1 + 1 : Nat) : Int) - 1) = (k1 : Int) := by rw [IntWalk.i64_in _ (by omega)]; omega
              have hii : ((k1 + 1 : Nat) : Int) < ((N - (i1 + 1) : Nat) : Int) := by omega
              have hjj : (k1 : Int) < ((N - (i1 + 1) : Nat) : Int) := by omega
              have hiN : (i : Int) < (N : Int) := by omega
              have HEQ := Lib.hid (fun (w : World) => neqlPr xa xb ya yb w)
              obtain ⟨bb, hb2⟩ : ∃ bb, bb = !decide ((xa, xb) = (ya, yb)) := ⟨_, rfl⟩
              rw [← hb2] at HEQ HK0
              have heq := HEQ.out
              clear hb2
              go_wp2_with fail
              refine wp_region_ext_lit (by kernel_rfl) (by kernel_rfl) ?_
              repeat (go_big_quiet_step (fail))
              refine wpQuiet_nil ?_
              intro _ hw'
              obtain ⟨u2, hw''⟩ := hw'
              subst hw''
              have hbu := ext_below wr u2
              have HROWx := Lib.hid (ownsRow_below HROW.out hbu (Nat.le_refl _))
              have HONx := Lib.hid (HON.out.trans (Only.of_below hbu g (g + 1)))
              have d0 := kcell hbu d0
              have d1 := kcell hbu d1
              have hgx := Nat.lt_of_lt_of_le hgw hbu.size
              generalize ext wr u2 = wx at *
              clear heq HEQ f0 f1 hbu
              cases bb with
              | true =>
                have ci0 := (World.ownsRow.cellAt HROWx.out (i * 2) (by omega)).trans HG0.out
                have ci1 := (World.ownsRow.cellAt HROWx.out (i * 2 + 1) (by omega)).trans HG1.out
                have fi0 := World.ownsRow.frozenAt HROWx.out (i * 2)
                have fi1 := World.ownsRow.frozenAt HROWx.out (i * 2 + 1)
                have hrow3 := (World.ownsRow.stored (World.ownsRow.stored HROWx.out (i * 2) (.int .i64 xa)).1 (i * 2 + 1) (.int .i64 xb)).1
                rw [flatP_set L i (xa, xb) (by have := HLN.out; omega)] at hrow3
                have hon3 := (HONx.out.setCell (p := ⟨g, i * 2, none⟩) (.inl ⟨Nat.le_refl _, Nat.lt_succ_self _⟩) (.int .i64 xa)).setCell (p := ⟨g, i * 2 + 1, none⟩) (.inl ⟨Nat.le_refl _, Nat.lt_succ_self _⟩) (.int .i64 xb)
                have HROW3 := Lib.hid hrow3
                have HON3 := Lib.hid hon3
                have HL3 := Lib.hid (show (L.set i (xa, xb)).length = N by rw [List.length_set]; exact HLN.out)
                have HT3 := Lib.hid (show (L.set i (xa, xb)).take (i + 1) = compTo xs (i1 + 1 + (k1 + 1 + 1)) by
                  have h1 : (L.set i (xa, xb))[i]? = some (xa, xb) := List.getElem?_set_self (by have := HLN.out; omega)
                  rw [take_snoc h1, List.take_set, List.set_eq_of_length_le (by rw [List.length_take]; omega), HLT.out, show i1 + 1 + (k1 + 1 + 1) = i1 + 1 + (k1 + 1) + 1 by omega, HXI.out HK0.out])
                have HD3 := Lib.hid (show (L.set i (xa, xb)).drop (i1 + (k1 + 1 + 1)) = xs.drop (i1 + (k1 + 1 + 1)) by
                  rw [List.drop_set_of_lt (by omega), ← Nat.add_assoc, ← List.drop_drop, HLD.out, List.drop_drop])
                clear hrow3 hon3
                go_wp2_with fail
                go_roundw
                case rel => exact ⟨i + 1, k1 + 1 + 1, L.set i (xa, xb), by omega, by omega, by omega, by go_num, by go_num, HL3.out, HT3.out, HD3.out, HROW3.out, HON3.out⟩
                case measure => simp [intOf]; omega
              | false =>
                have HT3 := Lib.hid (show L.take i = compTo xs (i1 + 1 + (k1 + 1 + 1)) by rw [HLT.out, show i1 + 1 + (k1 + 1 + 1) = i1 + 1 + (k1 + 1) + 1 by omega, HXJ.out HK0.out])
                have HD3 := Lib.hid (show L.drop (i1 + (k1 + 1 + 1)) = xs.drop (i1 + (k1 + 1 + 1)) by
                  rw [← Nat.add_assoc, ← List.drop_drop, HLD.out, List.drop_drop])
                go_wp2_with fail
                go_roundw
                case rel => exact ⟨i, k1 + 1 + 1, L, by omega, by omega, by omega, rfl, by go_num, HLN.out, HT3.out, HD3.out, HROWx.out, HONx.out⟩
                case measure => simp [intOf]; omega
            · have hkk : k1 + 1 = N - (i1 + 1) := by omega
              have hlz : ¬ ((k1 + 1 : Nat) : Int) < ((N - (i1 + 1) : Nat) : Int) := by omega
              have hci2 : ¬ c = i := by omega
              have hcl : ∀ ty, (Builtin.clear_ #[27] ty #[.slice (some ⟨g, i * 2, none⟩) (N - i) (c - i)]).run Try.prog wr = .ok (.tuple #[]) (wr.setCells g (i * 2) (Builtin.zeroCells #[.int .i64 0, .int .i64 0] (N - i)).toList) :=
                fun ty => clear_pairs wr ty g (i * 2) (N - i) (c - i) (by omega) (fun t ht => by
                  rw [World.ownsRow.cellAt HROW.out (i * 2 + t) (by omega), List.getElem?_eq_getElem (by rw [flatP_len]; have := HLN.out; omega)]; rfl) (fun t ht => World.ownsRow.frozenAt HROW.out (i * 2 + t))
              obtain ⟨cs', h1, h2, h3⟩ := setCells_ownP (Builtin.zeroCells #[.int .i64 0, .int .i64 0] (N - i)).toList (i * 2) _ _ HROW.out
              have h4 := ownsRow_take h1 (show i ≤ N by omega)
              have hfin : R = L.take i := by rw [HR.out, HLT.out]; congr 1; omega
              rw [h2, flatP_take, ← hfin] at h4
              have hRl : R.length = i := by rw [hfin, List.length_take]; have := HLN.out; omega
              have HOWN := Lib.hid h4
              have HRL := Lib.hid hRl
              have HON2 := Lib.hid (HON.out.trans h3)
              have hcz : (i : Int) ≤ (N : Int) := by omega
              have hcz2 : (i : Int) ≤ (c : Int) := by omega
              clear h1 h2 h3 h4 hfin hRl hkk
              go_wp2_with fail
              go_ret
              exact ⟨_, rfl, by rw [HRL.out]; exact HOWN.out, HON2.out⟩
      · obtain rfl : i0 = N := by omega
        have hfin : R = xs := by rw [HR.out, compTo_take (by have := HN.out; omega) HKP.out, HN.out, List.take_length]
        have HF := Lib.hid hfin
        have HROWu := Lib.hid (ownsRow_below HROW.out (ext_below w u) (Nat.le_refl _))
        clear hfin
        go_wp2_with fail
        go_ret
        exact ⟨_, rfl, by rw [HF.out, ← HN.out]; exact HROWu.out, Only.of_below (ext_below w u) _ _⟩
end Go.Proofs.Ytbkaoghlkdbofaa

/- The program's pairSet, InvertRelation and ComposeRelations. -/
namespace Go.Proofs.Ytbkaoghlkdbofaa
set_option linter.unusedVariables false
set_option linter.unusedSimpArgs false
open Go.ChangeShapes Go.WideShapes Go.ChangeAt Go.RowKit
attribute [local go_sem] ext_cell ext_frozen ext_lt ext_lt1 ext_lt2 ext_lt3 ltn2 ltn3 ltn13 lts1 lts2 lts3

theorem ocellI {lo hi : Nat} {w w' : World} (h : Only lo hi w w') {b o : Nat} {v : Value} (hc : w.cell? ⟨b, o, none⟩ = some v) (hb : b < w.heap.size) (ho : b < lo ∨ hi ≤ b) : w'.cell? ⟨b, o, none⟩ = some v := (h.cell (p := ⟨b, o, none⟩) hb ho).trans hc
theorem onlyGrown {lo hi : Nat} {a w w' : World} {row : Option Nat} (h : Only lo hi a w) (hg : w.grownBy w' row) (hr : ∀ b, row = some b → (lo ≤ b ∧ b < hi) ∨ a.heap.size ≤ b) : Only lo hi a w' :=
  ⟨hg.os.trans h.os, hg.tape.trans h.tape, hg.output.trans h.output, Nat.le_trans h.size hg.size, fun n hn ho => (hg.block n (Nat.lt_of_lt_of_le hn h.size) (fun e => by have := hr n e.symm; omega)).trans (h.block n hn ho)⟩
theorem own_blk {W : World} {base k n : Nat} {e : TypeId} {v : Value} {cs : List Value} (h : W.ownsRow base e k v n cs) {b : Nat} (hb : v.ownBlock = some b) : ∃ c, v = .slice (some ⟨b, 0, none⟩) n c := by
  obtain ⟨_, hs⟩ := h
  rcases hs with ⟨rfl, _⟩ | ⟨g, cap, cur, rfl, _⟩
  · cases hb
  · injection hb with hb
    subst hb
    exact ⟨cap, rfl⟩

set_option maxHeartbeats 2000000 in
theorem pairSet_any (v : Value) (xs : List Pr) (w : World) (hv : SlE w cPr 2 v xs) (hn : xs.length ≤ 1099511627776) :
    Calls Try.prog 73 #[v] w fun e w' => ∃ v', e = .returned v' ∧ Own w.heap.size w'.heap.size w' 91 cPr 2 v' (psetL xs) ∧ Below w.heap.size w w' := by
  have hv0 := hv
  obtain ⟨A, c, rfl, hl, hm, -⟩ := hv
  unfold maxLen at hm
  have hba : Below w.heap.size w (w.alloc (.cells #[] 91)) := (Below.refl _ _).alloc (Nat.le_refl _) _
  have hv1 := SlE.keep hv0 hba
  have hrow := World.ownsRow_lit (base := w.heap.size) (e := 91) (size := 2) w #[] 0 (Nat.le_refl _) (by decide) rfl
  obtain ⟨R, hR⟩ : ∃ R, R = psetL xs := ⟨_, rfl⟩
  rw [← hR]
  have HRS := Lib.hid hR
  have HV := Lib.hid hv1
  have HR := Lib.hid hrow
  have HBA := Lib.hid hba
  clear hv0 hv1 hrow hR hba
  go_enter Try.func73, Try.ntmps73
  go_wp2_with (at_builtin; (refine wpList_appendL cPr elPair cPr_len cPr_one rfl _ _ rfl w.heap.size _ [] xs (by rfl) HR.out 0 _ _ (by rfl) HV.out (by simp; omega) (by omega) (by simp) ?_); intro v' w4 hrow' hgr4 hat4)
  simp only [List.nil_append] at hrow'
  have hb4 := HBA.out.trans (own_below HR.out (by simp) hgr4)
  have hob : ∃ b, v'.ownBlock = some b := by
    rcases hat4 with h | h
    · exact ⟨w.heap.size, h⟩
    · exact ⟨_, h⟩
  obtain ⟨g, hob⟩ := hob
  obtain ⟨c', rfl⟩ := own_blk hrow' hob
  have HS := Lib.hid (sortPairs_any w.heap.size g c' xs w4 hrow' (by omega))
  have HB4 := Lib.hid hb4
  have hg1 := (hrow'.lt g rfl).1
  have hg2 := (hrow'.lt g rfl).2
  clear hrow' hgr4 hat4 hob hb4
  refine HS.out.mono ?_
  rintro e w5 ⟨rfl, ys, hyl, hym, hys, hrow5, hon5⟩
  have hset := compTo_set hys hym
  rw [← HRS.out] at hset
  rw [← hyl] at hrow5
  have HC := Lib.hid (compactP_any w.heap.size g c' ys w5 hrow5 (by omega))
  rw [hset] at HC
  have HB5 := Lib.hid (HB4.out.trans (hon5.below (B := w.heap.size) hg1 (by omega)))
  have hs5 := hon5.size
  rw [← hyl]
  clear hset hrow5 hon5 hys hym hyl HS
  go_wp2_with fail
  refine HC.out.mono ?_
  rintro e w6 ⟨m, rfl, hrow6, hon6⟩
  have HO := Lib.hid (Own.of_row (xs := R) hrow6 rfl rfl)
  have HB6 := Lib.hid (HB5.out.trans (hon6.below (B := w.heap.size) hg1 (by omega)))
  clear hrow6 hon6
  go_wp2_with fail
  go_ret
  exact ⟨_, rfl, HO.out, HB6.out⟩


end Go.Proofs.Ytbkaoghlkdbofaa

/- The program's product: reads, arcs, bothOk, nextVertices. -/
namespace Go.Proofs.Ytbkaoghlkdbofaa
set_option linter.unusedVariables false
set_option linter.unusedSimpArgs false
open Go.ChangeShapes Go.WideShapes Go.ChangeAt Go.RowKit
attribute [local go_sem] ext_cell ext_frozen ext_lt ext_lt1 ext_lt2 ext_lt3 ltn2 ltn3 ltn13 lts1 lts2 lts3

/-- an arc as four cells -/
def cA (y : Arc) : List Value := [.int .i64 y.1.1, .bool y.1.2, .int .i64 y.2.1, .int .i64 y.2.2]
theorem cA_len (y : Arc) : (cA y).length = 4 := rfl
theorem cA_one (y : Arc) : ∀ u ∈ cA y, u.oneCell' = true := by intro u hu; simp only [cA, List.mem_cons, List.not_mem_nil, or_false] at hu; rcases hu with rfl | rfl | rfl | rfl <;> rfl

theorem reads_any (e : Ed) (b : Bool) (w : World) (h0 : 0 ≤ e.2.2.2) (h2 : e.2.2.2 ≤ 2) :
    Calls Try.prog 129 #[.agg #[.int .i64 e.1, .int .i64 e.2.1, .int .i64 e.2.2.1, .int .i64 e.2.2.2], .bool b] w fun en w' => en = .returned (.int .i64 (arcLetter b e)) ∧ Below w.heap.size w w' := by
  obtain ⟨a, f, t, l⟩ := e
  simp only at h0 h2 ⊢
  cases b
  all_goals
    go_enter Try.func129, Try.ntmps129
    go_wp2_with fail
    go_ret
    exact ⟨rfl, (Below.refl _ _).alloc (Nat.le_refl _) _⟩

theorem elArc : ElemOk Try.prog 99 103 (.agg #[.int .i64 0, .bool false, .int .i64 0, .int .i64 0]) 4 32 := ⟨Try.underlying99, by kernel_rfl, rfl, by omega⟩
theorem elArcs : ElemOk Try.prog 97 99 (.slice none 0 0) 1 24 := ⟨Try.underlying97, by kernel_rfl, rfl, by omega⟩
set_option maxHeartbeats 4000000 in
set_option maxRecDepth 100000 in
theorem arcs_any (v : Value) (g : Gr) (w : World) (hv : GrV 0 w.heap.size w v g) (hg : GrOk g) :
    Calls Try.prog 71 #[v] w fun e w' => ∃ v', e = .returned v' ∧ SSE w.heap.size w'.heap.size w' cA 4 v' ((List.range g.vals.length).map fun (x : Nat) => arcsOf g (x : Int)) ∧ Below w.heap.size w w' := by
  obtain ⟨A1, c1, A2, c2, rfl, hl1, hm1, hl2, hm2, hC1, hC2⟩ := hv.form
  have hn5 := hg.n5
  have he12 := hg.e12
  have HG := Lib.hid hg
  have HC2 := Lib.hid hC2
  clear hC1 hC2 hv hg
  obtain ⟨R, hR⟩ : ∃ R, R = (List.range g.vals.length).map fun (x : Nat) => arcsOf g (x : Int) := ⟨_, rfl⟩
  rw [← hR]
  have HR := Lib.hid hR
  clear hR
  go_enter Try.func71, Try.ntmps71
  go_wp2_with (at_make; refine wpList_makeE (P := Try.prog) cV (.slice none 0 0) elArcs rfl rfl rfl _ _ rfl (w.heap.size + 1) g.vals.length _ (by rfl) (by rfl) rfl (by omega) (by unfold maxLen; omega) (by simp) ?_; intro w1 hrow1 hbel1
               have b0 := (Blk.new w _ _ w.heap.size rfl).below hbel1 (by simp)
               have hb1 : Below w.heap.size w w1 := ((Below.refl _ _).alloc (Nat.le_refl _) _).trans (hbel1.mono (by simp))
               simp only [World.size_alloc] at hrow1 ⊢
               have hr1 := Rws.made (base := w.heap.size + 1) (α := Arc) (E := cA) (k := 4) (rT := 103) hrow1
               have HR1 := Lib.hid hr1
               have x0 : w1.cell? ⟨w.heap.size, 0, none⟩ = some (.slice A1 g.vals.length c1) := b0.cell 0
               have x1 : w1.cell? ⟨w.heap.size, 1, none⟩ = some (.slice A2 g.edges.length c2) := b0.cell 1
               clear hbel1 hrow1 b0 hr1)
  generalize hgb : w.heap.size + 1 = gb at *
  have hgw : w.heap.size < gb := by omega
  clear hgb
  go_loopw [13] (fun ii wr => ∃ (i : Nat) (hs : List Value), i ≤ g.edges.length ∧ ii = .int .i64 (i : Int) ∧ Rws wr gb 99 103 cA 4 gb hs (rowsTo g i) ∧ Below w.heap.size w wr) (fun ii _ => g.edges.length - (intOf ii).toNat)
  case atStart => exact ⟨0, _, Nat.zero_le _, rfl, by rw [rowsTo_zero]; exact HR1.out, hb1⟩
  case round =>
    obtain ⟨i, hs, hi, rfl, hrow, hbel⟩ := hrel
    clear hb1 HR1 x0 x1
    by_cases hlt : i < g.edges.length
    · have hei : g.edges[i]? = some g.edges[i] := List.getElem?_eq_getElem hlt
      have hge := HG.out.edges _ (List.getElem_mem hlt)
      generalize g.edges[i] = e at hei hge
      obtain ⟨-, ⟨hf0, hf1⟩, ⟨ht0, ht1⟩, hl0, hl2⟩ := hge
      obtain ⟨b, o, rfl, hb, q0, q1, q2, q3⟩ := HC2.out.ed hei
      have d0 := bcell hbel q0 hb
      have d1 := bcell hbel q1 hb
      have d2 := bcell hbel q2 hb
      have d3 := bcell hbel q3 hb
      have hbw := Nat.lt_of_lt_of_le hb hbel.size
      have HEI := Lib.hid hei
      clear hei q0 q1 q2 q3
      have hgl := hrow.gLt
      have hfh : e.2.1.toNat < hs.length := by rw [hrow.len, rowsTo_len]; omega
      have hhf : hs[e.2.1.toNat]? = some hs[e.2.1.toNat] := List.getElem?_eq_getElem hfh
      generalize hs[e.2.1.toNat] = hv1 at hhf
      have hx1 := rowsTo_at (g := g) (i := i) (x := e.2.1.toNat) (by omega)
      rw [Int.toNat_of_nonneg hf0] at hx1
      obtain ⟨eid, ef, et, el⟩ := e
      simp only at *
      have hfn : ef.toNat < g.vals.length := by omega
      obtain ⟨ef, rfl⟩ := Int.eq_ofNat_of_zero_le hf0
      obtain ⟨et, rfl⟩ := Int.eq_ofNat_of_zero_le ht0
      simp only [Int.toNat_natCast] at *
      have hfi : (ef : Int) < (g.vals.length : Int) := by omega
      have hti : (et : Int) < (g.vals.length : Int) := by omega
      have hcf := hrow.cell hhf
      have hff := hrow.frozen ef
      have HROW := Lib.hid hrow
      have HX1 := Lib.hid hx1
      have HHF := Lib.hid hhf
      have hfar := hrow.far _ _ hhf
      have HFAR := Lib.hid hfar
      have hgs := hgl.2
      have hlv : hs.length = g.vals.length := by rw [hrow.len, rowsTo_len]
      have hgv : gb < wr.heap.size := hgl.2
      have hsz := hbel.size
      clear hrow hx1 hhf hfar hgl hfh hlv
      go_wp2_with fail
      have e0 : (wr.alloc (.cells #[.int .i64 eid, .int .i64 (ef : Int), .int .i64 (et : Int), .int .i64 el] 93)).cell? ⟨wr.heap.size, 0, none⟩ = some (.int .i64 eid) := by simp
      have e1 : (wr.alloc (.cells #[.int .i64 eid, .int .i64 (ef : Int), .int .i64 (et : Int), .int .i64 el] 93)).cell? ⟨wr.heap.size, 1, none⟩ = some (.int .i64 (ef : Int)) := by simp
      have e2 : (wr.alloc (.cells #[.int .i64 eid, .int .i64 (ef : Int), .int .i64 (et : Int), .int .i64 el] 93)).cell? ⟨wr.heap.size, 2, none⟩ = some (.int .i64 (et : Int)) := by simp
      have e3 : (wr.alloc (.cells #[.int .i64 eid, .int .i64 (ef : Int), .int .i64 (et : Int), .int .i64 el] 93)).cell? ⟨wr.heap.size, 3, none⟩ = some (.int .i64 el) := by simp
      generalize hW : (wr.alloc (.cells #[.int .i64 eid, .int .i64 (ef : Int), .int .i64 (et : Int), .int .i64 el] 93)) = wE
      rw [hW] at e0 e1 e2 e3
      have hbE : Below wr.heap.size wr wE := by rw [← hW]; exact (Below.refl _ _).alloc (Nat.le_refl _) _
      have hcE : wE.cell? ⟨gb, ef, none⟩ = some hv1 := bcell hbE hcf hgs
      have hfE : wE.frozen? ⟨gb, ef, none⟩ = false := by rw [hbE.frozen (p := ⟨gb, ef, none⟩) hgs]; exact hff
      have hsE : wr.heap.size < wE.heap.size := by rw [← hW]; simp
      have hgE : gb < wE.heap.size := by omega
      have hgE1 : wr.heap.size ≠ gb := by omega
      have HRE := Lib.hid (HROW.out.below hbE)
      have HBE := Lib.hid (hbel.trans (hbE.mono hsz))
      have hne1 : some wr.heap.size ≠ hv1.ownBlock := fun h => by have := ((HROW.out.row ef hv1 _ HHF.out HX1.out).lt _ h.symm).2; omega
      have hne2 : some gb ≠ hv1.ownBlock := Ne.symm HFAR.out
      have hneR0 : ∀ (j : Nat) (h : Value), hs[j]? = some h → some wr.heap.size ≠ h.ownBlock := fun j h hj e9 => by
        have hjx : j < (rowsTo g i).length := by rw [← HROW.out.len]; exact (List.getElem?_eq_some_iff.1 hj).1
        have := ((HROW.out.row j h _ hj (List.getElem?_eq_getElem hjx)).lt _ e9.symm).2
        omega
      have HNER := Lib.hid hneR0
      clear hneR0
      have HRO := Lib.hid (HRE.out.row ef hv1 _ HHF.out HX1.out)
      have hrl : ((g.edges.take i).flatMap (arcE (ef : Int))).length ≤ 24 := by
        have h1 := flat_len (arcE_len (ef : Int)) (g.edges.take i)
        rw [List.length_take] at h1
        omega
      clear hW hbE hcf hff HROW hbel
      obtain ⟨row1, hrow1⟩ : ∃ row1, row1 = (g.edges.take i).flatMap (arcE (ef : Int)) := ⟨_, rfl⟩
      rw [← hrow1] at hrl HRO HX1
      have HROW1 := Lib.hid hrow1
      clear hrow1
      refine F_start 19 (fun w' => w'.cell? ⟨wr.heap.size, 0, none⟩ = some (.int .i64 eid) ∧ w'.cell? ⟨wr.heap.size, 1, none⟩ = some (.int .i64 (ef : Int)) ∧ w'.cell? ⟨wr.heap.size, 2, none⟩ = some (.int .i64 (et : Int)) ∧ w'.cell? ⟨wr.heap.size, 3, none⟩ = some (.int .i64 el) ∧ w'.cell? ⟨gb, ef, none⟩ = some hv1) (by kernel_rfl) (by exact ⟨e0, e1, e2, e3, hcE⟩) (fun hS inv => ?_)
      refine F_take (i := 0) (v := ?_) rfl (by kernel_rfl) (by kernel_rfl) (by kernel_rfl) (fun _ _ _ h => h) inv (Or.inl ⟨by rfl, ?_⟩) (by assumption) (fun invn => ?_)
      rotate_left
      · (intro w hSw; (try dsimp only at hSw); go_simp; try with_reducible rfl)
      try simp only [List.getElem_toArray, List.getElem_cons_zero, List.getElem_cons_succ, Act.put, List.setIfInBounds_toArray, List.set_cons_zero, List.set_cons_succ]
      clear inv
      have inv := invn
      clear invn
      refine F_take (i := 1) (v := ?_) rfl (by kernel_rfl) (by kernel_rfl) (by kernel_rfl) (fun _ _ _ h => h) inv (Or.inl ⟨by rfl, ?_⟩) (by assumption) (fun invn => ?_)
      rotate_left
      · (intro w hSw; (try dsimp only at hSw); go_simp; try with_reducible rfl)
      try simp only [List.getElem_toArray, List.getElem_cons_zero, List.getElem_cons_succ, Act.put, List.setIfInBounds_toArray, List.set_cons_zero, List.set_cons_succ]
      clear inv
      have inv := invn
      clear invn
      refine F_take (i := 2) (v := ?_) rfl (by kernel_rfl) (by kernel_rfl) (by kernel_rfl) (fun _ _ _ h => h) inv (Or.inl ⟨by rfl, ?_⟩) (by assumption) (fun invn => ?_)
      rotate_left
      · (intro w hSw; (try dsimp only at hSw); go_simp; try with_reducible rfl)
      try simp only [List.getElem_toArray, List.getElem_cons_zero, List.getElem_cons_succ, Act.put, List.setIfInBounds_toArray, List.set_cons_zero, List.set_cons_succ]
      clear inv
      have inv := invn
      clear invn
      refine F_take (i := 3) (v := ?_) rfl (by kernel_rfl) (by kernel_rfl) (by kernel_rfl) (fun _ _ _ h => h) inv (Or.inl ⟨by rfl, ?_⟩) (by assumption) (fun invn => ?_)
      rotate_left
      · (intro w hSw; (try dsimp only at hSw); go_simp; try with_reducible rfl)
      try simp only [List.getElem_toArray, List.getElem_cons_zero, List.getElem_cons_succ, Act.put, List.setIfInBounds_toArray, List.set_cons_zero, List.set_cons_succ]
      clear inv
      have inv := invn
      clear invn
      refine F_take (i := 4) (v := ?_) rfl (by kernel_rfl) (by kernel_rfl) (by kernel_rfl) (fun _ _ _ h => h) inv (Or.inl ⟨by rfl, ?_⟩) (by assumption) (fun invn => ?_)
      rotate_left
      · (intro w hSw; (try dsimp only at hSw); go_simp; try with_reducible rfl)
      try simp only [List.getElem_toArray, List.getElem_cons_zero, List.getElem_cons_succ, Act.put, List.setIfInBounds_toArray, List.set_cons_zero, List.set_cons_succ]
      clear inv
      have inv := invn
      clear invn
      refine F_take (i := 5) (v := ?_) rfl (by kernel_rfl) (by kernel_rfl) (by kernel_rfl) (fun _ _ _ h => h) inv (Or.inl ⟨by rfl, ?_⟩) (by assumption) (fun invn => ?_)
      rotate_left
      · (intro w hSw; (try dsimp only at hSw); go_simp; try with_reducible rfl)
      try simp only [List.getElem_toArray, List.getElem_cons_zero, List.getElem_cons_succ, Act.put, List.setIfInBounds_toArray, List.set_cons_zero, List.set_cons_succ]
      clear inv
      have inv := invn
      clear invn
      refine F_take (i := 6) (v := ?_) rfl (by kernel_rfl) (by kernel_rfl) (by kernel_rfl) (fun _ _ _ h => h) inv (Or.inl ⟨by rfl, ?_⟩) (by assumption) (fun invn => ?_)
      rotate_left
      · (intro w hSw; (try dsimp only at hSw); go_simp; try with_reducible rfl)
      try simp only [List.getElem_toArray, List.getElem_cons_zero, List.getElem_cons_succ, Act.put, List.setIfInBounds_toArray, List.set_cons_zero, List.set_cons_succ]
      clear inv
      have inv := invn
      clear invn
      refine F_take (i := 7) (v := ?_) rfl (by kernel_rfl) (by kernel_rfl) (by kernel_rfl) (fun _ _ _ h => h) inv (Or.inl ⟨by rfl, ?_⟩) (by assumption) (fun invn => ?_)
      rotate_left
      · (intro w hSw; (try dsimp only at hSw); go_simp; try with_reducible rfl)
      try simp only [List.getElem_toArray, List.getElem_cons_zero, List.getElem_cons_succ, Act.put, List.setIfInBounds_toArray, List.set_cons_zero, List.set_cons_succ]
      clear inv
      have inv := invn
      clear invn
      refine F_take (i := 8) (v := ?_) rfl (by kernel_rfl) (by kernel_rfl) (by kernel_rfl) (fun _ _ _ h => h) inv (Or.inl ⟨by rfl, ?_⟩) (by assumption) (fun invn => ?_)
      rotate_left
      · (intro w hSw; (try dsimp only at hSw); go_simp; try with_reducible rfl)
      try simp only [List.getElem_toArray, List.getElem_cons_zero, List.getElem_cons_succ, Act.put, List.setIfInBounds_toArray, List.set_cons_zero, List.set_cons_succ]
      clear inv
      have inv := invn
      clear invn
      refine F_take (i := 9) (v := ?_) rfl (by kernel_rfl) (by kernel_rfl) (by kernel_rfl) (fun _ _ _ h => h) inv (Or.inl ⟨by rfl, ?_⟩) (by assumption) (fun invn => ?_)
      rotate_left
      · (intro w hSw; (try dsimp only at hSw); go_simp; try with_reducible rfl)
      try simp only [List.getElem_toArray, List.getElem_cons_zero, List.getElem_cons_succ, Act.put, List.setIfInBounds_toArray, List.set_cons_zero, List.set_cons_succ]
      clear inv
      have inv := invn
      clear invn
      refine F_take (i := 10) (v := ?_) rfl (by kernel_rfl) (by kernel_rfl) (by kernel_rfl) (fun _ _ _ h => h) inv (Or.inl ⟨by rfl, ?_⟩) (by assumption) (fun invn => ?_)
      rotate_left
      · (intro w hSw; (try dsimp only at hSw); go_simp; try with_reducible rfl)
      try simp only [List.getElem_toArray, List.getElem_cons_zero, List.getElem_cons_succ, Act.put, List.setIfInBounds_toArray, List.set_cons_zero, List.set_cons_succ]
      clear inv
      have inv := invn
      clear invn
      refine F_take (i := 11) (v := ?_) rfl (by kernel_rfl) (by kernel_rfl) (by kernel_rfl) (fun _ _ _ h => h) inv (Or.inl ⟨by rfl, ?_⟩) (by assumption) (fun invn => ?_)
      rotate_left
      · (intro w hSw; (try dsimp only at hSw); go_simp; try with_reducible rfl)
      try simp only [List.getElem_toArray, List.getElem_cons_zero, List.getElem_cons_succ, Act.put, List.setIfInBounds_toArray, List.set_cons_zero, List.set_cons_succ]
      clear inv
      have inv := invn
      clear invn
      refine F_take (i := 13) (v := ?_) rfl (by kernel_rfl) (by kernel_rfl) (by kernel_rfl) (fun _ _ _ h => h) inv (Or.inl ⟨by rfl, ?_⟩) (by assumption) (fun invn => ?_)
      rotate_left
      · (intro w hSw; (try dsimp only at hSw); go_simp; try with_reducible rfl)
      try simp only [List.getElem_toArray, List.getElem_cons_zero, List.getElem_cons_succ, Act.put, List.setIfInBounds_toArray, List.set_cons_zero, List.set_cons_succ]
      clear inv
      have inv := invn
      clear invn
      refine F_take (i := 14) (v := ?_) rfl (by kernel_rfl) (by kernel_rfl) (by kernel_rfl) (fun _ _ _ h => h) inv (Or.inl ⟨by rfl, ?_⟩) (by assumption) (fun invn => ?_)
      rotate_left
      · (intro w hSw; (try dsimp only at hSw); go_simp; try with_reducible rfl)
      try simp only [List.getElem_toArray, List.getElem_cons_zero, List.getElem_cons_succ, Act.put, List.setIfInBounds_toArray, List.set_cons_zero, List.set_cons_succ]
      clear inv
      have inv := invn
      clear invn
      refine F_one (i := 12) (by kernel_rfl) rfl rfl (by omega) inv (fun K hK => ?_)
      try simp only [List.getElem_toArray, List.getElem_cons_zero, List.getElem_cons_succ]
      go_simp
      refine (reads_any (eid, (ef : Int), (et : Int), el) false _ hl0 hl2).mono ?_
      rintro en wR ⟨rfl, hbR⟩
      have hbR := below_trans (Below.refl wE.heap.size wE).drew hbR
      have hcR := kcell hbR hcE
      have hfR := kfb hbR hcE hfE
      have hsR := hbR.size
      have HRX := Lib.hid (ownsRow_below HRO.out hbR (Nat.le_refl _))
      refine hK.out _ _ (kB5 hbR ⟨e0, e1, e2, e3, hcE⟩) (fun hSn invn => ?_)
      try simp only [List.getElem_toArray, List.getElem_cons_zero, List.getElem_cons_succ, Act.put, List.setIfInBounds_toArray, List.set_cons_zero, List.set_cons_succ]
      clear hK K inv hS
      have inv := invn
      have hS := hSn
      clear invn hSn
      refine F_take (i := 15) (v := ?_) rfl (by kernel_rfl) (by kernel_rfl) (by kernel_rfl) (fun _ _ _ h => h) inv (Or.inl ⟨by rfl, ?_⟩) (by assumption) (fun invn => ?_)
      rotate_left
      · (intro w hSw; (try dsimp only at hSw); go_simp; try with_reducible rfl)
      try simp only [List.getElem_toArray, List.getElem_cons_zero, List.getElem_cons_succ, Act.put, List.setIfInBounds_toArray, List.set_cons_zero, List.set_cons_succ]
      clear inv
      have inv := invn
      clear invn
      refine F_one (i := 16) (by kernel_rfl) rfl rfl (by omega) inv (fun K hK => ?_)
      try simp only [List.getElem_toArray, List.getElem_cons_zero, List.getElem_cons_succ]
      go_simp
      refine hK.out _ _ (kA5 _ hS) (fun hSn invn => ?_)
      try simp only [List.getElem_toArray, List.getElem_cons_zero, List.getElem_cons_succ, Act.put, List.setIfInBounds_toArray, List.set_cons_zero, List.set_cons_succ]
      clear hK K inv hS
      have inv := invn
      have hS := hSn
      clear invn hSn
      refine F_one (i := 17) (by kernel_rfl) rfl rfl (by omega) inv (fun K hK => ?_)
      try simp only [List.getElem_toArray, List.getElem_cons_zero, List.getElem_cons_succ]
      refine op_append1 cA elArc rfl _ _ (by rfl) gb hv1 row1 ((eid, false), arcLetter false (eid, (ef : Int), (et : Int), el), (et : Int)) 1 _ (by rfl) (HRX.out.alloc _) (by rfl) (heap_alloc_new _ _) rfl (cA_one _) (by omega) (by omega) (by simp; omega) ?_
      intro g2 cp2 w3 hown3 hgr3 hat3 hlt3
      have HO3 := Lib.hid hown3
      have HG3 := Lib.hid hgr3
      have HA3 := Lib.hid hat3
      clear hown3 hgr3 hat3
      refine hK.out _ _ (kG5 HG3.out hne1 hne1 hne1 hne1 hne2 hS) (fun hSn invn => ?_)
      try simp only [List.getElem_toArray, List.getElem_cons_zero, List.getElem_cons_succ, Act.put, List.setIfInBounds_toArray, List.set_cons_zero, List.set_cons_succ]
      clear hK K inv hS
      have inv := invn
      have hS := hSn
      clear invn hSn
      refine F_take (i := 18) (v := ?_) rfl (by kernel_rfl) (by kernel_rfl) (by kernel_rfl) (fun _ _ _ h => h) inv (Or.inl ⟨by rfl, ?_⟩) (by assumption) (fun invn => ?_)
      rotate_left
      · (intro w hSw; (try dsimp only at hSw); go_simp; try with_reducible rfl)
      try simp only [List.getElem_toArray, List.getElem_cons_zero, List.getElem_cons_succ, Act.put, List.setIfInBounds_toArray, List.set_cons_zero, List.set_cons_succ]
      clear inv
      have inv := invn
      clear invn
      have hcz := HG3.out.cell (kcell ((Below.refl _ _).alloc (Nat.le_refl _) _) hcR) hne2
      have hfz := kfg HG3.out (p := ⟨gb, ef, none⟩) hne2 (kcell ((Below.refl _ _).alloc (Nat.le_refl _) _) hcR) (kfb ((Below.refl _ _).alloc (Nat.le_refl _) _) hcR hfR)
      refine F_last (i := 19) (by kernel_rfl) rfl rfl (by omega) (by kernel_rfl) (fun K hK => ?_)
      go_simp
      refine hK _ _ ?_
      clear hK K inv hS
      have hbA : Below wE.heap.size wE (wR.alloc (.cells #[.int .i64 eid, .bool false, .int .i64 (arcLetter false (eid, (ef : Int), (et : Int), el)), .int .i64 (et : Int)] 103)) := hbR.alloc hsR _
      have hrF := Rws.push (HRE.out.below hbA) HHF.out HX1.out HO3.out HG3.out rfl HA3.out
      have hbF : Below w.heap.size w (w3.setCell ⟨gb, ef, none⟩ (.slice (some ⟨g2, 0, none⟩) (row1.length + 1) cp2)) :=
        ((HBE.out.trans (hbA.mono HBE.out.size)).grown HG3.out (Nat.le_trans HBE.out.size hbA.size) (fun b hb => by have := (HRX.out.lt b hb).1; omega)).setCell (by simp only; omega) _
      have f0 := (World.cell?_setCell_far w3 ⟨gb, ef, none⟩ ⟨wr.heap.size, 0, none⟩ (.slice (some ⟨g2, 0, none⟩) (row1.length + 1) cp2) (Ne.symm hgE1)).trans (HG3.out.cell (kcell hbA e0) hne1)
      have f1 := (World.cell?_setCell_far w3 ⟨gb, ef, none⟩ ⟨wr.heap.size, 1, none⟩ (.slice (some ⟨g2, 0, none⟩) (row1.length + 1) cp2) (Ne.symm hgE1)).trans (HG3.out.cell (kcell hbA e1) hne1)
      have f2 := (World.cell?_setCell_far w3 ⟨gb, ef, none⟩ ⟨wr.heap.size, 2, none⟩ (.slice (some ⟨g2, 0, none⟩) (row1.length + 1) cp2) (Ne.symm hgE1)).trans (HG3.out.cell (kcell hbA e2) hne1)
      have f3 := (World.cell?_setCell_far w3 ⟨gb, ef, none⟩ ⟨wr.heap.size, 3, none⟩ (.slice (some ⟨g2, 0, none⟩) (row1.length + 1) cp2) (Ne.symm hgE1)).trans (HG3.out.cell (kcell hbA e3) hne1)
      have hg23 : some wr.heap.size ≠ (Value.slice (some ⟨g2, 0, none⟩) (row1.length + 1) cp2).ownBlock := by
        simp only [Value.ownBlock, ne_eq, Option.some.injEq]
        intro e9; subst e9
        rcases HA3.out with h9 | h9
        · exact hne1 h9.symm
        · have := hbA.size; omega
      rw [show (rowsTo g i).set ef (row1 ++ [((eid, false), arcLetter false (eid, (ef : Int), (et : Int), el), (et : Int))]) = rowFrom g i (eid, (ef : Int), (et : Int), el) by rw [HROW1.out]; rfl] at hrF
      generalize (w3.setCell ⟨gb, ef, none⟩ (.slice (some ⟨g2, 0, none⟩) (row1.length + 1) cp2)) = wF at *
      have hethF : et < (hs.set ef (.slice (some ⟨g2, 0, none⟩) (row1.length + 1) cp2)).length := by rw [List.length_set, HRE.out.len, rowsTo_len]; omega
      have hhb : (hs.set ef (.slice (some ⟨g2, 0, none⟩) (row1.length + 1) cp2))[et]? = some (hs.set ef (.slice (some ⟨g2, 0, none⟩) (row1.length + 1) cp2))[et] := List.getElem?_eq_getElem hethF
      generalize (hs.set ef (.slice (some ⟨g2, 0, none⟩) (row1.length + 1) cp2))[et] = hv2 at hhb
      have hx2 : (rowFrom g i (eid, (ef : Int), (et : Int), el))[et]? = some (rowBack g i (eid, (ef : Int), (et : Int), el)) := by have := rowFrom_at (g := g) (i := i) (e := (eid, (ef : Int), (et : Int), el)) (by simp only; omega) (by simp only; omega) (by simp only; omega) (by simp only; omega); simpa using this
      have hne3 : some wr.heap.size ≠ hv2.ownBlock := by
        rw [List.getElem?_set] at hhb
        split at hhb
        · split at hhb
          · injection hhb with hhb; rw [← hhb]; exact hg23
          · cases hhb
        · exact HNER.out et hv2 hhb
      have hne4 : some gb ≠ hv2.ownBlock := Ne.symm (hrF.far _ _ hhb)
      have hcF := hrF.cell hhb
      have hfF := hrF.frozen et
      have hgF := hrF.gLt.2
      have HRO2 := Lib.hid (hrF.row et hv2 _ hhb hx2)
      have hlq : wr.heap.size < wF.heap.size := World.block_lt_of_cell? wF _ f0
      have hrl2 : (rowBack g i (eid, (ef : Int), (et : Int), el)).length ≤ 25 := by
        have h1 := flat_len (arcE_len (et : Int)) (g.edges.take i)
        rw [List.length_take] at h1
        unfold rowBack
        rw [List.length_append]
        split
        · simp only [List.length_singleton]; omega
        · simp only [List.length_nil]; omega
      have HHB := Lib.hid hhb
      have HX2 := Lib.hid hx2
      have HRF := Lib.hid hrF
      have HBF := Lib.hid hbF
      clear hhb hx2 hrF hbF hbA hethF
      obtain ⟨row2, hrow2⟩ : ∃ row2, row2 = rowBack g i (eid, (ef : Int), (et : Int), el) := ⟨_, rfl⟩
      rw [← hrow2] at hrl2 HRO2 HX2
      have HROW2 := Lib.hid hrow2
      clear hrow2 hcz hfz hbR hcR hfR hsR HRX HO3 HG3 HA3 e0 e1 e2 e3 hcE hfE hsE hgE HRE HBE hne1 hne2 HRO hrl HNER hg23 hlt3
      go_wp2_with fail
      refine F_start 19 (fun w' => w'.cell? ⟨wr.heap.size, 0, none⟩ = some (.int .i64 eid) ∧ w'.cell? ⟨wr.heap.size, 1, none⟩ = some (.int .i64 (ef : Int)) ∧ w'.cell? ⟨wr.heap.size, 2, none⟩ = some (.int .i64 (et : Int)) ∧ w'.cell? ⟨wr.heap.size, 3, none⟩ = some (.int .i64 el) ∧ w'.cell? ⟨gb, et, none⟩ = some hv2) (by kernel_rfl) (by exact ⟨f0, f1, f2, f3, hcF⟩) (fun hS inv => ?_)
      refine F_take (i := 0) (v := ?_) rfl (by kernel_rfl) (by kernel_rfl) (by kernel_rfl) (fun _ _ _ h => h) inv (Or.inl ⟨by rfl, ?_⟩) (by assumption) (fun invn => ?_)
      rotate_left
      · (intro w hSw; (try dsimp only at hSw); go_simp; try with_reducible rfl)
      try simp only [List.getElem_toArray, List.getElem_cons_zero, List.getElem_cons_succ, Act.put, List.setIfInBounds_toArray, List.set_cons_zero, List.set_cons_succ]
      clear inv
      have inv := invn
      clear invn
      refine F_take (i := 1) (v := ?_) rfl (by kernel_rfl) (by kernel_rfl) (by kernel_rfl) (fun _ _ _ h => h) inv (Or.inl ⟨by rfl, ?_⟩) (by assumption) (fun invn => ?_)
      rotate_left
      · (intro w hSw; (try dsimp only at hSw); go_simp; try with_reducible rfl)
      try simp only [List.getElem_toArray, List.getElem_cons_zero, List.getElem_cons_succ, Act.put, List.setIfInBounds_toArray, List.set_cons_zero, List.set_cons_succ]
      clear inv
      have inv := invn
      clear invn
      refine F_take (i := 2) (v := ?_) rfl (by kernel_rfl) (by kernel_rfl) (by kernel_rfl) (fun _ _ _ h => h) inv (Or.inl ⟨by rfl, ?_⟩) (by assumption) (fun invn => ?_)
      rotate_left
      · (intro w hSw; (try dsimp only at hSw); go_simp; try with_reducible rfl)
      try simp only [List.getElem_toArray, List.getElem_cons_zero, List.getElem_cons_succ, Act.put, List.setIfInBounds_toArray, List.set_cons_zero, List.set_cons_succ]
      clear inv
      have inv := invn
      clear invn
      refine F_take (i := 3) (v := ?_) rfl (by kernel_rfl) (by kernel_rfl) (by kernel_rfl) (fun _ _ _ h => h) inv (Or.inl ⟨by rfl, ?_⟩) (by assumption) (fun invn => ?_)
      rotate_left
      · (intro w hSw; (try dsimp only at hSw); go_simp; try with_reducible rfl)
      try simp only [List.getElem_toArray, List.getElem_cons_zero, List.getElem_cons_succ, Act.put, List.setIfInBounds_toArray, List.set_cons_zero, List.set_cons_succ]
      clear inv
      have inv := invn
      clear invn
      refine F_take (i := 4) (v := ?_) rfl (by kernel_rfl) (by kernel_rfl) (by kernel_rfl) (fun _ _ _ h => h) inv (Or.inl ⟨by rfl, ?_⟩) (by assumption) (fun invn => ?_)
      rotate_left
      · (intro w hSw; (try dsimp only at hSw); go_simp; try with_reducible rfl)
      try simp only [List.getElem_toArray, List.getElem_cons_zero, List.getElem_cons_succ, Act.put, List.setIfInBounds_toArray, List.set_cons_zero, List.set_cons_succ]
      clear inv
      have inv := invn
      clear invn
      refine F_take (i := 5) (v := ?_) rfl (by kernel_rfl) (by kernel_rfl) (by kernel_rfl) (fun _ _ _ h => h) inv (Or.inl ⟨by rfl, ?_⟩) (by assumption) (fun invn => ?_)
      rotate_left
      · (intro w hSw; (try dsimp only at hSw); go_simp; try with_reducible rfl)
      try simp only [List.getElem_toArray, List.getElem_cons_zero, List.getElem_cons_succ, Act.put, List.setIfInBounds_toArray, List.set_cons_zero, List.set_cons_succ]
      clear inv
      have inv := invn
      clear invn
      refine F_take (i := 6) (v := ?_) rfl (by kernel_rfl) (by kernel_rfl) (by kernel_rfl) (fun _ _ _ h => h) inv (Or.inl ⟨by rfl, ?_⟩) (by assumption) (fun invn => ?_)
      rotate_left
      · (intro w hSw; (try dsimp only at hSw); go_simp; try with_reducible rfl)
      try simp only [List.getElem_toArray, List.getElem_cons_zero, List.getElem_cons_succ, Act.put, List.setIfInBounds_toArray, List.set_cons_zero, List.set_cons_succ]
      clear inv
      have inv := invn
      clear invn
      refine F_take (i := 7) (v := ?_) rfl (by kernel_rfl) (by kernel_rfl) (by kernel_rfl) (fun _ _ _ h => h) inv (Or.inl ⟨by rfl, ?_⟩) (by assumption) (fun invn => ?_)
      rotate_left
      · (intro w hSw; (try dsimp only at hSw); go_simp; try with_reducible rfl)
      try simp only [List.getElem_toArray, List.getElem_cons_zero, List.getElem_cons_succ, Act.put, List.setIfInBounds_toArray, List.set_cons_zero, List.set_cons_succ]
      clear inv
      have inv := invn
      clear invn
      refine F_take (i := 8) (v := ?_) rfl (by kernel_rfl) (by kernel_rfl) (by kernel_rfl) (fun _ _ _ h => h) inv (Or.inl ⟨by rfl, ?_⟩) (by assumption) (fun invn => ?_)
      rotate_left
      · (intro w hSw; (try dsimp only at hSw); go_simp; try with_reducible rfl)
      try simp only [List.getElem_toArray, List.getElem_cons_zero, List.getElem_cons_succ, Act.put, List.setIfInBounds_toArray, List.set_cons_zero, List.set_cons_succ]
      clear inv
      have inv := invn
      clear invn
      refine F_take (i := 9) (v := ?_) rfl (by kernel_rfl) (by kernel_rfl) (by kernel_rfl) (fun _ _ _ h => h) inv (Or.inl ⟨by rfl, ?_⟩) (by assumption) (fun invn => ?_)
      rotate_left
      · (intro w hSw; (try dsimp only at hSw); go_simp; try with_reducible rfl)
      try simp only [List.getElem_toArray, List.getElem_cons_zero, List.getElem_cons_succ, Act.put, List.setIfInBounds_toArray, List.set_cons_zero, List.set_cons_succ]
      clear inv
      have inv := invn
      clear invn
      refine F_take (i := 10) (v := ?_) rfl (by kernel_rfl) (by kernel_rfl) (by kernel_rfl) (fun _ _ _ h => h) inv (Or.inl ⟨by rfl, ?_⟩) (by assumption) (fun invn => ?_)
      rotate_left
      · (intro w hSw; (try dsimp only at hSw); go_simp; try with_reducible rfl)
      try simp only [List.getElem_toArray, List.getElem_cons_zero, List.getElem_cons_succ, Act.put, List.setIfInBounds_toArray, List.set_cons_zero, List.set_cons_succ]
      clear inv
      have inv := invn
      clear invn
      refine F_take (i := 11) (v := ?_) rfl (by kernel_rfl) (by kernel_rfl) (by kernel_rfl) (fun _ _ _ h => h) inv (Or.inl ⟨by rfl, ?_⟩) (by assumption) (fun invn => ?_)
      rotate_left
      · (intro w hSw; (try dsimp only at hSw); go_simp; try with_reducible rfl)
      try simp only [List.getElem_toArray, List.getElem_cons_zero, List.getElem_cons_succ, Act.put, List.setIfInBounds_toArray, List.set_cons_zero, List.set_cons_succ]
      clear inv
      have inv := invn
      clear invn
      refine F_take (i := 13) (v := ?_) rfl (by kernel_rfl) (by kernel_rfl) (by kernel_rfl) (fun _ _ _ h => h) inv (Or.inl ⟨by rfl, ?_⟩) (by assumption) (fun invn => ?_)
      rotate_left
      · (intro w hSw; (try dsimp only at hSw); go_simp; try with_reducible rfl)
      try simp only [List.getElem_toArray, List.getElem_cons_zero, List.getElem_cons_succ, Act.put, List.setIfInBounds_toArray, List.set_cons_zero, List.set_cons_succ]
      clear inv
      have inv := invn
      clear invn
      refine F_take (i := 14) (v := ?_) rfl (by kernel_rfl) (by kernel_rfl) (by kernel_rfl) (fun _ _ _ h => h) inv (Or.inl ⟨by rfl, ?_⟩) (by assumption) (fun invn => ?_)
      rotate_left
      · (intro w hSw; (try dsimp only at hSw); go_simp; try with_reducible rfl)
      try simp only [List.getElem_toArray, List.getElem_cons_zero, List.getElem_cons_succ, Act.put, List.setIfInBounds_toArray, List.set_cons_zero, List.set_cons_succ]
      clear inv
      have inv := invn
      clear invn
      refine F_one (i := 12) (by kernel_rfl) rfl rfl (by omega) inv (fun K hK => ?_)
      try simp only [List.getElem_toArray, List.getElem_cons_zero, List.getElem_cons_succ]
      go_simp
      refine (reads_any (eid, (ef : Int), (et : Int), el) true _ hl0 hl2).mono ?_
      rintro en wS ⟨rfl, hbR⟩
      have hbR := below_trans (Below.refl wF.heap.size wF).drew hbR
      have hcR := kcell hbR hcF
      have hfR := kfb hbR hcF hfF
      have hsR := hbR.size
      have HRX := Lib.hid (ownsRow_below HRO2.out hbR (Nat.le_refl _))
      refine hK.out _ _ (kB5 hbR ⟨f0, f1, f2, f3, hcF⟩) (fun hSn invn => ?_)
      try simp only [List.getElem_toArray, List.getElem_cons_zero, List.getElem_cons_succ, Act.put, List.setIfInBounds_toArray, List.set_cons_zero, List.set_cons_succ]
      clear hK K inv hS
      have inv := invn
      have hS := hSn
      clear invn hSn
      refine F_take (i := 15) (v := ?_) rfl (by kernel_rfl) (by kernel_rfl) (by kernel_rfl) (fun _ _ _ h => h) inv (Or.inl ⟨by rfl, ?_⟩) (by assumption) (fun invn => ?_)
      rotate_left
      · (intro w hSw; (try dsimp only at hSw); go_simp; try with_reducible rfl)
      try simp only [List.getElem_toArray, List.getElem_cons_zero, List.getElem_cons_succ, Act.put, List.setIfInBounds_toArray, List.set_cons_zero, List.set_cons_succ]
      clear inv
      have inv := invn
      clear invn
      refine F_one (i := 16) (by kernel_rfl) rfl rfl (by omega) inv (fun K hK => ?_)
      try simp only [List.getElem_toArray, List.getElem_cons_zero, List.getElem_cons_succ]
      go_simp
      refine hK.out _ _ (kA5 _ hS) (fun hSn invn => ?_)
      try simp only [List.getElem_toArray, List.getElem_cons_zero, List.getElem_cons_succ, Act.put, List.setIfInBounds_toArray, List.set_cons_zero, List.set_cons_succ]
      clear hK K inv hS
      have inv := invn
      have hS := hSn
      clear invn hSn
      refine F_one (i := 17) (by kernel_rfl) rfl rfl (by omega) inv (fun K hK => ?_)
      try simp only [List.getElem_toArray, List.getElem_cons_zero, List.getElem_cons_succ]
      refine op_append1 cA elArc rfl _ _ (by rfl) gb hv2 row2 ((eid, true), arcLetter true (eid, (ef : Int), (et : Int), el), (ef : Int)) 1 _ (by rfl) (HRX.out.alloc _) (by rfl) (heap_alloc_new _ _) rfl (cA_one _) (by omega) (by omega) (by simp; omega) ?_
      intro g3 cp3 w4 hown3 hgr3 hat3 hlt3
      have HO3 := Lib.hid hown3
      have HG3 := Lib.hid hgr3
      have HA3 := Lib.hid hat3
      clear hown3 hgr3 hat3
      refine hK.out _ _ (kG5 HG3.out hne3 hne3 hne3 hne3 hne4 hS) (fun hSn invn => ?_)
      try simp only [List.getElem_toArray, List.getElem_cons_zero, List.getElem_cons_succ, Act.put, List.setIfInBounds_toArray, List.set_cons_zero, List.set_cons_succ]
      clear hK K inv hS
      have inv := invn
      have hS := hSn
      clear invn hSn
      refine F_take (i := 18) (v := ?_) rfl (by kernel_rfl) (by kernel_rfl) (by kernel_rfl) (fun _ _ _ h => h) inv (Or.inl ⟨by rfl, ?_⟩) (by assumption) (fun invn => ?_)
      rotate_left
      · (intro w hSw; (try dsimp only at hSw); go_simp; try with_reducible rfl)
      try simp only [List.getElem_toArray, List.getElem_cons_zero, List.getElem_cons_succ, Act.put, List.setIfInBounds_toArray, List.set_cons_zero, List.set_cons_succ]
      clear inv
      have inv := invn
      clear invn
      have hcz := HG3.out.cell (kcell ((Below.refl _ _).alloc (Nat.le_refl _) _) hcR) hne4
      have hfz := kfg HG3.out (p := ⟨gb, et, none⟩) hne4 (kcell ((Below.refl _ _).alloc (Nat.le_refl _) _) hcR) (kfb ((Below.refl _ _).alloc (Nat.le_refl _) _) hcR hfR)
      refine F_last (i := 19) (by kernel_rfl) rfl rfl (by omega) (by kernel_rfl) (fun K hK => ?_)
      go_simp
      refine hK _ _ ?_
      clear hK K inv hS
      have hbA : Below wF.heap.size wF (wS.alloc (.cells #[.int .i64 eid, .bool true, .int .i64 (arcLetter true (eid, (ef : Int), (et : Int), el)), .int .i64 (ef : Int)] 103)) := hbR.alloc hsR _
      have hrG := Rws.push (HRF.out.below hbA) HHB.out HX2.out HO3.out HG3.out rfl HA3.out
      have hbG : Below w.heap.size w (w4.setCell ⟨gb, et, none⟩ (.slice (some ⟨g3, 0, none⟩) (row2.length + 1) cp3)) :=
        ((HBF.out.trans (hbA.mono HBF.out.size)).grown HG3.out (Nat.le_trans HBF.out.size hbA.size) (fun b hb => by have := (HRX.out.lt b hb).1; omega)).setCell (by simp only; omega) _
      have hpush := rowsTo_push (g := g) HEI.out (by simp only; omega) (by simp only; omega) (by simp only; omega) (by simp only; omega)
      simp only [Int.toNat_natCast] at hpush
      rw [HROW2.out, hpush] at hrG
      have HRG := Lib.hid hrG
      have HBG := Lib.hid hbG
      clear hrG hbG hbA hpush hcz hfz hbR hcR hfR
      rw [← HROW2.out] at HRG
      go_wp2_with fail
      go_roundw
      case rel => exact ⟨i + 1, _, by omega, by go_num, HRG.out, HBG.out⟩
      case measure => simp [intOf]; omega
    · obtain rfl : i = g.edges.length := by omega
      have hs1 := hrow.sse cA_len (lo := w.heap.size) (by omega) (by omega)
      have hln : hs.length = g.vals.length := by rw [hrow.len, rowsTo_len]
      rw [rowsTo_all, hln] at hs1
      have HS1 := Lib.hid hs1
      clear hrow hs1 hln
      go_wp2_with fail
      go_ret
      exact ⟨_, rfl, by rw [HR.out]; exact HS1.out, hbel⟩
end Go.Proofs.Ytbkaoghlkdbofaa

/- Plain: breadth first search finds the least number of steps to a goal. -/
namespace Go.Proofs.Ytbkaoghlkdbofaa
set_option linter.unusedVariables false
set_option linter.unusedSimpArgs false

/-- a goal is n steps away from i -/
def toG (next : Nat → List Nat) (goal : Nat → Prop) : Nat → Nat → Prop
  | 0, i => goal i
  | n + 1, i => ∃ k ∈ next i, toG next goal n k
def IsDist (next : Nat → List Nat) (goal : Nat → Prop) (i : Nat) (d : Int) : Prop :=
  (d = -1 ∧ ∀ n, ¬ toG next goal n i) ∨ (0 ≤ d ∧ toG next goal d.toNat i ∧ ∀ m : Nat, m < d.toNat → ¬ toG next goal m i)
theorem IsDist.uniq {next : Nat → List Nat} {goal : Nat → Prop} {i : Nat} {d e : Int} (h : IsDist next goal i d) (k : IsDist next goal i e) : d = e := by
  rcases h with ⟨rfl, h⟩ | ⟨h0, h1, h2⟩
  · rcases k with ⟨rfl, _⟩ | ⟨_, k1, _⟩
    · rfl
    · exact absurd k1 (h _)
  · rcases k with ⟨rfl, k⟩ | ⟨k0, k1, k2⟩
    · exact absurd h1 (k _)
    · rcases Nat.lt_trichotomy d.toNat e.toNat with hlt | heq | hgt
      · exact absurd h1 (k2 _ hlt)
      · omega
      · exact absurd k1 (h2 _ hgt)

section
variable {prev next : Nat → List Nat} {goal : Nat → Prop} {N : Nat} {D : List Int} {q : List Nat}
structure BO (prev next : Nat → List Nat) (goal : Nat → Prop) (N : Nat) (D : List Int) (q : List Nat) : Prop where
  len : D.length = N
  sound : ∀ i, i < N → 0 ≤ D.getD i 0 → toG next goal (D.getD i 0).toNat i
  src : ∀ i, i < N → goal i → D.getD i 0 = 0
  done : ∀ k, k < N → 0 ≤ D.getD k 0 → k ∉ q → ∀ i ∈ prev k, 0 ≤ D.getD i 0 ∧ D.getD i 0 ≤ D.getD k 0 + 1
  top : ∀ h r, q = h :: r → ∀ i, i < N → D.getD i 0 ≤ D.getD h 0 + 1
  sorted : q.Pairwise (fun a b => D.getD a 0 ≤ D.getD b 0)
  qN : ∀ x ∈ q, x < N ∧ 0 ≤ D.getD x 0
  low : ∀ i, i < N → -1 ≤ D.getD i 0
structure BI (prev next : Nat → List Nat) (goal : Nat → Prop) (N : Nat) (D : List Int) (q : List Nat) (h : Nat) (l : List Nat) : Prop where
  len : D.length = N
  hN : h < N
  hD : 0 ≤ D.getD h 0
  sound : ∀ i, i < N → 0 ≤ D.getD i 0 → toG next goal (D.getD i 0).toNat i
  src : ∀ i, i < N → goal i → D.getD i 0 = 0
  done : ∀ k, k < N → 0 ≤ D.getD k 0 → k ∉ q → k ≠ h → ∀ i ∈ prev k, 0 ≤ D.getD i 0 ∧ D.getD i 0 ≤ D.getD k 0 + 1
  here : ∀ i ∈ prev h, i ∈ l ∨ (0 ≤ D.getD i 0 ∧ D.getD i 0 ≤ D.getD h 0 + 1)
  top : ∀ i, i < N → D.getD i 0 ≤ D.getD h 0 + 1
  qs : ∀ x ∈ q, D.getD h 0 ≤ D.getD x 0
  sorted : q.Pairwise (fun a b => D.getD a 0 ≤ D.getD b 0)
  qN : ∀ x ∈ q, x < N ∧ 0 ≤ D.getD x 0
  low : ∀ i, i < N → -1 ≤ D.getD i 0

theorem BO.enter {h : Nat} (b : BO prev next goal N D (h :: q)) : BI prev next goal N D q h (prev h) :=
  ⟨b.len, (b.qN h (by simp)).1, (b.qN h (by simp)).2, b.sound, b.src, fun k hk h0 hq hh => b.done k hk h0 (by simp [hq, hh]), fun i hi => .inl hi, b.top h q rfl,
    fun x hx => (List.pairwise_cons.1 b.sorted).1 x hx, (List.pairwise_cons.1 b.sorted).2, fun x hx => b.qN x (List.mem_cons_of_mem _ hx), b.low⟩
theorem BI.leave {h : Nat} (b : BI prev next goal N D q h []) : BO prev next goal N D q := by
  refine ⟨b.len, b.sound, b.src, fun k hk h0 hq => ?_, fun x r hx i hi => ?_, b.sorted, b.qN, b.low⟩
  · by_cases hkh : k = h
    · subst hkh
      intro i hi
      rcases b.here i hi with h | h
      · simp at h
      · exact h
    · exact b.done k hk h0 hq hkh
  · have h1 := b.top i hi
    have h2 := b.qs x (by rw [hx]; simp)
    omega
theorem BI.old {h k : Nat} {l : List Nat} (b : BI prev next goal N D q h (k :: l)) (hk : k < N) (h0 : ¬ D.getD k 0 < 0) : BI prev next goal N D q h l := by
  refine ⟨b.len, b.hN, b.hD, b.sound, b.src, b.done, fun i hi => ?_, b.top, b.qs, b.sorted, b.qN, b.low⟩
  rcases b.here i hi with h1 | h1
  · rcases List.mem_cons.1 h1 with rfl | h1
    · exact .inr ⟨by omega, b.top _ hk⟩
    · exact .inl h1
  · exact .inr h1
theorem BI.new {h k : Nat} {l : List Nat} (hpn : ∀ i k, i < N → k < N → i ∈ prev k → k ∈ next i) (hpN : ∀ i k, k < N → i ∈ prev k → i < N) (b : BI prev next goal N D q h (k :: l)) (hkp : k ∈ prev h) (h0 : D.getD k 0 < 0) :
    BI prev next goal N (D.set k (D.getD h 0 + 1)) (q ++ [k]) h l := by
  have hk : k < N := hpN k h b.hN hkp
  have hkl : k < D.length := by rw [b.len]; exact hk
  have hD := b.hD
  have hkh : k ≠ h := by intro e; subst e; omega
  have hh : (D.set k (D.getD h 0 + 1)).getD h 0 = D.getD h 0 := by rw [getD_set' hkl, if_neg (Ne.symm hkh)]
  have hset : ∀ x, x ≠ k → (D.set k (D.getD h 0 + 1)).getD x 0 = D.getD x 0 := fun x hx => by rw [getD_set' hkl, if_neg hx]
  have hsk : (D.set k (D.getD h 0 + 1)).getD k 0 = D.getD h 0 + 1 := by rw [getD_set' hkl, if_pos rfl]
  have hkq : ∀ x ∈ q, x ≠ k := fun x hx e => by subst e; have := (b.qN x hx).2; omega
  refine ⟨by rw [List.length_set]; exact b.len, b.hN, by rw [hh]; exact hD, fun i hi h1 => ?_, fun i hi hg => ?_, fun x hx h1 hxq hxh i hi => ?_, fun i hi => ?_, fun i hi => ?_, fun x hx => ?_, ?_, fun x hx => ?_, fun i hi => ?_⟩
  · by_cases e : i = k
    · subst e
      rw [hsk]
      have h2 := b.sound h b.hN hD
      rw [show (D.getD h 0 + 1).toNat = (D.getD h 0).toNat + 1 by omega]
      exact ⟨h, hpn i h hi b.hN hkp, h2⟩
    · rw [hset i e] at h1 ⊢
      exact b.sound i hi h1
  · have e : i ≠ k := by
      intro e; subst e
      have := b.src i hi hg
      omega
    rw [hset i e]
    exact b.src i hi hg
  · have e : x ≠ k := by intro e; subst e; simp at hxq
    rw [hset x e] at h1 ⊢
    have h2 := b.done x hx h1 (fun h => hxq (by simp [h])) hxh i hi
    have e2 : i ≠ k := by intro e2; subst e2; omega
    rw [hset i e2]
    exact h2
  · rw [hh]
    by_cases e : i = k
    · subst e
      refine .inr ?_
      rw [hsk]
      omega
    · rw [hset i e]
      rcases b.here i hi with h1 | h1
      · rcases List.mem_cons.1 h1 with h1 | h1
        · exact absurd h1 e
        · exact .inl h1
      · exact .inr h1
  · rw [hh]
    by_cases e : i = k
    · subst e; rw [hsk]; omega
    · rw [hset i e]; exact b.top i hi
  · rw [hh]
    rcases List.mem_append.1 hx with hx | hx
    · rw [hset x (hkq x hx)]; exact b.qs x hx
    · have : x = k := by simpa using hx
      subst this
      rw [hsk]; omega
  · rw [List.pairwise_append]
    refine ⟨?_, by simp, fun x hx y hy => ?_⟩
    · refine List.Pairwise.imp_of_mem (fun {x y} hx hy hxy => ?_) b.sorted
      rw [hset x (hkq x hx), hset y (hkq y hy)]
      exact hxy
    · have : y = k := by simpa using hy
      subst this
      rw [hset x (hkq x hx), hsk]
      exact b.top x (b.qN x hx).1
  · rcases List.mem_append.1 hx with hx | hx
    · rw [hset x (hkq x hx)]; exact b.qN x hx
    · have : x = k := by simpa using hx
      subst this
      rw [hsk]
      exact ⟨hk, by omega⟩
  · by_cases e : i = k
    · subst e; rw [hsk]; omega
    · rw [hset i e]; exact b.low i hi

theorem BI.all (hpn : ∀ i k, i < N → k < N → i ∈ prev k → k ∈ next i) (hpN : ∀ i k, k < N → i ∈ prev k → i < N) {h : Nat} : ∀ (l : List Nat) (D : List Int) (q : List Nat) (d : Int), d = D.getD h 0 + 1 → BI prev next goal N D q h l → (∀ k ∈ l, k ∈ prev h) →
    BO prev next goal N (relax d l D q).1 (relax d l D q).2 ∧ (relax d l D q).2.length + negs (relax d l D q).1 = q.length + negs D
  | [], _, _, _, _, b, _ => ⟨b.leave, rfl⟩
  | k :: l, D, q, d, hd, b, hl => by
    have hk : k < N := hpN k h b.hN (hl k (by simp))
    rw [relax]
    by_cases h0 : D.getD k 0 < 0
    · rw [if_pos h0]
      have hkl : k < D.length := by rw [b.len]; exact hk
      have hkh : k ≠ h := by intro e; subst e; have := b.hD; omega
      have h1 := BI.new hpn hpN b (hl k (by simp)) h0
      rw [← hd] at h1
      have := BI.all hpn hpN l (D.set k d) (q ++ [k]) d (by rw [getD_set' hkl, if_neg (Ne.symm hkh)]; exact hd) h1 (fun x hx => hl x (List.mem_cons_of_mem _ hx))
      refine ⟨this.1, this.2.trans ?_⟩
      have h3 := negs_set hkl h0 (d := d) (by have := b.hD; omega)
      rw [List.length_append, List.length_singleton]
      omega
    · rw [if_neg h0]
      exact BI.all hpn hpN l D q d hd (b.old hk h0) (fun x hx => hl x (List.mem_cons_of_mem _ hx))

theorem BO.fin (hnN : ∀ i k, i < N → k ∈ next i → k < N) (hnp : ∀ i k, i < N → k < N → k ∈ next i → i ∈ prev k) (b : BO prev next goal N D []) : ∀ i, i < N → IsDist next goal i (D.getD i 0) := by
  have hall : ∀ (n i : Nat), i < N → toG next goal n i → 0 ≤ D.getD i 0 ∧ D.getD i 0 ≤ n := by
    intro n
    induction n with
    | zero =>
      intro i hi h
      rw [b.src i hi h]
      omega
    | succ n ih =>
      rintro i hi ⟨k, hk, h⟩
      have hkN := hnN i k hi hk
      have h1 := ih k hkN h
      have h2 := b.done k hkN h1.1 (by simp) i (hnp i k hi hkN hk)
      omega
  intro i hi
  by_cases h0 : 0 ≤ D.getD i 0
  · exact .inr ⟨h0, b.sound i hi h0, fun m hm h => by have := hall m i hi h; omega⟩
  · refine .inl ⟨by have := b.low i hi; omega, fun n h => h0 (hall n i hi h).1⟩

theorem bfs_dist (hpn : ∀ i k, i < N → k < N → i ∈ prev k → k ∈ next i) (hpN : ∀ i k, k < N → i ∈ prev k → i < N) (hnN : ∀ i k, i < N → k ∈ next i → k < N) (hnp : ∀ i k, i < N → k < N → k ∈ next i → i ∈ prev k) :
    ∀ (f : Nat) (D : List Int) (q : List Nat), BO prev next goal N D q → q.length + negs D ≤ f → ∀ i, i < N → IsDist next goal i ((bfs prev f D q).getD i 0) := by
  intro f
  induction f with
  | zero =>
    intro D q b hf
    have : q = [] := List.eq_nil_of_length_eq_zero (by omega)
    subst this
    exact b.fin hnN hnp
  | succ f ih =>
    intro D q b hf
    cases q with
    | nil => exact b.fin hnN hnp
    | cons h q =>
      rw [bfs]
      have := BI.all hpn hpN (prev h) D q _ rfl b.enter (fun _ h => h)
      exact ih _ _ this.1 (by rw [this.2]; rw [List.length_cons] at hf; omega)

/-! ### The same by sweeps -/
/-- after the sweeps up to d: the distances up to d are known -/
def SwO (next : Nat → List Nat) (goal : Nat → Prop) (N : Nat) (D : List Int) (d : Nat) : Prop :=
  D.length = N ∧ ∀ i, i < N → (D.getD i 0 = -1 ∧ ∀ m, m ≤ d → ¬ toG next goal m i) ∨ (0 ≤ D.getD i 0 ∧ D.getD i 0 ≤ d ∧ IsDist next goal i (D.getD i 0))
/-- within the sweep for d + 1: the vertices below j are done -/
def SwI (next : Nat → List Nat) (goal : Nat → Prop) (N : Nat) (D : List Int) (d j : Nat) (ch : Bool) : Prop :=
  D.length = N ∧ (∀ i, i < N → (D.getD i 0 = -1 ∧ (∀ m, m ≤ d → ¬ toG next goal m i) ∧ (i < j → ¬ toG next goal (d + 1) i)) ∨ (0 ≤ D.getD i 0 ∧ D.getD i 0 ≤ (d : Int) + 1 ∧ IsDist next goal i (D.getD i 0))) ∧
    (ch = false → ∀ i, i < N → D.getD i 0 ≤ d)
theorem SwO.enter {d : Nat} (h : SwO next goal N D d) : SwI next goal N D d 0 false := by
  refine ⟨h.1, fun i hi => ?_, fun _ i hi => ?_⟩
  · rcases h.2 i hi with h1 | h1
    · exact .inl ⟨h1.1, h1.2, fun h => by omega⟩
    · exact .inr ⟨h1.1, by omega, h1.2.2⟩
  · rcases h.2 i hi with h1 | h1 <;> omega
theorem SwI.leave {d : Nat} {ch : Bool} (h : SwI next goal N D d N ch) : SwO next goal N D (d + 1) := by
  refine ⟨h.1, fun i hi => ?_⟩
  rcases h.2.1 i hi with h1 | h1
  · refine .inl ⟨h1.1, fun m hm => ?_⟩
    by_cases e : m = d + 1
    · subst e; exact h1.2.2 hi
    · exact h1.2.1 m (by omega)
  · exact .inr ⟨h1.1, by omega, h1.2.2⟩
theorem SwI.stop (hnN : ∀ i k, i < N → k ∈ next i → k < N) {d : Nat} (h : SwI next goal N D d N false) : ∀ i, i < N → IsDist next goal i (D.getD i 0) := by
  have hno : ∀ i, i < N → toG next goal (d + 1) i → ∃ m, m ≤ d ∧ toG next goal m i := by
    intro i hi ht
    rcases h.2.1 i hi with h1 | h1
    · exact absurd ht (h1.2.2 hi)
    · have h2 := h.2.2 rfl i hi
      rcases h1.2.2 with h3 | h3
      · omega
      · exact ⟨_, by omega, h3.2.1⟩
  have hall : ∀ (n i : Nat), i < N → toG next goal n i → ∃ m, m ≤ d ∧ toG next goal m i := by
    intro n
    induction n with
    | zero => intro i _ h; exact ⟨0, Nat.zero_le _, h⟩
    | succ n ih =>
      rintro i hi ⟨k, hk, ht⟩
      obtain ⟨m, hm, h2⟩ := ih k (hnN i k hi hk) ht
      by_cases e : m = d
      · subst e
        exact hno i hi ⟨k, hk, h2⟩
      · exact ⟨m + 1, by omega, k, hk, h2⟩
  intro i hi
  rcases h.2.1 i hi with h1 | h1
  · refine .inl ⟨h1.1, fun n hn => ?_⟩
    obtain ⟨m, hm, h2⟩ := hall n i hi hn
    exact h1.2.1 m hm h2
  · exact h1.2.2
/-- vertex j is known already, or none of its next ones is at distance d -/
theorem SwI.skip {d j : Nat} {ch : Bool} (h : SwI next goal N D d j ch) (hs : ¬ D.getD j 0 < 0 ∨ ∀ k ∈ next j, D.getD k 0 ≠ d) (hnN : ∀ i k, i < N → k ∈ next i → k < N) : SwI next goal N D d (j + 1) ch := by
  refine ⟨h.1, fun i hi => ?_, h.2.2⟩
  rcases h.2.1 i hi with h1 | h1
  · refine .inl ⟨h1.1, h1.2.1, fun hij => ?_⟩
    by_cases e : i = j
    · subst e
      rcases hs with hs | hs
      · omega
      · rintro ⟨k, hk, ht⟩
        have hkN := hnN i k hi hk
        rcases h.2.1 k hkN with h2 | h2
        · exact h2.2.1 d (Nat.le_refl _) ht
        · rcases h2.2.2 with h3 | h3
          · omega
          · have h4 : ¬ d < (D.getD k 0).toNat := fun hlt => h3.2.2 d hlt ht
            have h5 := hs k hk
            refine h1.2.1 ((D.getD k 0).toNat + 1) (by omega) ⟨k, hk, h3.2.1⟩
    · exact h1.2.2 (by omega)
  · exact .inr h1
theorem SwI.put {d j k : Nat} {ch : Bool} (h : SwI next goal N D d j ch) (hj : j < N) (h0 : D.getD j 0 < 0) (hk : k ∈ next j) (hkd : D.getD k 0 = d) (hnN : ∀ i k, i < N → k ∈ next i → k < N) : SwI next goal N (D.set j ((d : Int) + 1)) d (j + 1) true := by
  have hjl : j < D.length := by rw [h.1]; exact hj
  have hkN := hnN j k hj hk
  refine ⟨by rw [List.length_set]; exact h.1, fun i hi => ?_, fun h => by cases h⟩
  by_cases e : i = j
  · subst e
    rw [getD_set' hjl, if_pos rfl]
    rcases h.2.1 i hi with h1 | h1
    · refine .inr ⟨by omega, by omega, .inr ⟨by omega, ?_, fun m hm => h1.2.1 m (by omega)⟩⟩
      rcases h.2.1 k hkN with h2 | h2
      · omega
      · rcases h2.2.2 with h3 | h3
        · omega
        · have h4 := h3.2.1
          rw [hkd] at h4
          rw [show ((d : Int) + 1).toNat = d + 1 by omega]
          exact ⟨k, hk, by simpa using h4⟩
    · omega
  · rw [getD_set' hjl, if_neg e]
    rcases h.2.1 i hi with h1 | h1
    · exact .inl ⟨h1.1, h1.2.1, fun hij => h1.2.2 (by omega)⟩
    · exact .inr h1
end

/-- the lists turned round -/
def turnL (N : Nat) (next : Nat → List Nat) (k : Nat) : List Nat := (List.range N).flatMap fun i => (next i).filterMap fun x => if x = k then some i else none
theorem mem_turnL {N : Nat} {next : Nat → List Nat} {i k : Nat} : i ∈ turnL N next k ↔ i < N ∧ k ∈ next i := by
  unfold turnL
  simp only [List.mem_flatMap, List.mem_range, List.mem_filterMap]
  constructor
  · rintro ⟨j, hj, x, hx, he⟩
    by_cases h : x = k
    · rw [if_pos h] at he
      injection he with he
      subst h he
      exact ⟨hj, hx⟩
    · rw [if_neg h] at he; cases he
  · rintro ⟨hi, hk⟩
    exact ⟨i, hi, k, hk, by simp⟩
end Go.Proofs.Ytbkaoghlkdbofaa

/- Plain: the rows of vertices behind each vertex, filled vertex by vertex; the rows turned round. -/
namespace Go.Proofs.Ytbkaoghlkdbofaa
set_option linter.unusedVariables false
set_option linter.unusedSimpArgs false

/-- rows below i are whole, row i holds cur, the others are empty -/
def fillTo (N : Nat) (next : Nat → List Nat) (i : Nat) (cur : List Nat) : List (List Nat) := (List.range N).map fun m => if m < i then next m else if m = i then cur else []
theorem fill_at {N i m : Nat} {next : Nat → List Nat} {cur : List Nat} (h : m < N) : (fillTo N next i cur)[m]? = some (if m < i then next m else if m = i then cur else []) := by simp [fillTo, h]
theorem fill_cur {N i : Nat} {next : Nat → List Nat} {cur : List Nat} (h : i < N) : (fillTo N next i cur)[i]? = some cur := by rw [fill_at h, if_neg (by omega), if_pos rfl]
theorem fill_len (N i : Nat) (next : Nat → List Nat) (cur : List Nat) : (fillTo N next i cur).length = N := by simp [fillTo]
theorem fill_zero (N : Nat) (next : Nat → List Nat) : fillTo N next 0 [] = List.replicate N [] := by
  apply List.ext_getElem?
  intro x
  by_cases h : x < N
  · rw [fill_at h, List.getElem?_replicate, if_pos h]; simp
  · rw [List.getElem?_eq_none (by rw [fill_len]; omega), List.getElem?_eq_none (by rw [List.length_replicate]; omega)]
theorem fill_push {N i : Nat} {next : Nat → List Nat} {cur : List Nat} (v : List Nat) (h : i < N) : (fillTo N next i cur).set i v = fillTo N next i v := by
  apply List.ext_getElem?
  intro x
  rw [List.getElem?_set, fill_len]
  by_cases hx : x < N
  · by_cases e : i = x
    · subst e
      rw [if_pos rfl, if_pos h, fill_cur h]
    · rw [if_neg e, fill_at hx, fill_at hx]
      have : ¬ x = i := fun h => e h.symm
      simp [this]
  · rw [List.getElem?_eq_none (l := fillTo N next i v) (by rw [fill_len]; omega)]
    rw [if_neg (by omega), List.getElem?_eq_none (by rw [fill_len]; omega)]
theorem fill_next {N i : Nat} {next : Nat → List Nat} : fillTo N next i (next i) = fillTo N next (i + 1) [] := by
  unfold fillTo
  apply List.map_congr_left
  intro m _
  by_cases h1 : m < i
  · rw [if_pos h1, if_pos (by omega)]
  · by_cases h2 : m = i
    · subst h2
      rw [if_neg h1, if_pos rfl, if_pos (by omega)]
    · rw [if_neg h1, if_neg h2, if_neg (by omega)]
      split <;> rfl
theorem fill_all (N : Nat) (next : Nat → List Nat) : fillTo N next N [] = (List.range N).map next := by
  unfold fillTo
  apply List.map_congr_left
  intro m hm
  rw [if_pos (List.mem_range.1 hm)]
theorem nextI_at {g : Gr} {a : Au} {x s : Nat} (hs : s < a.accept.length) : nextI g a (x * a.accept.length + s) = nextV g a x s := by
  unfold nextI
  rw [Nat.add_comm, Nat.add_mul_div_right _ _ (by omega), Nat.div_eq_of_lt hs, Nat.add_mul_mod_self_right, Nat.mod_eq_of_lt hs, Nat.zero_add]
theorem vert_lt {n m x s : Nat} (hx : x < m) (hs : s < n) : x * n + s < m * n := by
  have := Nat.mul_le_mul_right n (show x + 1 ≤ m by omega)
  rw [Nat.succ_mul] at this
  omega

/-- the rows turned round, by the first i rows and j entries of row i -/
def turnTo (N : Nat) (next : Nat → List Nat) (i : Nat) (cur : List Nat) : List (List Nat) := (List.range N).map fun k => ((List.range i).flatMap fun m => (next m).filterMap fun x => if x = k then some m else none) ++ cur.filterMap fun x => if x = k then some i else none
theorem turn_at {N i k : Nat} {next : Nat → List Nat} {cur : List Nat} (h : k < N) : (turnTo N next i cur)[k]? = some (((List.range i).flatMap fun m => (next m).filterMap fun x => if x = k then some m else none) ++ cur.filterMap fun x => if x = k then some i else none) := by simp [turnTo, h]
theorem turn_len (N i : Nat) (next : Nat → List Nat) (cur : List Nat) : (turnTo N next i cur).length = N := by simp [turnTo]
theorem turn_zero (N : Nat) (next : Nat → List Nat) : turnTo N next 0 [] = List.replicate N [] := by
  apply List.ext_getElem?
  intro x
  by_cases h : x < N
  · rw [turn_at h, List.getElem?_replicate, if_pos h]; simp
  · rw [List.getElem?_eq_none (by rw [turn_len]; omega), List.getElem?_eq_none (by rw [List.length_replicate]; omega)]
theorem turn_push {N i k : Nat} {next : Nat → List Nat} {cur row : List Nat} (h : k < N) (hr : (turnTo N next i cur)[k]? = some row) : (turnTo N next i cur).set k (row ++ [i]) = turnTo N next i (cur ++ [k]) := by
  apply List.ext_getElem?
  intro x
  rw [List.getElem?_set, turn_len]
  by_cases hx : x < N
  · by_cases e : k = x
    · subst e
      rw [turn_at h] at hr
      injection hr with hr
      rw [if_pos rfl, if_pos h, turn_at h, ← hr, List.filterMap_append]
      simp
    · rw [if_neg e, turn_at hx, turn_at hx, List.filterMap_append]
      simp [e]
  · rw [List.getElem?_eq_none (l := turnTo N next i (cur ++ [k])) (by rw [turn_len]; omega)]
    rw [if_neg (by omega), List.getElem?_eq_none (by rw [turn_len]; omega)]
theorem turn_next {N i : Nat} {next : Nat → List Nat} : turnTo N next i (next i) = turnTo N next (i + 1) [] := by
  unfold turnTo
  apply List.map_congr_left
  intro k _
  rw [List.range_succ, List.flatMap_append]
  simp
theorem turn_all (N : Nat) (next : Nat → List Nat) : turnTo N next N [] = (List.range N).map (turnL N next) := by
  unfold turnTo turnL
  apply List.map_congr_left
  intro k _
  simp
end Go.Proofs.Ytbkaoghlkdbofaa

