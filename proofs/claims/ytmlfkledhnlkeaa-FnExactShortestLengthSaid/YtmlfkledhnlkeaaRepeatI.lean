/- The library's slices.Repeat at []int, of one number: so many of it. -/
import Derived.Test.YtmlfkledhnlkeaaShelf
import Derived.Test.YtmlfkledhnlkeaaHelpInt
import Derived.Test.YtmlfkledhnlkeaaBits
import Derived.Test.YtmlfkledhnlkeaaRows2
import Derived.Test.YtmlfkledhnlkeaaKeep
import Derived.Test.YtmlfkledhnlkeaaHeldL
import Derived.Laws.CopyOwn
import Derived.Deep.RegionLaw
namespace Go.Proofs.Ytmlfkledhnlkeaa
set_option linter.unusedVariables false
set_option linter.unusedSimpArgs false
open Go.ChangeShapes Go.WideShapes Go.ChangeAt Go.RowKit
attribute [local go_sem] ext_cell ext_frozen ext_lt ext_lt1 ext_lt2 ext_lt3 ltn2 ltn3 ltn13 lts1 lts2 lts3

theorem own_full {w : World} {base g n : Nat} {e : TypeId} {xs : List Value} (h : w.ownsRow base e 1 (.slice (some ⟨g, 0, none⟩) n n) n xs) : w.heap[g]? = some (.cells xs.toArray e (0, 0)) := by
  obtain ⟨hl, h⟩ := h
  rcases h with ⟨h, _⟩ | ⟨g', cap, cur, hv, _, hg, _, _, hs, ht⟩
  · cases h
  · simp only [Value.slice.injEq, Option.some.injEq, Addr.mk.injEq, and_true, true_and] at hv
    obtain ⟨rfl, rfl⟩ := hv
    rw [hg, ← ht, List.take_of_length_le (by rw [Array.length_toList, hs]; exact Nat.le_refl _)]
theorem full_own {w : World} {base g n : Nat} {e : TypeId} {xs : List Value} (h : w.heap[g]? = some (.cells xs.toArray e (0, 0))) (hn : xs.length = n) (hb : base ≤ g) (hm : n ≤ maxLen) : w.ownsRow base e 1 (.slice (some ⟨g, 0, none⟩) n n) n xs :=
  ⟨by rw [hn, Nat.mul_one], .inr ⟨g, n, xs.toArray, rfl, hb, h, Nat.le_refl _, hm, by simpa using hn, by rw [Nat.mul_one, ← hn]; simp⟩⟩
theorem op_copy {P : Program} {o : Oper} {a : Act} {w : World} {K : Act → World → Prop} {Q : Exit → Act → World → Prop} (hgd : o.guard = none) (d s : Operand) (dT sT : TypeId)
    (ho : o.op = .call { callee := .builtin .copy, args := #[d, s], argTypes := #[dT, sT] }) (elem : TypeId) (hu : P.underlying dT = some (.slice elem)) (hsz : (P.info? elem).map (·.size) = some 1)
    (dp sp : Option Addr) (dLen dCap sLen sCap : Nat) (hd : a.eval d = .slice dp dLen dCap) (hs : a.eval s = .slice sp sLen sCap)
    (g off : Nat) (cur : List Value) (t : TypeId) (hg : w.heap[g]? = some (.cells cur.toArray t (0, 0))) (cs : List Value) (hn : cs.length = Nat.min sLen dLen)
    (hpos : 0 < cs.length → dp = some ⟨g, off, none⟩ ∧ ∃ ad, sp = some ad ∧ ∀ j v, cs[j]? = some v → w.cell? (ad.add j) = some v)
    (hfit : off + cs.length ≤ cur.length) (h1 : ∀ v ∈ cs, v.oneCell' = true) (B : Nat) (w0 : World) (hb : RowKit.Below B w0 w) (hBg : B ≤ g)
    (h : ∀ w', RowKit.Hid (w'.heap[g]? = some (.cells (splice cur off cs).toArray t (0, 0))) → RowKit.Below B w0 w' → K (a.put o.dst (goInt cs.length)) w') : Oper.wp P o a w K Q := by
  have h2 := step_copy_splice (ops := #[]) (E := True) (Q := Q) (K := K) hgd d s dT sT ho elem hu hsz dp sp dLen dCap sLen sCap hd hs g off cur t hg cs hn hpos hfit h1 B w0 hb hBg h
  have hw : Region.wanted o (yielded #[] a.tmps) = true := by simp [Region.wanted, hgd]
  rwa [if_pos hw] at h2
theorem flatI_rep (n : Nat) (x : Int) : (List.replicate n x).flatMap cI = List.replicate n (.int .i64 x) := by
  induction n with
  | zero => rfl
  | succ n ih => rw [List.replicate_succ, List.flatMap_cons, ih]; rfl
/-- n of x, then zeros -/
def repTo (x : Int) (N n : Nat) : List Value := List.replicate n (.int .i64 x) ++ List.replicate (N - n) (.int .i64 0)
theorem repTo_len {x : Int} {N n : Nat} (h : n ≤ N) : (repTo x N n).length = N := by simp [repTo]; omega
theorem repTo_step {x : Int} {N n k : Nat} (h : n + k ≤ N) : splice (repTo x N n) n (List.replicate k (.int .i64 x)) = repTo x N (n + k) := by
  unfold splice repTo
  rw [List.take_append_of_le_length (by simp), List.take_of_length_le (by simp), List.drop_append, List.length_replicate, List.length_replicate]
  rw [List.drop_eq_nil_of_le (by simp), List.nil_append, List.drop_replicate, ← List.append_assoc, List.replicate_append_replicate]
  congr 2
  omega
set_option maxHeartbeats 2000000 in
set_option maxRecDepth 100000 in
theorem repeat_any (lv : Value) (x : Int) (N : Nat) (w : World) (hN : 1 ≤ N) (hN2 : N ≤ 100000) (hl : SlE w cI 1 lv [x]) :
    Calls Try.prog 156 #[lv, .int .i64 (N : Int)] w fun e w' => ∃ g, e = .returned (.slice (some ⟨g, 0, none⟩) N N) ∧ w'.ownsRow w.heap.size 3 1 (.slice (some ⟨g, 0, none⟩) N N) N ((List.replicate N x).flatMap cI) ∧ Below w.heap.size w w' := by
  obtain ⟨A1, c1, rfl, hl1, hm1, hC⟩ := hl.form
  obtain ⟨b, o, rfl, hb, hc⟩ := hC.int (i := 0) rfl
  have u1 : IntKind.u64.wrap (1 : Int) = 1 := by rfl
  have u2 : IntKind.u64.wrap (N : Int) = (N : Int) := by rw [IntKind.wrap_u64]; omega
  have u3 : ((1 * N / 18446744073709551616 : Nat) : Int) = 0 := by rw [Nat.one_mul, Nat.div_eq_of_lt (by omega)]; rfl
  have u4 : ((1 * N % 18446744073709551616 : Nat) : Int) = (N : Int) := by rw [Nat.one_mul, Nat.mod_eq_of_lt (by omega)]
  have hmul : ∀ w : World, Calls Try.prog 165 #[.int .u64 1, .int .u64 (N : Int)] w fun e w' => e = .returned (.tuple #[.int .u64 0, .int .u64 (N : Int)]) ∧ w' = w := fun w => (Try.bits_Mul 1 N (by omega) (by omega) w).mono fun e w' ⟨he, hw⟩ => ⟨by rw [he, u3, u4], hw⟩
  have HMUL := Lib.hid hmul
  clear hl hC u3 u4 hmul
  simp only [List.length_singleton] at *
  go_enter Try.func156, Try.ntmps156
  go_wp2_with fail
  refine (HMUL.out _).mono ?_
  rintro e w' ⟨rfl, rfl⟩
  have u5 : IntKind.i64.wrap (N : Int) = (N : Int) := IntWalk.i64_in _ (by omega)
  have hn0 : decide ((N : Int) > 9223372036854775807) = false := by simp; omega
  have hnews : ∀ (w1 : World), w1.cell? ⟨b, o, none⟩ = some (.int .i64 x) → ∀ (j : Nat) (v : Value), (List.replicate 1 (Value.int .i64 x))[j]? = some v → w1.cell? ((⟨b, o, none⟩ : Addr).add j) = some v := fun w1 h j v hj => by
    rw [List.getElem?_replicate] at hj
    split at hj
    · obtain rfl : j = 0 := by omega
      injection hj with hj
      subst hj
      simpa [Addr.add] using h
    · cases hj
  have HNEWS := Lib.hid hnews
  clear hnews
  go_wp2_with (first | (at_make; refine wpList_makeE (P := Try.prog) cI 0 elInt rfl rfl rfl _ _ rfl w'.heap.size N _ (by rfl) (by rfl) rfl (by omega) (by unfold maxLen; omega) (by simp) ?_; intro w1 hrow1 hbel1; have HB1 := Lib.hid (own_full hrow1); have hlt1 := (hrow1.lt _ rfl).2; have hc1 := kcell hbel1 hc; clear hrow1) | (refine wpList_copy_splice rfl (.tmp 31) (.tmp 32) 22 22 rfl 3 Try.underlying22 (by kernel_rfl) (some ⟨w'.heap.size, 0, none⟩) (some ⟨b, o, none⟩) N N 1 c1 (by rfl) (by rfl) w'.heap.size 0 (repTo x N 0) 3 (by have h := HB1.out; rw [flatI_rep] at h; simpa [repTo] using h) (List.replicate 1 (.int .i64 x)) (by simp [Nat.min_def]; omega) (fun _ => ⟨rfl, _, rfl, HNEWS.out _ hc1⟩) (by rw [repTo_len (Nat.zero_le _)]; simp; omega) (by intro v hv; rw [List.eq_of_mem_replicate hv]; rfl) w'.heap.size w' hbel1 (Nat.le_refl _) ?_; intro w2 hh2 hbel2; rw [repTo_step (by omega)] at hh2))
  obtain ⟨w0, rfl⟩ : ∃ w0 : World, w0 = w' := ⟨_, rfl⟩
  go_loopw [8] (fun nn wr => ∃ n : Nat, 1 ≤ n ∧ n ≤ N ∧ nn = .int .i64 (n : Int) ∧ wr.heap[w0.heap.size]? = some (.cells (repTo x N n).toArray 3 (0, 0)) ∧ Below w0.heap.size w0 wr) (fun nn _ => N - (intOf nn).toNat)
  case atStart => exact ⟨1, Nat.le_refl _, hN, rfl, by simpa using hh2.out, hbel2⟩
  case round =>
    clear hh2 hbel2
    obtain ⟨n, hn1, hn2, rfl, hblk, hbel⟩ := hrel
    have HB := Lib.hid hblk
    clear hblk
    by_cases hlt : n < N
    · obtain ⟨m, hm⟩ : ∃ m, m = Nat.min n (N - n) := ⟨_, rfl⟩
      have hm1 : 1 ≤ m ∧ m ≤ n ∧ n + m ≤ N := by rw [hm]; show 1 ≤ min n (N - n) ∧ min n (N - n) ≤ n ∧ n + min n (N - n) ≤ N; omega
      have HM := Lib.hid hm
      clear hm
      have hsrc : ∀ j v, (List.replicate m (Value.int .i64 x))[j]? = some v → wr.drew.cell? ((⟨w0.heap.size, 0, none⟩ : Addr).add j) = some v := fun j v hj => by
        rw [List.getElem?_replicate] at hj
        split at hj
        · injection hj with hj
          subst hj
          have hadd : (⟨w0.heap.size, 0, none⟩ : Addr).add j = ⟨w0.heap.size, j, none⟩ := by unfold Addr.add; split <;> simp_all
          rw [hadd]
          show wr.cell? _ = _
          rw [cell_of_row wr _ j _ _ _ HB.out]
          have hjn : j < n := by omega
          simp [repTo, List.getElem?_append, hjn]
        · cases hj
      have HSRC := Lib.hid hsrc
      have hNn : ¬ N = n := by omega
      have q1 : IntKind.i64.wrap ((n : Int) + (m : Int)) = (n : Int) + (m : Int) := IntWalk.i64_in _ (by omega)
      clear hsrc
      go_wp2_with fail
      refine F_start 9 (fun _ => True) (by kernel_rfl) trivial (fun hS inv => ?_)
      refine F_take (i := 0) (v := ?_) rfl (by kernel_rfl) (by kernel_rfl) (by kernel_rfl) (fun _ _ _ h => h) inv (Or.inl ⟨by rfl, ?_⟩) (by assumption) (fun invn => ?_)
      rotate_left
      · (intro w hSw; (try dsimp only at hSw); go_simp; try with_reducible rfl)
      try simp only [List.getElem_toArray, List.getElem_cons_zero, List.getElem_cons_succ, Act.put, List.setIfInBounds_toArray, List.set_cons_zero, List.set_cons_succ]
      clear inv
      have inv := invn
      clear invn
      refine F_take (i := 1) (v := ?_) rfl (by kernel_rfl) (by kernel_rfl) (by kernel_rfl) (fun _ _ _ h => h) inv (Or.inl ⟨by rfl, ?_⟩) (by assumption) (fun invn => ?_)
      rotate_left
      · (intro w hSw; (try dsimp only at hSw); go_simp; try with_reducible rfl)
      try simp only [List.getElem_toArray, List.getElem_cons_zero, List.getElem_cons_succ, Act.put, List.setIfInBounds_toArray, List.set_cons_zero, List.set_cons_succ]
      clear inv
      have inv := invn
      clear invn
      refine F_take (i := 2) (v := ?_) rfl (by kernel_rfl) (by kernel_rfl) (by kernel_rfl) (fun _ _ _ h => h) inv (Or.inl ⟨by rfl, ?_⟩) (by assumption) (fun invn => ?_)
      rotate_left
      · (intro w hSw; (try dsimp only at hSw); go_simp; try with_reducible rfl)
      try simp only [List.getElem_toArray, List.getElem_cons_zero, List.getElem_cons_succ, Act.put, List.setIfInBounds_toArray, List.set_cons_zero, List.set_cons_succ]
      clear inv
      have inv := invn
      clear invn
      refine F_take (i := 3) (v := ?_) rfl (by kernel_rfl) (by kernel_rfl) (by kernel_rfl) (fun _ _ _ h => h) inv (Or.inl ⟨by rfl, ?_⟩) (by assumption) (fun invn => ?_)
      rotate_left
      · (intro w hSw; (try dsimp only at hSw); go_simp; try with_reducible rfl)
      try simp only [List.getElem_toArray, List.getElem_cons_zero, List.getElem_cons_succ, Act.put, List.setIfInBounds_toArray, List.set_cons_zero, List.set_cons_succ]
      clear inv
      have inv := invn
      clear invn
      refine F_take (i := 4) (v := ?_) rfl (by kernel_rfl) (by kernel_rfl) (by kernel_rfl) (fun _ _ _ h => h) inv (Or.inl ⟨by rfl, ?_⟩) (by assumption) (fun invn => ?_)
      rotate_left
      · (intro w hSw; (try dsimp only at hSw); go_simp; try with_reducible rfl)
      try simp only [List.getElem_toArray, List.getElem_cons_zero, List.getElem_cons_succ, Act.put, List.setIfInBounds_toArray, List.set_cons_zero, List.set_cons_succ]
      clear inv
      have inv := invn
      clear invn
      refine F_take (i := 5) (v := ?_) rfl (by kernel_rfl) (by kernel_rfl) (by kernel_rfl) (fun _ _ _ h => h) inv (Or.inl ⟨by rfl, ?_⟩) (by assumption) (fun invn => ?_)
      rotate_left
      · (intro w hSw; (try dsimp only at hSw); go_simp; try with_reducible rfl)
      try simp only [List.getElem_toArray, List.getElem_cons_zero, List.getElem_cons_succ, Act.put, List.setIfInBounds_toArray, List.set_cons_zero, List.set_cons_succ]
      clear inv
      have inv := invn
      clear invn
      refine F_take (i := 6) (v := ?_) rfl (by kernel_rfl) (by kernel_rfl) (by kernel_rfl) (fun _ _ _ h => h) inv (Or.inl ⟨by rfl, ?_⟩) (by assumption) (fun invn => ?_)
      rotate_left
      · (intro w hSw; (try dsimp only at hSw); go_simp; try with_reducible rfl)
      try simp only [List.getElem_toArray, List.getElem_cons_zero, List.getElem_cons_succ, Act.put, List.setIfInBounds_toArray, List.set_cons_zero, List.set_cons_succ]
      clear inv
      have inv := invn
      clear invn
      refine F_one (i := 7) (by kernel_rfl) rfl rfl (by omega) inv (fun K hK => ?_)
      try simp only [List.getElem_toArray, List.getElem_cons_zero, List.getElem_cons_succ]
      refine op_copy rfl _ _ 22 22 rfl 3 Try.underlying22 (by kernel_rfl) (some ⟨w0.heap.size, n, none⟩) (some ⟨w0.heap.size, 0, none⟩) (N - n) (N - n) n N (by rfl) (by rfl) w0.heap.size n (repTo x N n) 3 HB.out (List.replicate m (.int .i64 x)) (by rw [List.length_replicate, HM.out]) (fun _ => ⟨rfl, _, rfl, HSRC.out⟩) (by rw [repTo_len (by omega), List.length_replicate]; omega) (by intro v hv; rw [List.eq_of_mem_replicate hv]; rfl) w0.heap.size w0 hbel.drew (Nat.le_refl _) ?_
      intro w3 hh3 hbel3
      rw [repTo_step (by omega)] at hh3
      simp only [List.length_replicate, goInt]
      refine hK.out _ _ (trivial) (fun hSn invn => ?_)
      try simp only [List.getElem_toArray, List.getElem_cons_zero, List.getElem_cons_succ, Act.put, List.setIfInBounds_toArray, List.set_cons_zero, List.set_cons_succ]
      clear hK K inv hS
      have inv := invn
      have hS := hSn
      clear invn hSn
      refine F_take (i := 8) (v := ?_) rfl (by kernel_rfl) (by kernel_rfl) (by kernel_rfl) (fun _ _ _ h => h) inv (Or.inl ⟨by rfl, ?_⟩) (by assumption) (fun invn => ?_)
      rotate_left
      · (intro w hSw; (try dsimp only at hSw); go_simp; try with_reducible rfl)
      try simp only [List.getElem_toArray, List.getElem_cons_zero, List.getElem_cons_succ, Act.put, List.setIfInBounds_toArray, List.set_cons_zero, List.set_cons_succ]
      clear inv
      have inv := invn
      clear invn
      refine F_last (i := 9) (by kernel_rfl) rfl rfl (by omega) (by kernel_rfl) (fun K hK => ?_)
      go_simp
      refine hK _ _ ?_
      clear hK K inv hS
      go_wp2_with fail
      go_roundw
      case rel => exact ⟨n + m, by omega, by omega, by go_num, hh3.out, hbel3⟩
      case measure => simp [intOf]; omega
    · obtain rfl : n = N := by omega
      have hown := full_own (base := w0.heap.size) (n := n) HB.out (repTo_len (Nat.le_refl _)) (Nat.le_refl _) (by unfold maxLen; omega)
      have hfl : repTo x n n = (List.replicate n x).flatMap cI := by rw [flatI_rep]; simp [repTo]
      rw [hfl] at hown
      have HO := Lib.hid hown
      clear hown hfl
      go_wp2_with fail
      go_ret
      exact ⟨_, rfl, HO.out, hbel⟩
end Go.Proofs.Ytmlfkledhnlkeaa
