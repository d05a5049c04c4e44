/- Parts of the proof, joined into one text: RepeatI, SpreadI, GoalI, DistI, ShortI, Ctr, Count. -/
import Derived.Test.YtgdgelkeflihpaaPartPNIJPJGG
import Derived.Test.YtgdgelkeflihpaaPartHDNEGFCA
import Derived.Test.YtgdgelkeflihpaaPartAAOKINFK
import Derived.Laws.CopyOwn
import Derived.Deep.RegionLaw
import Derived.Test.YtgdgelkeflihpaaPartPIKGAJJF
import Derived.Deep.LoopGhost
import Derived.Test.YtgdgelkeflihpaaPartJCLCPPHB
import Derived.Test.YtgdgelkeflihpaaPartGPKKMHKD
import Derived.Test.YtgdgelkeflihpaaPartPBFCOFCJ
import Derived.Test.YtgdgelkeflihpaaPartGBHIGBBP
import Derived.Test.YtgdgelkeflihpaaPartECHEHDLI
import Derived.Test.YtgdgelkeflihpaaPartKCADONLI
/- The library's slices.Repeat at []int, of one number: so many of it. -/
namespace Go.Proofs.Ytgdgelkeflihpaa
set_option linter.unusedVariables false
set_option linter.unusedSimpArgs false
open Go.ChangeShapes Go.WideShapes Go.ChangeAt Go.RowKit
attribute [local go_sem] ext_cell ext_frozen ext_lt ext_lt1 ext_lt2 ext_lt3 ltn2 ltn3 ltn13 lts1 lts2 lts3

theorem own_full {w : World} {base g n : Nat} {e : TypeId} {xs : List Value} (h : w.ownsRow base e 1 (.slice (some ⟨g, 0, none⟩) n n) n xs) : w.heap[g]? = some (.cells xs.toArray e (0, 0)) := by
  obtain ⟨hl, h⟩ := h
  rcases h with ⟨h, _⟩ | ⟨g', cap, cur, hv, _, hg, _, _, hs, ht⟩
  · cases h
  · simp only [Value.slice.injEq, Option.some.injEq, Addr.mk.injEq, and_true, true_and] at hv
    obtain ⟨rfl, rfl⟩ := hv
    rw [hg, ← ht, List.take_of_length_le (by rw [Array.length_toList, hs]; exact Nat.le_refl _)]
theorem full_own {w : World} {base g n : Nat} {e : TypeId} {xs : List Value} (h : w.heap[g]? = some (.cells xs.toArray e (0, 0))) (hn : xs.length = n) (hb : base ≤ g) (hm : n ≤ maxLen) : w.ownsRow base e 1 (.slice (some ⟨g, 0, none⟩) n n) n xs :=
  ⟨by rw [hn, Nat.mul_one], .inr ⟨g, n, xs.toArray, rfl, hb, h, Nat.le_refl _, hm, by simpa using hn, by rw [Nat.mul_one, ← hn]; simp⟩⟩
theorem op_copy {P : Program} {o : Oper} {a : Act} {w : World} {K : Act → World → Prop} {Q : Exit → Act → World → Prop} (hgd : o.guard = none) (d s : Operand) (dT sT : TypeId)
    (ho : o.op = .call { callee := .builtin .copy, args := #[d, s], argTypes := #[dT, sT] }) (elem : TypeId) (hu : P.underlying dT = some (.slice elem)) (hsz : (P.info? elem).map (·.size) = some 1)
    (dp sp : Option Addr) (dLen dCap sLen sCap : Nat) (hd : a.eval d = .slice dp dLen dCap) (hs : a.eval s = .slice sp sLen sCap)
    (g off : Nat) (cur : List Value) (t : TypeId) (hg : w.heap[g]? = some (.cells cur.toArray t (0, 0))) (cs : List Value) (hn : cs.length = Nat.min sLen dLen)
    (hpos : 0 < cs.length → dp = some ⟨g, off, none⟩ ∧ ∃ ad, sp = some ad ∧ ∀ j v, cs[j]? = some v → w.cell? (ad.add j) = some v)
    (hfit : off + cs.length ≤ cur.length) (h1 : ∀ v ∈ cs, v.oneCell' = true) (B : Nat) (w0 : World) (hb : RowKit.Below B w0 w) (hBg : B ≤ g)
    (h : ∀ w', RowKit.Hid (w'.heap[g]? = some (.cells (splice cur off cs).toArray t (0, 0))) → RowKit.Below B w0 w' → K (a.put o.dst (goInt cs.length)) w') : Oper.wp P o a w K Q := by
  have h2 := step_copy_splice (ops := #[]) (E := True) (Q := Q) (K := K) hgd d s dT sT ho elem hu hsz dp sp dLen dCap sLen sCap hd hs g off cur t hg cs hn hpos hfit h1 B w0 hb hBg h
  have hw : Region.wanted o (yielded #[] a.tmps) = true := by simp [Region.wanted, hgd]
  rwa [if_pos hw] at h2
theorem flatI_rep (n : Nat) (x : Int) : (List.replicate n x).flatMap cI = List.replicate n (.int .i64 x) := by
  induction n with
  | zero => rfl
  | succ n ih => rw [List.replicate_succ, List.flatMap_cons, ih]; rfl
/-- n of x, then zeros -/
def repTo (x : Int) (N n : Nat) : List Value := List.replicate n (.int .i64 x) ++ List.replicate (N - n) (.int .i64 0)
theorem repTo_len {x : Int} {N n : Nat} (h : n ≤ N) : (repTo x N n).length = N := by simp [repTo]; omega
theorem repTo_step {x : Int} {N n k : Nat} (h : n + k ≤ N) : splice (repTo x N n) n (List.replicate k (.int .i64 x)) = repTo x N (n + k) := by
  unfold splice repTo
  rw [List.take_append_of_le_length (by simp), List.take_of_length_le (by simp), List.drop_append, List.length_replicate, List.length_replicate]
  rw [List.drop_eq_nil_of_le (by simp), List.nil_append, List.drop_replicate, ← List.append_assoc, List.replicate_append_replicate]
  congr 2
  omega
set_option maxHeartbeats 2000000 in
set_option maxRecDepth 100000 in
theorem repeat_any (lv : Value) (x : Int) (N : Nat) (w : World) (hN : 1 ≤ N) (hN2 : N ≤ 100000) (hl : SlE w cI 1 lv [x]) :
    Calls Try.prog 177 #[lv, .int .i64 (N : Int)] w fun e w' => ∃ g, e = .returned (.slice (some ⟨g, 0, none⟩) N N) ∧ w'.ownsRow w.heap.size 3 1 (.slice (some ⟨g, 0, none⟩) N N) N ((List.replicate N x).flatMap cI) ∧ Below w.heap.size w w' := by
  obtain ⟨A1, c1, rfl, hl1, hm1, hC⟩ := hl.form
  obtain ⟨b, o, rfl, hb, hc⟩ := hC.int (i := 0) rfl
  have u1 : IntKind.u64.wrap (1 : Int) = 1 := by rfl
  have u2 : IntKind.u64.wrap (N : Int) = (N : Int) := by rw [IntKind.wrap_u64]; omega
  have u3 : ((1 * N / 18446744073709551616 : Nat) : Int) = 0 := by rw [Nat.one_mul, Nat.div_eq_of_lt (by omega)]; rfl
  have u4 : ((1 * N % 18446744073709551616 : Nat) : Int) = (N : Int) := by rw [Nat.one_mul, Nat.mod_eq_of_lt (by omega)]
  have hmul : ∀ w : World, Calls Try.prog 187 #[.int .u64 1, .int .u64 (N : Int)] w fun e w' => e = .returned (.tuple #[.int .u64 0, .int .u64 (N : Int)]) ∧ w' = w := fun w => (Try.bits_Mul 1 N (by omega) (by omega) w).mono fun e w' ⟨he, hw⟩ => ⟨by rw [he, u3, u4], hw⟩
  have HMUL := Lib.hid hmul
  clear hl hC u3 u4 hmul
  simp only [List.length_singleton] at *
  go_enter Try.func177, Try.ntmps177
  go_wp2_with fail
  refine (HMUL.out _).mono ?_
  rintro e w' ⟨rfl, rfl⟩
  have u5 : IntKind.i64.wrap (N : Int) = (N : Int) := IntWalk.i64_in _ (by omega)
  have hn0 : decide ((N : Int) > 9223372036854775807) = false := by simp; omega
  have hnews : ∀ (w1 : World), w1.cell? ⟨b, o, none⟩ = some (.int .i64 x) → ∀ (j : Nat) (v : Value), (List.replicate 1 (Value.int .i64 x))[j]? = some v → w1.cell? ((⟨b, o, none⟩ : Addr).add j) = some v := fun w1 h j v hj => by
    rw [List.getElem?_replicate] at hj
    split at hj
    · obtain rfl : j = 0 := by omega
      injection hj with hj
      subst hj
      simpa [Addr.add] using h
    · cases hj
  have HNEWS := Lib.hid hnews
  clear hnews
  go_wp2_with (first | (at_make; refine wpList_makeE (P := Try.prog) cI 0 elInt rfl rfl rfl _ _ rfl w'.heap.size N _ (by rfl) (by rfl) rfl (by omega) (by unfold maxLen; omega) (by simp) ?_; intro w1 hrow1 hbel1; have HB1 := Lib.hid (own_full hrow1); have hlt1 := (hrow1.lt _ rfl).2; have hc1 := kcell hbel1 hc; clear hrow1) | (refine wpList_copy_splice rfl (.tmp 31) (.tmp 32) 27 27 rfl 3 Try.underlying27 (by kernel_rfl) (some ⟨w'.heap.size, 0, none⟩) (some ⟨b, o, none⟩) N N 1 c1 (by rfl) (by rfl) w'.heap.size 0 (repTo x N 0) 3 (by have h := HB1.out; rw [flatI_rep] at h; simpa [repTo] using h) (List.replicate 1 (.int .i64 x)) (by simp [Nat.min_def]; omega) (fun _ => ⟨rfl, _, rfl, HNEWS.out _ hc1⟩) (by rw [repTo_len (Nat.zero_le _)]; simp; omega) (by intro v hv; rw [List.eq_of_mem_replicate hv]; rfl) w'.heap.size w' hbel1 (Nat.le_refl _) ?_; intro w2 hh2 hbel2; rw [repTo_step (by omega)] at hh2))
  obtain ⟨w0, rfl⟩ : ∃ w0 : World, w0 = w' := ⟨_, rfl⟩
  go_loopw [8] (fun nn wr => ∃ n : Nat, 1 ≤ n ∧ n ≤ N ∧ nn = .int .i64 (n : Int) ∧ wr.heap[w0.heap.size]? = some (.cells (repTo x N n).toArray 3 (0, 0)) ∧ Below w0.heap.size w0 wr) (fun nn _ => N - (intOf nn).toNat)
  case atStart => exact ⟨1, Nat.le_refl _, hN, rfl, by simpa using hh2.out, hbel2⟩
  case round =>
    clear hh2 hbel2
    obtain ⟨n, hn1, hn2, rfl, hblk, hbel⟩ := hrel
    have HB := Lib.hid hblk
    clear hblk
    by_cases hlt : n < N
    · obtain ⟨m, hm⟩ : ∃ m, m = Nat.min n (N - n) := ⟨_, rfl⟩
      have hm1 : 1 ≤ m ∧ m ≤ n ∧ n + m ≤ N := by rw [hm]; show 1 ≤ min n (N - n) ∧ min n (N - n) ≤ n ∧ n + min n (N - n) ≤ N; omega
      have HM := Lib.hid hm
      clear hm
      have hsrc : ∀ j v, (List.replicate m (Value.int .i64 x))[j]? = some v → wr.drew.cell? ((⟨w0.heap.size, 0, none⟩ : Addr).add j) = some v := fun j v hj => by
        rw [List.getElem?_replicate] at hj
        split at hj
        · injection hj with hj
          subst hj
          have hadd : (⟨w0.heap.size, 0, none⟩ : Addr).add j = ⟨w0.heap.size, j, none⟩ := by unfold Addr.add; split <;> simp_all
          rw [hadd]
          show wr.cell? _ = _
          rw [cell_of_row wr _ j _ _ _ HB.out]
          have hjn : j < n := by omega
          simp [repTo, List.getElem?_append, hjn]
        · cases hj
      have HSRC := Lib.hid hsrc
      have hNn : ¬ N = n := by omega
      have q1 : IntKind.i64.wrap ((n : Int) + (m : Int)) = (n : Int) + (m : Int) := IntWalk.i64_in _ (by omega)
      clear hsrc
      go_wp2_with fail
      refine F_start 9 (fun _ => True) (by kernel_rfl) trivial (fun hS inv => ?_)
      refine F_take (i := 0) (v := ?_) rfl (by kernel_rfl) (by kernel_rfl) (by kernel_rfl) (fun _ _ _ h => h) inv (Or.inl ⟨by rfl, ?_⟩) (by assumption) (fun invn => ?_)
      rotate_left
      · (intro w hSw; (try dsimp only at hSw); go_simp; try with_reducible rfl)
      try simp only [List.getElem_toArray, List.getElem_cons_zero, List.getElem_cons_succ, Act.put, List.setIfInBounds_toArray, List.set_cons_zero, List.set_cons_succ]
      clear inv
      have inv := invn
      clear invn
      refine F_take (i := 1) (v := ?_) rfl (by kernel_rfl) (by kernel_rfl) (by kernel_rfl) (fun _ _ _ h => h) inv (Or.inl ⟨by rfl, ?_⟩) (by assumption) (fun invn => ?_)
      rotate_left
      · (intro w hSw; (try dsimp only at hSw); go_simp; try with_reducible rfl)
      try simp only [List.getElem_toArray, List.getElem_cons_zero, List.getElem_cons_succ, Act.put, List.setIfInBounds_toArray, List.set_cons_zero, List.set_cons_succ]
      clear inv
      have inv := invn
      clear invn
      refine F_take (i := 2) (v := ?_) rfl (by kernel_rfl) (by kernel_rfl) (by kernel_rfl) (fun _ _ _ h => h) inv (Or.inl ⟨by rfl, ?_⟩) (by assumption) (fun invn => ?_)
      rotate_left
      · (intro w hSw; (try dsimp only at hSw); go_simp; try with_reducible rfl)
      try simp only [List.getElem_toArray, List.getElem_cons_zero, List.getElem_cons_succ, Act.put, List.setIfInBounds_toArray, List.set_cons_zero, List.set_cons_succ]
      clear inv
      have inv := invn
      clear invn
      refine F_take (i := 3) (v := ?_) rfl (by kernel_rfl) (by kernel_rfl) (by kernel_rfl) (fun _ _ _ h => h) inv (Or.inl ⟨by rfl, ?_⟩) (by assumption) (fun invn => ?_)
      rotate_left
      · (intro w hSw; (try dsimp only at hSw); go_simp; try with_reducible rfl)
      try simp only [List.getElem_toArray, List.getElem_cons_zero, List.getElem_cons_succ, Act.put, List.setIfInBounds_toArray, List.set_cons_zero, List.set_cons_succ]
      clear inv
      have inv := invn
      clear invn
      refine F_take (i := 4) (v := ?_) rfl (by kernel_rfl) (by kernel_rfl) (by kernel_rfl) (fun _ _ _ h => h) inv (Or.inl ⟨by rfl, ?_⟩) (by assumption) (fun invn => ?_)
      rotate_left
      · (intro w hSw; (try dsimp only at hSw); go_simp; try with_reducible rfl)
      try simp only [List.getElem_toArray, List.getElem_cons_zero, List.getElem_cons_succ, Act.put, List.setIfInBounds_toArray, List.set_cons_zero, List.set_cons_succ]
      clear inv
      have inv := invn
      clear invn
      refine F_take (i := 5) (v := ?_) rfl (by kernel_rfl) (by kernel_rfl) (by kernel_rfl) (fun _ _ _ h => h) inv (Or.inl ⟨by rfl, ?_⟩) (by assumption) (fun invn => ?_)
      rotate_left
      · (intro w hSw; (try dsimp only at hSw); go_simp; try with_reducible rfl)
      try simp only [List.getElem_toArray, List.getElem_cons_zero, List.getElem_cons_succ, Act.put, List.setIfInBounds_toArray, List.set_cons_zero, List.set_cons_succ]
      clear inv
      have inv := invn
      clear invn
      refine F_take (i := 6) (v := ?_) rfl (by kernel_rfl) (by kernel_rfl) (by kernel_rfl) (fun _ _ _ h => h) inv (Or.inl ⟨by rfl, ?_⟩) (by assumption) (fun invn => ?_)
      rotate_left
      · (intro w hSw; (try dsimp only at hSw); go_simp; try with_reducible rfl)
      try simp only [List.getElem_toArray, List.getElem_cons_zero, List.getElem_cons_succ, Act.put, List.setIfInBounds_toArray, List.set_cons_zero, List.set_cons_succ]
      clear inv
      have inv := invn
      clear invn
      refine F_one (i := 7) (by kernel_rfl) rfl rfl (by omega) inv (fun K hK => ?_)
      try simp only [List.getElem_toArray, List.getElem_cons_zero, List.getElem_cons_succ]
      refine op_copy rfl _ _ 27 27 rfl 3 Try.underlying27 (by kernel_rfl) (some ⟨w0.heap.size, n, none⟩) (some ⟨w0.heap.size, 0, none⟩) (N - n) (N - n) n N (by rfl) (by rfl) w0.heap.size n (repTo x N n) 3 HB.out (List.replicate m (.int .i64 x)) (by rw [List.length_replicate, HM.out]) (fun _ => ⟨rfl, _, rfl, HSRC.out⟩) (by rw [repTo_len (by omega), List.length_replicate]; omega) (by intro v hv; rw [List.eq_of_mem_replicate hv]; rfl) w0.heap.size w0 hbel.drew (Nat.le_refl _) ?_
      intro w3 hh3 hbel3
      rw [repTo_step (by omega)] at hh3
      simp only [List.length_replicate, goInt]
      refine hK.out _ _ (trivial) (fun hSn invn => ?_)
      try simp only [List.getElem_toArray, List.getElem_cons_zero, List.getElem_cons_succ, Act.put, List.setIfInBounds_toArray, List.set_cons_zero, List.set_cons_succ]
      clear hK K inv hS
      have inv := invn
      have hS := hSn
      clear invn hSn
      refine F_take (i := 8) (v := ?_) rfl (by kernel_rfl) (by kernel_rfl) (by kernel_rfl) (fun _ _ _ h => h) inv (Or.inl ⟨by rfl, ?_⟩) (by assumption) (fun invn => ?_)
      rotate_left
      · (intro w hSw; (try dsimp only at hSw); go_simp; try with_reducible rfl)
      try simp only [List.getElem_toArray, List.getElem_cons_zero, List.getElem_cons_succ, Act.put, List.setIfInBounds_toArray, List.set_cons_zero, List.set_cons_succ]
      clear inv
      have inv := invn
      clear invn
      refine F_last (i := 9) (by kernel_rfl) rfl rfl (by omega) (by kernel_rfl) (fun K hK => ?_)
      go_simp
      refine hK _ _ ?_
      clear hK K inv hS
      go_wp2_with fail
      go_roundw
      case rel => exact ⟨n + m, by omega, by omega, by go_num, hh3.out, hbel3⟩
      case measure => simp [intOf]; omega
    · obtain rfl : n = N := by omega
      have hown := full_own (base := w0.heap.size) (n := n) HB.out (repTo_len (Nat.le_refl _)) (Nat.le_refl _) (by unfold maxLen; omega)
      have hfl : repTo x n n = (List.replicate n x).flatMap cI := by rw [flatI_rep]; simp [repTo]
      rw [hfl] at hown
      have HO := Lib.hid hown
      clear hown hfl
      go_wp2_with fail
      go_ret
      exact ⟨_, rfl, HO.out, hbel⟩
end Go.Proofs.Ytgdgelkeflihpaa

/- The program's spread: breadth first search. -/
namespace Go.Proofs.Ytgdgelkeflihpaa
set_option linter.unusedVariables false
set_option linter.unusedSimpArgs false
open Go.ChangeShapes Go.WideShapes Go.ChangeAt Go.RowKit
attribute [local go_sem] ext_cell ext_frozen ext_lt ext_lt1 ext_lt2 ext_lt3 ltn2 ltn3 ltn13 lts1 lts2 lts3

set_option maxHeartbeats 8000000 in
set_option maxRecDepth 100000 in
theorem spread_any (v lv : Value) (N : Nat) (next : Nat → List Nat) (fs : List Nat) (w : World) (hv : SSE 0 w.heap.size w cN 1 v ((List.range N).map next)) (hl : SlE w cN 1 lv fs) (hN1 : 1 ≤ N) (hN : N ≤ 60) (hfl : fs.length ≤ 60) (hfs : ∀ i ∈ fs, i < N)
    (hnext : ∀ i, i < N → ∀ k ∈ next i, k < N) :
    Calls Try.prog 152 #[v, lv] w fun e w' => ∃ v', e = .returned v' ∧ Own w.heap.size w'.heap.size w' 3 cI 1 v' (spreadR N next fs) ∧ Below w.heap.size w w' := by
  obtain ⟨A5, c5, hv5, hl5, hm5⟩ := hv.shape
  have hlen5 : ((List.range N).map next).length = N := by simp
  rw [hlen5] at hv5 hl5
  subst hv5
  obtain ⟨A6, c6, rfl, hl6, hm6, hC6⟩ := hl.form
  have HV := Lib.hid hv
  have HNX := Lib.hid hnext
  have HFS := Lib.hid hfs
  have HC6 := Lib.hid hC6
  clear hv hnext hlen5 hl hC6 hfs
  obtain ⟨R, hR⟩ : ∃ R, R = spreadR N next fs := ⟨_, rfl⟩
  rw [← hR]
  have HR := Lib.hid hR
  clear hR
  have hb0 : Below w.heap.size w (w.alloc (.cells #[.int .i64 (-1)] 3)) := (Below.refl _ _).alloc (Nat.le_refl _) _
  have hone : SlE (w.alloc (.cells #[.int .i64 (-1)] 3)) cI 1 (.slice (some ⟨w.heap.size, 0, none⟩) 1 1) [-1] := by
    have h := Own.of_row (xs := [(-1 : Int)]) (E := cI) (World.ownsRow_lit (base := 0) (e := 3) (size := 1) w #[.int .i64 (-1)] 1 (Nat.zero_le _) (by decide) rfl) rfl rfl
    have h2 := h.sl cI_len
    simpa [SlE] using h2
  have HONE := Lib.hid hone
  clear hone
  go_enter Try.func152, Try.ntmps152
  go_wp2_with fail
  refine (repeat_any _ (-1) N _ hN1 (by omega) HONE.out).mono ?_
  rintro e w2 ⟨g, rfl, hrow, hb2⟩
  have hgl := hrow.lt g rfl
  simp only [World.size_alloc] at hgl
  have hbel := below_trans hb0 hb2
  have HROW := Lib.hid hrow
  clear hrow hb0 hb2
  go_wp2_with fail
  go_loopw [6, 18] (fun qv jj wr => ∃ j : Nat, j ≤ fs.length ∧ jj = .int .i64 (j : Int) ∧ wr.ownsRow w.heap.size 3 1 (.slice (some ⟨g, 0, none⟩) N N) N ((srcD N (fs.take j)).flatMap cI) ∧
    QRow wr w2.heap.size 3 1 qv (fs.take j).length ((fs.take j).flatMap cN) ∧ Below w.heap.size w wr ∧ w2.heap.size ≤ wr.heap.size) (fun _ jj _ => fs.length - (intOf jj).toNat)
  case atStart =>
    refine ⟨0, Nat.zero_le _, rfl, ?_, QRow.of_own (World.ownsRow_lit w2 #[] 0 (Nat.le_refl _) (by decide) rfl), hbel.alloc hbel.size _, by simp⟩
    exact ownsRow_mono ((ownsRow_below' HROW.out ((Below.refl w2.heap.size w2).alloc (Nat.le_refl _) _) (by omega))) (by simp)
  case round =>
    clear hbel
    obtain ⟨j, hj, rfl, hrow, hq, hbel, hsz⟩ := hrel
    have HROW := Lib.hid hrow
    have HQ := Lib.hid hq
    clear hrow hq
    by_cases hlt : j < fs.length
    · have hki : fs[j]? = some fs[j] := List.getElem?_eq_getElem hlt
      have hkn := HFS.out _ (List.getElem_mem hlt)
      generalize fs[j] = k at hki hkn
      obtain ⟨b6, o6, rfl, hb6, d6⟩ := HC6.out.nat hki
      have d6 := (hbel.cell (p := ⟨b6, o6 + j, none⟩) hb6).trans d6
      have hkc := (World.ownsRow.cellAt HROW.out k (by omega)).trans (flatI_at (getD_of (by rw [srcD_len]; exact hkn)))
      have hkf := World.ownsRow.frozenAt HROW.out k
      have hrow2 := (World.ownsRow.stored HROW.out k (.int .i64 0)).1
      rw [flatI_set, ← srcD_snoc, ← take_snoc hki] at hrow2
      have hq2 := HQ.out.only ((Only.refl g (g + 1) wr).setCell (p := ⟨g, k, none⟩) (.inl ⟨Nat.le_refl _, Nat.lt_succ_self _⟩) (.int .i64 0)) (fun b hb => .inr (by have := (HQ.out.lt b hb).1; omega))
      have hbel2 := hbel.setCell (p := ⟨g, k, none⟩) (show w.heap.size ≤ g by omega) (.int .i64 0)
      have HR2 := Lib.hid hrow2
      have HQ2 := Lib.hid hq2
      have HKI := Lib.hid hki
      have htl : (fs.take j).length ≤ 60 := by rw [List.length_take]; omega
      have hkN : (k : Int) < (N : Int) := by omega
      clear hrow2 hq2 hki
      go_wp2_with (at_builtin; (refine wpList_appendQ1 cN elInt rfl _ _ rfl w2.heap.size _ (fs.take j) k _ 1 wr.heap.size (by rfl) HQ2.out (by rfl) (by simp) rfl rfl (cN_one _) (by omega) (by omega) (by simpa using hsz) ?_); rw [← take_snoc HKI.out]; intro v' w4 hq3 hb3 _ _)
      go_roundw
      case rel => exact ⟨j + 1, by omega, by go_num, ownsRow_below' HR2.out hb3 (by omega), hq3, hbel2.trans (hb3.mono (by omega)), by have := hb3.size; simp at this; omega⟩
      case measure => simp [intOf]; omega
    · obtain rfl : j = fs.length := by omega
      rw [List.take_length] at HROW HQ
      obtain ⟨F, hF⟩ : ∃ F, F = fs.length + N := ⟨_, rfl⟩
      have hF2 : F ≤ 120 := by omega
      have hini := srcD_bfsI HFS.out
      rw [← hF] at hini
      have hRF : bfs next F (srcD N fs) fs = R := by rw [HR.out, spreadR, hF]
      have HINI := Lib.hid hini
      have HRF := Lib.hid hRF
      clear hF hini hRF
      go_wp2_with fail
      go_loopg [6] F (fun k qv wr => ∃ (D : List Int) (q : List Nat), BfsI N F k D q ∧ bfs next k D q = R ∧ wr.ownsRow w.heap.size 3 1 (.slice (some ⟨g, 0, none⟩) N N) N (D.flatMap cI) ∧
        QRow wr w2.heap.size 3 1 qv q.length (q.flatMap cN) ∧ Below w.heap.size w wr ∧ w2.heap.size ≤ wr.heap.size)
      case atStart => exact ⟨_, _, HINI.out, HRF.out, HROW.out, HQ.out, hbel, hsz⟩
      case round =>
        clear HROW HQ hbel hsz
        obtain ⟨D, q, hI, hB, hrow, hq, hbel, hsz⟩ := hrel
        have HI := Lib.hid hI
        have HB := Lib.hid hB
        have HROW := Lib.hid hrow
        have HQ := Lib.hid hq
        clear hI hB hrow hq
        cases q with
        | nil =>
          have hfin : D = R := by rw [← HB.out, bfs_nil]
          obtain ⟨A4, c4, rfl, hc4, hc5⟩ := HQ.out.shape
          have HF := Lib.hid hfin
          have hown : Own w.heap.size wr.heap.size wr 3 cI 1 (.slice (some ⟨g, 0, none⟩) N N) D := Own.of_row HROW.out HI.out.len rfl
          have HO := Lib.hid hown
          clear hfin hown
          simp only [List.length_nil] at *
          go_wp2_with fail
          go_ret
          exact ⟨_, rfl, by rw [← HF.out]; exact HO.out, hbel⟩
        | cons h q =>
          obtain ⟨f, rfl⟩ : ∃ f, gk = f + 1 := ⟨gk - 1, by have := HI.out.fuel; rw [List.length_cons] at this; omega⟩
          obtain ⟨hhN, hh0⟩ := HI.out.queue h (by simp)
          obtain ⟨b5, o5, A7, c7, rfl, -, hb5, d5, hl7, hm7, hI7, -⟩ := HV.out.row (Nat.le_refl _) (i := h) (xs := next h) (by simp [hhN])
          have d5 := (hbel.cell (p := ⟨b5, o5 + h, none⟩) hb5).trans d5
          have hb5w := Nat.lt_of_lt_of_le hb5 hbel.size
          obtain ⟨gq, oq, cq, rfl, hgq1, hgq2, hqc⟩ := HQ.out.cell (by simp)
          have dq := hqc 0 _ rfl
          simp only [Nat.add_zero] at dq
          have HI7 := Lib.hid hI7
          have hhx : (h : Int) < (N : Int) := by omega
          clear hqc hI7
          have hlc : (h :: q).length = q.length + 1 := rfl
          rw [hlc] at HQ ⊢
          clear hlc
          go_wp2_with fail
          have htop := HI.out.top h
          have hpop := HI.out.pop
          obtain ⟨dd, hdd⟩ : ∃ dd, dd = D.getD h 0 := ⟨_, rfl⟩
          rw [← hdd] at htop hh0
          have HDD := Lib.hid hdd
          have HPOP := Lib.hid hpop
          clear hdd hpop
          go_loopw [6, 42] (fun qv jj wr => ∃ (j : Nat) (D' : List Int) (q' : List Nat), j ≤ (next h).length ∧ jj = .int .i64 (j : Int) ∧ BfsI N F f D' q' ∧ D'.getD h 0 = dd ∧ relax (dd + 1) ((next h).drop j) D' q' = relax (dd + 1) (next h) D q ∧
            wr.ownsRow w.heap.size 3 1 (.slice (some ⟨g, 0, none⟩) N N) N (D'.flatMap cI) ∧ QRow wr w2.heap.size 3 1 qv (q'.length + 1) ((h :: q').flatMap cN) ∧ Below w.heap.size w wr ∧ w2.heap.size ≤ wr.heap.size) (fun _ jj _ => (next h).length - (intOf jj).toNat)
          case atStart => exact ⟨0, D, q, Nat.zero_le _, rfl, HPOP.out, HDD.out.symm, by rw [List.drop_zero], HROW.out, HQ.out, hbel, hsz⟩
          case round =>
            clear d5 dq hb5w hgq1 hgq2 HROW HQ hbel hsz
            obtain ⟨j, D', q', hj, rfl, hI2, hDh, hrx, hrow, hq, hbel, hsz⟩ := hrel
            have HI2 := Lib.hid hI2
            have HDH := Lib.hid hDh
            have HRX := Lib.hid hrx
            have HROW := Lib.hid hrow
            have HQ := Lib.hid hq
            clear hI2 hDh hrx hrow hq
            by_cases hlt : j < (next h).length
            · have hki : (next h)[j]? = some (next h)[j] := List.getElem?_eq_getElem hlt
              have hdr : (next h).drop j = (next h)[j] :: (next h).drop (j + 1) := List.drop_eq_getElem_cons hlt
              have hkn := HNX.out h hhN _ (List.getElem_mem hlt)
              generalize (next h)[j] = k at hki hkn hdr
              obtain ⟨b7, o7, rfl, -, hb7, d7⟩ := HI7.out.nat hki
              have d7 := (hbel.cell (p := ⟨b7, o7 + j, none⟩) hb7).trans d7
              have hb7w := Nat.lt_of_lt_of_le hb7 hbel.size
              have hkl : k < D'.length := by rw [HI2.out.len]; exact hkn
              have hhl : h < D'.length := by rw [HI2.out.len]; exact hhN
              have hkc := (World.ownsRow.cellAt HROW.out k (by omega)).trans (flatI_at (getD_of hkl))
              have hkf := World.ownsRow.frozenAt HROW.out k
              have hkN : (k : Int) < (N : Int) := by omega
              have hgw := (HROW.out.lt g rfl).2
              have HDR := Lib.hid hdr
              clear hki hdr
              by_cases hneg : D'.getD k 0 < 0
              · have hhc := (World.ownsRow.cellAt HROW.out h (by omega)).trans (flatI_at (getD_of hhl))
                rw [HDH.out] at hhc
                have hnew := HI2.out.new hkn hneg (d := dd + 1) (by omega) (by omega)
                have hrow2 := (World.ownsRow.stored HROW.out k (.int .i64 (dd + 1))).1
                rw [flatI_set] at hrow2
                have hq2 := HQ.out.only ((Only.refl g (g + 1) wr).setCell (p := ⟨g, k, none⟩) (.inl ⟨Nat.le_refl _, Nat.lt_succ_self _⟩) (.int .i64 (dd + 1))) (fun b hb => .inr (by have := (HQ.out.lt b hb).1; omega))
                have hbel2 := hbel.setCell (p := ⟨g, k, none⟩) (show w.heap.size ≤ g by omega) (.int .i64 (dd + 1))
                obtain ⟨gq, oq, cq, rfl, hgq1, hgq2, hqc⟩ := HQ.out.cell (by simp)
                have dq := hqc 0 _ rfl
                simp only [Nat.add_zero] at dq
                have hrx2 : relax (dd + 1) ((next h).drop (j + 1)) (D'.set k (dd + 1)) (q' ++ [k]) = relax (dd + 1) (next h) D q := by rw [← HRX.out, HDR.out, relax_mid _ _ _ _ _ hneg]
                have hDh2 : (D'.set k (dd + 1)).getD h 0 = dd := by
                  rw [getD_set' hkl, if_neg (by intro e; subst e; rw [HDH.out] at hneg; omega)]; exact HDH.out
                have hql : q'.length ≤ 200 := by have := HI2.out.fuel; omega
                have HNEW := Lib.hid hnew
                have HR2 := Lib.hid hrow2
                have HQ2 := Lib.hid hq2
                have HRX2 := Lib.hid hrx2
                have HDH2 := Lib.hid hDh2
                generalize D'.getD k 0 = x at hkc hneg
                have hgq9 : g ≠ gq := by omega
                clear hnew hrow2 hq2 hrx2 hDh2 hqc
                go_wp2_with (at_builtin; (refine wpList_appendQ1 cN elInt rfl _ _ rfl w2.heap.size (.slice (some ⟨gq, oq, none⟩) (q'.length + 1) cq) (h :: q') k _ 1 wr.heap.size (by rfl) HQ2.out (by rfl) (by simp) rfl rfl (cN_one _) (by simp only [List.length_cons]; omega) (by omega) (by simpa using hsz) ?_); intro v' w4 hq3 hb3 _ _)
                go_roundw
                case rel => exact ⟨j + 1, _, _, by omega, by go_num, HNEW.out, HDH2.out, HRX2.out, ownsRow_below' HR2.out hb3 (by omega), by simpa using hq3, hbel2.trans (hb3.mono (by omega)), by have := hb3.size; simp at this; omega⟩
                case measure => simp [intOf]; omega
              · have hrx2 : relax (dd + 1) ((next h).drop (j + 1)) D' q' = relax (dd + 1) (next h) D q := by rw [← HRX.out, HDR.out, relax_old _ _ _ _ _ hneg]
                have HRX2 := Lib.hid hrx2
                generalize D'.getD k 0 = x at hkc hneg
                clear hrx2
                go_wp2_with fail
                go_roundw
                case rel => exact ⟨j + 1, _, _, by omega, by go_num, HI2.out, HDH.out, HRX2.out, HROW.out, HQ.out, hbel, hsz⟩
                case measure => simp [intOf]; omega
            · obtain rfl : j = (next h).length := by omega
              have hrx2 := HRX.out
              rw [List.drop_length, relax] at hrx2
              have hBF : bfs next f D' q' = R := by
                rw [← HB.out, bfs, ← HDD.out, ← hrx2]
              obtain ⟨A9, c9, h9, hc8, hc9⟩ := HQ.out.shape
              obtain ⟨g5, o5, c5, rfl, -, -, -⟩ := HQ.out.cell (by omega)
              obtain rfl : c5 = c9 := by injection h9
              have htail := HQ.out.tail rfl
              simp only [List.flatMap_cons, cN, List.cons_append, List.nil_append, List.drop_succ_cons, List.drop_zero] at htail
              unfold maxLen at hc9
              have HBF := Lib.hid hBF
              clear hrx2 hBF h9
              by_cases hc1 : c5 = 1
              · subst hc1
                obtain rfl : q' = [] := List.eq_nil_of_length_eq_zero (by omega)
                rw [if_pos rfl] at htail
                simp only [List.length_nil] at *
                have HT := Lib.hid htail
                clear htail
                go_wp2_with fail
                go_roundg f
                case measure => exact Nat.lt_succ_self _
                case rel => exact ⟨_, _, HI2.out, HBF.out, HROW.out, HT.out, hbel, hsz⟩
              · rw [if_neg hc1] at htail
                have HT := Lib.hid htail
                clear htail
                go_wp2_with fail
                go_roundg f
                case measure => exact Nat.lt_succ_self _
                case rel => exact ⟨_, _, HI2.out, HBF.out, HROW.out, HT.out, hbel, hsz⟩
end Go.Proofs.Ytgdgelkeflihpaa

/- The program's goals: the vertices of a node that accept. -/
namespace Go.Proofs.Ytgdgelkeflihpaa
set_option linter.unusedVariables false
set_option linter.unusedSimpArgs false
open Go.ChangeShapes Go.WideShapes Go.ChangeAt Go.RowKit
attribute [local go_sem] ext_cell ext_frozen ext_lt ext_lt1 ext_lt2 ext_lt3 ltn2 ltn3 ltn13 lts1 lts2 lts3

set_option maxHeartbeats 4000000 in
theorem goals_any (vg va : Value) (g : Gr) (a : Au) (y : Nat) (w : World) (hgv : GrV 0 w.heap.size w vg g) (hav : AuV 0 w.heap.size w va a) (hg : GrOk g) (ha : auOk a = true) (hy : y < g.vals.length) :
    Calls Try.prog 155 #[vg, va, .int .i64 (y : Int)] w fun e w' => ∃ v', e = .returned v' ∧ Own w.heap.size w'.heap.size w' 3 cN 1 v' (goalsL g a y) ∧ Below w.heap.size w w' := by
  have hav0 := hav
  obtain ⟨A1, c1, A2, c2, rfl, hl1, hm1, -, -, hC1, -⟩ := hgv.form
  obtain ⟨A3, c3, A4, c4, rfl, hl3, hm3, hl4, hm4, -⟩ := hav.form ha
  have hn5 := hg.n5
  have hn12 := (auOk_iff.1 ha).1.2
  have hxi : g.vals[y]? = some g.vals[y] := List.getElem?_eq_getElem hy
  have hvr := hg.vals _ (List.getElem_mem hy)
  generalize g.vals[y] = vx at hxi hvr
  obtain ⟨vx, rfl⟩ := Int.eq_ofNat_of_zero_le hvr.1
  have hva := valAt_of hxi
  rw [Int.toNat_natCast] at hva
  obtain ⟨b1, o1, rfl, hb1, d1⟩ := hC1.int hxi
  have HAO := Lib.hid ha
  have HAV := Lib.hid hav0
  have HVA := Lib.hid hva
  have hb0 : Below w.heap.size w ((w.alloc (.cells #[.slice (some ⟨b1, o1, none⟩) g.vals.length c1, .slice A2 g.edges.length c2] 45)).alloc (.cells #[.int .i64 a.start, .slice A3 a.accept.length c3, .slice A4 a.accept.length c4] 29)) := ((Below.refl _ _).alloc (Nat.le_refl _) _).alloc (by simp) _
  have hyn : y * a.accept.length + a.accept.length ≤ 60 := by have := Nat.mul_le_mul (show y + 1 ≤ 5 by omega) hn12; rw [Nat.succ_mul] at this; omega
  obtain ⟨yn, hyn2⟩ : ∃ yn, yn = y * a.accept.length := ⟨_, rfl⟩
  rw [← hyn2] at hyn
  have q1 : IntKind.i64.wrap ((y : Int) * (a.accept.length : Int)) = (yn : Int) := by rw [IntWalk.i64_in _ (by rw [← Int.natCast_mul, ← hyn2]; omega), hyn2, Int.natCast_mul]
  have q1' : (y : Int) * (a.accept.length : Int) = (yn : Int) := by rw [hyn2, Int.natCast_mul]
  have q5 : IntKind.i64.wrap (yn : Int) = (yn : Int) := IntWalk.i64_in _ (by omega)
  have HYN := Lib.hid hyn2
  clear hgv hav ha hg hav0 hva hxi hC1 hyn2
  go_enter Try.func155, Try.ntmps155
  go_wp2_with fail
  obtain ⟨W0, hW0⟩ : ∃ W0, W0 = ((w.alloc (.cells #[.slice (some ⟨b1, o1, none⟩) g.vals.length c1, .slice A2 g.edges.length c2] 45)).alloc (.cells #[.int .i64 a.start, .slice A3 a.accept.length c3, .slice A4 a.accept.length c4] 29)) := ⟨_, rfl⟩
  rw [← hW0] at hb0 ⊢
  have x0 : W0.cell? ⟨w.heap.size, 0, none⟩ = some (.slice (some ⟨b1, o1, none⟩) g.vals.length c1) := by rw [hW0]; simp
  have y0 : W0.cell? ⟨w.heap.size + 1, 0, none⟩ = some (.int .i64 a.start) := by rw [hW0]; simp
  have y1 : W0.cell? ⟨w.heap.size + 1, 1, none⟩ = some (.slice A3 a.accept.length c3) := by rw [hW0]; simp
  have y2 : W0.cell? ⟨w.heap.size + 1, 2, none⟩ = some (.slice A4 a.accept.length c4) := by rw [hW0]; simp
  have d1 := kcell hb0 d1
  have l0 : w.heap.size + 1 < W0.heap.size := by rw [hW0]; simp
  have hs0 : w.heap.size + 1 + 1 = W0.heap.size := by rw [hW0]; simp
  rw [hs0]
  clear hW0 hs0
  go_loopw [8, 9] (fun out ii wr => ∃ i : Nat, i ≤ a.accept.length ∧ ii = .int .i64 (i : Int) ∧ wr.ownsRow W0.heap.size 3 1 out (goalsTo g a y i).length ((goalsTo g a y i).flatMap cN) ∧ Below W0.heap.size W0 wr) (fun _ ii _ => a.accept.length - (intOf ii).toNat)
  case atStart => exact ⟨0, Nat.zero_le _, rfl, World.ownsRow_lit W0 #[] 0 (Nat.le_refl _) (by decide) rfl, (Below.refl _ _).alloc (Nat.le_refl _) _⟩
  case round =>
    obtain ⟨i, hi, rfl, hrow, hbel⟩ := hrel
    have HROW := Lib.hid hrow
    have hgl := goalsTo_len g a y i
    clear hrow
    by_cases hlt : i < a.accept.length
    · have x0 := kcell hbel x0
      have y0 := kcell hbel y0
      have y1 := kcell hbel y1
      have y2 := kcell hbel y2
      have d1 := kcell hbel d1
      have hsz := hbel.size
      have hsz0 := hb0.size
      have k0 : w.heap.size < wr.heap.size := by omega
      have k1 : w.heap.size + 1 < wr.heap.size := by omega
      have k2 : b1 < wr.heap.size := by omega
      have hbw := below_trans hb0 hbel
      have s1 := shl_bit (s := i) (by omega)
      have s2 := shl_bit2 (s := i) (by omega)
      have s3 := shl_bit3 (s := i) (by omega)
      have q2 : IntKind.i64.wrap ((yn : Int) + (i : Int)) = (yn : Int) + (i : Int) := IntWalk.i64_in _ (by omega)
      have hyy : (y : Int) < (g.vals.length : Int) := by omega
      cases hb : accC a vx i with
      | true =>
        have hacc : ∀ W, Below w.heap.size w W → Calls Try.prog 118 #[.agg #[.int .i64 a.start, .slice A3 a.accept.length c3, .slice A4 a.accept.length c4], .int .i64 (bit i : Int), .int .i64 (vx : Int)] W fun e w' => e = .returned (.bool true) ∧ Below W.heap.size W w' := fun W hW => by
          have h := acceptsAt_any _ a (bit i) vx W (HAV.out.keep hW) HAO.out (bit_lt hlt) (by omega)
          rwa [acc_one _ _ (show i < 12 by omega), hb] at h
        have HACC := Lib.hid hacc
        have hgt := goalsTo_yes (g := g) (a := a) (y := y) (i := i) (by rw [HVA.out]; exact hb)
        rw [← HYN.out] at hgt
        have HGT := Lib.hid hgt
        clear hacc hb hgt
        go_wp2_with fail
        refine wp_region_ext_lit (by kernel_rfl) (by kernel_rfl) ?_
        repeat (go_big_quiet_step ((go_at_call 118; exact Calls.ext_of (HACC.out _ (below_trans hbw (ext_below _ _))))))
        refine wpQuiet_nil ?_
        intro _ hw'
        obtain ⟨u2, hw''⟩ := hw'
        subst hw''
        have hbx := ext_below wr u2
        have HROX := Lib.hid (ownsRow_below HROW.out hbx (Nat.le_refl _))
        have hszx := hbx.size
        go_wp2_with (at_builtin; (refine wpList_append1 cN elInt rfl _ _ rfl W0.heap.size _ (goalsTo g a y i) (yn + i) _ 1 _ (by rfl) HROX.out (by rfl) rfl rfl rfl (cN_one _) (by omega) (by omega) (by omega) ?_); rw [← HGT.out]; intro v' w4 hrow' hb4 _ _)
        go_roundw
        case rel => exact ⟨i + 1, by omega, by go_num, hrow', (hbel.trans (hbx.mono hsz)).trans hb4⟩
        case measure => simp [intOf]; omega
      | false =>
        have hacc : ∀ W, Below w.heap.size w W → Calls Try.prog 118 #[.agg #[.int .i64 a.start, .slice A3 a.accept.length c3, .slice A4 a.accept.length c4], .int .i64 (bit i : Int), .int .i64 (vx : Int)] W fun e w' => e = .returned (.bool false) ∧ Below W.heap.size W w' := fun W hW => by
          have h := acceptsAt_any _ a (bit i) vx W (HAV.out.keep hW) HAO.out (bit_lt hlt) (by omega)
          rwa [acc_one _ _ (show i < 12 by omega), hb] at h
        have HACC := Lib.hid hacc
        have hgt := goalsTo_no (g := g) (a := a) (y := y) (i := i) (by rw [HVA.out]; exact hb)
        have HGT := Lib.hid hgt
        clear hacc hb hgt
        go_wp2_with fail
        refine wp_region_ext_lit (by kernel_rfl) (by kernel_rfl) ?_
        repeat (go_big_quiet_step ((go_at_call 118; exact Calls.ext_of (HACC.out _ (below_trans hbw (ext_below _ _))))))
        refine wpQuiet_nil ?_
        intro _ hw'
        obtain ⟨u2, hw''⟩ := hw'
        subst hw''
        have hbx := ext_below wr u2
        have HROX := Lib.hid (ownsRow_below HROW.out hbx (Nat.le_refl _))
        go_wp2_with fail
        go_roundw
        case rel => exact ⟨i + 1, by omega, by go_num, by rw [HGT.out]; exact HROX.out, hbel.trans (hbx.mono hsz)⟩
        case measure => simp [intOf]; omega
    · obtain rfl : i = a.accept.length := by omega
      have hown := Own.of_row (xs := goalsTo g a y a.accept.length) (ownsRow_mono HROW.out hb0.size) rfl rfl
      have HO := Lib.hid hown
      clear hown
      go_wp2_with fail
      go_ret
      exact ⟨_, rfl, HO.out, below_trans hb0 hbel⟩
end Go.Proofs.Ytgdgelkeflihpaa

/- The program's DistancesTo and ShortestLength. -/
namespace Go.Proofs.Ytgdgelkeflihpaa
set_option linter.unusedVariables false
set_option linter.unusedSimpArgs false
open Go.ChangeShapes Go.WideShapes Go.ChangeAt Go.RowKit
attribute [local go_sem] ext_cell ext_frozen ext_lt ext_lt1 ext_lt2 ext_lt3 ltn2 ltn3 ltn13 lts1 lts2 lts3

/-- a literal of ints, laid in a block of its own -/
theorem lit_sl (w : World) (e : TypeId) (xs : List Int) (hm : xs.length ≤ maxLen) : SlE (w.alloc (.cells (xs.map (Value.int .i64)).toArray e)) cI 1 (.slice (some ⟨w.heap.size, 0, none⟩) xs.length xs.length) xs := by
  have h1 : xs.flatMap cI = (xs.map (Value.int .i64)) := by
    induction xs with
    | nil => rfl
    | cons x xs ih => rw [List.flatMap_cons, List.map_cons, ih (by simp at hm; omega)]; rfl
  have h := Own.of_row (xs := xs) (E := cI) (World.ownsRow_lit (base := 0) (e := e) (size := 1) w (xs.map (Value.int .i64)).toArray xs.length (Nat.zero_le _) hm (by simp)) rfl (by simp [h1])
  exact (h.sl cI_len).all (Nat.le_refl _)
set_option maxHeartbeats 4000000 in
set_option maxRecDepth 100000 in
theorem implDistancesTo (vg va : Value) (g : Gr) (a : Au) (y : Int) (w : World) (hgv : GrV 0 w.heap.size w vg g) (hav : AuV 0 w.heap.size w va a) :
    Calls Try.prog 120 #[vg, va, .int .i64 y] w fun e w' => ∃ v', e = .returned v' ∧ Own w.heap.size w'.heap.size w' 3 cI 1 v' (distTo g a y) ∧ Below w.heap.size w w' := by
  have hgv0 := hgv
  have hav0 := hav
  obtain ⟨A1, n1, c1, A2, n2, c2, rfl⟩ := hgv.shape
  obtain ⟨A3, n3, c3, A4, n4, c4, rfl⟩ := hav.shape
  have hb0 : Below w.heap.size w ((w.alloc (.cells #[.slice A1 n1 c1, .slice A2 n2 c2] 45)).alloc (.cells #[.int .i64 a.start, .slice A3 n3 c3, .slice A4 n4 c4] 29)) := ((Below.refl _ _).alloc (Nat.le_refl _) _).alloc (by simp) _
  have hb1 := hb0.alloc hb0.size (.cells #[.int .i64 y] 3)
  have hst : SlE (((w.alloc (.cells #[.slice A1 n1 c1, .slice A2 n2 c2] 45)).alloc (.cells #[.int .i64 a.start, .slice A3 n3 c3, .slice A4 n4 c4] 29)).alloc (.cells #[.int .i64 y] 3)) cI 1 (.slice (some ⟨w.heap.size + 1 + 1, 0, none⟩) 1 1) [y] := by
    have h := lit_sl ((w.alloc (.cells #[.slice A1 n1 c1, .slice A2 n2 c2] 45)).alloc (.cells #[.int .i64 a.start, .slice A3 n3 c3, .slice A4 n4 c4] 29)) 3 [y] (by unfold maxLen; simp)
    simpa using h
  have hbo := bothOk_any _ _ _ g a [y] _ (hgv0.keep hb1) (hav0.keep hb1) hst
  have HBO := Lib.hid hbo
  have HGV := Lib.hid hgv0
  have HAV := Lib.hid hav0
  clear hgv hav hgv0 hav0 hbo hst
  cases hk : ([y].all (fun s => wi s 0 ((g.vals.length : Int) - 1)) && (grOk g && auOk a)) with
  | false =>
    rw [hk] at HBO
    have hfin : distTo g a y = [] := by unfold distTo; rw [if_neg]; simpa using hk
    have HF := Lib.hid hfin
    clear hk hfin
    go_enter Try.func120, Try.ntmps120
    go_wp2_with fail
    refine HBO.out.mono ?_
    rintro e w1 ⟨rfl, hb2⟩
    go_wp2_with fail
    go_ret
    exact ⟨_, rfl, by rw [HF.out]; exact Own.nil _ _ _ _ _ _, below_trans hb1 hb2⟩
  | true =>
    rw [hk] at HBO
    simp only [List.all_cons, List.all_nil, Bool.and_true, Bool.and_eq_true, wi_iff] at hk
    obtain ⟨⟨hy0, hy1⟩, hgo, hao⟩ := hk
    have hgo2 := grOk_iff.1 hgo
    have hfin : distTo g a y = spreadR (g.vals.length * a.accept.length) (turnL (g.vals.length * a.accept.length) (nextI g a)) (goalsL g a y.toNat) := by
      unfold distTo; rw [if_pos]; simp [wi_iff, hy0, hy1, hgo, hao]
    obtain ⟨y, rfl⟩ := Int.eq_ofNat_of_zero_le hy0
    rw [Int.toNat_natCast] at hfin
    have hyn : y < g.vals.length := by omega
    obtain ⟨N, hN⟩ : ∃ N, N = g.vals.length * a.accept.length := ⟨_, rfl⟩
    rw [← hN] at hfin
    have hn5 := hgo2.n5
    have hn1 := hgo2.n1
    have hm12 := (auOk_iff.1 hao).1.2
    have hm1 := (auOk_iff.1 hao).1.1
    have hN60 : N ≤ 60 := by rw [hN]; have := Nat.mul_le_mul hn5 hm12; omega
    have hN1 : 1 ≤ N := by rw [hN]; exact Nat.mul_pos hn1 hm1
    have hnl : ∀ i, i < N → (nextI g a i).length ≤ 288 ∧ ∀ k ∈ nextI g a i, k < N := fun i _ => ⟨nextV_len hgo2 _ _, fun k hk => by rw [hN]; exact nextV_lt hgo2 hao hk⟩
    have htl : ∀ i, i < N → ∀ k ∈ turnL N (nextI g a) i, k < N := fun i _ k hk => (mem_turnL.1 hk).1
    have hgl : ∀ i ∈ goalsL g a y, i < N := fun i hi => by
      obtain ⟨s, hs, _, rfl⟩ := mem_goalsL.1 hi
      rw [hN]; exact vert_lt hyn hs
    have hgll : (goalsL g a y).length ≤ 60 := Nat.le_trans (goalsTo_len g a y _) (by omega)
    have HN := Lib.hid hN
    have HNL := Lib.hid hnl
    have HTL := Lib.hid htl
    have HGL := Lib.hid hgl
    have HGO := Lib.hid hgo2
    have HAO := Lib.hid hao
    have HF := Lib.hid hfin
    clear hN hnl htl hgl hgo hgo2 hao hfin hy0 hy1
    go_enter Try.func120, Try.ntmps120
    go_wp2_with fail
    refine HBO.out.mono ?_
    rintro e w1 ⟨rfl, hb2⟩
    have hb3 := below_trans hb1 hb2
    have b0 := (((Blk.new w 45 #[.slice A1 n1 c1, .slice A2 n2 c2] w.heap.size rfl).alloc (.cells #[.int .i64 a.start, .slice A3 n3 c3, .slice A4 n4 c4] 29)).alloc (.cells #[.int .i64 (y : Int)] 3)).keep hb2
    have b1 := ((Blk.new (w.alloc (.cells #[.slice A1 n1 c1, .slice A2 n2 c2] 45)) 29 #[.int .i64 a.start, .slice A3 n3 c3, .slice A4 n4 c4] (w.heap.size + 1) (by simp)).alloc (.cells #[.int .i64 (y : Int)] 3)).keep hb2
    have x0 : w1.cell? ⟨w.heap.size, 0, none⟩ = some (.slice A1 n1 c1) := b0.cell 0
    have x1 : w1.cell? ⟨w.heap.size, 1, none⟩ = some (.slice A2 n2 c2) := b0.cell 1
    have y0 : w1.cell? ⟨w.heap.size + 1, 0, none⟩ = some (.int .i64 a.start) := b1.cell 0
    have y1 : w1.cell? ⟨w.heap.size + 1, 1, none⟩ = some (.slice A3 n3 c3) := b1.cell 1
    have y2 : w1.cell? ⟨w.heap.size + 1, 2, none⟩ = some (.slice A4 n4 c4) := b1.cell 2
    clear hb0 hb1 hb2 b0 b1 HBO
    go_wp2_with fail
    go_region_held3 (fun w' => w'.cell? ⟨w.heap.size, 0, none⟩ = some (.slice A1 n1 c1) ∧ w'.cell? ⟨w.heap.size, 1, none⟩ = some (.slice A2 n2 c2) ∧ w'.cell? ⟨w.heap.size + 1, 0, none⟩ = some (.int .i64 a.start) ∧ w'.cell? ⟨w.heap.size + 1, 1, none⟩ = some (.slice A3 n3 c3) ∧ w'.cell? ⟨w.heap.size + 1, 2, none⟩ = some (.slice A4 n4 c4))
      (first | (exact ⟨x0, x1, y0, y1, y2⟩) | assumption | (exact kB5 hbA (by assumption)) | (exact kB5 hbB (by assumption)) | (exact kB5 hbC (by assumption)) | (exact kB5 hbD (by assumption)))
      (first | (go_at_call 154; refine (nextVertices_any _ _ g a _ (GrV.keep (w' := w1.drew) HGV.out hb3.drew) (AuV.keep (w' := w1.drew) HAV.out hb3.drew) HGO.out HAO.out).mono ?_; rintro e wA ⟨vA, rfl, hsA, hbA⟩; rw [← HN.out] at hsA) | (go_at_call 153; refine (turned_any vA N (nextI g a) _ (hsA.mono (Nat.zero_le _) (Nat.le_refl _)) hN60 HNL.out).mono ?_; rintro e wB ⟨vB, rfl, hsB, hbB⟩) | (go_at_call 155; refine (goals_any _ _ g a y _ (HGV.out.keep (below_trans (below_trans hb3.drew hbA) hbB)) (HAV.out.keep (below_trans (below_trans hb3.drew hbA) hbB)) HGO.out HAO.out hyn).mono ?_; rintro e wC ⟨vC, rfl, hoC, hbC⟩) | (go_at_call 152; refine (spread_any vB vC N (turnL N (nextI g a)) (goalsL g a y) _ ((hsB.mono (Nat.zero_le _) (Nat.le_refl _)).keep hbC) ((hoC.sl cN_len).all (Nat.le_refl _)) hN1 hN60 hgll HGL.out HTL.out).mono ?_; rintro e wD ⟨vD, rfl, hoD, hbD⟩))
    go_wp2_with fail
    go_ret
    have hbc := below_trans (below_trans (below_trans hb3.drew hbA) hbB) hbC
    exact ⟨_, rfl, by rw [HF.out]; exact hoD.mono hbc.size (Nat.le_refl _), below_trans hbc hbD⟩
end Go.Proofs.Ytgdgelkeflihpaa

/- The program's ShortestLength. -/
namespace Go.Proofs.Ytgdgelkeflihpaa
set_option linter.unusedVariables false
set_option linter.unusedSimpArgs false
open Go.ChangeShapes Go.WideShapes Go.ChangeAt Go.RowKit
attribute [local go_sem] ext_cell ext_frozen ext_lt ext_lt1 ext_lt2 ext_lt3 ltn2 ltn3 ltn13 lts1 lts2 lts3

set_option maxHeartbeats 4000000 in
set_option maxRecDepth 100000 in
theorem implShortestLength (vg va : Value) (g : Gr) (a : Au) (x y : Int) (w : World) (hgv : GrV 0 w.heap.size w vg g) (hav : AuV 0 w.heap.size w va a) :
    Calls Try.prog 83 #[vg, va, .int .i64 x, .int .i64 y] w fun e w' => e = .returned (.int .i64 (shortLen g a x y)) ∧ Below w.heap.size w w' := by
  have hgv0 := hgv
  have hav0 := hav
  obtain ⟨A1, n1, c1, A2, n2, c2, rfl⟩ := hgv.shape
  obtain ⟨ac, nx, rfl, hac, hnx⟩ := hav
  obtain ⟨A3, c3, rfl, -, -, -⟩ := SlE.form hac
  obtain ⟨A4, n4, c4, rfl⟩ := hnx.shape
  have hb0 : Below w.heap.size w ((w.alloc (.cells #[.slice A1 n1 c1, .slice A2 n2 c2] 45)).alloc (.cells #[.int .i64 a.start, .slice A3 a.accept.length c3, .slice A4 n4 c4] 29)) := ((Below.refl _ _).alloc (Nat.le_refl _) _).alloc (by simp) _
  have hb1 := hb0.alloc hb0.size (.cells #[.int .i64 x, .int .i64 y] 3)
  have hst : SlE (((w.alloc (.cells #[.slice A1 n1 c1, .slice A2 n2 c2] 45)).alloc (.cells #[.int .i64 a.start, .slice A3 a.accept.length c3, .slice A4 n4 c4] 29)).alloc (.cells #[.int .i64 x, .int .i64 y] 3)) cI 1 (.slice (some ⟨w.heap.size + 1 + 1, 0, none⟩) 2 2) [x, y] := by
    have h := lit_sl ((w.alloc (.cells #[.slice A1 n1 c1, .slice A2 n2 c2] 45)).alloc (.cells #[.int .i64 a.start, .slice A3 a.accept.length c3, .slice A4 n4 c4] 29)) 3 [x, y] (by unfold maxLen; simp)
    simpa using h
  have hbo := bothOk_any _ _ _ g a [x, y] _ (hgv0.keep hb1) (hav0.keep hb1) hst
  have HBO := Lib.hid hbo
  have HGV := Lib.hid hgv0
  have HAV := Lib.hid hav0
  clear hgv hac hnx hgv0 hav0 hbo hst
  cases hk : ([x, y].all (fun s => wi s 0 ((g.vals.length : Int) - 1)) && (grOk g && auOk a)) with
  | false =>
    rw [hk] at HBO
    have hfin : shortLen g a x y = -1 := by unfold shortLen; rw [if_neg]; simpa [Bool.and_assoc] using hk
    have HF := Lib.hid hfin
    clear hk hfin
    go_enter Try.func83, Try.ntmps83
    go_wp2_with fail
    refine HBO.out.mono ?_
    rintro e w1 ⟨rfl, hb2⟩
    go_wp2_with fail
    go_ret
    exact ⟨by rw [HF.out]; rfl, below_trans hb1 hb2⟩
  | true =>
    rw [hk] at HBO
    simp only [List.all_cons, List.all_nil, Bool.and_true, Bool.and_eq_true, wi_iff] at hk
    obtain ⟨⟨⟨hx0, hx1⟩, hy0, hy1⟩, hgo, hao⟩ := hk
    have hdl := distTo_len (g := g) (a := a) (y := y) (by simp [wi_iff, hy0, hy1, hgo, hao])
    obtain ⟨x, rfl⟩ := Int.eq_ofNat_of_zero_le hx0
    have hst0 := (auOk_iff.1 hao).2.1
    have hm12 := (auOk_iff.1 hao).1.2
    have hn5 := (grOk_iff.1 hgo).n5
    obtain ⟨xn, hxn⟩ : ∃ xn, xn = x * a.accept.length := ⟨_, rfl⟩
    have hxn2 : xn + a.accept.length ≤ g.vals.length * a.accept.length := by rw [hxn]; have := Nat.mul_le_mul_right a.accept.length (show x + 1 ≤ g.vals.length by omega); rw [Nat.succ_mul] at this; exact this
    have hN60 : g.vals.length * a.accept.length ≤ 60 := by have := Nat.mul_le_mul hn5 hm12; omega
    rw [← hdl] at hxn2 hN60
    obtain ⟨ix, hix⟩ : ∃ ix : Nat, (ix : Int) = (xn : Int) + a.start := ⟨(xn + a.start.toNat), by omega⟩
    have hixl : ix < (distTo g a y).length := by omega
    have hfin : shortLen g a x y = (distTo g a y).getD ix 0 := by
      unfold shortLen
      rw [if_pos (by simp [wi_iff, hx0, hx1, hy0, hy1, hgo, hao]), Int.toNat_natCast, ← hxn]
      congr 1
      omega
    have hget := getD_of hixl
    have q1 : IntKind.i64.wrap ((x : Int) * (a.accept.length : Int)) = (xn : Int) := by rw [IntWalk.i64_in _ (by rw [← Int.natCast_mul, ← hxn]; omega), hxn, Int.natCast_mul]
    have q1' : (x : Int) * (a.accept.length : Int) = (xn : Int) := by rw [hxn, Int.natCast_mul]
    have q2 : IntKind.i64.wrap ((xn : Int) + a.start) = (ix : Int) := by rw [← hix]; exact IntWalk.i64_in _ (by omega)
    have q2' : (xn : Int) + a.start = (ix : Int) := hix.symm
    have q5 : IntKind.i64.wrap (xn : Int) = (xn : Int) := IntWalk.i64_in _ (by omega)
    have q6 : IntKind.i64.wrap (ix : Int) = (ix : Int) := IntWalk.i64_in _ (by omega)
    have hixi : (ix : Int) < ((distTo g a y).length : Int) := by omega
    have hix0 : (0 : Int) ≤ (ix : Int) := by omega
    have HF := Lib.hid hfin
    have HGET := Lib.hid hget
    have Q1 := Lib.hid q1
    have Q1' := Lib.hid q1'
    have Q2 := Lib.hid q2
    have Q2' := Lib.hid q2'
    have Q5 := Lib.hid q5
    have Q6 := Lib.hid q6
    clear hget hfin hxn hix hgo hao hdl hx0 hx1 hy0 hy1 hst0 q1 q1' q2 q2' q5 q6
    go_enter Try.func83, Try.ntmps83
    go_wp2_with fail
    refine HBO.out.mono ?_
    rintro e w1 ⟨rfl, hb2⟩
    have hb3 := below_trans hb1 hb2
    have b0 := (((Blk.new w 45 #[.slice A1 n1 c1, .slice A2 n2 c2] w.heap.size rfl).alloc (.cells #[.int .i64 a.start, .slice A3 a.accept.length c3, .slice A4 n4 c4] 29)).alloc (.cells #[.int .i64 (x : Int), .int .i64 y] 3)).keep hb2
    have b1 := ((Blk.new (w.alloc (.cells #[.slice A1 n1 c1, .slice A2 n2 c2] 45)) 29 #[.int .i64 a.start, .slice A3 a.accept.length c3, .slice A4 n4 c4] (w.heap.size + 1) (by simp)).alloc (.cells #[.int .i64 (x : Int), .int .i64 y] 3)).keep hb2
    have x0 : w1.cell? ⟨w.heap.size, 0, none⟩ = some (.slice A1 n1 c1) := b0.cell 0
    have x1 : w1.cell? ⟨w.heap.size, 1, none⟩ = some (.slice A2 n2 c2) := b0.cell 1
    have y0 : w1.cell? ⟨w.heap.size + 1, 0, none⟩ = some (.int .i64 a.start) := b1.cell 0
    have y1 : w1.cell? ⟨w.heap.size + 1, 1, none⟩ = some (.slice A3 a.accept.length c3) := b1.cell 1
    have y2 : w1.cell? ⟨w.heap.size + 1, 2, none⟩ = some (.slice A4 n4 c4) := b1.cell 2
    clear hb0 hb1 hb2 b0 b1 HBO
    go_wp2_with fail
    have q1 := Q1.out
    have q1' := Q1'.out
    have q2 := Q2.out
    have q2' := Q2'.out
    have q5 := Q5.out
    have q6 := Q6.out
    refine F_start 14 (fun w' => w'.cell? ⟨w.heap.size, 0, none⟩ = some (.slice A1 n1 c1) ∧ w'.cell? ⟨w.heap.size, 1, none⟩ = some (.slice A2 n2 c2) ∧ w'.cell? ⟨w.heap.size + 1, 0, none⟩ = some (.int .i64 a.start) ∧ w'.cell? ⟨w.heap.size + 1, 1, none⟩ = some (.slice A3 a.accept.length c3) ∧ w'.cell? ⟨w.heap.size + 1, 2, none⟩ = some (.slice A4 n4 c4)) (by kernel_rfl) (by exact ⟨x0, x1, y0, y1, y2⟩) (fun hS inv => ?_)
    refine F_take (i := 0) (v := ?_) rfl (by kernel_rfl) (by kernel_rfl) (by kernel_rfl) (fun _ _ _ h => h) inv (Or.inl ⟨by rfl, ?_⟩) (by assumption) (fun invn => ?_)
    rotate_left
    · (intro w hSw; (try dsimp only at hSw); go_simp; try with_reducible rfl)
    try simp only [List.getElem_toArray, List.getElem_cons_zero, List.getElem_cons_succ, Act.put, List.setIfInBounds_toArray, List.set_cons_zero, List.set_cons_succ]
    clear inv
    have inv := invn
    clear invn
    refine F_take (i := 1) (v := ?_) rfl (by kernel_rfl) (by kernel_rfl) (by kernel_rfl) (fun _ _ _ h => h) inv (Or.inl ⟨by rfl, ?_⟩) (by assumption) (fun invn => ?_)
    rotate_left
    · (intro w hSw; (try dsimp only at hSw); go_simp; try with_reducible rfl)
    try simp only [List.getElem_toArray, List.getElem_cons_zero, List.getElem_cons_succ, Act.put, List.setIfInBounds_toArray, List.set_cons_zero, List.set_cons_succ]
    clear inv
    have inv := invn
    clear invn
    refine F_take (i := 2) (v := ?_) rfl (by kernel_rfl) (by kernel_rfl) (by kernel_rfl) (fun _ _ _ h => h) inv (Or.inl ⟨by rfl, ?_⟩) (by assumption) (fun invn => ?_)
    rotate_left
    · (intro w hSw; (try dsimp only at hSw); go_simp; try with_reducible rfl)
    try simp only [List.getElem_toArray, List.getElem_cons_zero, List.getElem_cons_succ, Act.put, List.setIfInBounds_toArray, List.set_cons_zero, List.set_cons_succ]
    clear inv
    have inv := invn
    clear invn
    refine F_take (i := 4) (v := ?_) rfl (by kernel_rfl) (by kernel_rfl) (by kernel_rfl) (fun _ _ _ h => h) inv (Or.inl ⟨by rfl, ?_⟩) (by assumption) (fun invn => ?_)
    rotate_left
    · (intro w hSw; (try dsimp only at hSw); go_simp; try with_reducible rfl)
    try simp only [List.getElem_toArray, List.getElem_cons_zero, List.getElem_cons_succ, Act.put, List.setIfInBounds_toArray, List.set_cons_zero, List.set_cons_succ]
    clear inv
    have inv := invn
    clear invn
    refine F_take (i := 5) (v := ?_) rfl (by kernel_rfl) (by kernel_rfl) (by kernel_rfl) (fun _ _ _ h => h) inv (Or.inl ⟨by rfl, ?_⟩) (by assumption) (fun invn => ?_)
    rotate_left
    · (intro w hSw; (try dsimp only at hSw); go_simp; try with_reducible rfl)
    try simp only [List.getElem_toArray, List.getElem_cons_zero, List.getElem_cons_succ, Act.put, List.setIfInBounds_toArray, List.set_cons_zero, List.set_cons_succ]
    clear inv
    have inv := invn
    clear invn
    refine F_take (i := 6) (v := ?_) rfl (by kernel_rfl) (by kernel_rfl) (by kernel_rfl) (fun _ _ _ h => h) inv (Or.inl ⟨by rfl, ?_⟩) (by assumption) (fun invn => ?_)
    rotate_left
    · (intro w hSw; (try dsimp only at hSw); go_simp; try with_reducible rfl)
    try simp only [List.getElem_toArray, List.getElem_cons_zero, List.getElem_cons_succ, Act.put, List.setIfInBounds_toArray, List.set_cons_zero, List.set_cons_succ]
    clear inv
    have inv := invn
    clear invn
    refine F_take (i := 7) (v := ?_) rfl (by kernel_rfl) (by kernel_rfl) (by kernel_rfl) (fun _ _ _ h => h) inv (Or.inl ⟨by rfl, ?_⟩) (by assumption) (fun invn => ?_)
    rotate_left
    · (intro w hSw; (try dsimp only at hSw); go_simp; try with_reducible rfl)
    try simp only [List.getElem_toArray, List.getElem_cons_zero, List.getElem_cons_succ, Act.put, List.setIfInBounds_toArray, List.set_cons_zero, List.set_cons_succ]
    clear inv
    have inv := invn
    clear invn
    refine F_take (i := 8) (v := ?_) rfl (by kernel_rfl) (by kernel_rfl) (by kernel_rfl) (fun _ _ _ h => h) inv (Or.inl ⟨by rfl, ?_⟩) (by assumption) (fun invn => ?_)
    rotate_left
    · (intro w hSw; (try dsimp only at hSw); go_simp; try with_reducible rfl)
    try simp only [List.getElem_toArray, List.getElem_cons_zero, List.getElem_cons_succ, Act.put, List.setIfInBounds_toArray, List.set_cons_zero, List.set_cons_succ]
    clear inv
    have inv := invn
    clear invn
    refine F_take (i := 9) (v := ?_) rfl (by kernel_rfl) (by kernel_rfl) (by kernel_rfl) (fun _ _ _ h => h) inv (Or.inl ⟨by rfl, ?_⟩) (by assumption) (fun invn => ?_)
    rotate_left
    · (intro w hSw; (try dsimp only at hSw); go_simp; try with_reducible rfl)
    try simp only [List.getElem_toArray, List.getElem_cons_zero, List.getElem_cons_succ, Act.put, List.setIfInBounds_toArray, List.set_cons_zero, List.set_cons_succ]
    clear inv
    have inv := invn
    clear invn
    refine F_take (i := 10) (v := ?_) rfl (by kernel_rfl) (by kernel_rfl) (by kernel_rfl) (fun _ _ _ h => h) inv (Or.inl ⟨by rfl, ?_⟩) (by assumption) (fun invn => ?_)
    rotate_left
    · (intro w hSw; (try dsimp only at hSw); go_simp; try with_reducible rfl)
    try simp only [List.getElem_toArray, List.getElem_cons_zero, List.getElem_cons_succ, Act.put, List.setIfInBounds_toArray, List.set_cons_zero, List.set_cons_succ]
    clear inv
    have inv := invn
    clear invn
    refine F_take (i := 11) (v := ?_) rfl (by kernel_rfl) (by kernel_rfl) (by kernel_rfl) (fun _ _ _ h => h) inv (Or.inl ⟨by rfl, ?_⟩) (by assumption) (fun invn => ?_)
    rotate_left
    · (intro w hSw; (try dsimp only at hSw); go_simp; try with_reducible rfl)
    try simp only [List.getElem_toArray, List.getElem_cons_zero, List.getElem_cons_succ, Act.put, List.setIfInBounds_toArray, List.set_cons_zero, List.set_cons_succ]
    clear inv
    have inv := invn
    clear invn
    refine F_one (i := 3) (by kernel_rfl) rfl rfl (by omega) inv (fun K hK => ?_)
    try simp only [List.getElem_toArray, List.getElem_cons_zero, List.getElem_cons_succ]
    go_simp
    refine (implDistancesTo _ _ g a y _ (GrV.keep (w' := w1.drew) HGV.out hb3.drew) (AuV.keep (w' := w1.drew) HAV.out hb3.drew)).mono ?_
    rintro e wD ⟨vD, rfl, hoD, hbD⟩
    obtain ⟨A5, c5, rfl, hl5, hm5, hC5⟩ := hoD.form cI_len
    obtain ⟨b5, o5, rfl, hb5, d5⟩ := hC5.int HGET.out
    refine hK.out _ _ (kB5 hbD hS) (fun hSn invn => ?_)
    try simp only [List.getElem_toArray, List.getElem_cons_zero, List.getElem_cons_succ, Act.put, List.setIfInBounds_toArray, List.set_cons_zero, List.set_cons_succ]
    clear hK K inv hS
    have inv := invn
    have hS := hSn
    clear invn hSn
    refine F_take (i := 12) (v := ?_) rfl (by kernel_rfl) (by kernel_rfl) (by kernel_rfl) (fun _ _ _ h => h) inv (Or.inl ⟨by rfl, ?_⟩) (by assumption) (fun invn => ?_)
    rotate_left
    · (intro w hSw; (try dsimp only at hSw); go_simp; try with_reducible rfl)
    try simp only [List.getElem_toArray, List.getElem_cons_zero, List.getElem_cons_succ, Act.put, List.setIfInBounds_toArray, List.set_cons_zero, List.set_cons_succ]
    clear inv
    have inv := invn
    clear invn
    refine F_one (i := 13) (by kernel_rfl) rfl rfl (by omega) inv (fun K hK => ?_)
    try simp only [List.getElem_toArray, List.getElem_cons_zero, List.getElem_cons_succ]
    go_simp
    refine hK.out _ _ (hS) (fun hSn invn => ?_)
    try simp only [List.getElem_toArray, List.getElem_cons_zero, List.getElem_cons_succ, Act.put, List.setIfInBounds_toArray, List.set_cons_zero, List.set_cons_succ]
    clear hK K inv hS
    have inv := invn
    have hS := hSn
    clear invn hSn
    refine F_last (i := 14) (by kernel_rfl) rfl rfl (by omega) (by kernel_rfl) (fun K hK => ?_)
    go_simp
    refine hK _ _ ?_
    clear hK K inv hS
    clear q1 q1' q2 q2' q5 q6
    go_wp2_with fail
    go_ret
    exact ⟨by rw [HF.out]; simp [List.getElem?_eq_getElem hixl], below_trans hb3.drew hbD⟩
end Go.Proofs.Ytgdgelkeflihpaa

/- The program's counter: what it holds, the place behind a step, and the count with its memory. -/
namespace Go.Proofs.Ytgdgelkeflihpaa
set_option linter.unusedVariables false
set_option linter.unusedSimpArgs false
open Go.ChangeShapes Go.WideShapes Go.ChangeAt Go.RowKit Go.Maps
attribute [local go_sem] ext_cell ext_frozen ext_lt ext_lt1 ext_lt2 ext_lt3 ltn2 ltn3 ltn13 lts1 lts2 lts3

theorem ownsMap_at {H : Type} {P : Program} {k : TypeId} {R : Value → Option (DataW H × List MemPlace)} {w w' : World} {b n : Nat} {D : DataW H} (h : w.ownsMap P k R b n D) (hb : w'.heap[b]? = w.heap[b]?) : w'.ownsMap P k R b n D := by
  obtain ⟨es, clock, h1, h2⟩ := h
  exact ⟨es, clock, hb.trans h1, h2⟩
/-- 'm[k] = v', at the operation -/
theorem op_mapUpdate_own {H : Type} {P : Program} (w : World) {o : Oper} {a : Act} {K : Act → World → Prop} {Q : Exit → Act → World → Prop}
    (m x v : Operand) (t : TypeId) (hop : o.op = Op.mapUpdate t m x v)
    (k e : TypeId) (KK : Keyed P k) (ht : P.underlying t = some (.map k e)) (R : Value → Option (DataW H × List MemPlace)) (b n : Nat) (D : DataW H)
    (hm : a.eval m = .map (some b)) (hown : w.ownsMap P k R b n D) (hn : n < maxLen) (key val : Value) (kl : Lit) (hx : a.eval x = key) (hv : a.eval v = val) (hkey : keyOf P k key = some kl)
    (d : DataW H) (ps : List MemPlace) (hval : R val = some (d, ps))
    (hK : ∀ w', w'.ownsMap P k R b (n + 1) (D.put kl d) → w.grownBy w' (some b) → K (a.put o.dst undef) w') : Oper.wp P o a w K Q := by
  obtain ⟨w', hrun, r1, r2⟩ := hown.update KK ht hn hkey hval
  unfold Oper.wp
  simp [execOp, hop, hm, hx, hv, hrun, Result.andThen]
  exact hK w' r1 r2
/-- the counter in block bC; its memory is the map in block bM -/
def Ctr (g : Gr) (a : Au) (y : Int) (w : World) (bC bM : Nat) : Prop :=
  ∃ (B lo hi : Nat) (A1 A2 A3 A4 A5 : Option Addr) (c1 c2 c3 c4 c5 : Nat),
    Blk w bC 119 #[.slice A1 g.vals.length c1, .slice A2 g.edges.length c2, .int .i64 a.start, .slice A3 a.accept.length c3, .slice A4 a.accept.length c4, .int .i64 y, .slice A5 g.vals.length c5, .map (some bM)] ∧
    GrV 0 B w (.agg #[.slice A1 g.vals.length c1, .slice A2 g.edges.length c2]) g ∧ AuV 0 B w (.agg #[.int .i64 a.start, .slice A3 a.accept.length c3, .slice A4 a.accept.length c4]) a ∧
    SSE lo hi w cA 4 (.slice A5 g.vals.length c5) ((List.range g.vals.length).map fun (x : Nat) => arcsOf g (x : Int)) ∧ B ≤ bM ∧ (hi ≤ bM ∨ bM < lo) ∧ hi ≤ w.heap.size ∧ B ≤ w.heap.size ∧ bC ≠ bM
theorem Ctr.only {g : Gr} {a : Au} {y : Int} {w w' : World} {bC bM : Nat} (h : Ctr g a y w bC bM) (ho : Only bM (bM + 1) w w') : Ctr g a y w' bC bM := by
  obtain ⟨B, lo, hi, A1, A2, A3, A4, A5, c1, c2, c3, c4, c5, h1, h2, h3, h4, h5, h6, h7, h8, h9⟩ := h
  have hs := ho.size
  exact ⟨B, lo, hi, A1, A2, A3, A4, A5, c1, c2, c3, c4, c5, h1.only ho (by omega), h2.only ho h8 (.inl h5), h3.only ho h8 (.inl h5), h4.only ho h7 (by omega), h5, h6, by omega, by omega, h9⟩
theorem Ctr.keep {g : Gr} {a : Au} {y : Int} {w w' : World} {bC bM : Nat} (h : Ctr g a y w bC bM) (hb : Below w.heap.size w w') : Ctr g a y w' bC bM := h.only (Only.of_below hb _ _)
theorem Ctr.lt {g : Gr} {a : Au} {y : Int} {w : World} {bC bM : Nat} (h : Ctr g a y w bC bM) : bC < w.heap.size := by
  obtain ⟨B, lo, hi, A1, A2, A3, A4, A5, c1, c2, c3, c4, c5, h1, -⟩ := h
  exact h1.lt
theorem valOf {g : Gr} (hgo : grOk g = true) {x : Nat} (hx : x < g.vals.length) : ∃ vx : Nat, g.vals[x]? = some (vx : Int) ∧ valAt g x = vx ∧ vx ≤ 2 := by
  have hxi : g.vals[x]? = some g.vals[x] := List.getElem?_eq_getElem hx
  have hvr := (grOk_iff.1 hgo).vals _ (List.getElem_mem hx)
  obtain ⟨vx, hvx⟩ := Int.eq_ofNat_of_zero_le hvr.1
  refine ⟨vx, by rw [hxi, hvx], ?_, by omega⟩
  have := valAt_of hxi
  rw [this, hvx, Int.toNat_natCast]
/-- the memory, and what the counter's calls do to it: places of at most f steps come in -/
def Mem (g : Gr) (a : Au) (y : Int) (w : World) (bM : Nat) (M : List Plc) : Prop := ∃ D : DataW Unit, w.ownsMap Try.prog 102 (plainElem Try.prog 3) bM M.length D ∧ MemD g a y D M
theorem Mem.keep {g : Gr} {a : Au} {y : Int} {w w' : World} {bM : Nat} {M : List Plc} (h : Mem g a y w bM M) (hb : Below w.heap.size w w') : Mem g a y w' bM M := by
  obtain ⟨D, h1, h2⟩ := h
  exact ⟨D, ownsMap_at h1 (hb.block _ h1.lt), h2⟩
def More (f : Nat) (M M' : List Plc) : Prop := ∃ T, M' = M ++ T ∧ ∀ z ∈ T, z.2.2 ≤ f
theorem More.refl (f : Nat) (M : List Plc) : More f M M := ⟨[], by simp, fun z hz => by cases hz⟩
theorem More.trans {f : Nat} {M M' M'' : List Plc} (h : More f M M') (h' : More f M' M'') : More f M M'' := by
  obtain ⟨T, rfl, h1⟩ := h
  obtain ⟨T', rfl, h2⟩ := h'
  exact ⟨T ++ T', by rw [List.append_assoc], fun z hz => by rcases List.mem_append.1 hz with h | h; exact h1 z h; exact h2 z h⟩
theorem More.mono {f f' : Nat} {M M' : List Plc} (h : More f M M') (hf : f ≤ f') : More f' M M' := by
  obtain ⟨T, h1, h2⟩ := h
  exact ⟨T, h1, fun z hz => Nat.le_trans (h2 z hz) hf⟩
set_option maxHeartbeats 2000000 in
set_option maxRecDepth 100000 in
theorem next_any (g : Gr) (a : Au) (y : Int) (hgo : grOk g = true) (ha : auOk a = true) (bC bM x s lf l : Nat) (t : Int) (sid : Int) (sinv : Bool) (w : World) (hc : Ctr g a y w bC bM) (hx : x < g.vals.length) (hs : s < 2 ^ a.accept.length) (hlf : lf ≤ 60) (hl : l < 9) :
    Calls Try.prog 94 #[.pointer (some ⟨bC, 0, none⟩), .agg #[.int .i64 (x : Int), .int .i64 (s : Int), .int .i64 ((lf + 1 : Nat) : Int)], .agg #[.int .i64 sid, .bool sinv, .int .i64 (l : Int), .int .i64 t]] w fun e w' =>
      e = .returned (.agg #[.int .i64 t, .int .i64 (aft a s (valAt g x) l : Nat), .int .i64 (lf : Int)]) ∧ Below w.heap.size w w' := by
  obtain ⟨B, lo, hi, A1, A2, A3, A4, A5, c1, c2, c3, c4, c5, hbk, hgv, hav, hlv, h5, h6, h7, h8, h9⟩ := hc
  obtain ⟨vx, hxi, hva, hvx⟩ := valOf hgo hx
  obtain ⟨vs, es, hag, h1, -⟩ := hgv
  injection hag with hag
  simp at hag
  obtain ⟨rfl, rfl⟩ := hag
  obtain ⟨b1, o1, rfl, -, hb1, dv⟩ := h1.intI hxi
  have hs4 := lt12 ha hs
  rw [hva]
  have z0 : w.cell? ⟨bC, 0, none⟩ = some (.slice (some ⟨b1, o1, none⟩) g.vals.length c1) := hbk.cell 0
  have z2 : w.cell? ⟨bC, 2, none⟩ = some (.int .i64 a.start) := hbk.cell 2
  have z3 : w.cell? ⟨bC, 3, none⟩ = some (.slice A3 a.accept.length c3) := hbk.cell 3
  have z4 : w.cell? ⟨bC, 4, none⟩ = some (.slice A4 a.accept.length c4) := hbk.cell 4
  have lC := hbk.lt
  have hb1w : b1 < w.heap.size := by omega
  have hxx : (x : Int) < (g.vals.length : Int) := by omega
  have HAF := Lib.hid (fun (W : World) (hW : Below w.heap.size w W) => after_any _ a s vx l W ((hav.mono (Nat.le_refl _) h8).keep hW) ha hs hvx hl)
  obtain ⟨M, hM⟩ : ∃ M, M = aft a s vx l := ⟨_, rfl⟩
  rw [← hM] at HAF ⊢
  obtain ⟨L1, hL1⟩ : ∃ L1, L1 = lf + 1 := ⟨_, rfl⟩
  rw [← hL1]
  have hL1a : lf + 1 ≤ L1 := by omega
  have hL1b : L1 ≤ lf + 1 := by omega
  have ql : IntKind.i64.wrap ((L1 : Int) - 1) = (lf : Int) := by rw [IntWalk.i64_in _ (by omega)]; omega
  clear hbk hav hlv h1 hxi hva hM hL1 hgo ha
  have lts : ∀ b, b < w.heap.size → b < w.heap.size + 1 + 1 + 1 := fun b h => by omega
  have lC1 : bC < w.heap.size + 1 := by omega
  have lC2 : bC < w.heap.size + 1 + 1 := by omega
  have lC3 : bC < w.heap.size + 1 + 1 + 1 := by omega
  have lb1 : b1 < w.heap.size + 1 := by omega
  have lb2 : b1 < w.heap.size + 1 + 1 := by omega
  have lb3 : b1 < w.heap.size + 1 + 1 + 1 := by omega
  clear lts
  go_enter Try.func94, Try.ntmps94
  go_wp2_with fail
  refine wp_region_ext_tail 24 (by kernel_rfl) (by kernel_rfl) ?_
  simp only [List.take_succ_cons, List.take_zero]
  repeat (go_big_quiet_step ((go_at_call 127; exact Calls.ext_of (HAF.out _ (by repeat (first | exact Below.refl _ _ | assumption | refine Below.alloc ?_ (by simp <;> omega) _ | refine Below.drew ?_ | refine below_ext ?_ (by simp <;> omega) _ | exact ext_below _ _))))))
  refine wpQuiet_nil ?_
  intro _ hw'
  obtain ⟨u2, hw''⟩ := hw'
  subst hw''
  simp only [List.drop_succ_cons, List.drop_zero]
  go_wp2_with fail
  refine bodyPost_ret (v := .agg #[.int .i64 t, .int .i64 (M : Int), .int .i64 (lf : Int)]) (by simp [results, Try.results94, go_sem]) rfl ⟨rfl, ?_⟩
  repeat (first | exact Below.refl _ _ | refine Below.setCell ?_ (by simp <;> omega) _ | refine Below.alloc ?_ (by simp <;> omega) _ | refine below_ext ?_ (by simp <;> omega) _)
end Go.Proofs.Ytgdgelkeflihpaa

/- The program's count of walks, with its memory. -/
namespace Go.Proofs.Ytgdgelkeflihpaa
set_option linter.unusedVariables false
set_option linter.unusedSimpArgs false
open Go.ChangeShapes Go.WideShapes Go.ChangeAt Go.RowKit Go.Maps
attribute [local go_sem] ext_cell ext_frozen ext_lt ext_lt1 ext_lt2 ext_lt3 ltn2 ltn3 ltn13 lts1 lts2 lts3
theorem cw_zeroS (g : Gr) (a : Au) (y : Int) (x s vx : Nat) (h : valAt g x = vx) : cw g a y 0 x s = if (decide ((x : Int) = y) && acc a s vx) = true then 1 else 0 := by rw [cw, h]
/-- what a call leaves -/
def Left (g : Gr) (a : Au) (y : Int) (f : Nat) (M : List Plc) (bM : Nat) (w w' : World) : Prop := Only bM (bM + 1) w w' ∧ ∃ M', Mem g a y w' bM M' ∧ More f M M'
theorem Left.of_below {g : Gr} {a : Au} {y : Int} {f : Nat} {M : List Plc} {bM : Nat} {w w' : World} (hm : Mem g a y w bM M) (hb : Below w.heap.size w w') : Left g a y f M bM w w' :=
  ⟨Only.of_below hb _ _, M, hm.keep hb, More.refl _ _⟩
theorem Mem.bound {g : Gr} {a : Au} {y : Int} {w : World} {bM : Nat} {M : List Plc} (h : Mem g a y w bM M) : M.length < maxLen := by
  obtain ⟨D, _, h2⟩ := h
  have := h2.len
  unfold maxLen; omega
theorem Mem.lt {g : Gr} {a : Au} {y : Int} {w : World} {bM : Nat} {M : List Plc} (h : Mem g a y w bM M) : bM < w.heap.size := by
  obtain ⟨D, h1, _⟩ := h
  exact h1.lt
theorem keyOfPlc {z : Plc} (hz : plcOk z) : keyOf Try.prog 102 (.agg #[.int .i64 (z.1 : Int), .int .i64 (z.2.1 : Int), .int .i64 (z.2.2 : Int)]) = some (plKey z.1 z.2.1 z.2.2) := by
  unfold plcOk at hz
  exact keyPlace _ _ _ (wf_nat (by omega)) (wf_nat (by omega)) (wf_nat (by omega))
theorem litI_inj {H : Type} {a b : Int} (h : (DataW.lit (.int .i64 a) : DataW H) = .lit (.int .i64 b)) : a = b := by
  injection h with h
  injection h
/-- the look-up, at each world that keeps the memory -/
theorem Mem.look {g : Gr} {a : Au} {y : Int} {w : World} {bM : Nat} {M : List Plc} (h : Mem g a y w bM M) {z : Plc} (hz : plcOk z) :
    (Instr.lookup 117 (.map (some bM)) (.agg #[.int .i64 (z.1 : Int), .int .i64 (z.2.1 : Int), .int .i64 (z.2.2 : Int)]) true).run Try.prog w =
      .ok (.tuple #[.int .i64 (if z ∈ M then (cw g a y z.2.2 z.1 z.2.1 : Int) else 0), .bool (decide (z ∈ M))]) w := by
  obtain ⟨D, h1, h2⟩ := h
  obtain ⟨v, ps, hrun, hv⟩ := h1.look_ok keyedPlace Try.underlying117 (Try.zeroValue3 _) (plainElem_int Try.underlying3 (by decide)) (keyOfPlc hz)
  obtain ⟨c, rfl, hc, -⟩ := plainElem_int_inv Try.underlying3 hv
  have hc := congrArg Prod.fst hc
  simp only at hc
  have hh := h2.has z hz
  rw [hh] at hrun
  rw [hrun]
  by_cases hm : z ∈ M
  · rw [if_pos hm, ← litI_inj ((h2.val z hm).symm.trans hc)]
  · have h3 := Maps.atKey_of_not_has (show Maps.has D (plKey z.1 z.2.1 z.2.2) = false by rw [hh]; exact decide_eq_false hm) (.lit (.int .i64 0))
    rw [if_neg hm, ← litI_inj (h3.symm.trans hc)]
set_option maxHeartbeats 8000000 in
set_option maxRecDepth 100000 in
theorem count_any (g : Gr) (a : Au) (y : Int) (hgo : grOk g = true) (ha : auOk a = true) (bC bM : Nat) : ∀ (lf x s : Nat) (M : List Plc) (w : World), Ctr g a y w bC bM → Mem g a y w bM M → x < g.vals.length → s < 2 ^ a.accept.length → lf ≤ 60 →
    Calls Try.prog 79 #[.pointer (some ⟨bC, 0, none⟩), .agg #[.int .i64 (x : Int), .int .i64 (s : Int), .int .i64 (lf : Int)]] w fun e w' => e = .returned (.int .i64 (cw g a y lf x s : Nat)) ∧ Left g a y lf M bM w w' := by
  intro lf
  induction lf with
  | zero =>
    intro x s M w hc hm hx hs hlf
    have HM := Lib.hid hm
    have hb0 : Below w.heap.size w (w.alloc (.cells #[.int .i64 (x : Int), .int .i64 (s : Int), .int .i64 0] 102)) := (Below.refl _ _).alloc (Nat.le_refl _) _
    by_cases hs0 : s = 0
    · have HR := Lib.hid (show cw g a y 0 x s = 0 by rw [hs0, cw_none])
      subst hs0
      clear hc hm hgo ha
      go_enter Try.func79, Try.ntmps79
      go_wp2_with fail
      go_ret
      exact ⟨by rw [HR.out]; rfl, Left.of_below HM.out hb0⟩
    · obtain ⟨B, lo, hi, A1, A2, A3, A4, A5, c1, c2, c3, c4, c5, hbk, hgv, hav, hlv, h5, h6, h7, h8, h9⟩ := hc
      obtain ⟨vx, hxi, hva, hvx⟩ := valOf hgo hx
      obtain ⟨vs, es, hag, h1, -⟩ := hgv
      injection hag with hag
      simp at hag
      obtain ⟨rfl, rfl⟩ := hag
      obtain ⟨b1, o1, rfl, -, hb1, dv⟩ := h1.intI hxi
      have hs4 := lt12 ha hs
      have z0 : w.cell? ⟨bC, 0, none⟩ = some (.slice (some ⟨b1, o1, none⟩) g.vals.length c1) := hbk.cell 0
      have z2 : w.cell? ⟨bC, 2, none⟩ = some (.int .i64 a.start) := hbk.cell 2
      have z3 : w.cell? ⟨bC, 3, none⟩ = some (.slice A3 a.accept.length c3) := hbk.cell 3
      have z4 : w.cell? ⟨bC, 4, none⟩ = some (.slice A4 a.accept.length c4) := hbk.cell 4
      have z5 : w.cell? ⟨bC, 5, none⟩ = some (.int .i64 y) := hbk.cell 5
      have lC := hbk.lt
      have lC1 : bC < w.heap.size + 1 := by omega
      have hb1w : b1 < w.heap.size := by omega
      have hb1w1 : b1 < w.heap.size + 1 := by omega
      have hxx : (x : Int) < (g.vals.length : Int) := by omega
      have HEND := Lib.hid (fun (W : World) (hW : Below w.heap.size w W) => acceptsAt_any _ a s vx W ((hav.mono (Nat.le_refl _) h8).keep hW) ha hs hvx)
      have hne : ((s : Int) == 0) = false := by simp; omega
      have hne2 : decide ((s : Int) = 0) = false := by simp; omega
      have HC0 := Lib.hid (cw_zeroS g a y x s vx hva)
      clear hbk hav hlv h1 hxi hva hgo ha hm
      by_cases hxy : (x : Int) = y
      · have hd : decide ((x : Int) = y) = true := decide_eq_true hxy
        have hd2 : ((x : Int) == y) = true := by simp [hxy]
        have hbb := HC0.out
        rw [hd, Bool.true_and] at hbb
        generalize acc a s vx = bb at *
        cases bb with
        | true =>
          have HBB := Lib.hid (hbb.trans (if_pos rfl))
          clear hxy HC0 hbb
          go_enter Try.func79, Try.ntmps79
          go_wp2_with fail
          refine wp_region_ext_lit (by kernel_rfl) (by kernel_rfl) ?_
          repeat (go_big_quiet_step ((go_at_call 118; exact Calls.ext_of (HEND.out _ (below_trans hb0 (ext_below _ _))))))
          refine wpQuiet_nil ?_
          intro _ hw'
          obtain ⟨u2, hw''⟩ := hw'
          subst hw''
          go_wp2_with fail
          go_ret
          exact ⟨by rw [HBB.out]; rfl, Left.of_below HM.out (below_trans hb0 (ext_below _ _))⟩
        | false =>
          have HBB := Lib.hid (hbb.trans (if_neg (by simp)))
          clear hxy HC0 hbb
          go_enter Try.func79, Try.ntmps79
          go_wp2_with fail
          refine wp_region_ext_lit (by kernel_rfl) (by kernel_rfl) ?_
          repeat (go_big_quiet_step ((go_at_call 118; exact Calls.ext_of (HEND.out _ (below_trans hb0 (ext_below _ _))))))
          refine wpQuiet_nil ?_
          intro _ hw'
          obtain ⟨u2, hw''⟩ := hw'
          subst hw''
          go_wp2_with fail
          go_ret
          exact ⟨by rw [HBB.out]; rfl, Left.of_below HM.out (below_trans hb0 (ext_below _ _))⟩
      · have hd : decide ((x : Int) = y) = false := decide_eq_false hxy
        have hd2 : ((x : Int) == y) = false := by simp [hxy]
        have HBB := Lib.hid (show cw g a y 0 x s = 0 from HC0.out.trans (by rw [hd, Bool.false_and]; simp))
        clear hxy HC0
        go_enter Try.func79, Try.ntmps79
        go_wp2_with fail
        refine wp_region_ext_lit (by kernel_rfl) (by kernel_rfl) ?_
        repeat (go_big_quiet_step (fail))
        refine wpQuiet_nil ?_
        intro _ hw'
        obtain ⟨u2, hw''⟩ := hw'
        subst hw''
        go_wp2_with fail
        go_ret
        exact ⟨by rw [HBB.out]; rfl, Left.of_below HM.out (below_trans hb0 (ext_below _ _))⟩
  | succ lf ih =>
    intro x s M w hc hm hx hs hlf
    obtain ⟨L1, hL1⟩ : ∃ L1, L1 = lf + 1 := ⟨_, rfl⟩
    have HNX := Lib.hid (fun (l : Nat) (t sid : Int) (sinv : Bool) (W : World) (hW : Ctr g a y W bC bM) (hl : l < 9) => next_any g a y hgo ha bC bM x s lf l t sid sinv W hW hx hs (by omega) hl)
    rw [← hL1] at hlf HNX ⊢
    have hL1a : lf + 1 ≤ L1 := by omega
    have hL1b : L1 ≤ lf + 1 := by omega
    have HM := Lib.hid hm
    have HCT := Lib.hid hc
    have hbMw := hm.lt
    have hbCM : bC ≠ bM := by obtain ⟨_, _, _, _, _, _, _, _, _, _, _, _, _, h⟩ := hc; exact h.2.2.2.2.2.2.2.2
    have hb0 : Below w.heap.size w (w.alloc (.cells #[.int .i64 (x : Int), .int .i64 (s : Int), .int .i64 (L1 : Int)] 102)) := (Below.refl _ _).alloc (Nat.le_refl _) _
    have hs4 := lt12 ha hs
    have hn5 := (grOk_iff.1 hgo).n5
    by_cases hs0 : s = 0
    · have HR := Lib.hid (show cw g a y L1 x s = 0 by rw [hs0, cw_none])
      subst hs0
      clear hc hm hgo ha ih hL1 HNX
      go_enter Try.func79, Try.ntmps79
      go_wp2_with fail
      go_ret
      exact ⟨by rw [HR.out]; rfl, Left.of_below HM.out hb0⟩
    · have hz : plcOk (x, s, L1) := ⟨by simp only; omega, by simp only; omega, by simp only; omega⟩
      have hlk : ∀ u, (Instr.lookup 117 (.map (some bM)) (.agg #[.int .i64 (x : Int), .int .i64 (s : Int), .int .i64 (L1 : Int)]) true).run Try.prog (ext (w.alloc (.cells #[.int .i64 (x : Int), .int .i64 (s : Int), .int .i64 (L1 : Int)] 102)) u) =
          .ok (.tuple #[.int .i64 (if (x, s, L1) ∈ M then (cw g a y L1 x s : Int) else 0), .bool (decide ((x, s, L1) ∈ M))]) (ext (w.alloc (.cells #[.int .i64 (x : Int), .int .i64 (s : Int), .int .i64 (L1 : Int)] 102)) u) :=
        fun u => ((hm.keep hb0).keep (ext_below _ u)).look hz
      obtain ⟨B, lo, hi, A1, A2, A3, A4, A5, c1, c2, c3, c4, c5, hbk, hgv, hav, hlv, h5, h6, h7, h8, h9⟩ := hc
      have z7 : w.cell? ⟨bC, 7, none⟩ = some (.map (some bM)) := hbk.cell 7
      have z6 : w.cell? ⟨bC, 6, none⟩ = some (.slice A5 g.vals.length c5) := hbk.cell 6
      have lC := hbk.lt
      have lC1 : bC < w.heap.size + 1 := by omega
      have hne : ((s : Int) == 0) = false := by simp; omega
      have hne2 : decide ((s : Int) = 0) = false := by simp; omega
      have hl0 : ((L1 : Int) == 0) = false := by simp; omega
      have hl1 : decide ((L1 : Int) = 0) = false := by simp; omega
      by_cases hmem : (x, s, L1) ∈ M
      · rw [if_pos hmem, decide_eq_true hmem] at hlk
        generalize cw g a y L1 x s = C at *
        clear hbk hgv hav hlv hgo ha ih hL1 HNX hm hmem hz
        go_enter Try.func79, Try.ntmps79
        go_wp2_with fail
        refine wp_region_ext_lit (by kernel_rfl) (by kernel_rfl) ?_
        repeat (go_big_quiet_step (fail))
        refine wpQuiet_nil ?_
        intro _ hw'
        obtain ⟨u2, hw''⟩ := hw'
        subst hw''
        go_wp2_with fail
        go_ret
        exact ⟨rfl, Left.of_below HM.out (below_trans hb0 (ext_below _ _))⟩
      · rw [if_neg hmem, decide_eq_false hmem] at hlk
        have HNM := Lib.hid hmem
        have HZ := Lib.hid hz
        have hA5 : ∃ b5 o5, A5 = some ⟨b5, o5, none⟩ ∧ b5 < w.heap.size ∧ ∃ A7 c7, w.cell? ⟨b5, o5 + x, none⟩ = some (.slice A7 (arcsOf g (x : Int)).length c7) ∧ (arcsOf g (x : Int)).length ≤ c7 ∧ c7 ≤ 9223372036854775807 ∧ SlI lo hi w cA 4 (.slice A7 (arcsOf g (x : Int)).length c7) (arcsOf g (x : Int)) := by
          obtain ⟨b5, o5, A7, c7, e1, e2, e3, e4, e5, e6, e7, -⟩ := hlv.row h7 (i := x) (xs := arcsOf g (x : Int)) (by simp [hx])
          exact ⟨b5, o5, e1, by omega, A7, c7, e4, e5, e6, e7⟩
        obtain ⟨b5, o5, rfl, hb5, A7, c7, d5, hl7, hm7, hI7⟩ := hA5
        have hal := arcs_len (grOk_iff.1 hgo) (x : Int)
        have hxx : (x : Int) < (g.vals.length : Int) := by omega
        have hb51 : b5 < w.heap.size + 1 := by omega
        have HI7 := Lib.hid hI7
        have HREC := Lib.hid ih
        have HGO := Lib.hid hgo
        have HA := Lib.hid ha
        have HALL := Lib.hid (cwTo_all g a y lf x s)
        rw [← hL1] at HALL
        have HL := Lib.hid hL1
        clear hbk hgv hav hlv hgo ha ih hL1 hm hmem hz hI7
        go_enter Try.func79, Try.ntmps79
        go_upto_region 7 with fail
        refine wp_region_ext_lit (by kernel_rfl) (by kernel_rfl) ?_
        repeat (go_big_quiet_step (fail))
        refine wpQuiet_nil ?_
        intro _ hw'
        obtain ⟨u2, hw''⟩ := hw'
        subst hw''
        clear hlk
        go_upto_region 11 with fail
        refine wp_region_ext_lit (by kernel_rfl) (by kernel_rfl) ?_
        repeat (go_big_quiet_step (fail))
        refine wpQuiet_nil ?_
        intro _ hw'
        obtain ⟨u3, hw''⟩ := hw'
        subst hw''
        go_wp2_with fail
        obtain ⟨W1, hW1⟩ : ∃ W1, W1 = ext (ext (w.alloc (.cells #[.int .i64 (x : Int), .int .i64 (s : Int), .int .i64 (L1 : Int)] 102)) u2) u3 := ⟨_, rfl⟩
        have hbU := below_trans (ext_below (w.alloc (.cells #[.int .i64 (x : Int), .int .i64 (s : Int), .int .i64 (L1 : Int)] 102)) u2) (ext_below _ u3)
        have hbW := below_trans hb0 hbU
        rw [← hW1] at hbU hbW ⊢
        have e0 : W1.cell? ⟨w.heap.size, 0, none⟩ = some (.int .i64 (x : Int)) := kcell hbU (by simp)
        have e1 : W1.cell? ⟨w.heap.size, 1, none⟩ = some (.int .i64 (s : Int)) := kcell hbU (by simp)
        have e2 : W1.cell? ⟨w.heap.size, 2, none⟩ = some (.int .i64 (L1 : Int)) := kcell hbU (by simp)
        have lE : w.heap.size < W1.heap.size := by have := hbU.size; simp at this; omega
        have HM1 := Lib.hid (HM.out.keep hbW)
        have HC1 := Lib.hid (HCT.out.keep hbW)
        have z7 := kcell hbW z7
        have HBW := Lib.hid hbW
        clear hW1 hbU hbW d5 z6 hb0 HCT lC1 hb51
        go_loopw [7, 61] (fun nn ii wr => ∃ (i : Nat) (M' : List Plc), i ≤ (arcsOf g (x : Int)).length ∧ ii = .int .i64 (i : Int) ∧ nn = .int .i64 (cwTo g a y lf x s i : Nat) ∧ Only bM (bM + 1) W1 wr ∧ Mem g a y wr bM M' ∧ More lf M M') (fun _ ii _ => (arcsOf g (x : Int)).length - (intOf ii).toNat)
        case atStart => exact ⟨0, M, Nat.zero_le _, rfl, rfl, Only.refl _ _ _, HM1.out, More.refl _ _⟩
        case round =>
          clear HM1
          obtain ⟨i, M', hi, rfl, rfl, hon, hmm, hmo⟩ := hrel
          have hsz := hon.size
          have e0 := ocell hon e0 lE (.inr (by omega))
          have e1 := ocell hon e1 lE (.inr (by omega))
          have e2 := ocell hon e2 lE (.inr (by omega))
          have lEr : w.heap.size < wr.heap.size := by omega
          have HON := Lib.hid hon
          have HMM := Lib.hid hmm
          have HMO := Lib.hid hmo
          have hcle := cwTo_le g a y lf x s i
          by_cases hlt : i < (arcsOf g (x : Int)).length
          · have hyi : (arcsOf g (x : Int))[i]? = some (arcsOf g (x : Int))[i] := List.getElem?_eq_getElem hlt
            have hyr := arc_range (grOk_iff.1 HGO.out) (List.getElem_mem hlt)
            generalize (arcsOf g (x : Int))[i] = p at hyi hyr
            obtain ⟨⟨sid, sinv⟩, l, t⟩ := p
            simp only at hyr
            obtain ⟨l, rfl⟩ := Int.eq_ofNat_of_zero_le hyr.1.1
            obtain ⟨t, rfl⟩ := Int.eq_ofNat_of_zero_le hyr.2.1
            obtain ⟨b7, o7, rfl, hb7l, hb7, k0, k1, k2, k3⟩ := HI7.out.arc hyi
            simp only at k0 k1 k2 k3
            have hb7M : b7 < bM ∨ bM + 1 ≤ b7 := by omega
            have hb71 := Nat.lt_of_lt_of_le (show b7 < w.heap.size by omega) HBW.out.size
            have k0 := ocell hon (kcell HBW.out k0) hb71 hb7M
            have k1 := ocell hon (kcell HBW.out k1) hb71 hb7M
            have k2 := ocell hon (kcell HBW.out k2) hb71 hb7M
            have k3 := ocell hon (kcell HBW.out k3) hb71 hb7M
            have hb7w : b7 < wr.heap.size := by omega
            have hts : cwTo g a y lf x s (i + 1) = min 1000000 (cwTo g a y lf x s i + cw g a y lf t (aft a s (valAt g x) l)) := by
              rw [cwTo_succ hyi, cwStep]; simp
            have hAF := aft_lt HA.out s (valAt g x) l
            have hcl2 := cw_le g a y lf t (aft a s (valAt g x) l)
            have HNC := Lib.hid (fun (W : World) (hW : Ctr g a y W bC bM) => HNX.out l (t : Int) sid sinv W hW (by omega))
            have HRC := Lib.hid (fun (W : World) (h1 : Ctr g a y W bC bM) (h2 : Mem g a y W bM M') => HREC.out t (aft a s (valAt g x) l) M' W h1 h2 (by omega) hAF (by omega))
            generalize aft a s (valAt g x) l = AF at *
            have hbE : Below wr.heap.size wr (wr.alloc (.cells #[.int .i64 sid, .bool sinv, .int .i64 (l : Int), .int .i64 (t : Int)] 121)) := (Below.refl _ _).alloc (Nat.le_refl _) _
            have hii : (i : Int) < ((arcsOf g (x : Int)).length : Int) := by omega
            have HTS := Lib.hid hts
            clear hts hyi hon hmm hmo
            generalize cwTo g a y lf x s i = m1 at *
            generalize cw g a y lf t AF = CC at *
            go_wp2_with fail
            refine (HNC.out _ ((HC1.out.only HON.out).keep hbE)).mono ?_
            rintro en w3 ⟨rfl, hb3⟩
            have hb3' := below_trans hbE hb3
            have HC3 := Lib.hid ((HC1.out.only HON.out).keep hb3')
            have HM3 := Lib.hid (HMM.out.keep hb3')
            have HO3 := Lib.hid (HON.out.trans (Only.of_below hb3' bM (bM + 1)))
            clear hb3 hb3' k0 k1 k2 k3
            go_wp2_with fail
            refine (HRC.out _ HC3.out HM3.out).mono ?_
            rintro en w4 ⟨rfl, hon4, M4, hm4, hmo4⟩
            have HO4 := Lib.hid (HO3.out.trans hon4)
            have HM4 := Lib.hid hm4
            have HMO4 := Lib.hid (HMO.out.trans hmo4)
            clear hon4 hm4 hmo4
            go_wp2_with fail
            go_roundw
            case rel => exact ⟨i + 1, M4, by omega, by go_num, by rw [HTS.out]; congr 1; omega, HO4.out, HM4.out, HMO4.out⟩
            case measure => simp [intOf]; omega
          · obtain rfl : i = (arcsOf g (x : Int)).length := by omega
            rw [HALL.out] at hcle ⊢
            generalize hCW : cw g a y L1 x s = CW at *
            have z7 := ocell hon z7 (by omega) (by omega)
            have lCr : bC < wr.heap.size := by omega
            have HCW := Lib.hid hCW
            clear hon hmm hmo hCW HALL
            go_upto_region 16 with fail
            refine F_start 6 (fun w' => w'.cell? ⟨bC, 7, none⟩ = some (.map (some bM)) ∧ w'.cell? ⟨w.heap.size, 0, none⟩ = some (.int .i64 (x : Int)) ∧ w'.cell? ⟨w.heap.size, 1, none⟩ = some (.int .i64 (s : Int)) ∧ w'.cell? ⟨w.heap.size, 2, none⟩ = some (.int .i64 (L1 : Int))) (by kernel_rfl) (by exact ⟨z7, e0, e1, e2⟩) (fun hS inv => ?_)
            refine F_take (i := 0) (v := ?_) rfl (by kernel_rfl) (by kernel_rfl) (by kernel_rfl) (fun _ _ _ h => h) inv (Or.inl ⟨by rfl, ?_⟩) (by assumption) (fun invn => ?_)
            rotate_left
            · (intro w hSw; (try dsimp only at hSw); go_simp; try with_reducible rfl)
            try simp only [List.getElem_toArray, List.getElem_cons_zero, List.getElem_cons_succ, Act.put, List.setIfInBounds_toArray, List.set_cons_zero, List.set_cons_succ]
            clear inv
            have inv := invn
            clear invn
            refine F_take (i := 1) (v := ?_) rfl (by kernel_rfl) (by kernel_rfl) (by kernel_rfl) (fun _ _ _ h => h) inv (Or.inl ⟨by rfl, ?_⟩) (by assumption) (fun invn => ?_)
            rotate_left
            · (intro w hSw; (try dsimp only at hSw); go_simp; try with_reducible rfl)
            try simp only [List.getElem_toArray, List.getElem_cons_zero, List.getElem_cons_succ, Act.put, List.setIfInBounds_toArray, List.set_cons_zero, List.set_cons_succ]
            clear inv
            have inv := invn
            clear invn
            refine F_take (i := 2) (v := ?_) rfl (by kernel_rfl) (by kernel_rfl) (by kernel_rfl) (fun _ _ _ h => h) inv (Or.inl ⟨by rfl, ?_⟩) (by assumption) (fun invn => ?_)
            rotate_left
            · (intro w hSw; (try dsimp only at hSw); go_simp; try with_reducible rfl)
            try simp only [List.getElem_toArray, List.getElem_cons_zero, List.getElem_cons_succ, Act.put, List.setIfInBounds_toArray, List.set_cons_zero, List.set_cons_succ]
            clear inv
            have inv := invn
            clear invn
            refine F_take (i := 3) (v := ?_) rfl (by kernel_rfl) (by kernel_rfl) (by kernel_rfl) (fun _ _ _ h => h) inv (Or.inl ⟨by rfl, ?_⟩) (by assumption) (fun invn => ?_)
            rotate_left
            · (intro w hSw; (try dsimp only at hSw); go_simp; try with_reducible rfl)
            try simp only [List.getElem_toArray, List.getElem_cons_zero, List.getElem_cons_succ, Act.put, List.setIfInBounds_toArray, List.set_cons_zero, List.set_cons_succ]
            clear inv
            have inv := invn
            clear invn
            refine F_take (i := 4) (v := ?_) rfl (by kernel_rfl) (by kernel_rfl) (by kernel_rfl) (fun _ _ _ h => h) inv (Or.inl ⟨by rfl, ?_⟩) (by assumption) (fun invn => ?_)
            rotate_left
            · (intro w hSw; (try dsimp only at hSw); go_simp; try with_reducible rfl)
            try simp only [List.getElem_toArray, List.getElem_cons_zero, List.getElem_cons_succ, Act.put, List.setIfInBounds_toArray, List.set_cons_zero, List.set_cons_succ]
            clear inv
            have inv := invn
            clear invn
            refine F_take (i := 5) (v := ?_) rfl (by kernel_rfl) (by kernel_rfl) (by kernel_rfl) (fun _ _ _ h => h) inv (Or.inl ⟨by rfl, ?_⟩) (by assumption) (fun invn => ?_)
            rotate_left
            · (intro w hSw; (try dsimp only at hSw); go_simp; try with_reducible rfl)
            try simp only [List.getElem_toArray, List.getElem_cons_zero, List.getElem_cons_succ, Act.put, List.setIfInBounds_toArray, List.set_cons_zero, List.set_cons_succ]
            clear inv
            have inv := invn
            clear invn
            obtain ⟨D', hD1, hD2⟩ := HMM.out
            have hln := hD2.len
            have hnz : (x, s, L1) ∉ M' := by
              obtain ⟨T, hT, hTl⟩ := HMO.out
              rw [hT, List.mem_append]
              rintro (h | h)
              · exact HNM.out h
              · have := hTl _ h; simp only at this; omega
            refine F_last (i := 6) (by kernel_rfl) rfl rfl (by omega) (by kernel_rfl) (fun K hK => ?_)
            refine op_mapUpdate_own _ _ _ _ _ rfl _ _ keyedPlace Try.underlying117 (plainElem Try.prog 3) _ _ _ (by rfl) hD1.drew (by unfold maxLen; omega) _ _ _ (by rfl) (by rfl) (keyOfPlc HZ.out) _ _ (plainElem_int Try.underlying3 (wf_nat (by omega))) ?_
            intro w9 hown9 hgr9
            refine hK _ _ ?_
            clear hK K inv hS
            try simp only [List.getElem_toArray, List.getElem_cons_zero, List.getElem_cons_succ, Act.put, List.setIfInBounds_toArray, List.set_cons_zero, List.set_cons_succ]
            have hput := hD2.put HZ.out hnz
            simp only at hput
            rw [HCW.out] at hput
            have hm9 : Mem g a y w9 bM (M' ++ [(x, s, L1)]) := ⟨_, by rw [List.length_append]; exact hown9, hput⟩
            have ho9 : Only bM (bM + 1) wr w9 := ⟨hgr9.os, hgr9.tape, hgr9.output, hgr9.size, fun n hn ho => hgr9.block n hn (fun e => by injection e with e; omega)⟩
            have HO9 := Lib.hid ((Only.of_below HBW.out bM (bM + 1)).trans (HON.out.trans ho9))
            have HM9 := Lib.hid hm9
            have HMO9 := Lib.hid (show More L1 M (M' ++ [(x, s, L1)]) from (HMO.out.mono (by omega)).trans ⟨[(x, s, L1)], rfl, fun z hz => by rw [List.mem_singleton] at hz; subst hz; exact Nat.le_refl _⟩)
            clear hown9 hgr9 hm9 ho9 hput hnz hD1 hD2
            go_wp2_with fail
            go_ret
            exact ⟨by rw [HCW.out]; rfl, HO9.out, _, HM9.out, HMO9.out⟩
end Go.Proofs.Ytgdgelkeflihpaa

