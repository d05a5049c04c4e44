/- Parts of the proof, joined into one text: LawKit, HeldL, RowsB, ExprM, SizeM, AutS, Toks, Tokx, AppL, Cur, Drw, ExpD. -/
import Derived.Test.YtallglnmeeahiaaGreatOnlyEHEILOHB
import Derived.Deep.Cut
namespace Go.Proofs.YtallglnmeeahiaaGreat
set_option linter.unusedVariables false
set_option linter.unusedSimpArgs false
open Go.ChangeShapes Go.WideShapes Go.ChangeAt Go.RowKit
attribute [local go_sem] ext_cell ext_frozen ext_lt ext_lt1 ext_lt2 ext_lt3 ltn2 ltn3 ltn13 lts1 lts2 lts3
theorem GrO.only {lo hi : Nat} {w w' : World} {v : Value} {g : Gr} (h : GrO lo hi w v g) {l r : Nat} (hb : Only l r w w') (ho : hi ≤ l ∨ r ≤ lo) : GrO lo hi w' v g := by
  obtain ⟨vs, es, mid, rfl, h1, h2, h3, h4⟩ := h
  exact ⟨vs, es, mid, rfl, h1.only hb (by omega), h2.only hb (by omega), h3, h4⟩
theorem AuO.only {lo hi : Nat} {w w' : World} {v : Value} {a : Au} (h : AuO lo hi w v a) {l r : Nat} (hb : Only l r w w') (ho : hi ≤ l ∨ r ≤ lo) : AuO lo hi w' v a := by
  obtain ⟨ac, nx, mid, rfl, h1, h2, h3, h4⟩ := h
  exact ⟨ac, nx, mid, rfl, h1.only hb (by omega), h2.only hb (by omega), h3, h4⟩
theorem filterMap_inj {α β : Type} {f : α → Option β} {L : List α} (h : (L.filterMap f).Nodup) {i j : Nat} {x y : α} (hi : L[i]? = some x) (hj : L[j]? = some y) {b : β} (hx : f x = some b) (hy : f y = some b) : i = j := by
  have hp := List.pairwise_filterMap.1 h
  rw [List.pairwise_iff_getElem] at hp
  obtain ⟨hi1, hi2⟩ := List.getElem?_eq_some_iff.1 hi
  obtain ⟨hj1, hj2⟩ := List.getElem?_eq_some_iff.1 hj
  rcases Nat.lt_trichotomy i j with hl | he | hg
  · exact absurd rfl (hp i j hi1 hj1 hl b (by rw [hi2]; exact hx) b (by rw [hj2]; exact hy))
  · exact he
  · exact absurd rfl (hp j i hj1 hi1 hg b (by rw [hj2]; exact hy) b (by rw [hi2]; exact hx))
theorem NS.turn {α : Type} {lo : Nat} {w w' : World} {oT eT : TypeId} {E : α → List Value} {k : Nat} {v : Value} {us : List Value} {xss : List (List α)} (h : NS lo w oT eT E k v us xss) {i : Nat} {u : Value} {xs' : List α} (hu : us[i]? = some u)
    (hr : w'.ownsRow lo eT k u xs'.length (xs'.flatMap E)) (hb : ∀ b ∈ blks (v :: us), u.ownBlock ≠ some b → w'.heap[b]? = w.heap[b]?) : NS lo w' oT eT E k v us (xss.set i xs') := by
  have hdis := h.dis
  refine ⟨ownsRow_block h.own fun g hg => hb g (mem_blks.2 ⟨0, v, rfl, hg⟩) fun e => ?_, by simp [h.len], fun j u2 xs2 hj hx => ?_, hdis⟩
  · have := filterMap_inj (i := 0) (j := i + 1) hdis rfl (by simpa using hu) hg e
    omega
  · by_cases hij : i = j
    · subst hij
      rw [hu] at hj
      injection hj with hj
      subst hj
      have hl := (List.getElem?_eq_some_iff.1 hx).1
      rw [List.length_set] at hl
      rw [List.getElem?_set_self hl] at hx
      injection hx with hx
      subst hx
      exact hr
    · rw [List.getElem?_set_ne hij] at hx
      refine ownsRow_block (h.rows j u2 xs2 hj hx) fun g hg => hb g (mem_blks.2 ⟨j + 1, u2, by simpa using hj, hg⟩) fun e => ?_
      have := filterMap_inj (i := i + 1) (j := j + 1) hdis (by simpa using hu) (by simpa using hj) e hg
      omega
/-- rows of rows whose blocks all lie from lo to hi -/
def NSO (lo hi : Nat) (w : World) (v : Value) (xss : List (List Int)) : Prop :=
  ∃ us, NS lo w 24 3 cI 1 v us xss ∧ ∀ b ∈ blks (v :: us), b < hi
section
variable {lo hi : Nat} {w w' : World} {v : Value} {xss : List (List Int)}
theorem NSO.of {us : List Value} (h : NS lo w 24 3 cI 1 v us xss) : NSO lo w.heap.size w v xss := ⟨us, h, fun b hb => (h.lt b hb).2⟩
theorem NSO.view (h : NSO lo hi w v xss) : SSV lo hi w v xss := by
  obtain ⟨us, h, hl⟩ := h
  refine ⟨us, Own.sl ⟨h.own, fun g hg => hl g (mem_blks.2 ⟨0, v, rfl, hg⟩)⟩ cV_len, h.len, fun i u xs hu hx => ?_⟩
  exact Own.sl ⟨h.rows i u xs hu hx, fun g hg => hl g (mem_blks.2 ⟨i + 1, u, by simpa using hu, hg⟩)⟩ cI_len
theorem NSO.below (h : NSO lo hi w v xss) {B : Nat} (hb : Below B w w') (hB : hi ≤ B) : NSO lo hi w' v xss := by
  obtain ⟨us, h, hl⟩ := h
  exact ⟨us, h.blocks fun b hm => hb.block b (by have := hl b hm; omega), hl⟩
theorem NSO.only (h : NSO lo hi w v xss) {l r : Nat} (hb : Only l r w w') (ho : hi ≤ l ∨ r ≤ lo) : NSO lo hi w' v xss := by
  obtain ⟨us, h, hl⟩ := h
  exact ⟨us, h.blocks fun b hm => hb.block b (h.lt b hm).2 (by have := hl b hm; have := (h.lt b hm).1; omega), hl⟩
theorem NSO.mono (h : NSO lo hi w v xss) {lo' hi' : Nat} (h1 : lo' ≤ lo) (h2 : hi ≤ hi') : NSO lo' hi' w v xss := by
  obtain ⟨us, h, hl⟩ := h
  exact ⟨us, h.mono h1, fun b hb => by have := hl b hb; omega⟩
end
end Go.Proofs.YtallglnmeeahiaaGreat
namespace Go.Proofs.YtallglnmeeahiaaGreat
set_option linter.unusedVariables false
set_option linter.unusedSimpArgs false
open Go.RowKit
section
variable {P : Program} {ops : Array Oper} {Q : Exit → Act → World → Prop} {md : Region.Mode} {S : World → Prop} {n : Nat}
/-- whatever order is picked; S holds behind each operation below n -/
def wpAnyF (P : Program) (md : Region.Mode) (ops : Array Oper) (Q : Exit → Act → World → Prop) (S : World → Prop) (n : Nat) : Nat → Array Bool → Act → World → Prop
  | 0, listed, a, w => Region.ready md ops listed = [] ∧ Q .normal a w
  | f + 1, listed, a, w => (Region.ready md ops listed = [] → Q .normal a w) ∧
    ∀ i ∈ Region.ready md ops listed, wpOp P ops Q i (fun a' w' => (i < n → S w') ∧ wpAnyF P md ops Q S n f (listed.setIfInBounds i true) a' w') a w
theorem F_any : ∀ (f : Nat) (listed : Array Bool) (a : Act) (w : World), wpAnyF P md ops Q S n f listed a w → wpAny P md ops Q f listed a w
  | 0, _, _, _, h => h
  | f + 1, _, _, _, h => ⟨h.1, fun i hi => wpOp_mono (fun _ _ h' => F_any f _ _ _ h'.2) (h.2 i hi)⟩
theorem F_first {i : Nat} {oi : Oper} {v : Value} (hi : ops[i]? = some oi) (hsel : ∀ (j : Nat) (o : Oper) cs b, ops[j]? = some o → o.op ≠ .select cs b) (hQ : ∀ c a w, Q (.panic c) (a.put oi.dst v) w → Q (.panic c) a w)
    (hs : Region.sinkB md ops n = true) (hc : Region.chainB md ops n = true) (hn : n < ops.size) (hin : i < n) : ∀ (f : Nat) (listed : Array Bool) (a : Act) (w : World), HeadInv md ops n listed →
      (∀ j oj, ops[j]? = some oj → j ≠ i → listed.getD j true = false → (∀ e ∈ oj.after, Region.binds md e = true → e.on ≠ i) → oi.apart ops oj = true) →
      i ∈ Region.ready md ops listed → YieldsIf P ops S oi v a → S w →
      wpAnyF P md ops Q S n f (listed.setIfInBounds i true) (a.put oi.dst v) w → wpAnyF P md ops Q S n (f + 1) listed a w := by
  intro f
  induction f with
  | zero =>
    intro listed a w inv _ hr hy hS H
    have hun := (mem_ready.1 hr).1
    refine ⟨fun h => (by rw [h] at hr; cases hr), fun j hj => ?_⟩
    by_cases hji : j = i
    · subst hji; exact hy.wpOp hi hS ⟨fun _ => hS, H⟩
    · have := ready_mono hj hji
      rw [H.1] at this
      cases this
  | succ f ih =>
    intro listed a w inv hfree hr hy hS H
    have hun := (mem_ready.1 hr).1
    refine ⟨fun h => (by rw [h] at hr; cases hr), fun j hj => ?_⟩
    have hjn : j < n := by
      rcases Nat.lt_or_ge j n with h | h
      · exact h
      · exact absurd hj (tail_waits hs hc hn inv _ i rfl hin hun j h)
    by_cases hji : j = i
    · subst hji; exact hy.wpOp hi hS ⟨fun _ => hS, H⟩
    · have h1 := H.2 j (ready_mono hj hji)
      obtain ⟨hjun, oj, hoj, hall⟩ := mem_ready.1 hj
      have hnot : ∀ e ∈ oj.after, Region.binds md e = true → e.on ≠ i := fun e he hb heq => by
        have h1 := hall e he hb
        rw [heq, getD_both hun] at h1
        cases h1
      have h2 := wpOp_putIf hoj (hfree j oj hoj hji hjun hnot) (fun cs b => hsel i oi cs b hi) (fun cs b => hsel j oj cs b hoj) hQ hy h1
      have hfree' : ∀ k ok, ops[k]? = some ok → k ≠ i → (listed.setIfInBounds j true).getD k true = false → (∀ e ∈ ok.after, Region.binds md e = true → e.on ≠ i) → oi.apart ops ok = true := fun k ok hk hki hun hno => by
        refine hfree k ok hk hki ?_ hno
        by_cases hjk : j = k
        · subst hjk; exact hjun
        · rw [getD_set_ne true hjk] at hun; exact hun
      refine wpOp_mono (fun a' w' h3 => ⟨h3.2.1, ih (listed.setIfInBounds j true) a' w' (inv.set hj hjn) hfree' (ready_mono hr (Ne.symm hji)) h3.1 (h3.2.1 hjn) ?_⟩) h2
      rw [Array.setIfInBounds_comm _ _ hji]
      exact h3.2.2
theorem F_take {i : Nat} {oi : Oper} {v : Value} {f : Nat} {listed : Array Bool} {a : Act} {w : World} (hi : ops[i]? = some oi) (hB : (Region.noSelect ops && Region.sinkB md ops n && Region.chainB md ops n && decide (n < ops.size) && decide (i < n)) = true)
    (hf : Region.free md ops listed i = true) (hr : (Region.ready md ops listed).contains i = true) (hQ : ∀ c a w, Q (.panic c) (a.put oi.dst v) w → Q (.panic c) a w) (inv : HeadInv md ops n listed) (hy : YieldsIf P ops S oi v a) (hS : S w)
    (h : HeadInv md ops n (listed.setIfInBounds i true) → wpAnyF P md ops Q S n f (listed.setIfInBounds i true) (a.put oi.dst v) w) : wpAnyF P md ops Q S n (f + 1) listed a w := by
  simp only [Bool.and_eq_true, decide_eq_true_eq] at hB
  obtain ⟨⟨⟨⟨h1, h2⟩, h3⟩, h4⟩, h5⟩ := hB
  have hr' : i ∈ Region.ready md ops listed := by simpa using hr
  exact F_first hi (Region.noSelect_spec h1) hQ h2 h3 h4 h5 f listed a w inv (Region.free_spec hi hf) hr' hy hS (h (inv.set hr' h5))
/-- the only one that may come up: an operation below n -/
theorem F_one {i : Nat} {oi : Oper} {f : Nat} {listed : Array Bool} {a : Act} {w : World} (hr : Region.ready md ops listed = [i]) (hi : ops[i]? = some oi) (hg : oi.guard = none) (hin : i < n) (inv : HeadInv md ops n listed)
    (h : ∀ K : Act → World → Prop, Shut (∀ a' w', S w' → (S w' → HeadInv md ops n (listed.setIfInBounds i true) → wpAnyF P md ops Q S n f (listed.setIfInBounds i true) a' w') → K a' w') → Oper.wp P oi a w K Q) : wpAnyF P md ops Q S n (f + 1) listed a w := by
  refine ⟨fun h0 => (by rw [hr] at h0; cases h0), fun j hj => ?_⟩
  have hj2 := hj
  rw [hr] at hj2
  obtain rfl : j = i := by simpa using hj2
  have hw : Region.wanted oi (yielded ops a.tmps) = true := by simp [Region.wanted, hg]
  unfold wpOp
  simp only [hi, hw, if_true]
  exact .inl (h _ (fun a' w' hS hF => ⟨fun _ => hS, hF hS (inv.set hj hin)⟩))
/-- the last one -/
theorem F_last {i : Nat} {oi : Oper} {f : Nat} {listed : Array Bool} {a : Act} {w : World} (hr : Region.ready md ops listed = [i]) (hi : ops[i]? = some oi) (hg : oi.guard = none) (hin : n ≤ i) (he : Region.ready md ops (listed.setIfInBounds i true) = [])
    (h : ∀ K : Act → World → Prop, (∀ a' w', Q .normal a' w' → K a' w') → Oper.wp P oi a w K Q) : wpAnyF P md ops Q S n (f + 1) listed a w := by
  refine ⟨fun h0 => (by rw [hr] at h0; cases h0), fun j hj => ?_⟩
  rw [hr] at hj
  obtain rfl : j = i := by simpa using hj
  have hw : Region.wanted oi (yielded ops a.tmps) = true := by simp [Region.wanted, hg]
  unfold wpOp
  simp only [hi, hw, if_true]
  refine .inl (h _ (fun a' w' hq => ⟨fun h => absurd h (by omega), ?_⟩))
  cases f with
  | zero => exact ⟨he, hq⟩
  | succ f => exact ⟨fun _ => hq, by rw [he]; simp⟩
/-- two that may come up -/
theorem F_two {i j : Nat} {oi oj : Oper} {f : Nat} {listed : Array Bool} {a : Act} {w : World} (hr : Region.ready md ops listed = [i, j]) (hi : ops[i]? = some oi) (hj : ops[j]? = some oj) (hgi : oi.guard = none) (hgj : oj.guard = none) (hin : i < n ∧ j < n) (inv : HeadInv md ops n listed)
    (h1 : ∀ K : Act → World → Prop, Shut (∀ a' w', S w' → (S w' → HeadInv md ops n (listed.setIfInBounds i true) → wpAnyF P md ops Q S n f (listed.setIfInBounds i true) a' w') → K a' w') → Oper.wp P oi a w K Q)
    (h2 : ∀ K : Act → World → Prop, Shut (∀ a' w', S w' → (S w' → HeadInv md ops n (listed.setIfInBounds j true) → wpAnyF P md ops Q S n f (listed.setIfInBounds j true) a' w') → K a' w') → Oper.wp P oj a w K Q) : wpAnyF P md ops Q S n (f + 1) listed a w := by
  refine ⟨fun h0 => (by rw [hr] at h0; cases h0), fun k hk => ?_⟩
  have hk2 := hk
  rw [hr] at hk2
  simp only [List.mem_cons, List.not_mem_nil, or_false] at hk2
  rcases hk2 with rfl | rfl
  · have hw : Region.wanted oi (yielded ops a.tmps) = true := by simp [Region.wanted, hgi]
    unfold wpOp
    simp only [hi, hw, if_true]
    exact .inl (h1 _ (fun a' w' hS hF => ⟨fun _ => hS, hF hS (inv.set hk hin.1)⟩))
  · have hw : Region.wanted oj (yielded ops a.tmps) = true := by simp [Region.wanted, hgj]
    unfold wpOp
    simp only [hj, hw, if_true]
    exact .inl (h2 _ (fun a' w' hS hF => ⟨fun _ => hS, hF hS (inv.set hk hin.2)⟩))
/-- one of the chain at the end, not the last -/
theorem F_tail {i : Nat} {oi : Oper} {f : Nat} {listed : Array Bool} {a : Act} {w : World} (hr : Region.ready md ops listed = [i]) (hi : ops[i]? = some oi) (hg : oi.guard = none) (hin : n ≤ i)
    (h : ∀ K : Act → World → Prop, Shut (∀ a' w', wpAnyF P md ops Q S n f (listed.setIfInBounds i true) a' w' → K a' w') → Oper.wp P oi a w K Q) : wpAnyF P md ops Q S n (f + 1) listed a w := by
  refine ⟨fun h0 => (by rw [hr] at h0; cases h0), fun j hj => ?_⟩
  rw [hr] at hj
  obtain rfl : j = i := by simpa using hj
  have hw : Region.wanted oi (yielded ops a.tmps) = true := by simp [Region.wanted, hg]
  unfold wpOp
  simp only [hi, hw, if_true]
  exact .inl (h _ (fun a' w' hF => ⟨fun hlt => absurd hlt (by omega), hF⟩))
theorem F_start {id : Nat} {a : Act} {w : World} (n : Nat) (S : World → Prop) (hm : P.follows .mixedOrders = true) (hS : S w.drew)
    (h : S w.drew → HeadInv .any ops n (Array.replicate ops.size false) → wpAnyF P .any ops Q S n ops.size (Array.replicate ops.size false) a w.drew) : (Code.region id ops true).wp P Q a w :=
  wp_region_any hm (F_any _ _ _ _ (h hS ⟨by simp, fun j oj _ hl => (by rw [getD_replicate_false] at hl; cases hl), fun t _ ht => getD_in (by simpa using ht) (getD_replicate_false _ _)⟩))
/-- append(s, x): as an operation by itself; the one element lies in block H -/
theorem op_append1 {w : World} {α : Type} (E : α → List Value) {o : Oper} {a : Act} {K : Act → World → Prop} {t e : TypeId} {z : Value} {k bytes : Nat} (el : ElemOk P t e z k bytes) (hgd : o.guard = none) (s y : Operand)
    (ho : o.op = .call { callee := .builtin .append, args := #[s, y], argTypes := #[t, t] })
    (base : Nat) (v : Value) (xs : List α) (x : α) (c H : Nat) (hs : a.eval s = v) (hown : w.ownsRow base e k v xs.length (xs.flatMap E)) (hy : a.eval y = .slice (some ⟨H, 0, none⟩) 1 c)
    (hH : w.heap[H]? = some (.cells (E x).toArray e (0, 0))) (hE : (E x).length = k) (h1 : ∀ u ∈ E x, u.oneCell' = true) (hbytes : (xs.length + 1) * bytes ≤ 140737488355328) (hb0 : 0 < bytes) (hbase : base ≤ w.heap.size)
    (h : ∀ g cap w', w'.ownsRow base e k (.slice (some ⟨g, 0, none⟩) (xs.length + 1) cap) (xs ++ [x]).length ((xs ++ [x]).flatMap E) → w.grownBy w' v.ownBlock → (v.ownBlock = some g ∨ w.heap.size ≤ g) → g < w'.heap.size →
      K (a.put o.dst (.slice (some ⟨g, 0, none⟩) (xs.length + 1) cap)) w') : Oper.wp P o a w K Q := by
  have h2 := step_append1 (ops := #[]) (EE := True) (Q := Q) (K := K) E el hgd s y ho base v xs x c H hs hown hy hH hE h1 hbytes hb0 hbase h
  have hw : Region.wanted o (yielded #[] a.tmps) = true := by simp [Region.wanted, hgd]
  rwa [if_pos hw] at h2
/-- the same at the head of a list of operations -/
theorem wpList_append2 {w : World} {α : Type} (E : α → List Value) {rest : List Oper} {o : Oper} {a : Act} {t e : TypeId} {z : Value} {k bytes : Nat} (el : ElemOk P t e z k bytes) (hgd : o.guard = none) (s y : Operand)
    (ho : o.op = .call { callee := .builtin .append, args := #[s, y], argTypes := #[t, t] })
    (base : Nat) (v : Value) (xs : List α) (x : α) (c H : Nat) (hs : a.eval s = v) (hown : w.ownsRow base e k v xs.length (xs.flatMap E)) (hy : a.eval y = .slice (some ⟨H, 0, none⟩) 1 c)
    (hH : w.heap[H]? = some (.cells (E x).toArray e (0, 0))) (hE : (E x).length = k) (h1 : ∀ u ∈ E x, u.oneCell' = true) (hbytes : (xs.length + 1) * bytes ≤ 140737488355328) (hb0 : 0 < bytes) (hbase : base ≤ w.heap.size)
    (h : ∀ g cap w', w'.ownsRow base e k (.slice (some ⟨g, 0, none⟩) (xs.length + 1) cap) (xs ++ [x]).length ((xs ++ [x]).flatMap E) → w.grownBy w' v.ownBlock → (v.ownBlock = some g ∨ w.heap.size ≤ g) → g < w'.heap.size →
      wpList P ops Q rest (a.put o.dst (.slice (some ⟨g, 0, none⟩) (xs.length + 1) cap)) w') : wpList P ops Q (o :: rest) a w :=
  wpList_plain hgd fun _ hK => op_append1 E el hgd s y ho base v xs x c H hs hown hy hH hE h1 hbytes hb0 hbase fun g cap w' h2 h3 h4 h5 => hK _ _ (h g cap w' h2 h3 h4 h5)
end
end Go.Proofs.YtallglnmeeahiaaGreat
namespace Go.Proofs.YtallglnmeeahiaaGreat
set_option linter.unusedVariables false
set_option linter.unusedSimpArgs false
open Go.ChangeShapes Go.WideShapes Go.ChangeAt Go.RowKit
attribute [local go_sem] ext_cell ext_frozen ext_lt ext_lt1 ext_lt2 ext_lt3 ltn2 ltn3 ltn13 lts1 lts2 lts3
theorem NS.toSSE {lo : Nat} {w : World} {oT eT : TypeId} {v : Value} {us : List Value} {xss : List (List Int)} (h : NS lo w oT eT cI 1 v us xss) : SSE lo w.heap.size w cI 1 v xss := by
  have ho : Own lo w.heap.size w oT cV 1 v us := Own.of_row h.own rfl rfl
  obtain ⟨A, c, hv, h1, h2, hc⟩ := ho.sl cV_len
  refine ⟨A, c, by rw [hv, h.len], by rw [← h.len]; exact h1, by unfold maxLen at h2; omega, fun i xs hx => ?_⟩
  have hi : i < us.length := by rw [h.len]; exact (List.getElem?_eq_some_iff.1 hx).1
  have hu : us[i]? = some us[i] := List.getElem?_eq_getElem hi
  obtain ⟨b, o, hA, hb1, hb2, hcc⟩ := hc i _ hu
  exact ⟨b, o, us[i], hA, hb1, hb2, by simpa using hcc 0 _ rfl, (Own.of_row (h.rows i _ xs hu hx) rfl rfl).sl cI_len⟩
set_option maxHeartbeats 2000000 in
theorem sameRows_same (v1 v2 : Value) (xss : List (List Int)) (w : World) (h1 : SSE 0 w.heap.size w cI 1 v1 xss) (h2 : SSE 0 w.heap.size w cI 1 v2 xss) :
    Calls Tryz.prog 15 #[v1, v2] w fun e w' => e = .returned (.bool true) ∧ Below w.heap.size w w' := by
  have H1 := Lib.hid h1
  have H2 := Lib.hid h2
  obtain ⟨A1, c1, rfl, hl1, hm1⟩ := h1.shape
  obtain ⟨A2, c2, rfl, hl2, hm2⟩ := h2.shape
  clear h1 h2
  obtain ⟨N, hN⟩ : ∃ N, N = xss.length := ⟨_, rfl⟩
  rw [← hN] at hl1 hl2 H1 H2 ⊢
  have HN := Lib.hid hN
  clear hN
  go_enter Tryz.func15, Tryz.ntmps15
  go_wp2_with fail
  go_loopw [5] (fun ii wr => ∃ i : Nat, i ≤ N ∧ ii = .int .i64 (i : Int) ∧ Below w.heap.size w wr) (fun ii _ => N - (intOf ii).toNat)
  case atStart => exact ⟨0, Nat.zero_le _, rfl, Below.refl _ _⟩
  case round =>
    obtain ⟨i, hi, rfl, hbr⟩ := hrel
    by_cases hlt : i < N
    · obtain ⟨xs, hxs⟩ : ∃ xs, xss[i]? = some xs := ⟨_, List.getElem?_eq_getElem (by rw [← HN.out]; exact hlt)⟩
      obtain ⟨b1, o1, B1, d1, rfl, -, hb1, r1, -, -, hR1, -⟩ := H1.out.row (Nat.le_refl _) hxs
      obtain ⟨b2, o2, B2, d2, rfl, -, hb2, r2, -, -, hR2, -⟩ := H2.out.row (Nat.le_refl _) hxs
      have r1 := kcell hbr r1
      have r2 := kcell hbr r2
      have hii : (i : Int) < (N : Int) := by omega
      have HR1 := Lib.hid (SlE.keep hR1 hbr)
      have HR2 := Lib.hid (SlE.keep hR2 hbr)
      have HBR := Lib.hid hbr
      clear hxs hR1 hR2 hbr
      go_wp2_with fail
      refine F_start 9 (fun w' => w'.cell? ⟨b1, o1 + i, none⟩ = some (.slice B1 xs.length d1) ∧ w'.cell? ⟨b2, o2 + i, none⟩ = some (.slice B2 xs.length d2)) (by kernel_rfl) (by exact ⟨r1, r2⟩) (fun hS inv => ?_)
      refine F_take (i := 0) (v := ?_) rfl (by kernel_rfl) (by kernel_rfl) (by kernel_rfl) (fun _ _ _ h => h) inv (Or.inl ⟨by rfl, ?_⟩) (by assumption) (fun invn => ?_)
      rotate_left
      · (intro w hSw; (try dsimp only at hSw); go_simp; try with_reducible rfl)
      try simp only [List.getElem_toArray, List.getElem_cons_zero, List.getElem_cons_succ, Act.put, List.setIfInBounds_toArray, List.set_cons_zero, List.set_cons_succ]
      clear inv
      have inv := invn
      clear invn
      refine F_take (i := 1) (v := ?_) rfl (by kernel_rfl) (by kernel_rfl) (by kernel_rfl) (fun _ _ _ h => h) inv (Or.inl ⟨by rfl, ?_⟩) (by assumption) (fun invn => ?_)
      rotate_left
      · (intro w hSw; (try dsimp only at hSw); go_simp; try with_reducible rfl)
      try simp only [List.getElem_toArray, List.getElem_cons_zero, List.getElem_cons_succ, Act.put, List.setIfInBounds_toArray, List.set_cons_zero, List.set_cons_succ]
      clear inv
      have inv := invn
      clear invn
      refine F_take (i := 2) (v := ?_) rfl (by kernel_rfl) (by kernel_rfl) (by kernel_rfl) (fun _ _ _ h => h) inv (Or.inl ⟨by rfl, ?_⟩) (by assumption) (fun invn => ?_)
      rotate_left
      · (intro w hSw; (try dsimp only at hSw); go_simp; try with_reducible rfl)
      try simp only [List.getElem_toArray, List.getElem_cons_zero, List.getElem_cons_succ, Act.put, List.setIfInBounds_toArray, List.set_cons_zero, List.set_cons_succ]
      clear inv
      have inv := invn
      clear invn
      refine F_take (i := 3) (v := ?_) rfl (by kernel_rfl) (by kernel_rfl) (by kernel_rfl) (fun _ _ _ h => h) inv (Or.inl ⟨by rfl, ?_⟩) (by assumption) (fun invn => ?_)
      rotate_left
      · (intro w hSw; (try dsimp only at hSw); go_simp; try with_reducible rfl)
      try simp only [List.getElem_toArray, List.getElem_cons_zero, List.getElem_cons_succ, Act.put, List.setIfInBounds_toArray, List.set_cons_zero, List.set_cons_succ]
      clear inv
      have inv := invn
      clear invn
      refine F_take (i := 4) (v := ?_) rfl (by kernel_rfl) (by kernel_rfl) (by kernel_rfl) (fun _ _ _ h => h) inv (Or.inl ⟨by rfl, ?_⟩) (by assumption) (fun invn => ?_)
      rotate_left
      · (intro w hSw; (try dsimp only at hSw); go_simp; try with_reducible rfl)
      try simp only [List.getElem_toArray, List.getElem_cons_zero, List.getElem_cons_succ, Act.put, List.setIfInBounds_toArray, List.set_cons_zero, List.set_cons_succ]
      clear inv
      have inv := invn
      clear invn
      refine F_take (i := 5) (v := ?_) rfl (by kernel_rfl) (by kernel_rfl) (by kernel_rfl) (fun _ _ _ h => h) inv (Or.inl ⟨by rfl, ?_⟩) (by assumption) (fun invn => ?_)
      rotate_left
      · (intro w hSw; (try dsimp only at hSw); go_simp; try with_reducible rfl)
      try simp only [List.getElem_toArray, List.getElem_cons_zero, List.getElem_cons_succ, Act.put, List.setIfInBounds_toArray, List.set_cons_zero, List.set_cons_succ]
      clear inv
      have inv := invn
      clear invn
      refine F_take (i := 6) (v := ?_) rfl (by kernel_rfl) (by kernel_rfl) (by kernel_rfl) (fun _ _ _ h => h) inv (Or.inl ⟨by rfl, ?_⟩) (by assumption) (fun invn => ?_)
      rotate_left
      · (intro w hSw; (try dsimp only at hSw); go_simp; try with_reducible rfl)
      try simp only [List.getElem_toArray, List.getElem_cons_zero, List.getElem_cons_succ, Act.put, List.setIfInBounds_toArray, List.set_cons_zero, List.set_cons_succ]
      clear inv
      have inv := invn
      clear invn
      refine F_take (i := 7) (v := ?_) rfl (by kernel_rfl) (by kernel_rfl) (by kernel_rfl) (fun _ _ _ h => h) inv (Or.inl ⟨by rfl, ?_⟩) (by assumption) (fun invn => ?_)
      rotate_left
      · (intro w hSw; (try dsimp only at hSw); go_simp; try with_reducible rfl)
      try simp only [List.getElem_toArray, List.getElem_cons_zero, List.getElem_cons_succ, Act.put, List.setIfInBounds_toArray, List.set_cons_zero, List.set_cons_succ]
      clear inv
      have inv := invn
      clear invn
      clear r1 r2
      refine F_one (i := 8) (by kernel_rfl) rfl rfl (by omega) inv (fun K hK => ?_)
      try simp only [List.getElem_toArray, List.getElem_cons_zero, List.getElem_cons_succ]
      go_simp
      refine (sameInts_same _ _ xs wr.drew (SlE.keep HR1.out (Below.refl wr.heap.size wr).drew) (SlE.keep HR2.out (Below.refl wr.heap.size wr).drew)).mono ?_
      rintro e w4 ⟨rfl, hb4⟩
      refine hK.out _ _ (⟨kcell hb4 hS.1, kcell hb4 hS.2⟩) (fun hSn invn => ?_)
      try simp only [List.getElem_toArray, List.getElem_cons_zero, List.getElem_cons_succ, Act.put, List.setIfInBounds_toArray, List.set_cons_zero, List.set_cons_succ]
      clear hK K inv hS
      have inv := invn
      have hS := hSn
      clear invn hSn
      have HB4 := Lib.hid (below_trans HBR.out.drew hb4)
      clear hb4
      refine F_last (i := 9) (by kernel_rfl) rfl rfl (by omega) (by kernel_rfl) (fun K hK => ?_)
      go_simp
      refine hK _ _ ?_
      clear hK K
      go_wp2_with fail
      go_roundw
      case rel => exact ⟨i + 1, by omega, by go_num, HB4.out⟩
      case measure => simp [intOf]; omega
    · obtain rfl : i = N := by omega
      go_wp2_with fail
      go_ret
      exact ⟨rfl, hbr⟩
end Go.Proofs.YtallglnmeeahiaaGreat
namespace Go.Proofs.YtallglnmeeahiaaGreat
set_option linter.unusedVariables false
set_option linter.unusedSimpArgs false
/-- a token: its kind, letter, low and high -/
abbrev Tok := Int × Int × Int × Int
def tokPlain (t : Tok) : Bool := t.2.1 == 0 && (t.2.2.1 == 0 && t.2.2.2 == 0)
/-- how many operands a token takes; none if it is no token -/
def ar (t : Tok) : Option Nat :=
  if t.1 = 1 ∨ t.1 = 2 then (if tokPlain t = true then some 0 else none)
  else if t.1 = 3 then (if 0 ≤ t.2.1 ∧ t.2.1 ≤ 8 ∧ t.2.2.1 = 0 ∧ t.2.2.2 = 0 then some 0 else none)
  else if t.1 = 4 ∨ t.1 = 5 then (if tokPlain t = true then some 2 else none)
  else if t.1 = 6 then (if tokPlain t = true then some 1 else none)
  else if t.1 = 7 then (if t.2.1 = 0 ∧ 1 ≤ t.2.2.2 ∧ t.2.2.2 ≤ 3 ∧ 0 ≤ t.2.2.1 ∧ t.2.2.1 ≤ t.2.2.2 then some 1 else none)
  else none
inductive Tr
  | leaf (t : Tok)
  | un (t : Tok) (a : Tr)
  | bin (t : Tok) (a b : Tr)
def Tr.ok : Tr → Prop
  | .leaf t => ar t = some 0
  | .un t a => ar t = some 1 ∧ a.ok
  | .bin t a b => ar t = some 2 ∧ a.ok ∧ b.ok
def Tr.root : Tr → Tok
  | .leaf t => t
  | .un t _ => t
  | .bin t _ _ => t
/-- the tokens of a tree -/
def post : Tr → List Tok
  | .leaf t => [t]
  | .un t a => post a ++ [t]
  | .bin t a b => (post a ++ post b) ++ [t]
theorem post_ne (r : Tr) : post r ≠ [] := by cases r <;> simp [post]
theorem post_pos (r : Tr) : 0 < (post r).length := List.length_pos_iff.2 (post_ne r)
/-- what tokens ask for beyond what they give -/
def net (l : List Tok) : Int := (l.map fun t => (((ar t).getD 0 : Nat) : Int) - 1).sum
theorem net_app (l r : List Tok) : net (l ++ r) = net l + net r := by simp [net, List.sum_append]
theorem net_one (t : Tok) : net [t] = (((ar t).getD 0 : Nat) : Int) - 1 := by simp [net]
theorem net_post : ∀ {r : Tr}, r.ok → net (post r) = -1
  | .leaf t, h => by rw [post, net_one, show ar t = some 0 from h]; rfl
  | .un t a, h => by rw [post, net_app, net_one, net_post h.2, h.1]; rfl
  | .bin t a b, h => by rw [post, net_app, net_app, net_one, net_post h.2.1, net_post h.2.2, h.1]; rfl
/-- a proper part at a tree's end never gives more than it asks for -/
theorem net_end : ∀ {r : Tr}, r.ok → ∀ {k : Nat}, 0 < k → 0 ≤ net ((post r).drop k)
  | .leaf t, _, k, hk => by
    have : (post (.leaf t)).drop k = [] := List.drop_eq_nil_of_le (by simp [post]; omega)
    rw [this]; simp [net]
  | .un t a, h, k, hk => by
    rw [post]
    rcases Nat.lt_or_ge k (post a).length with hl | hl
    · rw [List.drop_append_of_le_length (by omega), net_app, net_one, h.1]
      have := net_end h.2 hk
      simp only [Option.getD_some]; omega
    · rw [List.drop_append, List.drop_eq_nil_of_le hl, List.nil_append]
      rcases Nat.eq_zero_or_pos (k - (post a).length) with h0 | h0
      · rw [h0, List.drop_zero, net_one, h.1]; simp
      · rw [List.drop_eq_nil_of_le (by simp; omega)]; simp [net]
  | .bin t a b, h, k, hk => by
    rw [post]
    rcases Nat.lt_or_ge k (post a).length with hl | hl
    · rw [List.drop_append_of_le_length (by rw [List.length_append]; omega), List.drop_append_of_le_length (by omega), net_app, net_app, net_one, net_post h.2.2, h.1]
      have := net_end h.2.1 hk
      simp only [Option.getD_some]; omega
    · rcases Nat.lt_or_ge k ((post a).length + (post b).length) with hl2 | hl2
      · rw [List.drop_append_of_le_length (by rw [List.length_append]; omega), List.drop_append, List.drop_eq_nil_of_le hl, List.nil_append, net_app, net_one, h.1]
        rcases Nat.eq_zero_or_pos (k - (post a).length) with h0 | h0
        · rw [h0, List.drop_zero, net_post h.2.2]; simp
        · have := net_end h.2.2 h0
          simp only [Option.getD_some]; omega
      · rw [List.drop_append, List.drop_eq_nil_of_le (by rw [List.length_append]; exact hl2), List.nil_append]
        rcases Nat.eq_zero_or_pos (k - (post a ++ post b).length) with h0 | h0
        · rw [h0, List.drop_zero, net_one, h.1]; simp
        · rw [List.drop_eq_nil_of_le (by simp at h0 ⊢; omega)]; simp [net]
def push (st : List Tr) (t : Tok) : Option (List Tr) :=
  match ar t with
  | some 0 => some (st ++ [.leaf t])
  | some 1 => match st.getLast? with
    | some a => some (st.dropLast ++ [.un t a])
    | none => none
  | some 2 => match st.getLast?, st.dropLast.getLast? with
    | some b, some a => some (st.dropLast.dropLast ++ [.bin t a b])
    | _, _ => none
  | _ => none
def parseTo (l : List Tok) : Nat → Option (List Tr)
  | 0 => some []
  | i + 1 => match parseTo l i, l[i]? with
    | some st, some t => push st t
    | _, _ => none
theorem last_app {α : Type} {l : List α} {a : α} (h : l.getLast? = some a) : l = l.dropLast ++ [a] := by
  rw [List.getLast?_eq_some_iff] at h
  obtain ⟨ys, rfl⟩ := h
  simp
theorem ar_cases (t : Tok) : ar t = none ∨ ar t = some 0 ∨ ar t = some 1 ∨ ar t = some 2 := by
  unfold ar
  split
  · split <;> simp
  · split
    · split <;> simp
    · split
      · split <;> simp
      · split
        · split <;> simp
        · split
          · split <;> simp
          · simp
/-- what a push is: the last n trees become one -/
theorem push_eq {st st' : List Tr} {t : Tok} (h : push st t = some st') : ∃ r, st' = (st.take (st.length - (ar t).getD 0)) ++ [r] ∧ r.root = t ∧ (ar t).isSome = true ∧ (ar t).getD 0 ≤ st.length ∧ ((∀ x ∈ st, x.ok) → r.ok) ∧ post r = (st.drop (st.length - (ar t).getD 0)).flatMap post ++ [t] ∧
    ((ar t = some 0 ∧ r = .leaf t) ∨ (∃ a, ar t = some 1 ∧ r = .un t a ∧ st.drop (st.length - 1) = [a]) ∨ (∃ a b, ar t = some 2 ∧ r = .bin t a b ∧ st.drop (st.length - 2) = [a, b])) := by
  unfold push at h
  rcases ar_cases t with ha | ha | ha | ha
  · rw [ha] at h; cases h
  · rw [ha] at h
    simp only [Option.some.injEq] at h
    refine ⟨.leaf t, by rw [ha]; simp [h], rfl, by rw [ha]; rfl, by rw [ha]; exact Nat.zero_le _, fun _ => ha, by rw [ha]; simp [post], .inl ⟨ha, rfl⟩⟩
  · rw [ha] at h
    simp only at h
    cases hl : st.getLast? with
    | none => rw [hl] at h; cases h
    | some a =>
      rw [hl] at h
      simp only [Option.some.injEq] at h
      have he := last_app hl
      have hln : st.length = st.dropLast.length + 1 := by rw [he]; simp
      have hd : st.drop (st.length - 1) = [a] := by rw [he]; simp
      refine ⟨.un t a, by rw [ha, ← h]; simp [List.dropLast_eq_take], rfl, by rw [ha]; rfl, by rw [ha]; simp; omega, fun hx => ⟨ha, hx a (List.mem_of_getLast? hl)⟩, by rw [ha]; simp only [Option.getD_some]; rw [hd]; simp [post], .inr (.inl ⟨a, ha, rfl, hd⟩)⟩
  · rw [ha] at h
    simp only at h
    cases hl : st.getLast? with
    | none => rw [hl] at h; cases h
    | some b =>
      rw [hl] at h
      cases hl2 : st.dropLast.getLast? with
      | none => rw [hl2] at h; cases h
      | some a =>
        rw [hl2] at h
        simp only [Option.some.injEq] at h
        have he := last_app hl
        have he2 := last_app hl2
        obtain ⟨D, hD⟩ : ∃ D, D = st.dropLast.dropLast := ⟨_, rfl⟩
        rw [← hD] at he2 h
        rw [he2] at he
        have hst : st = D ++ [a, b] := by rw [he]; simp
        have hln : st.length = D.length + 2 := by rw [hst]; simp
        have hd : st.drop (st.length - 2) = [a, b] := by rw [hln, hst]; simp
        have ht : st.take (st.length - 2) = D := by rw [hln, hst]; simp
        refine ⟨.bin t a b, by rw [ha]; simp only [Option.getD_some]; rw [ht, h], rfl, by rw [ha]; rfl, by rw [ha]; simp; omega, fun hx => ⟨ha, hx a (by rw [hst]; simp), hx b (by rw [hst]; simp)⟩, by rw [ha]; simp only [Option.getD_some]; rw [hd]; simp [post], .inr (.inr ⟨a, b, ha, rfl, hd⟩)⟩
theorem push_some {st : List Tr} {t : Tok} {n : Nat} (ha : ar t = some n) (hn : n ≤ st.length) : ∃ st', push st t = some st' := by
  unfold push
  rcases ar_cases t with h | h | h | h
  · rw [h] at ha; cases ha
  · rw [h]; exact ⟨_, rfl⟩
  · rw [h] at ha ⊢
    injection ha with ha
    cases hl : st.getLast? with
    | none => rw [List.getLast?_eq_none_iff] at hl; subst hl; simp at hn; omega
    | some a => exact ⟨_, rfl⟩
  · rw [h] at ha ⊢
    injection ha with ha
    cases hl : st.getLast? with
    | none => rw [List.getLast?_eq_none_iff] at hl; subst hl; simp at hn; omega
    | some b =>
      have he := last_app hl
      have hln : st.length = st.dropLast.length + 1 := by
        have := congrArg List.length he
        simpa using this
      cases hl2 : st.dropLast.getLast? with
      | none => rw [List.getLast?_eq_none_iff] at hl2; rw [hl2] at hln; simp at hln; omega
      | some a => exact ⟨_, rfl⟩
theorem push_none {st : List Tr} {t : Tok} (h : ar t = none ∨ ∃ n, ar t = some n ∧ st.length < n) : push st t = none := by
  cases hp : push st t with
  | none => rfl
  | some st' =>
    obtain ⟨r, -, -, h1, h2, -⟩ := push_eq hp
    rcases h with h | ⟨n, h, hn⟩
    · rw [h] at h1; cases h1
    · rw [h] at h2; simp at h2; omega
theorem push_len {st st' : List Tr} {t : Tok} (h : push st t = some st') : st'.length + (ar t).getD 0 = st.length + 1 := by
  obtain ⟨r, rfl, -, -, h2, -⟩ := push_eq h
  rw [List.length_append, List.length_take, List.length_singleton]
  omega
theorem parse_post {l : List Tok} : ∀ {i : Nat} {st : List Tr}, parseTo l i = some st → i ≤ l.length ∧ (∀ r ∈ st, r.ok) ∧ st.flatMap post = l.take i
  | 0, st, h => by
    simp only [parseTo, Option.some.injEq] at h
    subst h
    simp
  | i + 1, st, h => by
    rw [parseTo] at h
    cases hp : parseTo l i with
    | none => rw [hp] at h; cases h
    | some st0 =>
      rw [hp] at h
      cases ht : l[i]? with
      | none => rw [ht] at h; cases h
      | some t =>
        rw [ht] at h
        simp only at h
        obtain ⟨h1, h2, h3⟩ := parse_post hp
        obtain ⟨r, rfl, -, -, h4, h5, h6, -⟩ := push_eq h
        refine ⟨(List.getElem?_eq_some_iff.1 ht).1, fun x hx => ?_, ?_⟩
        · rcases List.mem_append.1 hx with hx | hx
          · exact h2 x (List.mem_of_mem_take hx)
          · rw [List.mem_singleton] at hx
            subst hx
            exact h5 h2
        · rw [List.take_add_one, ht, ← h3, List.flatMap_append, List.flatMap_singleton, h6, ← List.append_assoc, ← List.flatMap_append, List.take_append_drop]
          rfl
/-- the tree of tokens, if they are one -/
def treeL (l : List Tok) : Option Tr := match parseTo l l.length with
  | some [r] => some r
  | _ => none
theorem treeL_post {l : List Tok} {r : Tr} (h : treeL l = some r) : r.ok ∧ post r = l := by
  unfold treeL at h
  split at h
  · rename_i hp
    injection h with h
    subst h
    obtain ⟨-, h2, h3⟩ := parse_post hp
    rw [List.take_length] at h3
    exact ⟨h2 _ (by simp), by simpa using h3⟩
  · cases h
/-- the last operand's beginning: while the need is above nought, one more token back -/
theorem start_need {xs : List Tok} {r : Tr} (hr : r.ok) {k : Nat} (h1 : xs.length < k) (h2 : k ≤ (xs ++ post r).length) : 0 < 1 + net ((xs ++ post r).drop k) := by
  rw [List.drop_append, List.drop_eq_nil_of_le (by omega), List.nil_append]
  have := net_end hr (k := k - xs.length) (by omega)
  omega
theorem start_done {xs : List Tok} {r : Tr} (hr : r.ok) : 1 + net ((xs ++ post r).drop xs.length) = 0 := by
  rw [List.drop_left, net_post hr]; rfl
end Go.Proofs.YtallglnmeeahiaaGreat
namespace Go.Proofs.YtallglnmeeahiaaGreat
set_option linter.unusedVariables false
set_option linter.unusedSimpArgs false
def tEmp : Tok := (2, 0, 0, 0)
def tCat : Tok := (4, 0, 0, 0)
def tAlt : Tok := (5, 0, 0, 0)
theorem ar_emp : ar tEmp = some 0 := by decide
theorem ar_cat : ar tCat = some 2 := by decide
theorem ar_alt : ar tAlt = some 2 := by decide
/-- the reference's measure -/
def sizeT : Tr → Nat
  | .leaf _ => 1
  | .un t a => if t.1 = 6 then min 100000 (sizeT a + 1) else min 100000 ((sizeT a + 3) * t.2.2.2.toNat + 1)
  | .bin _ a b => min 100000 (sizeT a + sizeT b + 1)
theorem sizeT_le : ∀ r : Tr, 1 ≤ sizeT r ∧ sizeT r ≤ 100000
  | .leaf _ => by simp [sizeT]
  | .un t a => by
    rw [sizeT]
    split <;> omega
  | .bin _ a b => by rw [sizeT]; omega
/-- e{low,high} -/
def timesT (a : Tr) : Nat → Nat → Tr
  | _, 0 => .leaf tEmp
  | low, h + 1 => if 0 < low then .bin tCat a (timesT a (low - 1) h) else .bin tAlt (.bin tCat a (timesT a (low - 1) h)) (.leaf tEmp)
def expT : Tr → Tr
  | .leaf t => .leaf t
  | .un t a => if t.1 = 6 then .un t (expT a) else timesT (expT a) t.2.2.1.toNat t.2.2.2.toNat
  | .bin t a b => .bin t (expT a) (expT b)
theorem timesT_ok {a : Tr} (ha : a.ok) : ∀ (h low : Nat), (timesT a low h).ok
  | 0, _ => ar_emp
  | h + 1, low => by
    rw [timesT]
    split
    · exact ⟨ar_cat, ha, timesT_ok ha h _⟩
    · exact ⟨ar_alt, ⟨ar_cat, ha, timesT_ok ha h _⟩, ar_emp⟩
theorem timesT_len (a : Tr) : ∀ (h low : Nat), (post (timesT a low h)).length ≤ ((post a).length + 3) * h + 1
  | 0, _ => by simp [timesT, post]
  | h + 1, low => by
    have ih := timesT_len a h (low - 1)
    have hm : ((post a).length + 3) * (h + 1) = ((post a).length + 3) * h + ((post a).length + 3) := Nat.mul_succ _ _
    rw [timesT, hm]
    generalize ((post a).length + 3) * h = z at ih ⊢
    split <;> simp [post] <;> omega
theorem expT_ok : ∀ {r : Tr}, r.ok → (expT r).ok
  | .leaf t, h => h
  | .un t a, h => by
    rw [expT]
    split
    · exact ⟨h.1, expT_ok h.2⟩
    · exact timesT_ok (expT_ok h.2) _ _
  | .bin t a b, h => by
    rw [expT]
    exact ⟨h.1, expT_ok h.2.1, expT_ok h.2.2⟩
theorem expT_len : ∀ {r : Tr}, sizeT r ≤ 5000 → (post (expT r)).length ≤ sizeT r
  | .leaf t, _ => by simp [expT, post, sizeT]
  | .un t a, h => by
    rw [sizeT] at h ⊢
    rw [expT]
    split at h
    · rename_i h6
      rw [if_pos h6, if_pos h6, post]
      have := expT_len (r := a) (by omega)
      simp
      omega
    · rename_i h6
      rw [if_neg h6, if_neg h6]
      have h1 := timesT_len (expT a) t.2.2.2.toNat t.2.2.1.toNat
      rcases Nat.eq_zero_or_pos t.2.2.2.toNat with h0 | h0
      · rw [h0] at h1 ⊢
        omega
      · have hs : sizeT a + 3 ≤ (sizeT a + 3) * t.2.2.2.toNat := Nat.le_mul_of_pos_right _ h0
        have h2 := expT_len (r := a) (by omega)
        have h3 : ((post (expT a)).length + 3) * t.2.2.2.toNat ≤ (sizeT a + 3) * t.2.2.2.toNat := Nat.mul_le_mul_right _ (by omega)
        omega
  | .bin t a b, h => by
    rw [sizeT] at h ⊢
    rw [expT, post]
    have h1 := expT_len (r := a) (by omega)
    have h2 := expT_len (r := b) (by omega)
    simp
    omega
theorem ar_bin {t : Tok} (h : ar t = some 2) : t = tCat ∨ t = tAlt := by
  obtain ⟨k, l, lo, hi⟩ := t
  unfold ar at h
  simp only at h
  split at h
  · split at h <;> cases h
  · split at h
    · split at h <;> cases h
    · split at h
      · rename_i hk
        split at h
        · rename_i hp
          simp only [tokPlain, Bool.and_eq_true, beq_iff_eq] at hp
          obtain ⟨rfl, rfl, rfl⟩ := hp
          rcases hk with rfl | rfl
          · exact .inl rfl
          · exact .inr rfl
        · cases h
      · split at h
        · split at h <;> cases h
        · split at h
          · split at h <;> cases h
          · cases h
end Go.Proofs.YtallglnmeeahiaaGreat
namespace Go.Proofs.YtallglnmeeahiaaGreat
set_option linter.unusedVariables false
set_option linter.unusedSimpArgs false
open Go.ChangeShapes Go.WideShapes Go.ChangeAt Go.RowKit
attribute [local go_sem] ext_cell ext_frozen ext_lt ext_lt1 ext_lt2 ext_lt3 ltn2 ltn3 ltn13 lts1 lts2 lts3
theorem l1In_any (n a b : Int) (w : World) : Calls Tryz.prog 34 #[.int .i64 n, .int .i64 a, .int .i64 b] w fun e w' => e = .returned (.bool (wi n a b)) ∧ w' = w := by
  unfold wi
  by_cases h1 : a ≤ n
  · have e1 : decide (a ≤ n) = true := by simpa using h1
    by_cases h2 : n ≤ b
    · go_enter Tryz.func34, Tryz.ntmps34
      go_wp2
      go_ret
      exact ⟨by simp [h1, h2], rfl⟩
    · go_enter Tryz.func34, Tryz.ntmps34
      go_wp2
      go_ret
      exact ⟨by simp [h1]; try omega, rfl⟩
  · have e1 : decide (a ≤ n) = false := by simpa using h1
    go_enter Tryz.func34, Tryz.ntmps34
    go_wp2
    go_ret
    exact ⟨by simp [h1]; try omega, rfl⟩
def auFits (a : Au) : Bool := wi a.start 0 ((a.accept.length : Int) - 1) && (a.next.length == a.accept.length) && a.next.all (rowOk a.accept.length)
theorem auFits_ok (a : Au) : (decide (a.accept.length ≤ 12) && auFits a) = auOk a := by
  rw [Bool.eq_iff_iff]
  simp only [auFits, auOk, Bool.and_eq_true, decide_eq_true_eq, wi_iff, beq_iff_eq]
  constructor
  · rintro ⟨h1, ⟨h2, h3⟩, h4⟩
    exact ⟨⟨⟨by omega, h2⟩, h3⟩, h4⟩
  · rintro ⟨⟨⟨h1, h2⟩, h3⟩, h4⟩
    exact ⟨by omega, ⟨h2, h3⟩, h4⟩
set_option maxHeartbeats 1000000 in
theorem l11Fits_any (v : Value) (a : Au) (w : World) (hv : AuV 0 w.heap.size w v a) :
    Calls Tryz.prog 52 #[v] w fun e w' => e = .returned (.bool (auFits a)) ∧ Below w.heap.size w w' := by
  obtain ⟨ac, nx, rfl, ⟨A1, c1, rfl, hl1, hm1, -⟩, us, ⟨A2, c2, rfl, hl2, hm2, hx2⟩, hul, hrows⟩ := hv
  rw [hul] at hl2 ⊢
  have HU := Lib.hid hul
  clear hul
  unfold maxLen at hm1 hm2
  have hb0 : Below w.heap.size w (w.alloc (.cells #[.int .i64 a.start, .slice A1 a.accept.length c1, .slice A2 a.next.length c2] 31)) := (Below.refl _ _).alloc (Nat.le_refl _) _
  have HW := Lib.hid l1In_any
  by_cases g2 : wi a.start 0 ((a.accept.length : Int) - 1) = true
  · by_cases g3 : a.next.length = a.accept.length
    · have HG3 := Lib.hid g3
      have g3' : ((a.next.length : Int) != (a.accept.length : Int)) = false := by simp; omega
      have hr : auFits a = a.next.all (rowOk a.accept.length) := by simp [auFits, g2, g3]
      have HR := Lib.hid hr
      clear hr g3
      obtain ⟨hn1, hn2⟩ := wi_iff.1 g2
      go_enter Tryz.func52, Tryz.ntmps52
      go_wp2_with (go_at_call 34; refine (HW.out _ _ _ _).mono ?_; rintro e w' ⟨rfl, rfl⟩)
      go_loop [4, 5] (fun ii jj => ∃ i : Nat, i ≤ a.accept.length ∧ ii = .int .i64 i ∧ (a.next.take i).all (rowOk a.accept.length) = true) (fun ii _ => a.accept.length - (intOf ii).toNat)
      case atStart => exact ⟨0, Nat.zero_le _, rfl, rfl⟩
      case round =>
        obtain ⟨i, hi, rfl, hall⟩ := hrel
        have HA := Lib.hid hall
        clear hall
        by_cases hlt : i < a.accept.length
        · have hlt' : i < a.next.length := by have := HG3.out; omega
          obtain ⟨u, hu⟩ : ∃ u, us[i]? = some u := ⟨_, List.getElem?_eq_getElem (by have := HU.out; omega)⟩
          obtain ⟨b, o, rfl, -, hb1, hc⟩ := hx2 i u hu
          have hxi : a.next[i]? = some a.next[i] := List.getElem?_eq_getElem hlt'
          have hvi := hrows i u _ hu hxi
          generalize a.next[i] = row at hvi hxi
          have c0 := hc 0 _ rfl
          simp only [Nat.mul_one, Nat.add_zero] at c0
          obtain ⟨A3, c3, rfl, hl3, hm3, hx3⟩ := hvi
          unfold maxLen at hm3
          have HX := Lib.hid hxi
          clear hc hx2 hu hxi hrows
          by_cases g9 : row.length = 9
          · have g9' : ((row.length : Int) != 9) = false := by simp; omega
            have HG9 := Lib.hid g9
            have hl9 : 9 ≤ row.length := by omega
            clear g9
            go_wp2_with fail
            go_loop [5] (fun jj => ∃ j : Nat, j ≤ 9 ∧ jj = .int .i64 j ∧ (row.take j).all (fun t => wi t (-1) ((a.accept.length : Int) - 1)) = true) (fun jj => 9 - (intOf jj).toNat)
            case atStart => exact ⟨0, Nat.zero_le _, rfl, rfl⟩
            case round =>
              obtain ⟨j, hj, rfl, hall2⟩ := hrel
              have HB := Lib.hid hall2
              clear hall2
              by_cases hlt2 : j < 9
              · have hlt3 : j < row.length := by omega
                have hxj : row[j]? = some row[j] := List.getElem?_eq_getElem hlt3
                obtain ⟨b2, o2, rfl, -, hb2, hc2⟩ := hx3 j _ hxj
                generalize row[j] = t at hc2 hxj
                have d0 := hc2 0 _ rfl
                simp only [Nat.mul_one, Nat.add_zero] at d0
                have HXJ := Lib.hid hxj
                clear hc2 hx3 hxj
                by_cases g4 : wi t (-1) ((a.accept.length : Int) - 1) = true
                · go_wp2_with (go_at_call 34; refine (HW.out _ _ _ _).mono ?_; rintro e w' ⟨rfl, rfl⟩)
                  go_round
                  case rel => exact ⟨j + 1, by omega, by go_num, all_take_succ HXJ.out HB.out g4⟩
                  case measure => simp [intOf]; omega
                · simp only [Bool.not_eq_true] at g4
                  have hfin : auFits a = false := by
                    rw [HR.out]
                    refine all_false_of HX.out ?_
                    rw [rowOk, all_false_of HXJ.out g4]
                    rfl
                  have HF := Lib.hid hfin
                  clear hfin
                  go_wp2_with (go_at_call 34; refine (HW.out _ _ _ _).mono ?_; rintro e w' ⟨rfl, rfl⟩)
                  go_ret
                  exact ⟨by rw [HF.out]; rfl, hb0⟩
              · obtain rfl : j = 9 := by omega
                have hok : rowOk a.accept.length row = true := by
                  have h3 := HB.out
                  rw [show 9 = row.length from HG9.out.symm, List.take_length] at h3
                  rw [rowOk, h3, HG9.out]
                  rfl
                have HO := Lib.hid hok
                clear hok hx3
                go_wp2_with fail
                go_round
                case rel => exact ⟨i + 1, by omega, by go_num, all_take_succ HX.out HA.out HO.out⟩
                case measure => simp [intOf]; omega
          · have g9' : ((row.length : Int) != 9) = true := by simp; omega
            have hfin : auFits a = false := by
              rw [HR.out]
              refine all_false_of HX.out ?_
              rw [rowOk]
              simp [g9]
            have HF := Lib.hid hfin
            clear hfin g9
            go_wp2_with fail
            go_ret
            exact ⟨by rw [HF.out]; rfl, hb0⟩
        · obtain rfl : i = a.accept.length := by omega
          have hfin : auFits a = true := by rw [HR.out]; have := HA.out; rw [← HG3.out, List.take_length] at this; rw [HG3.out] at this; exact this
          have HF := Lib.hid hfin
          clear hfin hx2 hrows
          go_wp2_with fail
          go_ret
          exact ⟨by rw [HF.out]; rfl, hb0⟩
    · have g3' : ((a.next.length : Int) != (a.accept.length : Int)) = true := by simp; omega
      have hr : auFits a = false := by simp [auFits, g3]
      have HR := Lib.hid hr
      clear hr g3
      go_enter Tryz.func52, Tryz.ntmps52
      go_wp2_with (go_at_call 34; refine (HW.out _ _ _ _).mono ?_; rintro e w' ⟨rfl, rfl⟩)
      go_ret
      exact ⟨by rw [HR.out]; rfl, hb0⟩
  · simp only [Bool.not_eq_true] at g2
    have hr : auFits a = false := by simp [auFits, g2]
    have HR := Lib.hid hr
    clear hr
    go_enter Tryz.func52, Tryz.ntmps52
    go_wp2_with (go_at_call 34; refine (HW.out _ _ _ _).mono ?_; rintro e w' ⟨rfl, rfl⟩)
    go_ret
    exact ⟨by rw [HR.out]; rfl, hb0⟩
theorem specValidAutomaton (v : Value) (a : Au) (w : World) (hv : AuV 0 w.heap.size w v a) :
    Calls Tryz.prog 25 #[v] w fun e w' => e = .returned (.bool (auOk a)) ∧ Below w.heap.size w w' := by
  have hv0 := hv
  obtain ⟨ac, nx, rfl, ⟨A1, c1, rfl, hl1, hm1, -⟩, -⟩ := hv
  unfold maxLen at hm1
  have hb0 : Below w.heap.size w (w.alloc (.cells #[.int .i64 a.start, .slice A1 a.accept.length c1, nx] 31)) := (Below.refl _ _).alloc (Nat.le_refl _) _
  have hok := auFits_ok a
  by_cases g : a.accept.length ≤ 12
  · have e1 : decide ((a.accept.length : Int) ≤ 12) = true := by simp; omega
    rw [decide_eq_true g, Bool.true_and] at hok
    have HO := Lib.hid hok
    clear hok
    go_enter Tryz.func25, Tryz.ntmps25
    go_wp2_with fail
    refine (l11Fits_any _ a _ (hv0.keep hb0)).mono ?_
    rintro e w1 ⟨rfl, hb1⟩
    go_wp2_with fail
    go_ret
    exact ⟨by rw [← HO.out]; rfl, below_trans hb0 hb1⟩
  · have e1 : decide ((a.accept.length : Int) ≤ 12) = false := by simp; omega
    rw [decide_eq_false g, Bool.false_and] at hok
    have HO := Lib.hid hok
    clear hok
    go_enter Tryz.func25, Tryz.ntmps25
    go_wp2_with fail
    go_ret
    exact ⟨by rw [← HO.out]; rfl, hb0⟩
end Go.Proofs.YtallglnmeeahiaaGreat
namespace Go.Proofs.YtallglnmeeahiaaGreat
set_option linter.unusedVariables false
set_option linter.unusedSimpArgs false
open Go.ChangeShapes Go.WideShapes Go.ChangeAt Go.RowKit
attribute [local go_sem] ext_cell ext_frozen ext_lt ext_lt1 ext_lt2 ext_lt3 ltn2 ltn3 ltn13 lts1 lts2 lts3
def arI (t : Tok) : Int := match ar t with | some n => (n : Int) | none => -1
theorem arI_some {t : Tok} {n : Nat} (h : ar t = some n) : arI t = n := by rw [arI, h]
theorem arI_none {t : Tok} (h : ar t = none) : arI t = -1 := by rw [arI, h]
theorem arI_bd (t : Tok) : -1 ≤ arI t ∧ arI t ≤ 2 := by
  rcases ar_cases t with h | h | h | h <;> simp [arI, h]
theorem l2Letter_any (n : Int) (w : World) : Calls Tryz.prog 99 #[.int .i64 n] w fun e w' => e = .returned (.bool (wi n 0 8)) ∧ w' = w := by
  go_enter Tryz.func99, Tryz.ntmps99
  go_wp2_with fail
  refine (l1In_any n 0 8 _).mono ?_
  rintro e w' ⟨rfl, rfl⟩
  go_wp2_with fail
  go_ret
  exact ⟨rfl, rfl⟩
set_option maxHeartbeats 4000000 in
theorem l8Arity_any (t : Tok) (w : World) :
    Calls Tryz.prog 130 #[.agg #[.int .i64 t.1, .int .i64 t.2.1, .int .i64 t.2.2.1, .int .i64 t.2.2.2]] w fun e w' => e = .returned (.int .i64 (arI t)) ∧ Below w.heap.size w w' := by
  obtain ⟨k, l, lo, hi⟩ := t
  simp only
  obtain ⟨R, hR⟩ : ∃ R, R = arI (k, l, lo, hi) := ⟨_, rfl⟩
  rw [← hR]
  have HR := Lib.hid hR
  clear hR
  by_cases h1 : k = 1
  · subst h1
    by_cases hl : l = 0
    · by_cases hlo : lo = 0
      · by_cases hhi : hi = 0
        · subst hl hlo hhi
          have hfin : R = 0 := by rw [HR.out]; decide
          clear HR
          subst hfin
          go_enter Tryz.func130, Tryz.ntmps130
          go_wp2
          go_ret
          exact ⟨rfl, (Below.refl _ _).alloc (Nat.le_refl _) _⟩
        · have hx : (hi != 0) = true := by simpa using hhi
          have hfin : R = -1 := by rw [HR.out]; simp [arI, ar, tokPlain, hhi]
          subst hl hlo
          clear hhi HR
          subst hfin
          go_enter Tryz.func130, Tryz.ntmps130
          go_wp2
          go_ret
          exact ⟨rfl, (Below.refl _ _).alloc (Nat.le_refl _) _⟩
      · have hx : (lo != 0) = true := by simpa using hlo
        have hfin : R = -1 := by rw [HR.out]; simp [arI, ar, tokPlain, hlo]
        subst hl
        clear hlo HR
        subst hfin
        go_enter Tryz.func130, Tryz.ntmps130
        go_wp2
        go_ret
        exact ⟨rfl, (Below.refl _ _).alloc (Nat.le_refl _) _⟩
    · have hx : (l != 0) = true := by simpa using hl
      have hfin : R = -1 := by rw [HR.out]; simp [arI, ar, tokPlain, hl]
      clear hl HR
      subst hfin
      go_enter Tryz.func130, Tryz.ntmps130
      go_wp2
      go_ret
      exact ⟨rfl, (Below.refl _ _).alloc (Nat.le_refl _) _⟩
  by_cases h2 : k = 2
  · subst h2
    clear h1
    by_cases hl : l = 0
    · by_cases hlo : lo = 0
      · by_cases hhi : hi = 0
        · subst hl hlo hhi
          have hfin : R = 0 := by rw [HR.out]; decide
          clear HR
          subst hfin
          go_enter Tryz.func130, Tryz.ntmps130
          go_wp2
          go_ret
          exact ⟨rfl, (Below.refl _ _).alloc (Nat.le_refl _) _⟩
        · have hx : (hi != 0) = true := by simpa using hhi
          have hfin : R = -1 := by rw [HR.out]; simp [arI, ar, tokPlain, hhi]
          subst hl hlo
          clear hhi HR
          subst hfin
          go_enter Tryz.func130, Tryz.ntmps130
          go_wp2
          go_ret
          exact ⟨rfl, (Below.refl _ _).alloc (Nat.le_refl _) _⟩
      · have hx : (lo != 0) = true := by simpa using hlo
        have hfin : R = -1 := by rw [HR.out]; simp [arI, ar, tokPlain, hlo]
        subst hl
        clear hlo HR
        subst hfin
        go_enter Tryz.func130, Tryz.ntmps130
        go_wp2
        go_ret
        exact ⟨rfl, (Below.refl _ _).alloc (Nat.le_refl _) _⟩
    · have hx : (l != 0) = true := by simpa using hl
      have hfin : R = -1 := by rw [HR.out]; simp [arI, ar, tokPlain, hl]
      clear hl HR
      subst hfin
      go_enter Tryz.func130, Tryz.ntmps130
      go_wp2
      go_ret
      exact ⟨rfl, (Below.refl _ _).alloc (Nat.le_refl _) _⟩
  by_cases h4 : k = 4
  · subst h4
    clear h1 h2
    by_cases hl : l = 0
    · by_cases hlo : lo = 0
      · by_cases hhi : hi = 0
        · subst hl hlo hhi
          have hfin : R = 2 := by rw [HR.out]; decide
          clear HR
          subst hfin
          go_enter Tryz.func130, Tryz.ntmps130
          go_wp2
          go_ret
          exact ⟨rfl, (Below.refl _ _).alloc (Nat.le_refl _) _⟩
        · have hx : (hi != 0) = true := by simpa using hhi
          have hfin : R = -1 := by rw [HR.out]; simp [arI, ar, tokPlain, hhi]
          subst hl hlo
          clear hhi HR
          subst hfin
          go_enter Tryz.func130, Tryz.ntmps130
          go_wp2
          go_ret
          exact ⟨rfl, (Below.refl _ _).alloc (Nat.le_refl _) _⟩
      · have hx : (lo != 0) = true := by simpa using hlo
        have hfin : R = -1 := by rw [HR.out]; simp [arI, ar, tokPlain, hlo]
        subst hl
        clear hlo HR
        subst hfin
        go_enter Tryz.func130, Tryz.ntmps130
        go_wp2
        go_ret
        exact ⟨rfl, (Below.refl _ _).alloc (Nat.le_refl _) _⟩
    · have hx : (l != 0) = true := by simpa using hl
      have hfin : R = -1 := by rw [HR.out]; simp [arI, ar, tokPlain, hl]
      clear hl HR
      subst hfin
      go_enter Tryz.func130, Tryz.ntmps130
      go_wp2
      go_ret
      exact ⟨rfl, (Below.refl _ _).alloc (Nat.le_refl _) _⟩
  by_cases h5 : k = 5
  · subst h5
    clear h1 h2 h4
    by_cases hl : l = 0
    · by_cases hlo : lo = 0
      · by_cases hhi : hi = 0
        · subst hl hlo hhi
          have hfin : R = 2 := by rw [HR.out]; decide
          clear HR
          subst hfin
          go_enter Tryz.func130, Tryz.ntmps130
          go_wp2
          go_ret
          exact ⟨rfl, (Below.refl _ _).alloc (Nat.le_refl _) _⟩
        · have hx : (hi != 0) = true := by simpa using hhi
          have hfin : R = -1 := by rw [HR.out]; simp [arI, ar, tokPlain, hhi]
          subst hl hlo
          clear hhi HR
          subst hfin
          go_enter Tryz.func130, Tryz.ntmps130
          go_wp2
          go_ret
          exact ⟨rfl, (Below.refl _ _).alloc (Nat.le_refl _) _⟩
      · have hx : (lo != 0) = true := by simpa using hlo
        have hfin : R = -1 := by rw [HR.out]; simp [arI, ar, tokPlain, hlo]
        subst hl
        clear hlo HR
        subst hfin
        go_enter Tryz.func130, Tryz.ntmps130
        go_wp2
        go_ret
        exact ⟨rfl, (Below.refl _ _).alloc (Nat.le_refl _) _⟩
    · have hx : (l != 0) = true := by simpa using hl
      have hfin : R = -1 := by rw [HR.out]; simp [arI, ar, tokPlain, hl]
      clear hl HR
      subst hfin
      go_enter Tryz.func130, Tryz.ntmps130
      go_wp2
      go_ret
      exact ⟨rfl, (Below.refl _ _).alloc (Nat.le_refl _) _⟩
  by_cases h6 : k = 6
  · subst h6
    clear h1 h2 h4 h5
    by_cases hl : l = 0
    · by_cases hlo : lo = 0
      · by_cases hhi : hi = 0
        · subst hl hlo hhi
          have hfin : R = 1 := by rw [HR.out]; decide
          clear HR
          subst hfin
          go_enter Tryz.func130, Tryz.ntmps130
          go_wp2
          go_ret
          exact ⟨rfl, (Below.refl _ _).alloc (Nat.le_refl _) _⟩
        · have hx : (hi != 0) = true := by simpa using hhi
          have hfin : R = -1 := by rw [HR.out]; simp [arI, ar, tokPlain, hhi]
          subst hl hlo
          clear hhi HR
          subst hfin
          go_enter Tryz.func130, Tryz.ntmps130
          go_wp2
          go_ret
          exact ⟨rfl, (Below.refl _ _).alloc (Nat.le_refl _) _⟩
      · have hx : (lo != 0) = true := by simpa using hlo
        have hfin : R = -1 := by rw [HR.out]; simp [arI, ar, tokPlain, hlo]
        subst hl
        clear hlo HR
        subst hfin
        go_enter Tryz.func130, Tryz.ntmps130
        go_wp2
        go_ret
        exact ⟨rfl, (Below.refl _ _).alloc (Nat.le_refl _) _⟩
    · have hx : (l != 0) = true := by simpa using hl
      have hfin : R = -1 := by rw [HR.out]; simp [arI, ar, tokPlain, hl]
      clear hl HR
      subst hfin
      go_enter Tryz.func130, Tryz.ntmps130
      go_wp2
      go_ret
      exact ⟨rfl, (Below.refl _ _).alloc (Nat.le_refl _) _⟩
  by_cases h3 : k = 3
  · subst h3
    clear h1 h2 h4 h5 h6
    by_cases hw : wi l 0 8 = true
    · have hw' := wi_iff.1 hw
      by_cases hlo : lo = 0
      · by_cases hhi : hi = 0
        · subst hlo hhi
          have hfin : R = 0 := by rw [HR.out]; simp [arI, ar, hw']
          clear HR hw'
          have hc : wi l 0 8 = true := hw
          subst hfin
          go_enter Tryz.func130, Tryz.ntmps130
          go_wp2_with (refine (l2Letter_any l _).mono ?_; rintro e w' ⟨rfl, rfl⟩)
          go_ret
          exact ⟨rfl, (Below.refl _ _).alloc (Nat.le_refl _) _⟩
        · have hx : (hi != 0) = true := by simpa using hhi
          have hfin : R = -1 := by rw [HR.out]; simp [arI, ar, hhi]
          subst hlo
          clear hhi HR hw'
          subst hfin
          go_enter Tryz.func130, Tryz.ntmps130
          go_wp2_with (refine (l2Letter_any l _).mono ?_; rintro e w' ⟨rfl, rfl⟩)
          go_ret
          exact ⟨rfl, (Below.refl _ _).alloc (Nat.le_refl _) _⟩
      · have hx : (lo != 0) = true := by simpa using hlo
        have hfin : R = -1 := by rw [HR.out]; simp [arI, ar, hlo]
        clear hlo HR hw'
        subst hfin
        go_enter Tryz.func130, Tryz.ntmps130
        go_wp2_with (refine (l2Letter_any l _).mono ?_; rintro e w' ⟨rfl, rfl⟩)
        go_ret
        exact ⟨rfl, (Below.refl _ _).alloc (Nat.le_refl _) _⟩
    · have hw0 : wi l 0 8 = false := by simpa using hw
      have hw' : ¬ (0 ≤ l ∧ l ≤ 8) := fun h => hw (wi_iff.2 h)
      have hfin : R = -1 := by
        rw [HR.out]
        have : ar (3, l, lo, hi) = none := by
          unfold ar
          simp only [show ¬ ((3 : Int) = 1 ∨ (3 : Int) = 2) by decide, if_false, if_true]
          rw [if_neg (fun h => hw' ⟨h.1, h.2.1⟩)]
        rw [arI, this]
      clear HR hw' hw
      subst hfin
      go_enter Tryz.func130, Tryz.ntmps130
      go_wp2_with (refine (l2Letter_any l _).mono ?_; rintro e w' ⟨rfl, rfl⟩)
      go_ret
      exact ⟨rfl, (Below.refl _ _).alloc (Nat.le_refl _) _⟩
  by_cases h7 : k = 7
  · subst h7
    clear h1 h2 h3 h4 h5 h6
    by_cases hl : l = 0
    · subst hl
      have hno : ¬ ((0 : Int) = 0 ∧ 1 ≤ hi ∧ hi ≤ 3 ∧ 0 ≤ lo ∧ lo ≤ hi) → R = -1 := by
        intro h
        rw [HR.out]
        have : ar (7, 0, lo, hi) = none := by
          unfold ar
          simp only [show ¬ ((7 : Int) = 1 ∨ (7 : Int) = 2) by decide, show ¬ ((7 : Int) = 4 ∨ (7 : Int) = 5) by decide, show ¬ (7 : Int) = 3 by decide, show ¬ (7 : Int) = 6 by decide, if_false, if_true]
          rw [if_neg (fun h' => h ⟨rfl, h'.2⟩)]
        rw [arI, this]
      by_cases hw : wi hi 1 3 = true
      · by_cases hv : wi lo 0 hi = true
        · have hfin : R = 1 := by
            rw [HR.out]
            have h1 := wi_iff.1 hw
            have h2 := wi_iff.1 hv
            simp [arI, ar, h1, h2]
          clear HR hno
          subst hfin
          go_enter Tryz.func130, Tryz.ntmps130
          go_wp2_with (refine (l1In_any _ _ _ _).mono ?_; rintro e w' ⟨rfl, rfl⟩)
          go_ret
          exact ⟨rfl, (Below.refl _ _).alloc (Nat.le_refl _) _⟩
        · have hv0 : wi lo 0 hi = false := by simpa using hv
          have hfin := hno (fun h => hv (wi_iff.2 ⟨h.2.2.2.1, h.2.2.2.2⟩))
          clear HR hno hv
          subst hfin
          go_enter Tryz.func130, Tryz.ntmps130
          go_wp2_with (refine (l1In_any _ _ _ _).mono ?_; rintro e w' ⟨rfl, rfl⟩)
          go_ret
          exact ⟨rfl, (Below.refl _ _).alloc (Nat.le_refl _) _⟩
      · have hw0 : wi hi 1 3 = false := by simpa using hw
        have hfin := hno (fun h => hw (wi_iff.2 ⟨h.2.1, h.2.2.1⟩))
        clear HR hno hw
        subst hfin
        go_enter Tryz.func130, Tryz.ntmps130
        go_wp2_with (refine (l1In_any _ _ _ _).mono ?_; rintro e w' ⟨rfl, rfl⟩)
        go_ret
        exact ⟨rfl, (Below.refl _ _).alloc (Nat.le_refl _) _⟩
    · have hx : (l != 0) = true := by simpa using hl
      have hfin : R = -1 := by rw [HR.out]; simp [arI, ar, hl]
      clear hl HR
      subst hfin
      go_enter Tryz.func130, Tryz.ntmps130
      go_wp2
      go_ret
      exact ⟨rfl, (Below.refl _ _).alloc (Nat.le_refl _) _⟩
  · have q1 : (k == 1) = false := by simpa using h1
    have q2 : (k == 2) = false := by simpa using h2
    have q3 : (k == 3) = false := by simpa using h3
    have q4 : (k == 4) = false := by simpa using h4
    have q5 : (k == 5) = false := by simpa using h5
    have q6 : (k == 6) = false := by simpa using h6
    have q7 : (k == 7) = false := by simpa using h7
    have hfin : R = -1 := by rw [HR.out]; simp [arI, ar, h1, h2, h3, h4, h5, h6, h7]
    clear HR h1 h2 h3 h4 h5 h6 h7
    subst hfin
    go_enter Tryz.func130, Tryz.ntmps130
    go_wp2
    go_ret
    exact ⟨rfl, (Below.refl _ _).alloc (Nat.le_refl _) _⟩
end Go.Proofs.YtallglnmeeahiaaGreat
namespace Go.Proofs.YtallglnmeeahiaaGreat
set_option linter.unusedVariables false
set_option linter.unusedSimpArgs false
open Go.ChangeShapes Go.WideShapes Go.ChangeAt Go.RowKit
attribute [local go_sem] ext_cell ext_frozen ext_lt ext_lt1 ext_lt2 ext_lt3 ltn2 ltn3 ltn13 lts1 lts2 lts3
theorem parse_fail {l : List Tok} {i : Nat} (h : parseTo l i = none) : ∀ {j : Nat}, i ≤ j → parseTo l j = none
  | 0, hj => by obtain rfl : i = 0 := by omega
                exact h
  | j + 1, hj => by
    rcases Nat.eq_or_lt_of_le hj with rfl | hl
    · exact h
    · rw [parseTo, parse_fail h (j := j) (by omega)]
theorem parse_step {l : List Tok} {i : Nat} {st : List Tr} {t : Tok} (h : parseTo l i = some st) (ht : l[i]? = some t) : parseTo l (i + 1) = push st t := by
  rw [parseTo, h, ht]
theorem treeL_no {l : List Tok} {i : Nat} (h : parseTo l i = none) (hi : i ≤ l.length) : (treeL l).isSome = false := by
  rw [treeL, parse_fail h hi]; rfl
theorem treeL_end {l : List Tok} {st : List Tr} (h : parseTo l l.length = some st) : (treeL l).isSome = decide (st.length = 1) := by
  rw [treeL, h]
  match st with
  | [] => rfl
  | [r] => rfl
  | _ :: _ :: _ => simp
theorem parse_len {l : List Tok} : ∀ {i : Nat} {st : List Tr}, parseTo l i = some st → st.length ≤ i
  | 0, st, h => by
    simp only [parseTo, Option.some.injEq] at h
    subst h
    simp
  | i + 1, st, h => by
    rw [parseTo] at h
    cases hp : parseTo l i with
    | none => rw [hp] at h; cases h
    | some st0 =>
      rw [hp] at h
      cases ht : l[i]? with
      | none => rw [ht] at h; cases h
      | some t =>
        rw [ht] at h
        have h1 := push_len h
        have h2 := parse_len hp
        omega
/-- an expression: at most 24 tokens that are one tree -/
def okE (l : List Tok) : Bool := decide (l.length ≤ 24) && (treeL l).isSome
set_option maxHeartbeats 4000000 in
theorem isExpr_any (ss : Value) (l : List Tok) (w : World) (hv : SlE w cEd 4 ss l) :
    Calls Tryz.prog 128 #[.agg #[ss]] w fun e w' => e = .returned (.bool (treeL l).isSome) ∧ Below w.heap.size w w' := by
  obtain ⟨A, c, rfl, hl, hm, hx⟩ := hv
  unfold maxLen at hm
  have HX := Lib.hid hx
  obtain ⟨n, hn⟩ : ∃ n, n = l.length := ⟨_, rfl⟩
  obtain ⟨R, hR⟩ : ∃ R, R = (treeL l).isSome := ⟨_, rfl⟩
  rw [← hR, ← hn]
  rw [← hn] at hl
  have HN := Lib.hid hn
  have HR := Lib.hid hR
  clear hx hn hR
  have hb0 : Below w.heap.size w (w.alloc (.cells #[.slice A n c] 131)) := (Below.refl _ _).alloc (Nat.le_refl _) _
  have bk := Blk.new w 131 #[.slice A n c] _ rfl
  go_enter Tryz.func128, Tryz.ntmps128
  go_wp2
  go_loopw [3, 4] (fun dd ii wr => ∃ (i : Nat) (st : List Tr), i ≤ n ∧ parseTo l i = some st ∧ dd = .int .i64 (st.length : Int) ∧ ii = .int .i64 (i : Int) ∧ Below w.heap.size w wr ∧ Blk wr w.heap.size 131 #[.slice A n c]) (fun _ ii _ => n - (intOf ii).toNat)
  case atStart => exact ⟨0, [], Nat.zero_le _, rfl, rfl, rfl, hb0, bk⟩
  case round =>
    obtain ⟨i, st, hi, hp, rfl, rfl, hb, hbk⟩ := hrel
    have hsl := parse_len hp
    have HP := Lib.hid hp
    have HB := Lib.hid hb
    have HBK := Lib.hid hbk
    have x0 : wr.cell? ⟨w.heap.size, 0, none⟩ = some (.slice A n c) := hbk.cell 0
    have hlw := hbk.lt
    clear hp hb hbk hb0 bk
    obtain ⟨d, hd⟩ : ∃ d, d = st.length := ⟨_, rfl⟩
    rw [← hd] at hsl ⊢
    have HD := Lib.hid hd
    clear hd
    by_cases hlt : i < n
    · have hxi : l[i]? = some l[i] := List.getElem?_eq_getElem (by have := HN.out; omega)
      obtain ⟨q, o, rfl, -, hq, hcc⟩ := HX.out i _ hxi
      generalize l[i] = t at hcc hxi
      have HXI := Lib.hid hxi
      have hbt := arI_bd t
      have e0 := (HB.out.cell (p := ⟨q, o + i * 4 + 0, none⟩) hq).trans (hcc 0 _ rfl)
      have e1 := (HB.out.cell (p := ⟨q, o + i * 4 + 1, none⟩) hq).trans (hcc 1 _ rfl)
      have e2 := (HB.out.cell (p := ⟨q, o + i * 4 + 2, none⟩) hq).trans (hcc 2 _ rfl)
      have e3 := (HB.out.cell (p := ⟨q, o + i * 4 + 3, none⟩) hq).trans (hcc 3 _ rfl)
      simp only [Nat.add_zero] at e0
      have hii : (i : Int) < (n : Int) := by omega
      clear hcc hxi
      go_wp2_with fail
      refine (l8Arity_any t _).mono ?_
      rintro e w2 ⟨rfl, hb2⟩
      have HB2 := Lib.hid (HB.out.trans (hb2.mono HB.out.size))
      have HBK2 := Lib.hid (HBK.out.keep hb2)
      clear e0 e1 e2 e3 x0 hb2
      rcases ar_cases t with ha | ha
      · have hf := arI_none ha
        rw [hf]
        have hfin : R = false := by rw [HR.out]; exact treeL_no (i := i + 1) (by rw [parse_step HP.out HXI.out]; exact push_none (.inl ha)) (by have := HN.out; omega)
        clear HR ha hf hbt
        subst hfin
        go_wp2_with fail
        go_ret
        exact ⟨rfl, HB2.out⟩
      · obtain ⟨a, haa⟩ : ∃ a, ar t = some a := by rcases ha with h | h | h <;> exact ⟨_, h⟩
        have hf := arI_some haa
        rw [hf] at hbt ⊢
        clear ha hf
        by_cases had : d < a
        · have hfin : R = false := by rw [HR.out]; exact treeL_no (i := i + 1) (by rw [parse_step HP.out HXI.out]; exact push_none (.inr ⟨a, haa, by have := HD.out; omega⟩)) (by have := HN.out; omega)
          clear HR haa
          subst hfin
          have hdd : (d : Int) < (a : Int) := by omega
          have hd0 : decide ((a : Int) < 0) = false := decide_eq_false (by omega)
          go_wp2_with fail
          go_ret
          exact ⟨rfl, HB2.out⟩
        · obtain ⟨st', hst⟩ := push_some haa (st := st) (by have := HD.out; omega)
          have hpl := push_len hst
          rw [haa] at hpl
          simp only [Option.getD_some] at hpl
          have HST := Lib.hid hst
          have HPL := Lib.hid hpl
          have HAA := Lib.hid haa
          clear hst hpl haa
          have hdd : ¬ (d : Int) < (a : Int) := by omega
          have hd0 : decide ((a : Int) < 0) = false := decide_eq_false (by omega)
          go_wp2_with fail
          go_roundw
          case rel =>
            refine ⟨i + 1, st', by omega, by rw [parse_step HP.out HXI.out]; exact HST.out, ?_, by go_num, HB2.out, HBK2.out⟩
            have h1 := HPL.out
            have h2 := HD.out
            congr 1
            omega
          case measure => simp [intOf]; omega
    · have hin : i = n := by omega
      have hpe : parseTo l l.length = some st := by have h := HP.out; rw [hin, HN.out] at h; exact h
      have hfin : R = decide (d = 1) := by rw [HR.out, treeL_end hpe, HD.out]
      clear HR hpe
      have hii : ¬ (i : Int) < (n : Int) := by omega
      clear hin
      by_cases hd1 : d = 1
      · have hR1 : R = true := by rw [hfin]; simpa using hd1
        clear hfin
        subst hR1 hd1
        go_wp2_with fail
        go_ret
        exact ⟨rfl, HB.out⟩
      · have hR1 : R = false := by rw [hfin]; simpa using hd1
        have hdd : ((d : Int) == 1) = false := by simp; omega
        clear hfin hd1
        subst hR1
        go_wp2_with fail
        go_ret
        exact ⟨rfl, HB.out⟩
set_option maxHeartbeats 1000000 in
theorem isValidExpr_any (ss : Value) (l : List Tok) (w : World) (hv : SlE w cEd 4 ss l) :
    Calls Tryz.prog 118 #[.agg #[ss]] w fun e w' => e = .returned (.bool (okE l)) ∧ Below w.heap.size w w' := by
  have HV := Lib.hid hv
  obtain ⟨A, c, rfl, hl, hm, -⟩ := hv
  unfold maxLen at hm
  obtain ⟨n, hn⟩ : ∃ n, n = l.length := ⟨_, rfl⟩
  obtain ⟨R, hR⟩ : ∃ R, R = okE l := ⟨_, rfl⟩
  rw [← hR]
  rw [← hn] at hl HV ⊢
  have HR := Lib.hid (show R = (decide (n ≤ 24) && (treeL l).isSome) by rw [hR, okE, hn])
  clear hR hn
  have hb0 : Below w.heap.size w (w.alloc (.cells #[.slice A n c] 131)) := (Below.refl _ _).alloc (Nat.le_refl _) _
  have HV0 := Lib.hid (HV.out.keep hb0)
  have HB0 := Lib.hid hb0
  clear hb0
  by_cases h24 : n ≤ 24
  · have hd : decide ((n : Int) ≤ 24) = true := decide_eq_true (by omega)
    have hfin : R = (treeL l).isSome := by rw [HR.out, decide_eq_true h24, Bool.true_and]
    clear HR
    go_enter Tryz.func118, Tryz.ntmps118
    go_wp2_with fail
    refine (isExpr_any _ l _ HV0.out).mono ?_
    rintro e w2 ⟨rfl, hb2⟩
    rw [← hfin]
    clear hfin
    go_wp2_with fail
    go_ret
    exact ⟨rfl, below_trans HB0.out hb2⟩
  · have hd : decide ((n : Int) ≤ 24) = false := decide_eq_false (by omega)
    have hfin : R = false := by rw [HR.out, decide_eq_false h24, Bool.false_and]
    clear HR h24
    subst hfin
    go_enter Tryz.func118, Tryz.ntmps118
    go_wp2_with fail
    go_ret
    exact ⟨rfl, HB0.out⟩
theorem post_ar : ∀ {r : Tr}, r.ok → ∀ t ∈ post r, (ar t).isSome = true
  | .leaf t, h, x, hx => by
    rw [post, List.mem_singleton] at hx
    rw [hx, show ar t = some 0 from h]; rfl
  | .un t a, h, x, hx => by
    rw [post, List.mem_append, List.mem_singleton] at hx
    rcases hx with hx | rfl
    · exact post_ar h.2 x hx
    · rw [h.1]; rfl
  | .bin t a b, h, x, hx => by
    rw [post, List.mem_append, List.mem_append, List.mem_singleton] at hx
    rcases hx with (hx | hx) | rfl
    · exact post_ar h.2.1 x hx
    · exact post_ar h.2.2 x hx
    · rw [h.1]; rfl
theorem net_cons (t : Tok) (l : List Tok) : net (t :: l) = net [t] + net l := net_app [t] l
theorem net_bd (l : List Tok) : -(l.length : Int) ≤ net l ∧ net l ≤ l.length := by
  induction l with
  | nil => simp [net]
  | cons t l ih =>
    rw [net_cons, net_one, List.length_cons]
    have := arI_bd t
    rcases ar_cases t with h | h | h | h <;> rw [h] <;> simp <;> omega
set_option maxHeartbeats 4000000 in
theorem l8Start_any (ss : Value) (xs : List Tok) (r : Tr) (w : World) (hv : SlE w cEd 4 ss (xs ++ post r)) (hr : r.ok) (hlen : (xs ++ post r).length ≤ 1048576) :
    Calls Tryz.prog 121 #[ss] w fun e w' => e = .returned (.int .i64 (xs.length : Int)) ∧ Below w.heap.size w w' := by
  obtain ⟨A, c, rfl, hl, hm, hx⟩ := hv
  unfold maxLen at hm
  have HX := Lib.hid hx
  obtain ⟨L, hL⟩ : ∃ L, L = xs ++ post r := ⟨_, rfl⟩
  rw [← hL] at hl HX hlen ⊢
  obtain ⟨n, hn⟩ : ∃ n, n = L.length := ⟨_, rfl⟩
  rw [← hn] at hl hlen ⊢
  obtain ⟨m, hm2⟩ : ∃ m, m = xs.length := ⟨_, rfl⟩
  rw [← hm2]
  have hmn : m ≤ n := by rw [hm2, hn, hL, List.length_append]; omega
  have HN := Lib.hid hn
  have HS := Lib.hid (show ∀ k, m < k → k ≤ n → 0 < 1 + net (L.drop k) from fun k h1 h2 => by rw [hL]; exact start_need hr (by omega) (by rw [← hL]; omega))
  have HD := Lib.hid (show 1 + net (L.drop m) = 0 by rw [hL, hm2]; exact start_done hr)
  have HA := Lib.hid (show ∀ k t, m ≤ k → L[k]? = some t → (ar t).isSome = true from fun k t h1 h2 => by
    rw [hL, List.getElem?_append_right (by omega)] at h2
    exact post_ar hr t (List.mem_of_getElem? h2))
  clear hx hn hm2 hL
  go_enter Tryz.func121, Tryz.ntmps121
  go_wp2
  go_loopw [3, 4] (fun dd ii wr => ∃ (k : Nat) (z : Int), k ≤ n ∧ m ≤ k ∧ z = 1 + net (L.drop k) ∧ dd = .int .i64 z ∧ ii = .int .i64 (k : Int) ∧ Below w.heap.size w wr) (fun _ ii _ => (intOf ii).toNat)
  case atStart => exact ⟨n, 1, Nat.le_refl _, hmn, by rw [HN.out, List.drop_length]; rfl, rfl, rfl, Below.refl _ _⟩
  case round =>
    obtain ⟨k, z, hk, hmk, hz, rfl, rfl, hb⟩ := hrel
    have HZ := Lib.hid hz
    have HB := Lib.hid hb
    have hzb : -(n : Int) ≤ z ∧ z ≤ n + 1 := by
      have h1 := net_bd (L.drop k)
      rw [List.length_drop] at h1
      have := HN.out
      omega
    clear hz hb
    by_cases hkm : m < k
    · have hz0 : 0 < z := by rw [HZ.out]; exact HS.out k hkm hk
      obtain ⟨j, rfl⟩ : ∃ j, k = j + 1 := ⟨k - 1, by omega⟩
      have hxi : L[j]? = some L[j] := List.getElem?_eq_getElem (by have := HN.out; omega)
      obtain ⟨q, o, rfl, -, hq, hcc⟩ := HX.out j _ hxi
      have hat := HA.out j _ (by omega) hxi
      have hdr : L.drop j = L[j] :: L.drop (j + 1) := List.drop_eq_getElem_cons (by have := HN.out; omega)
      generalize L[j] = t at hcc hxi hat hdr
      have hbt := arI_bd t
      have hzn : z - 1 + arI t = 1 + net (L.drop j) := by
        rw [hdr, net_cons, net_one, HZ.out]
        obtain ⟨a, ha⟩ := Option.isSome_iff_exists.1 hat
        rw [arI_some ha, ha, Option.getD_some]
        omega
      have HZN := Lib.hid hzn
      have e0 := (HB.out.cell (p := ⟨q, o + j * 4 + 0, none⟩) hq).trans (hcc 0 _ rfl)
      have e1 := (HB.out.cell (p := ⟨q, o + j * 4 + 1, none⟩) hq).trans (hcc 1 _ rfl)
      have e2 := (HB.out.cell (p := ⟨q, o + j * 4 + 2, none⟩) hq).trans (hcc 2 _ rfl)
      have e3 := (HB.out.cell (p := ⟨q, o + j * 4 + 3, none⟩) hq).trans (hcc 3 _ rfl)
      simp only [Nat.add_zero] at e0
      have hjn : (j : Int) < (n : Int) := by omega
      clear hcc hxi hzn hat hdr
      go_wp2_with fail
      refine (l8Arity_any t _).mono ?_
      rintro e w2 ⟨rfl, hb2⟩
      have HB2 := Lib.hid (HB.out.trans (hb2.mono HB.out.size))
      clear e0 e1 e2 e3 hb2
      generalize arI t = at_ at *
      go_wp2_with fail
      go_roundw
      case rel => exact ⟨j, z - 1 + at_, by omega, by omega, HZN.out, rfl, rfl, HB2.out⟩
      case measure => simp [intOf]
    · obtain rfl : k = m := by omega
      have hz0 : z = 0 := by rw [HZ.out]; exact HD.out
      clear HZ
      subst hz0
      go_wp2_with fail
      go_ret
      exact ⟨rfl, HB.out⟩
end Go.Proofs.YtallglnmeeahiaaGreat
namespace Go.Proofs.YtallglnmeeahiaaGreat
set_option linter.unusedVariables false
set_option linter.unusedSimpArgs false
open Go.ChangeShapes Go.WideShapes Go.ChangeAt Go.RowKit
section
variable {P : Program} {w : World}
theorem run_append_nil0 (base : Nat) (t ty e : TypeId) (i : TypeInfo) (size : Nat) (ht : P.underlying t = some (.slice e)) (hi : P.info? e = some i) (v : Value) (n : Nat) (xs : List Value) (hown : w.ownsRow base e size v n xs) (c : Nat) :
    (Builtin.append_ #[t, t] ty #[v, .slice none 0 c]).run P w = .ok v w := by
  obtain ⟨_, h2⟩ := hown
  rcases h2 with ⟨rfl, _⟩ | ⟨g, cap, cur, rfl, _, _, hnc, _⟩
  · simp [Builtin.append_, run_underlying ht, sizeOf, typeInfo, hi, Builtin.lenOf, Builtin.firstCells]
  · simp [Builtin.append_, run_underlying ht, sizeOf, typeInfo, hi, Builtin.lenOf, Builtin.firstCells, hnc, storeCells]
theorem flat_one {α : Type} {E : α → List Value} {xs : List α} (h1 : ∀ x, ∀ u ∈ E x, u.oneCell' = true) : ∀ u ∈ xs.flatMap E, u.oneCell' = true := fun u hu => by
  obtain ⟨x, _, hx⟩ := List.mem_flatMap.1 hu
  exact h1 x u hx
theorem flat_lenE {α : Type} {E : α → List Value} {k : Nat} (hE : ∀ x, (E x).length = k) : ∀ xs : List α, (xs.flatMap E).length = xs.length * k
  | [] => by simp
  | x :: xs => by rw [List.flatMap_cons, List.length_append, hE, flat_lenE hE xs, List.length_cons, Nat.succ_mul, Nat.add_comm]
/-- all cells of a list lie one behind the other -/
theorem flat_cells {α : Type} {E : α → List Value} {k : Nat} (hE : ∀ x, (E x).length = k) (hk : 0 < k) {b o : Nat} {ys : List α} (h : ∀ i x, ys[i]? = some x → ∀ j u, (E x)[j]? = some u → w.cell? ⟨b, o + i * k + j, none⟩ = some u) :
    ∀ j u, (ys.flatMap E)[j]? = some u → w.cell? ((⟨b, o, none⟩ : Addr).add j) = some u := by
  intro j u hu
  have hl := (List.getElem?_eq_some_iff.1 hu).1
  rw [flat_lenE hE] at hl
  have hi : j / k < ys.length := Nat.div_lt_of_lt_mul (by rw [Nat.mul_comm]; exact hl)
  have hx : ys[j / k]? = some ys[j / k] := List.getElem?_eq_getElem hi
  have hj : j % k < (E ys[j / k]).length := by rw [hE]; exact Nat.mod_lt _ hk
  have hf := flat_at hE hx (j % k) _ (List.getElem?_eq_getElem hj)
  have hjj : j / k * k + j % k = j := by rw [Nat.mul_comm]; exact Nat.div_add_mod j k
  rw [hjj, hu] at hf
  injection hf with hf
  have hc := h _ _ hx (j % k) _ (List.getElem?_eq_getElem hj)
  have hadd : (⟨b, o, none⟩ : Addr).add j = ⟨b, o + j, none⟩ := by unfold Addr.add; split <;> simp_all
  rw [hadd, hf, ← hc]
  congr 2
  omega
theorem run_appendL {α : Type} (E : α → List Value) {t e : TypeId} {z : Value} {k bytes : Nat} (el : ElemOk P t e z k bytes) (hE : ∀ x, (E x).length = k) (h1 : ∀ x, ∀ u ∈ E x, u.oneCell' = true)
    (base : Nat) (v : Value) (xs ys : List α) (hown : w.ownsRow base e k v xs.length (xs.flatMap E)) (lo hi : Nat) (y : Value) (hy : SlI lo hi w E k y ys) (hbytes : (xs.length + ys.length) * bytes ≤ 140737488355328) (hb0 : 0 < bytes) (hbase : base ≤ w.heap.size) (ty : TypeId) :
    ∃ v' w', (Builtin.append_ #[t, t] ty #[v, y]).run P w = .ok v' w' ∧ w'.ownsRow base e k v' (xs ++ ys).length ((xs ++ ys).flatMap E) ∧ w.grownBy w' v.ownBlock ∧ (v'.ownBlock = v.ownBlock ∨ v'.ownBlock = some w.heap.size) := by
  obtain ⟨i, hi, hz0, hz1, hz2⟩ := info_parts el.info
  have hlen : xs.length + ys.length ≤ 140737488355328 := Nat.le_trans (Nat.le_mul_of_pos_right _ hb0) hbytes
  obtain ⟨A, c, rfl, _, _, hx⟩ := hy
  have key : ∀ a : Addr, A = some a → (∀ j u, (ys.flatMap E)[j]? = some u → w.cell? (a.add j) = some u) → ∃ v' w', (Builtin.append_ #[t, t] ty #[v, .slice A ys.length c]).run P w = .ok v' w' ∧ w'.ownsRow base e k v' (xs ++ ys).length ((xs ++ ys).flatMap E) ∧ w.grownBy w' v.ownBlock ∧ (v'.ownBlock = v.ownBlock ∨ v'.ownBlock = some w.heap.size) := by
    intro a ha hc
    subst ha
    obtain ⟨v', w', hr, h2, h3, _, h5⟩ := run_append_own_at (P := P) w base t ty e i z k bytes el.und hi hz0 hz1 hz2 el.zc el.pos v xs.length (xs.flatMap E) hown a ys.length c (ys.flatMap E) (flat_lenE hE ys) hc (flat_one h1) (by unfold maxLen; omega) hbytes hbase
    exact ⟨v', w', hr, by rw [List.flatMap_append, List.length_append]; exact h2, h3, h5⟩
  cases ys with
  | nil =>
    cases A with
    | none => exact ⟨v, w, run_append_nil0 base t ty e i k el.und hi v _ _ hown c, by simpa using hown, World.grownBy.refl w _, .inl rfl⟩
    | some a => exact key a rfl (fun j u hu => by simp at hu)
  | cons x ys =>
    obtain ⟨b, o, hA, -, -, -⟩ := hx 0 x rfl
    refine key ⟨b, o, none⟩ hA (flat_cells hE el.pos fun i x hi j u hu => ?_)
    obtain ⟨b', o', hA', -, -, hc⟩ := hx i x hi
    rw [hA] at hA'
    injection hA' with hA'
    injection hA' with e1 e2
    subst e1 e2
    exact hc j u hu
theorem wpList_appendL {α : Type} (E : α → List Value) {ops : Array Oper} {rest : List Oper} {o : Oper} {a : Act} {Q : Exit → Act → World → Prop} {t e : TypeId} {z : Value} {k bytes : Nat} (el : ElemOk P t e z k bytes) (hE : ∀ x, (E x).length = k) (h1 : ∀ x, ∀ u ∈ E x, u.oneCell' = true)
    (hgd : o.guard = none) (s y : Operand) (ho : o.op = .call { callee := .builtin .append, args := #[s, y], argTypes := #[t, t] })
    (base : Nat) (v : Value) (xs ys : List α) (hs : a.eval s = v) (hown : w.ownsRow base e k v xs.length (xs.flatMap E)) (lo hi : Nat) (yv : Value) (hyv : a.eval y = yv) (hy : SlI lo hi w E k yv ys) (hbytes : (xs.length + ys.length) * bytes ≤ 140737488355328) (hb0 : 0 < bytes) (hbase : base ≤ w.heap.size)
    (h : ∀ v' w', w'.ownsRow base e k v' (xs ++ ys).length ((xs ++ ys).flatMap E) → w.grownBy w' v.ownBlock → (v'.ownBlock = v.ownBlock ∨ v'.ownBlock = some w.heap.size) → wpList P ops Q rest (a.put o.dst v') w') : wpList P ops Q (o :: rest) a w := by
  refine wpList_plain hgd fun K hK => ?_
  obtain ⟨v', w', hr, h2, h3, h5⟩ := run_appendL E el hE h1 base v xs ys hown lo hi yv hy hbytes hb0 hbase o.type
  unfold Oper.wp execOp
  simp only [ho, resolve, invoke, builtin, Sem.run_bind, Sem.run_pure, Result.andThen_ok, List.map_toArray, List.map_cons, List.map_nil, hs, hyv, hr]
  exact hK _ _ (h v' w' h2 h3 h5)
end
end Go.Proofs.YtallglnmeeahiaaGreat
namespace Go.Proofs.YtallglnmeeahiaaGreat
set_option linter.unusedVariables false
set_option linter.unusedSimpArgs false
open Go.ChangeShapes Go.WideShapes Go.ChangeAt Go.RowKit
attribute [local go_sem] ext_cell ext_frozen ext_lt ext_lt1 ext_lt2 ext_lt3 ltn2 ltn3 ltn13 lts1 lts2 lts3
theorem and_le (x : Int) (m : Nat) (hm : m < 2 ^ 63) : 0 ≤ bits .and .i64 x (m : Int) ∧ bits .and .i64 x (m : Int) ≤ m := by
  have h2 : (BitVec.ofInt 64 (m : Int)).toNat = m := by
    rw [BitVec.ofInt_natCast, BitVec.toNat_ofNat]; exact Nat.mod_eq_of_lt (by omega)
  have h3 : (BitVec.ofInt 64 x &&& BitVec.ofInt 64 (m : Int)).toNat ≤ m := by
    rw [BitVec.toNat_and, h2]; exact Nat.and_le_right
  have h4 : bits .and .i64 x (m : Int) = IntKind.i64.wrap ((BitVec.ofInt 64 x &&& BitVec.ofInt 64 (m : Int)).toNat : Int) := rfl
  rw [h4]
  generalize (BitVec.ofInt 64 x &&& BitVec.ofInt 64 (m : Int)).toNat = z at h3 ⊢
  rw [IntKind.wrap_i64]
  omega
theorem emod_le {a n m : Int} (ha : 0 ≤ a) (hn : 0 < n) (hm : a ≤ m) : a % n ≤ m := by
  have h1 := Int.mul_ediv_add_emod a n
  have h2 : 0 ≤ n * (a / n) := Int.mul_nonneg (by omega) (Int.ediv_nonneg ha (by omega))
  omega
theorem and255 (x : Int) : 0 ≤ bits .and .i64 x 255 ∧ bits .and .i64 x 255 ≤ 255 := and_le x 255 (by decide)
/-- the cursor in block b: the code's bytes lie below it; its place is not below nought -/
def Cur (w : World) (b : Nat) : Prop :=
  ∃ (A : Option Addr) (bs : List Int) (c : Nat) (i h : Int), Blk w b 111 #[.slice A bs.length c, .int .i64 i, .int .i64 h] ∧ SlI 0 b w cU 1 (.slice A bs.length c) bs ∧ 0 ≤ i ∧ i ≤ bs.length
theorem Cur.lt {w : World} {b : Nat} (h : Cur w b) : b < w.heap.size := by
  obtain ⟨A, bs, c, i, g, h1, -⟩ := h
  exact h1.lt
theorem Cur.only {w w' : World} {b l r : Nat} (h : Cur w b) (ho : Only l r w w') (hl : b < l) : Cur w' b := by
  obtain ⟨A, bs, c, i, g, h1, h2, h3⟩ := h
  exact ⟨A, bs, c, i, g, h1.only ho (.inl hl), h2.only ho (Nat.le_of_lt h1.lt) (.inl (Nat.le_of_lt hl)), h3⟩
theorem Cur.keep {w w' : World} {b : Nat} (h : Cur w b) (hb : Below w.heap.size w w') : Cur w' b := h.only (Only.of_below hb w.heap.size w.heap.size) h.lt
set_option maxHeartbeats 2000000 in
theorem l1Byte_any (b : Nat) (w : World) (hc : Cur w b) :
    Calls Tryz.prog 61 #[.pointer (some ⟨b, 0, none⟩)] w fun e w' => ∃ r : Int, e = .returned (.int .i64 r) ∧ (0 ≤ r ∧ r ≤ 255) ∧ Cur w' b ∧ Only b (b + 1) w w' := by
  obtain ⟨A, bs, c, i, h, hblk, hsl, hi0, hi1⟩ := hc
  have hlt := hblk.lt
  have x0 : w.cell? ⟨b, 0, none⟩ = some (.slice A bs.length c) := hblk.cell 0
  have x1 : w.cell? ⟨b, 1, none⟩ = some (.int .i64 i) := hblk.cell 1
  have x2 : w.cell? ⟨b, 2, none⟩ = some (.int .i64 h) := hblk.cell 2
  have y1 := hblk.frozen 1
  have y2 := hblk.frozen 2
  go_enter Tryz.func61, Tryz.ntmps61
  go_upto_region 2 with fail
  generalize wrap64 (wrap64 (h * 6364136223846793005) + 1442695040888963407) = h'
  have hbk1 := hblk.set_ 2 (.int .i64 h')
  have ho1 : Only b (b + 1) w (w.setCell ⟨b, 2, none⟩ (.int .i64 h')) := (Only.refl b (b + 1) w).setCell (p := ⟨b, 2, none⟩) (.inl ⟨Nat.le_refl _, Nat.lt_succ_self _⟩) _
  generalize w.setCell ⟨b, 2, none⟩ (.int .i64 h') = W1 at *
  replace hsl := hsl.only ho1 (Nat.le_of_lt hlt) (.inl (Nat.le_refl _))
  replace hlt := hbk1.lt
  replace x0 : W1.cell? ⟨b, 0, none⟩ = some (.slice A bs.length c) := hbk1.cell 0
  replace x1 : W1.cell? ⟨b, 1, none⟩ = some (.int .i64 i) := hbk1.cell 1
  replace x2 : W1.cell? ⟨b, 2, none⟩ = some (.int .i64 h') := hbk1.cell 2
  replace y1 := hbk1.frozen 1
  replace y2 := hbk1.frozen 2
  have HSL := Lib.hid hsl
  refine wp_region_ext_lit (by kernel_rfl) (by kernel_rfl) ?_
  repeat (go_big_quiet_step (fail))
  refine wpQuiet_nil ?_
  intro _ hw'
  obtain ⟨u, hw''⟩ := hw'
  subst hw''
  obtain ⟨hr0, hr1⟩ := and255 (bits .xor .i64 (h' / 8589934592) (h' / 35184372088832))
  generalize bits .and .i64 (bits .xor .i64 (h' / 8589934592) (h' / 35184372088832)) 255 = x at *
  obtain ⟨n, rfl⟩ := Int.eq_ofNat_of_zero_le hi0
  have HBK := Lib.hid hbk1
  have HON := Lib.hid ho1
  by_cases hin : n < bs.length
  · have hxi : bs[n]? = some bs[n] := List.getElem?_eq_getElem hin
    obtain ⟨A', c', hv, hl, hm, hx⟩ := hsl
    injection hv with hv1 hv2 hv3
    subst hv1 hv3
    obtain ⟨q, o, rfl, -, hq, hcc⟩ := hx n _ hxi
    generalize bs[n] = y at hcc
    have c0 := hcc 0 _ rfl
    simp only [Nat.add_zero, Nat.mul_one] at c0
    have hqW := Nat.lt_trans hq hlt
    clear hx hcc hxi hbk1 ho1
    unfold maxLen at hm
    go_wp2_with fail
    refine wp_region_ext_lit (by kernel_rfl) (by kernel_rfl) ?_
    repeat (go_big_quiet_step (fail))
    refine wpQuiet_nil ?_
    intro _ hw'
    obtain ⟨u2, hw''⟩ := hw'
    subst hw''
    obtain ⟨u4, hu4⟩ := ext_ext W1 u u2
    rw [hu4]
    go_wp2_with fail
    refine wp_region_ext_lit (by kernel_rfl) (by kernel_rfl) ?_
    repeat (go_big_quiet_step (fail))
    refine wpQuiet_nil ?_
    intro _ hw'
    obtain ⟨u3, hw''⟩ := hw'
    subst hw''
    obtain ⟨u5, hu5⟩ := ext_ext W1 u4 u3
    rw [hu5]
    go_wp2_with fail
    go_ret
    have hob : Only b (b + 1) (ext W1 u5) ((ext W1 u5).setCell ⟨b, 1, none⟩ (.int .i64 ((n : Int) + 1))) := (Only.refl b (b + 1) _).setCell (p := ⟨b, 1, none⟩) (.inl ⟨Nat.le_refl _, Nat.lt_succ_self _⟩) _
    have hoc := (Only.of_below (ext_below W1 u5) b (b + 1)).trans hob
    exact ⟨_, rfl, and255 _, ⟨_, bs, c, (n : Int) + 1, h', (HBK.out.keep (ext_below W1 u5)).set_ 1 _, HSL.out.only hoc (Nat.le_of_lt hlt) (.inl (Nat.le_refl _)), by omega, by omega⟩, HON.out.trans hoc⟩
  · clear hsl hbk1 ho1
    go_wp2_with fail
    refine wp_region_ext_lit (by kernel_rfl) (by kernel_rfl) ?_
    repeat (go_big_quiet_step (fail))
    refine wpQuiet_nil ?_
    intro _ hw'
    obtain ⟨u2, hw''⟩ := hw'
    subst hw''
    obtain ⟨u4, hu4⟩ := ext_ext W1 u u2
    rw [hu4]
    go_wp2_with fail
    go_ret
    have hoc := Only.of_below (ext_below W1 u4) b (b + 1)
    exact ⟨_, rfl, ⟨hr0, hr1⟩, ⟨A, bs, c, n, h', HBK.out.keep (ext_below W1 u4), HSL.out.only hoc (Nat.le_of_lt hlt) (.inl (Nat.le_refl _)), by omega, by omega⟩, HON.out.trans hoc⟩
set_option maxHeartbeats 2000000 in
theorem l1Below_any (b : Nat) (n : Int) (w : World) (hc : Cur w b) :
    Calls Tryz.prog 31 #[.pointer (some ⟨b, 0, none⟩), .int .i64 n] w fun e w' => ∃ r : Int, e = .returned (.int .i64 r) ∧ (0 ≤ r ∧ r ≤ 4294967295 ∧ (0 < n → r < n)) ∧ Cur w' b ∧ Only b (b + 1) w w' := by
  by_cases h0 : n ≤ 0
  · go_enter Tryz.func31, Tryz.ntmps31
    go_wp2
    go_ret
    exact ⟨_, rfl, by omega, hc, Only.refl _ _ _⟩
  by_cases h1 : n ≤ 256
  · go_enter Tryz.func31, Tryz.ntmps31
    go_wp2_with (refine (l1Byte_any b _ hc).mono ?_; rintro e w1 ⟨r, rfl, ⟨hr0, hr1⟩, hc1, ho1⟩)
    go_ret
    exact ⟨_, rfl, ⟨Int.emod_nonneg _ (by omega), by have := Int.emod_lt_of_pos r (show 0 < n by omega); omega, fun h => Int.emod_lt_of_pos _ h⟩, hc1, ho1⟩
  · go_enter Tryz.func31, Tryz.ntmps31
    go_wp2_with fail
    refine (l1Byte_any b _ hc).mono ?_; rintro e w1 ⟨r1, rfl, ⟨hr10, hr11⟩, hc1, ho1⟩
    go_wp2_with fail
    refine (l1Byte_any b _ hc1).mono ?_; rintro e w2 ⟨r2, rfl, ⟨hr20, hr21⟩, hc2, ho2⟩
    go_wp2_with fail
    refine (l1Byte_any b _ hc2).mono ?_; rintro e w3 ⟨r3, rfl, ⟨hr30, hr31⟩, hc3, ho3⟩
    go_wp2_with fail
    refine (l1Byte_any b _ hc3).mono ?_; rintro e w4 ⟨r4, rfl, ⟨hr40, hr41⟩, hc4, ho4⟩
    go_wp2_with fail
    go_ret
    exact ⟨_, rfl, ⟨Int.emod_nonneg _ (by omega), emod_le (by omega) (by omega) (by omega), fun h => Int.emod_lt_of_pos _ h⟩, hc4, ((ho1.trans ho2).trans ho3).trans ho4⟩
set_option maxHeartbeats 1000000 in
theorem l1Once_any (b : Nat) (n : Int) (w : World) (hc : Cur w b) :
    Calls Tryz.prog 60 #[.pointer (some ⟨b, 0, none⟩), .int .i64 n] w fun e w' => ∃ r : Bool, e = .returned (.bool r) ∧ Cur w' b ∧ Only b (b + 1) w w' := by
  go_enter Tryz.func60, Tryz.ntmps60
  go_wp2_with fail
  refine (l1Below_any b n _ hc).mono ?_; rintro e w1 ⟨r, rfl, -, hc1, ho1⟩
  go_wp2_with fail
  go_ret
  exact ⟨_, rfl, hc1, ho1⟩
set_option maxHeartbeats 1000000 in
theorem l1PickInt_any (b : Nat) (v : Value) (xs : List Int) (w : World) (hc : Cur w b) (hne : 0 < xs.length) (hv : SlI (b + 1) w.heap.size w cI 1 v xs) :
    Calls Tryz.prog 83 #[.pointer (some ⟨b, 0, none⟩), v] w fun e w' => ∃ r : Int, e = .returned (.int .i64 r) ∧ r ∈ xs ∧ Cur w' b ∧ Only b (b + 1) w w' := by
  obtain ⟨A, c, rfl, hl, hm, hx⟩ := hv
  unfold maxLen at hm
  have HX := Lib.hid hx
  clear hx
  go_enter Tryz.func83, Tryz.ntmps83
  go_wp2_with fail
  refine (l1Below_any b _ _ hc).mono ?_; rintro e w1 ⟨r, rfl, ⟨h0, -, h1⟩, hc1, ho1⟩
  have h1 := h1 (by omega)
  obtain ⟨i, rfl⟩ := Int.eq_ofNat_of_zero_le h0
  have hi : i < xs.length := by omega
  have hxi : xs[i]? = some xs[i] := List.getElem?_eq_getElem hi
  have hmem := List.getElem_mem hi
  obtain ⟨q, o, rfl, hq0, hq1, hcc⟩ := HX.out i _ hxi
  generalize xs[i] = y at hcc hmem
  have c0 := (ho1.cell (p := ⟨q, o + i * 1 + 0, none⟩) hq1 (.inr hq0)).trans (hcc 0 _ rfl)
  simp only [Nat.add_zero, Nat.mul_one] at c0
  clear hcc hxi
  go_wp2_with fail
  go_ret
  exact ⟨_, rfl, hmem, hc1, ho1⟩
end Go.Proofs.YtallglnmeeahiaaGreat
namespace Go.Proofs.YtallglnmeeahiaaGreat
set_option linter.unusedVariables false
set_option linter.unusedSimpArgs false
open Go.ChangeShapes Go.WideShapes Go.ChangeAt Go.RowKit
attribute [local go_sem] ext_cell ext_frozen ext_lt ext_lt1 ext_lt2 ext_lt3 ltn2 ltn3 ltn13 lts1 lts2 lts3
theorem Only.kc {b : Nat} {w w' : World} {p : Addr} {v : Value} (ho : Only b (b + 1) w w') (hb : b < p.block) (x : w.cell? p = some v) : w'.cell? p = some v :=
  (ho.cell (World.block_lt_of_cell? _ _ x) (.inr hb)).trans x
theorem own_only {lo k n l r : Nat} {e : TypeId} {v : Value} {cs : List Value} {w w' : World} (h : w.ownsRow lo e k v n cs) (ho : Only l r w w') (hr : r ≤ lo) : w'.ownsRow lo e k v n cs :=
  ownsRow_block h fun g hg => ho.block g (h.lt g hg).2 (.inr (Nat.le_trans hr (h.lt g hg).1))
theorem Cur.below {w w' : World} {b B : Nat} (h : Cur w b) (hb : Below B w w') (hB : b < B) : Cur w' b := by
  obtain ⟨A, bs, c, i, g, h1, h2, h3⟩ := h
  exact ⟨A, bs, c, i, g, h1.below hb hB, h2.below hb (Nat.le_of_lt hB), h3⟩
theorem Cur.set {w : World} {b : Nat} {p : Addr} (h : Cur w b) (hp : b < p.block) (u : Value) : Cur (w.setCell p u) b :=
  h.only ((Only.refl p.block (p.block + 1) w).setCell (.inl ⟨Nat.le_refl _, Nat.lt_succ_self _⟩) u) hp
theorem Only.andBelow {l r B : Nat} {w a c : World} (h : Only l r w a) (hb : Below B a c) (hB : w.heap.size ≤ B) : Only l r w c :=
  ⟨hb.os.trans h.os, hb.tape.trans h.tape, hb.output.trans h.output, Nat.le_trans h.size hb.size, fun n h1 h2 => (hb.block n (Nat.lt_of_lt_of_le h1 hB)).trans (h.block n h1 h2)⟩
theorem Blk.put2 {w : World} {g : Nat} {t : TypeId} {c0 c1 : Value} (h : Blk w g t #[c0, c1]) (d0 d1 : Value) : Blk ((w.setCell ⟨g, 0, none⟩ d0).setCell ⟨g, 1, none⟩ d1) g t #[d0, d1] := by
  have := (h.set_ 0 d0).set_ 1 d1
  simpa using this
theorem Only.put2 (w : World) (g : Nat) (d0 d1 : Value) : Only g (g + 1) w ((w.setCell ⟨g, 0, none⟩ d0).setCell ⟨g, 1, none⟩ d1) := ((Only.refl _ _ _).setCell (p := ⟨g, 0, none⟩) (.inl ⟨Nat.le_refl _, Nat.lt_succ_self _⟩) d0).setCell (p := ⟨g, 1, none⟩) (.inl ⟨Nat.le_refl _, Nat.lt_succ_self _⟩) d1
theorem rowShape {lo k n : Nat} {e : TypeId} {v : Value} {cs : List Value} {w : World} (h : w.ownsRow lo e k v n cs) : ∃ A n c, v = .slice A n c := by
  obtain ⟨_, hs⟩ := h
  rcases hs with ⟨rfl, _⟩ | ⟨g, cap, cur, rfl, _⟩
  · exact ⟨_, _, _, rfl⟩
  · exact ⟨_, _, _, rfl⟩
set_option maxHeartbeats 1000000 in
theorem l1New_any (v : Value) (bs : List Int) (w : World) (hv : SlI 0 w.heap.size w cU 1 v bs) :
    Calls Tryz.prog 56 #[v] w fun e w' => ∃ b, e = .returned (.pointer (some ⟨b, 0, none⟩)) ∧ w.heap.size ≤ b ∧ Cur w' b ∧ Below w.heap.size w w' := by
  have HV := Lib.hid hv
  obtain ⟨A, c, rfl, hl, hm, hx⟩ := hv
  unfold maxLen at hm
  have HX := Lib.hid hx
  clear hx
  go_enter Tryz.func56, Tryz.ntmps56
  go_wp2
  go_loop [3, 4] (fun hh ii => ∃ (i : Nat) (h : Int), i ≤ bs.length ∧ hh = .int .i64 h ∧ ii = .int .i64 i) (fun _ ii => bs.length - (intOf ii).toNat)
  case atStart => exact ⟨0, _, Nat.zero_le _, rfl, rfl⟩
  case round =>
    obtain ⟨i, h, hi, rfl, rfl⟩ := hrel
    by_cases hlt : i < bs.length
    · have hxi : bs[i]? = some bs[i] := List.getElem?_eq_getElem hlt
      obtain ⟨q, o, rfl, -, hq, hcc⟩ := HX.out i _ hxi
      generalize bs[i] = y at hcc
      have c0 := hcc 0 _ rfl
      simp only [Nat.add_zero, Nat.mul_one] at c0
      clear hcc hxi
      by_cases h4 : (i : Int) < 4000
      · go_wp2
        go_round
        case rel => exact ⟨i + 1, _, by omega, rfl, by go_num⟩
        case measure => simp [intOf]; omega
      · go_wp2
        go_ret
        refine ⟨_, rfl, Nat.le_refl _, ⟨_, bs, c, 0, h, Blk.new w _ _ _ rfl, ?_, by omega, by omega⟩, (Below.refl _ _).alloc (Nat.le_refl _) _⟩
        exact HV.out.below ((Below.refl _ _).alloc (Nat.le_refl _) _) (Nat.le_refl _)
    · go_wp2
      go_ret
      refine ⟨_, rfl, Nat.le_refl _, ⟨_, bs, c, 0, h, Blk.new w _ _ _ rfl, ?_, by omega, by omega⟩, (Below.refl _ _).alloc (Nat.le_refl _) _⟩
      exact HV.out.below ((Below.refl _ _).alloc (Nat.le_refl _) _) (Nat.le_refl _)
end Go.Proofs.YtallglnmeeahiaaGreat
namespace Go.Proofs.YtallglnmeeahiaaGreat
set_option linter.unusedVariables false
set_option linter.unusedSimpArgs false
open Go.ChangeShapes Go.WideShapes Go.ChangeAt Go.RowKit
attribute [local go_sem] ext_cell ext_frozen ext_lt ext_lt1 ext_lt2 ext_lt3 ltn2 ltn3 ltn13 lts1 lts2 lts3
theorem elTok : ElemOk Tryz.prog 129 144 (.agg #[.int .i64 0, .int .i64 0, .int .i64 0, .int .i64 0]) 4 32 := ⟨Tryz.underlying129, by kernel_rfl, rfl, by omega⟩
/-- an expression in memory of the call's own -/
def TkO (lo hi : Nat) (w : World) (v : Value) (l : List Tok) : Prop := ∃ ss, v = .agg #[ss] ∧ Own lo hi w 144 cEd 4 ss l
theorem TkO.below {lo hi : Nat} {w w' : World} {v : Value} {l : List Tok} (h : TkO lo hi w v l) {B : Nat} (hb : Below B w w') (hB : hi ≤ B) : TkO lo hi w' v l := by
  obtain ⟨ss, rfl, h⟩ := h
  exact ⟨ss, rfl, h.below hb hB⟩
theorem TkO.only {lo hi : Nat} {w w' : World} {v : Value} {l : List Tok} (h : TkO lo hi w v l) {a b : Nat} (hb : Only a b w w') (ho : hi ≤ a ∨ b ≤ lo) : TkO lo hi w' v l := by
  obtain ⟨ss, rfl, h⟩ := h
  exact ⟨ss, rfl, h.only hb ho⟩
theorem TkO.mono {lo hi lo' hi' : Nat} {w : World} {v : Value} {l : List Tok} (h : TkO lo hi w v l) (h1 : lo' ≤ lo) (h2 : hi ≤ hi') : TkO lo' hi' w v l := by
  obtain ⟨ss, rfl, h⟩ := h
  exact ⟨ss, rfl, h.mono h1 h2⟩
/-- an expression that reads as a list of tokens -/
def TkV (lo hi : Nat) (w : World) (v : Value) (l : List Tok) : Prop := ∃ ss, v = .agg #[ss] ∧ SlI lo hi w cEd 4 ss l
theorem TkO.view {lo hi : Nat} {w : World} {v : Value} {l : List Tok} (h : TkO lo hi w v l) : TkV lo hi w v l := by
  obtain ⟨ss, rfl, h⟩ := h
  exact ⟨ss, rfl, h.sl cEd_len⟩
theorem TkV.below {lo hi : Nat} {w w' : World} {v : Value} {l : List Tok} (h : TkV lo hi w v l) {B : Nat} (hb : Below B w w') (hB : hi ≤ B) : TkV lo hi w' v l := by
  obtain ⟨ss, rfl, h⟩ := h
  exact ⟨ss, rfl, h.below hb hB⟩
theorem TkV.only {lo hi : Nat} {w w' : World} {v : Value} {l : List Tok} (h : TkV lo hi w v l) {a b : Nat} (hb : Only a b w w') (hh : hi ≤ w.heap.size) (ho : hi ≤ a ∨ b ≤ lo) : TkV lo hi w' v l := by
  obtain ⟨ss, rfl, h⟩ := h
  exact ⟨ss, rfl, h.only hb hh ho⟩
theorem TkV.mono {lo hi lo' hi' : Nat} {w : World} {v : Value} {l : List Tok} (h : TkV lo hi w v l) (h1 : lo' ≤ lo) (h2 : hi ≤ hi') : TkV lo' hi' w v l := by
  obtain ⟨ss, rfl, h⟩ := h
  exact ⟨ss, rfl, h.mono h1 h2⟩
theorem TkV.keep {w w' : World} {v : Value} {l : List Tok} (h : TkV 0 w.heap.size w v l) (hb : Below w.heap.size w w') : TkV 0 w'.heap.size w' v l := (h.below hb (Nat.le_refl _)).mono (Nat.le_refl _) hb.size
theorem TkV.nil (lo hi : Nat) (w : World) : TkV lo hi w (.agg #[.slice none 0 0]) [] := ⟨_, rfl, SlI.nil _ _ _ _ _⟩
/-- what lies in blocks from B + 1 on, behind a store to block B -/
theorem TkO.done {w : World} {B : Nat} {v : Value} {l : List Tok} (h : TkO (B + 1) w.heap.size w v l) {w0 : World} (hb : Below w0.heap.size w0 w) (hB : w0.heap.size = B) (u : Value) :
    TkO w0.heap.size (w.setCell ⟨B, 0, none⟩ u).heap.size (w.setCell ⟨B, 0, none⟩ u) v l ∧ Below w0.heap.size w0 (w.setCell ⟨B, 0, none⟩ u) := by
  have ho := (Only.refl B (B + 1) w).setCell (p := ⟨B, 0, none⟩) (.inl ⟨Nat.le_refl _, Nat.lt_succ_self _⟩) u
  exact ⟨(h.only ho (.inr (Nat.le_refl _))).mono (by omega) ho.size, hb.setCell (p := ⟨B, 0, none⟩) (by simp only; omega) u⟩
set_option maxHeartbeats 1000000 in
theorem l8Copy_any (ss : Value) (l : List Tok) (w : World) (hv : SlE w cEd 4 ss l) (hn : l.length ≤ 1048576) :
    Calls Tryz.prog 133 #[ss] w fun e w' => ∃ v', e = .returned v' ∧ TkO w.heap.size w'.heap.size w' v' l ∧ Below w.heap.size w w' := by
  have HV := Lib.hid hv
  obtain ⟨A, n, c, rfl⟩ := hv.shape
  clear hv
  have hb0 := (Below.refl w.heap.size w).alloc (Nat.le_refl _) (.cells #[.slice none 0 0] 131)
  have hbr := Blk.new w 131 #[.slice none 0 0] _ rfl
  obtain ⟨W0, hW0⟩ : ∃ W0, W0 = w.alloc (.cells #[.slice none 0 0] 131) := ⟨_, rfl⟩
  have hs0 : W0.heap.size = w.heap.size + 1 := by rw [hW0]; simp
  rw [← hW0] at hb0 hbr
  have hal := (Below.refl W0.heap.size W0).alloc (Nat.le_refl _) (.cells #[] 144)
  have hrl := World.ownsRow_lit (base := w.heap.size + 1) (e := 144) (size := 4) W0 #[] 0 (by omega) (by decide) rfl
  have HV1 := Lib.hid (HV.out.keep (below_trans hb0 hal))
  have HB1 := Lib.hid (below_trans hb0 hal)
  have HR1 := Lib.hid (hbr.keep hal)
  rw [hs0] at hrl
  have HL := Lib.hid hrl
  have HS0 := Lib.hid hs0
  have HW0 := Lib.hid hW0
  clear hb0 hbr hal hrl hs0 hW0
  go_enter Tryz.func133, Tryz.ntmps133
  go_wp2_with (at_builtin; (refine wpList_appendL cEd elTok cEd_len cEd_one rfl _ _ rfl (w.heap.size + 1) _ [] l (by rfl) (by rw [← HW0.out]; exact HL.out) 0 _ _ (by rfl) (by rw [← HW0.out]; exact HV1.out) (by simp; omega) (by omega) (by simp) ?_); intro v5 w5 hrow5 hgr5 hat5
               rw [← HW0.out] at hgr5
               have hob := own_below HL.out (by have := HS0.out; simp; omega) hgr5
               have HR5 := Lib.hid (HR1.out.below hob (by omega))
               have HB5 := Lib.hid (HB1.out.trans (hob.mono (by omega)))
               have HO5 := Lib.hid (Own.of_row (xs := l) hrow5 rfl rfl)
               obtain ⟨A5, n5, c5, rfl⟩ := HO5.out.shape
               have z0 : w5.cell? ⟨w.heap.size, 0, none⟩ = some (.slice none 0 0) := HR5.out.cell 0
               have v0 := HR5.out.frozen 0
               have hlr := HR5.out.lt
               clear hrow5 hgr5 hat5 hob)
  have HD := TkO.done (B := w.heap.size) (v := .agg #[.slice A5 n5 c5]) ⟨_, rfl, HO5.out⟩ HB5.out rfl (.slice A5 n5 c5)
  refine bodyPost_ret (v := .agg #[.slice A5 n5 c5]) (by simp [results, Tryz.results133, go_sem, z0, v0]) rfl ⟨_, rfl, HD.1, HD.2⟩
set_option maxHeartbeats 1000000 in
theorem l8Leaf_any (k : Int) (w : World) :
    Calls Tryz.prog 125 #[.int .i64 k] w fun e w' => ∃ v', e = .returned v' ∧ TkO w.heap.size w'.heap.size w' v' [(k, 0, 0, 0)] ∧ Below w.heap.size w w' := by
  have hbr := Blk.new w 131 #[.slice none 0 0] _ rfl
  have hb0 := (Below.refl w.heap.size w).alloc (Nat.le_refl _) (.cells #[.slice none 0 0] 131)
  have hs0 : (w.alloc (.cells #[.slice none 0 0] 131)).heap.size = w.heap.size + 1 := by simp
  go_enter Tryz.func125, Tryz.ntmps125
  go_upto_region 1 with fail
  generalize w.alloc (.cells #[.slice none 0 0] 131) = W0 at *
  have hal := (Below.refl W0.heap.size W0).alloc (Nat.le_refl _) (.cells #[.int .i64 k, .int .i64 0, .int .i64 0, .int .i64 0] 144)
  have hrl := World.ownsRow_lit (base := w.heap.size + 1) (e := 144) (size := 4) W0 #[.int .i64 k, .int .i64 0, .int .i64 0, .int .i64 0] 1 (by omega) (by decide) rfl
  have HB5 := Lib.hid (below_trans hb0 hal)
  have HR5 := Lib.hid (hbr.keep hal)
  have HO5 := Lib.hid (Own.of_row (xs := [((k, 0, 0, 0) : Tok)]) (E := cEd) hrl rfl rfl)
  have z0 : W0.cell? ⟨w.heap.size, 0, none⟩ = some (.slice none 0 0) := hbr.cell 0
  have v0 := hbr.frozen 0
  have hlr := hbr.lt
  clear hal hrl hb0 hbr hs0
  go_wp2_with fail
  have HD := TkO.done (B := w.heap.size) (v := .agg #[.slice (some ⟨W0.heap.size, 0, none⟩) 1 1]) ⟨_, rfl, HO5.out⟩ HB5.out rfl (.slice (some ⟨W0.heap.size, 0, none⟩) 1 1)
  rw [World.setCell_alloc_past _ _ _ _ hlr] at HD
  refine bodyPost_ret (v := .agg #[.slice (some ⟨W0.heap.size, 0, none⟩) 1 1]) (by simp [results, Tryz.results125, go_sem, z0, v0, hlr]) rfl ⟨_, rfl, HD.1, HD.2⟩
set_option maxHeartbeats 1000000 in
theorem letterExpr_any (k : Int) (w : World) :
    Calls Tryz.prog 126 #[.int .i64 k] w fun e w' => ∃ v', e = .returned v' ∧ TkO w.heap.size w'.heap.size w' v' [(3, k, 0, 0)] ∧ Below w.heap.size w w' := by
  have hbr := Blk.new w 131 #[.slice none 0 0] _ rfl
  have hb0 := (Below.refl w.heap.size w).alloc (Nat.le_refl _) (.cells #[.slice none 0 0] 131)
  have hs0 : (w.alloc (.cells #[.slice none 0 0] 131)).heap.size = w.heap.size + 1 := by simp
  go_enter Tryz.func126, Tryz.ntmps126
  go_upto_region 1 with fail
  generalize w.alloc (.cells #[.slice none 0 0] 131) = W0 at *
  have hal := (Below.refl W0.heap.size W0).alloc (Nat.le_refl _) (.cells #[.int .i64 3, .int .i64 k, .int .i64 0, .int .i64 0] 144)
  have hrl := World.ownsRow_lit (base := w.heap.size + 1) (e := 144) (size := 4) W0 #[.int .i64 3, .int .i64 k, .int .i64 0, .int .i64 0] 1 (by omega) (by decide) rfl
  have HB5 := Lib.hid (below_trans hb0 hal)
  have HR5 := Lib.hid (hbr.keep hal)
  have HO5 := Lib.hid (Own.of_row (xs := [((3, k, 0, 0) : Tok)]) (E := cEd) hrl rfl rfl)
  have z0 : W0.cell? ⟨w.heap.size, 0, none⟩ = some (.slice none 0 0) := hbr.cell 0
  have v0 := hbr.frozen 0
  have hlr := hbr.lt
  clear hal hrl hb0 hbr hs0
  go_wp2_with fail
  have HD := TkO.done (B := w.heap.size) (v := .agg #[.slice (some ⟨W0.heap.size, 0, none⟩) 1 1]) ⟨_, rfl, HO5.out⟩ HB5.out rfl (.slice (some ⟨W0.heap.size, 0, none⟩) 1 1)
  rw [World.setCell_alloc_past _ _ _ _ hlr] at HD
  refine bodyPost_ret (v := .agg #[.slice (some ⟨W0.heap.size, 0, none⟩) 1 1]) (by simp [results, Tryz.results126, go_sem, z0, v0, hlr]) rfl ⟨_, rfl, HD.1, HD.2⟩
/-- a joined expression under way -/
structure JR (w0 w : World) (q : Nat) (ss : Value) (L : List Tok) (tk : Array Value) : Prop where
  row : w.ownsRow (w0.heap.size + 4) 144 4 ss L.length (L.flatMap cEd)
  far : ss.ownBlock ≠ some q
  blk : Blk w q 131 #[ss]
  tok : Blk w (w0.heap.size + 1 + 1) 144 tk
  res : Blk w (w0.heap.size + 1 + 1 + 1) 131 #[.slice none 0 0]
  below : Below w0.heap.size w0 w
  le : w0.heap.size + 4 ≤ q
theorem JR.push {w0 w w' : World} {q : Nat} {ss ss' : Value} {L L' : List Tok} {tk : Array Value} (h : JR w0 w q ss L tk) (hr : w'.ownsRow (w0.heap.size + 4) 144 4 ss' L'.length (L'.flatMap cEd)) (hg : w.grownBy w' ss.ownBlock)
    (hat : ss'.ownBlock = ss.ownBlock ∨ ∀ k, ss'.ownBlock = some k → w.heap.size ≤ k) : Blk w' q 131 #[ss] ∧ JR w0 (w'.setCell ⟨q, 0, none⟩ ss') q ss' L' tk := by
  have hd := h.le
  have hq := h.blk.lt
  have hb := own_below h.row (by omega) hg
  have hfar : ss'.ownBlock ≠ some q := by
    rcases hat with h1 | h1
    · rw [h1]; exact h.far
    · intro e; have := h1 q e; omega
  have hbq : Blk w' q 131 #[ss] := (hg.block q hq (fun e => h.far e.symm)).trans h.blk
  refine ⟨hbq, ownsRow_block hr (fun g hg' => Below.heap_setCell w' ⟨q, 0, none⟩ _ g (fun e => hfar (by rw [hg', e]))), hfar, hbq.set_ 0 _, (h.tok.below hb (by omega)).far (by simp only; omega) _, (h.res.below hb (by omega)).far (by simp only; omega) _, (h.below.trans (hb.mono (by omega))).setCell (p := ⟨q, 0, none⟩) (by simp only; omega) _, hd⟩
theorem JR.below_ {w0 w w' : World} {q : Nat} {ss : Value} {L : List Tok} {tk : Array Value} (h : JR w0 w q ss L tk) (hb : Below w.heap.size w w') : JR w0 w' q ss L tk :=
  ⟨ownsRow_below h.row hb (Nat.le_refl _), h.far, h.blk.keep hb, h.tok.keep hb, h.res.keep hb, h.below.trans (hb.mono h.below.size), h.le⟩
theorem JR.done {w0 w : World} {q : Nat} {ss : Value} {L : List Tok} {tk : Array Value} (h : JR w0 w q ss L tk) :
    TkO w0.heap.size (w.setCell ⟨w0.heap.size + 1 + 1 + 1, 0, none⟩ ss).heap.size (w.setCell ⟨w0.heap.size + 1 + 1 + 1, 0, none⟩ ss) (.agg #[ss]) L ∧ Below w0.heap.size w0 (w.setCell ⟨w0.heap.size + 1 + 1 + 1, 0, none⟩ ss) := by
  have ho := (Only.refl (w0.heap.size + 1 + 1 + 1) (w0.heap.size + 4) w).setCell (p := ⟨w0.heap.size + 1 + 1 + 1, 0, none⟩) (.inl ⟨Nat.le_refl _, Nat.lt_succ_self _⟩) ss
  exact ⟨⟨ss, rfl, ((Own.of_row (xs := L) h.row rfl rfl).only ho (.inr (Nat.le_refl _))).mono (by omega) ho.size⟩, h.below.setCell (p := ⟨w0.heap.size + 1 + 1 + 1, 0, none⟩) (by simp only; omega) _⟩
set_option maxHeartbeats 4000000 in
theorem l8Join_any (va vb : Value) (a b : List Tok) (t : Tok) (w : World) (ha : TkV 0 w.heap.size w va a) (hb : TkV 0 w.heap.size w vb b) (hna : a.length ≤ 100000) (hnb : b.length ≤ 100000) :
    Calls Tryz.prog 127 #[va, vb, .agg #[.int .i64 t.1, .int .i64 t.2.1, .int .i64 t.2.2.1, .int .i64 t.2.2.2]] w fun e w' => ∃ v', e = .returned v' ∧ TkO w.heap.size w'.heap.size w' v' (a ++ b ++ [t]) ∧ Below w.heap.size w w' := by
  obtain ⟨t0, t1, t2, t3⟩ := t
  obtain ⟨sa, rfl, hsa⟩ := ha
  obtain ⟨sb, rfl, hsb⟩ := hb
  obtain ⟨A1, n1, c1, rfl⟩ := hsa.shape
  obtain ⟨A2, n2, c2, rfl⟩ := hsb.shape
  have HSA := Lib.hid (show SlE w cEd 4 _ a from hsa)
  have HSB := Lib.hid (show SlE w cEd 4 _ b from hsb)
  simp only
  obtain ⟨L, hL⟩ : ∃ L, L = a ++ b := ⟨_, rfl⟩
  rw [← hL]
  have HL := Lib.hid hL
  clear hL
  have hbl : Below w.heap.size w ((((w.alloc (.cells #[.slice A1 n1 c1] 131)).alloc (.cells #[.slice A2 n2 c2] 131)).alloc (.cells #[.int .i64 t0, .int .i64 t1, .int .i64 t2, .int .i64 t3] 144)).alloc (.cells #[.slice none 0 0] 131)) := ((((Below.refl _ _).alloc (Nat.le_refl _) _).alloc (by simp) _).alloc (by simp; omega) _).alloc (by simp; omega) _
  have b2 := ((Blk.new (w.alloc (.cells #[.slice A1 n1 c1] 131)) 131 #[.slice A2 n2 c2] (w.heap.size + 1) (by simp)).alloc (.cells #[.int .i64 t0, .int .i64 t1, .int .i64 t2, .int .i64 t3] 144)).alloc (.cells #[.slice none 0 0] 131)
  have b3 := (Blk.new ((w.alloc (.cells #[.slice A1 n1 c1] 131)).alloc (.cells #[.slice A2 n2 c2] 131)) 144 #[.int .i64 t0, .int .i64 t1, .int .i64 t2, .int .i64 t3] (w.heap.size + 1 + 1) (by simp)).alloc (.cells #[.slice none 0 0] 131)
  have b4 := Blk.new (((w.alloc (.cells #[.slice A1 n1 c1] 131)).alloc (.cells #[.slice A2 n2 c2] 131)).alloc (.cells #[.int .i64 t0, .int .i64 t1, .int .i64 t2, .int .i64 t3] 144)) 131 #[.slice none 0 0] (w.heap.size + 1 + 1 + 1) (by simp)
  have hs0 : ((((w.alloc (.cells #[.slice A1 n1 c1] 131)).alloc (.cells #[.slice A2 n2 c2] 131)).alloc (.cells #[.int .i64 t0, .int .i64 t1, .int .i64 t2, .int .i64 t3] 144)).alloc (.cells #[.slice none 0 0] 131)).heap.size = w.heap.size + 4 := by simp
  clear hsa hsb
  go_enter Tryz.func127, Tryz.ntmps127
  go_wp2_with fail
  generalize ((((w.alloc (.cells #[.slice A1 n1 c1] 131)).alloc (.cells #[.slice A2 n2 c2] 131)).alloc (.cells #[.int .i64 t0, .int .i64 t1, .int .i64 t2, .int .i64 t3] 144)).alloc (.cells #[.slice none 0 0] 131)) = W0 at *
  refine (l8Copy_any _ a _ (HSA.out.keep hbl) (by omega)).mono ?_
  rintro e w1 ⟨v1, rfl, ⟨s1, rfl, ho1⟩, hb1⟩
  obtain ⟨A3, n3, c3, rfl⟩ := ho1.shape
  rw [hs0] at ho1
  obtain ⟨q, hq⟩ : ∃ q, q = w1.heap.size := ⟨_, rfl⟩
  have hsz := hb1.size
  rw [hs0] at hsz
  have hal := (Below.refl w1.heap.size w1).alloc (Nat.le_refl _) (.cells #[.slice A3 n3 c3] 131)
  have hbA := below_trans hb1 hal
  have b2' := b2.keep hbA
  have HSB1 := Lib.hid (HSB.out.keep (below_trans hbl hbA))
  have HJ := Lib.hid (show JR w (w1.alloc (.cells #[.slice A3 n3 c3] 131)) q (.slice A3 n3 c3) a _ from
    ⟨ownsRow_below ho1.1 hal (Nat.le_refl _), (fun e => by have := ho1.2 _ e; omega), Blk.new w1 131 #[.slice A3 n3 c3] q hq, b3.keep hbA, b4.keep hbA, below_trans hbl hbA, by omega⟩)
  clear b2 b3 b4 hal hb1 hbA hbl hs0 ho1
  go_upto_region 2 with fail
  rw [← hq]
  generalize w1.alloc (.cells #[.slice A3 n3 c3] 131) = W1 at *
  clear hq
  have y0 : W1.cell? ⟨q, 0, none⟩ = some (.slice A3 n3 c3) := HJ.out.blk.cell 0
  have x0 : W1.cell? ⟨w.heap.size + 1, 0, none⟩ = some (.slice A2 n2 c2) := b2'.cell 0
  clear b2'
  go_upto_region 3 with (at_builtin; (refine wpList_appendL cEd elTok cEd_len cEd_one rfl _ _ rfl (w.heap.size + 4) _ a b (by rfl) HJ.out.row 0 _ _ (by rfl) HSB1.out (by omega) (by omega) (by have h1 := HJ.out.le; have h2 := HJ.out.blk.lt; omega) ?_); intro v5 w5 hrow5 hgr5 hat5; obtain ⟨A5, n5, c5, rfl⟩ := rowShape hrow5; have HP := Lib.hid (HJ.out.push hrow5 hgr5 (hat5.imp_right (fun e k hk => by rw [e] at hk; injection hk with hk; omega))); have z0 : w5.cell? ⟨q, 0, none⟩ = some (.slice A3 n3 c3) := HP.out.1.cell 0; have f0 := HP.out.1.frozen 0; have lq := HP.out.1.lt; clear hrow5 hgr5 hat5)
  have HJ2 := Lib.hid HP.out.2
  rw [← HL.out] at HJ2
  generalize w5.setCell ⟨q, 0, none⟩ (.slice A5 n5 c5) = W2 at *
  clear HP z0 f0 lq y0 x0 HJ HSB1 HSB HSA
  have y0 : W2.cell? ⟨q, 0, none⟩ = some (.slice A5 n5 c5) := HJ2.out.blk.cell 0
  have x0 : W2.cell? ⟨w.heap.size + 1 + 1, 0, none⟩ = some (.int .i64 t0) := HJ2.out.tok.cell 0
  have x1 : W2.cell? ⟨w.heap.size + 1 + 1, 1, none⟩ = some (.int .i64 t1) := HJ2.out.tok.cell 1
  have x2 : W2.cell? ⟨w.heap.size + 1 + 1, 2, none⟩ = some (.int .i64 t2) := HJ2.out.tok.cell 2
  have x3 : W2.cell? ⟨w.heap.size + 1 + 1, 3, none⟩ = some (.int .i64 t3) := HJ2.out.tok.cell 3
  have hll := HJ2.out.le
  have hlq := HJ2.out.blk.lt
  have hab : L.length ≤ 200000 := by rw [HL.out, List.length_append]; omega
  go_upto_region 4 with (at_builtin; (refine wpList_append2 cEd elTok rfl _ _ (by rfl) (w.heap.size + 4) _ L (t0, t1, t2, t3) 1 _ (by rfl) (HJ2.out.row.alloc _) (by rfl) (heap_alloc_new _ _) rfl (cEd_one _) (by omega) (by omega) (by simp; omega) ?_); intro g2 cp2 w9 hown3 hgr3 hat3 hlt3; have HP := Lib.hid ((HJ2.out.below_ ((Below.refl _ _).alloc (Nat.le_refl _) (.cells #[.int .i64 t0, .int .i64 t1, .int .i64 t2, .int .i64 t3] 144))).push hown3 hgr3 (hat3.imp (fun e => e.symm) (fun e k hk => by cases hk; exact e))); have z0 : w9.cell? ⟨q, 0, none⟩ = some (.slice A5 n5 c5) := HP.out.1.cell 0; have f0 := HP.out.1.frozen 0; have lq := HP.out.1.lt; clear hown3 hgr3 hat3)
  have HJ3 := Lib.hid HP.out.2
  generalize w9.setCell ⟨q, 0, none⟩ (.slice (some ⟨g2, 0, none⟩) (L.length + 1) cp2) = W3 at *
  clear HP z0 f0 lq y0 x0 x1 x2 x3 HJ2 hlq
  have y0 : W3.cell? ⟨q, 0, none⟩ = some (.slice (some ⟨g2, 0, none⟩) (L.length + 1) cp2) := HJ3.out.blk.cell 0
  have z0 : W3.cell? ⟨w.heap.size + 1 + 1 + 1, 0, none⟩ = some (.slice none 0 0) := HJ3.out.res.cell 0
  have v0 := HJ3.out.res.frozen 0
  have hlr := HJ3.out.res.lt
  go_wp2_with fail
  have HD := HJ3.out.done
  refine bodyPost_ret (v := .agg #[.slice (some ⟨g2, 0, none⟩) (L.length + 1) cp2]) (by simp [results, Tryz.results127, go_sem, z0, v0, hlr]) rfl ⟨_, rfl, HD.1, HD.2⟩
end Go.Proofs.YtallglnmeeahiaaGreat
