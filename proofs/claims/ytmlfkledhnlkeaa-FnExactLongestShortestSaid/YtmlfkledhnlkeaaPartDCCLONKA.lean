/- Parts of the proof, joined into one text: Nest, BackS, ShortS, AscM. -/
import Derived.Test.YtmlfkledhnlkeaaPartAHNDNEAO
import Derived.Test.YtmlfkledhnlkeaaPartBCKJGNPE
import Derived.Test.YtmlfkledhnlkeaaPartEILBMLNF
import Derived.Test.YtmlfkledhnlkeaaPartPCMNHBPG
import Derived.Lib.SlicesCompact
import Derived.Test.YtmlfkledhnlkeaaPartBIGHANEE
/- Rows of rows of the call's own, told by the blocks that they hold: an outer row of slices, each of them a row of its own, no two in one block. Over any program. -/
namespace Go.Proofs.Ytmlfkledhnlkeaa
set_option linter.unusedVariables false
set_option linter.unusedSimpArgs false
open Go.ChangeShapes Go.WideShapes Go.ChangeAt Go.RowKit

section
variable {H b o : Nat} {w : World}
theorem SlC.intA {xs : List Int} (h : SlC H w cI 1 (some ⟨b, o, none⟩) xs) {i : Nat} {x : Int} (hx : xs[i]? = some x) : b < H ∧ w.cell? ⟨b, o + i, none⟩ = some (.int .i64 x) := by
  obtain ⟨b', o', e, h1, h2⟩ := h.int hx
  injection e with e
  injection e with e1 e2
  subst e1 e2
  exact ⟨h1, h2⟩
theorem SlC.natA {xs : List Nat} (h : SlC H w cN 1 (some ⟨b, o, none⟩) xs) {i : Nat} {x : Nat} (hx : xs[i]? = some x) : b < H ∧ w.cell? ⟨b, o + i, none⟩ = some (.int .i64 (x : Int)) := by
  obtain ⟨b', o', e, h1, h2⟩ := h.nat hx
  injection e with e
  injection e with e1 e2
  subst e1 e2
  exact ⟨h1, h2⟩
theorem SlC.stA {xs : List St} (h : SlC H w cSt 2 (some ⟨b, o, none⟩) xs) {i : Nat} {x : St} (hx : xs[i]? = some x) : b < H ∧ w.cell? ⟨b, o + i * 2, none⟩ = some (.int .i64 x.1) ∧ w.cell? ⟨b, o + i * 2 + 1, none⟩ = some (.bool x.2) := by
  obtain ⟨b', o', e, h1, h2, h3⟩ := h.st hx
  injection e with e
  injection e with e1 e2
  subst e1 e2
  exact ⟨h1, h2, h3⟩
end
theorem flatCV (l : List Value) : l.flatMap cV = l := by
  induction l with
  | nil => rfl
  | cons x l ih => rw [List.flatMap_cons, ih]; rfl
/-- the blocks that slices hold -/
abbrev blks (us : List Value) : List Nat := us.filterMap Value.ownBlock
structure NS {α : Type} (lo : Nat) (w : World) (oT eT : TypeId) (E : α → List Value) (k : Nat) (v : Value) (us : List Value) (xss : List (List α)) : Prop where
  own : w.ownsRow lo oT 1 v us.length (us.flatMap cV)
  len : us.length = xss.length
  rows : ∀ (i : Nat) (u : Value) (xs : List α), us[i]? = some u → xss[i]? = some xs → w.ownsRow lo eT k u xs.length (xs.flatMap E)
  dis : (blks (v :: us)).Nodup
section
variable {α : Type} {lo : Nat} {w w' : World} {oT eT : TypeId} {E : α → List Value} {k : Nat} {v : Value} {us : List Value} {xss : List (List α)}
theorem mem_blks {us : List Value} {b : Nat} : b ∈ blks us ↔ ∃ (i : Nat) (u : Value), us[i]? = some u ∧ u.ownBlock = some b := by
  rw [List.mem_filterMap]
  constructor
  · rintro ⟨u, hu, hb⟩
    obtain ⟨i, hi⟩ := List.getElem?_of_mem hu
    exact ⟨i, u, hi, hb⟩
  · rintro ⟨i, u, hu, hb⟩
    exact ⟨u, List.mem_of_getElem? hu, hb⟩
theorem NS.lt (h : NS lo w oT eT E k v us xss) : ∀ b ∈ blks (v :: us), lo ≤ b ∧ b < w.heap.size := by
  intro b hb
  obtain ⟨i, u, hu, hbu⟩ := mem_blks.1 hb
  cases i with
  | zero =>
    simp only [List.getElem?_cons_zero, Option.some.injEq] at hu
    subst hu
    exact h.own.lt b hbu
  | succ i =>
    rw [List.getElem?_cons_succ] at hu
    have hi : i < xss.length := by rw [← h.len]; exact (List.getElem?_eq_some_iff.1 hu).1
    exact (h.rows i u _ hu (List.getElem?_eq_getElem hi)).lt b hbu
theorem NS.blocks (h : NS lo w oT eT E k v us xss) (hb : ∀ b ∈ blks (v :: us), w'.heap[b]? = w.heap[b]?) : NS lo w' oT eT E k v us xss :=
  ⟨ownsRow_block h.own fun g hg => hb g (mem_blks.2 ⟨0, v, rfl, hg⟩), h.len,
    fun i u xs hu hx => ownsRow_block (h.rows i u xs hu hx) fun g hg => hb g (mem_blks.2 ⟨i + 1, u, by simpa using hu, hg⟩), h.dis⟩
theorem NS.below (h : NS lo w oT eT E k v us xss) (hb : Below w.heap.size w w') : NS lo w' oT eT E k v us xss := h.blocks fun b hm => hb.block b (h.lt b hm).2
theorem NS.mono (h : NS lo w oT eT E k v us xss) {lo' : Nat} (hl : lo' ≤ lo) : NS lo' w oT eT E k v us xss :=
  ⟨ownsRow_mono h.own hl, h.len, fun i u xs hu hx => ownsRow_mono (h.rows i u xs hu hx) hl, h.dis⟩
theorem NS.start (h : w.ownsRow lo oT 1 v 0 []) : NS lo w oT eT E k v [] ([] : List (List α)) :=
  ⟨h, rfl, fun i u xs hu _ => by simp at hu, by cases hv : v.ownBlock <;> simp [hv]⟩
theorem NS.push (h : NS lo w oT eT E k v us xss) {u : Value} {xs : List α} (hu : w.ownsRow lo eT k u xs.length (xs.flatMap E)) (hn : ∀ b, u.ownBlock = some b → b ∉ blks (v :: us))
    {v' : Value} (hg : w.grownBy w' v.ownBlock) (hr : w'.ownsRow lo oT 1 v' (us ++ [u]).length ((us ++ [u]).flatMap cV)) (hat : ∀ g, v'.ownBlock = some g → v.ownBlock = some g ∨ w.heap.size ≤ g) :
    NS lo w' oT eT E k v' (us ++ [u]) (xss ++ [xs]) := by
  have hdis := h.dis
  have hkeep : ∀ (u' : Value) (n : Nat) (cs : List Value), w.ownsRow lo eT k u' n cs → (∀ b, u'.ownBlock = some b → v.ownBlock ≠ some b) → w'.ownsRow lo eT k u' n cs := fun u' n cs ho hne => by
    refine ho.kept hg ?_
    cases hb : u'.ownBlock with
    | none => exact .inl rfl
    | some b => exact .inr fun e => hne b hb e.symm
  have hv0 : ∀ b, v.ownBlock = some b → b ∉ blks us := fun b hb => by
    rw [blks, List.filterMap_cons, hb] at hdis
    exact (List.nodup_cons.1 hdis).1
  refine ⟨hr, by simp [h.len], fun i u' xs' hi hx => ?_, ?_⟩
  · rcases Nat.lt_or_ge i us.length with hlt | hge
    · rw [List.getElem?_append_left hlt] at hi
      rw [List.getElem?_append_left (by rw [← h.len]; exact hlt)] at hx
      exact hkeep _ _ _ (h.rows i u' xs' hi hx) fun b hb hvb => hv0 b hvb (mem_blks.2 ⟨i, u', hi, hb⟩)
    · have hi2 := (List.getElem?_eq_some_iff.1 hi).1
      simp only [List.length_append, List.length_singleton] at hi2
      obtain rfl : i = us.length := by omega
      have e1 : u = u' := by simpa using hi
      have e2 : xs = xs' := by rw [h.len] at hx; simpa using hx
      subst e1 e2
      exact hkeep _ _ _ hu fun b hb hvb => hn b hb (mem_blks.2 ⟨0, v, rfl, hvb⟩)
  · have hlt := h.lt
    have hus : (blks us).Nodup := by
      cases hv : v.ownBlock with
      | none => simpa [blks, List.filterMap_cons, hv] using hdis
      | some b => rw [blks, List.filterMap_cons, hv] at hdis; exact (List.nodup_cons.1 hdis).2
    have hnu : ∀ b, u.ownBlock = some b → b ∉ blks us := fun b hb hm => hn b hb (by
      obtain ⟨i, u', h1, h2⟩ := mem_blks.1 hm
      exact mem_blks.2 ⟨i + 1, u', by simpa using h1, h2⟩)
    have hall : (blks (us ++ [u])).Nodup := by
      rw [blks, List.filterMap_append]
      cases hub : u.ownBlock with
      | none => simpa [List.filterMap_cons, hub] using hus
      | some b =>
        rw [List.filterMap_cons, hub]
        refine List.nodup_append.2 ⟨hus, by simp, ?_⟩
        intro x hx y hy e
        simp only [List.filterMap_nil, List.mem_cons, List.not_mem_nil, or_false] at hy
        subst hy
        subst e
        exact hnu _ hub hx
    rw [blks, List.filterMap_cons]
    cases hv' : v'.ownBlock with
    | none => exact hall
    | some g =>
      refine List.nodup_cons.2 ⟨fun hm => ?_, hall⟩
      obtain ⟨i, u', hi, hb⟩ := mem_blks.1 hm
      rcases Nat.lt_or_ge i us.length with hl | hge
      · rw [List.getElem?_append_left hl] at hi
        rcases hat g hv' with h1 | h1
        · exact hv0 g h1 (mem_blks.2 ⟨i, u', hi, hb⟩)
        · have := (hlt g (mem_blks.2 ⟨i + 1, u', by simpa using hi, hb⟩)).2
          omega
      · have hi2 := (List.getElem?_eq_some_iff.1 hi).1
        simp only [List.length_append, List.length_singleton] at hi2
        obtain rfl : i = us.length := by omega
        have e1 : u = u' := by simpa using hi
        subst e1
        rcases hat g hv' with h1 | h1
        · exact hn g hb (mem_blks.2 ⟨0, v, rfl, h1⟩)
        · have := (hu.lt g hb).2
          omega
theorem grown_alloc {o : Obj} {row : Option Nat} (h : (w.alloc o).grownBy w' row) : w.grownBy w' row :=
  ⟨h.os, h.tape, h.output, Nat.le_trans (by simp) h.size, fun n hn hne => (h.block n (by simp; omega) hne).trans (Below.heap_alloc w o n hn)⟩
/-- what is read of it: the header of row i, and the row -/
theorem NS.row (h : NS lo w oT eT E k v us xss) (hE : ∀ x, (E x).length = k) {i : Nat} {xs : List α} (hx : xss[i]? = some xs) :
    ∃ g cap A c, v = .slice (some ⟨g, 0, none⟩) xss.length cap ∧ us[i]? = some (.slice A xs.length c) ∧ g < w.heap.size ∧ w.cell? ⟨g, i, none⟩ = some (.slice A xs.length c) ∧ xs.length ≤ c ∧ c ≤ maxLen ∧ SlI lo w.heap.size w E k (.slice A xs.length c) xs := by
  have hi : i < us.length := by rw [h.len]; exact (List.getElem?_eq_some_iff.1 hx).1
  have hu : us[i]? = some us[i] := List.getElem?_eq_getElem hi
  have hr := h.rows i _ xs hu hx
  generalize us[i] = u at hu hr
  have hsl := (Own.of_row (xs := xs) hr rfl rfl).sl hE
  have hsl' := hsl
  obtain ⟨A, c, rfl, hl, hm, -⟩ := hsl'
  have hown := h.own
  have hlt := h.own.lt
  rw [flatCV] at hown
  have hown2 := hown
  obtain ⟨h1, h2⟩ := hown2
  rcases h2 with ⟨rfl, h3⟩ | ⟨g, cap, cur, rfl, r⟩
  · omega
  · refine ⟨g, cap, A, c, by rw [h.len], hu, (hlt g rfl).2, ?_, hl, hm, hsl⟩
    rw [World.ownsRow.cellAt hown i (by omega)]
    exact hu
theorem NS.at (h : NS lo w oT eT E k v us xss) (hE : ∀ x, (E x).length = k) {g n cap : Nat} (hv : v = .slice (some ⟨g, 0, none⟩) n cap) {i : Nat} {xs : List α} (hx : xss[i]? = some xs) :
    ∃ A c, w.cell? ⟨g, i, none⟩ = some (.slice A xs.length c) ∧ xs.length ≤ c ∧ c ≤ 9223372036854775807 ∧ SlI lo w.heap.size w E k (.slice A xs.length c) xs := by
  obtain ⟨g', cap', A, c, hv', -, -, hc, h1, h2, h3⟩ := h.row hE hx
  rw [hv] at hv'
  injection hv' with e1 _ _
  injection e1 with e1
  injection e1 with e1
  subst e1
  exact ⟨A, c, hc, h1, h2, h3⟩
/-- a row that is not empty has a block of its own -/
theorem own_some {W : World} {base k n : Nat} {e : TypeId} {v : Value} {cs : List Value} (h : W.ownsRow base e k v n cs) (hn : n ≠ 0) : ∃ g c, v = .slice (some ⟨g, 0, none⟩) n c ∧ base ≤ g ∧ g < W.heap.size ∧ n ≤ c ∧ c ≤ 9223372036854775807 := by
  have hlt := h.lt
  obtain ⟨h1, h2⟩ := h
  rcases h2 with ⟨rfl, h3⟩ | ⟨g, cap, cur, rfl, h4, h5, h6, h7, r⟩
  · exact absurd h3 hn
  · exact ⟨g, cap, rfl, h4, (hlt g rfl).2, h6, h7⟩
theorem NS.shape (h : NS lo w oT eT E k v us xss) : ∃ A c, v = .slice A xss.length c ∧ xss.length ≤ c ∧ c ≤ maxLen := by
  obtain ⟨h1, h2⟩ := h.own
  rcases h2 with ⟨rfl, h3⟩ | ⟨g, cap, cur, rfl, h4, h5, h6, h7, r⟩
  · exact ⟨none, 0, by rw [← h.len, h3], by rw [← h.len, h3]; exact Nat.le_refl _, by unfold maxLen; omega⟩
  · exact ⟨_, cap, by rw [h.len], by rw [← h.len]; exact h6, h7⟩
end
end Go.Proofs.Ytmlfkledhnlkeaa

/- The reference's l14Back: the distances to a node, by sweeps. -/
namespace Go.Proofs.Ytmlfkledhnlkeaa
set_option linter.unusedVariables false
set_option linter.unusedSimpArgs false
open Go.ChangeShapes Go.WideShapes Go.ChangeAt Go.RowKit
attribute [local go_sem] ext_cell ext_frozen ext_lt ext_lt1 ext_lt2 ext_lt3 ltn2 ltn3 ltn13 lts1 lts2 lts3

theorem elPSS : ElemOk Try.prog 158 159 (.slice none 0 0) 1 24 := ⟨Try.underlying158, by kernel_rfl, rfl, by omega⟩
/-- the rows of the product's steps, vertex by vertex -/
def psI (g : Gr) (a : Au) (i : Nat) : List PS := prodSteps g a (i / a.accept.length) (i % a.accept.length)
theorem psI_next (g : Gr) (a : Au) (i : Nat) : nextI g a i = (psI g a i).map (psV a.accept.length) := (psV_next g a _ _).symm
theorem SlI.ps {lo hi : Nat} {w : World} {A : Option Addr} {n c : Nat} {xs : List PS} (h : SlI lo hi w cPS 4 (.slice A n c) xs) {i : Nat} {x : PS} (hx : xs[i]? = some x) :
    ∃ b o, A = some ⟨b, o, none⟩ ∧ lo ≤ b ∧ b < hi ∧ w.cell? ⟨b, o + i * 4 + 2, none⟩ = some (.int .i64 x.2.1) ∧ w.cell? ⟨b, o + i * 4 + 3, none⟩ = some (.int .i64 x.2.2) := by
  obtain ⟨A', c', hv, _, _, h3⟩ := h
  injection hv with h1 _ _
  subst h1
  obtain ⟨b, o, e, g1, g2, hc⟩ := h3 i x hx
  exact ⟨b, o, e, g1, g2, hc 2 _ rfl, hc 3 _ rfl⟩
def psL (g : Gr) (a : Au) (k : Nat) : List (List PS) := (List.range k).map (psI g a)
theorem psL_len (g : Gr) (a : Au) (k : Nat) : (psL g a k).length = k := by simp [psL]
theorem psL_snoc (g : Gr) (a : Au) (k : Nat) : psL g a (k + 1) = psL g a k ++ [psI g a k] := by simp [psL, List.range_succ]
theorem psL_at {g : Gr} {a : Au} {k i : Nat} (h : i < k) : (psL g a k)[i]? = some (psI g a i) := by simp [psL, h]
set_option maxHeartbeats 8000000 in
set_option maxRecDepth 100000 in
theorem l14Back_any (vg va : Value) (g : Gr) (a : Au) (y : Nat) (w : World) (hgv : GrV 0 w.heap.size w vg g) (hav : AuV 0 w.heap.size w va a) (hgo : grOk g = true) (ha : auOk a = true) (hy : y < g.vals.length) :
    Calls Try.prog 83 #[vg, va, .int .i64 (y : Int)] w fun e w' => ∃ v', e = .returned v' ∧ Own w.heap.size w'.heap.size w' 3 cI 1 v' (distTo g a (y : Int)) ∧ Below w.heap.size w w' := by
  have hg := grOk_iff.1 hgo
  have hav0 := hav
  have hgv0 := hgv
  obtain ⟨A1, c1, A2, c2, rfl, hl1, hm1, hl2, hm2, -, -⟩ := hgv.form
  obtain ⟨A3, c3, A4, c4, rfl, hl3, hm3, hl4, hm4, -⟩ := hav.form ha
  have hn5 := hg.n5
  have he12 := hg.e12
  have hn12 := (auOk_iff.1 ha).1.2
  have hn1 := (auOk_iff.1 ha).1.1
  have hN60 : g.vals.length * a.accept.length ≤ 60 := Nat.mul_le_mul hn5 hn12
  have HGO := Lib.hid hgo
  have HAO := Lib.hid ha
  have HAV := Lib.hid hav0
  have HGV := Lib.hid hgv0
  have hb0 : Below w.heap.size w ((w.alloc (.cells #[.slice A1 g.vals.length c1, .slice A2 g.edges.length c2] 48)).alloc (.cells #[.int .i64 a.start, .slice A3 a.accept.length c3, .slice A4 a.accept.length c4] 50)) := ((Below.refl _ _).alloc (Nat.le_refl _) _).alloc (by simp) _
  obtain ⟨R, hR⟩ : ∃ R, R = distTo g a (y : Int) := ⟨_, rfl⟩
  rw [← hR]
  have HR := Lib.hid hR
  clear hgv hav ha hg hgo hav0 hgv0 hR
  go_enter Try.func83, Try.ntmps83
  go_wp2_with fail
  obtain ⟨W0, hW0⟩ : ∃ W0, W0 = ((w.alloc (.cells #[.slice A1 g.vals.length c1, .slice A2 g.edges.length c2] 48)).alloc (.cells #[.int .i64 a.start, .slice A3 a.accept.length c3, .slice A4 a.accept.length c4] 50)) := ⟨_, rfl⟩
  rw [← hW0] at hb0 ⊢
  have x0 : W0.cell? ⟨w.heap.size, 0, none⟩ = some (.slice A1 g.vals.length c1) := by rw [hW0]; simp
  have x1 : W0.cell? ⟨w.heap.size, 1, none⟩ = some (.slice A2 g.edges.length c2) := by rw [hW0]; simp
  have y0 : W0.cell? ⟨w.heap.size + 1, 0, none⟩ = some (.int .i64 a.start) := by rw [hW0]; simp
  have y1 : W0.cell? ⟨w.heap.size + 1, 1, none⟩ = some (.slice A3 a.accept.length c3) := by rw [hW0]; simp
  have y2 : W0.cell? ⟨w.heap.size + 1, 2, none⟩ = some (.slice A4 a.accept.length c4) := by rw [hW0]; simp
  have hs0 : w.heap.size + 1 + 1 = W0.heap.size := by rw [hW0]; simp
  rw [hs0]
  have l0 : w.heap.size + 1 < W0.heap.size := by omega
  have l00 : w.heap.size < W0.heap.size := by omega
  clear hW0 hs0
  obtain ⟨N, hN⟩ : ∃ N, N = g.vals.length * a.accept.length := ⟨_, rfl⟩
  rw [← hN] at hN60
  have m0 : IntKind.i64.wrap ((g.vals.length : Int) * (a.accept.length : Int)) = (N : Int) := by rw [IntWalk.i64_in _ (by rw [← Int.natCast_mul, ← hN]; omega)]; rw [hN, Int.natCast_mul]
  have m0' : (g.vals.length : Int) * (a.accept.length : Int) = (N : Int) := by rw [hN, Int.natCast_mul]
  have HN := Lib.hid hN
  clear hN
  go_loopw [8, 9, 10] (fun dd kk _ wr => ∃ k : Nat, k ≤ N ∧ kk = .int .i64 (k : Int) ∧ wr.ownsRow W0.heap.size 3 1 dd (iniL g a y k).length ((iniL g a y k).flatMap cI) ∧ Below W0.heap.size W0 wr) (fun _ kk _ _ => N - (intOf kk).toNat)
  case atStart => exact ⟨0, Nat.zero_le _, rfl, World.ownsRow_lit W0 #[] 0 (Nat.le_refl _) (by decide) rfl, (Below.refl _ _).alloc (Nat.le_refl _) _⟩
  case round =>
    obtain ⟨k, hk, rfl, hrow, hbel⟩ := hrel
    have HROW := Lib.hid hrow
    have x0 := kcell hbel x0
    have x1 := kcell hbel x1
    have y0 := kcell hbel y0
    have y1 := kcell hbel y1
    have y2 := kcell hbel y2
    have hsz := hbel.size
    have l0 := Nat.lt_of_lt_of_le l0 hsz
    have l00 := Nat.lt_of_lt_of_le l00 hsz
    have hbw := below_trans hb0 hbel
    have HBW := Lib.hid hbw
    clear hrow hbw
    by_cases hlt : k < N
    · have hgp : g.vals.length * a.accept.length = N := HN.out.symm
      have hnp : 0 < a.accept.length := by rcases Nat.eq_zero_or_pos a.accept.length with h | h; (rw [h, Nat.mul_zero] at hgp; omega); exact h
      obtain ⟨X, hX⟩ : ∃ X, X = k / a.accept.length := ⟨_, rfl⟩
      obtain ⟨S, hS⟩ : ∃ S, S = k % a.accept.length := ⟨_, rfl⟩
      have hXl : X < g.vals.length := by rw [hX]; exact Nat.div_lt_of_lt_mul (by rw [Nat.mul_comm, hgp]; exact hlt)
      have hSl : S < a.accept.length := by rw [hS]; exact Nat.mod_lt _ hnp
      have t1 : (k : Int).tdiv (a.accept.length : Int) = (X : Int) := by rw [hX]; rfl
      have t2 : (k : Int).tmod (a.accept.length : Int) = (S : Int) := by rw [hS]; rfl
      have hn0 : ((a.accept.length : Int) == 0) = false := by simp only [beq_eq_false_iff_ne, ne_eq]; omega
      have hki : (k : Int) < (N : Int) := by omega
      have HINI := Lib.hid (show ini g a y k = if (X == y && accC a (valAt g y) S) = true then 0 else -1 by rw [hX, hS]; rfl)
      clear hX hS hgp
      have HSN := Lib.hid (iniL_snoc g a y k)
      have hil : (iniL g a y k).length ≤ 60 := by rw [iniL_len]; omega
      generalize iniL g a y k = D at *
      have HACC := Lib.hid (show ∀ W, Below w.heap.size w W → Calls Try.prog 127 #[.agg #[.slice A1 g.vals.length c1, .slice A2 g.edges.length c2], .agg #[.int .i64 a.start, .slice A3 a.accept.length c3, .slice A4 a.accept.length c4], .int .i64 (X : Int), .int .i64 (S : Int)] W fun e w' => e = .returned (.bool (accC a (valAt g X) S)) ∧ Below W.heap.size W w' from fun W hW => l14Accepts_any _ _ g a X S W (HGV.out.keep hW) (HAV.out.keep hW) (grOk_iff.1 HGO.out) HAO.out hXl hSl)
      by_cases hxy : X = y
      · have k1 : ((X : Int) == (y : Int)) = true := by rw [hxy]; simp
        have HXY := Lib.hid hxy
        clear hxy
        go_wp2_with fail
        refine wp_region_ext_lit (by kernel_rfl) (by kernel_rfl) ?_
        repeat (go_big_quiet_step ((go_at_call 127; exact Calls.ext_of (HACC.out _ (below_trans HBW.out (ext_below _ _))))))
        refine wpQuiet_nil ?_
        intro _ hw'
        obtain ⟨u2, hw''⟩ := hw'
        subst hw''
        have hbu := ext_below wr u2
        have HR2 := Lib.hid (ownsRow_below HROW.out hbu (Nat.le_refl _))
        have hz2 : W0.heap.size ≤ (ext wr u2).heap.size := Nat.le_trans hsz hbu.size
        have hbel2 := hbel.trans (hbu.mono hsz)
        generalize ext wr u2 = wx at *
        cases hacc : accC a (valAt g X) S with
        | true =>
          have HV := Lib.hid (show ini g a y k = 0 by rw [HINI.out, ← HXY.out, hacc]; simp)
          clear hacc
          go_wp2_with (at_builtin; (refine wpList_append1 cI elInt rfl _ _ rfl W0.heap.size _ (D) (0) _ 1 _ (by rfl) (HR2.out) (by rfl) rfl rfl rfl (cI_one _) (by omega) (by omega) (by omega) ?_); intro v' w4 hrow' hb4 _ _)
          go_roundw
          case rel => exact ⟨k + 1, by omega, by go_num, by rw [HSN.out, HV.out]; exact hrow', hbel2.trans hb4⟩
          case measure => simp [intOf]; omega
        | false =>
          have HV := Lib.hid (show ini g a y k = -1 by rw [HINI.out, ← HXY.out, hacc]; simp)
          clear hacc
          go_wp2_with (at_builtin; (refine wpList_append1 cI elInt rfl _ _ rfl W0.heap.size _ (D) (-1) _ 1 _ (by rfl) (HR2.out) (by rfl) rfl rfl rfl (cI_one _) (by omega) (by omega) (by omega) ?_); intro v' w4 hrow' hb4 _ _)
          go_roundw
          case rel => exact ⟨k + 1, by omega, by go_num, by rw [HSN.out, HV.out]; exact hrow', hbel2.trans hb4⟩
          case measure => simp [intOf]; omega
      · have k1 : ((X : Int) == (y : Int)) = false := by simp only [beq_eq_false_iff_ne, ne_eq]; omega
        have HV := Lib.hid (show ini g a y k = -1 by rw [HINI.out, beq_eq_false_iff_ne.2 hxy]; simp)
        clear hxy
        go_wp2_with fail
        refine wp_region_ext_lit (by kernel_rfl) (by kernel_rfl) ?_
        repeat (go_big_quiet_step ((go_at_call 127; exact Calls.ext_of (HACC.out _ (below_trans HBW.out (ext_below _ _))))))
        refine wpQuiet_nil ?_
        intro _ hw'
        obtain ⟨u2, hw''⟩ := hw'
        subst hw''
        have hbu := ext_below wr u2
        have HR2 := Lib.hid (ownsRow_below HROW.out hbu (Nat.le_refl _))
        have hz2 : W0.heap.size ≤ (ext wr u2).heap.size := Nat.le_trans hsz hbu.size
        have hbel2 := hbel.trans (hbu.mono hsz)
        generalize ext wr u2 = wx at *
        go_wp2_with (at_builtin; (refine wpList_append1 cI elInt rfl _ _ rfl W0.heap.size _ (D) (-1) _ 1 _ (by rfl) (HR2.out) (by rfl) rfl rfl rfl (cI_one _) (by omega) (by omega) (by omega) ?_); intro v' w4 hrow' hb4 _ _)
        go_roundw
        case rel => exact ⟨k + 1, by omega, by go_num, by rw [HSN.out, HV.out]; exact hrow', hbel2.trans hb4⟩
        case measure => simp [intOf]; omega
    · obtain rfl : k = N := by omega
      clear hlt hk
      obtain ⟨wo, rfl⟩ : ∃ wo : World, wo = wr := ⟨_, rfl⟩
      obtain ⟨AD, cD, rfl, hlD, hmD, -⟩ := (Own.of_row (xs := iniL g a y k) HROW.out rfl rfl).form cI_len
      rw [iniL_len] at hlD ⊢
      go_wp2_with fail
      go_loopw [11, 12] (fun nn ii wr => ∃ (i : Nat) (us : List Value), i ≤ k ∧ ii = .int .i64 (i : Int) ∧ NS wo.heap.size wr 159 162 cPS 4 nn us (psL g a i) ∧ Below wo.heap.size wo wr) (fun _ ii _ => k - (intOf ii).toNat)
      case atStart => exact ⟨0, [], Nat.zero_le _, rfl, NS.start (World.ownsRow_lit wo #[] 0 (Nat.le_refl _) (by decide) rfl), (Below.refl _ _).alloc (Nat.le_refl _) _⟩
      case round =>
        obtain ⟨i, us, hi, rfl, hns, hb2⟩ := hrel
        have hbw2 := below_trans HBW.out hb2
        have x0 := kcell hb2 x0
        have x1 := kcell hb2 x1
        have y0 := kcell hb2 y0
        have y1 := kcell hb2 y1
        have y2 := kcell hb2 y2
        have hs2 := hb2.size
        have HNS := Lib.hid hns
        have HBW2 := Lib.hid hbw2
        clear hns hbw2
        by_cases hlt : i < k
        · have hgp : g.vals.length * a.accept.length = k := HN.out.symm
          have hnp : 0 < a.accept.length := by rcases Nat.eq_zero_or_pos a.accept.length with h | h; (rw [h, Nat.mul_zero] at hgp; omega); exact h
          obtain ⟨X, hX⟩ : ∃ X, X = i / a.accept.length := ⟨_, rfl⟩
          obtain ⟨S, hS⟩ : ∃ S, S = i % a.accept.length := ⟨_, rfl⟩
          have hXl : X < g.vals.length := by rw [hX]; exact Nat.div_lt_of_lt_mul (by rw [Nat.mul_comm, hgp]; exact hlt)
          have hSl : S < a.accept.length := by rw [hS]; exact Nat.mod_lt _ hnp
          have t1 : (i : Int).tdiv (a.accept.length : Int) = (X : Int) := by rw [hX]; rfl
          have t2 : (i : Int).tmod (a.accept.length : Int) = (S : Int) := by rw [hS]; rfl
          have hn0 : ((a.accept.length : Int) == 0) = false := by simp only [beq_eq_false_iff_ne, ne_eq]; omega
          have HPX := Lib.hid (show psL g a (i + 1) = psL g a i ++ [prodSteps g a X S] by rw [psL_snoc, hX, hS]; rfl)
          have hpl := psL_len g a i
          clear hX hS hgp
          generalize psL g a i = PL at *
          have N0 := Ne.symm (α := Option Nat) (mt (HNS.out.own.lt w.heap.size) (by omega))
          have N1 := Ne.symm (α := Option Nat) (mt (HNS.out.own.lt (w.heap.size + 1)) (by omega))
          have HN0 := Lib.hid N0
          have HN1 := Lib.hid N1
          have hae : a.accept ≠ [] := by intro h; rw [h] at hnp; simp at hnp
          have q1 : IntKind.i64.wrap (X : Int) = (X : Int) := IntWalk.i64_in _ (by omega)
          have q2 : IntKind.i64.wrap (S : Int) = (S : Int) := IntWalk.i64_in _ (by omega)
          clear N0 N1
          go_wp2_with fail
          refine F_start 12 (fun w' => w'.cell? ⟨w.heap.size, 0, none⟩ = some (.slice A1 g.vals.length c1) ∧ w'.cell? ⟨w.heap.size, 1, none⟩ = some (.slice A2 g.edges.length c2) ∧ w'.cell? ⟨w.heap.size + 1, 0, none⟩ = some (.int .i64 a.start) ∧ w'.cell? ⟨w.heap.size + 1, 1, none⟩ = some (.slice A3 a.accept.length c3) ∧ w'.cell? ⟨w.heap.size + 1, 2, none⟩ = some (.slice A4 a.accept.length c4)) (by kernel_rfl) (by exact ⟨x0, x1, y0, y1, y2⟩) (fun hS inv => ?_)
          refine F_take (i := 0) (v := ?_) rfl (by kernel_rfl) (by kernel_rfl) (by kernel_rfl) (fun _ _ _ h => h) inv (Or.inl ⟨by rfl, ?_⟩) (by assumption) (fun invn => ?_)
          rotate_left
          · (intro w hSw; (try dsimp only at hSw); go_simp; try with_reducible rfl)
          try simp only [List.getElem_toArray, List.getElem_cons_zero, List.getElem_cons_succ, Act.put, List.setIfInBounds_toArray, List.set_cons_zero, List.set_cons_succ]
          clear inv
          have inv := invn
          clear invn
          refine F_take (i := 1) (v := ?_) rfl (by kernel_rfl) (by kernel_rfl) (by kernel_rfl) (fun _ _ _ h => h) inv (Or.inl ⟨by rfl, ?_⟩) (by assumption) (fun invn => ?_)
          rotate_left
          · (intro w hSw; (try dsimp only at hSw); go_simp; try with_reducible rfl)
          try simp only [List.getElem_toArray, List.getElem_cons_zero, List.getElem_cons_succ, Act.put, List.setIfInBounds_toArray, List.set_cons_zero, List.set_cons_succ]
          clear inv
          have inv := invn
          clear invn
          refine F_take (i := 2) (v := ?_) rfl (by kernel_rfl) (by kernel_rfl) (by kernel_rfl) (fun _ _ _ h => h) inv (Or.inl ⟨by rfl, ?_⟩) (by assumption) (fun invn => ?_)
          rotate_left
          · (intro w hSw; (try dsimp only at hSw); go_simp; try with_reducible rfl)
          try simp only [List.getElem_toArray, List.getElem_cons_zero, List.getElem_cons_succ, Act.put, List.setIfInBounds_toArray, List.set_cons_zero, List.set_cons_succ]
          clear inv
          have inv := invn
          clear invn
          refine F_take (i := 3) (v := ?_) rfl (by kernel_rfl) (by kernel_rfl) (by kernel_rfl) (fun _ _ _ h => h) inv (Or.inl ⟨by rfl, ?_⟩) (by assumption) (fun invn => ?_)
          rotate_left
          · (intro w hSw; (try dsimp only at hSw); go_simp; try with_reducible rfl)
          try simp only [List.getElem_toArray, List.getElem_cons_zero, List.getElem_cons_succ, Act.put, List.setIfInBounds_toArray, List.set_cons_zero, List.set_cons_succ]
          clear inv
          have inv := invn
          clear invn
          refine F_take (i := 4) (v := ?_) rfl (by kernel_rfl) (by kernel_rfl) (by kernel_rfl) (fun _ _ _ h => h) inv (Or.inl ⟨by rfl, ?_⟩) (by assumption) (fun invn => ?_)
          rotate_left
          · (intro w hSw; (try dsimp only at hSw); go_simp; try with_reducible rfl)
          try simp only [List.getElem_toArray, List.getElem_cons_zero, List.getElem_cons_succ, Act.put, List.setIfInBounds_toArray, List.set_cons_zero, List.set_cons_succ]
          clear inv
          have inv := invn
          clear invn
          refine F_take (i := 5) (v := ?_) rfl (by kernel_rfl) (by kernel_rfl) (by kernel_rfl) (fun _ _ _ h => h) inv (Or.inl ⟨by rfl, ?_⟩) (by assumption) (fun invn => ?_)
          rotate_left
          · (intro w hSw; (try dsimp only at hSw); go_simp; try with_reducible rfl)
          try simp only [List.getElem_toArray, List.getElem_cons_zero, List.getElem_cons_succ, Act.put, List.setIfInBounds_toArray, List.set_cons_zero, List.set_cons_succ]
          clear inv
          have inv := invn
          clear invn
          refine F_take (i := 6) (v := ?_) rfl (by kernel_rfl) (by kernel_rfl) (by kernel_rfl) (fun _ _ _ h => h) inv (Or.inl ⟨by rfl, ?_⟩) (by assumption) (fun invn => ?_)
          rotate_left
          · (intro w hSw; (try dsimp only at hSw); go_simp; try with_reducible rfl)
          try simp only [List.getElem_toArray, List.getElem_cons_zero, List.getElem_cons_succ, Act.put, List.setIfInBounds_toArray, List.set_cons_zero, List.set_cons_succ]
          clear inv
          have inv := invn
          clear invn
          refine F_take (i := 7) (v := ?_) rfl (by kernel_rfl) (by kernel_rfl) (by kernel_rfl) (fun _ _ _ h => h) inv (Or.inl ⟨by rfl, ?_⟩) (by assumption) (fun invn => ?_)
          rotate_left
          · (intro w hSw; (try dsimp only at hSw); go_simp; try with_reducible rfl)
          try simp only [List.getElem_toArray, List.getElem_cons_zero, List.getElem_cons_succ, Act.put, List.setIfInBounds_toArray, List.set_cons_zero, List.set_cons_succ]
          clear inv
          have inv := invn
          clear invn
          refine F_take (i := 8) (v := ?_) rfl (by kernel_rfl) (by kernel_rfl) (by kernel_rfl) (fun _ _ _ h => h) inv (Or.inl ⟨by rfl, ?_⟩) (by assumption) (fun invn => ?_)
          rotate_left
          · (intro w hSw; (try dsimp only at hSw); go_simp; try with_reducible rfl)
          try simp only [List.getElem_toArray, List.getElem_cons_zero, List.getElem_cons_succ, Act.put, List.setIfInBounds_toArray, List.set_cons_zero, List.set_cons_succ]
          clear inv
          have inv := invn
          clear invn
          refine F_one (i := 9) (by kernel_rfl) rfl rfl (by omega) inv (fun K hK => ?_)
          try simp only [List.getElem_toArray, List.getElem_cons_zero, List.getElem_cons_succ]
          go_simp
          refine (l14Steps_any _ _ g a X S _ (HGV.out.keep (below_trans HBW2.out ((Below.refl wr.heap.size wr).drew))) (HAV.out.keep (below_trans HBW2.out ((Below.refl wr.heap.size wr).drew))) HGO.out HAO.out hXl hSl).mono ?_
          rintro e wT ⟨vT, rfl, hoT, hbT⟩
          have HR1 := Lib.hid ((HNS.out.below (Below.refl wr.heap.size wr).drew).below hbT)
          have HOT := Lib.hid (hoT.1)
          have hzT : wr.heap.size ≤ wT.heap.size := hbT.size
          have HBT := Lib.hid (below_trans ((Below.refl wr.heap.size wr).drew) hbT)
          obtain ⟨AT, nT, cT, rfl⟩ := hoT.shape
          refine hK.out _ _ (kB5 hbT hS) (fun hSn invn => ?_)
          try simp only [List.getElem_toArray, List.getElem_cons_zero, List.getElem_cons_succ, Act.put, List.setIfInBounds_toArray, List.set_cons_zero, List.set_cons_succ]
          clear hK K inv hS
          have inv := invn
          have hS := hSn
          clear invn hSn
          refine F_one (i := 10) (by kernel_rfl) rfl rfl (by omega) inv (fun K hK => ?_)
          try simp only [List.getElem_toArray, List.getElem_cons_zero, List.getElem_cons_succ]
          go_simp
          refine hK.out _ _ (kA5 _ hS) (fun hSn invn => ?_)
          try simp only [List.getElem_toArray, List.getElem_cons_zero, List.getElem_cons_succ, Act.put, List.setIfInBounds_toArray, List.set_cons_zero, List.set_cons_succ]
          clear hK K inv hS
          have inv := invn
          have hS := hSn
          clear invn hSn
          refine F_one (i := 11) (by kernel_rfl) rfl rfl (by omega) inv (fun K hK => ?_)
          try simp only [List.getElem_toArray, List.getElem_cons_zero, List.getElem_cons_succ]
          have hus := HNS.out.len
          refine op_append1 cV elPSS rfl _ _ (by rfl) wo.heap.size _ us (.slice AT nT cT) 1 _ (by rfl) (HR1.out.own.alloc _) (by first | rfl | simp) (heap_alloc_new _ _) rfl (by intro u hu; simp only [cV, List.mem_cons, List.not_mem_nil, or_false] at hu; subst hu; rfl) (by omega) (by omega) (by simp; omega) ?_
          intro g2 cp2 w3 hown3 hgr3 hat3 hlt3
          have HW3 := Lib.hid hown3
          have HG3 := Lib.hid hgr3
          have HA3 := Lib.hid hat3
          clear hown3 hgr3 hat3
          refine hK.out _ _ (kG5 HG3.out HN0.out HN0.out HN1.out HN1.out HN1.out hS) (fun hSn invn => ?_)
          try simp only [List.getElem_toArray, List.getElem_cons_zero, List.getElem_cons_succ, Act.put, List.setIfInBounds_toArray, List.set_cons_zero, List.set_cons_succ]
          clear hK K inv hS
          have inv := invn
          have hS := hSn
          clear invn hSn
          refine F_last (i := 12) (by kernel_rfl) rfl rfl (by omega) (by kernel_rfl) (fun K hK => ?_)
          go_simp
          refine hK _ _ ?_
          clear hK K inv hS
          clear q1 q2
          go_wp2_with fail
          go_roundw
          case rel => exact ⟨i + 1, us ++ [.slice AT nT cT], by omega, by go_num, by rw [HPX.out]; exact (HR1.out.below ((Below.refl _ _).alloc (Nat.le_refl _) _)).push (ownsRow_mono (HOT.out.alloc _) hs2) (fun b hb hm => by have h1 := (HNS.out.lt b hm).2; have h2 := (HOT.out.lt b hb).1; have h3 : wr.drew.heap.size = wr.heap.size := rfl; omega) HG3.out (by have h := HW3.out; rwa [show us.length + 1 = i + 1 by omega] at h) (fun g hg => by cases hg; exact HA3.out), ((hb2.trans (HBT.out.mono hs2)).alloc (by omega) _).trans (own_below (HR1.out.own.alloc _) (by simp; omega) HG3.out)⟩
          case measure => simp [intOf]; omega
        · obtain rfl : i = k := by omega
          obtain ⟨N, hNi⟩ : ∃ N, N = i := ⟨_, rfl⟩
          subst hNi
          obtain ⟨w3, rfl⟩ : ∃ w3 : World, w3 = wr := ⟨_, rfl⟩
          have hgn1 := (grOk_iff.1 HGO.out).n1
          have hN1 : 1 ≤ N := by have h := HN.out; rw [h]; exact Nat.mul_pos hgn1 hn1
          have hrow := ownsRow_below HROW.out hb2 (Nat.le_refl _)
          rw [iniL_len] at hrow
          obtain ⟨gD, cD', hvD, hgD, -, -, -⟩ := own_some hrow (by omega)
          injection hvD with e1 _ e3
          subst e1
          subst e3
          have hgDo : gD < wo.heap.size := (HROW.out.lt gD rfl).2
          have hini := SW.ini (ini_SwO (g := g) (y := y) (N := N) hn1 (nextI g a))
          have hnN : ∀ i k, i < N → k ∈ nextI g a i → k < N := fun i k _ hk => by rw [HN.out]; exact nextV_lt (grOk_iff.1 HGO.out) HAO.out hk
          obtain ⟨gN, cN', AN, cN2, rfl, -, hgN3, -, -, -, -⟩ := HNS.out.row cPS_len (psL_at (show 0 < N by omega))
          have hgNo : wo.heap.size ≤ gN := (HNS.out.own.lt gN rfl).1
          rw [psL_len]
          have HROW3 := Lib.hid hrow
          have HINI := Lib.hid hini
          have HNN := Lib.hid hnN
          clear HROW hrow hini hnN m0 m0' HBW hbel hb2 hi
          go_wp2_with fail
          go_loopw [13, 14] (fun cc dd wr => ∃ (d e : Nat) (D : List Int) (ch : Bool), d = e + 1 ∧ cc = .bool ch ∧ dd = .int .i64 (d : Int) ∧ e ≤ N + 1 ∧ SW (nextI g a) (fun i => i ∈ goalsL g a y) N e D ch ∧ wr.ownsRow W0.heap.size 3 1 (.slice (some ⟨gD, 0, none⟩) N cD) N (D.flatMap cI) ∧ Only gD (gD + 1) w3 wr) (fun _ dd _ => N + 3 - (intOf dd).toNat)
          case atStart => exact ⟨1, 0, _, true, rfl, rfl, rfl, by omega, HINI.out, HROW3.out, Only.refl _ _ _⟩
          case round =>
            clear HINI HROW3
            obtain ⟨d, e, D, ch, hde, rfl, rfl, heN, hsw, hrow, hon⟩ := hrel
            have HSW := Lib.hid hsw
            have HROW := Lib.hid hrow
            clear hsw hrow
            cases ch with
            | false =>
              have hD : D = distTo g a (y : Int) := sweep_eq HGO.out HAO.out hy (by rw [← HN.out]; exact HSW.out.1) (by rw [← HN.out]; exact HSW.out.2.2 rfl)
              rw [← HR.out] at hD
              have hown := Own.of_row (xs := D) (ownsRow_mono HROW.out hb0.size) HSW.out.1 rfl
              rw [hD] at hown
              have HO := Lib.hid hown
              have hfin : Below w.heap.size w wr := HBW2.out.trans (hon.below (by have := hb0.size; omega) HBW2.out.size)
              clear hD hown
              go_wp2_with fail
              go_ret
              exact ⟨_, rfl, HO.out, hfin⟩
            | true =>
              obtain ⟨hsi, hci⟩ := HSW.out.enter
              have heN2 := hci.le
              have HSI := Lib.hid hsi
              have HCI := Lib.hid hci
              have HDE := Lib.hid hde
              have hd1 : 1 ≤ d := by omega
              have hdN : d ≤ N + 1 := by omega
              clear hsi hci hde HSW
              go_wp2_with fail
              go_loopw [13, 15] (fun cc ii wr => ∃ (i : Nat) (D : List Int) (ch : Bool), i ≤ N ∧ cc = .bool ch ∧ ii = .int .i64 (i : Int) ∧ SwI (nextI g a) (fun i => i ∈ goalsL g a y) N D e i ch ∧ CI e N D ch ∧ wr.ownsRow W0.heap.size 3 1 (.slice (some ⟨gD, 0, none⟩) N cD) N (D.flatMap cI) ∧ Only gD (gD + 1) w3 wr) (fun _ ii _ => N - (intOf ii).toNat)
              case atStart => exact ⟨0, D, false, Nat.zero_le _, rfl, rfl, HSI.out, HCI.out, HROW.out, hon⟩
              case round =>
                clear HSI HCI HROW hon
                obtain ⟨i, D0, ch0, hi, rfl, rfl, hsi, hci, hrow, hon⟩ := hrel
                have HSI := Lib.hid hsi
                have HCI := Lib.hid hci
                have HROW := Lib.hid hrow
                clear hsi hci hrow
                by_cases hlt : i < N
                · obtain ⟨A7, c7, hc7, hl7, hm7, hs7⟩ := HNS.out.at cPS_len rfl (psL_at hlt)
                  have hlp : (psI g a i).length ≤ 288 := prodSteps_len (grOk_iff.1 HGO.out) a _ _
                  have hnl : (nextI g a i).length = (psI g a i).length := by rw [psI_next, List.length_map]
                  have HNL := Lib.hid hnl
                  have HS7 := Lib.hid hs7
                  have HC7 := Lib.hid hc7
                  clear hnl hs7 hc7
                  go_wp2_with fail
                  go_loopw [13, 16] (fun cc kk wr => ∃ (k : Nat) (D : List Int) (ch : Bool), k ≤ (psI g a i).length ∧ cc = .bool ch ∧ kk = .int .i64 (k : Int) ∧ KI (nextI g a) D0 ch0 e i k D ch ∧ wr.ownsRow W0.heap.size 3 1 (.slice (some ⟨gD, 0, none⟩) N cD) N (D.flatMap cI) ∧ Only gD (gD + 1) w3 wr) (fun _ kk _ => (psI g a i).length - (intOf kk).toNat)
                  case atStart => exact ⟨0, D0, ch0, Nat.zero_le _, rfl, rfl, KI.start, HROW.out, hon⟩
                  case round =>
                    clear HROW hon
                    obtain ⟨k, D, ch, hk, rfl, rfl, hki, hrow, hon⟩ := hrel
                    have hDl : D.length = N := hki.len.trans HSI.out.1
                    have c7w := ocell hon HC7.out hgN3 (.inr (by omega))
                    have hDc := (World.ownsRow.cellAt hrow i (by omega)).trans (flatI_at (getD_of (k := i) (by omega)))
                    obtain ⟨xi, hxi⟩ : ∃ xi, xi = D.getD i 0 := ⟨_, rfl⟩
                    rw [← hxi] at hDc
                    have hcn := hki.cnt HCI.out (by rw [HSI.out.1]; exact hlt)
                    have HKI := Lib.hid hki
                    have HROW := Lib.hid hrow
                    have HXI := Lib.hid hxi
                    have HDL := Lib.hid hDl
                    have HCN := Lib.hid hcn
                    have hii : (i : Int) < (N : Int) := by omega
                    clear hki hrow hxi hDl hcn
                    by_cases hlk : k < (psI g a i).length
                    · by_cases hneg : xi < 0
                      · have hpk : (psI g a i)[k]? = some (psI g a i)[k] := List.getElem?_eq_getElem hlk
                        have hpr := prodSteps_range (grOk_iff.1 HGO.out) HAO.out (List.getElem_mem hlk)
                        generalize (psI g a i)[k] = p at hpk hpr
                        have hnk : (nextI g a i)[k]? = some (psV a.accept.length p) := by rw [psI_next, List.getElem?_map, hpk]; rfl
                        have hvN := HNN.out i _ hlt (List.mem_of_getElem? hnk)
                        obtain ⟨b7, o7, rfl, hb70, hb71, r2, r3⟩ := HS7.out.ps hpk
                        have r2 := ocell hon r2 hb71 (.inr (by omega))
                        have r3 := ocell hon r3 hb71 (.inr (by omega))
                        obtain ⟨pst, z, q⟩ := p
                        simp only at r2 r3 hpr
                        obtain ⟨⟨hz0, hz1⟩, hq0, hq1⟩ := hpr
                        obtain ⟨z, rfl⟩ := Int.eq_ofNat_of_zero_le hz0
                        obtain ⟨q, rfl⟩ := Int.eq_ofNat_of_zero_le hq0
                        obtain ⟨vv, hvv⟩ : ∃ vv, vv = psV a.accept.length (pst, (z : Int), (q : Int)) := ⟨_, rfl⟩
                        have hvv2 : vv = z * a.accept.length + q := by rw [hvv]; simp [psV]
                        rw [← hvv] at hnk hvN
                        obtain ⟨zn, hzn⟩ : ∃ zn, zn = z * a.accept.length := ⟨_, rfl⟩
                        rw [← hzn] at hvv2
                        have m1' : (z : Int) * (a.accept.length : Int) = (zn : Int) := by rw [hzn, Int.natCast_mul]
                        have m2' : (zn : Int) + (q : Int) = (vv : Int) := by omega
                        have m1 : IntKind.i64.wrap ((z : Int) * (a.accept.length : Int)) = (zn : Int) := by rw [m1']; exact IntWalk.i64_in _ (by omega)
                        have m2 : IntKind.i64.wrap ((zn : Int) + (q : Int)) = (vv : Int) := by rw [m2']; exact IntWalk.i64_in _ (by omega)
                        have hvc := (World.ownsRow.cellAt HROW.out vv (by omega)).trans (flatI_at (getD_of (k := vv) (by have := HDL.out; omega)))
                        obtain ⟨dv, hdv⟩ : ∃ dv, dv = D.getD vv 0 := ⟨_, rfl⟩
                        rw [← hdv] at hvc
                        have HDV := Lib.hid hdv
                        have HNK := Lib.hid hnk
                        have m3' : (d : Int) - 1 = (e : Int) := by have := HDE.out; omega
                        have m3 : IntKind.i64.wrap ((d : Int) - 1) = (e : Int) := by rw [m3']; exact IntWalk.i64_in _ (by omega)
                        have hkk : (k : Int) < ((psI g a i).length : Int) := by omega
                        have hvi : (vv : Int) < (N : Int) := by omega
                        clear hvv hvv2 hzn hdv hnk hpk hvN
                        go_wp2_with fail
                        go_quiet (fail)
                        have hdi : i < D0.length := by rw [HSI.out.1]; exact hlt
                        by_cases hdd : dv = (e : Int)
                        · have k1 : (dv == (e : Int)) = true := by rw [hdd]; simp
                          have hit := HKI.out.hit hdi (by rw [← HXI.out]; exact hneg) HNK.out (by rw [← HDV.out]; exact hdd)
                          rw [show (e : Int) + 1 = (d : Int) by have := HDE.out; omega] at hit
                          have hkf := World.ownsRow.frozenAt HROW.out i
                          have hrow2 := (World.ownsRow.stored HROW.out i (.int .i64 (d : Int))).1
                          rw [flatI_set] at hrow2
                          have hon2 := hon.setCell (p := ⟨gD, i, none⟩) (.inl ⟨Nat.le_refl _, Nat.lt_succ_self _⟩) (.int .i64 (d : Int))
                          have HIT := Lib.hid hit
                          have HR2 := Lib.hid hrow2
                          have HON2 := Lib.hid hon2
                          clear hit hrow2 hon2 hdd m1 m2 m3 m1' m2' m3'
                          go_wp2_with fail
                          go_roundw
                          case rel => exact ⟨k + 1, _, true, by omega, rfl, by go_num, HIT.out, HR2.out, HON2.out.drewN _⟩
                          case measure => simp [intOf]; omega
                        · have k1 : (dv == (e : Int)) = false := by simpa using hdd
                          have hit := HKI.out.miss hdi (by rw [← HXI.out]; exact hneg) HNK.out (by rw [← HDV.out]; exact hdd)
                          have HIT := Lib.hid hit
                          clear hit hdd m1 m2 m3 m1' m2' m3'
                          go_wp2_with fail
                          go_roundw
                          case rel => exact ⟨k + 1, D, ch, by omega, rfl, by go_num, HIT.out, HROW.out, hon.drewN _⟩
                          case measure => simp [intOf]; omega
                      · have hfin := HKI.out.fin HSI.out hlt (.inr (by rw [← HXI.out]; exact hneg)) HNN.out
                        have HF := Lib.hid hfin
                        clear hfin
                        go_wp2_with fail
                        go_roundw
                        case rel => exact ⟨i + 1, D, ch, by omega, rfl, by go_num, HF.out, HCN.out, HROW.out, hon⟩
                        case measure => simp [intOf]; omega
                    · have hfin := HKI.out.fin HSI.out hlt (.inl (by have := HNL.out; omega)) HNN.out
                      obtain rfl : k = (psI g a i).length := by omega
                      have HF := Lib.hid hfin
                      clear hfin
                      go_wp2_with fail
                      go_roundw
                      case rel => exact ⟨i + 1, D, ch, by omega, rfl, by go_num, HF.out, HCN.out, HROW.out, hon⟩
                      case measure => simp [intOf]; omega
                · obtain rfl : N = i := by omega
                  have hsw := SW.leave HSI.out HCI.out HNN.out
                  have HSW := Lib.hid hsw
                  clear hsw
                  go_wp2_with fail
                  go_roundw
                  case rel => exact ⟨d + 1, e + 1, D0, ch0, by have := HDE.out; omega, rfl, by go_num, by omega, HSW.out, HROW.out, hon⟩
                  case measure => simp [intOf]; omega
end Go.Proofs.Ytmlfkledhnlkeaa

/- The reference's ShortestLength. -/
namespace Go.Proofs.Ytmlfkledhnlkeaa
set_option linter.unusedVariables false
set_option linter.unusedSimpArgs false
open Go.ChangeShapes Go.WideShapes Go.ChangeAt Go.RowKit
attribute [local go_sem] ext_cell ext_frozen ext_lt ext_lt1 ext_lt2 ext_lt3 ltn2 ltn3 ltn13 lts1 lts2 lts3

theorem goodB0 (g : Gr) (a : Au) (x : Int) : goodB g a x 0 = (grOk g && (auOk a && wi x 0 ((g.vals.length : Int) - 1))) := by
  unfold goodB
  cases h : auOk a with
  | false => simp
  | true =>
    have h1 := (auOk_iff.1 h).1.1
    have h2 : wi 0 0 ((a.accept.length : Int) - 1) = true := wi_iff.2 (by omega)
    rw [h2]
    simp
set_option maxHeartbeats 4000000 in
set_option maxRecDepth 100000 in
theorem specShortestLength (vg va : Value) (g : Gr) (a : Au) (x y : Int) (w : World) (hgv : GrV 0 w.heap.size w vg g) (hav : AuV 0 w.heap.size w va a) :
    Calls Try.prog 36 #[vg, va, .int .i64 x, .int .i64 y] w fun e w' => e = .returned (.int .i64 (shortLen g a x y)) ∧ Below w.heap.size w w' := by
  have hgv0 := hgv
  have hav0 := hav
  obtain ⟨A1, n1, c1, A2, n2, c2, rfl⟩ := hgv.shape
  obtain ⟨ac, nx, rfl, hac, hnx⟩ := hav
  obtain ⟨A3, c3, rfl, -, -, -⟩ := SlE.form hac
  obtain ⟨A4, n4, c4, rfl⟩ := hnx.shape
  have hb0 : Below w.heap.size w ((w.alloc (.cells #[.slice A1 n1 c1, .slice A2 n2 c2] 48)).alloc (.cells #[.int .i64 a.start, .slice A3 a.accept.length c3, .slice A4 n4 c4] 50)) := ((Below.refl _ _).alloc (Nat.le_refl _) _).alloc (by simp) _
  have HGV := Lib.hid hgv0
  have HAV := Lib.hid hav0
  clear hgv hac hnx hgv0 hav0
  go_enter Try.func36, Try.ntmps36
  go_wp2_with fail
  obtain ⟨W0, hW0⟩ : ∃ W0, W0 = ((w.alloc (.cells #[.slice A1 n1 c1, .slice A2 n2 c2] 48)).alloc (.cells #[.int .i64 a.start, .slice A3 a.accept.length c3, .slice A4 n4 c4] 50)) := ⟨_, rfl⟩
  rw [← hW0] at hb0 ⊢
  have x0 : W0.cell? ⟨w.heap.size, 0, none⟩ = some (.slice A1 n1 c1) := by rw [hW0]; simp
  have x1 : W0.cell? ⟨w.heap.size, 1, none⟩ = some (.slice A2 n2 c2) := by rw [hW0]; simp
  have y0 : W0.cell? ⟨w.heap.size + 1, 0, none⟩ = some (.int .i64 a.start) := by rw [hW0]; simp
  have y1 : W0.cell? ⟨w.heap.size + 1, 1, none⟩ = some (.slice A3 a.accept.length c3) := by rw [hW0]; simp
  have y2 : W0.cell? ⟨w.heap.size + 1, 2, none⟩ = some (.slice A4 n4 c4) := by rw [hW0]; simp
  have hs0 : w.heap.size + 1 + 1 = W0.heap.size := by rw [hW0]; simp
  try rw [hs0]
  have l0 : w.heap.size + 1 < W0.heap.size := by omega
  have l00 : w.heap.size < W0.heap.size := by omega
  clear hW0 hs0
  have hgx := l14Good_any _ _ g a x 0 W0 (HGV.out.keep hb0) (HAV.out.keep hb0)
  have HGX := Lib.hid hgx
  clear hgx
  cases hk : goodB g a x 0 with
  | false =>
    rw [hk] at HGX
    have hfin : shortLen g a x y = -1 := by
      unfold shortLen
      rw [if_neg]
      intro h
      rw [goodB0] at hk
      simp only [Bool.and_eq_true] at h
      simp [h] at hk
    have HF := Lib.hid hfin
    clear hk hfin
    refine HGX.out.mono ?_
    rintro e w1 ⟨rfl, hb1⟩
    go_wp2_with fail
    go_ret
    exact ⟨by rw [HF.out]; rfl, below_trans hb0 hb1⟩
  | true =>
    rw [hk] at HGX
    have HK := Lib.hid hk
    clear hk
    refine HGX.out.mono ?_
    rintro e w1 ⟨rfl, hb1⟩
    have hb2 := below_trans hb0 hb1
    have x0 := kcell hb1 x0
    have x1 := kcell hb1 x1
    have y0 := kcell hb1 y0
    have y1 := kcell hb1 y1
    have y2 := kcell hb1 y2
    have l0 := Nat.lt_of_lt_of_le l0 hb1.size
    have l00 := Nat.lt_of_lt_of_le l00 hb1.size
    have hgy := l14Good_any _ _ g a y 0 w1 (HGV.out.keep hb2) (HAV.out.keep hb2)
    have HGY := Lib.hid hgy
    clear hgy
    cases hk : goodB g a y 0 with
    | false =>
      rw [hk] at HGY
      have hfin : shortLen g a x y = -1 := by
        unfold shortLen
        rw [if_neg]
        intro h
        rw [goodB0] at hk
        simp only [Bool.and_eq_true] at h
        simp [h] at hk
      have HF := Lib.hid hfin
      clear hk hfin
      go_wp2_with fail
      refine HGY.out.mono ?_
      rintro e w3 ⟨rfl, hb3⟩
      go_wp2_with fail
      go_ret
      exact ⟨by rw [HF.out]; rfl, below_trans hb2 hb3⟩
    | true =>
      rw [hk] at HGY
      rw [goodB0] at hk
      have hk2 := HK.out
      rw [goodB0] at hk2
      simp only [Bool.and_eq_true, wi_iff] at hk hk2
      obtain ⟨hgo, hao, hy0, hy1⟩ := hk
      obtain ⟨-, -, hx0, hx1⟩ := hk2
      have hdl := distTo_len (g := g) (a := a) (y := y) (by simp [wi_iff, hy0, hy1, hgo, hao])
      obtain ⟨x, rfl⟩ := Int.eq_ofNat_of_zero_le hx0
      obtain ⟨y, rfl⟩ := Int.eq_ofNat_of_zero_le hy0
      have hst0 := (auOk_iff.1 hao).2.1
      have hm12 := (auOk_iff.1 hao).1.2
      have hn5 := (grOk_iff.1 hgo).n5
      obtain ⟨xn, hxn⟩ : ∃ xn, xn = x * a.accept.length := ⟨_, rfl⟩
      have hxn2 : xn + a.accept.length ≤ g.vals.length * a.accept.length := by rw [hxn]; have := Nat.mul_le_mul_right a.accept.length (show x + 1 ≤ g.vals.length by omega); rw [Nat.succ_mul] at this; exact this
      have hN60 : g.vals.length * a.accept.length ≤ 60 := by have := Nat.mul_le_mul hn5 hm12; omega
      rw [← hdl] at hxn2 hN60
      obtain ⟨ix, hix⟩ : ∃ ix : Nat, (ix : Int) = (xn : Int) + a.start := ⟨(xn + a.start.toNat), by omega⟩
      have hixl : ix < (distTo g a (y : Int)).length := by omega
      have hfin : shortLen g a (x : Int) (y : Int) = (distTo g a (y : Int)).getD ix 0 := by
        unfold shortLen
        rw [if_pos (by simp [wi_iff, hx0, hx1, hy0, hy1, hgo, hao]), Int.toNat_natCast, ← hxn]
        congr 1
        omega
      have hget := getD_of hixl
      have q1' : (x : Int) * (a.accept.length : Int) = (xn : Int) := by rw [hxn, Int.natCast_mul]
      have q1 : IntKind.i64.wrap ((x : Int) * (a.accept.length : Int)) = (xn : Int) := by rw [q1']; exact IntWalk.i64_in _ (by omega)
      have q2 : IntKind.i64.wrap ((xn : Int) + a.start) = (ix : Int) := by rw [← hix]; exact IntWalk.i64_in _ (by omega)
      have q2' : (xn : Int) + a.start = (ix : Int) := hix.symm
      have q5 : IntKind.i64.wrap (xn : Int) = (xn : Int) := IntWalk.i64_in _ (by omega)
      have q6 : IntKind.i64.wrap (ix : Int) = (ix : Int) := IntWalk.i64_in _ (by omega)
      have hixi : (ix : Int) < ((distTo g a (y : Int)).length : Int) := by omega
      have hix0 : (0 : Int) ≤ (ix : Int) := by omega
      have hyl : y < g.vals.length := by omega
      have HF := Lib.hid hfin
      have HGET := Lib.hid hget
      have Q1 := Lib.hid q1
      have Q1' := Lib.hid q1'
      have Q2 := Lib.hid q2
      have Q2' := Lib.hid q2'
      have Q5 := Lib.hid q5
      have Q6 := Lib.hid q6
      have HGO := Lib.hid hgo
      have HAO := Lib.hid hao
      clear hget hfin hxn hix hgo hao hdl hx0 hx1 hy0 hy1 hst0 q1 q1' q2 q2' q5 q6
      go_wp2_with fail
      refine HGY.out.mono ?_
      rintro e w3 ⟨rfl, hb3⟩
      have hb4 := below_trans hb2 hb3
      have x0 := kcell hb3 x0
      have x1 := kcell hb3 x1
      have y0 := kcell hb3 y0
      have y1 := kcell hb3 y1
      have y2 := kcell hb3 y2
      clear hb0 hb1 hb2 hb3 HGY HGX HK
      go_wp2_with fail
      have q1 := Q1.out
      have q1' := Q1'.out
      have q2 := Q2.out
      have q2' := Q2'.out
      have q5 := Q5.out
      have q6 := Q6.out
      refine F_start 14 (fun w' => w'.cell? ⟨w.heap.size, 0, none⟩ = some (.slice A1 n1 c1) ∧ w'.cell? ⟨w.heap.size, 1, none⟩ = some (.slice A2 n2 c2) ∧ w'.cell? ⟨w.heap.size + 1, 0, none⟩ = some (.int .i64 a.start) ∧ w'.cell? ⟨w.heap.size + 1, 1, none⟩ = some (.slice A3 a.accept.length c3) ∧ w'.cell? ⟨w.heap.size + 1, 2, none⟩ = some (.slice A4 n4 c4)) (by kernel_rfl) (by exact ⟨x0, x1, y0, y1, y2⟩) (fun hS inv => ?_)
      refine F_take (i := 0) (v := ?_) rfl (by kernel_rfl) (by kernel_rfl) (by kernel_rfl) (fun _ _ _ h => h) inv (Or.inl ⟨by rfl, ?_⟩) (by assumption) (fun invn => ?_)
      rotate_left
      · (intro w hSw; (try dsimp only at hSw); go_simp; try with_reducible rfl)
      try simp only [List.getElem_toArray, List.getElem_cons_zero, List.getElem_cons_succ, Act.put, List.setIfInBounds_toArray, List.set_cons_zero, List.set_cons_succ]
      clear inv
      have inv := invn
      clear invn
      refine F_take (i := 1) (v := ?_) rfl (by kernel_rfl) (by kernel_rfl) (by kernel_rfl) (fun _ _ _ h => h) inv (Or.inl ⟨by rfl, ?_⟩) (by assumption) (fun invn => ?_)
      rotate_left
      · (intro w hSw; (try dsimp only at hSw); go_simp; try with_reducible rfl)
      try simp only [List.getElem_toArray, List.getElem_cons_zero, List.getElem_cons_succ, Act.put, List.setIfInBounds_toArray, List.set_cons_zero, List.set_cons_succ]
      clear inv
      have inv := invn
      clear invn
      refine F_take (i := 2) (v := ?_) rfl (by kernel_rfl) (by kernel_rfl) (by kernel_rfl) (fun _ _ _ h => h) inv (Or.inl ⟨by rfl, ?_⟩) (by assumption) (fun invn => ?_)
      rotate_left
      · (intro w hSw; (try dsimp only at hSw); go_simp; try with_reducible rfl)
      try simp only [List.getElem_toArray, List.getElem_cons_zero, List.getElem_cons_succ, Act.put, List.setIfInBounds_toArray, List.set_cons_zero, List.set_cons_succ]
      clear inv
      have inv := invn
      clear invn
      refine F_take (i := 4) (v := ?_) rfl (by kernel_rfl) (by kernel_rfl) (by kernel_rfl) (fun _ _ _ h => h) inv (Or.inl ⟨by rfl, ?_⟩) (by assumption) (fun invn => ?_)
      rotate_left
      · (intro w hSw; (try dsimp only at hSw); go_simp; try with_reducible rfl)
      try simp only [List.getElem_toArray, List.getElem_cons_zero, List.getElem_cons_succ, Act.put, List.setIfInBounds_toArray, List.set_cons_zero, List.set_cons_succ]
      clear inv
      have inv := invn
      clear invn
      refine F_take (i := 5) (v := ?_) rfl (by kernel_rfl) (by kernel_rfl) (by kernel_rfl) (fun _ _ _ h => h) inv (Or.inl ⟨by rfl, ?_⟩) (by assumption) (fun invn => ?_)
      rotate_left
      · (intro w hSw; (try dsimp only at hSw); go_simp; try with_reducible rfl)
      try simp only [List.getElem_toArray, List.getElem_cons_zero, List.getElem_cons_succ, Act.put, List.setIfInBounds_toArray, List.set_cons_zero, List.set_cons_succ]
      clear inv
      have inv := invn
      clear invn
      refine F_take (i := 6) (v := ?_) rfl (by kernel_rfl) (by kernel_rfl) (by kernel_rfl) (fun _ _ _ h => h) inv (Or.inl ⟨by rfl, ?_⟩) (by assumption) (fun invn => ?_)
      rotate_left
      · (intro w hSw; (try dsimp only at hSw); go_simp; try with_reducible rfl)
      try simp only [List.getElem_toArray, List.getElem_cons_zero, List.getElem_cons_succ, Act.put, List.setIfInBounds_toArray, List.set_cons_zero, List.set_cons_succ]
      clear inv
      have inv := invn
      clear invn
      refine F_take (i := 7) (v := ?_) rfl (by kernel_rfl) (by kernel_rfl) (by kernel_rfl) (fun _ _ _ h => h) inv (Or.inl ⟨by rfl, ?_⟩) (by assumption) (fun invn => ?_)
      rotate_left
      · (intro w hSw; (try dsimp only at hSw); go_simp; try with_reducible rfl)
      try simp only [List.getElem_toArray, List.getElem_cons_zero, List.getElem_cons_succ, Act.put, List.setIfInBounds_toArray, List.set_cons_zero, List.set_cons_succ]
      clear inv
      have inv := invn
      clear invn
      refine F_take (i := 8) (v := ?_) rfl (by kernel_rfl) (by kernel_rfl) (by kernel_rfl) (fun _ _ _ h => h) inv (Or.inl ⟨by rfl, ?_⟩) (by assumption) (fun invn => ?_)
      rotate_left
      · (intro w hSw; (try dsimp only at hSw); go_simp; try with_reducible rfl)
      try simp only [List.getElem_toArray, List.getElem_cons_zero, List.getElem_cons_succ, Act.put, List.setIfInBounds_toArray, List.set_cons_zero, List.set_cons_succ]
      clear inv
      have inv := invn
      clear invn
      refine F_take (i := 9) (v := ?_) rfl (by kernel_rfl) (by kernel_rfl) (by kernel_rfl) (fun _ _ _ h => h) inv (Or.inl ⟨by rfl, ?_⟩) (by assumption) (fun invn => ?_)
      rotate_left
      · (intro w hSw; (try dsimp only at hSw); go_simp; try with_reducible rfl)
      try simp only [List.getElem_toArray, List.getElem_cons_zero, List.getElem_cons_succ, Act.put, List.setIfInBounds_toArray, List.set_cons_zero, List.set_cons_succ]
      clear inv
      have inv := invn
      clear invn
      refine F_take (i := 10) (v := ?_) rfl (by kernel_rfl) (by kernel_rfl) (by kernel_rfl) (fun _ _ _ h => h) inv (Or.inl ⟨by rfl, ?_⟩) (by assumption) (fun invn => ?_)
      rotate_left
      · (intro w hSw; (try dsimp only at hSw); go_simp; try with_reducible rfl)
      try simp only [List.getElem_toArray, List.getElem_cons_zero, List.getElem_cons_succ, Act.put, List.setIfInBounds_toArray, List.set_cons_zero, List.set_cons_succ]
      clear inv
      have inv := invn
      clear invn
      refine F_take (i := 11) (v := ?_) rfl (by kernel_rfl) (by kernel_rfl) (by kernel_rfl) (fun _ _ _ h => h) inv (Or.inl ⟨by rfl, ?_⟩) (by assumption) (fun invn => ?_)
      rotate_left
      · (intro w hSw; (try dsimp only at hSw); go_simp; try with_reducible rfl)
      try simp only [List.getElem_toArray, List.getElem_cons_zero, List.getElem_cons_succ, Act.put, List.setIfInBounds_toArray, List.set_cons_zero, List.set_cons_succ]
      clear inv
      have inv := invn
      clear invn
      refine F_one (i := 3) (by kernel_rfl) rfl rfl (by omega) inv (fun K hK => ?_)
      try simp only [List.getElem_toArray, List.getElem_cons_zero, List.getElem_cons_succ]
      go_simp
      refine (l14Back_any _ _ g a y _ (GrV.keep (w' := w3.drew) HGV.out hb4.drew) (AuV.keep (w' := w3.drew) HAV.out hb4.drew) HGO.out HAO.out hyl).mono ?_
      rintro e wD ⟨vD, rfl, hoD, hbD⟩
      obtain ⟨A5, c5, rfl, hl5, hm5, hC5⟩ := hoD.form cI_len
      obtain ⟨b5, o5, rfl, hb5, d5⟩ := hC5.int HGET.out
      refine hK.out _ _ (kB5 hbD hS) (fun hSn invn => ?_)
      try simp only [List.getElem_toArray, List.getElem_cons_zero, List.getElem_cons_succ, Act.put, List.setIfInBounds_toArray, List.set_cons_zero, List.set_cons_succ]
      clear hK K inv hS
      have inv := invn
      have hS := hSn
      clear invn hSn
      refine F_take (i := 12) (v := ?_) rfl (by kernel_rfl) (by kernel_rfl) (by kernel_rfl) (fun _ _ _ h => h) inv (Or.inl ⟨by rfl, ?_⟩) (by assumption) (fun invn => ?_)
      rotate_left
      · (intro w hSw; (try dsimp only at hSw); go_simp; try with_reducible rfl)
      try simp only [List.getElem_toArray, List.getElem_cons_zero, List.getElem_cons_succ, Act.put, List.setIfInBounds_toArray, List.set_cons_zero, List.set_cons_succ]
      clear inv
      have inv := invn
      clear invn
      refine F_one (i := 13) (by kernel_rfl) rfl rfl (by omega) inv (fun K hK => ?_)
      try simp only [List.getElem_toArray, List.getElem_cons_zero, List.getElem_cons_succ]
      go_simp
      refine hK.out _ _ (hS) (fun hSn invn => ?_)
      try simp only [List.getElem_toArray, List.getElem_cons_zero, List.getElem_cons_succ, Act.put, List.setIfInBounds_toArray, List.set_cons_zero, List.set_cons_succ]
      clear hK K inv hS
      have inv := invn
      have hS := hSn
      clear invn hSn
      refine F_last (i := 14) (by kernel_rfl) rfl rfl (by omega) (by kernel_rfl) (fun K hK => ?_)
      go_simp
      refine hK _ _ ?_
      clear hK K inv hS
      clear q1 q1' q2 q2' q5 q6
      go_wp2_with fail
      go_ret
      exact ⟨by rw [HF.out]; simp [List.getElem?_eq_getElem hixl], below_trans hb4.drew hbD⟩
end Go.Proofs.Ytmlfkledhnlkeaa

/- Plain: numbers in ascending order, each once. -/
namespace Go.Proofs.Ytmlfkledhnlkeaa
set_option linter.unusedVariables false
set_option linter.unusedSimpArgs false
open Go.Lib
def ascL (xs : List Int) : List Int := Lib.compact (xs.mergeSort fun x y => decide (x ≤ y))
theorem get_bang {zs : List Int} {j : Nat} (h : j < zs.length) : zs.toArray[j]! = zs[j] := by
  rw [getElem!_pos _ j (by simpa using h)]; simp
theorem asc_aux {zs : List Int} (hs : zs.Pairwise (· ≤ ·)) : ∀ m, m ≤ zs.length → (compactUpTo zs.toArray m).Pairwise (· < ·) ∧ ∀ x, x ∈ compactUpTo zs.toArray m ↔ ∃ j, ∃ h : j < zs.length, j < m ∧ zs[j] = x := by
  intro m
  induction m with
  | zero => intro _; simp [compactUpTo]
  | succ m ih =>
    intro hm
    obtain ⟨ih1, ih2⟩ := ih (by omega)
    have hml : m < zs.length := by omega
    rw [compactUpTo_succ]
    have hbd : ∀ x ∈ compactUpTo zs.toArray m, x ≤ zs[m] ∧ (0 < m → x ≤ zs[m - 1]) := fun x hx => by
      obtain ⟨j, hj, hjm, rfl⟩ := (ih2 x).1 hx
      refine ⟨List.pairwise_iff_getElem.1 hs j m hj hml hjm, fun h0 => ?_⟩
      rcases Nat.lt_or_ge j (m - 1) with h | h
      · exact List.pairwise_iff_getElem.1 hs j (m - 1) hj (by omega) h
      · have : j = m - 1 := by omega
        subst this
        exact Int.le_refl _
    by_cases hk : keeps zs.toArray m = true
    · rw [if_pos hk, get_bang hml]
      refine ⟨List.pairwise_append.2 ⟨ih1, by simp, fun x hx y hy => ?_⟩, fun x => ?_⟩
      · rw [List.mem_singleton] at hy
        subst hy
        rcases Nat.eq_zero_or_pos m with h0 | h0
        · subst h0
          simp [compactUpTo] at hx
        · have h1 := (hbd x hx).2 h0
          have h2 : zs[m - 1] ≤ zs[m] := List.pairwise_iff_getElem.1 hs (m - 1) m (by omega) hml (by omega)
          have h3 : zs[m] ≠ zs[m - 1] := by
            simp only [keeps, decide_eq_true_eq] at hk
            rcases hk with h | h
            · omega
            · rwa [get_bang hml, get_bang (show m - 1 < zs.length by omega)] at h
          have h4 : zs[m - 1] ≠ zs[m] := fun e => h3 e.symm
          omega
      · rw [List.mem_append, List.mem_singleton, ih2]
        constructor
        · rintro (⟨j, hj, hjm, rfl⟩ | rfl)
          · exact ⟨j, hj, by omega, rfl⟩
          · exact ⟨m, hml, by omega, rfl⟩
        · rintro ⟨j, hj, hjm, rfl⟩
          rcases Nat.lt_or_ge j m with h | h
          · exact .inl ⟨j, hj, h, rfl⟩
          · obtain rfl : j = m := by omega
            exact .inr rfl
    · rw [if_neg hk, List.append_nil]
      refine ⟨ih1, fun x => ?_⟩
      rw [ih2]
      have h0 : 0 < m ∧ zs[m] = zs[m - 1] := by
        simp only [keeps, decide_eq_true_eq, not_or] at hk
        refine ⟨by omega, ?_⟩
        have := hk.2
        rw [get_bang hml, get_bang (show m - 1 < zs.length by omega)] at this
        exact Classical.not_not.1 this
      constructor
      · rintro ⟨j, hj, hjm, rfl⟩
        exact ⟨j, hj, by omega, rfl⟩
      · rintro ⟨j, hj, hjm, rfl⟩
        rcases Nat.lt_or_ge j m with h | h
        · exact ⟨j, hj, h, rfl⟩
        · obtain rfl : j = m := by omega
          exact ⟨j - 1, by omega, by omega, h0.2.symm⟩
theorem ascL_spec (xs : List Int) : (ascL xs).Pairwise (· < ·) ∧ ∀ x, x ∈ ascL xs ↔ x ∈ xs := by
  have hs : (xs.mergeSort fun x y => decide (x ≤ y)).Pairwise (· ≤ ·) := by
    have h := List.pairwise_mergeSort (le := fun x y : Int => decide (x ≤ y)) (fun a b c h1 h2 => by simp only [decide_eq_true_eq] at *; omega) (fun a b => by simp only [Bool.or_eq_true, decide_eq_true_eq]; omega) xs
    exact h.imp (fun h => by simpa using h)
  obtain ⟨h1, h2⟩ := asc_aux hs _ (Nat.le_refl _)
  refine ⟨h1, fun x => ?_⟩
  have h3 := h2 x
  unfold ascL compact
  rw [h3, ← List.mem_mergeSort (le := fun x y : Int => decide (x ≤ y)), List.mem_iff_getElem]
  constructor
  · rintro ⟨j, hj, _, e⟩; exact ⟨j, hj, e⟩
  · rintro ⟨j, hj, e⟩; exact ⟨j, hj, hj, e⟩
theorem asc_uniq : ∀ {l r : List Int}, l.Pairwise (· < ·) → r.Pairwise (· < ·) → (∀ x, x ∈ l ↔ x ∈ r) → l = r
  | [], [], _, _, _ => rfl
  | [], y :: r, _, _, h => absurd ((h y).2 (by simp)) (by simp)
  | x :: l, [], _, _, h => absurd ((h x).1 (by simp)) (by simp)
  | x :: l, y :: r, h1, h2, h => by
    obtain ⟨a1, a2⟩ := List.pairwise_cons.1 h1
    obtain ⟨b1, b2⟩ := List.pairwise_cons.1 h2
    have hxy : x = y := by
      have e1 := (h x).1 (by simp)
      have e2 := (h y).2 (by simp)
      rcases List.mem_cons.1 e1 with e1 | e1
      · exact e1
      · rcases List.mem_cons.1 e2 with e2 | e2
        · exact e2.symm
        · have := b1 x e1
          have := a1 y e2
          omega
    subst hxy
    rw [asc_uniq a2 b2 fun z => ?_]
    have hz := h z
    simp only [List.mem_cons] at hz
    constructor
    · intro hm
      rcases hz.1 (.inr hm) with e | e
      · have := a1 z hm; omega
      · exact e
    · intro hm
      rcases hz.2 (.inr hm) with e | e
      · have := b1 z hm; omega
      · exact e
/-- the members of a set, as numbers -/
def memI (n m : Nat) : List Int := (mem n m).map fun (t : Nat) => (t : Int)
theorem memI_asc (n m : Nat) : (memI n m).Pairwise (· < ·) := by
  unfold memI mem
  rw [List.pairwise_map]
  refine (List.Pairwise.filter _ (List.pairwise_lt_range)).imp fun h => by omega
theorem mem_memI {n m : Nat} {x : Int} : x ∈ memI n m ↔ ∃ t : Nat, x = (t : Int) ∧ t < n ∧ m.testBit t = true := by
  unfold memI
  rw [List.mem_map]
  constructor
  · rintro ⟨t, ht, rfl⟩; exact ⟨t, rfl, mem_mem.1 ht⟩
  · rintro ⟨t, rfl, h⟩; exact ⟨t, mem_mem.2 h, rfl⟩
end Go.Proofs.Ytmlfkledhnlkeaa

