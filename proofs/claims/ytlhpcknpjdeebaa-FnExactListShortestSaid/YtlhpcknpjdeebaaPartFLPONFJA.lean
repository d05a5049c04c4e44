/- Parts of the proof, joined into one text: Nw, NwMark, ListM, ListI, ListS. -/
import Derived.Test.YtlhpcknpjdeebaaPartHCBNMMEI
import Derived.Test.YtlhpcknpjdeebaaPartBEHCIADD
import Derived.Test.YtlhpcknpjdeebaaPartPCJDHOHD
/- Lists of walks of the call's own: an outer row of walks, each with a row of steps of its own, no two in one block; compared, marked and held by the laws. -/
namespace Go.Proofs.Ytlhpcknpjdeebaa
set_option linter.unusedVariables false
set_option linter.unusedSimpArgs false
open Go.ChangeShapes Go.WideShapes Go.ChangeAt Go.RowKit
attribute [local go_sem] ext_cell ext_frozen ext_lt ext_lt1 ext_lt2 ext_lt3 ltn2 ltn3 ltn13 lts1 lts2 lts3

def cWv (z : Int × Value) : List Value := [.int .i64 z.1, z.2]
theorem cWv_len (z : Int × Value) : (cWv z).length = 2 := rfl
abbrev snds (zs : List (Int × Value)) : List Value := zs.map (·.2)
theorem snds_at {zs : List (Int × Value)} {i : Nat} {u : Value} : (snds zs)[i]? = some u ↔ ∃ z, zs[i]? = some z ∧ z.2 = u := by
  rw [snds, List.getElem?_map]
  cases zs[i]? with
  | none => simp
  | some z => simp
structure NW (lo : Nat) (w : World) (v : Value) (zs : List (Int × Value)) (ks : List Wk) : Prop where
  own : w.ownsRow lo 34 2 v zs.length (zs.flatMap cWv)
  len : zs.length = ks.length
  rows : ∀ (i : Nat) (z : Int × Value) (k : Wk), zs[i]? = some z → ks[i]? = some k → z.1 = k.1 ∧ w.ownsRow lo 96 2 z.2 k.2.length (k.2.flatMap cSt)
  dis : (blks (v :: snds zs)).Nodup
section
variable {lo : Nat} {w w' : World} {v : Value} {zs : List (Int × Value)} {ks : List Wk}
theorem NW.lt (h : NW lo w v zs ks) : ∀ b ∈ blks (v :: snds zs), lo ≤ b ∧ b < w.heap.size := by
  intro b hb
  obtain ⟨i, u, hu, hbu⟩ := mem_blks.1 hb
  cases i with
  | zero =>
    simp only [List.getElem?_cons_zero, Option.some.injEq] at hu
    subst hu
    exact h.own.lt b hbu
  | succ i =>
    rw [List.getElem?_cons_succ] at hu
    obtain ⟨z, hz, rfl⟩ := snds_at.1 hu
    have hi : i < ks.length := by rw [← h.len]; exact (List.getElem?_eq_some_iff.1 hz).1
    exact (h.rows i z _ hz (List.getElem?_eq_getElem hi)).2.lt b hbu
theorem NW.blocks (h : NW lo w v zs ks) (hb : ∀ b ∈ blks (v :: snds zs), w'.heap[b]? = w.heap[b]?) : NW lo w' v zs ks :=
  ⟨ownsRow_block h.own fun g hg => hb g (mem_blks.2 ⟨0, v, rfl, hg⟩), h.len,
    fun i z k hz hk => ⟨(h.rows i z k hz hk).1, ownsRow_block (h.rows i z k hz hk).2 fun g hg => hb g (mem_blks.2 ⟨i + 1, z.2, by simpa using snds_at.2 ⟨z, hz, rfl⟩, hg⟩)⟩, h.dis⟩
theorem NW.below (h : NW lo w v zs ks) (hb : Below w.heap.size w w') : NW lo w' v zs ks := h.blocks fun b hm => hb.block b (h.lt b hm).2
theorem NW.mono (h : NW lo w v zs ks) {lo' : Nat} (hl : lo' ≤ lo) : NW lo' w v zs ks :=
  ⟨ownsRow_mono h.own hl, h.len, fun i z k hz hk => ⟨(h.rows i z k hz hk).1, ownsRow_mono (h.rows i z k hz hk).2 hl⟩, h.dis⟩
theorem NW.start (h : w.ownsRow lo 34 2 v 0 []) : NW lo w v [] [] :=
  ⟨h, rfl, fun i z k hz _ => by simp at hz, by cases hv : v.ownBlock <;> simp [hv]⟩
theorem NW.shape (h : NW lo w v zs ks) : ∃ A c, v = .slice A ks.length c ∧ ks.length ≤ c ∧ c ≤ maxLen := by
  obtain ⟨h1, h2⟩ := h.own
  rcases h2 with ⟨rfl, h3⟩ | ⟨g, cap, cur, rfl, h4, h5, h6, h7, r⟩
  · exact ⟨none, 0, by rw [← h.len, h3], by rw [← h.len, h3]; exact Nat.le_refl _, by unfold maxLen; omega⟩
  · exact ⟨_, cap, by rw [h.len], by rw [← h.len]; exact h6, h7⟩
theorem dis_push {u v' : Value} {us : List Value} {H : Nat} (hdis : (blks (v :: us)).Nodup) (hn : ∀ b, u.ownBlock = some b → b ∉ blks (v :: us)) (hlt : ∀ b ∈ blks (v :: us), b < H) (hul : ∀ b, u.ownBlock = some b → b < H)
    (hat : ∀ g, v'.ownBlock = some g → v.ownBlock = some g ∨ H ≤ g) : (blks (v' :: (us ++ [u]))).Nodup := by
  have hv0 : ∀ b, v.ownBlock = some b → b ∉ blks us := fun b hb => by
    rw [blks, List.filterMap_cons, hb] at hdis
    exact (List.nodup_cons.1 hdis).1
  have hus : (blks us).Nodup := by
    cases hv : v.ownBlock with
    | none => simpa [blks, List.filterMap_cons, hv] using hdis
    | some b => rw [blks, List.filterMap_cons, hv] at hdis; exact (List.nodup_cons.1 hdis).2
  have hnu : ∀ b, u.ownBlock = some b → b ∉ blks us := fun b hb hm => hn b hb (by
    obtain ⟨i, u', h1, h2⟩ := mem_blks.1 hm
    exact mem_blks.2 ⟨i + 1, u', by simpa using h1, h2⟩)
  have hall : (blks (us ++ [u])).Nodup := by
    rw [blks, List.filterMap_append]
    cases hub : u.ownBlock with
    | none => simpa [List.filterMap_cons, hub] using hus
    | some b =>
      rw [List.filterMap_cons, hub]
      refine List.nodup_append.2 ⟨hus, by simp, ?_⟩
      intro x hx y hy e
      simp only [List.filterMap_nil, List.mem_cons, List.not_mem_nil, or_false] at hy
      subst hy
      subst e
      exact hnu _ hub hx
  rw [blks, List.filterMap_cons]
  cases hv' : v'.ownBlock with
  | none => exact hall
  | some g =>
    refine List.nodup_cons.2 ⟨fun hm => ?_, hall⟩
    obtain ⟨i, u', hi, hb⟩ := mem_blks.1 hm
    rcases Nat.lt_or_ge i us.length with hl | hge
    · rw [List.getElem?_append_left hl] at hi
      rcases hat g hv' with h1 | h1
      · exact hv0 g h1 (mem_blks.2 ⟨i, u', hi, hb⟩)
      · have := hlt g (mem_blks.2 ⟨i + 1, u', by simpa using hi, hb⟩)
        omega
    · have hi2 := (List.getElem?_eq_some_iff.1 hi).1
      simp only [List.length_append, List.length_singleton] at hi2
      obtain rfl : i = us.length := by omega
      have e1 : u = u' := by simpa using hi
      subst e1
      rcases hat g hv' with h1 | h1
      · exact hn g hb (mem_blks.2 ⟨0, v, rfl, h1⟩)
      · have := hul g hb
        omega
theorem NW.push (h : NW lo w v zs ks) {n : Int} {u : Value} {xs : List St} (hu : w.ownsRow lo 96 2 u xs.length (xs.flatMap cSt)) (hn : ∀ b, u.ownBlock = some b → b ∉ blks (v :: snds zs))
    {v' : Value} (hg : w.grownBy w' v.ownBlock) (hr : w'.ownsRow lo 34 2 v' (zs ++ [(n, u)]).length ((zs ++ [(n, u)]).flatMap cWv)) (hat : ∀ g, v'.ownBlock = some g → v.ownBlock = some g ∨ w.heap.size ≤ g) :
    NW lo w' v' (zs ++ [(n, u)]) (ks ++ [(n, xs)]) := by
  have hdis := h.dis
  have hkeep : ∀ (u' : Value) (m : Nat) (cs : List Value), w.ownsRow lo 96 2 u' m cs → (∀ b, u'.ownBlock = some b → v.ownBlock ≠ some b) → w'.ownsRow lo 96 2 u' m cs := fun u' m cs ho hne => by
    refine ho.kept hg ?_
    cases hb : u'.ownBlock with
    | none => exact .inl rfl
    | some b => exact .inr fun e => hne b hb e.symm
  have hv0 : ∀ b, v.ownBlock = some b → b ∉ blks (snds zs) := fun b hb => by
    rw [blks, List.filterMap_cons, hb] at hdis
    exact (List.nodup_cons.1 hdis).1
  refine ⟨hr, by simp [h.len], fun i z k hz hk => ?_, ?_⟩
  · rcases Nat.lt_or_ge i zs.length with hlt | hge
    · rw [List.getElem?_append_left hlt] at hz
      rw [List.getElem?_append_left (by rw [← h.len]; exact hlt)] at hk
      have hrow := h.rows i z k hz hk
      exact ⟨hrow.1, hkeep _ _ _ hrow.2 fun b hb hvb => hv0 b hvb (mem_blks.2 ⟨i, z.2, snds_at.2 ⟨z, hz, rfl⟩, hb⟩)⟩
    · have hi2 := (List.getElem?_eq_some_iff.1 hz).1
      simp only [List.length_append, List.length_singleton] at hi2
      obtain rfl : i = zs.length := by omega
      have e1 : (n, u) = z := by simpa using hz
      have e2 : (n, xs) = k := by rw [h.len] at hk; simpa using hk
      subst e1 e2
      exact ⟨rfl, hkeep _ _ _ hu fun b hb hvb => hn b hb (mem_blks.2 ⟨0, v, rfl, hvb⟩)⟩
  · have e : snds (zs ++ [(n, u)]) = snds zs ++ [u] := by simp [snds]
    rw [e]
    exact dis_push hdis hn (fun b hb => (h.lt b hb).2) (fun b hb => (hu.lt b hb).2) hat
/-- what is read of it: walk i -/
theorem NW.at (h : NW lo w v zs ks) {i : Nat} {k : Wk} (hk : ks[i]? = some k) : ∃ g cap A c, v = .slice (some ⟨g, 0, none⟩) ks.length cap ∧ zs[i]? = some (k.1, .slice A k.2.length c) ∧ lo ≤ g ∧ g < w.heap.size ∧ w.cell? ⟨g, i * 2, none⟩ = some (.int .i64 k.1) ∧ w.cell? ⟨g, i * 2 + 1, none⟩ = some (.slice A k.2.length c) ∧ k.2.length ≤ c ∧ c ≤ maxLen := by
  have hi : i < zs.length := by rw [h.len]; exact (List.getElem?_eq_some_iff.1 hk).1
  have hz : zs[i]? = some zs[i] := List.getElem?_eq_getElem hi
  obtain ⟨h1, hr⟩ := h.rows i _ k hz hk
  generalize zs[i] = z at hz h1 hr
  obtain ⟨z1, u⟩ := z
  simp only at h1 hr
  subst h1
  obtain ⟨A, c, rfl, hl, hm, -⟩ := (Own.of_row (xs := k.2) hr rfl rfl).sl cSt_len
  have hown := h.own
  have hlt := h.own.lt
  have hown2 := hown
  obtain ⟨h1, h2⟩ := hown2
  rcases h2 with ⟨rfl, h3⟩ | ⟨g, cap, cur, rfl, r⟩
  · omega
  · refine ⟨g, cap, A, c, by rw [h.len], hz, (hlt g rfl).1, (hlt g rfl).2, ?_, ?_, hl, hm⟩
    · rw [World.ownsRow.cellAt hown (i * 2) (by omega)]
      exact flat_at cWv_len hz 0 _ rfl
    · rw [World.ownsRow.cellAt hown (i * 2 + 1) (by omega)]
      exact flat_at cWv_len hz 1 _ rfl
theorem flatW_len (l : List (Int × Value)) : (l.flatMap cWv).length = l.length * 2 := by
  induction l with
  | nil => rfl
  | cons x l ih => simp only [List.flatMap_cons, List.length_append, cWv_len, ih, List.length_cons]; omega
theorem flatW_set : ∀ (zs : List (Int × Value)) (i : Nat) (z : Int × Value) (n : Int), zs[i]? = some z → (zs.flatMap cWv).set (i * 2) (.int .i64 n) = (zs.set i (n, z.2)).flatMap cWv
  | [], i, z, n, h => by simp at h
  | y :: zs, 0, z, n, h => by
    simp only [List.getElem?_cons_zero, Option.some.injEq] at h
    subst h
    simp [cWv]
  | y :: zs, i + 1, z, n, h => by
    simp only [List.getElem?_cons_succ] at h
    rw [List.flatMap_cons, List.set_append_right _ _ (by rw [cWv_len]; omega), cWv_len, show (i + 1) * 2 - 2 = i * 2 by omega, flatW_set zs i z n h, List.set_cons_succ, List.flatMap_cons]
theorem snds_set {i : Nat} {z : Int × Value} (hz : zs[i]? = some z) (n : Int) : snds (zs.set i (n, z.2)) = snds zs := by
  refine List.ext_getElem? fun j => ?_
  rw [snds, snds, List.getElem?_map, List.getElem?_map]
  by_cases h : i = j
  · subst h
    have hi := (List.getElem?_eq_some_iff.1 hz).1
    rw [List.getElem?_set_self hi, hz]; rfl
  · rw [List.getElem?_set_ne h]
/-- walk i's start is written -/
theorem NW.setStart (h : NW lo w v zs ks) {g cap : Nat} (hv : v = .slice (some ⟨g, 0, none⟩) ks.length cap) {i : Nat} {z : Int × Value} {k : Wk} (hz : zs[i]? = some z) (hk : ks[i]? = some k) (n : Int) :
    NW lo (w.setCell ⟨g, i * 2, none⟩ (.int .i64 n)) v (zs.set i (n, z.2)) (ks.set i (n, k.2)) := by
  have hown := h.own
  have hdis := h.dis
  have hgb : v.ownBlock = some g := by rw [hv]; rfl
  have hown' : w.ownsRow lo 34 2 (.slice (some ⟨g, 0, none⟩) ks.length cap) ks.length (zs.flatMap cWv) := by rw [← hv, ← h.len]; exact hown
  have hst := (World.ownsRow.stored hown' (i * 2) (.int .i64 n)).1
  refine ⟨?_, by simp [h.len], fun j z' k' hz' hk' => ?_, by rw [snds_set hz]; exact hdis⟩
  · rw [List.length_set, ← flatW_set zs i z n hz, hv, h.len]; exact hst
  · have hne : ∀ (j : Nat) (z' : Int × Value), zs[j]? = some z' → ∀ b, z'.2.ownBlock = some b → b ≠ g := fun j z' hz' b hb e => by
      subst e
      have := filterMap_inj (i := 0) (j := j + 1) hdis (x := v) (y := z'.2) rfl (by simpa using snds_at.2 ⟨z', hz', rfl⟩) hgb hb
      omega
    have hbk : ∀ (j : Nat) (z' : Int × Value) (k' : Wk), zs[j]? = some z' → ks[j]? = some k' → (w.setCell ⟨g, i * 2, none⟩ (.int .i64 n)).ownsRow lo 96 2 z'.2 k'.2.length (k'.2.flatMap cSt) := fun j z' k' hz' hk' =>
      ownsRow_block (h.rows j z' k' hz' hk').2 fun b hb => Below.heap_setCell _ _ _ _ (hne j z' hz' b hb)
    by_cases hij : i = j
    · subst hij
      have hi := (List.getElem?_eq_some_iff.1 hz).1
      have hi2 := (List.getElem?_eq_some_iff.1 hk).1
      rw [List.getElem?_set_self hi] at hz'
      rw [List.getElem?_set_self hi2] at hk'
      injection hz' with hz'
      injection hk' with hk'
      subst hz' hk'
      exact ⟨rfl, hbk i z k hz hk⟩
    · rw [List.getElem?_set_ne hij] at hz' hk'
      exact ⟨(h.rows j z' k' hz' hk').1, hbk j z' k' hz' hk'⟩
/-- walk i's steps are written -/
theorem NW.turn (h : NW lo w v zs ks) {i : Nat} {z : Int × Value} {k : Wk} {xs' : List St} (hz : zs[i]? = some z) (hk : ks[i]? = some k)
    (hr : w'.ownsRow lo 96 2 z.2 xs'.length (xs'.flatMap cSt)) (hb : ∀ b ∈ blks (v :: snds zs), z.2.ownBlock ≠ some b → w'.heap[b]? = w.heap[b]?) : NW lo w' v zs (ks.set i (k.1, xs')) := by
  have hdis := h.dis
  have hzi : (v :: snds zs)[i + 1]? = some z.2 := by simpa using snds_at.2 ⟨z, hz, rfl⟩
  refine ⟨ownsRow_block h.own fun g hg => hb g (mem_blks.2 ⟨0, v, rfl, hg⟩) fun e => ?_, by simp [h.len], fun j z2 k2 hj hx => ?_, hdis⟩
  · have := filterMap_inj (i := 0) (j := i + 1) hdis rfl hzi hg e
    omega
  · by_cases hij : i = j
    · subst hij
      rw [hz] at hj
      injection hj with hj
      subst hj
      rw [List.getElem?_set_self (List.getElem?_eq_some_iff.1 hk).1] at hx
      injection hx with hx
      subst hx
      exact ⟨(h.rows i z k hz hk).1, hr⟩
    · rw [List.getElem?_set_ne hij] at hx
      have hzj : (v :: snds zs)[j + 1]? = some z2.2 := by simpa using snds_at.2 ⟨z2, hj, rfl⟩
      refine ⟨(h.rows j z2 k2 hj hx).1, ownsRow_block (h.rows j z2 k2 hj hx).2 fun g hg => hb g (mem_blks.2 ⟨j + 1, z2.2, hzj, hg⟩) fun e => ?_⟩
      have := filterMap_inj (i := i + 1) (j := j + 1) hdis hzi hzj e hg
      omega
end
/-- a list of walks as it is read -/
def WSV (lo hi : Nat) (w : World) (v : Value) (ks : List Wk) : Prop :=
  ∃ zs : List (Int × Value), SlI lo hi w cWv 2 v zs ∧ zs.length = ks.length ∧ ∀ (i : Nat) (z : Int × Value) (k : Wk), zs[i]? = some z → ks[i]? = some k → z.1 = k.1 ∧ SlI lo hi w cSt 2 z.2 k.2
theorem WSV.all {lo hi : Nat} {w : World} {v : Value} {ks : List Wk} (h : WSV lo hi w v ks) (hh : hi ≤ w.heap.size) : WSV 0 w.heap.size w v ks := by
  obtain ⟨zs, h1, h2, h3⟩ := h
  exact ⟨zs, h1.all hh, h2, fun i z k hz hk => ⟨(h3 i z k hz hk).1, (h3 i z k hz hk).2.all hh⟩⟩
def NWO (lo hi : Nat) (w : World) (v : Value) (ks : List Wk) : Prop := ∃ zs, NW lo w v zs ks ∧ ∀ b ∈ blks (v :: snds zs), b < hi
section
variable {lo hi : Nat} {w w' : World} {v : Value} {ks : List Wk}
theorem NWO.of {zs : List (Int × Value)} (h : NW lo w v zs ks) : NWO lo w.heap.size w v ks := ⟨zs, h, fun b hb => (h.lt b hb).2⟩
theorem NWO.view (h : NWO lo hi w v ks) : WSV lo hi w v ks := by
  obtain ⟨zs, h, hl⟩ := h
  refine ⟨zs, Own.sl ⟨h.own, fun g hg => hl g (mem_blks.2 ⟨0, v, rfl, hg⟩)⟩ cWv_len, h.len, fun i z k hz hk => ⟨(h.rows i z k hz hk).1, ?_⟩⟩
  exact Own.sl ⟨(h.rows i z k hz hk).2, fun g hg => hl g (mem_blks.2 ⟨i + 1, z.2, by simpa using snds_at.2 ⟨z, hz, rfl⟩, hg⟩)⟩ cSt_len
theorem NWO.below (h : NWO lo hi w v ks) {B : Nat} (hb : Below B w w') (hB : hi ≤ B) : NWO lo hi w' v ks := by
  obtain ⟨zs, h, hl⟩ := h
  exact ⟨zs, h.blocks fun b hm => hb.block b (by have := hl b hm; omega), hl⟩
theorem NWO.only (h : NWO lo hi w v ks) {l r : Nat} (hb : Only l r w w') (ho : hi ≤ l ∨ r ≤ lo) : NWO lo hi w' v ks := by
  obtain ⟨zs, h, hl⟩ := h
  exact ⟨zs, h.blocks fun b hm => hb.block b (h.lt b hm).2 (by have := hl b hm; have := (h.lt b hm).1; omega), hl⟩
theorem NWO.mono (h : NWO lo hi w v ks) {lo' hi' : Nat} (h1 : lo' ≤ lo) (h2 : hi ≤ hi') : NWO lo' hi' w v ks := by
  obtain ⟨zs, h, hl⟩ := h
  exact ⟨zs, h.mono h1, fun b hb => by have := hl b hb; omega⟩
end
/-- the marks in a list of walks -/
def mkW : Int → List Wk → List Wk
  | _, [] => []
  | k, x :: r => (k, mkStep (k + 1) x.2.length) :: mkW (k + 1 + 2 * (x.2.length : Nat)) r
def amtW : List Wk → Nat
  | [] => 0
  | x :: r => 1 + 2 * x.2.length + amtW r
theorem amtW_app : ∀ (l r : List Wk), amtW (l ++ r) = amtW l + amtW r
  | [], r => by simp [amtW]
  | x :: l, r => by simp only [List.cons_append, amtW, amtW_app l r]; omega
theorem mkW_len : ∀ (l : List Wk) (k : Int), (mkW k l).length = l.length
  | [], _ => rfl
  | x :: l, k => by simp [mkW, mkW_len l]
theorem mkW_app : ∀ (l r : List Wk) (k : Int), mkW k (l ++ r) = mkW k l ++ mkW (k + amtW l) r
  | [], r, k => by simp [mkW, amtW]
  | x :: l, r, k => by
    simp only [List.cons_append, mkW, mkW_app l r, amtW]
    congr 3
    omega
theorem amtW_take_le : ∀ (l : List Wk) (i : Nat), amtW (l.take i) ≤ amtW l
  | [], i => by simp [amtW]
  | x :: l, 0 => by simp [amtW]
  | x :: l, i + 1 => by simp only [List.take_succ_cons, amtW]; have := amtW_take_le l i; omega
theorem mkW_at (l : List Wk) (k : Int) (i : Nat) (x : Wk) (h : l[i]? = some x) : (mkW k l)[i]? = some (k + amtW (l.take i), mkStep (k + amtW (l.take i) + 1) x.2.length) := by
  have hi := (List.getElem?_eq_some_iff.1 h).1
  have hx := (List.getElem?_eq_some_iff.1 h).2
  have : l = l.take i ++ x :: l.drop (i + 1) := by
    rw [← hx, ← List.drop_eq_getElem_cons hi, List.take_append_drop]
  rw [this, mkW_app, mkW]
  have hl : (mkW k (l.take i)).length = i := by rw [mkW_len, List.length_take]; omega
  rw [List.getElem?_append_right (by omega), hl, Nat.sub_self]
  simp only [List.getElem?_cons_zero]
  rw [← this]
theorem amtW_snoc {l : List Wk} {i : Nat} {x : Wk} (h : l[i]? = some x) : amtW (l.take (i + 1)) = amtW (l.take i) + 1 + 2 * x.2.length := by
  rw [take_snoc h, amtW_app]; simp only [amtW]; omega

set_option maxHeartbeats 2000000 in
theorem eqWalkS_same (v1 v2 : Value) (ks : List Wk) (w : World) (hv1 : WSV 0 w.heap.size w v1 ks) (hv2 : WSV 0 w.heap.size w v2 ks) :
    Calls Try.prog 28 #[v1, v2] w fun e w' => e = .returned (.bool true) ∧ Below w.heap.size w w' := by
  obtain ⟨us1, ⟨A1, c1, rfl, hl1, hm1, hx1⟩, hlen1, hr1⟩ := hv1
  obtain ⟨us2, ⟨A2, c2, rfl, hl2, hm2, hx2⟩, hlen2, hr2⟩ := hv2
  rw [hlen1] at hl1 ⊢
  rw [hlen2] at hl2 ⊢
  unfold maxLen at hm1 hm2
  have HL1 := Lib.hid hlen1
  have HL2 := Lib.hid hlen2
  clear hlen1 hlen2
  go_enter Try.func28, Try.ntmps28
  go_wp2
  go_loopw [5] (fun i wr => ∃ (j : Nat) (u : World), j ≤ ks.length ∧ i = .int .i64 j ∧ wr = ext w u) (fun i _ => ks.length - (intOf i).toNat)
  case atStart => exact ⟨0, w, Nat.zero_le _, rfl, ext_self w⟩
  case round =>
    obtain ⟨j, u, hj, rfl, rfl⟩ := hrel
    by_cases hlt : j < ks.length
    · have hxk := List.getElem?_eq_getElem hlt
      obtain ⟨⟨p1, a1⟩, ha1⟩ : ∃ a, us1[j]? = some a := ⟨_, List.getElem?_eq_getElem (by have := HL1.out; omega)⟩
      obtain ⟨⟨p2, a2⟩, ha2⟩ : ∃ a, us2[j]? = some a := ⟨_, List.getElem?_eq_getElem (by have := HL2.out; omega)⟩
      obtain ⟨b1, o1, rfl, -, hb1, hc1⟩ := hx1 j _ ha1
      obtain ⟨b2, o2, rfl, -, hb2, hc2⟩ := hx2 j _ ha2
      obtain ⟨e1, g1⟩ := hr1 j _ _ ha1 hxk
      obtain ⟨e2, g2⟩ := hr2 j _ _ ha2 hxk
      generalize ks[j] = x at e1 e2 g1 g2
      simp only at e1 e2 g1 g2
      subst e1
      subst e2
      have c10 := hc1 0 _ rfl
      have c20 := hc2 0 _ rfl
      have c11 := hc1 1 _ rfl
      have c21 := hc2 1 _ rfl
      simp only [Nat.add_zero] at c10 c20
      clear hc1 hc2 hx1 hx2 hr1 hr2 hxk ha1 ha2
      have HEQ := Lib.hid (fun (W : World) (hW : Below w.heap.size w W) => eqWalk_same _ _ x W ⟨_, rfl, SlE.keep g1 hW⟩ ⟨_, rfl, SlE.keep g2 hW⟩)
      go_wp2
      refine wp_region_ext_lit (by kernel_rfl) (by kernel_rfl) ?_
      repeat (go_big_quiet_step ((go_at_call 13; exact Calls.ext_of (HEQ.out _ (below_trans (ext_below _ _) (ext_below _ _))))))
      refine wpQuiet_nil ?_
      intro _ hw'
      obtain ⟨u2, hw''⟩ := hw'
      subst hw''
      go_wp2
      go_roundw
      case rel =>
        obtain ⟨y, hy⟩ := ext_ext w u u2
        exact ⟨j + 1, y, by omega, by go_num, hy⟩
      case measure => simp [intOf]; omega
    · go_wp2
      go_ret
      exact ⟨rfl, ext_below _ _⟩
set_option maxHeartbeats 2000000 in
theorem heldWalkS_any (v : Value) (ks : List Wk) (k : Int) (w : World) (hv : WSV 0 w.heap.size w v (mkW k ks)) (hk : 0 ≤ k) (hb : k + amtW ks ≤ 4611686018427387904) :
    Calls Try.prog 30 #[v, .int .i64 k] w fun en w' => en = .returned (.int .i64 (k + amtW ks)) ∧ Below w.heap.size w w' := by
  obtain ⟨zs, ⟨A, c, rfl, hl, hm, hx⟩, hul, hrows⟩ := hv
  rw [mkW_len] at hul
  rw [hul] at hl ⊢
  have HU := Lib.hid hul
  clear hul
  unfold maxLen at hm
  have hz := fun i => amtW_take_le ks i
  go_enter Try.func30, Try.ntmps30
  go_wp2
  go_loopw [1, 5] (fun kk ii wr => ∃ (i : Nat) (u : World), i ≤ ks.length ∧ kk = .int .i64 (k + amtW (ks.take i)) ∧ ii = .int .i64 i ∧ wr = ext w u) (fun _ ii _ => ks.length - (intOf ii).toNat)
  case atStart => exact ⟨0, w, Nat.zero_le _, by simp [amtW], rfl, ext_self w⟩
  case round =>
    obtain ⟨i, uw, hi', rfl, rfl, rfl⟩ := hrel
    by_cases hlt : i < ks.length
    · obtain ⟨⟨p, u⟩, hu⟩ : ∃ u, zs[i]? = some u := ⟨_, List.getElem?_eq_getElem (by have := HU.out; omega)⟩
      have hxi : ks[i]? = some ks[i] := List.getElem?_eq_getElem hlt
      obtain ⟨e1, hrow⟩ := hrows i _ _ hu (mkW_at ks k i _ hxi)
      obtain ⟨b, o, rfl, -, hb2, hc⟩ := hx i _ hu
      have c0 := hc 0 _ rfl
      have c1 := hc 1 _ rfl
      simp only [Nat.add_zero] at c0
      have hsum := amtW_snoc hxi
      have hz1 := hz i
      have hz2 := hz (i + 1)
      simp only at e1 hrow
      subst e1
      generalize ks[i] = x at hrow hsum
      rw [hsum] at hz2
      have HS := Lib.hid hsum
      obtain ⟨N, hN⟩ : ∃ N, N = amtW (ks.take i) := ⟨_, rfl⟩
      rw [← hN] at hz1 hz2 hrow c0 HS ⊢
      have hrow := SlE.keep hrow (ext_below w uw)
      clear hc hx hu hxi hsum hz hrows hN
      have hne : ((k + (N : Int)) != (k + (N : Int))) = false := by simp
      have hge : decide (k + (N : Int) + 1 + 2 * ((x.2.length : Nat) : Int) < 0) = false := by simp; omega
      go_wp2_with fail
      refine (heldStepS_any u x.2.length (k + N + 1) _ hrow (by omega) (by omega)).mono ?_
      rintro e w2 ⟨rfl, hb3⟩
      go_wp2_with fail
      go_roundw
      case rel =>
        obtain ⟨y, hy⟩ := ext_of (below_trans (ext_below w uw) hb3)
        exact ⟨i + 1, y, by omega, by rw [HS.out]; go_num, by go_num, hy⟩
      case measure => simp [intOf]; omega
    · obtain rfl : i = ks.length := by omega
      clear hx hz hrows
      go_wp2_with fail
      go_ret
      exact ⟨ret_int (by simp), ext_below _ _⟩
end Go.Proofs.Ytlhpcknpjdeebaa

/- The laws' marks in a list of walks. -/
namespace Go.Proofs.Ytlhpcknpjdeebaa
set_option linter.unusedVariables false
set_option linter.unusedSimpArgs false
open Go.ChangeShapes Go.WideShapes Go.ChangeAt Go.RowKit
attribute [local go_sem] ext_cell ext_frozen ext_lt ext_lt1 ext_lt2 ext_lt3 ltn2 ltn3 ltn13 lts1 lts2 lts3

theorem mkW_next (ks : List Wk) (k : Int) {i : Nat} {x : Wk} (h : ks[i]? = some x) :
    ((mkW k (ks.take i) ++ ks.drop i).set i (k + amtW (ks.take i), x.2)).set i (k + amtW (ks.take i), mkStep (k + amtW (ks.take i) + 1) x.2.length) = mkW k (ks.take (i + 1)) ++ ks.drop (i + 1) := by
  have hi := (List.getElem?_eq_some_iff.1 h).1
  have hd2 := List.drop_eq_getElem_cons hi
  rw [(List.getElem?_eq_some_iff.1 h).2] at hd2
  have hl : (mkW k (ks.take i)).length = i := by rw [mkW_len, List.length_take]; omega
  rw [take_snoc h, mkW_app, hd2, List.set_append_right _ _ (by omega), hl, Nat.sub_self, List.set_cons_zero, List.set_append_right _ _ (by omega), hl, Nat.sub_self, List.set_cons_zero]
  simp [mkW]
set_option maxHeartbeats 4000000 in
theorem markNW_any (lo hi : Nat) (v : Value) (ks : List Wk) (k : Int) (w : World) (hv : NWO lo hi w v ks) (hk : 0 ≤ k) (hb : k + amtW ks ≤ 4611686018427387904) (hhi : hi ≤ w.heap.size) :
    Calls Try.prog 29 #[v, .int .i64 k] w fun en w' => en = .returned (.int .i64 (k + amtW ks)) ∧ NWO lo hi w' v (mkW k ks) ∧ Only lo hi w w' := by
  obtain ⟨zs, hnw, hlt⟩ := hv
  obtain ⟨A, c, rfl, hl, hm⟩ := hnw.shape
  have HN0 := Lib.hid hnw
  have HLT := Lib.hid hlt
  unfold maxLen at hm
  have hz := fun i => amtW_take_le ks i
  clear hnw hlt
  go_enter Try.func29, Try.ntmps29
  go_wp2
  go_loopw [1, 5] (fun kk ii wr => ∃ (i : Nat) (ys : List (Int × Value)), i ≤ ks.length ∧ kk = .int .i64 (k + amtW (ks.take i)) ∧ ii = .int .i64 i ∧ snds ys = snds zs ∧ NW lo wr (.slice A ks.length c) ys (mkW k (ks.take i) ++ ks.drop i) ∧ Only lo hi w wr) (fun _ ii _ => ks.length - (intOf ii).toNat)
  case atStart => exact ⟨0, zs, Nat.zero_le _, by simp [amtW], rfl, rfl, by simpa [mkW] using HN0.out, Only.refl _ _ _⟩
  case round =>
    obtain ⟨i, ys, hi', rfl, rfl, hsn, hns, honly⟩ := hrel
    have HNS := Lib.hid hns
    have HSN := Lib.hid hsn
    clear hns hsn
    by_cases hlt : i < ks.length
    · have hxi : ks[i]? = some ks[i] := List.getElem?_eq_getElem hlt
      have hz1 := hz i
      have hz2 := hz (i + 1)
      generalize ks[i] = x at hxi
      have hsum := amtW_snoc hxi
      have hmk := mkW_next ks k hxi
      have hlen : (mkW k (ks.take i) ++ ks.drop i).length = ks.length := by rw [List.length_append, mkW_len, List.length_take, List.length_drop]; omega
      have hmi : (mkW k (ks.take i) ++ ks.drop i)[i]? = some x := by
        rw [List.getElem?_append_right (by rw [mkW_len, List.length_take]; omega), mkW_len, List.length_take, List.drop_eq_getElem_cons hlt, (List.getElem?_eq_some_iff.1 hxi).2]
        simp [Nat.min_eq_left (Nat.le_of_lt hlt)]
      obtain ⟨g, cap, A1, c1, hv1, hzi, hgl0, hgl, d0, d1, -, -⟩ := HNS.out.at hmi
      rw [hlen] at hv1
      injection hv1 with e1 e2 e3
      subst e1
      subst e3
      obtain ⟨N, hN⟩ : ∃ N, N = amtW (ks.take i) := ⟨_, rfl⟩
      rw [← hN] at hz1 hsum hmk ⊢
      rw [hsum] at hz2
      have hghi : g < hi := HLT.out g (by rw [← HSN.out]; exact mem_blks.2 ⟨0, _, rfl, rfl⟩)
      have hn1 := HNS.out.setStart (n := k + (N : Int)) (g := g) (cap := c) (by rw [hlen]) hzi hmi
      have hzi1 : (ys.set i (k + (N : Int), Value.slice A1 x.2.length c1))[i]? = some (k + (N : Int), .slice A1 x.2.length c1) := List.getElem?_set_self (List.getElem?_eq_some_iff.1 hzi).1
      have hmi1 : ((mkW k (ks.take i) ++ ks.drop i).set i (k + (N : Int), x.2))[i]? = some (k + (N : Int), x.2) := List.getElem?_set_self (List.getElem?_eq_some_iff.1 hmi).1
      have hri := (hn1.rows i _ _ hzi1 hmi1).2
      simp only at hri
      obtain ⟨l, r, hown, htight, hlr⟩ := own_tight hri
      have hown0 := HNS.out.own
      rw [HNS.out.len, hlen] at hown0
      have hf0 := World.ownsRow.frozenAt hown0 (i * 2)
      clear hown0
      obtain ⟨g', cap', A1', c1', hv1', hzi', -, -, d0', d1', -, -⟩ := hn1.at hmi1
      simp only at d1' hzi'
      rw [List.length_set, hlen] at hv1'
      injection hv1' with e1 e2' e3'
      clear e2' e3'
      injection e1 with e1
      injection e1 with e1
      subst e1
      rw [hzi1] at hzi'
      injection hzi' with hzi'
      injection hzi' with _ hzi'
      rw [← hzi'] at d1'
      have hon1 : Only lo hi wr (wr.setCell ⟨g, i * 2, none⟩ (.int .i64 (k + (N : Int)))) := (Only.refl lo hi wr).setCell (p := ⟨g, i * 2, none⟩) (.inl ⟨hgl0, hghi⟩) _
      have hsn1 : snds (ys.set i (k + (N : Int), Value.slice A1 x.2.length c1)) = snds zs := (snds_set hzi _).trans HSN.out
      have hsw := honly.size
      have hs1 : (wr.setCell ⟨g, i * 2, none⟩ (.int .i64 (k + (N : Int)))).heap.size = wr.heap.size := by simp [World.setCell]
      have HN1 := Lib.hid hn1
      have HZ1 := Lib.hid hzi1
      have HM1 := Lib.hid hmi1
      have HSN1 := Lib.hid hsn1
      have HS := Lib.hid hsum
      have HM := Lib.hid hmk
      have HT := Lib.hid htight
      have HOWN := Lib.hid hown
      have HON1 := Lib.hid (honly.trans hon1)
      have hrb : l < r → lo ≤ l ∧ r ≤ hi := fun h => ⟨(hlr h).1, by
        have := htight (r - 1) (by omega) (by omega)
        have := HLT.out (r - 1) (by rw [← hsn1]; exact mem_blks.2 ⟨i + 1, _, by simpa using snds_at.2 ⟨_, hzi1, rfl⟩, this⟩)
        omega⟩
      have HRB := Lib.hid hrb
      have l0 : g < wr.heap.size := hgl
      clear hxi hmi hri hsum hmk hz htight hlr hown e2 hrb hn1 hzi1 hmi1 hsn1 hon1 hN hlen hzi d0'
      go_wp2_with fail
      refine (markStepS_any l r _ _ x.2 (k + N + 1) _ HOWN.out (by omega) (by omega)).mono ?_
      rintro e w2 ⟨rfl, ho2, hon2⟩
      go_wp2_with fail
      go_roundw
      case rel =>
        refine ⟨i + 1, _, by omega, ?_, by go_num, HSN1.out, ?_, ?_⟩
        · rw [HS.out]; go_num
        · rw [← HM.out]
          refine HN1.out.turn HZ1.out HM1.out ?_ fun b hm hne => hon2.block b (HN1.out.lt b hm).2 ?_
          · refine ownsRow_base ?_ ho2.1
            intro g2 hg
            rcases Nat.lt_or_ge l r with h | h
            · have := HRB.out h
              have := ho2.lt g2 hg
              omega
            · have := ho2.lt g2 hg
              omega
          · rcases Nat.lt_or_ge b l with h | h
            · exact .inl h
            · rcases Nat.lt_or_ge b r with h2 | h2
              · exact absurd (HT.out b h h2) hne
              · exact .inr h2
        · rcases Nat.lt_or_ge l r with h | h
          · exact HON1.out.trans (hon2.mono (HRB.out h).1 (HRB.out h).2)
          · exact HON1.out.trans ⟨hon2.os, hon2.tape, hon2.output, hon2.size, fun n hn _ => hon2.block n hn (by omega)⟩
      case measure => simp [intOf]; omega
    · obtain rfl : i = ks.length := by omega
      rw [List.take_length, List.drop_length, List.append_nil] at HNS
      have HFIN := Lib.hid (show NWO lo hi wr (.slice A ks.length c) (mkW k ks) from ⟨ys, HNS.out, by rw [HSN.out]; exact HLT.out⟩)
      clear hz
      go_wp2_with fail
      go_ret
      exact ⟨ret_int (by simp), HFIN.out, honly⟩
end Go.Proofs.Ytlhpcknpjdeebaa

/- The list of shortest witnesses, plainly. -/
namespace Go.Proofs.Ytlhpcknpjdeebaa
set_option linter.unusedVariables false
set_option linter.unusedSimpArgs false
open Go.ChangeShapes Go.WideShapes Go.ChangeAt Go.RowKit
def cntN (g : Gr) (a : Au) (x y : Int) : Nat := if shortLen g a x y < 0 then 0 else cwI g a x y (shortLen g a x y).toNat
theorem nthSh_nat (g : Gr) (a : Au) (x y : Int) (n : Nat) : nthSh g a x y (n : Int) = decide (n < cntN g a x y) := by
  rw [nthSh, cntN]
  by_cases h : shortLen g a x y < 0
  · rw [if_pos h, decide_eq_false (by omega), decide_eq_false (by omega)]; rfl
  · rw [if_neg h, decide_eq_true (by omega), Bool.true_and]
    by_cases h2 : n < cwI g a x y (shortLen g a x y).toNat
    · rw [decide_eq_true h2, wi_iff]; omega
    · rw [decide_eq_false h2]
      cases hw : wi (n : Int) 0 ((cwI g a x y (shortLen g a x y).toNat : Nat) - 1) with
      | false => rfl
      | true => rw [wi_iff] at hw; omega
theorem nthShort_snd (g : Gr) (a : Au) (x y n : Int) : (nthShort g a x y n).2 = nthSh g a x y n := by
  unfold nthShort
  cases nthSh g a x y n <;> rfl
def listTo (g : Gr) (a : Au) (x y : Int) (n : Nat) : List Wk := (List.range n).map fun (i : Nat) => (nthShort g a x y (i : Int)).1
theorem listTo_succ (g : Gr) (a : Au) (x y : Int) (n : Nat) : listTo g a x y (n + 1) = listTo g a x y n ++ [(nthShort g a x y (n : Int)).1] := by simp [listTo, List.range_succ]
theorem listTo_len (g : Gr) (a : Au) (x y : Int) (n : Nat) : (listTo g a x y n).length = n := by simp [listTo]
def listN (g : Gr) (a : Au) (x y m : Int) : Nat := if wi m 1 50 = true then min m.toNat (cntN g a x y) else 0
def listSh (g : Gr) (a : Au) (x y m : Int) : List Wk := listTo g a x y (listN g a x y m)
theorem amt_listTo (g : Gr) (a : Au) (x y : Int) : ∀ n, amtW (listTo g a x y n) ≤ n * 121
  | 0 => by simp [listTo, amtW]
  | n + 1 => by
    rw [listTo_succ, amtW_app]
    have h1 := amt_listTo g a x y n
    have h2 := nthShort_len g a x y (n : Int)
    simp only [amtW]
    omega
theorem listN_le (g : Gr) (a : Au) (x y m : Int) : listN g a x y m ≤ 50 := by
  unfold listN
  split
  · rename_i h
    rw [wi_iff] at h
    omega
  · omega
theorem amt_listSh (g : Gr) (a : Au) (x y m : Int) : amtW (listSh g a x y m) ≤ 10000 := by
  have h1 := amt_listTo g a x y (listN g a x y m)
  have h2 := listN_le g a x y m
  unfold listSh
  omega
theorem cWv_one (n : Int) (A : Option Addr) (k c : Nat) : ∀ u ∈ cWv (n, .slice A k c), u.oneCell' = true := by
  intro u hu
  simp only [cWv, List.mem_cons, List.not_mem_nil, or_false] at hu
  rcases hu with rfl | rfl <;> rfl
theorem elWk : ElemOk Try.prog 59 34 (.agg #[.int .i64 0, .slice none 0 0]) 2 32 := ⟨Try.underlying59, by kernel_rfl, rfl, by omega⟩
end Go.Proofs.Ytlhpcknpjdeebaa

/- The program's ListShortest. -/
namespace Go.Proofs.Ytlhpcknpjdeebaa
set_option linter.unusedVariables false
set_option linter.unusedSimpArgs false
open Go.ChangeShapes Go.WideShapes Go.ChangeAt Go.RowKit Go.Maps
attribute [local go_sem] ext_cell ext_frozen ext_lt ext_lt1 ext_lt2 ext_lt3 ltn2 ltn3 ltn13 lts1 lts2 lts3

set_option maxHeartbeats 8000000 in
set_option maxRecDepth 100000 in
theorem implListShortest (vg va : Value) (g : Gr) (a : Au) (x y m : Int) (w : World) (hgv : GrV 0 w.heap.size w vg g) (hav : AuV 0 w.heap.size w va a) :
    Calls Try.prog 27 #[vg, va, .int .i64 x, .int .i64 y, .int .i64 m] w fun e w' => ∃ v', e = .returned v' ∧ NWO w.heap.size w'.heap.size w' v' (listSh g a x y m) ∧ Below w.heap.size w w' := by
  have hgv0 := hgv
  have hav0 := hav
  obtain ⟨A1, n1, c1, A2, n2, c2, rfl⟩ := hgv.shape
  obtain ⟨A3, n3, c3, A4, n4, c4, rfl⟩ := hav.shape
  have hb0 : Below w.heap.size w ((w.alloc (.cells #[.slice A1 n1 c1, .slice A2 n2 c2] 39)).alloc (.cells #[.int .i64 a.start, .slice A3 n3 c3, .slice A4 n4 c4] 41)) := ((Below.refl _ _).alloc (Nat.le_refl _) _).alloc (by simp) _
  have hbG := ((Blk.new w 39 #[.slice A1 n1 c1, .slice A2 n2 c2] w.heap.size rfl).alloc (.cells #[.int .i64 a.start, .slice A3 n3 c3, .slice A4 n4 c4] 41))
  have hbA := (Blk.new (w.alloc (.cells #[.slice A1 n1 c1, .slice A2 n2 c2] 39)) 41 #[.int .i64 a.start, .slice A3 n3 c3, .slice A4 n4 c4] (w.heap.size + 1) (by simp))
  have HBG := Lib.hid hbG
  have HBA := Lib.hid hbA
  have HGV := Lib.hid hgv0
  have HAV := Lib.hid hav0
  have HB0 := Lib.hid hb0
  have HSL := Lib.hid (fun (W : World) (hW : Below w.heap.size w W) => implShortestLength _ _ g a x y W (HGV.out.keep hW) (HAV.out.keep hW))
  clear hgv hav hgv0 hav0 hb0 hbG hbA
  have HNS := Lib.hid (fun (n : Nat) (W : World) (hW : Below w.heap.size w W) => implNthShortest _ _ g a x y (n : Int) W (HGV.out.keep hW) (HAV.out.keep hW))
  have HW := Lib.hid (fun W => within_any m 1 50 W)
  clear HSL
  cases hwm : wi m 1 50 with
  | false =>
    have HF := Lib.hid (show listSh g a x y m = [] by rw [listSh, listN, hwm]; rfl)
    rw [hwm] at HW
    clear hwm
    go_enter Try.func27, Try.ntmps27
    go_wp2_with fail
    refine (HW.out _).mono ?_
    rintro e w9 ⟨rfl, hw9⟩
    rw [hw9]
    clear hw9
    go_wp2_with fail
    go_ret
    refine ⟨_, rfl, ?_, HB0.out⟩
    rw [HF.out]
    exact ⟨[], NW.start (World.ownsRow_nil _ _ _ _), by intro b hb; simp [blks, Value.ownBlock] at hb⟩
  | true =>
    have hwi := wi_iff.1 hwm
    obtain ⟨m, rfl⟩ := Int.eq_ofNat_of_zero_le (show 0 ≤ m by omega)
    have hm50 : m ≤ 50 := by omega
    obtain ⟨C, hC⟩ : ∃ C, C = cntN g a x y := ⟨_, rfl⟩
    have HFN := Lib.hid (fun n (hn : n = min m C) => show listSh g a x y (m : Int) = listTo g a x y n by rw [listSh, listN, if_pos hwm, Int.toNat_natCast, ← hC, hn])
    have HSN := Lib.hid (fun (n : Nat) => show (nthShort g a x y (n : Int)).2 = decide (n < C) by rw [nthShort_snd, nthSh_nat, hC])
    rw [hwm] at HW
    clear hwm hwi hC
    go_enter Try.func27, Try.ntmps27
    go_wp2_with fail
    refine (HW.out _).mono ?_
    rintro e w9 ⟨rfl, hw9⟩
    rw [hw9]
    clear hw9
    have hbE : Below w.heap.size w (((w.alloc (.cells #[.slice A1 n1 c1, .slice A2 n2 c2] 39)).alloc (.cells #[.int .i64 a.start, .slice A3 n3 c3, .slice A4 n4 c4] 41)).alloc (.cells #[] 34)) := HB0.out.alloc HB0.out.size _
    have HG1 := Lib.hid (HBG.out.alloc (.cells #[] 34))
    have HA1 := Lib.hid (HBA.out.alloc (.cells #[] 34))
    have HR0 := Lib.hid (show (((w.alloc (.cells #[.slice A1 n1 c1, .slice A2 n2 c2] 39)).alloc (.cells #[.int .i64 a.start, .slice A3 n3 c3, .slice A4 n4 c4] 41)).alloc (.cells #[] 34)).ownsRow (w.heap.size + 1 + 1) 34 2 (.slice (some ⟨w.heap.size + 1 + 1, 0, none⟩) 0 0) 0 [] from by
      have h := World.ownsRow_lit (base := w.heap.size + 1 + 1) (e := 34) (size := 2) ((w.alloc (.cells #[.slice A1 n1 c1, .slice A2 n2 c2] 39)).alloc (.cells #[.int .i64 a.start, .slice A3 n3 c3, .slice A4 n4 c4] 41)) #[] 0 (by simp) (by decide) rfl
      simpa using h)
    go_wp2_with fail
    obtain ⟨W1, hW1⟩ : ∃ W1, W1 = ((w.alloc (.cells #[.slice A1 n1 c1, .slice A2 n2 c2] 39)).alloc (.cells #[.int .i64 a.start, .slice A3 n3 c3, .slice A4 n4 c4] 41)).alloc (.cells #[] 34) := ⟨_, rfl⟩
    rw [← hW1] at hbE HG1 HA1 HR0 ⊢
    have hs1 : w.heap.size + 1 + 1 < W1.heap.size := by rw [hW1]; simp
    have HBE := Lib.hid hbE
    clear hW1 hbE
    go_loopw [11, 12] (fun oo nn wr => ∃ (n : Nat) (zs : List (Int × Value)), n ≤ min m C ∧ nn = .int .i64 (n : Int) ∧ NW (w.heap.size + 1 + 1) wr oo zs (listTo g a x y n) ∧ Below (w.heap.size + 1 + 1) W1 wr) (fun _ nn _ => m - (intOf nn).toNat)
    case atStart => exact ⟨0, [], Nat.zero_le _, rfl, NW.start HR0.out, Below.refl _ _⟩
    case round =>
      obtain ⟨n, zs, hn, rfl, hns, hbel⟩ := hrel
      have hszr := hbel.size
      have hbw := HBE.out.trans (hbel.mono (show w.heap.size ≤ w.heap.size + 1 + 1 by omega))
      have hzl := hns.len
      rw [listTo_len] at hzl
      by_cases hlt : n < m
      · have hnm : (n : Int) < (m : Int) := by omega
        have hbG := HG1.out.below hbel (by omega)
        have hbA := HA1.out.below hbel (by omega)
        have x0 : wr.cell? ⟨w.heap.size, 0, none⟩ = some (.slice A1 n1 c1) := (hbG).cell 0
        have x1 : wr.cell? ⟨w.heap.size, 1, none⟩ = some (.slice A2 n2 c2) := (hbG).cell 1
        have y0 : wr.cell? ⟨w.heap.size + 1, 0, none⟩ = some (.int .i64 a.start) := (hbA).cell 0
        have y1 : wr.cell? ⟨w.heap.size + 1, 1, none⟩ = some (.slice A3 n3 c3) := (hbA).cell 1
        have y2 : wr.cell? ⟨w.heap.size + 1, 2, none⟩ = some (.slice A4 n4 c4) := (hbA).cell 2
        have HBW := Lib.hid hbw
        have HNSW := Lib.hid hns
        have HBL := Lib.hid hbel
        have hsn := HSN.out n
        have HLS := Lib.hid (listTo_succ g a x y n)
        have hkl := nthShort_len g a x y (n : Int)
        have HNN := Lib.hid (HNS.out n)
        clear hbG hbA hbel hbw hns
        obtain ⟨R, hR⟩ : ∃ R, R = nthShort g a x y (n : Int) := ⟨_, rfl⟩
        rw [← hR] at hsn HLS hkl HNN
        clear hR
        have hz50 : zs.length ≤ 50 := by omega
        go_wp2_with fail
        refine (HNN.out _ HBW.out).mono ?_
        rintro e w5 ⟨v5, rfl, ⟨ss, rfl, hss⟩, hb5⟩
        obtain ⟨A9, n9, c9, rfl⟩ := hss.shape
        have hbB : Below wr.heap.size wr (w5.alloc (.cells #[.int .i64 R.1.1, .slice A9 n9 c9] 34)) := hb5.alloc hb5.size _
        have hn9 : n9 = R.1.2.length := by
          obtain ⟨_, _, he, -⟩ := hss.sl cSt_len
          injection he
        have HBB := Lib.hid hbB
        have hs5 := hb5.size
        have HNS6 := Lib.hid (HNSW.out.below hbB)
        have HBW6 := Lib.hid (below_trans HBW.out hbB)
        have HBL6 := Lib.hid (HBL.out.trans (hbB.mono (show w.heap.size + 1 + 1 ≤ wr.heap.size by omega)))
        have HU6 := Lib.hid (show (w5.alloc (.cells #[.int .i64 R.1.1, .slice A9 n9 c9] 34)).ownsRow (w.heap.size + 1 + 1) 96 2 (.slice A9 n9 c9) R.1.2.length (R.1.2.flatMap cSt) from (ownsRow_mono hss.1 (by omega)).alloc _)
        have HNB := Lib.hid (fun b (hb : (Value.slice A9 n9 c9).ownBlock = some b) => show b ∉ blks (u11 :: snds zs) from fun hm => by
          have h1 := (HNSW.out.lt b hm).2
          have h2 := (hss.lt b hb).1
          omega)
        clear x0 x1 y0 y1 y2 hb5 hbB hss hn9
        by_cases hnC : n < C
        · rw [decide_eq_true hnC] at hsn
          rw [hsn]
          clear hsn
          have HRW6 := Lib.hid HNS6.out.own
          go_wp2_with (at_builtin; (refine wpList_append1 cWv elWk rfl _ _ rfl (w.heap.size + 1 + 1) _ zs (R.1.1, .slice A9 n9 c9) _ 1 (w5.heap.size + 1) (by rfl) HRW6.out (by rfl) (by simp) rfl rfl (cWv_one _ _ _ _) (by omega) (by omega) (by simp; omega) ?_); intro v8 w8 hrow8 hb8 hat8 hgr8)
          have hg6 := grown_alloc hgr8
          have hpush := HNS6.out.push (n := R.1.1) HU6.out HNB.out hg6 hrow8 (fun g hg => by
            rcases hat8 with h | ⟨g', h, hh⟩
            · exact .inl (by rw [← h]; exact hg)
            · rw [hg] at h; injection h with h; subst h; exact .inr hh)
          have HPU := Lib.hid (show NW (w.heap.size + 1 + 1) w8 v8 (zs ++ [(R.1.1, .slice A9 n9 c9)]) (listTo g a x y (n + 1)) by rw [HLS.out]; exact hpush)
          have HB8 := Lib.hid (HBL6.out.trans hb8)
          clear hrow8 hb8 hat8 hgr8 hg6 hpush
          go_roundw
          case rel => exact ⟨n + 1, _, by omega, by go_num, HPU.out, HB8.out⟩
          case measure => simp [intOf]; omega
        · rw [decide_eq_false hnC] at hsn
          rw [hsn]
          clear hsn
          have HFE := Lib.hid (HFN.out n (by omega))
          go_wp2_with fail
          go_ret
          refine ⟨_, rfl, ?_, HBW6.out⟩
          rw [HFE.out]
          exact (NWO.of HNS6.out).mono (by omega) (Nat.le_refl _)
      · have HFE := Lib.hid (HFN.out n (by omega))
        have HNSW := Lib.hid hns
        have HBW := Lib.hid hbw
        have hnm : ¬ (n : Int) < (m : Int) := by omega
        clear hns hbel hbw
        go_wp2_with fail
        go_ret
        refine ⟨_, rfl, ?_, HBW.out⟩
        rw [HFE.out]
        exact (NWO.of HNSW.out).mono (by omega) (Nat.le_refl _)
end Go.Proofs.Ytlhpcknpjdeebaa

/- The reference's ListShortest. -/
namespace Go.Proofs.Ytlhpcknpjdeebaa
set_option linter.unusedVariables false
set_option linter.unusedSimpArgs false
open Go.ChangeShapes Go.WideShapes Go.ChangeAt Go.RowKit
attribute [local go_sem] ext_cell ext_frozen ext_lt ext_lt1 ext_lt2 ext_lt3 ltn2 ltn3 ltn13 lts1 lts2 lts3

theorem LayV.ne {lo hi : Nat} {w : World} {gd c : Nat} {N : List Key} {C : Nat → Nat} {T : Nat → List (St × Nat)} {zs : List Zr} (h : LayV lo hi w gd c N C T zs) {b0 : Nat} (hb : Blk w b0 34 #[]) : gd ≠ b0 := by
  rintro rfl
  obtain ⟨-, h2⟩ := h.row
  rcases h2 with ⟨h3, -⟩ | ⟨g, cap, cur, h3, -, h4, -⟩
  · cases h3
  · injection h3 with h3
    injection h3 with h3
    injection h3 with h3
    subst h3
    have hb' : w.heap[gd]? = some (.cells #[] 34 (0, 0)) := hb
    rw [hb'] at h4
    injection h4 with h4
    injection h4 with _ h5
    exact absurd h5 (by decide)
theorem LaysV.apart {g : Gr} {a : Au} {y : Int} {k0 : Key} {n lo : Nat} {w w' : World} {v : Value} (h : LaysV g a y k0 n lo w v) {b0 : Nat} (hb : Blk w b0 34 #[]) (ho : Only b0 (b0 + 1) w w') (hl : b0 < lo) : LaysV g a y k0 n lo w' v := by
  obtain ⟨A, c, rfl, h1, h2, h⟩ := h
  refine ⟨A, c, rfl, h1, h2, fun d hd => ?_⟩
  obtain ⟨b, o, gd, cd, zs, rfl, hb1, hc, hl1⟩ := h d hd
  have hne : b ≠ b0 := by
    rintro rfl
    rw [hb.cell (o + d)] at hc
    simp at hc
  have hgd := hl1.ne hb
  have hk : ∀ x, x ≠ b0 → x < w.heap.size → w'.heap[x]? = w.heap[x]? := fun x hx hl => ho.block x hl (by omega)
  refine ⟨b, o, gd, cd, zs, rfl, by have := ho.size; omega, (World.cell?_of_block (a := ⟨b, o + d, none⟩) (hk b hne hb1)).trans hc, (hl1.blocks (fun x hx hl2 => hk x (by rcases hx with rfl | hx; exact hgd; omega) hl2)).mono (Nat.le_refl _) ho.size⟩
theorem LaysV.firstA {g : Gr} {a : Au} {y : Int} {k0 : Key} {n lo : Nat} {w : World} {v : Value} (h : LaysV g a y k0 n lo w v) {b0 : Nat} (hb0 : Blk w b0 34 #[]) : ∃ (b o c gd cd : Nat), v = .slice (some ⟨b, o, none⟩) (n + 1) c ∧ (b < w.heap.size ∧ b ≠ b0) ∧ (gd < w.heap.size ∧ gd ≠ b0) ∧ w.cell? ⟨b, o, none⟩ = some (.slice (some ⟨gd, 0, none⟩) 1 cd) ∧ w.cell? ⟨gd, 2, none⟩ = some (.int .i64 (cw g a y n k0.1 k0.2 : Nat)) := by
  obtain ⟨A, c, rfl, -, -, h⟩ := h
  obtain ⟨b, o, gd, cd, zs, rfl, hb, hc, hl⟩ := h 0 (Nat.zero_le _)
  obtain ⟨z, -, -, -, -, -, -, -, r2, -, -⟩ := hl.get (i := 0) (k := k0) rfl
  have hne : b ≠ b0 := by
    rintro rfl
    rw [hb0.cell (o + 0)] at hc
    simp at hc
  rw [layC_at (i := 0) (k := k0) rfl, Nat.sub_zero] at r2
  exact ⟨b, o, c, gd, cd, rfl, ⟨hb, hne⟩, ⟨hl.lt, hl.ne hb0⟩, by simpa [layN] using hc, by simpa using r2⟩
set_option maxHeartbeats 8000000 in
set_option maxRecDepth 100000 in
theorem specListShortest (vg va : Value) (g : Gr) (a : Au) (x y m : Int) (w : World) (hgv : GrV 0 w.heap.size w vg g) (hav : AuV 0 w.heap.size w va a) :
    Calls Try.prog 26 #[vg, va, .int .i64 x, .int .i64 y, .int .i64 m] w fun e w' => ∃ v', e = .returned v' ∧ NWO w.heap.size w'.heap.size w' v' (listSh g a x y m) ∧ Below w.heap.size w w' := by
  have hgv0 := hgv
  have hav0 := hav
  obtain ⟨A1, n1, c1, A2, n2, c2, rfl⟩ := hgv.shape
  obtain ⟨A3, n3, c3, A4, n4, c4, rfl⟩ := hav.shape
  have hb0 : Below w.heap.size w ((w.alloc (.cells #[.slice A1 n1 c1, .slice A2 n2 c2] 39)).alloc (.cells #[.int .i64 a.start, .slice A3 n3 c3, .slice A4 n4 c4] 41)) := ((Below.refl _ _).alloc (Nat.le_refl _) _).alloc (by simp) _
  have hbG := ((Blk.new w 39 #[.slice A1 n1 c1, .slice A2 n2 c2] w.heap.size rfl).alloc (.cells #[.int .i64 a.start, .slice A3 n3 c3, .slice A4 n4 c4] 41))
  have hbA := (Blk.new (w.alloc (.cells #[.slice A1 n1 c1, .slice A2 n2 c2] 39)) 41 #[.int .i64 a.start, .slice A3 n3 c3, .slice A4 n4 c4] (w.heap.size + 1) (by simp))
  have HBG := Lib.hid hbG
  have HBA := Lib.hid hbA
  have HGV := Lib.hid hgv0
  have HAV := Lib.hid hav0
  have HB0 := Lib.hid hb0
  have HSL := Lib.hid (fun (W : World) (hW : Below w.heap.size w W) => specShortestLength _ _ g a x y W (HGV.out.keep hW) (HAV.out.keep hW))
  clear hgv hav hgv0 hav0 hb0 hbG hbA
  have HBE := Lib.hid (HB0.out.alloc HB0.out.size (.cells #[] 34))
  have HG1 := Lib.hid (HBG.out.alloc (.cells #[] 34))
  have HA1 := Lib.hid (HBA.out.alloc (.cells #[] 34))
  have HE1 := Lib.hid (Blk.new ((w.alloc (.cells #[.slice A1 n1 c1, .slice A2 n2 c2] 39)).alloc (.cells #[.int .i64 a.start, .slice A3 n3 c3, .slice A4 n4 c4] 41)) 34 #[] (w.heap.size + 1 + 1) (by simp))
  have HR0 := Lib.hid (show (((w.alloc (.cells #[.slice A1 n1 c1, .slice A2 n2 c2] 39)).alloc (.cells #[.int .i64 a.start, .slice A3 n3 c3, .slice A4 n4 c4] 41)).alloc (.cells #[] 34)).ownsRow (w.heap.size + 1 + 1) 34 2 (.slice (some ⟨w.heap.size + 1 + 1, 0, none⟩) 0 0) 0 [] from by
    have h := World.ownsRow_lit (base := w.heap.size + 1 + 1) (e := 34) (size := 2) ((w.alloc (.cells #[.slice A1 n1 c1, .slice A2 n2 c2] 39)).alloc (.cells #[.int .i64 a.start, .slice A3 n3 c3, .slice A4 n4 c4] 41)) #[] 0 (by simp) (by decide) rfl
    simpa using h)
  have HEMP := Lib.hid (fun (W : World) (hW : Below (((w.alloc (.cells #[.slice A1 n1 c1, .slice A2 n2 c2] 39)).alloc (.cells #[.int .i64 a.start, .slice A3 n3 c3, .slice A4 n4 c4] 41)).alloc (.cells #[] 34)).heap.size (((w.alloc (.cells #[.slice A1 n1 c1, .slice A2 n2 c2] 39)).alloc (.cells #[.int .i64 a.start, .slice A3 n3 c3, .slice A4 n4 c4] 41)).alloc (.cells #[] 34)) W) => show NWO w.heap.size W.heap.size W (.slice (some ⟨w.heap.size + 1 + 1, 0, none⟩) 0 0) [] from
    (NWO.of (NW.start (ownsRow_block HR0.out fun b hb => hW.block b (HR0.out.lt b hb).2))).mono (by omega) (Nat.le_refl _))
  by_cases hneg : shortLen g a x y < 0
  · have HF := Lib.hid (show listSh g a x y m = [] by
      have : listN g a x y m = 0 := by rw [listN, cntN, if_pos hneg]; split <;> simp
      rw [listSh, this]; rfl)
    generalize shortLen g a x y = SL at *
    go_enter Try.func26, Try.ntmps26
    go_wp2_with fail
    refine (HSL.out _ HBE.out).mono ?_
    rintro e w1 ⟨rfl, hb1⟩
    have HBF := Lib.hid (below_trans HBE.out hb1)
    have HB1 := Lib.hid hb1
    clear hb1
    go_wp2_with fail
    go_ret
    exact ⟨_, rfl, by rw [HF.out]; exact HEMP.out _ HB1.out, HBF.out⟩
  · have hco := shortLen_ok (show 0 ≤ shortLen g a x y by omega)
    obtain ⟨⟨hx0, hx1⟩, ⟨hy0, hy1⟩, hgo, ha⟩ := cntOk_iff.1 hco
    have hlt := shortLen_lt g a x y
    obtain ⟨L, hL⟩ := Int.eq_ofNat_of_zero_le (show 0 ≤ shortLen g a x y by omega)
    rw [hL] at HSL hlt
    obtain ⟨x, rfl⟩ := Int.eq_ofNat_of_zero_le hx0
    have HGO := Lib.hid hgo
    have HA := Lib.hid ha
    have hxl : x < g.vals.length := by omega
    have hln : ¬ (L : Int) < 0 := by omega
    have HIN := Lib.hid (fun W => l1In_any m 1 50 W)
    have hCe : cntN g a (x : Int) y = cw g a y L x (bit a.start.toNat) := by rw [cntN, if_neg hneg, hL, Int.toNat_natCast]; rfl
    have HCW := Lib.hid hCe
    have hcl := cw_le g a y L x (bit a.start.toNat)
    cases hwm : wi m 1 50 with
    | false =>
      have HF := Lib.hid (show listSh g a (x : Int) y m = [] by rw [listSh, listN, hwm]; rfl)
      rw [hwm] at HIN
      clear hneg hco hgo ha hx0 hx1 hy0 hy1 hL hwm hCe hcl
      go_enter Try.func26, Try.ntmps26
      go_wp2_with fail
      refine (HSL.out _ HBE.out).mono ?_
      rintro e w1 ⟨rfl, hb1⟩
      have HBF := Lib.hid (below_trans HBE.out hb1)
      have HB1 := Lib.hid hb1
      clear hb1
      go_wp2_with fail
      refine (HIN.out _).mono ?_
      rintro e w9 ⟨rfl, hw9⟩
      rw [hw9]
      clear hw9
      go_wp2_with fail
      go_ret
      exact ⟨_, rfl, by rw [HF.out]; exact HEMP.out _ HB1.out, HBF.out⟩
    | true =>
      have hwi := wi_iff.1 hwm
      obtain ⟨m, rfl⟩ := Int.eq_ofNat_of_zero_le (show 0 ≤ m by omega)
      have hm50 : m ≤ 50 := by omega
      obtain ⟨C, hC⟩ : ∃ C, C = cntN g a (x : Int) y := ⟨_, rfl⟩
      have HFN := Lib.hid (fun n (hn : n = min m C) => show listSh g a (x : Int) y (m : Int) = listTo g a (x : Int) y n by rw [listSh, listN, if_pos hwm, Int.toNat_natCast, ← hC, hn])
      rw [← hC] at hCe
      have HNT := Lib.hid (fun (W : World) (v : Value) (lo n : Nat) (hn : n < C) (h : LaysV g a y (x, bit a.start.toNat) L lo W v) => show Calls Try.prog 38 #[v, .int .i64 (x : Int), .int .i64 (n : Int)] W fun e w' => ∃ v', e = .returned (.tuple #[v', .bool true]) ∧ WkO W.heap.size w'.heap.size w' v' (nthShort g a (x : Int) y (n : Int)).1 ∧ Below W.heap.size W w' from by
        have hq := l19Nth_any g a y (x, bit a.start.toNat) L lo v x n W h hgo ha ⟨hxl, startOk ha⟩ (by omega)
        have hw : wi (n : Int) 0 ((cw g a y L x (bit a.start.toNat) : Nat) - 1) = true := by rw [wi_iff]; omega
        have hns : nthShort g a (x : Int) y (n : Int) = (((x : Int), nthL g a y L x (bit a.start.toNat) n), true) := by
          rw [nthShort, if_pos (by rw [nthSh_nat, ← hC]; simpa using hn), hL]; rfl
        simp only at hq
        rw [hw, if_pos rfl, Int.toNat_natCast] at hq
        rw [hns]
        exact hq)
      rw [hwm] at HIN
      rw [← hCe] at hcl
      have HCE := Lib.hid hCe
      clear hneg hco hgo ha hx0 hx1 hy0 hy1 hL hwm hwi hC hCe HCW
      go_enter Try.func26, Try.ntmps26
      go_wp2_with fail
      refine (HSL.out _ HBE.out).mono ?_
      rintro e w1 ⟨rfl, hb1⟩
      have HB1 := Lib.hid hb1
      have HBF := Lib.hid (below_trans HBE.out hb1)
      have HG2 := Lib.hid (HG1.out.keep hb1)
      have HA2 := Lib.hid (HA1.out.keep hb1)
      have HE2 := Lib.hid (HE1.out.keep hb1)
      clear hb1
      go_wp2_with fail
      refine (HIN.out _).mono ?_
      rintro e w9 ⟨rfl, hw9⟩
      rw [hw9]
      clear hw9
      have x0 : w1.cell? ⟨w.heap.size, 0, none⟩ = some (.slice A1 n1 c1) := (HG2.out).cell 0
      have x1 : w1.cell? ⟨w.heap.size, 1, none⟩ = some (.slice A2 n2 c2) := (HG2.out).cell 1
      have y0 : w1.cell? ⟨w.heap.size + 1, 0, none⟩ = some (.int .i64 a.start) := (HA2.out).cell 0
      have y1 : w1.cell? ⟨w.heap.size + 1, 1, none⟩ = some (.slice A3 n3 c3) := (HA2.out).cell 1
      have y2 : w1.cell? ⟨w.heap.size + 1, 2, none⟩ = some (.slice A4 n4 c4) := (HA2.out).cell 2
      go_wp2_with fail
      refine (l19Layers_any _ _ g a x y L _ (HGV.out.keep HBF.out) (HAV.out.keep HBF.out) HGO.out HA.out hxl (by omega)).mono ?_
      rintro e w2 ⟨v2, rfl, hlv, hb3⟩
      have HLV := Lib.hid hlv
      have HE3 := Lib.hid (HE2.out.keep hb3)
      obtain ⟨bL, oL, cL, gd, cd, hv2, ⟨lb, nb⟩, ⟨lg, ng⟩, r0, r2⟩ := hlv.firstA HE3.out
      subst hv2
      simp only at r2
      rw [← HCE.out] at r2
      have hn1 : (0 : Int) < (L : Int) + 1 := by omega
      have HB3 := Lib.hid (below_trans HBF.out hb3)
      have hs3 := HB3.out.size
      have hse := HE3.out.lt
      have hse1 := HE2.out.lt
      have HR3 := Lib.hid (ownsRow_block HR0.out fun b hb => (below_trans HB1.out hb3).block b (HR0.out.lt b hb).2)
      have HNT2 := Lib.hid (fun (W : World) (n : Nat) (hn : n < C) (ho : Only (w.heap.size + 1 + 1) (w.heap.size + 1 + 1 + 1) w2 W) => HNT.out W _ _ n hn (HLV.out.apart HE3.out ho (by omega)))
      clear hlv hb3 x0 x1 y0 y1 y2
      go_wp2_with fail
      go_loopw [11, 14] (fun oo nn wr => ∃ (n : Nat) (zs : List (Int × Value)), n ≤ min m C ∧ nn = .int .i64 (n : Int) ∧ NW (w.heap.size + 1 + 1) wr oo zs (listTo g a (x : Int) y n) ∧ (∀ b ∈ blks (oo :: snds zs), b = w.heap.size + 1 + 1 ∨ w2.heap.size ≤ b) ∧ Only (w.heap.size + 1 + 1) (w.heap.size + 1 + 1 + 1) w2 wr) (fun _ nn _ => m - (intOf nn).toNat)
      case atStart => exact ⟨0, [], Nat.zero_le _, rfl, NW.start HR3.out, by intro b hb; simp [blks, Value.ownBlock] at hb; exact .inl hb, Only.refl _ _ _⟩
      case round =>
        obtain ⟨n, zs, hn, rfl, hns, hbk, hon⟩ := hrel
        have hszr := hon.size
        have hzl := hns.len
        rw [listTo_len] at hzl
        have HBW := Lib.hid (HB3.out.trans (hon.below (show w.heap.size ≤ w.heap.size + 1 + 1 by omega) hs3))
        have r0 := ocell hon r0 lb (by omega)
        have r2 := ocell hon r2 lg (by omega)
        have HNSW := Lib.hid hns
        have HBK := Lib.hid hbk
        have HON := Lib.hid hon
        clear hns hbk
        by_cases hlt : n < m
        · have hnm : (n : Int) < (m : Int) := by omega
          by_cases hnC : n < C
          · have hnc : (n : Int) < (C : Int) := by omega
            have HLS := Lib.hid (listTo_succ g a (x : Int) y n)
            have hkl := nthShort_len g a (x : Int) y (n : Int)
            have HNN := Lib.hid (fun W ho => HNT2.out W n hnC ho)
            obtain ⟨R, hR⟩ : ∃ R, R = nthShort g a (x : Int) y (n : Int) := ⟨_, rfl⟩
            rw [← hR] at HLS hkl HNN
            clear hR hon
            have hz50 : zs.length ≤ 50 := by omega
            go_wp2_with fail
            refine (HNN.out _ HON.out).mono ?_
            rintro e w5 ⟨v5, rfl, ⟨ss, rfl, hss⟩, hb5⟩
            obtain ⟨A9, n9, c9, rfl⟩ := hss.shape
            have hbB : Below wr.heap.size wr (w5.alloc (.cells #[.int .i64 R.1.1, .slice A9 n9 c9] 34)) := hb5.alloc hb5.size _
            have HBB := Lib.hid hbB
            have hs5 := hb5.size
            have HNS6 := Lib.hid (HNSW.out.below hbB)
            have HON6 := Lib.hid (HON.out.trans (Only.of_below hbB (w.heap.size + 1 + 1) (w.heap.size + 1 + 1 + 1)))
            have HU6 := Lib.hid (show (w5.alloc (.cells #[.int .i64 R.1.1, .slice A9 n9 c9] 34)).ownsRow (w.heap.size + 1 + 1) 96 2 (.slice A9 n9 c9) R.1.2.length (R.1.2.flatMap cSt) from (ownsRow_mono hss.1 (by omega)).alloc _)
            have HNB := Lib.hid (fun b (hb : (Value.slice A9 n9 c9).ownBlock = some b) => show b ∉ blks (u11 :: snds zs) from fun hm => by
              have h1 := (HNSW.out.lt b hm).2
              have h2 := (hss.lt b hb).1
              omega)
            have HNB2 := Lib.hid (fun b (hb : (Value.slice A9 n9 c9).ownBlock = some b) => show w2.heap.size ≤ b from by
              have h2 := (hss.lt b hb).1
              omega)
            have HRW6 := Lib.hid HNS6.out.own
            clear hb5 hbB hss r0 r2
            go_wp2_with (at_builtin; (refine wpList_append1 cWv elWk rfl _ _ rfl (w.heap.size + 1 + 1) _ zs (R.1.1, .slice A9 n9 c9) _ 1 (w5.heap.size + 1) (by rfl) HRW6.out (by rfl) (by simp) rfl rfl (cWv_one _ _ _ _) (by omega) (by omega) (by simp; omega) ?_); intro v8 w8 hrow8 hb8 hat8 hgr8)
            have hg6 := grown_alloc hgr8
            have hatn : ∀ g, v8.ownBlock = some g → u11.ownBlock = some g ∨ (w5.alloc (.cells #[.int .i64 R.1.1, .slice A9 n9 c9] 34)).heap.size ≤ g := fun g hg => by
              rcases hat8 with h | ⟨g', h, hh⟩
              · exact .inl (by rw [← h]; exact hg)
              · rw [hg] at h; injection h with h; subst h; exact .inr hh
            have hpush := HNS6.out.push (n := R.1.1) HU6.out HNB.out hg6 hrow8 hatn
            have HPU := Lib.hid (show NW (w.heap.size + 1 + 1) w8 v8 (zs ++ [(R.1.1, .slice A9 n9 c9)]) (listTo g a (x : Int) y (n + 1)) by rw [HLS.out]; exact hpush)
            have hs6 : w5.heap.size + 1 = (w5.alloc (.cells #[.int .i64 R.1.1, .slice A9 n9 c9] 34)).heap.size := by simp
            have HBK8 := Lib.hid (show ∀ b ∈ blks (v8 :: snds (zs ++ [(R.1.1, Value.slice A9 n9 c9)])), b = w.heap.size + 1 + 1 ∨ w2.heap.size ≤ b from fun b hb => by
              obtain ⟨i, u, hu, hbu⟩ := mem_blks.1 hb
              cases i with
              | zero =>
                simp only [List.getElem?_cons_zero, Option.some.injEq] at hu
                subst hu
                rcases hatn b hbu with h | h
                · exact HBK.out b (mem_blks.2 ⟨0, _, rfl, h⟩)
                · exact .inr (by omega)
              | succ i =>
                rw [List.getElem?_cons_succ] at hu
                obtain ⟨z, hz, rfl⟩ := snds_at.1 hu
                rcases Nat.lt_or_ge i zs.length with h | h
                · rw [List.getElem?_append_left h] at hz
                  exact HBK.out b (mem_blks.2 ⟨i + 1, z.2, by simpa using snds_at.2 ⟨z, hz, rfl⟩, hbu⟩)
                · have hi2 := (List.getElem?_eq_some_iff.1 hz).1
                  simp only [List.length_append, List.length_singleton] at hi2
                  obtain rfl : i = zs.length := by omega
                  have e1 : (R.1.1, Value.slice A9 n9 c9) = z := by simpa using hz
                  subst e1
                  exact .inr (HNB2.out b hbu))
            have HON8 := Lib.hid (show Only (w.heap.size + 1 + 1) (w.heap.size + 1 + 1 + 1) w2 w8 from
              ⟨hg6.os.trans HON6.out.os, hg6.tape.trans HON6.out.tape, hg6.output.trans HON6.out.output, Nat.le_trans HON6.out.size hg6.size, fun b hb ho => (hg6.block b (Nat.lt_of_lt_of_le hb HON6.out.size) (fun e => by
                have := HBK.out b (mem_blks.2 ⟨0, _, rfl, e.symm⟩)
                omega)).trans (HON6.out.block b hb ho)⟩)
            clear hrow8 hb8 hat8 hgr8 hg6 hpush hatn hs6
            go_roundw
            case rel => exact ⟨n + 1, _, by omega, by go_num, HPU.out, HBK8.out, HON8.out⟩
            case measure => simp [intOf]; omega
          · have HFE := Lib.hid (HFN.out n (by omega))
            have hnc : ¬ (n : Int) < (C : Int) := by omega
            clear hon
            go_wp2_with fail
            go_ret
            refine ⟨_, rfl, ?_, HBW.out⟩
            rw [HFE.out]
            exact (NWO.of HNSW.out).mono (by omega) (Nat.le_refl _)
        · have HFE := Lib.hid (HFN.out n (by omega))
          have hnm : ¬ (n : Int) < (m : Int) := by omega
          clear hon r0 r2
          go_wp2_with fail
          go_ret
          refine ⟨_, rfl, ?_, HBW.out⟩
          rw [HFE.out]
          exact (NWO.of HNSW.out).mono (by omega) (Nat.le_refl _)
end Go.Proofs.Ytlhpcknpjdeebaa

