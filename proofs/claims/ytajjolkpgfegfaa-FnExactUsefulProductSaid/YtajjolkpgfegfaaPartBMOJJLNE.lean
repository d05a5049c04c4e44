/- Parts of the proof, joined into one text: AppL, Reslice, SortI, AnsI. -/
import Derived.Test.YtajjolkpgfegfaaPartCDOKCKDD
import Derived.Test.YtajjolkpgfegfaaPartMKPEBINK
import Derived.Test.YtajjolkpgfegfaaPartEMKLPAPB
import Derived.Test.YtajjolkpgfegfaaPartHIHIBPFG
import Derived.Test.YtajjolkpgfegfaaPartCPDJAGBF
import Derived.Test.YtajjolkpgfegfaaPartBLNKPCEN
/- append of a whole list to a row of the call's own, from whatever slice reads as the list. Over any program. -/
namespace Go.Proofs.Ytajjolkpgfegfaa
set_option linter.unusedVariables false
set_option linter.unusedSimpArgs false
open Go.ChangeShapes Go.WideShapes Go.ChangeAt Go.RowKit
section
variable {P : Program} {w : World}
theorem run_append_nil0 (base : Nat) (t ty e : TypeId) (i : TypeInfo) (size : Nat) (ht : P.underlying t = some (.slice e)) (hi : P.info? e = some i) (v : Value) (n : Nat) (xs : List Value) (hown : w.ownsRow base e size v n xs) (c : Nat) :
    (Builtin.append_ #[t, t] ty #[v, .slice none 0 c]).run P w = .ok v w := by
  obtain ⟨_, h2⟩ := hown
  rcases h2 with ⟨rfl, _⟩ | ⟨g, cap, cur, rfl, _, _, hnc, _⟩
  · simp [Builtin.append_, run_underlying ht, sizeOf, typeInfo, hi, Builtin.lenOf, Builtin.firstCells]
  · simp [Builtin.append_, run_underlying ht, sizeOf, typeInfo, hi, Builtin.lenOf, Builtin.firstCells, hnc, storeCells]
theorem flat_one {α : Type} {E : α → List Value} {xs : List α} (h1 : ∀ x, ∀ u ∈ E x, u.oneCell' = true) : ∀ u ∈ xs.flatMap E, u.oneCell' = true := fun u hu => by
  obtain ⟨x, _, hx⟩ := List.mem_flatMap.1 hu
  exact h1 x u hx
theorem flat_lenE {α : Type} {E : α → List Value} {k : Nat} (hE : ∀ x, (E x).length = k) : ∀ xs : List α, (xs.flatMap E).length = xs.length * k
  | [] => by simp
  | x :: xs => by rw [List.flatMap_cons, List.length_append, hE, flat_lenE hE xs, List.length_cons, Nat.succ_mul, Nat.add_comm]
/-- all cells of a list lie one behind the other -/
theorem flat_cells {α : Type} {E : α → List Value} {k : Nat} (hE : ∀ x, (E x).length = k) (hk : 0 < k) {b o : Nat} {ys : List α} (h : ∀ i x, ys[i]? = some x → ∀ j u, (E x)[j]? = some u → w.cell? ⟨b, o + i * k + j, none⟩ = some u) :
    ∀ j u, (ys.flatMap E)[j]? = some u → w.cell? ((⟨b, o, none⟩ : Addr).add j) = some u := by
  intro j u hu
  have hl := (List.getElem?_eq_some_iff.1 hu).1
  rw [flat_lenE hE] at hl
  have hi : j / k < ys.length := Nat.div_lt_of_lt_mul (by rw [Nat.mul_comm]; exact hl)
  have hx : ys[j / k]? = some ys[j / k] := List.getElem?_eq_getElem hi
  have hj : j % k < (E ys[j / k]).length := by rw [hE]; exact Nat.mod_lt _ hk
  have hf := flat_at hE hx (j % k) _ (List.getElem?_eq_getElem hj)
  have hjj : j / k * k + j % k = j := by rw [Nat.mul_comm]; exact Nat.div_add_mod j k
  rw [hjj, hu] at hf
  injection hf with hf
  have hc := h _ _ hx (j % k) _ (List.getElem?_eq_getElem hj)
  have hadd : (⟨b, o, none⟩ : Addr).add j = ⟨b, o + j, none⟩ := by unfold Addr.add; split <;> simp_all
  rw [hadd, hf, ← hc]
  congr 2
  omega
theorem run_appendL {α : Type} (E : α → List Value) {t e : TypeId} {z : Value} {k bytes : Nat} (el : ElemOk P t e z k bytes) (hE : ∀ x, (E x).length = k) (h1 : ∀ x, ∀ u ∈ E x, u.oneCell' = true)
    (base : Nat) (v : Value) (xs ys : List α) (hown : w.ownsRow base e k v xs.length (xs.flatMap E)) (lo hi : Nat) (y : Value) (hy : SlI lo hi w E k y ys) (hbytes : (xs.length + ys.length) * bytes ≤ 140737488355328) (hb0 : 0 < bytes) (hbase : base ≤ w.heap.size) (ty : TypeId) :
    ∃ v' w', (Builtin.append_ #[t, t] ty #[v, y]).run P w = .ok v' w' ∧ w'.ownsRow base e k v' (xs ++ ys).length ((xs ++ ys).flatMap E) ∧ w.grownBy w' v.ownBlock ∧ (v'.ownBlock = v.ownBlock ∨ v'.ownBlock = some w.heap.size) := by
  obtain ⟨i, hi, hz0, hz1, hz2⟩ := info_parts el.info
  have hlen : xs.length + ys.length ≤ 140737488355328 := Nat.le_trans (Nat.le_mul_of_pos_right _ hb0) hbytes
  obtain ⟨A, c, rfl, _, _, hx⟩ := hy
  have key : ∀ a : Addr, A = some a → (∀ j u, (ys.flatMap E)[j]? = some u → w.cell? (a.add j) = some u) → ∃ v' w', (Builtin.append_ #[t, t] ty #[v, .slice A ys.length c]).run P w = .ok v' w' ∧ w'.ownsRow base e k v' (xs ++ ys).length ((xs ++ ys).flatMap E) ∧ w.grownBy w' v.ownBlock ∧ (v'.ownBlock = v.ownBlock ∨ v'.ownBlock = some w.heap.size) := by
    intro a ha hc
    subst ha
    obtain ⟨v', w', hr, h2, h3, _, h5⟩ := run_append_own_at (P := P) w base t ty e i z k bytes el.und hi hz0 hz1 hz2 el.zc el.pos v xs.length (xs.flatMap E) hown a ys.length c (ys.flatMap E) (flat_lenE hE ys) hc (flat_one h1) (by unfold maxLen; omega) hbytes hbase
    exact ⟨v', w', hr, by rw [List.flatMap_append, List.length_append]; exact h2, h3, h5⟩
  cases ys with
  | nil =>
    cases A with
    | none => exact ⟨v, w, run_append_nil0 base t ty e i k el.und hi v _ _ hown c, by simpa using hown, World.grownBy.refl w _, .inl rfl⟩
    | some a => exact key a rfl (fun j u hu => by simp at hu)
  | cons x ys =>
    obtain ⟨b, o, hA, -, -, -⟩ := hx 0 x rfl
    refine key ⟨b, o, none⟩ hA (flat_cells hE el.pos fun i x hi j u hu => ?_)
    obtain ⟨b', o', hA', -, -, hc⟩ := hx i x hi
    rw [hA] at hA'
    injection hA' with hA'
    injection hA' with e1 e2
    subst e1 e2
    exact hc j u hu
theorem wpList_appendL {α : Type} (E : α → List Value) {ops : Array Oper} {rest : List Oper} {o : Oper} {a : Act} {Q : Exit → Act → World → Prop} {t e : TypeId} {z : Value} {k bytes : Nat} (el : ElemOk P t e z k bytes) (hE : ∀ x, (E x).length = k) (h1 : ∀ x, ∀ u ∈ E x, u.oneCell' = true)
    (hgd : o.guard = none) (s y : Operand) (ho : o.op = .call { callee := .builtin .append, args := #[s, y], argTypes := #[t, t] })
    (base : Nat) (v : Value) (xs ys : List α) (hs : a.eval s = v) (hown : w.ownsRow base e k v xs.length (xs.flatMap E)) (lo hi : Nat) (yv : Value) (hyv : a.eval y = yv) (hy : SlI lo hi w E k yv ys) (hbytes : (xs.length + ys.length) * bytes ≤ 140737488355328) (hb0 : 0 < bytes) (hbase : base ≤ w.heap.size)
    (h : ∀ v' w', w'.ownsRow base e k v' (xs ++ ys).length ((xs ++ ys).flatMap E) → w.grownBy w' v.ownBlock → (v'.ownBlock = v.ownBlock ∨ v'.ownBlock = some w.heap.size) → wpList P ops Q rest (a.put o.dst v') w') : wpList P ops Q (o :: rest) a w := by
  refine wpList_plain hgd fun K hK => ?_
  obtain ⟨v', w', hr, h2, h3, h5⟩ := run_appendL E el hE h1 base v xs ys hown lo hi yv hy hbytes hb0 hbase o.type
  unfold Oper.wp execOp
  simp only [ho, resolve, invoke, builtin, Sem.run_bind, Sem.run_pure, Result.andThen_ok, List.map_toArray, List.map_cons, List.map_nil, hs, hyv, hr]
  exact hK _ _ (h v' w' h2 h3 h5)
end
end Go.Proofs.Ytajjolkpgfegfaa

/- A row of one's own, cut short: what 's[:m]' leaves is a row of one's own. -/
namespace Go.Proofs.Ytajjolkpgfegfaa
set_option linter.unusedVariables false
set_option linter.unusedSimpArgs false
open Go.ChangeShapes Go.WideShapes Go.ChangeAt Go.RowKit

theorem ownsRow_take {W : World} {base k n m g cap : Nat} {e : TypeId} {cs : List Value} (h : W.ownsRow base e k (.slice (some ⟨g, 0, none⟩) n cap) n cs) (hm : m ≤ n) : W.ownsRow base e k (.slice (some ⟨g, 0, none⟩) m cap) m (cs.take (m * k)) := by
  obtain ⟨hl, hs⟩ := h
  have hmk : m * k ≤ n * k := Nat.mul_le_mul_right k hm
  refine ⟨by rw [List.length_take, hl]; omega, ?_⟩
  rcases hs with ⟨h1, _⟩ | ⟨g', cap', cur, hv, hg, hh, hnc, hcm, hsz, htk⟩
  · cases h1
  · simp only [Value.slice.injEq, Option.some.injEq, Addr.mk.injEq, and_true, true_and] at hv
    obtain ⟨rfl, rfl⟩ := hv
    refine .inr ⟨g, cap, cur, rfl, hg, hh, by omega, hcm, hsz, ?_⟩
    rw [← htk, List.take_take]
    congr 1
    omega
end Go.Proofs.Ytajjolkpgfegfaa

/- The program's copyInts and ascending: a copy of numbers; the same in ascending order, each once. -/
namespace Go.Proofs.Ytajjolkpgfegfaa
set_option linter.unusedVariables false
set_option linter.unusedSimpArgs false
open Go.ChangeShapes Go.WideShapes Go.ChangeAt Go.RowKit Go.Sort
attribute [local go_sem] ext_cell ext_frozen ext_lt ext_lt1 ext_lt2 ext_lt3 ltn2 ltn3 ltn13 lts1 lts2 lts3

theorem flatI_map (xs : List Int) : xs.flatMap cI = xs.map (Value.int .i64) := by
  induction xs with
  | nil => rfl
  | cons x xs ih => rw [List.flatMap_cons, List.map_cons, ih]; rfl
theorem only_ahead (lo hi : Nat) (w : World) (n : Nat) : Only lo hi w (Sort.ahead w n) := ⟨rfl, rfl, rfl, Nat.le_refl _, fun _ _ _ => rfl⟩
theorem only_grow (lo hi : Nat) (w : World) (os : Array Obj) : Only lo hi w (grow w os) := ⟨rfl, rfl, rfl, by simp [grow], fun n hn _ => by simp [grow, Array.getElem?_append, hn]⟩
theorem only_put {α : Type} [Inhabited α] (enc : α → Value) (w : World) (g off : Nat) (d : Array α) : Only g (g + 1) w (putRow enc w g off d) :=
  ⟨rfl, rfl, rfl, by simp [putRow, mapBlock], fun n hn ho => by simp only [putRow, mapBlock, Array.getElem?_modify]; rw [if_neg (by omega)]⟩
theorem row_put {w : World} {base g n cap : Nat} {e : TypeId} {cs : List Value} (h : w.ownsRow base e 1 (.slice (some ⟨g, 0, none⟩) n cap) n cs) {ds : List Int} (hd : ds.length = n) :
    (putRow (Value.int .i64) w g 0 ds.toArray).ownsRow base e 1 (.slice (some ⟨g, 0, none⟩) n cap) n (ds.flatMap cI) := by
  obtain ⟨hl, hs⟩ := h
  rw [flatI_map]
  refine ⟨by simp [hd], ?_⟩
  rcases hs with ⟨h1, _⟩ | ⟨g', cap', cur, hv, hg, hh, hnc, hcm, hsz, htk⟩
  · cases h1
  · simp only [Value.slice.injEq, Option.some.injEq, Addr.mk.injEq, and_true, true_and] at hv
    obtain ⟨rfl, rfl⟩ := hv
    refine .inr ⟨g, cap, putCells (Value.int .i64) 0 ds.toArray cur, rfl, hg, ?_, hnc, hcm, by simp [putCells, hsz], ?_⟩
    · simp [putRow, mapBlock, Array.getElem?_modify, hh, onCells]
    · apply List.ext_getElem?
      intro k
      rw [List.getElem?_take]
      by_cases hk : k < n * 1
      · rw [if_pos hk]
        have hk1 : k < n := by omega
        have hkc : k < cur.size := by omega
        have hkd : k < ds.length := by omega
        simp [putCells, hkc, hkd, getElem!_pos]
      · rw [if_neg hk, List.getElem?_eq_none (by simp; omega)]
theorem holds_own {w : World} {base g n cap : Nat} {e : TypeId} {zs : List Int} (h : w.ownsRow base e 1 (.slice (some ⟨g, 0, none⟩) n cap) n (zs.flatMap cI)) (hz : zs.length = n) : Holds (Value.int .i64) w g 0 zs.toArray := by
  intro j hj
  have hj' : j < zs.length := by simpa using hj
  refine ⟨?_, by rw [Nat.zero_add]; exact World.ownsRow.frozenAt h j⟩
  rw [Nat.zero_add, World.ownsRow.cellAt h j (by omega), flatI_map, List.getElem?_map, List.getElem?_eq_getElem hj', get_bang hj']
  rfl

set_option maxHeartbeats 1000000 in
theorem copyInts_any (v : Value) (xs : List Int) (w : World) (hv : SlE w cI 1 v xs) (hn : xs.length ≤ 1000000) :
    Calls Try.prog 119 #[v] w fun e w' => ∃ v', e = .returned v' ∧ Own w.heap.size w'.heap.size w' 3 cI 1 v' xs ∧ Below w.heap.size w w' := by
  have hv0 := hv
  obtain ⟨A, c, rfl, hl, hm, -⟩ := SlE.form hv
  have hba : Below w.heap.size w (w.alloc (.cells #[] 3)) := (Below.refl _ _).alloc (Nat.le_refl _) _
  have hv1 := SlE.keep hv0 hba
  have hrow := World.ownsRow_lit (base := w.heap.size) (e := 3) (size := 1) w #[] 0 (Nat.le_refl _) (by decide) rfl
  have HV := Lib.hid hv1
  have HR := Lib.hid hrow
  clear hv hv0 hv1 hrow
  go_enter Try.func119, Try.ntmps119
  go_wp2_with (at_builtin; (refine wpList_appendL cI elInt cI_len cI_one rfl _ _ rfl w.heap.size _ [] xs (by rfl) HR.out 0 _ _ (by rfl) HV.out (by simp; omega) (by omega) (by simp) ?_); intro v' w4 hrow' hgr4 hat4)
  have hown := Own.of_row (xs := xs) hrow' rfl rfl
  have hgr := hgr4
  have hbel := (hba.trans (own_below HR.out (by simp) hgr4))
  obtain ⟨A2, n2, c2, rfl⟩ := hown.shape
  have HO := Lib.hid hown
  clear hown hgr hgr4 hrow' hat4
  go_wp2_with fail
  go_ret
  exact ⟨_, rfl, HO.out, hbel⟩

set_option maxHeartbeats 2000000 in
theorem ascending_any (v : Value) (xs : List Int) (w : World) (hv : SlE w cI 1 v xs) (hn : xs.length ≤ 1000000) :
    Calls Try.prog 102 #[v] w fun e w' => ∃ v', e = .returned v' ∧ Own w.heap.size w'.heap.size w' 3 cI 1 v' (ascL xs) ∧ Below w.heap.size w w' := by
  have hc := copyInts_any v xs w hv hn
  have HC := Lib.hid hc
  clear hc hv
  obtain ⟨R, hR⟩ : ∃ R, R = ascL xs := ⟨_, rfl⟩
  rw [← hR]
  have HR := Lib.hid hR
  clear hR
  go_enter Try.func102, Try.ntmps102
  go_wp2_with fail
  refine HC.out.mono ?_
  rintro e w1 ⟨v1, rfl, ho1, hb1⟩
  cases xs with
  | nil =>
    have hr0 : R = [] := by rw [HR.out]; simp [ascL, Lib.compact, Lib.compactUpTo]
    subst hr0
    obtain ⟨A1, c1, rfl, -, -, -⟩ := ho1.form cI_len
    have HO := Lib.hid ho1
    clear ho1
    simp only [List.length_nil] at HO ⊢
    go_wp2_with fail
    refine (Try.slices_Sort_int_none A1 c1 _).mono ?_
    rintro e w2 ⟨rfl, rfl⟩
    go_wp2_with fail
    refine (Try.slices_Compact_int_empty A1 c1 _).mono ?_
    rintro e w3 ⟨rfl, rfl⟩
    go_wp2_with fail
    go_ret
    exact ⟨_, rfl, HO.out, hb1⟩
  | cons x xs =>
    obtain ⟨zs, hzs⟩ : ∃ zs, zs = x :: xs := ⟨_, rfl⟩
    have hz0 : zs.length ≠ 0 := by rw [hzs]; simp
    rw [← hzs] at HR ho1 hn
    clear hzs HC
    have hr1 := ho1.1
    obtain ⟨g, c, rfl, hg, hgw, hcl, hcm⟩ := own_some hr1 hz0
    have hms : (zs.mergeSort fun x y => decide (x ≤ y)).length = zs.length := List.length_mergeSort _
    obtain ⟨ys, hys⟩ : ∃ ys, ys = zs.mergeSort fun x y => decide (x ≤ y) := ⟨_, rfl⟩
    rw [← hys] at hms
    have hsort := Try.slices_Sort_int g 0 c zs w1 (holds_own hr1 rfl) hgw (by omega)
    rw [← hys] at hsort
    have HS := Lib.hid hsort
    have HR1 := Lib.hid hr1
    have HRY := Lib.hid (show R = Lib.compact ys by rw [HR.out, ascL, hys])
    clear hsort hr1 hys ho1 HR
    go_wp2_with fail
    refine HS.out.mono ?_
    rintro e w2 ⟨rfl, n, os, rfl⟩
    have hon := ((only_ahead g (g + 1) w1 n).trans (only_put (Value.int .i64) _ g 0 ys.toArray)).trans (only_grow g (g + 1) _ os)
    have hr2 : (grow (putRow (Value.int .i64) (Sort.ahead w1 n) g 0 ys.toArray) os).ownsRow w.heap.size 3 1 (.slice (some ⟨g, 0, none⟩) zs.length c) zs.length (ys.flatMap cI) := by
      have h := row_put (w := Sort.ahead w1 n) (ds := ys) (cs := zs.flatMap cI) (by exact HR1.out) hms
      exact ownsRow_block h fun b hb => by
        have hlt := (h.lt b hb).2
        exact (only_grow 0 0 (putRow (Value.int .i64) (Sort.ahead w1 n) g 0 ys.toArray) os).block b hlt (.inr (Nat.zero_le _))
    have HON := Lib.hid hon
    have HR2 := Lib.hid hr2
    generalize grow (putRow (Value.int .i64) (Sort.ahead w1 n) g 0 ys.toArray) os = w2 at *
    clear hon hr2 HS HR1
    have hcomp := Try.slices_Compact_int g 0 c ys w2 (holds_own HR2.out hms) (by omega) (by omega)
    rw [hms] at hcomp
    have HCO := Lib.hid hcomp
    clear hcomp
    go_wp2_with fail
    refine HCO.out.mono ?_
    rintro e w3 ⟨rfl, q, rfl⟩
    have hcl2 := Lib.compact_length_le ys
    have hr3 : (putRow (Value.int .i64) (Sort.ahead w2 q) g 0 (Lib.compact ys ++ List.replicate (zs.length - (Lib.compact ys).length) 0).toArray).ownsRow w.heap.size 3 1 (.slice (some ⟨g, 0, none⟩) zs.length c) zs.length ((Lib.compact ys ++ List.replicate (zs.length - (Lib.compact ys).length) 0).flatMap cI) :=
      row_put (w := Sort.ahead w2 q) (cs := ys.flatMap cI) (by exact HR2.out) (by rw [List.length_append, List.length_replicate]; omega)
    have hr4 := ownsRow_take hr3 (show (Lib.compact ys).length ≤ zs.length by omega)
    have htk : ((Lib.compact ys ++ List.replicate (zs.length - (Lib.compact ys).length) 0).flatMap cI).take ((Lib.compact ys).length * 1) = (Lib.compact ys).flatMap cI := by
      rw [List.flatMap_append, List.take_left' (by rw [flatI_map]; simp)]
    rw [htk, ← HRY.out] at hr4
    have hon := HON.out.trans ((only_ahead g (g + 1) w2 q).trans (only_put (Value.int .i64) _ g 0 (Lib.compact ys ++ List.replicate (zs.length - (Lib.compact ys).length) 0).toArray))
    have hown := Own.of_row (xs := R) hr4 rfl rfl
    have HO := Lib.hid hown
    have hfin : Below w.heap.size w _ := hb1.trans (hon.below hg hb1.size)
    clear hr3 hr4 htk hon hown
    rw [← HRY.out] at *
    go_wp2_with fail
    go_ret
    exact ⟨_, rfl, HO.out, hfin⟩
end Go.Proofs.Ytajjolkpgfegfaa

/- The program's AnswersFrom and HasAnswer. -/
namespace Go.Proofs.Ytajjolkpgfegfaa
set_option linter.unusedVariables false
set_option linter.unusedSimpArgs false
open Go.ChangeShapes Go.WideShapes Go.ChangeAt Go.RowKit
attribute [local go_sem] ext_cell ext_frozen ext_lt ext_lt1 ext_lt2 ext_lt3 ltn2 ltn3 ltn13 lts1 lts2 lts3

set_option maxHeartbeats 4000000 in
set_option maxRecDepth 100000 in
theorem implAnswersFrom (vg va : Value) (g : Gr) (a : Au) (x : Int) (w : World) (hgv : GrV 0 w.heap.size w vg g) (hav : AuV 0 w.heap.size w va a) :
    Calls Try.prog 50 #[vg, va, .int .i64 x] w fun e w' => ∃ v', e = .returned v' ∧ Own w.heap.size w'.heap.size w' 3 cI 1 v' (ansL g a x) ∧ Below w.heap.size w w' := by
  have hgv0 := hgv
  have hav0 := hav
  obtain ⟨A1, c1, A2, c2, rfl, hl1, hm1, hl2, hm2, hC1, -⟩ := hgv.form
  obtain ⟨ac, nx, rfl, hac, hnx⟩ := hav
  obtain ⟨A3, c3, rfl, hl3, hm3, -⟩ := SlE.form hac
  obtain ⟨A4, n4, c4, rfl⟩ := hnx.shape
  have hb0 : Below w.heap.size w ((w.alloc (.cells #[.slice A1 g.vals.length c1, .slice A2 g.edges.length c2] 35)).alloc (.cells #[.int .i64 a.start, .slice A3 a.accept.length c3, .slice A4 n4 c4] 37)) := ((Below.refl _ _).alloc (Nat.le_refl _) _).alloc (by simp) _
  have HGV := Lib.hid hgv0
  have HAV := Lib.hid hav0
  have HC1 := Lib.hid hC1
  clear hgv hac hnx hgv0 hav0 hC1
  go_enter Try.func50, Try.ntmps50
  go_wp2_with fail
  obtain ⟨W0, hW0⟩ : ∃ W0, W0 = ((w.alloc (.cells #[.slice A1 g.vals.length c1, .slice A2 g.edges.length c2] 35)).alloc (.cells #[.int .i64 a.start, .slice A3 a.accept.length c3, .slice A4 n4 c4] 37)).alloc (.cells #[] 3) := ⟨_, rfl⟩
  have hb0 : Below w.heap.size w W0 := by rw [hW0]; exact hb0.alloc hb0.size _
  rw [← hW0]
  have bx : Blk W0 w.heap.size 35 #[.slice A1 g.vals.length c1, .slice A2 g.edges.length c2] := by rw [hW0]; exact ((Blk.new w _ _ w.heap.size rfl).alloc _).alloc _
  have by_ : Blk W0 (w.heap.size + 1) 37 #[.int .i64 a.start, .slice A3 a.accept.length c3, .slice A4 n4 c4] := by rw [hW0]; exact (Blk.new (w.alloc _) _ _ (w.heap.size + 1) (by simp)).alloc _
  have hrow0 : W0.ownsRow (w.heap.size + 1 + 1) 3 1 (.slice (some ⟨w.heap.size + 1 + 1, 0, none⟩) 0 0) ([] : List Int).length (([] : List Int).flatMap cI) := by
    rw [hW0]
    have h := World.ownsRow_lit (base := w.heap.size + 1 + 1) (e := 3) (size := 1) ((w.alloc (.cells #[.slice A1 g.vals.length c1, .slice A2 g.edges.length c2] 35)).alloc (.cells #[.int .i64 a.start, .slice A3 a.accept.length c3, .slice A4 n4 c4] 37)) #[] 0 (by simp) (by decide) rfl
    simpa using h
  have x0 : W0.cell? ⟨w.heap.size, 0, none⟩ = some (.slice A1 g.vals.length c1) := by exact bx.cell 0
  have x1 : W0.cell? ⟨w.heap.size, 1, none⟩ = some (.slice A2 g.edges.length c2) := by exact bx.cell 1
  have y0 : W0.cell? ⟨w.heap.size + 1, 0, none⟩ = some (.int .i64 a.start) := by exact by_.cell 0
  have y1 : W0.cell? ⟨w.heap.size + 1, 1, none⟩ = some (.slice A3 a.accept.length c3) := by exact by_.cell 1
  have y2 : W0.cell? ⟨w.heap.size + 1, 2, none⟩ = some (.slice A4 n4 c4) := by exact by_.cell 2
  have l0 := by_.lt
  have l00 := bx.lt
  have HROW0 := Lib.hid hrow0
  have hsW : W0.heap.size = w.heap.size + 1 + 1 + 1 := by rw [hW0]; simp
  have hsW' : w.heap.size + 1 + 1 < W0.heap.size := by omega
  have HSW := Lib.hid hsW
  clear hW0 bx by_ hrow0 hsW
  refine (implDistancesFrom _ _ g a x W0 (HGV.out.keep hb0) (HAV.out.keep hb0)).mono ?_
  rintro e w1 ⟨v1, rfl, ho1, hb1⟩
  have hb2 := below_trans hb0 hb1
  have x0 := kcell hb1 x0
  have x1 := kcell hb1 x1
  have y0 := kcell hb1 y0
  have y1 := kcell hb1 y1
  have y2 := kcell hb1 y2
  have hs1 := hb1.size
  have hs0 := hb0.size
  have l0 := Nat.lt_of_lt_of_le l0 hs1
  have l00 := Nat.lt_of_lt_of_le l00 hs1
  have HROW1 := Lib.hid (ownsRow_below HROW0.out hb1 (Nat.le_refl _))
  have HC6 := Lib.hid (ho1.sl cI_len)
  obtain ⟨A6, c6, rfl, hl6, hm6, -⟩ := ho1.form cI_len
  clear ho1 hb1 hb0 HROW0
  cases hk : (wi x 0 ((g.vals.length : Int) - 1) && (grOk g && auOk a)) with
  | false =>
    have hd0 : distFrom g a x = [] := by rw [distFrom, hk]; rfl
    have hr0 : ansL g a x = [] := by rw [ansL, hk]; rfl
    rw [hd0, List.length_nil]
    have has := ascending_any (.slice (some ⟨w.heap.size + 1 + 1, 0, none⟩) 0 0) [] w1 (((Own.of_row (xs := ([] : List Int)) HROW1.out rfl rfl).sl cI_len).all (Nat.le_refl _)) (by simp)
    rw [show ascL [] = [] by simp [ascL, Lib.compact, Lib.compactUpTo], ← hr0] at has
    have HAS := Lib.hid has
    clear hk hd0 hr0 has HC6
    go_wp2_with fail
    go_loopw [7, 20] (fun oo ii wr => oo = .slice (some ⟨w.heap.size + 1 + 1, 0, none⟩) 0 0 ∧ ii = .int .i64 0 ∧ wr = w1) (fun _ _ _ => 0)
    case atStart => exact ⟨rfl, rfl, rfl⟩
    case round =>
      obtain ⟨rfl, rfl, rfl⟩ := hrel
      go_wp2_with fail
      refine HAS.out.mono ?_
      rintro e w2 ⟨v2, rfl, ho2, hb3⟩
      have HO := Lib.hid (ho2.mono hb2.size (Nat.le_refl _))
      obtain ⟨A9, n9, c9, rfl⟩ := ho2.shape
      clear ho2
      go_wp2_with fail
      go_ret
      exact ⟨_, rfl, HO.out, below_trans hb2 hb3⟩
  | true =>
    have hasc := ansL_asc hk
    have hdl := distFrom_len hk
    simp only [Bool.and_eq_true, wi_iff] at hk
    obtain ⟨⟨hx0, hx1⟩, hgo, ha⟩ := hk
    have hg := grOk_iff.1 hgo
    have hn5 := hg.n5
    have hn12 := (auOk_iff.1 ha).1.2
    have hn1 := (auOk_iff.1 ha).1.1
    obtain ⟨N, hN⟩ : ∃ N, N = g.vals.length * a.accept.length := ⟨_, rfl⟩
    have hN60 : N ≤ 60 := by rw [hN]; exact Nat.mul_le_mul hn5 hn12
    rw [← hN] at hdl hasc
    generalize distFrom g a x = D at *
    rw [hdl] at hl6 ⊢
    have HDL := Lib.hid hdl
    have HASC := Lib.hid hasc
    have HN := Lib.hid hN
    have HGO := Lib.hid hg
    have HAO := Lib.hid ha
    clear hdl hasc hN hg hgo ha hx0 hx1
    go_wp2_with fail
    have hsw := HSW.out
    obtain ⟨gO, hgO⟩ : ∃ gO, gO = w.heap.size + 1 + 1 := ⟨_, rfl⟩
    rw [← hgO] at HROW1 hsW' hsw ⊢
    have hgw : w.heap.size + 1 < gO := by omega
    clear hgO
    go_loopw [7, 20] (fun oo ii wr => ∃ i : Nat, i ≤ N ∧ ii = .int .i64 (i : Int) ∧ wr.ownsRow gO 3 1 oo (ansF g a D i).length ((ansF g a D i).flatMap cI) ∧ Only gO (gO + 1) w1 wr ∧ (∀ b, oo.ownBlock = some b → b = gO ∨ w1.heap.size ≤ b)) (fun _ ii _ => N - (intOf ii).toNat)
    case atStart => exact ⟨0, Nat.zero_le _, rfl, HROW1.out, Only.refl _ _ _, fun b hb => by cases hb; exact .inl rfl⟩
    case round =>
      clear HROW1
      obtain ⟨i, hi, rfl, hrow, hon, hob⟩ := hrel
      have x0 := ocell hon x0 l00 (.inl (by omega))
      have x1 := ocell hon x1 l00 (.inl (by omega))
      have y0 := ocell hon y0 l0 (.inl (by omega))
      have y1 := ocell hon y1 l0 (.inl (by omega))
      have y2 := ocell hon y2 l0 (.inl (by omega))
      have hsz := hon.size
      have l0 := Nat.lt_of_lt_of_le l0 hsz
      have l00 := Nat.lt_of_lt_of_le l00 hsz
      have hbw := hb2.trans (hon.below (B := w.heap.size) (by omega) hb2.size)
      have HBW := Lib.hid hbw
      have HROW := Lib.hid hrow
      have HOB := Lib.hid hob
      have HON := Lib.hid hon
      have hfl := ansF_len g a D i
      clear hrow hob hbw hon
      by_cases hlt : i < N
      · have hgp : g.vals.length * a.accept.length = N := HN.out.symm
        obtain ⟨X, hX⟩ : ∃ X, X = i / a.accept.length := ⟨_, rfl⟩
        obtain ⟨S, hS⟩ : ∃ S, S = i % a.accept.length := ⟨_, rfl⟩
        have hXl : X < g.vals.length := by rw [hX]; exact Nat.div_lt_of_lt_mul (by rw [Nat.mul_comm, hgp]; exact hlt)
        have hSl : S < a.accept.length := by rw [hS]; exact Nat.mod_lt _ hn1
        have t1 : (i : Int).tdiv (a.accept.length : Int) = (X : Int) := by rw [hX]; rfl
        have t2 : (i : Int).tmod (a.accept.length : Int) = (S : Int) := by rw [hS]; rfl
        have hn0 : ((a.accept.length : Int) == 0) = false := by simp only [beq_eq_false_iff_ne, ne_eq]; omega
        have hae : a.accept ≠ [] := by intro h; rw [h] at hn1; simp at hn1
        have hdi := getD_of (D := D) (k := i) (by have := HDL.out; omega)
        obtain ⟨b6, o6, rfl, hb60, hb6, d6⟩ := HC6.out.intI hdi
        have d6 := ocell HON.out d6 hb6 (.inr (by omega))
        have hvi : g.vals[X]? = some g.vals[X] := List.getElem?_eq_getElem hXl
        have hvr := HGO.out.vals _ (List.getElem_mem hXl)
        generalize g.vals[X] = vx at hvi hvr
        obtain ⟨vx, rfl⟩ := Int.eq_ofNat_of_zero_le hvr.1
        have hva := valAt_of hvi
        rw [Int.toNat_natCast] at hva
        obtain ⟨b1, o1, rfl, hb1, d1⟩ := HC1.out.int hvi
        have d1 := kcell HBW.out d1
        have hb1w := Nat.lt_of_lt_of_le hb1 HBW.out.size
        have hb6w := Nat.lt_of_lt_of_le hb6 hsz
        have hii : (i : Int) < (N : Int) := by omega
        have hxx : (X : Int) < (g.vals.length : Int) := by omega
        have HOK := Lib.hid (show okV g a D i = (decide (0 ≤ D.getD i 0) && accC a vx S) by rw [okV, ← hX, ← hS, hva])
        have HY := Lib.hid (fun h : okV g a D i = true => (ansF_yes h).trans (by rw [← hX] : ansF g a D i ++ [((i / a.accept.length : Nat) : Int)] = ansF g a D i ++ [(X : Int)]))
        have HNo := Lib.hid (fun h : okV g a D i = false => ansF_no h)
        have HACC := Lib.hid (show ∀ W, Below w.heap.size w W → Calls Try.prog 101 #[.agg #[.int .i64 a.start, .slice A3 a.accept.length c3, .slice A4 n4 c4], .int .i64 (bit S : Int), .int .i64 (vx : Int)] W fun e w' => e = .returned (.bool (accC a vx S)) ∧ Below W.heap.size W w' from fun W hW => by
          have h := acceptsAt_any _ a (bit S) vx W (HAV.out.keep hW) HAO.out (bit_lt hSl) (by omega)
          rwa [acc_one _ _ (show S < 12 by omega)] at h)
        clear hX hS hgp hdi hvi hva
        generalize D.getD i 0 = d at *
        generalize ansF g a D i = L at *
        by_cases hd : 0 ≤ d
        · have hd0 : decide (d ≥ 0) = true := by simpa using hd
          rw [show decide (0 ≤ d) = true by simpa using hd, Bool.true_and] at HOK
          have s1 := shl_bit (s := S) (by omega)
          have s2 := shl_bit2 (s := S) (by omega)
          have s3 := shl_bit3 (s := S) (by omega)
          have q1 : IntKind.i64.wrap (X : Int) = (X : Int) := IntWalk.i64_in _ (by omega)
          have q2 : IntKind.i64.wrap (S : Int) = (S : Int) := IntWalk.i64_in _ (by omega)
          go_wp2_with fail
          refine wp_region_ext_lit (by kernel_rfl) (by kernel_rfl) ?_
          repeat (go_big_quiet_step ((go_at_call 101; exact Calls.ext_of (HACC.out _ (below_trans HBW.out (ext_below _ _))))))
          refine wpQuiet_nil ?_
          intro _ hw'
          obtain ⟨u2, hw''⟩ := hw'
          subst hw''
          have hbu := ext_below wr u2
          have hsu := hbu.size
          have HR2 := Lib.hid (ownsRow_below HROW.out hbu (Nat.le_refl _))
          have HON2 := Lib.hid (HON.out.trans (Only.of_below hbu gO (gO + 1)))
          clear s1 s2 s3 q1 q2
          generalize ext wr u2 = wx at *
          cases hc : accC a vx S with
          | true =>
            have HM := Lib.hid (HY.out (by rw [HOK.out, hc]))
            clear hc
            go_wp2_with (at_builtin; (refine wpList_append1 cI elInt rfl _ _ rfl gO _ L (X : Int) _ 1 _ (by rfl) HR2.out (by rfl) rfl rfl rfl (cI_one _) (by omega) (by omega) (by omega) ?_); intro v' w4 hrow' hb4 hat4 hgr4)
            go_roundw
            case rel =>
              refine ⟨i + 1, by omega, by go_num, by rw [HM.out]; exact hrow', (HON2.out.alloc _).grown hgr4 (fun b hb => by have := HOB.out b hb; omega), fun b hb => ?_⟩
              rcases hat4 with h1 | ⟨g1, h1, h2⟩
              · exact HOB.out b (by rw [← h1]; exact hb)
              · rw [h1] at hb
                injection hb with hb
                exact .inr (by omega)
            case measure => simp [intOf]; omega
          | false =>
            have HM := Lib.hid (HNo.out (by rw [HOK.out, hc]))
            clear hc
            go_wp2_with fail
            go_roundw
            case rel => exact ⟨i + 1, by omega, by go_num, by rw [HM.out]; exact HR2.out, HON2.out, HOB.out⟩
            case measure => simp [intOf]; omega
        · have hd0 : decide (d ≥ 0) = false := by simpa using hd
          have HM := Lib.hid (HNo.out (by rw [HOK.out, show decide (0 ≤ d) = false by simpa using hd]; rfl))
          go_wp2_with fail
          refine wp_region_ext_lit (by kernel_rfl) (by kernel_rfl) ?_
          repeat (go_big_quiet_step (fail))
          refine wpQuiet_nil ?_
          intro _ hw'
          obtain ⟨u2, hw''⟩ := hw'
          subst hw''
          have hbu := ext_below wr u2
          have HR2 := Lib.hid (ownsRow_below HROW.out hbu (Nat.le_refl _))
          have HON2 := Lib.hid (HON.out.trans (Only.of_below hbu gO (gO + 1)))
          generalize ext wr u2 = wx at *
          go_wp2_with fail
          go_roundw
          case rel => exact ⟨i + 1, by omega, by go_num, by rw [HM.out]; exact HR2.out, HON2.out, HOB.out⟩
          case measure => simp [intOf]; omega
      · obtain rfl : i = N := by omega
        have hown := Own.of_row (xs := ansF g a D i) HROW.out rfl rfl
        have has := ascending_any _ _ wr ((hown.sl cI_len).all (Nat.le_refl _)) (by omega)
        rw [HASC.out] at has
        have HAS := Lib.hid has
        clear has
        go_wp2_with fail
        refine HAS.out.mono ?_
        rintro e w2 ⟨v2, rfl, ho2, hb3⟩
        have HO := Lib.hid (ho2.mono HBW.out.size (Nat.le_refl _))
        obtain ⟨A9, n9, c9, rfl⟩ := ho2.shape
        clear ho2 hown
        go_wp2_with fail
        go_ret
        exact ⟨_, rfl, HO.out, below_trans HBW.out hb3⟩

set_option maxHeartbeats 2000000 in
theorem implHasAnswer (vg va : Value) (g : Gr) (a : Au) (x y : Int) (w : World) (hgv : GrV 0 w.heap.size w vg g) (hav : AuV 0 w.heap.size w va a) :
    Calls Try.prog 104 #[vg, va, .int .i64 x, .int .i64 y] w fun e w' => e = .returned (.bool (hasAns g a x y)) ∧ Below w.heap.size w w' := by
  have hgv0 := hgv
  have hav0 := hav
  obtain ⟨A1, n1, c1, A2, n2, c2, rfl⟩ := hgv.shape
  obtain ⟨A3, n3, c3, A4, n4, c4, rfl⟩ := hav.shape
  have hb0 : Below w.heap.size w ((w.alloc (.cells #[.slice A1 n1 c1, .slice A2 n2 c2] 35)).alloc (.cells #[.int .i64 a.start, .slice A3 n3 c3, .slice A4 n4 c4] 37)) := ((Below.refl _ _).alloc (Nat.le_refl _) _).alloc (by simp) _
  have haf := implAnswersFrom _ _ g a x _ (hgv0.keep hb0) (hav0.keep hb0)
  have HAF := Lib.hid haf
  have HLN := Lib.hid (ansL_len g a x)
  have HH := Lib.hid (show hasAns g a x y = (ansL g a x).contains y from rfl)
  clear hgv hav hgv0 hav0 haf
  obtain ⟨R, hR⟩ : ∃ R, R = hasAns g a x y := ⟨_, rfl⟩
  rw [← hR] at HH ⊢
  clear hR
  go_enter Try.func104, Try.ntmps104
  go_wp2_with fail
  refine HAF.out.mono ?_
  rintro e w1 ⟨v1, rfl, ho1, hb1⟩
  generalize ansL g a x = L at *
  have hr1 := ho1.1
  by_cases h0 : L.length = 0
  · obtain rfl : L = [] := List.eq_nil_of_length_eq_zero h0
    obtain ⟨A9, c9, rfl, -, -, -⟩ := ho1.form cI_len
    clear h0 hr1 ho1 HAF
    simp only [List.length_nil]
    go_wp2_with fail
    refine (Try.slices_Contains_int_empty A9 c9 y w1).mono ?_
    rintro e w2 ⟨rfl, rfl⟩
    go_wp2_with fail
    go_ret
    exact ⟨by rw [HH.out]; rfl, below_trans hb0 hb1⟩
  · obtain ⟨gb, cb, rfl, -, -, -, -⟩ := own_some hr1 h0
    have hl30 := HLN.out
    have hct := Try.slices_Contains_int gb 0 L.length cb L y w1 (Nat.le_refl _) (by omega) (fun j hj => by
      rw [Nat.zero_add, World.ownsRow.cellAt hr1 j (by omega)]
      exact flatI_at (getD_of hj))
    rw [List.take_length, ← HH.out] at hct
    have HCT := Lib.hid hct
    clear hr1 ho1 HAF hct
    go_wp2_with fail
    refine HCT.out.mono ?_
    rintro e w2 ⟨rfl, rfl⟩
    go_wp2_with fail
    go_ret
    exact ⟨rfl, below_trans hb0 hb1⟩
end Go.Proofs.Ytajjolkpgfegfaa

