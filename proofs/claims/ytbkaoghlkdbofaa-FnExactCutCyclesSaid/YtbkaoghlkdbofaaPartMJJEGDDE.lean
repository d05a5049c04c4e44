/- Parts of the proof, joined into one text: PutS, RelS, LetS, ShelfP, PKey, Reslice. -/
import Derived.Laws.StructEq
import Derived.Test.YtbkaoghlkdbofaaPartJICGGFLG
import Derived.Test.YtbkaoghlkdbofaaPartEDIBNICH
import Derived.Test.YtbkaoghlkdbofaaPartNFGBNNPI
import Derived.Test.YtbkaoghlkdbofaaPartOLGJHFGJ
import Derived.Shelf.SlGeneric
import Derived.Shelf.SlSortCmp.WholeK
import Derived.Ground.SlsfProg
import Derived.Test.YtbkaoghlkdbofaaProg
/- The reference's l15Less and l15Put: one pair more is laid into a set. -/
namespace Go.Proofs.Ytbkaoghlkdbofaa
set_option linter.unusedVariables false
set_option linter.unusedSimpArgs false
open Go.ChangeShapes Go.WideShapes Go.ChangeAt Go.RowKit
attribute [local go_sem] ext_cell ext_frozen ext_lt ext_lt1 ext_lt2 ext_lt3 ltn2 ltn3 ltn13 lts1 lts2 lts3

section
variable {P : Program} {w : World}
/-- append of a whole list: as an operation by itself -/
theorem op_appendL {α : Type} (E : α → List Value) {o : Oper} {a : Act} {K : Act → World → Prop} {Q : Exit → Act → World → Prop} {t e : TypeId} {z : Value} {k bytes : Nat} (el : ElemOk P t e z k bytes) (hE : ∀ x, (E x).length = k) (h1 : ∀ x, ∀ u ∈ E x, u.oneCell' = true)
    (s y : Operand) (ho : o.op = .call { callee := .builtin .append, args := #[s, y], argTypes := #[t, t] })
    (base : Nat) (v : Value) (xs ys : List α) (hs : a.eval s = v) (hown : w.ownsRow base e k v xs.length (xs.flatMap E)) (lo hi : Nat) (yv : Value) (hyv : a.eval y = yv) (hy : SlI lo hi w E k yv ys) (hbytes : (xs.length + ys.length) * bytes ≤ 140737488355328) (hb0 : 0 < bytes) (hbase : base ≤ w.heap.size)
    (h : ∀ v' w', w'.ownsRow base e k v' (xs ++ ys).length ((xs ++ ys).flatMap E) → w.grownBy w' v.ownBlock → (v'.ownBlock = v.ownBlock ∨ v'.ownBlock = some w.heap.size) → K (a.put o.dst v') w') : Oper.wp P o a w K Q := by
  obtain ⟨v', w', hr, h2, h3, h5⟩ := run_appendL E el hE h1 base v xs ys hown lo hi yv hy hbytes hb0 hbase o.type
  unfold Oper.wp execOp
  simp only [ho, resolve, invoke, builtin, Sem.run_bind, Sem.run_pure, Result.andThen_ok, List.map_toArray, List.map_cons, List.map_nil, hs, hyv, hr]
  exact h v' w' h2 h3 h5
end
theorem SlI.takeP {α : Type} {lo hi : Nat} {w : World} {E : α → List Value} {k b o n c : Nat} {xs : List α} (h : SlI lo hi w E k (.slice (some ⟨b, o, none⟩) n c) xs) {m : Nat} (hm : m ≤ xs.length) : SlI lo hi w E k (.slice (some ⟨b, o, none⟩) m c) (xs.take m) := by
  obtain ⟨A', c', hv, hl, hc, hx⟩ := h
  injection hv with h1 h2 h3
  subst h1 h3
  have hlt : (xs.take m).length = m := by rw [List.length_take]; omega
  refine ⟨_, c, by rw [hlt], by omega, hc, fun j x hj => hx j x ?_⟩
  rw [List.getElem?_take] at hj
  split at hj
  · exact hj
  · cases hj
theorem SlI.dropP {α : Type} {lo hi : Nat} {w : World} {E : α → List Value} {k b o n c : Nat} {xs : List α} (h : SlI lo hi w E k (.slice (some ⟨b, o, none⟩) n c) xs) {m : Nat} (hm : m ≤ xs.length) : SlI lo hi w E k (.slice (some ⟨b, o + m * k, none⟩) (n - m) (c - m)) (xs.drop m) := by
  obtain ⟨A', c', hv, hl, hc, hx⟩ := h
  injection hv with h1 h2 h3
  subst h1 h2 h3
  have hlt : (xs.drop m).length = xs.length - m := by rw [List.length_drop]
  refine ⟨_, c - m, by rw [hlt], by omega, by omega, fun j x hj => ?_⟩
  rw [List.getElem?_drop] at hj
  obtain ⟨b', o', hA, h1, h2, h3⟩ := hx (m + j) x hj
  injection hA with hA
  injection hA with e1 e2
  subst e1 e2
  refine ⟨b, o + m * k, rfl, h1, h2, fun i u hu => ?_⟩
  rw [← h3 i u hu, Nat.add_mul]
  congr 2
  omega
theorem row_cap {W : World} {base k n g c : Nat} {e : TypeId} {cs : List Value} (h : W.ownsRow base e k (.slice (some ⟨g, 0, none⟩) n c) n cs) : n ≤ c ∧ c ≤ 9223372036854775807 := by
  obtain ⟨_, hs⟩ := h
  rcases hs with ⟨h1, _⟩ | ⟨g', cap', cur, hv, hg, hh, hnc, hcm, _⟩
  · cases h1
  · simp only [Value.slice.injEq, Option.some.injEq, Addr.mk.injEq, and_true, true_and] at hv
    obtain ⟨rfl, rfl⟩ := hv
    exact ⟨hnc, hcm⟩
theorem SlI.prP {lo hi : Nat} {w : World} {b o n c : Nat} {xs : List Pr} (h : SlI lo hi w cPr 2 (.slice (some ⟨b, o, none⟩) n c) xs) {i : Nat} {x : Pr} (hx : xs[i]? = some x) :
    (lo ≤ b ∧ b < hi) ∧ w.cell? ⟨b, o + i * 2, none⟩ = some (.int .i64 x.1) ∧ w.cell? ⟨b, o + i * 2 + 1, none⟩ = some (.int .i64 x.2) := by
  obtain ⟨A', c', hv, _, _, h3⟩ := h
  simp only [Value.slice.injEq] at hv
  obtain ⟨b', o', hA, g1, g2, hc⟩ := h3 i x hx
  rw [← hv.1] at hA
  simp only [Option.some.injEq, Addr.mk.injEq, and_true] at hA
  obtain ⟨rfl, rfl⟩ := hA
  exact ⟨⟨g1, g2⟩, by simpa using hc 0 _ rfl, hc 1 _ rfl⟩
theorem SlI.prA {lo hi : Nat} {w : World} {A : Option Addr} {n c : Nat} {xs : List Pr} (h : SlI lo hi w cPr 2 (.slice A n c) xs) {i : Nat} {x : Pr} (hx : xs[i]? = some x) :
    ∃ b o, A = some ⟨b, o, none⟩ ∧ (lo ≤ b ∧ b < hi) ∧ w.cell? ⟨b, o + i * 2, none⟩ = some (.int .i64 x.1) ∧ w.cell? ⟨b, o + i * 2 + 1, none⟩ = some (.int .i64 x.2) := by
  obtain ⟨A', c', hv, _, _, h3⟩ := h
  simp only [Value.slice.injEq] at hv
  obtain ⟨b', o', hA, g1, g2, hc⟩ := h3 i x hx
  exact ⟨b', o', hv.1.trans hA, ⟨g1, g2⟩, by simpa using hc 0 _ rfl, hc 1 _ rfl⟩
theorem SlI.dropQ {lo hi B : Nat} {w w' : World} {g c : Nat} {l : List Pr} (h : SlI lo hi w cPr 2 (.slice (some ⟨g, 0, none⟩) l.length c) l) (hb : Below B w w') (hB : hi ≤ B) {k : Nat} (hk : k ≤ l.length) (hc : l.length ≤ c) :
    SlI lo hi w' cPr 2 (.slice (if c = k then some ⟨g, 0, none⟩ else some ⟨g, k * 2, none⟩) (l.length - k) (c - k)) (l.drop k) := by
  split
  · have hn : l.drop k = [] := List.drop_eq_nil_of_le (by omega)
    have hcm : c - k ≤ maxLen := by unfold maxLen; omega
    rw [hn]
    refine ⟨some ⟨g, 0, none⟩, c - k, ?_, by simp, hcm, fun i x hx => by simp at hx⟩
    simp; omega
  · simpa using (h.below hb hB).dropP (m := k) hk
theorem eqPr (a b c d : Int) (w : World) : (Op.equalIn 10000 91 (.agg #[.int .i64 a, .int .i64 b]) (.agg #[.int .i64 c, .int .i64 d])).run Try.prog w = .ok (a == c && b == d) w := by
  have u3 := Try.underlying3
  have a3 := Try.isAgg3
  have z3 := Try.sizeOf3
  have hS : Try.prog.underlying 91 = some (.struct (Try.prog.fieldsOf 91)) := by kernel_rfl
  have hp : Try.prog.stoodInHeld 91 = false := by kernel_rfl
  rw [show (10000 : Nat) = 9999 + 1 from rfl, run_equalIn_agg w 9999 91 _ _ hS hp]
  simp only [Program.fieldsOf, Try.underlying91]
  go_simp
  by_cases h1 : a = c <;> by_cases h2 : b = d <;> simp [h1, h2]
theorem guardPr : Try.prog.eqGuardType Try.prog.depth 91 = false := by kernel_rfl
attribute [local go_sem] guardPr
theorem eqlPr (a b c d : Int) (w : World) : (binOp .eql 91 (.agg #[.int .i64 a, .int .i64 b]) (.agg #[.int .i64 c, .int .i64 d])).run Try.prog w = .ok (.bool (decide ((a, b) = (c, d)))) w := by
  rw [run_eql_struct, eqPr]
  by_cases h1 : a = c <;> by_cases h2 : b = d <;> simp [h1, h2]
/-- a set of pairs in a row of the call's own, never nil -/
def SetR (lo : Nat) (w : World) (v : Value) (l : List Pr) : Prop := ∃ g c, v = .slice (some ⟨g, 0, none⟩) l.length c ∧ w.ownsRow lo 91 2 v l.length (l.flatMap cPr)
theorem SetR.below {lo : Nat} {w w' : World} {v : Value} {l : List Pr} (h : SetR lo w v l) (hb : Below w.heap.size w w') : SetR lo w' v l := by
  obtain ⟨g, c, rfl, h⟩ := h
  exact ⟨g, c, rfl, ownsRow_below h hb (Nat.le_refl _)⟩
theorem SetR.mono {lo lo' : Nat} {w : World} {v : Value} {l : List Pr} (h : SetR lo w v l) (hl : lo' ≤ lo) : SetR lo' w v l := by
  obtain ⟨g, c, rfl, h⟩ := h
  exact ⟨g, c, rfl, ownsRow_mono h hl⟩
theorem SetR.own {lo : Nat} {w : World} {v : Value} {l : List Pr} (h : SetR lo w v l) : Own lo w.heap.size w 91 cPr 2 v l := by
  obtain ⟨g, c, rfl, h⟩ := h
  exact Own.of_row h rfl rfl
theorem SetR.lit (w : World) (lo : Nat) (h : lo ≤ w.heap.size) : SetR lo (w.alloc (.cells #[] 91)) (.slice (some ⟨w.heap.size, 0, none⟩) 0 0) [] :=
  ⟨_, _, rfl, World.ownsRow_lit (base := lo) (e := 91) (size := 2) w #[] 0 h (by decide) rfl⟩

set_option maxHeartbeats 1000000 in
theorem l15Less_any (p q : Pr) (w : World) :
    Calls Try.prog 126 #[.agg #[.int .i64 p.1, .int .i64 p.2], .agg #[.int .i64 q.1, .int .i64 q.2]] w fun e w' => e = .returned (.bool (ltP p q)) ∧ Below w.heap.size w w' := by
  obtain ⟨p1, p2⟩ := p
  obtain ⟨q1, q2⟩ := q
  have hb : Below w.heap.size w ((w.alloc (.cells #[.int .i64 p1, .int .i64 p2] 91)).alloc (.cells #[.int .i64 q1, .int .i64 q2] 91)) := ((Below.refl _ _).alloc (Nat.le_refl _) _).alloc (by simp) _
  simp only
  by_cases h1 : p1 < q1
  · have k1 : decide (p1 < q1) = true := by simpa using h1
    have hl : ltP (p1, p2) (q1, q2) = true := by rw [ltP_iff]; exact .inl h1
    rw [hl]
    clear h1 hl
    go_enter Try.func126, Try.ntmps126
    go_wp2_with fail
    go_ret
    exact ⟨rfl, hb⟩
  · have k1 : decide (p1 < q1) = false := by simpa using h1
    by_cases h2 : p1 = q1
    · have k2 : (p1 == q1) = true := by simpa using h2
      by_cases h3 : p2 < q2
      · have k3 : decide (p2 < q2) = true := by simpa using h3
        have hl : ltP (p1, p2) (q1, q2) = true := by rw [ltP_iff]; exact .inr ⟨h2, h3⟩
        rw [hl]
        clear h1 h2 h3 hl
        go_enter Try.func126, Try.ntmps126
        go_wp2_with fail
        go_ret
        exact ⟨rfl, hb⟩
      · have k3 : decide (p2 < q2) = false := by simpa using h3
        have hl : ltP (p1, p2) (q1, q2) = false := by rw [ltP_no]; simp only; omega
        rw [hl]
        clear h1 h2 h3 hl
        go_enter Try.func126, Try.ntmps126
        go_wp2_with fail
        go_ret
        exact ⟨rfl, hb⟩
    · have k2 : (p1 == q1) = false := by simpa using h2
      have hl : ltP (p1, p2) (q1, q2) = false := by rw [ltP_no]; simp only; omega
      rw [hl]
      clear h1 h2 hl
      go_enter Try.func126, Try.ntmps126
      go_wp2_with fail
      go_ret
      exact ⟨rfl, hb⟩

set_option maxHeartbeats 4000000 in
set_option maxRecDepth 100000 in
theorem l15Put_any (v : Value) (lo : Nat) (l : List Pr) (p : Pr) (w : World) (hv : SetR lo w v l) (hlo : lo ≤ w.heap.size) (hn : l.length ≤ 1099511627776) :
    Calls Try.prog 66 #[v, .agg #[.int .i64 p.1, .int .i64 p.2]] w fun e w' => ∃ v', e = .returned v' ∧ SetR lo w' v' (putP l p) ∧ Below w.heap.size w w' := by
  obtain ⟨g, c, rfl, hrow⟩ := hv
  obtain ⟨hg1, hg2⟩ := hrow.lt g rfl
  have hsl := (Own.of_row (xs := l) hrow rfl rfl).sl cPr_len
  obtain ⟨hlc, hcm⟩ := row_cap hrow
  obtain ⟨W0, hW0⟩ : ∃ W0, W0 = w.alloc (.cells #[.int .i64 p.1, .int .i64 p.2] 91) := ⟨_, rfl⟩
  have hb0 : Below w.heap.size w W0 := by rw [hW0]; exact (Below.refl _ _).alloc (Nat.le_refl _) _
  have x0 : W0.cell? ⟨w.heap.size, 0, none⟩ = some (.int .i64 p.1) := by rw [hW0]; simp
  have x1 : W0.cell? ⟨w.heap.size, 1, none⟩ = some (.int .i64 p.2) := by rw [hW0]; simp
  have l0 : w.heap.size < W0.heap.size := by rw [hW0]; simp
  have HROW := Lib.hid (ownsRow_below hrow hb0 (Nat.le_refl _))
  have HSL := Lib.hid (hsl.below hb0 (Nat.le_refl _))
  obtain ⟨R, hR⟩ : ∃ R, R = putP l p := ⟨_, rfl⟩
  rw [← hR]
  have HR := Lib.hid hR
  clear hR hrow hsl
  go_enter Try.func66, Try.ntmps66
  go_wp2_with fail
  rw [← hW0]
  clear hW0
  go_loopw [5] (fun kk wr => ∃ (k : Nat) (u : World), k ≤ l.length ∧ kk = .int .i64 (k : Int) ∧ (∀ i x, i < k → l[i]? = some x → ltP x p = true) ∧ wr = ext W0 u) (fun kk _ => l.length - (intOf kk).toNat)
  case atStart => exact ⟨0, W0, Nat.zero_le _, rfl, (fun i x hi => absurd hi (Nat.not_lt_zero _)), ext_self W0⟩
  case round =>
    obtain ⟨k, u, hk, rfl, hall, rfl⟩ := hrel
    have HALL := Lib.hid hall
    clear hall
    by_cases hlt : k < l.length
    · have hxk : l[k]? = some l[k] := List.getElem?_eq_getElem hlt
      generalize l[k] = x at hxk
      obtain ⟨xa, xb⟩ := x
      obtain ⟨-, d0, d1⟩ := HSL.out.prP hxk
      simp only [Nat.zero_add] at d0 d1
      have hbw : g < W0.heap.size := by omega
      have hkk : (k : Int) < (l.length : Int) := by omega
      have HXK := Lib.hid hxk
      have HLT := Lib.hid (show ∀ b, ltP (xa, xb) p = b → ltP (xa, xb) p = b from fun _ h => h)
      have HL := Lib.hid (fun (W : World) => l15Less_any (xa, xb) p W)
      clear hxk
      cases hbb : ltP (xa, xb) p with
      | true =>
        rw [hbb] at HL
        have HBB := Lib.hid hbb
        clear hbb HLT
        go_wp2_with fail
        refine wp_region_ext_lit (by kernel_rfl) (by kernel_rfl) ?_
        repeat (go_big_quiet_step ((go_at_call 126; exact Calls.ext_of (HL.out _))))
        refine wpQuiet_nil ?_
        intro _ hw'
        obtain ⟨u2, hw''⟩ := hw'
        subst hw''
        obtain ⟨u4, hu4⟩ := ext_ext W0 u u2
        have HU4 := Lib.hid hu4
        clear hu4
        go_wp2_with fail
        go_roundw
        case rel =>
          refine ⟨k + 1, u4, by omega, by go_num, fun i y hi hy => ?_, HU4.out⟩
          rcases Nat.lt_or_ge i k with h | h
          · exact HALL.out i y h hy
          · obtain rfl : i = k := by omega
            rw [HXK.out] at hy
            injection hy with hy
            subst hy
            exact HBB.out
        case measure => simp [intOf]; omega
      | false =>
        rw [hbb] at HL
        have hput := putP_at (l := l) (p := p) (k := k) (by omega) HALL.out (fun y hy => by rw [HXK.out] at hy; injection hy with hy; subst hy; exact hbb)
        rw [HXK.out] at hput
        have HPUT0 := Lib.hid (HR.out.trans hput)
        clear hbb HLT hput HALL HR
        go_wp2_with fail
        refine wp_region_ext_lit (by kernel_rfl) (by kernel_rfl) ?_
        repeat (go_big_quiet_step ((go_at_call 126; exact Calls.ext_of (HL.out _))))
        refine wpQuiet_nil ?_
        intro _ hw'
        obtain ⟨u2, hw''⟩ := hw'
        subst hw''
        obtain ⟨u4, hu4⟩ := ext_ext W0 u u2
        rw [hu4]
        clear hu4
        have HEQ := Lib.hid (fun (w : World) => eqlPr xa xb p.1 p.2 w)
        obtain ⟨bb, hb2⟩ : ∃ bb, bb = decide ((xa, xb) = (p.1, p.2)) := ⟨_, rfl⟩
        rw [← hb2] at HEQ
        have HB2 := Lib.hid hb2
        have heq := HEQ.out
        clear hb2
        go_wp2_with fail
        refine wp_region_ext_lit (by kernel_rfl) (by kernel_rfl) ?_
        repeat (go_big_quiet_step (fail))
        refine wpQuiet_nil ?_
        intro _ hw'
        obtain ⟨u3, hw''⟩ := hw'
        subst hw''
        cases bb with
        | true =>
          have hfin : R = l := by
            rw [HPUT0.out, if_pos]
            have := HB2.out
            simp only [Eq.comm (a := true), decide_eq_true_eq] at this
            rw [this]
          have HF := Lib.hid hfin
          have hb9 : Below w.heap.size w (ext (ext W0 u4) u3) := below_trans hb0 (below_trans (ext_below _ _) (ext_below _ _))
          have HR9 := Lib.hid (ownsRow_below HROW.out (below_trans (ext_below W0 u4) (ext_below _ u3)) (Nat.le_refl _))
          clear hfin
          go_wp2_with fail
          go_ret
          exact ⟨_, rfl, by rw [HF.out]; exact ⟨g, c, rfl, HR9.out⟩, hb9⟩
        | false =>
          have HPUT := Lib.hid (show R = l.take k ++ [p] ++ l.drop k by
            rw [HPUT0.out, if_neg]
            have := HB2.out
            simp only [Eq.comm (a := false), decide_eq_false_iff_not] at this
            intro h
            injection h with h
            exact this h)
          clear HPUT0 HB2 HEQ heq
          obtain ⟨W6, hW6⟩ : ∃ W6, W6 = (ext (ext W0 u4) u3) := ⟨_, rfl⟩
          have hb6 : Below W0.heap.size W0 W6 := by rw [hW6]; exact (below_trans (ext_below _ _) (ext_below _ _))
          rw [← hW6]
          clear hW6
          have x0 := kcell hb6 x0
          have x1 := kcell hb6 x1
          have l6 := Nat.lt_of_lt_of_le l0 hb6.size
          have HSD := Lib.hid (show SlI lo w.heap.size W6.drew cPr 2 (.slice (some ⟨g, 0, none⟩) l.length c) l from HSL.out.below hb6.drew (by omega))
          have HBW6 := Lib.hid (show Below w.heap.size w W6.drew from (below_trans hb0 hb6).drew)
          have hwW6 : w.heap.size ≤ W6.drew.heap.size := HBW6.out.size
          have hloW : lo ≤ W6.drew.heap.size := by omega
          have hkl : (k : Int) ≤ (l.length : Int) := by omega
          have hkc : (k : Int) ≤ (c : Int) := by omega
          have htl : (l.take k).length ≤ l.length := by rw [List.length_take]; omega
          have hdl : (l.drop k).length ≤ l.length := by rw [List.length_drop]; omega
          have htd : (l.take k ++ [p]).length ≤ l.length + 1 := by rw [List.length_append]; simp only [List.length_cons, List.length_nil]; omega
          have HRL := Lib.hid (show R.length ≠ 0 by rw [HPUT.out]; simp)
          clear HSL HROW hb0 hb6
          go_wp2_with fail
          have hS1 := HSD.out
          clear hS1
          refine F_start 12 (fun w' => w'.cell? ⟨w.heap.size, 0, none⟩ = some (.int .i64 p.1) ∧ w'.cell? ⟨w.heap.size, 1, none⟩ = some (.int .i64 p.2)) (by kernel_rfl) (by exact ⟨x0, x1⟩) (fun hS inv => ?_)
          refine F_take (i := 1) (v := ?_) rfl (by kernel_rfl) (by kernel_rfl) (by kernel_rfl) (fun _ _ _ h => h) inv (Or.inl ⟨by rfl, ?_⟩) (by assumption) (fun invn => ?_)
          rotate_left
          · (intro w hSw; (try dsimp only at hSw); go_simp; try with_reducible rfl)
          try simp only [List.getElem_toArray, List.getElem_cons_zero, List.getElem_cons_succ, Act.put, List.setIfInBounds_toArray, List.set_cons_zero, List.set_cons_succ]
          clear inv
          have inv := invn
          clear invn
          refine F_take (i := 2) (v := ?_) rfl (by kernel_rfl) (by kernel_rfl) (by kernel_rfl) (fun _ _ _ h => h) inv (Or.inl ⟨by rfl, ?_⟩) (by assumption) (fun invn => ?_)
          rotate_left
          · (intro w hSw; (try dsimp only at hSw); go_simp; try with_reducible rfl)
          try simp only [List.getElem_toArray, List.getElem_cons_zero, List.getElem_cons_succ, Act.put, List.setIfInBounds_toArray, List.set_cons_zero, List.set_cons_succ]
          clear inv
          have inv := invn
          clear invn
          refine F_take (i := 3) (v := ?_) rfl (by kernel_rfl) (by kernel_rfl) (by kernel_rfl) (fun _ _ _ h => h) inv (Or.inl ⟨by rfl, ?_⟩) (by assumption) (fun invn => ?_)
          rotate_left
          · (intro w hSw; (try dsimp only at hSw); go_simp; try with_reducible rfl)
          try simp only [List.getElem_toArray, List.getElem_cons_zero, List.getElem_cons_succ, Act.put, List.setIfInBounds_toArray, List.set_cons_zero, List.set_cons_succ]
          clear inv
          have inv := invn
          clear invn
          refine F_take (i := 5) (v := ?_) rfl (by kernel_rfl) (by kernel_rfl) (by kernel_rfl) (fun _ _ _ h => h) inv (Or.inl ⟨by rfl, ?_⟩) (by assumption) (fun invn => ?_)
          rotate_left
          · (intro w hSw; (try dsimp only at hSw); go_simp; try with_reducible rfl)
          try simp only [List.getElem_toArray, List.getElem_cons_zero, List.getElem_cons_succ, Act.put, List.setIfInBounds_toArray, List.set_cons_zero, List.set_cons_succ]
          clear inv
          have inv := invn
          clear invn
          refine F_take (i := 8) (v := ?_) rfl (by kernel_rfl) (by kernel_rfl) (by kernel_rfl) (fun _ _ _ h => h) inv (Or.inl ⟨by rfl, ?_⟩) (by assumption) (fun invn => ?_)
          rotate_left
          · (intro w hSw; (try dsimp only at hSw); go_simp; try with_reducible rfl)
          try simp only [List.getElem_toArray, List.getElem_cons_zero, List.getElem_cons_succ, Act.put, List.setIfInBounds_toArray, List.set_cons_zero, List.set_cons_succ]
          clear inv
          have inv := invn
          clear invn
          refine F_take (i := 9) (v := ?_) rfl (by kernel_rfl) (by kernel_rfl) (by kernel_rfl) (fun _ _ _ h => h) inv (Or.inl ⟨by rfl, ?_⟩) (by assumption) (fun invn => ?_)
          rotate_left
          · (intro w hSw; (try dsimp only at hSw); go_simp; try with_reducible rfl)
          try simp only [List.getElem_toArray, List.getElem_cons_zero, List.getElem_cons_succ, Act.put, List.setIfInBounds_toArray, List.set_cons_zero, List.set_cons_succ]
          clear inv
          have inv := invn
          clear invn
          refine F_take (i := 10) (v := ?_) rfl (by kernel_rfl) (by kernel_rfl) (by kernel_rfl) (fun _ _ _ h => h) inv (Or.inl ⟨by rfl, ?_⟩) (by assumption) (fun invn => ?_)
          rotate_left
          · (intro w hSw; (try dsimp only at hSw); go_simp; try with_reducible rfl)
          try simp only [List.getElem_toArray, List.getElem_cons_zero, List.getElem_cons_succ, Act.put, List.setIfInBounds_toArray, List.set_cons_zero, List.set_cons_succ]
          clear inv
          have inv := invn
          clear invn
          have hS0 := hS
          refine F_two (i := 0) (j := 6) (by kernel_rfl) rfl rfl rfl rfl (by omega) inv (fun K hK => ?_) (fun K hK => ?_)
          all_goals (try simp only [List.getElem_toArray, List.getElem_cons_zero, List.getElem_cons_succ])
          · go_simp
            have hba := (Below.refl W6.drew.heap.size W6.drew).alloc (Nat.le_refl _) (.cells #[] 91)
            have hrow := World.ownsRow_lit (base := W6.drew.heap.size) (e := 91) (size := 2) W6.drew #[] 0 (Nat.le_refl _) (by decide) rfl
            have hsa := hba.size
            have HRL0 := Lib.hid hrow
            have HTK := Lib.hid ((HSD.out.below hba hwW6).takeP (m := k) (by omega))
            clear hrow
            refine hK.out _ _ (kB2 hba hS0) (fun hSn invn => ?_)
            try simp only [List.getElem_toArray, List.getElem_cons_zero, List.getElem_cons_succ, Act.put, List.setIfInBounds_toArray, List.set_cons_zero, List.set_cons_succ]
            clear hK K inv hS
            have inv := invn
            have hS := hSn
            clear invn hSn
            refine F_two (i := 4) (j := 6) (by kernel_rfl) rfl rfl rfl rfl (by omega) inv (fun K hK => ?_) (fun K hK => ?_)
            all_goals (try simp only [List.getElem_toArray, List.getElem_cons_zero, List.getElem_cons_succ])
            · refine op_appendL cPr elPair cPr_len cPr_one _ _ (by rfl) W6.drew.heap.size _ [] (l.take k) (by rfl) HRL0.out lo w.heap.size _ (by rfl) HTK.out (by simp; omega) (by omega) hsa ?_
              intro va wa hra hga hata
              simp only [List.nil_append] at hra
              have hbb := hba.trans (own_below HRL0.out hsa hga)
              have hbx := hbb.alloc hbb.size (.cells #[.int .i64 p.1, .int .i64 p.2] 91)
              have hbxs := hbx.size
              have HV := Lib.hid (hra.alloc (.cells #[.int .i64 p.1, .int .i64 p.2] 91))
              obtain ⟨H1, hH1⟩ : ∃ H1, H1 = wa.heap.size := ⟨_, rfl⟩
              have HLIT := Lib.hid (show (wa.alloc (.cells #[.int .i64 p.1, .int .i64 p.2] 91)).heap[H1]? = some (.cells (cPr p).toArray 91 (0, 0)) by rw [hH1]; exact heap_alloc_new _ _)
              clear hra hga hata
              refine hK.out _ _ (kB2 hbb hS0) (fun hSn invn => ?_)
              try simp only [List.getElem_toArray, List.getElem_cons_zero, List.getElem_cons_succ, Act.put, List.setIfInBounds_toArray, List.set_cons_zero, List.set_cons_succ]
              clear hK K inv hS
              have inv := invn
              have hS := hSn
              clear invn hSn
              refine F_one (i := 6) (by kernel_rfl) rfl rfl (by omega) inv (fun K hK => ?_)
              try simp only [List.getElem_toArray, List.getElem_cons_zero, List.getElem_cons_succ]
              go_simp
              rw [← hH1]
              refine hK.out _ _ (kB2 hbx hS0) (fun hSn invn => ?_)
              try simp only [List.getElem_toArray, List.getElem_cons_zero, List.getElem_cons_succ, Act.put, List.setIfInBounds_toArray, List.set_cons_zero, List.set_cons_succ]
              clear hK K inv hS
              have inv := invn
              have hS := hSn
              clear invn hSn
              clear hH1
              refine F_one (i := 7) (by kernel_rfl) rfl rfl (by omega) inv (fun K hK => ?_)
              try simp only [List.getElem_toArray, List.getElem_cons_zero, List.getElem_cons_succ]
              refine op_append1 cPr elPair rfl _ _ (by rfl) W6.drew.heap.size va (l.take k) p _ H1 (by rfl) HV.out (by rfl) HLIT.out rfl (cPr_one _) (by omega) (by omega) hbxs ?_
              intro g2 cp2 w3 hown3 hgr3 hat3 hlt3
              have hb3 := hbx.trans (own_below HV.out hbxs hgr3)
              have HOW3 := Lib.hid hown3
              have hs3 := hb3.size
              have HSD3 := Lib.hid (HSD.out.dropQ (k := k) hb3 hwW6 (by omega) hlc)
              clear hown3 hgr3 hat3
              refine hK.out _ _ (kB2 hb3 hS0) (fun hSn invn => ?_)
              try simp only [List.getElem_toArray, List.getElem_cons_zero, List.getElem_cons_succ, Act.put, List.setIfInBounds_toArray, List.set_cons_zero, List.set_cons_succ]
              clear hK K inv hS
              have inv := invn
              have hS := hSn
              clear invn hSn
              refine F_one (i := 11) (by kernel_rfl) rfl rfl (by omega) inv (fun K hK => ?_)
              try simp only [List.getElem_toArray, List.getElem_cons_zero, List.getElem_cons_succ]
              refine op_appendL cPr elPair cPr_len cPr_one _ _ (by rfl) W6.drew.heap.size (.slice (some ⟨g2, 0, none⟩) ((l.take k).length + 1) cp2) (l.take k ++ [p]) (l.drop k) (by rfl) HOW3.out lo w.heap.size (.slice (if c = k then some ⟨g, 0, none⟩ else some ⟨g, k * 2, none⟩) (l.length - k) (c - k)) (by rfl) HSD3.out (by omega) (by omega) hs3 ?_
              intro v5 w5 hown5 hgr5 hat5
              have hb5 := hb3.trans (own_below (base := W6.drew.heap.size) HOW3.out hs3 hgr5)
              rw [show l.take k ++ [p] ++ l.drop k = R from HPUT.out.symm] at hown5
              obtain ⟨g5, c5, rfl, -, -, -, -⟩ := own_some hown5 (by have := HRL.out; omega)
              have HSET := Lib.hid (show SetR lo w5 (.slice (some ⟨g5, 0, none⟩) R.length c5) R from ⟨g5, c5, rfl, ownsRow_mono hown5 hloW⟩)
              have HBF := Lib.hid (below_trans HBW6.out hb5)
              clear hown5 hgr5 hat5
              refine hK.out _ _ (kB2 hb5 hS0) (fun hSn invn => ?_)
              try simp only [List.getElem_toArray, List.getElem_cons_zero, List.getElem_cons_succ, Act.put, List.setIfInBounds_toArray, List.set_cons_zero, List.set_cons_succ]
              clear hK K inv hS
              have inv := invn
              have hS := hSn
              clear invn hSn
              refine F_last (i := 12) (by kernel_rfl) rfl rfl (by omega) (by kernel_rfl) (fun K hK => ?_)
              go_simp
              refine hK _ _ ?_
              clear hK K inv hS
              go_wp2_with fail
              all_goals go_ret
              all_goals exact ⟨_, rfl, HSET.out, HBF.out⟩
            · go_simp
              obtain ⟨H1, hH1⟩ : ∃ H1, H1 = W6.heap.size + 1 := ⟨_, rfl⟩
              have hbx0 := hba.alloc hsa (.cells #[.int .i64 p.1, .int .i64 p.2] 91)
              have HRL1 := Lib.hid (HRL0.out.alloc (.cells #[.int .i64 p.1, .int .i64 p.2] 91))
              have HTK1 := Lib.hid ((HSD.out.below hbx0 hwW6).takeP (m := k) (by omega))
              have hs0x := hbx0.size
              have HLT0 := Lib.hid (show ((W6.drew.alloc (.cells #[] 91)).alloc (.cells #[.int .i64 p.1, .int .i64 p.2] 91)).heap[H1]? = some (.cells (cPr p).toArray 91 (0, 0)) by
                have h := heap_alloc_new (W6.drew.alloc (.cells #[] 91)) (.cells #[.int .i64 p.1, .int .i64 p.2] 91)
                rw [show (W6.drew.alloc (.cells #[] 91)).heap.size = H1 by rw [hH1]; simp] at h
                exact h)
              have hH1l : H1 < ((W6.drew.alloc (.cells #[] 91)).alloc (.cells #[.int .i64 p.1, .int .i64 p.2] 91)).heap.size := by rw [hH1]; simp
              rw [← hH1]
              have hH1n : H1 ≠ W6.drew.heap.size := by rw [hH1]; simp
              have HH1n := Lib.hid hH1n
              have HH1l := Lib.hid hH1l
              clear hH1 hH1n hH1l
              refine hK.out _ _ (kB2 hbx0 hS0) (fun hSn invn => ?_)
              try simp only [List.getElem_toArray, List.getElem_cons_zero, List.getElem_cons_succ, Act.put, List.setIfInBounds_toArray, List.set_cons_zero, List.set_cons_succ]
              clear hK K inv hS
              have inv := invn
              have hS := hSn
              clear invn hSn
              refine F_one (i := 4) (by kernel_rfl) rfl rfl (by omega) inv (fun K hK => ?_)
              try simp only [List.getElem_toArray, List.getElem_cons_zero, List.getElem_cons_succ]
              refine op_appendL cPr elPair cPr_len cPr_one _ _ (by rfl) W6.drew.heap.size _ [] (l.take k) (by rfl) HRL1.out lo w.heap.size _ (by rfl) HTK1.out (by simp; omega) (by omega) hs0x ?_
              intro va wa hra hga hata
              simp only [List.nil_append] at hra
              have hbx := hbx0.trans (own_below HRL1.out hs0x hga)
              have hbxs := hbx.size
              have HV := Lib.hid hra
              have HLIT := Lib.hid ((hga.block H1 HH1l.out (fun e => by injection e with e; exact HH1n.out e)).trans HLT0.out)
              clear hra hga hata
              refine hK.out _ _ (kB2 hbx hS0) (fun hSn invn => ?_)
              try simp only [List.getElem_toArray, List.getElem_cons_zero, List.getElem_cons_succ, Act.put, List.setIfInBounds_toArray, List.set_cons_zero, List.set_cons_succ]
              clear hK K inv hS
              have inv := invn
              have hS := hSn
              clear invn hSn
              refine F_one (i := 7) (by kernel_rfl) rfl rfl (by omega) inv (fun K hK => ?_)
              try simp only [List.getElem_toArray, List.getElem_cons_zero, List.getElem_cons_succ]
              refine op_append1 cPr elPair rfl _ _ (by rfl) W6.drew.heap.size va (l.take k) p _ H1 (by rfl) HV.out (by rfl) HLIT.out rfl (cPr_one _) (by omega) (by omega) hbxs ?_
              intro g2 cp2 w3 hown3 hgr3 hat3 hlt3
              have hb3 := hbx.trans (own_below HV.out hbxs hgr3)
              have HOW3 := Lib.hid hown3
              have hs3 := hb3.size
              have HSD3 := Lib.hid (HSD.out.dropQ (k := k) hb3 hwW6 (by omega) hlc)
              clear hown3 hgr3 hat3
              refine hK.out _ _ (kB2 hb3 hS0) (fun hSn invn => ?_)
              try simp only [List.getElem_toArray, List.getElem_cons_zero, List.getElem_cons_succ, Act.put, List.setIfInBounds_toArray, List.set_cons_zero, List.set_cons_succ]
              clear hK K inv hS
              have inv := invn
              have hS := hSn
              clear invn hSn
              refine F_one (i := 11) (by kernel_rfl) rfl rfl (by omega) inv (fun K hK => ?_)
              try simp only [List.getElem_toArray, List.getElem_cons_zero, List.getElem_cons_succ]
              refine op_appendL cPr elPair cPr_len cPr_one _ _ (by rfl) W6.drew.heap.size (.slice (some ⟨g2, 0, none⟩) ((l.take k).length + 1) cp2) (l.take k ++ [p]) (l.drop k) (by rfl) HOW3.out lo w.heap.size (.slice (if c = k then some ⟨g, 0, none⟩ else some ⟨g, k * 2, none⟩) (l.length - k) (c - k)) (by rfl) HSD3.out (by omega) (by omega) hs3 ?_
              intro v5 w5 hown5 hgr5 hat5
              have hb5 := hb3.trans (own_below (base := W6.drew.heap.size) HOW3.out hs3 hgr5)
              rw [show l.take k ++ [p] ++ l.drop k = R from HPUT.out.symm] at hown5
              obtain ⟨g5, c5, rfl, -, -, -, -⟩ := own_some hown5 (by have := HRL.out; omega)
              have HSET := Lib.hid (show SetR lo w5 (.slice (some ⟨g5, 0, none⟩) R.length c5) R from ⟨g5, c5, rfl, ownsRow_mono hown5 hloW⟩)
              have HBF := Lib.hid (below_trans HBW6.out hb5)
              clear hown5 hgr5 hat5
              refine hK.out _ _ (kB2 hb5 hS0) (fun hSn invn => ?_)
              try simp only [List.getElem_toArray, List.getElem_cons_zero, List.getElem_cons_succ, Act.put, List.setIfInBounds_toArray, List.set_cons_zero, List.set_cons_succ]
              clear hK K inv hS
              have inv := invn
              have hS := hSn
              clear invn hSn
              refine F_last (i := 12) (by kernel_rfl) rfl rfl (by omega) (by kernel_rfl) (fun K hK => ?_)
              go_simp
              refine hK _ _ ?_
              clear hK K inv hS
              go_wp2_with fail
              all_goals go_ret
              all_goals exact ⟨_, rfl, HSET.out, HBF.out⟩
          · go_simp
            obtain ⟨H1, hH1⟩ : ∃ H1, H1 = W6.heap.size := ⟨_, rfl⟩
            have hba := (Below.refl W6.drew.heap.size W6.drew).alloc (Nat.le_refl _) (.cells #[.int .i64 p.1, .int .i64 p.2] 91)
            have hsa := hba.size
            have hH1l : H1 < (W6.drew.alloc (.cells #[.int .i64 p.1, .int .i64 p.2] 91)).heap.size := by rw [hH1]; simp
            have HLT0 := Lib.hid (show (W6.drew.alloc (.cells #[.int .i64 p.1, .int .i64 p.2] 91)).heap[H1]? = some (.cells (cPr p).toArray 91 (0, 0)) by rw [hH1]; exact heap_alloc_new _ _)
            refine hK.out _ _ (kB2 hba hS0) (fun hSn invn => ?_)
            try simp only [List.getElem_toArray, List.getElem_cons_zero, List.getElem_cons_succ, Act.put, List.setIfInBounds_toArray, List.set_cons_zero, List.set_cons_succ]
            clear hK K inv hS
            have inv := invn
            have hS := hSn
            clear invn hSn
            refine F_one (i := 0) (by kernel_rfl) rfl rfl (by omega) inv (fun K hK => ?_)
            try simp only [List.getElem_toArray, List.getElem_cons_zero, List.getElem_cons_succ]
            go_simp
            have hbx0 := hba.alloc hsa (.cells #[] 91)
            have hrl := World.ownsRow_lit (base := W6.drew.heap.size) (e := 91) (size := 2) (W6.drew.alloc (.cells #[.int .i64 p.1, .int .i64 p.2] 91)) #[] 0 hsa (by decide) rfl
            rw [show (W6.drew.alloc (.cells #[.int .i64 p.1, .int .i64 p.2] 91)).heap.size = H1 + 1 by rw [hH1]; simp] at hrl
            have HRL1 := Lib.hid hrl
            clear hrl
            have HTK1 := Lib.hid ((HSD.out.below hbx0 hwW6).takeP (m := k) (by omega))
            have hs0x := hbx0.size
            have HLT1 := Lib.hid ((Below.heap_alloc _ (.cells #[] 91) H1 hH1l).trans HLT0.out)
            have HH1l := Lib.hid (Nat.lt_of_lt_of_le hH1l (show (W6.drew.alloc (.cells #[.int .i64 p.1, .int .i64 p.2] 91)).heap.size ≤ ((W6.drew.alloc (.cells #[.int .i64 p.1, .int .i64 p.2] 91)).alloc (.cells #[] 91)).heap.size by simp))
            have HH1n := Lib.hid (show H1 ≠ H1 + 1 by omega)
            rw [← hH1]
            clear hH1 hH1l
            refine hK.out _ _ (kB2 hbx0 hS0) (fun hSn invn => ?_)
            try simp only [List.getElem_toArray, List.getElem_cons_zero, List.getElem_cons_succ, Act.put, List.setIfInBounds_toArray, List.set_cons_zero, List.set_cons_succ]
            clear hK K inv hS
            have inv := invn
            have hS := hSn
            clear invn hSn
            refine F_one (i := 4) (by kernel_rfl) rfl rfl (by omega) inv (fun K hK => ?_)
            try simp only [List.getElem_toArray, List.getElem_cons_zero, List.getElem_cons_succ]
            refine op_appendL cPr elPair cPr_len cPr_one _ _ (by rfl) W6.drew.heap.size _ [] (l.take k) (by rfl) HRL1.out lo w.heap.size _ (by rfl) HTK1.out (by simp; omega) (by omega) hs0x ?_
            intro va wa hra hga hata
            simp only [List.nil_append] at hra
            have hbx := hbx0.trans (own_below HRL1.out hs0x hga)
            have hbxs := hbx.size
            have HV := Lib.hid hra
            have HLIT := Lib.hid ((hga.block H1 HH1l.out (fun e => by injection e with e; exact HH1n.out e)).trans HLT1.out)
            clear hra hga hata
            refine hK.out _ _ (kB2 hbx hS0) (fun hSn invn => ?_)
            try simp only [List.getElem_toArray, List.getElem_cons_zero, List.getElem_cons_succ, Act.put, List.setIfInBounds_toArray, List.set_cons_zero, List.set_cons_succ]
            clear hK K inv hS
            have inv := invn
            have hS := hSn
            clear invn hSn
            refine F_one (i := 7) (by kernel_rfl) rfl rfl (by omega) inv (fun K hK => ?_)
            try simp only [List.getElem_toArray, List.getElem_cons_zero, List.getElem_cons_succ]
            refine op_append1 cPr elPair rfl _ _ (by rfl) W6.drew.heap.size va (l.take k) p _ H1 (by rfl) HV.out (by rfl) HLIT.out rfl (cPr_one _) (by omega) (by omega) hbxs ?_
            intro g2 cp2 w3 hown3 hgr3 hat3 hlt3
            have hb3 := hbx.trans (own_below HV.out hbxs hgr3)
            have HOW3 := Lib.hid hown3
            have hs3 := hb3.size
            have HSD3 := Lib.hid (HSD.out.dropQ (k := k) hb3 hwW6 (by omega) hlc)
            clear hown3 hgr3 hat3
            refine hK.out _ _ (kB2 hb3 hS0) (fun hSn invn => ?_)
            try simp only [List.getElem_toArray, List.getElem_cons_zero, List.getElem_cons_succ, Act.put, List.setIfInBounds_toArray, List.set_cons_zero, List.set_cons_succ]
            clear hK K inv hS
            have inv := invn
            have hS := hSn
            clear invn hSn
            refine F_one (i := 11) (by kernel_rfl) rfl rfl (by omega) inv (fun K hK => ?_)
            try simp only [List.getElem_toArray, List.getElem_cons_zero, List.getElem_cons_succ]
            refine op_appendL cPr elPair cPr_len cPr_one _ _ (by rfl) W6.drew.heap.size (.slice (some ⟨g2, 0, none⟩) ((l.take k).length + 1) cp2) (l.take k ++ [p]) (l.drop k) (by rfl) HOW3.out lo w.heap.size (.slice (if c = k then some ⟨g, 0, none⟩ else some ⟨g, k * 2, none⟩) (l.length - k) (c - k)) (by rfl) HSD3.out (by omega) (by omega) hs3 ?_
            intro v5 w5 hown5 hgr5 hat5
            have hb5 := hb3.trans (own_below (base := W6.drew.heap.size) HOW3.out hs3 hgr5)
            rw [show l.take k ++ [p] ++ l.drop k = R from HPUT.out.symm] at hown5
            obtain ⟨g5, c5, rfl, -, -, -, -⟩ := own_some hown5 (by have := HRL.out; omega)
            have HSET := Lib.hid (show SetR lo w5 (.slice (some ⟨g5, 0, none⟩) R.length c5) R from ⟨g5, c5, rfl, ownsRow_mono hown5 hloW⟩)
            have HBF := Lib.hid (below_trans HBW6.out hb5)
            clear hown5 hgr5 hat5
            refine hK.out _ _ (kB2 hb5 hS0) (fun hSn invn => ?_)
            try simp only [List.getElem_toArray, List.getElem_cons_zero, List.getElem_cons_succ, Act.put, List.setIfInBounds_toArray, List.set_cons_zero, List.set_cons_succ]
            clear hK K inv hS
            have inv := invn
            have hS := hSn
            clear invn hSn
            refine F_last (i := 12) (by kernel_rfl) rfl rfl (by omega) (by kernel_rfl) (fun K hK => ?_)
            go_simp
            refine hK _ _ ?_
            clear hK K inv hS
            go_wp2_with fail
            all_goals go_ret
            all_goals exact ⟨_, rfl, HSET.out, HBF.out⟩
    · have hkl0 : k = l.length := by omega
      have hput := putP_at (l := l) (p := p) (k := k) (by omega) HALL.out (fun y hy => by rw [hkl0, List.getElem?_eq_none (Nat.le_refl _)] at hy; cases hy)
      rw [show l[k]? = none by rw [hkl0, List.getElem?_eq_none (Nat.le_refl _)], if_neg (by simp)] at hput
      have HPUT := Lib.hid (show R = l.take k ++ [p] ++ l.drop k from HR.out.trans hput)
      have hdk : decide ((k : Int) < (l.length : Int)) = false := by simp; omega
      clear hput HALL HR hkl0
      go_wp2_with fail
      refine wp_region_ext_lit (by kernel_rfl) (by kernel_rfl) ?_
      repeat (go_big_quiet_step (fail))
      refine wpQuiet_nil ?_
      intro _ hw'
      obtain ⟨u2, hw''⟩ := hw'
      subst hw''
      obtain ⟨u4, hu4⟩ := ext_ext W0 u u2
      rw [hu4]
      clear hu4
      go_wp2_with fail
      refine wp_region_ext_lit (by kernel_rfl) (by kernel_rfl) ?_
      repeat (go_big_quiet_step (fail))
      refine wpQuiet_nil ?_
      intro _ hw'
      obtain ⟨u3, hw''⟩ := hw'
      subst hw''
      clear hdk
      obtain ⟨W6, hW6⟩ : ∃ W6, W6 = (ext (ext W0 u4) u3) := ⟨_, rfl⟩
      have hb6 : Below W0.heap.size W0 W6 := by rw [hW6]; exact (below_trans (ext_below _ _) (ext_below _ _))
      rw [← hW6]
      clear hW6
      have x0 := kcell hb6 x0
      have x1 := kcell hb6 x1
      have l6 := Nat.lt_of_lt_of_le l0 hb6.size
      have HSD := Lib.hid (show SlI lo w.heap.size W6.drew cPr 2 (.slice (some ⟨g, 0, none⟩) l.length c) l from HSL.out.below hb6.drew (by omega))
      have HBW6 := Lib.hid (show Below w.heap.size w W6.drew from (below_trans hb0 hb6).drew)
      have hwW6 : w.heap.size ≤ W6.drew.heap.size := HBW6.out.size
      have hloW : lo ≤ W6.drew.heap.size := by omega
      have hkl : (k : Int) ≤ (l.length : Int) := by omega
      have hkc : (k : Int) ≤ (c : Int) := by omega
      have htl : (l.take k).length ≤ l.length := by rw [List.length_take]; omega
      have hdl : (l.drop k).length ≤ l.length := by rw [List.length_drop]; omega
      have htd : (l.take k ++ [p]).length ≤ l.length + 1 := by rw [List.length_append]; simp only [List.length_cons, List.length_nil]; omega
      have HRL := Lib.hid (show R.length ≠ 0 by rw [HPUT.out]; simp)
      clear HSL HROW hb0 hb6
      go_wp2_with fail
      have hS1 := HSD.out
      clear hS1
      refine F_start 12 (fun w' => w'.cell? ⟨w.heap.size, 0, none⟩ = some (.int .i64 p.1) ∧ w'.cell? ⟨w.heap.size, 1, none⟩ = some (.int .i64 p.2)) (by kernel_rfl) (by exact ⟨x0, x1⟩) (fun hS inv => ?_)
      refine F_take (i := 1) (v := ?_) rfl (by kernel_rfl) (by kernel_rfl) (by kernel_rfl) (fun _ _ _ h => h) inv (Or.inl ⟨by rfl, ?_⟩) (by assumption) (fun invn => ?_)
      rotate_left
      · (intro w hSw; (try dsimp only at hSw); go_simp; try with_reducible rfl)
      try simp only [List.getElem_toArray, List.getElem_cons_zero, List.getElem_cons_succ, Act.put, List.setIfInBounds_toArray, List.set_cons_zero, List.set_cons_succ]
      clear inv
      have inv := invn
      clear invn
      refine F_take (i := 2) (v := ?_) rfl (by kernel_rfl) (by kernel_rfl) (by kernel_rfl) (fun _ _ _ h => h) inv (Or.inl ⟨by rfl, ?_⟩) (by assumption) (fun invn => ?_)
      rotate_left
      · (intro w hSw; (try dsimp only at hSw); go_simp; try with_reducible rfl)
      try simp only [List.getElem_toArray, List.getElem_cons_zero, List.getElem_cons_succ, Act.put, List.setIfInBounds_toArray, List.set_cons_zero, List.set_cons_succ]
      clear inv
      have inv := invn
      clear invn
      refine F_take (i := 3) (v := ?_) rfl (by kernel_rfl) (by kernel_rfl) (by kernel_rfl) (fun _ _ _ h => h) inv (Or.inl ⟨by rfl, ?_⟩) (by assumption) (fun invn => ?_)
      rotate_left
      · (intro w hSw; (try dsimp only at hSw); go_simp; try with_reducible rfl)
      try simp only [List.getElem_toArray, List.getElem_cons_zero, List.getElem_cons_succ, Act.put, List.setIfInBounds_toArray, List.set_cons_zero, List.set_cons_succ]
      clear inv
      have inv := invn
      clear invn
      refine F_take (i := 5) (v := ?_) rfl (by kernel_rfl) (by kernel_rfl) (by kernel_rfl) (fun _ _ _ h => h) inv (Or.inl ⟨by rfl, ?_⟩) (by assumption) (fun invn => ?_)
      rotate_left
      · (intro w hSw; (try dsimp only at hSw); go_simp; try with_reducible rfl)
      try simp only [List.getElem_toArray, List.getElem_cons_zero, List.getElem_cons_succ, Act.put, List.setIfInBounds_toArray, List.set_cons_zero, List.set_cons_succ]
      clear inv
      have inv := invn
      clear invn
      refine F_take (i := 8) (v := ?_) rfl (by kernel_rfl) (by kernel_rfl) (by kernel_rfl) (fun _ _ _ h => h) inv (Or.inl ⟨by rfl, ?_⟩) (by assumption) (fun invn => ?_)
      rotate_left
      · (intro w hSw; (try dsimp only at hSw); go_simp; try with_reducible rfl)
      try simp only [List.getElem_toArray, List.getElem_cons_zero, List.getElem_cons_succ, Act.put, List.setIfInBounds_toArray, List.set_cons_zero, List.set_cons_succ]
      clear inv
      have inv := invn
      clear invn
      refine F_take (i := 9) (v := ?_) rfl (by kernel_rfl) (by kernel_rfl) (by kernel_rfl) (fun _ _ _ h => h) inv (Or.inl ⟨by rfl, ?_⟩) (by assumption) (fun invn => ?_)
      rotate_left
      · (intro w hSw; (try dsimp only at hSw); go_simp; try with_reducible rfl)
      try simp only [List.getElem_toArray, List.getElem_cons_zero, List.getElem_cons_succ, Act.put, List.setIfInBounds_toArray, List.set_cons_zero, List.set_cons_succ]
      clear inv
      have inv := invn
      clear invn
      refine F_take (i := 10) (v := ?_) rfl (by kernel_rfl) (by kernel_rfl) (by kernel_rfl) (fun _ _ _ h => h) inv (Or.inl ⟨by rfl, ?_⟩) (by assumption) (fun invn => ?_)
      rotate_left
      · (intro w hSw; (try dsimp only at hSw); go_simp; try with_reducible rfl)
      try simp only [List.getElem_toArray, List.getElem_cons_zero, List.getElem_cons_succ, Act.put, List.setIfInBounds_toArray, List.set_cons_zero, List.set_cons_succ]
      clear inv
      have inv := invn
      clear invn
      have hS0 := hS
      refine F_two (i := 0) (j := 6) (by kernel_rfl) rfl rfl rfl rfl (by omega) inv (fun K hK => ?_) (fun K hK => ?_)
      all_goals (try simp only [List.getElem_toArray, List.getElem_cons_zero, List.getElem_cons_succ])
      · go_simp
        have hba := (Below.refl W6.drew.heap.size W6.drew).alloc (Nat.le_refl _) (.cells #[] 91)
        have hrow := World.ownsRow_lit (base := W6.drew.heap.size) (e := 91) (size := 2) W6.drew #[] 0 (Nat.le_refl _) (by decide) rfl
        have hsa := hba.size
        have HRL0 := Lib.hid hrow
        have HTK := Lib.hid ((HSD.out.below hba hwW6).takeP (m := k) (by omega))
        clear hrow
        refine hK.out _ _ (kB2 hba hS0) (fun hSn invn => ?_)
        try simp only [List.getElem_toArray, List.getElem_cons_zero, List.getElem_cons_succ, Act.put, List.setIfInBounds_toArray, List.set_cons_zero, List.set_cons_succ]
        clear hK K inv hS
        have inv := invn
        have hS := hSn
        clear invn hSn
        refine F_two (i := 4) (j := 6) (by kernel_rfl) rfl rfl rfl rfl (by omega) inv (fun K hK => ?_) (fun K hK => ?_)
        all_goals (try simp only [List.getElem_toArray, List.getElem_cons_zero, List.getElem_cons_succ])
        · refine op_appendL cPr elPair cPr_len cPr_one _ _ (by rfl) W6.drew.heap.size _ [] (l.take k) (by rfl) HRL0.out lo w.heap.size _ (by rfl) HTK.out (by simp; omega) (by omega) hsa ?_
          intro va wa hra hga hata
          simp only [List.nil_append] at hra
          have hbb := hba.trans (own_below HRL0.out hsa hga)
          have hbx := hbb.alloc hbb.size (.cells #[.int .i64 p.1, .int .i64 p.2] 91)
          have hbxs := hbx.size
          have HV := Lib.hid (hra.alloc (.cells #[.int .i64 p.1, .int .i64 p.2] 91))
          obtain ⟨H1, hH1⟩ : ∃ H1, H1 = wa.heap.size := ⟨_, rfl⟩
          have HLIT := Lib.hid (show (wa.alloc (.cells #[.int .i64 p.1, .int .i64 p.2] 91)).heap[H1]? = some (.cells (cPr p).toArray 91 (0, 0)) by rw [hH1]; exact heap_alloc_new _ _)
          clear hra hga hata
          refine hK.out _ _ (kB2 hbb hS0) (fun hSn invn => ?_)
          try simp only [List.getElem_toArray, List.getElem_cons_zero, List.getElem_cons_succ, Act.put, List.setIfInBounds_toArray, List.set_cons_zero, List.set_cons_succ]
          clear hK K inv hS
          have inv := invn
          have hS := hSn
          clear invn hSn
          refine F_one (i := 6) (by kernel_rfl) rfl rfl (by omega) inv (fun K hK => ?_)
          try simp only [List.getElem_toArray, List.getElem_cons_zero, List.getElem_cons_succ]
          go_simp
          rw [← hH1]
          refine hK.out _ _ (kB2 hbx hS0) (fun hSn invn => ?_)
          try simp only [List.getElem_toArray, List.getElem_cons_zero, List.getElem_cons_succ, Act.put, List.setIfInBounds_toArray, List.set_cons_zero, List.set_cons_succ]
          clear hK K inv hS
          have inv := invn
          have hS := hSn
          clear invn hSn
          clear hH1
          refine F_one (i := 7) (by kernel_rfl) rfl rfl (by omega) inv (fun K hK => ?_)
          try simp only [List.getElem_toArray, List.getElem_cons_zero, List.getElem_cons_succ]
          refine op_append1 cPr elPair rfl _ _ (by rfl) W6.drew.heap.size va (l.take k) p _ H1 (by rfl) HV.out (by rfl) HLIT.out rfl (cPr_one _) (by omega) (by omega) hbxs ?_
          intro g2 cp2 w3 hown3 hgr3 hat3 hlt3
          have hb3 := hbx.trans (own_below HV.out hbxs hgr3)
          have HOW3 := Lib.hid hown3
          have hs3 := hb3.size
          have HSD3 := Lib.hid (HSD.out.dropQ (k := k) hb3 hwW6 (by omega) hlc)
          clear hown3 hgr3 hat3
          refine hK.out _ _ (kB2 hb3 hS0) (fun hSn invn => ?_)
          try simp only [List.getElem_toArray, List.getElem_cons_zero, List.getElem_cons_succ, Act.put, List.setIfInBounds_toArray, List.set_cons_zero, List.set_cons_succ]
          clear hK K inv hS
          have inv := invn
          have hS := hSn
          clear invn hSn
          refine F_one (i := 11) (by kernel_rfl) rfl rfl (by omega) inv (fun K hK => ?_)
          try simp only [List.getElem_toArray, List.getElem_cons_zero, List.getElem_cons_succ]
          refine op_appendL cPr elPair cPr_len cPr_one _ _ (by rfl) W6.drew.heap.size (.slice (some ⟨g2, 0, none⟩) ((l.take k).length + 1) cp2) (l.take k ++ [p]) (l.drop k) (by rfl) HOW3.out lo w.heap.size (.slice (if c = k then some ⟨g, 0, none⟩ else some ⟨g, k * 2, none⟩) (l.length - k) (c - k)) (by rfl) HSD3.out (by omega) (by omega) hs3 ?_
          intro v5 w5 hown5 hgr5 hat5
          have hb5 := hb3.trans (own_below (base := W6.drew.heap.size) HOW3.out hs3 hgr5)
          rw [show l.take k ++ [p] ++ l.drop k = R from HPUT.out.symm] at hown5
          obtain ⟨g5, c5, rfl, -, -, -, -⟩ := own_some hown5 (by have := HRL.out; omega)
          have HSET := Lib.hid (show SetR lo w5 (.slice (some ⟨g5, 0, none⟩) R.length c5) R from ⟨g5, c5, rfl, ownsRow_mono hown5 hloW⟩)
          have HBF := Lib.hid (below_trans HBW6.out hb5)
          clear hown5 hgr5 hat5
          refine hK.out _ _ (kB2 hb5 hS0) (fun hSn invn => ?_)
          try simp only [List.getElem_toArray, List.getElem_cons_zero, List.getElem_cons_succ, Act.put, List.setIfInBounds_toArray, List.set_cons_zero, List.set_cons_succ]
          clear hK K inv hS
          have inv := invn
          have hS := hSn
          clear invn hSn
          refine F_last (i := 12) (by kernel_rfl) rfl rfl (by omega) (by kernel_rfl) (fun K hK => ?_)
          go_simp
          refine hK _ _ ?_
          clear hK K inv hS
          go_wp2_with fail
          all_goals go_ret
          all_goals exact ⟨_, rfl, HSET.out, HBF.out⟩
        · go_simp
          obtain ⟨H1, hH1⟩ : ∃ H1, H1 = W6.heap.size + 1 := ⟨_, rfl⟩
          have hbx0 := hba.alloc hsa (.cells #[.int .i64 p.1, .int .i64 p.2] 91)
          have HRL1 := Lib.hid (HRL0.out.alloc (.cells #[.int .i64 p.1, .int .i64 p.2] 91))
          have HTK1 := Lib.hid ((HSD.out.below hbx0 hwW6).takeP (m := k) (by omega))
          have hs0x := hbx0.size
          have HLT0 := Lib.hid (show ((W6.drew.alloc (.cells #[] 91)).alloc (.cells #[.int .i64 p.1, .int .i64 p.2] 91)).heap[H1]? = some (.cells (cPr p).toArray 91 (0, 0)) by
            have h := heap_alloc_new (W6.drew.alloc (.cells #[] 91)) (.cells #[.int .i64 p.1, .int .i64 p.2] 91)
            rw [show (W6.drew.alloc (.cells #[] 91)).heap.size = H1 by rw [hH1]; simp] at h
            exact h)
          have hH1l : H1 < ((W6.drew.alloc (.cells #[] 91)).alloc (.cells #[.int .i64 p.1, .int .i64 p.2] 91)).heap.size := by rw [hH1]; simp
          rw [← hH1]
          have hH1n : H1 ≠ W6.drew.heap.size := by rw [hH1]; simp
          have HH1n := Lib.hid hH1n
          have HH1l := Lib.hid hH1l
          clear hH1 hH1n hH1l
          refine hK.out _ _ (kB2 hbx0 hS0) (fun hSn invn => ?_)
          try simp only [List.getElem_toArray, List.getElem_cons_zero, List.getElem_cons_succ, Act.put, List.setIfInBounds_toArray, List.set_cons_zero, List.set_cons_succ]
          clear hK K inv hS
          have inv := invn
          have hS := hSn
          clear invn hSn
          refine F_one (i := 4) (by kernel_rfl) rfl rfl (by omega) inv (fun K hK => ?_)
          try simp only [List.getElem_toArray, List.getElem_cons_zero, List.getElem_cons_succ]
          refine op_appendL cPr elPair cPr_len cPr_one _ _ (by rfl) W6.drew.heap.size _ [] (l.take k) (by rfl) HRL1.out lo w.heap.size _ (by rfl) HTK1.out (by simp; omega) (by omega) hs0x ?_
          intro va wa hra hga hata
          simp only [List.nil_append] at hra
          have hbx := hbx0.trans (own_below HRL1.out hs0x hga)
          have hbxs := hbx.size
          have HV := Lib.hid hra
          have HLIT := Lib.hid ((hga.block H1 HH1l.out (fun e => by injection e with e; exact HH1n.out e)).trans HLT0.out)
          clear hra hga hata
          refine hK.out _ _ (kB2 hbx hS0) (fun hSn invn => ?_)
          try simp only [List.getElem_toArray, List.getElem_cons_zero, List.getElem_cons_succ, Act.put, List.setIfInBounds_toArray, List.set_cons_zero, List.set_cons_succ]
          clear hK K inv hS
          have inv := invn
          have hS := hSn
          clear invn hSn
          refine F_one (i := 7) (by kernel_rfl) rfl rfl (by omega) inv (fun K hK => ?_)
          try simp only [List.getElem_toArray, List.getElem_cons_zero, List.getElem_cons_succ]
          refine op_append1 cPr elPair rfl _ _ (by rfl) W6.drew.heap.size va (l.take k) p _ H1 (by rfl) HV.out (by rfl) HLIT.out rfl (cPr_one _) (by omega) (by omega) hbxs ?_
          intro g2 cp2 w3 hown3 hgr3 hat3 hlt3
          have hb3 := hbx.trans (own_below HV.out hbxs hgr3)
          have HOW3 := Lib.hid hown3
          have hs3 := hb3.size
          have HSD3 := Lib.hid (HSD.out.dropQ (k := k) hb3 hwW6 (by omega) hlc)
          clear hown3 hgr3 hat3
          refine hK.out _ _ (kB2 hb3 hS0) (fun hSn invn => ?_)
          try simp only [List.getElem_toArray, List.getElem_cons_zero, List.getElem_cons_succ, Act.put, List.setIfInBounds_toArray, List.set_cons_zero, List.set_cons_succ]
          clear hK K inv hS
          have inv := invn
          have hS := hSn
          clear invn hSn
          refine F_one (i := 11) (by kernel_rfl) rfl rfl (by omega) inv (fun K hK => ?_)
          try simp only [List.getElem_toArray, List.getElem_cons_zero, List.getElem_cons_succ]
          refine op_appendL cPr elPair cPr_len cPr_one _ _ (by rfl) W6.drew.heap.size (.slice (some ⟨g2, 0, none⟩) ((l.take k).length + 1) cp2) (l.take k ++ [p]) (l.drop k) (by rfl) HOW3.out lo w.heap.size (.slice (if c = k then some ⟨g, 0, none⟩ else some ⟨g, k * 2, none⟩) (l.length - k) (c - k)) (by rfl) HSD3.out (by omega) (by omega) hs3 ?_
          intro v5 w5 hown5 hgr5 hat5
          have hb5 := hb3.trans (own_below (base := W6.drew.heap.size) HOW3.out hs3 hgr5)
          rw [show l.take k ++ [p] ++ l.drop k = R from HPUT.out.symm] at hown5
          obtain ⟨g5, c5, rfl, -, -, -, -⟩ := own_some hown5 (by have := HRL.out; omega)
          have HSET := Lib.hid (show SetR lo w5 (.slice (some ⟨g5, 0, none⟩) R.length c5) R from ⟨g5, c5, rfl, ownsRow_mono hown5 hloW⟩)
          have HBF := Lib.hid (below_trans HBW6.out hb5)
          clear hown5 hgr5 hat5
          refine hK.out _ _ (kB2 hb5 hS0) (fun hSn invn => ?_)
          try simp only [List.getElem_toArray, List.getElem_cons_zero, List.getElem_cons_succ, Act.put, List.setIfInBounds_toArray, List.set_cons_zero, List.set_cons_succ]
          clear hK K inv hS
          have inv := invn
          have hS := hSn
          clear invn hSn
          refine F_last (i := 12) (by kernel_rfl) rfl rfl (by omega) (by kernel_rfl) (fun K hK => ?_)
          go_simp
          refine hK _ _ ?_
          clear hK K inv hS
          go_wp2_with fail
          all_goals go_ret
          all_goals exact ⟨_, rfl, HSET.out, HBF.out⟩
      · go_simp
        obtain ⟨H1, hH1⟩ : ∃ H1, H1 = W6.heap.size := ⟨_, rfl⟩
        have hba := (Below.refl W6.drew.heap.size W6.drew).alloc (Nat.le_refl _) (.cells #[.int .i64 p.1, .int .i64 p.2] 91)
        have hsa := hba.size
        have hH1l : H1 < (W6.drew.alloc (.cells #[.int .i64 p.1, .int .i64 p.2] 91)).heap.size := by rw [hH1]; simp
        have HLT0 := Lib.hid (show (W6.drew.alloc (.cells #[.int .i64 p.1, .int .i64 p.2] 91)).heap[H1]? = some (.cells (cPr p).toArray 91 (0, 0)) by rw [hH1]; exact heap_alloc_new _ _)
        refine hK.out _ _ (kB2 hba hS0) (fun hSn invn => ?_)
        try simp only [List.getElem_toArray, List.getElem_cons_zero, List.getElem_cons_succ, Act.put, List.setIfInBounds_toArray, List.set_cons_zero, List.set_cons_succ]
        clear hK K inv hS
        have inv := invn
        have hS := hSn
        clear invn hSn
        refine F_one (i := 0) (by kernel_rfl) rfl rfl (by omega) inv (fun K hK => ?_)
        try simp only [List.getElem_toArray, List.getElem_cons_zero, List.getElem_cons_succ]
        go_simp
        have hbx0 := hba.alloc hsa (.cells #[] 91)
        have hrl := World.ownsRow_lit (base := W6.drew.heap.size) (e := 91) (size := 2) (W6.drew.alloc (.cells #[.int .i64 p.1, .int .i64 p.2] 91)) #[] 0 hsa (by decide) rfl
        rw [show (W6.drew.alloc (.cells #[.int .i64 p.1, .int .i64 p.2] 91)).heap.size = H1 + 1 by rw [hH1]; simp] at hrl
        have HRL1 := Lib.hid hrl
        clear hrl
        have HTK1 := Lib.hid ((HSD.out.below hbx0 hwW6).takeP (m := k) (by omega))
        have hs0x := hbx0.size
        have HLT1 := Lib.hid ((Below.heap_alloc _ (.cells #[] 91) H1 hH1l).trans HLT0.out)
        have HH1l := Lib.hid (Nat.lt_of_lt_of_le hH1l (show (W6.drew.alloc (.cells #[.int .i64 p.1, .int .i64 p.2] 91)).heap.size ≤ ((W6.drew.alloc (.cells #[.int .i64 p.1, .int .i64 p.2] 91)).alloc (.cells #[] 91)).heap.size by simp))
        have HH1n := Lib.hid (show H1 ≠ H1 + 1 by omega)
        rw [← hH1]
        clear hH1 hH1l
        refine hK.out _ _ (kB2 hbx0 hS0) (fun hSn invn => ?_)
        try simp only [List.getElem_toArray, List.getElem_cons_zero, List.getElem_cons_succ, Act.put, List.setIfInBounds_toArray, List.set_cons_zero, List.set_cons_succ]
        clear hK K inv hS
        have inv := invn
        have hS := hSn
        clear invn hSn
        refine F_one (i := 4) (by kernel_rfl) rfl rfl (by omega) inv (fun K hK => ?_)
        try simp only [List.getElem_toArray, List.getElem_cons_zero, List.getElem_cons_succ]
        refine op_appendL cPr elPair cPr_len cPr_one _ _ (by rfl) W6.drew.heap.size _ [] (l.take k) (by rfl) HRL1.out lo w.heap.size _ (by rfl) HTK1.out (by simp; omega) (by omega) hs0x ?_
        intro va wa hra hga hata
        simp only [List.nil_append] at hra
        have hbx := hbx0.trans (own_below HRL1.out hs0x hga)
        have hbxs := hbx.size
        have HV := Lib.hid hra
        have HLIT := Lib.hid ((hga.block H1 HH1l.out (fun e => by injection e with e; exact HH1n.out e)).trans HLT1.out)
        clear hra hga hata
        refine hK.out _ _ (kB2 hbx hS0) (fun hSn invn => ?_)
        try simp only [List.getElem_toArray, List.getElem_cons_zero, List.getElem_cons_succ, Act.put, List.setIfInBounds_toArray, List.set_cons_zero, List.set_cons_succ]
        clear hK K inv hS
        have inv := invn
        have hS := hSn
        clear invn hSn
        refine F_one (i := 7) (by kernel_rfl) rfl rfl (by omega) inv (fun K hK => ?_)
        try simp only [List.getElem_toArray, List.getElem_cons_zero, List.getElem_cons_succ]
        refine op_append1 cPr elPair rfl _ _ (by rfl) W6.drew.heap.size va (l.take k) p _ H1 (by rfl) HV.out (by rfl) HLIT.out rfl (cPr_one _) (by omega) (by omega) hbxs ?_
        intro g2 cp2 w3 hown3 hgr3 hat3 hlt3
        have hb3 := hbx.trans (own_below HV.out hbxs hgr3)
        have HOW3 := Lib.hid hown3
        have hs3 := hb3.size
        have HSD3 := Lib.hid (HSD.out.dropQ (k := k) hb3 hwW6 (by omega) hlc)
        clear hown3 hgr3 hat3
        refine hK.out _ _ (kB2 hb3 hS0) (fun hSn invn => ?_)
        try simp only [List.getElem_toArray, List.getElem_cons_zero, List.getElem_cons_succ, Act.put, List.setIfInBounds_toArray, List.set_cons_zero, List.set_cons_succ]
        clear hK K inv hS
        have inv := invn
        have hS := hSn
        clear invn hSn
        refine F_one (i := 11) (by kernel_rfl) rfl rfl (by omega) inv (fun K hK => ?_)
        try simp only [List.getElem_toArray, List.getElem_cons_zero, List.getElem_cons_succ]
        refine op_appendL cPr elPair cPr_len cPr_one _ _ (by rfl) W6.drew.heap.size (.slice (some ⟨g2, 0, none⟩) ((l.take k).length + 1) cp2) (l.take k ++ [p]) (l.drop k) (by rfl) HOW3.out lo w.heap.size (.slice (if c = k then some ⟨g, 0, none⟩ else some ⟨g, k * 2, none⟩) (l.length - k) (c - k)) (by rfl) HSD3.out (by omega) (by omega) hs3 ?_
        intro v5 w5 hown5 hgr5 hat5
        have hb5 := hb3.trans (own_below (base := W6.drew.heap.size) HOW3.out hs3 hgr5)
        rw [show l.take k ++ [p] ++ l.drop k = R from HPUT.out.symm] at hown5
        obtain ⟨g5, c5, rfl, -, -, -, -⟩ := own_some hown5 (by have := HRL.out; omega)
        have HSET := Lib.hid (show SetR lo w5 (.slice (some ⟨g5, 0, none⟩) R.length c5) R from ⟨g5, c5, rfl, ownsRow_mono hown5 hloW⟩)
        have HBF := Lib.hid (below_trans HBW6.out hb5)
        clear hown5 hgr5 hat5
        refine hK.out _ _ (kB2 hb5 hS0) (fun hSn invn => ?_)
        try simp only [List.getElem_toArray, List.getElem_cons_zero, List.getElem_cons_succ, Act.put, List.setIfInBounds_toArray, List.set_cons_zero, List.set_cons_succ]
        clear hK K inv hS
        have inv := invn
        have hS := hSn
        clear invn hSn
        refine F_last (i := 12) (by kernel_rfl) rfl rfl (by omega) (by kernel_rfl) (fun K hK => ?_)
        go_simp
        refine hK _ _ ?_
        clear hK K inv hS
        go_wp2_with fail
        all_goals go_ret
        all_goals exact ⟨_, rfl, HSET.out, HBF.out⟩
end Go.Proofs.Ytbkaoghlkdbofaa

/- The reference's InvertRelation and ComposeRelations. -/
namespace Go.Proofs.Ytbkaoghlkdbofaa
set_option linter.unusedVariables false
set_option linter.unusedSimpArgs false
open Go.ChangeShapes Go.WideShapes Go.ChangeAt Go.RowKit
attribute [local go_sem] ext_cell ext_frozen ext_lt ext_lt1 ext_lt2 ext_lt3 ltn2 ltn3 ltn13 lts1 lts2 lts3

theorem take_mapS {α β : Type} {f : α → β} {xs : List α} {i : Nat} {x : α} (h : xs[i]? = some x) : (xs.take (i + 1)).map f = (xs.take i).map f ++ [f x] := by rw [take_snoc h, List.map_append]; rfl

def compAt (a b : List Pr) (i j : Nat) : List Pr := compL (a.take i) b ++ compRow (a.getD i (0, 0)) (b.take j)
theorem compRow_yes {p q : Pr} {b : List Pr} {j : Nat} (h : b[j]? = some q) (he : p.2 = q.1) : compRow p (b.take (j + 1)) = compRow p (b.take j) ++ [(p.1, q.2)] := by
  simp [compRow, take_snoc h, List.filter_append, he]
theorem compRow_no {p q : Pr} {b : List Pr} {j : Nat} (h : b[j]? = some q) (he : ¬ p.2 = q.1) : compRow p (b.take (j + 1)) = compRow p (b.take j) := by
  simp [compRow, take_snoc h, List.filter_append, he]
theorem compL_take {a b : List Pr} {i : Nat} {p : Pr} (h : a[i]? = some p) : compL (a.take (i + 1)) b = compL (a.take i) b ++ compRow p b := by
  simp [compL, take_snoc h]
theorem compRow_len (p : Pr) (b : List Pr) (j : Nat) : (compRow p (b.take j)).length ≤ b.length := by
  unfold compRow
  rw [List.length_map]
  refine Nat.le_trans (List.length_filter_le _ _) ?_
  rw [List.length_take]; omega
theorem compL_len (a b : List Pr) : (compL a b).length ≤ a.length * b.length := by
  induction a with
  | nil => simp [compL]
  | cons p a ih =>
    have h := compRow_len p b b.length
    rw [List.take_length] at h
    simp only [compL, List.flatMap_cons, List.length_append, List.length_cons] at *
    rw [Nat.succ_mul]; omega
end Go.Proofs.Ytbkaoghlkdbofaa

/- The reference's LetterRelation. -/
namespace Go.Proofs.Ytbkaoghlkdbofaa
set_option linter.unusedVariables false
set_option linter.unusedSimpArgs false
open Go.ChangeShapes Go.WideShapes Go.ChangeAt Go.RowKit
attribute [local go_sem] ext_cell ext_frozen ext_lt ext_lt1 ext_lt2 ext_lt3 ltn2 ltn3 ltn13 lts1 lts2 lts3

set_option maxHeartbeats 4000000 in
set_option maxRecDepth 100000 in
theorem specLetter (v : Value) (g : Gr) (lt : Int) (w : World) (hv : GrV 0 w.heap.size w v g) :
    Calls Try.prog 16 #[v, .int .i64 lt] w fun e w' => ∃ v', e = .returned v' ∧ Own w.heap.size w'.heap.size w' 91 cPr 2 v' (letterL g lt) ∧ Below w.heap.size w w' := by
  have hvo := hv
  obtain ⟨vs, es, rfl, ⟨A1, c1, rfl, hl1, hm1, hC1⟩, ⟨A2, c2, rfl, hl2, hm2, hC2⟩⟩ := hv
  unfold maxLen at hm1 hm2
  obtain ⟨Wb, hWb⟩ : ∃ Wb, Wb = w.alloc (.cells #[.slice A1 g.vals.length c1, .slice A2 g.edges.length c2] 31) := ⟨_, rfl⟩
  have hbb : Below w.heap.size w Wb := by rw [hWb]; exact (Below.refl _ _).alloc (Nat.le_refl _) _
  have hWs : Wb.heap.size = w.heap.size + 1 := by rw [hWb]; simp
  obtain ⟨W0, hW0⟩ : ∃ W0, W0 = Wb.alloc (.cells #[] 91) := ⟨_, rfl⟩
  have hb0 : Below w.heap.size w W0 := by rw [hW0]; exact hbb.alloc (by omega) _
  have hs0 : SetR w.heap.size W0 (.slice (some ⟨w.heap.size + 1, 0, none⟩) 0 0) [] := by
    rw [hW0, ← hWs]
    exact SetR.lit Wb _ (by omega)
  have hbl : Blk W0 w.heap.size 31 #[.slice A1 g.vals.length c1, .slice A2 g.edges.length c2] := by
    rw [hW0, hWb]
    exact (Blk.new w _ _ w.heap.size rfl).alloc _
  have hvg := specValidGraph _ g W0 (hvo.keep hb0)
  have HGV := Lib.hid hvo
  have HB0 := Lib.hid hb0
  have HS0 := Lib.hid hs0
  have HBL := Lib.hid hbl
  have HC2 := Lib.hid hC2
  have HSW := Lib.hid (show W0 = (w.alloc (.cells #[.slice A1 g.vals.length c1, .slice A2 g.edges.length c2] 31)).alloc (.cells #[] 91) by rw [hW0, hWb])
  have hsz0 := hb0.size
  clear hb0 hs0 hbl hbb hW0 hWb hWs hvo hC1 hC2
  cases hgk : grOk g with
  | false =>
    rw [hgk] at hvg
    have HVG := Lib.hid hvg
    have HE := Lib.hid (show letterL g lt = [] by simp [letterL, hgk])
    clear hvg hgk
    rw [HE.out]
    go_enter Try.func16, Try.ntmps16
    go_wp2_with fail
    rw [← HSW.out]
    refine HVG.out.mono ?_
    rintro e w2 ⟨rfl, hb2⟩
    have HO := Lib.hid ((HS0.out.below hb2).own)
    have HB := Lib.hid (below_trans HB0.out hb2)
    clear hb2
    go_wp2_with fail
    go_ret
    exact ⟨_, rfl, HO.out, HB.out⟩
  | true =>
    rw [hgk] at hvg
    have HVG := Lib.hid hvg
    have HGO := Lib.hid (grOk_iff.1 hgk)
    have HE := Lib.hid (show letterL g lt = psetL (selfL g lt g.vals.length ++ g.edges.flatMap (edgE lt)) by simp [letterL, hgk, specLet])
    have hn5 := HGO.out.n5
    have he12 := HGO.out.e12
    clear hvg hgk
    generalize letterL g lt = R at *
    go_enter Try.func16, Try.ntmps16
    go_wp2_with fail
    rw [← HSW.out]
    refine HVG.out.mono ?_
    rintro e w2 ⟨rfl, hb2⟩
    have HS2 := Lib.hid (HS0.out.below hb2)
    have HB2 := Lib.hid (below_trans HB0.out hb2)
    have b2 := HBL.out.keep hb2
    have z0 : w2.cell? ⟨w.heap.size, 0, none⟩ = some (.slice A1 g.vals.length c1) := b2.cell 0
    have z1 : w2.cell? ⟨w.heap.size, 1, none⟩ = some (.slice A2 g.edges.length c2) := b2.cell 1
    clear hb2 b2
    go_wp2_with fail
    go_loopw [5, 6] (fun oo ii wr => ∃ i : Nat, i ≤ g.vals.length ∧ ii = .int .i64 (i : Int) ∧ SetR w.heap.size wr oo (psetL (selfL g lt i)) ∧ Below w.heap.size w wr ∧ wr.cell? ⟨w.heap.size, 0, none⟩ = some (.slice A1 g.vals.length c1) ∧ wr.cell? ⟨w.heap.size, 1, none⟩ = some (.slice A2 g.edges.length c2)) (fun _ ii _ => g.vals.length - (intOf ii).toNat)
    case atStart => exact ⟨0, Nat.zero_le _, rfl, HS2.out, HB2.out, z0, z1⟩
    case round =>
      obtain ⟨i, hi, rfl, hset, hbel, y0, y1⟩ := hrel
      clear z0 z1
      have HSET := Lib.hid hset
      have hsz := hbel.size
      have hpl := psetL_len (selfL g lt i)
      have hsl := selfL_len g lt i
      clear hset
      by_cases hlt : i < g.vals.length
      · have hxi : g.vals[i]? = some g.vals[i] := List.getElem?_eq_getElem hlt
        have hgd : g.vals.getD i 0 = g.vals[i] := by simp [List.getD, hlt]
        generalize g.vals[i] = a at hxi hgd
        have hii : (i : Int) < (g.vals.length : Int) := by omega
        have hh := specHolds _ g wr (HGV.out.keep hbel) HGO.out i a hxi lt
        have HSS := Lib.hid (selfL_succ g lt i)
        clear hxi
        by_cases he : lt = 6 + a
        · have HSN := Lib.hid (show psetL (selfL g lt (i + 1)) = putP (psetL (selfL g lt i)) ((i : Int), (i : Int)) by rw [HSS.out, selfE, hgd, if_pos he, psetL_snoc])
          rw [show decide (lt = 6 + a) = true by simp [he]] at hh
          have HH := Lib.hid hh
          clear hh he hgd
          generalize psetL (selfL g lt i) = L at *
          go_wp2_with fail
          refine HH.out.mono ?_
          rintro e w4 ⟨rfl, hb4⟩
          have HP := Lib.hid (l15Put_any _ w.heap.size L ((i : Int), (i : Int)) w4 (HSET.out.below hb4) (Nat.le_trans hsz hb4.size) (by omega))
          have hbel4 := below_trans hbel hb4
          have hsz4 := hbel4.size
          have y0 := kcell hb4 y0
          have y1 := kcell hb4 y1
          clear hb4
          go_wp2_with fail
          refine HP.out.mono ?_
          rintro e w5 ⟨v5, rfl, hs5, hb5⟩
          have HS5 := Lib.hid hs5
          have HB5 := Lib.hid (hbel4.trans (hb5.mono hsz4))
          have y0 := kcell hb5 y0
          have y1 := kcell hb5 y1
          clear hs5 hb5
          go_wp2_with fail
          go_roundw
          case rel => exact ⟨i + 1, by omega, by go_num, by rw [HSN.out]; exact HS5.out, HB5.out, y0, y1⟩
          case measure => simp [intOf]; omega
        · have HSN := Lib.hid (show psetL (selfL g lt (i + 1)) = psetL (selfL g lt i) by rw [HSS.out, selfE, hgd, if_neg he, List.append_nil])
          rw [show decide (lt = 6 + a) = false by simp [he]] at hh
          have HH := Lib.hid hh
          clear hh he hgd
          generalize psetL (selfL g lt i) = L at *
          go_wp2_with fail
          refine HH.out.mono ?_
          rintro e w4 ⟨rfl, hb4⟩
          have HS4 := Lib.hid (HSET.out.below hb4)
          have HB4 := Lib.hid (below_trans hbel hb4)
          have y0 := kcell hb4 y0
          have y1 := kcell hb4 y1
          clear hb4
          go_wp2_with fail
          go_roundw
          case rel => exact ⟨i + 1, by omega, by go_num, by rw [HSN.out]; exact HS4.out, HB4.out, y0, y1⟩
          case measure => simp [intOf]; omega
      · obtain rfl : i = g.vals.length := by omega
        generalize selfL g lt g.vals.length = S at *
        go_wp2_with fail
        go_loopw [5, 7] (fun oo ii wr => ∃ i : Nat, i ≤ g.edges.length ∧ ii = .int .i64 (i : Int) ∧ SetR w.heap.size wr oo (psetL (S ++ (g.edges.take i).flatMap (edgE lt))) ∧ Below w.heap.size w wr ∧ wr.cell? ⟨w.heap.size, 0, none⟩ = some (.slice A1 g.vals.length c1) ∧ wr.cell? ⟨w.heap.size, 1, none⟩ = some (.slice A2 g.edges.length c2)) (fun _ ii _ => g.edges.length - (intOf ii).toNat)
        case atStart => exact ⟨0, Nat.zero_le _, rfl, by rw [List.take_zero, List.flatMap_nil, List.append_nil]; exact HSET.out, hbel, y0, y1⟩
        case round =>
          clear HSET hbel y0 y1 hsz hpl hi hlt
          obtain ⟨i, hi, rfl, hset, hbel, y0, y1⟩ := hrel
          have HSET := Lib.hid hset
          have hsz := hbel.size
          clear hset
          by_cases hlt : i < g.edges.length
          · have hxi : g.edges[i]? = some g.edges[i] := List.getElem?_eq_getElem hlt
            generalize g.edges[i] = x at hxi
            obtain ⟨b, o, rfl, -, hb, hc⟩ := HC2.out i x hxi
            obtain ⟨x0, x1, x2, x3⟩ := x
            obtain ⟨-, -, -, l0, l2⟩ := HGO.out.edges _ (List.mem_of_getElem? hxi)
            simp only at l0 l2
            have d0 := kcell hbel (hc 0 _ rfl)
            have d1 := kcell hbel (hc 1 _ rfl)
            have d2 := kcell hbel (hc 2 _ rfl)
            have d3 := kcell hbel (hc 3 _ rfl)
            simp only [Nat.add_zero] at d0
            have hbw : b < wr.heap.size := by omega
            have hii : (i : Int) < (g.edges.length : Int) := by omega
            have hpl : (psetL (S ++ (g.edges.take i).flatMap (edgE lt))).length ≤ 100 := by
              have h1 := psetL_len (S ++ (g.edges.take i).flatMap (edgE lt))
              have h2 := flat_le (edgE_len lt) (g.edges.take i)
              rw [List.length_append] at h1
              rw [List.length_take] at h2
              omega
            have HSN := Lib.hid (show psetL (S ++ (g.edges.take (i + 1)).flatMap (edgE lt)) = (edgE lt (x0, x1, x2, x3)).foldl putP (psetL (S ++ (g.edges.take i).flatMap (edgE lt))) by rw [take_snoc hxi, List.flatMap_append, List.flatMap_cons, List.flatMap_nil, List.append_nil, ← List.append_assoc, psetL_app])
            have hq0 : IntKind.i64.wrap (2 * x3) = 2 * x3 := IntWalk.i64_in _ (by omega)
            have hq1 : IntKind.i64.wrap (2 * x3 + 1) = 2 * x3 + 1 := IntWalk.i64_in _ (by omega)
            have HBA := Lib.hid (hbel.alloc hsz (.cells #[.int .i64 x0, .int .i64 x1, .int .i64 x2, .int .i64 x3] 93))
            have HSA := Lib.hid (HSET.out.below ((Below.refl wr.heap.size wr).alloc (Nat.le_refl _) (.cells #[.int .i64 x0, .int .i64 x1, .int .i64 x2, .int .i64 x3] 93)))
            clear hxi hc
            generalize psetL (S ++ (g.edges.take i).flatMap (edgE lt)) = L at *
            have HBX := Lib.hid (Blk.new wr 93 #[.int .i64 x0, .int .i64 x1, .int .i64 x2, .int .i64 x3] wr.heap.size rfl)
            have hal : Below wr.heap.size wr (wr.alloc (.cells #[.int .i64 x0, .int .i64 x1, .int .i64 x2, .int .i64 x3] 93)) := (Below.refl wr.heap.size wr).alloc (Nat.le_refl _) _
            have hzz : w.heap.size ≤ (wr.alloc (.cells #[.int .i64 x0, .int .i64 x1, .int .i64 x2, .int .i64 x3] 93)).heap.size := Nat.le_trans hsz hal.size
            have ya0 := kcell hal y0
            have ya1 := kcell hal y1
            have HAL := Lib.hid hal
            clear hal
            by_cases h1 : 2 * x3 = lt
            · have h2 : ¬ 2 * x3 + 1 = lt := by omega
              have HSN2 := Lib.hid (HSN.out.trans (show (edgE lt (x0, x1, x2, x3)).foldl putP L = putP L (x1, x2) by rw [edgE, if_pos h1, if_neg h2]; rfl))
              have HP := Lib.hid (l15Put_any _ w.heap.size L (x1, x2) _ HSA.out hzz (by omega))
              have HYA := Lib.hid (And.intro ya0 ya1)
              clear ya0 ya1
              go_wp2_with fail
              refine HP.out.mono ?_
              rintro e w5 ⟨v5, rfl, hs5, hb5⟩
              have HS5 := Lib.hid hs5
              have HB5 := Lib.hid (HBA.out.trans (hb5.mono hzz))
              have HY5 := Lib.hid (And.intro (kcell hb5 HYA.out.1) (kcell hb5 HYA.out.2))
              have bx := HBX.out.keep hb5
              have e0 : w5.cell? ⟨wr.heap.size, 0, none⟩ = some (.int .i64 x0) := bx.cell 0
              have e1 : w5.cell? ⟨wr.heap.size, 1, none⟩ = some (.int .i64 x1) := bx.cell 1
              have e2 : w5.cell? ⟨wr.heap.size, 2, none⟩ = some (.int .i64 x2) := bx.cell 2
              have e3 : w5.cell? ⟨wr.heap.size, 3, none⟩ = some (.int .i64 x3) := bx.cell 3
              clear hs5 hb5 bx
              go_wp2_with fail
              go_roundw
              case rel => exact ⟨i + 1, by omega, by go_num, by rw [HSN2.out]; exact HS5.out, HB5.out, HY5.out.1, HY5.out.2⟩
              case measure => simp [intOf]; omega
            · by_cases h2 : 2 * x3 + 1 = lt
              · have HSN2 := Lib.hid (HSN.out.trans (show (edgE lt (x0, x1, x2, x3)).foldl putP L = putP L (x2, x1) by rw [edgE, if_neg h1, if_pos h2]; rfl))
                have HP := Lib.hid (l15Put_any _ w.heap.size L (x2, x1) _ HSA.out hzz (by omega))
                have HYA := Lib.hid (And.intro ya0 ya1)
                clear ya0 ya1
                go_wp2_with fail
                refine HP.out.mono ?_
                rintro e w5 ⟨v5, rfl, hs5, hb5⟩
                have HS5 := Lib.hid hs5
                have HB5 := Lib.hid (HBA.out.trans (hb5.mono hzz))
                have HY5 := Lib.hid (And.intro (kcell hb5 HYA.out.1) (kcell hb5 HYA.out.2))
                have bx := HBX.out.keep hb5
                have e0 : w5.cell? ⟨wr.heap.size, 0, none⟩ = some (.int .i64 x0) := bx.cell 0
                have e1 : w5.cell? ⟨wr.heap.size, 1, none⟩ = some (.int .i64 x1) := bx.cell 1
                have e2 : w5.cell? ⟨wr.heap.size, 2, none⟩ = some (.int .i64 x2) := bx.cell 2
                have e3 : w5.cell? ⟨wr.heap.size, 3, none⟩ = some (.int .i64 x3) := bx.cell 3
                clear hs5 hb5 bx
                go_wp2_with fail
                go_roundw
                case rel => exact ⟨i + 1, by omega, by go_num, by rw [HSN2.out]; exact HS5.out, HB5.out, HY5.out.1, HY5.out.2⟩
                case measure => simp [intOf]; omega
              · have HSN2 := Lib.hid (HSN.out.trans (show (edgE lt (x0, x1, x2, x3)).foldl putP L = L by rw [edgE, if_neg h1, if_neg h2]; rfl))
                go_wp2_with fail
                go_roundw
                case rel => exact ⟨i + 1, by omega, by go_num, by rw [HSN2.out]; exact HSA.out, HBA.out, ya0, ya1⟩
                case measure => simp [intOf]; omega
          · obtain rfl : i = g.edges.length := by omega
            rw [List.take_length] at HSET
            rw [← HE.out] at HSET
            have HO := Lib.hid HSET.out.own
            obtain ⟨g9, c9, rfl, -⟩ := HSET.out
            go_wp2_with fail
            go_ret
            exact ⟨_, rfl, HO.out, hbel⟩
end Go.Proofs.Ytbkaoghlkdbofaa

/-
  DERIVED: THE SHELF's CONTRACTS AT THIS DUMP, IN PLAIN WORDS (tools/lay-plain.mjs out of 'TryShelfP.lean', which tools/lay-shelf.mjs wrote): THE SAME DECLARATIONS UNDER THE SAME NAMES: 'import', 'namespace', 'open', 'def', 'theorem' AND NOTHING ELSE: no command of the shelf's: FOR A HAND-IN. Each laying: the table of numbers ('.._ren') and one theorem, a field a fact of the dump's own or the kernel's comparison; each contract: ONE APPLICATION.
-/
namespace Go.Proofs
open Go.Shelf
def Try.laysSF_ren : Go.Shelf.Ren := ⟨fun | 6 => 130 | 15 => 170 | 14 => 169 | 28 => 192 | 29 => 193 | 20 => 184 | 21 => 185 | 22 => 186 | 23 => 187 | 24 => 188 | 25 => 189 | 26 => 190 | 27 => 191 | 46 => 208 | 47 => 209 | 48 => 210 | 49 => 211 | 50 => 212 | 57 => 221 | n => n, fun | 22 => 27 | 24 => 91 | 25 => 166 | 3 => 3 | 39 => 206 | 0 => 0 | 53 => 228 | 55 => 230 | 4 => 4 | 46 => 222 | 45 => 221 | 50 => 152 | 5 => 5 | 9 => 9 | 66 => 239 | 70 => 243 | 76 => 253 | 77 => 215 | n => n, fun | n => n⟩
theorem Try.laysSF : Go.Proofs.SlLaysF0.n6 Try.prog Try.laysSF_ren := {
  mixed := by kernel_rfl
  f6 := ⟨Try.f130.name, by decide, Try.func130.trans (congrArg some (by kernel_rfl))⟩
  f14 := ⟨Try.f169.name, by decide, Try.func169.trans (congrArg some (by kernel_rfl))⟩
  f15 := Try.func170.trans (congrArg some (by kernel_rfl))
  f20 := ⟨Try.f184.name, by decide, Try.func184.trans (congrArg some (by kernel_rfl))⟩
  f21 := ⟨Try.f185.name, by decide, Try.func185.trans (congrArg some (by kernel_rfl))⟩
  f22 := ⟨Try.f186.name, by decide, Try.func186.trans (congrArg some (by kernel_rfl))⟩
  f23 := ⟨Try.f187.name, by decide, Try.func187.trans (congrArg some (by kernel_rfl))⟩
  f24 := ⟨Try.f188.name, by decide, Try.func188.trans (congrArg some (by kernel_rfl))⟩
  f25 := ⟨Try.f189.name, by decide, Try.func189.trans (congrArg some (by kernel_rfl))⟩
  f26 := ⟨Try.f190.name, by decide, Try.func190.trans (congrArg some (by kernel_rfl))⟩
  f27 := ⟨Try.f191.name, by decide, Try.func191.trans (congrArg some (by kernel_rfl))⟩
  f28 := Try.func192.trans (congrArg some (by kernel_rfl))
  f29 := Try.func193.trans (congrArg some (by kernel_rfl))
  f46 := ⟨Try.f208.name, by decide, Try.func208.trans (congrArg some (by kernel_rfl))⟩
  f47 := Try.func209.trans (congrArg some (by kernel_rfl))
  f48 := Try.func210.trans (congrArg some (by kernel_rfl))
  f49 := ⟨Try.f211.name, by decide, Try.func211.trans (congrArg some (by kernel_rfl))⟩
  f50 := ⟨Try.f212.name, by decide, Try.func212.trans (congrArg some (by kernel_rfl))⟩
  f57 := ⟨Try.f221.name, by decide, Try.func221.trans (congrArg some (by kernel_rfl))⟩
  t0 := Try.underlying0
  a0 := Try.isAgg0
  z0 := Try.sizeOf0
  v0 := Try.zeroValue0
  t3 := Try.underlying3
  a3 := Try.isAgg3
  z3 := Try.sizeOf3
  v3 := Try.zeroValue3
  t4 := Try.underlying4
  a4 := Try.isAgg4
  z4 := Try.sizeOf4
  v4 := Try.zeroValue4
  t5 := Try.underlying5
  a5 := Try.isAgg5
  z5 := Try.sizeOf5
  v5 := Try.zeroValue5
  t9 := Try.underlying9
  a9 := Try.isAgg9
  z9 := Try.sizeOf9
  v9 := Try.zeroValue9
  t22 := Try.underlying27
  a22 := Try.isAgg27
  z22 := Try.sizeOf27
  v22 := Try.zeroValue27
  t25 := Try.underlying166
  a25 := Try.isAgg166
  z25 := Try.sizeOf166
  v25 := Try.zeroValue166
  t39 := Try.underlying206
  a39 := Try.isAgg206
  z39 := Try.sizeOf206
  v39 := Try.zeroValue206
  t45 := Try.underlying221
  a45 := Try.isAgg221
  z45 := Try.sizeOf221
  v45 := Try.zeroValue221
  t46 := Try.underlying222
  a46 := Try.isAgg222
  z46 := Try.sizeOf222
  v46 := Try.zeroValue222
  t50 := Try.underlying152
  a50 := Try.isAgg152
  z50 := Try.sizeOf152
  v50 := Try.zeroValue152
  t53 := Try.underlying228
  a53 := Try.isAgg228
  z53 := Try.sizeOf228
  v53 := Try.zeroValue228
  t55 := Try.underlying230
  a55 := Try.isAgg230
  z55 := Try.sizeOf230
  v55 := Try.zeroValue230
  t66 := Try.underlying239
  a66 := Try.isAgg239
  z66 := Try.sizeOf239
  v66 := Try.zeroValue239
  t70 := Try.underlying243
  a70 := Try.isAgg243
  z70 := Try.sizeOf243
  v70 := Try.zeroValue243
  t76 := Try.underlying253
  a76 := Try.isAgg253
  z76 := Try.sizeOf253
  v76 := Try.zeroValue253
  t77 := Try.underlying215
  a77 := Try.isAgg215
  z77 := Try.sizeOf215
  v77 := Try.zeroValue215 }
end Go.Proofs

/- A row of pairs, as the shelf's sort tells it. -/
namespace Go.Proofs.Ytbkaoghlkdbofaa
set_option linter.unusedVariables false
set_option linter.unusedSimpArgs false
open Go.ChangeShapes Go.WideShapes Go.ChangeAt Go.RowKit Go.Sort

theorem konly_ahead (lo hi : Nat) (w : World) (n : Nat) : Only lo hi w (Sort.ahead w n) := ⟨rfl, rfl, rfl, Nat.le_refl _, fun _ _ _ => rfl⟩
theorem konly_grow (lo hi : Nat) (w : World) (os : Array Obj) : Only lo hi w (grow w os) := ⟨rfl, rfl, rfl, by simp [grow], fun n hn _ => by simp [grow, Array.getElem?_append, hn]⟩
theorem konly_put {α : Type} [Inhabited α] (enc : α → Value) (w : World) (g off : Nat) (d : Array α) : Only g (g + 1) w (putRow enc w g off d) :=
  ⟨rfl, rfl, rfl, by simp [putRow, mapBlock], fun n hn ho => by simp only [putRow, mapBlock, Array.getElem?_modify]; rw [if_neg (by omega)]⟩
theorem row_putF {w : World} {base g n cap k : Nat} {e : TypeId} {cs : List Value} (h : w.ownsRow base e k (.slice (some ⟨g, 0, none⟩) n cap) n cs) {F : Array Value} (hF : F.size = n * k) :
    (putRow id w g 0 F).ownsRow base e k (.slice (some ⟨g, 0, none⟩) n cap) n F.toList := by
  obtain ⟨hl, hs⟩ := h
  refine ⟨by simp [hF], ?_⟩
  rcases hs with ⟨h1, _⟩ | ⟨g', cap', cur, hv, hg, hh, hnc, hcm, hsz, htk⟩
  · cases h1
  · simp only [Value.slice.injEq, Option.some.injEq, Addr.mk.injEq, and_true, true_and] at hv
    obtain ⟨rfl, rfl⟩ := hv
    have hcs : n * k ≤ cur.size := by rw [hsz]; exact Nat.mul_le_mul_right k hnc
    refine .inr ⟨g, cap, putCells id 0 F cur, rfl, hg, ?_, hnc, hcm, by simp [putCells, hsz], ?_⟩
    · simp [putRow, mapBlock, Array.getElem?_modify, hh, onCells]
    · apply List.ext_getElem?
      intro j
      rw [List.getElem?_take]
      by_cases hk : j < n * k
      · rw [if_pos hk]
        have hkc : j < cur.size := by omega
        have hkd : j < F.size := by omega
        simp [putCells, hkc, hkd, getElem!_pos]
      · rw [if_neg hk, List.getElem?_eq_none (by simp; omega)]
theorem flatK_list (ds : List Pr) : (flatK cPr 2 ds.toArray).toList = ds.flatMap cPr := by
  apply List.ext_getElem?
  intro t
  by_cases ht : t < ds.length * 2
  · have hi : t / 2 < ds.length := by omega
    have hx : ds[t / 2]? = some ds[t / 2] := List.getElem?_eq_getElem hi
    have hj : t % 2 < (cPr ds[t / 2]).length := by rw [cPr_len]; omega
    have h1 := flat_at cPr_len hx (t % 2) _ (List.getElem?_eq_getElem hj)
    rw [show t / 2 * 2 + t % 2 = t by omega] at h1
    rw [h1, Array.getElem?_toList, Array.getElem?_eq_getElem (by simpa using ht)]
    congr 1
    have h2 := get_flatK cPr 2 ds.toArray t (by simpa using ht)
    rw [getElem!_pos _ _ (by simpa using ht)] at h2
    rw [h2, getElem!_pos ds.toArray _ (by simpa using hi), getElem!_pos _ _ (by simpa using hj)]
    simp
  · rw [List.getElem?_eq_none (by simp; omega), List.getElem?_eq_none]
    have : (ds.flatMap cPr).length = ds.length * 2 := by
      clear ht
      induction ds with
      | nil => rfl
      | cons d ds ih => rw [List.flatMap_cons, List.length_append, ih, cPr_len, List.length_cons]; omega
    omega
theorem holds_ownK {w : World} {base g n cap : Nat} {e : TypeId} {zs : List Pr} (h : w.ownsRow base e 2 (.slice (some ⟨g, 0, none⟩) n cap) n (zs.flatMap cPr)) (hz : zs.length = n) : HoldsK cPr 2 w g 0 zs.toArray := by
  intro j hj
  have hj' : j < zs.length * 2 := by simpa using hj
  refine ⟨?_, by rw [Nat.zero_add]; exact World.ownsRow.frozenAt h j⟩
  rw [Nat.zero_add, World.ownsRow.cellAt h j (by omega), ← flatK_list, Array.getElem?_toList, Array.getElem?_eq_getElem hj, getElem!_pos _ j hj]
  rfl
end Go.Proofs.Ytbkaoghlkdbofaa

/- A row of one's own, cut short: what 's[:m]' leaves is a row of one's own. -/
namespace Go.Proofs.Ytbkaoghlkdbofaa
set_option linter.unusedVariables false
set_option linter.unusedSimpArgs false
open Go.ChangeShapes Go.WideShapes Go.ChangeAt Go.RowKit

theorem ownsRow_take {W : World} {base k n m g cap : Nat} {e : TypeId} {cs : List Value} (h : W.ownsRow base e k (.slice (some ⟨g, 0, none⟩) n cap) n cs) (hm : m ≤ n) : W.ownsRow base e k (.slice (some ⟨g, 0, none⟩) m cap) m (cs.take (m * k)) := by
  obtain ⟨hl, hs⟩ := h
  have hmk : m * k ≤ n * k := Nat.mul_le_mul_right k hm
  refine ⟨by rw [List.length_take, hl]; omega, ?_⟩
  rcases hs with ⟨h1, _⟩ | ⟨g', cap', cur, hv, hg, hh, hnc, hcm, hsz, htk⟩
  · cases h1
  · simp only [Value.slice.injEq, Option.some.injEq, Addr.mk.injEq, and_true, true_and] at hv
    obtain ⟨rfl, rfl⟩ := hv
    refine .inr ⟨g, cap, cur, rfl, hg, hh, by omega, hcm, hsz, ?_⟩
    rw [← htk, List.take_take]
    congr 1
    omega
end Go.Proofs.Ytbkaoghlkdbofaa

