/- Parts of the proof, joined into one text: PutS, SubS, DistM. -/
import Derived.Laws.StructEq
import Derived.Test.YtpbfdmfkmbdpkaaGreatOnlyOFHCLODM
import Derived.Test.YtpbfdmfkmbdpkaaGreatOnlyIPOAJNAI
import Derived.Test.YtpbfdmfkmbdpkaaGreatOnlyBJIAJKDG
namespace Go.Proofs.YtpbfdmfkmbdpkaaGreat
set_option linter.unusedVariables false
set_option linter.unusedSimpArgs false
open Go.ChangeShapes Go.WideShapes Go.ChangeAt Go.RowKit
attribute [local go_sem] ext_cell ext_frozen ext_lt ext_lt1 ext_lt2 ext_lt3 ltn2 ltn3 ltn13 lts1 lts2 lts3
section
variable {P : Program} {w : World}
/-- append of a whole list: as an operation by itself -/
theorem op_appendL {α : Type} (E : α → List Value) {o : Oper} {a : Act} {K : Act → World → Prop} {Q : Exit → Act → World → Prop} {t e : TypeId} {z : Value} {k bytes : Nat} (el : ElemOk P t e z k bytes) (hE : ∀ x, (E x).length = k) (h1 : ∀ x, ∀ u ∈ E x, u.oneCell' = true)
    (s y : Operand) (ho : o.op = .call { callee := .builtin .append, args := #[s, y], argTypes := #[t, t] })
    (base : Nat) (v : Value) (xs ys : List α) (hs : a.eval s = v) (hown : w.ownsRow base e k v xs.length (xs.flatMap E)) (lo hi : Nat) (yv : Value) (hyv : a.eval y = yv) (hy : SlI lo hi w E k yv ys) (hbytes : (xs.length + ys.length) * bytes ≤ 140737488355328) (hb0 : 0 < bytes) (hbase : base ≤ w.heap.size)
    (h : ∀ v' w', w'.ownsRow base e k v' (xs ++ ys).length ((xs ++ ys).flatMap E) → w.grownBy w' v.ownBlock → (v'.ownBlock = v.ownBlock ∨ v'.ownBlock = some w.heap.size) → K (a.put o.dst v') w') : Oper.wp P o a w K Q := by
  obtain ⟨v', w', hr, h2, h3, h5⟩ := run_appendL E el hE h1 base v xs ys hown lo hi yv hy hbytes hb0 hbase o.type
  unfold Oper.wp execOp
  simp only [ho, resolve, invoke, builtin, Sem.run_bind, Sem.run_pure, Result.andThen_ok, List.map_toArray, List.map_cons, List.map_nil, hs, hyv, hr]
  exact h v' w' h2 h3 h5
end
theorem SlI.takeP {α : Type} {lo hi : Nat} {w : World} {E : α → List Value} {k b o n c : Nat} {xs : List α} (h : SlI lo hi w E k (.slice (some ⟨b, o, none⟩) n c) xs) {m : Nat} (hm : m ≤ xs.length) : SlI lo hi w E k (.slice (some ⟨b, o, none⟩) m c) (xs.take m) := by
  obtain ⟨A', c', hv, hl, hc, hx⟩ := h
  injection hv with h1 h2 h3
  subst h1 h3
  have hlt : (xs.take m).length = m := by rw [List.length_take]; omega
  refine ⟨_, c, by rw [hlt], by omega, hc, fun j x hj => hx j x ?_⟩
  rw [List.getElem?_take] at hj
  split at hj
  · exact hj
  · cases hj
theorem SlI.dropP {α : Type} {lo hi : Nat} {w : World} {E : α → List Value} {k b o n c : Nat} {xs : List α} (h : SlI lo hi w E k (.slice (some ⟨b, o, none⟩) n c) xs) {m : Nat} (hm : m ≤ xs.length) : SlI lo hi w E k (.slice (some ⟨b, o + m * k, none⟩) (n - m) (c - m)) (xs.drop m) := by
  obtain ⟨A', c', hv, hl, hc, hx⟩ := h
  injection hv with h1 h2 h3
  subst h1 h2 h3
  have hlt : (xs.drop m).length = xs.length - m := by rw [List.length_drop]
  refine ⟨_, c - m, by rw [hlt], by omega, by omega, fun j x hj => ?_⟩
  rw [List.getElem?_drop] at hj
  obtain ⟨b', o', hA, h1, h2, h3⟩ := hx (m + j) x hj
  injection hA with hA
  injection hA with e1 e2
  subst e1 e2
  refine ⟨b, o + m * k, rfl, h1, h2, fun i u hu => ?_⟩
  rw [← h3 i u hu, Nat.add_mul]
  congr 2
  omega
theorem row_cap {W : World} {base k n g c : Nat} {e : TypeId} {cs : List Value} (h : W.ownsRow base e k (.slice (some ⟨g, 0, none⟩) n c) n cs) : n ≤ c ∧ c ≤ 9223372036854775807 := by
  obtain ⟨_, hs⟩ := h
  rcases hs with ⟨h1, _⟩ | ⟨g', cap', cur, hv, hg, hh, hnc, hcm, _⟩
  · cases h1
  · simp only [Value.slice.injEq, Option.some.injEq, Addr.mk.injEq, and_true, true_and] at hv
    obtain ⟨rfl, rfl⟩ := hv
    exact ⟨hnc, hcm⟩
theorem SlI.prP {lo hi : Nat} {w : World} {b o n c : Nat} {xs : List Pr} (h : SlI lo hi w cPr 2 (.slice (some ⟨b, o, none⟩) n c) xs) {i : Nat} {x : Pr} (hx : xs[i]? = some x) :
    (lo ≤ b ∧ b < hi) ∧ w.cell? ⟨b, o + i * 2, none⟩ = some (.int .i64 x.1) ∧ w.cell? ⟨b, o + i * 2 + 1, none⟩ = some (.int .i64 x.2) := by
  obtain ⟨A', c', hv, _, _, h3⟩ := h
  simp only [Value.slice.injEq] at hv
  obtain ⟨b', o', hA, g1, g2, hc⟩ := h3 i x hx
  rw [← hv.1] at hA
  simp only [Option.some.injEq, Addr.mk.injEq, and_true] at hA
  obtain ⟨rfl, rfl⟩ := hA
  exact ⟨⟨g1, g2⟩, by simpa using hc 0 _ rfl, hc 1 _ rfl⟩
theorem SlI.prA {lo hi : Nat} {w : World} {A : Option Addr} {n c : Nat} {xs : List Pr} (h : SlI lo hi w cPr 2 (.slice A n c) xs) {i : Nat} {x : Pr} (hx : xs[i]? = some x) :
    ∃ b o, A = some ⟨b, o, none⟩ ∧ (lo ≤ b ∧ b < hi) ∧ w.cell? ⟨b, o + i * 2, none⟩ = some (.int .i64 x.1) ∧ w.cell? ⟨b, o + i * 2 + 1, none⟩ = some (.int .i64 x.2) := by
  obtain ⟨A', c', hv, _, _, h3⟩ := h
  simp only [Value.slice.injEq] at hv
  obtain ⟨b', o', hA, g1, g2, hc⟩ := h3 i x hx
  exact ⟨b', o', hv.1.trans hA, ⟨g1, g2⟩, by simpa using hc 0 _ rfl, hc 1 _ rfl⟩
theorem SlI.dropQ {lo hi B : Nat} {w w' : World} {g c : Nat} {l : List Pr} (h : SlI lo hi w cPr 2 (.slice (some ⟨g, 0, none⟩) l.length c) l) (hb : Below B w w') (hB : hi ≤ B) {k : Nat} (hk : k ≤ l.length) (hc : l.length ≤ c) :
    SlI lo hi w' cPr 2 (.slice (if c = k then some ⟨g, 0, none⟩ else some ⟨g, k * 2, none⟩) (l.length - k) (c - k)) (l.drop k) := by
  split
  · have hn : l.drop k = [] := List.drop_eq_nil_of_le (by omega)
    have hcm : c - k ≤ maxLen := by unfold maxLen; omega
    rw [hn]
    refine ⟨some ⟨g, 0, none⟩, c - k, ?_, by simp, hcm, fun i x hx => by simp at hx⟩
    simp; omega
  · simpa using (h.below hb hB).dropP (m := k) hk
theorem eqPr (a b c d : Int) (w : World) : (Op.equalIn 10000 63 (.agg #[.int .i64 a, .int .i64 b]) (.agg #[.int .i64 c, .int .i64 d])).run Tryz.prog w = .ok (a == c && b == d) w := by
  have u3 := Tryz.underlying3
  have a3 := Tryz.isAgg3
  have z3 := Tryz.sizeOf3
  have hS : Tryz.prog.underlying 63 = some (.struct (Tryz.prog.fieldsOf 63)) := by kernel_rfl
  have hp : Tryz.prog.stoodInHeld 63 = false := by kernel_rfl
  rw [show (10000 : Nat) = 9999 + 1 from rfl, run_equalIn_agg w 9999 63 _ _ hS hp]
  simp only [Program.fieldsOf, Tryz.underlying63]
  go_simp
  by_cases h1 : a = c <;> by_cases h2 : b = d <;> simp [h1, h2]
theorem guardPr : Tryz.prog.eqGuardType Tryz.prog.depth 63 = false := by kernel_rfl
attribute [local go_sem] guardPr
theorem eqlPr (a b c d : Int) (w : World) : (binOp .eql 63 (.agg #[.int .i64 a, .int .i64 b]) (.agg #[.int .i64 c, .int .i64 d])).run Tryz.prog w = .ok (.bool (decide ((a, b) = (c, d)))) w := by
  rw [run_eql_struct, eqPr]
  by_cases h1 : a = c <;> by_cases h2 : b = d <;> simp [h1, h2]
/-- a set of pairs in a row of the call's own, never nil -/
def SetR (lo : Nat) (w : World) (v : Value) (l : List Pr) : Prop := ∃ g c, v = .slice (some ⟨g, 0, none⟩) l.length c ∧ w.ownsRow lo 63 2 v l.length (l.flatMap cPr)
theorem SetR.below {lo : Nat} {w w' : World} {v : Value} {l : List Pr} (h : SetR lo w v l) (hb : Below w.heap.size w w') : SetR lo w' v l := by
  obtain ⟨g, c, rfl, h⟩ := h
  exact ⟨g, c, rfl, ownsRow_below h hb (Nat.le_refl _)⟩
theorem SetR.mono {lo lo' : Nat} {w : World} {v : Value} {l : List Pr} (h : SetR lo w v l) (hl : lo' ≤ lo) : SetR lo' w v l := by
  obtain ⟨g, c, rfl, h⟩ := h
  exact ⟨g, c, rfl, ownsRow_mono h hl⟩
theorem SetR.own {lo : Nat} {w : World} {v : Value} {l : List Pr} (h : SetR lo w v l) : Own lo w.heap.size w 63 cPr 2 v l := by
  obtain ⟨g, c, rfl, h⟩ := h
  exact Own.of_row h rfl rfl
theorem SetR.lit (w : World) (lo : Nat) (h : lo ≤ w.heap.size) : SetR lo (w.alloc (.cells #[] 63)) (.slice (some ⟨w.heap.size, 0, none⟩) 0 0) [] :=
  ⟨_, _, rfl, World.ownsRow_lit (base := lo) (e := 63) (size := 2) w #[] 0 h (by decide) rfl⟩
set_option maxHeartbeats 1000000 in
theorem l15Less_any (p q : Pr) (w : World) :
    Calls Tryz.prog 102 #[.agg #[.int .i64 p.1, .int .i64 p.2], .agg #[.int .i64 q.1, .int .i64 q.2]] w fun e w' => e = .returned (.bool (ltP p q)) ∧ Below w.heap.size w w' := by
  obtain ⟨p1, p2⟩ := p
  obtain ⟨q1, q2⟩ := q
  have hb : Below w.heap.size w ((w.alloc (.cells #[.int .i64 p1, .int .i64 p2] 63)).alloc (.cells #[.int .i64 q1, .int .i64 q2] 63)) := ((Below.refl _ _).alloc (Nat.le_refl _) _).alloc (by simp) _
  simp only
  by_cases h1 : p1 < q1
  · have k1 : decide (p1 < q1) = true := by simpa using h1
    have hl : ltP (p1, p2) (q1, q2) = true := by rw [ltP_iff]; exact .inl h1
    rw [hl]
    clear h1 hl
    go_enter Tryz.func102, Tryz.ntmps102
    go_wp2_with fail
    go_ret
    exact ⟨rfl, hb⟩
  · have k1 : decide (p1 < q1) = false := by simpa using h1
    by_cases h2 : p1 = q1
    · have k2 : (p1 == q1) = true := by simpa using h2
      by_cases h3 : p2 < q2
      · have k3 : decide (p2 < q2) = true := by simpa using h3
        have hl : ltP (p1, p2) (q1, q2) = true := by rw [ltP_iff]; exact .inr ⟨h2, h3⟩
        rw [hl]
        clear h1 h2 h3 hl
        go_enter Tryz.func102, Tryz.ntmps102
        go_wp2_with fail
        go_ret
        exact ⟨rfl, hb⟩
      · have k3 : decide (p2 < q2) = false := by simpa using h3
        have hl : ltP (p1, p2) (q1, q2) = false := by rw [ltP_no]; simp only; omega
        rw [hl]
        clear h1 h2 h3 hl
        go_enter Tryz.func102, Tryz.ntmps102
        go_wp2_with fail
        go_ret
        exact ⟨rfl, hb⟩
    · have k2 : (p1 == q1) = false := by simpa using h2
      have hl : ltP (p1, p2) (q1, q2) = false := by rw [ltP_no]; simp only; omega
      rw [hl]
      clear h1 h2 hl
      go_enter Tryz.func102, Tryz.ntmps102
      go_wp2_with fail
      go_ret
      exact ⟨rfl, hb⟩
set_option maxHeartbeats 4000000 in
set_option maxRecDepth 100000 in
theorem l15Put_any (v : Value) (lo : Nat) (l : List Pr) (p : Pr) (w : World) (hv : SetR lo w v l) (hlo : lo ≤ w.heap.size) (hn : l.length ≤ 1099511627776) :
    Calls Tryz.prog 68 #[v, .agg #[.int .i64 p.1, .int .i64 p.2]] w fun e w' => ∃ v', e = .returned v' ∧ SetR lo w' v' (putP l p) ∧ Below w.heap.size w w' := by
  obtain ⟨g, c, rfl, hrow⟩ := hv
  obtain ⟨hg1, hg2⟩ := hrow.lt g rfl
  have hsl := (Own.of_row (xs := l) hrow rfl rfl).sl cPr_len
  obtain ⟨hlc, hcm⟩ := row_cap hrow
  obtain ⟨W0, hW0⟩ : ∃ W0, W0 = w.alloc (.cells #[.int .i64 p.1, .int .i64 p.2] 63) := ⟨_, rfl⟩
  have hb0 : Below w.heap.size w W0 := by rw [hW0]; exact (Below.refl _ _).alloc (Nat.le_refl _) _
  have x0 : W0.cell? ⟨w.heap.size, 0, none⟩ = some (.int .i64 p.1) := by rw [hW0]; simp
  have x1 : W0.cell? ⟨w.heap.size, 1, none⟩ = some (.int .i64 p.2) := by rw [hW0]; simp
  have l0 : w.heap.size < W0.heap.size := by rw [hW0]; simp
  have HROW := Lib.hid (ownsRow_below hrow hb0 (Nat.le_refl _))
  have HSL := Lib.hid (hsl.below hb0 (Nat.le_refl _))
  obtain ⟨R, hR⟩ : ∃ R, R = putP l p := ⟨_, rfl⟩
  rw [← hR]
  have HR := Lib.hid hR
  clear hR hrow hsl
  go_enter Tryz.func68, Tryz.ntmps68
  go_wp2_with fail
  rw [← hW0]
  clear hW0
  go_loopw [5] (fun kk wr => ∃ (k : Nat) (u : World), k ≤ l.length ∧ kk = .int .i64 (k : Int) ∧ (∀ i x, i < k → l[i]? = some x → ltP x p = true) ∧ wr = ext W0 u) (fun kk _ => l.length - (intOf kk).toNat)
  case atStart => exact ⟨0, W0, Nat.zero_le _, rfl, (fun i x hi => absurd hi (Nat.not_lt_zero _)), ext_self W0⟩
  case round =>
    obtain ⟨k, u, hk, rfl, hall, rfl⟩ := hrel
    have HALL := Lib.hid hall
    clear hall
    by_cases hlt : k < l.length
    · have hxk : l[k]? = some l[k] := List.getElem?_eq_getElem hlt
      generalize l[k] = x at hxk
      obtain ⟨xa, xb⟩ := x
      obtain ⟨-, d0, d1⟩ := HSL.out.prP hxk
      simp only [Nat.zero_add] at d0 d1
      have hbw : g < W0.heap.size := by omega
      have hkk : (k : Int) < (l.length : Int) := by omega
      have HXK := Lib.hid hxk
      have HLT := Lib.hid (show ∀ b, ltP (xa, xb) p = b → ltP (xa, xb) p = b from fun _ h => h)
      have HL := Lib.hid (fun (W : World) => l15Less_any (xa, xb) p W)
      clear hxk
      cases hbb : ltP (xa, xb) p with
      | true =>
        rw [hbb] at HL
        have HBB := Lib.hid hbb
        clear hbb HLT
        go_wp2_with fail
        refine wp_region_ext_lit (by kernel_rfl) (by kernel_rfl) ?_
        repeat (go_big_quiet_step ((go_at_call 102; exact Calls.ext_of (HL.out _))))
        refine wpQuiet_nil ?_
        intro _ hw'
        obtain ⟨u2, hw''⟩ := hw'
        subst hw''
        obtain ⟨u4, hu4⟩ := ext_ext W0 u u2
        have HU4 := Lib.hid hu4
        clear hu4
        go_wp2_with fail
        go_roundw
        case rel =>
          refine ⟨k + 1, u4, by omega, by go_num, fun i y hi hy => ?_, HU4.out⟩
          rcases Nat.lt_or_ge i k with h | h
          · exact HALL.out i y h hy
          · obtain rfl : i = k := by omega
            rw [HXK.out] at hy
            injection hy with hy
            subst hy
            exact HBB.out
        case measure => simp [intOf]; omega
      | false =>
        rw [hbb] at HL
        have hput := putP_at (l := l) (p := p) (k := k) (by omega) HALL.out (fun y hy => by rw [HXK.out] at hy; injection hy with hy; subst hy; exact hbb)
        rw [HXK.out] at hput
        have HPUT0 := Lib.hid (HR.out.trans hput)
        clear hbb HLT hput HALL HR
        go_wp2_with fail
        refine wp_region_ext_lit (by kernel_rfl) (by kernel_rfl) ?_
        repeat (go_big_quiet_step ((go_at_call 102; exact Calls.ext_of (HL.out _))))
        refine wpQuiet_nil ?_
        intro _ hw'
        obtain ⟨u2, hw''⟩ := hw'
        subst hw''
        obtain ⟨u4, hu4⟩ := ext_ext W0 u u2
        rw [hu4]
        clear hu4
        have HEQ := Lib.hid (fun (w : World) => eqlPr xa xb p.1 p.2 w)
        obtain ⟨bb, hb2⟩ : ∃ bb, bb = decide ((xa, xb) = (p.1, p.2)) := ⟨_, rfl⟩
        rw [← hb2] at HEQ
        have HB2 := Lib.hid hb2
        have heq := HEQ.out
        clear hb2
        go_wp2_with fail
        refine wp_region_ext_lit (by kernel_rfl) (by kernel_rfl) ?_
        repeat (go_big_quiet_step (fail))
        refine wpQuiet_nil ?_
        intro _ hw'
        obtain ⟨u3, hw''⟩ := hw'
        subst hw''
        cases bb with
        | true =>
          have hfin : R = l := by
            rw [HPUT0.out, if_pos]
            have := HB2.out
            simp only [Eq.comm (a := true), decide_eq_true_eq] at this
            rw [this]
          have HF := Lib.hid hfin
          have hb9 : Below w.heap.size w (ext (ext W0 u4) u3) := below_trans hb0 (below_trans (ext_below _ _) (ext_below _ _))
          have HR9 := Lib.hid (ownsRow_below HROW.out (below_trans (ext_below W0 u4) (ext_below _ u3)) (Nat.le_refl _))
          clear hfin
          go_wp2_with fail
          go_ret
          exact ⟨_, rfl, by rw [HF.out]; exact ⟨g, c, rfl, HR9.out⟩, hb9⟩
        | false =>
          have HPUT := Lib.hid (show R = l.take k ++ [p] ++ l.drop k by
            rw [HPUT0.out, if_neg]
            have := HB2.out
            simp only [Eq.comm (a := false), decide_eq_false_iff_not] at this
            intro h
            injection h with h
            exact this h)
          clear HPUT0 HB2 HEQ heq
          obtain ⟨W6, hW6⟩ : ∃ W6, W6 = (ext (ext W0 u4) u3) := ⟨_, rfl⟩
          have hb6 : Below W0.heap.size W0 W6 := by rw [hW6]; exact (below_trans (ext_below _ _) (ext_below _ _))
          rw [← hW6]
          clear hW6
          have x0 := kcell hb6 x0
          have x1 := kcell hb6 x1
          have l6 := Nat.lt_of_lt_of_le l0 hb6.size
          have HSD := Lib.hid (show SlI lo w.heap.size W6.drew cPr 2 (.slice (some ⟨g, 0, none⟩) l.length c) l from HSL.out.below hb6.drew (by omega))
          have HBW6 := Lib.hid (show Below w.heap.size w W6.drew from (below_trans hb0 hb6).drew)
          have hwW6 : w.heap.size ≤ W6.drew.heap.size := HBW6.out.size
          have hloW : lo ≤ W6.drew.heap.size := by omega
          have hkl : (k : Int) ≤ (l.length : Int) := by omega
          have hkc : (k : Int) ≤ (c : Int) := by omega
          have htl : (l.take k).length ≤ l.length := by rw [List.length_take]; omega
          have hdl : (l.drop k).length ≤ l.length := by rw [List.length_drop]; omega
          have htd : (l.take k ++ [p]).length ≤ l.length + 1 := by rw [List.length_append]; simp only [List.length_cons, List.length_nil]; omega
          have HRL := Lib.hid (show R.length ≠ 0 by rw [HPUT.out]; simp)
          clear HSL HROW hb0 hb6
          go_wp2_with fail
          have hS1 := HSD.out
          clear hS1
          refine F_start 12 (fun w' => w'.cell? ⟨w.heap.size, 0, none⟩ = some (.int .i64 p.1) ∧ w'.cell? ⟨w.heap.size, 1, none⟩ = some (.int .i64 p.2)) (by kernel_rfl) (by exact ⟨x0, x1⟩) (fun hS inv => ?_)
          refine F_take (i := 1) (v := ?_) rfl (by kernel_rfl) (by kernel_rfl) (by kernel_rfl) (fun _ _ _ h => h) inv (Or.inl ⟨by rfl, ?_⟩) (by assumption) (fun invn => ?_)
          rotate_left
          · (intro w hSw; (try dsimp only at hSw); go_simp; try with_reducible rfl)
          try simp only [List.getElem_toArray, List.getElem_cons_zero, List.getElem_cons_succ, Act.put, List.setIfInBounds_toArray, List.set_cons_zero, List.set_cons_succ]
          clear inv
          have inv := invn
          clear invn
          refine F_take (i := 2) (v := ?_) rfl (by kernel_rfl) (by kernel_rfl) (by kernel_rfl) (fun _ _ _ h => h) inv (Or.inl ⟨by rfl, ?_⟩) (by assumption) (fun invn => ?_)
          rotate_left
          · (intro w hSw; (try dsimp only at hSw); go_simp; try with_reducible rfl)
          try simp only [List.getElem_toArray, List.getElem_cons_zero, List.getElem_cons_succ, Act.put, List.setIfInBounds_toArray, List.set_cons_zero, List.set_cons_succ]
          clear inv
          have inv := invn
          clear invn
          refine F_take (i := 3) (v := ?_) rfl (by kernel_rfl) (by kernel_rfl) (by kernel_rfl) (fun _ _ _ h => h) inv (Or.inl ⟨by rfl, ?_⟩) (by assumption) (fun invn => ?_)
          rotate_left
          · (intro w hSw; (try dsimp only at hSw); go_simp; try with_reducible rfl)
          try simp only [List.getElem_toArray, List.getElem_cons_zero, List.getElem_cons_succ, Act.put, List.setIfInBounds_toArray, List.set_cons_zero, List.set_cons_succ]
          clear inv
          have inv := invn
          clear invn
          refine F_take (i := 5) (v := ?_) rfl (by kernel_rfl) (by kernel_rfl) (by kernel_rfl) (fun _ _ _ h => h) inv (Or.inl ⟨by rfl, ?_⟩) (by assumption) (fun invn => ?_)
          rotate_left
          · (intro w hSw; (try dsimp only at hSw); go_simp; try with_reducible rfl)
          try simp only [List.getElem_toArray, List.getElem_cons_zero, List.getElem_cons_succ, Act.put, List.setIfInBounds_toArray, List.set_cons_zero, List.set_cons_succ]
          clear inv
          have inv := invn
          clear invn
          refine F_take (i := 8) (v := ?_) rfl (by kernel_rfl) (by kernel_rfl) (by kernel_rfl) (fun _ _ _ h => h) inv (Or.inl ⟨by rfl, ?_⟩) (by assumption) (fun invn => ?_)
          rotate_left
          · (intro w hSw; (try dsimp only at hSw); go_simp; try with_reducible rfl)
          try simp only [List.getElem_toArray, List.getElem_cons_zero, List.getElem_cons_succ, Act.put, List.setIfInBounds_toArray, List.set_cons_zero, List.set_cons_succ]
          clear inv
          have inv := invn
          clear invn
          refine F_take (i := 9) (v := ?_) rfl (by kernel_rfl) (by kernel_rfl) (by kernel_rfl) (fun _ _ _ h => h) inv (Or.inl ⟨by rfl, ?_⟩) (by assumption) (fun invn => ?_)
          rotate_left
          · (intro w hSw; (try dsimp only at hSw); go_simp; try with_reducible rfl)
          try simp only [List.getElem_toArray, List.getElem_cons_zero, List.getElem_cons_succ, Act.put, List.setIfInBounds_toArray, List.set_cons_zero, List.set_cons_succ]
          clear inv
          have inv := invn
          clear invn
          refine F_take (i := 10) (v := ?_) rfl (by kernel_rfl) (by kernel_rfl) (by kernel_rfl) (fun _ _ _ h => h) inv (Or.inl ⟨by rfl, ?_⟩) (by assumption) (fun invn => ?_)
          rotate_left
          · (intro w hSw; (try dsimp only at hSw); go_simp; try with_reducible rfl)
          try simp only [List.getElem_toArray, List.getElem_cons_zero, List.getElem_cons_succ, Act.put, List.setIfInBounds_toArray, List.set_cons_zero, List.set_cons_succ]
          clear inv
          have inv := invn
          clear invn
          have hS0 := hS
          refine F_two (i := 0) (j := 6) (by kernel_rfl) rfl rfl rfl rfl (by omega) inv (fun K hK => ?_) (fun K hK => ?_)
          all_goals (try simp only [List.getElem_toArray, List.getElem_cons_zero, List.getElem_cons_succ])
          · go_simp
            have hba := (Below.refl W6.drew.heap.size W6.drew).alloc (Nat.le_refl _) (.cells #[] 63)
            have hrow := World.ownsRow_lit (base := W6.drew.heap.size) (e := 63) (size := 2) W6.drew #[] 0 (Nat.le_refl _) (by decide) rfl
            have hsa := hba.size
            have HRL0 := Lib.hid hrow
            have HTK := Lib.hid ((HSD.out.below hba hwW6).takeP (m := k) (by omega))
            clear hrow
            refine hK.out _ _ (kB2 hba hS0) (fun hSn invn => ?_)
            try simp only [List.getElem_toArray, List.getElem_cons_zero, List.getElem_cons_succ, Act.put, List.setIfInBounds_toArray, List.set_cons_zero, List.set_cons_succ]
            clear hK K inv hS
            have inv := invn
            have hS := hSn
            clear invn hSn
            refine F_two (i := 4) (j := 6) (by kernel_rfl) rfl rfl rfl rfl (by omega) inv (fun K hK => ?_) (fun K hK => ?_)
            all_goals (try simp only [List.getElem_toArray, List.getElem_cons_zero, List.getElem_cons_succ])
            · refine op_appendL cPr elPair cPr_len cPr_one _ _ (by rfl) W6.drew.heap.size _ [] (l.take k) (by rfl) HRL0.out lo w.heap.size _ (by rfl) HTK.out (by simp; omega) (by omega) hsa ?_
              intro va wa hra hga hata
              simp only [List.nil_append] at hra
              have hbb := hba.trans (own_below HRL0.out hsa hga)
              have hbx := hbb.alloc hbb.size (.cells #[.int .i64 p.1, .int .i64 p.2] 63)
              have hbxs := hbx.size
              have HV := Lib.hid (hra.alloc (.cells #[.int .i64 p.1, .int .i64 p.2] 63))
              obtain ⟨H1, hH1⟩ : ∃ H1, H1 = wa.heap.size := ⟨_, rfl⟩
              have HLIT := Lib.hid (show (wa.alloc (.cells #[.int .i64 p.1, .int .i64 p.2] 63)).heap[H1]? = some (.cells (cPr p).toArray 63 (0, 0)) by rw [hH1]; exact heap_alloc_new _ _)
              clear hra hga hata
              refine hK.out _ _ (kB2 hbb hS0) (fun hSn invn => ?_)
              try simp only [List.getElem_toArray, List.getElem_cons_zero, List.getElem_cons_succ, Act.put, List.setIfInBounds_toArray, List.set_cons_zero, List.set_cons_succ]
              clear hK K inv hS
              have inv := invn
              have hS := hSn
              clear invn hSn
              refine F_one (i := 6) (by kernel_rfl) rfl rfl (by omega) inv (fun K hK => ?_)
              try simp only [List.getElem_toArray, List.getElem_cons_zero, List.getElem_cons_succ]
              go_simp
              rw [← hH1]
              refine hK.out _ _ (kB2 hbx hS0) (fun hSn invn => ?_)
              try simp only [List.getElem_toArray, List.getElem_cons_zero, List.getElem_cons_succ, Act.put, List.setIfInBounds_toArray, List.set_cons_zero, List.set_cons_succ]
              clear hK K inv hS
              have inv := invn
              have hS := hSn
              clear invn hSn
              clear hH1
              refine F_one (i := 7) (by kernel_rfl) rfl rfl (by omega) inv (fun K hK => ?_)
              try simp only [List.getElem_toArray, List.getElem_cons_zero, List.getElem_cons_succ]
              refine op_append1 cPr elPair rfl _ _ (by rfl) W6.drew.heap.size va (l.take k) p _ H1 (by rfl) HV.out (by rfl) HLIT.out rfl (cPr_one _) (by omega) (by omega) hbxs ?_
              intro g2 cp2 w3 hown3 hgr3 hat3 hlt3
              have hb3 := hbx.trans (own_below HV.out hbxs hgr3)
              have HOW3 := Lib.hid hown3
              have hs3 := hb3.size
              have HSD3 := Lib.hid (HSD.out.dropQ (k := k) hb3 hwW6 (by omega) hlc)
              clear hown3 hgr3 hat3
              refine hK.out _ _ (kB2 hb3 hS0) (fun hSn invn => ?_)
              try simp only [List.getElem_toArray, List.getElem_cons_zero, List.getElem_cons_succ, Act.put, List.setIfInBounds_toArray, List.set_cons_zero, List.set_cons_succ]
              clear hK K inv hS
              have inv := invn
              have hS := hSn
              clear invn hSn
              refine F_one (i := 11) (by kernel_rfl) rfl rfl (by omega) inv (fun K hK => ?_)
              try simp only [List.getElem_toArray, List.getElem_cons_zero, List.getElem_cons_succ]
              refine op_appendL cPr elPair cPr_len cPr_one _ _ (by rfl) W6.drew.heap.size (.slice (some ⟨g2, 0, none⟩) ((l.take k).length + 1) cp2) (l.take k ++ [p]) (l.drop k) (by rfl) HOW3.out lo w.heap.size (.slice (if c = k then some ⟨g, 0, none⟩ else some ⟨g, k * 2, none⟩) (l.length - k) (c - k)) (by rfl) HSD3.out (by omega) (by omega) hs3 ?_
              intro v5 w5 hown5 hgr5 hat5
              have hb5 := hb3.trans (own_below (base := W6.drew.heap.size) HOW3.out hs3 hgr5)
              rw [show l.take k ++ [p] ++ l.drop k = R from HPUT.out.symm] at hown5
              obtain ⟨g5, c5, rfl, -, -, -, -⟩ := own_some hown5 (by have := HRL.out; omega)
              have HSET := Lib.hid (show SetR lo w5 (.slice (some ⟨g5, 0, none⟩) R.length c5) R from ⟨g5, c5, rfl, ownsRow_mono hown5 hloW⟩)
              have HBF := Lib.hid (below_trans HBW6.out hb5)
              clear hown5 hgr5 hat5
              refine hK.out _ _ (kB2 hb5 hS0) (fun hSn invn => ?_)
              try simp only [List.getElem_toArray, List.getElem_cons_zero, List.getElem_cons_succ, Act.put, List.setIfInBounds_toArray, List.set_cons_zero, List.set_cons_succ]
              clear hK K inv hS
              have inv := invn
              have hS := hSn
              clear invn hSn
              refine F_last (i := 12) (by kernel_rfl) rfl rfl (by omega) (by kernel_rfl) (fun K hK => ?_)
              go_simp
              refine hK _ _ ?_
              clear hK K inv hS
              go_wp2_with fail
              all_goals go_ret
              all_goals exact ⟨_, rfl, HSET.out, HBF.out⟩
            · go_simp
              obtain ⟨H1, hH1⟩ : ∃ H1, H1 = W6.heap.size + 1 := ⟨_, rfl⟩
              have hbx0 := hba.alloc hsa (.cells #[.int .i64 p.1, .int .i64 p.2] 63)
              have HRL1 := Lib.hid (HRL0.out.alloc (.cells #[.int .i64 p.1, .int .i64 p.2] 63))
              have HTK1 := Lib.hid ((HSD.out.below hbx0 hwW6).takeP (m := k) (by omega))
              have hs0x := hbx0.size
              have HLT0 := Lib.hid (show ((W6.drew.alloc (.cells #[] 63)).alloc (.cells #[.int .i64 p.1, .int .i64 p.2] 63)).heap[H1]? = some (.cells (cPr p).toArray 63 (0, 0)) by
                have h := heap_alloc_new (W6.drew.alloc (.cells #[] 63)) (.cells #[.int .i64 p.1, .int .i64 p.2] 63)
                rw [show (W6.drew.alloc (.cells #[] 63)).heap.size = H1 by rw [hH1]; simp] at h
                exact h)
              have hH1l : H1 < ((W6.drew.alloc (.cells #[] 63)).alloc (.cells #[.int .i64 p.1, .int .i64 p.2] 63)).heap.size := by rw [hH1]; simp
              rw [← hH1]
              have hH1n : H1 ≠ W6.drew.heap.size := by rw [hH1]; simp
              have HH1n := Lib.hid hH1n
              have HH1l := Lib.hid hH1l
              clear hH1 hH1n hH1l
              refine hK.out _ _ (kB2 hbx0 hS0) (fun hSn invn => ?_)
              try simp only [List.getElem_toArray, List.getElem_cons_zero, List.getElem_cons_succ, Act.put, List.setIfInBounds_toArray, List.set_cons_zero, List.set_cons_succ]
              clear hK K inv hS
              have inv := invn
              have hS := hSn
              clear invn hSn
              refine F_one (i := 4) (by kernel_rfl) rfl rfl (by omega) inv (fun K hK => ?_)
              try simp only [List.getElem_toArray, List.getElem_cons_zero, List.getElem_cons_succ]
              refine op_appendL cPr elPair cPr_len cPr_one _ _ (by rfl) W6.drew.heap.size _ [] (l.take k) (by rfl) HRL1.out lo w.heap.size _ (by rfl) HTK1.out (by simp; omega) (by omega) hs0x ?_
              intro va wa hra hga hata
              simp only [List.nil_append] at hra
              have hbx := hbx0.trans (own_below HRL1.out hs0x hga)
              have hbxs := hbx.size
              have HV := Lib.hid hra
              have HLIT := Lib.hid ((hga.block H1 HH1l.out (fun e => by injection e with e; exact HH1n.out e)).trans HLT0.out)
              clear hra hga hata
              refine hK.out _ _ (kB2 hbx hS0) (fun hSn invn => ?_)
              try simp only [List.getElem_toArray, List.getElem_cons_zero, List.getElem_cons_succ, Act.put, List.setIfInBounds_toArray, List.set_cons_zero, List.set_cons_succ]
              clear hK K inv hS
              have inv := invn
              have hS := hSn
              clear invn hSn
              refine F_one (i := 7) (by kernel_rfl) rfl rfl (by omega) inv (fun K hK => ?_)
              try simp only [List.getElem_toArray, List.getElem_cons_zero, List.getElem_cons_succ]
              refine op_append1 cPr elPair rfl _ _ (by rfl) W6.drew.heap.size va (l.take k) p _ H1 (by rfl) HV.out (by rfl) HLIT.out rfl (cPr_one _) (by omega) (by omega) hbxs ?_
              intro g2 cp2 w3 hown3 hgr3 hat3 hlt3
              have hb3 := hbx.trans (own_below HV.out hbxs hgr3)
              have HOW3 := Lib.hid hown3
              have hs3 := hb3.size
              have HSD3 := Lib.hid (HSD.out.dropQ (k := k) hb3 hwW6 (by omega) hlc)
              clear hown3 hgr3 hat3
              refine hK.out _ _ (kB2 hb3 hS0) (fun hSn invn => ?_)
              try simp only [List.getElem_toArray, List.getElem_cons_zero, List.getElem_cons_succ, Act.put, List.setIfInBounds_toArray, List.set_cons_zero, List.set_cons_succ]
              clear hK K inv hS
              have inv := invn
              have hS := hSn
              clear invn hSn
              refine F_one (i := 11) (by kernel_rfl) rfl rfl (by omega) inv (fun K hK => ?_)
              try simp only [List.getElem_toArray, List.getElem_cons_zero, List.getElem_cons_succ]
              refine op_appendL cPr elPair cPr_len cPr_one _ _ (by rfl) W6.drew.heap.size (.slice (some ⟨g2, 0, none⟩) ((l.take k).length + 1) cp2) (l.take k ++ [p]) (l.drop k) (by rfl) HOW3.out lo w.heap.size (.slice (if c = k then some ⟨g, 0, none⟩ else some ⟨g, k * 2, none⟩) (l.length - k) (c - k)) (by rfl) HSD3.out (by omega) (by omega) hs3 ?_
              intro v5 w5 hown5 hgr5 hat5
              have hb5 := hb3.trans (own_below (base := W6.drew.heap.size) HOW3.out hs3 hgr5)
              rw [show l.take k ++ [p] ++ l.drop k = R from HPUT.out.symm] at hown5
              obtain ⟨g5, c5, rfl, -, -, -, -⟩ := own_some hown5 (by have := HRL.out; omega)
              have HSET := Lib.hid (show SetR lo w5 (.slice (some ⟨g5, 0, none⟩) R.length c5) R from ⟨g5, c5, rfl, ownsRow_mono hown5 hloW⟩)
              have HBF := Lib.hid (below_trans HBW6.out hb5)
              clear hown5 hgr5 hat5
              refine hK.out _ _ (kB2 hb5 hS0) (fun hSn invn => ?_)
              try simp only [List.getElem_toArray, List.getElem_cons_zero, List.getElem_cons_succ, Act.put, List.setIfInBounds_toArray, List.set_cons_zero, List.set_cons_succ]
              clear hK K inv hS
              have inv := invn
              have hS := hSn
              clear invn hSn
              refine F_last (i := 12) (by kernel_rfl) rfl rfl (by omega) (by kernel_rfl) (fun K hK => ?_)
              go_simp
              refine hK _ _ ?_
              clear hK K inv hS
              go_wp2_with fail
              all_goals go_ret
              all_goals exact ⟨_, rfl, HSET.out, HBF.out⟩
          · go_simp
            obtain ⟨H1, hH1⟩ : ∃ H1, H1 = W6.heap.size := ⟨_, rfl⟩
            have hba := (Below.refl W6.drew.heap.size W6.drew).alloc (Nat.le_refl _) (.cells #[.int .i64 p.1, .int .i64 p.2] 63)
            have hsa := hba.size
            have hH1l : H1 < (W6.drew.alloc (.cells #[.int .i64 p.1, .int .i64 p.2] 63)).heap.size := by rw [hH1]; simp
            have HLT0 := Lib.hid (show (W6.drew.alloc (.cells #[.int .i64 p.1, .int .i64 p.2] 63)).heap[H1]? = some (.cells (cPr p).toArray 63 (0, 0)) by rw [hH1]; exact heap_alloc_new _ _)
            refine hK.out _ _ (kB2 hba hS0) (fun hSn invn => ?_)
            try simp only [List.getElem_toArray, List.getElem_cons_zero, List.getElem_cons_succ, Act.put, List.setIfInBounds_toArray, List.set_cons_zero, List.set_cons_succ]
            clear hK K inv hS
            have inv := invn
            have hS := hSn
            clear invn hSn
            refine F_one (i := 0) (by kernel_rfl) rfl rfl (by omega) inv (fun K hK => ?_)
            try simp only [List.getElem_toArray, List.getElem_cons_zero, List.getElem_cons_succ]
            go_simp
            have hbx0 := hba.alloc hsa (.cells #[] 63)
            have hrl := World.ownsRow_lit (base := W6.drew.heap.size) (e := 63) (size := 2) (W6.drew.alloc (.cells #[.int .i64 p.1, .int .i64 p.2] 63)) #[] 0 hsa (by decide) rfl
            rw [show (W6.drew.alloc (.cells #[.int .i64 p.1, .int .i64 p.2] 63)).heap.size = H1 + 1 by rw [hH1]; simp] at hrl
            have HRL1 := Lib.hid hrl
            clear hrl
            have HTK1 := Lib.hid ((HSD.out.below hbx0 hwW6).takeP (m := k) (by omega))
            have hs0x := hbx0.size
            have HLT1 := Lib.hid ((Below.heap_alloc _ (.cells #[] 63) H1 hH1l).trans HLT0.out)
            have HH1l := Lib.hid (Nat.lt_of_lt_of_le hH1l (show (W6.drew.alloc (.cells #[.int .i64 p.1, .int .i64 p.2] 63)).heap.size ≤ ((W6.drew.alloc (.cells #[.int .i64 p.1, .int .i64 p.2] 63)).alloc (.cells #[] 63)).heap.size by simp))
            have HH1n := Lib.hid (show H1 ≠ H1 + 1 by omega)
            rw [← hH1]
            clear hH1 hH1l
            refine hK.out _ _ (kB2 hbx0 hS0) (fun hSn invn => ?_)
            try simp only [List.getElem_toArray, List.getElem_cons_zero, List.getElem_cons_succ, Act.put, List.setIfInBounds_toArray, List.set_cons_zero, List.set_cons_succ]
            clear hK K inv hS
            have inv := invn
            have hS := hSn
            clear invn hSn
            refine F_one (i := 4) (by kernel_rfl) rfl rfl (by omega) inv (fun K hK => ?_)
            try simp only [List.getElem_toArray, List.getElem_cons_zero, List.getElem_cons_succ]
            refine op_appendL cPr elPair cPr_len cPr_one _ _ (by rfl) W6.drew.heap.size _ [] (l.take k) (by rfl) HRL1.out lo w.heap.size _ (by rfl) HTK1.out (by simp; omega) (by omega) hs0x ?_
            intro va wa hra hga hata
            simp only [List.nil_append] at hra
            have hbx := hbx0.trans (own_below HRL1.out hs0x hga)
            have hbxs := hbx.size
            have HV := Lib.hid hra
            have HLIT := Lib.hid ((hga.block H1 HH1l.out (fun e => by injection e with e; exact HH1n.out e)).trans HLT1.out)
            clear hra hga hata
            refine hK.out _ _ (kB2 hbx hS0) (fun hSn invn => ?_)
            try simp only [List.getElem_toArray, List.getElem_cons_zero, List.getElem_cons_succ, Act.put, List.setIfInBounds_toArray, List.set_cons_zero, List.set_cons_succ]
            clear hK K inv hS
            have inv := invn
            have hS := hSn
            clear invn hSn
            refine F_one (i := 7) (by kernel_rfl) rfl rfl (by omega) inv (fun K hK => ?_)
            try simp only [List.getElem_toArray, List.getElem_cons_zero, List.getElem_cons_succ]
            refine op_append1 cPr elPair rfl _ _ (by rfl) W6.drew.heap.size va (l.take k) p _ H1 (by rfl) HV.out (by rfl) HLIT.out rfl (cPr_one _) (by omega) (by omega) hbxs ?_
            intro g2 cp2 w3 hown3 hgr3 hat3 hlt3
            have hb3 := hbx.trans (own_below HV.out hbxs hgr3)
            have HOW3 := Lib.hid hown3
            have hs3 := hb3.size
            have HSD3 := Lib.hid (HSD.out.dropQ (k := k) hb3 hwW6 (by omega) hlc)
            clear hown3 hgr3 hat3
            refine hK.out _ _ (kB2 hb3 hS0) (fun hSn invn => ?_)
            try simp only [List.getElem_toArray, List.getElem_cons_zero, List.getElem_cons_succ, Act.put, List.setIfInBounds_toArray, List.set_cons_zero, List.set_cons_succ]
            clear hK K inv hS
            have inv := invn
            have hS := hSn
            clear invn hSn
            refine F_one (i := 11) (by kernel_rfl) rfl rfl (by omega) inv (fun K hK => ?_)
            try simp only [List.getElem_toArray, List.getElem_cons_zero, List.getElem_cons_succ]
            refine op_appendL cPr elPair cPr_len cPr_one _ _ (by rfl) W6.drew.heap.size (.slice (some ⟨g2, 0, none⟩) ((l.take k).length + 1) cp2) (l.take k ++ [p]) (l.drop k) (by rfl) HOW3.out lo w.heap.size (.slice (if c = k then some ⟨g, 0, none⟩ else some ⟨g, k * 2, none⟩) (l.length - k) (c - k)) (by rfl) HSD3.out (by omega) (by omega) hs3 ?_
            intro v5 w5 hown5 hgr5 hat5
            have hb5 := hb3.trans (own_below (base := W6.drew.heap.size) HOW3.out hs3 hgr5)
            rw [show l.take k ++ [p] ++ l.drop k = R from HPUT.out.symm] at hown5
            obtain ⟨g5, c5, rfl, -, -, -, -⟩ := own_some hown5 (by have := HRL.out; omega)
            have HSET := Lib.hid (show SetR lo w5 (.slice (some ⟨g5, 0, none⟩) R.length c5) R from ⟨g5, c5, rfl, ownsRow_mono hown5 hloW⟩)
            have HBF := Lib.hid (below_trans HBW6.out hb5)
            clear hown5 hgr5 hat5
            refine hK.out _ _ (kB2 hb5 hS0) (fun hSn invn => ?_)
            try simp only [List.getElem_toArray, List.getElem_cons_zero, List.getElem_cons_succ, Act.put, List.setIfInBounds_toArray, List.set_cons_zero, List.set_cons_succ]
            clear hK K inv hS
            have inv := invn
            have hS := hSn
            clear invn hSn
            refine F_last (i := 12) (by kernel_rfl) rfl rfl (by omega) (by kernel_rfl) (fun K hK => ?_)
            go_simp
            refine hK _ _ ?_
            clear hK K inv hS
            go_wp2_with fail
            all_goals go_ret
            all_goals exact ⟨_, rfl, HSET.out, HBF.out⟩
    · have hkl0 : k = l.length := by omega
      have hput := putP_at (l := l) (p := p) (k := k) (by omega) HALL.out (fun y hy => by rw [hkl0, List.getElem?_eq_none (Nat.le_refl _)] at hy; cases hy)
      rw [show l[k]? = none by rw [hkl0, List.getElem?_eq_none (Nat.le_refl _)], if_neg (by simp)] at hput
      have HPUT := Lib.hid (show R = l.take k ++ [p] ++ l.drop k from HR.out.trans hput)
      have hdk : decide ((k : Int) < (l.length : Int)) = false := by simp; omega
      clear hput HALL HR hkl0
      go_wp2_with fail
      refine wp_region_ext_lit (by kernel_rfl) (by kernel_rfl) ?_
      repeat (go_big_quiet_step (fail))
      refine wpQuiet_nil ?_
      intro _ hw'
      obtain ⟨u2, hw''⟩ := hw'
      subst hw''
      obtain ⟨u4, hu4⟩ := ext_ext W0 u u2
      rw [hu4]
      clear hu4
      go_wp2_with fail
      refine wp_region_ext_lit (by kernel_rfl) (by kernel_rfl) ?_
      repeat (go_big_quiet_step (fail))
      refine wpQuiet_nil ?_
      intro _ hw'
      obtain ⟨u3, hw''⟩ := hw'
      subst hw''
      clear hdk
      obtain ⟨W6, hW6⟩ : ∃ W6, W6 = (ext (ext W0 u4) u3) := ⟨_, rfl⟩
      have hb6 : Below W0.heap.size W0 W6 := by rw [hW6]; exact (below_trans (ext_below _ _) (ext_below _ _))
      rw [← hW6]
      clear hW6
      have x0 := kcell hb6 x0
      have x1 := kcell hb6 x1
      have l6 := Nat.lt_of_lt_of_le l0 hb6.size
      have HSD := Lib.hid (show SlI lo w.heap.size W6.drew cPr 2 (.slice (some ⟨g, 0, none⟩) l.length c) l from HSL.out.below hb6.drew (by omega))
      have HBW6 := Lib.hid (show Below w.heap.size w W6.drew from (below_trans hb0 hb6).drew)
      have hwW6 : w.heap.size ≤ W6.drew.heap.size := HBW6.out.size
      have hloW : lo ≤ W6.drew.heap.size := by omega
      have hkl : (k : Int) ≤ (l.length : Int) := by omega
      have hkc : (k : Int) ≤ (c : Int) := by omega
      have htl : (l.take k).length ≤ l.length := by rw [List.length_take]; omega
      have hdl : (l.drop k).length ≤ l.length := by rw [List.length_drop]; omega
      have htd : (l.take k ++ [p]).length ≤ l.length + 1 := by rw [List.length_append]; simp only [List.length_cons, List.length_nil]; omega
      have HRL := Lib.hid (show R.length ≠ 0 by rw [HPUT.out]; simp)
      clear HSL HROW hb0 hb6
      go_wp2_with fail
      have hS1 := HSD.out
      clear hS1
      refine F_start 12 (fun w' => w'.cell? ⟨w.heap.size, 0, none⟩ = some (.int .i64 p.1) ∧ w'.cell? ⟨w.heap.size, 1, none⟩ = some (.int .i64 p.2)) (by kernel_rfl) (by exact ⟨x0, x1⟩) (fun hS inv => ?_)
      refine F_take (i := 1) (v := ?_) rfl (by kernel_rfl) (by kernel_rfl) (by kernel_rfl) (fun _ _ _ h => h) inv (Or.inl ⟨by rfl, ?_⟩) (by assumption) (fun invn => ?_)
      rotate_left
      · (intro w hSw; (try dsimp only at hSw); go_simp; try with_reducible rfl)
      try simp only [List.getElem_toArray, List.getElem_cons_zero, List.getElem_cons_succ, Act.put, List.setIfInBounds_toArray, List.set_cons_zero, List.set_cons_succ]
      clear inv
      have inv := invn
      clear invn
      refine F_take (i := 2) (v := ?_) rfl (by kernel_rfl) (by kernel_rfl) (by kernel_rfl) (fun _ _ _ h => h) inv (Or.inl ⟨by rfl, ?_⟩) (by assumption) (fun invn => ?_)
      rotate_left
      · (intro w hSw; (try dsimp only at hSw); go_simp; try with_reducible rfl)
      try simp only [List.getElem_toArray, List.getElem_cons_zero, List.getElem_cons_succ, Act.put, List.setIfInBounds_toArray, List.set_cons_zero, List.set_cons_succ]
      clear inv
      have inv := invn
      clear invn
      refine F_take (i := 3) (v := ?_) rfl (by kernel_rfl) (by kernel_rfl) (by kernel_rfl) (fun _ _ _ h => h) inv (Or.inl ⟨by rfl, ?_⟩) (by assumption) (fun invn => ?_)
      rotate_left
      · (intro w hSw; (try dsimp only at hSw); go_simp; try with_reducible rfl)
      try simp only [List.getElem_toArray, List.getElem_cons_zero, List.getElem_cons_succ, Act.put, List.setIfInBounds_toArray, List.set_cons_zero, List.set_cons_succ]
      clear inv
      have inv := invn
      clear invn
      refine F_take (i := 5) (v := ?_) rfl (by kernel_rfl) (by kernel_rfl) (by kernel_rfl) (fun _ _ _ h => h) inv (Or.inl ⟨by rfl, ?_⟩) (by assumption) (fun invn => ?_)
      rotate_left
      · (intro w hSw; (try dsimp only at hSw); go_simp; try with_reducible rfl)
      try simp only [List.getElem_toArray, List.getElem_cons_zero, List.getElem_cons_succ, Act.put, List.setIfInBounds_toArray, List.set_cons_zero, List.set_cons_succ]
      clear inv
      have inv := invn
      clear invn
      refine F_take (i := 8) (v := ?_) rfl (by kernel_rfl) (by kernel_rfl) (by kernel_rfl) (fun _ _ _ h => h) inv (Or.inl ⟨by rfl, ?_⟩) (by assumption) (fun invn => ?_)
      rotate_left
      · (intro w hSw; (try dsimp only at hSw); go_simp; try with_reducible rfl)
      try simp only [List.getElem_toArray, List.getElem_cons_zero, List.getElem_cons_succ, Act.put, List.setIfInBounds_toArray, List.set_cons_zero, List.set_cons_succ]
      clear inv
      have inv := invn
      clear invn
      refine F_take (i := 9) (v := ?_) rfl (by kernel_rfl) (by kernel_rfl) (by kernel_rfl) (fun _ _ _ h => h) inv (Or.inl ⟨by rfl, ?_⟩) (by assumption) (fun invn => ?_)
      rotate_left
      · (intro w hSw; (try dsimp only at hSw); go_simp; try with_reducible rfl)
      try simp only [List.getElem_toArray, List.getElem_cons_zero, List.getElem_cons_succ, Act.put, List.setIfInBounds_toArray, List.set_cons_zero, List.set_cons_succ]
      clear inv
      have inv := invn
      clear invn
      refine F_take (i := 10) (v := ?_) rfl (by kernel_rfl) (by kernel_rfl) (by kernel_rfl) (fun _ _ _ h => h) inv (Or.inl ⟨by rfl, ?_⟩) (by assumption) (fun invn => ?_)
      rotate_left
      · (intro w hSw; (try dsimp only at hSw); go_simp; try with_reducible rfl)
      try simp only [List.getElem_toArray, List.getElem_cons_zero, List.getElem_cons_succ, Act.put, List.setIfInBounds_toArray, List.set_cons_zero, List.set_cons_succ]
      clear inv
      have inv := invn
      clear invn
      have hS0 := hS
      refine F_two (i := 0) (j := 6) (by kernel_rfl) rfl rfl rfl rfl (by omega) inv (fun K hK => ?_) (fun K hK => ?_)
      all_goals (try simp only [List.getElem_toArray, List.getElem_cons_zero, List.getElem_cons_succ])
      · go_simp
        have hba := (Below.refl W6.drew.heap.size W6.drew).alloc (Nat.le_refl _) (.cells #[] 63)
        have hrow := World.ownsRow_lit (base := W6.drew.heap.size) (e := 63) (size := 2) W6.drew #[] 0 (Nat.le_refl _) (by decide) rfl
        have hsa := hba.size
        have HRL0 := Lib.hid hrow
        have HTK := Lib.hid ((HSD.out.below hba hwW6).takeP (m := k) (by omega))
        clear hrow
        refine hK.out _ _ (kB2 hba hS0) (fun hSn invn => ?_)
        try simp only [List.getElem_toArray, List.getElem_cons_zero, List.getElem_cons_succ, Act.put, List.setIfInBounds_toArray, List.set_cons_zero, List.set_cons_succ]
        clear hK K inv hS
        have inv := invn
        have hS := hSn
        clear invn hSn
        refine F_two (i := 4) (j := 6) (by kernel_rfl) rfl rfl rfl rfl (by omega) inv (fun K hK => ?_) (fun K hK => ?_)
        all_goals (try simp only [List.getElem_toArray, List.getElem_cons_zero, List.getElem_cons_succ])
        · refine op_appendL cPr elPair cPr_len cPr_one _ _ (by rfl) W6.drew.heap.size _ [] (l.take k) (by rfl) HRL0.out lo w.heap.size _ (by rfl) HTK.out (by simp; omega) (by omega) hsa ?_
          intro va wa hra hga hata
          simp only [List.nil_append] at hra
          have hbb := hba.trans (own_below HRL0.out hsa hga)
          have hbx := hbb.alloc hbb.size (.cells #[.int .i64 p.1, .int .i64 p.2] 63)
          have hbxs := hbx.size
          have HV := Lib.hid (hra.alloc (.cells #[.int .i64 p.1, .int .i64 p.2] 63))
          obtain ⟨H1, hH1⟩ : ∃ H1, H1 = wa.heap.size := ⟨_, rfl⟩
          have HLIT := Lib.hid (show (wa.alloc (.cells #[.int .i64 p.1, .int .i64 p.2] 63)).heap[H1]? = some (.cells (cPr p).toArray 63 (0, 0)) by rw [hH1]; exact heap_alloc_new _ _)
          clear hra hga hata
          refine hK.out _ _ (kB2 hbb hS0) (fun hSn invn => ?_)
          try simp only [List.getElem_toArray, List.getElem_cons_zero, List.getElem_cons_succ, Act.put, List.setIfInBounds_toArray, List.set_cons_zero, List.set_cons_succ]
          clear hK K inv hS
          have inv := invn
          have hS := hSn
          clear invn hSn
          refine F_one (i := 6) (by kernel_rfl) rfl rfl (by omega) inv (fun K hK => ?_)
          try simp only [List.getElem_toArray, List.getElem_cons_zero, List.getElem_cons_succ]
          go_simp
          rw [← hH1]
          refine hK.out _ _ (kB2 hbx hS0) (fun hSn invn => ?_)
          try simp only [List.getElem_toArray, List.getElem_cons_zero, List.getElem_cons_succ, Act.put, List.setIfInBounds_toArray, List.set_cons_zero, List.set_cons_succ]
          clear hK K inv hS
          have inv := invn
          have hS := hSn
          clear invn hSn
          clear hH1
          refine F_one (i := 7) (by kernel_rfl) rfl rfl (by omega) inv (fun K hK => ?_)
          try simp only [List.getElem_toArray, List.getElem_cons_zero, List.getElem_cons_succ]
          refine op_append1 cPr elPair rfl _ _ (by rfl) W6.drew.heap.size va (l.take k) p _ H1 (by rfl) HV.out (by rfl) HLIT.out rfl (cPr_one _) (by omega) (by omega) hbxs ?_
          intro g2 cp2 w3 hown3 hgr3 hat3 hlt3
          have hb3 := hbx.trans (own_below HV.out hbxs hgr3)
          have HOW3 := Lib.hid hown3
          have hs3 := hb3.size
          have HSD3 := Lib.hid (HSD.out.dropQ (k := k) hb3 hwW6 (by omega) hlc)
          clear hown3 hgr3 hat3
          refine hK.out _ _ (kB2 hb3 hS0) (fun hSn invn => ?_)
          try simp only [List.getElem_toArray, List.getElem_cons_zero, List.getElem_cons_succ, Act.put, List.setIfInBounds_toArray, List.set_cons_zero, List.set_cons_succ]
          clear hK K inv hS
          have inv := invn
          have hS := hSn
          clear invn hSn
          refine F_one (i := 11) (by kernel_rfl) rfl rfl (by omega) inv (fun K hK => ?_)
          try simp only [List.getElem_toArray, List.getElem_cons_zero, List.getElem_cons_succ]
          refine op_appendL cPr elPair cPr_len cPr_one _ _ (by rfl) W6.drew.heap.size (.slice (some ⟨g2, 0, none⟩) ((l.take k).length + 1) cp2) (l.take k ++ [p]) (l.drop k) (by rfl) HOW3.out lo w.heap.size (.slice (if c = k then some ⟨g, 0, none⟩ else some ⟨g, k * 2, none⟩) (l.length - k) (c - k)) (by rfl) HSD3.out (by omega) (by omega) hs3 ?_
          intro v5 w5 hown5 hgr5 hat5
          have hb5 := hb3.trans (own_below (base := W6.drew.heap.size) HOW3.out hs3 hgr5)
          rw [show l.take k ++ [p] ++ l.drop k = R from HPUT.out.symm] at hown5
          obtain ⟨g5, c5, rfl, -, -, -, -⟩ := own_some hown5 (by have := HRL.out; omega)
          have HSET := Lib.hid (show SetR lo w5 (.slice (some ⟨g5, 0, none⟩) R.length c5) R from ⟨g5, c5, rfl, ownsRow_mono hown5 hloW⟩)
          have HBF := Lib.hid (below_trans HBW6.out hb5)
          clear hown5 hgr5 hat5
          refine hK.out _ _ (kB2 hb5 hS0) (fun hSn invn => ?_)
          try simp only [List.getElem_toArray, List.getElem_cons_zero, List.getElem_cons_succ, Act.put, List.setIfInBounds_toArray, List.set_cons_zero, List.set_cons_succ]
          clear hK K inv hS
          have inv := invn
          have hS := hSn
          clear invn hSn
          refine F_last (i := 12) (by kernel_rfl) rfl rfl (by omega) (by kernel_rfl) (fun K hK => ?_)
          go_simp
          refine hK _ _ ?_
          clear hK K inv hS
          go_wp2_with fail
          all_goals go_ret
          all_goals exact ⟨_, rfl, HSET.out, HBF.out⟩
        · go_simp
          obtain ⟨H1, hH1⟩ : ∃ H1, H1 = W6.heap.size + 1 := ⟨_, rfl⟩
          have hbx0 := hba.alloc hsa (.cells #[.int .i64 p.1, .int .i64 p.2] 63)
          have HRL1 := Lib.hid (HRL0.out.alloc (.cells #[.int .i64 p.1, .int .i64 p.2] 63))
          have HTK1 := Lib.hid ((HSD.out.below hbx0 hwW6).takeP (m := k) (by omega))
          have hs0x := hbx0.size
          have HLT0 := Lib.hid (show ((W6.drew.alloc (.cells #[] 63)).alloc (.cells #[.int .i64 p.1, .int .i64 p.2] 63)).heap[H1]? = some (.cells (cPr p).toArray 63 (0, 0)) by
            have h := heap_alloc_new (W6.drew.alloc (.cells #[] 63)) (.cells #[.int .i64 p.1, .int .i64 p.2] 63)
            rw [show (W6.drew.alloc (.cells #[] 63)).heap.size = H1 by rw [hH1]; simp] at h
            exact h)
          have hH1l : H1 < ((W6.drew.alloc (.cells #[] 63)).alloc (.cells #[.int .i64 p.1, .int .i64 p.2] 63)).heap.size := by rw [hH1]; simp
          rw [← hH1]
          have hH1n : H1 ≠ W6.drew.heap.size := by rw [hH1]; simp
          have HH1n := Lib.hid hH1n
          have HH1l := Lib.hid hH1l
          clear hH1 hH1n hH1l
          refine hK.out _ _ (kB2 hbx0 hS0) (fun hSn invn => ?_)
          try simp only [List.getElem_toArray, List.getElem_cons_zero, List.getElem_cons_succ, Act.put, List.setIfInBounds_toArray, List.set_cons_zero, List.set_cons_succ]
          clear hK K inv hS
          have inv := invn
          have hS := hSn
          clear invn hSn
          refine F_one (i := 4) (by kernel_rfl) rfl rfl (by omega) inv (fun K hK => ?_)
          try simp only [List.getElem_toArray, List.getElem_cons_zero, List.getElem_cons_succ]
          refine op_appendL cPr elPair cPr_len cPr_one _ _ (by rfl) W6.drew.heap.size _ [] (l.take k) (by rfl) HRL1.out lo w.heap.size _ (by rfl) HTK1.out (by simp; omega) (by omega) hs0x ?_
          intro va wa hra hga hata
          simp only [List.nil_append] at hra
          have hbx := hbx0.trans (own_below HRL1.out hs0x hga)
          have hbxs := hbx.size
          have HV := Lib.hid hra
          have HLIT := Lib.hid ((hga.block H1 HH1l.out (fun e => by injection e with e; exact HH1n.out e)).trans HLT0.out)
          clear hra hga hata
          refine hK.out _ _ (kB2 hbx hS0) (fun hSn invn => ?_)
          try simp only [List.getElem_toArray, List.getElem_cons_zero, List.getElem_cons_succ, Act.put, List.setIfInBounds_toArray, List.set_cons_zero, List.set_cons_succ]
          clear hK K inv hS
          have inv := invn
          have hS := hSn
          clear invn hSn
          refine F_one (i := 7) (by kernel_rfl) rfl rfl (by omega) inv (fun K hK => ?_)
          try simp only [List.getElem_toArray, List.getElem_cons_zero, List.getElem_cons_succ]
          refine op_append1 cPr elPair rfl _ _ (by rfl) W6.drew.heap.size va (l.take k) p _ H1 (by rfl) HV.out (by rfl) HLIT.out rfl (cPr_one _) (by omega) (by omega) hbxs ?_
          intro g2 cp2 w3 hown3 hgr3 hat3 hlt3
          have hb3 := hbx.trans (own_below HV.out hbxs hgr3)
          have HOW3 := Lib.hid hown3
          have hs3 := hb3.size
          have HSD3 := Lib.hid (HSD.out.dropQ (k := k) hb3 hwW6 (by omega) hlc)
          clear hown3 hgr3 hat3
          refine hK.out _ _ (kB2 hb3 hS0) (fun hSn invn => ?_)
          try simp only [List.getElem_toArray, List.getElem_cons_zero, List.getElem_cons_succ, Act.put, List.setIfInBounds_toArray, List.set_cons_zero, List.set_cons_succ]
          clear hK K inv hS
          have inv := invn
          have hS := hSn
          clear invn hSn
          refine F_one (i := 11) (by kernel_rfl) rfl rfl (by omega) inv (fun K hK => ?_)
          try simp only [List.getElem_toArray, List.getElem_cons_zero, List.getElem_cons_succ]
          refine op_appendL cPr elPair cPr_len cPr_one _ _ (by rfl) W6.drew.heap.size (.slice (some ⟨g2, 0, none⟩) ((l.take k).length + 1) cp2) (l.take k ++ [p]) (l.drop k) (by rfl) HOW3.out lo w.heap.size (.slice (if c = k then some ⟨g, 0, none⟩ else some ⟨g, k * 2, none⟩) (l.length - k) (c - k)) (by rfl) HSD3.out (by omega) (by omega) hs3 ?_
          intro v5 w5 hown5 hgr5 hat5
          have hb5 := hb3.trans (own_below (base := W6.drew.heap.size) HOW3.out hs3 hgr5)
          rw [show l.take k ++ [p] ++ l.drop k = R from HPUT.out.symm] at hown5
          obtain ⟨g5, c5, rfl, -, -, -, -⟩ := own_some hown5 (by have := HRL.out; omega)
          have HSET := Lib.hid (show SetR lo w5 (.slice (some ⟨g5, 0, none⟩) R.length c5) R from ⟨g5, c5, rfl, ownsRow_mono hown5 hloW⟩)
          have HBF := Lib.hid (below_trans HBW6.out hb5)
          clear hown5 hgr5 hat5
          refine hK.out _ _ (kB2 hb5 hS0) (fun hSn invn => ?_)
          try simp only [List.getElem_toArray, List.getElem_cons_zero, List.getElem_cons_succ, Act.put, List.setIfInBounds_toArray, List.set_cons_zero, List.set_cons_succ]
          clear hK K inv hS
          have inv := invn
          have hS := hSn
          clear invn hSn
          refine F_last (i := 12) (by kernel_rfl) rfl rfl (by omega) (by kernel_rfl) (fun K hK => ?_)
          go_simp
          refine hK _ _ ?_
          clear hK K inv hS
          go_wp2_with fail
          all_goals go_ret
          all_goals exact ⟨_, rfl, HSET.out, HBF.out⟩
      · go_simp
        obtain ⟨H1, hH1⟩ : ∃ H1, H1 = W6.heap.size := ⟨_, rfl⟩
        have hba := (Below.refl W6.drew.heap.size W6.drew).alloc (Nat.le_refl _) (.cells #[.int .i64 p.1, .int .i64 p.2] 63)
        have hsa := hba.size
        have hH1l : H1 < (W6.drew.alloc (.cells #[.int .i64 p.1, .int .i64 p.2] 63)).heap.size := by rw [hH1]; simp
        have HLT0 := Lib.hid (show (W6.drew.alloc (.cells #[.int .i64 p.1, .int .i64 p.2] 63)).heap[H1]? = some (.cells (cPr p).toArray 63 (0, 0)) by rw [hH1]; exact heap_alloc_new _ _)
        refine hK.out _ _ (kB2 hba hS0) (fun hSn invn => ?_)
        try simp only [List.getElem_toArray, List.getElem_cons_zero, List.getElem_cons_succ, Act.put, List.setIfInBounds_toArray, List.set_cons_zero, List.set_cons_succ]
        clear hK K inv hS
        have inv := invn
        have hS := hSn
        clear invn hSn
        refine F_one (i := 0) (by kernel_rfl) rfl rfl (by omega) inv (fun K hK => ?_)
        try simp only [List.getElem_toArray, List.getElem_cons_zero, List.getElem_cons_succ]
        go_simp
        have hbx0 := hba.alloc hsa (.cells #[] 63)
        have hrl := World.ownsRow_lit (base := W6.drew.heap.size) (e := 63) (size := 2) (W6.drew.alloc (.cells #[.int .i64 p.1, .int .i64 p.2] 63)) #[] 0 hsa (by decide) rfl
        rw [show (W6.drew.alloc (.cells #[.int .i64 p.1, .int .i64 p.2] 63)).heap.size = H1 + 1 by rw [hH1]; simp] at hrl
        have HRL1 := Lib.hid hrl
        clear hrl
        have HTK1 := Lib.hid ((HSD.out.below hbx0 hwW6).takeP (m := k) (by omega))
        have hs0x := hbx0.size
        have HLT1 := Lib.hid ((Below.heap_alloc _ (.cells #[] 63) H1 hH1l).trans HLT0.out)
        have HH1l := Lib.hid (Nat.lt_of_lt_of_le hH1l (show (W6.drew.alloc (.cells #[.int .i64 p.1, .int .i64 p.2] 63)).heap.size ≤ ((W6.drew.alloc (.cells #[.int .i64 p.1, .int .i64 p.2] 63)).alloc (.cells #[] 63)).heap.size by simp))
        have HH1n := Lib.hid (show H1 ≠ H1 + 1 by omega)
        rw [← hH1]
        clear hH1 hH1l
        refine hK.out _ _ (kB2 hbx0 hS0) (fun hSn invn => ?_)
        try simp only [List.getElem_toArray, List.getElem_cons_zero, List.getElem_cons_succ, Act.put, List.setIfInBounds_toArray, List.set_cons_zero, List.set_cons_succ]
        clear hK K inv hS
        have inv := invn
        have hS := hSn
        clear invn hSn
        refine F_one (i := 4) (by kernel_rfl) rfl rfl (by omega) inv (fun K hK => ?_)
        try simp only [List.getElem_toArray, List.getElem_cons_zero, List.getElem_cons_succ]
        refine op_appendL cPr elPair cPr_len cPr_one _ _ (by rfl) W6.drew.heap.size _ [] (l.take k) (by rfl) HRL1.out lo w.heap.size _ (by rfl) HTK1.out (by simp; omega) (by omega) hs0x ?_
        intro va wa hra hga hata
        simp only [List.nil_append] at hra
        have hbx := hbx0.trans (own_below HRL1.out hs0x hga)
        have hbxs := hbx.size
        have HV := Lib.hid hra
        have HLIT := Lib.hid ((hga.block H1 HH1l.out (fun e => by injection e with e; exact HH1n.out e)).trans HLT1.out)
        clear hra hga hata
        refine hK.out _ _ (kB2 hbx hS0) (fun hSn invn => ?_)
        try simp only [List.getElem_toArray, List.getElem_cons_zero, List.getElem_cons_succ, Act.put, List.setIfInBounds_toArray, List.set_cons_zero, List.set_cons_succ]
        clear hK K inv hS
        have inv := invn
        have hS := hSn
        clear invn hSn
        refine F_one (i := 7) (by kernel_rfl) rfl rfl (by omega) inv (fun K hK => ?_)
        try simp only [List.getElem_toArray, List.getElem_cons_zero, List.getElem_cons_succ]
        refine op_append1 cPr elPair rfl _ _ (by rfl) W6.drew.heap.size va (l.take k) p _ H1 (by rfl) HV.out (by rfl) HLIT.out rfl (cPr_one _) (by omega) (by omega) hbxs ?_
        intro g2 cp2 w3 hown3 hgr3 hat3 hlt3
        have hb3 := hbx.trans (own_below HV.out hbxs hgr3)
        have HOW3 := Lib.hid hown3
        have hs3 := hb3.size
        have HSD3 := Lib.hid (HSD.out.dropQ (k := k) hb3 hwW6 (by omega) hlc)
        clear hown3 hgr3 hat3
        refine hK.out _ _ (kB2 hb3 hS0) (fun hSn invn => ?_)
        try simp only [List.getElem_toArray, List.getElem_cons_zero, List.getElem_cons_succ, Act.put, List.setIfInBounds_toArray, List.set_cons_zero, List.set_cons_succ]
        clear hK K inv hS
        have inv := invn
        have hS := hSn
        clear invn hSn
        refine F_one (i := 11) (by kernel_rfl) rfl rfl (by omega) inv (fun K hK => ?_)
        try simp only [List.getElem_toArray, List.getElem_cons_zero, List.getElem_cons_succ]
        refine op_appendL cPr elPair cPr_len cPr_one _ _ (by rfl) W6.drew.heap.size (.slice (some ⟨g2, 0, none⟩) ((l.take k).length + 1) cp2) (l.take k ++ [p]) (l.drop k) (by rfl) HOW3.out lo w.heap.size (.slice (if c = k then some ⟨g, 0, none⟩ else some ⟨g, k * 2, none⟩) (l.length - k) (c - k)) (by rfl) HSD3.out (by omega) (by omega) hs3 ?_
        intro v5 w5 hown5 hgr5 hat5
        have hb5 := hb3.trans (own_below (base := W6.drew.heap.size) HOW3.out hs3 hgr5)
        rw [show l.take k ++ [p] ++ l.drop k = R from HPUT.out.symm] at hown5
        obtain ⟨g5, c5, rfl, -, -, -, -⟩ := own_some hown5 (by have := HRL.out; omega)
        have HSET := Lib.hid (show SetR lo w5 (.slice (some ⟨g5, 0, none⟩) R.length c5) R from ⟨g5, c5, rfl, ownsRow_mono hown5 hloW⟩)
        have HBF := Lib.hid (below_trans HBW6.out hb5)
        clear hown5 hgr5 hat5
        refine hK.out _ _ (kB2 hb5 hS0) (fun hSn invn => ?_)
        try simp only [List.getElem_toArray, List.getElem_cons_zero, List.getElem_cons_succ, Act.put, List.setIfInBounds_toArray, List.set_cons_zero, List.set_cons_succ]
        clear hK K inv hS
        have inv := invn
        have hS := hSn
        clear invn hSn
        refine F_last (i := 12) (by kernel_rfl) rfl rfl (by omega) (by kernel_rfl) (fun K hK => ?_)
        go_simp
        refine hK _ _ ?_
        clear hK K inv hS
        go_wp2_with fail
        all_goals go_ret
        all_goals exact ⟨_, rfl, HSET.out, HBF.out⟩
end Go.Proofs.YtpbfdmfkmbdpkaaGreat
namespace Go.Proofs.YtpbfdmfkmbdpkaaGreat
set_option linter.unusedVariables false
set_option linter.unusedSimpArgs false
open Go.ChangeShapes Go.WideShapes Go.ChangeAt Go.RowKit
attribute [local go_sem] ext_cell ext_frozen ext_lt ext_lt1 ext_lt2 ext_lt3 ltn2 ltn3 ltn13 lts1 lts2 lts3
def inP (b : List Pr) (p : Pr) : Bool := decide (p ∈ b)
def subL (a b : List Pr) : List Pr := psetL (a.filter fun p => !inP b p)
theorem subL_len (a b : List Pr) : (subL a b).length ≤ a.length := Nat.le_trans (psetL_len _) (List.length_filter_le _ _)
theorem subL_pset (a b : List Pr) : (psetL a).filter (fun p => !inP b p) = subL a b := by
  refine uniqP ?_ (psetL_asc _) fun x => ?_
  · exact (psetL_asc a).sublist List.filter_sublist
  · rw [subL, mem_psetL, List.mem_filter, List.mem_filter, mem_psetL]
set_option maxHeartbeats 2000000 in
theorem l15Has_any (v : Value) (l : List Pr) (p : Pr) (w : World) (hv : SlE w cPr 2 v l) :
    Calls Tryz.prog 67 #[v, .agg #[.int .i64 p.1, .int .i64 p.2]] w fun e w' => e = .returned (.bool (inP l p)) ∧ Below w.heap.size w w' := by
  have hs := hv
  obtain ⟨A, c, rfl, hl, hm, -⟩ := hv
  unfold maxLen at hm
  have HS := Lib.hid hs
  obtain ⟨pa, pb⟩ := p
  obtain ⟨R, hR⟩ : ∃ R, R = inP l (pa, pb) := ⟨_, rfl⟩
  have HRT := Lib.hid (fun (h : ((pa, pb) : Pr) ∈ l) => show R = true by rw [hR, inP]; simpa using h)
  have HRF := Lib.hid (fun (h : ¬ ((pa, pb) : Pr) ∈ l) => show R = false by rw [hR, inP]; simpa using h)
  simp only
  rw [← hR]
  clear hs hR
  have hb0 : Below w.heap.size w (w.alloc (.cells #[.int .i64 pa, .int .i64 pb] 63)) := (Below.refl _ _).alloc (Nat.le_refl _) _
  have bZ := Blk.new w 63 #[.int .i64 pa, .int .i64 pb] w.heap.size rfl
  go_enter Tryz.func67, Tryz.ntmps67
  go_wp2_with fail
  obtain ⟨W1, hW1⟩ : ∃ W1, W1 = w.alloc (.cells #[.int .i64 pa, .int .i64 pb] 63) := ⟨_, rfl⟩
  rw [← hW1] at hb0 bZ ⊢
  have z0 : W1.cell? ⟨w.heap.size, 0, none⟩ = some (.int .i64 pa) := bZ.cell 0
  have z1 : W1.cell? ⟨w.heap.size, 1, none⟩ = some (.int .i64 pb) := bZ.cell 1
  have lz := bZ.lt
  have HB0 := Lib.hid hb0
  clear hW1 hb0 bZ
  go_loopw [5] (fun ii wr => ∃ (i : Nat) (u : World), i ≤ l.length ∧ ii = .int .i64 (i : Int) ∧ (∀ j q, j < i → l[j]? = some q → q ≠ ((pa, pb) : Pr)) ∧ wr = ext W1 u) (fun ii _ => l.length - (intOf ii).toNat)
  case atStart => exact ⟨0, W1, Nat.zero_le _, rfl, fun j q hj => by omega, ext_self _⟩
  case round =>
    obtain ⟨i, u, hi, rfl, hno, rfl⟩ := hrel
    by_cases hlt : i < l.length
    · have hxi : l[i]? = some l[i] := List.getElem?_eq_getElem hlt
      generalize l[i] = x at hxi
      obtain ⟨b', o, rfl, ⟨-, hb⟩, d0, d1⟩ := HS.out.prA hxi
      obtain ⟨xa, xb⟩ := x
      simp only at d0 d1
      have d0 := kcell HB0.out d0
      have d1 := kcell HB0.out d1
      have hbw : b' < W1.heap.size := by omega
      have hii : (i : Int) < (l.length : Int) := by omega
      have HMEM := Lib.hid (List.mem_of_getElem? hxi)
      have HNX := Lib.hid (fun (h : ((xa, xb) : Pr) ≠ (pa, pb)) j q (hj : j < i + 1) (hq : l[j]? = some q) => show q ≠ ((pa, pb) : Pr) from by
        rcases Nat.lt_or_ge j i with h1 | h1
        · exact hno j q h1 hq
        · obtain rfl : j = i := by omega
          rw [hxi] at hq
          injection hq with hq
          rw [← hq]; exact h)
      obtain ⟨bb, hbb⟩ : ∃ bb, bb = decide (((xa, xb) : Pr) = (pa, pb)) := ⟨_, rfl⟩
      have HEQ := Lib.hid (fun w => eqlPr xa xb pa pb w)
      rw [← hbb] at HEQ
      have HBB := Lib.hid hbb
      have heq := HEQ.out
      clear hbb hxi hno
      cases bb with
      | true =>
        have HFN := Lib.hid (HRT.out (by have h : ((xa, xb) : Pr) = (pa, pb) := of_decide_eq_true HBB.out.symm; rw [← h]; exact HMEM.out))
        go_wp2_with fail
        refine wp_region_ext_lit (by kernel_rfl) (by kernel_rfl) ?_
        repeat (go_big_quiet_step (fail))
        refine wpQuiet_nil ?_
        intro _ hw'
        obtain ⟨u2, hw''⟩ := hw'
        subst hw''
        have hbf := below_trans HB0.out (below_trans (ext_below W1 u) (ext_below (ext W1 u) u2))
        go_wp2_with fail
        go_ret
        exact ⟨by rw [HFN.out]; rfl, hbf⟩
      | false =>
        have HNY := Lib.hid (HNX.out (of_decide_eq_false HBB.out.symm))
        go_wp2_with fail
        refine wp_region_ext_lit (by kernel_rfl) (by kernel_rfl) ?_
        repeat (go_big_quiet_step (fail))
        refine wpQuiet_nil ?_
        intro _ hw'
        obtain ⟨u2, hw''⟩ := hw'
        subst hw''
        obtain ⟨u4, hu4⟩ := ext_ext W1 u u2
        rw [hu4]
        clear hu4
        go_wp2_with fail
        go_roundw
        case rel => exact ⟨i + 1, u4, by omega, by go_num, HNY.out, rfl⟩
        case measure => simp [intOf]; omega
    · have HFN := Lib.hid (HRF.out (fun h => by
        obtain ⟨j, hj⟩ := List.getElem?_of_mem h
        exact hno j _ (by have := (List.getElem?_eq_some_iff.1 hj).1; omega) hj rfl))
      have hii : ¬ (i : Int) < (l.length : Int) := by omega
      have hbf := below_trans HB0.out (ext_below W1 u)
      clear hno
      go_wp2_with fail
      go_ret
      exact ⟨by rw [HFN.out]; rfl, hbf⟩
theorem filt_yes {a : List Pr} {f : Pr → Bool} {i : Nat} {x : Pr} (h : a[i]? = some x) (hf : f x = true) : (a.take (i + 1)).filter f = (a.take i).filter f ++ [x] := by
  rw [take_snoc h, List.filter_append]; simp [hf]
theorem filt_no {a : List Pr} {f : Pr → Bool} {i : Nat} {x : Pr} (h : a[i]? = some x) (hf : f x = false) : (a.take (i + 1)).filter f = (a.take i).filter f := by
  rw [take_snoc h, List.filter_append]; simp [hf]
set_option maxHeartbeats 2000000 in
set_option maxRecDepth 100000 in
theorem specSubtract (va vb : Value) (a b : List Pr) (w : World) (hva : SlE w cPr 2 va a) (hvb : SlE w cPr 2 vb b) (hna : a.length ≤ 1048576) :
    Calls Tryz.prog 48 #[va, vb] w fun e w' => ∃ v', e = .returned v' ∧ Own w.heap.size w'.heap.size w' 63 cPr 2 v' (subL a b) ∧ Below w.heap.size w w' := by
  have hsa := hva
  have hsb := hvb
  obtain ⟨A, ca, rfl, hla, hma, -⟩ := hva
  obtain ⟨B, cb, rfl, hlb, hmb, -⟩ := hvb
  unfold maxLen at hma hmb
  obtain ⟨R, hR⟩ : ∃ R, R = subL a b := ⟨_, rfl⟩
  rw [← hR]
  have HR := Lib.hid hR
  have HSA := Lib.hid hsa
  have HSB := Lib.hid hsb
  have HHAS := Lib.hid (fun (p : Pr) (W : World) (hW : Below w.heap.size w W) => l15Has_any _ b p W (SlE.keep hsb hW))
  clear hR hsa hsb
  go_enter Tryz.func48, Tryz.ntmps48
  go_wp2_with fail
  go_loopw [5, 6] (fun oo ii wr => ∃ i : Nat, i ≤ a.length ∧ ii = .int .i64 (i : Int) ∧ SetR w.heap.size wr oo (psetL ((a.take i).filter fun p => !inP b p)) ∧ Below w.heap.size w wr) (fun _ ii _ => a.length - (intOf ii).toNat)
  case atStart => exact ⟨0, Nat.zero_le _, rfl, SetR.lit w _ (Nat.le_refl _), (Below.refl _ _).alloc (Nat.le_refl _) _⟩
  case round =>
    obtain ⟨i, hi, rfl, hset, hbel⟩ := hrel
    have HSET := Lib.hid hset
    have hsz := hbel.size
    clear hset
    by_cases hlt : i < a.length
    · have hxi : a[i]? = some a[i] := List.getElem?_eq_getElem hlt
      generalize a[i] = x at hxi
      obtain ⟨b', o, rfl, ⟨-, hb⟩, d0, d1⟩ := HSA.out.prA hxi
      have d0 := kcell hbel d0
      have d1 := kcell hbel d1
      obtain ⟨xa, xb⟩ := x
      simp only at d0 d1
      have hbw : b' < wr.heap.size := by omega
      have hii : (i : Int) < (a.length : Int) := by omega
      have HY := Lib.hid (fun (h : inP b (xa, xb) = false) => show psetL ((a.take (i + 1)).filter fun p => !inP b p) = putP (psetL ((a.take i).filter fun p => !inP b p)) (xa, xb) from by rw [filt_yes hxi (by rw [h]; rfl), psetL_snoc])
      have HN := Lib.hid (fun (h : inP b (xa, xb) = true) => show psetL ((a.take (i + 1)).filter fun p => !inP b p) = psetL ((a.take i).filter fun p => !inP b p) from by rw [filt_no hxi (by rw [h]; rfl)])
      have hpl : (psetL ((a.take i).filter fun p => !inP b p)).length ≤ 2097152 := Nat.le_trans (psetL_len _) (Nat.le_trans (List.length_filter_le _ _) (by simp only [List.length_take]; omega))
      clear hxi
      generalize psetL ((a.take i).filter fun p => !inP b p) = L at *
      go_wp2_with fail
      refine (HHAS.out (xa, xb) _ hbel).mono ?_
      rintro e w3 ⟨rfl, hb3⟩
      have hbel3 := below_trans hbel hb3
      have HS3 := Lib.hid (HSET.out.below hb3)
      have hsz3 := hbel3.size
      have d0 := kcell hb3 d0
      have d1 := kcell hb3 d1
      have hbw3 : b' < w3.heap.size := by have := hb3.size; omega
      cases hc : inP b (xa, xb) with
      | true =>
        have HM := Lib.hid (HN.out hc)
        clear hc hb3
        go_wp2_with fail
        go_roundw
        case rel => exact ⟨i + 1, by omega, by go_num, by rw [HM.out]; exact HS3.out, hbel3⟩
        case measure => simp [intOf]; omega
      | false =>
        have HM := Lib.hid (HY.out hc)
        have HP := Lib.hid (l15Put_any _ w.heap.size L (xa, xb) w3 HS3.out hsz3 (by omega))
        clear hc hb3
        go_wp2_with fail
        refine HP.out.mono ?_
        rintro e w4 ⟨v4, rfl, hs4, hb4⟩
        have HS4 := Lib.hid hs4
        have HB4 := Lib.hid (hbel3.trans (hb4.mono hsz3))
        clear hs4 hb4
        go_wp2_with fail
        go_roundw
        case rel => exact ⟨i + 1, by omega, by go_num, by rw [HM.out]; exact HS4.out, HB4.out⟩
        case measure => simp [intOf]; omega
    · obtain rfl : i = a.length := by omega
      rw [List.take_length] at HSET
      have HO := Lib.hid (show Own w.heap.size wr.heap.size wr 63 cPr 2 _ R from by rw [HR.out]; exact HSET.out.own)
      obtain ⟨g, c', rfl, -⟩ := HSET.out
      go_wp2_with fail
      go_ret
      exact ⟨_, rfl, HO.out, hbel⟩
end Go.Proofs.YtpbfdmfkmbdpkaaGreat
namespace Go.Proofs.YtpbfdmfkmbdpkaaGreat
set_option linter.unusedVariables false
set_option linter.unusedSimpArgs false
/-- a goal is n steps away from i -/
def toG (next : Nat → List Nat) (goal : Nat → Prop) : Nat → Nat → Prop
  | 0, i => goal i
  | n + 1, i => ∃ k ∈ next i, toG next goal n k
def IsDist (next : Nat → List Nat) (goal : Nat → Prop) (i : Nat) (d : Int) : Prop :=
  (d = -1 ∧ ∀ n, ¬ toG next goal n i) ∨ (0 ≤ d ∧ toG next goal d.toNat i ∧ ∀ m : Nat, m < d.toNat → ¬ toG next goal m i)
theorem IsDist.uniq {next : Nat → List Nat} {goal : Nat → Prop} {i : Nat} {d e : Int} (h : IsDist next goal i d) (k : IsDist next goal i e) : d = e := by
  rcases h with ⟨rfl, h⟩ | ⟨h0, h1, h2⟩
  · rcases k with ⟨rfl, _⟩ | ⟨_, k1, _⟩
    · rfl
    · exact absurd k1 (h _)
  · rcases k with ⟨rfl, k⟩ | ⟨k0, k1, k2⟩
    · exact absurd h1 (k _)
    · rcases Nat.lt_trichotomy d.toNat e.toNat with hlt | heq | hgt
      · exact absurd h1 (k2 _ hlt)
      · omega
      · exact absurd k1 (h2 _ hgt)
section
variable {prev next : Nat → List Nat} {goal : Nat → Prop} {N : Nat} {D : List Int} {q : List Nat}
structure BO (prev next : Nat → List Nat) (goal : Nat → Prop) (N : Nat) (D : List Int) (q : List Nat) : Prop where
  len : D.length = N
  sound : ∀ i, i < N → 0 ≤ D.getD i 0 → toG next goal (D.getD i 0).toNat i
  src : ∀ i, i < N → goal i → D.getD i 0 = 0
  done : ∀ k, k < N → 0 ≤ D.getD k 0 → k ∉ q → ∀ i ∈ prev k, 0 ≤ D.getD i 0 ∧ D.getD i 0 ≤ D.getD k 0 + 1
  top : ∀ h r, q = h :: r → ∀ i, i < N → D.getD i 0 ≤ D.getD h 0 + 1
  sorted : q.Pairwise (fun a b => D.getD a 0 ≤ D.getD b 0)
  qN : ∀ x ∈ q, x < N ∧ 0 ≤ D.getD x 0
  low : ∀ i, i < N → -1 ≤ D.getD i 0
structure BI (prev next : Nat → List Nat) (goal : Nat → Prop) (N : Nat) (D : List Int) (q : List Nat) (h : Nat) (l : List Nat) : Prop where
  len : D.length = N
  hN : h < N
  hD : 0 ≤ D.getD h 0
  sound : ∀ i, i < N → 0 ≤ D.getD i 0 → toG next goal (D.getD i 0).toNat i
  src : ∀ i, i < N → goal i → D.getD i 0 = 0
  done : ∀ k, k < N → 0 ≤ D.getD k 0 → k ∉ q → k ≠ h → ∀ i ∈ prev k, 0 ≤ D.getD i 0 ∧ D.getD i 0 ≤ D.getD k 0 + 1
  here : ∀ i ∈ prev h, i ∈ l ∨ (0 ≤ D.getD i 0 ∧ D.getD i 0 ≤ D.getD h 0 + 1)
  top : ∀ i, i < N → D.getD i 0 ≤ D.getD h 0 + 1
  qs : ∀ x ∈ q, D.getD h 0 ≤ D.getD x 0
  sorted : q.Pairwise (fun a b => D.getD a 0 ≤ D.getD b 0)
  qN : ∀ x ∈ q, x < N ∧ 0 ≤ D.getD x 0
  low : ∀ i, i < N → -1 ≤ D.getD i 0
theorem BO.enter {h : Nat} (b : BO prev next goal N D (h :: q)) : BI prev next goal N D q h (prev h) :=
  ⟨b.len, (b.qN h (by simp)).1, (b.qN h (by simp)).2, b.sound, b.src, fun k hk h0 hq hh => b.done k hk h0 (by simp [hq, hh]), fun i hi => .inl hi, b.top h q rfl,
    fun x hx => (List.pairwise_cons.1 b.sorted).1 x hx, (List.pairwise_cons.1 b.sorted).2, fun x hx => b.qN x (List.mem_cons_of_mem _ hx), b.low⟩
theorem BI.leave {h : Nat} (b : BI prev next goal N D q h []) : BO prev next goal N D q := by
  refine ⟨b.len, b.sound, b.src, fun k hk h0 hq => ?_, fun x r hx i hi => ?_, b.sorted, b.qN, b.low⟩
  · by_cases hkh : k = h
    · subst hkh
      intro i hi
      rcases b.here i hi with h | h
      · simp at h
      · exact h
    · exact b.done k hk h0 hq hkh
  · have h1 := b.top i hi
    have h2 := b.qs x (by rw [hx]; simp)
    omega
theorem BI.old {h k : Nat} {l : List Nat} (b : BI prev next goal N D q h (k :: l)) (hk : k < N) (h0 : ¬ D.getD k 0 < 0) : BI prev next goal N D q h l := by
  refine ⟨b.len, b.hN, b.hD, b.sound, b.src, b.done, fun i hi => ?_, b.top, b.qs, b.sorted, b.qN, b.low⟩
  rcases b.here i hi with h1 | h1
  · rcases List.mem_cons.1 h1 with rfl | h1
    · exact .inr ⟨by omega, b.top _ hk⟩
    · exact .inl h1
  · exact .inr h1
theorem BI.new {h k : Nat} {l : List Nat} (hpn : ∀ i k, i < N → k < N → i ∈ prev k → k ∈ next i) (hpN : ∀ i k, k < N → i ∈ prev k → i < N) (b : BI prev next goal N D q h (k :: l)) (hkp : k ∈ prev h) (h0 : D.getD k 0 < 0) :
    BI prev next goal N (D.set k (D.getD h 0 + 1)) (q ++ [k]) h l := by
  have hk : k < N := hpN k h b.hN hkp
  have hkl : k < D.length := by rw [b.len]; exact hk
  have hD := b.hD
  have hkh : k ≠ h := by intro e; subst e; omega
  have hh : (D.set k (D.getD h 0 + 1)).getD h 0 = D.getD h 0 := by rw [getD_set' hkl, if_neg (Ne.symm hkh)]
  have hset : ∀ x, x ≠ k → (D.set k (D.getD h 0 + 1)).getD x 0 = D.getD x 0 := fun x hx => by rw [getD_set' hkl, if_neg hx]
  have hsk : (D.set k (D.getD h 0 + 1)).getD k 0 = D.getD h 0 + 1 := by rw [getD_set' hkl, if_pos rfl]
  have hkq : ∀ x ∈ q, x ≠ k := fun x hx e => by subst e; have := (b.qN x hx).2; omega
  refine ⟨by rw [List.length_set]; exact b.len, b.hN, by rw [hh]; exact hD, fun i hi h1 => ?_, fun i hi hg => ?_, fun x hx h1 hxq hxh i hi => ?_, fun i hi => ?_, fun i hi => ?_, fun x hx => ?_, ?_, fun x hx => ?_, fun i hi => ?_⟩
  · by_cases e : i = k
    · subst e
      rw [hsk]
      have h2 := b.sound h b.hN hD
      rw [show (D.getD h 0 + 1).toNat = (D.getD h 0).toNat + 1 by omega]
      exact ⟨h, hpn i h hi b.hN hkp, h2⟩
    · rw [hset i e] at h1 ⊢
      exact b.sound i hi h1
  · have e : i ≠ k := by
      intro e; subst e
      have := b.src i hi hg
      omega
    rw [hset i e]
    exact b.src i hi hg
  · have e : x ≠ k := by intro e; subst e; simp at hxq
    rw [hset x e] at h1 ⊢
    have h2 := b.done x hx h1 (fun h => hxq (by simp [h])) hxh i hi
    have e2 : i ≠ k := by intro e2; subst e2; omega
    rw [hset i e2]
    exact h2
  · rw [hh]
    by_cases e : i = k
    · subst e
      refine .inr ?_
      rw [hsk]
      omega
    · rw [hset i e]
      rcases b.here i hi with h1 | h1
      · rcases List.mem_cons.1 h1 with h1 | h1
        · exact absurd h1 e
        · exact .inl h1
      · exact .inr h1
  · rw [hh]
    by_cases e : i = k
    · subst e; rw [hsk]; omega
    · rw [hset i e]; exact b.top i hi
  · rw [hh]
    rcases List.mem_append.1 hx with hx | hx
    · rw [hset x (hkq x hx)]; exact b.qs x hx
    · have : x = k := by simpa using hx
      subst this
      rw [hsk]; omega
  · rw [List.pairwise_append]
    refine ⟨?_, by simp, fun x hx y hy => ?_⟩
    · refine List.Pairwise.imp_of_mem (fun {x y} hx hy hxy => ?_) b.sorted
      rw [hset x (hkq x hx), hset y (hkq y hy)]
      exact hxy
    · have : y = k := by simpa using hy
      subst this
      rw [hset x (hkq x hx), hsk]
      exact b.top x (b.qN x hx).1
  · rcases List.mem_append.1 hx with hx | hx
    · rw [hset x (hkq x hx)]; exact b.qN x hx
    · have : x = k := by simpa using hx
      subst this
      rw [hsk]
      exact ⟨hk, by omega⟩
  · by_cases e : i = k
    · subst e; rw [hsk]; omega
    · rw [hset i e]; exact b.low i hi
theorem BI.all (hpn : ∀ i k, i < N → k < N → i ∈ prev k → k ∈ next i) (hpN : ∀ i k, k < N → i ∈ prev k → i < N) {h : Nat} : ∀ (l : List Nat) (D : List Int) (q : List Nat) (d : Int), d = D.getD h 0 + 1 → BI prev next goal N D q h l → (∀ k ∈ l, k ∈ prev h) →
    BO prev next goal N (relax d l D q).1 (relax d l D q).2 ∧ (relax d l D q).2.length + negs (relax d l D q).1 = q.length + negs D
  | [], _, _, _, _, b, _ => ⟨b.leave, rfl⟩
  | k :: l, D, q, d, hd, b, hl => by
    have hk : k < N := hpN k h b.hN (hl k (by simp))
    rw [relax]
    by_cases h0 : D.getD k 0 < 0
    · rw [if_pos h0]
      have hkl : k < D.length := by rw [b.len]; exact hk
      have hkh : k ≠ h := by intro e; subst e; have := b.hD; omega
      have h1 := BI.new hpn hpN b (hl k (by simp)) h0
      rw [← hd] at h1
      have := BI.all hpn hpN l (D.set k d) (q ++ [k]) d (by rw [getD_set' hkl, if_neg (Ne.symm hkh)]; exact hd) h1 (fun x hx => hl x (List.mem_cons_of_mem _ hx))
      refine ⟨this.1, this.2.trans ?_⟩
      have h3 := negs_set hkl h0 (d := d) (by have := b.hD; omega)
      rw [List.length_append, List.length_singleton]
      omega
    · rw [if_neg h0]
      exact BI.all hpn hpN l D q d hd (b.old hk h0) (fun x hx => hl x (List.mem_cons_of_mem _ hx))
theorem BO.fin (hnN : ∀ i k, i < N → k ∈ next i → k < N) (hnp : ∀ i k, i < N → k < N → k ∈ next i → i ∈ prev k) (b : BO prev next goal N D []) : ∀ i, i < N → IsDist next goal i (D.getD i 0) := by
  have hall : ∀ (n i : Nat), i < N → toG next goal n i → 0 ≤ D.getD i 0 ∧ D.getD i 0 ≤ n := by
    intro n
    induction n with
    | zero =>
      intro i hi h
      rw [b.src i hi h]
      omega
    | succ n ih =>
      rintro i hi ⟨k, hk, h⟩
      have hkN := hnN i k hi hk
      have h1 := ih k hkN h
      have h2 := b.done k hkN h1.1 (by simp) i (hnp i k hi hkN hk)
      omega
  intro i hi
  by_cases h0 : 0 ≤ D.getD i 0
  · exact .inr ⟨h0, b.sound i hi h0, fun m hm h => by have := hall m i hi h; omega⟩
  · refine .inl ⟨by have := b.low i hi; omega, fun n h => h0 (hall n i hi h).1⟩
theorem bfs_dist (hpn : ∀ i k, i < N → k < N → i ∈ prev k → k ∈ next i) (hpN : ∀ i k, k < N → i ∈ prev k → i < N) (hnN : ∀ i k, i < N → k ∈ next i → k < N) (hnp : ∀ i k, i < N → k < N → k ∈ next i → i ∈ prev k) :
    ∀ (f : Nat) (D : List Int) (q : List Nat), BO prev next goal N D q → q.length + negs D ≤ f → ∀ i, i < N → IsDist next goal i ((bfs prev f D q).getD i 0) := by
  intro f
  induction f with
  | zero =>
    intro D q b hf
    have : q = [] := List.eq_nil_of_length_eq_zero (by omega)
    subst this
    exact b.fin hnN hnp
  | succ f ih =>
    intro D q b hf
    cases q with
    | nil => exact b.fin hnN hnp
    | cons h q =>
      rw [bfs]
      have := BI.all hpn hpN (prev h) D q _ rfl b.enter (fun _ h => h)
      exact ih _ _ this.1 (by rw [this.2]; rw [List.length_cons] at hf; omega)
/-- after the sweeps up to d: the distances up to d are known -/
def SwO (next : Nat → List Nat) (goal : Nat → Prop) (N : Nat) (D : List Int) (d : Nat) : Prop :=
  D.length = N ∧ ∀ i, i < N → (D.getD i 0 = -1 ∧ ∀ m, m ≤ d → ¬ toG next goal m i) ∨ (0 ≤ D.getD i 0 ∧ D.getD i 0 ≤ d ∧ IsDist next goal i (D.getD i 0))
/-- within the sweep for d + 1: the vertices below j are done -/
def SwI (next : Nat → List Nat) (goal : Nat → Prop) (N : Nat) (D : List Int) (d j : Nat) (ch : Bool) : Prop :=
  D.length = N ∧ (∀ i, i < N → (D.getD i 0 = -1 ∧ (∀ m, m ≤ d → ¬ toG next goal m i) ∧ (i < j → ¬ toG next goal (d + 1) i)) ∨ (0 ≤ D.getD i 0 ∧ D.getD i 0 ≤ (d : Int) + 1 ∧ IsDist next goal i (D.getD i 0))) ∧
    (ch = false → ∀ i, i < N → D.getD i 0 ≤ d)
theorem SwO.enter {d : Nat} (h : SwO next goal N D d) : SwI next goal N D d 0 false := by
  refine ⟨h.1, fun i hi => ?_, fun _ i hi => ?_⟩
  · rcases h.2 i hi with h1 | h1
    · exact .inl ⟨h1.1, h1.2, fun h => by omega⟩
    · exact .inr ⟨h1.1, by omega, h1.2.2⟩
  · rcases h.2 i hi with h1 | h1 <;> omega
theorem SwI.leave {d : Nat} {ch : Bool} (h : SwI next goal N D d N ch) : SwO next goal N D (d + 1) := by
  refine ⟨h.1, fun i hi => ?_⟩
  rcases h.2.1 i hi with h1 | h1
  · refine .inl ⟨h1.1, fun m hm => ?_⟩
    by_cases e : m = d + 1
    · subst e; exact h1.2.2 hi
    · exact h1.2.1 m (by omega)
  · exact .inr ⟨h1.1, by omega, h1.2.2⟩
theorem SwI.stop (hnN : ∀ i k, i < N → k ∈ next i → k < N) {d : Nat} (h : SwI next goal N D d N false) : ∀ i, i < N → IsDist next goal i (D.getD i 0) := by
  have hno : ∀ i, i < N → toG next goal (d + 1) i → ∃ m, m ≤ d ∧ toG next goal m i := by
    intro i hi ht
    rcases h.2.1 i hi with h1 | h1
    · exact absurd ht (h1.2.2 hi)
    · have h2 := h.2.2 rfl i hi
      rcases h1.2.2 with h3 | h3
      · omega
      · exact ⟨_, by omega, h3.2.1⟩
  have hall : ∀ (n i : Nat), i < N → toG next goal n i → ∃ m, m ≤ d ∧ toG next goal m i := by
    intro n
    induction n with
    | zero => intro i _ h; exact ⟨0, Nat.zero_le _, h⟩
    | succ n ih =>
      rintro i hi ⟨k, hk, ht⟩
      obtain ⟨m, hm, h2⟩ := ih k (hnN i k hi hk) ht
      by_cases e : m = d
      · subst e
        exact hno i hi ⟨k, hk, h2⟩
      · exact ⟨m + 1, by omega, k, hk, h2⟩
  intro i hi
  rcases h.2.1 i hi with h1 | h1
  · refine .inl ⟨h1.1, fun n hn => ?_⟩
    obtain ⟨m, hm, h2⟩ := hall n i hi hn
    exact h1.2.1 m hm h2
  · exact h1.2.2
/-- vertex j is known already, or none of its next ones is at distance d -/
theorem SwI.skip {d j : Nat} {ch : Bool} (h : SwI next goal N D d j ch) (hs : ¬ D.getD j 0 < 0 ∨ ∀ k ∈ next j, D.getD k 0 ≠ d) (hnN : ∀ i k, i < N → k ∈ next i → k < N) : SwI next goal N D d (j + 1) ch := by
  refine ⟨h.1, fun i hi => ?_, h.2.2⟩
  rcases h.2.1 i hi with h1 | h1
  · refine .inl ⟨h1.1, h1.2.1, fun hij => ?_⟩
    by_cases e : i = j
    · subst e
      rcases hs with hs | hs
      · omega
      · rintro ⟨k, hk, ht⟩
        have hkN := hnN i k hi hk
        rcases h.2.1 k hkN with h2 | h2
        · exact h2.2.1 d (Nat.le_refl _) ht
        · rcases h2.2.2 with h3 | h3
          · omega
          · have h4 : ¬ d < (D.getD k 0).toNat := fun hlt => h3.2.2 d hlt ht
            have h5 := hs k hk
            refine h1.2.1 ((D.getD k 0).toNat + 1) (by omega) ⟨k, hk, h3.2.1⟩
    · exact h1.2.2 (by omega)
  · exact .inr h1
theorem SwI.put {d j k : Nat} {ch : Bool} (h : SwI next goal N D d j ch) (hj : j < N) (h0 : D.getD j 0 < 0) (hk : k ∈ next j) (hkd : D.getD k 0 = d) (hnN : ∀ i k, i < N → k ∈ next i → k < N) : SwI next goal N (D.set j ((d : Int) + 1)) d (j + 1) true := by
  have hjl : j < D.length := by rw [h.1]; exact hj
  have hkN := hnN j k hj hk
  refine ⟨by rw [List.length_set]; exact h.1, fun i hi => ?_, fun h => by cases h⟩
  by_cases e : i = j
  · subst e
    rw [getD_set' hjl, if_pos rfl]
    rcases h.2.1 i hi with h1 | h1
    · refine .inr ⟨by omega, by omega, .inr ⟨by omega, ?_, fun m hm => h1.2.1 m (by omega)⟩⟩
      rcases h.2.1 k hkN with h2 | h2
      · omega
      · rcases h2.2.2 with h3 | h3
        · omega
        · have h4 := h3.2.1
          rw [hkd] at h4
          rw [show ((d : Int) + 1).toNat = d + 1 by omega]
          exact ⟨k, hk, by simpa using h4⟩
    · omega
  · rw [getD_set' hjl, if_neg e]
    rcases h.2.1 i hi with h1 | h1
    · exact .inl ⟨h1.1, h1.2.1, fun hij => h1.2.2 (by omega)⟩
    · exact .inr h1
end
/-- the lists turned round -/
def turnL (N : Nat) (next : Nat → List Nat) (k : Nat) : List Nat := (List.range N).flatMap fun i => (next i).filterMap fun x => if x = k then some i else none
theorem mem_turnL {N : Nat} {next : Nat → List Nat} {i k : Nat} : i ∈ turnL N next k ↔ i < N ∧ k ∈ next i := by
  unfold turnL
  simp only [List.mem_flatMap, List.mem_range, List.mem_filterMap]
  constructor
  · rintro ⟨j, hj, x, hx, he⟩
    by_cases h : x = k
    · rw [if_pos h] at he
      injection he with he
      subst h he
      exact ⟨hj, hx⟩
    · rw [if_neg h] at he; cases he
  · rintro ⟨hi, hk⟩
    exact ⟨i, hi, k, hk, by simp⟩
end Go.Proofs.YtpbfdmfkmbdpkaaGreat
