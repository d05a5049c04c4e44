/- HasLoop, the program's and the reference's: both tell whether a state comes back to itself by one letter or more. -/
import Derived.Test.YtbhmgpclakkgbaaStateReaches
namespace Go.Proofs.Ytbhmgpclakkgbaa
set_option linter.unusedVariables false
set_option linter.unusedSimpArgs false
open Go.ChangeShapes Go.WideShapes Go.ChangeAt Go.RowKit
attribute [local go_sem] ext_cell ext_frozen ext_lt ext_lt1 ext_lt2 ext_lt3

/-- slices.IndexFunc over ints, at a closure with two captured cells -/
theorem indexFuncInt2 (k0 k1 : Value) (v : Value) (xs : List Int) (p : Int → Prop) (w : World) (hv : SlE w cI 1 v xs)
    (hF : ∀ x ∈ xs, ∀ W : World, Below w.heap.size w W → Calls Try.prog 72 #[.int .i64 x, k0, k1] W fun e W' => ∃ b, e = .returned (.bool b) ∧ (b = true ↔ p x) ∧ Below W.heap.size W W') :
    Calls Try.prog 122 #[v, .func (Fn.func 72) #[] #[k0, k1]] w fun e w' => ∃ r : Int, e = .returned (.int .i64 r) ∧ Below w.heap.size w w' ∧
      ((r = -1 ∧ ∀ x ∈ xs, ¬ p x) ∨ ∃ (i : Nat) (x : Int), r = i ∧ xs[i]? = some x ∧ p x ∧ ∀ y ∈ xs.take i, ¬ p y) := by
  obtain ⟨A, c, rfl, hl, hm, hx⟩ := hv
  unfold maxLen at hm
  have HF := Lib.hid hF
  have HX := Lib.hid hx
  clear hF hx
  go_enter Try.func122, Try.ntmps122
  go_wp2_with fail
  go_loopw [8] (fun ii wr => ∃ (i : Nat) (u : World), i ≤ xs.length ∧ ii = .int .i64 i ∧ (∀ y ∈ xs.take i, ¬ p y) ∧ wr = ext w u) (fun ii _ => xs.length - (intOf ii).toNat)
  case atStart => exact ⟨0, w, Nat.zero_le _, rfl, by simp, ext_self w⟩
  case round =>
    obtain ⟨i, u, hi, rfl, hno, rfl⟩ := hrel
    have HN := Lib.hid hno
    clear hno
    by_cases hlt : i < xs.length
    · have hxi : xs[i]? = some xs[i] := List.getElem?_eq_getElem hlt
      generalize xs[i] = x at hxi
      obtain ⟨b, o, rfl, -, hb, hc⟩ := HX.out i x hxi
      have c0 := hc 0 _ rfl
      simp only [Nat.mul_one, Nat.add_zero] at c0
      have HXI := Lib.hid hxi
      clear hc hxi
      go_wp2_with fail
      refine (HF.out x (List.mem_of_getElem? HXI.out) _ (ext_below w u)).mono ?_
      rintro e w1 ⟨bb, rfl, hbb, hb1⟩
      have HBB := Lib.hid hbb
      clear hbb
      cases bb with
      | true =>
        go_wp2_with fail
        go_ret
        exact ⟨_, rfl, below_trans (ext_below w u) hb1, .inr ⟨i, x, rfl, HXI.out, HBB.out.1 (by first | rfl | trivial), HN.out⟩⟩
      | false =>
        go_wp2_with fail
        go_roundw
        case rel =>
          obtain ⟨z, hz⟩ := ext_of (below_trans (ext_below w u) hb1)
          refine ⟨i + 1, z, by omega, by go_num, fun y hy => ?_, hz⟩
          rw [take_snoc HXI.out] at hy
          rcases List.mem_append.1 hy with hy | hy
          · exact HN.out y hy
          · have : y = x := by simpa using hy
            subst this
            exact fun h => by have := HBB.out.2 h; cases this
        case measure => simp [intOf]; omega
    · obtain rfl : i = xs.length := by omega
      go_wp2_with fail
      go_ret
      exact ⟨_, rfl, ext_below w u, .inl ⟨rfl, fun x hx => HN.out x (by rw [List.take_length]; exact hx)⟩⟩
theorem containsFuncInt2 (k0 k1 : Value) (v : Value) (xs : List Int) (p : Int → Prop) (w : World) (hv : SlE w cI 1 v xs)
    (hF : ∀ x ∈ xs, ∀ W : World, Below w.heap.size w W → Calls Try.prog 72 #[.int .i64 x, k0, k1] W fun e W' => ∃ b, e = .returned (.bool b) ∧ (b = true ↔ p x) ∧ Below W.heap.size W W') :
    Calls Try.prog 71 #[v, .func (Fn.func 72) #[] #[k0, k1]] w fun e w' => ∃ b, e = .returned (.bool b) ∧ Below w.heap.size w w' ∧ (b = true ↔ ∃ x ∈ xs, p x) := by
  have h := indexFuncInt2 k0 k1 v xs p w hv hF
  have H := Lib.hid h
  clear h hF hv
  go_enter Try.func71, Try.ntmps71
  go_wp2_with fail
  refine H.out.mono ?_
  rintro e w1 ⟨r, rfl, hb, hr⟩
  have HR := Lib.hid hr
  clear hr
  go_wp2_with fail
  go_ret
  refine ⟨_, rfl, hb, ?_⟩
  rcases HR.out with ⟨rfl, h⟩ | ⟨i, x, rfl, hx, hp, _⟩
  · simp only [decide_eq_true_eq]
    exact ⟨fun h0 => by omega, fun ⟨x, hx, hp⟩ => absurd hp (h x hx)⟩
  · simp only [decide_eq_true_eq]
    exact ⟨fun _ => ⟨x, List.mem_of_getElem? hx, hp⟩, fun _ => by omega⟩

def LoopP (a : Au) (s : Int) : Prop := auOk a = true ∧ (0 ≤ s ∧ s ≤ (a.accept.length : Int) - 1) ∧ Onward a.next s.toNat s.toNat

set_option maxHeartbeats 1000000 in
theorem implHasLoop (v : Value) (a : Au) (s : Int) (w : World) (hv : AuV 0 w.heap.size w v a) :
    Calls Try.prog 21 #[v, .int .i64 s] w fun e w' => ∃ b, e = .returned (.bool b) ∧ (b = true ↔ LoopP a s) ∧ Below w.heap.size w w' := by
  have hv0 := hv
  obtain ⟨ac, nx, rfl, hac, us, ⟨A2, c2, rfl, hl2, hm2, hx2⟩, hul, hrows⟩ := hv
  obtain ⟨A1, n1, c1, rfl⟩ := hac.shape
  have HU := Lib.hid hul
  rw [hul] at hv0 hl2 ⊢
  clear hul
  unfold maxLen at hm2
  have hb0 : Below w.heap.size w ((w.alloc (.cells #[.int .i64 a.start, .slice A1 n1 c1, .slice A2 a.next.length c2] 28)).alloc (.cells #[.int .i64 s] 3)) := ((Below.refl _ _).alloc (Nat.le_refl _) _).alloc (by simp) _
  have hb1 := hb0.alloc (by simp <;> omega) (.cells #[.int .i64 s] 3)
  have hst : SlE (((w.alloc (.cells #[.int .i64 a.start, .slice A1 n1 c1, .slice A2 a.next.length c2] 28)).alloc (.cells #[.int .i64 s] 3)).alloc (.cells #[.int .i64 s] 3)) cI 1 (.slice (some ⟨w.heap.size + 1 + 1, 0, none⟩) 1 1) [s] := by
    have h := Own.of_row (xs := [s]) (E := cI) (World.ownsRow_lit (base := 0) (e := 3) (size := 1) ((w.alloc (.cells #[.int .i64 a.start, .slice A1 n1 c1, .slice A2 a.next.length c2] 28)).alloc (.cells #[.int .i64 s] 3)) #[.int .i64 s] 1 (Nat.zero_le _) (by decide) rfl) rfl rfl
    have h2 := h.sl cI_len
    simpa [SlE] using h2
  have hok := statesOk_any _ _ a [s] _ (hv0.keep hb1) hst
  simp only [List.all_cons, List.all_nil, Bool.and_true] at hok
  have HOK := Lib.hid hok
  clear hok hst
  by_cases g : (wi s 0 ((a.accept.length : Int) - 1) && auOk a) = true
  · have HG := Lib.hid g
    have hg := g
    simp only [Bool.and_eq_true, wi_iff] at hg
    obtain ⟨⟨hs1, hs2⟩, hoka⟩ := hg
    obtain ⟨s, rfl⟩ := Int.eq_ofNat_of_zero_le hs1
    have hnl := (auOk_iff.1 hoka).2.2.1
    have hsn : s < a.next.length := by omega
    obtain ⟨u, hu⟩ : ∃ u, us[s]? = some u := ⟨_, List.getElem?_eq_getElem (by have := HU.out; omega)⟩
    obtain ⟨b2, o2, rfl, -, hb2, hc2⟩ := hx2 s u hu
    have d2 := hc2 0 _ rfl
    simp only [Nat.mul_one, Nat.add_zero] at d2
    have HNL := Lib.hid hnl
    clear g hnl hc2 hx2
    go_enter Try.func21, Try.ntmps21
    go_wp2_with fail
    refine HOK.out.mono ?_
    rintro e w1 ⟨rfl, hb3⟩
    rw [HG.out]
    have b0 := (((Blk.new w _ _ w.heap.size rfl).alloc _).alloc _).keep hb3
    have b1 := ((Blk.new (w.alloc _) _ _ (w.heap.size + 1) (by simp)).alloc _).keep hb3
    have x1 : w1.cell? ⟨w.heap.size, 2, none⟩ = some _ := b0.cell 2
    have x2 : w1.cell? ⟨w.heap.size + 1, 0, none⟩ = some _ := b1.cell 0
    have hb4 := below_trans hb1 hb3
    have d3 := (hb4.cell (p := ⟨b2, o2 + s, none⟩) hb2).trans d2
    clear d2
    go_wp2_with fail
    have hxi : a.next[s]? = some a.next[s] := List.getElem?_eq_getElem hsn
    have hrow := hrows s u _ hu hxi
    generalize a.next[s] = row at hrow hxi
    have hlt0 : w.heap.size < w1.heap.size := b0.lt
    have hlt1 : w.heap.size + 1 < w1.heap.size := b1.lt
    obtain ⟨A5, c5, rfl, hl5, hm5, hx5⟩ := hrow
    refine (containsFuncInt2 _ _ _ row (fun t => 0 ≤ t ∧ ReachP a t (s : Int)) w1 (SlE.keep ⟨A5, c5, rfl, hl5, hm5, hx5⟩ hb4) (fun t ht W hW => ?_)).mono ?_
    · have b0' := b0.keep hW
      have b1' := b1.keep hW
      have y0 : W.cell? ⟨w.heap.size, 0, none⟩ = some _ := b0'.cell 0
      have y1 : W.cell? ⟨w.heap.size, 1, none⟩ = some _ := b0'.cell 1
      have y2 : W.cell? ⟨w.heap.size, 2, none⟩ = some _ := b0'.cell 2
      have y3 : W.cell? ⟨w.heap.size + 1, 0, none⟩ = some _ := b1'.cell 0
      have hav := hv0.keep (below_trans hb4 hW)
      clear b0 b1 b0' b1' x1 x2 d3 hb0 hb1 hb3 hb4 HOK
      by_cases ht0 : 0 ≤ t
      · go_enter Try.func72, Try.ntmps72
        go_wp2_with fail
        refine (implStateReaches _ a t (s : Int) _ hav).mono ?_
        rintro e W' ⟨b, rfl, hb, hbel⟩
        go_wp2_with fail
        go_ret
        exact ⟨b, rfl, by rw [hb]; simp [ht0], hbel⟩
      · have ht0' : decide (t ≥ 0) = false := by simp; omega
        go_enter Try.func72, Try.ntmps72
        go_wp2_with fail
        go_ret
        exact .inl ⟨rfl, fun h => absurd h (by omega), Below.refl _ _⟩
    · rintro e w2 ⟨b, rfl, hb5, hb⟩
      have hfin : b = true ↔ LoopP a (s : Int) := by
        rw [hb]
        constructor
        · rintro ⟨t, ht, ht0, hr⟩
          refine ⟨hoka, ⟨hs1, hs2⟩, t.toNat, ⟨row, by simpa using hxi, ?_⟩, by simpa using hr.2.2.2⟩
          rw [Int.toNat_of_nonneg ht0]; exact ht
        · rintro ⟨_, _, y, ⟨r, hr, hm⟩, hre⟩
          rw [Int.toNat_natCast, hxi] at hr
          injection hr with hr
          subst hr
          have hy := stepT_lt (nx := a.next) (n := a.accept.length) (s := s) (t := y) ⟨HNL.out, fun r hr t ht => (rowOk_iff.1 ((auOk_iff.1 hoka).2.2.2 r hr)).1 t ht |>.2⟩ ⟨row, hxi, hm⟩
          exact ⟨(y : Int), hm, by omega, hoka, ⟨by omega, by omega⟩, ⟨hs1, hs2⟩, by simpa using hre⟩
      have HF := Lib.hid hfin
      clear hb hfin
      go_wp2_with fail
      go_ret
      exact ⟨b, rfl, HF.out, below_trans hb4 hb5⟩
  · have hn : ¬ LoopP a s := by
      rintro ⟨h1, h2, _⟩
      apply g
      simp only [Bool.and_eq_true, wi_iff]
      exact ⟨h2, h1⟩
    simp only [Bool.not_eq_true] at g
    have HG := Lib.hid g
    have HN := Lib.hid hn
    clear g hn
    go_enter Try.func21, Try.ntmps21
    go_wp2_with fail
    refine HOK.out.mono ?_
    rintro e w1 ⟨rfl, hb3⟩
    rw [HG.out]
    go_wp2_with fail
    go_ret
    exact ⟨false, rfl, by simpa using HN.out, below_trans hb1 hb3⟩

set_option maxHeartbeats 1000000 in
theorem specHasLoop (v : Value) (a : Au) (s : Int) (w : World) (hv : AuV 0 w.heap.size w v a) :
    Calls Try.prog 20 #[v, .int .i64 s] w fun e w' => ∃ b, e = .returned (.bool b) ∧ (b = true ↔ LoopP a s) ∧ Below w.heap.size w w' := by
  have hv0 := hv
  obtain ⟨A1, n1, c1, A2, n2, c2, rfl⟩ := hv.shape
  clear hv
  have hb0 : Below w.heap.size w (w.alloc (.cells #[.int .i64 a.start, .slice A1 n1 c1, .slice A2 n2 c2] 28)) := (Below.refl _ _).alloc (Nat.le_refl _) _
  by_cases g1 : (auOk a && wi s 0 ((a.accept.length : Int) - 1)) = true
  · have HG1 := Lib.hid g1
    clear g1
    have hg1 := HG1.out
    simp only [Bool.and_eq_true, wi_iff] at hg1
    obtain ⟨hoka, hs1, hs2⟩ := hg1
    have hp : LoopP a s ↔ Onward a.next s.toNat s.toNat := ⟨fun h => h.2.2, fun h => ⟨hoka, ⟨hs1, hs2⟩, h⟩⟩
    have HP := Lib.hid hp
    have HOK := Lib.hid hoka
    clear hp hoka
    obtain ⟨s, rfl⟩ := Int.eq_ofNat_of_zero_le hs1
    go_enter Try.func20, Try.ntmps20
    go_wp2_with fail
    refine (l22State_any _ a (s : Int) _ (hv0.keep hb0)).mono ?_
    rintro e w1 ⟨rfl, hb1⟩
    rw [HG1.out]
    have b0 := (Blk.new w _ _ w.heap.size rfl).keep hb1
    have x0 : w1.cell? ⟨w.heap.size, 0, none⟩ = some _ := b0.cell 0
    have x1 : w1.cell? ⟨w.heap.size, 1, none⟩ = some _ := b0.cell 1
    have x2 : w1.cell? ⟨w.heap.size, 2, none⟩ = some _ := b0.cell 2
    have hb4 := below_trans hb0 hb1
    clear hb1 b0
    go_wp2_with fail
    refine (l13Onward_any _ a s _ (hv0.keep hb4) HOK.out (by omega)).mono ?_
    rintro e w3 ⟨v2, bs, rfl, ho, hb5, hbl, hbr⟩
    obtain ⟨b, hb⟩ : ∃ b, bs[s]? = some b := ⟨_, List.getElem?_eq_getElem (by rw [hbl]; omega)⟩
    obtain ⟨A3, c3, rfl, hl3, hm3, hx3⟩ := ho.sl cB_len
    obtain ⟨b3, o3, rfl, -, -, hc3⟩ := hx3 s b hb
    have d0 := hc3 0 _ rfl
    simp only [Nat.mul_one, Nat.add_zero] at d0
    have hbt : b = true ↔ Onward a.next s s := by
      have h1 := hbr s
      rw [hb] at h1
      rw [← h1]
      simp
    have HBT := Lib.hid hbt
    have htl : s < bs.length := by omega
    unfold maxLen at hm3
    clear hbt hbl hbr hb hc3 hx3 ho x0 x1 x2
    go_wp2_with fail
    go_ret
    exact ⟨b, rfl, by rw [HP.out]; simpa using HBT.out, hb4.trans (hb5.mono hb4.size)⟩
  · have hn : ¬ LoopP a s := by
      rintro ⟨h1, h2, _⟩
      apply g1
      simp only [Bool.and_eq_true, wi_iff]
      exact ⟨h1, h2⟩
    simp only [Bool.not_eq_true] at g1
    have HG := Lib.hid g1
    have HN := Lib.hid hn
    clear g1 hn
    go_enter Try.func20, Try.ntmps20
    go_wp2_with fail
    refine (l22State_any _ a s _ (hv0.keep hb0)).mono ?_
    rintro e w1 ⟨rfl, hb1⟩
    rw [HG.out]
    go_wp2_with fail
    go_ret
    exact ⟨false, rfl, by simpa using HN.out, below_trans hb0 hb1⟩
end Go.Proofs.Ytbhmgpclakkgbaa
