/- Parts of the proof, joined into one text: Use. -/
import Derived.Test.YtajjolkpgfegfaaPartMLHMDHDM
import Derived.Test.YtajjolkpgfegfaaPartBMOJJLNE
import Derived.Lib.SliceRun
/- UsefulProduct on both sides; slices.DeleteFunc over ints at its closure. -/
namespace Go.Proofs.Ytajjolkpgfegfaa
set_option linter.unusedVariables false
set_option linter.unusedSimpArgs false
open Go.ChangeShapes Go.WideShapes Go.ChangeAt Go.RowKit
attribute [local go_sem] ext_cell ext_frozen ext_lt ext_lt1 ext_lt2 ext_lt3 ltn2 ltn3 ltn13 lts1 lts2 lts3

def usefulP (g : Gr) (a : Au) (x y : Int) (i : Nat) : Bool := decide (0 ≤ (distFrom g a x).getD i 0) && decide (0 ≤ (distTo g a y).getD i 0)
def useOk (g : Gr) (a : Au) (x y : Int) : Bool := wi x 0 ((g.vals.length : Int) - 1) && (wi y 0 ((g.vals.length : Int) - 1) && (grOk g && auOk a))
def usefulL (g : Gr) (a : Au) (x y : Int) : List Int := if useOk g a x y = true then pickL (usefulP g a x y) (distFrom g a x).length else []
theorem usefulL_len (g : Gr) (a : Au) (x y : Int) : (usefulL g a x y).length ≤ 60 := by
  unfold usefulL
  split
  · exact Nat.le_trans (pick_len _ _) (distFrom_le g a x)
  · simp
theorem pick_filter (p : Nat → Bool) (q : Int → Bool) (n : Nat) : (pickL p n).filter q = pickL (fun i => p i && q (i : Int)) n := by
  unfold pickL
  rw [List.filter_map, List.filter_filter]
  congr 1
  apply List.filter_congr
  intro i _
  simp [Bool.and_comm]
theorem pick_mem {p : Nat → Bool} {n : Nat} {v : Int} (h : v ∈ pickL p n) : ∃ i : Nat, v = (i : Int) ∧ i < n := by
  unfold pickL at h
  simp only [List.mem_map, List.mem_filter, List.mem_range] at h
  obtain ⟨i, ⟨h1, _⟩, rfl⟩ := h
  exact ⟨i, rfl, h1⟩
theorem setCells_own {base k g n cap : Nat} {e : TypeId} : ∀ (zs : List Value) (o : Nat) (cs : List Value) (W : World), W.ownsRow base e k (.slice (some ⟨g, 0, none⟩) n cap) n cs →
    ∃ cs', (W.setCells g o zs).ownsRow base e k (.slice (some ⟨g, 0, none⟩) n cap) n cs' ∧ cs'.take o = cs.take o ∧ Only g (g + 1) W (W.setCells g o zs)
  | [], o, cs, W, h => ⟨cs, h, rfl, Only.refl _ _ _⟩
  | z :: zs, o, cs, W, h => by
    have h1 := (World.ownsRow.stored h o z).1
    obtain ⟨cs', h2, h3, h4⟩ := setCells_own zs (o + 1) _ _ h1
    refine ⟨cs', h2, ?_, ((Only.refl g (g + 1) W).setCell (p := ⟨g, o, none⟩) (.inl ⟨Nat.le_refl _, Nat.lt_succ_self _⟩) z).trans h4⟩
    have h5 : cs'.take o = (cs'.take (o + 1)).take o := by rw [List.take_take]; congr 1; omega
    rw [h5, h3, List.take_take, Nat.min_eq_left (Nat.le_succ o), List.take_set, List.set_eq_of_length_le (by rw [List.length_take]; omega)]

/-- slices.IndexFunc over ints, at UsefulProduct's closure -/
theorem indexFuncU (k0 : Value) (v : Value) (xs : List Int) (p : Int → Bool) (w : World) (hv : SlE w cI 1 v xs)
    (hF : ∀ x ∈ xs, ∀ W : World, Below w.heap.size w W → Calls Try.prog 86 #[.int .i64 x, k0] W fun e W' => e = .returned (.bool (p x)) ∧ Below W.heap.size W W') :
    Calls Try.prog 125 #[v, .func (Fn.func 86) #[] #[k0]] w fun e w' => ∃ r : Int, e = .returned (.int .i64 r) ∧ Below w.heap.size w w' ∧
      ((r = -1 ∧ ∀ x ∈ xs, p x = false) ∨ ∃ (i : Nat), r = i ∧ i < xs.length ∧ p (xs.getD i 0) = true ∧ ∀ y ∈ xs.take i, p y = false) := by
  obtain ⟨A, c, rfl, hl, hm, hx⟩ := hv
  unfold maxLen at hm
  have HF := Lib.hid hF
  have HX := Lib.hid hx
  clear hF hx
  go_enter Try.func125, Try.ntmps125
  go_wp2_with fail
  go_loopw [8] (fun ii wr => ∃ (i : Nat) (u : World), i ≤ xs.length ∧ ii = .int .i64 i ∧ (∀ y ∈ xs.take i, p y = false) ∧ wr = ext w u) (fun ii _ => xs.length - (intOf ii).toNat)
  case atStart => exact ⟨0, w, Nat.zero_le _, rfl, by simp, ext_self w⟩
  case round =>
    obtain ⟨i, u, hi, rfl, hno, rfl⟩ := hrel
    have HN := Lib.hid hno
    clear hno
    by_cases hlt : i < xs.length
    · have hxi := getD_of (D := xs) hlt
      have HXX := Lib.hid (show ∀ b, p (xs.getD i 0) = b → p (xs.getD i 0) = b from fun _ h => h)
      obtain ⟨x, hx⟩ : ∃ x, x = xs.getD i 0 := ⟨_, rfl⟩
      rw [← hx] at hxi
      obtain ⟨b, o, rfl, -, hb, hc⟩ := HX.out i x hxi
      have c0 := hc 0 _ rfl
      simp only [Nat.add_zero, Nat.mul_one] at c0
      have HXI := Lib.hid hxi
      have HXE := Lib.hid hx
      clear hc hxi hx HXX
      have hii : (i : Int) < (xs.length : Int) := by omega
      go_wp2_with fail
      refine (HF.out x (List.mem_of_getElem? HXI.out) _ (ext_below w u)).mono ?_
      rintro e w1 ⟨rfl, hb1⟩
      cases hbb : p x with
      | true =>
        have HBB := Lib.hid hbb
        clear hbb
        go_wp2_with fail
        go_ret
        exact ⟨_, rfl, below_trans (ext_below w u) hb1, .inr ⟨i, rfl, hlt, by rw [← HXE.out]; exact HBB.out, HN.out⟩⟩
      | false =>
        have HBB := Lib.hid hbb
        clear hbb
        go_wp2_with fail
        go_roundw
        case rel =>
          obtain ⟨z, hz⟩ := ext_of (below_trans (ext_below w u) hb1)
          refine ⟨i + 1, z, by omega, by go_num, fun y hy => ?_, hz⟩
          rw [take_snoc HXI.out] at hy
          rcases List.mem_append.1 hy with hy | hy
          · exact HN.out y hy
          · have : y = x := by simpa using hy
            subst this
            exact HBB.out
        case measure => simp [intOf]; omega
    · obtain rfl : i = xs.length := by omega
      go_wp2_with fail
      go_ret
      exact ⟨_, rfl, ext_below w u, .inl ⟨rfl, fun x hx => HN.out x (by rw [List.take_length]; exact hx)⟩⟩
set_option maxHeartbeats 2000000 in
theorem deleteFuncU (k0 v : Value) (lo : Nat) (xs : List Int) (p : Int → Bool) (w : World) (hv : Own lo w.heap.size w 3 cI 1 v xs) (hn : xs.length ≤ 1000)
    (hF : ∀ x ∈ xs, ∀ W : World, Only lo w.heap.size w W → Calls Try.prog 86 #[.int .i64 x, k0] W fun e W' => e = .returned (.bool (p x)) ∧ Below W.heap.size W W') :
    Calls Try.prog 85 #[v, .func (Fn.func 86) #[] #[k0]] w fun e w' => ∃ v', e = .returned v' ∧ Own lo w'.heap.size w' 3 cI 1 v' (xs.filter fun x => !p x) ∧ Only lo w.heap.size w w' := by
  have hif := indexFuncU k0 v xs p w ((hv.sl cI_len).all (Nat.le_refl _)) (fun x hx W hW => hF x hx W (Only.of_below hW _ _))
  obtain ⟨A, n, c, rfl⟩ := hv.shape
  have hnn : n = xs.length := by
    obtain ⟨A', c', h1, _⟩ := hv.sl cI_len
    injection h1
  subst hnn
  have HV := Lib.hid hv
  have HF := Lib.hid hF
  have HIF := Lib.hid hif
  clear hv hF hif
  obtain ⟨R, hR⟩ : ∃ R, R = xs.filter fun x => !p x := ⟨_, rfl⟩
  rw [← hR]
  have HR := Lib.hid hR
  clear hR
  go_enter Try.func85, Try.ntmps85
  go_wp2_with fail
  refine HIF.out.mono ?_
  rintro e w1 ⟨r, rfl, hb1, hr⟩
  rcases hr with ⟨rfl, hno⟩ | ⟨i0, rfl, hi0, hp0, hno⟩
  · have hfin : R = xs := by
      rw [HR.out]
      exact List.filter_eq_self.2 fun x hx => by rw [hno x hx]; rfl
    have HFN := Lib.hid hfin
    clear hno hfin
    go_wp2_with fail
    go_ret
    exact ⟨_, rfl, by rw [HFN.out]; exact (HV.out.below hb1 (Nat.le_refl _)).mono (Nat.le_refl _) hb1.size, Only.of_below hb1 _ _⟩
  · have hrow0 := ownsRow_below HV.out.1 hb1 (Nat.le_refl _)
    obtain ⟨g, cap, hv2, hg1, hg2, hcap, hcm⟩ := own_some HV.out.1 (by omega)
    injection hv2 with e1 _ e3
    subst e1 e3
    have hon1 := Only.of_below hb1 lo w.heap.size
    have hst : (xs.take (i0 + 1)).filter (fun x => !p x) = xs.take i0 := by
      rw [take_snoc (getD_of hi0), List.filter_append]
      have h1 : (xs.take i0).filter (fun x => !p x) = xs.take i0 := List.filter_eq_self.2 fun x hx => by rw [hno x hx]; rfl
      have h2 : [xs.getD i0 0].filter (fun x => !p x) = [] := by simp only [List.filter_cons, hp0]; rfl
      rw [h1, h2, List.append_nil]
    have HROW0 := Lib.hid hrow0
    have HST := Lib.hid hst
    have HON1 := Lib.hid hon1
    have hi0z : ((i0 : Int) == -1) = false := by simp only [beq_eq_false_iff_ne, ne_eq]; omega
    obtain ⟨N, hN⟩ : ∃ N, N = xs.length := ⟨_, rfl⟩
    rw [← hN] at hn hi0 hcap HROW0 ⊢
    have HN := Lib.hid hN
    clear hrow0 hst hon1 hb1 hp0 hno hN
    go_wp2_with fail
    go_loopw [5, 6] (fun ii jj wr => ∃ (i j : Nat) (L : List Int), i < j ∧ j ≤ N ∧ ii = .int .i64 (i : Int) ∧ jj = .int .i64 (j : Int) ∧ L.length = N ∧ L.take i = (xs.take j).filter (fun x => !p x) ∧ L.drop j = xs.drop j ∧
      wr.ownsRow lo 3 1 (.slice (some ⟨g, 0, none⟩) N c) N (L.flatMap cI) ∧ Only lo w.heap.size w wr) (fun _ jj _ => N - (intOf jj).toNat)
    case atStart => exact ⟨i0, i0 + 1, xs, by omega, by omega, rfl, by go_num, HN.out.symm, HST.out.symm, rfl, HROW0.out, HON1.out⟩
    case round =>
      clear HROW0 HON1 HST
      obtain ⟨i, j, L, hij, hj, rfl, rfl, hLn, hLt, hLd, hrow, hon⟩ := hrel
      have HLN := Lib.hid hLn
      have HLT := Lib.hid hLt
      have HLD := Lib.hid hLd
      have HROW := Lib.hid hrow
      have HON := Lib.hid hon
      have hsz := hon.size
      clear hLn hLt hLd hrow hon
      by_cases hlt : j < N
      · have hxj := getD_of (D := xs) (k := j) (by have := HN.out; omega)
        have hLj : L[j]? = some (xs.getD j 0) := by
          have h := congrArg (fun l => l[0]?) HLD.out
          simp only [List.getElem?_drop, Nat.add_zero] at h
          rw [h, hxj]
        have cj := (World.ownsRow.cellAt HROW.out j (by omega)).trans (flatI_at hLj)
        have hxm := List.mem_of_getElem? hxj
        have HXJ := Lib.hid hxj
        have HLJ := Lib.hid hLj
        have ci := World.ownsRow.cellAt HROW.out i (by omega)
        have hLi := getD_of (D := L) (k := i) (by have := HLN.out; omega)
        have ci := ci.trans (flatI_at hLi)
        have fi := World.ownsRow.frozenAt HROW.out i
        have hgw : g < wr.heap.size := by omega
        have HXM := Lib.hid hxm
        clear hxj hLj hxm hLi
        generalize hxe : xs.getD j 0 = x at *
        generalize L.getD i 0 = old at *
        have hjj : (j : Int) < (N : Int) := by omega
        have hii : (i : Int) < (N : Int) := by omega
        clear hxe
        go_wp2_with fail
        refine (HF.out x HXM.out wr HON.out).mono ?_
        rintro e w2 ⟨rfl, hb2⟩
        have hrow2 := ownsRow_below HROW.out hb2 (Nat.le_refl _)
        have ci := kcell hb2 ci
        have fi := World.ownsRow.frozenAt hrow2 i
        have hon2 := HON.out.trans (Only.of_below hb2 lo w.heap.size)
        have hs2 := hb2.size
        cases hpx : p x with
        | true =>
          have hflt : (xs.take (j + 1)).filter (fun x => !p x) = (xs.take j).filter (fun x => !p x) := by
            rw [take_snoc HXJ.out, List.filter_append]
            have h2 : [x].filter (fun x => !p x) = [] := by simp only [List.filter_cons, hpx]; rfl
            rw [h2, List.append_nil]
          have HROW2 := Lib.hid hrow2
          have HON2 := Lib.hid hon2
          have HFL := Lib.hid hflt
          have HD1 := Lib.hid (show L.drop (j + 1) = xs.drop (j + 1) by rw [← List.drop_drop, HLD.out, List.drop_drop])
          clear hrow2 hon2 hflt hpx hb2
          go_wp2_with fail
          go_roundw
          case rel => exact ⟨i, j + 1, L, by omega, by omega, rfl, by go_num, HLN.out, by rw [HFL.out]; exact HLT.out, HD1.out, HROW2.out, HON2.out⟩
          case measure => simp [intOf]; omega
        | false =>
          have hflt : (xs.take (j + 1)).filter (fun x => !p x) = (xs.take j).filter (fun x => !p x) ++ [x] := by
            rw [take_snoc HXJ.out, List.filter_append]
            have h2 : [x].filter (fun x => !p x) = [x] := by simp only [List.filter_cons, hpx]; rfl
            rw [h2]
          have hrow3 := (World.ownsRow.stored hrow2 i (.int .i64 x)).1
          rw [flatI_set] at hrow3
          have hon3 := hon2.setCell (p := ⟨g, i, none⟩) (.inl ⟨hg1, hg2⟩) (.int .i64 x)
          have HROW2 := Lib.hid hrow3
          have HON2 := Lib.hid hon3
          have HFL := Lib.hid hflt
          have hlen : (L.set i x).length = N := by rw [List.length_set]; exact HLN.out
          have ht1 : (L.set i x).take (i + 1) = L.take i ++ [x] := by
            have h1 : (L.set i x)[i]? = some x := List.getElem?_set_self (by have := HLN.out; omega)
            rw [take_snoc h1, List.take_set, List.set_eq_of_length_le (by rw [List.length_take]; omega)]
          have hd1 : (L.set i x).drop (j + 1) = xs.drop (j + 1) := by
            rw [List.drop_set_of_lt (by omega), ← List.drop_drop, HLD.out, List.drop_drop]
          have HLN2 := Lib.hid hlen
          have HT1 := Lib.hid ht1
          have HD1 := Lib.hid hd1
          clear hrow2 hon2 hrow3 hon3 hflt hpx hb2 hlen ht1 hd1
          go_wp2_with fail
          go_roundw
          case rel => exact ⟨i + 1, j + 1, L.set i x, by omega, by omega, by go_num, by go_num, HLN2.out, by rw [HFL.out, HT1.out, HLT.out], HD1.out, HROW2.out, HON2.out⟩
          case measure => simp [intOf]; omega
      · obtain rfl : j = N := by omega
        have hcl : ∀ ty, (Builtin.clear_ #[22] ty #[.slice (some ⟨g, i, none⟩) (j - i) (c - i)]).run Try.prog wr = .ok (.tuple #[]) (wr.setCells g i (List.replicate (j - i) (.int .i64 0))) :=
          fun ty => Lib.run_clear_slice wr _ _ ty _ Try.underlying22 Try.zeroValue3 rfl rfl g i _ _ (by omega) (fun t ht => by rw [World.ownsRow.cellAt HROW.out (i + t) (by omega)]; rw [flatI_at (getD_of (by have := HLN.out; omega))]; rfl) (fun t ht => World.ownsRow.frozenAt HROW.out (i + t))
        obtain ⟨cs', h1, h2, h3⟩ := setCells_own (List.replicate (j - i) (.int .i64 0)) i _ _ HROW.out
        have h4 := ownsRow_take h1 (show i ≤ j by omega)
        have hfin : R = L.take i := by rw [HR.out, HLT.out, HN.out, List.take_length]
        have hcs : cs'.take (i * 1) = R.flatMap cI := by
          rw [Nat.mul_one, h2, hfin]
          have : ∀ (l : List Int) (k : Nat), (l.flatMap cI).take k = (l.take k).flatMap cI := by
            intro l
            induction l with
            | nil => intro k; simp
            | cons a l ih =>
              intro k
              cases k with
              | zero => simp
              | succ k => simp only [List.flatMap_cons, List.take_succ_cons, cI, List.cons_append, List.nil_append]; rw [ih]
          exact this L i
        have hRl : R.length = i := by rw [hfin, List.length_take]; have := HLN.out; omega
        rw [hcs] at h4
        have HOWN := Lib.hid h4
        have HRL := Lib.hid hRl
        have HON2 := Lib.hid (HON.out.trans (h3.mono hg1 (show g + 1 ≤ w.heap.size by omega)))
        have hcz : (i : Int) ≤ (j : Int) := by omega
        have hcz2 : (i : Int) ≤ (c : Int) := by omega
        clear h1 h2 h3 h4 hfin hcs hRl
        go_wp2_with fail
        go_ret
        exact ⟨_, rfl, Own.of_row HOWN.out HRL.out rfl, HON2.out⟩
theorem usefulClosure (i : Nat) (T : List Int) (b0 b7 o7 N c7 : Nat) (W : World) (hi : i < N) (hN : N ≤ 60) (y0 : W.cell? ⟨b0, 0, none⟩ = some (.slice (some ⟨b7, o7, none⟩) N c7)) (y1 : W.cell? ⟨b7, o7 + i, none⟩ = some (.int .i64 (T.getD i 0))) :
    Calls Try.prog 86 #[.int .i64 (i : Int), .pointer (some ⟨b0, 0, none⟩)] W fun e W' => e = .returned (.bool (decide (T.getD i 0 < 0))) ∧ Below W.heap.size W W' := by
  generalize T.getD i 0 = t at *
  have hii : (i : Int) < (N : Int) := by omega
  go_enter Try.func86, Try.ntmps86
  go_wp2_with fail
  go_ret
  exact ⟨rfl, Below.refl _ _⟩
theorem useful_filter (g : Gr) (a : Au) (x y : Int) (h : useOk g a x y = true) : (reachL g a x).filter (fun v => !decide ((distTo g a y).getD v.toNat 0 < 0)) = usefulL g a x y := by
  rw [reachL, pick_filter, usefulL, if_pos h]
  unfold pickL
  congr 1
  apply List.filter_congr
  intro i _
  simp only [reachP, usefulP, Int.toNat_natCast]
  congr 1
  by_cases h2 : (distTo g a y).getD i 0 < 0
  · rw [decide_eq_true h2, decide_eq_false (by omega)]; rfl
  · rw [decide_eq_false h2, decide_eq_true (by omega)]; rfl
set_option maxHeartbeats 4000000 in
set_option maxRecDepth 100000 in
theorem implUsefulProduct (vg va : Value) (g : Gr) (a : Au) (x y : Int) (w : World) (hgv : GrV 0 w.heap.size w vg g) (hav : AuV 0 w.heap.size w va a) :
    Calls Try.prog 35 #[vg, va, .int .i64 x, .int .i64 y] w fun e w' => ∃ v', e = .returned v' ∧ Own w.heap.size w'.heap.size w' 3 cI 1 v' (usefulL g a x y) ∧ Below w.heap.size w w' := by
  obtain ⟨R, hR⟩ : ∃ R, R = usefulL g a x y := ⟨_, rfl⟩
  rw [← hR]
  have hgv0 := hgv
  have hav0 := hav
  obtain ⟨A1, n1, c1, A2, n2, c2, rfl⟩ := hgv.shape
  obtain ⟨A3, n3, c3, A4, n4, c4, rfl⟩ := hav.shape
  have hb0 : Below w.heap.size w ((w.alloc (.cells #[.slice A1 n1 c1, .slice A2 n2 c2] 35)).alloc (.cells #[.int .i64 a.start, .slice A3 n3 c3, .slice A4 n4 c4] 37)) := ((Below.refl _ _).alloc (Nat.le_refl _) _).alloc (by simp) _
  have hb1 := hb0.alloc hb0.size (.cells #[.int .i64 x, .int .i64 y] 3)
  have hst : SlE (((w.alloc (.cells #[.slice A1 n1 c1, .slice A2 n2 c2] 35)).alloc (.cells #[.int .i64 a.start, .slice A3 n3 c3, .slice A4 n4 c4] 37)).alloc (.cells #[.int .i64 x, .int .i64 y] 3)) cI 1 (.slice (some ⟨w.heap.size + 1 + 1, 0, none⟩) 2 2) [x, y] := by
    have h := lit_sl ((w.alloc (.cells #[.slice A1 n1 c1, .slice A2 n2 c2] 35)).alloc (.cells #[.int .i64 a.start, .slice A3 n3 c3, .slice A4 n4 c4] 37)) 3 [x, y] (by unfold maxLen; simp)
    simpa using h
  have hbo := bothOk_any _ _ _ g a [x, y] _ (hgv0.keep hb1) (hav0.keep hb1) hst
  have HBO := Lib.hid hbo
  have HGV := Lib.hid hgv0
  have HAV := Lib.hid hav0
  clear hgv hav hgv0 hav0 hbo hst
  cases hk : ([x, y].all (fun s => wi s 0 ((g.vals.length : Int) - 1)) && (grOk g && auOk a)) with
  | false =>
    rw [hk] at HBO
    have hfin : R = [] := by rw [hR, usefulL, if_neg]; simpa [useOk, Bool.and_assoc] using hk
    subst hfin
    clear hk hR
    go_enter Try.func35, Try.ntmps35
    go_wp2_with fail
    refine HBO.out.mono ?_
    rintro e w1 ⟨rfl, hb2⟩
    go_wp2_with fail
    go_ret
    exact ⟨_, rfl, Own.nil _ _ _ _ _ _, below_trans hb1 hb2⟩
  | true =>
    rw [hk] at HBO
    simp only [List.all_cons, List.all_nil, Bool.and_true, Bool.and_eq_true] at hk
    obtain ⟨⟨hx, hy⟩, hgo, hao⟩ := hk
    have hok : useOk g a x y = true := by rw [useOk, hx, hy, hgo, hao]; rfl
    have hdl := distFrom_len (g := g) (a := a) (x := x) (by rw [hx, hgo, hao]; rfl)
    have htl := distTo_len (g := g) (a := a) (y := y) (by rw [hy, hgo, hao]; rfl)
    have hN60 := distFrom_le g a x
    have hlen : (distTo g a y).length = (distFrom g a x).length := by rw [hdl, htl]
    have hfl := useful_filter g a x y hok
    rw [← hR] at hfl
    have hrl := reachL_len g a x
    have hrm : ∀ v ∈ reachL g a x, ∃ i : Nat, v = (i : Int) ∧ i < (distFrom g a x).length := fun v hv => pick_mem hv
    have HFL := Lib.hid hfl
    have HLEN := Lib.hid hlen
    have HRM := Lib.hid hrm
    clear hx hy hgo hao hok hdl htl hlen hfl hR hrm
    go_enter Try.func35, Try.ntmps35
    go_wp2_with fail
    refine HBO.out.mono ?_
    rintro e w1 ⟨rfl, hb2⟩
    have hb3 := below_trans hb1 hb2
    have b0 := (((Blk.new w 35 #[.slice A1 n1 c1, .slice A2 n2 c2] w.heap.size rfl).alloc (.cells #[.int .i64 a.start, .slice A3 n3 c3, .slice A4 n4 c4] 37)).alloc (.cells #[.int .i64 x, .int .i64 y] 3)).keep hb2
    have b1 := ((Blk.new (w.alloc (.cells #[.slice A1 n1 c1, .slice A2 n2 c2] 35)) 37 #[.int .i64 a.start, .slice A3 n3 c3, .slice A4 n4 c4] (w.heap.size + 1) (by simp)).alloc (.cells #[.int .i64 x, .int .i64 y] 3)).keep hb2
    have x0 : w1.cell? ⟨w.heap.size, 0, none⟩ = some (.slice A1 n1 c1) := b0.cell 0
    have x1 : w1.cell? ⟨w.heap.size, 1, none⟩ = some (.slice A2 n2 c2) := b0.cell 1
    have y0 : w1.cell? ⟨w.heap.size + 1, 0, none⟩ = some (.int .i64 a.start) := b1.cell 0
    have y1 : w1.cell? ⟨w.heap.size + 1, 1, none⟩ = some (.slice A3 n3 c3) := b1.cell 1
    have y2 : w1.cell? ⟨w.heap.size + 1, 2, none⟩ = some (.slice A4 n4 c4) := b1.cell 2
    have l00 := b0.lt
    have l0 := b1.lt
    clear hb0 hb1 hb2 b0 b1 HBO
    go_wp2_with fail
    refine (implDistancesTo _ _ g a y _ (HGV.out.keep hb3) (HAV.out.keep hb3)).mono ?_
    rintro e w3 ⟨vt, rfl, hoT, hb4⟩
    have hb5 := below_trans hb3 hb4
    have x0 := kcell hb4 x0
    have x1 := kcell hb4 x1
    have y0 := kcell hb4 y0
    have y1 := kcell hb4 y1
    have y2 := kcell hb4 y2
    have l0 := Nat.lt_of_lt_of_le l0 hb4.size
    have l00 := Nat.lt_of_lt_of_le l00 hb4.size
    obtain ⟨A7, c7, rfl, hl7, hm7, -⟩ := hoT.form cI_len
    have HT3 := Lib.hid (hoT.sl cI_len)
    clear hoT hb4 hb3
    go_wp2_with fail
    obtain ⟨gT, hgT⟩ : ∃ gT, gT = w3.heap.size := ⟨_, rfl⟩
    obtain ⟨W4, hW4⟩ : ∃ W4, W4 = w3.alloc (.cells #[.slice A7 (distTo g a y).length c7] 22) := ⟨_, rfl⟩
    have hb6 : Below w3.heap.size w3 W4 := by rw [hW4]; exact (Below.refl _ _).alloc (Nat.le_refl _) _
    have z0 : W4.cell? ⟨gT, 0, none⟩ = some (.slice A7 (distTo g a y).length c7) := by rw [hW4, hgT]; simp
    have lT : gT < W4.heap.size := by rw [hW4, hgT]; simp
    rw [← hW4, ← hgT]
    have HT4 := Lib.hid (HT3.out.below hb6 (Nat.le_refl _))
    rw [← hgT] at HT4
    have hb7 := below_trans hb5 hb6
    have x0 := kcell hb6 x0
    have x1 := kcell hb6 x1
    have y0 := kcell hb6 y0
    have y1 := kcell hb6 y1
    have y2 := kcell hb6 y2
    have hwT : w.heap.size ≤ gT := by rw [hgT]; exact hb5.size
    have l0 := Nat.lt_of_lt_of_le l0 hb6.size
    have l00 := Nat.lt_of_lt_of_le l00 hb6.size
    clear hW4 hgT hb6 hb5 HT3
    refine (implReachableProduct _ _ g a x _ (HGV.out.keep hb7) (HAV.out.keep hb7)).mono ?_
    rintro e w5 ⟨vr, rfl, hoR, hb8⟩
    have hb9 := below_trans hb7 hb8
    have hs8 := hb8.size
    have z0 := kcell hb8 z0
    have HT5 := Lib.hid (HT4.out.below hb8 (show gT ≤ W4.heap.size by omega))
    have hdf := deleteFuncU (.pointer (some ⟨gT, 0, none⟩)) vr W4.heap.size (reachL g a x) (fun v => decide ((distTo g a y).getD v.toNat 0 < 0)) w5 hoR (by omega) (fun v hv W hW => by
      obtain ⟨i, rfl, hi⟩ := HRM.out v hv
      rw [← HLEN.out] at hi
      obtain ⟨b7, o7, rfl, -, hb7', d7⟩ := HT5.out.intI (getD_of (D := distTo g a y) hi)
      have d7 := ocell hW d7 (by omega) (.inl (by omega))
      have z0 := ocell hW z0 (by omega) (.inl lT)
      exact usefulClosure i (distTo g a y) gT b7 o7 (distTo g a y).length c7 W hi (by rw [HLEN.out]; exact hN60) z0 d7)
    rw [HFL.out] at hdf
    have HDF := Lib.hid hdf
    obtain ⟨A9, n9, c9, rfl⟩ := hoR.shape
    clear hdf hoR hb8 hb7 z0 x0 x1 y0 y1 y2
    go_wp2_with fail
    refine HDF.out.mono ?_
    rintro e w6 ⟨v6, rfl, ho6, hon6⟩
    obtain ⟨A8, n8, c8, rfl⟩ := ho6.shape
    have HO := Lib.hid (ho6.mono (show w.heap.size ≤ W4.heap.size by omega) (Nat.le_refl _))
    have hbF := hb9.trans (hon6.below (B := w.heap.size) (by omega) (by omega))
    clear ho6 hon6
    go_wp2_with fail
    go_ret
    exact ⟨_, rfl, HO.out, hbF⟩

set_option maxHeartbeats 4000000 in
set_option maxRecDepth 100000 in
theorem specUsefulProduct (vg va : Value) (g : Gr) (a : Au) (x y : Int) (w : World) (hgv : GrV 0 w.heap.size w vg g) (hav : AuV 0 w.heap.size w va a) :
    Calls Try.prog 34 #[vg, va, .int .i64 x, .int .i64 y] w fun e w' => ∃ v', e = .returned v' ∧ Own w.heap.size w'.heap.size w' 3 cI 1 v' (usefulL g a x y) ∧ Below w.heap.size w w' := by
  obtain ⟨R, hR⟩ : ∃ R, R = usefulL g a x y := ⟨_, rfl⟩
  rw [← hR]
  have HRR := Lib.hid hR
  clear hR
  have hgv0 := hgv
  have hav0 := hav
  obtain ⟨A1, c1, A2, c2, rfl, hl1, hm1, hl2, hm2, hC1, -⟩ := hgv.form
  obtain ⟨ac, nx, rfl, hac, hnx⟩ := hav
  obtain ⟨A3, c3, rfl, hl3, hm3, -⟩ := SlE.form hac
  obtain ⟨A4, n4, c4, rfl⟩ := hnx.shape
  have hb0 : Below w.heap.size w ((w.alloc (.cells #[.slice A1 g.vals.length c1, .slice A2 g.edges.length c2] 35)).alloc (.cells #[.int .i64 a.start, .slice A3 a.accept.length c3, .slice A4 n4 c4] 37)) := ((Below.refl _ _).alloc (Nat.le_refl _) _).alloc (by simp) _
  have HGV := Lib.hid hgv0
  have HAV := Lib.hid hav0
  have HC1 := Lib.hid hC1
  clear hgv hac hnx hgv0 hav0 hC1
  go_enter Try.func34, Try.ntmps34
  go_wp2_with fail
  obtain ⟨W0, hW0⟩ : ∃ W0, W0 = ((w.alloc (.cells #[.slice A1 g.vals.length c1, .slice A2 g.edges.length c2] 35)).alloc (.cells #[.int .i64 a.start, .slice A3 a.accept.length c3, .slice A4 n4 c4] 37)).alloc (.cells #[] 3) := ⟨_, rfl⟩
  have hb0 : Below w.heap.size w W0 := by rw [hW0]; exact hb0.alloc hb0.size _
  rw [← hW0]
  have bx : Blk W0 w.heap.size 35 #[.slice A1 g.vals.length c1, .slice A2 g.edges.length c2] := by rw [hW0]; exact ((Blk.new w _ _ w.heap.size rfl).alloc _).alloc _
  have by_ : Blk W0 (w.heap.size + 1) 37 #[.int .i64 a.start, .slice A3 a.accept.length c3, .slice A4 n4 c4] := by rw [hW0]; exact (Blk.new (w.alloc _) _ _ (w.heap.size + 1) (by simp)).alloc _
  have hrow0 : W0.ownsRow (w.heap.size + 1 + 1) 3 1 (.slice (some ⟨w.heap.size + 1 + 1, 0, none⟩) 0 0) ([] : List Int).length (([] : List Int).flatMap cI) := by
    rw [hW0]
    have h := World.ownsRow_lit (base := w.heap.size + 1 + 1) (e := 3) (size := 1) ((w.alloc (.cells #[.slice A1 g.vals.length c1, .slice A2 g.edges.length c2] 35)).alloc (.cells #[.int .i64 a.start, .slice A3 a.accept.length c3, .slice A4 n4 c4] 37)) #[] 0 (by simp) (by decide) rfl
    simpa using h
  have x0 : W0.cell? ⟨w.heap.size, 0, none⟩ = some (.slice A1 g.vals.length c1) := bx.cell 0
  have x1 : W0.cell? ⟨w.heap.size, 1, none⟩ = some (.slice A2 g.edges.length c2) := bx.cell 1
  have y0 : W0.cell? ⟨w.heap.size + 1, 0, none⟩ = some (.int .i64 a.start) := by_.cell 0
  have y1 : W0.cell? ⟨w.heap.size + 1, 1, none⟩ = some (.slice A3 a.accept.length c3) := by_.cell 1
  have y2 : W0.cell? ⟨w.heap.size + 1, 2, none⟩ = some (.slice A4 n4 c4) := by_.cell 2
  have l0 := by_.lt
  have l00 := bx.lt
  have HROW0 := Lib.hid hrow0
  have hsW : W0.heap.size = w.heap.size + 1 + 1 + 1 := by rw [hW0]; simp
  have hsW' : w.heap.size + 1 + 1 < W0.heap.size := by omega
  have HSW := Lib.hid hsW
  clear hW0 bx by_ hrow0 hsW
  have hgx := l14Good_any _ _ g a x 0 W0 (HGV.out.keep hb0) (HAV.out.keep hb0)
  rw [goodB1] at hgx
  have HGX := Lib.hid hgx
  clear hgx
  have hR := HRR.out
  rw [usefulL, useOk] at hR
  clear HRR
  cases hk : (wi x 0 ((g.vals.length : Int) - 1) && (grOk g && auOk a)) with
  | false =>
    rw [hk] at HGX
    have hr0 : R = [] := by rw [hR, if_neg]; rw [Bool.and_left_comm, hk, Bool.and_false]; simp
    subst hr0
    clear hk hR
    refine HGX.out.mono ?_
    rintro e w1 ⟨rfl, hb1⟩
    have hb2 := below_trans hb0 hb1
    have HROW1 := Lib.hid (ownsRow_below HROW0.out hb1 (Nat.le_refl _))
    go_wp2_with fail
    go_ret
    exact ⟨_, rfl, (Own.of_row (xs := ([] : List Int)) HROW1.out rfl rfl).mono (by omega) (Nat.le_refl _), hb2⟩
  | true =>
    rw [hk] at HGX
    rw [Bool.and_left_comm, hk, Bool.and_true] at hR
    simp only [Bool.and_eq_true] at hk
    obtain ⟨hx, hgo, ha⟩ := hk
    have HIN := Lib.hid (fun (W : World) => l1In_any y 0 ((g.vals.length : Int) - 1) W)
    have hn5 := (grOk_iff.1 hgo).n5
    have q0 : IntKind.i64.wrap ((g.vals.length : Int) - 1) = (g.vals.length : Int) - 1 := IntWalk.i64_in _ (by omega)
    have Q0 := Lib.hid q0
    have hs1 := hb0.size
    cases hy : wi y 0 ((g.vals.length : Int) - 1) with
    | false =>
      rw [hy] at hR HIN
      have hr0 : R = [] := hR
      subst hr0
      clear hR hx hgo ha hy q0
      refine HGX.out.mono ?_
      rintro e w1 ⟨rfl, hb1⟩
      have hb2 := below_trans hb0 hb1
      have x0 := kcell hb1 x0
      have x1 := kcell hb1 x1
      have y0 := kcell hb1 y0
      have y1 := kcell hb1 y1
      have y2 := kcell hb1 y2
      have l00 := Nat.lt_of_lt_of_le l00 hb1.size
      have HROW1 := Lib.hid (ownsRow_below HROW0.out hb1 (Nat.le_refl _))
      have q0 := Q0.out
      go_wp2_with fail
      refine (HIN.out _).mono ?_
      rintro e w2 ⟨rfl, rfl⟩
      clear q0
      go_wp2_with fail
      go_ret
      exact ⟨_, rfl, (Own.of_row (xs := ([] : List Int)) HROW1.out rfl rfl).mono (by omega) (Nat.le_refl _), hb2⟩
    | true =>
      rw [hy] at hR HIN
      have hR2 : R = pickL (usefulP g a x y) (distFrom g a x).length := hR
      have hdl := distFrom_len (g := g) (a := a) (x := x) (by rw [hx, hgo, ha]; rfl)
      have htl := distTo_len (g := g) (a := a) (y := y) (by rw [hy, hgo, ha]; rfl)
      have hN60 := distFrom_le g a x
      rw [wi_iff] at hx hy
      obtain ⟨x, rfl⟩ := Int.eq_ofNat_of_zero_le hx.1
      obtain ⟨y, rfl⟩ := Int.eq_ofNat_of_zero_le hy.1
      have hxl : x < g.vals.length := by omega
      have hyl : y < g.vals.length := by omega
      have HLF := Lib.hid (fun (W : World) (hW : Below w.heap.size w W) => l14Ranks_any _ _ g a x W (HGV.out.keep hW) (HAV.out.keep hW) hgo ha hxl)
      have HLT := Lib.hid (fun (W : World) (hW : Below w.heap.size w W) => l14Back_any _ _ g a y W (HGV.out.keep hW) (HAV.out.keep hW) hgo ha hyl)
      have hlen : (distTo g a (y : Int)).length = (distFrom g a (x : Int)).length := by rw [hdl, htl]
      have HDL := Lib.hid hlen
      have HR := Lib.hid hR2
      clear hR hR2 hdl htl hlen hx hy hgo ha hxl hyl q0
      refine HGX.out.mono ?_
      rintro e w1 ⟨rfl, hb1⟩
      have hb2 := below_trans hb0 hb1
      have x0 := kcell hb1 x0
      have x1 := kcell hb1 x1
      have y0 := kcell hb1 y0
      have y1 := kcell hb1 y1
      have y2 := kcell hb1 y2
      have l0 := Nat.lt_of_lt_of_le l0 hb1.size
      have l00 := Nat.lt_of_lt_of_le l00 hb1.size
      have HROW1 := Lib.hid (ownsRow_below HROW0.out hb1 (Nat.le_refl _))
      have hs1b := hb1.size
      clear hb0 hb1 HROW0 HGX
      have q0 := Q0.out
      go_wp2_with fail
      refine (HIN.out _).mono ?_
      rintro e w2 ⟨rfl, rfl⟩
      clear q0
      go_wp2_with fail
      refine (HLF.out _ hb2).mono ?_
      rintro e w3 ⟨vd, rfl, hoD, hb3⟩
      have hb4 := below_trans hb2 hb3
      have x0 := kcell hb3 x0
      have x1 := kcell hb3 x1
      have y0 := kcell hb3 y0
      have y1 := kcell hb3 y1
      have y2 := kcell hb3 y2
      have l0 := Nat.lt_of_lt_of_le l0 hb3.size
      have l00 := Nat.lt_of_lt_of_le l00 hb3.size
      have HROW1 := Lib.hid (ownsRow_below HROW1.out hb3 (Nat.le_refl _))
      obtain ⟨A6, c6, rfl, hl6, hm6, -⟩ := hoD.form cI_len
      have HD3 := Lib.hid (hoD.sl cI_len)
      have hs2 := hb2.size
      have hs3 := hb3.size
      clear hoD hb2
      go_wp2_with fail
      refine (HLT.out _ hb4).mono ?_
      rintro e w5 ⟨vt, rfl, hoT, hb5⟩
      have hb2 := below_trans hb4 hb5
      have hs5 := hb5.size
      have HROW1 := Lib.hid (ownsRow_below HROW1.out hb5 (Nat.le_refl _))
      obtain ⟨A7, c7, rfl, hl7, hm7, -⟩ := hoT.form cI_len
      have HT := Lib.hid (hoT.sl cI_len)
      have HC6 := Lib.hid (HD3.out.below hb5 (Nat.le_refl _))
      obtain ⟨gO, hgO⟩ : ∃ gO, gO = w.heap.size + 1 + 1 := ⟨_, rfl⟩
      rw [← hgO] at HROW1 hsW' ⊢
      have hgw : w.heap.size + 1 < gO := by omega
      clear hoT hb5 hb4 hb3 HD3 x0 x1 y0 y1 y2 hgO HSW HLF HLT l0 l00
      obtain ⟨P, hP⟩ : ∃ P, P = usefulP g a (x : Int) (y : Int) := ⟨_, rfl⟩
      have hPi : ∀ i, P i = (decide (0 ≤ (distFrom g a (x : Int)).getD i 0) && decide (0 ≤ (distTo g a (y : Int)).getD i 0)) := fun i => by rw [hP]; rfl
      rw [← hP] at HR
      generalize distFrom g a (x : Int) = D at *
      generalize distTo g a (y : Int) = T at *
      have hdl := HDL.out
      rw [hdl] at hl7 ⊢
      obtain ⟨N, hN⟩ : ∃ N, N = D.length := ⟨_, rfl⟩
      rw [← hN] at HR hl6 hl7 hN60 hdl ⊢
      have HP := Lib.hid hPi
      have HN := Lib.hid hN
      have HTL := Lib.hid hdl
      clear hP hPi hN hdl HDL
      go_wp2_with fail
      go_loopw [9, 12] (fun oo ii wr => ∃ i : Nat, i ≤ N ∧ ii = .int .i64 (i : Int) ∧ wr.ownsRow gO 3 1 oo (pickL P i).length ((pickL P i).flatMap cI) ∧ Only gO (gO + 1) w5 wr ∧ (∀ b, oo.ownBlock = some b → b = gO ∨ w5.heap.size ≤ b)) (fun _ ii _ => N - (intOf ii).toNat)
      case atStart => exact ⟨0, Nat.zero_le _, rfl, HROW1.out, Only.refl _ _ _, fun b hb => by cases hb; exact .inl rfl⟩
      case round =>
        clear HROW1
        obtain ⟨i, hi, rfl, hrow, hon, hob⟩ := hrel
        have hsz := hon.size
        have hbw := hb2.trans (hon.below (B := w.heap.size) (by omega) hb2.size)
        have HBW := Lib.hid hbw
        have HROW := Lib.hid hrow
        have HOB := Lib.hid hob
        have HON := Lib.hid hon
        have hfl := pick_len P i
        clear hrow hob hbw hon
        by_cases hlt : i < N
        · have hdi := getD_of (D := D) (k := i) (by have := HN.out; omega)
          have hti := getD_of (D := T) (k := i) (by have := HTL.out; omega)
          obtain ⟨b6, o6, rfl, hb60, hb6, d6⟩ := HC6.out.intI hdi
          obtain ⟨b7, o7, rfl, hb70, hb7, d7⟩ := HT.out.intI hti
          have d6 := ocell HON.out d6 (by omega) (.inr (by omega))
          have d7 := ocell HON.out d7 (by omega) (.inr (by omega))
          have hb6w : b6 < wr.heap.size := by omega
          have hb7w : b7 < wr.heap.size := by omega
          have hii : (i : Int) < (N : Int) := by omega
          have HPI := Lib.hid (HP.out i)
          have HY := Lib.hid (fun h => pick_yes (p := P) (k := i) h)
          have HNo := Lib.hid (fun h => pick_no (p := P) (k := i) h)
          clear hdi hti
          generalize D.getD i 0 = dd at *
          generalize T.getD i 0 = tt at *
          generalize pickL P i = L at *
          by_cases hd : 0 ≤ dd
          · have hd0 : decide (dd ≥ 0) = true := by simpa using hd
            by_cases ht : 0 ≤ tt
            · have ht0 : decide (tt ≥ 0) = true := by simpa using ht
              have HM := Lib.hid (HY.out (by rw [HPI.out]; simp [hd, ht]))
              go_wp2_with (at_builtin; (refine wpList_append1 cI elInt rfl _ _ rfl gO _ L (i : Int) _ 1 _ (by rfl) HROW.out (by rfl) rfl rfl rfl (cI_one _) (by omega) (by omega) (by omega) ?_); intro v' w4 hrow' hb4 hat4 hgr4)
              go_roundw
              case rel =>
                refine ⟨i + 1, by omega, by go_num, by rw [HM.out]; exact hrow', (HON.out.alloc _).grown hgr4 (fun b hb => by have := HOB.out b hb; omega), fun b hb => ?_⟩
                rcases hat4 with h1 | ⟨g1, h1, h2⟩
                · exact HOB.out b (by rw [← h1]; exact hb)
                · rw [h1] at hb
                  injection hb with hb
                  exact .inr (by omega)
              case measure => simp [intOf]; omega
            · have ht0 : decide (tt ≥ 0) = false := by simpa using ht
              have HM := Lib.hid (HNo.out (by rw [HPI.out]; simp; omega))
              go_wp2_with fail
              go_roundw
              case rel => exact ⟨i + 1, by omega, by go_num, by rw [HM.out]; exact HROW.out, HON.out, HOB.out⟩
              case measure => simp [intOf]; omega
          · have hd0 : decide (dd ≥ 0) = false := by simpa using hd
            have HM := Lib.hid (HNo.out (by rw [HPI.out]; simp; omega))
            go_wp2_with fail
            go_roundw
            case rel => exact ⟨i + 1, by omega, by go_num, by rw [HM.out]; exact HROW.out, HON.out, HOB.out⟩
            case measure => simp [intOf]; omega
        · obtain rfl : i = N := by omega
          have hown := Own.of_row (xs := pickL P i) HROW.out rfl rfl
          rw [← HR.out] at hown
          obtain ⟨A9, n9, c9, rfl⟩ := hown.shape
          have HO := Lib.hid (hown.mono (show w.heap.size ≤ gO by omega) (Nat.le_refl _))
          clear hown
          go_wp2_with fail
          go_ret
          exact ⟨_, rfl, HO.out, HBW.out⟩
end Go.Proofs.Ytajjolkpgfegfaa

