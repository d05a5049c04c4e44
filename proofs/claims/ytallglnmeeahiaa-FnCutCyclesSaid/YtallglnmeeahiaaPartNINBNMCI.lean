/- Parts of the proof, joined into one text: CutS, CutL, CmpM, CmpW, Simp, Rec, Seat. -/
import Derived.Test.YtallglnmeeahiaaPartENICMIJB
import Derived.Test.YtallglnmeeahiaaPartDLBGOHJO
import Derived.Test.YtallglnmeeahiaaPartFDAIEBNB
import Derived.Test.YtallglnmeeahiaaPartLICDIBBA
import Derived.JoinedOf
import Derived.Test.YtallglnmeeahiaaRows
/- The reference's CutCycles. -/
namespace Go.Proofs.Ytallglnmeeahiaa
set_option linter.unusedVariables false
set_option linter.unusedSimpArgs false
open Go.ChangeShapes Go.WideShapes Go.ChangeAt Go.RowKit
attribute [local go_sem] ext_cell ext_frozen ext_lt ext_lt1 ext_lt2 ext_lt3 ltn2 ltn3 ltn13 lts1 lts2 lts3

theorem CutR.keep {bO : Nat} {w0 wr w' : World} {st : Int} {vs tt : Value} {L : List St} {M : List Int} (h : CutR bO w0 wr st vs tt L M) (hs : bO ≤ w0.heap.size) (hb : Below wr.heap.size wr w') : CutR bO w0 w' st vs tt L M :=
  ⟨h.box.keep hb, ownsRow_below h.steps hb (Nat.le_refl _), ownsRow_below h.there hb (Nat.le_refl _), h.dis, h.bel.trans (hb.mono (Nat.le_trans hs h.bel.size))⟩
theorem flatI_takeL (M N : List Int) : ((M ++ N).flatMap cI).take (M.length * 1) = M.flatMap cI := by
  rw [List.flatMap_append]
  refine List.take_left' ?_
  induction M with
  | nil => rfl
  | cons a M ih => simp only [List.flatMap_cons, List.length_append, ih, List.length_cons, cI, List.length_nil]; omega
theorem take_hit {M : List Int} {n : Int} {kk : Nat} (h : M[kk]? = some n) : (M ++ [n]).take (kk + 1) = M.take kk ++ [n] := by
  have hl := (List.getElem?_eq_some_iff.1 h).1
  rw [List.take_append_of_le_length (by omega), take_snoc h]

set_option maxHeartbeats 8000000 in
set_option maxRecDepth 100000 in
theorem specCutCycles (v1 v2 : Value) (g : Gr) (k : Wk) (w : World) (hv1 : GrV 0 w.heap.size w v1 g) (hv2 : WkV 0 w.heap.size w v2 k) :
    Calls Try.prog 17 #[v1, v2] w fun en w' => ∃ v, en = .returned (.tuple #[v, .bool (walkOk g k)]) ∧ WkO w.heap.size w'.heap.size w' v (cutOf g k) ∧ Below w.heap.size w w' := by
  have hv0 := hv1
  have hv3 := hv2
  obtain ⟨A1, n1, c1, A2, n2, c2, rfl⟩ := hv1.shape
  obtain ⟨ss, rfl, ⟨A3, c3, rfl, hl3, hm3, hx3⟩⟩ := hv2
  unfold maxLen at hm3
  have hb0 : Below w.heap.size w (((w.alloc (.cells #[.slice A1 n1 c1, .slice A2 n2 c2] 38)).alloc (.cells #[.int .i64 k.1, .slice A3 k.2.length c3] 41)).alloc (.cells #[.int .i64 0, .slice none 0 0] 41)) := (((Below.refl _ _).alloc (Nat.le_refl _) _).alloc (by simp) _).alloc (by simp; omega) _
  have hc := specNodes _ _ g k _ (hv0.keep hb0) (hv3.keep hb0)
  have bx : Blk (((w.alloc (.cells #[.slice A1 n1 c1, .slice A2 n2 c2] 38)).alloc (.cells #[.int .i64 k.1, .slice A3 k.2.length c3] 41)).alloc (.cells #[.int .i64 0, .slice none 0 0] 41)) (w.heap.size + 1) 41 #[.int .i64 k.1, .slice A3 k.2.length c3] := (Blk.new (w.alloc _) _ _ (w.heap.size + 1) (by simp)).alloc _
  have bz : Blk (((w.alloc (.cells #[.slice A1 n1 c1, .slice A2 n2 c2] 38)).alloc (.cells #[.int .i64 k.1, .slice A3 k.2.length c3] 41)).alloc (.cells #[.int .i64 0, .slice none 0 0] 41)) (w.heap.size + 1 + 1) 41 #[.int .i64 0, .slice none 0 0] := Blk.new ((w.alloc _).alloc _) _ _ (w.heap.size + 1 + 1) (by simp)
  have HC := Lib.hid hc
  have HX := Lib.hid hx3
  have HBX := Lib.hid bx
  have HBZ := Lib.hid bz
  have HB0 := Lib.hid hb0
  obtain ⟨R, hR⟩ : ∃ R, R = cutOf g k := ⟨_, rfl⟩
  rw [← hR]
  have HR := Lib.hid hR
  clear hc hx3 hv0 hv1 hv3 bx bz hb0 hR
  cases hok : walkOk g k with
  | false =>
    rw [hok] at HC
    have hfin : R = (0, []) := by rw [HR.out, cutOf, hok]; rfl
    subst hfin
    clear HR hok
    go_enter Try.func17, Try.ntmps17
    go_wp2_with fail
    refine HC.out.mono ?_
    rintro e w1 ⟨v, rfl, -, hb1⟩
    have hb2 := below_trans HB0.out hb1
    have bz1 := HBZ.out.keep hb1
    have z0 : w1.cell? ⟨w.heap.size + 1 + 1, 0, none⟩ = some (.int .i64 0) := bz1.cell 0
    have z1 : w1.cell? ⟨w.heap.size + 1 + 1, 1, none⟩ = some (.slice none 0 0) := bz1.cell 1
    have fz0 := bz1.frozen 0
    have fz1 := bz1.frozen 1
    have lz := bz1.lt
    clear bz1
    go_wp2_with fail
    refine bodyPost_ret (v := .tuple #[.agg #[.int .i64 0, .slice none 0 0], .bool false]) (by simp [results, Try.results17, go_sem, z0, z1]) rfl ⟨_, rfl, ⟨_, rfl, Own.nil _ _ _ _ _ _⟩, (hb2.setCell (p := ⟨w.heap.size + 1 + 1, 0, none⟩) (by simp only; omega) _).setCell (p := ⟨w.heap.size + 1 + 1, 1, none⟩) (by simp only; omega) _⟩
  | true =>
    rw [hok] at HC
    have hfin : R = (k.1, (cutAt g k k.2.length).1) := by rw [HR.out, cutOf, hok]; rfl
    have hk60 : k.2.length ≤ 60 := by
      rcases Nat.lt_or_ge 60 k.2.length with h3 | h3
      · rw [walkOk_long h3] at hok; cases hok
      · exact h3
    rw [nodesOut_yes hok] at HC
    have HF := Lib.hid hfin
    clear HR hok hfin
    go_enter Try.func17, Try.ntmps17
    go_wp2_with fail
    refine HC.out.mono ?_
    rintro e w1 ⟨v, rfl, ho1, hb1⟩
    have hb2 := below_trans HB0.out hb1
    have bz1 := HBZ.out.keep hb1
    have bx1 := HBX.out.keep hb1
    have x0 : w1.cell? ⟨w.heap.size + 1, 0, none⟩ = some (.int .i64 k.1) := bx1.cell 0
    have x1 : w1.cell? ⟨w.heap.size + 1, 1, none⟩ = some (.slice A3 k.2.length c3) := bx1.cell 1
    have lz := bz1.lt
    have lx := bx1.lt
    have hs0 : w.heap.size + 1 + 1 + 1 ≤ w1.heap.size := by omega
    have lx2 : w.heap.size < w1.heap.size := by omega
    have lx3 : w.heap.size + 1 < w1.heap.size + 1 := by omega
    obtain ⟨A6, c6, rfl, hl6, hm6, -⟩ := ho1.form cI_len
    have HN := Lib.hid (ho1.sl cI_len)
    have hnl := nodesL_len g k
    rw [hnl] at hl6 ⊢
    have HBZ1 := Lib.hid bz1
    have HB2 := Lib.hid hb2
    clear bz1 bx1 ho1 hb1 HBZ HBX HB0 HC hnl hb2
    go_wp2_with fail
    obtain ⟨bO, hbO⟩ : ∃ bO, bO = w1.heap.size := ⟨_, rfl⟩
    have hstart : CutR bO w1 ((w1.alloc (.cells #[.int .i64 k.1, .slice none 0 0] 41)).alloc (.cells #[.int .i64 k.1] 3)) k.1 (.slice none 0 0) (.slice (some ⟨bO + 1, 0, none⟩) 1 1) (cutAt g k 0).1 (cutAt g k 0).2 := by
      subst hbO
      refine ⟨(Blk.new w1 _ _ _ rfl).alloc _, World.ownsRow_nil _ _ _ _, ?_, ?_, ?_⟩
      · have h := World.ownsRow_lit (base := w1.heap.size + 1) (e := 3) (size := 1) (w1.alloc (.cells #[.int .i64 k.1, .slice none 0 0] 41)) #[.int .i64 k.1] 1 (by simp) (by decide) rfl
        simpa [cutAt, cI] using h
      · intro b hb; cases hb
      · exact ((Below.refl _ _).alloc (Nat.le_refl _) _).alloc (by simp) _
    have hbl : bO ≤ w1.heap.size := by omega
    have HST := Lib.hid hstart
    rw [← hbO] at hs0 HN ⊢
    clear hstart hbO
    go_loopw [9, 10] (fun tt ii wr => ∃ (i : Nat) (vs : Value), i ≤ k.2.length ∧ ii = .int .i64 (i : Int) ∧ CutR bO w1 wr k.1 vs tt (cutAt g k i).1 (cutAt g k i).2) (fun _ ii _ => k.2.length - (intOf ii).toNat)
    case atStart => exact ⟨0, _, Nat.zero_le _, rfl, HST.out⟩
    case round =>
      clear HST
      obtain ⟨i, vs, hi, rfl, hcr⟩ := hrel
      have HCR := Lib.hid hcr
      have x1 := (hcr.bel.cell (p := ⟨w.heap.size + 1, 1, none⟩) (by simp only; omega)).trans x1
      have hbs := hcr.bel.size
      have lxr : w.heap.size + 1 < wr.heap.size := by omega
      clear hcr
      by_cases hlt : i < k.2.length
      · obtain ⟨s, hs⟩ : ∃ s, s = k.2.getD i (0, false) := ⟨_, rfl⟩
        have hxs : k.2[i]? = some s := by rw [hs, List.getD_eq_getElem?_getD, List.getElem?_eq_getElem hlt]; rfl
        obtain ⟨n, hn⟩ : ∃ n, n = (nodesL g k).getD (i + 1) 0 := ⟨_, rfl⟩
        have hxn := getD_of (D := nodesL g k) (k := i + 1) (by rw [nodesL_len]; omega)
        rw [← hn] at hxn
        have HST := Lib.hid (show cutAt g k (i + 1) = cutStep (cutAt g k i) s n by rw [cutAt, ← hs, ← hn])
        have hcl := cutAt_len g k i
        generalize cutAt g k i = p at *
        obtain ⟨L, M⟩ := p
        obtain ⟨sid, sinv⟩ := s
        simp only at hcl HCR
        obtain ⟨b3, o3, rfl, -, hb3, hc3⟩ := HX.out i _ hxs
        have k0 := hc3 0 _ rfl
        have k1 := hc3 1 _ rfl
        simp only [Nat.add_zero] at k0
        have d0 := (HCR.out.bel.cell (p := ⟨b3, o3 + i * 2, none⟩) (by simp only; omega)).trans (kcell HB2.out k0)
        have d1 := (HCR.out.bel.cell (p := ⟨b3, o3 + i * 2 + 1, none⟩) (by simp only; omega)).trans (kcell HB2.out k1)
        obtain ⟨b6, o6, rfl, -, hb6, k6⟩ := HN.out.intI hxn
        have D6 := Lib.hid k6
        clear k0 k1 k6
        have z1 : wr.cell? ⟨bO, 1, none⟩ = some vs := HCR.out.box.cell 1
        have lb := HCR.out.box.lt
        have hii : (i : Int) < (k.2.length : Int) := by omega
        obtain ⟨i1, hi1⟩ : ∃ i1, i1 = i + 1 := ⟨_, rfl⟩
        have q1 : IntKind.i64.wrap ((i : Int) + 1) = (i1 : Int) := by rw [IntWalk.i64_in _ (by omega)]; omega
        have hi1a : i + 1 ≤ i1 := by omega
        have hi1b : i1 ≤ i + 1 := by omega
        rw [← hi1] at D6
        have HI1 := Lib.hid hi1
        have hjj : (i1 : Int) < (k.2.length : Int) + 1 := by omega
        have hj0 : (0 : Int) ≤ (i1 : Int) := by omega
        have hb3w : b3 < wr.heap.size := by omega
        have hLEa : M.length ≤ L.length + 1 := by omega
        have hLEb : L.length + 1 ≤ M.length := by omega
        have hL60 : L.length ≤ 60 := by omega
        have hM60 : M.length ≤ 61 := by omega
        clear hxs hxn hs hn hc3 hcl hi1
        have hx1 := x1
        go_wp2_with fail
        refine F_start 10 (fun w' => w'.cell? ⟨bO, 1, none⟩ = some (vs) ∧ w'.cell? ⟨w.heap.size + 1, 1, none⟩ = some (.slice (some ⟨b3, o3, none⟩) k.2.length c3) ∧ w'.cell? ⟨b3, o3 + i * 2, none⟩ = some (.int .i64 sid) ∧ w'.cell? ⟨b3, o3 + i * 2 + 1, none⟩ = some (.bool sinv)) (by kernel_rfl) (by exact ⟨z1, x1, d0, d1⟩) (fun hS inv => ?_)
        refine F_take (i := 0) (v := ?_) rfl (by kernel_rfl) (by kernel_rfl) (by kernel_rfl) (fun _ _ _ h => h) inv (Or.inl ⟨by rfl, ?_⟩) (by assumption) (fun invn => ?_)
        rotate_left
        · (intro w hSw; (try dsimp only at hSw); go_simp; try with_reducible rfl)
        try simp only [List.getElem_toArray, List.getElem_cons_zero, List.getElem_cons_succ, Act.put, List.setIfInBounds_toArray, List.set_cons_zero, List.set_cons_succ]
        clear inv
        have inv := invn
        clear invn
        refine F_take (i := 1) (v := ?_) rfl (by kernel_rfl) (by kernel_rfl) (by kernel_rfl) (fun _ _ _ h => h) inv (Or.inl ⟨by rfl, ?_⟩) (by assumption) (fun invn => ?_)
        rotate_left
        · (intro w hSw; (try dsimp only at hSw); go_simp; try with_reducible rfl)
        try simp only [List.getElem_toArray, List.getElem_cons_zero, List.getElem_cons_succ, Act.put, List.setIfInBounds_toArray, List.set_cons_zero, List.set_cons_succ]
        clear inv
        have inv := invn
        clear invn
        refine F_take (i := 2) (v := ?_) rfl (by kernel_rfl) (by kernel_rfl) (by kernel_rfl) (fun _ _ _ h => h) inv (Or.inl ⟨by rfl, ?_⟩) (by assumption) (fun invn => ?_)
        rotate_left
        · (intro w hSw; (try dsimp only at hSw); go_simp; try with_reducible rfl)
        try simp only [List.getElem_toArray, List.getElem_cons_zero, List.getElem_cons_succ, Act.put, List.setIfInBounds_toArray, List.set_cons_zero, List.set_cons_succ]
        clear inv
        have inv := invn
        clear invn
        refine F_take (i := 3) (v := ?_) rfl (by kernel_rfl) (by kernel_rfl) (by kernel_rfl) (fun _ _ _ h => h) inv (Or.inl ⟨by rfl, ?_⟩) (by assumption) (fun invn => ?_)
        rotate_left
        · (intro w hSw; (try dsimp only at hSw); go_simp; try with_reducible rfl)
        try simp only [List.getElem_toArray, List.getElem_cons_zero, List.getElem_cons_succ, Act.put, List.setIfInBounds_toArray, List.set_cons_zero, List.set_cons_succ]
        clear inv
        have inv := invn
        clear invn
        refine F_take (i := 4) (v := ?_) rfl (by kernel_rfl) (by kernel_rfl) (by kernel_rfl) (fun _ _ _ h => h) inv (Or.inl ⟨by rfl, ?_⟩) (by assumption) (fun invn => ?_)
        rotate_left
        · (intro w hSw; (try dsimp only at hSw); go_simp; try with_reducible rfl)
        try simp only [List.getElem_toArray, List.getElem_cons_zero, List.getElem_cons_succ, Act.put, List.setIfInBounds_toArray, List.set_cons_zero, List.set_cons_succ]
        clear inv
        have inv := invn
        clear invn
        refine F_take (i := 5) (v := ?_) rfl (by kernel_rfl) (by kernel_rfl) (by kernel_rfl) (fun _ _ _ h => h) inv (Or.inl ⟨by rfl, ?_⟩) (by assumption) (fun invn => ?_)
        rotate_left
        · (intro w hSw; (try dsimp only at hSw); go_simp; try with_reducible rfl)
        try simp only [List.getElem_toArray, List.getElem_cons_zero, List.getElem_cons_succ, Act.put, List.setIfInBounds_toArray, List.set_cons_zero, List.set_cons_succ]
        clear inv
        have inv := invn
        clear invn
        refine F_take (i := 6) (v := ?_) rfl (by kernel_rfl) (by kernel_rfl) (by kernel_rfl) (fun _ _ _ h => h) inv (Or.inl ⟨by rfl, ?_⟩) (by assumption) (fun invn => ?_)
        rotate_left
        · (intro w hSw; (try dsimp only at hSw); go_simp; try with_reducible rfl)
        try simp only [List.getElem_toArray, List.getElem_cons_zero, List.getElem_cons_succ, Act.put, List.setIfInBounds_toArray, List.set_cons_zero, List.set_cons_succ]
        clear inv
        have inv := invn
        clear invn
        refine F_one (i := 7) (by kernel_rfl) rfl rfl (by omega) inv (fun K hK => ?_)
        try simp only [List.getElem_toArray, List.getElem_cons_zero, List.getElem_cons_succ]
        go_simp
        refine hK.out _ _ (kA4 _ hS) (fun hSn invn => ?_)
        try simp only [List.getElem_toArray, List.getElem_cons_zero, List.getElem_cons_succ, Act.put, List.setIfInBounds_toArray, List.set_cons_zero, List.set_cons_succ]
        clear hK K inv hS
        have inv := invn
        have hS := hSn
        clear invn hSn
        have hrowL : (wr.alloc (.cells #[.int .i64 sid, .bool sinv] 54)).drew.ownsRow (bO + 1) 54 2 vs L.length (L.flatMap cSt) := World.ownsRow.alloc (w := wr) HCR.out.steps (.cells #[.int .i64 sid, .bool sinv] 54)
        have hlitL : (wr.alloc (.cells #[.int .i64 sid, .bool sinv] 54)).drew.heap[wr.heap.size]? = some (.cells #[.int .i64 sid, .bool sinv] 54 (0, 0)) := heap_alloc_new wr _
        have hsA : wr.heap.size < (wr.alloc (.cells #[.int .i64 sid, .bool sinv] 54)).drew.heap.size := by simp
        refine F_one (i := 8) (by kernel_rfl) rfl rfl (by omega) inv (fun K hK => ?_)
        try simp only [List.getElem_toArray, List.getElem_cons_zero, List.getElem_cons_succ]
        refine op_append1 cSt elStep rfl _ _ (by rfl) (bO + 1) vs L (sid, sinv) 1 _ (by rfl) hrowL (by first | rfl | simp) hlitL rfl (cSt_one _) (by omega) (by omega) (by omega) ?_
        intro g2 cp2 w3 hown3 hgr3 hat3 hlt3
        have hgrx : (wr.alloc (.cells #[.int .i64 sid, .bool sinv] 54)).grownBy w3 vs.ownBlock := ⟨hgr3.os, hgr3.tape, hgr3.output, hgr3.size, hgr3.block⟩
        obtain ⟨hbk4, hcr4⟩ := HCR.out.push hbl hown3 hgrx (by
          rcases hat3 with h | h
          · exact .inl h.symm
          · exact .inr ⟨g2, rfl, by omega⟩)
        have hsr3 : ∀ b o u, wr.cell? ⟨b, o, none⟩ = some u → b < wr.heap.size → vs.ownBlock ≠ some b → w3.cell? ⟨b, o, none⟩ = some u := fun b o u hc hb hne =>
          (World.cell?_of_block (a := ⟨b, o, none⟩) ((hgrx.block b (by simp; omega) (fun e => hne e.symm)).trans (Below.heap_alloc wr _ b hb))).trans hc
        have hvl : ∀ b, vs.ownBlock = some b → bO + 1 ≤ b := fun b hb => (HCR.out.steps.lt b hb).1
        have HC4 := Lib.hid hcr4
        have z1 : w3.cell? ⟨bO, 1, none⟩ = some vs := hbk4.cell 1
        have fz1 := hbk4.frozen 1
        have lz4 := hbk4.lt
        have x1 := hsr3 _ _ _ hx1 lxr (fun e => by have := hvl _ e; omega)
        have d0 := hsr3 _ _ _ d0 hb3w (fun e => by have := hvl _ e; omega)
        have d1 := hsr3 _ _ _ d1 hb3w (fun e => by have := hvl _ e; omega)
        clear hown3 hgr3 hat3 hgrx hsr3 hvl hbk4 hcr4 hrowL hlitL
        refine hK.out _ _ (⟨z1, x1, d0, d1⟩) (fun hSn invn => ?_)
        try simp only [List.getElem_toArray, List.getElem_cons_zero, List.getElem_cons_succ, Act.put, List.setIfInBounds_toArray, List.set_cons_zero, List.set_cons_succ]
        clear hK K inv hS
        have inv := invn
        have hS := hSn
        clear invn hSn
        refine F_take (i := 9) (v := ?_) rfl (by kernel_rfl) (by kernel_rfl) (by kernel_rfl) (fun _ _ _ h => h) inv (Or.inl ⟨by rfl, ?_⟩) (by assumption) (fun invn => ?_)
        rotate_left
        · (intro w hSw; (try dsimp only at hSw); go_simp; try with_reducible rfl)
        try simp only [List.getElem_toArray, List.getElem_cons_zero, List.getElem_cons_succ, Act.put, List.setIfInBounds_toArray, List.set_cons_zero, List.set_cons_succ]
        clear inv
        have inv := invn
        clear invn
        refine F_last (i := 10) (by kernel_rfl) rfl rfl (by omega) (by kernel_rfl) (fun K hK => ?_)
        go_simp
        refine hK _ _ ?_
        clear hK K inv hS
        have d6 := (HC4.out.bel.cell (p := ⟨b6, o6 + i1, none⟩) (by simp only; omega)).trans D6.out
        generalize w3.setCell ⟨bO, 1, none⟩ (.slice (some ⟨g2, 0, none⟩) (L.length + 1) cp2) = w5 at *
        have hs5 := HC4.out.bel.size
        have lb5 := HC4.out.box.lt
        have hb6w : b6 < w5.heap.size := by omega
        clear z1 fz1 x1 d0 d1 hx1 lz4 hlt3 hsA
        go_wp2_with (at_builtin; (refine wpList_append1 cI elInt rfl _ _ rfl (bO + 1) _ M n _ 1 w5.heap.size (by rfl) HC4.out.there (by rfl) rfl rfl rfl (cI_one _) (by omega) (by omega) (by omega) ?_); intro v5 w7 hrow5 hb5 hat5 hgr5; have HC7 := Lib.hid (HC4.out.seen hbl hrow5 hgr5 hat5); clear hrow5 hb5 hat5 hgr5)
        have hth := HC7.out.there
        have hMl : (M ++ [n]).length = M.length + 1 := by simp
        rw [hMl] at hth
        obtain ⟨g7, c7, hv7, -, hg7w, hcl7, hcm7⟩ := own_some hth (by omega)
        subst hv7
        have htk := ownsRow_take hth (m := M.length) (by omega)
        rw [flatI_takeL] at htk
        have hsl7 := ((Own.of_row (xs := M) htk rfl rfl).sl cI_len).all (Nat.le_refl _)
        have HLF := Lib.hid (fun (W : World) (hW : Below w7.heap.size w7 W) => (l11Find_any _ M n W (SlE.keep hsl7 hW)).mono fun e w' h => (⟨h.1, by rw [h.2]; exact Below.refl _ _⟩ : e = .returned (.int .i64 (Lib.idxOf M n)) ∧ Below W.heap.size W w'))
        have d6 := (HC7.out.bel.cell (p := ⟨b6, o6 + i1, none⟩) (by simp only; omega)).trans D6.out
        have hs7 := HC7.out.bel.size
        have hb6w : b6 < w7.heap.size := by omega
        obtain ⟨m1, hm1⟩ : ∃ m1, m1 = M.length + 1 := ⟨_, rfl⟩
        have qm : IntKind.i64.wrap ((m1 : Int) - 1) = (M.length : Int) := by rw [IntWalk.i64_in _ (by omega)]; omega
        have hmc : (M.length : Int) ≤ (c7 : Int) := by omega
        have hmc0 : (0 : Int) ≤ (M.length : Int) := by omega
        rw [← hm1] at HC7 ⊢
        have HM1 := Lib.hid hm1
        clear hth hMl htk hsl7 hm1
        go_wp2_with fail
        refine wp_region_ext_lit (by kernel_rfl) (by kernel_rfl) ?_
        repeat (go_big_quiet_step ((go_at_call 52; exact Calls.ext_of (HLF.out _ (ext_below _ _)))))
        refine wpQuiet_nil ?_
        intro _ hw'
        obtain ⟨u2, hw''⟩ := hw'
        subst hw''
        have HC8 := Lib.hid (HC7.out.keep hbl (ext_below w7 u2))
        generalize ext w7 u2 = w8 at *
        have z1 := HC8.out.box.cell 1
        have fz1 := HC8.out.box.frozen 1
        have lb := HC8.out.box.lt
        clear qm d6 HC7 HLF
        rcases idxOf_cases M n with e1 | ⟨kk, hkk, e1, hhit⟩
        · rw [e1]
          have HS2 := Lib.hid (HST.out.trans (cutStep_no (p := (L, M)) e1))
          clear e1
          go_wp2_with fail
          go_roundw
          case rel => exact ⟨i + 1, _, by omega, by go_num, by rw [HS2.out]; exact HC8.out⟩
          case measure => simp [intOf]; omega
        · rw [e1]
          have HS2 := Lib.hid (HST.out.trans (cutStep_yes (p := (L, M)) e1))
          have k1 : decide ((kk : Int) ≥ 0) = true := by simp
          have HC9 := Lib.hid (HC8.out.reslice (k := kk) (by simp) (by omega))
          have HC10 := Lib.hid (HC9.out.short (k := kk + 1) (by rw [HM1.out]; simp) (by have := HM1.out; omega))
          have hst8 := HC8.out.steps
          have hkv : (kk : Int) ≤ (cp2 : Int) := by
            obtain ⟨-, hs9⟩ := hst8
            rcases hs9 with ⟨h1, _⟩ | ⟨g', cap', cur, hv, hg', hh, hnc, r⟩
            · cases h1
            · injection hv with e2 e3 e4
              subst e4
              simp at hnc
              omega
          obtain ⟨k2, hk2⟩ : ∃ k2, k2 = kk + 1 := ⟨_, rfl⟩
          have qk : IntKind.i64.wrap ((kk : Int) + 1) = (k2 : Int) := by rw [IntWalk.i64_in _ (by omega)]; omega
          have hkt : (k2 : Int) ≤ (c7 : Int) := by omega
          have hk20 : (0 : Int) ≤ (k2 : Int) := by omega
          rw [take_hit hhit, ← hk2] at HC10
          have HK2 := Lib.hid hk2
          clear e1 hk2 hst8
          go_wp2_with fail
          go_roundw
          case rel => exact ⟨i + 1, _, by omega, by go_num, by rw [HS2.out]; exact HC10.out⟩
          case measure => simp [intOf]; omega
      · obtain rfl : i = k.2.length := by omega
        have hbz := (HCR.out.bel.block (w.heap.size + 1 + 1) (by omega)).trans HBZ1.out
        have hbz : Blk wr (w.heap.size + 1 + 1) 41 #[.int .i64 0, .slice none 0 0] := hbz
        have z0 : wr.cell? ⟨w.heap.size + 1 + 1, 0, none⟩ = some (.int .i64 0) := hbz.cell 0
        have z1 : wr.cell? ⟨w.heap.size + 1 + 1, 1, none⟩ = some (.slice none 0 0) := hbz.cell 1
        have fz0 := hbz.frozen 0
        have fz1 := hbz.frozen 1
        have lz2 := hbz.lt
        have b0 : wr.cell? ⟨bO, 0, none⟩ = some (.int .i64 k.1) := HCR.out.box.cell 0
        have hsh := (Own.of_row HCR.out.steps rfl rfl).shape
        obtain ⟨A8, n8, c8, rfl⟩ := hsh
        have b1 : wr.cell? ⟨bO, 1, none⟩ = some (.slice A8 n8 c8) := HCR.out.box.cell 1
        have lb := HCR.out.box.lt
        have hown := Own.of_row HCR.out.steps rfl rfl
        have hon := ((Only.refl (w.heap.size + 1 + 1) (w.heap.size + 1 + 1 + 1) wr).setCell (p := ⟨w.heap.size + 1 + 1, 0, none⟩) (.inl ⟨Nat.le_refl _, Nat.lt_succ_self _⟩) (.int .i64 k.1)).setCell (p := ⟨w.heap.size + 1 + 1, 1, none⟩) (.inl ⟨Nat.le_refl _, Nat.lt_succ_self _⟩) (.slice A8 n8 c8)
        have HOW := Lib.hid (hown.only hon (.inr (by omega)))
        have hbF := (HB2.out.trans (HCR.out.bel.mono (show w.heap.size ≤ bO by omega))).trans (hon.below (B := w.heap.size) (by omega) (by have := HCR.out.bel.size; omega))
        have HBF := Lib.hid hbF
        clear hbz hown hon hbF HX HN HBZ1
        go_wp2_with fail
        refine bodyPost_ret (v := .tuple #[.agg #[.int .i64 k.1, .slice A8 n8 c8], .bool true]) (by simp [results, Try.results17, go_sem, z0, z1]) rfl ⟨_, rfl, ?_, HBF.out⟩
        rw [HF.out]
        exact ⟨_, rfl, HOW.out.mono (by omega) (Nat.le_of_eq (by simp [World.setCell]))⟩
end Go.Proofs.Ytallglnmeeahiaa

/- Plain: a walk without its cycles is a simple path with the same ends, and a simple path stays as it is. -/
namespace Go.Proofs.Ytallglnmeeahiaa
set_option linter.unusedVariables false
set_option linter.unusedSimpArgs false

theorem idxFrom_none {x : Int} : ∀ {zs : List Int} {i : Nat}, x ∉ zs → Lib.idxFrom zs x i = -1
  | [], _, _ => rfl
  | z :: zs, i, h => by
    rw [Lib.idxFrom, if_neg (fun e : z = x => h (by simp [e]))]
    exact idxFrom_none fun e => h (List.mem_cons_of_mem _ e)
theorem idxFrom_some {x : Int} : ∀ {zs : List Int} {i : Nat}, x ∈ zs → 0 ≤ Lib.idxFrom zs x i
  | z :: zs, i, h => by
    rw [Lib.idxFrom]
    split
    · omega
    · rename_i hz
      exact idxFrom_some ((List.mem_cons.1 h).resolve_left fun e => hz e.symm)
/-- every step of the walk leads from the node that the walk is at -/
def links (g : Gr) (k : Wk) : Prop := ∀ (i : Nat) (s : St) (n : Int), k.2[i]? = some s → (nodesL g k)[i]? = some n → stepFrom g s = n
theorem links_all {g : Gr} {k : Wk} : (List.range k.2.length).all (linkAt g k) = true ↔ links g k := by
  rw [List.all_eq_true]
  constructor
  · intro h i s n hs hn
    have hi := (List.getElem?_eq_some_iff.1 hs).1
    have := h i (List.mem_range.2 hi)
    rw [linkAt_eq hs hn] at this
    simpa using this
  · intro h i hi
    have hi := List.mem_range.1 hi
    have hs : k.2[i]? = some k.2[i] := List.getElem?_eq_getElem hi
    have hl : i < (nodesL g k).length := by rw [nodesL_len]; omega
    have hn : (nodesL g k)[i]? = some (nodesL g k)[i] := List.getElem?_eq_getElem hl
    rw [linkAt_eq hs hn, h i _ _ hs hn]
    simp
theorem walkOk_iff {g : Gr} {k : Wk} : walkOk g k = true ↔ grOk g = true ∧ wi k.1 0 ((g.vals.length : Int) - 1) = true ∧ k.2.length ≤ 60 ∧ links g k := by
  rw [walkOk, Bool.and_eq_true, Bool.and_eq_true, Bool.and_eq_true, links_all, decide_eq_true_eq, and_assoc, and_assoc]
structure Cutt (g : Gr) (x : Int) (p : List St × List Int) : Prop where
  nodes : nodesL g (x, p.1) = p.2
  link : links g (x, p.1)
  dup : p.2.Nodup
theorem nodesL_take (g : Gr) (x : Int) (L : List St) (j : Nat) : nodesL g (x, L.take j) = (nodesL g (x, L)).take (j + 1) := by
  simp [nodesL, List.map_take]
theorem nodesL_app (g : Gr) (x : Int) (L : List St) (s : St) : nodesL g (x, L ++ [s]) = nodesL g (x, L) ++ [stepTo g s] := by
  simp [nodesL]
theorem Cutt.step {g : Gr} {x : Int} {p : List St × List Int} (h : Cutt g x p) {s : St} (hf : p.2.getLast? = some (stepFrom g s)) :
    Cutt g x (cutStep p s (stepTo g s)) ∧ (cutStep p s (stepTo g s)).2.getLast? = some (stepTo g s) := by
  have hlen : p.2.length = p.1.length + 1 := by rw [← h.nodes, nodesL_len]
  rcases idxOf_cases p.2 (stepTo g s) with e | ⟨j, hj, e, hz⟩
  · rw [cutStep_no e]
    refine ⟨⟨by rw [nodesL_app, h.nodes], ?_, ?_⟩, by simp⟩
    · intro i t n ht hn
      rw [nodesL_app, h.nodes] at hn
      rcases Nat.lt_trichotomy i p.1.length with hi | hi | hi
      · rw [List.getElem?_append_left hi] at ht
        rw [List.getElem?_append_left (by omega)] at hn
        exact h.link i t n ht (by rw [h.nodes]; exact hn)
      · subst hi
        rw [List.getElem?_append_left (by omega)] at hn
        have ht' : t = s := by simpa using ht.symm
        subst ht'
        rw [List.getLast?_eq_getElem?, hlen, Nat.add_sub_cancel, hn] at hf
        injection hf with hf
        exact hf.symm
      · rw [List.getElem?_eq_none (by simp; omega)] at ht
        cases ht
    · refine List.nodup_append.2 ⟨h.dup, by simp, ?_⟩
      intro a ha b hb hab
      have hb' : b = stepTo g s := by simpa using hb
      subst hab hb'
      have := idxFrom_some (i := 0) ha
      rw [Lib.idxOf] at e
      omega
  · rw [cutStep_yes e]
    have hjl : j ≤ p.1.length := by omega
    have h1 : (p.1 ++ [s]).take j = p.1.take j := List.take_append_of_le_length hjl
    have h2 : p.2.take j ++ [stepTo g s] = p.2.take (j + 1) := by rw [List.take_add_one, hz]; rfl
    rw [h1, h2]
    refine ⟨⟨by rw [nodesL_take, h.nodes], ?_, h.dup.sublist (List.take_sublist _ _)⟩, ?_⟩
    · intro i t n ht hn
      rw [nodesL_take, List.getElem?_take] at hn
      dsimp only at ht
      rw [List.getElem?_take] at ht
      split at ht
      · rename_i hij
        rw [if_pos (by omega)] at hn
        exact h.link i t n ht hn
      · cases ht
    · rw [List.getLast?_eq_getElem?, List.length_take, Nat.min_eq_left (by omega), Nat.add_sub_cancel, List.getElem?_take, if_pos (by omega)]
      exact hz
theorem cutAt_cutt {g : Gr} {k : Wk} (hl : links g k) : ∀ (i : Nat), i ≤ k.2.length → Cutt g k.1 (cutAt g k i) ∧ (cutAt g k i).2.getLast? = (nodesL g k)[i]?
  | 0, _ => ⟨⟨rfl, fun i s n hs _ => by simp [cutAt] at hs, by simp [cutAt]⟩, by simp [cutAt, nodesL]⟩
  | i + 1, hi => by
    obtain ⟨h1, h2⟩ := cutAt_cutt hl i (by omega)
    have hs : k.2[i]? = some k.2[i] := List.getElem?_eq_getElem (by omega)
    have hn := nodesL_next (g := g) hs
    have hx : (nodesL g k)[i]? = some ((nodesL g k)[i]'(by rw [nodesL_len]; omega)) := List.getElem?_eq_getElem _
    have hf := hl i _ _ hs hx
    have hd : k.2.getD i (0, false) = k.2[i] := by rw [List.getD_eq_getElem?_getD, hs]; rfl
    have hg : (nodesL g k).getD (i + 1) 0 = stepTo g k.2[i] := by rw [List.getD_eq_getElem?_getD, hn]; rfl
    rw [cutAt, hd, hg, hn]
    exact h1.step (by rw [h2, hx, hf])
/-- a valid walk without its cycles is a valid walk with the same ends whose nodes differ -/
theorem cutOf_simple {g : Gr} {k : Wk} (h : walkOk g k = true) :
    walkOk g (cutOf g k) = true ∧ (nodesL g (cutOf g k)).Nodup ∧ (cutOf g k).1 = k.1 ∧ (nodesL g (cutOf g k)).getLast? = (nodesL g k).getLast? := by
  obtain ⟨h1, h2, h3, h4⟩ := walkOk_iff.1 h
  obtain ⟨c, hc⟩ := cutAt_cutt h4 k.2.length (Nat.le_refl _)
  have hlen := cutOf_len g k
  rw [cutOf, if_pos h] at hlen ⊢
  refine ⟨walkOk_iff.2 ⟨h1, h2, hlen, c.link⟩, by rw [c.nodes]; exact c.dup, rfl, ?_⟩
  rw [c.nodes, hc, List.getLast?_eq_getElem?, nodesL_len, Nat.add_sub_cancel]
theorem cutAt_same {g : Gr} {k : Wk} (hd : (nodesL g k).Nodup) : ∀ (i : Nat), i ≤ k.2.length → cutAt g k i = (k.2.take i, (nodesL g k).take (i + 1))
  | 0, _ => by simp [cutAt, nodesL]
  | i + 1, hi => by
    have hs : k.2[i]? = some k.2[i] := List.getElem?_eq_getElem (by omega)
    have hn := nodesL_next (g := g) hs
    have hds : k.2.getD i (0, false) = k.2[i] := by rw [List.getD_eq_getElem?_getD, hs]; rfl
    have hg : (nodesL g k).getD (i + 1) 0 = stepTo g k.2[i] := by rw [List.getD_eq_getElem?_getD, hn]; rfl
    rw [cutAt, cutAt_same hd i (by omega), hds, hg, cutStep_no]
    · rw [nodesL_succ hs, take_snoc hs]
    · refine idxFrom_none ?_
      intro hm
      have hs2 := nodesL_succ (g := g) hs
      have := (hd.sublist (List.take_sublist (i + 1 + 1) _))
      rw [hs2] at this
      exact (List.nodup_append.1 this).2.2 _ hm _ (by simp) rfl
theorem cutOf_same {g : Gr} {k : Wk} (h : walkOk g k = true) (hd : (nodesL g k).Nodup) : cutOf g k = k := by
  rw [cutOf, if_pos h, cutAt_same hd _ (Nat.le_refl _), List.take_length]
end Go.Proofs.Ytallglnmeeahiaa

/- Plain: the order of walks. -/
namespace Go.Proofs.Ytallglnmeeahiaa
set_option linter.unusedVariables false
set_option linter.unusedSimpArgs false

def cmpSt (a b : St) : Int := if a.1 < b.1 then -1 else if b.1 < a.1 then 1 else if a.2 = b.2 then 0 else if b.2 = true then -1 else 1
def cmpSts : List St → List St → Int
  | a :: A, b :: B => if cmpSt a b = 0 then cmpSts A B else cmpSt a b
  | _, _ => 0
def cmpWk (k j : Wk) : Int :=
  if k.2.length < j.2.length then -1 else if j.2.length < k.2.length then 1 else if k.1 < j.1 then -1 else if j.1 < k.1 then 1 else cmpSts k.2 j.2
theorem cmpSt_eq {a b : St} : cmpSt a b = 0 ↔ a = b := by
  obtain ⟨a1, a2⟩ := a
  obtain ⟨b1, b2⟩ := b
  unfold cmpSt
  simp only [Prod.mk.injEq]
  by_cases h1 : a1 < b1
  · rw [if_pos h1]; constructor
    · intro h; omega
    · rintro ⟨h, -⟩; omega
  · rw [if_neg h1]
    by_cases h2 : b1 < a1
    · rw [if_pos h2]; constructor
      · intro h; omega
      · rintro ⟨h, -⟩; omega
    · rw [if_neg h2]
      have h3 : a1 = b1 := by omega
      cases a2 <;> cases b2 <;> simp [h3]
theorem cmpSts_eq : ∀ {A B : List St}, A.length = B.length → (cmpSts A B = 0 ↔ A = B)
  | [], [], _ => by simp [cmpSts]
  | a :: A, b :: B, h => by
    rw [cmpSts]
    by_cases e : cmpSt a b = 0
    · rw [if_pos e, cmpSts_eq (by simpa using h), cmpSt_eq.1 e]; simp
    · rw [if_neg e]
      constructor
      · intro h; exact absurd h e
      · intro h
        injection h with h1 h2
        exact absurd (cmpSt_eq.2 h1) e
theorem cmpWk_eq {k j : Wk} : cmpWk k j = 0 ↔ k = j := by
  obtain ⟨x, A⟩ := k
  obtain ⟨y, B⟩ := j
  unfold cmpWk
  simp only [Prod.mk.injEq]
  by_cases h1 : A.length < B.length
  · rw [if_pos h1]; constructor
    · intro h; omega
    · rintro ⟨-, h⟩; subst h; omega
  · rw [if_neg h1]
    by_cases h2 : B.length < A.length
    · rw [if_pos h2]; constructor
      · intro h; omega
      · rintro ⟨-, h⟩; subst h; omega
    · rw [if_neg h2]
      by_cases h3 : x < y
      · rw [if_pos h3]; constructor
        · intro h; omega
        · rintro ⟨h, -⟩; omega
      · rw [if_neg h3]
        by_cases h4 : y < x
        · rw [if_pos h4]; constructor
          · intro h; omega
          · rintro ⟨h, -⟩; omega
        · rw [if_neg h4, cmpSts_eq (by omega)]
          constructor
          · intro h; exact ⟨by omega, h⟩
          · rintro ⟨-, h⟩; exact h
theorem cmpWk_self (k : Wk) : cmpWk k k = 0 := cmpWk_eq.2 rfl
theorem cmpSts_drop {A B : List St} {i : Nat} {a b : St} (ha : A[i]? = some a) (hb : B[i]? = some b) : cmpSts (A.drop i) (B.drop i) = if cmpSt a b = 0 then cmpSts (A.drop (i + 1)) (B.drop (i + 1)) else cmpSt a b := by
  obtain ⟨h1, rfl⟩ := List.getElem?_eq_some_iff.1 ha
  obtain ⟨h2, rfl⟩ := List.getElem?_eq_some_iff.1 hb
  rw [List.drop_eq_getElem_cons h1, List.drop_eq_getElem_cons h2, cmpSts]
end Go.Proofs.Ytallglnmeeahiaa

/- The reference's order of walks: l5Step, CompareWalks. -/
namespace Go.Proofs.Ytallglnmeeahiaa
set_option linter.unusedVariables false
set_option linter.unusedSimpArgs false
open Go.ChangeShapes Go.WideShapes Go.ChangeAt Go.RowKit
attribute [local go_sem] ext_cell ext_frozen ext_lt ext_lt1 ext_lt2 ext_lt3 ltn2 ltn3 ltn13 lts1 lts2 lts3

set_option maxHeartbeats 1000000 in
theorem l5Step_any (a b : St) (w : World) :
    Calls Try.prog 53 #[.agg #[.int .i64 a.1, .bool a.2], .agg #[.int .i64 b.1, .bool b.2]] w fun e w' => e = .returned (.int .i64 (cmpSt a b)) ∧ Below w.heap.size w w' := by
  obtain ⟨a1, a2⟩ := a
  obtain ⟨b1, b2⟩ := b
  have hb0 : Below w.heap.size w ((w.alloc (.cells #[.int .i64 a1, .bool a2] 54)).alloc (.cells #[.int .i64 b1, .bool b2] 54)) := ((Below.refl _ _).alloc (Nat.le_refl _) _).alloc (by simp) _
  simp only
  by_cases h1 : a1 < b1
  · have hres : cmpSt (a1, a2) (b1, b2) = -1 := if_pos h1
    rw [hres]
    clear hres
    go_enter Try.func53, Try.ntmps53
    go_wp2
    go_ret
    exact ⟨rfl, hb0⟩
  by_cases h2 : b1 < a1
  · have hres : cmpSt (a1, a2) (b1, b2) = 1 := by rw [cmpSt, if_neg h1, if_pos h2]
    rw [hres]
    clear hres
    go_enter Try.func53, Try.ntmps53
    go_wp2
    go_ret
    exact ⟨rfl, hb0⟩
  have hres : cmpSt (a1, a2) (b1, b2) = if a2 = b2 then 0 else if b2 = true then -1 else 1 := by rw [cmpSt, if_neg h1, if_neg h2]
  rw [hres]
  clear hres
  cases a2 <;> cases b2 <;> simp only [if_true, if_false, reduceCtorEq] <;> (go_enter Try.func53, Try.ntmps53; go_wp2; go_ret; exact ⟨rfl, hb0⟩)

set_option maxHeartbeats 2000000 in
theorem specCompareWalks (v1 v2 : Value) (k j : Wk) (w : World) (hv1 : WkV 0 w.heap.size w v1 k) (hv2 : WkV 0 w.heap.size w v2 j) :
    Calls Try.prog 18 #[v1, v2] w fun e w' => e = .returned (.int .i64 (cmpWk k j)) ∧ Below w.heap.size w w' := by
  obtain ⟨ss1, rfl, hs1⟩ := hv1
  obtain ⟨ss2, rfl, hs2⟩ := hv2
  obtain ⟨x, A⟩ := k
  obtain ⟨y, B⟩ := j
  simp only at hs1 hs2 ⊢
  obtain ⟨A1, c1, rfl, hl1, hm1, hx1⟩ := hs1
  obtain ⟨A2, c2, rfl, hl2, hm2, hx2⟩ := hs2
  unfold maxLen at hm1 hm2
  have hb0 : Below w.heap.size w ((w.alloc (.cells #[.int .i64 x, .slice A1 A.length c1] 41)).alloc (.cells #[.int .i64 y, .slice A2 B.length c2] 41)) := ((Below.refl _ _).alloc (Nat.le_refl _) _).alloc (by simp) _
  by_cases h1 : A.length < B.length
  · have hres : cmpWk (x, A) (y, B) = -1 := if_pos h1
    rw [hres]
    clear hres hx1 hx2
    go_enter Try.func18, Try.ntmps18
    go_wp2
    go_ret
    exact ⟨rfl, hb0⟩
  by_cases h2 : B.length < A.length
  · have hres : cmpWk (x, A) (y, B) = 1 := by rw [cmpWk, if_neg h1, if_pos h2]
    rw [hres]
    clear hres hx1 hx2
    go_enter Try.func18, Try.ntmps18
    go_wp2
    go_ret
    exact ⟨rfl, hb0⟩
  by_cases h3 : x < y
  · have hres : cmpWk (x, A) (y, B) = -1 := by rw [cmpWk, if_neg h1, if_neg h2, if_pos h3]
    rw [hres]
    clear hres hx1 hx2
    go_enter Try.func18, Try.ntmps18
    go_wp2
    go_ret
    exact ⟨rfl, hb0⟩
  by_cases h4 : y < x
  · have hres : cmpWk (x, A) (y, B) = 1 := by rw [cmpWk, if_neg h1, if_neg h2, if_neg h3, if_pos h4]
    rw [hres]
    clear hres hx1 hx2
    go_enter Try.func18, Try.ntmps18
    go_wp2
    go_ret
    exact ⟨rfl, hb0⟩
  have hres : cmpWk (x, A) (y, B) = cmpSts (A.drop 0) (B.drop 0) := by rw [cmpWk, if_neg h1, if_neg h2, if_neg h3, if_neg h4]; rfl
  obtain ⟨R, hR⟩ : ∃ R, R = cmpWk (x, A) (y, B) := ⟨_, rfl⟩
  rw [← hR] at hres ⊢
  have hlen : A.length = B.length := by omega
  have HLEN := Lib.hid hlen
  clear hR hlen
  have HX1 := Lib.hid hx1
  have HX2 := Lib.hid hx2
  clear hx1 hx2
  go_enter Try.func18, Try.ntmps18
  go_wp2
  obtain ⟨W0, hW0⟩ : ∃ W0 : World, W0 = ((w.alloc (.cells #[.int .i64 x, .slice A1 A.length c1] 41)).alloc (.cells #[.int .i64 y, .slice A2 B.length c2] 41)) := ⟨_, rfl⟩
  have b1 : Blk W0 w.heap.size 41 #[.int .i64 x, .slice A1 A.length c1] := by rw [hW0]; exact (Blk.new w _ _ w.heap.size rfl).alloc _
  have b2 : Blk W0 (w.heap.size + 1) 41 #[.int .i64 y, .slice A2 B.length c2] := by rw [hW0]; exact Blk.new (w.alloc _) _ _ (w.heap.size + 1) (by simp)
  have x1 : W0.cell? ⟨w.heap.size, 1, none⟩ = some (.slice A1 A.length c1) := b1.cell 1
  have x2 : W0.cell? ⟨w.heap.size + 1, 1, none⟩ = some (.slice A2 B.length c2) := b2.cell 1
  have l1 := b1.lt
  have l2 := b2.lt
  rw [← hW0] at hb0 ⊢
  have hs := hb0.size
  have HCK := Lib.hid (fun (b o : Nat) (hb : b < w.heap.size) => hb0.cell (p := ⟨b, o, none⟩) hb)
  clear b1 b2 hW0
  have HB0 := Lib.hid hb0
  have HH1 := Lib.hid h1
  have HH2 := Lib.hid h2
  clear hb0 h1 h2 h3 h4
  have HRES := Lib.hid hres
  clear hres
  go_loopw [5] (fun i wr => ∃ (t : Nat) (u : World), t ≤ A.length ∧ i = .int .i64 t ∧ wr = ext W0 u ∧ R = cmpSts (A.drop t) (B.drop t)) (fun i _ => A.length - (intOf i).toNat)
  case atStart => exact ⟨0, W0, Nat.zero_le _, rfl, ext_self W0, HRES.out⟩
  case round =>
    obtain ⟨t, u, ht, rfl, rfl, hr⟩ := hrel
    by_cases hlt : t < A.length
    · have hta : A[t]? = some A[t] := List.getElem?_eq_getElem hlt
      have htB : t < B.length := by have := HLEN.out; omega
      have htb : B[t]? = some B[t] := List.getElem?_eq_getElem htB
      obtain ⟨q1, o1, rfl, -, hq1, hc1⟩ := HX1.out t _ hta
      obtain ⟨q2, o2, rfl, -, hq2, hc2⟩ := HX2.out t _ htb
      rw [cmpSts_drop hta htb] at hr
      generalize A[t] = sa at hr hc1
      generalize B[t] = sb at hr hc2
      have c10 := (HCK.out _ _ hq1).trans (hc1 0 _ rfl)
      have c11 := (HCK.out _ _ hq1).trans (hc1 1 _ rfl)
      have c20 := (HCK.out _ _ hq2).trans (hc2 0 _ rfl)
      have c21 := (HCK.out _ _ hq2).trans (hc2 1 _ rfl)
      simp only [Nat.add_zero] at c10 c20
      clear hc1 hc2 hta htb
      have hq1 := Nat.lt_of_lt_of_le hq1 hs
      have hq2 := Nat.lt_of_lt_of_le hq2 hs
      have HL := Lib.hid (fun (W : World) => l5Step_any sa sb W)
      generalize cmpSt sa sb = z at hr HL
      have HR := Lib.hid hr
      clear hr
      by_cases hz : z = 0
      · subst hz
        go_wp2
        refine wp_region_ext_lit (by kernel_rfl) (by kernel_rfl) ?_
        repeat (go_big_quiet_step ((go_at_call 53; exact Calls.ext_of (HL.out _))))
        refine wpQuiet_nil ?_
        intro _ hw'
        obtain ⟨u2, hw''⟩ := hw'
        subst hw''
        go_wp2
        go_roundw
        case rel =>
          obtain ⟨y', hy⟩ := ext_ext W0 u u2
          exact ⟨t + 1, y', by omega, by go_num, hy, by have := HR.out; simpa using this⟩
        case measure => simp [intOf]; omega
      · have hq : (z != 0) = true := by simp [hz]
        have hres : R = z := by have := HR.out; rw [if_neg hz] at this; exact this
        have HZ := Lib.hid hres
        clear hres hz
        go_wp2
        refine wp_region_ext_lit (by kernel_rfl) (by kernel_rfl) ?_
        repeat (go_big_quiet_step ((go_at_call 53; exact Calls.ext_of (HL.out _))))
        refine wpQuiet_nil ?_
        intro _ hw'
        obtain ⟨u2, hw''⟩ := hw'
        subst hw''
        go_wp2
        go_ret
        obtain ⟨y', hy⟩ := ext_ext W0 u u2
        exact ⟨by rw [HZ.out]; rfl, by rw [hy]; exact below_trans HB0.out (ext_below _ _)⟩
    · obtain rfl : t = A.length := by omega
      have hres : R = 0 := by rw [hr, List.drop_eq_nil_of_le (Nat.le_refl _)]; rfl
      have HZ := Lib.hid hres
      clear hres hr
      go_wp2
      go_ret
      exact ⟨by rw [HZ.out]; rfl, below_trans HB0.out (ext_below _ _)⟩
end Go.Proofs.Ytallglnmeeahiaa

/- Simple paths: IsSimplePath, the program's and the reference's. -/
namespace Go.Proofs.Ytallglnmeeahiaa
set_option linter.unusedVariables false
set_option linter.unusedSimpArgs false
open Go.ChangeShapes Go.WideShapes Go.ChangeAt Go.RowKit
attribute [local go_sem] ext_cell ext_frozen ext_lt ext_lt1 ext_lt2 ext_lt3 ltn2 ltn3 ltn13 lts1 lts2 lts3

def isSimple (g : Gr) (k : Wk) : Bool := walkOk g k && decide ((ascL (nodesL g k)).length = (nodesL g k).length)
theorem nodup_sub : ∀ (s l : List Int), s.Nodup → (∀ x ∈ s, x ∈ l) → s.length ≤ l.length
  | [], _, _, _ => Nat.zero_le _
  | x :: s, l, hn, h => by
    obtain ⟨h1, h2⟩ := List.nodup_cons.1 hn
    have hx := h x (by simp)
    have := nodup_sub s (l.erase x) h2 (fun y hy => by
      have hne : y ≠ x := fun e => h1 (e ▸ hy)
      exact (List.mem_erase_of_ne hne).2 (h y (List.mem_cons_of_mem _ hy)))
    rw [List.length_erase_of_mem hx] at this
    have hp := List.length_pos_of_mem hx
    rw [List.length_cons]
    omega
theorem ascL_nodup (l : List Int) : (ascL l).Nodup := (ascL_spec l).1.imp fun h => by omega
theorem ascL_len_yes {l : List Int} (h : l.Nodup) : (ascL l).length = l.length :=
  Nat.le_antisymm (nodup_sub _ _ (ascL_nodup l) fun x hx => ((ascL_spec l).2 x).1 hx) (nodup_sub _ _ h fun x hx => ((ascL_spec l).2 x).2 hx)
theorem ascL_len_no {l : List Int} {i : Nat} {x : Int} (hi : l[i]? = some x) (h : x ∈ l.take i) : ¬ (ascL l).length = l.length := by
  have hil := (List.getElem?_eq_some_iff.1 hi).1
  have := nodup_sub _ (l.take i ++ l.drop (i + 1)) (ascL_nodup l) fun y hy => by
    have hm := ((ascL_spec l).2 y).1 hy
    rw [← List.take_append_drop i l, List.drop_eq_getElem_cons hil] at hm
    rcases List.mem_append.1 hm with h1 | h1
    · exact List.mem_append_left _ h1
    · rcases List.mem_cons.1 h1 with h1 | h1
      · have : y = x := by rw [List.getElem?_eq_getElem hil] at hi; injection hi with hi; rw [h1, hi]
        subst this
        exact List.mem_append_left _ h
      · exact List.mem_append_right _ h1
  rw [List.length_append, List.length_take, List.length_drop] at this
  omega
def seenM (l : List Int) (i : Nat) : Nat := (l.take i).foldl (fun m x => ins m x.toNat) 0
theorem seenM_succ {l : List Int} {i : Nat} {x : Int} (h : l[i]? = some x) : seenM l (i + 1) = ins (seenM l i) x.toNat := foldl_take h 0
theorem foldl_ins_test (l : List Int) (m t : Nat) : (l.foldl (fun m x => ins m x.toNat) m).testBit t = (m.testBit t || l.any (fun x => decide (x.toNat = t))) := by
  induction l generalizing m with
  | nil => simp
  | cons x l ih => rw [List.foldl_cons, ih, ins_test, List.any_cons, Bool.or_assoc]
theorem seenM_test (l : List Int) (i t : Nat) : (seenM l i).testBit t = true ↔ ∃ x ∈ l.take i, x.toNat = t := by
  rw [seenM, foldl_ins_test]
  simp
theorem seenM_lt {l : List Int} {n : Nat} (h : ∀ x ∈ l, x.toNat < n) (i : Nat) : seenM l i < 2 ^ n := by
  unfold seenM
  have : ∀ (r : List Int) (m : Nat), (∀ x ∈ r, x.toNat < n) → m < 2 ^ n → r.foldl (fun m x => ins m x.toNat) m < 2 ^ n := by
    intro r
    induction r with
    | nil => intro m _ hm; exact hm
    | cons x r ih => intro m hr hm; exact ih _ (fun y hy => hr y (List.mem_cons_of_mem _ hy)) (ins_lt hm (hr x (by simp)))
  exact this _ _ (fun x hx => h x (List.mem_of_mem_take hx)) (Nat.two_pow_pos _)

set_option maxHeartbeats 2000000 in
theorem implIsSimple (v1 v2 : Value) (g : Gr) (k : Wk) (w : World) (hv1 : GrV 0 w.heap.size w v1 g) (hv2 : WkV 0 w.heap.size w v2 k) :
    Calls Try.prog 19 #[v1, v2] w fun en w' => en = .returned (.bool (isSimple g k)) ∧ Below w.heap.size w w' := by
  have hv0 := hv1
  have hv3 := hv2
  obtain ⟨A1, n1, c1, A2, n2, c2, rfl⟩ := hv1.shape
  obtain ⟨A3, n3, c3, rfl⟩ := hv2.shape
  clear hv1 hv2
  have hb0 : Below w.heap.size w ((w.alloc (.cells #[.slice A1 n1 c1, .slice A2 n2 c2] 38)).alloc (.cells #[.int .i64 k.1, .slice A3 n3 c3] 41)) := ((Below.refl _ _).alloc (Nat.le_refl _) _).alloc (by simp) _
  have hc := implNodes _ _ g k _ (hv0.keep hb0) (hv3.keep hb0)
  have HC := Lib.hid hc
  clear hc
  obtain ⟨R, hR⟩ : ∃ R, R = isSimple g k := ⟨_, rfl⟩
  rw [← hR]
  cases hw : walkOk g k with
  | false =>
    rw [hw] at HC
    have hfin : R = false := by rw [hR, isSimple, hw]; rfl
    subst hfin
    clear hR hw
    go_enter Try.func19, Try.ntmps19
    go_wp2_with fail
    refine HC.out.mono ?_
    rintro e w1 ⟨v, rfl, ho, hb1⟩
    obtain ⟨A6, c6, rfl, -, -, -⟩ := ho.form cI_len
    go_wp2_with fail
    go_ret
    exact ⟨rfl, below_trans hb0 hb1⟩
  | true =>
    rw [hw] at HC
    have hfin : R = decide ((ascL (nodesL g k)).length = (nodesL g k).length) := by rw [hR, isSimple, hw]; rfl
    have HF := Lib.hid hfin
    have HW := Lib.hid hw
    have hl60 := (walkOk_parts hw).2.2.1
    clear hR hw hfin
    go_enter Try.func19, Try.ntmps19
    go_wp2_with fail
    refine HC.out.mono ?_
    rintro e w1 ⟨v, rfl, ho, hb1⟩
    rw [nodesOut_yes HW.out] at ho
    have hsl := (ho.sl cI_len).all (Nat.le_refl _)
    have hlen : (nodesL g k).length ≤ 61 := by rw [nodesL_len]; omega
    obtain ⟨A6, c6, rfl, -, -, -⟩ := ho.form cI_len
    have has := ascending_any _ _ _ hsl (by omega)
    have HAS := Lib.hid has
    clear has hsl ho HC
    generalize nodesL g k = L at *
    go_wp2_with fail
    refine HAS.out.mono ?_
    rintro e w2 ⟨v2, rfl, ho2, hb2⟩
    obtain ⟨A7, c7, rfl, -, -, -⟩ := ho2.form cI_len
    clear HAS ho2
    generalize ascL L = M at *
    have hml : ((M.length : Int) == (L.length : Int)) = decide (M.length = L.length) := by rw [Bool.eq_iff_iff]; simp; omega
    have HML := Lib.hid hml
    clear hml
    go_wp2_with fail
    go_ret
    exact ⟨by rw [HF.out, ← HML.out]; rfl, below_trans hb0 (below_trans hb1 hb2)⟩

set_option maxHeartbeats 2000000 in
theorem specIsSimple (v1 v2 : Value) (g : Gr) (k : Wk) (w : World) (hv1 : GrV 0 w.heap.size w v1 g) (hv2 : WkV 0 w.heap.size w v2 k) :
    Calls Try.prog 22 #[v1, v2] w fun en w' => en = .returned (.bool (isSimple g k)) ∧ Below w.heap.size w w' := by
  have hv0 := hv1
  have hv3 := hv2
  obtain ⟨A1, n1, c1, A2, n2, c2, rfl⟩ := hv1.shape
  obtain ⟨A3, n3, c3, rfl⟩ := hv2.shape
  clear hv1 hv2
  have hb0 : Below w.heap.size w ((w.alloc (.cells #[.slice A1 n1 c1, .slice A2 n2 c2] 38)).alloc (.cells #[.int .i64 k.1, .slice A3 n3 c3] 41)) := ((Below.refl _ _).alloc (Nat.le_refl _) _).alloc (by simp) _
  have hc := specNodes _ _ g k _ (hv0.keep hb0) (hv3.keep hb0)
  have HC := Lib.hid hc
  clear hc
  obtain ⟨R, hR⟩ : ∃ R, R = isSimple g k := ⟨_, rfl⟩
  rw [← hR]
  have HR := Lib.hid hR
  have hrange : ∀ x ∈ nodesOut g k, 0 ≤ x ∧ x.toNat < 5 := fun x hx => by
    cases hw : walkOk g k with
    | false => rw [nodesOut_no hw] at hx; cases hx
    | true =>
      rw [nodesOut_yes hw] at hx
      obtain ⟨i, hi, rfl⟩ := List.mem_iff_getElem.1 hx
      rw [nodesL_len] at hi
      obtain ⟨h1, h2⟩ := nodeAt_lt hw (show i ≤ k.2.length by omega)
      rw [List.getElem?_eq_getElem (by rw [nodesL_len]; exact hi)] at h1
      injection h1 with h1
      have := (walkOk_parts hw).1.n5
      rw [h1]
      omega
  have hno : walkOk g k = false → nodesOut g k = [] := nodesOut_no
  have hyes : walkOk g k = true → R = decide ((ascL (nodesOut g k)).length = (nodesOut g k).length) := fun hw => by rw [hR, isSimple, hw, nodesOut_yes hw]; rfl
  have hlen : (nodesOut g k).length ≤ 61 := by
    cases hw : walkOk g k with
    | false => rw [nodesOut_no hw]; simp
    | true => rw [nodesOut_yes hw, nodesL_len]; have := (walkOk_parts hw).2.2.1; omega
  have hRno : walkOk g k = false → R = false := fun hw => by rw [hR, isSimple, hw]; rfl
  have HNO := Lib.hid hno
  have HYES := Lib.hid hyes
  have HRNO := Lib.hid hRno
  have HRG := Lib.hid hrange
  have hml := seenM_lt (n := 5) (fun x hx => (hrange x hx).2)
  have HMLT := Lib.hid hml
  clear hR hno hyes hRno hrange hml
  generalize nodesOut g k = L at *
  generalize walkOk g k = ok at *
  go_enter Try.func22, Try.ntmps22
  go_wp2_with fail
  refine HC.out.mono ?_
  rintro e w1 ⟨v, rfl, ho, hb1⟩
  obtain ⟨A6, c6, rfl, hl6, hm6, hC6⟩ := ho.form cI_len
  have hbw := below_trans hb0 hb1
  have HC6 := Lib.hid hC6
  clear hC6 ho
  go_wp2_with fail
  go_loop [7, 8] (fun mm ii => ∃ i : Nat, i ≤ L.length ∧ ii = .int .i64 (i : Int) ∧ mm = .int .i64 (seenM L i : Nat) ∧ (L.take i).Nodup) (fun _ ii => L.length - (intOf ii).toNat)
  case atStart => exact ⟨0, Nat.zero_le _, rfl, rfl, by simp⟩
  case round =>
    obtain ⟨i, hi, rfl, rfl, hnd⟩ := hrel
    have HND := Lib.hid hnd
    clear hnd
    by_cases hlt : i < L.length
    · have hxi : L[i]? = some L[i] := List.getElem?_eq_getElem hlt
      have hxr := HRG.out _ (List.getElem_mem hlt)
      generalize L[i] = x at hxi hxr
      obtain ⟨x, rfl⟩ := Int.eq_ofNat_of_zero_le hxr.1
      obtain ⟨b6, o6, rfl, hb6, d6⟩ := HC6.out.int hxi
      have hmlt := HMLT.out i
      have HT := Lib.hid (seenM_test L i x)
      have HS := Lib.hid (seenM_succ hxi)
      have HX := Lib.hid hxi
      have HTS := Lib.hid (take_snoc hxi)
      have hx5 : x < 5 := by omega
      clear hxi
      rw [Int.toNat_natCast] at HS
      generalize seenM L i = m at *
      have hii : (i : Int) < (L.length : Int) := by omega
      cases hb : m.testBit x with
      | true =>
        have b1t := bit_on (by omega) (by omega) hb
        have hfin : R = false := by
          cases ok with
          | false => exact HRNO.out rfl
          | true =>
            rw [HYES.out rfl]
            obtain ⟨y, hy, hyx⟩ := HT.out.1 hb
            have hyr := HRG.out y (List.mem_of_mem_take hy)
            have : y = (x : Int) := by omega
            subst this
            exact decide_eq_false (ascL_len_no HX.out hy)
        subst hfin
        clear HRNO HYES hb HR
        go_wp2_with fail
        go_ret
        exact ⟨rfl, hbw⟩
      | false =>
        have b1f := bit_off (by omega) (by omega) hb
        have hnd2 : (L.take (i + 1)).Nodup := by
          rw [HTS.out]
          refine List.nodup_append.2 ⟨HND.out, by simp, fun y hy z hz e => ?_⟩
          rw [List.mem_singleton] at hz
          subst hz
          subst e
          have := HT.out.2 ⟨_, hy, rfl⟩
          rw [hb] at this
          cases this
        have HN2 := Lib.hid hnd2
        have e1' := shl_bit (s := x) (by omega)
        have e2' := or_ins (m := m) (s := x) (by omega) (by omega)
        clear hnd2 hb
        go_wp2_with fail
        go_round
        case rel => exact ⟨i + 1, by omega, by go_num, by rw [HS.out], HN2.out⟩
        case measure => simp [intOf]; omega
    · obtain rfl : i = L.length := by omega
      have hfin : R = ok := by
        cases ok with
        | false => exact HRNO.out rfl
        | true =>
          rw [HYES.out rfl]
          have := HND.out
          rw [List.take_length] at this
          exact decide_eq_true (ascL_len_yes this)
      subst hfin
      clear HRNO HYES HNO HR
      go_wp2_with fail
      go_ret
      exact ⟨rfl, hbw⟩

end Go.Proofs.Ytallglnmeeahiaa

/- Whether a program's text can call itself: told by ranks along the calls. Over any program. -/
namespace Go.Proofs.Ytallglnmeeahiaa
set_option linter.unusedVariables false
set_option linter.unusedSimpArgs false
def leadsOf (P : Program) (f : FuncId) : List FuncId := (P.funcs[f]?).elim [] P.leadsTo
def rankOk (P : Program) (T : List (FuncId × Nat)) : Bool :=
  T.all fun q => T.lookup q.1 == some q.2 && (leadsOf P q.1).all fun h => match T.lookup h with | some r => decide (r < q.2) | none => false
def plainAll (P : Program) (T : List (FuncId × Nat)) : Bool :=
  T.all fun q => !((P.funcs[q.1]?).any fun fn => match fn.body with | some c => c.unfollowed | none => entryCalls fn)
theorem via_sub {P : Program} {p : FuncId → Prop} (hp : ∀ f, p f → ∀ h ∈ leadsOf P f, p h) : ∀ (n : Nat) (todo seen : List FuncId), (∀ f ∈ todo, p f) → (∀ f ∈ seen, p f) → ∀ g ∈ P.closureVia n todo seen, p g
  | 0, _, seen, _, hs, g, hg => hs g (by simpa [Program.closureVia] using hg)
  | _ + 1, [], seen, _, hs, g, hg => hs g (by simpa [Program.closureVia] using hg)
  | n + 1, f :: todo, seen, ht, hs, g, hg => by
    rw [Program.closureVia] at hg
    split at hg
    · exact via_sub hp n todo seen (fun x hx => ht x (List.mem_cons_of_mem _ hx)) hs g hg
    · refine via_sub hp n _ _ (fun x hx => ?_) (fun x hx => ?_) g hg
      · rcases List.mem_append.1 hx with h | h
        · exact hp f (ht f (List.mem_cons_self ..)) x h
        · exact ht x (List.mem_cons_of_mem _ h)
      · rcases List.mem_cons.1 hx with rfl | h
        · exact ht x (List.mem_cons_self ..)
        · exact hs x h
theorem closure_sub {P : Program} {p : FuncId → Prop} (hp : ∀ f, p f → ∀ h ∈ leadsOf P f, p h) {f : FuncId} (hf : p f) : ∀ g ∈ P.closure f, p g := by
  unfold Program.closure
  exact via_sub hp _ _ _ (by simpa using hf) (by simp)
theorem lookup_mem {T : List (FuncId × Nat)} {x : FuncId} {r : Nat} (h : T.lookup x = some r) : (x, r) ∈ T := by
  induction T with
  | nil => simp at h
  | cons q T ih =>
    obtain ⟨a, b⟩ := q
    rw [List.lookup_cons] at h
    split at h
    · rename_i hx
      have e1 : x = a := by simpa using hx
      have e2 : b = r := by simpa using h
      subst e1 e2
      exact List.mem_cons_self ..
    · exact List.mem_cons_of_mem _ (ih h)
theorem rank_step {P : Program} {T : List (FuncId × Nat)} (hT : rankOk P T = true) {f : FuncId} {r : Nat} (hf : T.lookup f = some r) {h : FuncId} (hh : h ∈ leadsOf P f) : ∃ s, T.lookup h = some s ∧ s < r := by
  have h1 := List.all_eq_true.1 hT _ (lookup_mem hf)
  simp only [Bool.and_eq_true] at h1
  have h2 := List.all_eq_true.1 h1.2 h hh
  cases hl : T.lookup h with
  | none => rw [hl] at h2; cases h2
  | some s => rw [hl] at h2; exact ⟨s, rfl, by simpa using h2⟩
theorem rank_closure {P : Program} {T : List (FuncId × Nat)} (hT : rankOk P T = true) {f : FuncId} {r : Nat} (hf : T.lookup f = some r) : ∀ g ∈ P.closure f, ∃ s, T.lookup g = some s ∧ s ≤ r :=
  closure_sub (p := fun g => ∃ s, T.lookup g = some s ∧ s ≤ r) (fun x ⟨s, hs, hr⟩ h hh => by
    obtain ⟨t, ht, hlt⟩ := rank_step hT hs hh
    exact ⟨t, ht, by omega⟩) ⟨r, hf, Nat.le_refl _⟩
theorem unfollowed_no {P : Program} {T : List (FuncId × Nat)} {f : FuncId} {r : Nat} (hT : rankOk P T = true) (hp : plainAll P T = true) (hf : T.lookup f = some r) : P.unfollowed f = false := by
  rw [Program.unfollowed, List.any_eq_false]
  intro g hg
  obtain ⟨s, hs, _⟩ := rank_closure hT hf g hg
  have := List.all_eq_true.1 hp _ (lookup_mem hs)
  exact Bool.eq_false_iff.1 (Eq.mp (Bool.not_eq_true' _) this)
theorem recurses_no {P : Program} {T : List (FuncId × Nat)} {f : FuncId} {r : Nat} (hT : rankOk P T = true) (hp : plainAll P T = true) (hf : T.lookup f = some r) : P.recurses f = false := by
  rw [Program.recurses, unfollowed_no hT hp hf, Bool.false_or, List.any_eq_false]
  intro g hg
  obtain ⟨s, hs, _⟩ := rank_closure hT hf g hg
  rw [Bool.not_eq_true, List.any_eq_false]
  intro h hh
  obtain ⟨t, ht, hlt⟩ := rank_step hT hs hh
  intro hc
  have hm : g ∈ P.closure h := by simpa using hc
  obtain ⟨u, hu, hle⟩ := rank_closure hT ht g hm
  rw [hs] at hu
  injection hu with e
  omega
theorem recurses_yes {P : Program} {f : FuncId} (g h : FuncId) (h1 : (P.closure f).contains g = true) (h2 : (leadsOf P g).contains h = true) (h3 : (P.closure h).contains g = true) : P.recurses f = true := by
  rw [Program.recurses, Bool.or_eq_true]
  refine .inr (List.any_eq_true.2 ⟨g, by simpa using h1, List.any_eq_true.2 ⟨h, by simpa [leadsOf] using h2, h3⟩⟩)
end Go.Proofs.Ytallglnmeeahiaa

/- Facts on this seat's program as a whole that every row asks for: told once. -/
namespace Go.Proofs.Ytallglnmeeahiaa
set_option linter.unusedVariables false
set_option linter.unusedSimpArgs false
theorem seat_mayEnter : Try.pinned.checked.prog.mayEnter = true := by kernel_rfl
theorem seat_lifts : Try.pinned.checked.prog.liftsFinal = false := by kernel_rfl
theorem seat_laidOut : laidOutB Try.pinned.checked.prog = true := by kernel_rfl
theorem seat_mapsRowed : mapsRowed Try.pinned.checked.prog = true := by kernel_rfl
end Go.Proofs.Ytallglnmeeahiaa

