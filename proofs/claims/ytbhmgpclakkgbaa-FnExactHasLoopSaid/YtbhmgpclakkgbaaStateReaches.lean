/- StateReaches, the program's and the reference's: both tell whether a state is reached from a state. -/
import Derived.Test.YtbhmgpclakkgbaaFound
import Derived.Test.YtbhmgpclakkgbaaOnward
namespace Go.Proofs.Ytbhmgpclakkgbaa
set_option linter.unusedVariables false
set_option linter.unusedSimpArgs false
open Go.ChangeShapes Go.WideShapes Go.ChangeAt Go.RowKit
attribute [local go_sem] ext_cell ext_frozen ext_lt ext_lt1 ext_lt2 ext_lt3

/-- the automaton is valid, s and t are states of it, and t is reached from s -/
def ReachP (a : Au) (s t : Int) : Prop := auOk a = true ∧ (0 ≤ s ∧ s ≤ (a.accept.length : Int) - 1) ∧ (0 ≤ t ∧ t ≤ (a.accept.length : Int) - 1) ∧ Reach a.next s.toNat t.toNat

set_option maxHeartbeats 1000000 in
theorem implStateReaches (v : Value) (a : Au) (s t : Int) (w : World) (hv : AuV 0 w.heap.size w v a) :
    Calls Try.prog 18 #[v, .int .i64 s, .int .i64 t] w fun e w' => ∃ b, e = .returned (.bool b) ∧ (b = true ↔ ReachP a s t) ∧ Below w.heap.size w w' := by
  have hv0 := hv
  obtain ⟨A1, n1, c1, A2, n2, c2, rfl⟩ := hv.shape
  clear hv
  have hb0 : Below w.heap.size w (w.alloc (.cells #[.int .i64 a.start, .slice A1 n1 c1, .slice A2 n2 c2] 28)) := (Below.refl _ _).alloc (Nat.le_refl _) _
  have hb1 : Below w.heap.size w ((w.alloc (.cells #[.int .i64 a.start, .slice A1 n1 c1, .slice A2 n2 c2] 28)).alloc (.cells #[.int .i64 s, .int .i64 t] 3)) := hb0.alloc (by simp) _
  have hst : SlE ((w.alloc (.cells #[.int .i64 a.start, .slice A1 n1 c1, .slice A2 n2 c2] 28)).alloc (.cells #[.int .i64 s, .int .i64 t] 3)) cI 1 (.slice (some ⟨w.heap.size + 1, 0, none⟩) 2 2) [s, t] := by
    have h := Own.of_row (xs := [s, t]) (E := cI) (World.ownsRow_lit (base := 0) (e := 3) (size := 1) (w.alloc (.cells #[.int .i64 a.start, .slice A1 n1 c1, .slice A2 n2 c2] 28)) #[.int .i64 s, .int .i64 t] 2 (Nat.zero_le _) (by decide) rfl) rfl rfl
    have h2 := h.sl cI_len
    simpa [SlE] using h2
  have hok := statesOk_any _ _ a [s, t] _ (hv0.keep hb1) hst
  simp only [List.all_cons, List.all_nil, Bool.and_true] at hok
  have HOK := Lib.hid hok
  clear hok hst
  by_cases g : (wi s 0 ((a.accept.length : Int) - 1) && wi t 0 ((a.accept.length : Int) - 1) && auOk a) = true
  · have hg := g
    simp only [Bool.and_eq_true, wi_iff] at hg
    obtain ⟨⟨⟨hs1, hs2⟩, ht1, ht2⟩, hoka⟩ := hg
    have hp : ReachP a s t ↔ Reach a.next s.toNat t.toNat := ⟨fun h => h.2.2.2, fun h => ⟨hoka, ⟨hs1, hs2⟩, ⟨ht1, ht2⟩, h⟩⟩
    have HP := Lib.hid hp
    clear hp
    obtain ⟨t, rfl⟩ := Int.eq_ofNat_of_zero_le ht1
    have hoks : auOk ⟨s, a.accept, a.next⟩ = true := by
      rw [auOk_iff] at hoka ⊢
      exact ⟨hoka.1, ⟨hs1, hs2⟩, hoka.2.2.1, hoka.2.2.2⟩
    have HOKS := Lib.hid hoks
    have HG := Lib.hid g
    clear hoks g hoka
    go_enter Try.func18, Try.ntmps18
    go_wp2_with fail
    refine HOK.out.mono ?_
    rintro e w1 ⟨rfl, hb2⟩
    rw [HG.out]
    have b0 := ((Blk.new w _ _ w.heap.size rfl).alloc _).keep hb2
    have x0 : w1.cell? ⟨w.heap.size, 0, none⟩ = some _ := b0.cell 0
    have x1 : w1.cell? ⟨w.heap.size, 1, none⟩ = some _ := b0.cell 1
    have x2 : w1.cell? ⟨w.heap.size, 2, none⟩ = some _ := b0.cell 2
    have hb3 := below_trans hb1 hb2
    have hsz := hb3.size
    clear hb2 b0
    go_wp2_with fail
    have hb4 : Below w.heap.size w (w1.alloc (.cells #[.int .i64 s, .slice A1 n1 c1, .slice A2 n2 c2] 28)) := hb3.alloc hsz _
    refine (found_any _ ⟨s, a.accept, a.next⟩ _ ?_ HOKS.out).mono ?_
    · exact (hv0.restart s).keep hb4
    rintro e w2 ⟨v2, bs, rfl, ho, hb5, hbl, hbr⟩
    simp only at hbl hbr
    obtain ⟨b, hb⟩ : ∃ b, bs[t]? = some b := ⟨_, List.getElem?_eq_getElem (by rw [hbl]; omega)⟩
    obtain ⟨A3, c3, rfl, hl3, hm3, hx3⟩ := ho.sl cB_len
    obtain ⟨b3, o3, rfl, -, -, hc3⟩ := hx3 t b hb
    have d0 := hc3 0 _ rfl
    simp only [Nat.mul_one, Nat.add_zero] at d0
    have hbt : b = true ↔ Reach a.next s.toNat t := by rw [← hbr, hb]; simp
    have HBT := Lib.hid hbt
    have HBL := Lib.hid hbl
    have htl : t < bs.length := by omega
    unfold maxLen at hm3
    clear hbt hbl hbr hb hc3 hx3 ho x0 x1 x2
    go_wp2_with fail
    go_ret
    exact ⟨b, rfl, by rw [HP.out]; simpa using HBT.out, hb4.trans (hb5.mono hb4.size)⟩
  · have hn : ¬ ReachP a s t := by
      rintro ⟨h1, h2, h3, _⟩
      apply g
      simp only [Bool.and_eq_true, wi_iff]
      exact ⟨⟨h2, h3⟩, h1⟩
    simp only [Bool.not_eq_true] at g
    have HG := Lib.hid g
    have HN := Lib.hid hn
    clear g hn
    go_enter Try.func18, Try.ntmps18
    go_wp2_with fail
    refine HOK.out.mono ?_
    rintro e w1 ⟨rfl, hb2⟩
    rw [HG.out]
    go_wp2_with fail
    go_ret
    exact ⟨false, rfl, by simpa using HN.out, below_trans hb1 hb2⟩

set_option maxHeartbeats 1000000 in
theorem specStateReaches (v : Value) (a : Au) (s t : Int) (w : World) (hv : AuV 0 w.heap.size w v a) :
    Calls Try.prog 16 #[v, .int .i64 s, .int .i64 t] w fun e w' => ∃ b, e = .returned (.bool b) ∧ (b = true ↔ ReachP a s t) ∧ Below w.heap.size w w' := by
  have hv0 := hv
  obtain ⟨A1, n1, c1, A2, n2, c2, rfl⟩ := hv.shape
  clear hv
  have hb0 : Below w.heap.size w (w.alloc (.cells #[.int .i64 a.start, .slice A1 n1 c1, .slice A2 n2 c2] 28)) := (Below.refl _ _).alloc (Nat.le_refl _) _
  by_cases g1 : (auOk a && wi s 0 ((a.accept.length : Int) - 1)) = true
  · have HG1 := Lib.hid g1
    clear g1
    by_cases g2 : (auOk a && wi t 0 ((a.accept.length : Int) - 1)) = true
    · have HG2 := Lib.hid g2
      clear g2
      have hg1 := HG1.out
      have hg2 := HG2.out
      simp only [Bool.and_eq_true, wi_iff] at hg1 hg2
      obtain ⟨hoka, hs1, hs2⟩ := hg1
      obtain ⟨-, ht1, ht2⟩ := hg2
      have hp : ReachP a s t ↔ Reach a.next s.toNat t.toNat := ⟨fun h => h.2.2.2, fun h => ⟨hoka, ⟨hs1, hs2⟩, ⟨ht1, ht2⟩, h⟩⟩
      have HP := Lib.hid hp
      have HOK := Lib.hid hoka
      clear hp hoka
      by_cases hst : s = t
      · subst hst
        go_enter Try.func16, Try.ntmps16
        go_wp2_with fail
        refine (l22State_any _ a s _ (hv0.keep hb0)).mono ?_
        rintro e w1 ⟨rfl, hb1⟩
        rw [HG1.out]
        have b0 := (Blk.new w _ _ w.heap.size rfl).keep hb1
        have x0 : w1.cell? ⟨w.heap.size, 0, none⟩ = some _ := b0.cell 0
        have x1 : w1.cell? ⟨w.heap.size, 1, none⟩ = some _ := b0.cell 1
        have x2 : w1.cell? ⟨w.heap.size, 2, none⟩ = some _ := b0.cell 2
        have hb2 := below_trans hb0 hb1
        clear hb1 b0
        go_wp2_with fail
        refine (l22State_any _ a s _ (hv0.keep hb2)).mono ?_
        rintro e w2 ⟨rfl, hb3⟩
        rw [HG1.out]
        go_wp2_with fail
        go_ret
        exact ⟨true, rfl, by simpa using HP.out.2 (Reach.refl _ _), below_trans hb2 hb3⟩
      · obtain ⟨s, rfl⟩ := Int.eq_ofNat_of_zero_le hs1
        obtain ⟨t, rfl⟩ := Int.eq_ofNat_of_zero_le ht1
        have hst' : ((s : Int) == (t : Int)) = false := by simpa using hst
        have hne : s ≠ t := fun h => hst (by rw [h])
        have HNE := Lib.hid hne
        clear hst hne
        go_enter Try.func16, Try.ntmps16
        go_wp2_with fail
        refine (l22State_any _ a (s : Int) _ (hv0.keep hb0)).mono ?_
        rintro e w1 ⟨rfl, hb1⟩
        rw [HG1.out]
        have b0 := (Blk.new w _ _ w.heap.size rfl).keep hb1
        have x0 : w1.cell? ⟨w.heap.size, 0, none⟩ = some _ := b0.cell 0
        have x1 : w1.cell? ⟨w.heap.size, 1, none⟩ = some _ := b0.cell 1
        have x2 : w1.cell? ⟨w.heap.size, 2, none⟩ = some _ := b0.cell 2
        have hb2 := below_trans hb0 hb1
        clear hb1
        go_wp2_with fail
        refine (l22State_any _ a (t : Int) _ (hv0.keep hb2)).mono ?_
        rintro e w2 ⟨rfl, hb3⟩
        rw [HG2.out]
        have b0 := b0.keep hb3
        clear x0 x1 x2
        have x0 : w2.cell? ⟨w.heap.size, 0, none⟩ = some _ := b0.cell 0
        have x1 : w2.cell? ⟨w.heap.size, 1, none⟩ = some _ := b0.cell 1
        have x2 : w2.cell? ⟨w.heap.size, 2, none⟩ = some _ := b0.cell 2
        have hb4 := below_trans hb2 hb3
        clear hb2 hb3
        go_wp2_with fail
        refine (l13Onward_any _ a s _ (hv0.keep hb4) HOK.out (by omega)).mono ?_
        rintro e w3 ⟨v2, bs, rfl, ho, hb5, hbl, hbr⟩
        obtain ⟨b, hb⟩ : ∃ b, bs[t]? = some b := ⟨_, List.getElem?_eq_getElem (by rw [hbl]; omega)⟩
        obtain ⟨A3, c3, rfl, hl3, hm3, hx3⟩ := ho.sl cB_len
        obtain ⟨b3, o3, rfl, -, -, hc3⟩ := hx3 t b hb
        have d0 := hc3 0 _ rfl
        simp only [Nat.mul_one, Nat.add_zero] at d0
        have hbt : b = true ↔ Reach a.next s t := by
          have h1 := hbr t
          rw [hb] at h1
          rw [reach_iff, ← h1]
          simp [HNE.out]
        have HBT := Lib.hid hbt
        have htl : t < bs.length := by omega
        unfold maxLen at hm3
        clear hbt hbl hbr hb hc3 hx3 ho x0 x1 x2
        go_wp2_with fail
        go_ret
        exact ⟨b, rfl, by rw [HP.out]; simpa using HBT.out, hb4.trans (hb5.mono hb4.size)⟩
    · have hn : ¬ ReachP a s t := by
        rintro ⟨h1, h2, h3, _⟩
        apply g2
        simp only [Bool.and_eq_true, wi_iff]
        exact ⟨h1, h3⟩
      simp only [Bool.not_eq_true] at g2
      have HG := Lib.hid g2
      have HN := Lib.hid hn
      clear g2 hn
      go_enter Try.func16, Try.ntmps16
      go_wp2_with fail
      refine (l22State_any _ a s _ (hv0.keep hb0)).mono ?_
      rintro e w1 ⟨rfl, hb1⟩
      rw [HG1.out]
      have b0 := (Blk.new w _ _ w.heap.size rfl).keep hb1
      have x0 : w1.cell? ⟨w.heap.size, 0, none⟩ = some _ := b0.cell 0
      have x1 : w1.cell? ⟨w.heap.size, 1, none⟩ = some _ := b0.cell 1
      have x2 : w1.cell? ⟨w.heap.size, 2, none⟩ = some _ := b0.cell 2
      have hb2 := below_trans hb0 hb1
      clear hb1 b0
      go_wp2_with fail
      refine (l22State_any _ a t _ (hv0.keep hb2)).mono ?_
      rintro e w2 ⟨rfl, hb3⟩
      rw [HG.out]
      go_wp2_with fail
      go_ret
      exact ⟨false, rfl, by simpa using HN.out, below_trans hb2 hb3⟩
  · have hn : ¬ ReachP a s t := by
      rintro ⟨h1, h2, h3, _⟩
      apply g1
      simp only [Bool.and_eq_true, wi_iff]
      exact ⟨h1, h2⟩
    simp only [Bool.not_eq_true] at g1
    have HG := Lib.hid g1
    have HN := Lib.hid hn
    clear g1 hn
    go_enter Try.func16, Try.ntmps16
    go_wp2_with fail
    refine (l22State_any _ a s _ (hv0.keep hb0)).mono ?_
    rintro e w1 ⟨rfl, hb1⟩
    rw [HG.out]
    go_wp2_with fail
    go_ret
    exact ⟨false, rfl, by simpa using HN.out, below_trans hb0 hb1⟩
end Go.Proofs.Ytbhmgpclakkgbaa
