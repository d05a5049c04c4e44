/- Parts of the proof, joined into one text: MtgD, WalkM, MatchM, StepI, NodesI, NodesS, Ends, WalkS, AlongS, CntM, CwM, NthM, ImgM, LayM, WalksM, Meet, DstQ, HeldG, Rec, Seat. -/
import Derived.Test.YtallglnmeeahiaaGreatOnlyJODPBNNK
import Derived.Test.YtallglnmeeahiaaGreatOnlyGCIPIEML
import Derived.Test.YtallglnmeeahiaaGreatOnlyEMPCIJHO
import Derived.Test.YtallglnmeeahiaaGreatOnlyDMHMNKMM
import Derived.Test.YtallglnmeeahiaaGreatOnlyBPPHFNHP
import Derived.Test.YtallglnmeeahiaaGreatOnlyHBGHKMGI
import Derived.Test.YtallglnmeeahiaaGreatOnlyDEGJKGJL
import Derived.JoinedOf
import Derived.Test.YtallglnmeeahiaaGreatRows
namespace Go.Proofs.YtallglnmeeahiaaGreat
set_option linter.unusedVariables false
set_option linter.unusedSimpArgs false
open Go.ChangeShapes Go.WideShapes Go.ChangeAt Go.RowKit
attribute [local go_sem] ext_cell ext_frozen ext_lt ext_lt1 ext_lt2 ext_lt3 ltn2 ltn3 ltn13 lts1 lts2 lts3
def MtgOut (w : World) (e : Ending) (w' : World) : Prop := ∃ vg va g a x y d, e = .returned (.tuple #[vg, va, .int .i64 x, .int .i64 y, .int .i64 d]) ∧ (GrV 0 w'.heap.size w' vg g ∧ g.edges.length ≤ 11 ∧ AuV 0 w'.heap.size w' va a ∧ Below w.heap.size w w')
set_option maxHeartbeats 8000000 in
theorem drawMeetingPoints_any (v : Value) (bs : List Int) (w : World) (hv : SlI 0 w.heap.size w cU 1 v bs) :
    Calls Tryz.prog 6 #[v] w (MtgOut w) := by
  have HV := Lib.hid hv
  have hb0 := ((Below.refl w.heap.size w).alloc (Nat.le_refl _) (.cells #[.slice none 0 0, .slice none 0 0] 27)).alloc (by simp) (.cells #[.int .i64 0, .slice none 0 0, .slice none 0 0] 31)
  have hb1 := (Blk.new w 27 #[.slice none 0 0, .slice none 0 0] _ rfl).alloc (.cells #[.int .i64 0, .slice none 0 0, .slice none 0 0] 31)
  have hb2 := Blk.new (w.alloc (.cells #[.slice none 0 0, .slice none 0 0] 27)) 31 #[.int .i64 0, .slice none 0 0, .slice none 0 0] (w.heap.size + 1) (by simp)
  have hs0 : ((w.alloc (.cells #[.slice none 0 0, .slice none 0 0] 27)).alloc (.cells #[.int .i64 0, .slice none 0 0, .slice none 0 0] 31)).heap.size = w.heap.size + 2 := by simp
  obtain ⟨A, n, c, rfl⟩ := hv.shape
  clear hv
  go_enter Tryz.func6, Tryz.ntmps6
  go_wp2_with fail
  refine (l17Two_any _ bs _ ((HV.out.below hb0 (Nat.le_refl _)).mono (Nat.le_refl _) hb0.size)).mono ?_
  rintro e w2 ⟨b, vg, va, g, a, x, y, rfl, hbl, hgv, he11, hav, hc2, hbw⟩
  have hr1 := hb1.keep hbw
  have hr2 := hb2.keep hbw
  have hb3 := below_trans hb0 hbw
  rw [hs0] at hbl
  clear hbw hb1 hb2 hb0 hs0 HV
  have hlb := hc2.lt
  obtain ⟨A1, n1, c1, A2, n2, c2, rfl⟩ := hgv.shape
  obtain ⟨A3, n3, c3, A4, n4, c4, rfl⟩ := hav.shape
  have hn1 := grT_len hgv
  have hal := ((Below.refl w2.heap.size w2).alloc (Nat.le_refl _) (.cells #[.slice A1 n1 c1, .slice A2 n2 c2] 27)).alloc (by simp) (.cells #[.int .i64 a.start, .slice A3 n3 c3, .slice A4 n4 c4] 31)
  have bg := (Blk.new w2 27 #[.slice A1 n1 c1, .slice A2 n2 c2] _ rfl).alloc (.cells #[.int .i64 a.start, .slice A3 n3 c3, .slice A4 n4 c4] 31)
  have ba := Blk.new (w2.alloc (.cells #[.slice A1 n1 c1, .slice A2 n2 c2] 27)) 31 #[.int .i64 a.start, .slice A3 n3 c3, .slice A4 n4 c4] (w2.heap.size + 1) (by simp)
  obtain ⟨gq, hgq⟩ : ∃ gq, gq = w2.heap.size := ⟨_, rfl⟩
  have HP := Lib.hid (show GaR b w.heap.size gq (gq + 1) w ((w2.alloc (.cells #[.slice A1 n1 c1, .slice A2 n2 c2] 27)).alloc (.cells #[.int .i64 a.start, .slice A3 n3 c3, .slice A4 n4 c4] 31)) _ _ g _ _ a from
    ⟨hr1.keep hal, hr2.keep hal, hgq ▸ bg, hgq ▸ ba, (hgv.below hal (Nat.le_refl _)).mono (by omega) (by omega), (hav.below hal (Nat.le_refl _)).mono (by omega) (by omega), hc2.keep hal, below_trans hb3 hal, rfl, he11, by omega⟩)
  clear hal bg ba hgv hav hc2 hr1 hr2 hb3 he11
  go_upto_region 2 with fail
  rw [← hgq]
  generalize ((w2.alloc (.cells #[.slice A1 n1 c1, .slice A2 n2 c2] 27)).alloc (.cells #[.int .i64 a.start, .slice A3 n3 c3, .slice A4 n4 c4] 31)) = W at *
  clear hgq hlb
  have x0 : W.cell? ⟨gq, 0, none⟩ = some (.slice A1 n1 c1) := HP.out.gbk.cell 0
  have x1 : W.cell? ⟨gq, 1, none⟩ = some (.slice A2 n2 c2) := HP.out.gbk.cell 1
  have y0 : W.cell? ⟨gq + 1, 0, none⟩ = some (.int .i64 a.start) := HP.out.abk.cell 0
  have y1 : W.cell? ⟨gq + 1, 1, none⟩ = some (.slice A3 n3 c3) := HP.out.abk.cell 1
  have y2 : W.cell? ⟨gq + 1, 2, none⟩ = some (.slice A4 n4 c4) := HP.out.abk.cell 2
  go_wp2_with fail
  refine F_start 11 (fun w' => w'.cell? ⟨gq, 0, none⟩ = some (.slice A1 n1 c1) ∧ w'.cell? ⟨gq, 1, none⟩ = some (.slice A2 n2 c2) ∧ w'.cell? ⟨gq + 1, 0, none⟩ = some (.int .i64 a.start) ∧ w'.cell? ⟨gq + 1, 1, none⟩ = some (.slice A3 n3 c3) ∧ w'.cell? ⟨gq + 1, 2, none⟩ = some (.slice A4 n4 c4)) (by kernel_rfl) (by exact ⟨x0, x1, y0, y1, y2⟩) (fun hS inv => ?_)
  refine F_take (i := 0) (v := ?_) rfl (by kernel_rfl) (by kernel_rfl) (by kernel_rfl) (fun _ _ _ h => h) inv (Or.inl ⟨by rfl, ?_⟩) (by assumption) (fun invn => ?_)
  rotate_left
  · (intro w hSw; (try dsimp only at hSw); go_simp; try with_reducible rfl)
  try simp only [List.getElem_toArray, List.getElem_cons_zero, List.getElem_cons_succ, Act.put, List.setIfInBounds_toArray, List.set_cons_zero, List.set_cons_succ]
  clear inv
  have inv := invn
  clear invn
  refine F_take (i := 1) (v := ?_) rfl (by kernel_rfl) (by kernel_rfl) (by kernel_rfl) (fun _ _ _ h => h) inv (Or.inl ⟨by rfl, ?_⟩) (by assumption) (fun invn => ?_)
  rotate_left
  · (intro w hSw; (try dsimp only at hSw); go_simp; try with_reducible rfl)
  try simp only [List.getElem_toArray, List.getElem_cons_zero, List.getElem_cons_succ, Act.put, List.setIfInBounds_toArray, List.set_cons_zero, List.set_cons_succ]
  clear inv
  have inv := invn
  clear invn
  refine F_take (i := 2) (v := ?_) rfl (by kernel_rfl) (by kernel_rfl) (by kernel_rfl) (fun _ _ _ h => h) inv (Or.inl ⟨by rfl, ?_⟩) (by assumption) (fun invn => ?_)
  rotate_left
  · (intro w hSw; (try dsimp only at hSw); go_simp; try with_reducible rfl)
  try simp only [List.getElem_toArray, List.getElem_cons_zero, List.getElem_cons_succ, Act.put, List.setIfInBounds_toArray, List.set_cons_zero, List.set_cons_succ]
  clear inv
  have inv := invn
  clear invn
  refine F_take (i := 3) (v := ?_) rfl (by kernel_rfl) (by kernel_rfl) (by kernel_rfl) (fun _ _ _ h => h) inv (Or.inl ⟨by rfl, ?_⟩) (by assumption) (fun invn => ?_)
  rotate_left
  · (intro w hSw; (try dsimp only at hSw); go_simp; try with_reducible rfl)
  try simp only [List.getElem_toArray, List.getElem_cons_zero, List.getElem_cons_succ, Act.put, List.setIfInBounds_toArray, List.set_cons_zero, List.set_cons_succ]
  clear inv
  have inv := invn
  clear invn
  refine F_take (i := 4) (v := ?_) rfl (by kernel_rfl) (by kernel_rfl) (by kernel_rfl) (fun _ _ _ h => h) inv (Or.inl ⟨by rfl, ?_⟩) (by assumption) (fun invn => ?_)
  rotate_left
  · (intro w hSw; (try dsimp only at hSw); go_simp; try with_reducible rfl)
  try simp only [List.getElem_toArray, List.getElem_cons_zero, List.getElem_cons_succ, Act.put, List.setIfInBounds_toArray, List.set_cons_zero, List.set_cons_succ]
  clear inv
  have inv := invn
  clear invn
  have HPd := Lib.hid HP.out.drew
  clear HP x0 x1 y0 y1 y2
  refine F_one (i := 5) (by kernel_rfl) rfl rfl (by omega) inv (fun K hK => ?_)
  try simp only [List.getElem_toArray, List.getElem_cons_zero, List.getElem_cons_succ]
  go_simp
  refine (l1Below_any b _ _ HPd.out.cur).mono ?_
  rintro e w4 ⟨q, rfl, ⟨hq0, -, hq1⟩, hc4, ho4⟩
  have hq6 := hq1 (by decide)
  have q9 : IntKind.i64.wrap (q - 1) = q - 1 := IntWalk.i64_in _ (by omega)
  have HP5 := Lib.hid (HPd.out.step ho4 hc4)
  clear ho4 hc4 HPd
  refine hK.out _ _ (⟨HP5.out.gbk.cell 0, HP5.out.gbk.cell 1, HP5.out.abk.cell 0, HP5.out.abk.cell 1, HP5.out.abk.cell 2⟩) (fun hSn invn => ?_)
  try simp only [List.getElem_toArray, List.getElem_cons_zero, List.getElem_cons_succ, Act.put, List.setIfInBounds_toArray, List.set_cons_zero, List.set_cons_succ]
  clear hK K inv hS
  have inv := invn
  have hS := hSn
  clear invn hSn
  refine F_take (i := 6) (v := ?_) rfl (by kernel_rfl) (by kernel_rfl) (by kernel_rfl) (fun _ _ _ h => h) inv (Or.inl ⟨by rfl, ?_⟩) (by assumption) (fun invn => ?_)
  rotate_left
  · (intro w hSw; (try dsimp only at hSw); go_simp; try with_reducible rfl)
  try simp only [List.getElem_toArray, List.getElem_cons_zero, List.getElem_cons_succ, Act.put, List.setIfInBounds_toArray, List.set_cons_zero, List.set_cons_succ]
  clear inv
  have inv := invn
  clear invn
  have z0 : w4.cell? ⟨w.heap.size, 0, none⟩ = some (.slice none 0 0) := HP5.out.res1.cell 0
  have z1 : w4.cell? ⟨w.heap.size, 1, none⟩ = some (.slice none 0 0) := HP5.out.res1.cell 1
  have z2 : w4.cell? ⟨w.heap.size + 1, 0, none⟩ = some (.int .i64 0) := HP5.out.res2.cell 0
  have z3 : w4.cell? ⟨w.heap.size + 1, 1, none⟩ = some (.slice none 0 0) := HP5.out.res2.cell 1
  have z4 : w4.cell? ⟨w.heap.size + 1, 2, none⟩ = some (.slice none 0 0) := HP5.out.res2.cell 2
  have v0 := HP5.out.res1.frozen 0
  have v1 := HP5.out.res1.frozen 1
  have v2 := HP5.out.res2.frozen 0
  have v3 := HP5.out.res2.frozen 1
  have v4 := HP5.out.res2.frozen 2
  have hlr := HP5.out.res1.lt
  have hls := HP5.out.res2.lt
  have HQ := Lib.hid (HP5.out.put (.slice A1 n1 c1) (.slice A2 n2 c2))
  have HQB := Lib.hid (HP5.out.blks HQ.out.1)
  refine F_one (i := 7) (by kernel_rfl) rfl rfl (by omega) inv (fun K hK => ?_)
  try simp only [List.getElem_toArray, List.getElem_cons_zero, List.getElem_cons_succ]
  go_simp
  refine hK.out _ _ (⟨HQB.out.1.cell 0, HQB.out.1.cell 1, HQB.out.2.cell 0, HQB.out.2.cell 1, HQB.out.2.cell 2⟩) (fun hSn invn => ?_)
  try simp only [List.getElem_toArray, List.getElem_cons_zero, List.getElem_cons_succ, Act.put, List.setIfInBounds_toArray, List.set_cons_zero, List.set_cons_succ]
  clear hK K inv hS
  have inv := invn
  have hS := hSn
  clear invn hSn
  have HQC := Lib.hid (HP5.out.blks (putGC_only w4 w.heap.size (.slice A1 n1 c1) (.slice A2 n2 c2) (.int .i64 a.start) (.slice A3 n3 c3) (.slice A4 n4 c4)))
  refine F_one (i := 8) (by kernel_rfl) rfl rfl (by omega) inv (fun K hK => ?_)
  try simp only [List.getElem_toArray, List.getElem_cons_zero, List.getElem_cons_succ]
  go_simp
  refine hK.out _ _ (⟨HQC.out.1.cell 0, HQC.out.1.cell 1, HQC.out.2.cell 0, HQC.out.2.cell 1, HQC.out.2.cell 2⟩) (fun hSn invn => ?_)
  try simp only [List.getElem_toArray, List.getElem_cons_zero, List.getElem_cons_succ, Act.put, List.setIfInBounds_toArray, List.set_cons_zero, List.set_cons_succ]
  clear hK K inv hS
  have inv := invn
  have hS := hSn
  clear invn hSn
  refine F_one (i := 9) (by kernel_rfl) rfl rfl (by omega) inv (fun K hK => ?_)
  try simp only [List.getElem_toArray, List.getElem_cons_zero, List.getElem_cons_succ]
  go_simp
  refine hK.out _ _ (⟨HQC.out.1.cell 0, HQC.out.1.cell 1, HQC.out.2.cell 0, HQC.out.2.cell 1, HQC.out.2.cell 2⟩) (fun hSn invn => ?_)
  try simp only [List.getElem_toArray, List.getElem_cons_zero, List.getElem_cons_succ, Act.put, List.setIfInBounds_toArray, List.set_cons_zero, List.set_cons_succ]
  clear hK K inv hS
  have inv := invn
  have hS := hSn
  clear invn hSn
  refine F_one (i := 10) (by kernel_rfl) rfl rfl (by omega) inv (fun K hK => ?_)
  try simp only [List.getElem_toArray, List.getElem_cons_zero, List.getElem_cons_succ]
  go_simp
  refine hK.out _ _ (⟨HQC.out.1.cell 0, HQC.out.1.cell 1, HQC.out.2.cell 0, HQC.out.2.cell 1, HQC.out.2.cell 2⟩) (fun hSn invn => ?_)
  try simp only [List.getElem_toArray, List.getElem_cons_zero, List.getElem_cons_succ, Act.put, List.setIfInBounds_toArray, List.set_cons_zero, List.set_cons_succ]
  clear hK K inv hS
  have inv := invn
  have hS := hSn
  clear invn hSn
  refine F_last (i := 11) (by kernel_rfl) rfl rfl (by omega) (by kernel_rfl) (fun K hK => ?_)
  go_simp
  refine hK _ _ ?_
  clear hK K
  go_wp2_with fail
  have HD := HP5.out.fin0 (putGC_only w4 w.heap.size (.slice A1 n1 c1) (.slice A2 n2 c2) (.int .i64 a.start) (.slice A3 n3 c3) (.slice A4 n4 c4))
  exact bodyPost_ret (v := .tuple #[.agg #[.slice A1 n1 c1, .slice A2 n2 c2], .agg #[.int .i64 a.start, .slice A3 n3 c3, .slice A4 n4 c4], .int .i64 x, .int .i64 y, .int .i64 (q - 1)]) (by simp [results, Tryz.results6, go_sem, z0, z1, z2, z3, z4, v0, v1, v2, v3, v4, hlr, hls]) rfl ⟨_, _, g, a, _, _, _, rfl, HD⟩
end Go.Proofs.YtallglnmeeahiaaGreat
namespace Go.Proofs.YtallglnmeeahiaaGreat
set_option linter.unusedVariables false
set_option linter.unusedSimpArgs false
end Go.Proofs.YtallglnmeeahiaaGreat
namespace Go.Proofs.YtallglnmeeahiaaGreat
set_option linter.unusedVariables false
set_option linter.unusedSimpArgs false
end Go.Proofs.YtallglnmeeahiaaGreat
namespace Go.Proofs.YtallglnmeeahiaaGreat
set_option linter.unusedVariables false
set_option linter.unusedSimpArgs false
open Go.ChangeShapes Go.WideShapes Go.ChangeAt Go.RowKit
attribute [local go_sem] ext_cell ext_frozen ext_lt ext_lt1 ext_lt2 ext_lt3 ltn2 ltn3 ltn13 lts1 lts2 lts3
end Go.Proofs.YtallglnmeeahiaaGreat
namespace Go.Proofs.YtallglnmeeahiaaGreat
set_option linter.unusedVariables false
set_option linter.unusedSimpArgs false
open Go.ChangeShapes Go.WideShapes Go.ChangeAt Go.RowKit
attribute [local go_sem] ext_cell ext_frozen ext_lt ext_lt1 ext_lt2 ext_lt3 ltn2 ltn3 ltn13 lts1 lts2 lts3
end Go.Proofs.YtallglnmeeahiaaGreat
namespace Go.Proofs.YtallglnmeeahiaaGreat
set_option linter.unusedVariables false
set_option linter.unusedSimpArgs false
open Go.ChangeShapes Go.WideShapes Go.ChangeAt Go.RowKit
attribute [local go_sem] ext_cell ext_frozen ext_lt ext_lt1 ext_lt2 ext_lt3 ltn2 ltn3 ltn13 lts1 lts2 lts3
end Go.Proofs.YtallglnmeeahiaaGreat
namespace Go.Proofs.YtallglnmeeahiaaGreat
set_option linter.unusedVariables false
set_option linter.unusedSimpArgs false
open Go.ChangeShapes Go.WideShapes Go.ChangeAt Go.RowKit
attribute [local go_sem] ext_cell ext_frozen ext_lt ext_lt1 ext_lt2 ext_lt3 ltn2 ltn3 ltn13 lts1 lts2 lts3
end Go.Proofs.YtallglnmeeahiaaGreat
namespace Go.Proofs.YtallglnmeeahiaaGreat
set_option linter.unusedVariables false
set_option linter.unusedSimpArgs false
open Go.ChangeShapes Go.WideShapes Go.ChangeAt Go.RowKit
attribute [local go_sem] ext_cell ext_frozen ext_lt ext_lt1 ext_lt2 ext_lt3 ltn2 ltn3 ltn13 lts1 lts2 lts3
end Go.Proofs.YtallglnmeeahiaaGreat
namespace Go.Proofs.YtallglnmeeahiaaGreat
set_option linter.unusedVariables false
set_option linter.unusedSimpArgs false
open Go.ChangeShapes Go.WideShapes Go.ChangeAt Go.RowKit
attribute [local go_sem] ext_cell ext_frozen ext_lt ext_lt1 ext_lt2 ext_lt3 ltn2 ltn3 ltn13 lts1 lts2 lts3
end Go.Proofs.YtallglnmeeahiaaGreat
namespace Go.Proofs.YtallglnmeeahiaaGreat
set_option linter.unusedVariables false
set_option linter.unusedSimpArgs false
open Go.ChangeShapes Go.WideShapes Go.ChangeAt Go.RowKit
def cntC (g : Gr) (a : Au) (rec : Nat → Nat → Nat → Int) (x s used : Nat) (n : Int) (p : Arc) : Int :=
  if aft a s (valAt g x) p.2.1.toNat = 0 ∨ used.testBit p.2.2.toNat = true then n
  else wrap64 (n + rec p.2.2.toNat (aft a s (valAt g x) p.2.1.toNat) (ins used p.2.2.toNat))
def cnt0 (g : Gr) (a : Au) (y : Int) (x s : Nat) : Int := if decide ((x : Int) = y) && acc a s (valAt g x) then 1 else 0
def cnt (g : Gr) (a : Au) (y : Int) : Nat → Nat → Nat → Nat → Int
  | 0, _, _, _ => 0
  | f + 1, x, s, used => (arcsOf g (x : Int)).foldl (cntC g a (cnt g a y f) x s used) (cnt0 g a y x s)
end Go.Proofs.YtallglnmeeahiaaGreat
namespace Go.Proofs.YtallglnmeeahiaaGreat
set_option linter.unusedVariables false
set_option linter.unusedSimpArgs false
open Go.ChangeShapes Go.WideShapes Go.ChangeAt Go.RowKit
def cwStep (g : Gr) (a : Au) (rec : Nat → Nat → Nat) (x s n : Nat) (p : Arc) : Nat := min 1000000 (n + rec p.2.2.toNat (aft a s (valAt g x) p.2.1.toNat))
/-- the walks of f steps from node x with states s to y, at most a million -/
def cw (g : Gr) (a : Au) (y : Int) : Nat → Nat → Nat → Nat
  | 0, x, s => if (decide ((x : Int) = y) && acc a s (valAt g x)) = true then 1 else 0
  | f + 1, x, s => (arcsOf g (x : Int)).foldl (cwStep g a (cw g a y f) x s) 0
theorem mem_of_zero : ∀ k : Nat, mem k 0 = []
  | 0 => rfl
  | k + 1 => by rw [mem_no (by simp), mem_of_zero k]
theorem aft_none (a : Au) (v l : Nat) : aft a 0 v l = 0 := by rw [aft, mem_of_zero]; rfl
theorem acc_none (a : Au) (v : Nat) : acc a 0 v = false := by rw [acc, mem_of_zero]; rfl
theorem cw_none (g : Gr) (a : Au) (y : Int) : ∀ (f x : Nat), cw g a y f x 0 = 0
  | 0, x => by rw [cw, acc_none]; simp
  | f + 1, x => by
    rw [cw]
    generalize arcsOf g (x : Int) = l
    induction l with
    | nil => rfl
    | cons p l ih =>
      rw [List.foldl_cons, cwStep, aft_none, cw_none g a y f]
      exact ih
abbrev Key := Nat × Nat
def cntL (C : List Nat) (n : Nat) (e : St × Nat) : Nat := min 1000000 (n + C.getD e.2 0)
end Go.Proofs.YtallglnmeeahiaaGreat
namespace Go.Proofs.YtallglnmeeahiaaGreat
set_option linter.unusedVariables false
set_option linter.unusedSimpArgs false
open Go.ChangeShapes Go.WideShapes Go.ChangeAt Go.RowKit
inductive RowR (g : Gr) (a : Au) (x s : Nat) (N : List Key) : List Arc → List (St × Nat) → Prop
  | nil : RowR g a x s N [] []
  | skip {p : Arc} {l : List Arc} {T : List (St × Nat)} : aft a s (valAt g x) p.2.1.toNat = 0 → RowR g a x s N l T → RowR g a x s N (p :: l) T
  | take {p : Arc} {l : List Arc} {T : List (St × Nat)} {i : Nat} : aft a s (valAt g x) p.2.1.toNat ≠ 0 → N[i]? = some (p.2.2.toNat, aft a s (valAt g x) p.2.1.toNat) → RowR g a x s N l T → RowR g a x s N (p :: l) ((p.1, i) :: T)
theorem RowR.more {g : Gr} {a : Au} {x s : Nat} {N : List Key} {l : List Arc} {T : List (St × Nat)} (h : RowR g a x s N l T) (N3 : List Key) : RowR g a x s (N ++ N3) l T := by
  induction h with
  | nil => exact .nil
  | skip h1 _ ih => exact .skip h1 ih
  | take h1 h2 _ ih => exact .take h1 (by rw [List.getElem?_append_left (List.getElem?_eq_some_iff.1 h2).1]; exact h2) ih
theorem RowR.cnt {g : Gr} {a : Au} {y : Int} {f x s : Nat} {N : List Key} {C : List Nat} (hC : ∀ i k, N[i]? = some k → C.getD i 0 = cw g a y f k.1 k.2) {l : List Arc} {T : List (St × Nat)} (h : RowR g a x s N l T) :
    ∀ n, n ≤ 1000000 → T.foldl (cntL C) n = l.foldl (cwStep g a (cw g a y f) x s) n := by
  induction h with
  | nil => intro n _; rfl
  | skip h1 _ ih =>
    intro n hn
    rw [List.foldl_cons, cwStep, h1, cw_none, Nat.add_zero, Nat.min_eq_right hn]
    exact ih n hn
  | take h1 h2 _ ih =>
    intro n hn
    rw [List.foldl_cons, List.foldl_cons, cntL, cwStep, hC _ _ h2]
    exact ih _ (Nat.min_le_left _ _)
/-- the first of l before which fewer than n are counted: and what is left of n -/
def pick {α : Type} (k : α → Nat) : List α → Nat → Option (α × Nat)
  | [], _ => none
  | p :: l, n => if n < k p then some (p, n) else pick k l (n - k p)
def cwAt (g : Gr) (a : Au) (y : Int) (f x s : Nat) (p : Arc) : Nat := cw g a y f p.2.2.toNat (aft a s (valAt g x) p.2.1.toNat)
theorem RowR.pick {g : Gr} {a : Au} {y : Int} {f x s : Nat} {N : List Key} {C : List Nat} (hC : ∀ i k, N[i]? = some k → C.getD i 0 = cw g a y f k.1 k.2) {l : List Arc} {T : List (St × Nat)} (h : RowR g a x s N l T) :
    ∀ n, (pick (fun e : St × Nat => C.getD e.2 0) T n = none ∧ Go.Proofs.YtallglnmeeahiaaGreat.pick (cwAt g a y f x s) l n = none) ∨
      ∃ p i n', pick (fun e : St × Nat => C.getD e.2 0) T n = some ((p.1, i), n') ∧ Go.Proofs.YtallglnmeeahiaaGreat.pick (cwAt g a y f x s) l n = some (p, n') ∧ N[i]? = some (p.2.2.toNat, aft a s (valAt g x) p.2.1.toNat) ∧ p ∈ l := by
  induction h with
  | nil => intro n; exact .inl ⟨rfl, rfl⟩
  | @skip p0 l0 T0 h1 _ ih =>
    intro n
    have hz : ¬ n < cwAt g a y f x s p0 := by rw [cwAt, h1, cw_none]; omega
    have hz2 : n - cwAt g a y f x s p0 = n := by rw [cwAt, h1, cw_none]; omega
    rcases ih n with ⟨e1, e2⟩ | ⟨p, i, n', e1, e2, e3, e4⟩
    · exact .inl ⟨e1, by rw [Go.Proofs.YtallglnmeeahiaaGreat.pick, if_neg hz, hz2, e2]⟩
    · exact .inr ⟨p, i, n', e1, by rw [Go.Proofs.YtallglnmeeahiaaGreat.pick, if_neg hz, hz2, e2], e3, List.mem_cons_of_mem _ e4⟩
  | @take p l T i h1 h2 _ ih =>
    intro n
    have hc : C.getD i 0 = cwAt g a y f x s p := hC _ _ h2
    by_cases hn : n < cwAt g a y f x s p
    · exact .inr ⟨p, i, n, by rw [Go.Proofs.YtallglnmeeahiaaGreat.pick, if_pos (by rw [hc]; exact hn)], by rw [Go.Proofs.YtallglnmeeahiaaGreat.pick, if_pos hn], h2, List.mem_cons_self ..⟩
    · rcases ih (n - cwAt g a y f x s p) with ⟨e1, e2⟩ | ⟨p', i', n', e1, e2, e3, e4⟩
      · exact .inl ⟨by rw [Go.Proofs.YtallglnmeeahiaaGreat.pick, if_neg (by rw [hc]; exact hn)]; simp only [hc]; exact e1, by rw [Go.Proofs.YtallglnmeeahiaaGreat.pick, if_neg hn, e2]⟩
      · exact .inr ⟨p', i', n', by rw [Go.Proofs.YtallglnmeeahiaaGreat.pick, if_neg (by rw [hc]; exact hn)]; simp only [hc]; exact e1, by rw [Go.Proofs.YtallglnmeeahiaaGreat.pick, if_neg hn, e2], e3, List.mem_cons_of_mem _ e4⟩
end Go.Proofs.YtallglnmeeahiaaGreat
namespace Go.Proofs.YtallglnmeeahiaaGreat
set_option linter.unusedVariables false
set_option linter.unusedSimpArgs false
theorem nodup_subN : ∀ (s l : List Nat), s.Nodup → (∀ x ∈ s, x ∈ l) → s.length ≤ l.length
  | [], _, _, _ => Nat.zero_le _
  | x :: s, l, hn, h => by
    obtain ⟨h1, h2⟩ := List.nodup_cons.1 hn
    have hx := h x (by simp)
    have := nodup_subN s (l.erase x) h2 (fun y hy => by
      have hne : y ≠ x := fun e => h1 (e ▸ hy)
      exact (List.mem_erase_of_ne hne).2 (h y (List.mem_cons_of_mem _ hy)))
    rw [List.length_erase_of_mem hx] at this
    have hp := List.length_pos_of_mem hx
    rw [List.length_cons]
    omega
end Go.Proofs.YtallglnmeeahiaaGreat
namespace Go.Proofs.YtallglnmeeahiaaGreat
set_option linter.unusedVariables false
set_option linter.unusedSimpArgs false
open Go.ChangeShapes Go.WideShapes Go.ChangeAt Go.RowKit
structure KeysOk (g : Gr) (a : Au) (N : List Key) : Prop where
  nod : N.Nodup
  rng : ∀ k ∈ N, k.1 < g.vals.length ∧ k.2 < 2 ^ a.accept.length
theorem KeysOk.push {g : Gr} {a : Au} {N : List Key} (h : KeysOk g a N) {k : Key} (hk : k ∉ N) (hr : k.1 < g.vals.length ∧ k.2 < 2 ^ a.accept.length) : KeysOk g a (N ++ [k]) := by
  refine ⟨List.nodup_append.2 ⟨h.nod, by simp, fun b hb c hc e => ?_⟩, fun u hu => ?_⟩
  · rw [List.mem_singleton] at hc
    subst hc e
    exact hk hb
  · rcases List.mem_append.1 hu with hu | hu
    · exact h.rng u hu
    · rw [List.mem_singleton] at hu
      subst hu
      exact hr
theorem KeysOk.len {g : Gr} {a : Au} (hg : GrOk g) (ha : auOk a = true) {N : List Key} (h : KeysOk g a N) : N.length ≤ 20480 := by
  have h1 := nodup_subN (N.map fun z => z.1 * 4096 + z.2) (List.range 20480) ?_ ?_
  · simpa using h1
  · rw [List.Nodup, List.pairwise_map]
    refine List.Pairwise.imp_of_mem ?_ h.nod
    intro b c hb hc hne he
    refine hne ?_
    have hb := lt12 ha (h.rng b hb).2
    have hc := lt12 ha (h.rng c hc).2
    exact Prod.ext (by omega) (by omega)
  · intro u hu
    obtain ⟨z, hz, rfl⟩ := List.mem_map.1 hu
    have hb := h.rng z hz
    have hb2 := lt12 ha hb.2
    have := hg.n5
    rw [List.mem_range]
    omega
def cntF (C : Nat → Nat) (n : Nat) (e : St × Nat) : Nat := min 1000000 (n + C e.2)
theorem RowR.cntF {g : Gr} {a : Au} {y : Int} {f x s : Nat} {N : List Key} {C : Nat → Nat} (hC : ∀ i k, N[i]? = some k → C i = cw g a y f k.1 k.2) {l : List Arc} {T : List (St × Nat)} (h : RowR g a x s N l T) :
    ∀ n, n ≤ 1000000 → T.foldl (Go.Proofs.YtallglnmeeahiaaGreat.cntF C) n = l.foldl (cwStep g a (cw g a y f) x s) n := by
  induction h with
  | nil => intro n _; rfl
  | skip h1 _ ih =>
    intro n hn
    rw [List.foldl_cons, cwStep, h1, cw_none, Nat.add_zero, Nat.min_eq_right hn]
    exact ih n hn
  | take h1 h2 _ ih =>
    intro n hn
    rw [List.foldl_cons, List.foldl_cons, Go.Proofs.YtallglnmeeahiaaGreat.cntF, cwStep, hC _ _ h2]
    exact ih _ (Nat.min_le_left _ _)
theorem RowR.len {g : Gr} {a : Au} {x s : Nat} {N : List Key} {l : List Arc} {T : List (St × Nat)} (h : RowR g a x s N l T) : T.length ≤ l.length := by
  induction h with
  | nil => exact Nat.le_refl _
  | skip _ _ ih => rw [List.length_cons]; omega
  | take _ _ _ ih => simp only [List.length_cons]; omega
end Go.Proofs.YtallglnmeeahiaaGreat
namespace Go.Proofs.YtallglnmeeahiaaGreat
set_option linter.unusedVariables false
set_option linter.unusedSimpArgs false
open Go.ChangeShapes Go.WideShapes Go.ChangeAt Go.RowKit
theorem dist_chain {next : Nat → List Nat} {goal : Nat → Prop} {N : Nat} (hn : ∀ i k, i < N → k ∈ next i → k < N) : ∀ (d i : Nat), i < N → toG next goal d i → (∀ m, m < d → ¬ toG next goal m i) →
    ∃ L : List Nat, L.length = d + 1 ∧ (∀ v ∈ L, v < N) ∧ (∀ e v, L[e]? = some v → toG next goal (d - e) v ∧ ∀ m, m < d - e → ¬ toG next goal m v)
  | 0, i, hi, hg, hm => ⟨[i], rfl, fun v hv => by rw [List.mem_singleton] at hv; subst hv; exact hi, fun e v he => by
      cases e with
      | zero => simp only [List.getElem?_cons_zero, Option.some.injEq] at he; subst he; exact ⟨hg, hm⟩
      | succ e => simp at he⟩
  | d + 1, i, hi, hg, hm => by
    obtain ⟨k, hk, hg2⟩ := hg
    obtain ⟨L, h1, h2, h3⟩ := dist_chain hn d k (hn i k hi hk) hg2 (fun m hmd hgm => hm (m + 1) (by omega) ⟨k, hk, hgm⟩)
    refine ⟨i :: L, by simp [h1], fun v hv => ?_, fun e v he => ?_⟩
    · rcases List.mem_cons.1 hv with rfl | hv
      · exact hi
      · exact h2 v hv
    · cases e with
      | zero => simp only [List.getElem?_cons_zero, Option.some.injEq] at he; subst he; exact ⟨⟨k, hk, hg2⟩, hm⟩
      | succ e =>
        simp only [List.getElem?_cons_succ] at he
        have := h3 e v he
        rwa [show d + 1 - (e + 1) = d - e by omega]
theorem nodup_le : ∀ {L : List Nat} {N : Nat}, L.Nodup → (∀ v ∈ L, v < N) → L.length ≤ N := by
  intro L N h1 h2
  have := nodup_subN L (List.range N) h1 (fun v hv => List.mem_range.2 (h2 v hv))
  simpa using this
theorem dist_lt {next : Nat → List Nat} {goal : Nat → Prop} {N i : Nat} {d : Int} (hn : ∀ i k, i < N → k ∈ next i → k < N) (hi : i < N) (h : IsDist next goal i d) : d < (N : Int) := by
  rcases h with ⟨rfl, _⟩ | ⟨h0, h1, h2⟩
  · omega
  · obtain ⟨L, e1, e2, e3⟩ := dist_chain hn d.toNat i hi h1 h2
    have hnd : L.Nodup := by
      rw [List.Nodup, List.pairwise_iff_getElem]
      intro p q hp hq hpq he
      have f1 := e3 p L[p] (List.getElem?_eq_getElem hp)
      have f2 := e3 q L[q] (List.getElem?_eq_getElem hq)
      rw [← he] at f2
      exact f1.2 _ (by omega) f2.1
    have := nodup_le hnd e2
    omega
theorem shortLen_dist {g : Gr} {a : Au} {x y : Nat} (hg : grOk g = true) (ha : auOk a = true) (hx : x < g.vals.length) (hy : y < g.vals.length) :
    IsDist (nextI g a) (fun i => i ∈ goalsL g a y) (x * a.accept.length + a.start.toNat) (shortLen g a (x : Int) (y : Int)) := by
  have hd : (wi (y : Int) 0 ((g.vals.length : Int) - 1) && (grOk g && auOk a)) = true := by
    simp only [Bool.and_eq_true]
    exact ⟨by rw [wi_iff]; omega, hg, ha⟩
  have hN : ∀ i k, i < g.vals.length * a.accept.length → k ∈ nextI g a i → k < g.vals.length * a.accept.length := fun i k _ hk => nextV_lt (grOk_iff.1 hg) ha hk
  have hfs : ∀ i ∈ goalsL g a y, i < g.vals.length * a.accept.length := fun i hi => by
    obtain ⟨s, hs, _, rfl⟩ := mem_goalsL.1 hi
    calc y * a.accept.length + s < y * a.accept.length + a.accept.length := by omega
      _ = (y + 1) * a.accept.length := by rw [Nat.add_mul, Nat.one_mul]
      _ ≤ _ := Nat.mul_le_mul_right _ hy
  obtain ⟨⟨_, hn⟩, ⟨h0, h1⟩, -, -⟩ := auOk_iff.1 ha
  have hi : x * a.accept.length + a.start.toNat < g.vals.length * a.accept.length := by
    calc x * a.accept.length + a.start.toNat < x * a.accept.length + a.accept.length := by omega
      _ = (x + 1) * a.accept.length := by rw [Nat.add_mul, Nat.one_mul]
      _ ≤ _ := Nat.mul_le_mul_right _ hx
  rw [shortLen, if_pos (by rw [Bool.and_eq_true]; exact ⟨by rw [wi_iff]; omega, hd⟩), distTo, if_pos hd, Int.toNat_natCast, Int.toNat_natCast]
  exact spread_dist hfs hN _ hi
end Go.Proofs.YtallglnmeeahiaaGreat
namespace Go.Proofs.YtallglnmeeahiaaGreat
set_option linter.unusedVariables false
set_option linter.unusedSimpArgs false
open Go.ChangeShapes Go.WideShapes Go.ChangeAt Go.RowKit
attribute [local go_sem] ext_cell ext_frozen ext_lt ext_lt1 ext_lt2 ext_lt3 ltn2 ltn3 ltn13 lts1 lts2 lts3
def meetP (D T : List Int) (d M : Int) (i : Nat) : Bool := D.getD i 0 == d && T.getD i 0 == M
def meetL (g : Gr) (a : Au) (x y d : Int) : List Int :=
  if (decide (0 ≤ shortLen g a x y) && wi d 0 (shortLen g a x y)) = true then pickL (meetP (distFrom g a x) (distTo g a y) d (wrap64 (shortLen g a x y - d))) (distFrom g a x).length else []
theorem shortLen_okM {g : Gr} {a : Au} {x y : Int} (h : ¬ shortLen g a x y < 0) : (wi x 0 ((g.vals.length : Int) - 1) = true ∧ wi y 0 ((g.vals.length : Int) - 1) = true) ∧ grOk g = true ∧ auOk a = true := by
  unfold shortLen at h
  split at h
  · rename_i hc
    simp only [Bool.and_eq_true] at hc
    exact ⟨⟨hc.1, hc.2.1⟩, hc.2.2⟩
  · exact absurd (by decide) h
set_option maxHeartbeats 4000000 in
set_option maxRecDepth 100000 in
theorem implMeetingPoints (vg va : Value) (g : Gr) (a : Au) (x y d : Int) (w : World) (hgv : GrV 0 w.heap.size w vg g) (hav : AuV 0 w.heap.size w va a) :
    Calls Tryz.prog 7 #[vg, va, .int .i64 x, .int .i64 y, .int .i64 d] w fun e w' => ∃ v', e = .returned v' ∧ Own w.heap.size w'.heap.size w' 3 cI 1 v' (meetL g a x y d) ∧ Below w.heap.size w w' := by
  obtain ⟨R, hR⟩ : ∃ R, R = meetL g a x y d := ⟨_, rfl⟩
  rw [← hR]
  have hgv0 := hgv
  have hav0 := hav
  obtain ⟨A1, n1, c1, A2, n2, c2, rfl⟩ := hgv.shape
  obtain ⟨A3, n3, c3, A4, n4, c4, rfl⟩ := hav.shape
  have hb0 : Below w.heap.size w ((w.alloc (.cells #[.slice A1 n1 c1, .slice A2 n2 c2] 27)).alloc (.cells #[.int .i64 a.start, .slice A3 n3 c3, .slice A4 n4 c4] 31)) := ((Below.refl _ _).alloc (Nat.le_refl _) _).alloc (by simp) _
  have HGV := Lib.hid hgv0
  have HAV := Lib.hid hav0
  have HRR := Lib.hid hR
  clear hgv hav hgv0 hav0 hR
  go_enter Tryz.func7, Tryz.ntmps7
  go_wp2_with fail
  obtain ⟨W0, hW0⟩ : ∃ W0, W0 = ((w.alloc (.cells #[.slice A1 n1 c1, .slice A2 n2 c2] 27)).alloc (.cells #[.int .i64 a.start, .slice A3 n3 c3, .slice A4 n4 c4] 31)) := ⟨_, rfl⟩
  rw [← hW0] at hb0 ⊢
  have x0 : W0.cell? ⟨w.heap.size, 0, none⟩ = some (.slice A1 n1 c1) := by rw [hW0]; simp
  have x1 : W0.cell? ⟨w.heap.size, 1, none⟩ = some (.slice A2 n2 c2) := by rw [hW0]; simp
  have y0 : W0.cell? ⟨w.heap.size + 1, 0, none⟩ = some (.int .i64 a.start) := by rw [hW0]; simp
  have y1 : W0.cell? ⟨w.heap.size + 1, 1, none⟩ = some (.slice A3 n3 c3) := by rw [hW0]; simp
  have y2 : W0.cell? ⟨w.heap.size + 1, 2, none⟩ = some (.slice A4 n4 c4) := by rw [hW0]; simp
  have hs0 : w.heap.size + 1 + 1 = W0.heap.size := by rw [hW0]; simp
  try rw [hs0]
  have l0 : w.heap.size + 1 < W0.heap.size := by omega
  have l00 : w.heap.size < W0.heap.size := by omega
  clear hW0 hs0
  refine (implShortestLength _ _ g a x y W0 (HGV.out.keep hb0) (HAV.out.keep hb0)).mono ?_
  rintro e w1 ⟨rfl, hb1⟩
  have hb2 := below_trans hb0 hb1
  have x0 := kcell hb1 x0
  have x1 := kcell hb1 x1
  have y0 := kcell hb1 y0
  have y1 := kcell hb1 y1
  have y2 := kcell hb1 y2
  have l0 := Nat.lt_of_lt_of_le l0 hb1.size
  have l00 := Nat.lt_of_lt_of_le l00 hb1.size
  clear hb0 hb1
  have hR := HRR.out
  have hok := shortLen_okM (g := g) (a := a) (x := x) (y := y)
  clear HRR
  rw [meetL] at hR
  generalize shortLen g a x y = n at *
  by_cases hneg : n < 0
  · have k1 : decide (n < 0) = true := by simpa using hneg
    have hr0 : R = [] := by rw [hR, if_neg]; simp; omega
    subst hr0
    clear hneg hR hok
    go_wp2_with fail
    go_ret
    exact ⟨_, rfl, Own.nil _ _ _ _ _ _, hb2⟩
  · have k1 : decide (n < 0) = false := by simpa using hneg
    have hge : decide (0 ≤ n) = true := by simp; omega
    rw [hge, Bool.true_and] at hR
    obtain ⟨⟨hx, hy⟩, hgo, ha⟩ := hok hneg
    have hdl := distFrom_len (g := g) (a := a) (x := x) (by rw [hx, hgo, ha]; rfl)
    have htl := distTo_len (g := g) (a := a) (y := y) (by rw [hy, hgo, ha]; rfl)
    have hN60 := distFrom_le g a x
    have HWI := Lib.hid (fun (W : World) => within_any d 0 n W)
    clear hneg hge hok hx hy hgo ha
    cases hw : wi d 0 n with
    | false =>
      have hr0 : R = [] := by rw [hR, hw]; rfl
      subst hr0
      rw [hw] at HWI
      clear hR hw hdl htl
      go_wp2_with fail
      refine (HWI.out _).mono ?_
      rintro e w2 ⟨rfl, rfl⟩
      go_wp2_with fail
      go_ret
      exact ⟨_, rfl, Own.nil _ _ _ _ _ _, hb2⟩
    | true =>
      rw [hw] at hR HWI
      have hR2 : R = pickL (meetP (distFrom g a x) (distTo g a y) d (wrap64 (n - d))) (distFrom g a x).length := by rw [hR]; rfl
      obtain ⟨M, hM⟩ : ∃ M, M = wrap64 (n - d) := ⟨_, rfl⟩
      rw [← hM] at hR2
      have q1 : IntKind.i64.wrap (n - d) = M := by rw [hM]; exact IntWalk.i64_left _
      have q2 : wrap64 (n - d) = M := hM.symm
      have hlen : (distTo g a y).length = (distFrom g a x).length := by rw [hdl, htl]
      have HDL := Lib.hid hlen
      have HR := Lib.hid hR2
      have Q1 := Lib.hid q1
      have Q2 := Lib.hid q2
      clear hR hR2 hw hdl htl hlen hM q1 q2
      go_wp2_with fail
      refine (HWI.out _).mono ?_
      rintro e w2 ⟨rfl, rfl⟩
      go_wp2_with fail
      refine (implDistancesTo _ _ g a y _ (HGV.out.keep hb2) (HAV.out.keep hb2)).mono ?_
      rintro e w3 ⟨vt, rfl, hoT, hb3⟩
      have hb4 := below_trans hb2 hb3
      have x0 := kcell hb3 x0
      have x1 := kcell hb3 x1
      have y0 := kcell hb3 y0
      have y1 := kcell hb3 y1
      have y2 := kcell hb3 y2
      have l0 := Nat.lt_of_lt_of_le l0 hb3.size
      have l00 := Nat.lt_of_lt_of_le l00 hb3.size
      obtain ⟨A7, c7, rfl, hl7, hm7, -⟩ := hoT.form cI_len
      have HT3 := Lib.hid (hoT.sl cI_len)
      have hs2 := hb2.size
      have hs3 := hb3.size
      clear hoT hb3 hb2
      go_wp2_with fail
      obtain ⟨gO, hgO⟩ : ∃ gO, gO = w3.heap.size := ⟨_, rfl⟩
      obtain ⟨W4, hW4⟩ : ∃ W4, W4 = w3.alloc (.cells #[] 3) := ⟨_, rfl⟩
      have hrow0 : W4.ownsRow gO 3 1 (.slice (some ⟨gO, 0, none⟩) 0 0) ([] : List Int).length (([] : List Int).flatMap cI) := by
        rw [hW4, hgO]
        have h := World.ownsRow_lit (base := w3.heap.size) (e := 3) (size := 1) w3 #[] 0 (by simp) (by decide) rfl
        simpa using h
      have hb5 : Below w3.heap.size w3 W4 := by rw [hW4]; exact (Below.refl _ _).alloc (Nat.le_refl _) _
      have hs4 : gO < W4.heap.size := by rw [hW4, hgO]; simp
      rw [← hW4, ← hgO]
      have HT4 := Lib.hid (HT3.out.below hb5 (Nat.le_refl _))
      rw [← hgO] at HT4
      have hb6 := below_trans hb4 hb5
      have hwg : w.heap.size ≤ gO := by rw [hgO]; exact hb4.size
      have x0 := kcell hb5 x0
      have x1 := kcell hb5 x1
      have y0 := kcell hb5 y0
      have y1 := kcell hb5 y1
      have y2 := kcell hb5 y2
      have HROW0 := Lib.hid hrow0
      clear hrow0 hW4 hgO hb5 hb4 HT3
      refine (implDistancesFrom _ _ g a x W4 (HGV.out.keep hb6) (HAV.out.keep hb6)).mono ?_
      rintro e w5 ⟨vd, rfl, hoD, hb7⟩
      have hb2 := below_trans hb6 hb7
      have hs5 := hb7.size
      have HROW1 := Lib.hid (ownsRow_below HROW0.out hb7 (Nat.le_refl _))
      have HT := Lib.hid (HT4.out.below hb7 (by omega))
      have HC6 := Lib.hid (hoD.sl cI_len)
      obtain ⟨A6, c6, rfl, hl6, hm6, -⟩ := hoD.form cI_len
      clear hoD hb7 hb6 HROW0 x0 x1 y0 y1 y2 HT4
      obtain ⟨P, hP⟩ : ∃ P, P = meetP (distFrom g a x) (distTo g a y) d M := ⟨_, rfl⟩
      have hPi : ∀ i, P i = ((distFrom g a x).getD i 0 == d && (distTo g a y).getD i 0 == M) := fun i => by rw [hP]; rfl
      rw [← hP] at HR
      generalize distFrom g a x = D at *
      generalize distTo g a y = T at *
      have hdl := HDL.out
      rw [hdl] at hl7 ⊢
      obtain ⟨N, hN⟩ : ∃ N, N = D.length := ⟨_, rfl⟩
      rw [← hN] at HR hl6 hl7 hN60 hdl ⊢
      have HP := Lib.hid hPi
      have HN := Lib.hid hN
      have HTL := Lib.hid hdl
      clear hP hPi hN hdl HDL
      go_wp2_with fail
      go_loopw [13, 39] (fun oo ii wr => ∃ i : Nat, i ≤ N ∧ ii = .int .i64 (i : Int) ∧ wr.ownsRow gO 3 1 oo (pickL P i).length ((pickL P i).flatMap cI) ∧ Only gO (gO + 1) w5 wr ∧ (∀ b, oo.ownBlock = some b → b = gO ∨ w5.heap.size ≤ b)) (fun _ ii _ => N - (intOf ii).toNat)
      case atStart => exact ⟨0, Nat.zero_le _, rfl, HROW1.out, Only.refl _ _ _, fun b hb => by cases hb; exact .inl rfl⟩
      case round =>
        clear HROW1
        obtain ⟨i, hi, rfl, hrow, hon, hob⟩ := hrel
        have hsz := hon.size
        have hbw := hb2.trans (hon.below (B := w.heap.size) (by omega) hb2.size)
        have HBW := Lib.hid hbw
        have HROW := Lib.hid hrow
        have HOB := Lib.hid hob
        have HON := Lib.hid hon
        have hfl := pick_len P i
        clear hrow hob hbw hon
        by_cases hlt : i < N
        · have hdi := getD_of (D := D) (k := i) (by have := HN.out; omega)
          have hti := getD_of (D := T) (k := i) (by have := HTL.out; omega)
          obtain ⟨b6, o6, rfl, hb60, hb6, d6⟩ := HC6.out.intI hdi
          obtain ⟨b7, o7, rfl, -, hb7, d7⟩ := HT.out.intI hti
          have d6 := ocell HON.out d6 hb6 (.inr (by omega))
          have d7 := ocell HON.out d7 (by omega) (.inl hb7)
          have hb6w := Nat.lt_of_lt_of_le hb6 hsz
          have hb7w : b7 < wr.heap.size := by omega
          have hii : (i : Int) < (N : Int) := by omega
          have HPI := Lib.hid (HP.out i)
          have HY := Lib.hid (fun h => pick_yes (p := P) (k := i) h)
          have HNo := Lib.hid (fun h => pick_no (p := P) (k := i) h)
          clear hdi hti
          generalize D.getD i 0 = dd at *
          generalize T.getD i 0 = tt at *
          generalize pickL P i = L at *
          have q1 := Q1.out
          have q2 := Q2.out
          cases hd : (dd == d) with
          | true =>
            rw [hd, Bool.true_and] at HPI
            cases ht : (tt == M) with
            | true =>
              have HM := Lib.hid (HY.out (by rw [HPI.out, ht]))
              go_wp2_with (at_builtin; (refine wpList_append1 cI elInt rfl _ _ rfl gO _ L (i : Int) _ 1 _ (by rfl) HROW.out (by rfl) rfl rfl rfl (cI_one _) (by omega) (by omega) (by omega) ?_); intro v' w4 hrow' hb4 hat4 hgr4)
              go_roundw
              case rel =>
                refine ⟨i + 1, by omega, by go_num, by rw [HM.out]; exact hrow', (HON.out.alloc _).grown hgr4 (fun b hb => by have := HOB.out b hb; omega), fun b hb => ?_⟩
                rcases hat4 with h1 | ⟨g1, h1, h2⟩
                · exact HOB.out b (by rw [← h1]; exact hb)
                · rw [h1] at hb
                  injection hb with hb
                  exact .inr (by omega)
              case measure => simp [intOf]; omega
            | false =>
              have HM := Lib.hid (HNo.out (by rw [HPI.out, ht]))
              go_wp2_with fail
              go_roundw
              case rel => exact ⟨i + 1, by omega, by go_num, by rw [HM.out]; exact HROW.out, HON.out, HOB.out⟩
              case measure => simp [intOf]; omega
          | false =>
            have HM := Lib.hid (HNo.out (by rw [HPI.out, hd, Bool.false_and]))
            go_wp2_with fail
            go_roundw
            case rel => exact ⟨i + 1, by omega, by go_num, by rw [HM.out]; exact HROW.out, HON.out, HOB.out⟩
            case measure => simp [intOf]; omega
        · obtain rfl : i = N := by omega
          have hown := Own.of_row (xs := pickL P i) HROW.out rfl rfl
          rw [← HR.out] at hown
          obtain ⟨A9, n9, c9, rfl⟩ := hown.shape
          have HO := Lib.hid (hown.mono (show w.heap.size ≤ gO by omega) (Nat.le_refl _))
          clear hown
          go_wp2_with fail
          go_ret
          exact ⟨_, rfl, HO.out, HBW.out⟩
set_option maxHeartbeats 4000000 in
set_option maxRecDepth 100000 in
theorem specMeetingPoints (vg va : Value) (g : Gr) (a : Au) (x y d : Int) (w : World) (hgv : GrV 0 w.heap.size w vg g) (hav : AuV 0 w.heap.size w va a) :
    Calls Tryz.prog 9 #[vg, va, .int .i64 x, .int .i64 y, .int .i64 d] w fun e w' => ∃ v', e = .returned v' ∧ Own w.heap.size w'.heap.size w' 3 cI 1 v' (meetL g a x y d) ∧ Below w.heap.size w w' := by
  obtain ⟨R, hR⟩ : ∃ R, R = meetL g a x y d := ⟨_, rfl⟩
  rw [← hR]
  have HRR := Lib.hid hR
  clear hR
  have hgv0 := hgv
  have hav0 := hav
  obtain ⟨A1, c1, A2, c2, rfl, hl1, hm1, hl2, hm2, hC1, -⟩ := hgv.form
  obtain ⟨ac, nx, rfl, hac, hnx⟩ := hav
  obtain ⟨A3, c3, rfl, hl3, hm3, -⟩ := SlE.form hac
  obtain ⟨A4, n4, c4, rfl⟩ := hnx.shape
  have hb0 : Below w.heap.size w ((w.alloc (.cells #[.slice A1 g.vals.length c1, .slice A2 g.edges.length c2] 27)).alloc (.cells #[.int .i64 a.start, .slice A3 a.accept.length c3, .slice A4 n4 c4] 31)) := ((Below.refl _ _).alloc (Nat.le_refl _) _).alloc (by simp) _
  have HGV := Lib.hid hgv0
  have HAV := Lib.hid hav0
  have HC1 := Lib.hid hC1
  clear hgv hac hnx hgv0 hav0 hC1
  go_enter Tryz.func9, Tryz.ntmps9
  go_wp2_with fail
  obtain ⟨W0, hW0⟩ : ∃ W0, W0 = ((w.alloc (.cells #[.slice A1 g.vals.length c1, .slice A2 g.edges.length c2] 27)).alloc (.cells #[.int .i64 a.start, .slice A3 a.accept.length c3, .slice A4 n4 c4] 31)).alloc (.cells #[] 3) := ⟨_, rfl⟩
  have hb0 : Below w.heap.size w W0 := by rw [hW0]; exact hb0.alloc hb0.size _
  rw [← hW0]
  have bx : Blk W0 w.heap.size 27 #[.slice A1 g.vals.length c1, .slice A2 g.edges.length c2] := by rw [hW0]; exact ((Blk.new w _ _ w.heap.size rfl).alloc _).alloc _
  have by_ : Blk W0 (w.heap.size + 1) 31 #[.int .i64 a.start, .slice A3 a.accept.length c3, .slice A4 n4 c4] := by rw [hW0]; exact (Blk.new (w.alloc _) _ _ (w.heap.size + 1) (by simp)).alloc _
  have hrow0 : W0.ownsRow (w.heap.size + 1 + 1) 3 1 (.slice (some ⟨w.heap.size + 1 + 1, 0, none⟩) 0 0) ([] : List Int).length (([] : List Int).flatMap cI) := by
    rw [hW0]
    have h := World.ownsRow_lit (base := w.heap.size + 1 + 1) (e := 3) (size := 1) ((w.alloc (.cells #[.slice A1 g.vals.length c1, .slice A2 g.edges.length c2] 27)).alloc (.cells #[.int .i64 a.start, .slice A3 a.accept.length c3, .slice A4 n4 c4] 31)) #[] 0 (by simp) (by decide) rfl
    simpa using h
  have x0 : W0.cell? ⟨w.heap.size, 0, none⟩ = some (.slice A1 g.vals.length c1) := bx.cell 0
  have x1 : W0.cell? ⟨w.heap.size, 1, none⟩ = some (.slice A2 g.edges.length c2) := bx.cell 1
  have y0 : W0.cell? ⟨w.heap.size + 1, 0, none⟩ = some (.int .i64 a.start) := by_.cell 0
  have y1 : W0.cell? ⟨w.heap.size + 1, 1, none⟩ = some (.slice A3 a.accept.length c3) := by_.cell 1
  have y2 : W0.cell? ⟨w.heap.size + 1, 2, none⟩ = some (.slice A4 n4 c4) := by_.cell 2
  have l0 := by_.lt
  have l00 := bx.lt
  have HROW0 := Lib.hid hrow0
  have hsW : W0.heap.size = w.heap.size + 1 + 1 + 1 := by rw [hW0]; simp
  have hsW' : w.heap.size + 1 + 1 < W0.heap.size := by omega
  have HSW := Lib.hid hsW
  clear hW0 bx by_ hrow0 hsW
  refine (specShortestLength _ _ g a x y W0 (HGV.out.keep hb0) (HAV.out.keep hb0)).mono ?_
  rintro e w1 ⟨rfl, hb1⟩
  have hb2 := below_trans hb0 hb1
  have x0 := kcell hb1 x0
  have x1 := kcell hb1 x1
  have y0 := kcell hb1 y0
  have y1 := kcell hb1 y1
  have y2 := kcell hb1 y2
  have l0 := Nat.lt_of_lt_of_le l0 hb1.size
  have l00 := Nat.lt_of_lt_of_le l00 hb1.size
  have HROW1 := Lib.hid (ownsRow_below HROW0.out hb1 (Nat.le_refl _))
  have hs1 := hb1.size
  have hs0 := hb0.size
  clear hb0 hb1 HROW0
  have hR := HRR.out
  have hok := shortLen_okM (g := g) (a := a) (x := x) (y := y)
  clear HRR
  rw [meetL] at hR
  generalize shortLen g a x y = n at *
  by_cases hneg : n < 0
  · have k1 : decide (n < 0) = true := by simpa using hneg
    have hr0 : R = [] := by rw [hR, if_neg]; simp; omega
    subst hr0
    clear hneg hR hok
    go_wp2_with fail
    go_ret
    exact ⟨_, rfl, (Own.of_row (xs := ([] : List Int)) HROW1.out rfl rfl).mono (by omega) (Nat.le_refl _), hb2⟩
  · have k1 : decide (n < 0) = false := by simpa using hneg
    have hge : decide (0 ≤ n) = true := by simp; omega
    rw [hge, Bool.true_and] at hR
    obtain ⟨⟨hx, hy⟩, hgo, ha⟩ := hok hneg
    have hdl := distFrom_len (g := g) (a := a) (x := x) (by rw [hx, hgo, ha]; rfl)
    have htl := distTo_len (g := g) (a := a) (y := y) (by rw [hy, hgo, ha]; rfl)
    have hN60 := distFrom_le g a x
    have HWI := Lib.hid (fun (W : World) => l1In_any d 0 n W)
    rw [wi_iff] at hx hy
    obtain ⟨x, rfl⟩ := Int.eq_ofNat_of_zero_le hx.1
    obtain ⟨y, rfl⟩ := Int.eq_ofNat_of_zero_le hy.1
    have hxl : x < g.vals.length := by omega
    have hyl : y < g.vals.length := by omega
    have HLF := Lib.hid (fun (W : World) (hW : Below w.heap.size w W) => l14Ranks_any _ _ g a x W (HGV.out.keep hW) (HAV.out.keep hW) hgo ha hxl)
    have HLT := Lib.hid (fun (W : World) (hW : Below w.heap.size w W) => l14Back_any _ _ g a y W (HGV.out.keep hW) (HAV.out.keep hW) hgo ha hyl)
    clear hneg hge hok hx hy hgo ha hxl hyl
    cases hw : wi d 0 n with
    | false =>
      have hr0 : R = [] := by rw [hR, hw]; rfl
      subst hr0
      rw [hw] at HWI
      clear hR hw hdl htl
      go_wp2_with fail
      refine (HWI.out _).mono ?_
      rintro e w2 ⟨rfl, rfl⟩
      go_wp2_with fail
      go_ret
      exact ⟨_, rfl, (Own.of_row (xs := ([] : List Int)) HROW1.out rfl rfl).mono (by omega) (Nat.le_refl _), hb2⟩
    | true =>
      rw [hw] at hR HWI
      have hR2 : R = pickL (meetP (distFrom g a (x : Int)) (distTo g a (y : Int)) d (wrap64 (n - d))) (distFrom g a (x : Int)).length := by rw [hR]; rfl
      obtain ⟨M, hM⟩ : ∃ M, M = wrap64 (n - d) := ⟨_, rfl⟩
      rw [← hM] at hR2
      have q1 : IntKind.i64.wrap (n - d) = M := by rw [hM]; exact IntWalk.i64_left _
      have q2 : wrap64 (n - d) = M := hM.symm
      have hlen : (distTo g a (y : Int)).length = (distFrom g a (x : Int)).length := by rw [hdl, htl]
      have HDL := Lib.hid hlen
      have HR := Lib.hid hR2
      have Q1 := Lib.hid q1
      have Q2 := Lib.hid q2
      clear hR hR2 hw hdl htl hlen hM q1 q2
      go_wp2_with fail
      refine (HWI.out _).mono ?_
      rintro e w2 ⟨rfl, rfl⟩
      go_wp2_with fail
      refine (HLF.out _ hb2).mono ?_
      rintro e w3 ⟨vd, rfl, hoD, hb3⟩
      have hb4 := below_trans hb2 hb3
      have x0 := kcell hb3 x0
      have x1 := kcell hb3 x1
      have y0 := kcell hb3 y0
      have y1 := kcell hb3 y1
      have y2 := kcell hb3 y2
      have l0 := Nat.lt_of_lt_of_le l0 hb3.size
      have l00 := Nat.lt_of_lt_of_le l00 hb3.size
      have HROW1 := Lib.hid (ownsRow_below HROW1.out hb3 (Nat.le_refl _))
      obtain ⟨A6, c6, rfl, hl6, hm6, -⟩ := hoD.form cI_len
      have HD3 := Lib.hid (hoD.sl cI_len)
      have hs2 := hb2.size
      have hs3 := hb3.size
      clear hoD hb2
      go_wp2_with fail
      refine (HLT.out _ hb4).mono ?_
      rintro e w5 ⟨vt, rfl, hoT, hb5⟩
      have hb2 := below_trans hb4 hb5
      have hs5 := hb5.size
      have HROW1 := Lib.hid (ownsRow_below HROW1.out hb5 (Nat.le_refl _))
      obtain ⟨A7, c7, rfl, hl7, hm7, -⟩ := hoT.form cI_len
      have HT := Lib.hid (hoT.sl cI_len)
      have HC6 := Lib.hid (HD3.out.below hb5 (Nat.le_refl _))
      obtain ⟨gO, hgO⟩ : ∃ gO, gO = w.heap.size + 1 + 1 := ⟨_, rfl⟩
      rw [← hgO] at HROW1 hsW' ⊢
      have hgw : w.heap.size + 1 < gO := by omega
      clear hoT hb5 hb4 hb3 HD3 x0 x1 y0 y1 y2 hgO HSW HLF HLT l0 l00
      obtain ⟨P, hP⟩ : ∃ P, P = meetP (distFrom g a (x : Int)) (distTo g a (y : Int)) d M := ⟨_, rfl⟩
      have hPi : ∀ i, P i = ((distFrom g a (x : Int)).getD i 0 == d && (distTo g a (y : Int)).getD i 0 == M) := fun i => by rw [hP]; rfl
      rw [← hP] at HR
      generalize distFrom g a (x : Int) = D at *
      generalize distTo g a (y : Int) = T at *
      have hdl := HDL.out
      rw [hdl] at hl7 ⊢
      obtain ⟨N, hN⟩ : ∃ N, N = D.length := ⟨_, rfl⟩
      rw [← hN] at HR hl6 hl7 hN60 hdl ⊢
      have HP := Lib.hid hPi
      have HN := Lib.hid hN
      have HTL := Lib.hid hdl
      clear hP hPi hN hdl HDL
      go_wp2_with fail
      go_loopw [11, 15] (fun oo ii wr => ∃ i : Nat, i ≤ N ∧ ii = .int .i64 (i : Int) ∧ wr.ownsRow gO 3 1 oo (pickL P i).length ((pickL P i).flatMap cI) ∧ Only gO (gO + 1) w5 wr ∧ (∀ b, oo.ownBlock = some b → b = gO ∨ w5.heap.size ≤ b)) (fun _ ii _ => N - (intOf ii).toNat)
      case atStart => exact ⟨0, Nat.zero_le _, rfl, HROW1.out, Only.refl _ _ _, fun b hb => by cases hb; exact .inl rfl⟩
      case round =>
        clear HROW1
        obtain ⟨i, hi, rfl, hrow, hon, hob⟩ := hrel
        have hsz := hon.size
        have hbw := hb2.trans (hon.below (B := w.heap.size) (by omega) hb2.size)
        have HBW := Lib.hid hbw
        have HROW := Lib.hid hrow
        have HOB := Lib.hid hob
        have HON := Lib.hid hon
        have hfl := pick_len P i
        clear hrow hob hbw hon
        by_cases hlt : i < N
        · have hdi := getD_of (D := D) (k := i) (by have := HN.out; omega)
          have hti := getD_of (D := T) (k := i) (by have := HTL.out; omega)
          obtain ⟨b6, o6, rfl, hb60, hb6, d6⟩ := HC6.out.intI hdi
          obtain ⟨b7, o7, rfl, hb70, hb7, d7⟩ := HT.out.intI hti
          have d6 := ocell HON.out d6 (by omega) (.inr (by omega))
          have d7 := ocell HON.out d7 (by omega) (.inr (by omega))
          have hb6w : b6 < wr.heap.size := by omega
          have hb7w : b7 < wr.heap.size := by omega
          have hii : (i : Int) < (N : Int) := by omega
          have HPI := Lib.hid (HP.out i)
          have HY := Lib.hid (fun h => pick_yes (p := P) (k := i) h)
          have HNo := Lib.hid (fun h => pick_no (p := P) (k := i) h)
          clear hdi hti
          generalize D.getD i 0 = dd at *
          generalize T.getD i 0 = tt at *
          generalize pickL P i = L at *
          have q1 := Q1.out
          have q2 := Q2.out
          cases hd : (dd == d) with
          | true =>
            rw [hd, Bool.true_and] at HPI
            cases ht : (tt == M) with
            | true =>
              have HM := Lib.hid (HY.out (by rw [HPI.out, ht]))
              go_wp2_with (at_builtin; (refine wpList_append1 cI elInt rfl _ _ rfl gO _ L (i : Int) _ 1 _ (by rfl) HROW.out (by rfl) rfl rfl rfl (cI_one _) (by omega) (by omega) (by omega) ?_); intro v' w4 hrow' hb4 hat4 hgr4)
              go_roundw
              case rel =>
                refine ⟨i + 1, by omega, by go_num, by rw [HM.out]; exact hrow', (HON.out.alloc _).grown hgr4 (fun b hb => by have := HOB.out b hb; omega), fun b hb => ?_⟩
                rcases hat4 with h1 | ⟨g1, h1, h2⟩
                · exact HOB.out b (by rw [← h1]; exact hb)
                · rw [h1] at hb
                  injection hb with hb
                  exact .inr (by omega)
              case measure => simp [intOf]; omega
            | false =>
              have HM := Lib.hid (HNo.out (by rw [HPI.out, ht]))
              go_wp2_with fail
              go_roundw
              case rel => exact ⟨i + 1, by omega, by go_num, by rw [HM.out]; exact HROW.out, HON.out, HOB.out⟩
              case measure => simp [intOf]; omega
          | false =>
            have HM := Lib.hid (HNo.out (by rw [HPI.out, hd, Bool.false_and]))
            go_wp2_with fail
            go_roundw
            case rel => exact ⟨i + 1, by omega, by go_num, by rw [HM.out]; exact HROW.out, HON.out, HOB.out⟩
            case measure => simp [intOf]; omega
        · obtain rfl : i = N := by omega
          have hown := Own.of_row (xs := pickL P i) HROW.out rfl rfl
          rw [← HR.out] at hown
          obtain ⟨A9, n9, c9, rfl⟩ := hown.shape
          have HO := Lib.hid (hown.mono (show w.heap.size ≤ gO by omega) (Nat.le_refl _))
          clear hown
          go_wp2_with fail
          go_ret
          exact ⟨_, rfl, HO.out, HBW.out⟩
end Go.Proofs.YtallglnmeeahiaaGreat
namespace Go.Proofs.YtallglnmeeahiaaGreat
set_option linter.unusedVariables false
set_option linter.unusedSimpArgs false
open Go.ChangeShapes Go.WideShapes Go.ChangeAt Go.RowKit
theorem spread_from {N : Nat} {next : Nat → List Nat} {fs : List Nat} (hfs : ∀ i ∈ fs, i < N) (hn : ∀ i k, i < N → k ∈ next i → k < N) (i : Nat) (hi : i < N) :
    IsDist (turnL N next) (fun i => i ∈ fs) i ((spreadR N next fs).getD i 0) := by
  refine bfs_dist (N := N) (prev := next) (next := turnL N next) (fun i k _ hk h => mem_turnL.2 ⟨hk, h⟩) (fun i k hk h => hn k i hk h) (fun i k _ h => (mem_turnL.1 h).1) (fun i k _ _ h => (mem_turnL.1 h).2) _ _ _ ?_ (srcD_bfsI hfs).fuel i hi
  refine ⟨srcD_len N fs, fun i hi h0 => ?_, fun i hi hg => ?_, fun k hk h0 hq => ?_, fun h r hq i hi => ?_, ?_, (srcD_bfsI hfs).queue, fun i hi => (srcD_bfsI hfs).low i⟩
  · rw [srcD_at hi] at h0 ⊢
    by_cases h : i ∈ fs
    · rw [if_pos h]; exact h
    · rw [if_neg h] at h0; omega
  · rw [srcD_at hi, if_pos hg]
  · rw [srcD_at hk, if_neg hq] at h0; omega
  · have hm : h ∈ fs := by rw [hq]; simp
    have e1 := srcD_at (fs := fs) (hfs h hm)
    rw [if_pos hm] at e1
    rw [srcD_at hi, e1]
    split <;> omega
  · have : ∀ l : List Nat, (∀ x ∈ l, x ∈ fs) → l.Pairwise (fun a b => (srcD N fs).getD a 0 ≤ (srcD N fs).getD b 0) := by
      intro l
      induction l with
      | nil => intro _; simp
      | cons x l ih =>
        intro hl
        refine List.pairwise_cons.2 ⟨fun y hy => ?_, ih fun z hz => hl z (List.mem_cons_of_mem _ hz)⟩
        have h1 := hl x (by simp)
        have h2 := hl y (List.mem_cons_of_mem _ hy)
        rw [srcD_at (hfs x h1), srcD_at (hfs y h2), if_pos h1, if_pos h2]
        omega
    exact this fs (fun _ h => h)
theorem toG_add {next : Nat → List Nat} {goal : Nat → Prop} (n : Nat) : ∀ (m i : Nat), toG next goal (m + n) i ↔ ∃ k, toG next (fun j => j = k) m i ∧ toG next goal n k
  | 0, i => by
    rw [Nat.zero_add]
    exact ⟨fun h => ⟨i, rfl, h⟩, fun ⟨k, h1, h2⟩ => by cases (show i = k from h1); exact h2⟩
  | m + 1, i => by
    rw [show m + 1 + n = (m + n) + 1 by omega]
    constructor
    · rintro ⟨j, hj, h⟩
      obtain ⟨k, h1, h2⟩ := (toG_add n m j).1 h
      exact ⟨k, ⟨j, hj, h1⟩, h2⟩
    · rintro ⟨k, ⟨j, hj, h1⟩, h2⟩
      exact ⟨j, hj, (toG_add n m j).2 ⟨k, h1, h2⟩⟩
theorem toG_lt {next : Nat → List Nat} {N : Nat} (hn : ∀ i k, i < N → k ∈ next i → k < N) {k : Nat} : ∀ (m i : Nat), i < N → toG next (fun j => j = k) m i → k < N
  | 0, i, hi, h => by cases (show i = k from h); exact hi
  | m + 1, i, hi, ⟨j, hj, h⟩ => toG_lt hn m j (hn i j hi hj) h
theorem toG_turn {next : Nat → List Nat} {N s : Nat} (hn : ∀ i k, i < N → k ∈ next i → k < N) (hs : s < N) : ∀ (m k : Nat), toG (turnL N next) (fun j => j ∈ [s]) m k ↔ toG next (fun j => j = k) m s
  | 0, k => by
    show k ∈ [s] ↔ s = k
    rw [List.mem_singleton]
    exact eq_comm
  | m + 1, k => by
    rw [toG_add 1 m s]
    constructor
    · rintro ⟨j, hj, h⟩
      exact ⟨j, (toG_turn hn hs m j).1 h, k, (mem_turnL.1 hj).2, rfl⟩
    · rintro ⟨j, h1, i, hi, hik⟩
      cases (show i = k from hik)
      exact ⟨j, mem_turnL.2 ⟨toG_lt hn m s hs h1, hi⟩, (toG_turn hn hs m j).2 h1⟩
theorem from_low {N : Nat} {next : Nat → List Nat} {goal : Nat → Prop} {s k : Nat} {df dt d : Int} (hn : ∀ i k, i < N → k ∈ next i → k < N) (hs : s < N) (hf : IsDist (turnL N next) (fun j => j ∈ [s]) k df) (ht : IsDist next goal k dt) (hd : IsDist next goal s d) (h1 : 0 ≤ df) (h2 : 0 ≤ dt) : 0 ≤ d ∧ d ≤ df + dt := by
  rcases hf with ⟨rfl, _⟩ | ⟨-, f1, -⟩
  · omega
  rcases ht with ⟨rfl, _⟩ | ⟨-, t1, -⟩
  · omega
  have hw := (toG_add (goal := goal) dt.toNat df.toNat s).2 ⟨k, (toG_turn hn hs _ _).1 f1, t1⟩
  rcases hd with ⟨rfl, hd⟩ | ⟨d0, d1, d2⟩
  · exact absurd hw (hd _)
  · refine ⟨d0, ?_⟩
    by_cases hlt : df.toNat + dt.toNat < d.toNat
    · exact absurd hw (d2 _ hlt)
    · omega
theorem from_mid {N : Nat} {next : Nat → List Nat} {goal : Nat → Prop} {s : Nat} {d t : Int} {F T : Nat → Int} (hn : ∀ i k, i < N → k ∈ next i → k < N) (hs : s < N) (hf : ∀ k, k < N → IsDist (turnL N next) (fun j => j ∈ [s]) k (F k)) (ht : ∀ k, k < N → IsDist next goal k (T k)) (hd : IsDist next goal s d) (h0 : 0 ≤ t) (htd : t ≤ d) : ∃ k, k < N ∧ F k = t ∧ T k = d - t := by
  rcases hd with ⟨rfl, hd⟩ | ⟨d0, d1, d2⟩
  · omega
  rw [show d.toNat = t.toNat + (d - t).toNat by omega] at d1
  obtain ⟨k, k1, k2⟩ := (toG_add (goal := goal) _ _ s).1 d1
  have hk := toG_lt hn _ s hs k1
  have hF := hf k hk
  have hT := ht k hk
  have hlow := fun a b => from_low hn hs hF hT (.inr ⟨d0, by rw [show d.toNat = t.toNat + (d - t).toNat by omega]; exact d1, d2⟩) a b
  have k1' := (toG_turn hn hs _ _).2 k1
  have e1 : 0 ≤ F k ∧ F k ≤ t := by
    rcases hF with ⟨_, hF⟩ | ⟨f0, f1, f2⟩
    · exact absurd k1' (hF _)
    · refine ⟨f0, ?_⟩
      by_cases hlt : t.toNat < (F k).toNat
      · exact absurd k1' (f2 _ hlt)
      · omega
  have e2 : 0 ≤ T k ∧ T k ≤ d - t := by
    rcases hT with ⟨_, hT⟩ | ⟨f0, f1, f2⟩
    · exact absurd k2 (hT _)
    · refine ⟨f0, ?_⟩
      by_cases hlt : (d - t).toNat < (T k).toNat
      · exact absurd k2 (f2 _ hlt)
      · omega
  have := hlow e1.1 e2.1
  exact ⟨k, hk, by omega, by omega⟩
/-- the least sum of the entries that are no -1, below i -/
def leastF (F T : List Int) : Nat → Int
  | 0 => -1
  | i + 1 => if 0 ≤ F.getD i 0 ∧ 0 ≤ T.getD i 0 ∧ (leastF F T i < 0 ∨ F.getD i 0 + T.getD i 0 < leastF F T i) then F.getD i 0 + T.getD i 0 else leastF F T i
theorem leastF_spec (F T : List Int) : ∀ n, (leastF F T n = -1 ∧ ∀ i, i < n → ¬ (0 ≤ F.getD i 0 ∧ 0 ≤ T.getD i 0)) ∨ (0 ≤ leastF F T n ∧ (∃ i, i < n ∧ 0 ≤ F.getD i 0 ∧ 0 ≤ T.getD i 0 ∧ leastF F T n = F.getD i 0 + T.getD i 0) ∧ ∀ i, i < n → 0 ≤ F.getD i 0 → 0 ≤ T.getD i 0 → leastF F T n ≤ F.getD i 0 + T.getD i 0)
  | 0 => .inl ⟨rfl, fun i hi => absurd hi (Nat.not_lt_zero i)⟩
  | n + 1 => by
    rw [leastF]
    split
    · rename_i h
      refine .inr ⟨by omega, ⟨n, by omega, h.1, h.2.1, rfl⟩, fun i hi h1 h2 => ?_⟩
      rcases Nat.lt_succ_iff_lt_or_eq.1 hi with hi | rfl
      · rcases leastF_spec F T n with ⟨e, h3⟩ | ⟨e, _, h3⟩
        · exact absurd ⟨h1, h2⟩ (h3 i hi)
        · have := h3 i hi h1 h2
          omega
      · exact Int.le_refl _
    · rename_i h
      rcases leastF_spec F T n with ⟨e, h3⟩ | ⟨e, ⟨j, hj, j1, j2, j3⟩, h3⟩
      · refine .inl ⟨e, fun i hi h4 => ?_⟩
        rcases Nat.lt_succ_iff_lt_or_eq.1 hi with hi | rfl
        · exact h3 i hi h4
        · exact h ⟨h4.1, h4.2, .inl (by omega)⟩
      · refine .inr ⟨e, ⟨j, by omega, j1, j2, j3⟩, fun i hi h1 h2 => ?_⟩
        rcases Nat.lt_succ_iff_lt_or_eq.1 hi with hi | rfl
        · exact h3 i hi h1 h2
        · by_cases h5 : F.getD i 0 + T.getD i 0 < leastF F T i
          · exact absurd ⟨h1, h2, .inr h5⟩ h
          · omega
/-- what stands in both lists of distances -/
theorem dists_both {g : Gr} {a : Au} {x y : Int} (h : (wi x 0 ((g.vals.length : Int) - 1) && (wi y 0 ((g.vals.length : Int) - 1) && (grOk g && auOk a))) = true) :
    ∃ (N s : Nat) (next : Nat → List Nat) (goal : Nat → Prop), N = g.vals.length * a.accept.length ∧ s < N ∧ (∀ i k, i < N → k ∈ next i → k < N) ∧ (∀ k, k < N → IsDist (turnL N next) (fun j => j ∈ [s]) k ((distFrom g a x).getD k 0)) ∧ (∀ k, k < N → IsDist next goal k ((distTo g a y).getD k 0)) ∧ IsDist next goal s (shortLen g a x y) ∧ (distFrom g a x).length = N ∧ (distTo g a y).length = N := by
  have h9 := h
  simp only [Bool.and_eq_true] at h
  obtain ⟨hxb, hyb, hgo, ha⟩ := h
  have hxg : (wi x 0 ((g.vals.length : Int) - 1) && (grOk g && auOk a)) = true := by simp only [Bool.and_eq_true]; exact ⟨hxb, hgo, ha⟩
  have hyg : (wi y 0 ((g.vals.length : Int) - 1) && (grOk g && auOk a)) = true := by simp only [Bool.and_eq_true]; exact ⟨hyb, hgo, ha⟩
  rw [wi_iff] at hxb hyb
  obtain ⟨x, rfl⟩ := Int.eq_ofNat_of_zero_le hxb.1
  obtain ⟨y, rfl⟩ := Int.eq_ofNat_of_zero_le hyb.1
  have hx : x < g.vals.length := by omega
  have hy : y < g.vals.length := by omega
  have hN : ∀ i k, i < g.vals.length * a.accept.length → k ∈ nextI g a i → k < g.vals.length * a.accept.length := fun i k _ hk => nextV_lt (grOk_iff.1 hgo) ha hk
  have hfs : ∀ i ∈ goalsL g a y, i < g.vals.length * a.accept.length := fun i hi => by
    obtain ⟨s, hs, _, rfl⟩ := mem_goalsL.1 hi
    calc y * a.accept.length + s < y * a.accept.length + a.accept.length := by omega
      _ = (y + 1) * a.accept.length := by rw [Nat.add_mul, Nat.one_mul]
      _ ≤ _ := Nat.mul_le_mul_right _ hy
  obtain ⟨⟨_, hn⟩, ⟨h0, h1⟩, -, -⟩ := auOk_iff.1 ha
  have hi : x * a.accept.length + a.start.toNat < g.vals.length * a.accept.length := by
    calc x * a.accept.length + a.start.toNat < x * a.accept.length + a.accept.length := by omega
      _ = (x + 1) * a.accept.length := by rw [Nat.add_mul, Nat.one_mul]
      _ ≤ _ := Nat.mul_le_mul_right _ hx
  refine ⟨g.vals.length * a.accept.length, x * a.accept.length + a.start.toNat, nextI g a, fun i => i ∈ goalsL g a y, rfl, hi, hN, fun k hk => ?_, fun k hk => ?_, shortLen_dist hgo ha hx hy, distFrom_len hxg, distTo_len hyg⟩
  · rw [distFrom, if_pos hxg, Int.toNat_natCast]
    exact spread_from (fun i hi' => by rw [List.mem_singleton] at hi'; subst hi'; exact hi) hN k hk
  · rw [distTo, if_pos hyg, Int.toNat_natCast]
    exact spread_dist hfs hN k hk
/-- the law's loop runs only over lists of one length -/
def leastL (g : Gr) (a : Au) (x y : Int) : Int := if (distTo g a y).length = (distFrom g a x).length then leastF (distFrom g a x) (distTo g a y) (distFrom g a x).length else -1
theorem least_short (g : Gr) (a : Au) (x y : Int) : leastL g a x y = shortLen g a x y := by
  cases h : (wi x 0 ((g.vals.length : Int) - 1) && (wi y 0 ((g.vals.length : Int) - 1) && (grOk g && auOk a))) with
  | false =>
    rw [shortLen, h, if_neg (by simp), leastL]
    split
    · rename_i he
      have hx : (distFrom g a x) = [] := by
        cases hx : (wi x 0 ((g.vals.length : Int) - 1) && (grOk g && auOk a)) with
        | false => rw [distFrom, hx]; rfl
        | true =>
          exfalso
          cases hy : (wi y 0 ((g.vals.length : Int) - 1) && (grOk g && auOk a)) with
          | true =>
            simp only [Bool.and_eq_true] at hx hy
            simp [hx.1, hx.2.1, hx.2.2, hy.1] at h
          | false =>
            rw [distFrom_len hx, distTo, hy] at he
            simp only [Bool.and_eq_true] at hx
            have h1 := (grOk_iff.1 hx.2.1).n1
            have h2 := (auOk_iff.1 hx.2.2).1.1
            have := Nat.mul_pos h1 h2
            simp at he
            omega
      rw [hx]
      rfl
    · rfl
  | true =>
    obtain ⟨N, s, next, goal, -, hs, hn, hF, hT, hd, hl1, hl2⟩ := dists_both h
    rw [leastL, if_pos (hl2.trans hl1.symm), hl1]
    have hup : ∀ k, k < N → 0 ≤ (distFrom g a x).getD k 0 → 0 ≤ (distTo g a y).getD k 0 → 0 ≤ shortLen g a x y ∧ shortLen g a x y ≤ (distFrom g a x).getD k 0 + (distTo g a y).getD k 0 := fun k hk h1 h2 => from_low hn hs (hF k hk) (hT k hk) hd h1 h2
    rcases leastF_spec (distFrom g a x) (distTo g a y) N with ⟨e, h3⟩ | ⟨e, ⟨j, hj, j1, j2, j3⟩, h3⟩
    · rw [e]
      rcases hd with ⟨rd, _⟩ | ⟨d0, d1, d2⟩
      · exact rd.symm
      · exfalso
        obtain ⟨k, hk, k1, k2⟩ := from_mid (t := 0) hn hs hF hT (.inr ⟨d0, d1, d2⟩) (Int.le_refl _) d0
        exact h3 k hk ⟨by omega, by omega⟩
    · have h4 := hup j hj j1 j2
      obtain ⟨k, hk, k1, k2⟩ := from_mid (t := 0) hn hs hF hT hd (Int.le_refl _) h4.1
      have := h3 k hk (by omega) (by omega)
      omega
theorem wrap_in {z : Int} (h1 : -1 ≤ z) (h2 : z ≤ 1000) : wrap64 z = z := IntWalk.wrap64_in z ⟨by omega, by omega⟩
theorem shortLen_bd (g : Gr) (a : Au) (x y : Int) : -1 ≤ shortLen g a x y ∧ shortLen g a x y ≤ 60 := by
  cases h : (wi x 0 ((g.vals.length : Int) - 1) && (wi y 0 ((g.vals.length : Int) - 1) && (grOk g && auOk a))) with
  | false => rw [shortLen, h, if_neg (by simp)]; omega
  | true =>
    obtain ⟨N, s, next, goal, hN, hs, hn, hF, hT, hd, hl1, hl2⟩ := dists_both h
    have h1 := dist_lt hn hs hd
    have h2 := distFrom_le g a x
    rcases hd with ⟨rd, _⟩ | ⟨d0, d1, d2⟩ <;> omega
theorem meet_some (g : Gr) (a : Au) (x y t : Int) : 0 < (meetL g a x y t).length ↔ 0 ≤ shortLen g a x y ∧ 0 ≤ t ∧ t ≤ shortLen g a x y := by
  unfold meetL
  split
  · rename_i h
    rw [Bool.and_eq_true, decide_eq_true_eq, wi_iff] at h
    refine ⟨fun _ => ⟨h.1, h.2⟩, fun _ => ?_⟩
    have hok := shortLen_okM (show ¬ shortLen g a x y < 0 by omega)
    obtain ⟨N, s, next, goal, -, hs, hn, hF, hT, hd, hl1, hl2⟩ := dists_both (g := g) (a := a) (x := x) (y := y) (by simp only [Bool.and_eq_true]; exact ⟨hok.1.1, hok.1.2, hok.2⟩)
    obtain ⟨k, hk, k1, k2⟩ := from_mid (t := t) hn hs hF hT hd h.2.1 h.2.2
    have hlt := shortLen_bd g a x y
    have hm : (k : Int) ∈ pickL (meetP (distFrom g a x) (distTo g a y) t (wrap64 (shortLen g a x y - t))) (distFrom g a x).length := by
      unfold pickL
      refine List.mem_map.2 ⟨k, List.mem_filter.2 ⟨List.mem_range.2 (by omega), ?_⟩, rfl⟩
      rw [meetP, k1, k2, wrap_in (by omega) (by omega)]
      simp
    exact List.length_pos_of_mem hm
  · rename_i h
    constructor
    · intro h2
      exact absurd h2 (Nat.lt_irrefl 0)
    · rintro ⟨h1, h2⟩
      exfalso
      apply h
      rw [Bool.and_eq_true, decide_eq_true_eq, wi_iff]
      exact ⟨h1, h2⟩
theorem dist_bound (g : Gr) (a : Au) (x : Int) (k : Nat) : -1 ≤ (distFrom g a x).getD k 0 ∧ (distFrom g a x).getD k 0 ≤ 60 := by
  by_cases hk : k < (distFrom g a x).length
  · cases h : (wi x 0 ((g.vals.length : Int) - 1) && (grOk g && auOk a)) with
    | false => rw [distFrom, h] at hk; exact absurd hk (Nat.not_lt_zero k)
    | true =>
      obtain ⟨N, s, next, goal, -, hs, hn, hF, hT, hd, hl1, hl2⟩ := dists_both (g := g) (a := a) (x := x) (y := x) (by
        simp only [Bool.and_eq_true] at h ⊢
        exact ⟨h.1, h.1, h.2⟩)
      have h1 := dist_lt (fun i k _ hk => (mem_turnL.1 hk).1) (by omega) (hF k (by omega))
      have h2 := distFrom_le g a x
      rcases hF k (by omega) with ⟨rd, _⟩ | ⟨d0, d1, d2⟩ <;> omega
  · rw [List.getD_eq_getElem?_getD, List.getElem?_eq_none (by omega)]
    decide
theorem distTo_bound (g : Gr) (a : Au) (y : Int) (k : Nat) : -1 ≤ (distTo g a y).getD k 0 ∧ (distTo g a y).getD k 0 ≤ 60 := by
  by_cases hk : k < (distTo g a y).length
  · cases h : (wi y 0 ((g.vals.length : Int) - 1) && (grOk g && auOk a)) with
    | false => rw [distTo, h] at hk; exact absurd hk (Nat.not_lt_zero k)
    | true =>
      obtain ⟨N, s, next, goal, -, hs, hn, hF, hT, hd, hl1, hl2⟩ := dists_both (g := g) (a := a) (x := y) (y := y) (by
        simp only [Bool.and_eq_true] at h ⊢
        exact ⟨h.1, h.1, h.2⟩)
      have h1 := dist_lt hn (by omega) (hT k (by omega))
      have h2 := distFrom_le g a y
      rcases hT k (by omega) with ⟨rd, _⟩ | ⟨d0, d1, d2⟩ <;> omega
  · rw [List.getD_eq_getElem?_getD, List.getElem?_eq_none (by omega)]
    decide
end Go.Proofs.YtallglnmeeahiaaGreat
namespace Go.Proofs.YtallglnmeeahiaaGreat
set_option linter.unusedVariables false
set_option linter.unusedSimpArgs false
open Go.RowKit
/-- the only one that may come up: an operation below n whose guard is met -/
theorem F_oneH {P : Program} {ops : Array Oper} {Q : Exit → Act → World → Prop} {md : Region.Mode} {S : World → Prop} {n : Nat} {i : Nat} {oi : Oper} {f : Nat} {listed : Array Bool} {a : Act} {w : World} (hr : Region.ready md ops listed = [i]) (hi : ops[i]? = some oi) (hw : Region.wanted oi (yielded ops a.tmps) = true) (hin : i < n) (inv : HeadInv md ops n listed)
    (h : ∀ K : Act → World → Prop, Shut (∀ a' w', S w' → (S w' → HeadInv md ops n (listed.setIfInBounds i true) → wpAnyF P md ops Q S n f (listed.setIfInBounds i true) a' w') → K a' w') → Oper.wp P oi a w K Q) : wpAnyF P md ops Q S n (f + 1) listed a w := by
  refine ⟨fun h0 => (by rw [hr] at h0; cases h0), fun j hj => ?_⟩
  have hj2 := hj
  rw [hr] at hj2
  obtain rfl : j = i := by simpa using hj2
  unfold wpOp
  simp only [hi, hw, if_true]
  exact .inl (h _ (fun a' w' hS hF => ⟨fun _ => hS, hF hS (inv.set hj hin)⟩))
end Go.Proofs.YtallglnmeeahiaaGreat
namespace Go.Proofs.YtallglnmeeahiaaGreat
set_option linter.unusedVariables false
set_option linter.unusedSimpArgs false
end Go.Proofs.YtallglnmeeahiaaGreat
namespace Go.Proofs.YtallglnmeeahiaaGreat
set_option linter.unusedVariables false
set_option linter.unusedSimpArgs false
theorem seat_mayEnter : Tryz.pinned.checked.prog.mayEnter = true := by kernel_rfl
theorem seat_lifts : Tryz.pinned.checked.prog.liftsFinal = false := by kernel_rfl
theorem seat_laidOut : laidOutB Tryz.pinned.checked.prog = true := by kernel_rfl
theorem seat_mapsRowed : mapsRowed Tryz.pinned.checked.prog = true := by kernel_rfl
end Go.Proofs.YtallglnmeeahiaaGreat
