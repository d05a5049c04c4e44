/- Parts of the proof, joined into one text: AwS, Rec, Seat. -/
import Derived.Test.YtpbfdmfkmbdpkaaGreatPartGOFBHPKK
import Derived.Test.YtpbfdmfkmbdpkaaGreatPartJJDOAKLA
import Derived.JoinedOf
import Derived.Test.YtpbfdmfkmbdpkaaGreatRows
/- The reference's AllWitnesses. -/
namespace Go.Proofs.YtpbfdmfkmbdpkaaGreat
set_option linter.unusedVariables false
set_option linter.unusedSimpArgs false
open Go.ChangeShapes Go.WideShapes Go.ChangeAt Go.RowKit
attribute [local go_sem] ext_cell ext_frozen ext_lt ext_lt1 ext_lt2 ext_lt3 ltn2 ltn3 ltn13 lts1 lts2 lts3

theorem prAtAwS {lo hi : Nat} {w : World} {A : Option Addr} {n c : Nat} {xs : List Pr} (h : SlI lo hi w cPr 2 (.slice A n c) xs) {i : Nat} {x : Pr} (hx : xs[i]? = some x) : ∃ b o, A = some ⟨b, o, none⟩ ∧ b < hi ∧ w.cell? ⟨b, o + i * 2, none⟩ = some (.int .i64 x.1) ∧ w.cell? ⟨b, o + i * 2 + 1, none⟩ = some (.int .i64 x.2) := by
  obtain ⟨A', c', hv, _, _, h3⟩ := h
  simp only [Value.slice.injEq] at hv
  obtain ⟨b', o', hA, g1, g2, hc⟩ := h3 i x hx
  exact ⟨b', o', hv.1.trans hA, g2, by simpa using hc 0 _ rfl, hc 1 _ rfl⟩
set_option maxHeartbeats 8000000 in
set_option maxRecDepth 100000 in
theorem specAllWitnesses (vg va : Value) (g : Gr) (a : Au) (w : World) (hgv : GrV 0 w.heap.size w vg g) (hav : AuV 0 w.heap.size w va a) :
    Calls Tryz.prog 7 #[vg, va] w fun e w' => ∃ v', e = .returned v' ∧ NWO w.heap.size w'.heap.size w' v' (allW g a) ∧ Below w.heap.size w w' := by
  have hgv0 := hgv
  have hav0 := hav
  obtain ⟨A1, n1, c1, A2, n2, c2, rfl⟩ := hgv.shape
  obtain ⟨A3, n3, c3, A4, n4, c4, rfl⟩ := hav.shape
  have hb0 : Below w.heap.size w ((w.alloc (.cells #[.slice A1 n1 c1, .slice A2 n2 c2] 36)).alloc (.cells #[.int .i64 a.start, .slice A3 n3 c3, .slice A4 n4 c4] 38)) := ((Below.refl _ _).alloc (Nat.le_refl _) _).alloc (by simp) _
  have hbG := ((Blk.new w 36 #[.slice A1 n1 c1, .slice A2 n2 c2] w.heap.size rfl).alloc (.cells #[.int .i64 a.start, .slice A3 n3 c3, .slice A4 n4 c4] 38))
  have hbA := (Blk.new (w.alloc (.cells #[.slice A1 n1 c1, .slice A2 n2 c2] 36)) 38 #[.int .i64 a.start, .slice A3 n3 c3, .slice A4 n4 c4] (w.heap.size + 1) (by simp))
  have HBG := Lib.hid hbG
  have HBA := Lib.hid hbA
  have HGV := Lib.hid hgv0
  have HAV := Lib.hid hav0
  have HB0 := Lib.hid hb0

  clear hgv hav hgv0 hav0 hb0 hbG hbA
  have HBE := Lib.hid (HB0.out.alloc HB0.out.size (.cells #[] 59))
  have HG1 := Lib.hid (HBG.out.alloc (.cells #[] 59))
  have HA1 := Lib.hid (HBA.out.alloc (.cells #[] 59))
  have HR0 := Lib.hid (show (((w.alloc (.cells #[.slice A1 n1 c1, .slice A2 n2 c2] 36)).alloc (.cells #[.int .i64 a.start, .slice A3 n3 c3, .slice A4 n4 c4] 38)).alloc (.cells #[] 59)).ownsRow (w.heap.size + 1 + 1) 59 2 (.slice (some ⟨w.heap.size + 1 + 1, 0, none⟩) 0 0) 0 [] from by
    have h := World.ownsRow_lit (base := w.heap.size + 1 + 1) (e := 59) (size := 2) ((w.alloc (.cells #[.slice A1 n1 c1, .slice A2 n2 c2] 36)).alloc (.cells #[.int .i64 a.start, .slice A3 n3 c3, .slice A4 n4 c4] 38)) #[] 0 (by simp) (by decide) rfl
    simpa using h)
  have hAA := fun (W : World) (hW : Below w.heap.size w W) => specAllAnswers _ _ g a W (HGV.out.keep hW) (HAV.out.keep hW)
  have HLW := Lib.hid (fun (x y : Int) (W : World) (hW : Below w.heap.size w W) => specLeastWitness _ _ g a x y W (HGV.out.keep hW) (HAV.out.keep hW))
  have hal := allL_len g a
  obtain ⟨LL, hLL⟩ : ∃ LL, LL = allL g a := ⟨_, rfl⟩
  have HFIN := Lib.hid (show awTo g a LL.length = allW g a from by rw [hLL]; exact awTo_all g a)
  have HSUC := Lib.hid (fun i p (h : LL[i]? = some p) => awTo_succ (g := g) (a := a) (by rw [← hLL]; exact h))
  have HLEN := Lib.hid (fun i (h : i ≤ LL.length) => awTo_len (g := g) (a := a) (i := i) (by rw [← hLL]; exact h))
  rw [← hLL] at hAA hal
  have HAA := Lib.hid hAA
  clear hLL hAA
  go_enter Tryz.func7, Tryz.ntmps7
  go_wp2_with fail
  refine (HAA.out _ HBE.out).mono ?_
  rintro e w2 ⟨v2, rfl, ho2, hb2⟩
  obtain ⟨A6, n6, c6, rfl⟩ := ho2.shape
  have hn6 : n6 = LL.length := by
    obtain ⟨_, _, he, -⟩ := ho2.sl cPr_len
    injection he
  subst hn6
  have HSL2 := Lib.hid (ho2.sl cPr_len)
  have HB2 := Lib.hid (below_trans HBE.out hb2)
  have HG2 := Lib.hid (HG1.out.keep hb2)
  have HA2 := Lib.hid (HA1.out.keep hb2)
  have HR2 := Lib.hid (ownsRow_block HR0.out fun b hb => hb2.block b (HR0.out.lt b hb).2)
  have hs2 := hb2.size
  have hsE : w.heap.size + 1 + 1 < (((w.alloc (.cells #[.slice A1 n1 c1, .slice A2 n2 c2] 36)).alloc (.cells #[.int .i64 a.start, .slice A3 n3 c3, .slice A4 n4 c4] 38)).alloc (.cells #[] 59)).heap.size := by simp
  have hsW : w.heap.size ≤ w2.heap.size := by omega
  have hsB : w.heap.size + 1 + 1 < w2.heap.size := by omega
  have HSLO := Lib.hid (fun (W : World) (ho : Only (w.heap.size + 1 + 1) (w.heap.size + 1 + 1 + 1) w2 W) => HSL2.out.only ho (Nat.le_refl _) (.inr (by omega)))
  clear ho2 hb2 hs2 hsE
  go_wp2_with fail
  go_loopw [5, 7] (fun oo ii wr => ∃ (i : Nat) (zs : List (Int × Value)), i ≤ LL.length ∧ ii = .int .i64 (i : Int) ∧ NW (w.heap.size + 1 + 1) wr oo zs (awTo g a i) ∧ (∀ b ∈ blks (oo :: snds zs), b = w.heap.size + 1 + 1 ∨ w2.heap.size ≤ b) ∧ Only (w.heap.size + 1 + 1) (w.heap.size + 1 + 1 + 1) w2 wr) (fun _ ii _ => LL.length - (intOf ii).toNat)
  case atStart => exact ⟨0, [], Nat.zero_le _, rfl, NW.start HR2.out, by intro b hb; simp [blks, Value.ownBlock] at hb; exact .inl hb, Only.refl _ _ _⟩
  case round =>
    obtain ⟨i, zs, hi, rfl, hns, hbk, hon⟩ := hrel
    have hszr := hon.size
    have hzl := hns.len
    rw [HLEN.out i hi] at hzl
    have HBW := Lib.hid (HB2.out.trans (hon.below (show w.heap.size ≤ w.heap.size + 1 + 1 by omega) hsW))
    have HNSW := Lib.hid hns
    have HBK := Lib.hid hbk
    have HON := Lib.hid hon
    by_cases hlt : i < LL.length
    · have hnm : (i : Int) < (LL.length : Int) := by omega
      have hpi : LL[i]? = some LL[i] := List.getElem?_eq_getElem hlt
      have hsuc := HSUC.out i _ hpi
      have hsl := HSLO.out _ hon
      obtain ⟨b6, o6, rfl, hb6, p0, p1⟩ := prAtAwS hsl hpi
      have hb6w : b6 < wr.heap.size := by omega
      generalize LL[i] = p at hsuc p0 p1
      obtain ⟨px, py⟩ := p
      simp only at hsuc p0 p1
      have hkl := lstShort_len g a px py
      have HNN := Lib.hid (HLW.out px py)
      obtain ⟨R, hR⟩ : ∃ R, R = lstShort g a px py := ⟨_, rfl⟩
      rw [← hR] at hsuc hkl HNN
      have HLS := Lib.hid hsuc
      have hbG := HG2.out.only hon (.inl (by omega))
      have hbA := HA2.out.only hon (.inl (by omega))
      have x0 : wr.cell? ⟨w.heap.size, 0, none⟩ = some (.slice A1 n1 c1) := (hbG).cell 0
      have x1 : wr.cell? ⟨w.heap.size, 1, none⟩ = some (.slice A2 n2 c2) := (hbG).cell 1
      have y0 : wr.cell? ⟨w.heap.size + 1, 0, none⟩ = some (.int .i64 a.start) := (hbA).cell 0
      have y1 : wr.cell? ⟨w.heap.size + 1, 1, none⟩ = some (.slice A3 n3 c3) := (hbA).cell 1
      have y2 : wr.cell? ⟨w.heap.size + 1, 2, none⟩ = some (.slice A4 n4 c4) := (hbA).cell 2
      have hz50 : zs.length ≤ 150 := by omega
      have lw0 := hbG.lt
      have lw1 := hbA.lt
      clear hR hsuc hsl hpi hns hbk hon hbG hbA
      have hdr := (Below.refl wr.heap.size wr).drew
      go_upto_region 6 with fail
      go_cut [8, 9] (fun pp cc wx => ∃ (b lo hi : Nat) (A : Option Addr) (n k : Nat), pp = .pointer (some ⟨b, 0, none⟩) ∧ cc = (.bool R.2) ∧ Blk wx b 59 #[.int .i64 R.1.1, .slice A n k] ∧ Own lo hi wx 86 cSt 2 (.slice A n k) R.1.2 ∧ (b < lo ∨ hi ≤ b) ∧ wr.heap.size ≤ b ∧ wr.heap.size ≤ lo ∧ hi ≤ wx.heap.size ∧ Below wr.heap.size wr wx)
      case first =>
        refine F_start 18 (fun w' => w'.cell? ⟨w.heap.size, 0, none⟩ = some (.slice A1 n1 c1) ∧ w'.cell? ⟨w.heap.size, 1, none⟩ = some (.slice A2 n2 c2) ∧ w'.cell? ⟨w.heap.size + 1, 0, none⟩ = some (.int .i64 a.start) ∧ w'.cell? ⟨w.heap.size + 1, 1, none⟩ = some (.slice A3 n3 c3) ∧ w'.cell? ⟨w.heap.size + 1, 2, none⟩ = some (.slice A4 n4 c4) ∧ w'.cell? ⟨b6, o6 + i * 2, none⟩ = some (.int .i64 px) ∧ w'.cell? ⟨b6, o6 + i * 2 + 1, none⟩ = some (.int .i64 py)) (by kernel_rfl) (by exact ⟨x0, x1, y0, y1, y2, p0, p1⟩) (fun hS inv => ?_)
        refine F_take (i := 0) (v := ?_) rfl (by kernel_rfl) (by kernel_rfl) (by kernel_rfl) (fun _ _ _ h => h) inv (Or.inl ⟨by rfl, ?_⟩) (by assumption) (fun invn => ?_)
        rotate_left
        · (intro w hSw; (try dsimp only at hSw); go_simp; try with_reducible rfl)
        try simp only [List.getElem_toArray, List.getElem_cons_zero, List.getElem_cons_succ, Act.put, List.setIfInBounds_toArray, List.set_cons_zero, List.set_cons_succ]
        clear inv
        have inv := invn
        clear invn
        refine F_take (i := 1) (v := ?_) rfl (by kernel_rfl) (by kernel_rfl) (by kernel_rfl) (fun _ _ _ h => h) inv (Or.inl ⟨by rfl, ?_⟩) (by assumption) (fun invn => ?_)
        rotate_left
        · (intro w hSw; (try dsimp only at hSw); go_simp; try with_reducible rfl)
        try simp only [List.getElem_toArray, List.getElem_cons_zero, List.getElem_cons_succ, Act.put, List.setIfInBounds_toArray, List.set_cons_zero, List.set_cons_succ]
        clear inv
        have inv := invn
        clear invn
        refine F_take (i := 2) (v := ?_) rfl (by kernel_rfl) (by kernel_rfl) (by kernel_rfl) (fun _ _ _ h => h) inv (Or.inl ⟨by rfl, ?_⟩) (by assumption) (fun invn => ?_)
        rotate_left
        · (intro w hSw; (try dsimp only at hSw); go_simp; try with_reducible rfl)
        try simp only [List.getElem_toArray, List.getElem_cons_zero, List.getElem_cons_succ, Act.put, List.setIfInBounds_toArray, List.set_cons_zero, List.set_cons_succ]
        clear inv
        have inv := invn
        clear invn
        refine F_take (i := 3) (v := ?_) rfl (by kernel_rfl) (by kernel_rfl) (by kernel_rfl) (fun _ _ _ h => h) inv (Or.inl ⟨by rfl, ?_⟩) (by assumption) (fun invn => ?_)
        rotate_left
        · (intro w hSw; (try dsimp only at hSw); go_simp; try with_reducible rfl)
        try simp only [List.getElem_toArray, List.getElem_cons_zero, List.getElem_cons_succ, Act.put, List.setIfInBounds_toArray, List.set_cons_zero, List.set_cons_succ]
        clear inv
        have inv := invn
        clear invn
        refine F_take (i := 4) (v := ?_) rfl (by kernel_rfl) (by kernel_rfl) (by kernel_rfl) (fun _ _ _ h => h) inv (Or.inl ⟨by rfl, ?_⟩) (by assumption) (fun invn => ?_)
        rotate_left
        · (intro w hSw; (try dsimp only at hSw); go_simp; try with_reducible rfl)
        try simp only [List.getElem_toArray, List.getElem_cons_zero, List.getElem_cons_succ, Act.put, List.setIfInBounds_toArray, List.set_cons_zero, List.set_cons_succ]
        clear inv
        have inv := invn
        clear invn
        refine F_take (i := 5) (v := ?_) rfl (by kernel_rfl) (by kernel_rfl) (by kernel_rfl) (fun _ _ _ h => h) inv (Or.inl ⟨by rfl, ?_⟩) (by assumption) (fun invn => ?_)
        rotate_left
        · (intro w hSw; (try dsimp only at hSw); go_simp; try with_reducible rfl)
        try simp only [List.getElem_toArray, List.getElem_cons_zero, List.getElem_cons_succ, Act.put, List.setIfInBounds_toArray, List.set_cons_zero, List.set_cons_succ]
        clear inv
        have inv := invn
        clear invn
        refine F_take (i := 6) (v := ?_) rfl (by kernel_rfl) (by kernel_rfl) (by kernel_rfl) (fun _ _ _ h => h) inv (Or.inl ⟨by rfl, ?_⟩) (by assumption) (fun invn => ?_)
        rotate_left
        · (intro w hSw; (try dsimp only at hSw); go_simp; try with_reducible rfl)
        try simp only [List.getElem_toArray, List.getElem_cons_zero, List.getElem_cons_succ, Act.put, List.setIfInBounds_toArray, List.set_cons_zero, List.set_cons_succ]
        clear inv
        have inv := invn
        clear invn
        refine F_take (i := 7) (v := ?_) rfl (by kernel_rfl) (by kernel_rfl) (by kernel_rfl) (fun _ _ _ h => h) inv (Or.inl ⟨by rfl, ?_⟩) (by assumption) (fun invn => ?_)
        rotate_left
        · (intro w hSw; (try dsimp only at hSw); go_simp; try with_reducible rfl)
        try simp only [List.getElem_toArray, List.getElem_cons_zero, List.getElem_cons_succ, Act.put, List.setIfInBounds_toArray, List.set_cons_zero, List.set_cons_succ]
        clear inv
        have inv := invn
        clear invn
        refine F_take (i := 8) (v := ?_) rfl (by kernel_rfl) (by kernel_rfl) (by kernel_rfl) (fun _ _ _ h => h) inv (Or.inl ⟨by rfl, ?_⟩) (by assumption) (fun invn => ?_)
        rotate_left
        · (intro w hSw; (try dsimp only at hSw); go_simp; try with_reducible rfl)
        try simp only [List.getElem_toArray, List.getElem_cons_zero, List.getElem_cons_succ, Act.put, List.setIfInBounds_toArray, List.set_cons_zero, List.set_cons_succ]
        clear inv
        have inv := invn
        clear invn
        refine F_take (i := 9) (v := ?_) rfl (by kernel_rfl) (by kernel_rfl) (by kernel_rfl) (fun _ _ _ h => h) inv (Or.inl ⟨by rfl, ?_⟩) (by assumption) (fun invn => ?_)
        rotate_left
        · (intro w hSw; (try dsimp only at hSw); go_simp; try with_reducible rfl)
        try simp only [List.getElem_toArray, List.getElem_cons_zero, List.getElem_cons_succ, Act.put, List.setIfInBounds_toArray, List.set_cons_zero, List.set_cons_succ]
        clear inv
        have inv := invn
        clear invn
        refine F_take (i := 10) (v := ?_) rfl (by kernel_rfl) (by kernel_rfl) (by kernel_rfl) (fun _ _ _ h => h) inv (Or.inl ⟨by rfl, ?_⟩) (by assumption) (fun invn => ?_)
        rotate_left
        · (intro w hSw; (try dsimp only at hSw); go_simp; try with_reducible rfl)
        try simp only [List.getElem_toArray, List.getElem_cons_zero, List.getElem_cons_succ, Act.put, List.setIfInBounds_toArray, List.set_cons_zero, List.set_cons_succ]
        clear inv
        have inv := invn
        clear invn
        refine F_take (i := 11) (v := ?_) rfl (by kernel_rfl) (by kernel_rfl) (by kernel_rfl) (fun _ _ _ h => h) inv (Or.inl ⟨by rfl, ?_⟩) (by assumption) (fun invn => ?_)
        rotate_left
        · (intro w hSw; (try dsimp only at hSw); go_simp; try with_reducible rfl)
        try simp only [List.getElem_toArray, List.getElem_cons_zero, List.getElem_cons_succ, Act.put, List.setIfInBounds_toArray, List.set_cons_zero, List.set_cons_succ]
        clear inv
        have inv := invn
        clear invn
        refine F_two (i := 12) (j := 16) (by kernel_rfl) rfl rfl rfl rfl (by omega) inv (fun K hK => ?_) (fun K hK => ?_)
        all_goals (try simp only [List.getElem_toArray, List.getElem_cons_zero, List.getElem_cons_succ])
        · go_simp
          refine (HNN.out _ (below_trans HBW.out hdr)).mono ?_
          rintro e w5 ⟨v5, rfl, ⟨ss, rfl, hss⟩, hb5⟩
          obtain ⟨A9, n9, c9, rfl⟩ := hss.shape
          have hp := below_trans hdr hb5
          refine hK.out _ _ (kB7 hb5 hS) (fun hSn invn => ?_)
          try simp only [List.getElem_toArray, List.getElem_cons_zero, List.getElem_cons_succ, Act.put, List.setIfInBounds_toArray, List.set_cons_zero, List.set_cons_succ]
          clear hK K inv hS
          have inv := invn
          have hS := hSn
          clear invn hSn
          refine F_take (i := 13) (v := ?_) rfl (by kernel_rfl) (by kernel_rfl) (by kernel_rfl) (fun _ _ _ h => h) inv (Or.inl ⟨by rfl, ?_⟩) (by assumption) (fun invn => ?_)
          rotate_left
          · (intro w hSw; (try dsimp only at hSw); go_simp; try with_reducible rfl)
          try simp only [List.getElem_toArray, List.getElem_cons_zero, List.getElem_cons_succ, Act.put, List.setIfInBounds_toArray, List.set_cons_zero, List.set_cons_succ]
          clear inv
          have inv := invn
          clear invn
          refine F_take (i := 14) (v := ?_) rfl (by kernel_rfl) (by kernel_rfl) (by kernel_rfl) (fun _ _ _ h => h) inv (Or.inl ⟨by rfl, ?_⟩) (by assumption) (fun invn => ?_)
          rotate_left
          · (intro w hSw; (try dsimp only at hSw); go_simp; try with_reducible rfl)
          try simp only [List.getElem_toArray, List.getElem_cons_zero, List.getElem_cons_succ, Act.put, List.setIfInBounds_toArray, List.set_cons_zero, List.set_cons_succ]
          clear inv
          have inv := invn
          clear invn
          refine F_take (i := 15) (v := ?_) rfl (by kernel_rfl) (by kernel_rfl) (by kernel_rfl) (fun _ _ _ h => h) inv (Or.inl ⟨by rfl, ?_⟩) (by assumption) (fun invn => ?_)
          rotate_left
          · (intro w hSw; (try dsimp only at hSw); go_simp; try with_reducible rfl)
          try simp only [List.getElem_toArray, List.getElem_cons_zero, List.getElem_cons_succ, Act.put, List.setIfInBounds_toArray, List.set_cons_zero, List.set_cons_succ]
          clear inv
          have inv := invn
          clear invn
          have hS0 := hS
          refine F_one (i := 16) (by kernel_rfl) rfl rfl (by omega) inv (fun K hK => ?_)
          try simp only [List.getElem_toArray, List.getElem_cons_zero, List.getElem_cons_succ]
          go_simp
          refine hK.out _ _ (kA7 _ hS) (fun hSn invn => ?_)
          try simp only [List.getElem_toArray, List.getElem_cons_zero, List.getElem_cons_succ, Act.put, List.setIfInBounds_toArray, List.set_cons_zero, List.set_cons_succ]
          clear hK K inv hS
          have inv := invn
          have hS := hSn
          clear invn hSn
          refine F_one (i := 17) (by kernel_rfl) rfl rfl (by omega) inv (fun K hK => ?_)
          try simp only [List.getElem_toArray, List.getElem_cons_zero, List.getElem_cons_succ]
          go_simp
          refine hK.out _ _ (kA7 _ hS0) (fun hSn invn => ?_)
          try simp only [List.getElem_toArray, List.getElem_cons_zero, List.getElem_cons_succ, Act.put, List.setIfInBounds_toArray, List.set_cons_zero, List.set_cons_succ]
          clear hK K inv hS
          have inv := invn
          have hS := hSn
          clear invn hSn
          refine F_last (i := 18) (by kernel_rfl) rfl rfl (by omega) (by kernel_rfl) (fun K hK => ?_)
          go_simp
          refine hK _ _ ?_
          clear hK K inv hS
          go_wp2_with fail
          go_meet
          have hal := (Below.refl w5.heap.size w5).alloc (Nat.le_refl _) (.cells #[.int .i64 R.1.1, .slice A9 n9 c9] 59)
          exact ⟨_, _, _, A9, n9, c9, rfl, rfl, Blk.new _ _ _ _ rfl, hss.below hal (Nat.le_refl _), .inr (Nat.le_refl _), hp.size, Nat.le_refl _, hal.size, below_trans hp hal⟩
        · go_simp
          have hbz : Blk (wr.drew.alloc (.cells #[.int .i64 0, .slice none 0 0] 59)) wr.heap.size 59 #[.int .i64 0, .slice none 0 0] := Blk.new _ _ _ _ rfl
          have hba0 := (Below.refl wr.drew.heap.size wr.drew).alloc (Nat.le_refl _) (.cells #[.int .i64 0, .slice none 0 0] 59)
          have hbl : wr.heap.size ≤ wr.heap.size := Nat.le_refl _
          have hp := below_trans hdr hba0
          refine hK.out _ _ (kA7 _ hS) (fun hSn invn => ?_)
          try simp only [List.getElem_toArray, List.getElem_cons_zero, List.getElem_cons_succ, Act.put, List.setIfInBounds_toArray, List.set_cons_zero, List.set_cons_succ]
          clear hK K inv hS
          have inv := invn
          have hS := hSn
          clear invn hSn
          refine F_one (i := 12) (by kernel_rfl) rfl rfl (by omega) inv (fun K hK => ?_)
          try simp only [List.getElem_toArray, List.getElem_cons_zero, List.getElem_cons_succ]
          go_simp
          have hol := hp.size
          have hlo : wr.heap.size + 1 ≤ _ := hbz.lt
          refine (HNN.out _ (below_trans HBW.out hp)).mono ?_
          rintro e w5 ⟨v5, rfl, ⟨ss, rfl, hss⟩, hb5⟩
          obtain ⟨A9, n9, c9, rfl⟩ := hss.shape
          have hp := below_trans hp hb5
          refine hK.out _ _ (kB7 hb5 hS) (fun hSn invn => ?_)
          try simp only [List.getElem_toArray, List.getElem_cons_zero, List.getElem_cons_succ, Act.put, List.setIfInBounds_toArray, List.set_cons_zero, List.set_cons_succ]
          clear hK K inv hS
          have inv := invn
          have hS := hSn
          clear invn hSn
          have hbz := hbz.keep hb5
          refine F_take (i := 13) (v := ?_) rfl (by kernel_rfl) (by kernel_rfl) (by kernel_rfl) (fun _ _ _ h => h) inv (Or.inl ⟨by rfl, ?_⟩) (by assumption) (fun invn => ?_)
          rotate_left
          · (intro w hSw; (try dsimp only at hSw); go_simp; try with_reducible rfl)
          try simp only [List.getElem_toArray, List.getElem_cons_zero, List.getElem_cons_succ, Act.put, List.setIfInBounds_toArray, List.set_cons_zero, List.set_cons_succ]
          clear inv
          have inv := invn
          clear invn
          refine F_take (i := 14) (v := ?_) rfl (by kernel_rfl) (by kernel_rfl) (by kernel_rfl) (fun _ _ _ h => h) inv (Or.inl ⟨by rfl, ?_⟩) (by assumption) (fun invn => ?_)
          rotate_left
          · (intro w hSw; (try dsimp only at hSw); go_simp; try with_reducible rfl)
          try simp only [List.getElem_toArray, List.getElem_cons_zero, List.getElem_cons_succ, Act.put, List.setIfInBounds_toArray, List.set_cons_zero, List.set_cons_succ]
          clear inv
          have inv := invn
          clear invn
          refine F_take (i := 15) (v := ?_) rfl (by kernel_rfl) (by kernel_rfl) (by kernel_rfl) (fun _ _ _ h => h) inv (Or.inl ⟨by rfl, ?_⟩) (by assumption) (fun invn => ?_)
          rotate_left
          · (intro w hSw; (try dsimp only at hSw); go_simp; try with_reducible rfl)
          try simp only [List.getElem_toArray, List.getElem_cons_zero, List.getElem_cons_succ, Act.put, List.setIfInBounds_toArray, List.set_cons_zero, List.set_cons_succ]
          clear inv
          have inv := invn
          clear invn
          have t0 : w5.cell? ⟨wr.heap.size, 0, none⟩ = some (.int .i64 0) := hbz.cell 0
          have t1 : w5.cell? ⟨wr.heap.size, 1, none⟩ = some (.slice none 0 0) := hbz.cell 1
          have f0 : w5.frozen? ⟨wr.heap.size, 0, none⟩ = false := hbz.frozen 0
          have f1 : w5.frozen? ⟨wr.heap.size, 1, none⟩ = false := hbz.frozen 1
          have lz : wr.heap.size < w5.heap.size := hbz.lt
          have hon := Only.set2 w5 wr.heap.size (.int .i64 R.1.1) (.slice A9 n9 c9)
          have hps := hp.size
          refine F_one (i := 17) (by kernel_rfl) rfl rfl (by omega) inv (fun K hK => ?_)
          try simp only [List.getElem_toArray, List.getElem_cons_zero, List.getElem_cons_succ]
          go_simp
          refine hK.out _ _ (⟨ocell hon hS.1 (by omega) (.inl (by omega)), ocell hon hS.2.1 (by omega) (.inl (by omega)), ocell hon hS.2.2.1 (by omega) (.inl (by omega)), ocell hon hS.2.2.2.1 (by omega) (.inl (by omega)), ocell hon hS.2.2.2.2.1 (by omega) (.inl (by omega)), ocell hon hS.2.2.2.2.2.1 (by omega) (.inl (by omega)), ocell hon hS.2.2.2.2.2.2 (by omega) (.inl (by omega))⟩) (fun hSn invn => ?_)
          try simp only [List.getElem_toArray, List.getElem_cons_zero, List.getElem_cons_succ, Act.put, List.setIfInBounds_toArray, List.set_cons_zero, List.set_cons_succ]
          clear hK K inv hS
          have inv := invn
          have hS := hSn
          clear invn hSn
          refine F_last (i := 18) (by kernel_rfl) rfl rfl (by omega) (by kernel_rfl) (fun K hK => ?_)
          go_simp
          refine hK _ _ ?_
          clear hK K inv hS
          go_wp2_with fail
          go_meet
          exact ⟨wr.heap.size, _, _, A9, n9, c9, rfl, rfl, hbz.set2 _ _, hss.only hon (.inr hlo), .inl hlo, hbl, hol, hon.size, hp.trans (hon.below hbl hp.size)⟩
      case rest =>
        obtain ⟨bV, vlo, vhi, A9, n9, c9, rfl, rfl, hbv, hss, -, hbvl, hvl, hvs, hbB⟩ := hcut
        have HBB := Lib.hid hbB
        have hw56 := hbB.size
        have t0 : wc.cell? ⟨bV, 0, none⟩ = some (.int .i64 R.1.1) := hbv.cell 0
        have t1 : wc.cell? ⟨bV, 1, none⟩ = some (.slice A9 n9 c9) := hbv.cell 1
        have lbv := hbv.lt
        have hlo : ∀ b, (Value.slice A9 n9 c9).ownBlock = some b → wr.heap.size ≤ b := fun b hb => by
          have h2 := (hss.lt b hb).1
          omega
        have HNS6 := Lib.hid (HNSW.out.below hbB)
        have HON6 := Lib.hid (HON.out.trans (Only.of_below hbB (w.heap.size + 1 + 1) (w.heap.size + 1 + 1 + 1)))
        have HU6 := Lib.hid (show wc.ownsRow (w.heap.size + 1 + 1) 86 2 (.slice A9 n9 c9) R.1.2.length (R.1.2.flatMap cSt) from ownsRow_mono hss.1 (by omega))
        have HNB := Lib.hid (fun b (hb : (Value.slice A9 n9 c9).ownBlock = some b) => show b ∉ blks (u5 :: snds zs) from fun hm => by
          have h1 := (HNSW.out.lt b hm).2
          have h2 := hlo b hb
          omega)
        have HNB2 := Lib.hid (fun b (hb : (Value.slice A9 n9 c9).ownBlock = some b) => show w2.heap.size ≤ b from by
          have h2 := hlo b hb
          omega)
        have HRW6 := Lib.hid HNS6.out.own
        clear hbB hss hbv x0 x1 y0 y1 y2 p0 p1 hlo
        go_wp2_with (at_builtin; (refine wpList_append1 cWv elWk rfl _ _ rfl (w.heap.size + 1 + 1) _ zs (R.1.1, .slice A9 n9 c9) _ 1 wc.heap.size (by rfl) HRW6.out (by rfl) rfl rfl rfl (cWv_one _ _ _ _) (by omega) (by omega) (by omega) ?_); intro v8 w8 hrow8 hb8 hat8 hgr8)
        have hg6 := grown_alloc hgr8
        have hatn : ∀ g, v8.ownBlock = some g → u5.ownBlock = some g ∨ wc.heap.size ≤ g := fun g hg => by
          rcases hat8 with h | ⟨g', h, hh⟩
          · exact .inl (by rw [← h]; exact hg)
          · rw [hg] at h; injection h with h; subst h; exact .inr hh
        have hpush := HNS6.out.push (n := R.1.1) HU6.out HNB.out hg6 hrow8 hatn
        have HPU := Lib.hid (show NW (w.heap.size + 1 + 1) w8 v8 (zs ++ [(R.1.1, .slice A9 n9 c9)]) (awTo g a (i + 1)) by rw [HLS.out]; exact hpush)
        have hs6 : wc.heap.size = wc.heap.size := rfl
        have HBK8 := Lib.hid (show ∀ b ∈ blks (v8 :: snds (zs ++ [(R.1.1, Value.slice A9 n9 c9)])), b = w.heap.size + 1 + 1 ∨ w2.heap.size ≤ b from fun b hb => by
          obtain ⟨i, u, hu, hbu⟩ := mem_blks.1 hb
          cases i with
          | zero =>
            simp only [List.getElem?_cons_zero, Option.some.injEq] at hu
            subst hu
            rcases hatn b hbu with h | h
            · exact HBK.out b (mem_blks.2 ⟨0, _, rfl, h⟩)
            · exact .inr (by omega)
          | succ i =>
            rw [List.getElem?_cons_succ] at hu
            obtain ⟨z, hz, rfl⟩ := snds_at.1 hu
            rcases Nat.lt_or_ge i zs.length with h | h
            · rw [List.getElem?_append_left h] at hz
              exact HBK.out b (mem_blks.2 ⟨i + 1, z.2, by simpa using snds_at.2 ⟨z, hz, rfl⟩, hbu⟩)
            · have hi2 := (List.getElem?_eq_some_iff.1 hz).1
              simp only [List.length_append, List.length_singleton] at hi2
              obtain rfl : i = zs.length := by omega
              have e1 : (R.1.1, Value.slice A9 n9 c9) = z := by simpa using hz
              subst e1
              exact .inr (HNB2.out b hbu))
        have HON8 := Lib.hid (show Only (w.heap.size + 1 + 1) (w.heap.size + 1 + 1 + 1) w2 w8 from
          ⟨hg6.os.trans HON6.out.os, hg6.tape.trans HON6.out.tape, hg6.output.trans HON6.out.output, Nat.le_trans HON6.out.size hg6.size, fun b hb ho => (hg6.block b (Nat.lt_of_lt_of_le hb HON6.out.size) (fun e => by
            have := HBK.out b (mem_blks.2 ⟨0, _, rfl, e.symm⟩)
            omega)).trans (HON6.out.block b hb ho)⟩)
        clear hrow8 hb8 hat8 hgr8 hg6 hpush hatn hs6
        go_roundw
        case rel => exact ⟨i + 1, _, by omega, by go_num, HPU.out, HBK8.out, HON8.out⟩
        case measure => simp [intOf]; omega
    · have HFE := Lib.hid (show awTo g a i = allW g a by rw [show i = LL.length by omega]; exact HFIN.out)
      have hnm : ¬ (i : Int) < (LL.length : Int) := by omega
      clear hon hns hbk
      go_wp2_with fail
      go_ret
      refine ⟨_, rfl, ?_, HBW.out⟩
      rw [← HFE.out]
      exact (NWO.of HNSW.out).mono (by omega) (Nat.le_refl _)
end Go.Proofs.YtpbfdmfkmbdpkaaGreat

/- Whether a program's text can call itself: told by ranks along the calls. Over any program. -/
namespace Go.Proofs.YtpbfdmfkmbdpkaaGreat
set_option linter.unusedVariables false
set_option linter.unusedSimpArgs false
def leadsOf (P : Program) (f : FuncId) : List FuncId := (P.funcs[f]?).elim [] P.leadsTo
def rankOk (P : Program) (T : List (FuncId × Nat)) : Bool :=
  T.all fun q => T.lookup q.1 == some q.2 && (leadsOf P q.1).all fun h => match T.lookup h with | some r => decide (r < q.2) | none => false
def plainAll (P : Program) (T : List (FuncId × Nat)) : Bool :=
  T.all fun q => !((P.funcs[q.1]?).any fun fn => match fn.body with | some c => c.unfollowed | none => entryCalls fn)
theorem via_sub {P : Program} {p : FuncId → Prop} (hp : ∀ f, p f → ∀ h ∈ leadsOf P f, p h) : ∀ (n : Nat) (todo seen : List FuncId), (∀ f ∈ todo, p f) → (∀ f ∈ seen, p f) → ∀ g ∈ P.closureVia n todo seen, p g
  | 0, _, seen, _, hs, g, hg => hs g (by simpa [Program.closureVia] using hg)
  | _ + 1, [], seen, _, hs, g, hg => hs g (by simpa [Program.closureVia] using hg)
  | n + 1, f :: todo, seen, ht, hs, g, hg => by
    rw [Program.closureVia] at hg
    split at hg
    · exact via_sub hp n todo seen (fun x hx => ht x (List.mem_cons_of_mem _ hx)) hs g hg
    · refine via_sub hp n _ _ (fun x hx => ?_) (fun x hx => ?_) g hg
      · rcases List.mem_append.1 hx with h | h
        · exact hp f (ht f (List.mem_cons_self ..)) x h
        · exact ht x (List.mem_cons_of_mem _ h)
      · rcases List.mem_cons.1 hx with rfl | h
        · exact ht x (List.mem_cons_self ..)
        · exact hs x h
theorem closure_sub {P : Program} {p : FuncId → Prop} (hp : ∀ f, p f → ∀ h ∈ leadsOf P f, p h) {f : FuncId} (hf : p f) : ∀ g ∈ P.closure f, p g := by
  unfold Program.closure
  exact via_sub hp _ _ _ (by simpa using hf) (by simp)
theorem lookup_mem {T : List (FuncId × Nat)} {x : FuncId} {r : Nat} (h : T.lookup x = some r) : (x, r) ∈ T := by
  induction T with
  | nil => simp at h
  | cons q T ih =>
    obtain ⟨a, b⟩ := q
    rw [List.lookup_cons] at h
    split at h
    · rename_i hx
      have e1 : x = a := by simpa using hx
      have e2 : b = r := by simpa using h
      subst e1 e2
      exact List.mem_cons_self ..
    · exact List.mem_cons_of_mem _ (ih h)
theorem rank_step {P : Program} {T : List (FuncId × Nat)} (hT : rankOk P T = true) {f : FuncId} {r : Nat} (hf : T.lookup f = some r) {h : FuncId} (hh : h ∈ leadsOf P f) : ∃ s, T.lookup h = some s ∧ s < r := by
  have h1 := List.all_eq_true.1 hT _ (lookup_mem hf)
  simp only [Bool.and_eq_true] at h1
  have h2 := List.all_eq_true.1 h1.2 h hh
  cases hl : T.lookup h with
  | none => rw [hl] at h2; cases h2
  | some s => rw [hl] at h2; exact ⟨s, rfl, by simpa using h2⟩
theorem rank_closure {P : Program} {T : List (FuncId × Nat)} (hT : rankOk P T = true) {f : FuncId} {r : Nat} (hf : T.lookup f = some r) : ∀ g ∈ P.closure f, ∃ s, T.lookup g = some s ∧ s ≤ r :=
  closure_sub (p := fun g => ∃ s, T.lookup g = some s ∧ s ≤ r) (fun x ⟨s, hs, hr⟩ h hh => by
    obtain ⟨t, ht, hlt⟩ := rank_step hT hs hh
    exact ⟨t, ht, by omega⟩) ⟨r, hf, Nat.le_refl _⟩
theorem unfollowed_no {P : Program} {T : List (FuncId × Nat)} {f : FuncId} {r : Nat} (hT : rankOk P T = true) (hp : plainAll P T = true) (hf : T.lookup f = some r) : P.unfollowed f = false := by
  rw [Program.unfollowed, List.any_eq_false]
  intro g hg
  obtain ⟨s, hs, _⟩ := rank_closure hT hf g hg
  have := List.all_eq_true.1 hp _ (lookup_mem hs)
  exact Bool.eq_false_iff.1 (Eq.mp (Bool.not_eq_true' _) this)
theorem recurses_no {P : Program} {T : List (FuncId × Nat)} {f : FuncId} {r : Nat} (hT : rankOk P T = true) (hp : plainAll P T = true) (hf : T.lookup f = some r) : P.recurses f = false := by
  rw [Program.recurses, unfollowed_no hT hp hf, Bool.false_or, List.any_eq_false]
  intro g hg
  obtain ⟨s, hs, _⟩ := rank_closure hT hf g hg
  rw [Bool.not_eq_true, List.any_eq_false]
  intro h hh
  obtain ⟨t, ht, hlt⟩ := rank_step hT hs hh
  intro hc
  have hm : g ∈ P.closure h := by simpa using hc
  obtain ⟨u, hu, hle⟩ := rank_closure hT ht g hm
  rw [hs] at hu
  injection hu with e
  omega
theorem recurses_yes {P : Program} {f : FuncId} (g h : FuncId) (h1 : (P.closure f).contains g = true) (h2 : (leadsOf P g).contains h = true) (h3 : (P.closure h).contains g = true) : P.recurses f = true := by
  rw [Program.recurses, Bool.or_eq_true]
  refine .inr (List.any_eq_true.2 ⟨g, by simpa using h1, List.any_eq_true.2 ⟨h, by simpa [leadsOf] using h2, h3⟩⟩)
end Go.Proofs.YtpbfdmfkmbdpkaaGreat

/- Facts on this seat's program as a whole that every row asks for: told once. -/
namespace Go.Proofs.YtpbfdmfkmbdpkaaGreat
set_option linter.unusedVariables false
set_option linter.unusedSimpArgs false
theorem seat_mayEnter : Tryz.pinned.checked.prog.mayEnter = true := by kernel_rfl
theorem seat_lifts : Tryz.pinned.checked.prog.liftsFinal = false := by kernel_rfl
theorem seat_laidOut : laidOutB Tryz.pinned.checked.prog = true := by kernel_rfl
theorem seat_mapsRowed : mapsRowed Tryz.pinned.checked.prog = true := by kernel_rfl
end Go.Proofs.YtpbfdmfkmbdpkaaGreat

