/- Parts of the proof, joined into one text: AwM, AwI, KeepS, Srw, LstS, SrchM, SrchP. -/
import Derived.Test.YtpbfdmfkmbdpkaaGreatPartJJDOAKLA
import Derived.Test.YtpbfdmfkmbdpkaaGreatPartJLPHDKBB
import Derived.Test.YtpbfdmfkmbdpkaaGreatPartBCPGAONL
import Derived.Test.YtpbfdmfkmbdpkaaGreatPartCPHKMOBB
import Derived.Test.YtpbfdmfkmbdpkaaGreatPartAIPHIKGG
import Derived.Test.YtpbfdmfkmbdpkaaGreatPartEPECPLEK
import Derived.Test.YtpbfdmfkmbdpkaaGreatPartHJLKGLGC
import Derived.Test.YtpbfdmfkmbdpkaaGreatPartIDKOGLLL
/- The witnesses of all answers, plainly. -/
namespace Go.Proofs.YtpbfdmfkmbdpkaaGreat
set_option linter.unusedVariables false
set_option linter.unusedSimpArgs false
open Go.ChangeShapes Go.WideShapes Go.ChangeAt Go.RowKit
def awTo (g : Gr) (a : Au) (i : Nat) : List Wk := ((allL g a).take i).map fun p => (lstShort g a p.1 p.2).1
def allW (g : Gr) (a : Au) : List Wk := (allL g a).map fun p => (lstShort g a p.1 p.2).1
theorem awTo_all (g : Gr) (a : Au) : awTo g a (allL g a).length = allW g a := by rw [awTo, List.take_length]; rfl
theorem awTo_succ {g : Gr} {a : Au} {i : Nat} {p : Pr} (h : (allL g a)[i]? = some p) : awTo g a (i + 1) = awTo g a i ++ [(lstShort g a p.1 p.2).1] := by
  rw [awTo, take_snoc h, List.map_append]; rfl
theorem awTo_len {g : Gr} {a : Au} {i : Nat} (h : i ≤ (allL g a).length) : (awTo g a i).length = i := by rw [awTo, List.length_map, List.length_take]; omega
theorem amt_map (g : Gr) (a : Au) : ∀ l : List Pr, amtW (l.map fun p => (lstShort g a p.1 p.2).1) ≤ l.length * 121
  | [] => by simp [amtW]
  | p :: l => by
    have h1 := amt_map g a l
    have h2 := lstShort_len g a p.1 p.2
    simp only [List.map_cons, amtW, List.length_cons]
    omega
theorem amt_allW (g : Gr) (a : Au) : amtW (allW g a) ≤ 20000 := by
  have h1 := amt_map g a (allL g a)
  have h2 := allL_len g a
  unfold allW
  omega
end Go.Proofs.YtpbfdmfkmbdpkaaGreat

/- The program's AllWitnesses. -/
namespace Go.Proofs.YtpbfdmfkmbdpkaaGreat
set_option linter.unusedVariables false
set_option linter.unusedSimpArgs false
open Go.ChangeShapes Go.WideShapes Go.ChangeAt Go.RowKit
attribute [local go_sem] ext_cell ext_frozen ext_lt ext_lt1 ext_lt2 ext_lt3 ltn2 ltn3 ltn13 lts1 lts2 lts3

theorem prAtAwI {lo hi : Nat} {w : World} {A : Option Addr} {n c : Nat} {xs : List Pr} (h : SlI lo hi w cPr 2 (.slice A n c) xs) {i : Nat} {x : Pr} (hx : xs[i]? = some x) : ∃ b o, A = some ⟨b, o, none⟩ ∧ b < hi ∧ w.cell? ⟨b, o + i * 2, none⟩ = some (.int .i64 x.1) ∧ w.cell? ⟨b, o + i * 2 + 1, none⟩ = some (.int .i64 x.2) := by
  obtain ⟨A', c', hv, _, _, h3⟩ := h
  simp only [Value.slice.injEq] at hv
  obtain ⟨b', o', hA, g1, g2, hc⟩ := h3 i x hx
  exact ⟨b', o', hv.1.trans hA, g2, by simpa using hc 0 _ rfl, hc 1 _ rfl⟩
set_option maxHeartbeats 8000000 in
set_option maxRecDepth 100000 in
theorem implAllWitnesses (vg va : Value) (g : Gr) (a : Au) (w : World) (hgv : GrV 0 w.heap.size w vg g) (hav : AuV 0 w.heap.size w va a) :
    Calls Tryz.prog 10 #[vg, va] w fun e w' => ∃ v', e = .returned v' ∧ NWO w.heap.size w'.heap.size w' v' (allW g a) ∧ Below w.heap.size w w' := by
  have hgv0 := hgv
  have hav0 := hav
  obtain ⟨A1, n1, c1, A2, n2, c2, rfl⟩ := hgv.shape
  obtain ⟨A3, n3, c3, A4, n4, c4, rfl⟩ := hav.shape
  have hb0 : Below w.heap.size w ((w.alloc (.cells #[.slice A1 n1 c1, .slice A2 n2 c2] 36)).alloc (.cells #[.int .i64 a.start, .slice A3 n3 c3, .slice A4 n4 c4] 38)) := ((Below.refl _ _).alloc (Nat.le_refl _) _).alloc (by simp) _
  have hbG := ((Blk.new w 36 #[.slice A1 n1 c1, .slice A2 n2 c2] w.heap.size rfl).alloc (.cells #[.int .i64 a.start, .slice A3 n3 c3, .slice A4 n4 c4] 38))
  have hbA := (Blk.new (w.alloc (.cells #[.slice A1 n1 c1, .slice A2 n2 c2] 36)) 38 #[.int .i64 a.start, .slice A3 n3 c3, .slice A4 n4 c4] (w.heap.size + 1) (by simp))
  have HBG := Lib.hid hbG
  have HBA := Lib.hid hbA
  have HGV := Lib.hid hgv0
  have HAV := Lib.hid hav0
  have HB0 := Lib.hid hb0

  clear hgv hav hgv0 hav0 hb0 hbG hbA
  have HBE := Lib.hid (HB0.out.alloc HB0.out.size (.cells #[] 59))
  have HG1 := Lib.hid (HBG.out.alloc (.cells #[] 59))
  have HA1 := Lib.hid (HBA.out.alloc (.cells #[] 59))
  have HR0 := Lib.hid (show (((w.alloc (.cells #[.slice A1 n1 c1, .slice A2 n2 c2] 36)).alloc (.cells #[.int .i64 a.start, .slice A3 n3 c3, .slice A4 n4 c4] 38)).alloc (.cells #[] 59)).ownsRow (w.heap.size + 1 + 1) 59 2 (.slice (some ⟨w.heap.size + 1 + 1, 0, none⟩) 0 0) 0 [] from by
    have h := World.ownsRow_lit (base := w.heap.size + 1 + 1) (e := 59) (size := 2) ((w.alloc (.cells #[.slice A1 n1 c1, .slice A2 n2 c2] 36)).alloc (.cells #[.int .i64 a.start, .slice A3 n3 c3, .slice A4 n4 c4] 38)) #[] 0 (by simp) (by decide) rfl
    simpa using h)
  have hAA := fun (W : World) (hW : Below w.heap.size w W) => implAllAnswers _ _ g a W (HGV.out.keep hW) (HAV.out.keep hW)
  have HLW := Lib.hid (fun (x y : Int) (W : World) (hW : Below w.heap.size w W) => implLeastWitness _ _ g a x y W (HGV.out.keep hW) (HAV.out.keep hW))
  have hal := allL_len g a
  obtain ⟨LL, hLL⟩ : ∃ LL, LL = allL g a := ⟨_, rfl⟩
  have HFIN := Lib.hid (show awTo g a LL.length = allW g a from by rw [hLL]; exact awTo_all g a)
  have HSUC := Lib.hid (fun i p (h : LL[i]? = some p) => awTo_succ (g := g) (a := a) (by rw [← hLL]; exact h))
  have HLEN := Lib.hid (fun i (h : i ≤ LL.length) => awTo_len (g := g) (a := a) (i := i) (by rw [← hLL]; exact h))
  rw [← hLL] at hAA hal
  have HAA := Lib.hid hAA
  clear hLL hAA
  go_enter Tryz.func10, Tryz.ntmps10
  go_wp2_with fail
  refine (HAA.out _ HBE.out).mono ?_
  rintro e w2 ⟨v2, rfl, ho2, hb2⟩
  obtain ⟨A6, n6, c6, rfl⟩ := ho2.shape
  have hn6 : n6 = LL.length := by
    obtain ⟨_, _, he, -⟩ := ho2.sl cPr_len
    injection he
  subst hn6
  have HSL2 := Lib.hid (ho2.sl cPr_len)
  have HB2 := Lib.hid (below_trans HBE.out hb2)
  have HG2 := Lib.hid (HG1.out.keep hb2)
  have HA2 := Lib.hid (HA1.out.keep hb2)
  have HR2 := Lib.hid (ownsRow_block HR0.out fun b hb => hb2.block b (HR0.out.lt b hb).2)
  have hs2 := hb2.size
  have hsE : w.heap.size + 1 + 1 < (((w.alloc (.cells #[.slice A1 n1 c1, .slice A2 n2 c2] 36)).alloc (.cells #[.int .i64 a.start, .slice A3 n3 c3, .slice A4 n4 c4] 38)).alloc (.cells #[] 59)).heap.size := by simp
  have hsW : w.heap.size ≤ w2.heap.size := by omega
  have hsB : w.heap.size + 1 + 1 < w2.heap.size := by omega
  have HSLO := Lib.hid (fun (W : World) (ho : Only (w.heap.size + 1 + 1) (w.heap.size + 1 + 1 + 1) w2 W) => HSL2.out.only ho (Nat.le_refl _) (.inr (by omega)))
  clear ho2 hb2 hs2 hsE
  go_wp2_with fail
  go_loopw [5, 15] (fun oo ii wr => ∃ (i : Nat) (zs : List (Int × Value)), i ≤ LL.length ∧ ii = .int .i64 (i : Int) ∧ NW (w.heap.size + 1 + 1) wr oo zs (awTo g a i) ∧ (∀ b ∈ blks (oo :: snds zs), b = w.heap.size + 1 + 1 ∨ w2.heap.size ≤ b) ∧ Only (w.heap.size + 1 + 1) (w.heap.size + 1 + 1 + 1) w2 wr) (fun _ ii _ => LL.length - (intOf ii).toNat)
  case atStart => exact ⟨0, [], Nat.zero_le _, rfl, NW.start HR2.out, by intro b hb; simp [blks, Value.ownBlock] at hb; exact .inl hb, Only.refl _ _ _⟩
  case round =>
    obtain ⟨i, zs, hi, rfl, hns, hbk, hon⟩ := hrel
    have hszr := hon.size
    have hzl := hns.len
    rw [HLEN.out i hi] at hzl
    have HBW := Lib.hid (HB2.out.trans (hon.below (show w.heap.size ≤ w.heap.size + 1 + 1 by omega) hsW))
    have HNSW := Lib.hid hns
    have HBK := Lib.hid hbk
    have HON := Lib.hid hon
    by_cases hlt : i < LL.length
    · have hnm : (i : Int) < (LL.length : Int) := by omega
      have hpi : LL[i]? = some LL[i] := List.getElem?_eq_getElem hlt
      have hsuc := HSUC.out i _ hpi
      have hsl := HSLO.out _ hon
      obtain ⟨b6, o6, rfl, hb6, p0, p1⟩ := prAtAwI hsl hpi
      have hb6w : b6 < wr.heap.size := by omega
      generalize LL[i] = p at hsuc p0 p1
      obtain ⟨px, py⟩ := p
      simp only at hsuc p0 p1
      have hkl := lstShort_len g a px py
      have HNN := Lib.hid (HLW.out px py)
      obtain ⟨R, hR⟩ : ∃ R, R = lstShort g a px py := ⟨_, rfl⟩
      rw [← hR] at hsuc hkl HNN
      have HLS := Lib.hid hsuc
      have hbG := HG2.out.only hon (.inl (by omega))
      have hbA := HA2.out.only hon (.inl (by omega))
      have x0 : wr.cell? ⟨w.heap.size, 0, none⟩ = some (.slice A1 n1 c1) := (hbG).cell 0
      have x1 : wr.cell? ⟨w.heap.size, 1, none⟩ = some (.slice A2 n2 c2) := (hbG).cell 1
      have y0 : wr.cell? ⟨w.heap.size + 1, 0, none⟩ = some (.int .i64 a.start) := (hbA).cell 0
      have y1 : wr.cell? ⟨w.heap.size + 1, 1, none⟩ = some (.slice A3 n3 c3) := (hbA).cell 1
      have y2 : wr.cell? ⟨w.heap.size + 1, 2, none⟩ = some (.slice A4 n4 c4) := (hbA).cell 2
      have hz50 : zs.length ≤ 150 := by omega
      have lw0 := hbG.lt
      have lw1 := hbA.lt
      clear hR hsuc hsl hpi hns hbk hon hbG hbA
      go_wp2_with fail
      refine (HNN.out _ (HBW.out.alloc HBW.out.size _)).mono ?_
      rintro e w5 ⟨v5, rfl, ⟨ss, rfl, hss⟩, hb5⟩
      obtain ⟨A9, n9, c9, rfl⟩ := hss.shape
      have hbB : Below wr.heap.size wr (w5.alloc (.cells #[.int .i64 R.1.1, .slice A9 n9 c9] 59)) := (((Below.refl wr.heap.size wr).alloc (Nat.le_refl _) _).trans (hb5.mono (by simp))).alloc (((Below.refl wr.heap.size wr).alloc (Nat.le_refl _) _).trans (hb5.mono (by simp))).size _
      have HBB := Lib.hid hbB
      have hs5 := hb5.size
      have HNS6 := Lib.hid (HNSW.out.below hbB)
      have HON6 := Lib.hid (HON.out.trans (Only.of_below hbB (w.heap.size + 1 + 1) (w.heap.size + 1 + 1 + 1)))
      have hlo : ∀ b, (Value.slice A9 n9 c9).ownBlock = some b → wr.heap.size ≤ b := fun b hb => by
        have h2 := (hss.lt b hb).1
        first | omega | (simp at h2; omega)
      have HU6 := Lib.hid (show (w5.alloc (.cells #[.int .i64 R.1.1, .slice A9 n9 c9] 59)).ownsRow (w.heap.size + 1 + 1) 86 2 (.slice A9 n9 c9) R.1.2.length (R.1.2.flatMap cSt) from (ownsRow_mono hss.1 (by first | omega | (simp; omega))).alloc _)
      have HNB := Lib.hid (fun b (hb : (Value.slice A9 n9 c9).ownBlock = some b) => show b ∉ blks (u5 :: snds zs) from fun hm => by
        have h1 := (HNSW.out.lt b hm).2
        have h2 := hlo b hb
        omega)
      have HNB2 := Lib.hid (fun b (hb : (Value.slice A9 n9 c9).ownBlock = some b) => show w2.heap.size ≤ b from by
        have h2 := hlo b hb
        omega)
      have HRW6 := Lib.hid HNS6.out.own
      have hw56 : wr.heap.size ≤ w5.heap.size := by first | omega | (simp at hs5; omega)
      clear hb5 hbB hss x0 x1 y0 y1 y2 p0 p1 hlo
      go_wp2_with (at_builtin; (refine wpList_append1 cWv elWk rfl _ _ rfl (w.heap.size + 1 + 1) _ zs (R.1.1, .slice A9 n9 c9) _ 1 (w5.heap.size + 1) (by rfl) HRW6.out (by rfl) (by simp) rfl rfl (cWv_one _ _ _ _) (by omega) (by omega) (by simp; omega) ?_); intro v8 w8 hrow8 hb8 hat8 hgr8)
      have hg6 := grown_alloc hgr8
      have hatn : ∀ g, v8.ownBlock = some g → u5.ownBlock = some g ∨ (w5.alloc (.cells #[.int .i64 R.1.1, .slice A9 n9 c9] 59)).heap.size ≤ g := fun g hg => by
        rcases hat8 with h | ⟨g', h, hh⟩
        · exact .inl (by rw [← h]; exact hg)
        · rw [hg] at h; injection h with h; subst h; exact .inr hh
      have hpush := HNS6.out.push (n := R.1.1) HU6.out HNB.out hg6 hrow8 hatn
      have HPU := Lib.hid (show NW (w.heap.size + 1 + 1) w8 v8 (zs ++ [(R.1.1, .slice A9 n9 c9)]) (awTo g a (i + 1)) by rw [HLS.out]; exact hpush)
      have hs6 : w5.heap.size + 1 = (w5.alloc (.cells #[.int .i64 R.1.1, .slice A9 n9 c9] 59)).heap.size := by simp
      have HBK8 := Lib.hid (show ∀ b ∈ blks (v8 :: snds (zs ++ [(R.1.1, Value.slice A9 n9 c9)])), b = w.heap.size + 1 + 1 ∨ w2.heap.size ≤ b from fun b hb => by
        obtain ⟨i, u, hu, hbu⟩ := mem_blks.1 hb
        cases i with
        | zero =>
          simp only [List.getElem?_cons_zero, Option.some.injEq] at hu
          subst hu
          rcases hatn b hbu with h | h
          · exact HBK.out b (mem_blks.2 ⟨0, _, rfl, h⟩)
          · exact .inr (by omega)
        | succ i =>
          rw [List.getElem?_cons_succ] at hu
          obtain ⟨z, hz, rfl⟩ := snds_at.1 hu
          rcases Nat.lt_or_ge i zs.length with h | h
          · rw [List.getElem?_append_left h] at hz
            exact HBK.out b (mem_blks.2 ⟨i + 1, z.2, by simpa using snds_at.2 ⟨z, hz, rfl⟩, hbu⟩)
          · have hi2 := (List.getElem?_eq_some_iff.1 hz).1
            simp only [List.length_append, List.length_singleton] at hi2
            obtain rfl : i = zs.length := by omega
            have e1 : (R.1.1, Value.slice A9 n9 c9) = z := by simpa using hz
            subst e1
            exact .inr (HNB2.out b hbu))
      have HON8 := Lib.hid (show Only (w.heap.size + 1 + 1) (w.heap.size + 1 + 1 + 1) w2 w8 from
        ⟨hg6.os.trans HON6.out.os, hg6.tape.trans HON6.out.tape, hg6.output.trans HON6.out.output, Nat.le_trans HON6.out.size hg6.size, fun b hb ho => (hg6.block b (Nat.lt_of_lt_of_le hb HON6.out.size) (fun e => by
          have := HBK.out b (mem_blks.2 ⟨0, _, rfl, e.symm⟩)
          omega)).trans (HON6.out.block b hb ho)⟩)
      clear hrow8 hb8 hat8 hgr8 hg6 hpush hatn hs6
      go_roundw
      case rel => exact ⟨i + 1, _, by omega, by go_num, HPU.out, HBK8.out, HON8.out⟩
      case measure => simp [intOf]; omega
    · have HFE := Lib.hid (show awTo g a i = allW g a by rw [show i = LL.length by omega]; exact HFIN.out)
      have hnm : ¬ (i : Int) < (LL.length : Int) := by omega
      clear hon hns hbk
      go_wp2_with fail
      go_ret
      refine ⟨_, rfl, ?_, HBW.out⟩
      rw [← HFE.out]
      exact (NWO.of HNSW.out).mono (by omega) (Nat.le_refl _)
end Go.Proofs.YtpbfdmfkmbdpkaaGreat

/- The reference's l18Keep: the states of a set that are at the right distance. -/
namespace Go.Proofs.YtpbfdmfkmbdpkaaGreat
set_option linter.unusedVariables false
set_option linter.unusedSimpArgs false
open Go.ChangeShapes Go.WideShapes Go.ChangeAt Go.RowKit
attribute [local go_sem] ext_cell ext_frozen ext_lt ext_lt1 ext_lt2 ext_lt3 ltn2 ltn3 ltn13 lts1 lts2 lts3

theorem keepTo_yes {D : List Int} {n x set f q : Nat} (h : set.testBit q = true) (h2 : D.getD (x * n + q) 0 = (f : Int)) : keepTo D n x set f (q + 1) = ins (keepTo D n x set f q) q := by rw [keepTo, if_pos (by rw [h, h2, beq_self_eq_true]; rfl)]
theorem keepTo_no {D : List Int} {n x set f q : Nat} (h : set.testBit q = false ∨ D.getD (x * n + q) 0 ≠ (f : Int)) : keepTo D n x set f (q + 1) = keepTo D n x set f q := by
  rw [keepTo, if_neg]
  rw [Bool.and_eq_true, beq_iff_eq]
  rintro ⟨h1, h2⟩
  rcases h with h | h
  · rw [h] at h1; cases h1
  · exact h h2
set_option maxHeartbeats 4000000 in
set_option maxRecDepth 100000 in
theorem l18Keep_any (v : Value) (D : List Int) (n x set f : Nat) (w : World) (hv : SlE w cI 1 v D) (hDl : x * n + n ≤ D.length) (hD : D.length ≤ 60) (hn : n ≤ 12) (hset : set < 4096) (hf : f ≤ 60) :
    Calls Tryz.prog 59 #[v, .int .i64 (n : Int), .int .i64 (x : Int), .int .i64 (set : Int), .int .i64 (f : Int)] w fun e w' => e = .returned (.int .i64 (keepTo D n x set f n : Nat)) ∧ Below w.heap.size w w' := by
  obtain ⟨A1, c1, rfl, hl1, hm1, hC1⟩ := hv.form
  obtain ⟨P, hP⟩ : ∃ P, P = x * n := ⟨_, rfl⟩
  have hPl : P + n ≤ D.length := by rw [hP]; exact hDl
  have m1' : (x : Int) * (n : Int) = (P : Int) := by rw [hP, Int.natCast_mul]
  have m1 : IntKind.i64.wrap ((x : Int) * (n : Int)) = (P : Int) := by rw [m1']; exact IntWalk.i64_in _ (by omega)
  have HC1 := Lib.hid hC1
  have HP := Lib.hid hP
  have HM1 := Lib.hid m1
  have HM1' := Lib.hid m1'
  clear hv hC1 hDl hP m1 m1'
  go_enter Tryz.func59, Tryz.ntmps59
  go_wp2_with fail
  go_loopw [11, 12] (fun mm qq wr => ∃ (q : Nat) (u : World), q ≤ n ∧ qq = .int .i64 (q : Int) ∧ mm = .int .i64 (keepTo D n x set f q : Nat) ∧ wr = ext w u) (fun _ qq _ => n - (intOf qq).toNat)
  case atStart => exact ⟨0, w, Nat.zero_le _, rfl, rfl, ext_self _⟩
  case round =>
    obtain ⟨q, u, hq, rfl, rfl, rfl⟩ := hrel
    by_cases hlq : q < n
    · have hqi : (q : Int) < (n : Int) := by omega
      cases hb : set.testBit q with
      | false =>
        have e3' := bit_off (by omega) (by omega) hb
        have HR := Lib.hid (show keepTo D n x set f q = keepTo D n x set f (q + 1) from (keepTo_no (.inl hb)).symm)
        clear hb
        go_wp2_with fail
        go_roundw
        case rel => exact ⟨q + 1, u, by omega, by go_num, by rw [← HR.out], rfl⟩
        case measure => simp [intOf]; omega
      | true =>
        have e3' := bit_on (by omega) (by omega) hb
        have hdi := getD_of (D := D) (k := P + q) (by omega)
        obtain ⟨b6, o6, rfl, hb6, d6⟩ := HC1.out.int hdi
        have hY := fun h => keepTo_yes (D := D) (n := n) (x := x) (f := f) hb h
        have hN := fun h => keepTo_no (D := D) (n := n) (x := x) (set := set) (f := f) (q := q) (.inr h)
        rw [← HP.out] at hY hN
        have HY := Lib.hid hY
        have HN := Lib.hid hN
        have hkl := keepTo_lt D n x set f q
        have hkl2 : keepTo D n x set f q < 4096 := Nat.lt_of_lt_of_le hkl (Nat.pow_le_pow_right (by omega) (show q ≤ 12 by omega))
        have m1 := HM1.out
        have hpq : (P : Int) + (q : Int) = ((P + q : Nat) : Int) := by omega
        have m2 : IntKind.i64.wrap ((P : Int) + (q : Int)) = ((P + q : Nat) : Int) := by rw [hpq]; exact IntWalk.i64_in _ (by omega)
        have hpd : ((P + q : Nat) : Int) < (D.length : Int) := by omega
        clear hb hY hN hdi hkl
        generalize D.getD (P + q) 0 = dv at *
        obtain ⟨J, hJ⟩ : ∃ J, J = P + q := ⟨_, rfl⟩
        rw [← hJ] at d6 m2 hpd hpq
        clear hJ
        by_cases hd : dv = (f : Int)
        · have HR := Lib.hid (HY.out hd)
          have e1 := shl_bit (s := q) (by omega)
          generalize keepTo D n x set f q = M at *
          have e2 := or_ins (m := M) (s := q) (by omega) (by omega)
          have hde : (dv == (f : Int)) = true := by simpa using hd
          clear hd
          go_wp2_with fail
          go_roundw
          case rel => exact ⟨q + 1, u, by omega, by go_num, by rw [HR.out], rfl⟩
          case measure => simp [intOf]; omega
        · have HR := Lib.hid (HN.out hd)
          have hde : (dv == (f : Int)) = false := by simpa using hd
          generalize keepTo D n x set f q = M at *
          clear hd
          go_wp2_with fail
          go_roundw
          case rel => exact ⟨q + 1, u, by omega, by go_num, by rw [HR.out], rfl⟩
          case measure => simp [intOf]; omega
    · obtain rfl : q = n := by omega
      go_wp2_with fail
      go_ret
      exact ⟨rfl, ext_below w u⟩
end Go.Proofs.YtpbfdmfkmbdpkaaGreat

/- What a call leaves that writes one box and one row of its own: all other blocks stand. -/
namespace Go.Proofs.YtpbfdmfkmbdpkaaGreat
set_option linter.unusedVariables false
set_option linter.unusedSimpArgs false
open Go.ChangeShapes Go.WideShapes Go.ChangeAt Go.RowKit

structure Srw (bS : Nat) (r : Option Nat) (w w' : World) : Prop where
  os : w'.os = w.os
  tape : w'.tape = w.tape
  output : w'.output = w.output
  size : w.heap.size ≤ w'.heap.size
  block : ∀ n, n < w.heap.size → n ≠ bS → r ≠ some n → w'.heap[n]? = w.heap[n]?
section
variable {bS : Nat} {r r1 : Option Nat} {w w1 w2 w' : World}
theorem Srw.refl (bS : Nat) (r : Option Nat) (w : World) : Srw bS r w w := ⟨rfl, rfl, rfl, Nat.le_refl _, fun _ _ _ _ => rfl⟩
theorem Srw.trans (h : Srw bS r w w1) (h2 : Srw bS r1 w1 w2) (hr : ∀ n, r1 = some n → r = some n ∨ w.heap.size ≤ n) : Srw bS r w w2 :=
  ⟨h2.os.trans h.os, h2.tape.trans h.tape, h2.output.trans h.output, Nat.le_trans h.size h2.size, fun n hn h3 h4 =>
    (h2.block n (Nat.lt_of_lt_of_le hn h.size) h3 (fun e => by rcases hr n e with h5 | h5; exact h4 h5; omega)).trans (h.block n hn h3 h4)⟩
theorem Srw.of_below {B : Nat} (h : Below B w w') (hB : w.heap.size ≤ B) (bS : Nat) (r : Option Nat) : Srw bS r w w' := ⟨h.os, h.tape, h.output, h.size, fun n hn _ _ => h.block n (by omega)⟩
theorem Srw.set (bS : Nat) (r : Option Nat) (w : World) (i : Nat) (u : Value) : Srw bS r w (w.setCell ⟨bS, i, none⟩ u) :=
  ⟨rfl, rfl, rfl, by simp [World.setCell], fun n _ h3 _ => Below.heap_setCell w ⟨bS, i, none⟩ u n h3⟩
theorem Srw.of_grown (h : w.grownBy w' r1) (hr : ∀ n, r1 = some n → r = some n ∨ w.heap.size ≤ n) (bS : Nat) : Srw bS r w w' :=
  ⟨h.os, h.tape, h.output, h.size, fun n hn _ h4 => h.block n hn (fun e => by rcases hr n e.symm with h5 | h5; exact h4 h5; omega)⟩
theorem Srw.below (h : Srw bS r w w') {B : Nat} (h1 : B ≤ bS) (h2 : ∀ n, r = some n → B ≤ n) (h3 : B ≤ w.heap.size) : Below B w w' :=
  ⟨h.os, h.tape, h.output, h.size, fun n hn => h.block n (by omega) (by omega) (fun e => by have := h2 n e; omega)⟩
theorem Srw.sl {α : Type} {E : α → List Value} {lo hi k : Nat} {v : Value} {xs : List α} (h : SlI lo hi w E k v xs) (hs : Srw bS r w w') (hh : hi ≤ w.heap.size) (h1 : bS < lo ∨ hi ≤ bS) (h2 : ∀ n, r = some n → n < lo ∨ hi ≤ n) : SlI lo hi w' E k v xs :=
  h.keep_ fun b o h3 h4 => World.cell?_of_block (hs.block b (by omega) (by omega) (fun e => by have := h2 b e; omega))
theorem Srw.only {W0 : World} (h : Srw bS r w w') (h1 : ∀ n, r = some n → W0.heap.size ≤ n) : Only bS (bS + 1) W0 w → Only bS (bS + 1) W0 w' := fun h0 =>
  ⟨h.os.trans h0.os, h.tape.trans h0.tape, h.output.trans h0.output, Nat.le_trans h0.size h.size, fun n hn ho => (h.block n (Nat.lt_of_lt_of_le hn h0.size) (by omega) (fun e => by have := h1 n e; omega)).trans (h0.block n hn ho)⟩
theorem Srw.cell {b o : Nat} {v : Value} (hs : Srw bS r w w') (hc : w.cell? ⟨b, o, none⟩ = some v) (hb : b < w.heap.size) (h1 : b ≠ bS) (h2 : r ≠ some b) : w'.cell? ⟨b, o, none⟩ = some v :=
  (World.cell?_of_block (a := ⟨b, o, none⟩) (hs.block b hb h1 h2)).trans hc
theorem SlI.stI {lo hi : Nat} {w : World} {A : Option Addr} {n c : Nat} {xs : List St} (h : SlI lo hi w cSt 2 (.slice A n c) xs) {i : Nat} {x : St} (hx : xs[i]? = some x) :
    ∃ b o, A = some ⟨b, o, none⟩ ∧ (lo ≤ b ∧ b < hi) ∧ w.cell? ⟨b, o + i * 2, none⟩ = some (.int .i64 x.1) ∧ w.cell? ⟨b, o + i * 2 + 1, none⟩ = some (.bool x.2) := by
  obtain ⟨A', c', hv, _, _, h3⟩ := h
  injection hv with h1 _ _
  subst h1
  obtain ⟨b, o, e, g1, g2, hc⟩ := h3 i x hx
  exact ⟨b, o, e, ⟨g1, g2⟩, by simpa using hc 0 _ rfl, hc 1 _ rfl⟩
end
end Go.Proofs.YtpbfdmfkmbdpkaaGreat

/- The reference's LeastWitness. -/
namespace Go.Proofs.YtpbfdmfkmbdpkaaGreat
set_option linter.unusedVariables false
set_option linter.unusedSimpArgs false
open Go.ChangeShapes Go.WideShapes Go.ChangeAt Go.RowKit
attribute [local go_sem] ext_cell ext_frozen ext_lt ext_lt1 ext_lt2 ext_lt3 ltn2 ltn3 ltn13 lts1 lts2 lts3

theorem elStW : ElemOk Tryz.prog 57 86 (.agg #[.int .i64 0, .bool false]) 2 16 := ⟨Tryz.underlying57, by kernel_rfl, rfl, by omega⟩
theorem own_blocksW {lo hi k : Nat} {w w' : World} {e : TypeId} {v : Value} {α : Type} {E : α → List Value} {xs : List α} (h : Own lo hi w e E k v xs) (hb : ∀ g, v.ownBlock = some g → w'.heap[g]? = w.heap[g]?) : Own lo hi w' e E k v xs := ⟨ownsRow_block h.1 hb, h.2⟩
theorem lwL_hit {g : Gr} {a : Au} {D : List Int} {f x s j : Nat} {p : Arc} (h : (arcsOf g (x : Int))[j]? = some p) (hno : ∀ r q, r < j → (arcsOf g (x : Int))[r]? = some q → keepA g a D f x s q = 0) (hp : keepA g a D f x s p ≠ 0) :
    lwL g a D (f + 1) x s = p.1 :: lwL g a D f p.2.2.toNat (keepA g a D f x s p) := by
  have hj := (List.getElem?_eq_some_iff.1 h).1
  have : (arcsOf g (x : Int)).find? (fun p => decide (keepA g a D f x s p ≠ 0)) = some p := by
    rw [List.find?_eq_some_iff_getElem]
    refine ⟨by simpa using hp, j, hj, (List.getElem?_eq_some_iff.1 h).2, fun r hr => ?_⟩
    have := hno r _ hr (List.getElem?_eq_getElem (by omega))
    simp [this]
  rw [lwL, this]
theorem lwL_miss {g : Gr} {a : Au} {D : List Int} {f x s : Nat} (hno : ∀ r q, r < (arcsOf g (x : Int)).length → (arcsOf g (x : Int))[r]? = some q → keepA g a D f x s q = 0) : lwL g a D (f + 1) x s = lwL g a D f x s := by
  have : (arcsOf g (x : Int)).find? (fun p => decide (keepA g a D f x s p ≠ 0)) = none := by
    rw [List.find?_eq_none]
    intro p hp
    obtain ⟨r, hr, he⟩ := List.getElem_of_mem hp
    have := hno r p hr (by rw [List.getElem?_eq_getElem hr, he])
    simp [this]
  rw [lwL, this]
set_option maxHeartbeats 8000000 in
set_option maxRecDepth 100000 in
theorem specLeastWitness (vg va : Value) (g : Gr) (a : Au) (x y : Int) (w : World) (hgv : GrV 0 w.heap.size w vg g) (hav : AuV 0 w.heap.size w va a) :
    Calls Tryz.prog 28 #[vg, va, .int .i64 x, .int .i64 y] w fun e w' => ∃ v', e = .returned (.tuple #[v', .bool (lstShort g a x y).2]) ∧ WkO w.heap.size w'.heap.size w' v' (lstShort g a x y).1 ∧ Below w.heap.size w w' := by
  have hgv0 := hgv
  have hav0 := hav
  obtain ⟨A1, n1, c1, A2, n2, c2, rfl⟩ := hgv.shape
  obtain ⟨A3, n3, c3, A4, n4, c4, rfl⟩ := hav.shape
  have hb0 : Below w.heap.size w (((w.alloc (.cells #[.slice A1 n1 c1, .slice A2 n2 c2] 36)).alloc (.cells #[.int .i64 a.start, .slice A3 n3 c3, .slice A4 n4 c4] 38)).alloc (.cells #[.int .i64 0, .slice none 0 0] 59)) := (((Below.refl _ _).alloc (Nat.le_refl _) _).alloc (by simp) _).alloc (by simp; omega) _
  have hbG := ((Blk.new w 36 #[.slice A1 n1 c1, .slice A2 n2 c2] w.heap.size rfl).alloc (.cells #[.int .i64 a.start, .slice A3 n3 c3, .slice A4 n4 c4] 38)).alloc (.cells #[.int .i64 0, .slice none 0 0] 59)
  have hbA := (Blk.new (w.alloc (.cells #[.slice A1 n1 c1, .slice A2 n2 c2] 36)) 38 #[.int .i64 a.start, .slice A3 n3 c3, .slice A4 n4 c4] (w.heap.size + 1) (by simp)).alloc (.cells #[.int .i64 0, .slice none 0 0] 59)
  have hbR := Blk.new ((w.alloc (.cells #[.slice A1 n1 c1, .slice A2 n2 c2] 36)).alloc (.cells #[.int .i64 a.start, .slice A3 n3 c3, .slice A4 n4 c4] 38)) 59 #[.int .i64 0, .slice none 0 0] (w.heap.size + 1 + 1) (by simp)
  have HBG := Lib.hid hbG
  have HBA := Lib.hid hbA
  have HBR := Lib.hid hbR
  have HGV := Lib.hid hgv0
  have HAV := Lib.hid hav0
  have HB0 := Lib.hid hb0
  have HSL := Lib.hid (fun (W : World) (hW : Below w.heap.size w W) => specShortestLength _ _ g a x y W (HGV.out.keep hW) (HAV.out.keep hW))
  clear hgv hav hgv0 hav0 hb0 hbG hbA hbR
  obtain ⟨R, hR⟩ : ∃ R, R = lstShort g a x y := ⟨_, rfl⟩
  rw [← hR]
  by_cases hneg : shortLen g a x y < 0
  · have HF := Lib.hid (show R = ((0, []), false) by rw [hR, lstShort, if_pos hneg])
    generalize shortLen g a x y = SL at *
    clear hR
    go_enter Tryz.func28, Tryz.ntmps28
    go_wp2_with fail
    refine (HSL.out _ HB0.out).mono ?_
    rintro e w1 ⟨rfl, hb1⟩
    have hb2 := below_trans HB0.out hb1
    have bR := HBR.out.keep hb1
    have r0 : w1.cell? ⟨w.heap.size + 1 + 1, 0, none⟩ = some (.int .i64 0) := bR.cell 0
    have r1 : w1.cell? ⟨w.heap.size + 1 + 1, 1, none⟩ = some (.slice none 0 0) := bR.cell 1
    have fr0 := bR.frozen 0
    have fr1 := bR.frozen 1
    have lr := bR.lt
    clear bR
    clear hb1
    go_wp2_with fail
    refine bodyPost_ret (v := .tuple #[.agg #[.int .i64 0, .slice none 0 0], .bool false]) (by simp [results, Tryz.results28, go_sem, r0, r1]) rfl ⟨_, by rw [HF.out], ?_, (hb2.setCell (p := ⟨w.heap.size + 1 + 1, 0, none⟩) (by simp only; omega) _).setCell (p := ⟨w.heap.size + 1 + 1, 1, none⟩) (by simp only; omega) _⟩
    rw [HF.out]
    exact ⟨_, rfl, Own.nil _ _ _ _ _ _⟩
  · have hco := shortLen_ok (show 0 ≤ shortLen g a x y by omega)
    obtain ⟨⟨hx0, hx1⟩, ⟨hy0, hy1⟩, hgo, ha⟩ := cntOk_iff.1 hco
    have hlt := shortLen_lt g a x y
    obtain ⟨L, hL⟩ := Int.eq_ofNat_of_zero_le (show 0 ≤ shortLen g a x y by omega)
    rw [hL] at HSL hlt
    obtain ⟨x, rfl⟩ := Int.eq_ofNat_of_zero_le hx0
    obtain ⟨y, rfl⟩ := Int.eq_ofNat_of_zero_le hy0
    have hxl : x < g.vals.length := by omega
    have hyl : y < g.vals.length := by omega
    have hst0 := (auOk_iff.1 ha).2.1
    have hn12 := (auOk_iff.1 ha).1.2
    have hn5 := (grOk_iff.1 hgo).n5
    have hdl := distTo_len (g := g) (a := a) (y := (y : Int)) (by simp only [Bool.and_eq_true]; exact ⟨by rw [wi_iff]; omega, hgo, ha⟩)
    have hBK := fun (W : World) (hW : Below w.heap.size w W) => l14Back_any _ _ g a y W (HGV.out.keep hW) (HAV.out.keep hW) hgo ha hyl
    obtain ⟨D, hD⟩ : ∃ D, D = distTo g a (y : Int) := ⟨_, rfl⟩
    obtain ⟨SS, hSS⟩ : ∃ SS, SS = lwL g a D L x (bit a.start.toNat) := ⟨_, rfl⟩
    have HF := Lib.hid (show R = (((x : Int), SS), true) by rw [hR, lstShort, if_neg hneg, hL, hSS, hD, Int.toNat_natCast, Int.toNat_natCast])
    rw [← hD] at hdl hBK
    have hd60 : D.length ≤ 60 := by rw [hdl]; exact Nat.mul_le_mul hn5 hn12
    have HDL := Lib.hid hdl
    have HBK := Lib.hid hBK
    have HGO := Lib.hid hgo
    have HA := Lib.hid ha
    have HSS := Lib.hid hSS
    have hn3 : n3 = a.accept.length := by
      obtain ⟨A3', c3', A4', c4', he, -⟩ := HAV.out.form ha
      injection he with he
      simp at he
      exact he.1.2.1
    have HS0 := Lib.hid (show bit a.start.toNat < 2 ^ a.accept.length from bit_lt (by omega))
    obtain ⟨s0, hs0⟩ := Int.eq_ofNat_of_zero_le hst0.1
    have hs12 : s0 < 12 := by omega
    have e1 := shl_bit (s := s0) (by omega)
    have e2 : wrap64 (2 ^ min s0 64) = (bit s0 : Int) := by rw [Nat.min_eq_left (by omega)]; exact e1
    have hst : a.start.toNat = s0 := by omega
    rw [hst] at HSS HS0
    have HE2 := Lib.hid e2
    have HE1 := Lib.hid e1
    have HS00 := Lib.hid hs0
    subst hn3
    clear hneg hco hgo ha hx0 hx1 hy0 hy1 hL hD hSS hR hdl hBK hst hst0 e1 e2 hs0
    have HBX := Lib.hid (show Blk _ (w.heap.size + 1) 38 #[.int .i64 a.start, .slice A3 a.accept.length c3, .slice A4 n4 c4] from HBA.out)
    have hln : ¬ (L : Int) < 0 := by omega
    go_enter Tryz.func28, Tryz.ntmps28
    go_wp2_with fail
    refine (HSL.out _ HB0.out).mono ?_
    rintro e w1 ⟨rfl, hb1⟩
    have hb2 := below_trans HB0.out hb1
    have x0 : w1.cell? ⟨w.heap.size, 0, none⟩ = some (.slice A1 n1 c1) := (HBG.out.keep hb1).cell 0
    have x1 : w1.cell? ⟨w.heap.size, 1, none⟩ = some (.slice A2 n2 c2) := (HBG.out.keep hb1).cell 1
    have y0 : w1.cell? ⟨w.heap.size + 1, 0, none⟩ = some (.int .i64 a.start) := (HBA.out.keep hb1).cell 0
    have y1 : w1.cell? ⟨w.heap.size + 1, 1, none⟩ = some (.slice A3 a.accept.length c3) := (HBA.out.keep hb1).cell 1
    have y2 : w1.cell? ⟨w.heap.size + 1, 2, none⟩ = some (.slice A4 n4 c4) := (HBA.out.keep hb1).cell 2
    have HBG1 := Lib.hid (HBG.out.keep hb1)
    have HBA1 := Lib.hid (HBA.out.keep hb1)
    have HBR1 := Lib.hid (HBR.out.keep hb1)
    clear hb1 HBX
    go_wp2_with fail
    refine (HBK.out _ hb2).mono ?_
    rintro e w2 ⟨vB, rfl, hoB, hb3⟩
    have hb4 := below_trans hb2 hb3
    have HOB := Lib.hid (hoB.sl cI_len)
    obtain ⟨A6, n6, c6, rfl⟩ := hoB.shape
    have HBG2 := Lib.hid (HBG1.out.keep hb3)
    have HBA2 := Lib.hid (HBA1.out.keep hb3)
    have HBR2 := Lib.hid (HBR1.out.keep hb3)
    have HB4 := Lib.hid hb4
    have y0 : w2.cell? ⟨w.heap.size + 1, 0, none⟩ = some (.int .i64 (s0 : Int)) := by rw [← HS00.out]; exact HBA2.out.cell 0
    have hbs := hb4.size
    clear hb2 hb3 hb4 hoB x0 x1 y1 y2
    have ly := HBA2.out.lt
    have lr := HBR2.out.lt
    have HBW2 := Lib.hid (Blk.new w2 59 #[.int .i64 (x : Int), .slice none 0 0] w2.heap.size rfl)
    have HBN2 := Lib.hid ((Below.refl w2.heap.size w2).alloc (Nat.le_refl _) (.cells #[.int .i64 (x : Int), .slice none 0 0] 59))
    have e1 := HE1.out
    go_wp2_with fail
    try rw [HE2.out]
    try rw [HE1.out]
    obtain ⟨bW, hbW⟩ : ∃ bW, bW = w2.heap.size := ⟨_, rfl⟩
    rw [← hbW] at HBW2 HBN2 ly lr hbs ⊢
    have HBWe := Lib.hid hbW
    clear hbW e1 y0
    go_loopw [10, 14, 15] (fun ll nn ss wr => ∃ (f x' s' : Nat) (O : List St) (oo : Value), ll = .int .i64 (f : Int) ∧ nn = .int .i64 (x' : Int) ∧ ss = .int .i64 (s' : Int) ∧ x' < g.vals.length ∧ s' < 2 ^ a.accept.length ∧ O ++ lwL g a D f x' s' = SS ∧ O.length + f ≤ L ∧
        Blk wr bW 59 #[.int .i64 (x : Int), oo] ∧ wr.ownsRow (bW + 1) 86 2 oo O.length (O.flatMap cSt) ∧ Below bW w2 wr) (fun ll _ _ _ => (intOf ll).toNat)
    case atStart => exact ⟨L, x, bit s0, [], _, rfl, rfl, rfl, hxl, HS0.out, HSS.out.symm, by simp, HBW2.out, World.ownsRow_nil _ _ _ _, HBN2.out⟩
    case round =>
      obtain ⟨f1, x', s', O, oo, rfl, rfl, rfl, hxl', hs', hO, hOl, hbw, hrow, hbel⟩ := hrel
      have hsz := hbel.size
      rw [← HBWe.out] at hsz
      have lw := hbw.lt
      have hbelW := HB4.out.trans (hbel.mono (show w.heap.size ≤ bW by omega))
      cases f1 with
      | zero =>
        have hOe : O = SS := by rw [← hO]; simp [lwL]
        have hown := Own.of_row (xs := O) hrow rfl rfl
        rw [hOe] at hown
        obtain ⟨A9, n9, c9, rfl⟩ := hown.shape
        have HOW := Lib.hid hown
        have hbr := HBR2.out.keep (HBWe.out ▸ hbel)
        have w0 : wr.cell? ⟨bW, 0, none⟩ = some (.int .i64 (x : Int)) := hbw.cell 0
        have w1 : wr.cell? ⟨bW, 1, none⟩ = some (.slice A9 n9 c9) := hbw.cell 1
        have q0 : ((wr.setCell ⟨w.heap.size + 1 + 1, 0, none⟩ (.int .i64 (x : Int))).setCell ⟨w.heap.size + 1 + 1, 1, none⟩ (.slice A9 n9 c9)).cell? ⟨w.heap.size + 1 + 1, 0, none⟩ = some (.int .i64 (x : Int)) := by simpa using ((hbr.set_ 0 (.int .i64 (x : Int))).set_ 1 (.slice A9 n9 c9)).cell 0
        have q1 : ((wr.setCell ⟨w.heap.size + 1 + 1, 0, none⟩ (.int .i64 (x : Int))).setCell ⟨w.heap.size + 1 + 1, 1, none⟩ (.slice A9 n9 c9)).cell? ⟨w.heap.size + 1 + 1, 1, none⟩ = some (.slice A9 n9 c9) := by simpa using ((hbr.set_ 0 (.int .i64 (x : Int))).set_ 1 (.slice A9 n9 c9)).cell 1
        have fr0 := hbr.frozen 0
        have fr1 := hbr.frozen 1
        have q2 : (wr.setCell ⟨w.heap.size + 1 + 1, 0, none⟩ (.int .i64 (x : Int))).cell? ⟨w.heap.size + 1 + 1, 0, none⟩ = some (.int .i64 (x : Int)) := by simpa using (hbr.set_ 0 (.int .i64 (x : Int))).cell 0
        have HQ := Lib.hid (And.intro q0 (And.intro q1 q2))
        clear q0 q1 q2
        have q0 : wr.cell? ⟨w.heap.size + 1 + 1, 0, none⟩ = some (.int .i64 0) := hbr.cell 0
        have q1 : wr.cell? ⟨w.heap.size + 1 + 1, 1, none⟩ = some (.slice none 0 0) := hbr.cell 1
        have lrr := hbr.lt
        have HBEL := Lib.hid hbelW
        have hbn : ∀ b, b ≠ w.heap.size + 1 + 1 → ((wr.setCell ⟨w.heap.size + 1 + 1, 0, none⟩ (.int .i64 (x : Int))).setCell ⟨w.heap.size + 1 + 1, 1, none⟩ (.slice A9 n9 c9)).heap[b]? = wr.heap[b]? := fun b hb => by rw [Below.heap_setCell _ _ _ _ hb, Below.heap_setCell _ _ _ _ hb]
        have HBN := Lib.hid hbn
        clear hO hOe hown hbr hbw hrow hbel hbelW hbn hs'
        go_wp2_with fail
        have HBS := Lib.hid ((HBEL.out.setCell (p := ⟨w.heap.size + 1 + 1, 0, none⟩) (by simp only; omega) (.int .i64 (x : Int))).setCell (p := ⟨w.heap.size + 1 + 1, 1, none⟩) (by simp only; omega) (.slice A9 n9 c9))
        obtain ⟨hq0, hq1, hq2⟩ := HQ.out
        have hwes : ((wr.setCell ⟨w.heap.size + 1 + 1, 0, none⟩ (.int .i64 (x : Int))).setCell ⟨w.heap.size + 1 + 1, 1, none⟩ (.slice A9 n9 c9)).heap.size = wr.heap.size := by simp [World.setCell]
        refine bodyPost_ret (v := .tuple #[.agg #[.int .i64 (x : Int), .slice A9 n9 c9], .bool true]) (by simp [results, Tryz.results28, go_sem, hq0, hq1, hq2]) rfl ⟨_, by rw [HF.out], ?_, HBS.out⟩
        rw [HF.out]
        exact ⟨_, rfl, (own_blocksW HOW.out (fun b hb => HBN.out b (by have := HOW.out.lt b hb; omega))).mono (by omega) (by omega)⟩
      | succ f =>
        have hbW2 := HBWe.out
        have hkeepW := (HBWe.out ▸ hbel : Below w2.heap.size w2 wr)
        have x0 : wr.cell? ⟨w.heap.size, 0, none⟩ = some (.slice A1 n1 c1) := (HBG2.out.keep hkeepW).cell 0
        have x1 : wr.cell? ⟨w.heap.size, 1, none⟩ = some (.slice A2 n2 c2) := (HBG2.out.keep hkeepW).cell 1
        have y0 : wr.cell? ⟨w.heap.size + 1, 0, none⟩ = some (.int .i64 a.start) := (HBA2.out.keep hkeepW).cell 0
        have y1 : wr.cell? ⟨w.heap.size + 1, 1, none⟩ = some (.slice A3 a.accept.length c3) := (HBA2.out.keep hkeepW).cell 1
        have y2 : wr.cell? ⟨w.heap.size + 1, 2, none⟩ = some (.slice A4 n4 c4) := (HBA2.out.keep hkeepW).cell 2
        have qf : ((f + 1 : Nat) : Int) - 1 = (f : Int) := by omega
        have qf2 : IntKind.i64.wrap (((f + 1 : Nat) : Int) - 1) = (f : Int) := by rw [qf]; exact IntWalk.i64_in _ (by omega)
        have qf3 : (0 : Int) < ((f + 1 : Nat) : Int) := by omega
        obtain ⟨F1, hF1⟩ : ∃ F1, F1 = f + 1 := ⟨_, rfl⟩
        rw [← hF1] at qf qf2 qf3 hO hOl ⊢
        have hF1a : f + 1 ≤ F1 := by omega
        have HF1 := Lib.hid hF1
        have HBW := Lib.hid hbw
        have HROW := Lib.hid hrow
        have HBEL := Lib.hid hbel
        have HBELW := Lib.hid hbelW
        have HO := Lib.hid hO
        have HS' := Lib.hid hs'
        clear hbw hrow hbel hbelW hO hkeepW hbW2 hF1 hs'
        go_wp2_with fail
        clear qf2
        refine (l4From_any _ g x' _ (HGV.out.keep HBELW.out) (grOk_iff.1 HGO.out).e12).mono ?_
        rintro e w5 ⟨v5, rfl, ho5, hb5⟩
        obtain ⟨A5, n5, c5, rfl⟩ := ho5.shape
        have hn5e : n5 = (arcsOf g (x' : Int)).length := by
          obtain ⟨_, _, he, -⟩ := ho5.sl cSt_len
          injection he with _ he _
          rw [he, List.length_map]
        rw [hn5e] at ho5 ⊢
        have HO5 := Lib.hid (ho5.sl cSt_len)
        have HRL := Lib.hid (fun b (hb : oo.ownBlock = some b) => HROW.out.lt b hb)
        have HBW5 := Lib.hid (HBW.out.keep hb5)
        have HROW5 := Lib.hid (ownsRow_block HROW.out (fun b hb => hb5.block b (HROW.out.lt b hb).2))
        have HBEL5 := Lib.hid (HBEL.out.trans (hb5.mono hsz))
        have hs5 := hb5.size
        clear ho5 hn5e hb5 x0 x1 y0 y1 y2 HBW HROW HBEL
        have HAL := Lib.hid (arcs_len (grOk_iff.1 HGO.out) (x' : Int))
        go_wp2_with fail
        go_loopw [14, 15, 17, 18] (fun nn ss bb ii wi => ∃ (j x1 s1 : Nat) (b : Bool) (O1 : List St) (o1 : Value), nn = .int .i64 (x1 : Int) ∧ ss = .int .i64 (s1 : Int) ∧ bb = .bool b ∧ ii = .int .i64 (j : Int) ∧ j ≤ (arcsOf g (x' : Int)).length ∧
            Blk wi bW 59 #[.int .i64 (x : Int), o1] ∧ wi.ownsRow (bW + 1) 86 2 o1 O1.length (O1.flatMap cSt) ∧ Below bW w2 wi ∧
            (b = false → x1 = x' ∧ s1 = s' ∧ O1 = O ∧ o1 = oo ∧ Below w5.heap.size w5 wi ∧ ∀ r q, r < j → (arcsOf g (x' : Int))[r]? = some q → keepA g a D f x' s' q = 0) ∧
            (b = true → x1 < g.vals.length ∧ s1 < 2 ^ a.accept.length ∧ O1 ++ lwL g a D f x1 s1 = SS ∧ O1.length + f ≤ L)) (fun _ _ _ ii _ => (arcsOf g (x' : Int)).length - (intOf ii).toNat)
        case atStart => exact ⟨0, x', s', false, O, oo, rfl, rfl, rfl, rfl, Nat.zero_le _, HBW5.out, HROW5.out, HBEL5.out, fun _ => ⟨rfl, rfl, rfl, rfl, Below.refl _ _, fun r q hr => by omega⟩, fun h => by cases h⟩
        case round =>
          clear HBW5 HROW5 HBEL5
          obtain ⟨j, x1, s1, b, O1, o1, rfl, rfl, rfl, rfl, hj, hbw, hrow, hbel, hno, hyes⟩ := hrel
          cases b with
          | true =>
            have hy := hyes rfl
            have HY := Lib.hid hy
            have HBW := Lib.hid hbw
            have HROW := Lib.hid hrow
            have HBEL := Lib.hid hbel
            clear hno hyes hy hbw hrow hbel
            by_cases hlj : j < (arcsOf g (x' : Int)).length
            · have hjj : (j : Int) < ((arcsOf g (x' : Int)).length : Int) := by omega
              go_wp2_with fail
              go_roundw
              case rel => exact ⟨f, x1, s1, O1, o1, rfl, rfl, rfl, HY.out.1, HY.out.2.1, HY.out.2.2.1, HY.out.2.2.2, HBW.out, HROW.out, HBEL.out⟩
              case measure => have := HF1.out; simp [intOf]; omega
            · have hjj : ¬ (j : Int) < ((arcsOf g (x' : Int)).length : Int) := by omega
              go_wp2_with fail
              go_roundw
              case rel => exact ⟨f, x1, s1, O1, o1, rfl, rfl, rfl, HY.out.1, HY.out.2.1, HY.out.2.2.1, HY.out.2.2.2, HBW.out, HROW.out, HBEL.out⟩
              case measure => have := HF1.out; simp [intOf]; omega
          | false =>
            obtain ⟨rfl, rfl, rfl, rfl, hb5w, hmiss⟩ := hno rfl
            clear hyes hno
            by_cases hlj : j < (arcsOf g (x1 : Int)).length
            · have hyi : (arcsOf g (x1 : Int))[j]? = some (arcsOf g (x1 : Int))[j] := List.getElem?_eq_getElem hlj
              have hym := List.getElem_mem hlj
              generalize (arcsOf g (x1 : Int))[j] = p at hyi hym
              have hyr := arc_range (grOk_iff.1 HGO.out) hym
              obtain ⟨e, he, hel, het⟩ := arc_stepEd HGO.out hym
              have HMISS := Lib.hid hmiss
              have HHIT := Lib.hid (fun h => lwL_hit (a := a) (D := D) (f := f) (s := s1) hyi hmiss h)
              have HNEXT := Lib.hid (fun (h : keepA g a D f x1 s1 p = 0) r q (hr : r < j + 1) (hq : (arcsOf g (x1 : Int))[r]? = some q) => show keepA g a D f x1 s1 q = 0 from by
                rcases Nat.lt_or_ge r j with h1 | h1
                · exact hmiss r q h1 hq
                · obtain rfl : r = j := by omega
                  rw [hyi] at hq
                  injection hq with hq
                  rw [← hq]; exact h)
              obtain ⟨⟨sid, sinv⟩, l, t⟩ := p
              simp only at hyr he hel het
              obtain ⟨l, rfl⟩ := Int.eq_ofNat_of_zero_le hyr.1.1
              obtain ⟨t, rfl⟩ := Int.eq_ofNat_of_zero_le hyr.2.1
              have htl : t < g.vals.length := by omega
              have HNX := Lib.hid (fun (W : World) (hW : Below w.heap.size w W) => by
                have h := l18Next_any _ _ g a x1 s1 (sid, sinv) e l W (HGV.out.keep hW) (HAV.out.keep hW) HGO.out HA.out hxl' HS'.out he hel
                rw [het] at h
                exact h)
              have hMl := aft_lt HA.out s1 (valAt g x1) l
              have hM4 := lt12 HA.out hMl
              have hKA : keepA g a D f x1 s1 ((sid, sinv), (l : Int), (t : Int)) = keepTo D a.accept.length t (aft a s1 (valAt g x1) l) f a.accept.length := by rw [keepA, keepK]; simp
              have hKlt : keepA g a D f x1 s1 ((sid, sinv), (l : Int), (t : Int)) < 2 ^ a.accept.length := by rw [hKA]; exact keepTo_lt ..
              have HKE := Lib.hid hKA
              have HKLT := Lib.hid hKlt
              have hK4 := lt12 HA.out hKlt
              obtain ⟨KP, hKP⟩ : ∃ KP, KP = keepA g a D f x1 s1 ((sid, sinv), (l : Int), (t : Int)) := ⟨_, rfl⟩
              rw [← hKP] at HKE HKLT hK4 HHIT HNEXT
              simp only [Int.toNat_natCast] at HHIT
              have hsl := HO5.out.below hb5w (Nat.le_refl _)
              obtain ⟨b8, o8, rfl, hb8, e0, e1⟩ := hsl.stI (i := j) (x := (sid, sinv)) (by rw [List.getElem?_map, hyi]; rfl)
              simp only at e0 e1
              have hkeepW := (HBWe.out ▸ hbel : Below w2.heap.size w2 wr)
              have u0 : wr.cell? ⟨w.heap.size, 0, none⟩ = some (.slice A1 n1 c1) := (HBG2.out.keep hkeepW).cell 0
              have u1 : wr.cell? ⟨w.heap.size, 1, none⟩ = some (.slice A2 n2 c2) := (HBG2.out.keep hkeepW).cell 1
              have v0 : wr.cell? ⟨w.heap.size + 1, 0, none⟩ = some (.int .i64 a.start) := (HBA2.out.keep hkeepW).cell 0
              have v1 : wr.cell? ⟨w.heap.size + 1, 1, none⟩ = some (.slice A3 a.accept.length c3) := (HBA2.out.keep hkeepW).cell 1
              have v2 : wr.cell? ⟨w.heap.size + 1, 2, none⟩ = some (.slice A4 n4 c4) := (HBA2.out.keep hkeepW).cell 2
              have HBW := Lib.hid hbw
              have HROW := Lib.hid hrow
              have HBEL := Lib.hid hbel
              have HB5W := Lib.hid hb5w
              have HBLW := Lib.hid (HB4.out.trans (hbel.mono (show w.heap.size ≤ bW by omega)))
              have HDW := Lib.hid ((HOB.out.below hkeepW (Nat.le_refl _)).all (HBWe.out ▸ hbel.size : w2.heap.size ≤ wr.heap.size))
              have hjj : (j : Int) < ((arcsOf g (x1 : Int)).length : Int) := by omega
              have hsw := hb5w.size
              have hb8w : b8 < wr.heap.size := World.block_lt_of_cell? _ _ e0
              have lw0 : w.heap.size < wr.heap.size := World.block_lt_of_cell? _ _ u0
              have lw1 : w.heap.size + 1 < wr.heap.size := World.block_lt_of_cell? _ _ v0
              have hlw := hbw.lt
              obtain ⟨wq, hwq⟩ : ∃ wq : World, wq = wr := ⟨_, rfl⟩
              rw [← hwq] at HBW HROW HBEL HB5W HBLW HDW u0 u1 v0 v1 v2 e0 e1 hsw hb8w lw0 lw1 hlw ⊢
              clear hwq hbw hrow hbel hb5w hsl hyi hym hmiss he hel het hKA hKlt hKP hkeepW hMl
              go_upto_region 16 with fail
              refine wp_region_ext_lit (by kernel_rfl) (by kernel_rfl) ?_
              repeat (go_big_quiet_step ((go_at_call 58; exact Calls.ext_of (HNX.out _ (below_trans HBLW.out (ext_below _ _))))))
              refine wpQuiet_nil ?_
              intro _ hw'
              obtain ⟨u2, hw''⟩ := hw'
              subst hw''
              have hbU := ext_below wq u2
              have HBU := Lib.hid hbU
              have hal := arcs_len (grOk_iff.1 HGO.out) (x1 : Int)
              have hj24 : j ≤ 24 := by omega
              have hmn : t * a.accept.length + a.accept.length ≤ D.length := by
                rw [HDL.out, ← Nat.succ_mul]
                exact Nat.mul_le_mul_right _ htl
              have HKC := Lib.hid (fun (W : World) (hW : SlE W cI 1 (.slice A6 n6 c6) D) => l18Keep_any _ D a.accept.length t (aft a s1 (valAt g x1) l) f W hW hmn hd60 hn12 hM4 (by omega))
              rw [← HKE.out] at HKC
              generalize aft a s1 (valAt g x1) l = MM at *
              clear hmn hbU
              go_wp2_with fail
              refine (HKC.out _ (HDW.out.keep HBU.out)).mono ?_
              rintro e w7 ⟨rfl, hb7⟩
              have hbx := below_trans HBU.out hb7
              by_cases hz : KP = 0
              · have HNZ := Lib.hid (HNEXT.out hz)
                subst hz
                have HBX := Lib.hid hbx
                clear hbx hb7
                go_wp2_with fail
                go_roundw
                case rel => exact ⟨j + 1, x1, s1, false, O1, o1, rfl, rfl, rfl, by go_num, by omega, HBW.out.keep HBX.out, ownsRow_block HROW.out (fun b hb => HBX.out.block b (HROW.out.lt b hb).2), HBEL.out.trans (HBX.out.mono (Nat.le_of_lt hlw)), fun _ => ⟨rfl, rfl, rfl, rfl, HB5W.out.trans (HBX.out.mono hsw), HNZ.out⟩, fun h => by cases h⟩
                case measure => simp [intOf]; omega
              · have hzb : (KP : Int) ≠ 0 := by omega
                have hzn : ((KP : Int) != 0) = true := by simpa using hz
                have HH := Lib.hid (HHIT.out hz)
                obtain ⟨A9, n9, c9, ho1⟩ := (Own.of_row (xs := O1) HROW.out rfl rfl).shape
                subst ho1
                have v1 : wq.cell? ⟨bW, 1, none⟩ = some (.slice A9 n9 c9) := HBW.out.cell 1
                have v1 := kcell hbx v1
                have s0 := kcell hbx e0
                have s1c := kcell hbx e1
                have HBWX := Lib.hid (HBW.out.keep hbx)
                have HROWX := Lib.hid (ownsRow_block HROW.out (fun b hb => hbx.block b (HROW.out.lt b hb).2))
                have HBELX := Lib.hid (HBEL.out.trans (hbx.mono (Nat.le_of_lt hlw)))
                have hsx := hbx.size
                have hO60 : O1.length ≤ 60 := by omega
                have hrl := HRL.out
                have lWx : bW < w7.heap.size := by omega
                have hHRL : ∀ b, (Value.slice A9 n9 c9).ownBlock = some b → bW + 1 ≤ b ∧ b < wq.heap.size := fun b hb => ⟨(hrl b hb).1, by have := (HROW.out.lt b hb).2; omega⟩
                have HR2 := Lib.hid hHRL
                clear hbx hb7 e0 e1 u0 u1 v0 v2 hHRL hrl
                go_upto_region 19 with fail
                refine F_start 9 (fun w' => w'.cell? ⟨bW, 1, none⟩ = some (.slice A9 n9 c9) ∧ w'.cell? ⟨b8, o8 + j * 2, none⟩ = some (.int .i64 sid) ∧ w'.cell? ⟨b8, o8 + j * 2 + 1, none⟩ = some (.bool sinv)) (by kernel_rfl) (by exact ⟨v1, s0, s1c⟩) (fun hS inv => ?_)
                refine F_take (i := 0) (v := ?_) rfl (by kernel_rfl) (by kernel_rfl) (by kernel_rfl) (fun _ _ _ h => h) inv (Or.inl ⟨by rfl, ?_⟩) (by assumption) (fun invn => ?_)
                rotate_left
                · (intro w hSw; (try dsimp only at hSw); go_simp; try with_reducible rfl)
                try simp only [List.getElem_toArray, List.getElem_cons_zero, List.getElem_cons_succ, Act.put, List.setIfInBounds_toArray, List.set_cons_zero, List.set_cons_succ]
                clear inv
                have inv := invn
                clear invn
                refine F_take (i := 1) (v := ?_) rfl (by kernel_rfl) (by kernel_rfl) (by kernel_rfl) (fun _ _ _ h => h) inv (Or.inl ⟨by rfl, ?_⟩) (by assumption) (fun invn => ?_)
                rotate_left
                · (intro w hSw; (try dsimp only at hSw); go_simp; try with_reducible rfl)
                try simp only [List.getElem_toArray, List.getElem_cons_zero, List.getElem_cons_succ, Act.put, List.setIfInBounds_toArray, List.set_cons_zero, List.set_cons_succ]
                clear inv
                have inv := invn
                clear invn
                refine F_take (i := 2) (v := ?_) rfl (by kernel_rfl) (by kernel_rfl) (by kernel_rfl) (fun _ _ _ h => h) inv (Or.inl ⟨by rfl, ?_⟩) (by assumption) (fun invn => ?_)
                rotate_left
                · (intro w hSw; (try dsimp only at hSw); go_simp; try with_reducible rfl)
                try simp only [List.getElem_toArray, List.getElem_cons_zero, List.getElem_cons_succ, Act.put, List.setIfInBounds_toArray, List.set_cons_zero, List.set_cons_succ]
                clear inv
                have inv := invn
                clear invn
                refine F_take (i := 3) (v := ?_) rfl (by kernel_rfl) (by kernel_rfl) (by kernel_rfl) (fun _ _ _ h => h) inv (Or.inl ⟨by rfl, ?_⟩) (by assumption) (fun invn => ?_)
                rotate_left
                · (intro w hSw; (try dsimp only at hSw); go_simp; try with_reducible rfl)
                try simp only [List.getElem_toArray, List.getElem_cons_zero, List.getElem_cons_succ, Act.put, List.setIfInBounds_toArray, List.set_cons_zero, List.set_cons_succ]
                clear inv
                have inv := invn
                clear invn
                refine F_take (i := 4) (v := ?_) rfl (by kernel_rfl) (by kernel_rfl) (by kernel_rfl) (fun _ _ _ h => h) inv (Or.inl ⟨by rfl, ?_⟩) (by assumption) (fun invn => ?_)
                rotate_left
                · (intro w hSw; (try dsimp only at hSw); go_simp; try with_reducible rfl)
                try simp only [List.getElem_toArray, List.getElem_cons_zero, List.getElem_cons_succ, Act.put, List.setIfInBounds_toArray, List.set_cons_zero, List.set_cons_succ]
                clear inv
                have inv := invn
                clear invn
                refine F_take (i := 5) (v := ?_) rfl (by kernel_rfl) (by kernel_rfl) (by kernel_rfl) (fun _ _ _ h => h) inv (Or.inl ⟨by rfl, ?_⟩) (by assumption) (fun invn => ?_)
                rotate_left
                · (intro w hSw; (try dsimp only at hSw); go_simp; try with_reducible rfl)
                try simp only [List.getElem_toArray, List.getElem_cons_zero, List.getElem_cons_succ, Act.put, List.setIfInBounds_toArray, List.set_cons_zero, List.set_cons_succ]
                clear inv
                have inv := invn
                clear invn
                refine F_one (i := 6) (by kernel_rfl) rfl rfl (by omega) inv (fun K hK => ?_)
                try simp only [List.getElem_toArray, List.getElem_cons_zero, List.getElem_cons_succ]
                go_simp
                refine hK.out _ _ (kA3 _ hS) (fun hSn invn => ?_)
                try simp only [List.getElem_toArray, List.getElem_cons_zero, List.getElem_cons_succ, Act.put, List.setIfInBounds_toArray, List.set_cons_zero, List.set_cons_succ]
                clear hK K inv hS
                have inv := invn
                have hS := hSn
                clear invn hSn
                refine F_one (i := 7) (by kernel_rfl) rfl rfl (by omega) inv (fun K hK => ?_)
                try simp only [List.getElem_toArray, List.getElem_cons_zero, List.getElem_cons_succ]
                refine op_append1 cSt elStW rfl _ _ (by rfl) (bW + 1) (.slice A9 n9 c9) O1 (sid, sinv) 1 _ (by rfl) (show ((w7.alloc (.cells #[.int .i64 sid, .bool sinv] 86)).drew).ownsRow (bW + 1) 86 2 (.slice A9 n9 c9) O1.length (O1.flatMap cSt) from HROWX.out.alloc _) (by first | rfl | simp) (heap_alloc_new _ _) rfl (cSt_one _) (by omega) (by omega) (by simp; omega) ?_
                intro g2 cp2 w3 hown3 hgr3 hat3 hlt3
                have hrl := HR2.out
                have g3 : ∀ b, b < w7.heap.size → (Value.slice A9 n9 c9).ownBlock ≠ some b → w3.heap[b]? = w7.heap[b]? := fun b hb hn => (hgr3.block b (by simp; omega) (fun e => hn e.symm)).trans (Below.heap_alloc w7 _ b hb)
                have hs3 : w7.heap.size < w3.heap.size := by have := hgr3.size; simp at this; omega
                have nw : (Value.slice A9 n9 c9).ownBlock ≠ some bW := fun e => by have := hrl _ e; omega
                have n8 : (Value.slice A9 n9 c9).ownBlock ≠ some b8 := fun e => by have := HRL.out _ e; omega
                have hbw3 : Blk w3 bW 59 #[.int .i64 (x : Int), .slice A9 n9 c9] := (g3 bW (by omega) nw).trans HBWX.out
                have v1' : w3.cell? ⟨bW, 1, none⟩ = some (.slice A9 n9 c9) := hbw3.cell 1
                have f1' := hbw3.frozen 1
                have l1' := hbw3.lt
                refine hK.out _ _ (⟨hgr3.cell hS.1 (fun e => by have := hrl _ e.symm; simp only at this; omega), hgr3.cell hS.2.1 (fun e => by have := HRL.out _ e.symm; simp only at this; omega), hgr3.cell hS.2.2 (fun e => by have := HRL.out _ e.symm; simp only at this; omega)⟩) (fun hSn invn => ?_)
                try simp only [List.getElem_toArray, List.getElem_cons_zero, List.getElem_cons_succ, Act.put, List.setIfInBounds_toArray, List.set_cons_zero, List.set_cons_succ]
                clear hK K inv hS
                have inv := invn
                have hS := hSn
                clear invn hSn
                refine F_take (i := 8) (v := ?_) rfl (by kernel_rfl) (by kernel_rfl) (by kernel_rfl) (fun _ _ _ h => h) inv (Or.inl ⟨by rfl, ?_⟩) (by assumption) (fun invn => ?_)
                rotate_left
                · (intro w hSw; (try dsimp only at hSw); go_simp; try with_reducible rfl)
                try simp only [List.getElem_toArray, List.getElem_cons_zero, List.getElem_cons_succ, Act.put, List.setIfInBounds_toArray, List.set_cons_zero, List.set_cons_succ]
                clear inv
                have inv := invn
                clear invn
                refine F_last (i := 9) (by kernel_rfl) rfl rfl (by omega) (by kernel_rfl) (fun K hK => ?_)
                go_simp
                refine hK _ _ ?_
                clear hK K inv hS
                obtain ⟨w4, hw4⟩ : ∃ w4, w4 = w3.setCell ⟨bW, 1, none⟩ (.slice (some ⟨g2, 0, none⟩) (O1.length + 1) cp2) := ⟨_, rfl⟩
                have hs4w : w3.heap.size = w4.heap.size := by rw [hw4]; simp [World.setCell]
                have g4 : ∀ b, b < w3.heap.size → b ≠ bW → w4.heap[b]? = w3.heap[b]? := fun b hb hne => by rw [hw4]; exact Below.heap_setCell w3 ⟨bW, 1, none⟩ _ b hne
                have hbw4 : Blk w4 bW 59 #[.int .i64 (x : Int), .slice (some ⟨g2, 0, none⟩) (O1.length + 1) cp2] := by
                  have h := hbw3.set_ 1 (.slice (some ⟨g2, 0, none⟩) (O1.length + 1) cp2)
                  rw [← hw4] at h
                  simpa using h
                have hg2 : g2 ≠ bW := by
                  rcases hat3 with h | h
                  · have := hrl g2 h; omega
                  · simp at h; omega
                have hrow4 := ownsRow_block (w' := w4) hown3 (fun b hb => by
                  have he : g2 = b := by simpa [Value.ownBlock] using hb
                  exact g4 b (by omega) (by rw [← he]; exact hg2))
                have hbl4 : Below bW w2 w4 := by
                  rw [hw4]
                  have h1 : Below bW w2 ((w7.alloc (.cells #[.int .i64 sid, .bool sinv] 86)).drew) := (HBELX.out.alloc (by omega) _).drew
                  exact (h1.grown hgr3 (by simp; omega) (fun b hb => by have := hrl b hb; omega)).setCell (by simp only; omega) _
                have HBW4 := Lib.hid hbw4
                have HROW4 := Lib.hid hrow4
                have HBL4 := Lib.hid hbl4
                rw [← hw4]
                clear hw4 hbw4 hrow4 hbl4 g4 g3 hbw3 v1' f1' l1' hown3 hgr3 hat3 hlt3 hrl nw n8 v1 s0 s1c
                go_wp2_with fail
                go_roundw
                case rel =>
                  refine ⟨j + 1, t, KP, true, O1 ++ [(sid, sinv)], _, rfl, rfl, rfl, by go_num, by omega, HBW4.out, HROW4.out, HBL4.out, (fun h => by cases h), fun _ => ⟨htl, HKLT.out, ?_, by simp; omega⟩⟩
                  have h := HO.out
                  rw [HF1.out, HH.out] at h
                  rw [List.append_assoc]; exact h
                case measure => simp [intOf]; omega
            · obtain rfl : j = (arcsOf g (x1 : Int)).length := by omega
              have HM := Lib.hid (lwL_miss hmiss)
              have HBW := Lib.hid hbw
              have HROW := Lib.hid hrow
              have HBEL := Lib.hid hbel
              have hjj : ¬ ((arcsOf g (x1 : Int)).length : Int) < ((arcsOf g (x1 : Int)).length : Int) := by omega
              clear hbw hrow hbel hb5w hmiss
              go_wp2_with fail
              go_roundw
              case rel => exact ⟨f, x1, s1, O1, o1, rfl, rfl, rfl, hxl', HS'.out, by rw [← HM.out, ← HF1.out]; exact HO.out, by omega, HBW.out, HROW.out, HBEL.out⟩
              case measure => have := HF1.out; simp [intOf]; omega
end Go.Proofs.YtpbfdmfkmbdpkaaGreat

/- The searches for trails and simple paths, plainly: depth first over the arcs in their order, with a budget of calls. -/
namespace Go.Proofs.YtpbfdmfkmbdpkaaGreat
set_option linter.unusedVariables false
set_option linter.unusedSimpArgs false
open Go.ChangeShapes Go.WideShapes Go.ChangeAt Go.RowKit

/-- a state that is at most lf steps from the end -/
def hopeC (D : List Int) (n x lf q : Nat) : Bool := wi (D.getD (x * n + q) 0) 0 (lf : Int)
def hope (D : List Int) (n x s lf : Nat) : Bool := (mem 12 s).any (hopeC D n x lf)
def keyA (sm : Bool) (p : Arc) : Int := if sm then p.2.2 else p.1.1
def skipA (g : Gr) (a : Au) (D : List Int) (sm : Bool) (x s : Nat) (us : List Int) (lf : Nat) (p : Arc) : Bool :=
  decide (aft a s (valAt g x) p.2.1.toNat = 0) || (us.contains (keyA sm p) || !hope D a.accept.length p.2.2.toNat (aft a s (valAt g x) p.2.1.toNat) lf)
abbrev Vis := Option (List St) × Nat
def visC (g : Gr) (a : Au) (D : List Int) (sm : Bool) (rec : Nat → Nat → List Int → Nat → Vis) (x s : Nat) (us : List Int) (lf : Nat) : List Arc → Nat → Vis
  | [], c => (none, c)
  | p :: ps, c => if skipA g a D sm x s us lf p = true then visC g a D sm rec x s us lf ps c else
    match rec p.2.2.toNat (aft a s (valAt g x) p.2.1.toNat) (us ++ [keyA sm p]) c with
    | (some r, c') => (some (p.1 :: r), c')
    | (none, c') => visC g a D sm rec x s us lf ps c'
def visit (g : Gr) (a : Au) (y : Int) (B : Nat) (D : List Int) (sm : Bool) : Nat → Nat → Nat → List Int → Nat → Vis
  | 0, x, s, _, c => if B ≤ c then (none, c) else (if (decide ((x : Int) = y) && acc a s (valAt g x)) = true then some [] else none, c + 1)
  | lf + 1, x, s, us, c => if B ≤ c then (none, c) else visC g a D sm (visit g a y B D sm lf) x s us lf (arcsOf g (x : Int)) (c + 1)
/-- what is left of a visit at arc i -/
def visF (g : Gr) (a : Au) (y : Int) (B : Nat) (D : List Int) (sm : Bool) (lf x s : Nat) (us : List Int) (i c : Nat) : Vis := visC g a D sm (visit g a y B D sm lf) x s us lf ((arcsOf g (x : Int)).drop i) c
section
variable {g : Gr} {a : Au} {y : Int} {B : Nat} {D : List Int} {sm : Bool} {lf x s : Nat} {us : List Int} {i c : Nat}
theorem visit_out (h : B ≤ c) : visit g a y B D sm lf x s us c = (none, c) := by
  cases lf with
  | zero => rw [visit, if_pos h]
  | succ lf => rw [visit, if_pos h]
theorem visit_zero (h : c < B) : visit g a y B D sm 0 x s us c = (if (decide ((x : Int) = y) && acc a s (valAt g x)) = true then some [] else none, c + 1) := by rw [visit, if_neg (by omega)]
def endV (b : Bool) (c : Nat) : Vis := (if b = true then some [] else none, c)
theorem endV_some (b : Bool) (c : Nat) : (endV b c).1.isSome = b := by cases b <;> rfl
theorem endV_get (b : Bool) (c : Nat) : (endV b c).1.getD [] = [] := by cases b <;> rfl
theorem endV_two (b : Bool) (c : Nat) : (endV b c).2 = c := rfl
theorem visit_zeroV (h : c < B) : visit g a y B D sm 0 x s us c = endV (decide ((x : Int) = y) && acc a s (valAt g x)) (c + 1) := visit_zero h
theorem visit_succ (h : c < B) : visit g a y B D sm (lf + 1) x s us c = visF g a y B D sm lf x s us 0 (c + 1) := by rw [visit, if_neg (by omega), visF, List.drop_zero]
theorem visF_end : visF g a y B D sm lf x s us (arcsOf g (x : Int)).length c = (none, c) := by rw [visF, List.drop_length, visC]
theorem drop_at {α : Type} {l : List α} {i : Nat} {p : α} (h : l[i]? = some p) : l.drop i = p :: l.drop (i + 1) := by
  obtain ⟨h1, h2⟩ := List.getElem?_eq_some_iff.1 h
  rw [List.drop_eq_getElem_cons h1, h2]
theorem visF_skip {p : Arc} (h : (arcsOf g (x : Int))[i]? = some p) (hs : skipA g a D sm x s us lf p = true) : visF g a y B D sm lf x s us i c = visF g a y B D sm lf x s us (i + 1) c := by
  rw [visF, drop_at h, visC, if_pos hs, visF]
theorem visF_yes {p : Arc} {r : List St} {c' : Nat} (h : (arcsOf g (x : Int))[i]? = some p) (hs : ¬ skipA g a D sm x s us lf p = true)
    (hr : visit g a y B D sm lf p.2.2.toNat (aft a s (valAt g x) p.2.1.toNat) (us ++ [keyA sm p]) c = (some r, c')) : visF g a y B D sm lf x s us i c = (some (p.1 :: r), c') := by
  rw [visF, drop_at h, visC, if_neg hs, hr]
theorem visF_no {p : Arc} {c' : Nat} (h : (arcsOf g (x : Int))[i]? = some p) (hs : ¬ skipA g a D sm x s us lf p = true)
    (hr : visit g a y B D sm lf p.2.2.toNat (aft a s (valAt g x) p.2.1.toNat) (us ++ [keyA sm p]) c = (none, c')) : visF g a y B D sm lf x s us i c = visF g a y B D sm lf x s us (i + 1) c' := by
  rw [visF, drop_at h, visC, if_neg hs, hr, visF]
theorem skipA_eq {p : Arc} {t M : Nat} {k : Int} (ht : p.2.2 = (t : Int)) (hm : aft a s (valAt g x) p.2.1.toNat = M) (hk : keyA sm p = k) : skipA g a D sm x s us lf p = (decide (M = 0) || (us.contains k || !hope D a.accept.length t M lf)) := by rw [skipA, hm, hk, ht, Int.toNat_natCast]
theorem visF_skip2 {p : Arc} {t M : Nat} {k : Int} (h : (arcsOf g (x : Int))[i]? = some p) (ht : p.2.2 = (t : Int)) (hm : aft a s (valAt g x) p.2.1.toNat = M) (hk : keyA sm p = k) (hs : (decide (M = 0) || (us.contains k || !hope D a.accept.length t M lf)) = true) :
    visF g a y B D sm lf x s us i c = visF g a y B D sm lf x s us (i + 1) c := visF_skip h (by rw [skipA_eq ht hm hk, hs])
theorem visF_yes2 {p : Arc} {t M : Nat} {k : Int} {r : List St} {c' : Nat} (h : (arcsOf g (x : Int))[i]? = some p) (ht : p.2.2 = (t : Int)) (hm : aft a s (valAt g x) p.2.1.toNat = M) (hk : keyA sm p = k) (hs : (decide (M = 0) || (us.contains k || !hope D a.accept.length t M lf)) = false)
    (hr : visit g a y B D sm lf t M (us ++ [k]) c = (some r, c')) : visF g a y B D sm lf x s us i c = (some (p.1 :: r), c') := visF_yes h (by rw [skipA_eq ht hm hk, hs]; simp) (by rw [hm, hk, ht, Int.toNat_natCast]; exact hr)
theorem visF_no2 {p : Arc} {t M : Nat} {k : Int} {c' : Nat} (h : (arcsOf g (x : Int))[i]? = some p) (ht : p.2.2 = (t : Int)) (hm : aft a s (valAt g x) p.2.1.toNat = M) (hk : keyA sm p = k) (hs : (decide (M = 0) || (us.contains k || !hope D a.accept.length t M lf)) = false)
    (hr : visit g a y B D sm lf t M (us ++ [k]) c = (none, c')) : visF g a y B D sm lf x s us i c = visF g a y B D sm lf x s us (i + 1) c' := visF_no h (by rw [skipA_eq ht hm hk, hs]; simp) (by rw [hm, hk, ht, Int.toNat_natCast]; exact hr)
theorem visC_le {rec : Nat → Nat → List Int → Nat → Vis} {N : Nat} (hrec : ∀ x s us c, c ≤ N → (rec x s us c).2 ≤ N ∧ c ≤ (rec x s us c).2) : ∀ (l : List Arc) (c : Nat), c ≤ N → (visC g a D sm rec x s us lf l c).2 ≤ N ∧ c ≤ (visC g a D sm rec x s us lf l c).2
  | [], c, h => ⟨h, Nat.le_refl _⟩
  | p :: l, c, h => by
    rw [visC]
    split
    · exact visC_le hrec l c h
    · have h1 := hrec p.2.2.toNat (aft a s (valAt g x) p.2.1.toNat) (us ++ [keyA sm p]) c h
      split
      · rename_i r c' e
        rw [e] at h1
        exact h1
      · rename_i c' e
        rw [e] at h1
        have h2 := visC_le hrec l c' h1.1
        exact ⟨h2.1, Nat.le_trans h1.2 h2.2⟩
theorem visit_le : ∀ (lf x s : Nat) (us : List Int) (c : Nat), c ≤ B → (visit g a y B D sm lf x s us c).2 ≤ B ∧ c ≤ (visit g a y B D sm lf x s us c).2 := by
  intro lf
  induction lf with
  | zero =>
    intro x s us c h
    rw [visit]
    split
    · exact ⟨h, Nat.le_refl _⟩
    · simp only
      omega
  | succ lf ih =>
    intro x s us c h
    rw [visit]
    split
    · exact ⟨h, Nat.le_refl _⟩
    · have := visC_le (g := g) (a := a) (D := D) (sm := sm) (x := x) (s := s) (us := us) (lf := lf) ih (arcsOf g (x : Int)) (c + 1) (by omega)
      omega
theorem visC_len {rec : Nat → Nat → List Int → Nat → Vis} {k : Nat} (hrec : ∀ x s us c r, (rec x s us c).1 = some r → r.length = k) : ∀ (l : List Arc) (c : Nat) (r : List St), (visC g a D sm rec x s us lf l c).1 = some r → r.length = k + 1
  | [], c, r, h => by cases h
  | p :: l, c, r, h => by
    rw [visC] at h
    split at h
    · exact visC_len hrec l c r h
    · have h1 := hrec p.2.2.toNat (aft a s (valAt g x) p.2.1.toNat) (us ++ [keyA sm p]) c
      split at h
      · rename_i r' c' e
        injection h with h
        subst h
        rw [e] at h1
        rw [List.length_cons, h1 r' rfl]
      · exact visC_len hrec l _ r h
theorem visit_len : ∀ (lf x s : Nat) (us : List Int) (c : Nat) (r : List St), (visit g a y B D sm lf x s us c).1 = some r → r.length = lf := by
  intro lf
  induction lf with
  | zero =>
    intro x s us c r h
    rw [visit] at h
    split at h
    · cases h
    · simp only at h
      split at h
      · injection h with h
        rw [← h]; rfl
      · cases h
  | succ lf ih =>
    intro x s us c r h
    rw [visit] at h
    split at h
    · cases h
    · exact visC_len ih _ _ r h
end
/-- one length after another -/
def srchF (g : Gr) (a : Au) (y : Int) (B : Nat) (D : List Int) (sm : Bool) (x s : Nat) (us : List Int) : Nat → Nat → Nat → Wk × Int
  | 0, _, _ => ((0, []), 2)
  | k + 1, lf, c => if hope D a.accept.length x s lf = true then
      match visit g a y B D sm lf x s us c with
      | (some r, _) => (((x : Int), r), 1)
      | (none, c') => if B ≤ c' then ((0, []), 3) else srchF g a y B D sm x s us k (lf + 1) c'
    else srchF g a y B D sm x s us k (lf + 1) c
section
variable {g : Gr} {a : Au} {y : Int} {B : Nat} {D : List Int} {sm : Bool} {lf x s : Nat} {us : List Int} {k c : Nat}
theorem srchF_no (h : hope D a.accept.length x s lf = false) : srchF g a y B D sm x s us (k + 1) lf c = srchF g a y B D sm x s us k (lf + 1) c := by rw [srchF, h]; rfl
theorem srchF_yes {r : List St} {c' : Nat} (h : hope D a.accept.length x s lf = true) (hv : visit g a y B D sm lf x s us c = (some r, c')) : srchF g a y B D sm x s us (k + 1) lf c = (((x : Int), r), 1) := by rw [srchF, if_pos h, hv]
theorem srchF_out {c' : Nat} (h : hope D a.accept.length x s lf = true) (hv : visit g a y B D sm lf x s us c = (none, c')) (hc : B ≤ c') : srchF g a y B D sm x s us (k + 1) lf c = ((0, []), 3) := by
  rw [srchF, if_pos h, hv]
  simp only
  rw [if_pos hc]
theorem srchF_on {c' : Nat} (h : hope D a.accept.length x s lf = true) (hv : visit g a y B D sm lf x s us c = (none, c')) (hc : ¬ B ≤ c') : srchF g a y B D sm x s us (k + 1) lf c = srchF g a y B D sm x s us k (lf + 1) c' := by
  rw [srchF, if_pos h, hv]
  simp only
  rw [if_neg hc]
end
def srchN (g : Gr) (sm : Bool) : Nat := if sm then g.vals.length else g.edges.length + 1
def srchU (sm : Bool) (x : Nat) : List Int := if sm then [(x : Int)] else []
def srchOk (g : Gr) (a : Au) (x y B : Int) : Bool := cntOk g a x y && wi B 1 20000
def srchL (g : Gr) (a : Au) (x y B : Int) (sm : Bool) : Wk × Int :=
  if srchOk g a x y B = true then srchF g a y B.toNat (distTo g a y) sm x.toNat (bit a.start.toNat) (srchU sm x.toNat) (srchN g sm) 0 0 else ((0, []), 0)
end Go.Proofs.YtpbfdmfkmbdpkaaGreat

/- The answers by trails and by simple paths, plainly: pair after pair; one unknown search ends all. -/
namespace Go.Proofs.YtpbfdmfkmbdpkaaGreat
set_option linter.unusedVariables false
set_option linter.unusedSimpArgs false
open Go.ChangeShapes Go.WideShapes Go.ChangeAt Go.RowKit

def srCode (f : Nat → Nat → Int) (x : Nat) (st : Option (List Pr)) (y : Nat) : Option (List Pr) :=
  match st with
  | none => none
  | some L => if f x y = 1 then some (L ++ [((x : Int), (y : Int))]) else if f x y = 3 then none else some L
def srRowF (f : Nat → Nat → Int) (x : Nat) (st : Option (List Pr)) (j : Nat) : Option (List Pr) := (List.range j).foldl (srCode f x) st
def srAllF (f : Nat → Nat → Int) (n i : Nat) : Option (List Pr) := (List.range i).foldl (fun st x => srRowF f x st n) (some [])
section
variable {f : Nat → Nat → Int} {x n i j : Nat} {st : Option (List Pr)} {L : List Pr}
theorem srRowF_succ : srRowF f x st (j + 1) = srCode f x (srRowF f x st j) j := by simp [srRowF, List.range_succ]
theorem srAllF_succ : srAllF f n (i + 1) = srRowF f i (srAllF f n i) n := by simp [srAllF, List.range_succ]
theorem srRowF_zero : srRowF f x st 0 = st := rfl
theorem srRowF_one (h : srRowF f x st j = some L) (hc : f x j = 1) : srRowF f x st (j + 1) = some (L ++ [((x : Int), (j : Int))]) := by rw [srRowF_succ, h, srCode]; rw [if_pos hc]
theorem srRowF_on (h : srRowF f x st j = some L) (hc : ¬ f x j = 1) (hc3 : ¬ f x j = 3) : srRowF f x st (j + 1) = some L := by rw [srRowF_succ, h, srCode]; rw [if_neg hc, if_neg hc3]
theorem srRowF_out (h : srRowF f x st j = some L) (hc : f x j = 3) : srRowF f x st (j + 1) = none := by rw [srRowF_succ, h, srCode]; rw [if_neg (by omega), if_pos hc]
theorem srRowF_none : ∀ k, srRowF f x st j = none → srRowF f x st (j + k) = none
  | 0, h => h
  | k + 1, h => by rw [← Nat.add_assoc, srRowF_succ, srRowF_none k h]; rfl
theorem srRowF_no : srRowF f x none j = none := by
  have := srRowF_none (f := f) (x := x) (st := none) (j := 0) j rfl
  rwa [Nat.zero_add] at this
theorem srAllF_none : ∀ k, srAllF f n i = none → srAllF f n (i + k) = none
  | 0, h => h
  | k + 1, h => by rw [← Nat.add_assoc, srAllF_succ, srAllF_none k h, srRowF_no]
/-- one unknown search -/
theorem srAllF_out (hi : i < n) (hj : j < n) (h : srRowF f i (srAllF f n i) j = some L) (hc : f i j = 3) : srAllF f n n = none := by
  have h1 := srRowF_none (n - (j + 1)) (srRowF_out h hc)
  rw [show j + 1 + (n - (j + 1)) = n by omega] at h1
  have h2 : srAllF f n (i + 1) = none := by rw [srAllF_succ, h1]
  have h3 := srAllF_none (n - (i + 1)) h2
  rwa [show i + 1 + (n - (i + 1)) = n by omega] at h3
theorem srRowF_len (hst : ∀ L, st = some L → L.length ≤ n) : ∀ (j : Nat) (L : List Pr), srRowF f x st j = some L → L.length ≤ n + j
  | 0, L, h => hst L h
  | j + 1, L, h => by
    rw [srRowF_succ] at h
    cases hr : srRowF f x st j with
    | none => rw [hr] at h; cases h
    | some M =>
      have := srRowF_len hst j M hr
      rw [hr, srCode] at h
      split at h
      · injection h with h
        subst h
        rw [List.length_append, List.length_singleton]
        omega
      · split at h
        · cases h
        · injection h with h
          subst h
          omega
theorem srAllF_len : ∀ (i : Nat) (L : List Pr), srAllF f n i = some L → L.length ≤ i * n
  | 0, L, h => by
    injection h with h
    rw [← h]
    simp
  | i + 1, L, h => by
    rw [srAllF_succ] at h
    have := srRowF_len (n := i * n) (srAllF_len i) n L h
    rw [Nat.succ_mul]
    exact this
end
def srchAk (g : Gr) (a : Au) (B : Int) : Bool := (grOk g && auOk a) && wi B 1 20000
def srchC (g : Gr) (a : Au) (B : Int) (sm : Bool) (x y : Nat) : Int := (srchL g a (x : Int) (y : Int) B sm).2
def srchA (g : Gr) (a : Au) (B : Int) (sm : Bool) : Option (List Pr) := if srchAk g a B = true then srAllF (srchC g a B sm) g.vals.length g.vals.length else none
theorem srchA_len {g : Gr} {a : Au} {B : Int} {sm : Bool} {L : List Pr} (h : srchA g a B sm = some L) : L.length ≤ 25 := by
  unfold srchA at h
  split at h
  · rename_i hk
    simp only [srchAk, Bool.and_eq_true] at hk
    have h1 := srAllF_len _ _ h
    have h2 := (grOk_iff.1 hk.1.1).n5
    exact Nat.le_trans h1 (Nat.mul_le_mul h2 h2 : _ ≤ 5 * 5)
  · cases h
theorem srchF_len {g : Gr} {a : Au} {y : Int} {B : Nat} {D : List Int} {sm : Bool} {x s : Nat} {us : List Int} : ∀ (k lf c : Nat), (srchF g a y B D sm x s us k lf c).1.2.length ≤ lf + k
  | 0, lf, c => by simp [srchF]
  | k + 1, lf, c => by
    rw [srchF]
    split
    · have hl := visit_len (g := g) (a := a) (y := y) (B := B) (D := D) (sm := sm) lf x s us c
      split
      · rename_i r c' e
        rw [e] at hl
        have := hl r rfl
        simp only
        omega
      · split
        · simp
        · have := srchF_len (g := g) (a := a) (y := y) (B := B) (D := D) (sm := sm) (x := x) (s := s) (us := us) k (lf + 1)
          rename_i c' _ _
          have := this c'
          omega
    · have := srchF_len (g := g) (a := a) (y := y) (B := B) (D := D) (sm := sm) (x := x) (s := s) (us := us) k (lf + 1) c
      omega
theorem srchL_len (g : Gr) (a : Au) (x y B : Int) (sm : Bool) : (srchL g a x y B sm).1.2.length ≤ 1048576 := by
  unfold srchL
  split
  · rename_i h
    have h1 := srchF_len (g := g) (a := a) (y := y) (B := B.toNat) (D := distTo g a y) (sm := sm) (x := x.toNat) (s := bit a.start.toNat) (us := srchU sm x.toNat) (srchN g sm) 0 0
    simp only [srchOk, cntOk, Bool.and_eq_true] at h
    have hg := grOk_iff.1 h.1.2.2.1
    have hn5 := hg.n5
    have he12 := hg.e12
    have : srchN g sm ≤ 13 := by unfold srchN; split <;> omega
    omega
  · simp
theorem Blk.set2 {w : World} {g : Nat} {t : TypeId} {c0 c1 : Value} (h : Blk w g t #[c0, c1]) (d0 d1 : Value) : Blk ((w.setCell ⟨g, 0, none⟩ d0).setCell ⟨g, 1, none⟩ d1) g t #[d0, d1] := by
  have h2 := (h.set_ 0 d0).set_ 1 d1
  simpa using h2
theorem Only.set2 (w : World) (g : Nat) (d0 d1 : Value) : Only g (g + 1) w ((w.setCell ⟨g, 0, none⟩ d0).setCell ⟨g, 1, none⟩ d1) := ((Only.refl _ _ _).setCell (p := ⟨g, 0, none⟩) (.inl ⟨Nat.le_refl _, Nat.lt_succ_self _⟩) d0).setCell (p := ⟨g, 1, none⟩) (.inl ⟨Nat.le_refl _, Nat.lt_succ_self _⟩) d1
end Go.Proofs.YtpbfdmfkmbdpkaaGreat

