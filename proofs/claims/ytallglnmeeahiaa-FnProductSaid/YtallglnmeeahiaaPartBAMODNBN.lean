/- Parts of the proof, joined into one text: StepsS, AccS, BackS, RankS, AnsM, AnsS. -/
import Derived.Test.YtallglnmeeahiaaPartNBJMBDKF
import Derived.Test.YtallglnmeeahiaaPartEHONMLDA
import Derived.Test.YtallglnmeeahiaaPartGEEOALPK
import Derived.Deep.RegionHeld3
import Derived.Deep.DeepCutAuto
import Derived.Deep.LoopGhost
import Derived.Test.YtallglnmeeahiaaPartLPOONNJA
import Derived.Lib.Slices
/- The reference's l14Steps: the steps of the product from a vertex. -/
namespace Go.Proofs.Ytallglnmeeahiaa
set_option linter.unusedVariables false
set_option linter.unusedSimpArgs false
open Go.ChangeShapes Go.WideShapes Go.ChangeAt Go.RowKit
attribute [local go_sem] ext_cell ext_frozen ext_lt ext_lt1 ext_lt2 ext_lt3 ltn2 ltn3 ltn13 lts1 lts2 lts3

def cPS (p : PS) : List Value := [.int .i64 p.1.1, .bool p.1.2, .int .i64 p.2.1, .int .i64 p.2.2]
theorem cPS_len (p : PS) : (cPS p).length = 4 := rfl
theorem cPS_one (p : PS) : ∀ u ∈ cPS p, u.oneCell' = true := by intro u hu; simp only [cPS, List.mem_cons, List.not_mem_nil, or_false] at hu; rcases hu with rfl | rfl | rfl | rfl <;> rfl
theorem SlI.st {lo hi : Nat} {w : World} {A : Option Addr} {n c : Nat} {xs : List St} (h : SlI lo hi w cSt 2 (.slice A n c) xs) {i : Nat} {x : St} (hx : xs[i]? = some x) :
    ∃ b o, A = some ⟨b, o, none⟩ ∧ lo ≤ b ∧ b < hi ∧ w.cell? ⟨b, o + i * 2, none⟩ = some (.int .i64 x.1) ∧ w.cell? ⟨b, o + i * 2 + 1, none⟩ = some (.bool x.2) := by
  obtain ⟨A', c', hv, _, _, h3⟩ := h
  injection hv with h1 _ _
  subst h1
  obtain ⟨b, o, e, g1, g2, hc⟩ := h3 i x hx
  exact ⟨b, o, e, g1, g2, by simpa using hc 0 _ rfl, hc 1 _ rfl⟩
theorem nc4 {W wE : World} {c0 c1 c2 c3 : Value} {t : TypeId} {n : Nat} (h : Below (W.alloc (.cells #[c0, c1, c2, c3] t)).drew.heap.size (W.alloc (.cells #[c0, c1, c2, c3] t)).drew wE) (hn : W.heap.size = n) :
    wE.cell? ⟨n, 0, none⟩ = some c0 ∧ wE.cell? ⟨n, 1, none⟩ = some c1 ∧ wE.cell? ⟨n, 2, none⟩ = some c2 ∧ wE.cell? ⟨n, 3, none⟩ = some c3 ∧ wE.frozen? ⟨n, 0, none⟩ = false ∧ wE.frozen? ⟨n, 1, none⟩ = false ∧ wE.frozen? ⟨n, 2, none⟩ = false ∧ wE.frozen? ⟨n, 3, none⟩ = false := by
  subst hn
  have g : ∀ i, (W.alloc (.cells #[c0, c1, c2, c3] t)).drew.frozen? ⟨W.heap.size, i, none⟩ = false := fun i => by show (W.alloc (.cells #[c0, c1, c2, c3] t)).frozen? _ = false; rw [frozen?_alloc_cells]; simp [World.frozen?]
  have k0 : (W.alloc (.cells #[c0, c1, c2, c3] t)).drew.cell? ⟨W.heap.size, 0, none⟩ = some c0 := by simp
  have k1 : (W.alloc (.cells #[c0, c1, c2, c3] t)).drew.cell? ⟨W.heap.size, 1, none⟩ = some c1 := by simp
  have k2 : (W.alloc (.cells #[c0, c1, c2, c3] t)).drew.cell? ⟨W.heap.size, 2, none⟩ = some c2 := by simp
  have k3 : (W.alloc (.cells #[c0, c1, c2, c3] t)).drew.cell? ⟨W.heap.size, 3, none⟩ = some c3 := by simp
  exact ⟨kcell h k0, kcell h k1, kcell h k2, kcell h k3, kfb h k0 (g 0), kfb h k1 (g 1), kfb h k2 (g 2), kfb h k3 (g 3)⟩
theorem Only.grown {lo hi : Nat} {a w w' : World} {row : Option Nat} (h : Only lo hi a w) (hg : w.grownBy w' row) (hr : ∀ b, row = some b → (lo ≤ b ∧ b < hi) ∨ a.heap.size ≤ b) : Only lo hi a w' :=
  ⟨hg.os.trans h.os, hg.tape.trans h.tape, hg.output.trans h.output, Nat.le_trans h.size hg.size, fun n hn ho => (hg.block n (Nat.lt_of_lt_of_le hn h.size) (fun e => by have := hr n e.symm; omega)).trans (h.block n hn ho)⟩
theorem elPS : ElemOk Try.prog 51 56 (.agg #[.int .i64 0, .bool false, .int .i64 0, .int .i64 0]) 4 32 := ⟨Try.underlying51, by kernel_rfl, rfl, by omega⟩
set_option maxHeartbeats 8000000 in
set_option maxRecDepth 100000 in
theorem l14Steps_any (vg va : Value) (g : Gr) (a : Au) (x s : Nat) (w : World) (hgv : GrV 0 w.heap.size w vg g) (hav : AuV 0 w.heap.size w va a) (hgo : grOk g = true) (ha : auOk a = true) (hx : x < g.vals.length) (hs : s < a.accept.length) :
    Calls Try.prog 63 #[vg, va, .int .i64 (x : Int), .int .i64 (s : Int)] w fun e w' => ∃ v', e = .returned v' ∧ Own w.heap.size w'.heap.size w' 56 cPS 4 v' (prodSteps g a x s) ∧ Below w.heap.size w w' := by
  have hg := grOk_iff.1 hgo
  have hav0 := hav
  have hgv0 := hgv
  obtain ⟨A1, c1, A2, c2, rfl, hl1, hm1, hl2, hm2, hC1, hC2⟩ := hgv.form
  obtain ⟨A3, c3, A4, c4, rfl, hl3, hm3, hl4, hm4, hAC⟩ := hav.form ha
  have hn5 := hg.n5
  have he12 := hg.e12
  have hn12 := (auOk_iff.1 ha).1.2
  have hxi : g.vals[x]? = some g.vals[x] := List.getElem?_eq_getElem hx
  have hvr := hg.vals _ (List.getElem_mem hx)
  generalize g.vals[x] = vx at hxi hvr
  obtain ⟨vx, rfl⟩ := Int.eq_ofNat_of_zero_le hvr.1
  have hva := valAt_of hxi
  rw [Int.toNat_natCast] at hva
  obtain ⟨b1, o1, rfl, hb1, d1⟩ := hC1.int hxi
  have hcl := cls_lt ha vx s hs
  have hcl4 := lt12 ha hcl
  have HGO := Lib.hid hg
  have HGB := Lib.hid hgo
  have HAO := Lib.hid ha
  have HAV := Lib.hid hav0
  have HGV := Lib.hid hgv0
  have HAC := Lib.hid hAC
  have HC2 := Lib.hid hC2
  have HVA := Lib.hid hva
  have hb0 : Below w.heap.size w ((w.alloc (.cells #[.slice (some ⟨b1, o1, none⟩) g.vals.length c1, .slice A2 g.edges.length c2] 38)).alloc (.cells #[.int .i64 a.start, .slice A3 a.accept.length c3, .slice A4 a.accept.length c4] 27)) := ((Below.refl _ _).alloc (Nat.le_refl _) _).alloc (by simp) _
  have hxx : (x : Int) < (g.vals.length : Int) := by omega
  obtain ⟨R, hR⟩ : ∃ R, R = prodSteps g a x s := ⟨_, rfl⟩
  rw [← hR]
  have HR := Lib.hid hR
  clear hgv hav ha hg hgo hav0 hgv0 hva hxi hC1 hC2 hAC hR
  go_enter Try.func63, Try.ntmps63
  go_wp2_with fail
  obtain ⟨W0, hW0⟩ : ∃ W0, W0 = ((w.alloc (.cells #[.slice (some ⟨b1, o1, none⟩) g.vals.length c1, .slice A2 g.edges.length c2] 38)).alloc (.cells #[.int .i64 a.start, .slice A3 a.accept.length c3, .slice A4 a.accept.length c4] 27)) := ⟨_, rfl⟩
  rw [← hW0] at hb0 ⊢
  have x0 : W0.cell? ⟨w.heap.size, 0, none⟩ = some (.slice (some ⟨b1, o1, none⟩) g.vals.length c1) := by rw [hW0]; simp
  have x1 : W0.cell? ⟨w.heap.size, 1, none⟩ = some (.slice A2 g.edges.length c2) := by rw [hW0]; simp
  have y0 : W0.cell? ⟨w.heap.size + 1, 0, none⟩ = some (.int .i64 a.start) := by rw [hW0]; simp
  have y1 : W0.cell? ⟨w.heap.size + 1, 1, none⟩ = some (.slice A3 a.accept.length c3) := by rw [hW0]; simp
  have y2 : W0.cell? ⟨w.heap.size + 1, 2, none⟩ = some (.slice A4 a.accept.length c4) := by rw [hW0]; simp
  have d1 := kcell hb0 d1
  have hs0 : w.heap.size + 1 + 1 = W0.heap.size := by rw [hW0]; simp
  rw [hs0]
  have l0 : w.heap.size + 1 < W0.heap.size := by omega
  have l00 : w.heap.size < W0.heap.size := by omega
  have hb1W : b1 < W0.heap.size := by omega
  clear hW0 hs0
  have hbL : Below W0.heap.size W0 (W0.alloc (.cells #[] 56)) := (Below.refl _ _).alloc (Nat.le_refl _) _
  refine wp_region_ext_lit (by kernel_rfl) (by kernel_rfl) ?_
  repeat (go_big_quiet_step ((go_at_call 92; exact Calls.ext_of (l14Closure_any _ a s vx _ (HAV.out.keep (below_trans hb0 (below_trans hbL (ext_below _ _)))) HAO.out hs (by omega)))))
  refine wpQuiet_nil ?_
  intro _ hw'
  obtain ⟨u2, hw''⟩ := hw'
  subst hw''
  have hbX := below_trans hbL (ext_below (W0.alloc (.cells #[] 56)) u2)
  have hrow0 := ownsRow_below (World.ownsRow_lit (base := W0.heap.size) (e := 56) (size := 4) W0 #[] 0 (Nat.le_refl _) (by decide) rfl) (ext_below (W0.alloc (.cells #[] 56)) u2) (Nat.le_refl _)
  generalize (ext (W0.alloc (.cells #[] 56)) u2) = WX at hbX hrow0 ⊢
  have HROW0 := Lib.hid hrow0
  have x0 := kcell hbX x0
  have x1 := kcell hbX x1
  clear hrow0 hbL
  go_wp2_with fail
  refine (l4From_any _ g (x : Int) _ (HGV.out.keep (below_trans hb0 hbX)) he12).mono ?_
  rintro e W1 ⟨v1, rfl, ho1, hb2⟩
  obtain ⟨A5, c5, rfl, hl5, hm5, -⟩ := ho1.form cSt_len
  have hoI := ho1.sl cSt_len
  have hlen5 : ((arcsOf g (x : Int)).map (·.1)).length = (arcsOf g (x : Int)).length := by simp
  rw [hlen5] at hl5 hoI ⊢
  have hAL := arcs_len HGO.out (x : Int)
  have hbW1 := below_trans hbX hb2
  have hbw1 := below_trans hb0 hbW1
  have x0 := kcell hb2 x0
  have x1 := kcell hb2 x1
  have y0 := kcell hbW1 y0
  have y1 := kcell hbW1 y1
  have y2 := kcell hbW1 y2
  have hsX := hbX.size
  have hs2 := hb2.size
  have hrow1 := ownsRow_below HROW0.out hb2 (Nat.le_refl _)
  have HROW := Lib.hid hrow1
  have HOI := Lib.hid hoI
  have HBX := Lib.hid hbX
  have hgX : W0.heap.size < WX.heap.size := (HROW0.out.lt _ rfl).2
  have Y1W := Lib.hid y1
  clear hlen5 hbX hb2 hrow1 hoI ho1 HROW0
  go_wp2_with fail
  go_loopw [9, 12] (fun out ii wr => ∃ i : Nat, i ≤ (arcsOf g (x : Int)).length ∧ ii = .int .i64 (i : Int) ∧ wr.ownsRow W0.heap.size 56 4 out (((arcsOf g (x : Int)).take i).flatMap (psA g a x s)).length ((((arcsOf g (x : Int)).take i).flatMap (psA g a x s)).flatMap cPS) ∧
    Only W0.heap.size WX.heap.size W1 wr ∧ (∀ b, out.ownBlock = some b → b < WX.heap.size ∨ W1.heap.size ≤ b)) (fun _ ii _ => (arcsOf g (x : Int)).length - (intOf ii).toNat)
  case atStart => exact ⟨0, Nat.zero_le _, rfl, by simpa using HROW.out, Only.refl _ _ _, fun b hb => by injection hb with hb; subst hb; exact .inl hgX⟩
  case round =>
    clear HROW
    obtain ⟨i, hi, rfl, hrow, hon, hout⟩ := hrel
    have HROW := Lib.hid hrow
    have HOUT := Lib.hid hout
    clear hrow hout
    by_cases hlt : i < (arcsOf g (x : Int)).length
    · have hyi : (arcsOf g (x : Int))[i]? = some (arcsOf g (x : Int))[i] := List.getElem?_eq_getElem hlt
      have hyr := arc_range HGO.out (List.getElem_mem hlt)
      obtain ⟨ix, e, hix, hei, hy1, hy2, -, hem⟩ := arc_edge HGO.out (List.getElem_mem hlt)
      generalize (arcsOf g (x : Int))[i] = y at hyi hyr hix hy1 hy2
      have hli : ((arcsOf g (x : Int)).map (·.1))[i]? = some y.1 := by rw [List.getElem?_map, hyi]; rfl
      obtain ⟨⟨yid, yinv⟩, yl, yt⟩ := y
      simp only at hyr hix hy1 hy2 hli
      obtain ⟨b5, o5, rfl, hlo5, hb5, p0, p1⟩ := HOI.out.st hli
      have P0 := Lib.hid (show W1.cell? ⟨b5, o5 + i * 2, none⟩ = some (.int .i64 yid) from p0)
      have P1 := Lib.hid (show W1.cell? ⟨b5, o5 + i * 2 + 1, none⟩ = some (.bool yinv) from p1)
      have p0 := ocell hon p0 hb5 (.inr hlo5)
      have p1 := ocell hon p1 hb5 (.inr hlo5)
      simp only at p0 p1
      obtain ⟨b6, o6, rfl, hb6, q0, q1, q2, q3⟩ := HC2.out.ed hei
      have q0 := ocell hon (kcell hbw1 q0) (Nat.lt_of_lt_of_le hb6 hbw1.size) (.inl (by have := hb0.size; omega))
      have q1 := ocell hon (kcell hbw1 q1) (Nat.lt_of_lt_of_le hb6 hbw1.size) (.inl (by have := hb0.size; omega))
      have q2 := ocell hon (kcell hbw1 q2) (Nat.lt_of_lt_of_le hb6 hbw1.size) (.inl (by have := hb0.size; omega))
      have q3 := ocell hon (kcell hbw1 q3) (Nat.lt_of_lt_of_le hb6 hbw1.size) (.inl (by have := hb0.size; omega))
      have x0 := ocell hon x0 (by omega) (.inl (by omega))
      have x1 := ocell hon x1 (by omega) (.inl (by omega))
      have y0 := ocell hon y0 (by omega) (.inl (by omega))
      have y1 := ocell hon y1 (by omega) (.inl (by omega))
      have y2 := ocell hon y2 (by omega) (.inl (by omega))
      have hel := HGO.out.edges e hem
      have hixl : ix < g.edges.length := (List.getElem?_eq_some_iff.1 hei).1
      have hixi : (ix : Int) < (g.edges.length : Int) := by omega
      have hii : (i : Int) < ((arcsOf g (x : Int)).length : Int) := by omega
      obtain ⟨eid, ef, et, el⟩ := e
      simp only at q0 q1 q2 q3 hel
      obtain ⟨-, -, -, hl0, hl2e⟩ := hel
      have hbwr : Below w.heap.size w wr := hbw1.trans (hon.below (by have := hb0.size; omega) (by have := hbw1.size; omega))
      have hei2 : ∀ W, Below w.heap.size w W → Calls Try.prog 85 #[.agg #[.slice (some ⟨b1, o1, none⟩) g.vals.length c1, .slice (some ⟨b6, o6, none⟩) g.edges.length c2], .int .i64 yid] W fun e w' => e = .returned (.int .i64 (ix : Int)) ∧ Below W.heap.size W w' := fun W hW => by
        have h := specEdgeIndex _ g yid W (HGV.out.keep hW)
        rwa [hix] at h
      have HEI := Lib.hid hei2
      have HYI := Lib.hid hyi
      have HY1 := Lib.hid hy1
      have HY2 := Lib.hid hy2
      have HLI := Lib.hid hli
      have HBWR := Lib.hid hbwr
      have ne0 := World.new_ne wr _ x0
      have ne1 := World.new_ne wr _ q0
      have ne2 := World.new_ne wr _ p0
      clear hei2 hyi hy1 hy2 hli hix hem hbwr
      go_upto_region 7 with fail
      go_cut [13] (fun s13 wx => ∃ eb, s13 = .pointer (some ⟨eb, 0, none⟩) ∧ wr.heap.size ≤ eb ∧ eb < wx.heap.size ∧ wx.cell? ⟨eb, 0, none⟩ = some (.int .i64 eid) ∧ wx.cell? ⟨eb, 1, none⟩ = some (.int .i64 ef) ∧ wx.cell? ⟨eb, 2, none⟩ = some (.int .i64 et) ∧ wx.cell? ⟨eb, 3, none⟩ = some (.int .i64 el) ∧ Below wr.heap.size wr wx)
      case first =>
        go_region_held3 (fun w' => w'.cell? ⟨w.heap.size, 0, none⟩ = some (.slice (some ⟨b1, o1, none⟩) g.vals.length c1) ∧ w'.cell? ⟨w.heap.size, 1, none⟩ = some (.slice (some ⟨b6, o6, none⟩) g.edges.length c2) ∧ w'.cell? ⟨b5, o5 + i * 2, none⟩ = some (.int .i64 yid) ∧ w'.cell? ⟨b6, o6 + ix * 4, none⟩ = some (.int .i64 eid) ∧ w'.cell? ⟨b6, o6 + ix * 4 + 1, none⟩ = some (.int .i64 ef) ∧ w'.cell? ⟨b6, o6 + ix * 4 + 2, none⟩ = some (.int .i64 et) ∧ w'.cell? ⟨b6, o6 + ix * 4 + 3, none⟩ = some (.int .i64 el))
          (first | (with_reducible exact kS7 ne0 ne0 ne2 ne1 ne1 ne1 ne1 (kS7 ne0 ne0 ne2 ne1 ne1 ne1 ne1 (kS7 ne0 ne0 ne2 ne1 ne1 ne1 ne1 (kS7 ne0 ne0 ne2 ne1 ne1 ne1 ne1 (by assumption))))) | (exact ⟨x0, x1, p0, q0, q1, q2, q3⟩) | assumption | (exact kB7 hbE ⟨x0, x1, p0, q0, q1, q2, q3⟩) | (exact kA7 _ ⟨x0, x1, p0, q0, q1, q2, q3⟩) | (exact kA7 _ (kB7 hbE ⟨x0, x1, p0, q0, q1, q2, q3⟩)) | (exact kB7 hbE (kA7 _ ⟨x0, x1, p0, q0, q1, q2, q3⟩)) | (exact kB7 hbE (by assumption)) | (exact kA7 _ (by assumption)) | go_keep)
          (first | (go_at_call 85; refine (HEI.out _ (by first | exact HBWR.out.drew | exact (HBWR.out.drew).alloc (by have := HBWR.out.size; simpa using this) _)).mono ?_; rintro en wE ⟨rfl, hbE⟩; have n0 := World.new_ne wE _ (kcell hbE (by first | exact x0 | exact kcell ((Below.refl _ _).alloc (Nat.le_refl _) _) x0)); have n1 := World.new_ne wE _ (kcell hbE (by first | exact q0 | exact kcell ((Below.refl _ _).alloc (Nat.le_refl _) _) q0)); have n2 := World.new_ne wE _ (kcell hbE (by first | exact p0 | exact kcell ((Below.refl _ _).alloc (Nat.le_refl _) _) p0))); (first | (have NC := nc4 hbE (n := wr.heap.size) rfl; obtain ⟨t0, t1, t2, t3, f0, f1, f2, f3⟩ := NC) | skip))
        all_goals (go_wp2_with fail)
        · go_meet
          exact ⟨_, rfl, hbE.size, by simp, by simp, by simp, by simp, by simp, (below_trans ((Below.refl wr.heap.size wr).drew) hbE).alloc hbE.size _⟩
        · go_meet
          have h9 := hbE.size
          have h8 : wr.heap.size < wE.heap.size := Nat.lt_of_lt_of_le (by simp) h9
          have h7 : Below wr.heap.size wr wE := below_trans (((Below.refl wr.heap.size wr).alloc (Nat.le_refl _) _).drew) hbE
          exact ⟨_, rfl, Nat.le_refl _, by simpa using h8, by go_simp, by go_simp, by go_simp, by go_simp, (((h7.setCell (Nat.le_refl _) _).setCell (Nat.le_refl _) _).setCell (Nat.le_refl _) _).setCell (Nat.le_refl _) _⟩
      case rest =>
        obtain ⟨eb, rfl, hlo, hhi, e0, e1, e2, e3, hbc⟩ := hcut
        obtain ⟨wo, hwo⟩ : ∃ wo : World, wo = wr := ⟨_, rfl⟩
        have y1 := kcell hbc y1
        have y2 := kcell hbc y2
        have p0 := kcell hbc p0
        have p1 := kcell hbc p1
        have hbw := below_trans HBWR.out hbc
        have hsz := hbc.size
        have hsr := HBWR.out.size
        have hs0 := hb0.size
        have hs1 := hbw1.size
        have hos := hon.size
        have bl5 : b5 < wc.heap.size := by omega
        have bly : w.heap.size + 1 < wc.heap.size := by omega
        have blw : w.heap.size ≤ wc.heap.size := by omega
        obtain ⟨⟨hyl0, hyl5⟩, -, -⟩ := hyr
        obtain ⟨l, rfl⟩ := Int.eq_ofNat_of_zero_le hyl0
        have hl6 : l < 9 := by omega
        have hlz : (l : Int) < 9 := by omega
        have hyl : ((⟨(yid, yinv), (l : Int), yt⟩ : Arc)).2.1.toNat = l := by simp
        have hlet : ∀ W, Calls Try.prog 94 #[.agg #[.int .i64 eid, .int .i64 ef, .int .i64 et, .int .i64 el], .bool yinv] W fun en w' => en = .returned (.int .i64 (l : Int)) ∧ Below W.heap.size W w' := fun W => by
          have h := l14Letter_any (eid, ef, et, el) yinv W hl0 hl2e
          rwa [← HY1.out] at h
        have HLET := Lib.hid hlet
        have HBW := Lib.hid hbw
        have HON := Lib.hid hon
        clear hlet hbw hon hsr hos hyl0 hyl5 hl0 hl2e
        go_wp2_with fail
        go_loopw [14, 15] (fun mm qq w2 => ∃ (q : Nat) (u : World), q ≤ a.accept.length ∧ qq = .int .i64 (q : Int) ∧ mm = .int .i64 (foldTo a l (cls a vx s) q : Nat) ∧ w2 = ext wc u) (fun _ qq _ => a.accept.length - (intOf qq).toNat)
        case atStart => exact ⟨0, wc, Nat.zero_le _, rfl, rfl, ext_self _⟩
        case round =>
          obtain ⟨q, u, hq, rfl, rfl, rfl⟩ := hrel
          by_cases hlq : q < a.accept.length
          · obtain ⟨b, o, b3, o3, c3', rfl, hbb, hrw, -, -, hb3, hmvs⟩ := HAC.out.row q hlq
            have r0 := kcell HBW.out hrw
            have r1 := kcell HBW.out (hmvs l hl6)
            have hbb' : b < wc.heap.size := by omega
            have hb3' : b3 < wc.heap.size := by omega
            have hlqi : (q : Int) < (a.accept.length : Int) := by omega
            have hft := foldTo_lt HAO.out l (cls a vx s) q
            have hft4 := lt12 HAO.out hft
            have hmv := mv_lt HAO.out q l
            have HNX := Lib.hid (show foldTo a l (cls a vx s) (q + 1) = if (cls a vx s).testBit q = true then aft1 a l (foldTo a l (cls a vx s) q) q else foldTo a l (cls a vx s) q by by_cases hb : (cls a vx s).testBit q = true; rw [if_pos hb, foldTo_yes hb]; rw [if_neg hb, foldTo_no (by simpa using hb)])
            have HA := Lib.hid (show aft1 a l (foldTo a l (cls a vx s) q) q = if 0 ≤ mv a q l then ins (foldTo a l (cls a vx s) q) (mv a q l).toNat else foldTo a l (cls a vx s) q from rfl)
            generalize foldTo a l (cls a vx s) q = m0 at *
            clear hrw hmvs hft
            go_wp2_with fail
            refine wp_region_ext_lit (by kernel_rfl) (by kernel_rfl) ?_
            repeat (go_big_quiet_step ((go_at_call 94; exact Calls.ext_of (HLET.out _))))
            refine wpQuiet_nil ?_
            intro _ hw'
            obtain ⟨u2, hw''⟩ := hw'
            subst hw''
            obtain ⟨u3, hu3⟩ := ext_of (below_trans (ext_below wc u) (ext_below (ext wc u) u2))
            rw [hu3]
            cases hb : (cls a vx s).testBit q with
            | false =>
              have b1f := bit_off (by omega) (by omega) hb
              have HR := Lib.hid (show m0 = foldTo a l (cls a vx s) (q + 1) by rw [HNX.out, if_neg (by simp [hb])])
              clear hb
              go_wp2_with fail
              go_roundw
              case rel => exact ⟨q + 1, u3, by omega, by go_num, by rw [← HR.out], rfl⟩
              case measure => simp [intOf]; omega
            | true =>
              have b1t := bit_on (by omega) (by omega) hb
              have HNX := Lib.hid (HNX.out.trans (if_pos hb))
              clear hb
              by_cases h0 : 0 ≤ mv a q l
              · have HR := Lib.hid (show ins m0 (mv a q l).toNat = foldTo a l (cls a vx s) (q + 1) by rw [HNX.out, HA.out, if_pos h0])
                generalize mv a q l = z at *
                obtain ⟨z, rfl⟩ := Int.eq_ofNat_of_zero_le h0
                have e1' := shl_bit (s := z) (by omega)
                have e2' := or_ins (m := m0) (s := z) (by omega) (by omega)
                go_wp2_with fail
                go_roundw
                case rel => exact ⟨q + 1, u3, by omega, by go_num, by rw [← HR.out]; simp, rfl⟩
                case measure => simp [intOf]; omega
              · have HR := Lib.hid (show m0 = foldTo a l (cls a vx s) (q + 1) by rw [HNX.out, HA.out, if_neg h0])
                have h0' : decide (mv a q l ≥ 0) = false := by simp; omega
                go_wp2_with fail
                go_roundw
                case rel => exact ⟨q + 1, u3, by omega, by go_num, by rw [← HR.out], rfl⟩
                case measure => simp [intOf]; omega
          · obtain rfl : q = a.accept.length := by omega
            have hyt : ∀ W, Calls Try.prog 95 #[.agg #[.int .i64 eid, .int .i64 ef, .int .i64 et, .int .i64 el], .bool yinv] W fun en w' => en = .returned (.int .i64 yt) ∧ Below W.heap.size W w' := fun W => by
              have h := l14To_any (eid, ef, et, el) yinv W
              rwa [← HY2.out] at h
            have HTO := Lib.hid hyt
            have hps : psA g a x s ((yid, yinv), (l : Int), yt) = (mem a.accept.length (foldTo a l (cls a vx s) a.accept.length)).map fun (q : Nat) => ((yid, yinv), yt, (q : Int)) := by
              unfold psA
              rw [foldTo_all HAO.out hs, HVA.out]
              simp only [Int.toNat_natCast]
              rw [mem12 HAO.out (aft_lt HAO.out _ _ _)]
            have hmlt := foldTo_lt HAO.out l (cls a vx s) a.accept.length
            have hm4 := lt12 HAO.out hmlt
            generalize foldTo a l (cls a vx s) a.accept.length = M at *
            have HPS := Lib.hid hps
            have hsu : wc.heap.size ≤ (ext wc u).heap.size := ext_size wc u
            have hx0 : ((((arcsOf g (x : Int)).take i).flatMap (psA g a x s))).length ≤ 288 := by
              have h2 := flat_len (psA_len g a x s) ((arcsOf g (x : Int)).take i)
              have h3 : ((arcsOf g (x : Int)).take i).length ≤ 24 := by rw [List.length_take]; omega
              omega
            have hbu := below_trans hbc (ext_below wc u)
            have hrow3 := ownsRow_below HROW.out hbu (Nat.le_refl _)
            have hon3 := HON.out.trans (Only.of_below hbu W0.heap.size WX.heap.size)
            have hout3 : ∀ b, u9.ownBlock = some b → b < wo.heap.size ∨ (ext wc u).heap.size ≤ b := fun b hb => .inl (by rw [hwo]; exact (HROW.out.lt b hb).2)
            have f0 := kcell (ext_below wc u) e0
            have f1 := kcell (ext_below wc u) e1
            have f2 := kcell (ext_below wc u) e2
            have f3 := kcell (ext_below wc u) e3
            have hle : wo.heap.size ≤ (ext wc u).heap.size := by rw [hwo]; exact hbu.size
            have hebE : eb < (ext wc u).heap.size := Nat.lt_of_lt_of_le hhi hsu
            have hloe : wo.heap.size ≤ eb := by rw [hwo]; assumption
            have y1 := kcell (ext_below wc u) y1
            generalize ext wc u = wE at *
            have HROW3 := Lib.hid hrow3
            have HON3 := Lib.hid hon3
            have HOUT3 := Lib.hid hout3
            clear hps hyt hbu hrow3 hon3 hout3
            obtain ⟨XS, hXS⟩ : ∃ XS, XS = ((arcsOf g (x : Int)).take i).flatMap (psA g a x s) := ⟨_, rfl⟩
            rw [← hXS] at hx0 HROW3
            have HXS := Lib.hid hXS
            clear hXS
            go_wp2_with fail
            go_loopw [9, 17] (fun vv qq w3 => ∃ q : Nat, q ≤ a.accept.length ∧ qq = .int .i64 (q : Int) ∧ w3.ownsRow W0.heap.size 56 4 vv (XS ++ (mem q M).map (fun (q : Nat) => (((yid, yinv), yt, (q : Int)) : PS))).length ((XS ++ (mem q M).map (fun (q : Nat) => (((yid, yinv), yt, (q : Int)) : PS))).flatMap cPS) ∧ Only W0.heap.size WX.heap.size W1 w3 ∧ Only 0 wo.heap.size wE w3 ∧ (∀ b, vv.ownBlock = some b → b < WX.heap.size ∨ W1.heap.size ≤ b) ∧ (∀ b, vv.ownBlock = some b → b < wo.heap.size ∨ wE.heap.size ≤ b)) (fun _ qq _ => a.accept.length - (intOf qq).toNat)
            case atStart => exact ⟨0, Nat.zero_le _, rfl, by rw [show mem 0 M = [] from rfl, List.map_nil, List.append_nil]; exact HROW3.out, HON3.out, Only.refl _ _ _, HOUT.out, HOUT3.out⟩
            case round =>
              obtain ⟨q, hq, rfl, hrw, hn1, hn2, ho1, ho2⟩ := hrel
              have y1 := ocell hn1 Y1W.out (by omega) (.inl (by omega))
              have p0 := ocell hn1 P0.out hb5 (.inr hlo5)
              have p1 := ocell hn1 P1.out hb5 (.inr hlo5)
              have f0 := ocell hn2 f0 hebE (.inr hloe)
              have f1 := ocell hn2 f1 hebE (.inr hloe)
              have f2 := ocell hn2 f2 hebE (.inr hloe)
              have f3 := ocell hn2 f3 hebE (.inr hloe)
              have hz1 := hn1.size
              have hz2 := hn2.size
              have HRW := Lib.hid hrw
              have HN1 := Lib.hid hn1
              have HN2 := Lib.hid hn2
              have HO1 := Lib.hid ho1
              have HO2 := Lib.hid ho2
              clear hrw hn1 hn2 ho1 ho2
              by_cases hlq : q < a.accept.length
              · cases hb : M.testBit q with
                | false =>
                  have b1f := bit_off (by omega) (by omega) hb
                  have HM := Lib.hid (mem_no hb)
                  clear hb
                  go_wp2_with fail
                  go_roundw
                  case rel => exact ⟨q + 1, by omega, by go_num, by rw [HM.out]; exact HRW.out, HN1.out, HN2.out, HO1.out, HO2.out⟩
                  case measure => simp [intOf]; omega
                | true =>
                  have b1t := bit_on (by omega) (by omega) hb
                  have hxq : (XS ++ (mem q M).map (fun (q : Nat) => (((yid, yinv), yt, (q : Int)) : PS))).length ≤ 301 := by
                    have := mem_len q M
                    rw [List.length_append, List.length_map]
                    omega
                  have HM := Lib.hid (show (XS ++ (mem q M).map (fun (q : Nat) => (((yid, yinv), yt, (q : Int)) : PS))) ++ [(((yid, yinv), yt, (q : Int)) : PS)] = XS ++ (mem (q + 1) M).map (fun (q : Nat) => (((yid, yinv), yt, (q : Int)) : PS)) by rw [mem_yes hb, List.map_append, List.append_assoc]; rfl)
                  clear hb
                  generalize XS ++ (mem q M).map (fun (q : Nat) => (((yid, yinv), yt, (q : Int)) : PS)) = XQ at *
                  have N5 := Ne.symm (α := Option Nat) (mt (HO1.out b5) (by omega))
                  have NE := Ne.symm (α := Option Nat) (mt (HO2.out eb) (by omega))
                  have HN5 := Lib.hid N5
                  have HNE := Lib.hid NE
                  clear N5 NE
                  go_wp2_with fail
                  refine F_start 16 (fun w' => w'.cell? ⟨b5, o5 + i * 2, none⟩ = some (.int .i64 yid) ∧ w'.cell? ⟨b5, o5 + i * 2 + 1, none⟩ = some (.bool yinv) ∧ w'.cell? ⟨eb, 0, none⟩ = some (.int .i64 eid) ∧ w'.cell? ⟨eb, 1, none⟩ = some (.int .i64 ef) ∧ w'.cell? ⟨eb, 2, none⟩ = some (.int .i64 et) ∧ w'.cell? ⟨eb, 3, none⟩ = some (.int .i64 el)) (by kernel_rfl) (by exact ⟨p0, p1, f0, f1, f2, f3⟩) (fun hS inv => ?_)
                  refine F_take (i := 0) (v := ?_) rfl (by kernel_rfl) (by kernel_rfl) (by kernel_rfl) (fun _ _ _ h => h) inv (Or.inl ⟨by rfl, ?_⟩) (by assumption) (fun invn => ?_)
                  rotate_left
                  · (intro w hSw; (try dsimp only at hSw); go_simp; try with_reducible rfl)
                  try simp only [List.getElem_toArray, List.getElem_cons_zero, List.getElem_cons_succ, Act.put, List.setIfInBounds_toArray, List.set_cons_zero, List.set_cons_succ]
                  clear inv
                  have inv := invn
                  clear invn
                  refine F_take (i := 1) (v := ?_) rfl (by kernel_rfl) (by kernel_rfl) (by kernel_rfl) (fun _ _ _ h => h) inv (Or.inl ⟨by rfl, ?_⟩) (by assumption) (fun invn => ?_)
                  rotate_left
                  · (intro w hSw; (try dsimp only at hSw); go_simp; try with_reducible rfl)
                  try simp only [List.getElem_toArray, List.getElem_cons_zero, List.getElem_cons_succ, Act.put, List.setIfInBounds_toArray, List.set_cons_zero, List.set_cons_succ]
                  clear inv
                  have inv := invn
                  clear invn
                  refine F_take (i := 2) (v := ?_) rfl (by kernel_rfl) (by kernel_rfl) (by kernel_rfl) (fun _ _ _ h => h) inv (Or.inl ⟨by rfl, ?_⟩) (by assumption) (fun invn => ?_)
                  rotate_left
                  · (intro w hSw; (try dsimp only at hSw); go_simp; try with_reducible rfl)
                  try simp only [List.getElem_toArray, List.getElem_cons_zero, List.getElem_cons_succ, Act.put, List.setIfInBounds_toArray, List.set_cons_zero, List.set_cons_succ]
                  clear inv
                  have inv := invn
                  clear invn
                  refine F_take (i := 3) (v := ?_) rfl (by kernel_rfl) (by kernel_rfl) (by kernel_rfl) (fun _ _ _ h => h) inv (Or.inl ⟨by rfl, ?_⟩) (by assumption) (fun invn => ?_)
                  rotate_left
                  · (intro w hSw; (try dsimp only at hSw); go_simp; try with_reducible rfl)
                  try simp only [List.getElem_toArray, List.getElem_cons_zero, List.getElem_cons_succ, Act.put, List.setIfInBounds_toArray, List.set_cons_zero, List.set_cons_succ]
                  clear inv
                  have inv := invn
                  clear invn
                  refine F_take (i := 4) (v := ?_) rfl (by kernel_rfl) (by kernel_rfl) (by kernel_rfl) (fun _ _ _ h => h) inv (Or.inl ⟨by rfl, ?_⟩) (by assumption) (fun invn => ?_)
                  rotate_left
                  · (intro w hSw; (try dsimp only at hSw); go_simp; try with_reducible rfl)
                  try simp only [List.getElem_toArray, List.getElem_cons_zero, List.getElem_cons_succ, Act.put, List.setIfInBounds_toArray, List.set_cons_zero, List.set_cons_succ]
                  clear inv
                  have inv := invn
                  clear invn
                  refine F_take (i := 5) (v := ?_) rfl (by kernel_rfl) (by kernel_rfl) (by kernel_rfl) (fun _ _ _ h => h) inv (Or.inl ⟨by rfl, ?_⟩) (by assumption) (fun invn => ?_)
                  rotate_left
                  · (intro w hSw; (try dsimp only at hSw); go_simp; try with_reducible rfl)
                  try simp only [List.getElem_toArray, List.getElem_cons_zero, List.getElem_cons_succ, Act.put, List.setIfInBounds_toArray, List.set_cons_zero, List.set_cons_succ]
                  clear inv
                  have inv := invn
                  clear invn
                  refine F_take (i := 6) (v := ?_) rfl (by kernel_rfl) (by kernel_rfl) (by kernel_rfl) (fun _ _ _ h => h) inv (Or.inl ⟨by rfl, ?_⟩) (by assumption) (fun invn => ?_)
                  rotate_left
                  · (intro w hSw; (try dsimp only at hSw); go_simp; try with_reducible rfl)
                  try simp only [List.getElem_toArray, List.getElem_cons_zero, List.getElem_cons_succ, Act.put, List.setIfInBounds_toArray, List.set_cons_zero, List.set_cons_succ]
                  clear inv
                  have inv := invn
                  clear invn
                  refine F_take (i := 7) (v := ?_) rfl (by kernel_rfl) (by kernel_rfl) (by kernel_rfl) (fun _ _ _ h => h) inv (Or.inl ⟨by rfl, ?_⟩) (by assumption) (fun invn => ?_)
                  rotate_left
                  · (intro w hSw; (try dsimp only at hSw); go_simp; try with_reducible rfl)
                  try simp only [List.getElem_toArray, List.getElem_cons_zero, List.getElem_cons_succ, Act.put, List.setIfInBounds_toArray, List.set_cons_zero, List.set_cons_succ]
                  clear inv
                  have inv := invn
                  clear invn
                  refine F_take (i := 8) (v := ?_) rfl (by kernel_rfl) (by kernel_rfl) (by kernel_rfl) (fun _ _ _ h => h) inv (Or.inl ⟨by rfl, ?_⟩) (by assumption) (fun invn => ?_)
                  rotate_left
                  · (intro w hSw; (try dsimp only at hSw); go_simp; try with_reducible rfl)
                  try simp only [List.getElem_toArray, List.getElem_cons_zero, List.getElem_cons_succ, Act.put, List.setIfInBounds_toArray, List.set_cons_zero, List.set_cons_succ]
                  clear inv
                  have inv := invn
                  clear invn
                  refine F_take (i := 9) (v := ?_) rfl (by kernel_rfl) (by kernel_rfl) (by kernel_rfl) (fun _ _ _ h => h) inv (Or.inl ⟨by rfl, ?_⟩) (by assumption) (fun invn => ?_)
                  rotate_left
                  · (intro w hSw; (try dsimp only at hSw); go_simp; try with_reducible rfl)
                  try simp only [List.getElem_toArray, List.getElem_cons_zero, List.getElem_cons_succ, Act.put, List.setIfInBounds_toArray, List.set_cons_zero, List.set_cons_succ]
                  clear inv
                  have inv := invn
                  clear invn
                  refine F_take (i := 10) (v := ?_) rfl (by kernel_rfl) (by kernel_rfl) (by kernel_rfl) (fun _ _ _ h => h) inv (Or.inl ⟨by rfl, ?_⟩) (by assumption) (fun invn => ?_)
                  rotate_left
                  · (intro w hSw; (try dsimp only at hSw); go_simp; try with_reducible rfl)
                  try simp only [List.getElem_toArray, List.getElem_cons_zero, List.getElem_cons_succ, Act.put, List.setIfInBounds_toArray, List.set_cons_zero, List.set_cons_succ]
                  clear inv
                  have inv := invn
                  clear invn
                  refine F_take (i := 12) (v := ?_) rfl (by kernel_rfl) (by kernel_rfl) (by kernel_rfl) (fun _ _ _ h => h) inv (Or.inl ⟨by rfl, ?_⟩) (by assumption) (fun invn => ?_)
                  rotate_left
                  · (intro w hSw; (try dsimp only at hSw); go_simp; try with_reducible rfl)
                  try simp only [List.getElem_toArray, List.getElem_cons_zero, List.getElem_cons_succ, Act.put, List.setIfInBounds_toArray, List.set_cons_zero, List.set_cons_succ]
                  clear inv
                  have inv := invn
                  clear invn
                  refine F_one (i := 11) (by kernel_rfl) rfl rfl (by omega) inv (fun K hK => ?_)
                  try simp only [List.getElem_toArray, List.getElem_cons_zero, List.getElem_cons_succ]
                  go_simp
                  refine (HTO.out _).mono ?_
                  rintro e wT ⟨rfl, hbT⟩
                  have hzT : wr.heap.size ≤ wT.heap.size := hbT.size
                  have HRT := Lib.hid (ownsRow_below HRW.out (below_trans ((Below.refl wr.heap.size wr).drew) hbT) (Nat.le_refl _))
                  refine hK.out _ _ (kB6 hbT hS) (fun hSn invn => ?_)
                  try simp only [List.getElem_toArray, List.getElem_cons_zero, List.getElem_cons_succ, Act.put, List.setIfInBounds_toArray, List.set_cons_zero, List.set_cons_succ]
                  clear hK K inv hS
                  have inv := invn
                  have hS := hSn
                  clear invn hSn
                  refine F_take (i := 13) (v := ?_) rfl (by kernel_rfl) (by kernel_rfl) (by kernel_rfl) (fun _ _ _ h => h) inv (Or.inl ⟨by rfl, ?_⟩) (by assumption) (fun invn => ?_)
                  rotate_left
                  · (intro w hSw; (try dsimp only at hSw); go_simp; try with_reducible rfl)
                  try simp only [List.getElem_toArray, List.getElem_cons_zero, List.getElem_cons_succ, Act.put, List.setIfInBounds_toArray, List.set_cons_zero, List.set_cons_succ]
                  clear inv
                  have inv := invn
                  clear invn
                  refine F_one (i := 14) (by kernel_rfl) rfl rfl (by omega) inv (fun K hK => ?_)
                  try simp only [List.getElem_toArray, List.getElem_cons_zero, List.getElem_cons_succ]
                  go_simp
                  refine hK.out _ _ (kA6 _ hS) (fun hSn invn => ?_)
                  try simp only [List.getElem_toArray, List.getElem_cons_zero, List.getElem_cons_succ, Act.put, List.setIfInBounds_toArray, List.set_cons_zero, List.set_cons_succ]
                  clear hK K inv hS
                  have inv := invn
                  have hS := hSn
                  clear invn hSn
                  refine F_one (i := 15) (by kernel_rfl) rfl rfl (by omega) inv (fun K hK => ?_)
                  try simp only [List.getElem_toArray, List.getElem_cons_zero, List.getElem_cons_succ]
                  refine op_append1 cPS elPS rfl _ _ (by rfl) W0.heap.size _ XQ ((yid, yinv), yt, (q : Int)) 1 _ (by rfl) (HRT.out.alloc _) (by first | rfl | simp) (heap_alloc_new _ _) rfl (cPS_one _) (by omega) (by omega) (by simp; omega) ?_
                  intro g2 cp2 w3 hown3 hgr3 hat3 hlt3
                  have HW3 := Lib.hid hown3
                  have HG3 := Lib.hid hgr3
                  have HA3 := Lib.hid hat3
                  clear hown3 hgr3 hat3
                  refine hK.out _ _ (kG6 HG3.out HN5.out HN5.out HNE.out HNE.out HNE.out HNE.out hS) (fun hSn invn => ?_)
                  try simp only [List.getElem_toArray, List.getElem_cons_zero, List.getElem_cons_succ, Act.put, List.setIfInBounds_toArray, List.set_cons_zero, List.set_cons_succ]
                  clear hK K inv hS
                  have inv := invn
                  have hS := hSn
                  clear invn hSn
                  refine F_last (i := 16) (by kernel_rfl) rfl rfl (by omega) (by kernel_rfl) (fun K hK => ?_)
                  go_simp
                  refine hK _ _ ?_
                  clear hK K inv hS
                  have hat := HA3.out.imp id (Nat.le_trans (show wT.heap.size ≤ _ by simp))
                  go_wp2_with fail
                  go_roundw
                  case rel =>
                    refine ⟨q + 1, by omega, by go_num, by rw [← HM.out]; simpa using HW3.out, (((HN1.out.drew).trans (Only.of_below hbT _ _)).alloc _).grown HG3.out (fun b hb => (HO1.out b hb).imp (fun h => ⟨(HRW.out.lt b hb).1, h⟩) id), (((HN2.out.drew).trans (Only.of_below hbT _ _)).alloc _).grown HG3.out (fun b hb => (HO2.out b hb).imp (fun h => ⟨Nat.zero_le _, h⟩) id), fun b hb => ?_, fun b hb => ?_⟩
                    · injection hb with hb
                      subst hb
                      rcases hat with h | h
                      · exact HO1.out _ h
                      · exact .inr (Nat.le_trans (show W1.heap.size ≤ wT.heap.size by omega) h)
                    · injection hb with hb
                      subst hb
                      rcases hat with h | h
                      · exact HO2.out _ h
                      · exact .inr (Nat.le_trans (show wE.heap.size ≤ wT.heap.size by omega) h)
                  case measure => simp [intOf]; omega
              · obtain rfl : q = a.accept.length := by omega
                go_wp2_with fail
                go_roundw
                case rel =>
                  have hts : ((arcsOf g (x : Int)).take (i + 1)).flatMap (psA g a x s) = XS ++ (mem a.accept.length M).map (fun (q : Nat) => (((yid, yinv), yt, (q : Int)) : PS)) := by
                    rw [take_snoc HYI.out, List.flatMap_append, ← HXS.out, List.flatMap_singleton, HPS.out]
                  exact ⟨i + 1, by omega, by go_num, by rw [hts]; exact HRW.out, HN1.out, HO1.out⟩
                case measure => simp [intOf]; omega
    · obtain rfl : i = (arcsOf g (x : Int)).length := by omega
      have hR : R = ((arcsOf g (x : Int)).take (arcsOf g (x : Int)).length).flatMap (psA g a x s) := by rw [HR.out, List.take_length]; rfl
      have hown := Own.of_row (xs := R) (ownsRow_mono (b := w.heap.size) (by rw [hR]; exact HROW.out) hb0.size) rfl rfl
      have HO := Lib.hid hown
      have hfin : Below w.heap.size w wr := hbw1.trans (hon.below hb0.size hbw1.size)
      clear hR hown
      go_wp2_with fail
      go_ret
      exact ⟨_, rfl, HO.out, hfin⟩
end Go.Proofs.Ytallglnmeeahiaa

/- The reference's l14Accepts: whether a state accepts at a node. -/
namespace Go.Proofs.Ytallglnmeeahiaa
set_option linter.unusedVariables false
set_option linter.unusedSimpArgs false
open Go.ChangeShapes Go.WideShapes Go.ChangeAt Go.RowKit
attribute [local go_sem] ext_cell ext_frozen ext_lt ext_lt1 ext_lt2 ext_lt3 ltn2 ltn3 ltn13 lts1 lts2 lts3

end Go.Proofs.Ytallglnmeeahiaa

/- The reference's l14Back: the distances to a node, by sweeps. -/
namespace Go.Proofs.Ytallglnmeeahiaa
set_option linter.unusedVariables false
set_option linter.unusedSimpArgs false
open Go.ChangeShapes Go.WideShapes Go.ChangeAt Go.RowKit
attribute [local go_sem] ext_cell ext_frozen ext_lt ext_lt1 ext_lt2 ext_lt3 ltn2 ltn3 ltn13 lts1 lts2 lts3

/-- the rows of the product's steps, vertex by vertex -/
def psI (g : Gr) (a : Au) (i : Nat) : List PS := prodSteps g a (i / a.accept.length) (i % a.accept.length)
theorem psI_next (g : Gr) (a : Au) (i : Nat) : nextI g a i = (psI g a i).map (psV a.accept.length) := (psV_next g a _ _).symm
theorem SlI.ps {lo hi : Nat} {w : World} {A : Option Addr} {n c : Nat} {xs : List PS} (h : SlI lo hi w cPS 4 (.slice A n c) xs) {i : Nat} {x : PS} (hx : xs[i]? = some x) :
    ∃ b o, A = some ⟨b, o, none⟩ ∧ lo ≤ b ∧ b < hi ∧ w.cell? ⟨b, o + i * 4 + 2, none⟩ = some (.int .i64 x.2.1) ∧ w.cell? ⟨b, o + i * 4 + 3, none⟩ = some (.int .i64 x.2.2) := by
  obtain ⟨A', c', hv, _, _, h3⟩ := h
  injection hv with h1 _ _
  subst h1
  obtain ⟨b, o, e, g1, g2, hc⟩ := h3 i x hx
  exact ⟨b, o, e, g1, g2, hc 2 _ rfl, hc 3 _ rfl⟩
end Go.Proofs.Ytallglnmeeahiaa

/- The reference's l14Ranks: the distances from a node, breadth first. -/
namespace Go.Proofs.Ytallglnmeeahiaa
set_option linter.unusedVariables false
set_option linter.unusedSimpArgs false
open Go.ChangeShapes Go.WideShapes Go.ChangeAt Go.RowKit
attribute [local go_sem] ext_cell ext_frozen ext_lt ext_lt1 ext_lt2 ext_lt3 ltn2 ltn3 ltn13 lts1 lts2 lts3

def distFrom (g : Gr) (a : Au) (x : Int) : List Int :=
  if (wi x 0 ((g.vals.length : Int) - 1) && (grOk g && auOk a)) = true then spreadR (g.vals.length * a.accept.length) (nextI g a) [x.toNat * a.accept.length + a.start.toNat] else []
theorem distFrom_len {g : Gr} {a : Au} {x : Int} (h : (wi x 0 ((g.vals.length : Int) - 1) && (grOk g && auOk a)) = true) : (distFrom g a x).length = g.vals.length * a.accept.length := by rw [distFrom, if_pos h, spreadR_len]
theorem flatN_atR {xs : List Nat} {t : Nat} {x : Nat} (h : xs[t]? = some x) : (xs.flatMap cN)[t]? = some (.int .i64 (x : Int)) := by
  have := flat_at cN_len h 0 _ rfl
  simpa using this
theorem SlI.grown {α : Type} {lo hi : Nat} {w w' : World} {E : α → List Value} {k : Nat} {v : Value} {xs : List α} (h : SlI lo hi w E k v xs) {row : Option Nat} (hg : w.grownBy w' row) (hh : hi ≤ w.heap.size) (hn : ∀ b, row = some b → b < lo ∨ hi ≤ b) : SlI lo hi w' E k v xs :=
  h.keep_ fun b o h1 h2 => World.cell?_of_block (w := w) (hg.block b (by omega) (fun e => by have := hn b e.symm; omega))
theorem ownsRow_far {w : World} {base k n : Nat} {e : TypeId} {v : Value} {cs : List Value} (h : w.ownsRow base e k v n cs) {p : Addr} (hp : p.block < base) (u : Value) : (w.setCell p u).ownsRow base e k v n cs :=
  ownsRow_block h fun g hg => Below.heap_setCell _ _ _ _ (by have := (h.lt g hg).1; omega)
set_option maxHeartbeats 8000000 in
set_option maxRecDepth 100000 in
theorem l14Ranks_any (vg va : Value) (g : Gr) (a : Au) (x : Nat) (w : World) (hgv : GrV 0 w.heap.size w vg g) (hav : AuV 0 w.heap.size w va a) (hgo : grOk g = true) (ha : auOk a = true) (hx : x < g.vals.length) :
    Calls Try.prog 69 #[vg, va, .int .i64 (x : Int)] w fun e w' => ∃ v', e = .returned v' ∧ Own w.heap.size w'.heap.size w' 3 cI 1 v' (distFrom g a (x : Int)) ∧ Below w.heap.size w w' := by
  have hg := grOk_iff.1 hgo
  have hav0 := hav
  have hgv0 := hgv
  obtain ⟨A1, c1, A2, c2, rfl, hl1, hm1, hl2, hm2, -, -⟩ := hgv.form
  obtain ⟨A3, c3, A4, c4, rfl, hl3, hm3, hl4, hm4, -⟩ := hav.form ha
  have hn5 := hg.n5
  have hgn1 := hg.n1
  obtain ⟨⟨hn1, hn12⟩, ⟨hst0, hst1⟩, -, -⟩ := auOk_iff.1 ha
  obtain ⟨N, hN⟩ : ∃ N, N = g.vals.length * a.accept.length := ⟨_, rfl⟩
  have hN60 : N ≤ 60 := by rw [hN]; exact Nat.mul_le_mul hn5 hn12
  obtain ⟨s, hs⟩ : ∃ s : Nat, a.start = (s : Int) := ⟨a.start.toNat, by omega⟩
  obtain ⟨xn, hxn⟩ : ∃ xn, xn = x * a.accept.length := ⟨_, rfl⟩
  have hxn2 : xn + a.accept.length ≤ N := by rw [hxn, hN]; have := Nat.mul_le_mul_right a.accept.length (show x + 1 ≤ g.vals.length by omega); rw [Nat.succ_mul] at this; exact this
  obtain ⟨S0, hS0⟩ : ∃ S0, S0 = xn + s := ⟨_, rfl⟩
  have hS0N : S0 < N := by omega
  have m0' : (g.vals.length : Int) * (a.accept.length : Int) = (N : Int) := by rw [hN, Int.natCast_mul]
  have m0 : IntKind.i64.wrap ((g.vals.length : Int) * (a.accept.length : Int)) = (N : Int) := by rw [m0']; exact IntWalk.i64_in _ (by omega)
  have m1' : (x : Int) * (a.accept.length : Int) = (xn : Int) := by rw [hxn, Int.natCast_mul]
  have m1 : IntKind.i64.wrap ((x : Int) * (a.accept.length : Int)) = (xn : Int) := by rw [m1']; exact IntWalk.i64_in _ (by omega)
  have m2' : (xn : Int) + (s : Int) = (S0 : Int) := by omega
  have m2 : IntKind.i64.wrap ((xn : Int) + (s : Int)) = (S0 : Int) := by rw [m2']; exact IntWalk.i64_in _ (by omega)
  obtain ⟨R, hR⟩ : ∃ R, R = distFrom g a (x : Int) := ⟨_, rfl⟩
  have hR2 : R = bfs (nextI g a) (1 + N) (srcD N [S0]) [S0] := by
    rw [hR, distFrom, if_pos (by simp only [Bool.and_eq_true, wi_iff]; exact ⟨by omega, hgo, ha⟩), Int.toNat_natCast, ← hxn, ← hN, hs, Int.toNat_natCast, ← hS0]; rfl
  rw [← hR]
  have hnN : ∀ i k, i < N → k ∈ nextI g a i → k < N := fun i k _ hk => by rw [hN]; exact nextV_lt hg ha hk
  have hini := srcD_bfsI (N := N) (fs := [S0]) (by intro i hi; rw [List.mem_singleton] at hi; omega)
  have hsrc : srcD N [S0] = (List.replicate N (-1)).set S0 0 := rfl
  have HGO := Lib.hid hgo
  have HAO := Lib.hid ha
  have HAV := Lib.hid hav0
  have HGV := Lib.hid hgv0
  have HR := Lib.hid hR2
  have HN := Lib.hid hN
  have HNN := Lib.hid hnN
  have HINI := Lib.hid hini
  have HSRC := Lib.hid hsrc
  rw [hs] at HAV ⊢
  have hb0 : Below w.heap.size w ((w.alloc (.cells #[.slice A1 g.vals.length c1, .slice A2 g.edges.length c2] 38)).alloc (.cells #[.int .i64 (s : Int), .slice A3 a.accept.length c3, .slice A4 a.accept.length c4] 27)) := ((Below.refl _ _).alloc (Nat.le_refl _) _).alloc (by simp) _
  clear hgv hav ha hg hgo hav0 hgv0 hR hR2 hN hnN hini hsrc hxn hS0 hs hst0 hst1
  go_enter Try.func69, Try.ntmps69
  go_wp2_with fail
  obtain ⟨W0, hW0⟩ : ∃ W0, W0 = ((w.alloc (.cells #[.slice A1 g.vals.length c1, .slice A2 g.edges.length c2] 38)).alloc (.cells #[.int .i64 (s : Int), .slice A3 a.accept.length c3, .slice A4 a.accept.length c4] 27)) := ⟨_, rfl⟩
  rw [← hW0] at hb0 ⊢
  have x0 : W0.cell? ⟨w.heap.size, 0, none⟩ = some (.slice A1 g.vals.length c1) := by rw [hW0]; simp
  have x1 : W0.cell? ⟨w.heap.size, 1, none⟩ = some (.slice A2 g.edges.length c2) := by rw [hW0]; simp
  have y0 : W0.cell? ⟨w.heap.size + 1, 0, none⟩ = some (.int .i64 (s : Int)) := by rw [hW0]; simp
  have y1 : W0.cell? ⟨w.heap.size + 1, 1, none⟩ = some (.slice A3 a.accept.length c3) := by rw [hW0]; simp
  have y2 : W0.cell? ⟨w.heap.size + 1, 2, none⟩ = some (.slice A4 a.accept.length c4) := by rw [hW0]; simp
  have hs0 : w.heap.size + 1 + 1 = W0.heap.size := by rw [hW0]; simp
  rw [hs0]
  have l0 : w.heap.size + 1 < W0.heap.size := by omega
  have l00 : w.heap.size < W0.heap.size := by omega
  clear hW0 hs0
  go_loopw [8, 9] (fun dd kk wr => ∃ k : Nat, k ≤ N ∧ kk = .int .i64 (k : Int) ∧ wr.ownsRow W0.heap.size 3 1 dd (List.replicate k (-1 : Int)).length ((List.replicate k (-1 : Int)).flatMap cI) ∧ Below W0.heap.size W0 wr) (fun _ kk _ => N - (intOf kk).toNat)
  case atStart => exact ⟨0, Nat.zero_le _, rfl, World.ownsRow_lit W0 #[] 0 (Nat.le_refl _) (by decide) rfl, (Below.refl _ _).alloc (Nat.le_refl _) _⟩
  case round =>
    obtain ⟨k, hk, rfl, hrow, hbel⟩ := hrel
    have HROW := Lib.hid hrow
    have x0 := kcell hbel x0
    have x1 := kcell hbel x1
    have y0 := kcell hbel y0
    have y1 := kcell hbel y1
    have y2 := kcell hbel y2
    have hsz := hbel.size
    have l0 := Nat.lt_of_lt_of_le l0 hsz
    have l00 := Nat.lt_of_lt_of_le l00 hsz
    have hbw := below_trans hb0 hbel
    have HBW := Lib.hid hbw
    clear hrow hbw
    by_cases hlt : k < N
    · have HSN := Lib.hid (show List.replicate (k + 1) (-1 : Int) = List.replicate k (-1) ++ [-1] from List.replicate_succ')
      have hil : (List.replicate k (-1 : Int)).length ≤ 60 := by rw [List.length_replicate]; omega
      have hki : (k : Int) < (N : Int) := by omega
      generalize List.replicate k (-1 : Int) = D at *
      go_wp2_with (at_builtin; (refine wpList_append1 cI elInt rfl _ _ rfl W0.heap.size _ (D) (-1) _ 1 _ (by rfl) (HROW.out) (by rfl) rfl rfl rfl (cI_one _) (by omega) (by omega) (by omega) ?_); intro v' w4 hrow' hb4 _ _)
      go_roundw
      case rel => exact ⟨k + 1, by omega, by go_num, by rw [HSN.out]; exact hrow', hbel.trans hb4⟩
      case measure => simp [intOf]; omega
    · obtain rfl : k = N := by omega
      clear hlt hk
      obtain ⟨wo, rfl⟩ : ∃ wo : World, wo = wr := ⟨_, rfl⟩
      have hrow := HROW.out
      rw [List.length_replicate] at hrow
      obtain ⟨gD, cD, rfl, hgD, hgDo, -, -⟩ := own_some hrow (by omega)
      have hDc := World.ownsRow.cellAt hrow S0 (by omega)
      rw [flatI_at (x := -1) (by rw [List.getElem?_replicate, if_pos hS0N])] at hDc
      have hDf := World.ownsRow.frozenAt hrow S0
      have hrow2 := (World.ownsRow.stored hrow S0 (.int .i64 0)).1
      rw [flatI_set, ← HSRC.out] at hrow2
      have HR2 := Lib.hid hrow2
      have hS0i : (S0 : Int) < (k : Int) := by omega
      clear hrow hrow2 HROW HSRC
      go_wp2_with fail
      obtain ⟨N, hNk⟩ : ∃ N, N = k := ⟨_, rfl⟩
      subst hNk
      have hwo := HBW.out.size
      have hb1 := hb0.size
      clear hDc hDf m0 m0' m1 m1' m2 m2'
      go_loopg [10, 11] (1 + N) (fun f qv ii wr => ∃ (i : Nat) (D : List Int) (Q : List Nat), i ≤ Q.length ∧ i + f = 1 + N ∧ ii = .int .i64 (i : Int) ∧ BfsI N (1 + N) f D (Q.drop i) ∧ bfs (nextI g a) f D (Q.drop i) = R ∧ wr.ownsRow W0.heap.size 3 1 (.slice (some ⟨gD, 0, none⟩) N cD) N (D.flatMap cI) ∧
        wr.ownsRow wo.heap.size 3 1 qv Q.length (Q.flatMap cN) ∧ Only gD (gD + 1) wo wr)
      case atStart => exact ⟨0, srcD N [S0], [S0], Nat.zero_le _, by omega, rfl, HINI.out, HR.out.symm, HR2.out.alloc _, by (have h := World.ownsRow_lit (base := wo.heap.size) (e := 3) (size := 1) (wo.setCell ⟨gD, S0, none⟩ (.int .i64 0)) #[.int .i64 (S0 : Int)] 1 (by simp) (by decide) rfl); rw [World.size_setCell] at h; exact h, ((Only.refl gD (gD + 1) wo).setCell (p := ⟨gD, S0, none⟩) (.inl ⟨Nat.le_refl _, Nat.lt_succ_self _⟩) _).alloc _⟩
      case round =>
        clear HR2 HINI hbel
        obtain ⟨i, D, Q, hi, hif, rfl, hI, hB, hrow, hq, hon⟩ := hrel
        have HI := Lib.hid hI
        have HB := Lib.hid hB
        have HROW := Lib.hid hrow
        have HQ := Lib.hid hq
        have x0 := ocell hon x0 l00 (.inl (by omega))
        have x1 := ocell hon x1 l00 (.inl (by omega))
        have y0 := ocell hon y0 l0 (.inl (by omega))
        have y1 := ocell hon y1 l0 (.inl (by omega))
        have y2 := ocell hon y2 l0 (.inl (by omega))
        have hbw := HBW.out.trans (hon.below (by omega) hwo)
        have HBWR := Lib.hid hbw
        have hsz2 := hon.size
        clear hI hB hrow hq hbw
        by_cases hlt : i < Q.length
        · have hdr : Q.drop i = Q[i] :: Q.drop (i + 1) := List.drop_eq_getElem_cons hlt
          have hqi : Q[i]? = some Q[i] := List.getElem?_eq_getElem hlt
          generalize Q[i] = h at hdr hqi
          rw [hdr] at HI HB
          obtain ⟨f, rfl⟩ : ∃ f, gk = f + 1 := ⟨gk - 1, by have := HI.out.fuel; rw [List.length_cons] at this; omega⟩
          obtain ⟨hhN, hh0⟩ := HI.out.queue h (by simp)
          have hql : Q.length ≤ 61 := by
            have h1 := HI.out.fuel
            rw [← hdr, List.length_drop] at h1
            omega
          obtain ⟨gQ, cQ, rfl, hgQ, hgQw, -, -⟩ := own_some HQ.out (by omega)
          have hqc := (World.ownsRow.cellAt HQ.out i (by omega)).trans (flatN_atR hqi)
          have qc := hqc
          have hgp : g.vals.length * a.accept.length = N := HN.out.symm
          obtain ⟨X, hX⟩ : ∃ X, X = h / a.accept.length := ⟨_, rfl⟩
          obtain ⟨S, hS⟩ : ∃ S, S = h % a.accept.length := ⟨_, rfl⟩
          have hXl : X < g.vals.length := by rw [hX]; exact Nat.div_lt_of_lt_mul (by rw [Nat.mul_comm, hgp]; exact hhN)
          have hSl : S < a.accept.length := by rw [hS]; exact Nat.mod_lt _ hn1
          have t1 : (h : Int).tdiv (a.accept.length : Int) = (X : Int) := by rw [hX]; rfl
          have t2 : (h : Int).tmod (a.accept.length : Int) = (S : Int) := by rw [hS]; rfl
          have hn0 : ((a.accept.length : Int) == 0) = false := by simp only [beq_eq_false_iff_ne, ne_eq]; omega
          have hae : a.accept ≠ [] := by intro h; rw [h] at hn1; simp at hn1
          have HPX := Lib.hid (show prodSteps g a X S = psI g a h by rw [hX, hS]; rfl)
          have q1 : IntKind.i64.wrap (X : Int) = (X : Int) := IntWalk.i64_in _ (by omega)
          have q2 : IntKind.i64.wrap (S : Int) = (S : Int) := IntWalk.i64_in _ (by omega)
          have hii : (i : Int) < (Q.length : Int) := by omega
          have HQI := Lib.hid hqi
          have HDR := Lib.hid hdr
          clear hX hS hgp hdr hqi
          go_wp2_with fail
          refine F_start 15 (fun w' => w'.cell? ⟨w.heap.size, 0, none⟩ = some (.slice A1 g.vals.length c1) ∧ w'.cell? ⟨w.heap.size, 1, none⟩ = some (.slice A2 g.edges.length c2) ∧ w'.cell? ⟨w.heap.size + 1, 0, none⟩ = some (.int .i64 (s : Int)) ∧ w'.cell? ⟨w.heap.size + 1, 1, none⟩ = some (.slice A3 a.accept.length c3) ∧ w'.cell? ⟨w.heap.size + 1, 2, none⟩ = some (.slice A4 a.accept.length c4) ∧ w'.cell? ⟨gQ, i, none⟩ = some (.int .i64 (h : Int))) (by kernel_rfl) (by exact ⟨x0, x1, y0, y1, y2, qc⟩) (fun hS inv => ?_)
          refine F_take (i := 0) (v := ?_) rfl (by kernel_rfl) (by kernel_rfl) (by kernel_rfl) (fun _ _ _ h => h) inv (Or.inl ⟨by rfl, ?_⟩) (by assumption) (fun invn => ?_)
          rotate_left
          · (intro w hSw; (try dsimp only at hSw); go_simp; try with_reducible rfl)
          try simp only [List.getElem_toArray, List.getElem_cons_zero, List.getElem_cons_succ, Act.put, List.setIfInBounds_toArray, List.set_cons_zero, List.set_cons_succ]
          clear inv
          have inv := invn
          clear invn
          refine F_take (i := 1) (v := ?_) rfl (by kernel_rfl) (by kernel_rfl) (by kernel_rfl) (fun _ _ _ h => h) inv (Or.inl ⟨by rfl, ?_⟩) (by assumption) (fun invn => ?_)
          rotate_left
          · (intro w hSw; (try dsimp only at hSw); go_simp; try with_reducible rfl)
          try simp only [List.getElem_toArray, List.getElem_cons_zero, List.getElem_cons_succ, Act.put, List.setIfInBounds_toArray, List.set_cons_zero, List.set_cons_succ]
          clear inv
          have inv := invn
          clear invn
          refine F_take (i := 2) (v := ?_) rfl (by kernel_rfl) (by kernel_rfl) (by kernel_rfl) (fun _ _ _ h => h) inv (Or.inl ⟨by rfl, ?_⟩) (by assumption) (fun invn => ?_)
          rotate_left
          · (intro w hSw; (try dsimp only at hSw); go_simp; try with_reducible rfl)
          try simp only [List.getElem_toArray, List.getElem_cons_zero, List.getElem_cons_succ, Act.put, List.setIfInBounds_toArray, List.set_cons_zero, List.set_cons_succ]
          clear inv
          have inv := invn
          clear invn
          refine F_take (i := 3) (v := ?_) rfl (by kernel_rfl) (by kernel_rfl) (by kernel_rfl) (fun _ _ _ h => h) inv (Or.inl ⟨by rfl, ?_⟩) (by assumption) (fun invn => ?_)
          rotate_left
          · (intro w hSw; (try dsimp only at hSw); go_simp; try with_reducible rfl)
          try simp only [List.getElem_toArray, List.getElem_cons_zero, List.getElem_cons_succ, Act.put, List.setIfInBounds_toArray, List.set_cons_zero, List.set_cons_succ]
          clear inv
          have inv := invn
          clear invn
          refine F_take (i := 4) (v := ?_) rfl (by kernel_rfl) (by kernel_rfl) (by kernel_rfl) (fun _ _ _ h => h) inv (Or.inl ⟨by rfl, ?_⟩) (by assumption) (fun invn => ?_)
          rotate_left
          · (intro w hSw; (try dsimp only at hSw); go_simp; try with_reducible rfl)
          try simp only [List.getElem_toArray, List.getElem_cons_zero, List.getElem_cons_succ, Act.put, List.setIfInBounds_toArray, List.set_cons_zero, List.set_cons_succ]
          clear inv
          have inv := invn
          clear invn
          refine F_take (i := 5) (v := ?_) rfl (by kernel_rfl) (by kernel_rfl) (by kernel_rfl) (fun _ _ _ h => h) inv (Or.inl ⟨by rfl, ?_⟩) (by assumption) (fun invn => ?_)
          rotate_left
          · (intro w hSw; (try dsimp only at hSw); go_simp; try with_reducible rfl)
          try simp only [List.getElem_toArray, List.getElem_cons_zero, List.getElem_cons_succ, Act.put, List.setIfInBounds_toArray, List.set_cons_zero, List.set_cons_succ]
          clear inv
          have inv := invn
          clear invn
          refine F_take (i := 6) (v := ?_) rfl (by kernel_rfl) (by kernel_rfl) (by kernel_rfl) (fun _ _ _ h => h) inv (Or.inl ⟨by rfl, ?_⟩) (by assumption) (fun invn => ?_)
          rotate_left
          · (intro w hSw; (try dsimp only at hSw); go_simp; try with_reducible rfl)
          try simp only [List.getElem_toArray, List.getElem_cons_zero, List.getElem_cons_succ, Act.put, List.setIfInBounds_toArray, List.set_cons_zero, List.set_cons_succ]
          clear inv
          have inv := invn
          clear invn
          refine F_take (i := 7) (v := ?_) rfl (by kernel_rfl) (by kernel_rfl) (by kernel_rfl) (fun _ _ _ h => h) inv (Or.inl ⟨by rfl, ?_⟩) (by assumption) (fun invn => ?_)
          rotate_left
          · (intro w hSw; (try dsimp only at hSw); go_simp; try with_reducible rfl)
          try simp only [List.getElem_toArray, List.getElem_cons_zero, List.getElem_cons_succ, Act.put, List.setIfInBounds_toArray, List.set_cons_zero, List.set_cons_succ]
          clear inv
          have inv := invn
          clear invn
          refine F_take (i := 8) (v := ?_) rfl (by kernel_rfl) (by kernel_rfl) (by kernel_rfl) (fun _ _ _ h => h) inv (Or.inl ⟨by rfl, ?_⟩) (by assumption) (fun invn => ?_)
          rotate_left
          · (intro w hSw; (try dsimp only at hSw); go_simp; try with_reducible rfl)
          try simp only [List.getElem_toArray, List.getElem_cons_zero, List.getElem_cons_succ, Act.put, List.setIfInBounds_toArray, List.set_cons_zero, List.set_cons_succ]
          clear inv
          have inv := invn
          clear invn
          refine F_take (i := 9) (v := ?_) rfl (by kernel_rfl) (by kernel_rfl) (by kernel_rfl) (fun _ _ _ h => h) inv (Or.inl ⟨by rfl, ?_⟩) (by assumption) (fun invn => ?_)
          rotate_left
          · (intro w hSw; (try dsimp only at hSw); go_simp; try with_reducible rfl)
          try simp only [List.getElem_toArray, List.getElem_cons_zero, List.getElem_cons_succ, Act.put, List.setIfInBounds_toArray, List.set_cons_zero, List.set_cons_succ]
          clear inv
          have inv := invn
          clear invn
          refine F_take (i := 10) (v := ?_) rfl (by kernel_rfl) (by kernel_rfl) (by kernel_rfl) (fun _ _ _ h => h) inv (Or.inl ⟨by rfl, ?_⟩) (by assumption) (fun invn => ?_)
          rotate_left
          · (intro w hSw; (try dsimp only at hSw); go_simp; try with_reducible rfl)
          try simp only [List.getElem_toArray, List.getElem_cons_zero, List.getElem_cons_succ, Act.put, List.setIfInBounds_toArray, List.set_cons_zero, List.set_cons_succ]
          clear inv
          have inv := invn
          clear invn
          refine F_take (i := 11) (v := ?_) rfl (by kernel_rfl) (by kernel_rfl) (by kernel_rfl) (fun _ _ _ h => h) inv (Or.inl ⟨by rfl, ?_⟩) (by assumption) (fun invn => ?_)
          rotate_left
          · (intro w hSw; (try dsimp only at hSw); go_simp; try with_reducible rfl)
          try simp only [List.getElem_toArray, List.getElem_cons_zero, List.getElem_cons_succ, Act.put, List.setIfInBounds_toArray, List.set_cons_zero, List.set_cons_succ]
          clear inv
          have inv := invn
          clear invn
          refine F_take (i := 12) (v := ?_) rfl (by kernel_rfl) (by kernel_rfl) (by kernel_rfl) (fun _ _ _ h => h) inv (Or.inl ⟨by rfl, ?_⟩) (by assumption) (fun invn => ?_)
          rotate_left
          · (intro w hSw; (try dsimp only at hSw); go_simp; try with_reducible rfl)
          try simp only [List.getElem_toArray, List.getElem_cons_zero, List.getElem_cons_succ, Act.put, List.setIfInBounds_toArray, List.set_cons_zero, List.set_cons_succ]
          clear inv
          have inv := invn
          clear invn
          refine F_take (i := 13) (v := ?_) rfl (by kernel_rfl) (by kernel_rfl) (by kernel_rfl) (fun _ _ _ h => h) inv (Or.inl ⟨by rfl, ?_⟩) (by assumption) (fun invn => ?_)
          rotate_left
          · (intro w hSw; (try dsimp only at hSw); go_simp; try with_reducible rfl)
          try simp only [List.getElem_toArray, List.getElem_cons_zero, List.getElem_cons_succ, Act.put, List.setIfInBounds_toArray, List.set_cons_zero, List.set_cons_succ]
          clear inv
          have inv := invn
          clear invn
          refine F_one (i := 14) (by kernel_rfl) rfl rfl (by omega) inv (fun K hK => ?_)
          try simp only [List.getElem_toArray, List.getElem_cons_zero, List.getElem_cons_succ]
          go_simp
          refine (l14Steps_any _ _ g a X S _ (HGV.out.keep (below_trans HBWR.out ((Below.refl wr.heap.size wr).drew))) (HAV.out.keep (below_trans HBWR.out ((Below.refl wr.heap.size wr).drew))) HGO.out HAO.out hXl hSl).mono ?_
          rintro e wT ⟨vT, rfl, hoT, hbT⟩
          refine hK.out _ _ (kB6 hbT hS) (fun hSn invn => ?_)
          try simp only [List.getElem_toArray, List.getElem_cons_zero, List.getElem_cons_succ, Act.put, List.setIfInBounds_toArray, List.set_cons_zero, List.set_cons_succ]
          clear hK K inv hS
          have inv := invn
          have hS := hSn
          clear invn hSn
          refine F_last (i := 15) (by kernel_rfl) rfl rfl (by omega) (by kernel_rfl) (fun K hK => ?_)
          go_simp
          refine hK _ _ ?_
          clear hK K inv hS
          have hbWT := below_trans ((Below.refl wr.heap.size wr).drew) hbT
          have hsT := hbWT.size
          have hrT := ownsRow_below HROW.out hbWT (Nat.le_refl _)
          have hqT := ownsRow_below HQ.out hbWT (Nat.le_refl _)
          have honT := hon.trans (Only.of_below hbWT gD (gD + 1))
          have hslT : SlI wr.heap.size wT.heap.size wT cPS 4 vT (psI g a h) := by have h := hoT.sl cPS_len; rw [HPX.out] at h; exact h
          have hlp : (psI g a h).length ≤ 288 := prodSteps_len (grOk_iff.1 HGO.out) a _ _
          have hnl : (nextI g a h).length = (psI g a h).length := by rw [psI_next, List.length_map]
          obtain ⟨A7, c7, rfl, hl7, hm7, -⟩ := SlE.form (hslT.mono (Nat.zero_le _) (Nat.le_refl _))
          obtain ⟨dd, hdd⟩ : ∃ dd, dd = D.getD h 0 := ⟨_, rfl⟩
          have htop := HI.out.top h
          rw [← hdd] at htop hh0
          have HDD := Lib.hid hdd
          have HPOP := Lib.hid HI.out.pop
          have HROWT := Lib.hid hrT
          have HQT := Lib.hid hqT
          have HONT := Lib.hid honT
          have HSL := Lib.hid hslT
          have HNL := Lib.hid hnl
          have HBR := Lib.hid (show relax (dd + 1) (nextI g a h) D (Q.drop (i + 1)) = relax (dd + 1) (nextI g a h) D (Q.drop (i + 1)) from rfl)
          obtain ⟨w5, rfl⟩ : ∃ w5 : World, w5 = wr := ⟨_, rfl⟩
          clear hrT hqT honT hslT hnl hdd hon q1 q2 t1 t2 hoT hqc qc
          go_wp2_with fail
          go_loopw [10, 13] (fun qv jj wr => ∃ (j : Nat) (D' : List Int) (Q' : List Nat), j ≤ (psI g a h).length ∧ jj = .int .i64 (j : Int) ∧ i < Q'.length ∧ Q'[i]? = some h ∧ BfsI N (1 + N) f D' (Q'.drop (i + 1)) ∧ D'.getD h 0 = dd ∧
            relax (dd + 1) ((nextI g a h).drop j) D' (Q'.drop (i + 1)) = relax (dd + 1) (nextI g a h) D (Q.drop (i + 1)) ∧ wr.ownsRow W0.heap.size 3 1 (.slice (some ⟨gD, 0, none⟩) N cD) N (D'.flatMap cI) ∧ wr.ownsRow wo.heap.size 3 1 qv Q'.length (Q'.flatMap cN) ∧
            Only gD (gD + 1) wo wr ∧ SlI w5.heap.size wT.heap.size wr cPS 4 (.slice A7 (psI g a h).length c7) (psI g a h) ∧ (∀ b, qv.ownBlock = some b → b < w5.heap.size ∨ wT.heap.size ≤ b) ∧ wT.heap.size ≤ wr.heap.size) (fun _ jj _ => (psI g a h).length - (intOf jj).toNat)
          case atStart => exact ⟨0, D, Q, Nat.zero_le _, rfl, hlt, HQI.out, HPOP.out, HDD.out.symm, by rw [List.drop_zero], HROWT.out, HQT.out, HONT.out, HSL.out, fun b hb => .inl (HQ.out.lt b hb).2, Nat.le_refl _⟩
          case round =>
            clear HROWT HQT HONT HSL HPOP
            obtain ⟨j, D', Q', hj, rfl, hiQ, hqi', hI2, hDh, hrx, hrow, hq, hon, hsl, hqb, hsz3⟩ := hrel
            have HQI' := Lib.hid hqi'
            have HI2 := Lib.hid hI2
            have HDH := Lib.hid hDh
            have HRX := Lib.hid hrx
            have HROW' := Lib.hid hrow
            have HQ' := Lib.hid hq
            have HSL := Lib.hid hsl
            have HQB := Lib.hid hqb
            have HON := Lib.hid hon
            clear hqi' hI2 hDh hrx hrow hq hsl hqb hon
            by_cases hlj : j < (psI g a h).length
            · have hpk : (psI g a h)[j]? = some (psI g a h)[j] := List.getElem?_eq_getElem hlj
              have hpr := prodSteps_range (grOk_iff.1 HGO.out) HAO.out (List.getElem_mem hlj)
              generalize (psI g a h)[j] = p at hpk hpr
              have hnk : (nextI g a h)[j]? = some (psV a.accept.length p) := by rw [psI_next, List.getElem?_map, hpk]; rfl
              have hvN := HNN.out h _ hhN (List.mem_of_getElem? hnk)
              obtain ⟨b7, o7, rfl, hb70, hb71, r2, r3⟩ := HSL.out.ps hpk
              obtain ⟨pst, z, q⟩ := p
              simp only at r2 r3 hpr
              obtain ⟨⟨hz0, hz1⟩, hq0, hq1⟩ := hpr
              obtain ⟨z, rfl⟩ := Int.eq_ofNat_of_zero_le hz0
              obtain ⟨q, rfl⟩ := Int.eq_ofNat_of_zero_le hq0
              obtain ⟨vv, hvv⟩ : ∃ vv, vv = psV a.accept.length (pst, (z : Int), (q : Int)) := ⟨_, rfl⟩
              have hvv2 : vv = z * a.accept.length + q := by rw [hvv]; simp [psV]
              rw [← hvv] at hnk hvN
              have hdrj : (nextI g a h).drop j = vv :: (nextI g a h).drop (j + 1) := by
                obtain ⟨hjl, hjv⟩ := List.getElem?_eq_some_iff.1 hnk
                rw [List.drop_eq_getElem_cons hjl, hjv]
              obtain ⟨zn, hzn⟩ : ∃ zn, zn = z * a.accept.length := ⟨_, rfl⟩
              rw [← hzn] at hvv2
              have m1' : (z : Int) * (a.accept.length : Int) = (zn : Int) := by rw [hzn, Int.natCast_mul]
              have m2' : (zn : Int) + (q : Int) = (vv : Int) := by omega
              have m1 : IntKind.i64.wrap ((z : Int) * (a.accept.length : Int)) = (zn : Int) := by rw [m1']; exact IntWalk.i64_in _ (by omega)
              have m2 : IntKind.i64.wrap ((zn : Int) + (q : Int)) = (vv : Int) := by rw [m2']; exact IntWalk.i64_in _ (by omega)
              have HDJ := Lib.hid hdrj
              have hjj : (j : Int) < ((psI g a h).length : Int) := by omega
              have hvi : (vv : Int) < (N : Int) := by omega
              have hb7w : b7 < wr.heap.size := by omega
              clear hvv hvv2 hzn hnk hpk hdrj
              go_wp2_with fail
              refine wp_region_ext_lit (by kernel_rfl) (by kernel_rfl) ?_
              repeat (go_big_quiet_step (fail))
              refine wpQuiet_nil ?_
              intro _ hw'
              obtain ⟨u2, hw''⟩ := hw'
              subst hw''
              have hbu := ext_below wr u2
              have hsu := hbu.size
              have hrow3 := ownsRow_below HROW'.out hbu (Nat.le_refl _)
              have hq3 := ownsRow_below HQ'.out hbu (Nat.le_refl _)
              have hon3 := HON.out.trans (Only.of_below hbu gD (gD + 1))
              have hsl3 := HSL.out.below hbu (by omega)
              clear m1 m1' m2 m2' r2 r3
              generalize ext wr u2 = wx at *
              have hlD : D'.length = N := HI2.out.len
              have hvl : vv < D'.length := by omega
              have hvc := (World.ownsRow.cellAt hrow3 vv (by omega)).trans (flatI_at (getD_of hvl))
              have hvf := World.ownsRow.frozenAt hrow3 vv
              have HQ3 := Lib.hid hq3
              have HON3 := Lib.hid hon3
              have HSL3 := Lib.hid hsl3
              have HROW3 := Lib.hid hrow3
              have hQl : Q'.length ≤ 61 := by
                have h1 := HI2.out.fuel
                rw [List.length_drop] at h1
                omega
              clear hrow3 hq3 hon3 hsl3
              by_cases hneg : D'.getD vv 0 < 0
              · have hhl : h < D'.length := by omega
                have hhc := (World.ownsRow.cellAt HROW3.out h (by omega)).trans (flatI_at (getD_of hhl))
                rw [HDH.out] at hhc
                obtain ⟨gQ', cQ', rfl, hgQ', hgQw', -, -⟩ := own_some HQ3.out (by omega)
                have hqc' := (World.ownsRow.cellAt HQ3.out i (by omega)).trans (flatN_atR HQI'.out)
                have hnew := HI2.out.new hvN hneg (d := dd + 1) (by omega) (by omega)
                have hrow4 := (World.ownsRow.stored HROW3.out vv (.int .i64 (dd + 1))).1
                rw [flatI_set] at hrow4
                have hq4 := ownsRow_far HQ3.out (p := ⟨gD, vv, none⟩) (show gD < wo.heap.size from hgDo) (.int .i64 (dd + 1))
                have hon4 := HON3.out.setCell (p := ⟨gD, vv, none⟩) (.inl ⟨Nat.le_refl _, Nat.lt_succ_self _⟩) (.int .i64 (dd + 1))
                have hsl4 := HSL3.out.only ((Only.refl gD (gD + 1) wx).setCell (p := ⟨gD, vv, none⟩) (.inl ⟨Nat.le_refl _, Nat.lt_succ_self _⟩) (.int .i64 (dd + 1))) (by omega) (.inr (by omega))
                have hrx2 : relax (dd + 1) ((nextI g a h).drop (j + 1)) (D'.set vv (dd + 1)) (Q'.drop (i + 1) ++ [vv]) = relax (dd + 1) (nextI g a h) D (Q.drop (i + 1)) := by rw [← HRX.out, HDJ.out, relax_mid _ _ _ _ _ hneg]
                have hDh2 : (D'.set vv (dd + 1)).getD h 0 = dd := by
                  rw [getD_set' hvl, if_neg (by intro e; subst e; rw [HDH.out] at hneg; omega)]; exact HDH.out
                have hdrp : (Q' ++ [vv]).drop (i + 1) = Q'.drop (i + 1) ++ [vv] := List.drop_append_of_le_length (by omega)
                rw [← hdrp] at hnew hrx2
                have HNEW := Lib.hid hnew
                have HR4 := Lib.hid hrow4
                have HQ4 := Lib.hid hq4
                have HON4 := Lib.hid hon4
                have HSL4 := Lib.hid hsl4
                have HRX2 := Lib.hid hrx2
                have HDH2 := Lib.hid hDh2
                have hsx : (wx.setCell ⟨gD, vv, none⟩ (.int .i64 (dd + 1))).heap.size = wx.heap.size := by simp
                generalize D'.getD vv 0 = xv at hvc hneg
                have hii2 : (i : Int) < (Q'.length : Int) := by omega
                have hhi : (h : Int) < (N : Int) := by omega
                clear hnew hrow4 hq4 hon4 hsl4 hrx2 hDh2 hdrp
                go_wp2_with (at_builtin; (refine wpList_append1 cN elInt rfl _ _ rfl wo.heap.size _ Q' vv _ 1 _ (by rfl) HQ4.out (by rfl) (by simp) rfl rfl (cN_one _) (by omega) (by omega) (by simp; omega) ?_); intro v' w4 hrow' hb4 hat4 hgr4)
                go_roundw
                case rel =>
                  have hs4 := hgr4.size
                  have hs5 : ((wx.setCell ⟨gD, vv, none⟩ (.int .i64 (dd + 1))).alloc (.cells #[.int .i64 (vv : Int)] 3)).heap.size = wx.heap.size + 1 := by simp
                  rw [hs5] at hs4
                  refine ⟨j + 1, _, Q' ++ [vv], by omega, by go_num, by simp; omega, by rw [List.getElem?_append_left hiQ]; exact HQI'.out, HNEW.out, HDH2.out, HRX2.out, ownsRow_below' HR4.out hb4 hgDo, hrow', (HON4.out.alloc _).grown hgr4 (fun b hb => .inr (by cases hb; exact hgQ')), (HSL4.out.below ((Below.refl _ _).alloc (Nat.le_refl _) _) (by rw [hsx]; omega)).grown hgr4 (by rw [hs5]; omega) (fun b hb => HQB.out b hb), fun b hb => ?_, by omega⟩
                  rcases hat4 with h1 | ⟨g1, h1, h2⟩
                  · exact HQB.out b (by rw [← h1]; exact hb)
                  · rw [h1] at hb
                    injection hb with hb
                    rw [hsx] at h2
                    exact .inr (by omega)
                case measure => simp [intOf]; omega
              · have hrx2 : relax (dd + 1) ((nextI g a h).drop (j + 1)) D' (Q'.drop (i + 1)) = relax (dd + 1) (nextI g a h) D (Q.drop (i + 1)) := by rw [← HRX.out, HDJ.out, relax_old _ _ _ _ _ hneg]
                have HRX2 := Lib.hid hrx2
                generalize D'.getD vv 0 = xv at hvc hneg
                clear hrx2
                go_wp2_with fail
                go_roundw
                case rel => exact ⟨j + 1, D', Q', by omega, by go_num, hiQ, HQI'.out, HI2.out, HDH.out, HRX2.out, HROW3.out, HQ3.out, HON3.out, HSL3.out, HQB.out, by omega⟩
                case measure => simp [intOf]; omega
            · obtain rfl : j = (psI g a h).length := by omega
              have hrx2 := HRX.out
              rw [← HNL.out, List.drop_length, relax] at hrx2
              have hBF : bfs (nextI g a) f D' (Q'.drop (i + 1)) = R := by
                rw [← HB.out, bfs, ← HDD.out, ← hrx2]
              have HBF := Lib.hid hBF
              clear hrx2 hBF
              go_wp2_with fail
              go_roundg f
              case measure => exact Nat.lt_succ_self _
              case rel => exact ⟨i + 1, D', Q', by omega, by omega, by go_num, HI2.out, HBF.out, HROW'.out, HQ'.out, HON.out⟩
        · obtain rfl : i = Q.length := by omega
          rw [List.drop_length] at HB HI
          have hD : D = R := by rw [← HB.out, bfs_nil]
          have hown := Own.of_row (xs := D) (ownsRow_mono HROW.out hb1) HI.out.len rfl
          rw [hD] at hown
          have HO := Lib.hid hown
          obtain ⟨A9, c9, rfl, -, -, -⟩ := (Own.of_row (xs := Q) HQ.out rfl rfl).form cN_len
          clear hD hown
          go_wp2_with fail
          go_ret
          exact ⟨_, rfl, HO.out, HBWR.out⟩
end Go.Proofs.Ytallglnmeeahiaa

/- Plain: the answers from a node. -/
namespace Go.Proofs.Ytallglnmeeahiaa
set_option linter.unusedVariables false
set_option linter.unusedSimpArgs false
/-- vertex i is reached and accepts -/
def okV (g : Gr) (a : Au) (D : List Int) (i : Nat) : Bool := decide (0 ≤ D.getD i 0) && accC a (valAt g (i / a.accept.length)) (i % a.accept.length)
def ansM (g : Gr) (a : Au) (D : List Int) (k : Nat) : Nat := ((List.range k).filter (okV g a D)).foldl (fun m i => ins m (i / a.accept.length)) 0
def ansF (g : Gr) (a : Au) (D : List Int) (k : Nat) : List Int := ((List.range k).filter (okV g a D)).map fun (i : Nat) => ((i / a.accept.length : Nat) : Int)
theorem ansM_yes {g : Gr} {a : Au} {D : List Int} {k : Nat} (h : okV g a D k = true) : ansM g a D (k + 1) = ins (ansM g a D k) (k / a.accept.length) := by
  simp [ansM, List.range_succ, List.filter_append, h]
theorem ansM_no {g : Gr} {a : Au} {D : List Int} {k : Nat} (h : okV g a D k = false) : ansM g a D (k + 1) = ansM g a D k := by
  simp [ansM, List.range_succ, List.filter_append, h]
theorem ansF_yes {g : Gr} {a : Au} {D : List Int} {k : Nat} (h : okV g a D k = true) : ansF g a D (k + 1) = ansF g a D k ++ [((k / a.accept.length : Nat) : Int)] := by
  simp [ansF, List.range_succ, List.filter_append, h]
theorem ansF_no {g : Gr} {a : Au} {D : List Int} {k : Nat} (h : okV g a D k = false) : ansF g a D (k + 1) = ansF g a D k := by
  simp [ansF, List.range_succ, List.filter_append, h]
theorem ansF_len (g : Gr) (a : Au) (D : List Int) (k : Nat) : (ansF g a D k).length ≤ k := by
  unfold ansF
  rw [List.length_map]
  exact Nat.le_trans (List.length_filter_le _ _) (by simp)
theorem foldl_ins_nat (f : Nat → Nat) (l : List Nat) (m t : Nat) : (l.foldl (fun m i => ins m (f i)) m).testBit t = (m.testBit t || l.any (fun i => decide (f i = t))) := by
  induction l generalizing m with
  | nil => simp
  | cons x l ih => rw [List.foldl_cons, ih, ins_test, List.any_cons, Bool.or_assoc]
theorem ansM_test (g : Gr) (a : Au) (D : List Int) (k t : Nat) : (ansM g a D k).testBit t = true ↔ ∃ i, i < k ∧ okV g a D i = true ∧ i / a.accept.length = t := by
  unfold ansM
  rw [foldl_ins_nat]
  simp only [Nat.zero_testBit, Bool.false_or, List.any_eq_true, List.mem_filter, List.mem_range, decide_eq_true_eq]
  constructor
  · rintro ⟨i, ⟨h1, h2⟩, h3⟩; exact ⟨i, h1, h2, h3⟩
  · rintro ⟨i, h1, h2, h3⟩; exact ⟨i, ⟨h1, h2⟩, h3⟩
theorem ansM_lt {g : Gr} {a : Au} {D : List Int} {k n : Nat} (h : k ≤ n * a.accept.length) : ansM g a D k < 2 ^ n := by
  refine Nat.lt_pow_two_of_testBit _ fun t ht => ?_
  cases hb : (ansM g a D k).testBit t with
  | false => rfl
  | true =>
    obtain ⟨i, hi, _, rfl⟩ := (ansM_test ..).1 hb
    have : i / a.accept.length < n := Nat.div_lt_of_lt_mul (by rw [Nat.mul_comm]; omega)
    omega
/-- the answers from x, in ascending order -/
def ansL (g : Gr) (a : Au) (x : Int) : List Int :=
  if (wi x 0 ((g.vals.length : Int) - 1) && (grOk g && auOk a)) = true then memI 30 (ansM g a (distFrom g a x) (g.vals.length * a.accept.length)) else []
theorem ansL_asc {g : Gr} {a : Au} {x : Int} (h : (wi x 0 ((g.vals.length : Int) - 1) && (grOk g && auOk a)) = true) : ascL (ansF g a (distFrom g a x) (g.vals.length * a.accept.length)) = ansL g a x := by
  rw [ansL, if_pos h]
  refine asc_uniq (ascL_spec _).1 (memI_asc _ _) fun y => ?_
  rw [(ascL_spec _).2 y, mem_memI]
  simp only [Bool.and_eq_true] at h
  have hn5 := (grOk_iff.1 h.2.1).n5
  unfold ansF
  simp only [List.mem_map, List.mem_filter, List.mem_range]
  constructor
  · rintro ⟨i, ⟨hi, ho⟩, rfl⟩
    have : i / a.accept.length < g.vals.length := Nat.div_lt_of_lt_mul (by rw [Nat.mul_comm]; exact hi)
    exact ⟨i / a.accept.length, rfl, Nat.lt_of_lt_of_le this (by omega), (ansM_test ..).2 ⟨i, hi, ho, rfl⟩⟩
  · rintro ⟨t, rfl, _, ht⟩
    obtain ⟨i, hi, ho, rfl⟩ := (ansM_test ..).1 ht
    exact ⟨i, ⟨hi, ho⟩, rfl⟩
theorem ansL_range {g : Gr} {a : Au} {x y : Int} (h : y ∈ ansL g a x) : 0 ≤ y ∧ y < (g.vals.length : Int) := by
  unfold ansL at h
  split at h
  · obtain ⟨t, rfl, _, ht⟩ := mem_memI.1 h
    obtain ⟨i, hi, _, rfl⟩ := (ansM_test ..).1 ht
    have : i / a.accept.length < g.vals.length := Nat.div_lt_of_lt_mul (by rw [Nat.mul_comm]; exact hi)
    exact ⟨Int.natCast_nonneg _, Int.ofNat_lt.2 this⟩
  · cases h
theorem ansL_len (g : Gr) (a : Au) (x : Int) : (ansL g a x).length ≤ 30 := by
  unfold ansL
  split
  · unfold memI; rw [List.length_map]; exact mem_len _ _
  · simp
def hasAns (g : Gr) (a : Au) (x y : Int) : Bool := (ansL g a x).contains y
section
open Go.ChangeShapes Go.WideShapes Go.ChangeAt Go.RowKit
theorem SlI.intI {lo hi : Nat} {w : World} {A : Option Addr} {n c : Nat} {xs : List Int} (h : SlI lo hi w cI 1 (.slice A n c) xs) {i : Nat} {x : Int} (hx : xs[i]? = some x) :
    ∃ b o, A = some ⟨b, o, none⟩ ∧ lo ≤ b ∧ b < hi ∧ w.cell? ⟨b, o + i, none⟩ = some (.int .i64 x) := by
  obtain ⟨A', c', hv, _, _, h3⟩ := h
  injection hv with h1 _ _
  subst h1
  obtain ⟨b, o, e, g1, g2, hc⟩ := h3 i x hx
  exact ⟨b, o, e, g1, g2, by simpa using hc 0 _ rfl⟩
end
end Go.Proofs.Ytallglnmeeahiaa

/- The reference's l4Set, l15From, AnswersFrom, l11Find, HasAnswer. -/
namespace Go.Proofs.Ytallglnmeeahiaa
set_option linter.unusedVariables false
set_option linter.unusedSimpArgs false
open Go.ChangeShapes Go.WideShapes Go.ChangeAt Go.RowKit
attribute [local go_sem] ext_cell ext_frozen ext_lt ext_lt1 ext_lt2 ext_lt3 ltn2 ltn3 ltn13 lts1 lts2 lts3

set_option maxHeartbeats 2000000 in
theorem l4Set_any (m : Nat) (w : World) (hm : m < 2 ^ 60) :
    Calls Try.prog 77 #[.int .i64 (m : Int)] w fun e w' => ∃ v', e = .returned v' ∧ Own w.heap.size w'.heap.size w' 3 cI 1 v' (memI 30 m) ∧ Below w.heap.size w w' := by
  obtain ⟨R, hR⟩ : ∃ R, R = memI 30 m := ⟨_, rfl⟩
  rw [← hR]
  have HR := Lib.hid hR
  clear hR
  go_enter Try.func77, Try.ntmps77
  go_wp2_with fail
  go_loopw [3, 4] (fun oo ii wr => ∃ i : Nat, i ≤ 30 ∧ ii = .int .i64 (i : Int) ∧ wr.ownsRow w.heap.size 3 1 oo (memI i m).length ((memI i m).flatMap cI) ∧ Below w.heap.size w wr) (fun _ ii _ => 30 - (intOf ii).toNat)
  case atStart => exact ⟨0, Nat.zero_le _, rfl, World.ownsRow_lit w #[] 0 (Nat.le_refl _) (by decide) rfl, (Below.refl _ _).alloc (Nat.le_refl _) _⟩
  case round =>
    obtain ⟨i, hi, rfl, hrow, hbel⟩ := hrel
    have HROW := Lib.hid hrow
    have hml : (memI i m).length ≤ 30 := by unfold memI; rw [List.length_map]; have := mem_len i m; omega
    have hsz := hbel.size
    clear hrow
    by_cases hlt : i < 30
    · have hii : (i : Int) < 30 := by omega
      cases hb : m.testBit i with
      | false =>
        have b1f := bit_off (by omega) (by omega) hb
        have HM := Lib.hid (show memI (i + 1) m = memI i m by unfold memI; rw [mem_no hb])
        clear hb
        go_wp2_with fail
        go_roundw
        case rel => exact ⟨i + 1, by omega, by go_num, by rw [HM.out]; exact HROW.out, hbel⟩
        case measure => simp [intOf]; omega
      | true =>
        have b1t := bit_on (by omega) (by omega) hb
        have HM := Lib.hid (show memI (i + 1) m = memI i m ++ [(i : Int)] by unfold memI; rw [mem_yes hb, List.map_append]; rfl)
        clear hb
        generalize memI i m = L at *
        go_wp2_with (at_builtin; (refine wpList_append1 cI elInt rfl _ _ rfl w.heap.size _ (L) ((i : Int)) _ 1 _ (by rfl) (HROW.out) (by rfl) rfl rfl rfl (cI_one _) (by omega) (by omega) (by omega) ?_); intro v' w4 hrow' hb4 _ _)
        go_roundw
        case rel => exact ⟨i + 1, by omega, by go_num, by rw [HM.out]; exact hrow', hbel.trans hb4⟩
        case measure => simp [intOf]; omega
    · obtain rfl : i = 30 := by omega
      have hown := Own.of_row (xs := memI 30 m) HROW.out rfl rfl
      rw [← HR.out] at hown
      have HO := Lib.hid hown
      obtain ⟨A6, c6, rfl, -, -, -⟩ := (Own.of_row (xs := memI 30 m) HROW.out rfl rfl).form cI_len
      clear hown
      go_wp2_with fail
      go_ret
      exact ⟨_, rfl, HO.out, hbel⟩


theorem goodB1 (g : Gr) (a : Au) (x : Int) : goodB g a x 0 = (wi x 0 ((g.vals.length : Int) - 1) && (grOk g && auOk a)) := by
  unfold goodB
  cases h : auOk a with
  | false => simp
  | true =>
    have h1 := (auOk_iff.1 h).1.1
    have h2 : wi 0 0 ((a.accept.length : Int) - 1) = true := wi_iff.2 (by omega)
    rw [h2]
    cases grOk g <;> simp
theorem lit_nil {w : World} {lo : Nat} {e : TypeId} {α : Type} {E : α → List Value} {k : Nat} (hl : lo ≤ w.heap.size) : Own lo (w.alloc (.cells #[] e)).heap.size (w.alloc (.cells #[] e)) e E k (.slice (some ⟨w.heap.size, 0, none⟩) 0 0) [] :=
  Own.of_row (n := 0) (cs := []) ⟨by simp, .inr ⟨w.heap.size, 0, #[], rfl, hl, heap_alloc_new w _, Nat.le_refl _, by unfold maxLen; omega, by simp, by simp⟩⟩ rfl rfl

set_option maxHeartbeats 1000000 in
theorem l11Find_any (v : Value) (xs : List Int) (y : Int) (w : World) (hv : SlE w cI 1 v xs) :
    Calls Try.prog 52 #[v, .int .i64 y] w fun e w' => e = .returned (.int .i64 (Lib.idxOf xs y)) ∧ w' = w := by
  obtain ⟨A, c, rfl, hl, hm, hC⟩ := SlE.form hv
  have HC := Lib.hid hC
  obtain ⟨R, hR⟩ : ∃ R, R = Lib.idxOf xs y := ⟨_, rfl⟩
  rw [← hR]
  have HR := Lib.hid hR
  clear hv hC hR
  go_enter Try.func52, Try.ntmps52
  go_wp2_with fail
  go_loop [5] (fun ii => ∃ i : Nat, i ≤ xs.length ∧ ii = .int .i64 (i : Int) ∧ ∀ j, j < i → xs.getD j 0 ≠ y) (fun ii => xs.length - (intOf ii).toNat)
  case atStart => exact ⟨0, Nat.zero_le _, rfl, by intro j hj; omega⟩
  case round =>
    obtain ⟨i, hi, rfl, hno⟩ := hrel
    have HNO := Lib.hid hno
    clear hno
    by_cases hlt : i < xs.length
    · have hxi := getD_of (D := xs) hlt
      obtain ⟨b, o, rfl, hb, d⟩ := HC.out.int hxi
      have hii : (i : Int) < (xs.length : Int) := by omega
      obtain ⟨x, hx⟩ : ∃ x, x = xs.getD i 0 := ⟨_, rfl⟩
      rw [← hx] at d
      have HX := Lib.hid hx
      clear hxi hx
      by_cases hxy : x = y
      · have hfin : R = (i : Int) := by
          have h := Lib.idxOf_hit xs xs.length i y hlt (Nat.le_refl _) (by rw [← HX.out]; exact hxy) HNO.out
          rw [List.take_length] at h
          rw [HR.out, h]
        have HF := Lib.hid hfin
        have k1 : (x == y) = true := by simpa using hxy
        clear hfin hxy
        go_wp2_with fail
        go_ret
        exact ⟨by rw [HF.out]; rfl, rfl⟩
      · have k1 : (x == y) = false := by simpa using hxy
        have HXY := Lib.hid hxy
        clear hxy
        go_wp2_with fail
        go_round
        case rel => exact ⟨i + 1, by omega, by go_num, fun j hj => by rcases Nat.lt_or_ge j i with h | h; (exact HNO.out j h); (obtain rfl : j = i := (by omega); rw [← HX.out]; exact HXY.out)⟩
        case measure => simp [intOf]; omega
    · obtain rfl : i = xs.length := by omega
      have hfin : R = -1 := by
        have h := Lib.idxOf_miss xs xs.length y HNO.out
        rw [List.take_length] at h
        rw [HR.out, h]
      have HF := Lib.hid hfin
      clear hfin
      go_wp2_with fail
      go_ret
      exact ⟨by rw [HF.out]; rfl, rfl⟩

end Go.Proofs.Ytallglnmeeahiaa

