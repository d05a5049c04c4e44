/- Parts of the proof, joined into one text: StepsS, AccS, AlongS, CntM, SpreadM, GoalM, DistP, SrchM. -/
import Derived.Test.YtbkaoghlkdbofaaPartKPMODFFM
import Derived.Test.YtbkaoghlkdbofaaPartOLGJHFGJ
import Derived.Test.YtbkaoghlkdbofaaPartEDIBNICH
import Derived.Deep.RegionHeld3
import Derived.Deep.DeepCutAuto
import Derived.Test.YtbkaoghlkdbofaaPartJICGGFLG
import Derived.Test.YtbkaoghlkdbofaaPartFAAFNEKK
import Derived.Test.YtbkaoghlkdbofaaPartNFGBNNPI
/- The reference's l14Steps: the steps of the product from a vertex. -/
namespace Go.Proofs.Ytbkaoghlkdbofaa
set_option linter.unusedVariables false
set_option linter.unusedSimpArgs false
open Go.ChangeShapes Go.WideShapes Go.ChangeAt Go.RowKit
attribute [local go_sem] ext_cell ext_frozen ext_lt ext_lt1 ext_lt2 ext_lt3 ltn2 ltn3 ltn13 lts1 lts2 lts3

def cPS (p : PS) : List Value := [.int .i64 p.1.1, .bool p.1.2, .int .i64 p.2.1, .int .i64 p.2.2]
theorem cPS_len (p : PS) : (cPS p).length = 4 := rfl
theorem cPS_one (p : PS) : ∀ u ∈ cPS p, u.oneCell' = true := by intro u hu; simp only [cPS, List.mem_cons, List.not_mem_nil, or_false] at hu; rcases hu with rfl | rfl | rfl | rfl <;> rfl
theorem SlI.st {lo hi : Nat} {w : World} {A : Option Addr} {n c : Nat} {xs : List St} (h : SlI lo hi w cSt 2 (.slice A n c) xs) {i : Nat} {x : St} (hx : xs[i]? = some x) :
    ∃ b o, A = some ⟨b, o, none⟩ ∧ lo ≤ b ∧ b < hi ∧ w.cell? ⟨b, o + i * 2, none⟩ = some (.int .i64 x.1) ∧ w.cell? ⟨b, o + i * 2 + 1, none⟩ = some (.bool x.2) := by
  obtain ⟨A', c', hv, _, _, h3⟩ := h
  injection hv with h1 _ _
  subst h1
  obtain ⟨b, o, e, g1, g2, hc⟩ := h3 i x hx
  exact ⟨b, o, e, g1, g2, by simpa using hc 0 _ rfl, hc 1 _ rfl⟩
theorem nc4 {W wE : World} {c0 c1 c2 c3 : Value} {t : TypeId} {n : Nat} (h : Below (W.alloc (.cells #[c0, c1, c2, c3] t)).drew.heap.size (W.alloc (.cells #[c0, c1, c2, c3] t)).drew wE) (hn : W.heap.size = n) :
    wE.cell? ⟨n, 0, none⟩ = some c0 ∧ wE.cell? ⟨n, 1, none⟩ = some c1 ∧ wE.cell? ⟨n, 2, none⟩ = some c2 ∧ wE.cell? ⟨n, 3, none⟩ = some c3 ∧ wE.frozen? ⟨n, 0, none⟩ = false ∧ wE.frozen? ⟨n, 1, none⟩ = false ∧ wE.frozen? ⟨n, 2, none⟩ = false ∧ wE.frozen? ⟨n, 3, none⟩ = false := by
  subst hn
  have g : ∀ i, (W.alloc (.cells #[c0, c1, c2, c3] t)).drew.frozen? ⟨W.heap.size, i, none⟩ = false := fun i => by show (W.alloc (.cells #[c0, c1, c2, c3] t)).frozen? _ = false; rw [frozen?_alloc_cells]; simp [World.frozen?]
  have k0 : (W.alloc (.cells #[c0, c1, c2, c3] t)).drew.cell? ⟨W.heap.size, 0, none⟩ = some c0 := by simp
  have k1 : (W.alloc (.cells #[c0, c1, c2, c3] t)).drew.cell? ⟨W.heap.size, 1, none⟩ = some c1 := by simp
  have k2 : (W.alloc (.cells #[c0, c1, c2, c3] t)).drew.cell? ⟨W.heap.size, 2, none⟩ = some c2 := by simp
  have k3 : (W.alloc (.cells #[c0, c1, c2, c3] t)).drew.cell? ⟨W.heap.size, 3, none⟩ = some c3 := by simp
  exact ⟨kcell h k0, kcell h k1, kcell h k2, kcell h k3, kfb h k0 (g 0), kfb h k1 (g 1), kfb h k2 (g 2), kfb h k3 (g 3)⟩
theorem Only.grown {lo hi : Nat} {a w w' : World} {row : Option Nat} (h : Only lo hi a w) (hg : w.grownBy w' row) (hr : ∀ b, row = some b → (lo ≤ b ∧ b < hi) ∨ a.heap.size ≤ b) : Only lo hi a w' :=
  ⟨hg.os.trans h.os, hg.tape.trans h.tape, hg.output.trans h.output, Nat.le_trans h.size hg.size, fun n hn ho => (hg.block n (Nat.lt_of_lt_of_le hn h.size) (fun e => by have := hr n e.symm; omega)).trans (h.block n hn ho)⟩
theorem elPS : ElemOk Try.prog 210 213 (.agg #[.int .i64 0, .bool false, .int .i64 0, .int .i64 0]) 4 32 := ⟨Try.underlying210, by kernel_rfl, rfl, by omega⟩
set_option maxHeartbeats 8000000 in
set_option maxRecDepth 100000 in
theorem l14Steps_any (vg va : Value) (g : Gr) (a : Au) (x s : Nat) (w : World) (hgv : GrV 0 w.heap.size w vg g) (hav : AuV 0 w.heap.size w va a) (hgo : grOk g = true) (ha : auOk a = true) (hx : x < g.vals.length) (hs : s < a.accept.length) :
    Calls Try.prog 174 #[vg, va, .int .i64 (x : Int), .int .i64 (s : Int)] w fun e w' => ∃ v', e = .returned v' ∧ Own w.heap.size w'.heap.size w' 213 cPS 4 v' (prodSteps g a x s) ∧ Below w.heap.size w w' := by
  have hg := grOk_iff.1 hgo
  have hav0 := hav
  have hgv0 := hgv
  obtain ⟨A1, c1, A2, c2, rfl, hl1, hm1, hl2, hm2, hC1, hC2⟩ := hgv.form
  obtain ⟨A3, c3, A4, c4, rfl, hl3, hm3, hl4, hm4, hAC⟩ := hav.form ha
  have hn5 := hg.n5
  have he12 := hg.e12
  have hn12 := (auOk_iff.1 ha).1.2
  have hxi : g.vals[x]? = some g.vals[x] := List.getElem?_eq_getElem hx
  have hvr := hg.vals _ (List.getElem_mem hx)
  generalize g.vals[x] = vx at hxi hvr
  obtain ⟨vx, rfl⟩ := Int.eq_ofNat_of_zero_le hvr.1
  have hva := valAt_of hxi
  rw [Int.toNat_natCast] at hva
  obtain ⟨b1, o1, rfl, hb1, d1⟩ := hC1.int hxi
  have hcl := cls_lt ha vx s hs
  have hcl4 := lt12 ha hcl
  have HGO := Lib.hid hg
  have HGB := Lib.hid hgo
  have HAO := Lib.hid ha
  have HAV := Lib.hid hav0
  have HGV := Lib.hid hgv0
  have HAC := Lib.hid hAC
  have HC2 := Lib.hid hC2
  have HVA := Lib.hid hva
  have hb0 : Below w.heap.size w ((w.alloc (.cells #[.slice (some ⟨b1, o1, none⟩) g.vals.length c1, .slice A2 g.edges.length c2] 31)).alloc (.cells #[.int .i64 a.start, .slice A3 a.accept.length c3, .slice A4 a.accept.length c4] 58)) := ((Below.refl _ _).alloc (Nat.le_refl _) _).alloc (by simp) _
  have hxx : (x : Int) < (g.vals.length : Int) := by omega
  obtain ⟨R, hR⟩ : ∃ R, R = prodSteps g a x s := ⟨_, rfl⟩
  rw [← hR]
  have HR := Lib.hid hR
  clear hgv hav ha hg hgo hav0 hgv0 hva hxi hC1 hC2 hAC hR
  go_enter Try.func174, Try.ntmps174
  go_wp2_with fail
  obtain ⟨W0, hW0⟩ : ∃ W0, W0 = ((w.alloc (.cells #[.slice (some ⟨b1, o1, none⟩) g.vals.length c1, .slice A2 g.edges.length c2] 31)).alloc (.cells #[.int .i64 a.start, .slice A3 a.accept.length c3, .slice A4 a.accept.length c4] 58)) := ⟨_, rfl⟩
  rw [← hW0] at hb0 ⊢
  have x0 : W0.cell? ⟨w.heap.size, 0, none⟩ = some (.slice (some ⟨b1, o1, none⟩) g.vals.length c1) := by rw [hW0]; simp
  have x1 : W0.cell? ⟨w.heap.size, 1, none⟩ = some (.slice A2 g.edges.length c2) := by rw [hW0]; simp
  have y0 : W0.cell? ⟨w.heap.size + 1, 0, none⟩ = some (.int .i64 a.start) := by rw [hW0]; simp
  have y1 : W0.cell? ⟨w.heap.size + 1, 1, none⟩ = some (.slice A3 a.accept.length c3) := by rw [hW0]; simp
  have y2 : W0.cell? ⟨w.heap.size + 1, 2, none⟩ = some (.slice A4 a.accept.length c4) := by rw [hW0]; simp
  have d1 := kcell hb0 d1
  have hs0 : w.heap.size + 1 + 1 = W0.heap.size := by rw [hW0]; simp
  rw [hs0]
  have l0 : w.heap.size + 1 < W0.heap.size := by omega
  have l00 : w.heap.size < W0.heap.size := by omega
  have hb1W : b1 < W0.heap.size := by omega
  clear hW0 hs0
  have hbL : Below W0.heap.size W0 (W0.alloc (.cells #[] 213)) := (Below.refl _ _).alloc (Nat.le_refl _) _
  refine wp_region_ext_lit (by kernel_rfl) (by kernel_rfl) ?_
  repeat (go_big_quiet_step ((go_at_call 195; exact Calls.ext_of (l14Closure_any _ a s vx _ (HAV.out.keep (below_trans hb0 (below_trans hbL (ext_below _ _)))) HAO.out hs (by omega)))))
  refine wpQuiet_nil ?_
  intro _ hw'
  obtain ⟨u2, hw''⟩ := hw'
  subst hw''
  have hbX := below_trans hbL (ext_below (W0.alloc (.cells #[] 213)) u2)
  have hrow0 := ownsRow_below (World.ownsRow_lit (base := W0.heap.size) (e := 213) (size := 4) W0 #[] 0 (Nat.le_refl _) (by decide) rfl) (ext_below (W0.alloc (.cells #[] 213)) u2) (Nat.le_refl _)
  generalize (ext (W0.alloc (.cells #[] 213)) u2) = WX at hbX hrow0 ⊢
  have HROW0 := Lib.hid hrow0
  have x0 := kcell hbX x0
  have x1 := kcell hbX x1
  clear hrow0 hbL
  go_wp2_with fail
  refine (l4From_any _ g (x : Int) _ (HGV.out.keep (below_trans hb0 hbX)) he12).mono ?_
  rintro e W1 ⟨v1, rfl, ho1, hb2⟩
  obtain ⟨A5, c5, rfl, hl5, hm5, -⟩ := ho1.form cSt_len
  have hoI := ho1.sl cSt_len
  have hlen5 : ((arcsOf g (x : Int)).map (·.1)).length = (arcsOf g (x : Int)).length := by simp
  rw [hlen5] at hl5 hoI ⊢
  have hAL := arcs_len HGO.out (x : Int)
  have hbW1 := below_trans hbX hb2
  have hbw1 := below_trans hb0 hbW1
  have x0 := kcell hb2 x0
  have x1 := kcell hb2 x1
  have y0 := kcell hbW1 y0
  have y1 := kcell hbW1 y1
  have y2 := kcell hbW1 y2
  have hsX := hbX.size
  have hs2 := hb2.size
  have hrow1 := ownsRow_below HROW0.out hb2 (Nat.le_refl _)
  have HROW := Lib.hid hrow1
  have HOI := Lib.hid hoI
  have HBX := Lib.hid hbX
  have hgX : W0.heap.size < WX.heap.size := (HROW0.out.lt _ rfl).2
  have Y1W := Lib.hid y1
  clear hlen5 hbX hb2 hrow1 hoI ho1 HROW0
  go_wp2_with fail
  go_loopw [9, 12] (fun out ii wr => ∃ i : Nat, i ≤ (arcsOf g (x : Int)).length ∧ ii = .int .i64 (i : Int) ∧ wr.ownsRow W0.heap.size 213 4 out (((arcsOf g (x : Int)).take i).flatMap (psA g a x s)).length ((((arcsOf g (x : Int)).take i).flatMap (psA g a x s)).flatMap cPS) ∧
    Only W0.heap.size WX.heap.size W1 wr ∧ (∀ b, out.ownBlock = some b → b < WX.heap.size ∨ W1.heap.size ≤ b)) (fun _ ii _ => (arcsOf g (x : Int)).length - (intOf ii).toNat)
  case atStart => exact ⟨0, Nat.zero_le _, rfl, by simpa using HROW.out, Only.refl _ _ _, fun b hb => by injection hb with hb; subst hb; exact .inl hgX⟩
  case round =>
    clear HROW
    obtain ⟨i, hi, rfl, hrow, hon, hout⟩ := hrel
    have HROW := Lib.hid hrow
    have HOUT := Lib.hid hout
    clear hrow hout
    by_cases hlt : i < (arcsOf g (x : Int)).length
    · have hyi : (arcsOf g (x : Int))[i]? = some (arcsOf g (x : Int))[i] := List.getElem?_eq_getElem hlt
      have hyr := arc_range HGO.out (List.getElem_mem hlt)
      obtain ⟨ix, e, hix, hei, hy1, hy2, -, hem⟩ := arc_edge HGO.out (List.getElem_mem hlt)
      generalize (arcsOf g (x : Int))[i] = y at hyi hyr hix hy1 hy2
      have hli : ((arcsOf g (x : Int)).map (·.1))[i]? = some y.1 := by rw [List.getElem?_map, hyi]; rfl
      obtain ⟨⟨yid, yinv⟩, yl, yt⟩ := y
      simp only at hyr hix hy1 hy2 hli
      obtain ⟨b5, o5, rfl, hlo5, hb5, p0, p1⟩ := HOI.out.st hli
      have P0 := Lib.hid (show W1.cell? ⟨b5, o5 + i * 2, none⟩ = some (.int .i64 yid) from p0)
      have P1 := Lib.hid (show W1.cell? ⟨b5, o5 + i * 2 + 1, none⟩ = some (.bool yinv) from p1)
      have p0 := ocell hon p0 hb5 (.inr hlo5)
      have p1 := ocell hon p1 hb5 (.inr hlo5)
      simp only at p0 p1
      obtain ⟨b6, o6, rfl, hb6, q0, q1, q2, q3⟩ := HC2.out.ed hei
      have q0 := ocell hon (kcell hbw1 q0) (Nat.lt_of_lt_of_le hb6 hbw1.size) (.inl (by have := hb0.size; omega))
      have q1 := ocell hon (kcell hbw1 q1) (Nat.lt_of_lt_of_le hb6 hbw1.size) (.inl (by have := hb0.size; omega))
      have q2 := ocell hon (kcell hbw1 q2) (Nat.lt_of_lt_of_le hb6 hbw1.size) (.inl (by have := hb0.size; omega))
      have q3 := ocell hon (kcell hbw1 q3) (Nat.lt_of_lt_of_le hb6 hbw1.size) (.inl (by have := hb0.size; omega))
      have x0 := ocell hon x0 (by omega) (.inl (by omega))
      have x1 := ocell hon x1 (by omega) (.inl (by omega))
      have y0 := ocell hon y0 (by omega) (.inl (by omega))
      have y1 := ocell hon y1 (by omega) (.inl (by omega))
      have y2 := ocell hon y2 (by omega) (.inl (by omega))
      have hel := HGO.out.edges e hem
      have hixl : ix < g.edges.length := (List.getElem?_eq_some_iff.1 hei).1
      have hixi : (ix : Int) < (g.edges.length : Int) := by omega
      have hii : (i : Int) < ((arcsOf g (x : Int)).length : Int) := by omega
      obtain ⟨eid, ef, et, el⟩ := e
      simp only at q0 q1 q2 q3 hel
      obtain ⟨-, -, -, hl0, hl2e⟩ := hel
      have hbwr : Below w.heap.size w wr := hbw1.trans (hon.below (by have := hb0.size; omega) (by have := hbw1.size; omega))
      have hei2 : ∀ W, Below w.heap.size w W → Calls Try.prog 134 #[.agg #[.slice (some ⟨b1, o1, none⟩) g.vals.length c1, .slice (some ⟨b6, o6, none⟩) g.edges.length c2], .int .i64 yid] W fun e w' => e = .returned (.int .i64 (ix : Int)) ∧ Below W.heap.size W w' := fun W hW => by
        have h := specEdgeIndex _ g yid W (HGV.out.keep hW)
        rwa [hix] at h
      have HEI := Lib.hid hei2
      have HYI := Lib.hid hyi
      have HY1 := Lib.hid hy1
      have HY2 := Lib.hid hy2
      have HLI := Lib.hid hli
      have HBWR := Lib.hid hbwr
      have ne0 := World.new_ne wr _ x0
      have ne1 := World.new_ne wr _ q0
      have ne2 := World.new_ne wr _ p0
      clear hei2 hyi hy1 hy2 hli hix hem hbwr
      go_upto_region 7 with fail
      go_cut [13] (fun s13 wx => ∃ eb, s13 = .pointer (some ⟨eb, 0, none⟩) ∧ wr.heap.size ≤ eb ∧ eb < wx.heap.size ∧ wx.cell? ⟨eb, 0, none⟩ = some (.int .i64 eid) ∧ wx.cell? ⟨eb, 1, none⟩ = some (.int .i64 ef) ∧ wx.cell? ⟨eb, 2, none⟩ = some (.int .i64 et) ∧ wx.cell? ⟨eb, 3, none⟩ = some (.int .i64 el) ∧ Below wr.heap.size wr wx)
      case first =>
        go_region_held3 (fun w' => w'.cell? ⟨w.heap.size, 0, none⟩ = some (.slice (some ⟨b1, o1, none⟩) g.vals.length c1) ∧ w'.cell? ⟨w.heap.size, 1, none⟩ = some (.slice (some ⟨b6, o6, none⟩) g.edges.length c2) ∧ w'.cell? ⟨b5, o5 + i * 2, none⟩ = some (.int .i64 yid) ∧ w'.cell? ⟨b6, o6 + ix * 4, none⟩ = some (.int .i64 eid) ∧ w'.cell? ⟨b6, o6 + ix * 4 + 1, none⟩ = some (.int .i64 ef) ∧ w'.cell? ⟨b6, o6 + ix * 4 + 2, none⟩ = some (.int .i64 et) ∧ w'.cell? ⟨b6, o6 + ix * 4 + 3, none⟩ = some (.int .i64 el))
          (first | (with_reducible exact kS7 ne0 ne0 ne2 ne1 ne1 ne1 ne1 (kS7 ne0 ne0 ne2 ne1 ne1 ne1 ne1 (kS7 ne0 ne0 ne2 ne1 ne1 ne1 ne1 (kS7 ne0 ne0 ne2 ne1 ne1 ne1 ne1 (by assumption))))) | (exact ⟨x0, x1, p0, q0, q1, q2, q3⟩) | assumption | (exact kB7 hbE ⟨x0, x1, p0, q0, q1, q2, q3⟩) | (exact kA7 _ ⟨x0, x1, p0, q0, q1, q2, q3⟩) | (exact kA7 _ (kB7 hbE ⟨x0, x1, p0, q0, q1, q2, q3⟩)) | (exact kB7 hbE (kA7 _ ⟨x0, x1, p0, q0, q1, q2, q3⟩)) | (exact kB7 hbE (by assumption)) | (exact kA7 _ (by assumption)) | go_keep)
          (first | (go_at_call 134; refine (HEI.out _ (by first | exact HBWR.out.drew | exact (HBWR.out.drew).alloc (by have := HBWR.out.size; simpa using this) _)).mono ?_; rintro en wE ⟨rfl, hbE⟩; have n0 := World.new_ne wE _ (kcell hbE (by first | exact x0 | exact kcell ((Below.refl _ _).alloc (Nat.le_refl _) _) x0)); have n1 := World.new_ne wE _ (kcell hbE (by first | exact q0 | exact kcell ((Below.refl _ _).alloc (Nat.le_refl _) _) q0)); have n2 := World.new_ne wE _ (kcell hbE (by first | exact p0 | exact kcell ((Below.refl _ _).alloc (Nat.le_refl _) _) p0))); (first | (have NC := nc4 hbE (n := wr.heap.size) rfl; obtain ⟨t0, t1, t2, t3, f0, f1, f2, f3⟩ := NC) | skip))
        all_goals (go_wp2_with fail)
        · go_meet
          exact ⟨_, rfl, hbE.size, by simp, by simp, by simp, by simp, by simp, (below_trans ((Below.refl wr.heap.size wr).drew) hbE).alloc hbE.size _⟩
        · go_meet
          have h9 := hbE.size
          have h8 : wr.heap.size < wE.heap.size := Nat.lt_of_lt_of_le (by simp) h9
          have h7 : Below wr.heap.size wr wE := below_trans (((Below.refl wr.heap.size wr).alloc (Nat.le_refl _) _).drew) hbE
          exact ⟨_, rfl, Nat.le_refl _, by simpa using h8, by go_simp, by go_simp, by go_simp, by go_simp, (((h7.setCell (Nat.le_refl _) _).setCell (Nat.le_refl _) _).setCell (Nat.le_refl _) _).setCell (Nat.le_refl _) _⟩
      case rest =>
        obtain ⟨eb, rfl, hlo, hhi, e0, e1, e2, e3, hbc⟩ := hcut
        obtain ⟨wo, hwo⟩ : ∃ wo : World, wo = wr := ⟨_, rfl⟩
        have y1 := kcell hbc y1
        have y2 := kcell hbc y2
        have p0 := kcell hbc p0
        have p1 := kcell hbc p1
        have hbw := below_trans HBWR.out hbc
        have hsz := hbc.size
        have hsr := HBWR.out.size
        have hs0 := hb0.size
        have hs1 := hbw1.size
        have hos := hon.size
        have bl5 : b5 < wc.heap.size := by omega
        have bly : w.heap.size + 1 < wc.heap.size := by omega
        have blw : w.heap.size ≤ wc.heap.size := by omega
        obtain ⟨⟨hyl0, hyl5⟩, -, -⟩ := hyr
        obtain ⟨l, rfl⟩ := Int.eq_ofNat_of_zero_le hyl0
        have hl6 : l < 9 := by omega
        have hlz : (l : Int) < 9 := by omega
        have hyl : ((⟨(yid, yinv), (l : Int), yt⟩ : Arc)).2.1.toNat = l := by simp
        have hlet : ∀ W, Calls Try.prog 196 #[.agg #[.int .i64 eid, .int .i64 ef, .int .i64 et, .int .i64 el], .bool yinv] W fun en w' => en = .returned (.int .i64 (l : Int)) ∧ Below W.heap.size W w' := fun W => by
          have h := l14Letter_any (eid, ef, et, el) yinv W hl0 hl2e
          rwa [← HY1.out] at h
        have HLET := Lib.hid hlet
        have HBW := Lib.hid hbw
        have HON := Lib.hid hon
        clear hlet hbw hon hsr hos hyl0 hyl5 hl0 hl2e
        go_wp2_with fail
        go_loopw [14, 15] (fun mm qq w2 => ∃ (q : Nat) (u : World), q ≤ a.accept.length ∧ qq = .int .i64 (q : Int) ∧ mm = .int .i64 (foldTo a l (cls a vx s) q : Nat) ∧ w2 = ext wc u) (fun _ qq _ => a.accept.length - (intOf qq).toNat)
        case atStart => exact ⟨0, wc, Nat.zero_le _, rfl, rfl, ext_self _⟩
        case round =>
          obtain ⟨q, u, hq, rfl, rfl, rfl⟩ := hrel
          by_cases hlq : q < a.accept.length
          · obtain ⟨b, o, b3, o3, c3', rfl, hbb, hrw, -, -, hb3, hmvs⟩ := HAC.out.row q hlq
            have r0 := kcell HBW.out hrw
            have r1 := kcell HBW.out (hmvs l hl6)
            have hbb' : b < wc.heap.size := by omega
            have hb3' : b3 < wc.heap.size := by omega
            have hlqi : (q : Int) < (a.accept.length : Int) := by omega
            have hft := foldTo_lt HAO.out l (cls a vx s) q
            have hft4 := lt12 HAO.out hft
            have hmv := mv_lt HAO.out q l
            have HNX := Lib.hid (show foldTo a l (cls a vx s) (q + 1) = if (cls a vx s).testBit q = true then aft1 a l (foldTo a l (cls a vx s) q) q else foldTo a l (cls a vx s) q by by_cases hb : (cls a vx s).testBit q = true; rw [if_pos hb, foldTo_yes hb]; rw [if_neg hb, foldTo_no (by simpa using hb)])
            have HA := Lib.hid (show aft1 a l (foldTo a l (cls a vx s) q) q = if 0 ≤ mv a q l then ins (foldTo a l (cls a vx s) q) (mv a q l).toNat else foldTo a l (cls a vx s) q from rfl)
            generalize foldTo a l (cls a vx s) q = m0 at *
            clear hrw hmvs hft
            go_wp2_with fail
            refine wp_region_ext_lit (by kernel_rfl) (by kernel_rfl) ?_
            repeat (go_big_quiet_step ((go_at_call 196; exact Calls.ext_of (HLET.out _))))
            refine wpQuiet_nil ?_
            intro _ hw'
            obtain ⟨u2, hw''⟩ := hw'
            subst hw''
            obtain ⟨u3, hu3⟩ := ext_of (below_trans (ext_below wc u) (ext_below (ext wc u) u2))
            rw [hu3]
            cases hb : (cls a vx s).testBit q with
            | false =>
              have b1f := bit_off (by omega) (by omega) hb
              have HR := Lib.hid (show m0 = foldTo a l (cls a vx s) (q + 1) by rw [HNX.out, if_neg (by simp [hb])])
              clear hb
              go_wp2_with fail
              go_roundw
              case rel => exact ⟨q + 1, u3, by omega, by go_num, by rw [← HR.out], rfl⟩
              case measure => simp [intOf]; omega
            | true =>
              have b1t := bit_on (by omega) (by omega) hb
              have HNX := Lib.hid (HNX.out.trans (if_pos hb))
              clear hb
              by_cases h0 : 0 ≤ mv a q l
              · have HR := Lib.hid (show ins m0 (mv a q l).toNat = foldTo a l (cls a vx s) (q + 1) by rw [HNX.out, HA.out, if_pos h0])
                generalize mv a q l = z at *
                obtain ⟨z, rfl⟩ := Int.eq_ofNat_of_zero_le h0
                have e1' := shl_bit (s := z) (by omega)
                have e2' := or_ins (m := m0) (s := z) (by omega) (by omega)
                go_wp2_with fail
                go_roundw
                case rel => exact ⟨q + 1, u3, by omega, by go_num, by rw [← HR.out]; simp, rfl⟩
                case measure => simp [intOf]; omega
              · have HR := Lib.hid (show m0 = foldTo a l (cls a vx s) (q + 1) by rw [HNX.out, HA.out, if_neg h0])
                have h0' : decide (mv a q l ≥ 0) = false := by simp; omega
                go_wp2_with fail
                go_roundw
                case rel => exact ⟨q + 1, u3, by omega, by go_num, by rw [← HR.out], rfl⟩
                case measure => simp [intOf]; omega
          · obtain rfl : q = a.accept.length := by omega
            have hyt : ∀ W, Calls Try.prog 197 #[.agg #[.int .i64 eid, .int .i64 ef, .int .i64 et, .int .i64 el], .bool yinv] W fun en w' => en = .returned (.int .i64 yt) ∧ Below W.heap.size W w' := fun W => by
              have h := l14To_any (eid, ef, et, el) yinv W
              rwa [← HY2.out] at h
            have HTO := Lib.hid hyt
            have hps : psA g a x s ((yid, yinv), (l : Int), yt) = (mem a.accept.length (foldTo a l (cls a vx s) a.accept.length)).map fun (q : Nat) => ((yid, yinv), yt, (q : Int)) := by
              unfold psA
              rw [foldTo_all HAO.out hs, HVA.out]
              simp only [Int.toNat_natCast]
              rw [mem12 HAO.out (aft_lt HAO.out _ _ _)]
            have hmlt := foldTo_lt HAO.out l (cls a vx s) a.accept.length
            have hm4 := lt12 HAO.out hmlt
            generalize foldTo a l (cls a vx s) a.accept.length = M at *
            have HPS := Lib.hid hps
            have hsu : wc.heap.size ≤ (ext wc u).heap.size := ext_size wc u
            have hx0 : ((((arcsOf g (x : Int)).take i).flatMap (psA g a x s))).length ≤ 288 := by
              have h2 := flat_len (psA_len g a x s) ((arcsOf g (x : Int)).take i)
              have h3 : ((arcsOf g (x : Int)).take i).length ≤ 24 := by rw [List.length_take]; omega
              omega
            have hbu := below_trans hbc (ext_below wc u)
            have hrow3 := ownsRow_below HROW.out hbu (Nat.le_refl _)
            have hon3 := HON.out.trans (Only.of_below hbu W0.heap.size WX.heap.size)
            have hout3 : ∀ b, u9.ownBlock = some b → b < wo.heap.size ∨ (ext wc u).heap.size ≤ b := fun b hb => .inl (by rw [hwo]; exact (HROW.out.lt b hb).2)
            have f0 := kcell (ext_below wc u) e0
            have f1 := kcell (ext_below wc u) e1
            have f2 := kcell (ext_below wc u) e2
            have f3 := kcell (ext_below wc u) e3
            have hle : wo.heap.size ≤ (ext wc u).heap.size := by rw [hwo]; exact hbu.size
            have hebE : eb < (ext wc u).heap.size := Nat.lt_of_lt_of_le hhi hsu
            have hloe : wo.heap.size ≤ eb := by rw [hwo]; assumption
            have y1 := kcell (ext_below wc u) y1
            generalize ext wc u = wE at *
            have HROW3 := Lib.hid hrow3
            have HON3 := Lib.hid hon3
            have HOUT3 := Lib.hid hout3
            clear hps hyt hbu hrow3 hon3 hout3
            obtain ⟨XS, hXS⟩ : ∃ XS, XS = ((arcsOf g (x : Int)).take i).flatMap (psA g a x s) := ⟨_, rfl⟩
            rw [← hXS] at hx0 HROW3
            have HXS := Lib.hid hXS
            clear hXS
            go_wp2_with fail
            go_loopw [9, 17] (fun vv qq w3 => ∃ q : Nat, q ≤ a.accept.length ∧ qq = .int .i64 (q : Int) ∧ w3.ownsRow W0.heap.size 213 4 vv (XS ++ (mem q M).map (fun (q : Nat) => (((yid, yinv), yt, (q : Int)) : PS))).length ((XS ++ (mem q M).map (fun (q : Nat) => (((yid, yinv), yt, (q : Int)) : PS))).flatMap cPS) ∧ Only W0.heap.size WX.heap.size W1 w3 ∧ Only 0 wo.heap.size wE w3 ∧ (∀ b, vv.ownBlock = some b → b < WX.heap.size ∨ W1.heap.size ≤ b) ∧ (∀ b, vv.ownBlock = some b → b < wo.heap.size ∨ wE.heap.size ≤ b)) (fun _ qq _ => a.accept.length - (intOf qq).toNat)
            case atStart => exact ⟨0, Nat.zero_le _, rfl, by rw [show mem 0 M = [] from rfl, List.map_nil, List.append_nil]; exact HROW3.out, HON3.out, Only.refl _ _ _, HOUT.out, HOUT3.out⟩
            case round =>
              obtain ⟨q, hq, rfl, hrw, hn1, hn2, ho1, ho2⟩ := hrel
              have y1 := ocell hn1 Y1W.out (by omega) (.inl (by omega))
              have p0 := ocell hn1 P0.out hb5 (.inr hlo5)
              have p1 := ocell hn1 P1.out hb5 (.inr hlo5)
              have f0 := ocell hn2 f0 hebE (.inr hloe)
              have f1 := ocell hn2 f1 hebE (.inr hloe)
              have f2 := ocell hn2 f2 hebE (.inr hloe)
              have f3 := ocell hn2 f3 hebE (.inr hloe)
              have hz1 := hn1.size
              have hz2 := hn2.size
              have HRW := Lib.hid hrw
              have HN1 := Lib.hid hn1
              have HN2 := Lib.hid hn2
              have HO1 := Lib.hid ho1
              have HO2 := Lib.hid ho2
              clear hrw hn1 hn2 ho1 ho2
              by_cases hlq : q < a.accept.length
              · cases hb : M.testBit q with
                | false =>
                  have b1f := bit_off (by omega) (by omega) hb
                  have HM := Lib.hid (mem_no hb)
                  clear hb
                  go_wp2_with fail
                  go_roundw
                  case rel => exact ⟨q + 1, by omega, by go_num, by rw [HM.out]; exact HRW.out, HN1.out, HN2.out, HO1.out, HO2.out⟩
                  case measure => simp [intOf]; omega
                | true =>
                  have b1t := bit_on (by omega) (by omega) hb
                  have hxq : (XS ++ (mem q M).map (fun (q : Nat) => (((yid, yinv), yt, (q : Int)) : PS))).length ≤ 301 := by
                    have := mem_len q M
                    rw [List.length_append, List.length_map]
                    omega
                  have HM := Lib.hid (show (XS ++ (mem q M).map (fun (q : Nat) => (((yid, yinv), yt, (q : Int)) : PS))) ++ [(((yid, yinv), yt, (q : Int)) : PS)] = XS ++ (mem (q + 1) M).map (fun (q : Nat) => (((yid, yinv), yt, (q : Int)) : PS)) by rw [mem_yes hb, List.map_append, List.append_assoc]; rfl)
                  clear hb
                  generalize XS ++ (mem q M).map (fun (q : Nat) => (((yid, yinv), yt, (q : Int)) : PS)) = XQ at *
                  have N5 := Ne.symm (α := Option Nat) (mt (HO1.out b5) (by omega))
                  have NE := Ne.symm (α := Option Nat) (mt (HO2.out eb) (by omega))
                  have HN5 := Lib.hid N5
                  have HNE := Lib.hid NE
                  clear N5 NE
                  go_wp2_with fail
                  refine F_start 16 (fun w' => w'.cell? ⟨b5, o5 + i * 2, none⟩ = some (.int .i64 yid) ∧ w'.cell? ⟨b5, o5 + i * 2 + 1, none⟩ = some (.bool yinv) ∧ w'.cell? ⟨eb, 0, none⟩ = some (.int .i64 eid) ∧ w'.cell? ⟨eb, 1, none⟩ = some (.int .i64 ef) ∧ w'.cell? ⟨eb, 2, none⟩ = some (.int .i64 et) ∧ w'.cell? ⟨eb, 3, none⟩ = some (.int .i64 el)) (by kernel_rfl) (by exact ⟨p0, p1, f0, f1, f2, f3⟩) (fun hS inv => ?_)
                  refine F_take (i := 0) (v := ?_) rfl (by kernel_rfl) (by kernel_rfl) (by kernel_rfl) (fun _ _ _ h => h) inv (Or.inl ⟨by rfl, ?_⟩) (by assumption) (fun invn => ?_)
                  rotate_left
                  · (intro w hSw; (try dsimp only at hSw); go_simp; try with_reducible rfl)
                  try simp only [List.getElem_toArray, List.getElem_cons_zero, List.getElem_cons_succ, Act.put, List.setIfInBounds_toArray, List.set_cons_zero, List.set_cons_succ]
                  clear inv
                  have inv := invn
                  clear invn
                  refine F_take (i := 1) (v := ?_) rfl (by kernel_rfl) (by kernel_rfl) (by kernel_rfl) (fun _ _ _ h => h) inv (Or.inl ⟨by rfl, ?_⟩) (by assumption) (fun invn => ?_)
                  rotate_left
                  · (intro w hSw; (try dsimp only at hSw); go_simp; try with_reducible rfl)
                  try simp only [List.getElem_toArray, List.getElem_cons_zero, List.getElem_cons_succ, Act.put, List.setIfInBounds_toArray, List.set_cons_zero, List.set_cons_succ]
                  clear inv
                  have inv := invn
                  clear invn
                  refine F_take (i := 2) (v := ?_) rfl (by kernel_rfl) (by kernel_rfl) (by kernel_rfl) (fun _ _ _ h => h) inv (Or.inl ⟨by rfl, ?_⟩) (by assumption) (fun invn => ?_)
                  rotate_left
                  · (intro w hSw; (try dsimp only at hSw); go_simp; try with_reducible rfl)
                  try simp only [List.getElem_toArray, List.getElem_cons_zero, List.getElem_cons_succ, Act.put, List.setIfInBounds_toArray, List.set_cons_zero, List.set_cons_succ]
                  clear inv
                  have inv := invn
                  clear invn
                  refine F_take (i := 3) (v := ?_) rfl (by kernel_rfl) (by kernel_rfl) (by kernel_rfl) (fun _ _ _ h => h) inv (Or.inl ⟨by rfl, ?_⟩) (by assumption) (fun invn => ?_)
                  rotate_left
                  · (intro w hSw; (try dsimp only at hSw); go_simp; try with_reducible rfl)
                  try simp only [List.getElem_toArray, List.getElem_cons_zero, List.getElem_cons_succ, Act.put, List.setIfInBounds_toArray, List.set_cons_zero, List.set_cons_succ]
                  clear inv
                  have inv := invn
                  clear invn
                  refine F_take (i := 4) (v := ?_) rfl (by kernel_rfl) (by kernel_rfl) (by kernel_rfl) (fun _ _ _ h => h) inv (Or.inl ⟨by rfl, ?_⟩) (by assumption) (fun invn => ?_)
                  rotate_left
                  · (intro w hSw; (try dsimp only at hSw); go_simp; try with_reducible rfl)
                  try simp only [List.getElem_toArray, List.getElem_cons_zero, List.getElem_cons_succ, Act.put, List.setIfInBounds_toArray, List.set_cons_zero, List.set_cons_succ]
                  clear inv
                  have inv := invn
                  clear invn
                  refine F_take (i := 5) (v := ?_) rfl (by kernel_rfl) (by kernel_rfl) (by kernel_rfl) (fun _ _ _ h => h) inv (Or.inl ⟨by rfl, ?_⟩) (by assumption) (fun invn => ?_)
                  rotate_left
                  · (intro w hSw; (try dsimp only at hSw); go_simp; try with_reducible rfl)
                  try simp only [List.getElem_toArray, List.getElem_cons_zero, List.getElem_cons_succ, Act.put, List.setIfInBounds_toArray, List.set_cons_zero, List.set_cons_succ]
                  clear inv
                  have inv := invn
                  clear invn
                  refine F_take (i := 6) (v := ?_) rfl (by kernel_rfl) (by kernel_rfl) (by kernel_rfl) (fun _ _ _ h => h) inv (Or.inl ⟨by rfl, ?_⟩) (by assumption) (fun invn => ?_)
                  rotate_left
                  · (intro w hSw; (try dsimp only at hSw); go_simp; try with_reducible rfl)
                  try simp only [List.getElem_toArray, List.getElem_cons_zero, List.getElem_cons_succ, Act.put, List.setIfInBounds_toArray, List.set_cons_zero, List.set_cons_succ]
                  clear inv
                  have inv := invn
                  clear invn
                  refine F_take (i := 7) (v := ?_) rfl (by kernel_rfl) (by kernel_rfl) (by kernel_rfl) (fun _ _ _ h => h) inv (Or.inl ⟨by rfl, ?_⟩) (by assumption) (fun invn => ?_)
                  rotate_left
                  · (intro w hSw; (try dsimp only at hSw); go_simp; try with_reducible rfl)
                  try simp only [List.getElem_toArray, List.getElem_cons_zero, List.getElem_cons_succ, Act.put, List.setIfInBounds_toArray, List.set_cons_zero, List.set_cons_succ]
                  clear inv
                  have inv := invn
                  clear invn
                  refine F_take (i := 8) (v := ?_) rfl (by kernel_rfl) (by kernel_rfl) (by kernel_rfl) (fun _ _ _ h => h) inv (Or.inl ⟨by rfl, ?_⟩) (by assumption) (fun invn => ?_)
                  rotate_left
                  · (intro w hSw; (try dsimp only at hSw); go_simp; try with_reducible rfl)
                  try simp only [List.getElem_toArray, List.getElem_cons_zero, List.getElem_cons_succ, Act.put, List.setIfInBounds_toArray, List.set_cons_zero, List.set_cons_succ]
                  clear inv
                  have inv := invn
                  clear invn
                  refine F_take (i := 9) (v := ?_) rfl (by kernel_rfl) (by kernel_rfl) (by kernel_rfl) (fun _ _ _ h => h) inv (Or.inl ⟨by rfl, ?_⟩) (by assumption) (fun invn => ?_)
                  rotate_left
                  · (intro w hSw; (try dsimp only at hSw); go_simp; try with_reducible rfl)
                  try simp only [List.getElem_toArray, List.getElem_cons_zero, List.getElem_cons_succ, Act.put, List.setIfInBounds_toArray, List.set_cons_zero, List.set_cons_succ]
                  clear inv
                  have inv := invn
                  clear invn
                  refine F_take (i := 10) (v := ?_) rfl (by kernel_rfl) (by kernel_rfl) (by kernel_rfl) (fun _ _ _ h => h) inv (Or.inl ⟨by rfl, ?_⟩) (by assumption) (fun invn => ?_)
                  rotate_left
                  · (intro w hSw; (try dsimp only at hSw); go_simp; try with_reducible rfl)
                  try simp only [List.getElem_toArray, List.getElem_cons_zero, List.getElem_cons_succ, Act.put, List.setIfInBounds_toArray, List.set_cons_zero, List.set_cons_succ]
                  clear inv
                  have inv := invn
                  clear invn
                  refine F_take (i := 12) (v := ?_) rfl (by kernel_rfl) (by kernel_rfl) (by kernel_rfl) (fun _ _ _ h => h) inv (Or.inl ⟨by rfl, ?_⟩) (by assumption) (fun invn => ?_)
                  rotate_left
                  · (intro w hSw; (try dsimp only at hSw); go_simp; try with_reducible rfl)
                  try simp only [List.getElem_toArray, List.getElem_cons_zero, List.getElem_cons_succ, Act.put, List.setIfInBounds_toArray, List.set_cons_zero, List.set_cons_succ]
                  clear inv
                  have inv := invn
                  clear invn
                  refine F_one (i := 11) (by kernel_rfl) rfl rfl (by omega) inv (fun K hK => ?_)
                  try simp only [List.getElem_toArray, List.getElem_cons_zero, List.getElem_cons_succ]
                  go_simp
                  refine (HTO.out _).mono ?_
                  rintro e wT ⟨rfl, hbT⟩
                  have hzT : wr.heap.size ≤ wT.heap.size := hbT.size
                  have HRT := Lib.hid (ownsRow_below HRW.out (below_trans ((Below.refl wr.heap.size wr).drew) hbT) (Nat.le_refl _))
                  refine hK.out _ _ (kB6 hbT hS) (fun hSn invn => ?_)
                  try simp only [List.getElem_toArray, List.getElem_cons_zero, List.getElem_cons_succ, Act.put, List.setIfInBounds_toArray, List.set_cons_zero, List.set_cons_succ]
                  clear hK K inv hS
                  have inv := invn
                  have hS := hSn
                  clear invn hSn
                  refine F_take (i := 13) (v := ?_) rfl (by kernel_rfl) (by kernel_rfl) (by kernel_rfl) (fun _ _ _ h => h) inv (Or.inl ⟨by rfl, ?_⟩) (by assumption) (fun invn => ?_)
                  rotate_left
                  · (intro w hSw; (try dsimp only at hSw); go_simp; try with_reducible rfl)
                  try simp only [List.getElem_toArray, List.getElem_cons_zero, List.getElem_cons_succ, Act.put, List.setIfInBounds_toArray, List.set_cons_zero, List.set_cons_succ]
                  clear inv
                  have inv := invn
                  clear invn
                  refine F_one (i := 14) (by kernel_rfl) rfl rfl (by omega) inv (fun K hK => ?_)
                  try simp only [List.getElem_toArray, List.getElem_cons_zero, List.getElem_cons_succ]
                  go_simp
                  refine hK.out _ _ (kA6 _ hS) (fun hSn invn => ?_)
                  try simp only [List.getElem_toArray, List.getElem_cons_zero, List.getElem_cons_succ, Act.put, List.setIfInBounds_toArray, List.set_cons_zero, List.set_cons_succ]
                  clear hK K inv hS
                  have inv := invn
                  have hS := hSn
                  clear invn hSn
                  refine F_one (i := 15) (by kernel_rfl) rfl rfl (by omega) inv (fun K hK => ?_)
                  try simp only [List.getElem_toArray, List.getElem_cons_zero, List.getElem_cons_succ]
                  refine op_append1 cPS elPS rfl _ _ (by rfl) W0.heap.size _ XQ ((yid, yinv), yt, (q : Int)) 1 _ (by rfl) (HRT.out.alloc _) (by first | rfl | simp) (heap_alloc_new _ _) rfl (cPS_one _) (by omega) (by omega) (by simp; omega) ?_
                  intro g2 cp2 w3 hown3 hgr3 hat3 hlt3
                  have HW3 := Lib.hid hown3
                  have HG3 := Lib.hid hgr3
                  have HA3 := Lib.hid hat3
                  clear hown3 hgr3 hat3
                  refine hK.out _ _ (kG6 HG3.out HN5.out HN5.out HNE.out HNE.out HNE.out HNE.out hS) (fun hSn invn => ?_)
                  try simp only [List.getElem_toArray, List.getElem_cons_zero, List.getElem_cons_succ, Act.put, List.setIfInBounds_toArray, List.set_cons_zero, List.set_cons_succ]
                  clear hK K inv hS
                  have inv := invn
                  have hS := hSn
                  clear invn hSn
                  refine F_last (i := 16) (by kernel_rfl) rfl rfl (by omega) (by kernel_rfl) (fun K hK => ?_)
                  go_simp
                  refine hK _ _ ?_
                  clear hK K inv hS
                  have hat := HA3.out.imp id (Nat.le_trans (show wT.heap.size ≤ _ by simp))
                  go_wp2_with fail
                  go_roundw
                  case rel =>
                    refine ⟨q + 1, by omega, by go_num, by rw [← HM.out]; simpa using HW3.out, (((HN1.out.drew).trans (Only.of_below hbT _ _)).alloc _).grown HG3.out (fun b hb => (HO1.out b hb).imp (fun h => ⟨(HRW.out.lt b hb).1, h⟩) id), (((HN2.out.drew).trans (Only.of_below hbT _ _)).alloc _).grown HG3.out (fun b hb => (HO2.out b hb).imp (fun h => ⟨Nat.zero_le _, h⟩) id), fun b hb => ?_, fun b hb => ?_⟩
                    · injection hb with hb
                      subst hb
                      rcases hat with h | h
                      · exact HO1.out _ h
                      · exact .inr (Nat.le_trans (show W1.heap.size ≤ wT.heap.size by omega) h)
                    · injection hb with hb
                      subst hb
                      rcases hat with h | h
                      · exact HO2.out _ h
                      · exact .inr (Nat.le_trans (show wE.heap.size ≤ wT.heap.size by omega) h)
                  case measure => simp [intOf]; omega
              · obtain rfl : q = a.accept.length := by omega
                go_wp2_with fail
                go_roundw
                case rel =>
                  have hts : ((arcsOf g (x : Int)).take (i + 1)).flatMap (psA g a x s) = XS ++ (mem a.accept.length M).map (fun (q : Nat) => (((yid, yinv), yt, (q : Int)) : PS)) := by
                    rw [take_snoc HYI.out, List.flatMap_append, ← HXS.out, List.flatMap_singleton, HPS.out]
                  exact ⟨i + 1, by omega, by go_num, by rw [hts]; exact HRW.out, HN1.out, HO1.out⟩
                case measure => simp [intOf]; omega
    · obtain rfl : i = (arcsOf g (x : Int)).length := by omega
      have hR : R = ((arcsOf g (x : Int)).take (arcsOf g (x : Int)).length).flatMap (psA g a x s) := by rw [HR.out, List.take_length]; rfl
      have hown := Own.of_row (xs := R) (ownsRow_mono (b := w.heap.size) (by rw [hR]; exact HROW.out) hb0.size) rfl rfl
      have HO := Lib.hid hown
      have hfin : Below w.heap.size w wr := hbw1.trans (hon.below hb0.size hbw1.size)
      clear hR hown
      go_wp2_with fail
      go_ret
      exact ⟨_, rfl, HO.out, hfin⟩
end Go.Proofs.Ytbkaoghlkdbofaa

/- The reference's l14Accepts: whether a state accepts at a node. -/
namespace Go.Proofs.Ytbkaoghlkdbofaa
set_option linter.unusedVariables false
set_option linter.unusedSimpArgs false
open Go.ChangeShapes Go.WideShapes Go.ChangeAt Go.RowKit
attribute [local go_sem] ext_cell ext_frozen ext_lt ext_lt1 ext_lt2 ext_lt3 ltn2 ltn3 ltn13 lts1 lts2 lts3

set_option maxHeartbeats 4000000 in
theorem l14Accepts_any (vg va : Value) (g : Gr) (a : Au) (x s : Nat) (w : World) (hgv : GrV 0 w.heap.size w vg g) (hav : AuV 0 w.heap.size w va a) (hg : GrOk g) (ha : auOk a = true) (hx : x < g.vals.length) (hs : s < a.accept.length) :
    Calls Try.prog 173 #[vg, va, .int .i64 (x : Int), .int .i64 (s : Int)] w fun e w' => e = .returned (.bool (accC a (valAt g x) s)) ∧ Below w.heap.size w w' := by
  have hav0 := hav
  obtain ⟨A1, c1, A2, c2, rfl, hl1, hm1, -, -, hC1, -⟩ := hgv.form
  obtain ⟨A3, c3, A4, c4, rfl, hl3, hm3, hl4, hm4, hAC, -⟩ := hav.form ha
  have hn5 := hg.n5
  have hn12 := (auOk_iff.1 ha).1.2
  have hxi : g.vals[x]? = some g.vals[x] := List.getElem?_eq_getElem hx
  have hvr := hg.vals _ (List.getElem_mem hx)
  generalize g.vals[x] = vx at hxi hvr
  obtain ⟨vx, rfl⟩ := Int.eq_ofNat_of_zero_le hvr.1
  have hva := valAt_of hxi
  rw [Int.toNat_natCast] at hva
  rw [hva]
  obtain ⟨b1, o1, rfl, hb1, d1⟩ := hC1.int hxi
  have hcl := cls_lt ha vx s hs
  have hcl4 := lt12 ha hcl
  have hfin : accC a vx s = (mem a.accept.length (cls a vx s)).any fun t => a.accept.getD t false := by rw [accC, mem12 ha hcl]
  have HF := Lib.hid hfin
  have HAO := Lib.hid ha
  have HAV := Lib.hid hav0
  have HAC := Lib.hid hAC
  have HCL := Lib.hid hcl
  have hb0 : Below w.heap.size w ((w.alloc (.cells #[.slice (some ⟨b1, o1, none⟩) g.vals.length c1, .slice A2 g.edges.length c2] 31)).alloc (.cells #[.int .i64 a.start, .slice A3 a.accept.length c3, .slice A4 a.accept.length c4] 58)) := ((Below.refl _ _).alloc (Nat.le_refl _) _).alloc (by simp) _
  have hxx : (x : Int) < (g.vals.length : Int) := by omega
  clear hgv hav ha hg hav0 hva hxi hC1 hAC hcl hfin
  go_enter Try.func173, Try.ntmps173
  go_wp2_with fail
  refine wp_region_ext_lit (by kernel_rfl) (by kernel_rfl) ?_
  repeat (go_big_quiet_step ((go_at_call 195; exact Calls.ext_of (l14Closure_any _ a s vx _ (HAV.out.keep (below_trans hb0 (ext_below _ _))) HAO.out hs (by omega)))))
  refine wpQuiet_nil ?_
  intro _ hw'
  obtain ⟨u2, hw''⟩ := hw'
  subst hw''
  have hbw := below_trans hb0 (ext_below _ u2)
  go_wp2_with fail
  generalize cls a vx s = m at *
  go_loop [10] (fun ii => ∃ i : Nat, i ≤ a.accept.length ∧ ii = .int .i64 (i : Int) ∧ (mem i m).any (fun t => a.accept.getD t false) = false) (fun ii => a.accept.length - (intOf ii).toNat)
  case atStart => exact ⟨0, Nat.zero_le _, rfl, rfl⟩
  case round =>
    obtain ⟨i, hi, rfl, hno⟩ := hrel
    have HNO := Lib.hid hno
    clear hno
    by_cases hlt : i < a.accept.length
    · have hai : a.accept[i]? = some a.accept[i] := List.getElem?_eq_getElem hlt
      obtain ⟨b5, o5, rfl, hb5, d5⟩ := HAC.out.bool hai
      have hag : a.accept.getD i false = a.accept[i] := by simp [List.getD, hai]
      generalize a.accept[i] = b at *
      have HAG := Lib.hid hag
      clear hai hag
      cases hb : m.testBit i with
      | false =>
        have e3 := bit_off (by omega) (by omega) hb
        have HM := Lib.hid (mem_no hb)
        clear hb
        go_wp2_with fail
        go_round
        case rel => exact ⟨i + 1, by omega, by go_num, by rw [HM.out]; exact HNO.out⟩
        case measure => simp [intOf]; omega
      | true =>
        have e3 := bit_on (by omega) (by omega) hb
        have HB := Lib.hid hb
        have HM := Lib.hid (mem_yes hb)
        clear hb
        cases b with
        | true =>
          have hfin : accC a vx s = true := by rw [HF.out]; exact List.any_eq_true.2 ⟨i, mem_mem.2 ⟨hlt, HB.out⟩, HAG.out⟩
          have HFF := Lib.hid hfin
          clear hfin
          go_wp2_with fail
          go_ret
          exact ⟨by rw [HFF.out]; rfl, hbw⟩
        | false =>
          go_wp2_with fail
          go_round
          case rel => exact ⟨i + 1, by omega, by go_num, by rw [HM.out, List.any_append, HNO.out]; simp only [List.any_cons, List.any_nil, Bool.or_false, Bool.false_or]; exact HAG.out⟩
          case measure => simp [intOf]; omega
    · obtain rfl : i = a.accept.length := by omega
      have hfin : accC a vx s = false := by rw [HF.out]; exact HNO.out
      have HFF := Lib.hid hfin
      clear hfin
      go_wp2_with fail
      go_ret
      exact ⟨by rw [HFF.out]; rfl, hbw⟩
end Go.Proofs.Ytbkaoghlkdbofaa

/- The reference's walks in the product: l18Next, l18Ends, l18Along, WalkEnd, MatchesWalk, IsWitness. -/
namespace Go.Proofs.Ytbkaoghlkdbofaa
set_option linter.unusedVariables false
set_option linter.unusedSimpArgs false
open Go.ChangeShapes Go.WideShapes Go.ChangeAt Go.RowKit
attribute [local go_sem] ext_cell ext_frozen ext_lt ext_lt1 ext_lt2 ext_lt3 ltn2 ltn3 ltn13 lts1 lts2 lts3

def foldFr (a : Au) (l set m0 q : Nat) : Nat := (mem q set).foldl (aft1 a l) m0
theorem foldFr_no {a : Au} {l set m0 q : Nat} (h : set.testBit q = false) : foldFr a l set m0 (q + 1) = foldFr a l set m0 q := by rw [foldFr, mem_no h]; rfl
theorem foldFr_yes {a : Au} {l set m0 q : Nat} (h : set.testBit q = true) : foldFr a l set m0 (q + 1) = aft1 a l (foldFr a l set m0 q) q := by rw [foldFr, mem_yes h, List.foldl_append]; rfl
theorem foldFr_lt {a : Au} (h : auOk a = true) (l set m0 q : Nat) (hm : m0 < 2 ^ a.accept.length) : foldFr a l set m0 q < 2 ^ a.accept.length := foldl_inv (P := fun m => m < 2 ^ a.accept.length) (fun m x hm => aft1_lt h l m x hm) _ _ hm
def foldS (a : Au) (v l set q : Nat) : Nat := (mem q set).foldl (aftS a v l) 0
theorem foldS_no {a : Au} {v l set q : Nat} (h : set.testBit q = false) : foldS a v l set (q + 1) = foldS a v l set q := by rw [foldS, mem_no h]; rfl
theorem foldS_yes {a : Au} {v l set q : Nat} (ha : auOk a = true) (hq : q < a.accept.length) (h : set.testBit q = true) : foldS a v l set (q + 1) = foldFr a l (cls a v q) (foldS a v l set q) a.accept.length := by
  rw [foldS, mem_yes h, List.foldl_append]
  show aftS a v l _ q = _
  rw [aftS, mem12 ha (cls_lt ha v q hq)]; rfl
theorem foldS_lt {a : Au} (h : auOk a = true) (v l set q : Nat) : foldS a v l set q < 2 ^ a.accept.length := foldl_inv (P := fun m => m < 2 ^ a.accept.length) (fun m x hm => aftS_lt h v l m x hm) _ _ (Nat.two_pow_pos _)
theorem foldS_all {a : Au} (h : auOk a = true) {v l set : Nat} (hs : set < 2 ^ a.accept.length) : foldS a v l set a.accept.length = aft a set v l := by rw [foldS, aft, mem12 h hs]
theorem stepEd_idx {g : Gr} {id : Int} {e : Ed} (h : stepEd g id = some e) : ∃ ix : Nat, edgeIdx g id = ix ∧ g.edges[ix]? = some e := by
  obtain ⟨hg, hm, he⟩ := stepEd_ok h
  obtain ⟨ix, hix⟩ := List.getElem?_of_mem hm
  refine ⟨ix, ?_, hix⟩
  rw [← he]
  exact edgeIdx_at hg hix

set_option maxHeartbeats 8000000 in
set_option maxRecDepth 100000 in
theorem l18Next_any (vg va : Value) (g : Gr) (a : Au) (x SI : Nat) (st : St) (e : Ed) (l : Nat) (w : World) (hgv : GrV 0 w.heap.size w vg g) (hav : AuV 0 w.heap.size w va a) (hgo : grOk g = true) (ha : auOk a = true) (hx : x < g.vals.length) (hSI : SI < 2 ^ a.accept.length)
    (he : stepEd g st.1 = some e) (hl : arcLetter st.2 e = (l : Int)) :
    Calls Try.prog 176 #[vg, va, .int .i64 (x : Int), .int .i64 (SI : Int), .agg #[.int .i64 st.1, .bool st.2]] w fun en w' => en = .returned (.tuple #[.int .i64 (arcTo st.2 e), .int .i64 (aft a SI (valAt g x) l : Int)]) ∧ Below w.heap.size w w' := by
  have hg := grOk_iff.1 hgo
  have hav0 := hav
  have hgv0 := hgv
  obtain ⟨A1, c1, A2, c2, rfl, hl1, hm1, hl2, hm2, hC1, hC2⟩ := hgv.form
  obtain ⟨A3, c3, A4, c4, rfl, hl3, hm3, hl4, hm4, hAC⟩ := hav.form ha
  obtain ⟨sid, sinv⟩ := st
  have hn12 := (auOk_iff.1 ha).1.2
  obtain ⟨ix, hix, hei⟩ := stepEd_idx he
  have hem := (stepEd_ok he).2.1
  have hel := hg.edges e hem
  have hixl : ix < g.edges.length := (List.getElem?_eq_some_iff.1 hei).1
  have hixi : (ix : Int) < (g.edges.length : Int) := by omega
  obtain ⟨b6, o6, rfl, hb6, q0, q1, q2, q3⟩ := hC2.ed hei
  have hxi : g.vals[x]? = some g.vals[x] := List.getElem?_eq_getElem hx
  have hvr := hg.vals _ (List.getElem_mem hx)
  generalize g.vals[x] = vx at hxi hvr
  obtain ⟨vx, rfl⟩ := Int.eq_ofNat_of_zero_le hvr.1
  have hva := valAt_of hxi
  rw [Int.toNat_natCast] at hva
  obtain ⟨b1, o1, rfl, hb1, d1⟩ := hC1.int hxi
  have hSI4 := lt12 ha hSI
  simp only at hix hl ⊢
  obtain ⟨eid, ef, et, el⟩ := e
  simp only at q0 q1 q2 q3 hel
  obtain ⟨-, -, -, hl0, hl2e⟩ := hel
  have hl9 : l < 6 := by unfold arcLetter at hl; simp only at hl; split at hl <;> omega
  obtain ⟨TO, hTO⟩ : ∃ TO, TO = arcTo sinv (eid, ef, et, el) := ⟨_, rfl⟩
  rw [← hTO, hva, ← foldS_all ha hSI]
  have HTO := Lib.hid (show ∀ W, Calls Try.prog 197 #[.agg #[.int .i64 eid, .int .i64 ef, .int .i64 et, .int .i64 el], .bool sinv] W fun en w' => en = .returned (.int .i64 TO) ∧ Below W.heap.size W w' from fun W => by
    have h := l14To_any (eid, ef, et, el) sinv W
    rwa [← hTO] at h)
  have HLET := Lib.hid (show ∀ W, Calls Try.prog 196 #[.agg #[.int .i64 eid, .int .i64 ef, .int .i64 et, .int .i64 el], .bool sinv] W fun en w' => en = .returned (.int .i64 (l : Int)) ∧ Below W.heap.size W w' from fun W => by
    have h := l14Letter_any (eid, ef, et, el) sinv W hl0 hl2e
    rwa [hl] at h)
  have HEI := Lib.hid (show ∀ W, Below w.heap.size w W → Calls Try.prog 134 #[.agg #[.slice (some ⟨b1, o1, none⟩) g.vals.length c1, .slice (some ⟨b6, o6, none⟩) g.edges.length c2], .int .i64 sid] W fun e w' => e = .returned (.int .i64 (ix : Int)) ∧ Below W.heap.size W w' from fun W hW => by
    have h := specEdgeIndex _ g sid W (hgv0.keep hW)
    rwa [hix] at h)
  have HGO := Lib.hid hg
  have HAO := Lib.hid ha
  have HAV := Lib.hid hav0
  have HGV := Lib.hid hgv0
  have HAC := Lib.hid hAC
  have HSI := Lib.hid hSI
  have hxx : (x : Int) < (g.vals.length : Int) := by omega
  have hb0 : Below w.heap.size w (((w.alloc (.cells #[.slice (some ⟨b1, o1, none⟩) g.vals.length c1, .slice (some ⟨b6, o6, none⟩) g.edges.length c2] 31)).alloc (.cells #[.int .i64 a.start, .slice A3 a.accept.length c3, .slice A4 a.accept.length c4] 58)).alloc (.cells #[.int .i64 sid, .bool sinv] 101)) := (((Below.refl _ _).alloc (Nat.le_refl _) _).alloc (by simp) _).alloc (by simp; omega) _
  clear hgv hav ha hg hgo hav0 hgv0 hva hxi hC1 hC2 hAC hSI he hl hix hei hem hTO
  go_enter Try.func176, Try.ntmps176
  go_upto_region 1 with fail
  obtain ⟨W0, hW0⟩ : ∃ W0, W0 = (((w.alloc (.cells #[.slice (some ⟨b1, o1, none⟩) g.vals.length c1, .slice (some ⟨b6, o6, none⟩) g.edges.length c2] 31)).alloc (.cells #[.int .i64 a.start, .slice A3 a.accept.length c3, .slice A4 a.accept.length c4] 58)).alloc (.cells #[.int .i64 sid, .bool sinv] 101)) := ⟨_, rfl⟩
  rw [← hW0] at hb0 ⊢
  have bx : Blk W0 w.heap.size 31 #[.slice (some ⟨b1, o1, none⟩) g.vals.length c1, .slice (some ⟨b6, o6, none⟩) g.edges.length c2] := by rw [hW0]; exact ((Blk.new w _ _ w.heap.size rfl).alloc _).alloc _
  have by_ : Blk W0 (w.heap.size + 1) 58 #[.int .i64 a.start, .slice A3 a.accept.length c3, .slice A4 a.accept.length c4] := by rw [hW0]; exact (Blk.new (w.alloc _) _ _ (w.heap.size + 1) (by simp)).alloc _
  have bz : Blk W0 (w.heap.size + 1 + 1) 101 #[.int .i64 sid, .bool sinv] := by rw [hW0]; exact Blk.new ((w.alloc _).alloc _) _ _ (w.heap.size + 1 + 1) (by simp)
  have hs0 : w.heap.size + 1 + 1 + 1 = W0.heap.size := by rw [hW0]; simp
  have x0 : W0.cell? ⟨w.heap.size, 0, none⟩ = some (.slice (some ⟨b1, o1, none⟩) g.vals.length c1) := by exact bx.cell 0
  have x1 : W0.cell? ⟨w.heap.size, 1, none⟩ = some (.slice (some ⟨b6, o6, none⟩) g.edges.length c2) := by exact bx.cell 1
  have y0 : W0.cell? ⟨w.heap.size + 1, 0, none⟩ = some (.int .i64 a.start) := by exact by_.cell 0
  have y1 : W0.cell? ⟨w.heap.size + 1, 1, none⟩ = some (.slice A3 a.accept.length c3) := by exact by_.cell 1
  have y2 : W0.cell? ⟨w.heap.size + 1, 2, none⟩ = some (.slice A4 a.accept.length c4) := by exact by_.cell 2
  have z0 : W0.cell? ⟨w.heap.size + 1 + 1, 0, none⟩ = some (.int .i64 sid) := by exact bz.cell 0
  have z1 : W0.cell? ⟨w.heap.size + 1 + 1, 1, none⟩ = some (.bool sinv) := by exact bz.cell 1
  try rw [hs0]
  have l2 := bz.lt
  have l1 := by_.lt
  have l0 := bx.lt
  clear hW0 bx by_ bz hs0
  have q0 := kcell hb0 q0
  have q1 := kcell hb0 q1
  have q2 := kcell hb0 q2
  have q3 := kcell hb0 q3
  have d1 := kcell hb0 d1
  have hbb1 : b1 < W0.heap.size := Nat.lt_of_lt_of_le hb1 hb0.size
  have ne0 := World.new_ne W0 _ x0
  have ne1 := World.new_ne W0 _ q0
  have ne2 := World.new_ne W0 _ z0
  go_cut [12] (fun s12 wx => ∃ eb, s12 = .pointer (some ⟨eb, 0, none⟩) ∧ W0.heap.size ≤ eb ∧ eb < wx.heap.size ∧ wx.cell? ⟨eb, 0, none⟩ = some (.int .i64 eid) ∧ wx.cell? ⟨eb, 1, none⟩ = some (.int .i64 ef) ∧ wx.cell? ⟨eb, 2, none⟩ = some (.int .i64 et) ∧ wx.cell? ⟨eb, 3, none⟩ = some (.int .i64 el) ∧ Below W0.heap.size W0 wx)
  case first =>
    go_region_held3 (fun w' => w'.cell? ⟨w.heap.size, 0, none⟩ = some (.slice (some ⟨b1, o1, none⟩) g.vals.length c1) ∧ w'.cell? ⟨w.heap.size, 1, none⟩ = some (.slice (some ⟨b6, o6, none⟩) g.edges.length c2) ∧ w'.cell? ⟨w.heap.size + 1 + 1, 0, none⟩ = some (.int .i64 sid) ∧ w'.cell? ⟨b6, o6 + ix * 4, none⟩ = some (.int .i64 eid) ∧ w'.cell? ⟨b6, o6 + ix * 4 + 1, none⟩ = some (.int .i64 ef) ∧ w'.cell? ⟨b6, o6 + ix * 4 + 2, none⟩ = some (.int .i64 et) ∧ w'.cell? ⟨b6, o6 + ix * 4 + 3, none⟩ = some (.int .i64 el))
      (first | (with_reducible exact kS7 ne0 ne0 ne2 ne1 ne1 ne1 ne1 (kS7 ne0 ne0 ne2 ne1 ne1 ne1 ne1 (kS7 ne0 ne0 ne2 ne1 ne1 ne1 ne1 (kS7 ne0 ne0 ne2 ne1 ne1 ne1 ne1 (by assumption))))) | (exact ⟨x0, x1, z0, q0, q1, q2, q3⟩) | assumption | (exact kB7 hbE ⟨x0, x1, z0, q0, q1, q2, q3⟩) | (exact kA7 _ ⟨x0, x1, z0, q0, q1, q2, q3⟩) | (exact kA7 _ (kB7 hbE ⟨x0, x1, z0, q0, q1, q2, q3⟩)) | (exact kB7 hbE (kA7 _ ⟨x0, x1, z0, q0, q1, q2, q3⟩)) | (exact kB7 hbE (by assumption)) | (exact kA7 _ (by assumption)) | go_keep)
      (first | (go_at_call 134; refine (HEI.out _ (by first | exact hb0.drew | exact (hb0.drew).alloc (by have := hb0.size; simpa using this) _)).mono ?_; rintro en wE ⟨rfl, hbE⟩; have n0 := World.new_ne wE _ (kcell hbE (by first | exact x0 | exact kcell ((Below.refl _ _).alloc (Nat.le_refl _) _) x0)); have n1 := World.new_ne wE _ (kcell hbE (by first | exact q0 | exact kcell ((Below.refl _ _).alloc (Nat.le_refl _) _) q0)); have n2 := World.new_ne wE _ (kcell hbE (by first | exact z0 | exact kcell ((Below.refl _ _).alloc (Nat.le_refl _) _) z0))); (first | (have NC := nc4 hbE (n := W0.heap.size) rfl; obtain ⟨t0, t1, t2, t3, f0, f1, f2, f3⟩ := NC) | skip))
    all_goals (go_wp2_with fail)
    · go_meet
      exact ⟨_, rfl, hbE.size, by simp, by simp, by simp, by simp, by simp, (below_trans ((Below.refl W0.heap.size W0).drew) hbE).alloc hbE.size _⟩
    · go_meet
      have h9 := hbE.size
      have h8 : W0.heap.size < wE.heap.size := Nat.lt_of_lt_of_le (by simp) h9
      have h7 : Below W0.heap.size W0 wE := below_trans (((Below.refl W0.heap.size W0).alloc (Nat.le_refl _) _).drew) hbE
      exact ⟨_, rfl, Nat.le_refl _, by simpa using h8, by go_simp, by go_simp, by go_simp, by go_simp, (((h7.setCell (Nat.le_refl _) _).setCell (Nat.le_refl _) _).setCell (Nat.le_refl _) _).setCell (Nat.le_refl _) _⟩
  case rest =>
    obtain ⟨eb, rfl, hlo, hhi, e0, e1, e2, e3, hbc⟩ := hcut
    have x0 := kcell hbc x0
    have x1 := kcell hbc x1
    have y0 := kcell hbc y0
    have y1 := kcell hbc y1
    have y2 := kcell hbc y2
    have z0 := kcell hbc z0
    have z1 := kcell hbc z1
    have d1 := kcell hbc d1
    have hbw := below_trans hb0 hbc
    have hsz := hbc.size
    have l0 := Nat.lt_of_lt_of_le l0 hsz
    have l1 := Nat.lt_of_lt_of_le l1 hsz
    have l2 := Nat.lt_of_lt_of_le l2 hsz
    have hbb1 := Nat.lt_of_lt_of_le hbb1 hsz
    clear ne0 ne1 ne2 q0 q1 q2 q3 hb0 hbc
    go_wp2_with fail
    go_loopw [13, 14] (fun mm qq wr => ∃ (q : Nat) (u : World), q ≤ a.accept.length ∧ qq = .int .i64 (q : Int) ∧ mm = .int .i64 (foldS a vx l SI q : Nat) ∧ wr = ext wc u) (fun _ qq _ => a.accept.length - (intOf qq).toNat)
    case atStart => exact ⟨0, wc, Nat.zero_le _, rfl, rfl, ext_self _⟩
    case round =>
      obtain ⟨q, u, hq, rfl, rfl, rfl⟩ := hrel
      by_cases hlq : q < a.accept.length
      · have hqi : (q : Int) < (a.accept.length : Int) := by omega
        cases hb : SI.testBit q with
        | false =>
          have e3' := bit_off (by omega) (by omega) hb
          have HR := Lib.hid (show foldS a vx l SI q = foldS a vx l SI (q + 1) from (foldS_no hb).symm)
          clear hb
          go_wp2_with fail
          go_roundw
          case rel => exact ⟨q + 1, u, by omega, by go_num, by rw [← HR.out], rfl⟩
          case measure => simp [intOf]; omega
        | true =>
          have e3' := bit_on (by omega) (by omega) hb
          have HFS := Lib.hid (foldS_yes (v := vx) (l := l) HAO.out hlq hb)
          have hm0 := foldS_lt HAO.out vx l SI q
          have hcl := cls_lt HAO.out vx q hlq
          have hcl4 := lt12 HAO.out hcl
          clear hb
          generalize foldS a vx l SI q = m0 at *
          have HM0 := Lib.hid hm0
          clear hm0
          go_wp2_with fail
          refine wp_region_ext_lit (by kernel_rfl) (by kernel_rfl) ?_
          repeat (go_big_quiet_step ((go_at_call 195; exact Calls.ext_of (l14Closure_any _ a q vx _ (HAV.out.keep (below_trans hbw (below_trans (ext_below _ _) (ext_below _ _)))) HAO.out hlq (by omega)))))
          refine wpQuiet_nil ?_
          intro _ hw'
          obtain ⟨u2, hw''⟩ := hw'
          subst hw''
          obtain ⟨u3, hu3⟩ := ext_of (below_trans (ext_below wc u) (ext_below (ext wc u) u2))
          rw [hu3]
          clear hu3 u2 u
          go_wp2_with fail
          generalize cls a vx q = C at *
          go_loopw [13, 16] (fun mm rr wr => ∃ (r : Nat) (u : World), r ≤ a.accept.length ∧ rr = .int .i64 (r : Int) ∧ mm = .int .i64 (foldFr a l C m0 r : Nat) ∧ wr = ext wc u) (fun _ rr _ => a.accept.length - (intOf rr).toNat)
          case atStart => exact ⟨0, u3, Nat.zero_le _, rfl, rfl, rfl⟩
          case round =>
            obtain ⟨r, u, hr, rfl, rfl, rfl⟩ := hrel
            by_cases hlr : r < a.accept.length
            · obtain ⟨b, o, b3, o3, c3', rfl, hbb, hrw, -, -, hb3, hmvs⟩ := HAC.out.row r hlr
              have r0 := kcell hbw hrw
              have r1 := kcell hbw (hmvs l (by omega))
              have hws := hbw.size
              have hbb' : b < wc.heap.size := by omega
              have hb3' : b3 < wc.heap.size := by omega
              have hlri : (r : Int) < (a.accept.length : Int) := by omega
              have hlz : (l : Int) < 9 := by omega
              have hft := foldFr_lt HAO.out l C m0 r HM0.out
              have hft4 := lt12 HAO.out hft
              have hmv := mv_lt HAO.out r l
              have HNX := Lib.hid (show foldFr a l C m0 (r + 1) = if C.testBit r = true then aft1 a l (foldFr a l C m0 r) r else foldFr a l C m0 r by by_cases hb : C.testBit r = true; rw [if_pos hb, foldFr_yes hb]; rw [if_neg hb, foldFr_no (by simpa using hb)])
              have HA := Lib.hid (show aft1 a l (foldFr a l C m0 r) r = if 0 ≤ mv a r l then ins (foldFr a l C m0 r) (mv a r l).toNat else foldFr a l C m0 r from rfl)
              generalize foldFr a l C m0 r = m1 at *
              clear hrw hmvs hft
              go_wp2_with fail
              refine wp_region_ext_lit (by kernel_rfl) (by kernel_rfl) ?_
              repeat (go_big_quiet_step ((go_at_call 196; exact Calls.ext_of (HLET.out _))))
              refine wpQuiet_nil ?_
              intro _ hw'
              obtain ⟨u2, hw''⟩ := hw'
              subst hw''
              obtain ⟨u4, hu4⟩ := ext_of (below_trans (ext_below wc u) (ext_below (ext wc u) u2))
              rw [hu4]
              cases hb : C.testBit r with
              | false =>
                have b1f := bit_off (by omega) (by omega) hb
                have HR := Lib.hid (show m1 = foldFr a l C m0 (r + 1) by rw [HNX.out, if_neg (by simp [hb])])
                clear hb
                go_wp2_with fail
                go_roundw
                case rel => exact ⟨r + 1, u4, by omega, by go_num, by rw [← HR.out], rfl⟩
                case measure => simp [intOf]; omega
              | true =>
                have b1t := bit_on (by omega) (by omega) hb
                have HNX := Lib.hid (HNX.out.trans (if_pos hb))
                clear hb
                by_cases h0 : 0 ≤ mv a r l
                · have HR := Lib.hid (show ins m1 (mv a r l).toNat = foldFr a l C m0 (r + 1) by rw [HNX.out, HA.out, if_pos h0])
                  generalize mv a r l = z at *
                  obtain ⟨z, rfl⟩ := Int.eq_ofNat_of_zero_le h0
                  have e1' := shl_bit (s := z) (by omega)
                  have e2' := or_ins (m := m1) (s := z) (by omega) (by omega)
                  go_wp2_with fail
                  go_roundw
                  case rel => exact ⟨r + 1, u4, by omega, by go_num, by rw [← HR.out]; simp, rfl⟩
                  case measure => simp [intOf]; omega
                · have HR := Lib.hid (show m1 = foldFr a l C m0 (r + 1) by rw [HNX.out, HA.out, if_neg h0])
                  have h0' : decide (mv a r l ≥ 0) = false := by simp; omega
                  go_wp2_with fail
                  go_roundw
                  case rel => exact ⟨r + 1, u4, by omega, by go_num, by rw [← HR.out], rfl⟩
                  case measure => simp [intOf]; omega
            · obtain rfl : r = a.accept.length := by omega
              go_wp2_with fail
              go_roundw
              case rel => exact ⟨q + 1, u, by omega, by go_num, by rw [HFS.out], rfl⟩
              case measure => simp [intOf]; omega
      · obtain rfl : q = a.accept.length := by omega
        have hbE := below_trans hbw (ext_below wc u)
        go_wp2_with fail
        refine (HTO.out _).mono ?_
        rintro en w9 ⟨rfl, hb9⟩
        go_wp2_with fail
        go_ret2
        exact ⟨rfl, below_trans hbE hb9⟩

set_option maxHeartbeats 4000000 in
theorem l18Ends_any (vg va : Value) (g : Gr) (a : Au) (x SI : Nat) (w : World) (hgv : GrV 0 w.heap.size w vg g) (hav : AuV 0 w.heap.size w va a) (hgo : grOk g = true) (ha : auOk a = true) (hx : x < g.vals.length) (hSI : SI < 2 ^ a.accept.length) :
    Calls Try.prog 154 #[vg, va, .int .i64 (x : Int), .int .i64 (SI : Int)] w fun en w' => en = .returned (.bool (acc a SI (valAt g x))) ∧ Below w.heap.size w w' := by
  have hav0 := hav
  have hgv0 := hgv
  obtain ⟨A1, n1, c1, A2, n2, c2, rfl⟩ := hgv.shape
  obtain ⟨A3, c3, A4, c4, rfl, hl3, hm3, hl4, hm4, -⟩ := hav.form ha
  have hn12 := (auOk_iff.1 ha).1.2
  have hSI4 := lt12 ha hSI
  have hb0 : Below w.heap.size w ((w.alloc (.cells #[.slice A1 n1 c1, .slice A2 n2 c2] 31)).alloc (.cells #[.int .i64 a.start, .slice A3 a.accept.length c3, .slice A4 a.accept.length c4] 58)) := ((Below.refl _ _).alloc (Nat.le_refl _) _).alloc (by simp) _
  obtain ⟨R, hR⟩ : ∃ R, R = acc a SI (valAt g x) := ⟨_, rfl⟩
  rw [← hR]
  have HR := Lib.hid (show R = (mem a.accept.length SI).any (accC a (valAt g x)) by rw [hR, acc, mem12 ha hSI])
  have HGO := Lib.hid (grOk_iff.1 hgo)
  have HAO := Lib.hid ha
  have HAV := Lib.hid hav0
  have HGV := Lib.hid hgv0
  clear hgv hav ha hgo hav0 hgv0 hSI hR
  go_enter Try.func154, Try.ntmps154
  go_wp2_with fail
  obtain ⟨W0, hW0⟩ : ∃ W0, W0 = ((w.alloc (.cells #[.slice A1 n1 c1, .slice A2 n2 c2] 31)).alloc (.cells #[.int .i64 a.start, .slice A3 a.accept.length c3, .slice A4 a.accept.length c4] 58)) := ⟨_, rfl⟩
  rw [← hW0] at hb0 ⊢
  have x0 : W0.cell? ⟨w.heap.size, 0, none⟩ = some (.slice A1 n1 c1) := by rw [hW0]; simp
  have x1 : W0.cell? ⟨w.heap.size, 1, none⟩ = some (.slice A2 n2 c2) := by rw [hW0]; simp
  have y0 : W0.cell? ⟨w.heap.size + 1, 0, none⟩ = some (.int .i64 a.start) := by rw [hW0]; simp
  have y1 : W0.cell? ⟨w.heap.size + 1, 1, none⟩ = some (.slice A3 a.accept.length c3) := by rw [hW0]; simp
  have y2 : W0.cell? ⟨w.heap.size + 1, 2, none⟩ = some (.slice A4 a.accept.length c4) := by rw [hW0]; simp
  have hs0 : w.heap.size + 1 + 1 = W0.heap.size := by rw [hW0]; simp
  try rw [hs0]
  have l0 : w.heap.size + 1 < W0.heap.size := by omega
  have l00 : w.heap.size < W0.heap.size := by omega
  clear hW0 hs0
  go_loopw [9] (fun qq wr => ∃ (q : Nat) (u : World), q ≤ a.accept.length ∧ qq = .int .i64 (q : Int) ∧ (mem q SI).any (accC a (valAt g x)) = false ∧ wr = ext W0 u) (fun qq _ => a.accept.length - (intOf qq).toNat)
  case atStart => exact ⟨0, W0, Nat.zero_le _, rfl, rfl, ext_self _⟩
  case round =>
    obtain ⟨q, u, hq, rfl, hno, rfl⟩ := hrel
    have HNO := Lib.hid hno
    clear hno
    have hbE := below_trans hb0 (ext_below W0 u)
    by_cases hlq : q < a.accept.length
    · have hqi : (q : Int) < (a.accept.length : Int) := by omega
      cases hb : SI.testBit q with
      | false =>
        have e3' := bit_off (by omega) (by omega) hb
        have HM := Lib.hid (mem_no hb)
        clear hb
        go_wp2_with fail
        go_roundw
        case rel => exact ⟨q + 1, u, by omega, by go_num, by rw [HM.out]; exact HNO.out, rfl⟩
        case measure => simp [intOf]; omega
      | true =>
        have e3' := bit_on (by omega) (by omega) hb
        have HM := Lib.hid (mem_yes hb)
        have HB := Lib.hid hb
        have hacc := l14Accepts_any _ _ g a x q (ext W0 u) (HGV.out.keep hbE) (HAV.out.keep hbE) HGO.out HAO.out hx hlq
        have HACC := Lib.hid hacc
        clear hb hacc
        cases hc : accC a (valAt g x) q with
        | true =>
          rw [hc] at HACC
          have hfin : R = true := by rw [HR.out]; exact List.any_eq_true.2 ⟨q, mem_mem.2 ⟨hlq, HB.out⟩, hc⟩
          subst hfin
          clear HR hc
          go_wp2_with fail
          refine HACC.out.mono ?_
          rintro en w1 ⟨rfl, hb1⟩
          go_wp2_with fail
          go_ret
          exact ⟨rfl, below_trans hbE hb1⟩
        | false =>
          rw [hc] at HACC
          have HC := Lib.hid hc
          clear hc
          go_wp2_with fail
          refine HACC.out.mono ?_
          rintro en w1 ⟨rfl, hb1⟩
          obtain ⟨u4, hu4⟩ := ext_of (below_trans (ext_below W0 u) hb1)
          subst hu4
          go_wp2_with fail
          go_roundw
          case rel => exact ⟨q + 1, u4, by omega, by go_num, by rw [HM.out, List.any_append, HNO.out]; simp only [List.any_cons, List.any_nil, Bool.or_false, Bool.false_or]; exact HC.out, rfl⟩
          case measure => simp [intOf]; omega
    · obtain rfl : q = a.accept.length := by omega
      have hfin : R = false := by rw [HR.out]; exact HNO.out
      subst hfin
      clear HR
      go_wp2_with fail
      go_ret
      exact ⟨rfl, hbE⟩




end Go.Proofs.Ytbkaoghlkdbofaa

/- Counting simple paths, plainly: both sides walk the same arcs in the same order. -/
namespace Go.Proofs.Ytbkaoghlkdbofaa
set_option linter.unusedVariables false
set_option linter.unusedSimpArgs false
open Go.ChangeShapes Go.WideShapes Go.ChangeAt Go.RowKit

def cntC (g : Gr) (a : Au) (rec : Nat → Nat → Nat → Int) (x s used : Nat) (n : Int) (p : Arc) : Int :=
  if aft a s (valAt g x) p.2.1.toNat = 0 ∨ used.testBit p.2.2.toNat = true then n
  else wrap64 (n + rec p.2.2.toNat (aft a s (valAt g x) p.2.1.toNat) (ins used p.2.2.toNat))
def cnt0 (g : Gr) (a : Au) (y : Int) (x s : Nat) : Int := if decide ((x : Int) = y) && acc a s (valAt g x) then 1 else 0
def cnt (g : Gr) (a : Au) (y : Int) : Nat → Nat → Nat → Nat → Int
  | 0, _, _, _ => 0
  | f + 1, x, s, used => (arcsOf g (x : Int)).foldl (cntC g a (cnt g a y f) x s used) (cnt0 g a y x s)
def cntTo (g : Gr) (a : Au) (y : Int) (f x s used i : Nat) : Int := ((arcsOf g (x : Int)).take i).foldl (cntC g a (cnt g a y f) x s used) (cnt0 g a y x s)
theorem cntTo_all (g : Gr) (a : Au) (y : Int) (f x s used : Nat) : cntTo g a y f x s used (arcsOf g (x : Int)).length = cnt g a y (f + 1) x s used := by rw [cntTo, List.take_length]; rfl
theorem cntTo_succ {g : Gr} {a : Au} {y : Int} {f x s used i : Nat} {p : Arc} (h : (arcsOf g (x : Int))[i]? = some p) : cntTo g a y f x s used (i + 1) = cntC g a (cnt g a y f) x s used (cntTo g a y f x s used i) p := foldl_take h _
theorem arc_stepEd {g : Gr} (hgo : grOk g = true) {x : Int} {p : Arc} (hp : p ∈ arcsOf g x) : ∃ e : Ed, stepEd g p.1.1 = some e ∧ arcLetter p.1.2 e = p.2.1 ∧ arcTo p.1.2 e = p.2.2 := by
  have hg := grOk_iff.1 hgo
  obtain ⟨i, e, hi, hie, hl, ht, hid, hm⟩ := arc_edge hg hp
  cases hs : stepEd g p.1.1 with
  | none =>
    rw [stepEd, if_pos hgo, List.find?_eq_none] at hs
    exact absurd (hs e hm) (by simp [hid])
  | some e2 =>
    obtain ⟨ix, h1, h2⟩ := stepEd_idx hs
    have : ix = i := by omega
    subst this
    rw [hie] at h2
    injection h2 with h2
    subst h2
    exact ⟨e, rfl, hl.symm, ht.symm⟩
theorem ins_gt {m t : Nat} (h : m.testBit t = false) : m < ins m t := by
  have h1 : m ≤ ins m t := Nat.left_le_or
  have h2 : m ≠ ins m t := fun e => by
    have h3 := ins_test m t t
    rw [← e, h] at h3
    simp at h3
  omega
theorem cntC_no {g : Gr} {a : Au} {rec : Nat → Nat → Nat → Int} {x s used t m : Nat} {n : Int} {p : Arc} (ht : p.2.2 = (t : Int)) (hm : aft a s (valAt g x) p.2.1.toNat = m) (h : m = 0 ∨ used.testBit t = true) : cntC g a rec x s used n p = n := by
  rw [cntC, hm, ht, Int.toNat_natCast, if_pos h]
theorem cntC_yes {g : Gr} {a : Au} {rec : Nat → Nat → Nat → Int} {x s used t m : Nat} {n : Int} {p : Arc} (ht : p.2.2 = (t : Int)) (hm : aft a s (valAt g x) p.2.1.toNat = m) (h : ¬ m = 0) (h2 : used.testBit t = false) : cntC g a rec x s used n p = wrap64 (n + rec t m (ins used t)) := by
  rw [cntC, hm, ht, Int.toNat_natCast, if_neg (by simp [h, h2])]
def cntOk (g : Gr) (a : Au) (x y : Int) : Bool := wi x 0 ((g.vals.length : Int) - 1) && (wi y 0 ((g.vals.length : Int) - 1) && (grOk g && auOk a))
/-- 32 rounds suffice, for a set of five nodes grows with each. -/
def cntSimple (g : Gr) (a : Au) (x y : Int) : Int := if cntOk g a x y = true then cnt g a y 32 x.toNat (bit a.start.toNat) (bit x.toNat) else 0
end Go.Proofs.Ytbkaoghlkdbofaa

/- Plain: breadth first search from some vertices. -/
namespace Go.Proofs.Ytbkaoghlkdbofaa
set_option linter.unusedVariables false
set_option linter.unusedSimpArgs false

def srcD (N : Nat) (fs : List Nat) : List Int := fs.foldl (fun D i => D.set i 0) (List.replicate N (-1))
theorem srcD_len (N : Nat) (fs : List Nat) : (srcD N fs).length = N := by
  have h : ∀ (fs : List Nat) (D : List Int), (fs.foldl (fun D i => D.set i 0) D).length = D.length := by
    intro fs
    induction fs with
    | nil => intro D; rfl
    | cons x fs ih => intro D; rw [List.foldl_cons, ih, List.length_set]
  rw [srcD, h, List.length_replicate]
theorem srcD_at {N : Nat} {fs : List Nat} {i : Nat} (hi : i < N) : (srcD N fs).getD i 0 = if i ∈ fs then 0 else -1 := by
  have h : ∀ (fs : List Nat) (D : List Int), i < D.length → (fs.foldl (fun D i => D.set i 0) D).getD i 0 = if i ∈ fs then 0 else D.getD i 0 := by
    intro fs
    induction fs with
    | nil => intro D _; simp
    | cons x fs ih =>
      intro D hD
      rw [List.foldl_cons, ih _ (by rw [List.length_set]; exact hD)]
      by_cases h1 : i ∈ fs
      · simp [h1]
      · rw [if_neg h1]
        by_cases h2 : i = x
        · subst h2
          rw [getD_set' hD, if_pos rfl]; simp
        · have hx : (D.set x 0).getD i 0 = D.getD i 0 := by
            simp only [List.getD, List.getElem?_set]
            rw [if_neg (fun e => h2 e.symm)]
          rw [hx, if_neg (by simp [h1, h2])]
  rw [srcD, h fs _ (by simpa using hi)]
  simp [List.getD, List.getElem?_replicate, hi]
theorem srcD_snoc (N : Nat) (fs : List Nat) (x : Nat) : srcD N (fs ++ [x]) = (srcD N fs).set x 0 := by simp [srcD, List.foldl_append]
theorem srcD_out {N : Nat} {fs : List Nat} {i : Nat} (hi : ¬ i < N) : (srcD N fs).getD i 0 = 0 := by
  simp only [List.getD]
  rw [List.getElem?_eq_none (by rw [srcD_len]; omega)]
  rfl
theorem negs_le (D : List Int) : negs D ≤ D.length := List.countP_le_length
theorem srcD_bfsI {N : Nat} {fs : List Nat} (hfs : ∀ i ∈ fs, i < N) : BfsI N (fs.length + N) (fs.length + N) (srcD N fs) fs := by
  have hv : ∀ i, (srcD N fs).getD i 0 = 0 ∨ (srcD N fs).getD i 0 = -1 := by
    intro i
    by_cases hi : i < N
    · rw [srcD_at hi]
      split
      · exact .inl rfl
      · exact .inr rfl
    · exact .inl (srcD_out hi)
  refine ⟨srcD_len N fs, fun h hh => ⟨hfs h hh, ?_⟩, ?_, fun h => ?_, fun h => ?_, Nat.le_refl _⟩
  · rw [srcD_at (hfs h hh), if_pos hh]; omega
  · have := negs_le (srcD N fs)
    rw [srcD_len] at this
    omega
  · rcases hv h with h1 | h1 <;> rw [h1] <;> omega
  · rcases hv h with h1 | h1 <;> rw [h1] <;> omega
def spreadR (N : Nat) (next : Nat → List Nat) (fs : List Nat) : List Int := bfs next (fs.length + N) (srcD N fs) fs
theorem spreadR_len (N : Nat) (next : Nat → List Nat) (fs : List Nat) : (spreadR N next fs).length = N := by rw [spreadR, bfs_len, srcD_len]

/-- from the goals, the rows turned round: the least number of steps to a goal -/
theorem spread_dist {N : Nat} {next : Nat → List Nat} {fs : List Nat} (hfs : ∀ i ∈ fs, i < N) (hn : ∀ i k, i < N → k ∈ next i → k < N) (i : Nat) (hi : i < N) :
    IsDist next (fun i => i ∈ fs) i ((spreadR N (turnL N next) fs).getD i 0) := by
  refine bfs_dist (prev := turnL N next) (fun i k _ _ h => (mem_turnL.1 h).2) (fun i k _ h => (mem_turnL.1 h).1) hn (fun i k hi _ h => mem_turnL.2 ⟨hi, h⟩) _ _ _ ?_ (srcD_bfsI hfs).fuel i hi
  refine ⟨srcD_len N fs, fun i hi h0 => ?_, fun i hi hg => ?_, fun k hk h0 hq => ?_, fun h r hq i hi => ?_, ?_, (srcD_bfsI hfs).queue, fun i hi => (srcD_bfsI hfs).low i⟩
  · rw [srcD_at hi] at h0 ⊢
    by_cases h : i ∈ fs
    · rw [if_pos h]; exact h
    · rw [if_neg h] at h0; omega
  · rw [srcD_at hi, if_pos hg]
  · rw [srcD_at hk, if_neg hq] at h0; omega
  · have hm : h ∈ fs := by rw [hq]; simp
    have e1 := srcD_at (fs := fs) (hfs h hm)
    rw [if_pos hm] at e1
    rw [srcD_at hi, e1]
    split <;> omega
  · have : ∀ l : List Nat, (∀ x ∈ l, x ∈ fs) → l.Pairwise (fun a b => (srcD N fs).getD a 0 ≤ (srcD N fs).getD b 0) := by
      intro l
      induction l with
      | nil => intro _; simp
      | cons x l ih =>
        intro hl
        refine List.pairwise_cons.2 ⟨fun y hy => ?_, ih fun z hz => hl z (List.mem_cons_of_mem _ hz)⟩
        have h1 := hl x (by simp)
        have h2 := hl y (List.mem_cons_of_mem _ hy)
        rw [srcD_at (hfs x h1), srcD_at (hfs y h2), if_pos h1, if_pos h2]
        omega
    exact this fs (fun _ h => h)
theorem relax_mid (d : Int) (k : Nat) (l : List Nat) (D : List Int) (q : List Nat) (h : D.getD k 0 < 0) : relax d (k :: l) D q = relax d l (D.set k d) (q ++ [k]) := by rw [relax, if_pos h]
theorem relax_old (d : Int) (k : Nat) (l : List Nat) (D : List Int) (q : List Nat) (h : ¬ D.getD k 0 < 0) : relax d (k :: l) D q = relax d l D q := by rw [relax, if_neg h]
end Go.Proofs.Ytbkaoghlkdbofaa

/- Plain: the vertices of a node that accept. -/
namespace Go.Proofs.Ytbkaoghlkdbofaa
set_option linter.unusedVariables false
set_option linter.unusedSimpArgs false
def goalsTo (g : Gr) (a : Au) (y i : Nat) : List Nat := ((List.range i).filter (accC a (valAt g y))).map fun s => y * a.accept.length + s
def goalsL (g : Gr) (a : Au) (y : Nat) : List Nat := goalsTo g a y a.accept.length
theorem goalsTo_yes {g : Gr} {a : Au} {y i : Nat} (h : accC a (valAt g y) i = true) : goalsTo g a y (i + 1) = goalsTo g a y i ++ [y * a.accept.length + i] := by
  unfold goalsTo
  rw [List.range_succ, List.filter_append, List.map_append]
  simp [h]
theorem goalsTo_no {g : Gr} {a : Au} {y i : Nat} (h : accC a (valAt g y) i = false) : goalsTo g a y (i + 1) = goalsTo g a y i := by
  unfold goalsTo
  rw [List.range_succ, List.filter_append, List.map_append]
  simp [h]
theorem goalsTo_len (g : Gr) (a : Au) (y i : Nat) : (goalsTo g a y i).length ≤ i := by
  unfold goalsTo
  rw [List.length_map]
  have := List.length_filter_le (accC a (valAt g y)) (List.range i)
  rw [List.length_range] at this
  exact this
theorem mem_goalsL {g : Gr} {a : Au} {y v : Nat} : v ∈ goalsL g a y ↔ ∃ s, s < a.accept.length ∧ accC a (valAt g y) s = true ∧ v = y * a.accept.length + s := by
  unfold goalsL goalsTo
  simp only [List.mem_map, List.mem_filter, List.mem_range]
  constructor
  · rintro ⟨s, ⟨h1, h2⟩, rfl⟩; exact ⟨s, h1, h2, rfl⟩
  · rintro ⟨s, h1, h2, rfl⟩; exact ⟨s, ⟨h1, h2⟩, rfl⟩
end Go.Proofs.Ytbkaoghlkdbofaa

/- Plain: the distances to a node, and the shortest length. -/
namespace Go.Proofs.Ytbkaoghlkdbofaa
set_option linter.unusedVariables false
set_option linter.unusedSimpArgs false
def distTo (g : Gr) (a : Au) (y : Int) : List Int :=
  if (wi y 0 ((g.vals.length : Int) - 1) && (grOk g && auOk a)) = true then spreadR (g.vals.length * a.accept.length) (turnL (g.vals.length * a.accept.length) (nextI g a)) (goalsL g a y.toNat) else []
def shortLen (g : Gr) (a : Au) (x y : Int) : Int :=
  if (wi x 0 ((g.vals.length : Int) - 1) && (wi y 0 ((g.vals.length : Int) - 1) && (grOk g && auOk a))) = true then (distTo g a y).getD (x.toNat * a.accept.length + a.start.toNat) 0 else -1
theorem distTo_len {g : Gr} {a : Au} {y : Int} (h : (wi y 0 ((g.vals.length : Int) - 1) && (grOk g && auOk a)) = true) : (distTo g a y).length = g.vals.length * a.accept.length := by rw [distTo, if_pos h, spreadR_len]
end Go.Proofs.Ytbkaoghlkdbofaa

/- The searches for trails and simple paths, plainly: depth first over the arcs in their order, with a budget of calls. -/
namespace Go.Proofs.Ytbkaoghlkdbofaa
set_option linter.unusedVariables false
set_option linter.unusedSimpArgs false
open Go.ChangeShapes Go.WideShapes Go.ChangeAt Go.RowKit

/-- a state that is at most lf steps from the end -/
def hopeC (D : List Int) (n x lf q : Nat) : Bool := wi (D.getD (x * n + q) 0) 0 (lf : Int)
def hope (D : List Int) (n x s lf : Nat) : Bool := (mem 12 s).any (hopeC D n x lf)
def keyA (sm : Bool) (p : Arc) : Int := if sm then p.2.2 else p.1.1
def skipA (g : Gr) (a : Au) (D : List Int) (sm : Bool) (x s : Nat) (us : List Int) (lf : Nat) (p : Arc) : Bool :=
  decide (aft a s (valAt g x) p.2.1.toNat = 0) || (us.contains (keyA sm p) || !hope D a.accept.length p.2.2.toNat (aft a s (valAt g x) p.2.1.toNat) lf)
abbrev Vis := Option (List St) × Nat
def visC (g : Gr) (a : Au) (D : List Int) (sm : Bool) (rec : Nat → Nat → List Int → Nat → Vis) (x s : Nat) (us : List Int) (lf : Nat) : List Arc → Nat → Vis
  | [], c => (none, c)
  | p :: ps, c => if skipA g a D sm x s us lf p = true then visC g a D sm rec x s us lf ps c else
    match rec p.2.2.toNat (aft a s (valAt g x) p.2.1.toNat) (us ++ [keyA sm p]) c with
    | (some r, c') => (some (p.1 :: r), c')
    | (none, c') => visC g a D sm rec x s us lf ps c'
def visit (g : Gr) (a : Au) (y : Int) (B : Nat) (D : List Int) (sm : Bool) : Nat → Nat → Nat → List Int → Nat → Vis
  | 0, x, s, _, c => if B ≤ c then (none, c) else (if (decide ((x : Int) = y) && acc a s (valAt g x)) = true then some [] else none, c + 1)
  | lf + 1, x, s, us, c => if B ≤ c then (none, c) else visC g a D sm (visit g a y B D sm lf) x s us lf (arcsOf g (x : Int)) (c + 1)
/-- what is left of a visit at arc i -/
def visF (g : Gr) (a : Au) (y : Int) (B : Nat) (D : List Int) (sm : Bool) (lf x s : Nat) (us : List Int) (i c : Nat) : Vis := visC g a D sm (visit g a y B D sm lf) x s us lf ((arcsOf g (x : Int)).drop i) c
section
variable {g : Gr} {a : Au} {y : Int} {B : Nat} {D : List Int} {sm : Bool} {lf x s : Nat} {us : List Int} {i c : Nat}
theorem visit_out (h : B ≤ c) : visit g a y B D sm lf x s us c = (none, c) := by
  cases lf with
  | zero => rw [visit, if_pos h]
  | succ lf => rw [visit, if_pos h]
theorem visit_zero (h : c < B) : visit g a y B D sm 0 x s us c = (if (decide ((x : Int) = y) && acc a s (valAt g x)) = true then some [] else none, c + 1) := by rw [visit, if_neg (by omega)]
def endV (b : Bool) (c : Nat) : Vis := (if b = true then some [] else none, c)
theorem endV_some (b : Bool) (c : Nat) : (endV b c).1.isSome = b := by cases b <;> rfl
theorem endV_get (b : Bool) (c : Nat) : (endV b c).1.getD [] = [] := by cases b <;> rfl
theorem endV_two (b : Bool) (c : Nat) : (endV b c).2 = c := rfl
theorem visit_zeroV (h : c < B) : visit g a y B D sm 0 x s us c = endV (decide ((x : Int) = y) && acc a s (valAt g x)) (c + 1) := visit_zero h
theorem visit_succ (h : c < B) : visit g a y B D sm (lf + 1) x s us c = visF g a y B D sm lf x s us 0 (c + 1) := by rw [visit, if_neg (by omega), visF, List.drop_zero]
theorem visF_end : visF g a y B D sm lf x s us (arcsOf g (x : Int)).length c = (none, c) := by rw [visF, List.drop_length, visC]
theorem drop_at {α : Type} {l : List α} {i : Nat} {p : α} (h : l[i]? = some p) : l.drop i = p :: l.drop (i + 1) := by
  obtain ⟨h1, h2⟩ := List.getElem?_eq_some_iff.1 h
  rw [List.drop_eq_getElem_cons h1, h2]
theorem visF_skip {p : Arc} (h : (arcsOf g (x : Int))[i]? = some p) (hs : skipA g a D sm x s us lf p = true) : visF g a y B D sm lf x s us i c = visF g a y B D sm lf x s us (i + 1) c := by
  rw [visF, drop_at h, visC, if_pos hs, visF]
theorem visF_yes {p : Arc} {r : List St} {c' : Nat} (h : (arcsOf g (x : Int))[i]? = some p) (hs : ¬ skipA g a D sm x s us lf p = true)
    (hr : visit g a y B D sm lf p.2.2.toNat (aft a s (valAt g x) p.2.1.toNat) (us ++ [keyA sm p]) c = (some r, c')) : visF g a y B D sm lf x s us i c = (some (p.1 :: r), c') := by
  rw [visF, drop_at h, visC, if_neg hs, hr]
theorem visF_no {p : Arc} {c' : Nat} (h : (arcsOf g (x : Int))[i]? = some p) (hs : ¬ skipA g a D sm x s us lf p = true)
    (hr : visit g a y B D sm lf p.2.2.toNat (aft a s (valAt g x) p.2.1.toNat) (us ++ [keyA sm p]) c = (none, c')) : visF g a y B D sm lf x s us i c = visF g a y B D sm lf x s us (i + 1) c' := by
  rw [visF, drop_at h, visC, if_neg hs, hr, visF]
theorem skipA_eq {p : Arc} {t M : Nat} {k : Int} (ht : p.2.2 = (t : Int)) (hm : aft a s (valAt g x) p.2.1.toNat = M) (hk : keyA sm p = k) : skipA g a D sm x s us lf p = (decide (M = 0) || (us.contains k || !hope D a.accept.length t M lf)) := by rw [skipA, hm, hk, ht, Int.toNat_natCast]
theorem visF_skip2 {p : Arc} {t M : Nat} {k : Int} (h : (arcsOf g (x : Int))[i]? = some p) (ht : p.2.2 = (t : Int)) (hm : aft a s (valAt g x) p.2.1.toNat = M) (hk : keyA sm p = k) (hs : (decide (M = 0) || (us.contains k || !hope D a.accept.length t M lf)) = true) :
    visF g a y B D sm lf x s us i c = visF g a y B D sm lf x s us (i + 1) c := visF_skip h (by rw [skipA_eq ht hm hk, hs])
theorem visF_yes2 {p : Arc} {t M : Nat} {k : Int} {r : List St} {c' : Nat} (h : (arcsOf g (x : Int))[i]? = some p) (ht : p.2.2 = (t : Int)) (hm : aft a s (valAt g x) p.2.1.toNat = M) (hk : keyA sm p = k) (hs : (decide (M = 0) || (us.contains k || !hope D a.accept.length t M lf)) = false)
    (hr : visit g a y B D sm lf t M (us ++ [k]) c = (some r, c')) : visF g a y B D sm lf x s us i c = (some (p.1 :: r), c') := visF_yes h (by rw [skipA_eq ht hm hk, hs]; simp) (by rw [hm, hk, ht, Int.toNat_natCast]; exact hr)
theorem visF_no2 {p : Arc} {t M : Nat} {k : Int} {c' : Nat} (h : (arcsOf g (x : Int))[i]? = some p) (ht : p.2.2 = (t : Int)) (hm : aft a s (valAt g x) p.2.1.toNat = M) (hk : keyA sm p = k) (hs : (decide (M = 0) || (us.contains k || !hope D a.accept.length t M lf)) = false)
    (hr : visit g a y B D sm lf t M (us ++ [k]) c = (none, c')) : visF g a y B D sm lf x s us i c = visF g a y B D sm lf x s us (i + 1) c' := visF_no h (by rw [skipA_eq ht hm hk, hs]; simp) (by rw [hm, hk, ht, Int.toNat_natCast]; exact hr)
theorem visC_le {rec : Nat → Nat → List Int → Nat → Vis} {N : Nat} (hrec : ∀ x s us c, c ≤ N → (rec x s us c).2 ≤ N ∧ c ≤ (rec x s us c).2) : ∀ (l : List Arc) (c : Nat), c ≤ N → (visC g a D sm rec x s us lf l c).2 ≤ N ∧ c ≤ (visC g a D sm rec x s us lf l c).2
  | [], c, h => ⟨h, Nat.le_refl _⟩
  | p :: l, c, h => by
    rw [visC]
    split
    · exact visC_le hrec l c h
    · have h1 := hrec p.2.2.toNat (aft a s (valAt g x) p.2.1.toNat) (us ++ [keyA sm p]) c h
      split
      · rename_i r c' e
        rw [e] at h1
        exact h1
      · rename_i c' e
        rw [e] at h1
        have h2 := visC_le hrec l c' h1.1
        exact ⟨h2.1, Nat.le_trans h1.2 h2.2⟩
theorem visit_le : ∀ (lf x s : Nat) (us : List Int) (c : Nat), c ≤ B → (visit g a y B D sm lf x s us c).2 ≤ B ∧ c ≤ (visit g a y B D sm lf x s us c).2 := by
  intro lf
  induction lf with
  | zero =>
    intro x s us c h
    rw [visit]
    split
    · exact ⟨h, Nat.le_refl _⟩
    · simp only
      omega
  | succ lf ih =>
    intro x s us c h
    rw [visit]
    split
    · exact ⟨h, Nat.le_refl _⟩
    · have := visC_le (g := g) (a := a) (D := D) (sm := sm) (x := x) (s := s) (us := us) (lf := lf) ih (arcsOf g (x : Int)) (c + 1) (by omega)
      omega
theorem visC_len {rec : Nat → Nat → List Int → Nat → Vis} {k : Nat} (hrec : ∀ x s us c r, (rec x s us c).1 = some r → r.length = k) : ∀ (l : List Arc) (c : Nat) (r : List St), (visC g a D sm rec x s us lf l c).1 = some r → r.length = k + 1
  | [], c, r, h => by cases h
  | p :: l, c, r, h => by
    rw [visC] at h
    split at h
    · exact visC_len hrec l c r h
    · have h1 := hrec p.2.2.toNat (aft a s (valAt g x) p.2.1.toNat) (us ++ [keyA sm p]) c
      split at h
      · rename_i r' c' e
        injection h with h
        subst h
        rw [e] at h1
        rw [List.length_cons, h1 r' rfl]
      · exact visC_len hrec l _ r h
theorem visit_len : ∀ (lf x s : Nat) (us : List Int) (c : Nat) (r : List St), (visit g a y B D sm lf x s us c).1 = some r → r.length = lf := by
  intro lf
  induction lf with
  | zero =>
    intro x s us c r h
    rw [visit] at h
    split at h
    · cases h
    · simp only at h
      split at h
      · injection h with h
        rw [← h]; rfl
      · cases h
  | succ lf ih =>
    intro x s us c r h
    rw [visit] at h
    split at h
    · cases h
    · exact visC_len ih _ _ r h
end
/-- one length after another -/
def srchF (g : Gr) (a : Au) (y : Int) (B : Nat) (D : List Int) (sm : Bool) (x s : Nat) (us : List Int) : Nat → Nat → Nat → Wk × Int
  | 0, _, _ => ((0, []), 2)
  | k + 1, lf, c => if hope D a.accept.length x s lf = true then
      match visit g a y B D sm lf x s us c with
      | (some r, _) => (((x : Int), r), 1)
      | (none, c') => if B ≤ c' then ((0, []), 3) else srchF g a y B D sm x s us k (lf + 1) c'
    else srchF g a y B D sm x s us k (lf + 1) c
section
variable {g : Gr} {a : Au} {y : Int} {B : Nat} {D : List Int} {sm : Bool} {lf x s : Nat} {us : List Int} {k c : Nat}
theorem srchF_no (h : hope D a.accept.length x s lf = false) : srchF g a y B D sm x s us (k + 1) lf c = srchF g a y B D sm x s us k (lf + 1) c := by rw [srchF, h]; rfl
theorem srchF_yes {r : List St} {c' : Nat} (h : hope D a.accept.length x s lf = true) (hv : visit g a y B D sm lf x s us c = (some r, c')) : srchF g a y B D sm x s us (k + 1) lf c = (((x : Int), r), 1) := by rw [srchF, if_pos h, hv]
theorem srchF_out {c' : Nat} (h : hope D a.accept.length x s lf = true) (hv : visit g a y B D sm lf x s us c = (none, c')) (hc : B ≤ c') : srchF g a y B D sm x s us (k + 1) lf c = ((0, []), 3) := by
  rw [srchF, if_pos h, hv]
  simp only
  rw [if_pos hc]
theorem srchF_on {c' : Nat} (h : hope D a.accept.length x s lf = true) (hv : visit g a y B D sm lf x s us c = (none, c')) (hc : ¬ B ≤ c') : srchF g a y B D sm x s us (k + 1) lf c = srchF g a y B D sm x s us k (lf + 1) c' := by
  rw [srchF, if_pos h, hv]
  simp only
  rw [if_neg hc]
end
def srchN (g : Gr) (sm : Bool) : Nat := if sm then g.vals.length else g.edges.length + 1
def srchU (sm : Bool) (x : Nat) : List Int := if sm then [(x : Int)] else []
def srchOk (g : Gr) (a : Au) (x y B : Int) : Bool := cntOk g a x y && wi B 1 20000
def srchL (g : Gr) (a : Au) (x y B : Int) (sm : Bool) : Wk × Int :=
  if srchOk g a x y B = true then srchF g a y B.toNat (distTo g a y) sm x.toNat (bit a.start.toNat) (srchU sm x.toNat) (srchN g sm) 0 0 else ((0, []), 0)
end Go.Proofs.Ytbkaoghlkdbofaa

