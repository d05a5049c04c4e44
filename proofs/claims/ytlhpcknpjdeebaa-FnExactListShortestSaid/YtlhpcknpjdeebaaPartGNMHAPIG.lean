/- Parts of the proof, joined into one text: StepsS, AccS, AlongS. -/
import Derived.Test.YtlhpcknpjdeebaaPartHCBNMMEI
import Derived.Test.YtlhpcknpjdeebaaPartFIPIGBAP
import Derived.Test.YtlhpcknpjdeebaaPartLOMEEABO
import Derived.Deep.RegionHeld3
import Derived.Deep.DeepCutAuto
/- The reference's l14Steps: the steps of the product from a vertex. -/
namespace Go.Proofs.Ytlhpcknpjdeebaa
set_option linter.unusedVariables false
set_option linter.unusedSimpArgs false
open Go.ChangeShapes Go.WideShapes Go.ChangeAt Go.RowKit
attribute [local go_sem] ext_cell ext_frozen ext_lt ext_lt1 ext_lt2 ext_lt3 ltn2 ltn3 ltn13 lts1 lts2 lts3

def cPS (p : PS) : List Value := [.int .i64 p.1.1, .bool p.1.2, .int .i64 p.2.1, .int .i64 p.2.2]
theorem cPS_len (p : PS) : (cPS p).length = 4 := rfl
theorem cPS_one (p : PS) : ∀ u ∈ cPS p, u.oneCell' = true := by intro u hu; simp only [cPS, List.mem_cons, List.not_mem_nil, or_false] at hu; rcases hu with rfl | rfl | rfl | rfl <;> rfl
theorem SlI.st {lo hi : Nat} {w : World} {A : Option Addr} {n c : Nat} {xs : List St} (h : SlI lo hi w cSt 2 (.slice A n c) xs) {i : Nat} {x : St} (hx : xs[i]? = some x) :
    ∃ b o, A = some ⟨b, o, none⟩ ∧ lo ≤ b ∧ b < hi ∧ w.cell? ⟨b, o + i * 2, none⟩ = some (.int .i64 x.1) ∧ w.cell? ⟨b, o + i * 2 + 1, none⟩ = some (.bool x.2) := by
  obtain ⟨A', c', hv, _, _, h3⟩ := h
  injection hv with h1 _ _
  subst h1
  obtain ⟨b, o, e, g1, g2, hc⟩ := h3 i x hx
  exact ⟨b, o, e, g1, g2, by simpa using hc 0 _ rfl, hc 1 _ rfl⟩
theorem nc4 {W wE : World} {c0 c1 c2 c3 : Value} {t : TypeId} {n : Nat} (h : Below (W.alloc (.cells #[c0, c1, c2, c3] t)).drew.heap.size (W.alloc (.cells #[c0, c1, c2, c3] t)).drew wE) (hn : W.heap.size = n) :
    wE.cell? ⟨n, 0, none⟩ = some c0 ∧ wE.cell? ⟨n, 1, none⟩ = some c1 ∧ wE.cell? ⟨n, 2, none⟩ = some c2 ∧ wE.cell? ⟨n, 3, none⟩ = some c3 ∧ wE.frozen? ⟨n, 0, none⟩ = false ∧ wE.frozen? ⟨n, 1, none⟩ = false ∧ wE.frozen? ⟨n, 2, none⟩ = false ∧ wE.frozen? ⟨n, 3, none⟩ = false := by
  subst hn
  have g : ∀ i, (W.alloc (.cells #[c0, c1, c2, c3] t)).drew.frozen? ⟨W.heap.size, i, none⟩ = false := fun i => by show (W.alloc (.cells #[c0, c1, c2, c3] t)).frozen? _ = false; rw [frozen?_alloc_cells]; simp [World.frozen?]
  have k0 : (W.alloc (.cells #[c0, c1, c2, c3] t)).drew.cell? ⟨W.heap.size, 0, none⟩ = some c0 := by simp
  have k1 : (W.alloc (.cells #[c0, c1, c2, c3] t)).drew.cell? ⟨W.heap.size, 1, none⟩ = some c1 := by simp
  have k2 : (W.alloc (.cells #[c0, c1, c2, c3] t)).drew.cell? ⟨W.heap.size, 2, none⟩ = some c2 := by simp
  have k3 : (W.alloc (.cells #[c0, c1, c2, c3] t)).drew.cell? ⟨W.heap.size, 3, none⟩ = some c3 := by simp
  exact ⟨kcell h k0, kcell h k1, kcell h k2, kcell h k3, kfb h k0 (g 0), kfb h k1 (g 1), kfb h k2 (g 2), kfb h k3 (g 3)⟩
theorem Only.grown {lo hi : Nat} {a w w' : World} {row : Option Nat} (h : Only lo hi a w) (hg : w.grownBy w' row) (hr : ∀ b, row = some b → (lo ≤ b ∧ b < hi) ∨ a.heap.size ≤ b) : Only lo hi a w' :=
  ⟨hg.os.trans h.os, hg.tape.trans h.tape, hg.output.trans h.output, Nat.le_trans h.size hg.size, fun n hn ho => (hg.block n (Nat.lt_of_lt_of_le hn h.size) (fun e => by have := hr n e.symm; omega)).trans (h.block n hn ho)⟩
theorem elPS : ElemOk Try.prog 129 132 (.agg #[.int .i64 0, .bool false, .int .i64 0, .int .i64 0]) 4 32 := ⟨Try.underlying129, by kernel_rfl, rfl, by omega⟩
set_option maxHeartbeats 8000000 in
set_option maxRecDepth 100000 in
theorem l14Steps_any (vg va : Value) (g : Gr) (a : Au) (x s : Nat) (w : World) (hgv : GrV 0 w.heap.size w vg g) (hav : AuV 0 w.heap.size w va a) (hgo : grOk g = true) (ha : auOk a = true) (hx : x < g.vals.length) (hs : s < a.accept.length) :
    Calls Try.prog 87 #[vg, va, .int .i64 (x : Int), .int .i64 (s : Int)] w fun e w' => ∃ v', e = .returned v' ∧ Own w.heap.size w'.heap.size w' 132 cPS 4 v' (prodSteps g a x s) ∧ Below w.heap.size w w' := by
  have hg := grOk_iff.1 hgo
  have hav0 := hav
  have hgv0 := hgv
  obtain ⟨A1, c1, A2, c2, rfl, hl1, hm1, hl2, hm2, hC1, hC2⟩ := hgv.form
  obtain ⟨A3, c3, A4, c4, rfl, hl3, hm3, hl4, hm4, hAC⟩ := hav.form ha
  have hn5 := hg.n5
  have he12 := hg.e12
  have hn12 := (auOk_iff.1 ha).1.2
  have hxi : g.vals[x]? = some g.vals[x] := List.getElem?_eq_getElem hx
  have hvr := hg.vals _ (List.getElem_mem hx)
  generalize g.vals[x] = vx at hxi hvr
  obtain ⟨vx, rfl⟩ := Int.eq_ofNat_of_zero_le hvr.1
  have hva := valAt_of hxi
  rw [Int.toNat_natCast] at hva
  obtain ⟨b1, o1, rfl, hb1, d1⟩ := hC1.int hxi
  have hcl := cls_lt ha vx s hs
  have hcl4 := lt12 ha hcl
  have HGO := Lib.hid hg
  have HGB := Lib.hid hgo
  have HAO := Lib.hid ha
  have HAV := Lib.hid hav0
  have HGV := Lib.hid hgv0
  have HAC := Lib.hid hAC
  have HC2 := Lib.hid hC2
  have HVA := Lib.hid hva
  have hb0 : Below w.heap.size w ((w.alloc (.cells #[.slice (some ⟨b1, o1, none⟩) g.vals.length c1, .slice A2 g.edges.length c2] 39)).alloc (.cells #[.int .i64 a.start, .slice A3 a.accept.length c3, .slice A4 a.accept.length c4] 41)) := ((Below.refl _ _).alloc (Nat.le_refl _) _).alloc (by simp) _
  have hxx : (x : Int) < (g.vals.length : Int) := by omega
  obtain ⟨R, hR⟩ : ∃ R, R = prodSteps g a x s := ⟨_, rfl⟩
  rw [← hR]
  have HR := Lib.hid hR
  clear hgv hav ha hg hgo hav0 hgv0 hva hxi hC1 hC2 hAC hR
  go_enter Try.func87, Try.ntmps87
  go_wp2_with fail
  obtain ⟨W0, hW0⟩ : ∃ W0, W0 = ((w.alloc (.cells #[.slice (some ⟨b1, o1, none⟩) g.vals.length c1, .slice A2 g.edges.length c2] 39)).alloc (.cells #[.int .i64 a.start, .slice A3 a.accept.length c3, .slice A4 a.accept.length c4] 41)) := ⟨_, rfl⟩
  rw [← hW0] at hb0 ⊢
  have x0 : W0.cell? ⟨w.heap.size, 0, none⟩ = some (.slice (some ⟨b1, o1, none⟩) g.vals.length c1) := by rw [hW0]; simp
  have x1 : W0.cell? ⟨w.heap.size, 1, none⟩ = some (.slice A2 g.edges.length c2) := by rw [hW0]; simp
  have y0 : W0.cell? ⟨w.heap.size + 1, 0, none⟩ = some (.int .i64 a.start) := by rw [hW0]; simp
  have y1 : W0.cell? ⟨w.heap.size + 1, 1, none⟩ = some (.slice A3 a.accept.length c3) := by rw [hW0]; simp
  have y2 : W0.cell? ⟨w.heap.size + 1, 2, none⟩ = some (.slice A4 a.accept.length c4) := by rw [hW0]; simp
  have d1 := kcell hb0 d1
  have hs0 : w.heap.size + 1 + 1 = W0.heap.size := by rw [hW0]; simp
  rw [hs0]
  have l0 : w.heap.size + 1 < W0.heap.size := by omega
  have l00 : w.heap.size < W0.heap.size := by omega
  have hb1W : b1 < W0.heap.size := by omega
  clear hW0 hs0
  have hbL : Below W0.heap.size W0 (W0.alloc (.cells #[] 132)) := (Below.refl _ _).alloc (Nat.le_refl _) _
  refine wp_region_ext_lit (by kernel_rfl) (by kernel_rfl) ?_
  repeat (go_big_quiet_step ((go_at_call 89; exact Calls.ext_of (l14Closure_any _ a s vx _ (HAV.out.keep (below_trans hb0 (below_trans hbL (ext_below _ _)))) HAO.out hs (by omega)))))
  refine wpQuiet_nil ?_
  intro _ hw'
  obtain ⟨u2, hw''⟩ := hw'
  subst hw''
  have hbX := below_trans hbL (ext_below (W0.alloc (.cells #[] 132)) u2)
  have hrow0 := ownsRow_below (World.ownsRow_lit (base := W0.heap.size) (e := 132) (size := 4) W0 #[] 0 (Nat.le_refl _) (by decide) rfl) (ext_below (W0.alloc (.cells #[] 132)) u2) (Nat.le_refl _)
  generalize (ext (W0.alloc (.cells #[] 132)) u2) = WX at hbX hrow0 ⊢
  have HROW0 := Lib.hid hrow0
  have x0 := kcell hbX x0
  have x1 := kcell hbX x1
  clear hrow0 hbL
  go_wp2_with fail
  refine (l4From_any _ g (x : Int) _ (HGV.out.keep (below_trans hb0 hbX)) he12).mono ?_
  rintro e W1 ⟨v1, rfl, ho1, hb2⟩
  obtain ⟨A5, c5, rfl, hl5, hm5, -⟩ := ho1.form cSt_len
  have hoI := ho1.sl cSt_len
  have hlen5 : ((arcsOf g (x : Int)).map (·.1)).length = (arcsOf g (x : Int)).length := by simp
  rw [hlen5] at hl5 hoI ⊢
  have hAL := arcs_len HGO.out (x : Int)
  have hbW1 := below_trans hbX hb2
  have hbw1 := below_trans hb0 hbW1
  have x0 := kcell hb2 x0
  have x1 := kcell hb2 x1
  have y0 := kcell hbW1 y0
  have y1 := kcell hbW1 y1
  have y2 := kcell hbW1 y2
  have hsX := hbX.size
  have hs2 := hb2.size
  have hrow1 := ownsRow_below HROW0.out hb2 (Nat.le_refl _)
  have HROW := Lib.hid hrow1
  have HOI := Lib.hid hoI
  have HBX := Lib.hid hbX
  have hgX : W0.heap.size < WX.heap.size := (HROW0.out.lt _ rfl).2
  have Y1W := Lib.hid y1
  clear hlen5 hbX hb2 hrow1 hoI ho1 HROW0
  go_wp2_with fail
  go_loopw [9, 12] (fun out ii wr => ∃ i : Nat, i ≤ (arcsOf g (x : Int)).length ∧ ii = .int .i64 (i : Int) ∧ wr.ownsRow W0.heap.size 132 4 out (((arcsOf g (x : Int)).take i).flatMap (psA g a x s)).length ((((arcsOf g (x : Int)).take i).flatMap (psA g a x s)).flatMap cPS) ∧
    Only W0.heap.size WX.heap.size W1 wr ∧ (∀ b, out.ownBlock = some b → b < WX.heap.size ∨ W1.heap.size ≤ b)) (fun _ ii _ => (arcsOf g (x : Int)).length - (intOf ii).toNat)
  case atStart => exact ⟨0, Nat.zero_le _, rfl, by simpa using HROW.out, Only.refl _ _ _, fun b hb => by injection hb with hb; subst hb; exact .inl hgX⟩
  case round =>
    clear HROW
    obtain ⟨i, hi, rfl, hrow, hon, hout⟩ := hrel
    have HROW := Lib.hid hrow
    have HOUT := Lib.hid hout
    clear hrow hout
    by_cases hlt : i < (arcsOf g (x : Int)).length
    · have hyi : (arcsOf g (x : Int))[i]? = some (arcsOf g (x : Int))[i] := List.getElem?_eq_getElem hlt
      have hyr := arc_range HGO.out (List.getElem_mem hlt)
      obtain ⟨ix, e, hix, hei, hy1, hy2, -, hem⟩ := arc_edge HGO.out (List.getElem_mem hlt)
      generalize (arcsOf g (x : Int))[i] = y at hyi hyr hix hy1 hy2
      have hli : ((arcsOf g (x : Int)).map (·.1))[i]? = some y.1 := by rw [List.getElem?_map, hyi]; rfl
      obtain ⟨⟨yid, yinv⟩, yl, yt⟩ := y
      simp only at hyr hix hy1 hy2 hli
      obtain ⟨b5, o5, rfl, hlo5, hb5, p0, p1⟩ := HOI.out.st hli
      have P0 := Lib.hid (show W1.cell? ⟨b5, o5 + i * 2, none⟩ = some (.int .i64 yid) from p0)
      have P1 := Lib.hid (show W1.cell? ⟨b5, o5 + i * 2 + 1, none⟩ = some (.bool yinv) from p1)
      have p0 := ocell hon p0 hb5 (.inr hlo5)
      have p1 := ocell hon p1 hb5 (.inr hlo5)
      simp only at p0 p1
      obtain ⟨b6, o6, rfl, hb6, q0, q1, q2, q3⟩ := HC2.out.ed hei
      have q0 := ocell hon (kcell hbw1 q0) (Nat.lt_of_lt_of_le hb6 hbw1.size) (.inl (by have := hb0.size; omega))
      have q1 := ocell hon (kcell hbw1 q1) (Nat.lt_of_lt_of_le hb6 hbw1.size) (.inl (by have := hb0.size; omega))
      have q2 := ocell hon (kcell hbw1 q2) (Nat.lt_of_lt_of_le hb6 hbw1.size) (.inl (by have := hb0.size; omega))
      have q3 := ocell hon (kcell hbw1 q3) (Nat.lt_of_lt_of_le hb6 hbw1.size) (.inl (by have := hb0.size; omega))
      have x0 := ocell hon x0 (by omega) (.inl (by omega))
      have x1 := ocell hon x1 (by omega) (.inl (by omega))
      have y0 := ocell hon y0 (by omega) (.inl (by omega))
      have y1 := ocell hon y1 (by omega) (.inl (by omega))
      have y2 := ocell hon y2 (by omega) (.inl (by omega))
      have hel := HGO.out.edges e hem
      have hixl : ix < g.edges.length := (List.getElem?_eq_some_iff.1 hei).1
      have hixi : (ix : Int) < (g.edges.length : Int) := by omega
      have hii : (i : Int) < ((arcsOf g (x : Int)).length : Int) := by omega
      obtain ⟨eid, ef, et, el⟩ := e
      simp only at q0 q1 q2 q3 hel
      obtain ⟨-, -, -, hl0, hl2e⟩ := hel
      have hbwr : Below w.heap.size w wr := hbw1.trans (hon.below (by have := hb0.size; omega) (by have := hbw1.size; omega))
      have hei2 : ∀ W, Below w.heap.size w W → Calls Try.prog 88 #[.agg #[.slice (some ⟨b1, o1, none⟩) g.vals.length c1, .slice (some ⟨b6, o6, none⟩) g.edges.length c2], .int .i64 yid] W fun e w' => e = .returned (.int .i64 (ix : Int)) ∧ Below W.heap.size W w' := fun W hW => by
        have h := specEdgeIndex _ g yid W (HGV.out.keep hW)
        rwa [hix] at h
      have HEI := Lib.hid hei2
      have HYI := Lib.hid hyi
      have HY1 := Lib.hid hy1
      have HY2 := Lib.hid hy2
      have HLI := Lib.hid hli
      have HBWR := Lib.hid hbwr
      have ne0 := World.new_ne wr _ x0
      have ne1 := World.new_ne wr _ q0
      have ne2 := World.new_ne wr _ p0
      clear hei2 hyi hy1 hy2 hli hix hem hbwr
      go_upto_region 7 with fail
      go_cut [13] (fun s13 wx => ∃ eb, s13 = .pointer (some ⟨eb, 0, none⟩) ∧ wr.heap.size ≤ eb ∧ eb < wx.heap.size ∧ wx.cell? ⟨eb, 0, none⟩ = some (.int .i64 eid) ∧ wx.cell? ⟨eb, 1, none⟩ = some (.int .i64 ef) ∧ wx.cell? ⟨eb, 2, none⟩ = some (.int .i64 et) ∧ wx.cell? ⟨eb, 3, none⟩ = some (.int .i64 el) ∧ Below wr.heap.size wr wx)
      case first =>
        go_region_held3 (fun w' => w'.cell? ⟨w.heap.size, 0, none⟩ = some (.slice (some ⟨b1, o1, none⟩) g.vals.length c1) ∧ w'.cell? ⟨w.heap.size, 1, none⟩ = some (.slice (some ⟨b6, o6, none⟩) g.edges.length c2) ∧ w'.cell? ⟨b5, o5 + i * 2, none⟩ = some (.int .i64 yid) ∧ w'.cell? ⟨b6, o6 + ix * 4, none⟩ = some (.int .i64 eid) ∧ w'.cell? ⟨b6, o6 + ix * 4 + 1, none⟩ = some (.int .i64 ef) ∧ w'.cell? ⟨b6, o6 + ix * 4 + 2, none⟩ = some (.int .i64 et) ∧ w'.cell? ⟨b6, o6 + ix * 4 + 3, none⟩ = some (.int .i64 el))
          (first | (with_reducible exact kS7 ne0 ne0 ne2 ne1 ne1 ne1 ne1 (kS7 ne0 ne0 ne2 ne1 ne1 ne1 ne1 (kS7 ne0 ne0 ne2 ne1 ne1 ne1 ne1 (kS7 ne0 ne0 ne2 ne1 ne1 ne1 ne1 (by assumption))))) | (exact ⟨x0, x1, p0, q0, q1, q2, q3⟩) | assumption | (exact kB7 hbE ⟨x0, x1, p0, q0, q1, q2, q3⟩) | (exact kA7 _ ⟨x0, x1, p0, q0, q1, q2, q3⟩) | (exact kA7 _ (kB7 hbE ⟨x0, x1, p0, q0, q1, q2, q3⟩)) | (exact kB7 hbE (kA7 _ ⟨x0, x1, p0, q0, q1, q2, q3⟩)) | (exact kB7 hbE (by assumption)) | (exact kA7 _ (by assumption)) | go_keep)
          (first | (go_at_call 88; refine (HEI.out _ (by first | exact HBWR.out.drew | exact (HBWR.out.drew).alloc (by have := HBWR.out.size; simpa using this) _)).mono ?_; rintro en wE ⟨rfl, hbE⟩; have n0 := World.new_ne wE _ (kcell hbE (by first | exact x0 | exact kcell ((Below.refl _ _).alloc (Nat.le_refl _) _) x0)); have n1 := World.new_ne wE _ (kcell hbE (by first | exact q0 | exact kcell ((Below.refl _ _).alloc (Nat.le_refl _) _) q0)); have n2 := World.new_ne wE _ (kcell hbE (by first | exact p0 | exact kcell ((Below.refl _ _).alloc (Nat.le_refl _) _) p0))); (first | (have NC := nc4 hbE (n := wr.heap.size) rfl; obtain ⟨t0, t1, t2, t3, f0, f1, f2, f3⟩ := NC) | skip))
        all_goals (go_wp2_with fail)
        · go_meet
          exact ⟨_, rfl, hbE.size, by simp, by simp, by simp, by simp, by simp, (below_trans ((Below.refl wr.heap.size wr).drew) hbE).alloc hbE.size _⟩
        · go_meet
          have h9 := hbE.size
          have h8 : wr.heap.size < wE.heap.size := Nat.lt_of_lt_of_le (by simp) h9
          have h7 : Below wr.heap.size wr wE := below_trans (((Below.refl wr.heap.size wr).alloc (Nat.le_refl _) _).drew) hbE
          exact ⟨_, rfl, Nat.le_refl _, by simpa using h8, by go_simp, by go_simp, by go_simp, by go_simp, (((h7.setCell (Nat.le_refl _) _).setCell (Nat.le_refl _) _).setCell (Nat.le_refl _) _).setCell (Nat.le_refl _) _⟩
      case rest =>
        obtain ⟨eb, rfl, hlo, hhi, e0, e1, e2, e3, hbc⟩ := hcut
        obtain ⟨wo, hwo⟩ : ∃ wo : World, wo = wr := ⟨_, rfl⟩
        have y1 := kcell hbc y1
        have y2 := kcell hbc y2
        have p0 := kcell hbc p0
        have p1 := kcell hbc p1
        have hbw := below_trans HBWR.out hbc
        have hsz := hbc.size
        have hsr := HBWR.out.size
        have hs0 := hb0.size
        have hs1 := hbw1.size
        have hos := hon.size
        have bl5 : b5 < wc.heap.size := by omega
        have bly : w.heap.size + 1 < wc.heap.size := by omega
        have blw : w.heap.size ≤ wc.heap.size := by omega
        obtain ⟨⟨hyl0, hyl5⟩, -, -⟩ := hyr
        obtain ⟨l, rfl⟩ := Int.eq_ofNat_of_zero_le hyl0
        have hl6 : l < 9 := by omega
        have hlz : (l : Int) < 9 := by omega
        have hyl : ((⟨(yid, yinv), (l : Int), yt⟩ : Arc)).2.1.toNat = l := by simp
        have hlet : ∀ W, Calls Try.prog 90 #[.agg #[.int .i64 eid, .int .i64 ef, .int .i64 et, .int .i64 el], .bool yinv] W fun en w' => en = .returned (.int .i64 (l : Int)) ∧ Below W.heap.size W w' := fun W => by
          have h := l14Letter_any (eid, ef, et, el) yinv W hl0 hl2e
          rwa [← HY1.out] at h
        have HLET := Lib.hid hlet
        have HBW := Lib.hid hbw
        have HON := Lib.hid hon
        clear hlet hbw hon hsr hos hyl0 hyl5 hl0 hl2e
        go_wp2_with fail
        go_loopw [14, 15] (fun mm qq w2 => ∃ (q : Nat) (u : World), q ≤ a.accept.length ∧ qq = .int .i64 (q : Int) ∧ mm = .int .i64 (foldTo a l (cls a vx s) q : Nat) ∧ w2 = ext wc u) (fun _ qq _ => a.accept.length - (intOf qq).toNat)
        case atStart => exact ⟨0, wc, Nat.zero_le _, rfl, rfl, ext_self _⟩
        case round =>
          obtain ⟨q, u, hq, rfl, rfl, rfl⟩ := hrel
          by_cases hlq : q < a.accept.length
          · obtain ⟨b, o, b3, o3, c3', rfl, hbb, hrw, -, -, hb3, hmvs⟩ := HAC.out.row q hlq
            have r0 := kcell HBW.out hrw
            have r1 := kcell HBW.out (hmvs l hl6)
            have hbb' : b < wc.heap.size := by omega
            have hb3' : b3 < wc.heap.size := by omega
            have hlqi : (q : Int) < (a.accept.length : Int) := by omega
            have hft := foldTo_lt HAO.out l (cls a vx s) q
            have hft4 := lt12 HAO.out hft
            have hmv := mv_lt HAO.out q l
            have HNX := Lib.hid (show foldTo a l (cls a vx s) (q + 1) = if (cls a vx s).testBit q = true then aft1 a l (foldTo a l (cls a vx s) q) q else foldTo a l (cls a vx s) q by by_cases hb : (cls a vx s).testBit q = true; rw [if_pos hb, foldTo_yes hb]; rw [if_neg hb, foldTo_no (by simpa using hb)])
            have HA := Lib.hid (show aft1 a l (foldTo a l (cls a vx s) q) q = if 0 ≤ mv a q l then ins (foldTo a l (cls a vx s) q) (mv a q l).toNat else foldTo a l (cls a vx s) q from rfl)
            generalize foldTo a l (cls a vx s) q = m0 at *
            clear hrw hmvs hft
            go_wp2_with fail
            refine wp_region_ext_lit (by kernel_rfl) (by kernel_rfl) ?_
            repeat (go_big_quiet_step ((go_at_call 90; exact Calls.ext_of (HLET.out _))))
            refine wpQuiet_nil ?_
            intro _ hw'
            obtain ⟨u2, hw''⟩ := hw'
            subst hw''
            obtain ⟨u3, hu3⟩ := ext_of (below_trans (ext_below wc u) (ext_below (ext wc u) u2))
            rw [hu3]
            cases hb : (cls a vx s).testBit q with
            | false =>
              have b1f := bit_off (by omega) (by omega) hb
              have HR := Lib.hid (show m0 = foldTo a l (cls a vx s) (q + 1) by rw [HNX.out, if_neg (by simp [hb])])
              clear hb
              go_wp2_with fail
              go_roundw
              case rel => exact ⟨q + 1, u3, by omega, by go_num, by rw [← HR.out], rfl⟩
              case measure => simp [intOf]; omega
            | true =>
              have b1t := bit_on (by omega) (by omega) hb
              have HNX := Lib.hid (HNX.out.trans (if_pos hb))
              clear hb
              by_cases h0 : 0 ≤ mv a q l
              · have HR := Lib.hid (show ins m0 (mv a q l).toNat = foldTo a l (cls a vx s) (q + 1) by rw [HNX.out, HA.out, if_pos h0])
                generalize mv a q l = z at *
                obtain ⟨z, rfl⟩ := Int.eq_ofNat_of_zero_le h0
                have e1' := shl_bit (s := z) (by omega)
                have e2' := or_ins (m := m0) (s := z) (by omega) (by omega)
                go_wp2_with fail
                go_roundw
                case rel => exact ⟨q + 1, u3, by omega, by go_num, by rw [← HR.out]; simp, rfl⟩
                case measure => simp [intOf]; omega
              · have HR := Lib.hid (show m0 = foldTo a l (cls a vx s) (q + 1) by rw [HNX.out, HA.out, if_neg h0])
                have h0' : decide (mv a q l ≥ 0) = false := by simp; omega
                go_wp2_with fail
                go_roundw
                case rel => exact ⟨q + 1, u3, by omega, by go_num, by rw [← HR.out], rfl⟩
                case measure => simp [intOf]; omega
          · obtain rfl : q = a.accept.length := by omega
            have hyt : ∀ W, Calls Try.prog 91 #[.agg #[.int .i64 eid, .int .i64 ef, .int .i64 et, .int .i64 el], .bool yinv] W fun en w' => en = .returned (.int .i64 yt) ∧ Below W.heap.size W w' := fun W => by
              have h := l14To_any (eid, ef, et, el) yinv W
              rwa [← HY2.out] at h
            have HTO := Lib.hid hyt
            have hps : psA g a x s ((yid, yinv), (l : Int), yt) = (mem a.accept.length (foldTo a l (cls a vx s) a.accept.length)).map fun (q : Nat) => ((yid, yinv), yt, (q : Int)) := by
              unfold psA
              rw [foldTo_all HAO.out hs, HVA.out]
              simp only [Int.toNat_natCast]
              rw [mem12 HAO.out (aft_lt HAO.out _ _ _)]
            have hmlt := foldTo_lt HAO.out l (cls a vx s) a.accept.length
            have hm4 := lt12 HAO.out hmlt
            generalize foldTo a l (cls a vx s) a.accept.length = M at *
            have HPS := Lib.hid hps
            have hsu : wc.heap.size ≤ (ext wc u).heap.size := ext_size wc u
            have hx0 : ((((arcsOf g (x : Int)).take i).flatMap (psA g a x s))).length ≤ 288 := by
              have h2 := flat_len (psA_len g a x s) ((arcsOf g (x : Int)).take i)
              have h3 : ((arcsOf g (x : Int)).take i).length ≤ 24 := by rw [List.length_take]; omega
              omega
            have hbu := below_trans hbc (ext_below wc u)
            have hrow3 := ownsRow_below HROW.out hbu (Nat.le_refl _)
            have hon3 := HON.out.trans (Only.of_below hbu W0.heap.size WX.heap.size)
            have hout3 : ∀ b, u9.ownBlock = some b → b < wo.heap.size ∨ (ext wc u).heap.size ≤ b := fun b hb => .inl (by rw [hwo]; exact (HROW.out.lt b hb).2)
            have f0 := kcell (ext_below wc u) e0
            have f1 := kcell (ext_below wc u) e1
            have f2 := kcell (ext_below wc u) e2
            have f3 := kcell (ext_below wc u) e3
            have hle : wo.heap.size ≤ (ext wc u).heap.size := by rw [hwo]; exact hbu.size
            have hebE : eb < (ext wc u).heap.size := Nat.lt_of_lt_of_le hhi hsu
            have hloe : wo.heap.size ≤ eb := by rw [hwo]; assumption
            have y1 := kcell (ext_below wc u) y1
            generalize ext wc u = wE at *
            have HROW3 := Lib.hid hrow3
            have HON3 := Lib.hid hon3
            have HOUT3 := Lib.hid hout3
            clear hps hyt hbu hrow3 hon3 hout3
            obtain ⟨XS, hXS⟩ : ∃ XS, XS = ((arcsOf g (x : Int)).take i).flatMap (psA g a x s) := ⟨_, rfl⟩
            rw [← hXS] at hx0 HROW3
            have HXS := Lib.hid hXS
            clear hXS
            go_wp2_with fail
            go_loopw [9, 17] (fun vv qq w3 => ∃ q : Nat, q ≤ a.accept.length ∧ qq = .int .i64 (q : Int) ∧ w3.ownsRow W0.heap.size 132 4 vv (XS ++ (mem q M).map (fun (q : Nat) => (((yid, yinv), yt, (q : Int)) : PS))).length ((XS ++ (mem q M).map (fun (q : Nat) => (((yid, yinv), yt, (q : Int)) : PS))).flatMap cPS) ∧ Only W0.heap.size WX.heap.size W1 w3 ∧ Only 0 wo.heap.size wE w3 ∧ (∀ b, vv.ownBlock = some b → b < WX.heap.size ∨ W1.heap.size ≤ b) ∧ (∀ b, vv.ownBlock = some b → b < wo.heap.size ∨ wE.heap.size ≤ b)) (fun _ qq _ => a.accept.length - (intOf qq).toNat)
            case atStart => exact ⟨0, Nat.zero_le _, rfl, by rw [show mem 0 M = [] from rfl, List.map_nil, List.append_nil]; exact HROW3.out, HON3.out, Only.refl _ _ _, HOUT.out, HOUT3.out⟩
            case round =>
              obtain ⟨q, hq, rfl, hrw, hn1, hn2, ho1, ho2⟩ := hrel
              have y1 := ocell hn1 Y1W.out (by omega) (.inl (by omega))
              have p0 := ocell hn1 P0.out hb5 (.inr hlo5)
              have p1 := ocell hn1 P1.out hb5 (.inr hlo5)
              have f0 := ocell hn2 f0 hebE (.inr hloe)
              have f1 := ocell hn2 f1 hebE (.inr hloe)
              have f2 := ocell hn2 f2 hebE (.inr hloe)
              have f3 := ocell hn2 f3 hebE (.inr hloe)
              have hz1 := hn1.size
              have hz2 := hn2.size
              have HRW := Lib.hid hrw
              have HN1 := Lib.hid hn1
              have HN2 := Lib.hid hn2
              have HO1 := Lib.hid ho1
              have HO2 := Lib.hid ho2
              clear hrw hn1 hn2 ho1 ho2
              by_cases hlq : q < a.accept.length
              · cases hb : M.testBit q with
                | false =>
                  have b1f := bit_off (by omega) (by omega) hb
                  have HM := Lib.hid (mem_no hb)
                  clear hb
                  go_wp2_with fail
                  go_roundw
                  case rel => exact ⟨q + 1, by omega, by go_num, by rw [HM.out]; exact HRW.out, HN1.out, HN2.out, HO1.out, HO2.out⟩
                  case measure => simp [intOf]; omega
                | true =>
                  have b1t := bit_on (by omega) (by omega) hb
                  have hxq : (XS ++ (mem q M).map (fun (q : Nat) => (((yid, yinv), yt, (q : Int)) : PS))).length ≤ 301 := by
                    have := mem_len q M
                    rw [List.length_append, List.length_map]
                    omega
                  have HM := Lib.hid (show (XS ++ (mem q M).map (fun (q : Nat) => (((yid, yinv), yt, (q : Int)) : PS))) ++ [(((yid, yinv), yt, (q : Int)) : PS)] = XS ++ (mem (q + 1) M).map (fun (q : Nat) => (((yid, yinv), yt, (q : Int)) : PS)) by rw [mem_yes hb, List.map_append, List.append_assoc]; rfl)
                  clear hb
                  generalize XS ++ (mem q M).map (fun (q : Nat) => (((yid, yinv), yt, (q : Int)) : PS)) = XQ at *
                  have N5 := Ne.symm (α := Option Nat) (mt (HO1.out b5) (by omega))
                  have NE := Ne.symm (α := Option Nat) (mt (HO2.out eb) (by omega))
                  have HN5 := Lib.hid N5
                  have HNE := Lib.hid NE
                  clear N5 NE
                  go_wp2_with fail
                  refine F_start 16 (fun w' => w'.cell? ⟨b5, o5 + i * 2, none⟩ = some (.int .i64 yid) ∧ w'.cell? ⟨b5, o5 + i * 2 + 1, none⟩ = some (.bool yinv) ∧ w'.cell? ⟨eb, 0, none⟩ = some (.int .i64 eid) ∧ w'.cell? ⟨eb, 1, none⟩ = some (.int .i64 ef) ∧ w'.cell? ⟨eb, 2, none⟩ = some (.int .i64 et) ∧ w'.cell? ⟨eb, 3, none⟩ = some (.int .i64 el)) (by kernel_rfl) (by exact ⟨p0, p1, f0, f1, f2, f3⟩) (fun hS inv => ?_)
                  refine F_take (i := 0) (v := ?_) rfl (by kernel_rfl) (by kernel_rfl) (by kernel_rfl) (fun _ _ _ h => h) inv (Or.inl ⟨by rfl, ?_⟩) (by assumption) (fun invn => ?_)
                  rotate_left
                  · (intro w hSw; (try dsimp only at hSw); go_simp; try with_reducible rfl)
                  try simp only [List.getElem_toArray, List.getElem_cons_zero, List.getElem_cons_succ, Act.put, List.setIfInBounds_toArray, List.set_cons_zero, List.set_cons_succ]
                  clear inv
                  have inv := invn
                  clear invn
                  refine F_take (i := 1) (v := ?_) rfl (by kernel_rfl) (by kernel_rfl) (by kernel_rfl) (fun _ _ _ h => h) inv (Or.inl ⟨by rfl, ?_⟩) (by assumption) (fun invn => ?_)
                  rotate_left
                  · (intro w hSw; (try dsimp only at hSw); go_simp; try with_reducible rfl)
                  try simp only [List.getElem_toArray, List.getElem_cons_zero, List.getElem_cons_succ, Act.put, List.setIfInBounds_toArray, List.set_cons_zero, List.set_cons_succ]
                  clear inv
                  have inv := invn
                  clear invn
                  refine F_take (i := 2) (v := ?_) rfl (by kernel_rfl) (by kernel_rfl) (by kernel_rfl) (fun _ _ _ h => h) inv (Or.inl ⟨by rfl, ?_⟩) (by assumption) (fun invn => ?_)
                  rotate_left
                  · (intro w hSw; (try dsimp only at hSw); go_simp; try with_reducible rfl)
                  try simp only [List.getElem_toArray, List.getElem_cons_zero, List.getElem_cons_succ, Act.put, List.setIfInBounds_toArray, List.set_cons_zero, List.set_cons_succ]
                  clear inv
                  have inv := invn
                  clear invn
                  refine F_take (i := 3) (v := ?_) rfl (by kernel_rfl) (by kernel_rfl) (by kernel_rfl) (fun _ _ _ h => h) inv (Or.inl ⟨by rfl, ?_⟩) (by assumption) (fun invn => ?_)
                  rotate_left
                  · (intro w hSw; (try dsimp only at hSw); go_simp; try with_reducible rfl)
                  try simp only [List.getElem_toArray, List.getElem_cons_zero, List.getElem_cons_succ, Act.put, List.setIfInBounds_toArray, List.set_cons_zero, List.set_cons_succ]
                  clear inv
                  have inv := invn
                  clear invn
                  refine F_take (i := 4) (v := ?_) rfl (by kernel_rfl) (by kernel_rfl) (by kernel_rfl) (fun _ _ _ h => h) inv (Or.inl ⟨by rfl, ?_⟩) (by assumption) (fun invn => ?_)
                  rotate_left
                  · (intro w hSw; (try dsimp only at hSw); go_simp; try with_reducible rfl)
                  try simp only [List.getElem_toArray, List.getElem_cons_zero, List.getElem_cons_succ, Act.put, List.setIfInBounds_toArray, List.set_cons_zero, List.set_cons_succ]
                  clear inv
                  have inv := invn
                  clear invn
                  refine F_take (i := 5) (v := ?_) rfl (by kernel_rfl) (by kernel_rfl) (by kernel_rfl) (fun _ _ _ h => h) inv (Or.inl ⟨by rfl, ?_⟩) (by assumption) (fun invn => ?_)
                  rotate_left
                  · (intro w hSw; (try dsimp only at hSw); go_simp; try with_reducible rfl)
                  try simp only [List.getElem_toArray, List.getElem_cons_zero, List.getElem_cons_succ, Act.put, List.setIfInBounds_toArray, List.set_cons_zero, List.set_cons_succ]
                  clear inv
                  have inv := invn
                  clear invn
                  refine F_take (i := 6) (v := ?_) rfl (by kernel_rfl) (by kernel_rfl) (by kernel_rfl) (fun _ _ _ h => h) inv (Or.inl ⟨by rfl, ?_⟩) (by assumption) (fun invn => ?_)
                  rotate_left
                  · (intro w hSw; (try dsimp only at hSw); go_simp; try with_reducible rfl)
                  try simp only [List.getElem_toArray, List.getElem_cons_zero, List.getElem_cons_succ, Act.put, List.setIfInBounds_toArray, List.set_cons_zero, List.set_cons_succ]
                  clear inv
                  have inv := invn
                  clear invn
                  refine F_take (i := 7) (v := ?_) rfl (by kernel_rfl) (by kernel_rfl) (by kernel_rfl) (fun _ _ _ h => h) inv (Or.inl ⟨by rfl, ?_⟩) (by assumption) (fun invn => ?_)
                  rotate_left
                  · (intro w hSw; (try dsimp only at hSw); go_simp; try with_reducible rfl)
                  try simp only [List.getElem_toArray, List.getElem_cons_zero, List.getElem_cons_succ, Act.put, List.setIfInBounds_toArray, List.set_cons_zero, List.set_cons_succ]
                  clear inv
                  have inv := invn
                  clear invn
                  refine F_take (i := 8) (v := ?_) rfl (by kernel_rfl) (by kernel_rfl) (by kernel_rfl) (fun _ _ _ h => h) inv (Or.inl ⟨by rfl, ?_⟩) (by assumption) (fun invn => ?_)
                  rotate_left
                  · (intro w hSw; (try dsimp only at hSw); go_simp; try with_reducible rfl)
                  try simp only [List.getElem_toArray, List.getElem_cons_zero, List.getElem_cons_succ, Act.put, List.setIfInBounds_toArray, List.set_cons_zero, List.set_cons_succ]
                  clear inv
                  have inv := invn
                  clear invn
                  refine F_take (i := 9) (v := ?_) rfl (by kernel_rfl) (by kernel_rfl) (by kernel_rfl) (fun _ _ _ h => h) inv (Or.inl ⟨by rfl, ?_⟩) (by assumption) (fun invn => ?_)
                  rotate_left
                  · (intro w hSw; (try dsimp only at hSw); go_simp; try with_reducible rfl)
                  try simp only [List.getElem_toArray, List.getElem_cons_zero, List.getElem_cons_succ, Act.put, List.setIfInBounds_toArray, List.set_cons_zero, List.set_cons_succ]
                  clear inv
                  have inv := invn
                  clear invn
                  refine F_take (i := 10) (v := ?_) rfl (by kernel_rfl) (by kernel_rfl) (by kernel_rfl) (fun _ _ _ h => h) inv (Or.inl ⟨by rfl, ?_⟩) (by assumption) (fun invn => ?_)
                  rotate_left
                  · (intro w hSw; (try dsimp only at hSw); go_simp; try with_reducible rfl)
                  try simp only [List.getElem_toArray, List.getElem_cons_zero, List.getElem_cons_succ, Act.put, List.setIfInBounds_toArray, List.set_cons_zero, List.set_cons_succ]
                  clear inv
                  have inv := invn
                  clear invn
                  refine F_take (i := 12) (v := ?_) rfl (by kernel_rfl) (by kernel_rfl) (by kernel_rfl) (fun _ _ _ h => h) inv (Or.inl ⟨by rfl, ?_⟩) (by assumption) (fun invn => ?_)
                  rotate_left
                  · (intro w hSw; (try dsimp only at hSw); go_simp; try with_reducible rfl)
                  try simp only [List.getElem_toArray, List.getElem_cons_zero, List.getElem_cons_succ, Act.put, List.setIfInBounds_toArray, List.set_cons_zero, List.set_cons_succ]
                  clear inv
                  have inv := invn
                  clear invn
                  refine F_one (i := 11) (by kernel_rfl) rfl rfl (by omega) inv (fun K hK => ?_)
                  try simp only [List.getElem_toArray, List.getElem_cons_zero, List.getElem_cons_succ]
                  go_simp
                  refine (HTO.out _).mono ?_
                  rintro e wT ⟨rfl, hbT⟩
                  have hzT : wr.heap.size ≤ wT.heap.size := hbT.size
                  have HRT := Lib.hid (ownsRow_below HRW.out (below_trans ((Below.refl wr.heap.size wr).drew) hbT) (Nat.le_refl _))
                  refine hK.out _ _ (kB6 hbT hS) (fun hSn invn => ?_)
                  try simp only [List.getElem_toArray, List.getElem_cons_zero, List.getElem_cons_succ, Act.put, List.setIfInBounds_toArray, List.set_cons_zero, List.set_cons_succ]
                  clear hK K inv hS
                  have inv := invn
                  have hS := hSn
                  clear invn hSn
                  refine F_take (i := 13) (v := ?_) rfl (by kernel_rfl) (by kernel_rfl) (by kernel_rfl) (fun _ _ _ h => h) inv (Or.inl ⟨by rfl, ?_⟩) (by assumption) (fun invn => ?_)
                  rotate_left
                  · (intro w hSw; (try dsimp only at hSw); go_simp; try with_reducible rfl)
                  try simp only [List.getElem_toArray, List.getElem_cons_zero, List.getElem_cons_succ, Act.put, List.setIfInBounds_toArray, List.set_cons_zero, List.set_cons_succ]
                  clear inv
                  have inv := invn
                  clear invn
                  refine F_one (i := 14) (by kernel_rfl) rfl rfl (by omega) inv (fun K hK => ?_)
                  try simp only [List.getElem_toArray, List.getElem_cons_zero, List.getElem_cons_succ]
                  go_simp
                  refine hK.out _ _ (kA6 _ hS) (fun hSn invn => ?_)
                  try simp only [List.getElem_toArray, List.getElem_cons_zero, List.getElem_cons_succ, Act.put, List.setIfInBounds_toArray, List.set_cons_zero, List.set_cons_succ]
                  clear hK K inv hS
                  have inv := invn
                  have hS := hSn
                  clear invn hSn
                  refine F_one (i := 15) (by kernel_rfl) rfl rfl (by omega) inv (fun K hK => ?_)
                  try simp only [List.getElem_toArray, List.getElem_cons_zero, List.getElem_cons_succ]
                  refine op_append1 cPS elPS rfl _ _ (by rfl) W0.heap.size _ XQ ((yid, yinv), yt, (q : Int)) 1 _ (by rfl) (HRT.out.alloc _) (by first | rfl | simp) (heap_alloc_new _ _) rfl (cPS_one _) (by omega) (by omega) (by simp; omega) ?_
                  intro g2 cp2 w3 hown3 hgr3 hat3 hlt3
                  have HW3 := Lib.hid hown3
                  have HG3 := Lib.hid hgr3
                  have HA3 := Lib.hid hat3
                  clear hown3 hgr3 hat3
                  refine hK.out _ _ (kG6 HG3.out HN5.out HN5.out HNE.out HNE.out HNE.out HNE.out hS) (fun hSn invn => ?_)
                  try simp only [List.getElem_toArray, List.getElem_cons_zero, List.getElem_cons_succ, Act.put, List.setIfInBounds_toArray, List.set_cons_zero, List.set_cons_succ]
                  clear hK K inv hS
                  have inv := invn
                  have hS := hSn
                  clear invn hSn
                  refine F_last (i := 16) (by kernel_rfl) rfl rfl (by omega) (by kernel_rfl) (fun K hK => ?_)
                  go_simp
                  refine hK _ _ ?_
                  clear hK K inv hS
                  have hat := HA3.out.imp id (Nat.le_trans (show wT.heap.size ≤ _ by simp))
                  go_wp2_with fail
                  go_roundw
                  case rel =>
                    refine ⟨q + 1, by omega, by go_num, by rw [← HM.out]; simpa using HW3.out, (((HN1.out.drew).trans (Only.of_below hbT _ _)).alloc _).grown HG3.out (fun b hb => (HO1.out b hb).imp (fun h => ⟨(HRW.out.lt b hb).1, h⟩) id), (((HN2.out.drew).trans (Only.of_below hbT _ _)).alloc _).grown HG3.out (fun b hb => (HO2.out b hb).imp (fun h => ⟨Nat.zero_le _, h⟩) id), fun b hb => ?_, fun b hb => ?_⟩
                    · injection hb with hb
                      subst hb
                      rcases hat with h | h
                      · exact HO1.out _ h
                      · exact .inr (Nat.le_trans (show W1.heap.size ≤ wT.heap.size by omega) h)
                    · injection hb with hb
                      subst hb
                      rcases hat with h | h
                      · exact HO2.out _ h
                      · exact .inr (Nat.le_trans (show wE.heap.size ≤ wT.heap.size by omega) h)
                  case measure => simp [intOf]; omega
              · obtain rfl : q = a.accept.length := by omega
                go_wp2_with fail
                go_roundw
                case rel =>
                  have hts : ((arcsOf g (x : Int)).take (i + 1)).flatMap (psA g a x s) = XS ++ (mem a.accept.length M).map (fun (q : Nat) => (((yid, yinv), yt, (q : Int)) : PS)) := by
                    rw [take_snoc HYI.out, List.flatMap_append, ← HXS.out, List.flatMap_singleton, HPS.out]
                  exact ⟨i + 1, by omega, by go_num, by rw [hts]; exact HRW.out, HN1.out, HO1.out⟩
                case measure => simp [intOf]; omega
    · obtain rfl : i = (arcsOf g (x : Int)).length := by omega
      have hR : R = ((arcsOf g (x : Int)).take (arcsOf g (x : Int)).length).flatMap (psA g a x s) := by rw [HR.out, List.take_length]; rfl
      have hown := Own.of_row (xs := R) (ownsRow_mono (b := w.heap.size) (by rw [hR]; exact HROW.out) hb0.size) rfl rfl
      have HO := Lib.hid hown
      have hfin : Below w.heap.size w wr := hbw1.trans (hon.below hb0.size hbw1.size)
      clear hR hown
      go_wp2_with fail
      go_ret
      exact ⟨_, rfl, HO.out, hfin⟩
end Go.Proofs.Ytlhpcknpjdeebaa

/- The reference's l14Accepts: whether a state accepts at a node. -/
namespace Go.Proofs.Ytlhpcknpjdeebaa
set_option linter.unusedVariables false
set_option linter.unusedSimpArgs false
open Go.ChangeShapes Go.WideShapes Go.ChangeAt Go.RowKit
attribute [local go_sem] ext_cell ext_frozen ext_lt ext_lt1 ext_lt2 ext_lt3 ltn2 ltn3 ltn13 lts1 lts2 lts3

set_option maxHeartbeats 4000000 in
theorem l14Accepts_any (vg va : Value) (g : Gr) (a : Au) (x s : Nat) (w : World) (hgv : GrV 0 w.heap.size w vg g) (hav : AuV 0 w.heap.size w va a) (hg : GrOk g) (ha : auOk a = true) (hx : x < g.vals.length) (hs : s < a.accept.length) :
    Calls Try.prog 86 #[vg, va, .int .i64 (x : Int), .int .i64 (s : Int)] w fun e w' => e = .returned (.bool (accC a (valAt g x) s)) ∧ Below w.heap.size w w' := by
  have hav0 := hav
  obtain ⟨A1, c1, A2, c2, rfl, hl1, hm1, -, -, hC1, -⟩ := hgv.form
  obtain ⟨A3, c3, A4, c4, rfl, hl3, hm3, hl4, hm4, hAC, -⟩ := hav.form ha
  have hn5 := hg.n5
  have hn12 := (auOk_iff.1 ha).1.2
  have hxi : g.vals[x]? = some g.vals[x] := List.getElem?_eq_getElem hx
  have hvr := hg.vals _ (List.getElem_mem hx)
  generalize g.vals[x] = vx at hxi hvr
  obtain ⟨vx, rfl⟩ := Int.eq_ofNat_of_zero_le hvr.1
  have hva := valAt_of hxi
  rw [Int.toNat_natCast] at hva
  rw [hva]
  obtain ⟨b1, o1, rfl, hb1, d1⟩ := hC1.int hxi
  have hcl := cls_lt ha vx s hs
  have hcl4 := lt12 ha hcl
  have hfin : accC a vx s = (mem a.accept.length (cls a vx s)).any fun t => a.accept.getD t false := by rw [accC, mem12 ha hcl]
  have HF := Lib.hid hfin
  have HAO := Lib.hid ha
  have HAV := Lib.hid hav0
  have HAC := Lib.hid hAC
  have HCL := Lib.hid hcl
  have hb0 : Below w.heap.size w ((w.alloc (.cells #[.slice (some ⟨b1, o1, none⟩) g.vals.length c1, .slice A2 g.edges.length c2] 39)).alloc (.cells #[.int .i64 a.start, .slice A3 a.accept.length c3, .slice A4 a.accept.length c4] 41)) := ((Below.refl _ _).alloc (Nat.le_refl _) _).alloc (by simp) _
  have hxx : (x : Int) < (g.vals.length : Int) := by omega
  clear hgv hav ha hg hav0 hva hxi hC1 hAC hcl hfin
  go_enter Try.func86, Try.ntmps86
  go_wp2_with fail
  refine wp_region_ext_lit (by kernel_rfl) (by kernel_rfl) ?_
  repeat (go_big_quiet_step ((go_at_call 89; exact Calls.ext_of (l14Closure_any _ a s vx _ (HAV.out.keep (below_trans hb0 (ext_below _ _))) HAO.out hs (by omega)))))
  refine wpQuiet_nil ?_
  intro _ hw'
  obtain ⟨u2, hw''⟩ := hw'
  subst hw''
  have hbw := below_trans hb0 (ext_below _ u2)
  go_wp2_with fail
  generalize cls a vx s = m at *
  go_loop [10] (fun ii => ∃ i : Nat, i ≤ a.accept.length ∧ ii = .int .i64 (i : Int) ∧ (mem i m).any (fun t => a.accept.getD t false) = false) (fun ii => a.accept.length - (intOf ii).toNat)
  case atStart => exact ⟨0, Nat.zero_le _, rfl, rfl⟩
  case round =>
    obtain ⟨i, hi, rfl, hno⟩ := hrel
    have HNO := Lib.hid hno
    clear hno
    by_cases hlt : i < a.accept.length
    · have hai : a.accept[i]? = some a.accept[i] := List.getElem?_eq_getElem hlt
      obtain ⟨b5, o5, rfl, hb5, d5⟩ := HAC.out.bool hai
      have hag : a.accept.getD i false = a.accept[i] := by simp [List.getD, hai]
      generalize a.accept[i] = b at *
      have HAG := Lib.hid hag
      clear hai hag
      cases hb : m.testBit i with
      | false =>
        have e3 := bit_off (by omega) (by omega) hb
        have HM := Lib.hid (mem_no hb)
        clear hb
        go_wp2_with fail
        go_round
        case rel => exact ⟨i + 1, by omega, by go_num, by rw [HM.out]; exact HNO.out⟩
        case measure => simp [intOf]; omega
      | true =>
        have e3 := bit_on (by omega) (by omega) hb
        have HB := Lib.hid hb
        have HM := Lib.hid (mem_yes hb)
        clear hb
        cases b with
        | true =>
          have hfin : accC a vx s = true := by rw [HF.out]; exact List.any_eq_true.2 ⟨i, mem_mem.2 ⟨hlt, HB.out⟩, HAG.out⟩
          have HFF := Lib.hid hfin
          clear hfin
          go_wp2_with fail
          go_ret
          exact ⟨by rw [HFF.out]; rfl, hbw⟩
        | false =>
          go_wp2_with fail
          go_round
          case rel => exact ⟨i + 1, by omega, by go_num, by rw [HM.out, List.any_append, HNO.out]; simp only [List.any_cons, List.any_nil, Bool.or_false, Bool.false_or]; exact HAG.out⟩
          case measure => simp [intOf]; omega
    · obtain rfl : i = a.accept.length := by omega
      have hfin : accC a vx s = false := by rw [HF.out]; exact HNO.out
      have HFF := Lib.hid hfin
      clear hfin
      go_wp2_with fail
      go_ret
      exact ⟨by rw [HFF.out]; rfl, hbw⟩
end Go.Proofs.Ytlhpcknpjdeebaa

/- The reference's walks in the product: l18Next, l18Ends, l18Along, WalkEnd, MatchesWalk, IsWitness. -/
namespace Go.Proofs.Ytlhpcknpjdeebaa
set_option linter.unusedVariables false
set_option linter.unusedSimpArgs false
open Go.ChangeShapes Go.WideShapes Go.ChangeAt Go.RowKit
attribute [local go_sem] ext_cell ext_frozen ext_lt ext_lt1 ext_lt2 ext_lt3 ltn2 ltn3 ltn13 lts1 lts2 lts3

def foldFr (a : Au) (l set m0 q : Nat) : Nat := (mem q set).foldl (aft1 a l) m0
theorem foldFr_no {a : Au} {l set m0 q : Nat} (h : set.testBit q = false) : foldFr a l set m0 (q + 1) = foldFr a l set m0 q := by rw [foldFr, mem_no h]; rfl
theorem foldFr_yes {a : Au} {l set m0 q : Nat} (h : set.testBit q = true) : foldFr a l set m0 (q + 1) = aft1 a l (foldFr a l set m0 q) q := by rw [foldFr, mem_yes h, List.foldl_append]; rfl
theorem foldFr_lt {a : Au} (h : auOk a = true) (l set m0 q : Nat) (hm : m0 < 2 ^ a.accept.length) : foldFr a l set m0 q < 2 ^ a.accept.length := foldl_inv (P := fun m => m < 2 ^ a.accept.length) (fun m x hm => aft1_lt h l m x hm) _ _ hm
def foldS (a : Au) (v l set q : Nat) : Nat := (mem q set).foldl (aftS a v l) 0
theorem foldS_no {a : Au} {v l set q : Nat} (h : set.testBit q = false) : foldS a v l set (q + 1) = foldS a v l set q := by rw [foldS, mem_no h]; rfl
theorem foldS_yes {a : Au} {v l set q : Nat} (ha : auOk a = true) (hq : q < a.accept.length) (h : set.testBit q = true) : foldS a v l set (q + 1) = foldFr a l (cls a v q) (foldS a v l set q) a.accept.length := by
  rw [foldS, mem_yes h, List.foldl_append]
  show aftS a v l _ q = _
  rw [aftS, mem12 ha (cls_lt ha v q hq)]; rfl
theorem foldS_lt {a : Au} (h : auOk a = true) (v l set q : Nat) : foldS a v l set q < 2 ^ a.accept.length := foldl_inv (P := fun m => m < 2 ^ a.accept.length) (fun m x hm => aftS_lt h v l m x hm) _ _ (Nat.two_pow_pos _)
theorem foldS_all {a : Au} (h : auOk a = true) {v l set : Nat} (hs : set < 2 ^ a.accept.length) : foldS a v l set a.accept.length = aft a set v l := by rw [foldS, aft, mem12 h hs]
theorem stepEd_idx {g : Gr} {id : Int} {e : Ed} (h : stepEd g id = some e) : ∃ ix : Nat, edgeIdx g id = ix ∧ g.edges[ix]? = some e := by
  obtain ⟨hg, hm, he⟩ := stepEd_ok h
  obtain ⟨ix, hix⟩ := List.getElem?_of_mem hm
  refine ⟨ix, ?_, hix⟩
  rw [← he]
  exact edgeIdx_at hg hix

set_option maxHeartbeats 8000000 in
set_option maxRecDepth 100000 in
theorem l18Next_any (vg va : Value) (g : Gr) (a : Au) (x SI : Nat) (st : St) (e : Ed) (l : Nat) (w : World) (hgv : GrV 0 w.heap.size w vg g) (hav : AuV 0 w.heap.size w va a) (hgo : grOk g = true) (ha : auOk a = true) (hx : x < g.vals.length) (hSI : SI < 2 ^ a.accept.length)
    (he : stepEd g st.1 = some e) (hl : arcLetter st.2 e = (l : Int)) :
    Calls Try.prog 67 #[vg, va, .int .i64 (x : Int), .int .i64 (SI : Int), .agg #[.int .i64 st.1, .bool st.2]] w fun en w' => en = .returned (.tuple #[.int .i64 (arcTo st.2 e), .int .i64 (aft a SI (valAt g x) l : Int)]) ∧ Below w.heap.size w w' := by
  have hg := grOk_iff.1 hgo
  have hav0 := hav
  have hgv0 := hgv
  obtain ⟨A1, c1, A2, c2, rfl, hl1, hm1, hl2, hm2, hC1, hC2⟩ := hgv.form
  obtain ⟨A3, c3, A4, c4, rfl, hl3, hm3, hl4, hm4, hAC⟩ := hav.form ha
  obtain ⟨sid, sinv⟩ := st
  have hn12 := (auOk_iff.1 ha).1.2
  obtain ⟨ix, hix, hei⟩ := stepEd_idx he
  have hem := (stepEd_ok he).2.1
  have hel := hg.edges e hem
  have hixl : ix < g.edges.length := (List.getElem?_eq_some_iff.1 hei).1
  have hixi : (ix : Int) < (g.edges.length : Int) := by omega
  obtain ⟨b6, o6, rfl, hb6, q0, q1, q2, q3⟩ := hC2.ed hei
  have hxi : g.vals[x]? = some g.vals[x] := List.getElem?_eq_getElem hx
  have hvr := hg.vals _ (List.getElem_mem hx)
  generalize g.vals[x] = vx at hxi hvr
  obtain ⟨vx, rfl⟩ := Int.eq_ofNat_of_zero_le hvr.1
  have hva := valAt_of hxi
  rw [Int.toNat_natCast] at hva
  obtain ⟨b1, o1, rfl, hb1, d1⟩ := hC1.int hxi
  have hSI4 := lt12 ha hSI
  simp only at hix hl ⊢
  obtain ⟨eid, ef, et, el⟩ := e
  simp only at q0 q1 q2 q3 hel
  obtain ⟨-, -, -, hl0, hl2e⟩ := hel
  have hl9 : l < 6 := by unfold arcLetter at hl; simp only at hl; split at hl <;> omega
  obtain ⟨TO, hTO⟩ : ∃ TO, TO = arcTo sinv (eid, ef, et, el) := ⟨_, rfl⟩
  rw [← hTO, hva, ← foldS_all ha hSI]
  have HTO := Lib.hid (show ∀ W, Calls Try.prog 91 #[.agg #[.int .i64 eid, .int .i64 ef, .int .i64 et, .int .i64 el], .bool sinv] W fun en w' => en = .returned (.int .i64 TO) ∧ Below W.heap.size W w' from fun W => by
    have h := l14To_any (eid, ef, et, el) sinv W
    rwa [← hTO] at h)
  have HLET := Lib.hid (show ∀ W, Calls Try.prog 90 #[.agg #[.int .i64 eid, .int .i64 ef, .int .i64 et, .int .i64 el], .bool sinv] W fun en w' => en = .returned (.int .i64 (l : Int)) ∧ Below W.heap.size W w' from fun W => by
    have h := l14Letter_any (eid, ef, et, el) sinv W hl0 hl2e
    rwa [hl] at h)
  have HEI := Lib.hid (show ∀ W, Below w.heap.size w W → Calls Try.prog 88 #[.agg #[.slice (some ⟨b1, o1, none⟩) g.vals.length c1, .slice (some ⟨b6, o6, none⟩) g.edges.length c2], .int .i64 sid] W fun e w' => e = .returned (.int .i64 (ix : Int)) ∧ Below W.heap.size W w' from fun W hW => by
    have h := specEdgeIndex _ g sid W (hgv0.keep hW)
    rwa [hix] at h)
  have HGO := Lib.hid hg
  have HAO := Lib.hid ha
  have HAV := Lib.hid hav0
  have HGV := Lib.hid hgv0
  have HAC := Lib.hid hAC
  have HSI := Lib.hid hSI
  have hxx : (x : Int) < (g.vals.length : Int) := by omega
  have hb0 : Below w.heap.size w (((w.alloc (.cells #[.slice (some ⟨b1, o1, none⟩) g.vals.length c1, .slice (some ⟨b6, o6, none⟩) g.edges.length c2] 39)).alloc (.cells #[.int .i64 a.start, .slice A3 a.accept.length c3, .slice A4 a.accept.length c4] 41)).alloc (.cells #[.int .i64 sid, .bool sinv] 96)) := (((Below.refl _ _).alloc (Nat.le_refl _) _).alloc (by simp) _).alloc (by simp; omega) _
  clear hgv hav ha hg hgo hav0 hgv0 hva hxi hC1 hC2 hAC hSI he hl hix hei hem hTO
  go_enter Try.func67, Try.ntmps67
  go_upto_region 1 with fail
  obtain ⟨W0, hW0⟩ : ∃ W0, W0 = (((w.alloc (.cells #[.slice (some ⟨b1, o1, none⟩) g.vals.length c1, .slice (some ⟨b6, o6, none⟩) g.edges.length c2] 39)).alloc (.cells #[.int .i64 a.start, .slice A3 a.accept.length c3, .slice A4 a.accept.length c4] 41)).alloc (.cells #[.int .i64 sid, .bool sinv] 96)) := ⟨_, rfl⟩
  rw [← hW0] at hb0 ⊢
  have bx : Blk W0 w.heap.size 39 #[.slice (some ⟨b1, o1, none⟩) g.vals.length c1, .slice (some ⟨b6, o6, none⟩) g.edges.length c2] := by rw [hW0]; exact ((Blk.new w _ _ w.heap.size rfl).alloc _).alloc _
  have by_ : Blk W0 (w.heap.size + 1) 41 #[.int .i64 a.start, .slice A3 a.accept.length c3, .slice A4 a.accept.length c4] := by rw [hW0]; exact (Blk.new (w.alloc _) _ _ (w.heap.size + 1) (by simp)).alloc _
  have bz : Blk W0 (w.heap.size + 1 + 1) 96 #[.int .i64 sid, .bool sinv] := by rw [hW0]; exact Blk.new ((w.alloc _).alloc _) _ _ (w.heap.size + 1 + 1) (by simp)
  have hs0 : w.heap.size + 1 + 1 + 1 = W0.heap.size := by rw [hW0]; simp
  have x0 : W0.cell? ⟨w.heap.size, 0, none⟩ = some (.slice (some ⟨b1, o1, none⟩) g.vals.length c1) := by exact bx.cell 0
  have x1 : W0.cell? ⟨w.heap.size, 1, none⟩ = some (.slice (some ⟨b6, o6, none⟩) g.edges.length c2) := by exact bx.cell 1
  have y0 : W0.cell? ⟨w.heap.size + 1, 0, none⟩ = some (.int .i64 a.start) := by exact by_.cell 0
  have y1 : W0.cell? ⟨w.heap.size + 1, 1, none⟩ = some (.slice A3 a.accept.length c3) := by exact by_.cell 1
  have y2 : W0.cell? ⟨w.heap.size + 1, 2, none⟩ = some (.slice A4 a.accept.length c4) := by exact by_.cell 2
  have z0 : W0.cell? ⟨w.heap.size + 1 + 1, 0, none⟩ = some (.int .i64 sid) := by exact bz.cell 0
  have z1 : W0.cell? ⟨w.heap.size + 1 + 1, 1, none⟩ = some (.bool sinv) := by exact bz.cell 1
  try rw [hs0]
  have l2 := bz.lt
  have l1 := by_.lt
  have l0 := bx.lt
  clear hW0 bx by_ bz hs0
  have q0 := kcell hb0 q0
  have q1 := kcell hb0 q1
  have q2 := kcell hb0 q2
  have q3 := kcell hb0 q3
  have d1 := kcell hb0 d1
  have hbb1 : b1 < W0.heap.size := Nat.lt_of_lt_of_le hb1 hb0.size
  have ne0 := World.new_ne W0 _ x0
  have ne1 := World.new_ne W0 _ q0
  have ne2 := World.new_ne W0 _ z0
  go_cut [12] (fun s12 wx => ∃ eb, s12 = .pointer (some ⟨eb, 0, none⟩) ∧ W0.heap.size ≤ eb ∧ eb < wx.heap.size ∧ wx.cell? ⟨eb, 0, none⟩ = some (.int .i64 eid) ∧ wx.cell? ⟨eb, 1, none⟩ = some (.int .i64 ef) ∧ wx.cell? ⟨eb, 2, none⟩ = some (.int .i64 et) ∧ wx.cell? ⟨eb, 3, none⟩ = some (.int .i64 el) ∧ Below W0.heap.size W0 wx)
  case first =>
    go_region_held3 (fun w' => w'.cell? ⟨w.heap.size, 0, none⟩ = some (.slice (some ⟨b1, o1, none⟩) g.vals.length c1) ∧ w'.cell? ⟨w.heap.size, 1, none⟩ = some (.slice (some ⟨b6, o6, none⟩) g.edges.length c2) ∧ w'.cell? ⟨w.heap.size + 1 + 1, 0, none⟩ = some (.int .i64 sid) ∧ w'.cell? ⟨b6, o6 + ix * 4, none⟩ = some (.int .i64 eid) ∧ w'.cell? ⟨b6, o6 + ix * 4 + 1, none⟩ = some (.int .i64 ef) ∧ w'.cell? ⟨b6, o6 + ix * 4 + 2, none⟩ = some (.int .i64 et) ∧ w'.cell? ⟨b6, o6 + ix * 4 + 3, none⟩ = some (.int .i64 el))
      (first | (with_reducible exact kS7 ne0 ne0 ne2 ne1 ne1 ne1 ne1 (kS7 ne0 ne0 ne2 ne1 ne1 ne1 ne1 (kS7 ne0 ne0 ne2 ne1 ne1 ne1 ne1 (kS7 ne0 ne0 ne2 ne1 ne1 ne1 ne1 (by assumption))))) | (exact ⟨x0, x1, z0, q0, q1, q2, q3⟩) | assumption | (exact kB7 hbE ⟨x0, x1, z0, q0, q1, q2, q3⟩) | (exact kA7 _ ⟨x0, x1, z0, q0, q1, q2, q3⟩) | (exact kA7 _ (kB7 hbE ⟨x0, x1, z0, q0, q1, q2, q3⟩)) | (exact kB7 hbE (kA7 _ ⟨x0, x1, z0, q0, q1, q2, q3⟩)) | (exact kB7 hbE (by assumption)) | (exact kA7 _ (by assumption)) | go_keep)
      (first | (go_at_call 88; refine (HEI.out _ (by first | exact hb0.drew | exact (hb0.drew).alloc (by have := hb0.size; simpa using this) _)).mono ?_; rintro en wE ⟨rfl, hbE⟩; have n0 := World.new_ne wE _ (kcell hbE (by first | exact x0 | exact kcell ((Below.refl _ _).alloc (Nat.le_refl _) _) x0)); have n1 := World.new_ne wE _ (kcell hbE (by first | exact q0 | exact kcell ((Below.refl _ _).alloc (Nat.le_refl _) _) q0)); have n2 := World.new_ne wE _ (kcell hbE (by first | exact z0 | exact kcell ((Below.refl _ _).alloc (Nat.le_refl _) _) z0))); (first | (have NC := nc4 hbE (n := W0.heap.size) rfl; obtain ⟨t0, t1, t2, t3, f0, f1, f2, f3⟩ := NC) | skip))
    all_goals (go_wp2_with fail)
    · go_meet
      exact ⟨_, rfl, hbE.size, by simp, by simp, by simp, by simp, by simp, (below_trans ((Below.refl W0.heap.size W0).drew) hbE).alloc hbE.size _⟩
    · go_meet
      have h9 := hbE.size
      have h8 : W0.heap.size < wE.heap.size := Nat.lt_of_lt_of_le (by simp) h9
      have h7 : Below W0.heap.size W0 wE := below_trans (((Below.refl W0.heap.size W0).alloc (Nat.le_refl _) _).drew) hbE
      exact ⟨_, rfl, Nat.le_refl _, by simpa using h8, by go_simp, by go_simp, by go_simp, by go_simp, (((h7.setCell (Nat.le_refl _) _).setCell (Nat.le_refl _) _).setCell (Nat.le_refl _) _).setCell (Nat.le_refl _) _⟩
  case rest =>
    obtain ⟨eb, rfl, hlo, hhi, e0, e1, e2, e3, hbc⟩ := hcut
    have x0 := kcell hbc x0
    have x1 := kcell hbc x1
    have y0 := kcell hbc y0
    have y1 := kcell hbc y1
    have y2 := kcell hbc y2
    have z0 := kcell hbc z0
    have z1 := kcell hbc z1
    have d1 := kcell hbc d1
    have hbw := below_trans hb0 hbc
    have hsz := hbc.size
    have l0 := Nat.lt_of_lt_of_le l0 hsz
    have l1 := Nat.lt_of_lt_of_le l1 hsz
    have l2 := Nat.lt_of_lt_of_le l2 hsz
    have hbb1 := Nat.lt_of_lt_of_le hbb1 hsz
    clear ne0 ne1 ne2 q0 q1 q2 q3 hb0 hbc
    go_wp2_with fail
    go_loopw [13, 14] (fun mm qq wr => ∃ (q : Nat) (u : World), q ≤ a.accept.length ∧ qq = .int .i64 (q : Int) ∧ mm = .int .i64 (foldS a vx l SI q : Nat) ∧ wr = ext wc u) (fun _ qq _ => a.accept.length - (intOf qq).toNat)
    case atStart => exact ⟨0, wc, Nat.zero_le _, rfl, rfl, ext_self _⟩
    case round =>
      obtain ⟨q, u, hq, rfl, rfl, rfl⟩ := hrel
      by_cases hlq : q < a.accept.length
      · have hqi : (q : Int) < (a.accept.length : Int) := by omega
        cases hb : SI.testBit q with
        | false =>
          have e3' := bit_off (by omega) (by omega) hb
          have HR := Lib.hid (show foldS a vx l SI q = foldS a vx l SI (q + 1) from (foldS_no hb).symm)
          clear hb
          go_wp2_with fail
          go_roundw
          case rel => exact ⟨q + 1, u, by omega, by go_num, by rw [← HR.out], rfl⟩
          case measure => simp [intOf]; omega
        | true =>
          have e3' := bit_on (by omega) (by omega) hb
          have HFS := Lib.hid (foldS_yes (v := vx) (l := l) HAO.out hlq hb)
          have hm0 := foldS_lt HAO.out vx l SI q
          have hcl := cls_lt HAO.out vx q hlq
          have hcl4 := lt12 HAO.out hcl
          clear hb
          generalize foldS a vx l SI q = m0 at *
          have HM0 := Lib.hid hm0
          clear hm0
          go_wp2_with fail
          refine wp_region_ext_lit (by kernel_rfl) (by kernel_rfl) ?_
          repeat (go_big_quiet_step ((go_at_call 89; exact Calls.ext_of (l14Closure_any _ a q vx _ (HAV.out.keep (below_trans hbw (below_trans (ext_below _ _) (ext_below _ _)))) HAO.out hlq (by omega)))))
          refine wpQuiet_nil ?_
          intro _ hw'
          obtain ⟨u2, hw''⟩ := hw'
          subst hw''
          obtain ⟨u3, hu3⟩ := ext_of (below_trans (ext_below wc u) (ext_below (ext wc u) u2))
          rw [hu3]
          clear hu3 u2 u
          go_wp2_with fail
          generalize cls a vx q = C at *
          go_loopw [13, 16] (fun mm rr wr => ∃ (r : Nat) (u : World), r ≤ a.accept.length ∧ rr = .int .i64 (r : Int) ∧ mm = .int .i64 (foldFr a l C m0 r : Nat) ∧ wr = ext wc u) (fun _ rr _ => a.accept.length - (intOf rr).toNat)
          case atStart => exact ⟨0, u3, Nat.zero_le _, rfl, rfl, rfl⟩
          case round =>
            obtain ⟨r, u, hr, rfl, rfl, rfl⟩ := hrel
            by_cases hlr : r < a.accept.length
            · obtain ⟨b, o, b3, o3, c3', rfl, hbb, hrw, -, -, hb3, hmvs⟩ := HAC.out.row r hlr
              have r0 := kcell hbw hrw
              have r1 := kcell hbw (hmvs l (by omega))
              have hws := hbw.size
              have hbb' : b < wc.heap.size := by omega
              have hb3' : b3 < wc.heap.size := by omega
              have hlri : (r : Int) < (a.accept.length : Int) := by omega
              have hlz : (l : Int) < 9 := by omega
              have hft := foldFr_lt HAO.out l C m0 r HM0.out
              have hft4 := lt12 HAO.out hft
              have hmv := mv_lt HAO.out r l
              have HNX := Lib.hid (show foldFr a l C m0 (r + 1) = if C.testBit r = true then aft1 a l (foldFr a l C m0 r) r else foldFr a l C m0 r by by_cases hb : C.testBit r = true; rw [if_pos hb, foldFr_yes hb]; rw [if_neg hb, foldFr_no (by simpa using hb)])
              have HA := Lib.hid (show aft1 a l (foldFr a l C m0 r) r = if 0 ≤ mv a r l then ins (foldFr a l C m0 r) (mv a r l).toNat else foldFr a l C m0 r from rfl)
              generalize foldFr a l C m0 r = m1 at *
              clear hrw hmvs hft
              go_wp2_with fail
              refine wp_region_ext_lit (by kernel_rfl) (by kernel_rfl) ?_
              repeat (go_big_quiet_step ((go_at_call 90; exact Calls.ext_of (HLET.out _))))
              refine wpQuiet_nil ?_
              intro _ hw'
              obtain ⟨u2, hw''⟩ := hw'
              subst hw''
              obtain ⟨u4, hu4⟩ := ext_of (below_trans (ext_below wc u) (ext_below (ext wc u) u2))
              rw [hu4]
              cases hb : C.testBit r with
              | false =>
                have b1f := bit_off (by omega) (by omega) hb
                have HR := Lib.hid (show m1 = foldFr a l C m0 (r + 1) by rw [HNX.out, if_neg (by simp [hb])])
                clear hb
                go_wp2_with fail
                go_roundw
                case rel => exact ⟨r + 1, u4, by omega, by go_num, by rw [← HR.out], rfl⟩
                case measure => simp [intOf]; omega
              | true =>
                have b1t := bit_on (by omega) (by omega) hb
                have HNX := Lib.hid (HNX.out.trans (if_pos hb))
                clear hb
                by_cases h0 : 0 ≤ mv a r l
                · have HR := Lib.hid (show ins m1 (mv a r l).toNat = foldFr a l C m0 (r + 1) by rw [HNX.out, HA.out, if_pos h0])
                  generalize mv a r l = z at *
                  obtain ⟨z, rfl⟩ := Int.eq_ofNat_of_zero_le h0
                  have e1' := shl_bit (s := z) (by omega)
                  have e2' := or_ins (m := m1) (s := z) (by omega) (by omega)
                  go_wp2_with fail
                  go_roundw
                  case rel => exact ⟨r + 1, u4, by omega, by go_num, by rw [← HR.out]; simp, rfl⟩
                  case measure => simp [intOf]; omega
                · have HR := Lib.hid (show m1 = foldFr a l C m0 (r + 1) by rw [HNX.out, HA.out, if_neg h0])
                  have h0' : decide (mv a r l ≥ 0) = false := by simp; omega
                  go_wp2_with fail
                  go_roundw
                  case rel => exact ⟨r + 1, u4, by omega, by go_num, by rw [← HR.out], rfl⟩
                  case measure => simp [intOf]; omega
            · obtain rfl : r = a.accept.length := by omega
              go_wp2_with fail
              go_roundw
              case rel => exact ⟨q + 1, u, by omega, by go_num, by rw [HFS.out], rfl⟩
              case measure => simp [intOf]; omega
      · obtain rfl : q = a.accept.length := by omega
        have hbE := below_trans hbw (ext_below wc u)
        go_wp2_with fail
        refine (HTO.out _).mono ?_
        rintro en w9 ⟨rfl, hb9⟩
        go_wp2_with fail
        go_ret2
        exact ⟨rfl, below_trans hbE hb9⟩

set_option maxHeartbeats 4000000 in
theorem l18Ends_any (vg va : Value) (g : Gr) (a : Au) (x SI : Nat) (w : World) (hgv : GrV 0 w.heap.size w vg g) (hav : AuV 0 w.heap.size w va a) (hgo : grOk g = true) (ha : auOk a = true) (hx : x < g.vals.length) (hSI : SI < 2 ^ a.accept.length) :
    Calls Try.prog 72 #[vg, va, .int .i64 (x : Int), .int .i64 (SI : Int)] w fun en w' => en = .returned (.bool (acc a SI (valAt g x))) ∧ Below w.heap.size w w' := by
  have hav0 := hav
  have hgv0 := hgv
  obtain ⟨A1, n1, c1, A2, n2, c2, rfl⟩ := hgv.shape
  obtain ⟨A3, c3, A4, c4, rfl, hl3, hm3, hl4, hm4, -⟩ := hav.form ha
  have hn12 := (auOk_iff.1 ha).1.2
  have hSI4 := lt12 ha hSI
  have hb0 : Below w.heap.size w ((w.alloc (.cells #[.slice A1 n1 c1, .slice A2 n2 c2] 39)).alloc (.cells #[.int .i64 a.start, .slice A3 a.accept.length c3, .slice A4 a.accept.length c4] 41)) := ((Below.refl _ _).alloc (Nat.le_refl _) _).alloc (by simp) _
  obtain ⟨R, hR⟩ : ∃ R, R = acc a SI (valAt g x) := ⟨_, rfl⟩
  rw [← hR]
  have HR := Lib.hid (show R = (mem a.accept.length SI).any (accC a (valAt g x)) by rw [hR, acc, mem12 ha hSI])
  have HGO := Lib.hid (grOk_iff.1 hgo)
  have HAO := Lib.hid ha
  have HAV := Lib.hid hav0
  have HGV := Lib.hid hgv0
  clear hgv hav ha hgo hav0 hgv0 hSI hR
  go_enter Try.func72, Try.ntmps72
  go_wp2_with fail
  obtain ⟨W0, hW0⟩ : ∃ W0, W0 = ((w.alloc (.cells #[.slice A1 n1 c1, .slice A2 n2 c2] 39)).alloc (.cells #[.int .i64 a.start, .slice A3 a.accept.length c3, .slice A4 a.accept.length c4] 41)) := ⟨_, rfl⟩
  rw [← hW0] at hb0 ⊢
  have x0 : W0.cell? ⟨w.heap.size, 0, none⟩ = some (.slice A1 n1 c1) := by rw [hW0]; simp
  have x1 : W0.cell? ⟨w.heap.size, 1, none⟩ = some (.slice A2 n2 c2) := by rw [hW0]; simp
  have y0 : W0.cell? ⟨w.heap.size + 1, 0, none⟩ = some (.int .i64 a.start) := by rw [hW0]; simp
  have y1 : W0.cell? ⟨w.heap.size + 1, 1, none⟩ = some (.slice A3 a.accept.length c3) := by rw [hW0]; simp
  have y2 : W0.cell? ⟨w.heap.size + 1, 2, none⟩ = some (.slice A4 a.accept.length c4) := by rw [hW0]; simp
  have hs0 : w.heap.size + 1 + 1 = W0.heap.size := by rw [hW0]; simp
  try rw [hs0]
  have l0 : w.heap.size + 1 < W0.heap.size := by omega
  have l00 : w.heap.size < W0.heap.size := by omega
  clear hW0 hs0
  go_loopw [9] (fun qq wr => ∃ (q : Nat) (u : World), q ≤ a.accept.length ∧ qq = .int .i64 (q : Int) ∧ (mem q SI).any (accC a (valAt g x)) = false ∧ wr = ext W0 u) (fun qq _ => a.accept.length - (intOf qq).toNat)
  case atStart => exact ⟨0, W0, Nat.zero_le _, rfl, rfl, ext_self _⟩
  case round =>
    obtain ⟨q, u, hq, rfl, hno, rfl⟩ := hrel
    have HNO := Lib.hid hno
    clear hno
    have hbE := below_trans hb0 (ext_below W0 u)
    by_cases hlq : q < a.accept.length
    · have hqi : (q : Int) < (a.accept.length : Int) := by omega
      cases hb : SI.testBit q with
      | false =>
        have e3' := bit_off (by omega) (by omega) hb
        have HM := Lib.hid (mem_no hb)
        clear hb
        go_wp2_with fail
        go_roundw
        case rel => exact ⟨q + 1, u, by omega, by go_num, by rw [HM.out]; exact HNO.out, rfl⟩
        case measure => simp [intOf]; omega
      | true =>
        have e3' := bit_on (by omega) (by omega) hb
        have HM := Lib.hid (mem_yes hb)
        have HB := Lib.hid hb
        have hacc := l14Accepts_any _ _ g a x q (ext W0 u) (HGV.out.keep hbE) (HAV.out.keep hbE) HGO.out HAO.out hx hlq
        have HACC := Lib.hid hacc
        clear hb hacc
        cases hc : accC a (valAt g x) q with
        | true =>
          rw [hc] at HACC
          have hfin : R = true := by rw [HR.out]; exact List.any_eq_true.2 ⟨q, mem_mem.2 ⟨hlq, HB.out⟩, hc⟩
          subst hfin
          clear HR hc
          go_wp2_with fail
          refine HACC.out.mono ?_
          rintro en w1 ⟨rfl, hb1⟩
          go_wp2_with fail
          go_ret
          exact ⟨rfl, below_trans hbE hb1⟩
        | false =>
          rw [hc] at HACC
          have HC := Lib.hid hc
          clear hc
          go_wp2_with fail
          refine HACC.out.mono ?_
          rintro en w1 ⟨rfl, hb1⟩
          obtain ⟨u4, hu4⟩ := ext_of (below_trans (ext_below W0 u) hb1)
          subst hu4
          go_wp2_with fail
          go_roundw
          case rel => exact ⟨q + 1, u4, by omega, by go_num, by rw [HM.out, List.any_append, HNO.out]; simp only [List.any_cons, List.any_nil, Bool.or_false, Bool.false_or]; exact HC.out, rfl⟩
          case measure => simp [intOf]; omega
    · obtain rfl : q = a.accept.length := by omega
      have hfin : R = false := by rw [HR.out]; exact HNO.out
      subst hfin
      clear HR
      go_wp2_with fail
      go_ret
      exact ⟨rfl, hbE⟩

set_option maxHeartbeats 2000000 in
theorem specWalkEnd (v1 v2 : Value) (g : Gr) (k : Wk) (w : World) (hv1 : GrV 0 w.heap.size w v1 g) (hv2 : WkV 0 w.heap.size w v2 k) :
    Calls Try.prog 81 #[v1, v2] w fun en w' => en = .returned (.int .i64 (walkEnd g k)) ∧ Below w.heap.size w w' := by
  have hv0 := hv1
  have hv3 := hv2
  obtain ⟨A1, n1, c1, A2, n2, c2, rfl⟩ := hv1.shape
  obtain ⟨A3, n3, c3, rfl⟩ := hv2.shape
  clear hv1 hv2
  have hb0 : Below w.heap.size w ((w.alloc (.cells #[.slice A1 n1 c1, .slice A2 n2 c2] 39)).alloc (.cells #[.int .i64 k.1, .slice A3 n3 c3] 34)) := ((Below.refl _ _).alloc (Nat.le_refl _) _).alloc (by simp) _
  have hc := specNodes _ _ g k _ (hv0.keep hb0) (hv3.keep hb0)
  have HC := Lib.hid hc
  clear hc
  obtain ⟨R, hR⟩ : ∃ R, R = walkEnd g k := ⟨_, rfl⟩
  rw [← hR]
  cases hw : walkOk g k with
  | false =>
    rw [hw] at HC
    have hfin : R = -1 := by rw [hR, walkEnd, hw]; rfl
    subst hfin
    clear hR hw
    go_enter Try.func81, Try.ntmps81
    go_wp2_with fail
    refine HC.out.mono ?_
    rintro e w1 ⟨v, rfl, ho, hb1⟩
    obtain ⟨A6, c6, rfl, -, -, -⟩ := ho.form cI_len
    go_wp2_with fail
    go_ret
    exact ⟨rfl, below_trans hb0 hb1⟩
  | true =>
    rw [hw] at HC
    have hfin : R = (nodeAt g k k.2.length : Int) := by rw [hR, walkEnd, hw]; rfl
    have HF := Lib.hid hfin
    have HW := Lib.hid hw
    have hl60 := (walkOk_parts hw).2.2.1
    clear hR hw hfin
    go_enter Try.func81, Try.ntmps81
    go_wp2_with fail
    refine HC.out.mono ?_
    rintro e w1 ⟨v, rfl, ho, hb1⟩
    rw [nodesOut_yes HW.out] at ho
    have hr := ho.1
    rw [nodesL_len] at hr
    obtain ⟨gN, cN, rfl, -, hgN, -, -⟩ := own_some hr (by omega)
    have q0 := (World.ownsRow.cellAt hr k.2.length (by omega)).trans (flatI_at (nodeAt_lt HW.out (Nat.le_refl _)).1)
    have m1 : ((k.2.length : Int) + 1) - 1 = (k.2.length : Int) := by omega
    clear hr ho
    go_wp2_with fail
    go_ret
    exact ⟨by rw [HF.out]; rfl, below_trans hb0 hb1⟩

theorem flatN_atS {xs : List Nat} {t : Nat} {x : Nat} (h : xs[t]? = some x) : (xs.flatMap cN)[t]? = some (.int .i64 (x : Int)) := by
  have := flat_at cN_len h 0 _ rfl
  simpa using this
set_option maxHeartbeats 8000000 in
set_option maxRecDepth 100000 in
theorem l18Along_any (vg va vk : Value) (g : Gr) (a : Au) (k : Wk) (w : World) (hgv : GrV 0 w.heap.size w vg g) (hav : AuV 0 w.heap.size w va a) (hkv : WkV 0 w.heap.size w vk k) (hw : walkOk g k = true) (ha : auOk a = true) :
    Calls Try.prog 105 #[vg, va, vk] w fun e w' => ∃ v1, e = .returned v1 ∧ Own w.heap.size w'.heap.size w' 3 cN 1 v1 (setsL g a k (k.2.length + 1)) ∧ Below w.heap.size w w' := by
  have hgv0 := hgv
  have hav0 := hav
  obtain ⟨A1, n1, c1, A2, n2, c2, rfl⟩ := hgv.shape
  obtain ⟨A3, n3, c3, A4, n4, c4, rfl⟩ := hav.shape
  obtain ⟨A5, c5, rfl, hl5, hm5, hC5⟩ := hkv.form
  obtain ⟨⟨hn1, hn12⟩, ⟨hst0, hst1⟩, -, -⟩ := auOk_iff.1 ha
  obtain ⟨s, hs⟩ : ∃ s : Nat, a.start = (s : Int) := ⟨a.start.toNat, by omega⟩
  obtain ⟨RS, hRS⟩ : ∃ RS, RS = setsL g a k (k.2.length + 1) := ⟨_, rfl⟩
  rw [← hRS]
  have hk0 := nodeAt_lt hw (Nat.zero_le _)
  have hk1 : k.1 = (nodeAt g k 0 : Int) := by have h := hk0.1; injection h
  have HAV := Lib.hid hav0
  rw [hs] at HAV ⊢
  have hb0 : Below w.heap.size w (((w.alloc (.cells #[.slice A1 n1 c1, .slice A2 n2 c2] 39)).alloc (.cells #[.int .i64 (s : Int), .slice A3 n3 c3, .slice A4 n4 c4] 41)).alloc (.cells #[.int .i64 k.1, .slice A5 k.2.length c5] 34)) := (((Below.refl _ _).alloc (Nat.le_refl _) _).alloc (by simp) _).alloc (by simp; omega) _
  have hsn : s < a.accept.length := by omega
  have e1 := shl_bit (s := s) (by omega)
  have hS1 : setsL g a k (0 + 1) = [bit s] := by simp [setsL, setAt, hs]
  have hg3 := (walkOk_parts hw).2.2.1
  have HS1 := Lib.hid hS1
  have HK1 := Lib.hid hk1
  have HRS := Lib.hid hRS
  have HGV := Lib.hid hgv0
  have HC5 := Lib.hid hC5
  have HW := Lib.hid hw
  have HA := Lib.hid ha
  have HGO := Lib.hid (walkOk_parts hw).1
  clear hgv hav hkv hgv0 hav0 hC5 hRS hS1 hk1 hk0 hs hst0 hst1 hw ha
  go_enter Try.func105, Try.ntmps105
  go_wp2_with fail
  obtain ⟨W0, hW0⟩ : ∃ W0, W0 = (((w.alloc (.cells #[.slice A1 n1 c1, .slice A2 n2 c2] 39)).alloc (.cells #[.int .i64 (s : Int), .slice A3 n3 c3, .slice A4 n4 c4] 41)).alloc (.cells #[.int .i64 k.1, .slice A5 k.2.length c5] 34)) := ⟨_, rfl⟩
  rw [← hW0] at hb0 ⊢
  have bx : Blk W0 w.heap.size 39 #[.slice A1 n1 c1, .slice A2 n2 c2] := by rw [hW0]; exact ((Blk.new w _ _ w.heap.size rfl).alloc _).alloc _
  have by_ : Blk W0 (w.heap.size + 1) 41 #[.int .i64 (s : Int), .slice A3 n3 c3, .slice A4 n4 c4] := by rw [hW0]; exact (Blk.new (w.alloc _) _ _ (w.heap.size + 1) (by simp)).alloc _
  have bz : Blk W0 (w.heap.size + 1 + 1) 34 #[.int .i64 k.1, .slice A5 k.2.length c5] := by rw [hW0]; exact Blk.new ((w.alloc _).alloc _) _ _ (w.heap.size + 1 + 1) (by simp)
  have hs0 : w.heap.size + 1 + 1 + 1 = W0.heap.size := by rw [hW0]; simp
  have x0 : W0.cell? ⟨w.heap.size, 0, none⟩ = some (.slice A1 n1 c1) := by exact bx.cell 0
  have x1 : W0.cell? ⟨w.heap.size, 1, none⟩ = some (.slice A2 n2 c2) := by exact bx.cell 1
  have y0 : W0.cell? ⟨w.heap.size + 1, 0, none⟩ = some (.int .i64 (s : Int)) := by exact by_.cell 0
  have y1 : W0.cell? ⟨w.heap.size + 1, 1, none⟩ = some (.slice A3 n3 c3) := by exact by_.cell 1
  have y2 : W0.cell? ⟨w.heap.size + 1, 2, none⟩ = some (.slice A4 n4 c4) := by exact by_.cell 2
  have z0 : W0.cell? ⟨w.heap.size + 1 + 1, 0, none⟩ = some (.int .i64 k.1) := by exact bz.cell 0
  have z1 : W0.cell? ⟨w.heap.size + 1 + 1, 1, none⟩ = some (.slice A5 k.2.length c5) := by exact bz.cell 1
  try rw [hs0]
  have l2 := bz.lt
  have l1 := by_.lt
  have l0 := bx.lt
  clear hW0 bx by_ bz hs0
  go_loopw [7, 8, 9] (fun ss nn ii wr => ∃ i : Nat, i ≤ k.2.length ∧ ii = .int .i64 (i : Int) ∧ nn = .int .i64 (nodeAt g k i : Int) ∧ wr.ownsRow W0.heap.size 3 1 ss (setsL g a k (i + 1)).length ((setsL g a k (i + 1)).flatMap cN) ∧ Below W0.heap.size W0 wr) (fun _ _ ii _ => k.2.length - (intOf ii).toNat)
  case atStart => exact ⟨0, Nat.zero_le _, rfl, by rw [HK1.out], by rw [HS1.out]; exact World.ownsRow_lit W0 #[.int .i64 (bit s : Int)] 1 (Nat.le_refl _) (by decide) rfl, (Below.refl _ _).alloc (Nat.le_refl _) _⟩
  case round =>
    clear HS1 HK1 e1
    obtain ⟨i, hi, rfl, rfl, hrow, hbel⟩ := hrel
    have hbw2 := below_trans hb0 hbel
    have x0 := kcell hbel x0
    have x1 := kcell hbel x1
    have y0 := kcell hbel y0
    have y1 := kcell hbel y1
    have y2 := kcell hbel y2
    have z0 := kcell hbel z0
    have z1 := kcell hbel z1
    have hsz := hbel.size
    have l0 := Nat.lt_of_lt_of_le l0 hsz
    have l1 := Nat.lt_of_lt_of_le l1 hsz
    have l2 := Nat.lt_of_lt_of_le l2 hsz
    have HROW := Lib.hid hrow
    have HBW2 := Lib.hid hbw2
    clear hrow
    by_cases hlt : i < k.2.length
    · obtain ⟨st, e, hst, he, ht, hl, -, hl6⟩ := walk_step HW.out hlt
      obtain ⟨b5, o5, rfl, hb5, p0, p1⟩ := HC5.out.st hst
      have p0 := kcell hbw2 p0
      have p1 := kcell hbw2 p1
      have hb5w := Nat.lt_of_lt_of_le hb5 hbw2.size
      obtain ⟨hna, hnl⟩ := nodeAt_lt HW.out hi
      have hrow := HROW.out
      rw [setsL_len] at hrow
      obtain ⟨gS, cS, rfl, hgS, hgS2, -, -⟩ := own_some hrow (by omega)
      have s0 := (World.ownsRow.cellAt hrow i (by omega)).trans (flatN_atS (setsL_at (g := g) (a := a) (k := k) (show i < i + 1 by omega)))
      have HSA := Lib.hid (show setAt g a k (i + 1) = aft a (setAt g a k i) (valAt g (nodeAt g k i)) (letAt g k i) from rfl)
      have HSN := Lib.hid (setsL_snoc g a k (i + 1))
      have hsla := setAt_lt HA.out k i (g := g)
      have hsla4 := lt12 HA.out hsla
      have hsal := setsL_len g a k (i + 1)
      obtain ⟨sid, sinv⟩ := st
      simp only at p0 p1
      have HNX := Lib.hid (fun (W : World) (hW : Below w.heap.size w W) => by
        have h := l18Next_any _ _ g a (nodeAt g k i) (setAt g a k i) (sid, sinv) e (letAt g k i) W (HGV.out.keep hW) (HAV.out.keep hW) (grOk_iff.2 HGO.out) HA.out hnl hsla he hl
        rw [ht, ← HSA.out] at h
        exact h)
      generalize setAt g a k (i + 1) = SJ at *
      generalize setAt g a k i = SI at *
      obtain ⟨NJ, hNJ⟩ : ∃ NJ, NJ = nodeAt g k (i + 1) := ⟨_, rfl⟩
      have HNJ := Lib.hid hNJ
      rw [← hNJ] at HNX
      clear hNJ
      generalize nodeAt g k i = NI at *
      generalize setsL g a k (i + 1) = SX at *
      have hki : (i : Int) < (k.2.length : Int) := by omega
      have hii1 : (i : Int) < (i : Int) + 1 := by omega
      clear hst he ht hl hna hrow hsla
      go_wp2_with fail
      refine wp_region_ext_lit (by kernel_rfl) (by kernel_rfl) ?_
      repeat (go_big_quiet_step ((go_at_call 67; exact Calls.ext_of (HNX.out _ (below_trans HBW2.out (ext_below _ _))))))
      refine wpQuiet_nil ?_
      intro _ hw'
      obtain ⟨u2, hw''⟩ := hw'
      subst hw''
      have hbu := ext_below wr u2
      have HR2 := Lib.hid (ownsRow_below HROW.out hbu (Nat.le_refl _))
      have hz2 : W0.heap.size ≤ (ext wr u2).heap.size := Nat.le_trans hsz hbu.size
      have hbel2 := hbel.trans (hbu.mono hsz)
      rw [hsal] at HR2
      generalize ext wr u2 = wx at *
      go_wp2_with (at_builtin; (refine wpList_append1 cN elInt rfl _ _ rfl W0.heap.size _ SX SJ _ 1 _ (by rfl) (by rw [hsal]; exact HR2.out) (by rfl) rfl rfl rfl (cN_one _) (by omega) (by omega) (by omega) ?_); intro v' w4 hrow' hb4 _ _)
      go_roundw
      case rel => exact ⟨i + 1, by omega, by go_num, by rw [HNJ.out], by rw [HSN.out]; exact hrow', hbel2.trans hb4⟩
      case measure => simp [intOf]; omega
    · obtain rfl : i = k.2.length := by omega
      have hrow := HROW.out
      rw [setsL_len] at hrow
      obtain ⟨gS, cS, rfl, hgS, hgS2, -, -⟩ := own_some hrow (by omega)
      have hoS := Own.of_row (xs := setsL g a k (k.2.length + 1)) (ownsRow_mono (b := w.heap.size) HROW.out hb0.size) (by rw [setsL_len]) rfl
      rw [← HRS.out] at hoS
      have HOS := Lib.hid hoS
      clear hrow hoS
      go_wp2_with fail
      go_ret
      exact ⟨_, rfl, HOS.out, HBW2.out⟩

set_option maxHeartbeats 4000000 in
set_option maxRecDepth 100000 in
theorem specMatchesWalk (vg va vk : Value) (g : Gr) (a : Au) (k : Wk) (w : World) (hgv : GrV 0 w.heap.size w vg g) (hav : AuV 0 w.heap.size w va a) (hkv : WkV 0 w.heap.size w vk k) :
    Calls Try.prog 80 #[vg, va, vk] w fun e w' => e = .returned (.bool (matchB g a k)) ∧ Below w.heap.size w w' := by
  have hgv0 := hgv
  have hav0 := hav
  have hkv0 := hkv
  obtain ⟨A1, n1, c1, A2, n2, c2, rfl⟩ := hgv.shape
  obtain ⟨A3, n3, c3, A4, n4, c4, rfl⟩ := hav.shape
  obtain ⟨A5, n5, c5, rfl⟩ := hkv.shape
  have hb0 : Below w.heap.size w (((w.alloc (.cells #[.slice A1 n1 c1, .slice A2 n2 c2] 39)).alloc (.cells #[.int .i64 a.start, .slice A3 n3 c3, .slice A4 n4 c4] 41)).alloc (.cells #[.int .i64 k.1, .slice A5 n5 c5] 34)) := (((Below.refl _ _).alloc (Nat.le_refl _) _).alloc (by simp) _).alloc (by simp; omega) _
  obtain ⟨R, hR⟩ : ∃ R, R = matchB g a k := ⟨_, rfl⟩
  rw [← hR]
  have HR := Lib.hid hR
  have HGV := Lib.hid hgv0
  have HAV := Lib.hid hav0
  have HKV := Lib.hid hkv0
  clear hgv hav hkv hgv0 hav0 hkv0 hR
  go_enter Try.func80, Try.ntmps80
  go_wp2_with fail
  obtain ⟨W0, hW0⟩ : ∃ W0, W0 = (((w.alloc (.cells #[.slice A1 n1 c1, .slice A2 n2 c2] 39)).alloc (.cells #[.int .i64 a.start, .slice A3 n3 c3, .slice A4 n4 c4] 41)).alloc (.cells #[.int .i64 k.1, .slice A5 n5 c5] 34)) := ⟨_, rfl⟩
  rw [← hW0] at hb0 ⊢
  have bx : Blk W0 w.heap.size 39 #[.slice A1 n1 c1, .slice A2 n2 c2] := by rw [hW0]; exact ((Blk.new w _ _ w.heap.size rfl).alloc _).alloc _
  have by_ : Blk W0 (w.heap.size + 1) 41 #[.int .i64 a.start, .slice A3 n3 c3, .slice A4 n4 c4] := by rw [hW0]; exact (Blk.new (w.alloc _) _ _ (w.heap.size + 1) (by simp)).alloc _
  have bz : Blk W0 (w.heap.size + 1 + 1) 34 #[.int .i64 k.1, .slice A5 n5 c5] := by rw [hW0]; exact Blk.new ((w.alloc _).alloc _) _ _ (w.heap.size + 1 + 1) (by simp)
  have x0 : W0.cell? ⟨w.heap.size, 0, none⟩ = some (.slice A1 n1 c1) := by exact bx.cell 0
  have x1 : W0.cell? ⟨w.heap.size, 1, none⟩ = some (.slice A2 n2 c2) := by exact bx.cell 1
  have y0 : W0.cell? ⟨w.heap.size + 1, 0, none⟩ = some (.int .i64 a.start) := by exact by_.cell 0
  have y1 : W0.cell? ⟨w.heap.size + 1, 1, none⟩ = some (.slice A3 n3 c3) := by exact by_.cell 1
  have y2 : W0.cell? ⟨w.heap.size + 1, 2, none⟩ = some (.slice A4 n4 c4) := by exact by_.cell 2
  have z0 : W0.cell? ⟨w.heap.size + 1 + 1, 0, none⟩ = some (.int .i64 k.1) := by exact bz.cell 0
  have z1 : W0.cell? ⟨w.heap.size + 1 + 1, 1, none⟩ = some (.slice A5 n5 c5) := by exact bz.cell 1
  have l2 := bz.lt
  have l1 := by_.lt
  have l0 := bx.lt
  clear hW0 bx by_ bz
  have hiw := specIsWalk _ _ g k W0 (HGV.out.keep hb0) (HKV.out.keep hb0)
  have HIW := Lib.hid hiw
  clear hiw
  cases hw : walkOk g k with
  | false =>
    rw [hw] at HIW
    have hfin : R = false := by rw [HR.out, matchB, hw]; rfl
    subst hfin
    clear HR hw
    refine HIW.out.mono ?_
    rintro e w1 ⟨rfl, hb1⟩
    go_wp2_with fail
    go_ret
    exact ⟨rfl, below_trans hb0 hb1⟩
  | true =>
    rw [hw] at HIW
    refine HIW.out.mono ?_
    rintro e w1 ⟨rfl, hb1⟩
    have hb2 := below_trans hb0 hb1
    have x0 := kcell hb1 x0
    have x1 := kcell hb1 x1
    have y0 := kcell hb1 y0
    have y1 := kcell hb1 y1
    have y2 := kcell hb1 y2
    have z0 := kcell hb1 z0
    have z1 := kcell hb1 z1
    have hs1 := hb1.size
    have l0 := Nat.lt_of_lt_of_le l0 hs1
    have l1 := Nat.lt_of_lt_of_le l1 hs1
    have l2 := Nat.lt_of_lt_of_le l2 hs1
    have hva := specValidAutomaton _ a w1 (HAV.out.keep hb2)
    have HVA := Lib.hid hva
    clear hva
    cases ha : auOk a with
    | false =>
      rw [ha] at HVA
      have hfin : R = false := by rw [HR.out, matchB, hw, ha]; rfl
      subst hfin
      clear HR hw ha
      go_wp2_with fail
      refine HVA.out.mono ?_
      rintro e w3 ⟨rfl, hb3⟩
      go_wp2_with fail
      go_ret
      exact ⟨rfl, below_trans hb2 hb3⟩
    | true =>
      rw [ha] at HVA
      have hfin : R = acc a (setAt g a k k.2.length) (valAt g (nodeAt g k k.2.length)) := by rw [HR.out, matchB, hw, ha]; simp
      have hl60 := (walkOk_parts hw).2.2.1
      have hgo := (walkOk_parts hw).1
      obtain ⟨hna, hnl⟩ := nodeAt_lt hw (Nat.le_refl _)
      have hsla := setAt_lt ha k k.2.length (g := g)
      have HLA := Lib.hid (fun (W : World) (hW : Below w.heap.size w W) => l18Along_any _ _ _ g a k W (HGV.out.keep hW) (HAV.out.keep hW) (HKV.out.keep hW) hw ha)
      have HWE := Lib.hid (fun (W : World) (hW : Below w.heap.size w W) => by
        have h := specWalkEnd _ _ g k W (HGV.out.keep hW) (HKV.out.keep hW)
        rw [walkEnd, if_pos hw] at h
        exact h)
      have HLE := Lib.hid (fun (W : World) (hW : Below w.heap.size w W) => l18Ends_any _ _ g a (nodeAt g k k.2.length) (setAt g a k k.2.length) W (HGV.out.keep hW) (HAV.out.keep hW) (grOk_iff.2 hgo) ha hnl hsla)
      rw [← hfin] at HLE
      have hs1 := setsL_at (g := g) (a := a) (k := k) (show k.2.length < k.2.length + 1 by omega)
      have HS1 := Lib.hid hs1
      clear HR hfin hw ha hna hnl hsla hgo hs1
      go_wp2_with fail
      refine HVA.out.mono ?_
      rintro e w3 ⟨rfl, hb3⟩
      have hb4 := below_trans hb2 hb3
      have x0 := kcell hb3 x0
      have x1 := kcell hb3 x1
      have y0 := kcell hb3 y0
      have y1 := kcell hb3 y1
      have y2 := kcell hb3 y2
      have z0 := kcell hb3 z0
      have z1 := kcell hb3 z1
      have hs3 := hb3.size
      have l0 := Nat.lt_of_lt_of_le l0 hs3
      have l1 := Nat.lt_of_lt_of_le l1 hs3
      have l2 := Nat.lt_of_lt_of_le l2 hs3
      go_wp2_with fail
      refine (HLA.out _ hb4).mono ?_
      rintro e w5 ⟨v1, rfl, ho1, hb5⟩
      have HB := Lib.hid (below_trans hb4 hb5)
      have x0 := kcell hb5 x0
      have x1 := kcell hb5 x1
      have y0 := kcell hb5 y0
      have y1 := kcell hb5 y1
      have y2 := kcell hb5 y2
      have z0 := kcell hb5 z0
      have z1 := kcell hb5 z1
      have hs5 := hb5.size
      have l0 := Nat.lt_of_lt_of_le l0 hs5
      have l1 := Nat.lt_of_lt_of_le l1 hs5
      have l2 := Nat.lt_of_lt_of_le l2 hs5
      have r1 := ho1.1
      rw [setsL_len] at r1
      obtain ⟨gS, cS, rfl, -, hgS, -, -⟩ := own_some r1 (by omega)
      have s0 := (World.ownsRow.cellAt r1 k.2.length (by omega)).trans (flatN_atS HS1.out)
      have m1 : ((k.2.length : Int) + 1) - 1 = (k.2.length : Int) := by omega
      generalize setAt g a k k.2.length = SI at *
      generalize nodeAt g k k.2.length = NI at *
      clear r1 ho1 hb0 hb1 hb2 hb3 hb4 hb5
      go_wp2_with fail
      refine wp_region_ext_lit (by kernel_rfl) (by kernel_rfl) ?_
      repeat (go_big_quiet_step ((first | (go_at_call 81; exact Calls.ext_of (HWE.out _ (below_trans HB.out (ext_below _ _)))) | (go_at_call 72; exact Calls.ext_of (HLE.out _ (below_trans HB.out (ext_below _ _)))))))
      refine wpQuiet_nil ?_
      intro _ hw'
      obtain ⟨u2, hw''⟩ := hw'
      subst hw''
      go_wp2_with fail
      go_ret
      exact ⟨rfl, below_trans HB.out (ext_below _ _)⟩

theorem isWit_spec (g : Gr) (a : Au) (x y : Int) (k : Wk) : isWit g a x y k = ((matchB g a k && k.1 == x) && walkEnd g k == y) := by
  unfold isWit
  cases matchB g a k <;> cases (k.1 == x) <;> simp
set_option maxHeartbeats 4000000 in
theorem specIsWitness (vg va vk : Value) (g : Gr) (a : Au) (x y : Int) (k : Wk) (w : World) (hgv : GrV 0 w.heap.size w vg g) (hav : AuV 0 w.heap.size w va a) (hkv : WkV 0 w.heap.size w vk k) :
    Calls Try.prog 61 #[vg, va, .int .i64 x, .int .i64 y, vk] w fun e w' => e = .returned (.bool (isWit g a x y k)) ∧ Below w.heap.size w w' := by
  have hgv0 := hgv
  have hav0 := hav
  have hkv0 := hkv
  obtain ⟨A1, n1, c1, A2, n2, c2, rfl⟩ := hgv.shape
  obtain ⟨A3, n3, c3, A4, n4, c4, rfl⟩ := hav.shape
  obtain ⟨A5, n5, c5, rfl⟩ := hkv.shape
  have hb0 : Below w.heap.size w (((w.alloc (.cells #[.slice A1 n1 c1, .slice A2 n2 c2] 39)).alloc (.cells #[.int .i64 a.start, .slice A3 n3 c3, .slice A4 n4 c4] 41)).alloc (.cells #[.int .i64 k.1, .slice A5 n5 c5] 34)) := (((Below.refl _ _).alloc (Nat.le_refl _) _).alloc (by simp) _).alloc (by simp; omega) _
  obtain ⟨R, hR⟩ : ∃ R, R = isWit g a x y k := ⟨_, rfl⟩
  rw [← hR]
  have HR := Lib.hid (hR.trans (isWit_spec g a x y k))
  have HGV := Lib.hid hgv0
  have HAV := Lib.hid hav0
  have HKV := Lib.hid hkv0
  clear hgv hav hkv hgv0 hav0 hkv0 hR
  have HMW := Lib.hid (fun (W : World) (hW : Below w.heap.size w W) => specMatchesWalk _ _ _ g a k W (HGV.out.keep hW) (HAV.out.keep hW) (HKV.out.keep hW))
  have HWE := Lib.hid (fun (W : World) (hW : Below w.heap.size w W) => specWalkEnd _ _ g k W (HGV.out.keep hW) (HKV.out.keep hW))
  go_enter Try.func61, Try.ntmps61
  generalize walkEnd g k = we at HR HWE
  go_wp2_with fail
  obtain ⟨W0, hW0⟩ : ∃ W0, W0 = (((w.alloc (.cells #[.slice A1 n1 c1, .slice A2 n2 c2] 39)).alloc (.cells #[.int .i64 a.start, .slice A3 n3 c3, .slice A4 n4 c4] 41)).alloc (.cells #[.int .i64 k.1, .slice A5 n5 c5] 34)) := ⟨_, rfl⟩
  rw [← hW0] at hb0 ⊢
  have bx : Blk W0 w.heap.size 39 #[.slice A1 n1 c1, .slice A2 n2 c2] := by rw [hW0]; exact ((Blk.new w _ _ w.heap.size rfl).alloc _).alloc _
  have by_ : Blk W0 (w.heap.size + 1) 41 #[.int .i64 a.start, .slice A3 n3 c3, .slice A4 n4 c4] := by rw [hW0]; exact (Blk.new (w.alloc _) _ _ (w.heap.size + 1) (by simp)).alloc _
  have bz : Blk W0 (w.heap.size + 1 + 1) 34 #[.int .i64 k.1, .slice A5 n5 c5] := by rw [hW0]; exact Blk.new ((w.alloc _).alloc _) _ _ (w.heap.size + 1 + 1) (by simp)
  have x0 : W0.cell? ⟨w.heap.size, 0, none⟩ = some (.slice A1 n1 c1) := by exact bx.cell 0
  have x1 : W0.cell? ⟨w.heap.size, 1, none⟩ = some (.slice A2 n2 c2) := by exact bx.cell 1
  have y0 : W0.cell? ⟨w.heap.size + 1, 0, none⟩ = some (.int .i64 a.start) := by exact by_.cell 0
  have y1 : W0.cell? ⟨w.heap.size + 1, 1, none⟩ = some (.slice A3 n3 c3) := by exact by_.cell 1
  have y2 : W0.cell? ⟨w.heap.size + 1, 2, none⟩ = some (.slice A4 n4 c4) := by exact by_.cell 2
  have z0 : W0.cell? ⟨w.heap.size + 1 + 1, 0, none⟩ = some (.int .i64 k.1) := by exact bz.cell 0
  have z1 : W0.cell? ⟨w.heap.size + 1 + 1, 1, none⟩ = some (.slice A5 n5 c5) := by exact bz.cell 1
  clear hW0 bx by_ bz
  refine (HMW.out W0 hb0).mono ?_
  rintro e w1 ⟨rfl, hb1⟩
  have hb2 := below_trans hb0 hb1
  have x0 := kcell hb1 x0
  have x1 := kcell hb1 x1
  have y0 := kcell hb1 y0
  have y1 := kcell hb1 y1
  have y2 := kcell hb1 y2
  have z0 := kcell hb1 z0
  have z1 := kcell hb1 z1
  cases h0 : matchB g a k with
  | false =>
    have hfin : R = false := by rw [HR.out, h0]; rfl
    subst hfin
    clear HR
    go_wp2_with fail
    go_ret
    exact ⟨rfl, hb2⟩
  | true =>
    rw [h0, Bool.true_and] at HR
    cases h1 : (k.1 == x) with
    | false =>
      have hfin : R = false := by rw [HR.out, h1]; rfl
      subst hfin
      clear HR
      go_wp2_with fail
      go_ret
      exact ⟨rfl, hb2⟩
    | true =>
      rw [h1, Bool.true_and] at HR
      cases h2 : (we == y) with
      | false =>
        have hfin : R = false := by rw [HR.out, h2]
        subst hfin
        clear HR
        go_wp2_with fail
        refine (HWE.out w1 hb2).mono ?_
        rintro e w3 ⟨rfl, hb3⟩
        go_wp2_with fail
        go_ret
        exact ⟨rfl, below_trans hb2 hb3⟩
      | true =>
        have hfin : R = true := by rw [HR.out, h2]
        subst hfin
        clear HR
        go_wp2_with fail
        refine (HWE.out w1 hb2).mono ?_
        rintro e w3 ⟨rfl, hb3⟩
        go_wp2_with fail
        go_ret
        exact ⟨rfl, below_trans hb2 hb3⟩
end Go.Proofs.Ytlhpcknpjdeebaa

