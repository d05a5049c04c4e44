/- Parts of the proof, joined into one text: StepsS, AccS, Nest. -/
import Derived.Test.YtmlfkledhnlkeaaPartKBLPOAAF
import Derived.Test.YtmlfkledhnlkeaaPartMIKLFIHB
import Derived.Test.YtmlfkledhnlkeaaPartCAPLBKNO
import Derived.Deep.RegionHeld3
import Derived.Deep.DeepCutAuto
import Derived.Test.YtmlfkledhnlkeaaPartNFLNBJAP
/- The reference's l14Steps: the steps of the product from a vertex. -/
namespace Go.Proofs.Ytmlfkledhnlkeaa
set_option linter.unusedVariables false
set_option linter.unusedSimpArgs false
open Go.ChangeShapes Go.WideShapes Go.ChangeAt Go.RowKit
attribute [local go_sem] ext_cell ext_frozen ext_lt ext_lt1 ext_lt2 ext_lt3 ltn2 ltn3 ltn13 lts1 lts2 lts3

def cPS (p : PS) : List Value := [.int .i64 p.1.1, .bool p.1.2, .int .i64 p.2.1, .int .i64 p.2.2]
theorem cPS_len (p : PS) : (cPS p).length = 4 := rfl
theorem cPS_one (p : PS) : ∀ u ∈ cPS p, u.oneCell' = true := by intro u hu; simp only [cPS, List.mem_cons, List.not_mem_nil, or_false] at hu; rcases hu with rfl | rfl | rfl | rfl <;> rfl
theorem SlI.st {lo hi : Nat} {w : World} {A : Option Addr} {n c : Nat} {xs : List St} (h : SlI lo hi w cSt 2 (.slice A n c) xs) {i : Nat} {x : St} (hx : xs[i]? = some x) :
    ∃ b o, A = some ⟨b, o, none⟩ ∧ lo ≤ b ∧ b < hi ∧ w.cell? ⟨b, o + i * 2, none⟩ = some (.int .i64 x.1) ∧ w.cell? ⟨b, o + i * 2 + 1, none⟩ = some (.bool x.2) := by
  obtain ⟨A', c', hv, _, _, h3⟩ := h
  injection hv with h1 _ _
  subst h1
  obtain ⟨b, o, e, g1, g2, hc⟩ := h3 i x hx
  exact ⟨b, o, e, g1, g2, by simpa using hc 0 _ rfl, hc 1 _ rfl⟩
theorem nc4 {W wE : World} {c0 c1 c2 c3 : Value} {t : TypeId} {n : Nat} (h : Below (W.alloc (.cells #[c0, c1, c2, c3] t)).drew.heap.size (W.alloc (.cells #[c0, c1, c2, c3] t)).drew wE) (hn : W.heap.size = n) :
    wE.cell? ⟨n, 0, none⟩ = some c0 ∧ wE.cell? ⟨n, 1, none⟩ = some c1 ∧ wE.cell? ⟨n, 2, none⟩ = some c2 ∧ wE.cell? ⟨n, 3, none⟩ = some c3 ∧ wE.frozen? ⟨n, 0, none⟩ = false ∧ wE.frozen? ⟨n, 1, none⟩ = false ∧ wE.frozen? ⟨n, 2, none⟩ = false ∧ wE.frozen? ⟨n, 3, none⟩ = false := by
  subst hn
  have g : ∀ i, (W.alloc (.cells #[c0, c1, c2, c3] t)).drew.frozen? ⟨W.heap.size, i, none⟩ = false := fun i => by show (W.alloc (.cells #[c0, c1, c2, c3] t)).frozen? _ = false; rw [frozen?_alloc_cells]; simp [World.frozen?]
  have k0 : (W.alloc (.cells #[c0, c1, c2, c3] t)).drew.cell? ⟨W.heap.size, 0, none⟩ = some c0 := by simp
  have k1 : (W.alloc (.cells #[c0, c1, c2, c3] t)).drew.cell? ⟨W.heap.size, 1, none⟩ = some c1 := by simp
  have k2 : (W.alloc (.cells #[c0, c1, c2, c3] t)).drew.cell? ⟨W.heap.size, 2, none⟩ = some c2 := by simp
  have k3 : (W.alloc (.cells #[c0, c1, c2, c3] t)).drew.cell? ⟨W.heap.size, 3, none⟩ = some c3 := by simp
  exact ⟨kcell h k0, kcell h k1, kcell h k2, kcell h k3, kfb h k0 (g 0), kfb h k1 (g 1), kfb h k2 (g 2), kfb h k3 (g 3)⟩
theorem Only.grown {lo hi : Nat} {a w w' : World} {row : Option Nat} (h : Only lo hi a w) (hg : w.grownBy w' row) (hr : ∀ b, row = some b → (lo ≤ b ∧ b < hi) ∨ a.heap.size ≤ b) : Only lo hi a w' :=
  ⟨hg.os.trans h.os, hg.tape.trans h.tape, hg.output.trans h.output, Nat.le_trans h.size hg.size, fun n hn ho => (hg.block n (Nat.lt_of_lt_of_le hn h.size) (fun e => by have := hr n e.symm; omega)).trans (h.block n hn ho)⟩
theorem elPS : ElemOk Try.prog 159 162 (.agg #[.int .i64 0, .bool false, .int .i64 0, .int .i64 0]) 4 32 := ⟨Try.underlying159, by kernel_rfl, rfl, by omega⟩
set_option maxHeartbeats 8000000 in
set_option maxRecDepth 100000 in
theorem l14Steps_any (vg va : Value) (g : Gr) (a : Au) (x s : Nat) (w : World) (hgv : GrV 0 w.heap.size w vg g) (hav : AuV 0 w.heap.size w va a) (hgo : grOk g = true) (ha : auOk a = true) (hx : x < g.vals.length) (hs : s < a.accept.length) :
    Calls Try.prog 128 #[vg, va, .int .i64 (x : Int), .int .i64 (s : Int)] w fun e w' => ∃ v', e = .returned v' ∧ Own w.heap.size w'.heap.size w' 162 cPS 4 v' (prodSteps g a x s) ∧ Below w.heap.size w w' := by
  have hg := grOk_iff.1 hgo
  have hav0 := hav
  have hgv0 := hgv
  obtain ⟨A1, c1, A2, c2, rfl, hl1, hm1, hl2, hm2, hC1, hC2⟩ := hgv.form
  obtain ⟨A3, c3, A4, c4, rfl, hl3, hm3, hl4, hm4, hAC⟩ := hav.form ha
  have hn5 := hg.n5
  have he12 := hg.e12
  have hn12 := (auOk_iff.1 ha).1.2
  have hxi : g.vals[x]? = some g.vals[x] := List.getElem?_eq_getElem hx
  have hvr := hg.vals _ (List.getElem_mem hx)
  generalize g.vals[x] = vx at hxi hvr
  obtain ⟨vx, rfl⟩ := Int.eq_ofNat_of_zero_le hvr.1
  have hva := valAt_of hxi
  rw [Int.toNat_natCast] at hva
  obtain ⟨b1, o1, rfl, hb1, d1⟩ := hC1.int hxi
  have hcl := cls_lt ha vx s hs
  have hcl4 := lt12 ha hcl
  have HGO := Lib.hid hg
  have HGB := Lib.hid hgo
  have HAO := Lib.hid ha
  have HAV := Lib.hid hav0
  have HGV := Lib.hid hgv0
  have HAC := Lib.hid hAC
  have HC2 := Lib.hid hC2
  have HVA := Lib.hid hva
  have hb0 : Below w.heap.size w ((w.alloc (.cells #[.slice (some ⟨b1, o1, none⟩) g.vals.length c1, .slice A2 g.edges.length c2] 48)).alloc (.cells #[.int .i64 a.start, .slice A3 a.accept.length c3, .slice A4 a.accept.length c4] 50)) := ((Below.refl _ _).alloc (Nat.le_refl _) _).alloc (by simp) _
  have hxx : (x : Int) < (g.vals.length : Int) := by omega
  obtain ⟨R, hR⟩ : ∃ R, R = prodSteps g a x s := ⟨_, rfl⟩
  rw [← hR]
  have HR := Lib.hid hR
  clear hgv hav ha hg hgo hav0 hgv0 hva hxi hC1 hC2 hAC hR
  go_enter Try.func128, Try.ntmps128
  go_wp2_with fail
  obtain ⟨W0, hW0⟩ : ∃ W0, W0 = ((w.alloc (.cells #[.slice (some ⟨b1, o1, none⟩) g.vals.length c1, .slice A2 g.edges.length c2] 48)).alloc (.cells #[.int .i64 a.start, .slice A3 a.accept.length c3, .slice A4 a.accept.length c4] 50)) := ⟨_, rfl⟩
  rw [← hW0] at hb0 ⊢
  have x0 : W0.cell? ⟨w.heap.size, 0, none⟩ = some (.slice (some ⟨b1, o1, none⟩) g.vals.length c1) := by rw [hW0]; simp
  have x1 : W0.cell? ⟨w.heap.size, 1, none⟩ = some (.slice A2 g.edges.length c2) := by rw [hW0]; simp
  have y0 : W0.cell? ⟨w.heap.size + 1, 0, none⟩ = some (.int .i64 a.start) := by rw [hW0]; simp
  have y1 : W0.cell? ⟨w.heap.size + 1, 1, none⟩ = some (.slice A3 a.accept.length c3) := by rw [hW0]; simp
  have y2 : W0.cell? ⟨w.heap.size + 1, 2, none⟩ = some (.slice A4 a.accept.length c4) := by rw [hW0]; simp
  have d1 := kcell hb0 d1
  have hs0 : w.heap.size + 1 + 1 = W0.heap.size := by rw [hW0]; simp
  rw [hs0]
  have l0 : w.heap.size + 1 < W0.heap.size := by omega
  have l00 : w.heap.size < W0.heap.size := by omega
  have hb1W : b1 < W0.heap.size := by omega
  clear hW0 hs0
  have hbL : Below W0.heap.size W0 (W0.alloc (.cells #[] 162)) := (Below.refl _ _).alloc (Nat.le_refl _) _
  refine wp_region_ext_lit (by kernel_rfl) (by kernel_rfl) ?_
  repeat (go_big_quiet_step ((go_at_call 150; exact Calls.ext_of (l14Closure_any _ a s vx _ (HAV.out.keep (below_trans hb0 (below_trans hbL (ext_below _ _)))) HAO.out hs (by omega)))))
  refine wpQuiet_nil ?_
  intro _ hw'
  obtain ⟨u2, hw''⟩ := hw'
  subst hw''
  have hbX := below_trans hbL (ext_below (W0.alloc (.cells #[] 162)) u2)
  have hrow0 := ownsRow_below (World.ownsRow_lit (base := W0.heap.size) (e := 162) (size := 4) W0 #[] 0 (Nat.le_refl _) (by decide) rfl) (ext_below (W0.alloc (.cells #[] 162)) u2) (Nat.le_refl _)
  generalize (ext (W0.alloc (.cells #[] 162)) u2) = WX at hbX hrow0 ⊢
  have HROW0 := Lib.hid hrow0
  have x0 := kcell hbX x0
  have x1 := kcell hbX x1
  clear hrow0 hbL
  go_wp2_with fail
  refine (l4From_any _ g (x : Int) _ (HGV.out.keep (below_trans hb0 hbX)) he12).mono ?_
  rintro e W1 ⟨v1, rfl, ho1, hb2⟩
  obtain ⟨A5, c5, rfl, hl5, hm5, -⟩ := ho1.form cSt_len
  have hoI := ho1.sl cSt_len
  have hlen5 : ((arcsOf g (x : Int)).map (·.1)).length = (arcsOf g (x : Int)).length := by simp
  rw [hlen5] at hl5 hoI ⊢
  have hAL := arcs_len HGO.out (x : Int)
  have hbW1 := below_trans hbX hb2
  have hbw1 := below_trans hb0 hbW1
  have x0 := kcell hb2 x0
  have x1 := kcell hb2 x1
  have y0 := kcell hbW1 y0
  have y1 := kcell hbW1 y1
  have y2 := kcell hbW1 y2
  have hsX := hbX.size
  have hs2 := hb2.size
  have hrow1 := ownsRow_below HROW0.out hb2 (Nat.le_refl _)
  have HROW := Lib.hid hrow1
  have HOI := Lib.hid hoI
  have HBX := Lib.hid hbX
  have hgX : W0.heap.size < WX.heap.size := (HROW0.out.lt _ rfl).2
  have Y1W := Lib.hid y1
  clear hlen5 hbX hb2 hrow1 hoI ho1 HROW0
  go_wp2_with fail
  go_loopw [9, 12] (fun out ii wr => ∃ i : Nat, i ≤ (arcsOf g (x : Int)).length ∧ ii = .int .i64 (i : Int) ∧ wr.ownsRow W0.heap.size 162 4 out (((arcsOf g (x : Int)).take i).flatMap (psA g a x s)).length ((((arcsOf g (x : Int)).take i).flatMap (psA g a x s)).flatMap cPS) ∧
    Only W0.heap.size WX.heap.size W1 wr ∧ (∀ b, out.ownBlock = some b → b < WX.heap.size ∨ W1.heap.size ≤ b)) (fun _ ii _ => (arcsOf g (x : Int)).length - (intOf ii).toNat)
  case atStart => exact ⟨0, Nat.zero_le _, rfl, by simpa using HROW.out, Only.refl _ _ _, fun b hb => by injection hb with hb; subst hb; exact .inl hgX⟩
  case round =>
    clear HROW
    obtain ⟨i, hi, rfl, hrow, hon, hout⟩ := hrel
    have HROW := Lib.hid hrow
    have HOUT := Lib.hid hout
    clear hrow hout
    by_cases hlt : i < (arcsOf g (x : Int)).length
    · have hyi : (arcsOf g (x : Int))[i]? = some (arcsOf g (x : Int))[i] := List.getElem?_eq_getElem hlt
      have hyr := arc_range HGO.out (List.getElem_mem hlt)
      obtain ⟨ix, e, hix, hei, hy1, hy2, -, hem⟩ := arc_edge HGO.out (List.getElem_mem hlt)
      generalize (arcsOf g (x : Int))[i] = y at hyi hyr hix hy1 hy2
      have hli : ((arcsOf g (x : Int)).map (·.1))[i]? = some y.1 := by rw [List.getElem?_map, hyi]; rfl
      obtain ⟨⟨yid, yinv⟩, yl, yt⟩ := y
      simp only at hyr hix hy1 hy2 hli
      obtain ⟨b5, o5, rfl, hlo5, hb5, p0, p1⟩ := HOI.out.st hli
      have P0 := Lib.hid (show W1.cell? ⟨b5, o5 + i * 2, none⟩ = some (.int .i64 yid) from p0)
      have P1 := Lib.hid (show W1.cell? ⟨b5, o5 + i * 2 + 1, none⟩ = some (.bool yinv) from p1)
      have p0 := ocell hon p0 hb5 (.inr hlo5)
      have p1 := ocell hon p1 hb5 (.inr hlo5)
      simp only at p0 p1
      obtain ⟨b6, o6, rfl, hb6, q0, q1, q2, q3⟩ := HC2.out.ed hei
      have q0 := ocell hon (kcell hbw1 q0) (Nat.lt_of_lt_of_le hb6 hbw1.size) (.inl (by have := hb0.size; omega))
      have q1 := ocell hon (kcell hbw1 q1) (Nat.lt_of_lt_of_le hb6 hbw1.size) (.inl (by have := hb0.size; omega))
      have q2 := ocell hon (kcell hbw1 q2) (Nat.lt_of_lt_of_le hb6 hbw1.size) (.inl (by have := hb0.size; omega))
      have q3 := ocell hon (kcell hbw1 q3) (Nat.lt_of_lt_of_le hb6 hbw1.size) (.inl (by have := hb0.size; omega))
      have x0 := ocell hon x0 (by omega) (.inl (by omega))
      have x1 := ocell hon x1 (by omega) (.inl (by omega))
      have y0 := ocell hon y0 (by omega) (.inl (by omega))
      have y1 := ocell hon y1 (by omega) (.inl (by omega))
      have y2 := ocell hon y2 (by omega) (.inl (by omega))
      have hel := HGO.out.edges e hem
      have hixl : ix < g.edges.length := (List.getElem?_eq_some_iff.1 hei).1
      have hixi : (ix : Int) < (g.edges.length : Int) := by omega
      have hii : (i : Int) < ((arcsOf g (x : Int)).length : Int) := by omega
      obtain ⟨eid, ef, et, el⟩ := e
      simp only at q0 q1 q2 q3 hel
      obtain ⟨-, -, -, hl0, hl2e⟩ := hel
      have hbwr : Below w.heap.size w wr := hbw1.trans (hon.below (by have := hb0.size; omega) (by have := hbw1.size; omega))
      have hei2 : ∀ W, Below w.heap.size w W → Calls Try.prog 149 #[.agg #[.slice (some ⟨b1, o1, none⟩) g.vals.length c1, .slice (some ⟨b6, o6, none⟩) g.edges.length c2], .int .i64 yid] W fun e w' => e = .returned (.int .i64 (ix : Int)) ∧ Below W.heap.size W w' := fun W hW => by
        have h := specEdgeIndex _ g yid W (HGV.out.keep hW)
        rwa [hix] at h
      have HEI := Lib.hid hei2
      have HYI := Lib.hid hyi
      have HY1 := Lib.hid hy1
      have HY2 := Lib.hid hy2
      have HLI := Lib.hid hli
      have HBWR := Lib.hid hbwr
      have ne0 := World.new_ne wr _ x0
      have ne1 := World.new_ne wr _ q0
      have ne2 := World.new_ne wr _ p0
      clear hei2 hyi hy1 hy2 hli hix hem hbwr
      go_upto_region 7 with fail
      go_cut [13] (fun s13 wx => ∃ eb, s13 = .pointer (some ⟨eb, 0, none⟩) ∧ wr.heap.size ≤ eb ∧ eb < wx.heap.size ∧ wx.cell? ⟨eb, 0, none⟩ = some (.int .i64 eid) ∧ wx.cell? ⟨eb, 1, none⟩ = some (.int .i64 ef) ∧ wx.cell? ⟨eb, 2, none⟩ = some (.int .i64 et) ∧ wx.cell? ⟨eb, 3, none⟩ = some (.int .i64 el) ∧ Below wr.heap.size wr wx)
      case first =>
        go_region_held3 (fun w' => w'.cell? ⟨w.heap.size, 0, none⟩ = some (.slice (some ⟨b1, o1, none⟩) g.vals.length c1) ∧ w'.cell? ⟨w.heap.size, 1, none⟩ = some (.slice (some ⟨b6, o6, none⟩) g.edges.length c2) ∧ w'.cell? ⟨b5, o5 + i * 2, none⟩ = some (.int .i64 yid) ∧ w'.cell? ⟨b6, o6 + ix * 4, none⟩ = some (.int .i64 eid) ∧ w'.cell? ⟨b6, o6 + ix * 4 + 1, none⟩ = some (.int .i64 ef) ∧ w'.cell? ⟨b6, o6 + ix * 4 + 2, none⟩ = some (.int .i64 et) ∧ w'.cell? ⟨b6, o6 + ix * 4 + 3, none⟩ = some (.int .i64 el))
          (first | (with_reducible exact kS7 ne0 ne0 ne2 ne1 ne1 ne1 ne1 (kS7 ne0 ne0 ne2 ne1 ne1 ne1 ne1 (kS7 ne0 ne0 ne2 ne1 ne1 ne1 ne1 (kS7 ne0 ne0 ne2 ne1 ne1 ne1 ne1 (by assumption))))) | (exact ⟨x0, x1, p0, q0, q1, q2, q3⟩) | assumption | (exact kB7 hbE ⟨x0, x1, p0, q0, q1, q2, q3⟩) | (exact kA7 _ ⟨x0, x1, p0, q0, q1, q2, q3⟩) | (exact kA7 _ (kB7 hbE ⟨x0, x1, p0, q0, q1, q2, q3⟩)) | (exact kB7 hbE (kA7 _ ⟨x0, x1, p0, q0, q1, q2, q3⟩)) | (exact kB7 hbE (by assumption)) | (exact kA7 _ (by assumption)) | go_keep)
          (first | (go_at_call 149; refine (HEI.out _ (by first | exact HBWR.out.drew | exact (HBWR.out.drew).alloc (by have := HBWR.out.size; simpa using this) _)).mono ?_; rintro en wE ⟨rfl, hbE⟩; have n0 := World.new_ne wE _ (kcell hbE (by first | exact x0 | exact kcell ((Below.refl _ _).alloc (Nat.le_refl _) _) x0)); have n1 := World.new_ne wE _ (kcell hbE (by first | exact q0 | exact kcell ((Below.refl _ _).alloc (Nat.le_refl _) _) q0)); have n2 := World.new_ne wE _ (kcell hbE (by first | exact p0 | exact kcell ((Below.refl _ _).alloc (Nat.le_refl _) _) p0))); (first | (have NC := nc4 hbE (n := wr.heap.size) rfl; obtain ⟨t0, t1, t2, t3, f0, f1, f2, f3⟩ := NC) | skip))
        all_goals (go_wp2_with fail)
        · go_meet
          exact ⟨_, rfl, hbE.size, by simp, by simp, by simp, by simp, by simp, (below_trans ((Below.refl wr.heap.size wr).drew) hbE).alloc hbE.size _⟩
        · go_meet
          have h9 := hbE.size
          have h8 : wr.heap.size < wE.heap.size := Nat.lt_of_lt_of_le (by simp) h9
          have h7 : Below wr.heap.size wr wE := below_trans (((Below.refl wr.heap.size wr).alloc (Nat.le_refl _) _).drew) hbE
          exact ⟨_, rfl, Nat.le_refl _, by simpa using h8, by go_simp, by go_simp, by go_simp, by go_simp, (((h7.setCell (Nat.le_refl _) _).setCell (Nat.le_refl _) _).setCell (Nat.le_refl _) _).setCell (Nat.le_refl _) _⟩
      case rest =>
        obtain ⟨eb, rfl, hlo, hhi, e0, e1, e2, e3, hbc⟩ := hcut
        obtain ⟨wo, hwo⟩ : ∃ wo : World, wo = wr := ⟨_, rfl⟩
        have y1 := kcell hbc y1
        have y2 := kcell hbc y2
        have p0 := kcell hbc p0
        have p1 := kcell hbc p1
        have hbw := below_trans HBWR.out hbc
        have hsz := hbc.size
        have hsr := HBWR.out.size
        have hs0 := hb0.size
        have hs1 := hbw1.size
        have hos := hon.size
        have bl5 : b5 < wc.heap.size := by omega
        have bly : w.heap.size + 1 < wc.heap.size := by omega
        have blw : w.heap.size ≤ wc.heap.size := by omega
        obtain ⟨⟨hyl0, hyl5⟩, -, -⟩ := hyr
        obtain ⟨l, rfl⟩ := Int.eq_ofNat_of_zero_le hyl0
        have hl6 : l < 9 := by omega
        have hlz : (l : Int) < 9 := by omega
        have hyl : ((⟨(yid, yinv), (l : Int), yt⟩ : Arc)).2.1.toNat = l := by simp
        have hlet : ∀ W, Calls Try.prog 151 #[.agg #[.int .i64 eid, .int .i64 ef, .int .i64 et, .int .i64 el], .bool yinv] W fun en w' => en = .returned (.int .i64 (l : Int)) ∧ Below W.heap.size W w' := fun W => by
          have h := l14Letter_any (eid, ef, et, el) yinv W hl0 hl2e
          rwa [← HY1.out] at h
        have HLET := Lib.hid hlet
        have HBW := Lib.hid hbw
        have HON := Lib.hid hon
        clear hlet hbw hon hsr hos hyl0 hyl5 hl0 hl2e
        go_wp2_with fail
        go_loopw [14, 15] (fun mm qq w2 => ∃ (q : Nat) (u : World), q ≤ a.accept.length ∧ qq = .int .i64 (q : Int) ∧ mm = .int .i64 (foldTo a l (cls a vx s) q : Nat) ∧ w2 = ext wc u) (fun _ qq _ => a.accept.length - (intOf qq).toNat)
        case atStart => exact ⟨0, wc, Nat.zero_le _, rfl, rfl, ext_self _⟩
        case round =>
          obtain ⟨q, u, hq, rfl, rfl, rfl⟩ := hrel
          by_cases hlq : q < a.accept.length
          · obtain ⟨b, o, b3, o3, c3', rfl, hbb, hrw, -, -, hb3, hmvs⟩ := HAC.out.row q hlq
            have r0 := kcell HBW.out hrw
            have r1 := kcell HBW.out (hmvs l hl6)
            have hbb' : b < wc.heap.size := by omega
            have hb3' : b3 < wc.heap.size := by omega
            have hlqi : (q : Int) < (a.accept.length : Int) := by omega
            have hft := foldTo_lt HAO.out l (cls a vx s) q
            have hft4 := lt12 HAO.out hft
            have hmv := mv_lt HAO.out q l
            have HNX := Lib.hid (show foldTo a l (cls a vx s) (q + 1) = if (cls a vx s).testBit q = true then aft1 a l (foldTo a l (cls a vx s) q) q else foldTo a l (cls a vx s) q by by_cases hb : (cls a vx s).testBit q = true; rw [if_pos hb, foldTo_yes hb]; rw [if_neg hb, foldTo_no (by simpa using hb)])
            have HA := Lib.hid (show aft1 a l (foldTo a l (cls a vx s) q) q = if 0 ≤ mv a q l then ins (foldTo a l (cls a vx s) q) (mv a q l).toNat else foldTo a l (cls a vx s) q from rfl)
            generalize foldTo a l (cls a vx s) q = m0 at *
            clear hrw hmvs hft
            go_wp2_with fail
            refine wp_region_ext_lit (by kernel_rfl) (by kernel_rfl) ?_
            repeat (go_big_quiet_step ((go_at_call 151; exact Calls.ext_of (HLET.out _))))
            refine wpQuiet_nil ?_
            intro _ hw'
            obtain ⟨u2, hw''⟩ := hw'
            subst hw''
            obtain ⟨u3, hu3⟩ := ext_of (below_trans (ext_below wc u) (ext_below (ext wc u) u2))
            rw [hu3]
            cases hb : (cls a vx s).testBit q with
            | false =>
              have b1f := bit_off (by omega) (by omega) hb
              have HR := Lib.hid (show m0 = foldTo a l (cls a vx s) (q + 1) by rw [HNX.out, if_neg (by simp [hb])])
              clear hb
              go_wp2_with fail
              go_roundw
              case rel => exact ⟨q + 1, u3, by omega, by go_num, by rw [← HR.out], rfl⟩
              case measure => simp [intOf]; omega
            | true =>
              have b1t := bit_on (by omega) (by omega) hb
              have HNX := Lib.hid (HNX.out.trans (if_pos hb))
              clear hb
              by_cases h0 : 0 ≤ mv a q l
              · have HR := Lib.hid (show ins m0 (mv a q l).toNat = foldTo a l (cls a vx s) (q + 1) by rw [HNX.out, HA.out, if_pos h0])
                generalize mv a q l = z at *
                obtain ⟨z, rfl⟩ := Int.eq_ofNat_of_zero_le h0
                have e1' := shl_bit (s := z) (by omega)
                have e2' := or_ins (m := m0) (s := z) (by omega) (by omega)
                go_wp2_with fail
                go_roundw
                case rel => exact ⟨q + 1, u3, by omega, by go_num, by rw [← HR.out]; simp, rfl⟩
                case measure => simp [intOf]; omega
              · have HR := Lib.hid (show m0 = foldTo a l (cls a vx s) (q + 1) by rw [HNX.out, HA.out, if_neg h0])
                have h0' : decide (mv a q l ≥ 0) = false := by simp; omega
                go_wp2_with fail
                go_roundw
                case rel => exact ⟨q + 1, u3, by omega, by go_num, by rw [← HR.out], rfl⟩
                case measure => simp [intOf]; omega
          · obtain rfl : q = a.accept.length := by omega
            have hyt : ∀ W, Calls Try.prog 152 #[.agg #[.int .i64 eid, .int .i64 ef, .int .i64 et, .int .i64 el], .bool yinv] W fun en w' => en = .returned (.int .i64 yt) ∧ Below W.heap.size W w' := fun W => by
              have h := l14To_any (eid, ef, et, el) yinv W
              rwa [← HY2.out] at h
            have HTO := Lib.hid hyt
            have hps : psA g a x s ((yid, yinv), (l : Int), yt) = (mem a.accept.length (foldTo a l (cls a vx s) a.accept.length)).map fun (q : Nat) => ((yid, yinv), yt, (q : Int)) := by
              unfold psA
              rw [foldTo_all HAO.out hs, HVA.out]
              simp only [Int.toNat_natCast]
              rw [mem12 HAO.out (aft_lt HAO.out _ _ _)]
            have hmlt := foldTo_lt HAO.out l (cls a vx s) a.accept.length
            have hm4 := lt12 HAO.out hmlt
            generalize foldTo a l (cls a vx s) a.accept.length = M at *
            have HPS := Lib.hid hps
            have hsu : wc.heap.size ≤ (ext wc u).heap.size := ext_size wc u
            have hx0 : ((((arcsOf g (x : Int)).take i).flatMap (psA g a x s))).length ≤ 288 := by
              have h2 := flat_len (psA_len g a x s) ((arcsOf g (x : Int)).take i)
              have h3 : ((arcsOf g (x : Int)).take i).length ≤ 24 := by rw [List.length_take]; omega
              omega
            have hbu := below_trans hbc (ext_below wc u)
            have hrow3 := ownsRow_below HROW.out hbu (Nat.le_refl _)
            have hon3 := HON.out.trans (Only.of_below hbu W0.heap.size WX.heap.size)
            have hout3 : ∀ b, u9.ownBlock = some b → b < wo.heap.size ∨ (ext wc u).heap.size ≤ b := fun b hb => .inl (by rw [hwo]; exact (HROW.out.lt b hb).2)
            have f0 := kcell (ext_below wc u) e0
            have f1 := kcell (ext_below wc u) e1
            have f2 := kcell (ext_below wc u) e2
            have f3 := kcell (ext_below wc u) e3
            have hle : wo.heap.size ≤ (ext wc u).heap.size := by rw [hwo]; exact hbu.size
            have hebE : eb < (ext wc u).heap.size := Nat.lt_of_lt_of_le hhi hsu
            have hloe : wo.heap.size ≤ eb := by rw [hwo]; assumption
            have y1 := kcell (ext_below wc u) y1
            generalize ext wc u = wE at *
            have HROW3 := Lib.hid hrow3
            have HON3 := Lib.hid hon3
            have HOUT3 := Lib.hid hout3
            clear hps hyt hbu hrow3 hon3 hout3
            obtain ⟨XS, hXS⟩ : ∃ XS, XS = ((arcsOf g (x : Int)).take i).flatMap (psA g a x s) := ⟨_, rfl⟩
            rw [← hXS] at hx0 HROW3
            have HXS := Lib.hid hXS
            clear hXS
            go_wp2_with fail
            go_loopw [9, 17] (fun vv qq w3 => ∃ q : Nat, q ≤ a.accept.length ∧ qq = .int .i64 (q : Int) ∧ w3.ownsRow W0.heap.size 162 4 vv (XS ++ (mem q M).map (fun (q : Nat) => (((yid, yinv), yt, (q : Int)) : PS))).length ((XS ++ (mem q M).map (fun (q : Nat) => (((yid, yinv), yt, (q : Int)) : PS))).flatMap cPS) ∧ Only W0.heap.size WX.heap.size W1 w3 ∧ Only 0 wo.heap.size wE w3 ∧ (∀ b, vv.ownBlock = some b → b < WX.heap.size ∨ W1.heap.size ≤ b) ∧ (∀ b, vv.ownBlock = some b → b < wo.heap.size ∨ wE.heap.size ≤ b)) (fun _ qq _ => a.accept.length - (intOf qq).toNat)
            case atStart => exact ⟨0, Nat.zero_le _, rfl, by rw [show mem 0 M = [] from rfl, List.map_nil, List.append_nil]; exact HROW3.out, HON3.out, Only.refl _ _ _, HOUT.out, HOUT3.out⟩
            case round =>
              obtain ⟨q, hq, rfl, hrw, hn1, hn2, ho1, ho2⟩ := hrel
              have y1 := ocell hn1 Y1W.out (by omega) (.inl (by omega))
              have p0 := ocell hn1 P0.out hb5 (.inr hlo5)
              have p1 := ocell hn1 P1.out hb5 (.inr hlo5)
              have f0 := ocell hn2 f0 hebE (.inr hloe)
              have f1 := ocell hn2 f1 hebE (.inr hloe)
              have f2 := ocell hn2 f2 hebE (.inr hloe)
              have f3 := ocell hn2 f3 hebE (.inr hloe)
              have hz1 := hn1.size
              have hz2 := hn2.size
              have HRW := Lib.hid hrw
              have HN1 := Lib.hid hn1
              have HN2 := Lib.hid hn2
              have HO1 := Lib.hid ho1
              have HO2 := Lib.hid ho2
              clear hrw hn1 hn2 ho1 ho2
              by_cases hlq : q < a.accept.length
              · cases hb : M.testBit q with
                | false =>
                  have b1f := bit_off (by omega) (by omega) hb
                  have HM := Lib.hid (mem_no hb)
                  clear hb
                  go_wp2_with fail
                  go_roundw
                  case rel => exact ⟨q + 1, by omega, by go_num, by rw [HM.out]; exact HRW.out, HN1.out, HN2.out, HO1.out, HO2.out⟩
                  case measure => simp [intOf]; omega
                | true =>
                  have b1t := bit_on (by omega) (by omega) hb
                  have hxq : (XS ++ (mem q M).map (fun (q : Nat) => (((yid, yinv), yt, (q : Int)) : PS))).length ≤ 301 := by
                    have := mem_len q M
                    rw [List.length_append, List.length_map]
                    omega
                  have HM := Lib.hid (show (XS ++ (mem q M).map (fun (q : Nat) => (((yid, yinv), yt, (q : Int)) : PS))) ++ [(((yid, yinv), yt, (q : Int)) : PS)] = XS ++ (mem (q + 1) M).map (fun (q : Nat) => (((yid, yinv), yt, (q : Int)) : PS)) by rw [mem_yes hb, List.map_append, List.append_assoc]; rfl)
                  clear hb
                  generalize XS ++ (mem q M).map (fun (q : Nat) => (((yid, yinv), yt, (q : Int)) : PS)) = XQ at *
                  have N5 := Ne.symm (α := Option Nat) (mt (HO1.out b5) (by omega))
                  have NE := Ne.symm (α := Option Nat) (mt (HO2.out eb) (by omega))
                  have HN5 := Lib.hid N5
                  have HNE := Lib.hid NE
                  clear N5 NE
                  go_wp2_with fail
                  refine F_start 16 (fun w' => w'.cell? ⟨b5, o5 + i * 2, none⟩ = some (.int .i64 yid) ∧ w'.cell? ⟨b5, o5 + i * 2 + 1, none⟩ = some (.bool yinv) ∧ w'.cell? ⟨eb, 0, none⟩ = some (.int .i64 eid) ∧ w'.cell? ⟨eb, 1, none⟩ = some (.int .i64 ef) ∧ w'.cell? ⟨eb, 2, none⟩ = some (.int .i64 et) ∧ w'.cell? ⟨eb, 3, none⟩ = some (.int .i64 el)) (by kernel_rfl) (by exact ⟨p0, p1, f0, f1, f2, f3⟩) (fun hS inv => ?_)
                  refine F_take (i := 0) (v := ?_) rfl (by kernel_rfl) (by kernel_rfl) (by kernel_rfl) (fun _ _ _ h => h) inv (Or.inl ⟨by rfl, ?_⟩) (by assumption) (fun invn => ?_)
                  rotate_left
                  · (intro w hSw; (try dsimp only at hSw); go_simp; try with_reducible rfl)
                  try simp only [List.getElem_toArray, List.getElem_cons_zero, List.getElem_cons_succ, Act.put, List.setIfInBounds_toArray, List.set_cons_zero, List.set_cons_succ]
                  clear inv
                  have inv := invn
                  clear invn
                  refine F_take (i := 1) (v := ?_) rfl (by kernel_rfl) (by kernel_rfl) (by kernel_rfl) (fun _ _ _ h => h) inv (Or.inl ⟨by rfl, ?_⟩) (by assumption) (fun invn => ?_)
                  rotate_left
                  · (intro w hSw; (try dsimp only at hSw); go_simp; try with_reducible rfl)
                  try simp only [List.getElem_toArray, List.getElem_cons_zero, List.getElem_cons_succ, Act.put, List.setIfInBounds_toArray, List.set_cons_zero, List.set_cons_succ]
                  clear inv
                  have inv := invn
                  clear invn
                  refine F_take (i := 2) (v := ?_) rfl (by kernel_rfl) (by kernel_rfl) (by kernel_rfl) (fun _ _ _ h => h) inv (Or.inl ⟨by rfl, ?_⟩) (by assumption) (fun invn => ?_)
                  rotate_left
                  · (intro w hSw; (try dsimp only at hSw); go_simp; try with_reducible rfl)
                  try simp only [List.getElem_toArray, List.getElem_cons_zero, List.getElem_cons_succ, Act.put, List.setIfInBounds_toArray, List.set_cons_zero, List.set_cons_succ]
                  clear inv
                  have inv := invn
                  clear invn
                  refine F_take (i := 3) (v := ?_) rfl (by kernel_rfl) (by kernel_rfl) (by kernel_rfl) (fun _ _ _ h => h) inv (Or.inl ⟨by rfl, ?_⟩) (by assumption) (fun invn => ?_)
                  rotate_left
                  · (intro w hSw; (try dsimp only at hSw); go_simp; try with_reducible rfl)
                  try simp only [List.getElem_toArray, List.getElem_cons_zero, List.getElem_cons_succ, Act.put, List.setIfInBounds_toArray, List.set_cons_zero, List.set_cons_succ]
                  clear inv
                  have inv := invn
                  clear invn
                  refine F_take (i := 4) (v := ?_) rfl (by kernel_rfl) (by kernel_rfl) (by kernel_rfl) (fun _ _ _ h => h) inv (Or.inl ⟨by rfl, ?_⟩) (by assumption) (fun invn => ?_)
                  rotate_left
                  · (intro w hSw; (try dsimp only at hSw); go_simp; try with_reducible rfl)
                  try simp only [List.getElem_toArray, List.getElem_cons_zero, List.getElem_cons_succ, Act.put, List.setIfInBounds_toArray, List.set_cons_zero, List.set_cons_succ]
                  clear inv
                  have inv := invn
                  clear invn
                  refine F_take (i := 5) (v := ?_) rfl (by kernel_rfl) (by kernel_rfl) (by kernel_rfl) (fun _ _ _ h => h) inv (Or.inl ⟨by rfl, ?_⟩) (by assumption) (fun invn => ?_)
                  rotate_left
                  · (intro w hSw; (try dsimp only at hSw); go_simp; try with_reducible rfl)
                  try simp only [List.getElem_toArray, List.getElem_cons_zero, List.getElem_cons_succ, Act.put, List.setIfInBounds_toArray, List.set_cons_zero, List.set_cons_succ]
                  clear inv
                  have inv := invn
                  clear invn
                  refine F_take (i := 6) (v := ?_) rfl (by kernel_rfl) (by kernel_rfl) (by kernel_rfl) (fun _ _ _ h => h) inv (Or.inl ⟨by rfl, ?_⟩) (by assumption) (fun invn => ?_)
                  rotate_left
                  · (intro w hSw; (try dsimp only at hSw); go_simp; try with_reducible rfl)
                  try simp only [List.getElem_toArray, List.getElem_cons_zero, List.getElem_cons_succ, Act.put, List.setIfInBounds_toArray, List.set_cons_zero, List.set_cons_succ]
                  clear inv
                  have inv := invn
                  clear invn
                  refine F_take (i := 7) (v := ?_) rfl (by kernel_rfl) (by kernel_rfl) (by kernel_rfl) (fun _ _ _ h => h) inv (Or.inl ⟨by rfl, ?_⟩) (by assumption) (fun invn => ?_)
                  rotate_left
                  · (intro w hSw; (try dsimp only at hSw); go_simp; try with_reducible rfl)
                  try simp only [List.getElem_toArray, List.getElem_cons_zero, List.getElem_cons_succ, Act.put, List.setIfInBounds_toArray, List.set_cons_zero, List.set_cons_succ]
                  clear inv
                  have inv := invn
                  clear invn
                  refine F_take (i := 8) (v := ?_) rfl (by kernel_rfl) (by kernel_rfl) (by kernel_rfl) (fun _ _ _ h => h) inv (Or.inl ⟨by rfl, ?_⟩) (by assumption) (fun invn => ?_)
                  rotate_left
                  · (intro w hSw; (try dsimp only at hSw); go_simp; try with_reducible rfl)
                  try simp only [List.getElem_toArray, List.getElem_cons_zero, List.getElem_cons_succ, Act.put, List.setIfInBounds_toArray, List.set_cons_zero, List.set_cons_succ]
                  clear inv
                  have inv := invn
                  clear invn
                  refine F_take (i := 9) (v := ?_) rfl (by kernel_rfl) (by kernel_rfl) (by kernel_rfl) (fun _ _ _ h => h) inv (Or.inl ⟨by rfl, ?_⟩) (by assumption) (fun invn => ?_)
                  rotate_left
                  · (intro w hSw; (try dsimp only at hSw); go_simp; try with_reducible rfl)
                  try simp only [List.getElem_toArray, List.getElem_cons_zero, List.getElem_cons_succ, Act.put, List.setIfInBounds_toArray, List.set_cons_zero, List.set_cons_succ]
                  clear inv
                  have inv := invn
                  clear invn
                  refine F_take (i := 10) (v := ?_) rfl (by kernel_rfl) (by kernel_rfl) (by kernel_rfl) (fun _ _ _ h => h) inv (Or.inl ⟨by rfl, ?_⟩) (by assumption) (fun invn => ?_)
                  rotate_left
                  · (intro w hSw; (try dsimp only at hSw); go_simp; try with_reducible rfl)
                  try simp only [List.getElem_toArray, List.getElem_cons_zero, List.getElem_cons_succ, Act.put, List.setIfInBounds_toArray, List.set_cons_zero, List.set_cons_succ]
                  clear inv
                  have inv := invn
                  clear invn
                  refine F_take (i := 12) (v := ?_) rfl (by kernel_rfl) (by kernel_rfl) (by kernel_rfl) (fun _ _ _ h => h) inv (Or.inl ⟨by rfl, ?_⟩) (by assumption) (fun invn => ?_)
                  rotate_left
                  · (intro w hSw; (try dsimp only at hSw); go_simp; try with_reducible rfl)
                  try simp only [List.getElem_toArray, List.getElem_cons_zero, List.getElem_cons_succ, Act.put, List.setIfInBounds_toArray, List.set_cons_zero, List.set_cons_succ]
                  clear inv
                  have inv := invn
                  clear invn
                  refine F_one (i := 11) (by kernel_rfl) rfl rfl (by omega) inv (fun K hK => ?_)
                  try simp only [List.getElem_toArray, List.getElem_cons_zero, List.getElem_cons_succ]
                  go_simp
                  refine (HTO.out _).mono ?_
                  rintro e wT ⟨rfl, hbT⟩
                  have hzT : wr.heap.size ≤ wT.heap.size := hbT.size
                  have HRT := Lib.hid (ownsRow_below HRW.out (below_trans ((Below.refl wr.heap.size wr).drew) hbT) (Nat.le_refl _))
                  refine hK.out _ _ (kB6 hbT hS) (fun hSn invn => ?_)
                  try simp only [List.getElem_toArray, List.getElem_cons_zero, List.getElem_cons_succ, Act.put, List.setIfInBounds_toArray, List.set_cons_zero, List.set_cons_succ]
                  clear hK K inv hS
                  have inv := invn
                  have hS := hSn
                  clear invn hSn
                  refine F_take (i := 13) (v := ?_) rfl (by kernel_rfl) (by kernel_rfl) (by kernel_rfl) (fun _ _ _ h => h) inv (Or.inl ⟨by rfl, ?_⟩) (by assumption) (fun invn => ?_)
                  rotate_left
                  · (intro w hSw; (try dsimp only at hSw); go_simp; try with_reducible rfl)
                  try simp only [List.getElem_toArray, List.getElem_cons_zero, List.getElem_cons_succ, Act.put, List.setIfInBounds_toArray, List.set_cons_zero, List.set_cons_succ]
                  clear inv
                  have inv := invn
                  clear invn
                  refine F_one (i := 14) (by kernel_rfl) rfl rfl (by omega) inv (fun K hK => ?_)
                  try simp only [List.getElem_toArray, List.getElem_cons_zero, List.getElem_cons_succ]
                  go_simp
                  refine hK.out _ _ (kA6 _ hS) (fun hSn invn => ?_)
                  try simp only [List.getElem_toArray, List.getElem_cons_zero, List.getElem_cons_succ, Act.put, List.setIfInBounds_toArray, List.set_cons_zero, List.set_cons_succ]
                  clear hK K inv hS
                  have inv := invn
                  have hS := hSn
                  clear invn hSn
                  refine F_one (i := 15) (by kernel_rfl) rfl rfl (by omega) inv (fun K hK => ?_)
                  try simp only [List.getElem_toArray, List.getElem_cons_zero, List.getElem_cons_succ]
                  refine op_append1 cPS elPS rfl _ _ (by rfl) W0.heap.size _ XQ ((yid, yinv), yt, (q : Int)) 1 _ (by rfl) (HRT.out.alloc _) (by first | rfl | simp) (heap_alloc_new _ _) rfl (cPS_one _) (by omega) (by omega) (by simp; omega) ?_
                  intro g2 cp2 w3 hown3 hgr3 hat3 hlt3
                  have HW3 := Lib.hid hown3
                  have HG3 := Lib.hid hgr3
                  have HA3 := Lib.hid hat3
                  clear hown3 hgr3 hat3
                  refine hK.out _ _ (kG6 HG3.out HN5.out HN5.out HNE.out HNE.out HNE.out HNE.out hS) (fun hSn invn => ?_)
                  try simp only [List.getElem_toArray, List.getElem_cons_zero, List.getElem_cons_succ, Act.put, List.setIfInBounds_toArray, List.set_cons_zero, List.set_cons_succ]
                  clear hK K inv hS
                  have inv := invn
                  have hS := hSn
                  clear invn hSn
                  refine F_last (i := 16) (by kernel_rfl) rfl rfl (by omega) (by kernel_rfl) (fun K hK => ?_)
                  go_simp
                  refine hK _ _ ?_
                  clear hK K inv hS
                  have hat := HA3.out.imp id (Nat.le_trans (show wT.heap.size ≤ _ by simp))
                  go_wp2_with fail
                  go_roundw
                  case rel =>
                    refine ⟨q + 1, by omega, by go_num, by rw [← HM.out]; simpa using HW3.out, (((HN1.out.drew).trans (Only.of_below hbT _ _)).alloc _).grown HG3.out (fun b hb => (HO1.out b hb).imp (fun h => ⟨(HRW.out.lt b hb).1, h⟩) id), (((HN2.out.drew).trans (Only.of_below hbT _ _)).alloc _).grown HG3.out (fun b hb => (HO2.out b hb).imp (fun h => ⟨Nat.zero_le _, h⟩) id), fun b hb => ?_, fun b hb => ?_⟩
                    · injection hb with hb
                      subst hb
                      rcases hat with h | h
                      · exact HO1.out _ h
                      · exact .inr (Nat.le_trans (show W1.heap.size ≤ wT.heap.size by omega) h)
                    · injection hb with hb
                      subst hb
                      rcases hat with h | h
                      · exact HO2.out _ h
                      · exact .inr (Nat.le_trans (show wE.heap.size ≤ wT.heap.size by omega) h)
                  case measure => simp [intOf]; omega
              · obtain rfl : q = a.accept.length := by omega
                go_wp2_with fail
                go_roundw
                case rel =>
                  have hts : ((arcsOf g (x : Int)).take (i + 1)).flatMap (psA g a x s) = XS ++ (mem a.accept.length M).map (fun (q : Nat) => (((yid, yinv), yt, (q : Int)) : PS)) := by
                    rw [take_snoc HYI.out, List.flatMap_append, ← HXS.out, List.flatMap_singleton, HPS.out]
                  exact ⟨i + 1, by omega, by go_num, by rw [hts]; exact HRW.out, HN1.out, HO1.out⟩
                case measure => simp [intOf]; omega
    · obtain rfl : i = (arcsOf g (x : Int)).length := by omega
      have hR : R = ((arcsOf g (x : Int)).take (arcsOf g (x : Int)).length).flatMap (psA g a x s) := by rw [HR.out, List.take_length]; rfl
      have hown := Own.of_row (xs := R) (ownsRow_mono (b := w.heap.size) (by rw [hR]; exact HROW.out) hb0.size) rfl rfl
      have HO := Lib.hid hown
      have hfin : Below w.heap.size w wr := hbw1.trans (hon.below hb0.size hbw1.size)
      clear hR hown
      go_wp2_with fail
      go_ret
      exact ⟨_, rfl, HO.out, hfin⟩
end Go.Proofs.Ytmlfkledhnlkeaa

/- The reference's l14Accepts: whether a state accepts at a node. -/
namespace Go.Proofs.Ytmlfkledhnlkeaa
set_option linter.unusedVariables false
set_option linter.unusedSimpArgs false
open Go.ChangeShapes Go.WideShapes Go.ChangeAt Go.RowKit
attribute [local go_sem] ext_cell ext_frozen ext_lt ext_lt1 ext_lt2 ext_lt3 ltn2 ltn3 ltn13 lts1 lts2 lts3

set_option maxHeartbeats 4000000 in
theorem l14Accepts_any (vg va : Value) (g : Gr) (a : Au) (x s : Nat) (w : World) (hgv : GrV 0 w.heap.size w vg g) (hav : AuV 0 w.heap.size w va a) (hg : GrOk g) (ha : auOk a = true) (hx : x < g.vals.length) (hs : s < a.accept.length) :
    Calls Try.prog 127 #[vg, va, .int .i64 (x : Int), .int .i64 (s : Int)] w fun e w' => e = .returned (.bool (accC a (valAt g x) s)) ∧ Below w.heap.size w w' := by
  have hav0 := hav
  obtain ⟨A1, c1, A2, c2, rfl, hl1, hm1, -, -, hC1, -⟩ := hgv.form
  obtain ⟨A3, c3, A4, c4, rfl, hl3, hm3, hl4, hm4, hAC, -⟩ := hav.form ha
  have hn5 := hg.n5
  have hn12 := (auOk_iff.1 ha).1.2
  have hxi : g.vals[x]? = some g.vals[x] := List.getElem?_eq_getElem hx
  have hvr := hg.vals _ (List.getElem_mem hx)
  generalize g.vals[x] = vx at hxi hvr
  obtain ⟨vx, rfl⟩ := Int.eq_ofNat_of_zero_le hvr.1
  have hva := valAt_of hxi
  rw [Int.toNat_natCast] at hva
  rw [hva]
  obtain ⟨b1, o1, rfl, hb1, d1⟩ := hC1.int hxi
  have hcl := cls_lt ha vx s hs
  have hcl4 := lt12 ha hcl
  have hfin : accC a vx s = (mem a.accept.length (cls a vx s)).any fun t => a.accept.getD t false := by rw [accC, mem12 ha hcl]
  have HF := Lib.hid hfin
  have HAO := Lib.hid ha
  have HAV := Lib.hid hav0
  have HAC := Lib.hid hAC
  have HCL := Lib.hid hcl
  have hb0 : Below w.heap.size w ((w.alloc (.cells #[.slice (some ⟨b1, o1, none⟩) g.vals.length c1, .slice A2 g.edges.length c2] 48)).alloc (.cells #[.int .i64 a.start, .slice A3 a.accept.length c3, .slice A4 a.accept.length c4] 50)) := ((Below.refl _ _).alloc (Nat.le_refl _) _).alloc (by simp) _
  have hxx : (x : Int) < (g.vals.length : Int) := by omega
  clear hgv hav ha hg hav0 hva hxi hC1 hAC hcl hfin
  go_enter Try.func127, Try.ntmps127
  go_wp2_with fail
  refine wp_region_ext_lit (by kernel_rfl) (by kernel_rfl) ?_
  repeat (go_big_quiet_step ((go_at_call 150; exact Calls.ext_of (l14Closure_any _ a s vx _ (HAV.out.keep (below_trans hb0 (ext_below _ _))) HAO.out hs (by omega)))))
  refine wpQuiet_nil ?_
  intro _ hw'
  obtain ⟨u2, hw''⟩ := hw'
  subst hw''
  have hbw := below_trans hb0 (ext_below _ u2)
  go_wp2_with fail
  generalize cls a vx s = m at *
  go_loop [10] (fun ii => ∃ i : Nat, i ≤ a.accept.length ∧ ii = .int .i64 (i : Int) ∧ (mem i m).any (fun t => a.accept.getD t false) = false) (fun ii => a.accept.length - (intOf ii).toNat)
  case atStart => exact ⟨0, Nat.zero_le _, rfl, rfl⟩
  case round =>
    obtain ⟨i, hi, rfl, hno⟩ := hrel
    have HNO := Lib.hid hno
    clear hno
    by_cases hlt : i < a.accept.length
    · have hai : a.accept[i]? = some a.accept[i] := List.getElem?_eq_getElem hlt
      obtain ⟨b5, o5, rfl, hb5, d5⟩ := HAC.out.bool hai
      have hag : a.accept.getD i false = a.accept[i] := by simp [List.getD, hai]
      generalize a.accept[i] = b at *
      have HAG := Lib.hid hag
      clear hai hag
      cases hb : m.testBit i with
      | false =>
        have e3 := bit_off (by omega) (by omega) hb
        have HM := Lib.hid (mem_no hb)
        clear hb
        go_wp2_with fail
        go_round
        case rel => exact ⟨i + 1, by omega, by go_num, by rw [HM.out]; exact HNO.out⟩
        case measure => simp [intOf]; omega
      | true =>
        have e3 := bit_on (by omega) (by omega) hb
        have HB := Lib.hid hb
        have HM := Lib.hid (mem_yes hb)
        clear hb
        cases b with
        | true =>
          have hfin : accC a vx s = true := by rw [HF.out]; exact List.any_eq_true.2 ⟨i, mem_mem.2 ⟨hlt, HB.out⟩, HAG.out⟩
          have HFF := Lib.hid hfin
          clear hfin
          go_wp2_with fail
          go_ret
          exact ⟨by rw [HFF.out]; rfl, hbw⟩
        | false =>
          go_wp2_with fail
          go_round
          case rel => exact ⟨i + 1, by omega, by go_num, by rw [HM.out, List.any_append, HNO.out]; simp only [List.any_cons, List.any_nil, Bool.or_false, Bool.false_or]; exact HAG.out⟩
          case measure => simp [intOf]; omega
    · obtain rfl : i = a.accept.length := by omega
      have hfin : accC a vx s = false := by rw [HF.out]; exact HNO.out
      have HFF := Lib.hid hfin
      clear hfin
      go_wp2_with fail
      go_ret
      exact ⟨by rw [HFF.out]; rfl, hbw⟩
end Go.Proofs.Ytmlfkledhnlkeaa

/- Rows of rows of the call's own, told by the blocks that they hold: an outer row of slices, each of them a row of its own, no two in one block. Over any program. -/
namespace Go.Proofs.Ytmlfkledhnlkeaa
set_option linter.unusedVariables false
set_option linter.unusedSimpArgs false
open Go.ChangeShapes Go.WideShapes Go.ChangeAt Go.RowKit

section
variable {H b o : Nat} {w : World}
theorem SlC.intA {xs : List Int} (h : SlC H w cI 1 (some ⟨b, o, none⟩) xs) {i : Nat} {x : Int} (hx : xs[i]? = some x) : b < H ∧ w.cell? ⟨b, o + i, none⟩ = some (.int .i64 x) := by
  obtain ⟨b', o', e, h1, h2⟩ := h.int hx
  injection e with e
  injection e with e1 e2
  subst e1 e2
  exact ⟨h1, h2⟩
theorem SlC.natA {xs : List Nat} (h : SlC H w cN 1 (some ⟨b, o, none⟩) xs) {i : Nat} {x : Nat} (hx : xs[i]? = some x) : b < H ∧ w.cell? ⟨b, o + i, none⟩ = some (.int .i64 (x : Int)) := by
  obtain ⟨b', o', e, h1, h2⟩ := h.nat hx
  injection e with e
  injection e with e1 e2
  subst e1 e2
  exact ⟨h1, h2⟩
theorem SlC.stA {xs : List St} (h : SlC H w cSt 2 (some ⟨b, o, none⟩) xs) {i : Nat} {x : St} (hx : xs[i]? = some x) : b < H ∧ w.cell? ⟨b, o + i * 2, none⟩ = some (.int .i64 x.1) ∧ w.cell? ⟨b, o + i * 2 + 1, none⟩ = some (.bool x.2) := by
  obtain ⟨b', o', e, h1, h2, h3⟩ := h.st hx
  injection e with e
  injection e with e1 e2
  subst e1 e2
  exact ⟨h1, h2, h3⟩
end
theorem flatCV (l : List Value) : l.flatMap cV = l := by
  induction l with
  | nil => rfl
  | cons x l ih => rw [List.flatMap_cons, ih]; rfl
/-- the blocks that slices hold -/
abbrev blks (us : List Value) : List Nat := us.filterMap Value.ownBlock
structure NS {α : Type} (lo : Nat) (w : World) (oT eT : TypeId) (E : α → List Value) (k : Nat) (v : Value) (us : List Value) (xss : List (List α)) : Prop where
  own : w.ownsRow lo oT 1 v us.length (us.flatMap cV)
  len : us.length = xss.length
  rows : ∀ (i : Nat) (u : Value) (xs : List α), us[i]? = some u → xss[i]? = some xs → w.ownsRow lo eT k u xs.length (xs.flatMap E)
  dis : (blks (v :: us)).Nodup
section
variable {α : Type} {lo : Nat} {w w' : World} {oT eT : TypeId} {E : α → List Value} {k : Nat} {v : Value} {us : List Value} {xss : List (List α)}
theorem mem_blks {us : List Value} {b : Nat} : b ∈ blks us ↔ ∃ (i : Nat) (u : Value), us[i]? = some u ∧ u.ownBlock = some b := by
  rw [List.mem_filterMap]
  constructor
  · rintro ⟨u, hu, hb⟩
    obtain ⟨i, hi⟩ := List.getElem?_of_mem hu
    exact ⟨i, u, hi, hb⟩
  · rintro ⟨i, u, hu, hb⟩
    exact ⟨u, List.mem_of_getElem? hu, hb⟩
theorem NS.lt (h : NS lo w oT eT E k v us xss) : ∀ b ∈ blks (v :: us), lo ≤ b ∧ b < w.heap.size := by
  intro b hb
  obtain ⟨i, u, hu, hbu⟩ := mem_blks.1 hb
  cases i with
  | zero =>
    simp only [List.getElem?_cons_zero, Option.some.injEq] at hu
    subst hu
    exact h.own.lt b hbu
  | succ i =>
    rw [List.getElem?_cons_succ] at hu
    have hi : i < xss.length := by rw [← h.len]; exact (List.getElem?_eq_some_iff.1 hu).1
    exact (h.rows i u _ hu (List.getElem?_eq_getElem hi)).lt b hbu
theorem NS.blocks (h : NS lo w oT eT E k v us xss) (hb : ∀ b ∈ blks (v :: us), w'.heap[b]? = w.heap[b]?) : NS lo w' oT eT E k v us xss :=
  ⟨ownsRow_block h.own fun g hg => hb g (mem_blks.2 ⟨0, v, rfl, hg⟩), h.len,
    fun i u xs hu hx => ownsRow_block (h.rows i u xs hu hx) fun g hg => hb g (mem_blks.2 ⟨i + 1, u, by simpa using hu, hg⟩), h.dis⟩
theorem NS.below (h : NS lo w oT eT E k v us xss) (hb : Below w.heap.size w w') : NS lo w' oT eT E k v us xss := h.blocks fun b hm => hb.block b (h.lt b hm).2
theorem NS.mono (h : NS lo w oT eT E k v us xss) {lo' : Nat} (hl : lo' ≤ lo) : NS lo' w oT eT E k v us xss :=
  ⟨ownsRow_mono h.own hl, h.len, fun i u xs hu hx => ownsRow_mono (h.rows i u xs hu hx) hl, h.dis⟩
theorem NS.start (h : w.ownsRow lo oT 1 v 0 []) : NS lo w oT eT E k v [] ([] : List (List α)) :=
  ⟨h, rfl, fun i u xs hu _ => by simp at hu, by cases hv : v.ownBlock <;> simp [hv]⟩
theorem NS.push (h : NS lo w oT eT E k v us xss) {u : Value} {xs : List α} (hu : w.ownsRow lo eT k u xs.length (xs.flatMap E)) (hn : ∀ b, u.ownBlock = some b → b ∉ blks (v :: us))
    {v' : Value} (hg : w.grownBy w' v.ownBlock) (hr : w'.ownsRow lo oT 1 v' (us ++ [u]).length ((us ++ [u]).flatMap cV)) (hat : ∀ g, v'.ownBlock = some g → v.ownBlock = some g ∨ w.heap.size ≤ g) :
    NS lo w' oT eT E k v' (us ++ [u]) (xss ++ [xs]) := by
  have hdis := h.dis
  have hkeep : ∀ (u' : Value) (n : Nat) (cs : List Value), w.ownsRow lo eT k u' n cs → (∀ b, u'.ownBlock = some b → v.ownBlock ≠ some b) → w'.ownsRow lo eT k u' n cs := fun u' n cs ho hne => by
    refine ho.kept hg ?_
    cases hb : u'.ownBlock with
    | none => exact .inl rfl
    | some b => exact .inr fun e => hne b hb e.symm
  have hv0 : ∀ b, v.ownBlock = some b → b ∉ blks us := fun b hb => by
    rw [blks, List.filterMap_cons, hb] at hdis
    exact (List.nodup_cons.1 hdis).1
  refine ⟨hr, by simp [h.len], fun i u' xs' hi hx => ?_, ?_⟩
  · rcases Nat.lt_or_ge i us.length with hlt | hge
    · rw [List.getElem?_append_left hlt] at hi
      rw [List.getElem?_append_left (by rw [← h.len]; exact hlt)] at hx
      exact hkeep _ _ _ (h.rows i u' xs' hi hx) fun b hb hvb => hv0 b hvb (mem_blks.2 ⟨i, u', hi, hb⟩)
    · have hi2 := (List.getElem?_eq_some_iff.1 hi).1
      simp only [List.length_append, List.length_singleton] at hi2
      obtain rfl : i = us.length := by omega
      have e1 : u = u' := by simpa using hi
      have e2 : xs = xs' := by rw [h.len] at hx; simpa using hx
      subst e1 e2
      exact hkeep _ _ _ hu fun b hb hvb => hn b hb (mem_blks.2 ⟨0, v, rfl, hvb⟩)
  · have hlt := h.lt
    have hus : (blks us).Nodup := by
      cases hv : v.ownBlock with
      | none => simpa [blks, List.filterMap_cons, hv] using hdis
      | some b => rw [blks, List.filterMap_cons, hv] at hdis; exact (List.nodup_cons.1 hdis).2
    have hnu : ∀ b, u.ownBlock = some b → b ∉ blks us := fun b hb hm => hn b hb (by
      obtain ⟨i, u', h1, h2⟩ := mem_blks.1 hm
      exact mem_blks.2 ⟨i + 1, u', by simpa using h1, h2⟩)
    have hall : (blks (us ++ [u])).Nodup := by
      rw [blks, List.filterMap_append]
      cases hub : u.ownBlock with
      | none => simpa [List.filterMap_cons, hub] using hus
      | some b =>
        rw [List.filterMap_cons, hub]
        refine List.nodup_append.2 ⟨hus, by simp, ?_⟩
        intro x hx y hy e
        simp only [List.filterMap_nil, List.mem_cons, List.not_mem_nil, or_false] at hy
        subst hy
        subst e
        exact hnu _ hub hx
    rw [blks, List.filterMap_cons]
    cases hv' : v'.ownBlock with
    | none => exact hall
    | some g =>
      refine List.nodup_cons.2 ⟨fun hm => ?_, hall⟩
      obtain ⟨i, u', hi, hb⟩ := mem_blks.1 hm
      rcases Nat.lt_or_ge i us.length with hl | hge
      · rw [List.getElem?_append_left hl] at hi
        rcases hat g hv' with h1 | h1
        · exact hv0 g h1 (mem_blks.2 ⟨i, u', hi, hb⟩)
        · have := (hlt g (mem_blks.2 ⟨i + 1, u', by simpa using hi, hb⟩)).2
          omega
      · have hi2 := (List.getElem?_eq_some_iff.1 hi).1
        simp only [List.length_append, List.length_singleton] at hi2
        obtain rfl : i = us.length := by omega
        have e1 : u = u' := by simpa using hi
        subst e1
        rcases hat g hv' with h1 | h1
        · exact hn g hb (mem_blks.2 ⟨0, v, rfl, h1⟩)
        · have := (hu.lt g hb).2
          omega
theorem grown_alloc {o : Obj} {row : Option Nat} (h : (w.alloc o).grownBy w' row) : w.grownBy w' row :=
  ⟨h.os, h.tape, h.output, Nat.le_trans (by simp) h.size, fun n hn hne => (h.block n (by simp; omega) hne).trans (Below.heap_alloc w o n hn)⟩
/-- what is read of it: the header of row i, and the row -/
theorem NS.row (h : NS lo w oT eT E k v us xss) (hE : ∀ x, (E x).length = k) {i : Nat} {xs : List α} (hx : xss[i]? = some xs) :
    ∃ g cap A c, v = .slice (some ⟨g, 0, none⟩) xss.length cap ∧ us[i]? = some (.slice A xs.length c) ∧ g < w.heap.size ∧ w.cell? ⟨g, i, none⟩ = some (.slice A xs.length c) ∧ xs.length ≤ c ∧ c ≤ maxLen ∧ SlI lo w.heap.size w E k (.slice A xs.length c) xs := by
  have hi : i < us.length := by rw [h.len]; exact (List.getElem?_eq_some_iff.1 hx).1
  have hu : us[i]? = some us[i] := List.getElem?_eq_getElem hi
  have hr := h.rows i _ xs hu hx
  generalize us[i] = u at hu hr
  have hsl := (Own.of_row (xs := xs) hr rfl rfl).sl hE
  have hsl' := hsl
  obtain ⟨A, c, rfl, hl, hm, -⟩ := hsl'
  have hown := h.own
  have hlt := h.own.lt
  rw [flatCV] at hown
  have hown2 := hown
  obtain ⟨h1, h2⟩ := hown2
  rcases h2 with ⟨rfl, h3⟩ | ⟨g, cap, cur, rfl, r⟩
  · omega
  · refine ⟨g, cap, A, c, by rw [h.len], hu, (hlt g rfl).2, ?_, hl, hm, hsl⟩
    rw [World.ownsRow.cellAt hown i (by omega)]
    exact hu
theorem NS.at (h : NS lo w oT eT E k v us xss) (hE : ∀ x, (E x).length = k) {g n cap : Nat} (hv : v = .slice (some ⟨g, 0, none⟩) n cap) {i : Nat} {xs : List α} (hx : xss[i]? = some xs) :
    ∃ A c, w.cell? ⟨g, i, none⟩ = some (.slice A xs.length c) ∧ xs.length ≤ c ∧ c ≤ 9223372036854775807 ∧ SlI lo w.heap.size w E k (.slice A xs.length c) xs := by
  obtain ⟨g', cap', A, c, hv', -, -, hc, h1, h2, h3⟩ := h.row hE hx
  rw [hv] at hv'
  injection hv' with e1 _ _
  injection e1 with e1
  injection e1 with e1
  subst e1
  exact ⟨A, c, hc, h1, h2, h3⟩
/-- a row that is not empty has a block of its own -/
theorem own_some {W : World} {base k n : Nat} {e : TypeId} {v : Value} {cs : List Value} (h : W.ownsRow base e k v n cs) (hn : n ≠ 0) : ∃ g c, v = .slice (some ⟨g, 0, none⟩) n c ∧ base ≤ g ∧ g < W.heap.size ∧ n ≤ c ∧ c ≤ 9223372036854775807 := by
  have hlt := h.lt
  obtain ⟨h1, h2⟩ := h
  rcases h2 with ⟨rfl, h3⟩ | ⟨g, cap, cur, rfl, h4, h5, h6, h7, r⟩
  · exact absurd h3 hn
  · exact ⟨g, cap, rfl, h4, (hlt g rfl).2, h6, h7⟩
theorem NS.shape (h : NS lo w oT eT E k v us xss) : ∃ A c, v = .slice A xss.length c ∧ xss.length ≤ c ∧ c ≤ maxLen := by
  obtain ⟨h1, h2⟩ := h.own
  rcases h2 with ⟨rfl, h3⟩ | ⟨g, cap, cur, rfl, h4, h5, h6, h7, r⟩
  · exact ⟨none, 0, by rw [← h.len, h3], by rw [← h.len, h3]; exact Nat.le_refl _, by unfold maxLen; omega⟩
  · exact ⟨_, cap, by rw [h.len], by rw [← h.len]; exact h6, h7⟩
end
end Go.Proofs.Ytmlfkledhnlkeaa

