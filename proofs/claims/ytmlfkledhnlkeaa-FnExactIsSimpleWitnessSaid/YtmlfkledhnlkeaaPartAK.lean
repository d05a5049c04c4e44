/- Parts of the proof, joined into one text: AlongS, Simple. -/
import Derived.Test.YtmlfkledhnlkeaaPartAE
import Derived.Test.YtmlfkledhnlkeaaPartAI
import Derived.Test.YtmlfkledhnlkeaaPartAJ
import Derived.Test.YtmlfkledhnlkeaaPartAH
/- The reference's walks in the product: l18Next, l18Ends, l18Along, WalkEnd, MatchesWalk, IsWitness. -/
namespace Go.Proofs.Ytmlfkledhnlkeaa
set_option linter.unusedVariables false
set_option linter.unusedSimpArgs false
open Go.ChangeShapes Go.WideShapes Go.ChangeAt Go.RowKit
attribute [local go_sem] ext_cell ext_frozen ext_lt ext_lt1 ext_lt2 ext_lt3 ltn2 ltn3 ltn13 lts1 lts2 lts3

def foldFr (a : Au) (l set m0 q : Nat) : Nat := (mem q set).foldl (aft1 a l) m0
theorem foldFr_no {a : Au} {l set m0 q : Nat} (h : set.testBit q = false) : foldFr a l set m0 (q + 1) = foldFr a l set m0 q := by rw [foldFr, mem_no h]; rfl
theorem foldFr_yes {a : Au} {l set m0 q : Nat} (h : set.testBit q = true) : foldFr a l set m0 (q + 1) = aft1 a l (foldFr a l set m0 q) q := by rw [foldFr, mem_yes h, List.foldl_append]; rfl
theorem foldFr_lt {a : Au} (h : auOk a = true) (l set m0 q : Nat) (hm : m0 < 2 ^ a.accept.length) : foldFr a l set m0 q < 2 ^ a.accept.length := foldl_inv (P := fun m => m < 2 ^ a.accept.length) (fun m x hm => aft1_lt h l m x hm) _ _ hm
def foldS (a : Au) (v l set q : Nat) : Nat := (mem q set).foldl (aftS a v l) 0
theorem foldS_no {a : Au} {v l set q : Nat} (h : set.testBit q = false) : foldS a v l set (q + 1) = foldS a v l set q := by rw [foldS, mem_no h]; rfl
theorem foldS_yes {a : Au} {v l set q : Nat} (ha : auOk a = true) (hq : q < a.accept.length) (h : set.testBit q = true) : foldS a v l set (q + 1) = foldFr a l (cls a v q) (foldS a v l set q) a.accept.length := by
  rw [foldS, mem_yes h, List.foldl_append]
  show aftS a v l _ q = _
  rw [aftS, mem12 ha (cls_lt ha v q hq)]; rfl
theorem foldS_lt {a : Au} (h : auOk a = true) (v l set q : Nat) : foldS a v l set q < 2 ^ a.accept.length := foldl_inv (P := fun m => m < 2 ^ a.accept.length) (fun m x hm => aftS_lt h v l m x hm) _ _ (Nat.two_pow_pos _)
theorem foldS_all {a : Au} (h : auOk a = true) {v l set : Nat} (hs : set < 2 ^ a.accept.length) : foldS a v l set a.accept.length = aft a set v l := by rw [foldS, aft, mem12 h hs]
theorem stepEd_idx {g : Gr} {id : Int} {e : Ed} (h : stepEd g id = some e) : ∃ ix : Nat, edgeIdx g id = ix ∧ g.edges[ix]? = some e := by
  obtain ⟨hg, hm, he⟩ := stepEd_ok h
  obtain ⟨ix, hix⟩ := List.getElem?_of_mem hm
  refine ⟨ix, ?_, hix⟩
  rw [← he]
  exact edgeIdx_at hg hix

set_option maxHeartbeats 8000000 in
set_option maxRecDepth 100000 in
theorem l18Next_any (vg va : Value) (g : Gr) (a : Au) (x SI : Nat) (st : St) (e : Ed) (l : Nat) (w : World) (hgv : GrV 0 w.heap.size w vg g) (hav : AuV 0 w.heap.size w va a) (hgo : grOk g = true) (ha : auOk a = true) (hx : x < g.vals.length) (hSI : SI < 2 ^ a.accept.length)
    (he : stepEd g st.1 = some e) (hl : arcLetter st.2 e = (l : Int)) :
    Calls Try.prog 117 #[vg, va, .int .i64 (x : Int), .int .i64 (SI : Int), .agg #[.int .i64 st.1, .bool st.2]] w fun en w' => en = .returned (.tuple #[.int .i64 (arcTo st.2 e), .int .i64 (aft a SI (valAt g x) l : Int)]) ∧ Below w.heap.size w w' := by
  have hg := grOk_iff.1 hgo
  have hav0 := hav
  have hgv0 := hgv
  obtain ⟨A1, c1, A2, c2, rfl, hl1, hm1, hl2, hm2, hC1, hC2⟩ := hgv.form
  obtain ⟨A3, c3, A4, c4, rfl, hl3, hm3, hl4, hm4, hAC⟩ := hav.form ha
  obtain ⟨sid, sinv⟩ := st
  have hn12 := (auOk_iff.1 ha).1.2
  obtain ⟨ix, hix, hei⟩ := stepEd_idx he
  have hem := (stepEd_ok he).2.1
  have hel := hg.edges e hem
  have hixl : ix < g.edges.length := (List.getElem?_eq_some_iff.1 hei).1
  have hixi : (ix : Int) < (g.edges.length : Int) := by omega
  obtain ⟨b6, o6, rfl, hb6, q0, q1, q2, q3⟩ := hC2.ed hei
  have hxi : g.vals[x]? = some g.vals[x] := List.getElem?_eq_getElem hx
  have hvr := hg.vals _ (List.getElem_mem hx)
  generalize g.vals[x] = vx at hxi hvr
  obtain ⟨vx, rfl⟩ := Int.eq_ofNat_of_zero_le hvr.1
  have hva := valAt_of hxi
  rw [Int.toNat_natCast] at hva
  obtain ⟨b1, o1, rfl, hb1, d1⟩ := hC1.int hxi
  have hSI4 := lt12 ha hSI
  simp only at hix hl ⊢
  obtain ⟨eid, ef, et, el⟩ := e
  simp only at q0 q1 q2 q3 hel
  obtain ⟨-, -, -, hl0, hl2e⟩ := hel
  have hl9 : l < 6 := by unfold arcLetter at hl; simp only at hl; split at hl <;> omega
  obtain ⟨TO, hTO⟩ : ∃ TO, TO = arcTo sinv (eid, ef, et, el) := ⟨_, rfl⟩
  rw [← hTO, hva, ← foldS_all ha hSI]
  have HTO := Lib.hid (show ∀ W, Calls Try.prog 152 #[.agg #[.int .i64 eid, .int .i64 ef, .int .i64 et, .int .i64 el], .bool sinv] W fun en w' => en = .returned (.int .i64 TO) ∧ Below W.heap.size W w' from fun W => by
    have h := l14To_any (eid, ef, et, el) sinv W
    rwa [← hTO] at h)
  have HLET := Lib.hid (show ∀ W, Calls Try.prog 151 #[.agg #[.int .i64 eid, .int .i64 ef, .int .i64 et, .int .i64 el], .bool sinv] W fun en w' => en = .returned (.int .i64 (l : Int)) ∧ Below W.heap.size W w' from fun W => by
    have h := l14Letter_any (eid, ef, et, el) sinv W hl0 hl2e
    rwa [hl] at h)
  have HEI := Lib.hid (show ∀ W, Below w.heap.size w W → Calls Try.prog 149 #[.agg #[.slice (some ⟨b1, o1, none⟩) g.vals.length c1, .slice (some ⟨b6, o6, none⟩) g.edges.length c2], .int .i64 sid] W fun e w' => e = .returned (.int .i64 (ix : Int)) ∧ Below W.heap.size W w' from fun W hW => by
    have h := specEdgeIndex _ g sid W (hgv0.keep hW)
    rwa [hix] at h)
  have HGO := Lib.hid hg
  have HAO := Lib.hid ha
  have HAV := Lib.hid hav0
  have HGV := Lib.hid hgv0
  have HAC := Lib.hid hAC
  have HSI := Lib.hid hSI
  have hxx : (x : Int) < (g.vals.length : Int) := by omega
  have hb0 : Below w.heap.size w (((w.alloc (.cells #[.slice (some ⟨b1, o1, none⟩) g.vals.length c1, .slice (some ⟨b6, o6, none⟩) g.edges.length c2] 48)).alloc (.cells #[.int .i64 a.start, .slice A3 a.accept.length c3, .slice A4 a.accept.length c4] 50)).alloc (.cells #[.int .i64 sid, .bool sinv] 142)) := (((Below.refl _ _).alloc (Nat.le_refl _) _).alloc (by simp) _).alloc (by simp; omega) _
  clear hgv hav ha hg hgo hav0 hgv0 hva hxi hC1 hC2 hAC hSI he hl hix hei hem hTO
  go_enter Try.func117, Try.ntmps117
  go_upto_region 1 with fail
  obtain ⟨W0, hW0⟩ : ∃ W0, W0 = (((w.alloc (.cells #[.slice (some ⟨b1, o1, none⟩) g.vals.length c1, .slice (some ⟨b6, o6, none⟩) g.edges.length c2] 48)).alloc (.cells #[.int .i64 a.start, .slice A3 a.accept.length c3, .slice A4 a.accept.length c4] 50)).alloc (.cells #[.int .i64 sid, .bool sinv] 142)) := ⟨_, rfl⟩
  rw [← hW0] at hb0 ⊢
  have bx : Blk W0 w.heap.size 48 #[.slice (some ⟨b1, o1, none⟩) g.vals.length c1, .slice (some ⟨b6, o6, none⟩) g.edges.length c2] := by rw [hW0]; exact ((Blk.new w _ _ w.heap.size rfl).alloc _).alloc _
  have by_ : Blk W0 (w.heap.size + 1) 50 #[.int .i64 a.start, .slice A3 a.accept.length c3, .slice A4 a.accept.length c4] := by rw [hW0]; exact (Blk.new (w.alloc _) _ _ (w.heap.size + 1) (by simp)).alloc _
  have bz : Blk W0 (w.heap.size + 1 + 1) 142 #[.int .i64 sid, .bool sinv] := by rw [hW0]; exact Blk.new ((w.alloc _).alloc _) _ _ (w.heap.size + 1 + 1) (by simp)
  have hs0 : w.heap.size + 1 + 1 + 1 = W0.heap.size := by rw [hW0]; simp
  have x0 : W0.cell? ⟨w.heap.size, 0, none⟩ = some (.slice (some ⟨b1, o1, none⟩) g.vals.length c1) := by exact bx.cell 0
  have x1 : W0.cell? ⟨w.heap.size, 1, none⟩ = some (.slice (some ⟨b6, o6, none⟩) g.edges.length c2) := by exact bx.cell 1
  have y0 : W0.cell? ⟨w.heap.size + 1, 0, none⟩ = some (.int .i64 a.start) := by exact by_.cell 0
  have y1 : W0.cell? ⟨w.heap.size + 1, 1, none⟩ = some (.slice A3 a.accept.length c3) := by exact by_.cell 1
  have y2 : W0.cell? ⟨w.heap.size + 1, 2, none⟩ = some (.slice A4 a.accept.length c4) := by exact by_.cell 2
  have z0 : W0.cell? ⟨w.heap.size + 1 + 1, 0, none⟩ = some (.int .i64 sid) := by exact bz.cell 0
  have z1 : W0.cell? ⟨w.heap.size + 1 + 1, 1, none⟩ = some (.bool sinv) := by exact bz.cell 1
  try rw [hs0]
  have l2 := bz.lt
  have l1 := by_.lt
  have l0 := bx.lt
  clear hW0 bx by_ bz hs0
  have q0 := kcell hb0 q0
  have q1 := kcell hb0 q1
  have q2 := kcell hb0 q2
  have q3 := kcell hb0 q3
  have d1 := kcell hb0 d1
  have hbb1 : b1 < W0.heap.size := Nat.lt_of_lt_of_le hb1 hb0.size
  have ne0 := World.new_ne W0 _ x0
  have ne1 := World.new_ne W0 _ q0
  have ne2 := World.new_ne W0 _ z0
  go_cut [12] (fun s12 wx => ∃ eb, s12 = .pointer (some ⟨eb, 0, none⟩) ∧ W0.heap.size ≤ eb ∧ eb < wx.heap.size ∧ wx.cell? ⟨eb, 0, none⟩ = some (.int .i64 eid) ∧ wx.cell? ⟨eb, 1, none⟩ = some (.int .i64 ef) ∧ wx.cell? ⟨eb, 2, none⟩ = some (.int .i64 et) ∧ wx.cell? ⟨eb, 3, none⟩ = some (.int .i64 el) ∧ Below W0.heap.size W0 wx)
  case first =>
    go_region_held3 (fun w' => w'.cell? ⟨w.heap.size, 0, none⟩ = some (.slice (some ⟨b1, o1, none⟩) g.vals.length c1) ∧ w'.cell? ⟨w.heap.size, 1, none⟩ = some (.slice (some ⟨b6, o6, none⟩) g.edges.length c2) ∧ w'.cell? ⟨w.heap.size + 1 + 1, 0, none⟩ = some (.int .i64 sid) ∧ w'.cell? ⟨b6, o6 + ix * 4, none⟩ = some (.int .i64 eid) ∧ w'.cell? ⟨b6, o6 + ix * 4 + 1, none⟩ = some (.int .i64 ef) ∧ w'.cell? ⟨b6, o6 + ix * 4 + 2, none⟩ = some (.int .i64 et) ∧ w'.cell? ⟨b6, o6 + ix * 4 + 3, none⟩ = some (.int .i64 el))
      (first | (with_reducible exact kS7 ne0 ne0 ne2 ne1 ne1 ne1 ne1 (kS7 ne0 ne0 ne2 ne1 ne1 ne1 ne1 (kS7 ne0 ne0 ne2 ne1 ne1 ne1 ne1 (kS7 ne0 ne0 ne2 ne1 ne1 ne1 ne1 (by assumption))))) | (exact ⟨x0, x1, z0, q0, q1, q2, q3⟩) | assumption | (exact kB7 hbE ⟨x0, x1, z0, q0, q1, q2, q3⟩) | (exact kA7 _ ⟨x0, x1, z0, q0, q1, q2, q3⟩) | (exact kA7 _ (kB7 hbE ⟨x0, x1, z0, q0, q1, q2, q3⟩)) | (exact kB7 hbE (kA7 _ ⟨x0, x1, z0, q0, q1, q2, q3⟩)) | (exact kB7 hbE (by assumption)) | (exact kA7 _ (by assumption)) | go_keep)
      (first | (go_at_call 149; refine (HEI.out _ (by first | exact hb0.drew | exact (hb0.drew).alloc (by have := hb0.size; simpa using this) _)).mono ?_; rintro en wE ⟨rfl, hbE⟩; have n0 := World.new_ne wE _ (kcell hbE (by first | exact x0 | exact kcell ((Below.refl _ _).alloc (Nat.le_refl _) _) x0)); have n1 := World.new_ne wE _ (kcell hbE (by first | exact q0 | exact kcell ((Below.refl _ _).alloc (Nat.le_refl _) _) q0)); have n2 := World.new_ne wE _ (kcell hbE (by first | exact z0 | exact kcell ((Below.refl _ _).alloc (Nat.le_refl _) _) z0))); (first | (have NC := nc4 hbE (n := W0.heap.size) rfl; obtain ⟨t0, t1, t2, t3, f0, f1, f2, f3⟩ := NC) | skip))
    all_goals (go_wp2_with fail)
    · go_meet
      exact ⟨_, rfl, hbE.size, by simp, by simp, by simp, by simp, by simp, (below_trans ((Below.refl W0.heap.size W0).drew) hbE).alloc hbE.size _⟩
    · go_meet
      have h9 := hbE.size
      have h8 : W0.heap.size < wE.heap.size := Nat.lt_of_lt_of_le (by simp) h9
      have h7 : Below W0.heap.size W0 wE := below_trans (((Below.refl W0.heap.size W0).alloc (Nat.le_refl _) _).drew) hbE
      exact ⟨_, rfl, Nat.le_refl _, by simpa using h8, by go_simp, by go_simp, by go_simp, by go_simp, (((h7.setCell (Nat.le_refl _) _).setCell (Nat.le_refl _) _).setCell (Nat.le_refl _) _).setCell (Nat.le_refl _) _⟩
  case rest =>
    obtain ⟨eb, rfl, hlo, hhi, e0, e1, e2, e3, hbc⟩ := hcut
    have x0 := kcell hbc x0
    have x1 := kcell hbc x1
    have y0 := kcell hbc y0
    have y1 := kcell hbc y1
    have y2 := kcell hbc y2
    have z0 := kcell hbc z0
    have z1 := kcell hbc z1
    have d1 := kcell hbc d1
    have hbw := below_trans hb0 hbc
    have hsz := hbc.size
    have l0 := Nat.lt_of_lt_of_le l0 hsz
    have l1 := Nat.lt_of_lt_of_le l1 hsz
    have l2 := Nat.lt_of_lt_of_le l2 hsz
    have hbb1 := Nat.lt_of_lt_of_le hbb1 hsz
    clear ne0 ne1 ne2 q0 q1 q2 q3 hb0 hbc
    go_wp2_with fail
    go_loopw [13, 14] (fun mm qq wr => ∃ (q : Nat) (u : World), q ≤ a.accept.length ∧ qq = .int .i64 (q : Int) ∧ mm = .int .i64 (foldS a vx l SI q : Nat) ∧ wr = ext wc u) (fun _ qq _ => a.accept.length - (intOf qq).toNat)
    case atStart => exact ⟨0, wc, Nat.zero_le _, rfl, rfl, ext_self _⟩
    case round =>
      obtain ⟨q, u, hq, rfl, rfl, rfl⟩ := hrel
      by_cases hlq : q < a.accept.length
      · have hqi : (q : Int) < (a.accept.length : Int) := by omega
        cases hb : SI.testBit q with
        | false =>
          have e3' := bit_off (by omega) (by omega) hb
          have HR := Lib.hid (show foldS a vx l SI q = foldS a vx l SI (q + 1) from (foldS_no hb).symm)
          clear hb
          go_wp2_with fail
          go_roundw
          case rel => exact ⟨q + 1, u, by omega, by go_num, by rw [← HR.out], rfl⟩
          case measure => simp [intOf]; omega
        | true =>
          have e3' := bit_on (by omega) (by omega) hb
          have HFS := Lib.hid (foldS_yes (v := vx) (l := l) HAO.out hlq hb)
          have hm0 := foldS_lt HAO.out vx l SI q
          have hcl := cls_lt HAO.out vx q hlq
          have hcl4 := lt12 HAO.out hcl
          clear hb
          generalize foldS a vx l SI q = m0 at *
          have HM0 := Lib.hid hm0
          clear hm0
          go_wp2_with fail
          refine wp_region_ext_lit (by kernel_rfl) (by kernel_rfl) ?_
          repeat (go_big_quiet_step ((go_at_call 150; exact Calls.ext_of (l14Closure_any _ a q vx _ (HAV.out.keep (below_trans hbw (below_trans (ext_below _ _) (ext_below _ _)))) HAO.out hlq (by omega)))))
          refine wpQuiet_nil ?_
          intro _ hw'
          obtain ⟨u2, hw''⟩ := hw'
          subst hw''
          obtain ⟨u3, hu3⟩ := ext_of (below_trans (ext_below wc u) (ext_below (ext wc u) u2))
          rw [hu3]
          clear hu3 u2 u
          go_wp2_with fail
          generalize cls a vx q = C at *
          go_loopw [13, 16] (fun mm rr wr => ∃ (r : Nat) (u : World), r ≤ a.accept.length ∧ rr = .int .i64 (r : Int) ∧ mm = .int .i64 (foldFr a l C m0 r : Nat) ∧ wr = ext wc u) (fun _ rr _ => a.accept.length - (intOf rr).toNat)
          case atStart => exact ⟨0, u3, Nat.zero_le _, rfl, rfl, rfl⟩
          case round =>
            obtain ⟨r, u, hr, rfl, rfl, rfl⟩ := hrel
            by_cases hlr : r < a.accept.length
            · obtain ⟨b, o, b3, o3, c3', rfl, hbb, hrw, -, -, hb3, hmvs⟩ := HAC.out.row r hlr
              have r0 := kcell hbw hrw
              have r1 := kcell hbw (hmvs l (by omega))
              have hws := hbw.size
              have hbb' : b < wc.heap.size := by omega
              have hb3' : b3 < wc.heap.size := by omega
              have hlri : (r : Int) < (a.accept.length : Int) := by omega
              have hlz : (l : Int) < 9 := by omega
              have hft := foldFr_lt HAO.out l C m0 r HM0.out
              have hft4 := lt12 HAO.out hft
              have hmv := mv_lt HAO.out r l
              have HNX := Lib.hid (show foldFr a l C m0 (r + 1) = if C.testBit r = true then aft1 a l (foldFr a l C m0 r) r else foldFr a l C m0 r by by_cases hb : C.testBit r = true; rw [if_pos hb, foldFr_yes hb]; rw [if_neg hb, foldFr_no (by simpa using hb)])
              have HA := Lib.hid (show aft1 a l (foldFr a l C m0 r) r = if 0 ≤ mv a r l then ins (foldFr a l C m0 r) (mv a r l).toNat else foldFr a l C m0 r from rfl)
              generalize foldFr a l C m0 r = m1 at *
              clear hrw hmvs hft
              go_wp2_with fail
              refine wp_region_ext_lit (by kernel_rfl) (by kernel_rfl) ?_
              repeat (go_big_quiet_step ((go_at_call 151; exact Calls.ext_of (HLET.out _))))
              refine wpQuiet_nil ?_
              intro _ hw'
              obtain ⟨u2, hw''⟩ := hw'
              subst hw''
              obtain ⟨u4, hu4⟩ := ext_of (below_trans (ext_below wc u) (ext_below (ext wc u) u2))
              rw [hu4]
              cases hb : C.testBit r with
              | false =>
                have b1f := bit_off (by omega) (by omega) hb
                have HR := Lib.hid (show m1 = foldFr a l C m0 (r + 1) by rw [HNX.out, if_neg (by simp [hb])])
                clear hb
                go_wp2_with fail
                go_roundw
                case rel => exact ⟨r + 1, u4, by omega, by go_num, by rw [← HR.out], rfl⟩
                case measure => simp [intOf]; omega
              | true =>
                have b1t := bit_on (by omega) (by omega) hb
                have HNX := Lib.hid (HNX.out.trans (if_pos hb))
                clear hb
                by_cases h0 : 0 ≤ mv a r l
                · have HR := Lib.hid (show ins m1 (mv a r l).toNat = foldFr a l C m0 (r + 1) by rw [HNX.out, HA.out, if_pos h0])
                  generalize mv a r l = z at *
                  obtain ⟨z, rfl⟩ := Int.eq_ofNat_of_zero_le h0
                  have e1' := shl_bit (s := z) (by omega)
                  have e2' := or_ins (m := m1) (s := z) (by omega) (by omega)
                  go_wp2_with fail
                  go_roundw
                  case rel => exact ⟨r + 1, u4, by omega, by go_num, by rw [← HR.out]; simp, rfl⟩
                  case measure => simp [intOf]; omega
                · have HR := Lib.hid (show m1 = foldFr a l C m0 (r + 1) by rw [HNX.out, HA.out, if_neg h0])
                  have h0' : decide (mv a r l ≥ 0) = false := by simp; omega
                  go_wp2_with fail
                  go_roundw
                  case rel => exact ⟨r + 1, u4, by omega, by go_num, by rw [← HR.out], rfl⟩
                  case measure => simp [intOf]; omega
            · obtain rfl : r = a.accept.length := by omega
              go_wp2_with fail
              go_roundw
              case rel => exact ⟨q + 1, u, by omega, by go_num, by rw [HFS.out], rfl⟩
              case measure => simp [intOf]; omega
      · obtain rfl : q = a.accept.length := by omega
        have hbE := below_trans hbw (ext_below wc u)
        go_wp2_with fail
        refine (HTO.out _).mono ?_
        rintro en w9 ⟨rfl, hb9⟩
        go_wp2_with fail
        go_ret2
        exact ⟨rfl, below_trans hbE hb9⟩

set_option maxHeartbeats 4000000 in
theorem l18Ends_any (vg va : Value) (g : Gr) (a : Au) (x SI : Nat) (w : World) (hgv : GrV 0 w.heap.size w vg g) (hav : AuV 0 w.heap.size w va a) (hgo : grOk g = true) (ha : auOk a = true) (hx : x < g.vals.length) (hSI : SI < 2 ^ a.accept.length) :
    Calls Try.prog 93 #[vg, va, .int .i64 (x : Int), .int .i64 (SI : Int)] w fun en w' => en = .returned (.bool (acc a SI (valAt g x))) ∧ Below w.heap.size w w' := by
  have hav0 := hav
  have hgv0 := hgv
  obtain ⟨A1, n1, c1, A2, n2, c2, rfl⟩ := hgv.shape
  obtain ⟨A3, c3, A4, c4, rfl, hl3, hm3, hl4, hm4, -⟩ := hav.form ha
  have hn12 := (auOk_iff.1 ha).1.2
  have hSI4 := lt12 ha hSI
  have hb0 : Below w.heap.size w ((w.alloc (.cells #[.slice A1 n1 c1, .slice A2 n2 c2] 48)).alloc (.cells #[.int .i64 a.start, .slice A3 a.accept.length c3, .slice A4 a.accept.length c4] 50)) := ((Below.refl _ _).alloc (Nat.le_refl _) _).alloc (by simp) _
  obtain ⟨R, hR⟩ : ∃ R, R = acc a SI (valAt g x) := ⟨_, rfl⟩
  rw [← hR]
  have HR := Lib.hid (show R = (mem a.accept.length SI).any (accC a (valAt g x)) by rw [hR, acc, mem12 ha hSI])
  have HGO := Lib.hid (grOk_iff.1 hgo)
  have HAO := Lib.hid ha
  have HAV := Lib.hid hav0
  have HGV := Lib.hid hgv0
  clear hgv hav ha hgo hav0 hgv0 hSI hR
  go_enter Try.func93, Try.ntmps93
  go_wp2_with fail
  obtain ⟨W0, hW0⟩ : ∃ W0, W0 = ((w.alloc (.cells #[.slice A1 n1 c1, .slice A2 n2 c2] 48)).alloc (.cells #[.int .i64 a.start, .slice A3 a.accept.length c3, .slice A4 a.accept.length c4] 50)) := ⟨_, rfl⟩
  rw [← hW0] at hb0 ⊢
  have x0 : W0.cell? ⟨w.heap.size, 0, none⟩ = some (.slice A1 n1 c1) := by rw [hW0]; simp
  have x1 : W0.cell? ⟨w.heap.size, 1, none⟩ = some (.slice A2 n2 c2) := by rw [hW0]; simp
  have y0 : W0.cell? ⟨w.heap.size + 1, 0, none⟩ = some (.int .i64 a.start) := by rw [hW0]; simp
  have y1 : W0.cell? ⟨w.heap.size + 1, 1, none⟩ = some (.slice A3 a.accept.length c3) := by rw [hW0]; simp
  have y2 : W0.cell? ⟨w.heap.size + 1, 2, none⟩ = some (.slice A4 a.accept.length c4) := by rw [hW0]; simp
  have hs0 : w.heap.size + 1 + 1 = W0.heap.size := by rw [hW0]; simp
  try rw [hs0]
  have l0 : w.heap.size + 1 < W0.heap.size := by omega
  have l00 : w.heap.size < W0.heap.size := by omega
  clear hW0 hs0
  go_loopw [9] (fun qq wr => ∃ (q : Nat) (u : World), q ≤ a.accept.length ∧ qq = .int .i64 (q : Int) ∧ (mem q SI).any (accC a (valAt g x)) = false ∧ wr = ext W0 u) (fun qq _ => a.accept.length - (intOf qq).toNat)
  case atStart => exact ⟨0, W0, Nat.zero_le _, rfl, rfl, ext_self _⟩
  case round =>
    obtain ⟨q, u, hq, rfl, hno, rfl⟩ := hrel
    have HNO := Lib.hid hno
    clear hno
    have hbE := below_trans hb0 (ext_below W0 u)
    by_cases hlq : q < a.accept.length
    · have hqi : (q : Int) < (a.accept.length : Int) := by omega
      cases hb : SI.testBit q with
      | false =>
        have e3' := bit_off (by omega) (by omega) hb
        have HM := Lib.hid (mem_no hb)
        clear hb
        go_wp2_with fail
        go_roundw
        case rel => exact ⟨q + 1, u, by omega, by go_num, by rw [HM.out]; exact HNO.out, rfl⟩
        case measure => simp [intOf]; omega
      | true =>
        have e3' := bit_on (by omega) (by omega) hb
        have HM := Lib.hid (mem_yes hb)
        have HB := Lib.hid hb
        have hacc := l14Accepts_any _ _ g a x q (ext W0 u) (HGV.out.keep hbE) (HAV.out.keep hbE) HGO.out HAO.out hx hlq
        have HACC := Lib.hid hacc
        clear hb hacc
        cases hc : accC a (valAt g x) q with
        | true =>
          rw [hc] at HACC
          have hfin : R = true := by rw [HR.out]; exact List.any_eq_true.2 ⟨q, mem_mem.2 ⟨hlq, HB.out⟩, hc⟩
          subst hfin
          clear HR hc
          go_wp2_with fail
          refine HACC.out.mono ?_
          rintro en w1 ⟨rfl, hb1⟩
          go_wp2_with fail
          go_ret
          exact ⟨rfl, below_trans hbE hb1⟩
        | false =>
          rw [hc] at HACC
          have HC := Lib.hid hc
          clear hc
          go_wp2_with fail
          refine HACC.out.mono ?_
          rintro en w1 ⟨rfl, hb1⟩
          obtain ⟨u4, hu4⟩ := ext_of (below_trans (ext_below W0 u) hb1)
          subst hu4
          go_wp2_with fail
          go_roundw
          case rel => exact ⟨q + 1, u4, by omega, by go_num, by rw [HM.out, List.any_append, HNO.out]; simp only [List.any_cons, List.any_nil, Bool.or_false, Bool.false_or]; exact HC.out, rfl⟩
          case measure => simp [intOf]; omega
    · obtain rfl : q = a.accept.length := by omega
      have hfin : R = false := by rw [HR.out]; exact HNO.out
      subst hfin
      clear HR
      go_wp2_with fail
      go_ret
      exact ⟨rfl, hbE⟩

set_option maxHeartbeats 2000000 in
theorem specWalkEnd (v1 v2 : Value) (g : Gr) (k : Wk) (w : World) (hv1 : GrV 0 w.heap.size w v1 g) (hv2 : WkV 0 w.heap.size w v2 k) :
    Calls Try.prog 86 #[v1, v2] w fun en w' => en = .returned (.int .i64 (walkEnd g k)) ∧ Below w.heap.size w w' := by
  have hv0 := hv1
  have hv3 := hv2
  obtain ⟨A1, n1, c1, A2, n2, c2, rfl⟩ := hv1.shape
  obtain ⟨A3, n3, c3, rfl⟩ := hv2.shape
  clear hv1 hv2
  have hb0 : Below w.heap.size w ((w.alloc (.cells #[.slice A1 n1 c1, .slice A2 n2 c2] 48)).alloc (.cells #[.int .i64 k.1, .slice A3 n3 c3] 64)) := ((Below.refl _ _).alloc (Nat.le_refl _) _).alloc (by simp) _
  have hc := specNodes _ _ g k _ (hv0.keep hb0) (hv3.keep hb0)
  have HC := Lib.hid hc
  clear hc
  obtain ⟨R, hR⟩ : ∃ R, R = walkEnd g k := ⟨_, rfl⟩
  rw [← hR]
  cases hw : walkOk g k with
  | false =>
    rw [hw] at HC
    have hfin : R = -1 := by rw [hR, walkEnd, hw]; rfl
    subst hfin
    clear hR hw
    go_enter Try.func86, Try.ntmps86
    go_wp2_with fail
    refine HC.out.mono ?_
    rintro e w1 ⟨v, rfl, ho, hb1⟩
    obtain ⟨A6, c6, rfl, -, -, -⟩ := ho.form cI_len
    go_wp2_with fail
    go_ret
    exact ⟨rfl, below_trans hb0 hb1⟩
  | true =>
    rw [hw] at HC
    have hfin : R = (nodeAt g k k.2.length : Int) := by rw [hR, walkEnd, hw]; rfl
    have HF := Lib.hid hfin
    have HW := Lib.hid hw
    have hl60 := (walkOk_parts hw).2.2.1
    clear hR hw hfin
    go_enter Try.func86, Try.ntmps86
    go_wp2_with fail
    refine HC.out.mono ?_
    rintro e w1 ⟨v, rfl, ho, hb1⟩
    rw [nodesOut_yes HW.out] at ho
    have hr := ho.1
    rw [nodesL_len] at hr
    obtain ⟨gN, cN, rfl, -, hgN, -, -⟩ := own_some hr (by omega)
    have q0 := (World.ownsRow.cellAt hr k.2.length (by omega)).trans (flatI_at (nodeAt_lt HW.out (Nat.le_refl _)).1)
    have m1 : ((k.2.length : Int) + 1) - 1 = (k.2.length : Int) := by omega
    clear hr ho
    go_wp2_with fail
    go_ret
    exact ⟨by rw [HF.out]; rfl, below_trans hb0 hb1⟩

theorem flatN_atS {xs : List Nat} {t : Nat} {x : Nat} (h : xs[t]? = some x) : (xs.flatMap cN)[t]? = some (.int .i64 (x : Int)) := by
  have := flat_at cN_len h 0 _ rfl
  simpa using this
set_option maxHeartbeats 8000000 in
set_option maxRecDepth 100000 in
theorem l18Along_any (vg va vk : Value) (g : Gr) (a : Au) (k : Wk) (w : World) (hgv : GrV 0 w.heap.size w vg g) (hav : AuV 0 w.heap.size w va a) (hkv : WkV 0 w.heap.size w vk k) (hw : walkOk g k = true) (ha : auOk a = true) :
    Calls Try.prog 92 #[vg, va, vk] w fun e w' => ∃ v1, e = .returned v1 ∧ Own w.heap.size w'.heap.size w' 3 cN 1 v1 (setsL g a k (k.2.length + 1)) ∧ Below w.heap.size w w' := by
  have hgv0 := hgv
  have hav0 := hav
  obtain ⟨A1, n1, c1, A2, n2, c2, rfl⟩ := hgv.shape
  obtain ⟨A3, n3, c3, A4, n4, c4, rfl⟩ := hav.shape
  obtain ⟨A5, c5, rfl, hl5, hm5, hC5⟩ := hkv.form
  obtain ⟨⟨hn1, hn12⟩, ⟨hst0, hst1⟩, -, -⟩ := auOk_iff.1 ha
  obtain ⟨s, hs⟩ : ∃ s : Nat, a.start = (s : Int) := ⟨a.start.toNat, by omega⟩
  obtain ⟨RS, hRS⟩ : ∃ RS, RS = setsL g a k (k.2.length + 1) := ⟨_, rfl⟩
  rw [← hRS]
  have hk0 := nodeAt_lt hw (Nat.zero_le _)
  have hk1 : k.1 = (nodeAt g k 0 : Int) := by have h := hk0.1; injection h
  have HAV := Lib.hid hav0
  rw [hs] at HAV ⊢
  have hb0 : Below w.heap.size w (((w.alloc (.cells #[.slice A1 n1 c1, .slice A2 n2 c2] 48)).alloc (.cells #[.int .i64 (s : Int), .slice A3 n3 c3, .slice A4 n4 c4] 50)).alloc (.cells #[.int .i64 k.1, .slice A5 k.2.length c5] 64)) := (((Below.refl _ _).alloc (Nat.le_refl _) _).alloc (by simp) _).alloc (by simp; omega) _
  have hsn : s < a.accept.length := by omega
  have e1 := shl_bit (s := s) (by omega)
  have hS1 : setsL g a k (0 + 1) = [bit s] := by simp [setsL, setAt, hs]
  have hg3 := (walkOk_parts hw).2.2.1
  have HS1 := Lib.hid hS1
  have HK1 := Lib.hid hk1
  have HRS := Lib.hid hRS
  have HGV := Lib.hid hgv0
  have HC5 := Lib.hid hC5
  have HW := Lib.hid hw
  have HA := Lib.hid ha
  have HGO := Lib.hid (walkOk_parts hw).1
  clear hgv hav hkv hgv0 hav0 hC5 hRS hS1 hk1 hk0 hs hst0 hst1 hw ha
  go_enter Try.func92, Try.ntmps92
  go_wp2_with fail
  obtain ⟨W0, hW0⟩ : ∃ W0, W0 = (((w.alloc (.cells #[.slice A1 n1 c1, .slice A2 n2 c2] 48)).alloc (.cells #[.int .i64 (s : Int), .slice A3 n3 c3, .slice A4 n4 c4] 50)).alloc (.cells #[.int .i64 k.1, .slice A5 k.2.length c5] 64)) := ⟨_, rfl⟩
  rw [← hW0] at hb0 ⊢
  have bx : Blk W0 w.heap.size 48 #[.slice A1 n1 c1, .slice A2 n2 c2] := by rw [hW0]; exact ((Blk.new w _ _ w.heap.size rfl).alloc _).alloc _
  have by_ : Blk W0 (w.heap.size + 1) 50 #[.int .i64 (s : Int), .slice A3 n3 c3, .slice A4 n4 c4] := by rw [hW0]; exact (Blk.new (w.alloc _) _ _ (w.heap.size + 1) (by simp)).alloc _
  have bz : Blk W0 (w.heap.size + 1 + 1) 64 #[.int .i64 k.1, .slice A5 k.2.length c5] := by rw [hW0]; exact Blk.new ((w.alloc _).alloc _) _ _ (w.heap.size + 1 + 1) (by simp)
  have hs0 : w.heap.size + 1 + 1 + 1 = W0.heap.size := by rw [hW0]; simp
  have x0 : W0.cell? ⟨w.heap.size, 0, none⟩ = some (.slice A1 n1 c1) := by exact bx.cell 0
  have x1 : W0.cell? ⟨w.heap.size, 1, none⟩ = some (.slice A2 n2 c2) := by exact bx.cell 1
  have y0 : W0.cell? ⟨w.heap.size + 1, 0, none⟩ = some (.int .i64 (s : Int)) := by exact by_.cell 0
  have y1 : W0.cell? ⟨w.heap.size + 1, 1, none⟩ = some (.slice A3 n3 c3) := by exact by_.cell 1
  have y2 : W0.cell? ⟨w.heap.size + 1, 2, none⟩ = some (.slice A4 n4 c4) := by exact by_.cell 2
  have z0 : W0.cell? ⟨w.heap.size + 1 + 1, 0, none⟩ = some (.int .i64 k.1) := by exact bz.cell 0
  have z1 : W0.cell? ⟨w.heap.size + 1 + 1, 1, none⟩ = some (.slice A5 k.2.length c5) := by exact bz.cell 1
  try rw [hs0]
  have l2 := bz.lt
  have l1 := by_.lt
  have l0 := bx.lt
  clear hW0 bx by_ bz hs0
  go_loopw [7, 8, 9] (fun ss nn ii wr => ∃ i : Nat, i ≤ k.2.length ∧ ii = .int .i64 (i : Int) ∧ nn = .int .i64 (nodeAt g k i : Int) ∧ wr.ownsRow W0.heap.size 3 1 ss (setsL g a k (i + 1)).length ((setsL g a k (i + 1)).flatMap cN) ∧ Below W0.heap.size W0 wr) (fun _ _ ii _ => k.2.length - (intOf ii).toNat)
  case atStart => exact ⟨0, Nat.zero_le _, rfl, by rw [HK1.out], by rw [HS1.out]; exact World.ownsRow_lit W0 #[.int .i64 (bit s : Int)] 1 (Nat.le_refl _) (by decide) rfl, (Below.refl _ _).alloc (Nat.le_refl _) _⟩
  case round =>
    clear HS1 HK1 e1
    obtain ⟨i, hi, rfl, rfl, hrow, hbel⟩ := hrel
    have hbw2 := below_trans hb0 hbel
    have x0 := kcell hbel x0
    have x1 := kcell hbel x1
    have y0 := kcell hbel y0
    have y1 := kcell hbel y1
    have y2 := kcell hbel y2
    have z0 := kcell hbel z0
    have z1 := kcell hbel z1
    have hsz := hbel.size
    have l0 := Nat.lt_of_lt_of_le l0 hsz
    have l1 := Nat.lt_of_lt_of_le l1 hsz
    have l2 := Nat.lt_of_lt_of_le l2 hsz
    have HROW := Lib.hid hrow
    have HBW2 := Lib.hid hbw2
    clear hrow
    by_cases hlt : i < k.2.length
    · obtain ⟨st, e, hst, he, ht, hl, -, hl6⟩ := walk_step HW.out hlt
      obtain ⟨b5, o5, rfl, hb5, p0, p1⟩ := HC5.out.st hst
      have p0 := kcell hbw2 p0
      have p1 := kcell hbw2 p1
      have hb5w := Nat.lt_of_lt_of_le hb5 hbw2.size
      obtain ⟨hna, hnl⟩ := nodeAt_lt HW.out hi
      have hrow := HROW.out
      rw [setsL_len] at hrow
      obtain ⟨gS, cS, rfl, hgS, hgS2, -, -⟩ := own_some hrow (by omega)
      have s0 := (World.ownsRow.cellAt hrow i (by omega)).trans (flatN_atS (setsL_at (g := g) (a := a) (k := k) (show i < i + 1 by omega)))
      have HSA := Lib.hid (show setAt g a k (i + 1) = aft a (setAt g a k i) (valAt g (nodeAt g k i)) (letAt g k i) from rfl)
      have HSN := Lib.hid (setsL_snoc g a k (i + 1))
      have hsla := setAt_lt HA.out k i (g := g)
      have hsla4 := lt12 HA.out hsla
      have hsal := setsL_len g a k (i + 1)
      obtain ⟨sid, sinv⟩ := st
      simp only at p0 p1
      have HNX := Lib.hid (fun (W : World) (hW : Below w.heap.size w W) => by
        have h := l18Next_any _ _ g a (nodeAt g k i) (setAt g a k i) (sid, sinv) e (letAt g k i) W (HGV.out.keep hW) (HAV.out.keep hW) (grOk_iff.2 HGO.out) HA.out hnl hsla he hl
        rw [ht, ← HSA.out] at h
        exact h)
      generalize setAt g a k (i + 1) = SJ at *
      generalize setAt g a k i = SI at *
      obtain ⟨NJ, hNJ⟩ : ∃ NJ, NJ = nodeAt g k (i + 1) := ⟨_, rfl⟩
      have HNJ := Lib.hid hNJ
      rw [← hNJ] at HNX
      clear hNJ
      generalize nodeAt g k i = NI at *
      generalize setsL g a k (i + 1) = SX at *
      have hki : (i : Int) < (k.2.length : Int) := by omega
      have hii1 : (i : Int) < (i : Int) + 1 := by omega
      clear hst he ht hl hna hrow hsla
      go_wp2_with fail
      refine wp_region_ext_lit (by kernel_rfl) (by kernel_rfl) ?_
      repeat (go_big_quiet_step ((go_at_call 117; exact Calls.ext_of (HNX.out _ (below_trans HBW2.out (ext_below _ _))))))
      refine wpQuiet_nil ?_
      intro _ hw'
      obtain ⟨u2, hw''⟩ := hw'
      subst hw''
      have hbu := ext_below wr u2
      have HR2 := Lib.hid (ownsRow_below HROW.out hbu (Nat.le_refl _))
      have hz2 : W0.heap.size ≤ (ext wr u2).heap.size := Nat.le_trans hsz hbu.size
      have hbel2 := hbel.trans (hbu.mono hsz)
      rw [hsal] at HR2
      generalize ext wr u2 = wx at *
      go_wp2_with (at_builtin; (refine wpList_append1 cN elInt rfl _ _ rfl W0.heap.size _ SX SJ _ 1 _ (by rfl) (by rw [hsal]; exact HR2.out) (by rfl) rfl rfl rfl (cN_one _) (by omega) (by omega) (by omega) ?_); intro v' w4 hrow' hb4 _ _)
      go_roundw
      case rel => exact ⟨i + 1, by omega, by go_num, by rw [HNJ.out], by rw [HSN.out]; exact hrow', hbel2.trans hb4⟩
      case measure => simp [intOf]; omega
    · obtain rfl : i = k.2.length := by omega
      have hrow := HROW.out
      rw [setsL_len] at hrow
      obtain ⟨gS, cS, rfl, hgS, hgS2, -, -⟩ := own_some hrow (by omega)
      have hoS := Own.of_row (xs := setsL g a k (k.2.length + 1)) (ownsRow_mono (b := w.heap.size) HROW.out hb0.size) (by rw [setsL_len]) rfl
      rw [← HRS.out] at hoS
      have HOS := Lib.hid hoS
      clear hrow hoS
      go_wp2_with fail
      go_ret
      exact ⟨_, rfl, HOS.out, HBW2.out⟩

set_option maxHeartbeats 4000000 in
set_option maxRecDepth 100000 in
theorem specMatchesWalk (vg va vk : Value) (g : Gr) (a : Au) (k : Wk) (w : World) (hgv : GrV 0 w.heap.size w vg g) (hav : AuV 0 w.heap.size w va a) (hkv : WkV 0 w.heap.size w vk k) :
    Calls Try.prog 43 #[vg, va, vk] w fun e w' => e = .returned (.bool (matchB g a k)) ∧ Below w.heap.size w w' := by
  have hgv0 := hgv
  have hav0 := hav
  have hkv0 := hkv
  obtain ⟨A1, n1, c1, A2, n2, c2, rfl⟩ := hgv.shape
  obtain ⟨A3, n3, c3, A4, n4, c4, rfl⟩ := hav.shape
  obtain ⟨A5, n5, c5, rfl⟩ := hkv.shape
  have hb0 : Below w.heap.size w (((w.alloc (.cells #[.slice A1 n1 c1, .slice A2 n2 c2] 48)).alloc (.cells #[.int .i64 a.start, .slice A3 n3 c3, .slice A4 n4 c4] 50)).alloc (.cells #[.int .i64 k.1, .slice A5 n5 c5] 64)) := (((Below.refl _ _).alloc (Nat.le_refl _) _).alloc (by simp) _).alloc (by simp; omega) _
  obtain ⟨R, hR⟩ : ∃ R, R = matchB g a k := ⟨_, rfl⟩
  rw [← hR]
  have HR := Lib.hid hR
  have HGV := Lib.hid hgv0
  have HAV := Lib.hid hav0
  have HKV := Lib.hid hkv0
  clear hgv hav hkv hgv0 hav0 hkv0 hR
  go_enter Try.func43, Try.ntmps43
  go_wp2_with fail
  obtain ⟨W0, hW0⟩ : ∃ W0, W0 = (((w.alloc (.cells #[.slice A1 n1 c1, .slice A2 n2 c2] 48)).alloc (.cells #[.int .i64 a.start, .slice A3 n3 c3, .slice A4 n4 c4] 50)).alloc (.cells #[.int .i64 k.1, .slice A5 n5 c5] 64)) := ⟨_, rfl⟩
  rw [← hW0] at hb0 ⊢
  have bx : Blk W0 w.heap.size 48 #[.slice A1 n1 c1, .slice A2 n2 c2] := by rw [hW0]; exact ((Blk.new w _ _ w.heap.size rfl).alloc _).alloc _
  have by_ : Blk W0 (w.heap.size + 1) 50 #[.int .i64 a.start, .slice A3 n3 c3, .slice A4 n4 c4] := by rw [hW0]; exact (Blk.new (w.alloc _) _ _ (w.heap.size + 1) (by simp)).alloc _
  have bz : Blk W0 (w.heap.size + 1 + 1) 64 #[.int .i64 k.1, .slice A5 n5 c5] := by rw [hW0]; exact Blk.new ((w.alloc _).alloc _) _ _ (w.heap.size + 1 + 1) (by simp)
  have x0 : W0.cell? ⟨w.heap.size, 0, none⟩ = some (.slice A1 n1 c1) := by exact bx.cell 0
  have x1 : W0.cell? ⟨w.heap.size, 1, none⟩ = some (.slice A2 n2 c2) := by exact bx.cell 1
  have y0 : W0.cell? ⟨w.heap.size + 1, 0, none⟩ = some (.int .i64 a.start) := by exact by_.cell 0
  have y1 : W0.cell? ⟨w.heap.size + 1, 1, none⟩ = some (.slice A3 n3 c3) := by exact by_.cell 1
  have y2 : W0.cell? ⟨w.heap.size + 1, 2, none⟩ = some (.slice A4 n4 c4) := by exact by_.cell 2
  have z0 : W0.cell? ⟨w.heap.size + 1 + 1, 0, none⟩ = some (.int .i64 k.1) := by exact bz.cell 0
  have z1 : W0.cell? ⟨w.heap.size + 1 + 1, 1, none⟩ = some (.slice A5 n5 c5) := by exact bz.cell 1
  have l2 := bz.lt
  have l1 := by_.lt
  have l0 := bx.lt
  clear hW0 bx by_ bz
  have hiw := specIsWalk _ _ g k W0 (HGV.out.keep hb0) (HKV.out.keep hb0)
  have HIW := Lib.hid hiw
  clear hiw
  cases hw : walkOk g k with
  | false =>
    rw [hw] at HIW
    have hfin : R = false := by rw [HR.out, matchB, hw]; rfl
    subst hfin
    clear HR hw
    refine HIW.out.mono ?_
    rintro e w1 ⟨rfl, hb1⟩
    go_wp2_with fail
    go_ret
    exact ⟨rfl, below_trans hb0 hb1⟩
  | true =>
    rw [hw] at HIW
    refine HIW.out.mono ?_
    rintro e w1 ⟨rfl, hb1⟩
    have hb2 := below_trans hb0 hb1
    have x0 := kcell hb1 x0
    have x1 := kcell hb1 x1
    have y0 := kcell hb1 y0
    have y1 := kcell hb1 y1
    have y2 := kcell hb1 y2
    have z0 := kcell hb1 z0
    have z1 := kcell hb1 z1
    have hs1 := hb1.size
    have l0 := Nat.lt_of_lt_of_le l0 hs1
    have l1 := Nat.lt_of_lt_of_le l1 hs1
    have l2 := Nat.lt_of_lt_of_le l2 hs1
    have hva := specValidAutomaton _ a w1 (HAV.out.keep hb2)
    have HVA := Lib.hid hva
    clear hva
    cases ha : auOk a with
    | false =>
      rw [ha] at HVA
      have hfin : R = false := by rw [HR.out, matchB, hw, ha]; rfl
      subst hfin
      clear HR hw ha
      go_wp2_with fail
      refine HVA.out.mono ?_
      rintro e w3 ⟨rfl, hb3⟩
      go_wp2_with fail
      go_ret
      exact ⟨rfl, below_trans hb2 hb3⟩
    | true =>
      rw [ha] at HVA
      have hfin : R = acc a (setAt g a k k.2.length) (valAt g (nodeAt g k k.2.length)) := by rw [HR.out, matchB, hw, ha]; simp
      have hl60 := (walkOk_parts hw).2.2.1
      have hgo := (walkOk_parts hw).1
      obtain ⟨hna, hnl⟩ := nodeAt_lt hw (Nat.le_refl _)
      have hsla := setAt_lt ha k k.2.length (g := g)
      have HLA := Lib.hid (fun (W : World) (hW : Below w.heap.size w W) => l18Along_any _ _ _ g a k W (HGV.out.keep hW) (HAV.out.keep hW) (HKV.out.keep hW) hw ha)
      have HWE := Lib.hid (fun (W : World) (hW : Below w.heap.size w W) => by
        have h := specWalkEnd _ _ g k W (HGV.out.keep hW) (HKV.out.keep hW)
        rw [walkEnd, if_pos hw] at h
        exact h)
      have HLE := Lib.hid (fun (W : World) (hW : Below w.heap.size w W) => l18Ends_any _ _ g a (nodeAt g k k.2.length) (setAt g a k k.2.length) W (HGV.out.keep hW) (HAV.out.keep hW) (grOk_iff.2 hgo) ha hnl hsla)
      rw [← hfin] at HLE
      have hs1 := setsL_at (g := g) (a := a) (k := k) (show k.2.length < k.2.length + 1 by omega)
      have HS1 := Lib.hid hs1
      clear HR hfin hw ha hna hnl hsla hgo hs1
      go_wp2_with fail
      refine HVA.out.mono ?_
      rintro e w3 ⟨rfl, hb3⟩
      have hb4 := below_trans hb2 hb3
      have x0 := kcell hb3 x0
      have x1 := kcell hb3 x1
      have y0 := kcell hb3 y0
      have y1 := kcell hb3 y1
      have y2 := kcell hb3 y2
      have z0 := kcell hb3 z0
      have z1 := kcell hb3 z1
      have hs3 := hb3.size
      have l0 := Nat.lt_of_lt_of_le l0 hs3
      have l1 := Nat.lt_of_lt_of_le l1 hs3
      have l2 := Nat.lt_of_lt_of_le l2 hs3
      go_wp2_with fail
      refine (HLA.out _ hb4).mono ?_
      rintro e w5 ⟨v1, rfl, ho1, hb5⟩
      have HB := Lib.hid (below_trans hb4 hb5)
      have x0 := kcell hb5 x0
      have x1 := kcell hb5 x1
      have y0 := kcell hb5 y0
      have y1 := kcell hb5 y1
      have y2 := kcell hb5 y2
      have z0 := kcell hb5 z0
      have z1 := kcell hb5 z1
      have hs5 := hb5.size
      have l0 := Nat.lt_of_lt_of_le l0 hs5
      have l1 := Nat.lt_of_lt_of_le l1 hs5
      have l2 := Nat.lt_of_lt_of_le l2 hs5
      have r1 := ho1.1
      rw [setsL_len] at r1
      obtain ⟨gS, cS, rfl, -, hgS, -, -⟩ := own_some r1 (by omega)
      have s0 := (World.ownsRow.cellAt r1 k.2.length (by omega)).trans (flatN_atS HS1.out)
      have m1 : ((k.2.length : Int) + 1) - 1 = (k.2.length : Int) := by omega
      generalize setAt g a k k.2.length = SI at *
      generalize nodeAt g k k.2.length = NI at *
      clear r1 ho1 hb0 hb1 hb2 hb3 hb4 hb5
      go_wp2_with fail
      refine wp_region_ext_lit (by kernel_rfl) (by kernel_rfl) ?_
      repeat (go_big_quiet_step ((first | (go_at_call 86; exact Calls.ext_of (HWE.out _ (below_trans HB.out (ext_below _ _)))) | (go_at_call 93; exact Calls.ext_of (HLE.out _ (below_trans HB.out (ext_below _ _)))))))
      refine wpQuiet_nil ?_
      intro _ hw'
      obtain ⟨u2, hw''⟩ := hw'
      subst hw''
      go_wp2_with fail
      go_ret
      exact ⟨rfl, below_trans HB.out (ext_below _ _)⟩

theorem isWit_spec (g : Gr) (a : Au) (x y : Int) (k : Wk) : isWit g a x y k = ((matchB g a k && k.1 == x) && walkEnd g k == y) := by
  unfold isWit
  cases matchB g a k <;> cases (k.1 == x) <;> simp
set_option maxHeartbeats 4000000 in
theorem specIsWitness (vg va vk : Value) (g : Gr) (a : Au) (x y : Int) (k : Wk) (w : World) (hgv : GrV 0 w.heap.size w vg g) (hav : AuV 0 w.heap.size w va a) (hkv : WkV 0 w.heap.size w vk k) :
    Calls Try.prog 39 #[vg, va, .int .i64 x, .int .i64 y, vk] w fun e w' => e = .returned (.bool (isWit g a x y k)) ∧ Below w.heap.size w w' := by
  have hgv0 := hgv
  have hav0 := hav
  have hkv0 := hkv
  obtain ⟨A1, n1, c1, A2, n2, c2, rfl⟩ := hgv.shape
  obtain ⟨A3, n3, c3, A4, n4, c4, rfl⟩ := hav.shape
  obtain ⟨A5, n5, c5, rfl⟩ := hkv.shape
  have hb0 : Below w.heap.size w (((w.alloc (.cells #[.slice A1 n1 c1, .slice A2 n2 c2] 48)).alloc (.cells #[.int .i64 a.start, .slice A3 n3 c3, .slice A4 n4 c4] 50)).alloc (.cells #[.int .i64 k.1, .slice A5 n5 c5] 64)) := (((Below.refl _ _).alloc (Nat.le_refl _) _).alloc (by simp) _).alloc (by simp; omega) _
  obtain ⟨R, hR⟩ : ∃ R, R = isWit g a x y k := ⟨_, rfl⟩
  rw [← hR]
  have HR := Lib.hid (hR.trans (isWit_spec g a x y k))
  have HGV := Lib.hid hgv0
  have HAV := Lib.hid hav0
  have HKV := Lib.hid hkv0
  clear hgv hav hkv hgv0 hav0 hkv0 hR
  have HMW := Lib.hid (fun (W : World) (hW : Below w.heap.size w W) => specMatchesWalk _ _ _ g a k W (HGV.out.keep hW) (HAV.out.keep hW) (HKV.out.keep hW))
  have HWE := Lib.hid (fun (W : World) (hW : Below w.heap.size w W) => specWalkEnd _ _ g k W (HGV.out.keep hW) (HKV.out.keep hW))
  go_enter Try.func39, Try.ntmps39
  generalize walkEnd g k = we at HR HWE
  go_wp2_with fail
  obtain ⟨W0, hW0⟩ : ∃ W0, W0 = (((w.alloc (.cells #[.slice A1 n1 c1, .slice A2 n2 c2] 48)).alloc (.cells #[.int .i64 a.start, .slice A3 n3 c3, .slice A4 n4 c4] 50)).alloc (.cells #[.int .i64 k.1, .slice A5 n5 c5] 64)) := ⟨_, rfl⟩
  rw [← hW0] at hb0 ⊢
  have bx : Blk W0 w.heap.size 48 #[.slice A1 n1 c1, .slice A2 n2 c2] := by rw [hW0]; exact ((Blk.new w _ _ w.heap.size rfl).alloc _).alloc _
  have by_ : Blk W0 (w.heap.size + 1) 50 #[.int .i64 a.start, .slice A3 n3 c3, .slice A4 n4 c4] := by rw [hW0]; exact (Blk.new (w.alloc _) _ _ (w.heap.size + 1) (by simp)).alloc _
  have bz : Blk W0 (w.heap.size + 1 + 1) 64 #[.int .i64 k.1, .slice A5 n5 c5] := by rw [hW0]; exact Blk.new ((w.alloc _).alloc _) _ _ (w.heap.size + 1 + 1) (by simp)
  have x0 : W0.cell? ⟨w.heap.size, 0, none⟩ = some (.slice A1 n1 c1) := by exact bx.cell 0
  have x1 : W0.cell? ⟨w.heap.size, 1, none⟩ = some (.slice A2 n2 c2) := by exact bx.cell 1
  have y0 : W0.cell? ⟨w.heap.size + 1, 0, none⟩ = some (.int .i64 a.start) := by exact by_.cell 0
  have y1 : W0.cell? ⟨w.heap.size + 1, 1, none⟩ = some (.slice A3 n3 c3) := by exact by_.cell 1
  have y2 : W0.cell? ⟨w.heap.size + 1, 2, none⟩ = some (.slice A4 n4 c4) := by exact by_.cell 2
  have z0 : W0.cell? ⟨w.heap.size + 1 + 1, 0, none⟩ = some (.int .i64 k.1) := by exact bz.cell 0
  have z1 : W0.cell? ⟨w.heap.size + 1 + 1, 1, none⟩ = some (.slice A5 n5 c5) := by exact bz.cell 1
  clear hW0 bx by_ bz
  refine (HMW.out W0 hb0).mono ?_
  rintro e w1 ⟨rfl, hb1⟩
  have hb2 := below_trans hb0 hb1
  have x0 := kcell hb1 x0
  have x1 := kcell hb1 x1
  have y0 := kcell hb1 y0
  have y1 := kcell hb1 y1
  have y2 := kcell hb1 y2
  have z0 := kcell hb1 z0
  have z1 := kcell hb1 z1
  cases h0 : matchB g a k with
  | false =>
    have hfin : R = false := by rw [HR.out, h0]; rfl
    subst hfin
    clear HR
    go_wp2_with fail
    go_ret
    exact ⟨rfl, hb2⟩
  | true =>
    rw [h0, Bool.true_and] at HR
    cases h1 : (k.1 == x) with
    | false =>
      have hfin : R = false := by rw [HR.out, h1]; rfl
      subst hfin
      clear HR
      go_wp2_with fail
      go_ret
      exact ⟨rfl, hb2⟩
    | true =>
      rw [h1, Bool.true_and] at HR
      cases h2 : (we == y) with
      | false =>
        have hfin : R = false := by rw [HR.out, h2]
        subst hfin
        clear HR
        go_wp2_with fail
        refine (HWE.out w1 hb2).mono ?_
        rintro e w3 ⟨rfl, hb3⟩
        go_wp2_with fail
        go_ret
        exact ⟨rfl, below_trans hb2 hb3⟩
      | true =>
        have hfin : R = true := by rw [HR.out, h2]
        subst hfin
        clear HR
        go_wp2_with fail
        refine (HWE.out w1 hb2).mono ?_
        rintro e w3 ⟨rfl, hb3⟩
        go_wp2_with fail
        go_ret
        exact ⟨rfl, below_trans hb2 hb3⟩
end Go.Proofs.Ytmlfkledhnlkeaa

/- Simple paths: IsSimplePath and IsSimpleWitness, the program's and the reference's. -/
namespace Go.Proofs.Ytmlfkledhnlkeaa
set_option linter.unusedVariables false
set_option linter.unusedSimpArgs false
open Go.ChangeShapes Go.WideShapes Go.ChangeAt Go.RowKit
attribute [local go_sem] ext_cell ext_frozen ext_lt ext_lt1 ext_lt2 ext_lt3 ltn2 ltn3 ltn13 lts1 lts2 lts3

def isSimple (g : Gr) (k : Wk) : Bool := walkOk g k && decide ((ascL (nodesL g k)).length = (nodesL g k).length)
def isSimpleWit (g : Gr) (a : Au) (x y : Int) (k : Wk) : Bool := isWit g a x y k && isSimple g k
theorem nodup_sub : ∀ (s l : List Int), s.Nodup → (∀ x ∈ s, x ∈ l) → s.length ≤ l.length
  | [], _, _, _ => Nat.zero_le _
  | x :: s, l, hn, h => by
    obtain ⟨h1, h2⟩ := List.nodup_cons.1 hn
    have hx := h x (by simp)
    have := nodup_sub s (l.erase x) h2 (fun y hy => by
      have hne : y ≠ x := fun e => h1 (e ▸ hy)
      exact (List.mem_erase_of_ne hne).2 (h y (List.mem_cons_of_mem _ hy)))
    rw [List.length_erase_of_mem hx] at this
    have hp := List.length_pos_of_mem hx
    rw [List.length_cons]
    omega
theorem ascL_nodup (l : List Int) : (ascL l).Nodup := (ascL_spec l).1.imp fun h => by omega
theorem ascL_len_yes {l : List Int} (h : l.Nodup) : (ascL l).length = l.length :=
  Nat.le_antisymm (nodup_sub _ _ (ascL_nodup l) fun x hx => ((ascL_spec l).2 x).1 hx) (nodup_sub _ _ h fun x hx => ((ascL_spec l).2 x).2 hx)
theorem ascL_len_no {l : List Int} {i : Nat} {x : Int} (hi : l[i]? = some x) (h : x ∈ l.take i) : ¬ (ascL l).length = l.length := by
  have hil := (List.getElem?_eq_some_iff.1 hi).1
  have := nodup_sub _ (l.take i ++ l.drop (i + 1)) (ascL_nodup l) fun y hy => by
    have hm := ((ascL_spec l).2 y).1 hy
    rw [← List.take_append_drop i l, List.drop_eq_getElem_cons hil] at hm
    rcases List.mem_append.1 hm with h1 | h1
    · exact List.mem_append_left _ h1
    · rcases List.mem_cons.1 h1 with h1 | h1
      · have : y = x := by rw [List.getElem?_eq_getElem hil] at hi; injection hi with hi; rw [h1, hi]
        subst this
        exact List.mem_append_left _ h
      · exact List.mem_append_right _ h1
  rw [List.length_append, List.length_take, List.length_drop] at this
  omega
def seenM (l : List Int) (i : Nat) : Nat := (l.take i).foldl (fun m x => ins m x.toNat) 0
theorem seenM_succ {l : List Int} {i : Nat} {x : Int} (h : l[i]? = some x) : seenM l (i + 1) = ins (seenM l i) x.toNat := foldl_take h 0
theorem foldl_ins_test (l : List Int) (m t : Nat) : (l.foldl (fun m x => ins m x.toNat) m).testBit t = (m.testBit t || l.any (fun x => decide (x.toNat = t))) := by
  induction l generalizing m with
  | nil => simp
  | cons x l ih => rw [List.foldl_cons, ih, ins_test, List.any_cons, Bool.or_assoc]
theorem seenM_test (l : List Int) (i t : Nat) : (seenM l i).testBit t = true ↔ ∃ x ∈ l.take i, x.toNat = t := by
  rw [seenM, foldl_ins_test]
  simp
theorem seenM_lt {l : List Int} {n : Nat} (h : ∀ x ∈ l, x.toNat < n) (i : Nat) : seenM l i < 2 ^ n := by
  unfold seenM
  have : ∀ (r : List Int) (m : Nat), (∀ x ∈ r, x.toNat < n) → m < 2 ^ n → r.foldl (fun m x => ins m x.toNat) m < 2 ^ n := by
    intro r
    induction r with
    | nil => intro m _ hm; exact hm
    | cons x r ih => intro m hr hm; exact ih _ (fun y hy => hr y (List.mem_cons_of_mem _ hy)) (ins_lt hm (hr x (by simp)))
  exact this _ _ (fun x hx => h x (List.mem_of_mem_take hx)) (Nat.two_pow_pos _)

set_option maxHeartbeats 2000000 in
theorem implIsSimple (v1 v2 : Value) (g : Gr) (k : Wk) (w : World) (hv1 : GrV 0 w.heap.size w v1 g) (hv2 : WkV 0 w.heap.size w v2 k) :
    Calls Try.prog 106 #[v1, v2] w fun en w' => en = .returned (.bool (isSimple g k)) ∧ Below w.heap.size w w' := by
  have hv0 := hv1
  have hv3 := hv2
  obtain ⟨A1, n1, c1, A2, n2, c2, rfl⟩ := hv1.shape
  obtain ⟨A3, n3, c3, rfl⟩ := hv2.shape
  clear hv1 hv2
  have hb0 : Below w.heap.size w ((w.alloc (.cells #[.slice A1 n1 c1, .slice A2 n2 c2] 48)).alloc (.cells #[.int .i64 k.1, .slice A3 n3 c3] 64)) := ((Below.refl _ _).alloc (Nat.le_refl _) _).alloc (by simp) _
  have hc := implNodes _ _ g k _ (hv0.keep hb0) (hv3.keep hb0)
  have HC := Lib.hid hc
  clear hc
  obtain ⟨R, hR⟩ : ∃ R, R = isSimple g k := ⟨_, rfl⟩
  rw [← hR]
  cases hw : walkOk g k with
  | false =>
    rw [hw] at HC
    have hfin : R = false := by rw [hR, isSimple, hw]; rfl
    subst hfin
    clear hR hw
    go_enter Try.func106, Try.ntmps106
    go_wp2_with fail
    refine HC.out.mono ?_
    rintro e w1 ⟨v, rfl, ho, hb1⟩
    obtain ⟨A6, c6, rfl, -, -, -⟩ := ho.form cI_len
    go_wp2_with fail
    go_ret
    exact ⟨rfl, below_trans hb0 hb1⟩
  | true =>
    rw [hw] at HC
    have hfin : R = decide ((ascL (nodesL g k)).length = (nodesL g k).length) := by rw [hR, isSimple, hw]; rfl
    have HF := Lib.hid hfin
    have HW := Lib.hid hw
    have hl60 := (walkOk_parts hw).2.2.1
    clear hR hw hfin
    go_enter Try.func106, Try.ntmps106
    go_wp2_with fail
    refine HC.out.mono ?_
    rintro e w1 ⟨v, rfl, ho, hb1⟩
    rw [nodesOut_yes HW.out] at ho
    have hsl := (ho.sl cI_len).all (Nat.le_refl _)
    have hlen : (nodesL g k).length ≤ 61 := by rw [nodesL_len]; omega
    obtain ⟨A6, c6, rfl, -, -, -⟩ := ho.form cI_len
    have has := ascending_any _ _ _ hsl (by omega)
    have HAS := Lib.hid has
    clear has hsl ho HC
    generalize nodesL g k = L at *
    go_wp2_with fail
    refine HAS.out.mono ?_
    rintro e w2 ⟨v2, rfl, ho2, hb2⟩
    obtain ⟨A7, c7, rfl, -, -, -⟩ := ho2.form cI_len
    clear HAS ho2
    generalize ascL L = M at *
    have hml : ((M.length : Int) == (L.length : Int)) = decide (M.length = L.length) := by rw [Bool.eq_iff_iff]; simp; omega
    have HML := Lib.hid hml
    clear hml
    go_wp2_with fail
    go_ret
    exact ⟨by rw [HF.out, ← HML.out]; rfl, below_trans hb0 (below_trans hb1 hb2)⟩

set_option maxHeartbeats 2000000 in
theorem specIsSimple (v1 v2 : Value) (g : Gr) (k : Wk) (w : World) (hv1 : GrV 0 w.heap.size w v1 g) (hv2 : WkV 0 w.heap.size w v2 k) :
    Calls Try.prog 105 #[v1, v2] w fun en w' => en = .returned (.bool (isSimple g k)) ∧ Below w.heap.size w w' := by
  have hv0 := hv1
  have hv3 := hv2
  obtain ⟨A1, n1, c1, A2, n2, c2, rfl⟩ := hv1.shape
  obtain ⟨A3, n3, c3, rfl⟩ := hv2.shape
  clear hv1 hv2
  have hb0 : Below w.heap.size w ((w.alloc (.cells #[.slice A1 n1 c1, .slice A2 n2 c2] 48)).alloc (.cells #[.int .i64 k.1, .slice A3 n3 c3] 64)) := ((Below.refl _ _).alloc (Nat.le_refl _) _).alloc (by simp) _
  have hc := specNodes _ _ g k _ (hv0.keep hb0) (hv3.keep hb0)
  have HC := Lib.hid hc
  clear hc
  obtain ⟨R, hR⟩ : ∃ R, R = isSimple g k := ⟨_, rfl⟩
  rw [← hR]
  have HR := Lib.hid hR
  have hrange : ∀ x ∈ nodesOut g k, 0 ≤ x ∧ x.toNat < 5 := fun x hx => by
    cases hw : walkOk g k with
    | false => rw [nodesOut_no hw] at hx; cases hx
    | true =>
      rw [nodesOut_yes hw] at hx
      obtain ⟨i, hi, rfl⟩ := List.mem_iff_getElem.1 hx
      rw [nodesL_len] at hi
      obtain ⟨h1, h2⟩ := nodeAt_lt hw (show i ≤ k.2.length by omega)
      rw [List.getElem?_eq_getElem (by rw [nodesL_len]; exact hi)] at h1
      injection h1 with h1
      have := (walkOk_parts hw).1.n5
      rw [h1]
      omega
  have hno : walkOk g k = false → nodesOut g k = [] := nodesOut_no
  have hyes : walkOk g k = true → R = decide ((ascL (nodesOut g k)).length = (nodesOut g k).length) := fun hw => by rw [hR, isSimple, hw, nodesOut_yes hw]; rfl
  have hlen : (nodesOut g k).length ≤ 61 := by
    cases hw : walkOk g k with
    | false => rw [nodesOut_no hw]; simp
    | true => rw [nodesOut_yes hw, nodesL_len]; have := (walkOk_parts hw).2.2.1; omega
  have hRno : walkOk g k = false → R = false := fun hw => by rw [hR, isSimple, hw]; rfl
  have HNO := Lib.hid hno
  have HYES := Lib.hid hyes
  have HRNO := Lib.hid hRno
  have HRG := Lib.hid hrange
  have hml := seenM_lt (n := 5) (fun x hx => (hrange x hx).2)
  have HMLT := Lib.hid hml
  clear hR hno hyes hRno hrange hml
  generalize nodesOut g k = L at *
  generalize walkOk g k = ok at *
  go_enter Try.func105, Try.ntmps105
  go_wp2_with fail
  refine HC.out.mono ?_
  rintro e w1 ⟨v, rfl, ho, hb1⟩
  obtain ⟨A6, c6, rfl, hl6, hm6, hC6⟩ := ho.form cI_len
  have hbw := below_trans hb0 hb1
  have HC6 := Lib.hid hC6
  clear hC6 ho
  go_wp2_with fail
  go_loop [7, 8] (fun mm ii => ∃ i : Nat, i ≤ L.length ∧ ii = .int .i64 (i : Int) ∧ mm = .int .i64 (seenM L i : Nat) ∧ (L.take i).Nodup) (fun _ ii => L.length - (intOf ii).toNat)
  case atStart => exact ⟨0, Nat.zero_le _, rfl, rfl, by simp⟩
  case round =>
    obtain ⟨i, hi, rfl, rfl, hnd⟩ := hrel
    have HND := Lib.hid hnd
    clear hnd
    by_cases hlt : i < L.length
    · have hxi : L[i]? = some L[i] := List.getElem?_eq_getElem hlt
      have hxr := HRG.out _ (List.getElem_mem hlt)
      generalize L[i] = x at hxi hxr
      obtain ⟨x, rfl⟩ := Int.eq_ofNat_of_zero_le hxr.1
      obtain ⟨b6, o6, rfl, hb6, d6⟩ := HC6.out.int hxi
      have hmlt := HMLT.out i
      have HT := Lib.hid (seenM_test L i x)
      have HS := Lib.hid (seenM_succ hxi)
      have HX := Lib.hid hxi
      have HTS := Lib.hid (take_snoc hxi)
      have hx5 : x < 5 := by omega
      clear hxi
      rw [Int.toNat_natCast] at HS
      generalize seenM L i = m at *
      have hii : (i : Int) < (L.length : Int) := by omega
      cases hb : m.testBit x with
      | true =>
        have b1t := bit_on (by omega) (by omega) hb
        have hfin : R = false := by
          cases ok with
          | false => exact HRNO.out rfl
          | true =>
            rw [HYES.out rfl]
            obtain ⟨y, hy, hyx⟩ := HT.out.1 hb
            have hyr := HRG.out y (List.mem_of_mem_take hy)
            have : y = (x : Int) := by omega
            subst this
            exact decide_eq_false (ascL_len_no HX.out hy)
        subst hfin
        clear HRNO HYES hb HR
        go_wp2_with fail
        go_ret
        exact ⟨rfl, hbw⟩
      | false =>
        have b1f := bit_off (by omega) (by omega) hb
        have hnd2 : (L.take (i + 1)).Nodup := by
          rw [HTS.out]
          refine List.nodup_append.2 ⟨HND.out, by simp, fun y hy z hz e => ?_⟩
          rw [List.mem_singleton] at hz
          subst hz
          subst e
          have := HT.out.2 ⟨_, hy, rfl⟩
          rw [hb] at this
          cases this
        have HN2 := Lib.hid hnd2
        have e1' := shl_bit (s := x) (by omega)
        have e2' := or_ins (m := m) (s := x) (by omega) (by omega)
        clear hnd2 hb
        go_wp2_with fail
        go_round
        case rel => exact ⟨i + 1, by omega, by go_num, by rw [HS.out], HN2.out⟩
        case measure => simp [intOf]; omega
    · obtain rfl : i = L.length := by omega
      have hfin : R = ok := by
        cases ok with
        | false => exact HRNO.out rfl
        | true =>
          rw [HYES.out rfl]
          have := HND.out
          rw [List.take_length] at this
          exact decide_eq_true (ascL_len_yes this)
      subst hfin
      clear HRNO HYES HNO HR
      go_wp2_with fail
      go_ret
      exact ⟨rfl, hbw⟩

set_option maxHeartbeats 4000000 in
theorem implIsSimpleWitness (vg va vk : Value) (g : Gr) (a : Au) (x y : Int) (k : Wk) (w : World) (hgv : GrV 0 w.heap.size w vg g) (hav : AuV 0 w.heap.size w va a) (hkv : WkV 0 w.heap.size w vk k) :
    Calls Try.prog 54 #[vg, va, .int .i64 x, .int .i64 y, vk] w fun e w' => e = .returned (.bool (isSimpleWit g a x y k)) ∧ Below w.heap.size w w' := by
  have hgv0 := hgv
  have hav0 := hav
  have hkv0 := hkv
  obtain ⟨A1, n1, c1, A2, n2, c2, rfl⟩ := hgv.shape
  obtain ⟨A3, n3, c3, A4, n4, c4, rfl⟩ := hav.shape
  obtain ⟨A5, n5, c5, rfl⟩ := hkv.shape
  have hb0 : Below w.heap.size w (((w.alloc (.cells #[.slice A1 n1 c1, .slice A2 n2 c2] 48)).alloc (.cells #[.int .i64 a.start, .slice A3 n3 c3, .slice A4 n4 c4] 50)).alloc (.cells #[.int .i64 k.1, .slice A5 n5 c5] 64)) := (((Below.refl _ _).alloc (Nat.le_refl _) _).alloc (by simp) _).alloc (by simp; omega) _
  obtain ⟨R, hR⟩ : ∃ R, R = isSimpleWit g a x y k := ⟨_, rfl⟩
  rw [← hR]
  have HR := Lib.hid (hR.trans (show isSimpleWit g a x y k = (isWit g a x y k && isSimple g k) from rfl))
  have HGV := Lib.hid hgv0
  have HAV := Lib.hid hav0
  have HKV := Lib.hid hkv0
  clear hgv hav hkv hgv0 hav0 hkv0 hR
  have HIW := Lib.hid (fun (W : World) (hW : Below w.heap.size w W) => implIsWitness _ _ _ g a x y k W (HGV.out.keep hW) (HAV.out.keep hW) (HKV.out.keep hW))
  have HIT := Lib.hid (fun (W : World) (hW : Below w.heap.size w W) => implIsSimple _ _ g k W (HGV.out.keep hW) (HKV.out.keep hW))
  go_enter Try.func54, Try.ntmps54
  go_wp2_with fail
  obtain ⟨W0, hW0⟩ : ∃ W0, W0 = (((w.alloc (.cells #[.slice A1 n1 c1, .slice A2 n2 c2] 48)).alloc (.cells #[.int .i64 a.start, .slice A3 n3 c3, .slice A4 n4 c4] 50)).alloc (.cells #[.int .i64 k.1, .slice A5 n5 c5] 64)) := ⟨_, rfl⟩
  rw [← hW0] at hb0 ⊢
  have bx : Blk W0 w.heap.size 48 #[.slice A1 n1 c1, .slice A2 n2 c2] := by rw [hW0]; exact ((Blk.new w _ _ w.heap.size rfl).alloc _).alloc _
  have bz : Blk W0 (w.heap.size + 1 + 1) 64 #[.int .i64 k.1, .slice A5 n5 c5] := by rw [hW0]; exact Blk.new ((w.alloc _).alloc _) _ _ (w.heap.size + 1 + 1) (by simp)
  have x0 : W0.cell? ⟨w.heap.size, 0, none⟩ = some (.slice A1 n1 c1) := bx.cell 0
  have x1 : W0.cell? ⟨w.heap.size, 1, none⟩ = some (.slice A2 n2 c2) := bx.cell 1
  have z0 : W0.cell? ⟨w.heap.size + 1 + 1, 0, none⟩ = some (.int .i64 k.1) := bz.cell 0
  have z1 : W0.cell? ⟨w.heap.size + 1 + 1, 1, none⟩ = some (.slice A5 n5 c5) := bz.cell 1
  clear hW0 bx bz
  refine (HIW.out W0 hb0).mono ?_
  rintro e w1 ⟨rfl, hb1⟩
  have hb2 := below_trans hb0 hb1
  have x0 := kcell hb1 x0
  have x1 := kcell hb1 x1
  have z0 := kcell hb1 z0
  have z1 := kcell hb1 z1
  cases h0 : isWit g a x y k with
  | false =>
    have hfin : R = false := by rw [HR.out, h0]; rfl
    subst hfin
    clear HR
    go_wp2_with fail
    go_ret
    exact ⟨rfl, hb2⟩
  | true =>
    rw [h0, Bool.true_and] at HR
    go_wp2_with fail
    refine (HIT.out w1 hb2).mono ?_
    rintro e w3 ⟨rfl, hb3⟩
    go_wp2_with fail
    go_ret
    exact ⟨by rw [HR.out]; rfl, below_trans hb2 hb3⟩
set_option maxHeartbeats 4000000 in
theorem specIsSimpleWitness (vg va vk : Value) (g : Gr) (a : Au) (x y : Int) (k : Wk) (w : World) (hgv : GrV 0 w.heap.size w vg g) (hav : AuV 0 w.heap.size w va a) (hkv : WkV 0 w.heap.size w vk k) :
    Calls Try.prog 53 #[vg, va, .int .i64 x, .int .i64 y, vk] w fun e w' => e = .returned (.bool (isSimpleWit g a x y k)) ∧ Below w.heap.size w w' := by
  have hgv0 := hgv
  have hav0 := hav
  have hkv0 := hkv
  obtain ⟨A1, n1, c1, A2, n2, c2, rfl⟩ := hgv.shape
  obtain ⟨A3, n3, c3, A4, n4, c4, rfl⟩ := hav.shape
  obtain ⟨A5, n5, c5, rfl⟩ := hkv.shape
  have hb0 : Below w.heap.size w (((w.alloc (.cells #[.slice A1 n1 c1, .slice A2 n2 c2] 48)).alloc (.cells #[.int .i64 a.start, .slice A3 n3 c3, .slice A4 n4 c4] 50)).alloc (.cells #[.int .i64 k.1, .slice A5 n5 c5] 64)) := (((Below.refl _ _).alloc (Nat.le_refl _) _).alloc (by simp) _).alloc (by simp; omega) _
  obtain ⟨R, hR⟩ : ∃ R, R = isSimpleWit g a x y k := ⟨_, rfl⟩
  rw [← hR]
  have HR := Lib.hid (hR.trans (show isSimpleWit g a x y k = (isWit g a x y k && isSimple g k) from rfl))
  have HGV := Lib.hid hgv0
  have HAV := Lib.hid hav0
  have HKV := Lib.hid hkv0
  clear hgv hav hkv hgv0 hav0 hkv0 hR
  have HIW := Lib.hid (fun (W : World) (hW : Below w.heap.size w W) => specIsWitness _ _ _ g a x y k W (HGV.out.keep hW) (HAV.out.keep hW) (HKV.out.keep hW))
  have HIT := Lib.hid (fun (W : World) (hW : Below w.heap.size w W) => specIsSimple _ _ g k W (HGV.out.keep hW) (HKV.out.keep hW))
  go_enter Try.func53, Try.ntmps53
  go_wp2_with fail
  obtain ⟨W0, hW0⟩ : ∃ W0, W0 = (((w.alloc (.cells #[.slice A1 n1 c1, .slice A2 n2 c2] 48)).alloc (.cells #[.int .i64 a.start, .slice A3 n3 c3, .slice A4 n4 c4] 50)).alloc (.cells #[.int .i64 k.1, .slice A5 n5 c5] 64)) := ⟨_, rfl⟩
  rw [← hW0] at hb0 ⊢
  have bx : Blk W0 w.heap.size 48 #[.slice A1 n1 c1, .slice A2 n2 c2] := by rw [hW0]; exact ((Blk.new w _ _ w.heap.size rfl).alloc _).alloc _
  have bz : Blk W0 (w.heap.size + 1 + 1) 64 #[.int .i64 k.1, .slice A5 n5 c5] := by rw [hW0]; exact Blk.new ((w.alloc _).alloc _) _ _ (w.heap.size + 1 + 1) (by simp)
  have x0 : W0.cell? ⟨w.heap.size, 0, none⟩ = some (.slice A1 n1 c1) := bx.cell 0
  have x1 : W0.cell? ⟨w.heap.size, 1, none⟩ = some (.slice A2 n2 c2) := bx.cell 1
  have z0 : W0.cell? ⟨w.heap.size + 1 + 1, 0, none⟩ = some (.int .i64 k.1) := bz.cell 0
  have z1 : W0.cell? ⟨w.heap.size + 1 + 1, 1, none⟩ = some (.slice A5 n5 c5) := bz.cell 1
  clear hW0 bx bz
  refine (HIW.out W0 hb0).mono ?_
  rintro e w1 ⟨rfl, hb1⟩
  have hb2 := below_trans hb0 hb1
  have x0 := kcell hb1 x0
  have x1 := kcell hb1 x1
  have z0 := kcell hb1 z0
  have z1 := kcell hb1 z1
  cases h0 : isWit g a x y k with
  | false =>
    have hfin : R = false := by rw [HR.out, h0]; rfl
    subst hfin
    clear HR
    go_wp2_with fail
    go_ret
    exact ⟨rfl, hb2⟩
  | true =>
    rw [h0, Bool.true_and] at HR
    go_wp2_with fail
    refine (HIT.out w1 hb2).mono ?_
    rintro e w3 ⟨rfl, hb3⟩
    go_wp2_with fail
    go_ret
    exact ⟨by rw [HR.out]; rfl, below_trans hb2 hb3⟩
end Go.Proofs.Ytmlfkledhnlkeaa

