/- Parts of the proof, joined into one text: AlongS, Stat, Nso. -/
import Derived.Test.YtajjolkpgfegfaaPartHJHNGEBE
import Derived.Test.YtajjolkpgfegfaaPartMKPEBINK
import Derived.Test.YtajjolkpgfegfaaPartCDOKCKDD
import Derived.Test.YtajjolkpgfegfaaPartCPDJAGBF
import Derived.Test.YtajjolkpgfegfaaPartGNAPNKLB
import Derived.Test.YtajjolkpgfegfaaPartBLNKPCEN
/- The reference's walks in the product: l18Next, l18Ends, l18Along, WalkEnd, MatchesWalk, IsWitness. -/
namespace Go.Proofs.Ytajjolkpgfegfaa
set_option linter.unusedVariables false
set_option linter.unusedSimpArgs false
open Go.ChangeShapes Go.WideShapes Go.ChangeAt Go.RowKit
attribute [local go_sem] ext_cell ext_frozen ext_lt ext_lt1 ext_lt2 ext_lt3 ltn2 ltn3 ltn13 lts1 lts2 lts3

def foldFr (a : Au) (l set m0 q : Nat) : Nat := (mem q set).foldl (aft1 a l) m0
theorem foldFr_no {a : Au} {l set m0 q : Nat} (h : set.testBit q = false) : foldFr a l set m0 (q + 1) = foldFr a l set m0 q := by rw [foldFr, mem_no h]; rfl
theorem foldFr_yes {a : Au} {l set m0 q : Nat} (h : set.testBit q = true) : foldFr a l set m0 (q + 1) = aft1 a l (foldFr a l set m0 q) q := by rw [foldFr, mem_yes h, List.foldl_append]; rfl
theorem foldFr_lt {a : Au} (h : auOk a = true) (l set m0 q : Nat) (hm : m0 < 2 ^ a.accept.length) : foldFr a l set m0 q < 2 ^ a.accept.length := foldl_inv (P := fun m => m < 2 ^ a.accept.length) (fun m x hm => aft1_lt h l m x hm) _ _ hm
def foldS (a : Au) (v l set q : Nat) : Nat := (mem q set).foldl (aftS a v l) 0
theorem foldS_no {a : Au} {v l set q : Nat} (h : set.testBit q = false) : foldS a v l set (q + 1) = foldS a v l set q := by rw [foldS, mem_no h]; rfl
theorem foldS_yes {a : Au} {v l set q : Nat} (ha : auOk a = true) (hq : q < a.accept.length) (h : set.testBit q = true) : foldS a v l set (q + 1) = foldFr a l (cls a v q) (foldS a v l set q) a.accept.length := by
  rw [foldS, mem_yes h, List.foldl_append]
  show aftS a v l _ q = _
  rw [aftS, mem12 ha (cls_lt ha v q hq)]; rfl
theorem foldS_lt {a : Au} (h : auOk a = true) (v l set q : Nat) : foldS a v l set q < 2 ^ a.accept.length := foldl_inv (P := fun m => m < 2 ^ a.accept.length) (fun m x hm => aftS_lt h v l m x hm) _ _ (Nat.two_pow_pos _)
theorem foldS_all {a : Au} (h : auOk a = true) {v l set : Nat} (hs : set < 2 ^ a.accept.length) : foldS a v l set a.accept.length = aft a set v l := by rw [foldS, aft, mem12 h hs]
theorem stepEd_idx {g : Gr} {id : Int} {e : Ed} (h : stepEd g id = some e) : ∃ ix : Nat, edgeIdx g id = ix ∧ g.edges[ix]? = some e := by
  obtain ⟨hg, hm, he⟩ := stepEd_ok h
  obtain ⟨ix, hix⟩ := List.getElem?_of_mem hm
  refine ⟨ix, ?_, hix⟩
  rw [← he]
  exact edgeIdx_at hg hix

set_option maxHeartbeats 8000000 in
set_option maxRecDepth 100000 in
theorem l18Next_any (vg va : Value) (g : Gr) (a : Au) (x SI : Nat) (st : St) (e : Ed) (l : Nat) (w : World) (hgv : GrV 0 w.heap.size w vg g) (hav : AuV 0 w.heap.size w va a) (hgo : grOk g = true) (ha : auOk a = true) (hx : x < g.vals.length) (hSI : SI < 2 ^ a.accept.length)
    (he : stepEd g st.1 = some e) (hl : arcLetter st.2 e = (l : Int)) :
    Calls Try.prog 113 #[vg, va, .int .i64 (x : Int), .int .i64 (SI : Int), .agg #[.int .i64 st.1, .bool st.2]] w fun en w' => en = .returned (.tuple #[.int .i64 (arcTo st.2 e), .int .i64 (aft a SI (valAt g x) l : Int)]) ∧ Below w.heap.size w w' := by
  have hg := grOk_iff.1 hgo
  have hav0 := hav
  have hgv0 := hgv
  obtain ⟨A1, c1, A2, c2, rfl, hl1, hm1, hl2, hm2, hC1, hC2⟩ := hgv.form
  obtain ⟨A3, c3, A4, c4, rfl, hl3, hm3, hl4, hm4, hAC⟩ := hav.form ha
  obtain ⟨sid, sinv⟩ := st
  have hn12 := (auOk_iff.1 ha).1.2
  obtain ⟨ix, hix, hei⟩ := stepEd_idx he
  have hem := (stepEd_ok he).2.1
  have hel := hg.edges e hem
  have hixl : ix < g.edges.length := (List.getElem?_eq_some_iff.1 hei).1
  have hixi : (ix : Int) < (g.edges.length : Int) := by omega
  obtain ⟨b6, o6, rfl, hb6, q0, q1, q2, q3⟩ := hC2.ed hei
  have hxi : g.vals[x]? = some g.vals[x] := List.getElem?_eq_getElem hx
  have hvr := hg.vals _ (List.getElem_mem hx)
  generalize g.vals[x] = vx at hxi hvr
  obtain ⟨vx, rfl⟩ := Int.eq_ofNat_of_zero_le hvr.1
  have hva := valAt_of hxi
  rw [Int.toNat_natCast] at hva
  obtain ⟨b1, o1, rfl, hb1, d1⟩ := hC1.int hxi
  have hSI4 := lt12 ha hSI
  simp only at hix hl ⊢
  obtain ⟨eid, ef, et, el⟩ := e
  simp only at q0 q1 q2 q3 hel
  obtain ⟨-, -, -, hl0, hl2e⟩ := hel
  have hl9 : l < 6 := by unfold arcLetter at hl; simp only at hl; split at hl <;> omega
  obtain ⟨TO, hTO⟩ : ∃ TO, TO = arcTo sinv (eid, ef, et, el) := ⟨_, rfl⟩
  rw [← hTO, hva, ← foldS_all ha hSI]
  have HTO := Lib.hid (show ∀ W, Calls Try.prog 139 #[.agg #[.int .i64 eid, .int .i64 ef, .int .i64 et, .int .i64 el], .bool sinv] W fun en w' => en = .returned (.int .i64 TO) ∧ Below W.heap.size W w' from fun W => by
    have h := l14To_any (eid, ef, et, el) sinv W
    rwa [← hTO] at h)
  have HLET := Lib.hid (show ∀ W, Calls Try.prog 138 #[.agg #[.int .i64 eid, .int .i64 ef, .int .i64 et, .int .i64 el], .bool sinv] W fun en w' => en = .returned (.int .i64 (l : Int)) ∧ Below W.heap.size W w' from fun W => by
    have h := l14Letter_any (eid, ef, et, el) sinv W hl0 hl2e
    rwa [hl] at h)
  have HEI := Lib.hid (show ∀ W, Below w.heap.size w W → Calls Try.prog 133 #[.agg #[.slice (some ⟨b1, o1, none⟩) g.vals.length c1, .slice (some ⟨b6, o6, none⟩) g.edges.length c2], .int .i64 sid] W fun e w' => e = .returned (.int .i64 (ix : Int)) ∧ Below W.heap.size W w' from fun W hW => by
    have h := specEdgeIndex _ g sid W (hgv0.keep hW)
    rwa [hix] at h)
  have HGO := Lib.hid hg
  have HAO := Lib.hid ha
  have HAV := Lib.hid hav0
  have HGV := Lib.hid hgv0
  have HAC := Lib.hid hAC
  have HSI := Lib.hid hSI
  have hxx : (x : Int) < (g.vals.length : Int) := by omega
  have hb0 : Below w.heap.size w (((w.alloc (.cells #[.slice (some ⟨b1, o1, none⟩) g.vals.length c1, .slice (some ⟨b6, o6, none⟩) g.edges.length c2] 35)).alloc (.cells #[.int .i64 a.start, .slice A3 a.accept.length c3, .slice A4 a.accept.length c4] 37)).alloc (.cells #[.int .i64 sid, .bool sinv] 110)) := (((Below.refl _ _).alloc (Nat.le_refl _) _).alloc (by simp) _).alloc (by simp; omega) _
  clear hgv hav ha hg hgo hav0 hgv0 hva hxi hC1 hC2 hAC hSI he hl hix hei hem hTO
  go_enter Try.func113, Try.ntmps113
  go_upto_region 1 with fail
  obtain ⟨W0, hW0⟩ : ∃ W0, W0 = (((w.alloc (.cells #[.slice (some ⟨b1, o1, none⟩) g.vals.length c1, .slice (some ⟨b6, o6, none⟩) g.edges.length c2] 35)).alloc (.cells #[.int .i64 a.start, .slice A3 a.accept.length c3, .slice A4 a.accept.length c4] 37)).alloc (.cells #[.int .i64 sid, .bool sinv] 110)) := ⟨_, rfl⟩
  rw [← hW0] at hb0 ⊢
  have bx : Blk W0 w.heap.size 35 #[.slice (some ⟨b1, o1, none⟩) g.vals.length c1, .slice (some ⟨b6, o6, none⟩) g.edges.length c2] := by rw [hW0]; exact ((Blk.new w _ _ w.heap.size rfl).alloc _).alloc _
  have by_ : Blk W0 (w.heap.size + 1) 37 #[.int .i64 a.start, .slice A3 a.accept.length c3, .slice A4 a.accept.length c4] := by rw [hW0]; exact (Blk.new (w.alloc _) _ _ (w.heap.size + 1) (by simp)).alloc _
  have bz : Blk W0 (w.heap.size + 1 + 1) 110 #[.int .i64 sid, .bool sinv] := by rw [hW0]; exact Blk.new ((w.alloc _).alloc _) _ _ (w.heap.size + 1 + 1) (by simp)
  have hs0 : w.heap.size + 1 + 1 + 1 = W0.heap.size := by rw [hW0]; simp
  have x0 : W0.cell? ⟨w.heap.size, 0, none⟩ = some (.slice (some ⟨b1, o1, none⟩) g.vals.length c1) := by exact bx.cell 0
  have x1 : W0.cell? ⟨w.heap.size, 1, none⟩ = some (.slice (some ⟨b6, o6, none⟩) g.edges.length c2) := by exact bx.cell 1
  have y0 : W0.cell? ⟨w.heap.size + 1, 0, none⟩ = some (.int .i64 a.start) := by exact by_.cell 0
  have y1 : W0.cell? ⟨w.heap.size + 1, 1, none⟩ = some (.slice A3 a.accept.length c3) := by exact by_.cell 1
  have y2 : W0.cell? ⟨w.heap.size + 1, 2, none⟩ = some (.slice A4 a.accept.length c4) := by exact by_.cell 2
  have z0 : W0.cell? ⟨w.heap.size + 1 + 1, 0, none⟩ = some (.int .i64 sid) := by exact bz.cell 0
  have z1 : W0.cell? ⟨w.heap.size + 1 + 1, 1, none⟩ = some (.bool sinv) := by exact bz.cell 1
  try rw [hs0]
  have l2 := bz.lt
  have l1 := by_.lt
  have l0 := bx.lt
  clear hW0 bx by_ bz hs0
  have q0 := kcell hb0 q0
  have q1 := kcell hb0 q1
  have q2 := kcell hb0 q2
  have q3 := kcell hb0 q3
  have d1 := kcell hb0 d1
  have hbb1 : b1 < W0.heap.size := Nat.lt_of_lt_of_le hb1 hb0.size
  have ne0 := World.new_ne W0 _ x0
  have ne1 := World.new_ne W0 _ q0
  have ne2 := World.new_ne W0 _ z0
  go_cut [12] (fun s12 wx => ∃ eb, s12 = .pointer (some ⟨eb, 0, none⟩) ∧ W0.heap.size ≤ eb ∧ eb < wx.heap.size ∧ wx.cell? ⟨eb, 0, none⟩ = some (.int .i64 eid) ∧ wx.cell? ⟨eb, 1, none⟩ = some (.int .i64 ef) ∧ wx.cell? ⟨eb, 2, none⟩ = some (.int .i64 et) ∧ wx.cell? ⟨eb, 3, none⟩ = some (.int .i64 el) ∧ Below W0.heap.size W0 wx)
  case first =>
    go_region_held3 (fun w' => w'.cell? ⟨w.heap.size, 0, none⟩ = some (.slice (some ⟨b1, o1, none⟩) g.vals.length c1) ∧ w'.cell? ⟨w.heap.size, 1, none⟩ = some (.slice (some ⟨b6, o6, none⟩) g.edges.length c2) ∧ w'.cell? ⟨w.heap.size + 1 + 1, 0, none⟩ = some (.int .i64 sid) ∧ w'.cell? ⟨b6, o6 + ix * 4, none⟩ = some (.int .i64 eid) ∧ w'.cell? ⟨b6, o6 + ix * 4 + 1, none⟩ = some (.int .i64 ef) ∧ w'.cell? ⟨b6, o6 + ix * 4 + 2, none⟩ = some (.int .i64 et) ∧ w'.cell? ⟨b6, o6 + ix * 4 + 3, none⟩ = some (.int .i64 el))
      (first | (with_reducible exact kS7 ne0 ne0 ne2 ne1 ne1 ne1 ne1 (kS7 ne0 ne0 ne2 ne1 ne1 ne1 ne1 (kS7 ne0 ne0 ne2 ne1 ne1 ne1 ne1 (kS7 ne0 ne0 ne2 ne1 ne1 ne1 ne1 (by assumption))))) | (exact ⟨x0, x1, z0, q0, q1, q2, q3⟩) | assumption | (exact kB7 hbE ⟨x0, x1, z0, q0, q1, q2, q3⟩) | (exact kA7 _ ⟨x0, x1, z0, q0, q1, q2, q3⟩) | (exact kA7 _ (kB7 hbE ⟨x0, x1, z0, q0, q1, q2, q3⟩)) | (exact kB7 hbE (kA7 _ ⟨x0, x1, z0, q0, q1, q2, q3⟩)) | (exact kB7 hbE (by assumption)) | (exact kA7 _ (by assumption)) | go_keep)
      (first | (go_at_call 133; refine (HEI.out _ (by first | exact hb0.drew | exact (hb0.drew).alloc (by have := hb0.size; simpa using this) _)).mono ?_; rintro en wE ⟨rfl, hbE⟩; have n0 := World.new_ne wE _ (kcell hbE (by first | exact x0 | exact kcell ((Below.refl _ _).alloc (Nat.le_refl _) _) x0)); have n1 := World.new_ne wE _ (kcell hbE (by first | exact q0 | exact kcell ((Below.refl _ _).alloc (Nat.le_refl _) _) q0)); have n2 := World.new_ne wE _ (kcell hbE (by first | exact z0 | exact kcell ((Below.refl _ _).alloc (Nat.le_refl _) _) z0))); (first | (have NC := nc4 hbE (n := W0.heap.size) rfl; obtain ⟨t0, t1, t2, t3, f0, f1, f2, f3⟩ := NC) | skip))
    all_goals (go_wp2_with fail)
    · go_meet
      exact ⟨_, rfl, hbE.size, by simp, by simp, by simp, by simp, by simp, (below_trans ((Below.refl W0.heap.size W0).drew) hbE).alloc hbE.size _⟩
    · go_meet
      have h9 := hbE.size
      have h8 : W0.heap.size < wE.heap.size := Nat.lt_of_lt_of_le (by simp) h9
      have h7 : Below W0.heap.size W0 wE := below_trans (((Below.refl W0.heap.size W0).alloc (Nat.le_refl _) _).drew) hbE
      exact ⟨_, rfl, Nat.le_refl _, by simpa using h8, by go_simp, by go_simp, by go_simp, by go_simp, (((h7.setCell (Nat.le_refl _) _).setCell (Nat.le_refl _) _).setCell (Nat.le_refl _) _).setCell (Nat.le_refl _) _⟩
  case rest =>
    obtain ⟨eb, rfl, hlo, hhi, e0, e1, e2, e3, hbc⟩ := hcut
    have x0 := kcell hbc x0
    have x1 := kcell hbc x1
    have y0 := kcell hbc y0
    have y1 := kcell hbc y1
    have y2 := kcell hbc y2
    have z0 := kcell hbc z0
    have z1 := kcell hbc z1
    have d1 := kcell hbc d1
    have hbw := below_trans hb0 hbc
    have hsz := hbc.size
    have l0 := Nat.lt_of_lt_of_le l0 hsz
    have l1 := Nat.lt_of_lt_of_le l1 hsz
    have l2 := Nat.lt_of_lt_of_le l2 hsz
    have hbb1 := Nat.lt_of_lt_of_le hbb1 hsz
    clear ne0 ne1 ne2 q0 q1 q2 q3 hb0 hbc
    go_wp2_with fail
    go_loopw [13, 14] (fun mm qq wr => ∃ (q : Nat) (u : World), q ≤ a.accept.length ∧ qq = .int .i64 (q : Int) ∧ mm = .int .i64 (foldS a vx l SI q : Nat) ∧ wr = ext wc u) (fun _ qq _ => a.accept.length - (intOf qq).toNat)
    case atStart => exact ⟨0, wc, Nat.zero_le _, rfl, rfl, ext_self _⟩
    case round =>
      obtain ⟨q, u, hq, rfl, rfl, rfl⟩ := hrel
      by_cases hlq : q < a.accept.length
      · have hqi : (q : Int) < (a.accept.length : Int) := by omega
        cases hb : SI.testBit q with
        | false =>
          have e3' := bit_off (by omega) (by omega) hb
          have HR := Lib.hid (show foldS a vx l SI q = foldS a vx l SI (q + 1) from (foldS_no hb).symm)
          clear hb
          go_wp2_with fail
          go_roundw
          case rel => exact ⟨q + 1, u, by omega, by go_num, by rw [← HR.out], rfl⟩
          case measure => simp [intOf]; omega
        | true =>
          have e3' := bit_on (by omega) (by omega) hb
          have HFS := Lib.hid (foldS_yes (v := vx) (l := l) HAO.out hlq hb)
          have hm0 := foldS_lt HAO.out vx l SI q
          have hcl := cls_lt HAO.out vx q hlq
          have hcl4 := lt12 HAO.out hcl
          clear hb
          generalize foldS a vx l SI q = m0 at *
          have HM0 := Lib.hid hm0
          clear hm0
          go_wp2_with fail
          refine wp_region_ext_lit (by kernel_rfl) (by kernel_rfl) ?_
          repeat (go_big_quiet_step ((go_at_call 137; exact Calls.ext_of (l14Closure_any _ a q vx _ (HAV.out.keep (below_trans hbw (below_trans (ext_below _ _) (ext_below _ _)))) HAO.out hlq (by omega)))))
          refine wpQuiet_nil ?_
          intro _ hw'
          obtain ⟨u2, hw''⟩ := hw'
          subst hw''
          obtain ⟨u3, hu3⟩ := ext_of (below_trans (ext_below wc u) (ext_below (ext wc u) u2))
          rw [hu3]
          clear hu3 u2 u
          go_wp2_with fail
          generalize cls a vx q = C at *
          go_loopw [13, 16] (fun mm rr wr => ∃ (r : Nat) (u : World), r ≤ a.accept.length ∧ rr = .int .i64 (r : Int) ∧ mm = .int .i64 (foldFr a l C m0 r : Nat) ∧ wr = ext wc u) (fun _ rr _ => a.accept.length - (intOf rr).toNat)
          case atStart => exact ⟨0, u3, Nat.zero_le _, rfl, rfl, rfl⟩
          case round =>
            obtain ⟨r, u, hr, rfl, rfl, rfl⟩ := hrel
            by_cases hlr : r < a.accept.length
            · obtain ⟨b, o, b3, o3, c3', rfl, hbb, hrw, -, -, hb3, hmvs⟩ := HAC.out.row r hlr
              have r0 := kcell hbw hrw
              have r1 := kcell hbw (hmvs l (by omega))
              have hws := hbw.size
              have hbb' : b < wc.heap.size := by omega
              have hb3' : b3 < wc.heap.size := by omega
              have hlri : (r : Int) < (a.accept.length : Int) := by omega
              have hlz : (l : Int) < 9 := by omega
              have hft := foldFr_lt HAO.out l C m0 r HM0.out
              have hft4 := lt12 HAO.out hft
              have hmv := mv_lt HAO.out r l
              have HNX := Lib.hid (show foldFr a l C m0 (r + 1) = if C.testBit r = true then aft1 a l (foldFr a l C m0 r) r else foldFr a l C m0 r by by_cases hb : C.testBit r = true; rw [if_pos hb, foldFr_yes hb]; rw [if_neg hb, foldFr_no (by simpa using hb)])
              have HA := Lib.hid (show aft1 a l (foldFr a l C m0 r) r = if 0 ≤ mv a r l then ins (foldFr a l C m0 r) (mv a r l).toNat else foldFr a l C m0 r from rfl)
              generalize foldFr a l C m0 r = m1 at *
              clear hrw hmvs hft
              go_wp2_with fail
              refine wp_region_ext_lit (by kernel_rfl) (by kernel_rfl) ?_
              repeat (go_big_quiet_step ((go_at_call 138; exact Calls.ext_of (HLET.out _))))
              refine wpQuiet_nil ?_
              intro _ hw'
              obtain ⟨u2, hw''⟩ := hw'
              subst hw''
              obtain ⟨u4, hu4⟩ := ext_of (below_trans (ext_below wc u) (ext_below (ext wc u) u2))
              rw [hu4]
              cases hb : C.testBit r with
              | false =>
                have b1f := bit_off (by omega) (by omega) hb
                have HR := Lib.hid (show m1 = foldFr a l C m0 (r + 1) by rw [HNX.out, if_neg (by simp [hb])])
                clear hb
                go_wp2_with fail
                go_roundw
                case rel => exact ⟨r + 1, u4, by omega, by go_num, by rw [← HR.out], rfl⟩
                case measure => simp [intOf]; omega
              | true =>
                have b1t := bit_on (by omega) (by omega) hb
                have HNX := Lib.hid (HNX.out.trans (if_pos hb))
                clear hb
                by_cases h0 : 0 ≤ mv a r l
                · have HR := Lib.hid (show ins m1 (mv a r l).toNat = foldFr a l C m0 (r + 1) by rw [HNX.out, HA.out, if_pos h0])
                  generalize mv a r l = z at *
                  obtain ⟨z, rfl⟩ := Int.eq_ofNat_of_zero_le h0
                  have e1' := shl_bit (s := z) (by omega)
                  have e2' := or_ins (m := m1) (s := z) (by omega) (by omega)
                  go_wp2_with fail
                  go_roundw
                  case rel => exact ⟨r + 1, u4, by omega, by go_num, by rw [← HR.out]; simp, rfl⟩
                  case measure => simp [intOf]; omega
                · have HR := Lib.hid (show m1 = foldFr a l C m0 (r + 1) by rw [HNX.out, HA.out, if_neg h0])
                  have h0' : decide (mv a r l ≥ 0) = false := by simp; omega
                  go_wp2_with fail
                  go_roundw
                  case rel => exact ⟨r + 1, u4, by omega, by go_num, by rw [← HR.out], rfl⟩
                  case measure => simp [intOf]; omega
            · obtain rfl : r = a.accept.length := by omega
              go_wp2_with fail
              go_roundw
              case rel => exact ⟨q + 1, u, by omega, by go_num, by rw [HFS.out], rfl⟩
              case measure => simp [intOf]; omega
      · obtain rfl : q = a.accept.length := by omega
        have hbE := below_trans hbw (ext_below wc u)
        go_wp2_with fail
        refine (HTO.out _).mono ?_
        rintro en w9 ⟨rfl, hb9⟩
        go_wp2_with fail
        go_ret2
        exact ⟨rfl, below_trans hbE hb9⟩

set_option maxHeartbeats 4000000 in
theorem l18Ends_any (vg va : Value) (g : Gr) (a : Au) (x SI : Nat) (w : World) (hgv : GrV 0 w.heap.size w vg g) (hav : AuV 0 w.heap.size w va a) (hgo : grOk g = true) (ha : auOk a = true) (hx : x < g.vals.length) (hSI : SI < 2 ^ a.accept.length) :
    Calls Try.prog 111 #[vg, va, .int .i64 (x : Int), .int .i64 (SI : Int)] w fun en w' => en = .returned (.bool (acc a SI (valAt g x))) ∧ Below w.heap.size w w' := by
  have hav0 := hav
  have hgv0 := hgv
  obtain ⟨A1, n1, c1, A2, n2, c2, rfl⟩ := hgv.shape
  obtain ⟨A3, c3, A4, c4, rfl, hl3, hm3, hl4, hm4, -⟩ := hav.form ha
  have hn12 := (auOk_iff.1 ha).1.2
  have hSI4 := lt12 ha hSI
  have hb0 : Below w.heap.size w ((w.alloc (.cells #[.slice A1 n1 c1, .slice A2 n2 c2] 35)).alloc (.cells #[.int .i64 a.start, .slice A3 a.accept.length c3, .slice A4 a.accept.length c4] 37)) := ((Below.refl _ _).alloc (Nat.le_refl _) _).alloc (by simp) _
  obtain ⟨R, hR⟩ : ∃ R, R = acc a SI (valAt g x) := ⟨_, rfl⟩
  rw [← hR]
  have HR := Lib.hid (show R = (mem a.accept.length SI).any (accC a (valAt g x)) by rw [hR, acc, mem12 ha hSI])
  have HGO := Lib.hid (grOk_iff.1 hgo)
  have HAO := Lib.hid ha
  have HAV := Lib.hid hav0
  have HGV := Lib.hid hgv0
  clear hgv hav ha hgo hav0 hgv0 hSI hR
  go_enter Try.func111, Try.ntmps111
  go_wp2_with fail
  obtain ⟨W0, hW0⟩ : ∃ W0, W0 = ((w.alloc (.cells #[.slice A1 n1 c1, .slice A2 n2 c2] 35)).alloc (.cells #[.int .i64 a.start, .slice A3 a.accept.length c3, .slice A4 a.accept.length c4] 37)) := ⟨_, rfl⟩
  rw [← hW0] at hb0 ⊢
  have x0 : W0.cell? ⟨w.heap.size, 0, none⟩ = some (.slice A1 n1 c1) := by rw [hW0]; simp
  have x1 : W0.cell? ⟨w.heap.size, 1, none⟩ = some (.slice A2 n2 c2) := by rw [hW0]; simp
  have y0 : W0.cell? ⟨w.heap.size + 1, 0, none⟩ = some (.int .i64 a.start) := by rw [hW0]; simp
  have y1 : W0.cell? ⟨w.heap.size + 1, 1, none⟩ = some (.slice A3 a.accept.length c3) := by rw [hW0]; simp
  have y2 : W0.cell? ⟨w.heap.size + 1, 2, none⟩ = some (.slice A4 a.accept.length c4) := by rw [hW0]; simp
  have hs0 : w.heap.size + 1 + 1 = W0.heap.size := by rw [hW0]; simp
  try rw [hs0]
  have l0 : w.heap.size + 1 < W0.heap.size := by omega
  have l00 : w.heap.size < W0.heap.size := by omega
  clear hW0 hs0
  go_loopw [9] (fun qq wr => ∃ (q : Nat) (u : World), q ≤ a.accept.length ∧ qq = .int .i64 (q : Int) ∧ (mem q SI).any (accC a (valAt g x)) = false ∧ wr = ext W0 u) (fun qq _ => a.accept.length - (intOf qq).toNat)
  case atStart => exact ⟨0, W0, Nat.zero_le _, rfl, rfl, ext_self _⟩
  case round =>
    obtain ⟨q, u, hq, rfl, hno, rfl⟩ := hrel
    have HNO := Lib.hid hno
    clear hno
    have hbE := below_trans hb0 (ext_below W0 u)
    by_cases hlq : q < a.accept.length
    · have hqi : (q : Int) < (a.accept.length : Int) := by omega
      cases hb : SI.testBit q with
      | false =>
        have e3' := bit_off (by omega) (by omega) hb
        have HM := Lib.hid (mem_no hb)
        clear hb
        go_wp2_with fail
        go_roundw
        case rel => exact ⟨q + 1, u, by omega, by go_num, by rw [HM.out]; exact HNO.out, rfl⟩
        case measure => simp [intOf]; omega
      | true =>
        have e3' := bit_on (by omega) (by omega) hb
        have HM := Lib.hid (mem_yes hb)
        have HB := Lib.hid hb
        have hacc := l14Accepts_any _ _ g a x q (ext W0 u) (HGV.out.keep hbE) (HAV.out.keep hbE) HGO.out HAO.out hx hlq
        have HACC := Lib.hid hacc
        clear hb hacc
        cases hc : accC a (valAt g x) q with
        | true =>
          rw [hc] at HACC
          have hfin : R = true := by rw [HR.out]; exact List.any_eq_true.2 ⟨q, mem_mem.2 ⟨hlq, HB.out⟩, hc⟩
          subst hfin
          clear HR hc
          go_wp2_with fail
          refine HACC.out.mono ?_
          rintro en w1 ⟨rfl, hb1⟩
          go_wp2_with fail
          go_ret
          exact ⟨rfl, below_trans hbE hb1⟩
        | false =>
          rw [hc] at HACC
          have HC := Lib.hid hc
          clear hc
          go_wp2_with fail
          refine HACC.out.mono ?_
          rintro en w1 ⟨rfl, hb1⟩
          obtain ⟨u4, hu4⟩ := ext_of (below_trans (ext_below W0 u) hb1)
          subst hu4
          go_wp2_with fail
          go_roundw
          case rel => exact ⟨q + 1, u4, by omega, by go_num, by rw [HM.out, List.any_append, HNO.out]; simp only [List.any_cons, List.any_nil, Bool.or_false, Bool.false_or]; exact HC.out, rfl⟩
          case measure => simp [intOf]; omega
    · obtain rfl : q = a.accept.length := by omega
      have hfin : R = false := by rw [HR.out]; exact HNO.out
      subst hfin
      clear HR
      go_wp2_with fail
      go_ret
      exact ⟨rfl, hbE⟩


theorem flatN_atS {xs : List Nat} {t : Nat} {x : Nat} (h : xs[t]? = some x) : (xs.flatMap cN)[t]? = some (.int .i64 (x : Int)) := by
  have := flat_at cN_len h 0 _ rfl
  simpa using this
set_option maxHeartbeats 8000000 in
set_option maxRecDepth 100000 in
theorem l18Along_any (vg va vk : Value) (g : Gr) (a : Au) (k : Wk) (w : World) (hgv : GrV 0 w.heap.size w vg g) (hav : AuV 0 w.heap.size w va a) (hkv : WkV 0 w.heap.size w vk k) (hw : walkOk g k = true) (ha : auOk a = true) :
    Calls Try.prog 93 #[vg, va, vk] w fun e w' => ∃ v1, e = .returned v1 ∧ Own w.heap.size w'.heap.size w' 3 cN 1 v1 (setsL g a k (k.2.length + 1)) ∧ Below w.heap.size w w' := by
  have hgv0 := hgv
  have hav0 := hav
  obtain ⟨A1, n1, c1, A2, n2, c2, rfl⟩ := hgv.shape
  obtain ⟨A3, n3, c3, A4, n4, c4, rfl⟩ := hav.shape
  obtain ⟨A5, c5, rfl, hl5, hm5, hC5⟩ := hkv.form
  obtain ⟨⟨hn1, hn12⟩, ⟨hst0, hst1⟩, -, -⟩ := auOk_iff.1 ha
  obtain ⟨s, hs⟩ : ∃ s : Nat, a.start = (s : Int) := ⟨a.start.toNat, by omega⟩
  obtain ⟨RS, hRS⟩ : ∃ RS, RS = setsL g a k (k.2.length + 1) := ⟨_, rfl⟩
  rw [← hRS]
  have hk0 := nodeAt_lt hw (Nat.zero_le _)
  have hk1 : k.1 = (nodeAt g k 0 : Int) := by have h := hk0.1; injection h
  have HAV := Lib.hid hav0
  rw [hs] at HAV ⊢
  have hb0 : Below w.heap.size w (((w.alloc (.cells #[.slice A1 n1 c1, .slice A2 n2 c2] 35)).alloc (.cells #[.int .i64 (s : Int), .slice A3 n3 c3, .slice A4 n4 c4] 37)).alloc (.cells #[.int .i64 k.1, .slice A5 k.2.length c5] 62)) := (((Below.refl _ _).alloc (Nat.le_refl _) _).alloc (by simp) _).alloc (by simp; omega) _
  have hsn : s < a.accept.length := by omega
  have e1 := shl_bit (s := s) (by omega)
  have hS1 : setsL g a k (0 + 1) = [bit s] := by simp [setsL, setAt, hs]
  have hg3 := (walkOk_parts hw).2.2.1
  have HS1 := Lib.hid hS1
  have HK1 := Lib.hid hk1
  have HRS := Lib.hid hRS
  have HGV := Lib.hid hgv0
  have HC5 := Lib.hid hC5
  have HW := Lib.hid hw
  have HA := Lib.hid ha
  have HGO := Lib.hid (walkOk_parts hw).1
  clear hgv hav hkv hgv0 hav0 hC5 hRS hS1 hk1 hk0 hs hst0 hst1 hw ha
  go_enter Try.func93, Try.ntmps93
  go_wp2_with fail
  obtain ⟨W0, hW0⟩ : ∃ W0, W0 = (((w.alloc (.cells #[.slice A1 n1 c1, .slice A2 n2 c2] 35)).alloc (.cells #[.int .i64 (s : Int), .slice A3 n3 c3, .slice A4 n4 c4] 37)).alloc (.cells #[.int .i64 k.1, .slice A5 k.2.length c5] 62)) := ⟨_, rfl⟩
  rw [← hW0] at hb0 ⊢
  have bx : Blk W0 w.heap.size 35 #[.slice A1 n1 c1, .slice A2 n2 c2] := by rw [hW0]; exact ((Blk.new w _ _ w.heap.size rfl).alloc _).alloc _
  have by_ : Blk W0 (w.heap.size + 1) 37 #[.int .i64 (s : Int), .slice A3 n3 c3, .slice A4 n4 c4] := by rw [hW0]; exact (Blk.new (w.alloc _) _ _ (w.heap.size + 1) (by simp)).alloc _
  have bz : Blk W0 (w.heap.size + 1 + 1) 62 #[.int .i64 k.1, .slice A5 k.2.length c5] := by rw [hW0]; exact Blk.new ((w.alloc _).alloc _) _ _ (w.heap.size + 1 + 1) (by simp)
  have hs0 : w.heap.size + 1 + 1 + 1 = W0.heap.size := by rw [hW0]; simp
  have x0 : W0.cell? ⟨w.heap.size, 0, none⟩ = some (.slice A1 n1 c1) := by exact bx.cell 0
  have x1 : W0.cell? ⟨w.heap.size, 1, none⟩ = some (.slice A2 n2 c2) := by exact bx.cell 1
  have y0 : W0.cell? ⟨w.heap.size + 1, 0, none⟩ = some (.int .i64 (s : Int)) := by exact by_.cell 0
  have y1 : W0.cell? ⟨w.heap.size + 1, 1, none⟩ = some (.slice A3 n3 c3) := by exact by_.cell 1
  have y2 : W0.cell? ⟨w.heap.size + 1, 2, none⟩ = some (.slice A4 n4 c4) := by exact by_.cell 2
  have z0 : W0.cell? ⟨w.heap.size + 1 + 1, 0, none⟩ = some (.int .i64 k.1) := by exact bz.cell 0
  have z1 : W0.cell? ⟨w.heap.size + 1 + 1, 1, none⟩ = some (.slice A5 k.2.length c5) := by exact bz.cell 1
  try rw [hs0]
  have l2 := bz.lt
  have l1 := by_.lt
  have l0 := bx.lt
  clear hW0 bx by_ bz hs0
  go_loopw [7, 8, 9] (fun ss nn ii wr => ∃ i : Nat, i ≤ k.2.length ∧ ii = .int .i64 (i : Int) ∧ nn = .int .i64 (nodeAt g k i : Int) ∧ wr.ownsRow W0.heap.size 3 1 ss (setsL g a k (i + 1)).length ((setsL g a k (i + 1)).flatMap cN) ∧ Below W0.heap.size W0 wr) (fun _ _ ii _ => k.2.length - (intOf ii).toNat)
  case atStart => exact ⟨0, Nat.zero_le _, rfl, by rw [HK1.out], by rw [HS1.out]; exact World.ownsRow_lit W0 #[.int .i64 (bit s : Int)] 1 (Nat.le_refl _) (by decide) rfl, (Below.refl _ _).alloc (Nat.le_refl _) _⟩
  case round =>
    clear HS1 HK1 e1
    obtain ⟨i, hi, rfl, rfl, hrow, hbel⟩ := hrel
    have hbw2 := below_trans hb0 hbel
    have x0 := kcell hbel x0
    have x1 := kcell hbel x1
    have y0 := kcell hbel y0
    have y1 := kcell hbel y1
    have y2 := kcell hbel y2
    have z0 := kcell hbel z0
    have z1 := kcell hbel z1
    have hsz := hbel.size
    have l0 := Nat.lt_of_lt_of_le l0 hsz
    have l1 := Nat.lt_of_lt_of_le l1 hsz
    have l2 := Nat.lt_of_lt_of_le l2 hsz
    have HROW := Lib.hid hrow
    have HBW2 := Lib.hid hbw2
    clear hrow
    by_cases hlt : i < k.2.length
    · obtain ⟨st, e, hst, he, ht, hl, -, hl6⟩ := walk_step HW.out hlt
      obtain ⟨b5, o5, rfl, hb5, p0, p1⟩ := HC5.out.st hst
      have p0 := kcell hbw2 p0
      have p1 := kcell hbw2 p1
      have hb5w := Nat.lt_of_lt_of_le hb5 hbw2.size
      obtain ⟨hna, hnl⟩ := nodeAt_lt HW.out hi
      have hrow := HROW.out
      rw [setsL_len] at hrow
      obtain ⟨gS, cS, rfl, hgS, hgS2, -, -⟩ := own_some hrow (by omega)
      have s0 := (World.ownsRow.cellAt hrow i (by omega)).trans (flatN_atS (setsL_at (g := g) (a := a) (k := k) (show i < i + 1 by omega)))
      have HSA := Lib.hid (show setAt g a k (i + 1) = aft a (setAt g a k i) (valAt g (nodeAt g k i)) (letAt g k i) from rfl)
      have HSN := Lib.hid (setsL_snoc g a k (i + 1))
      have hsla := setAt_lt HA.out k i (g := g)
      have hsla4 := lt12 HA.out hsla
      have hsal := setsL_len g a k (i + 1)
      obtain ⟨sid, sinv⟩ := st
      simp only at p0 p1
      have HNX := Lib.hid (fun (W : World) (hW : Below w.heap.size w W) => by
        have h := l18Next_any _ _ g a (nodeAt g k i) (setAt g a k i) (sid, sinv) e (letAt g k i) W (HGV.out.keep hW) (HAV.out.keep hW) (grOk_iff.2 HGO.out) HA.out hnl hsla he hl
        rw [ht, ← HSA.out] at h
        exact h)
      generalize setAt g a k (i + 1) = SJ at *
      generalize setAt g a k i = SI at *
      obtain ⟨NJ, hNJ⟩ : ∃ NJ, NJ = nodeAt g k (i + 1) := ⟨_, rfl⟩
      have HNJ := Lib.hid hNJ
      rw [← hNJ] at HNX
      clear hNJ
      generalize nodeAt g k i = NI at *
      generalize setsL g a k (i + 1) = SX at *
      have hki : (i : Int) < (k.2.length : Int) := by omega
      have hii1 : (i : Int) < (i : Int) + 1 := by omega
      clear hst he ht hl hna hrow hsla
      go_wp2_with fail
      refine wp_region_ext_lit (by kernel_rfl) (by kernel_rfl) ?_
      repeat (go_big_quiet_step ((go_at_call 113; exact Calls.ext_of (HNX.out _ (below_trans HBW2.out (ext_below _ _))))))
      refine wpQuiet_nil ?_
      intro _ hw'
      obtain ⟨u2, hw''⟩ := hw'
      subst hw''
      have hbu := ext_below wr u2
      have HR2 := Lib.hid (ownsRow_below HROW.out hbu (Nat.le_refl _))
      have hz2 : W0.heap.size ≤ (ext wr u2).heap.size := Nat.le_trans hsz hbu.size
      have hbel2 := hbel.trans (hbu.mono hsz)
      rw [hsal] at HR2
      generalize ext wr u2 = wx at *
      go_wp2_with (at_builtin; (refine wpList_append1 cN elInt rfl _ _ rfl W0.heap.size _ SX SJ _ 1 _ (by rfl) (by rw [hsal]; exact HR2.out) (by rfl) rfl rfl rfl (cN_one _) (by omega) (by omega) (by omega) ?_); intro v' w4 hrow' hb4 _ _)
      go_roundw
      case rel => exact ⟨i + 1, by omega, by go_num, by rw [HNJ.out], by rw [HSN.out]; exact hrow', hbel2.trans hb4⟩
      case measure => simp [intOf]; omega
    · obtain rfl : i = k.2.length := by omega
      have hrow := HROW.out
      rw [setsL_len] at hrow
      obtain ⟨gS, cS, rfl, hgS, hgS2, -, -⟩ := own_some hrow (by omega)
      have hoS := Own.of_row (xs := setsL g a k (k.2.length + 1)) (ownsRow_mono (b := w.heap.size) HROW.out hb0.size) (by rw [setsL_len]) rfl
      rw [← HRS.out] at hoS
      have HOS := Lib.hid hoS
      clear hrow hoS
      go_wp2_with fail
      go_ret
      exact ⟨_, rfl, HOS.out, HBW2.out⟩


end Go.Proofs.Ytajjolkpgfegfaa

/- StatesAlong on both sides. -/
namespace Go.Proofs.Ytajjolkpgfegfaa
set_option linter.unusedVariables false
set_option linter.unusedSimpArgs false
open Go.ChangeShapes Go.WideShapes Go.ChangeAt Go.RowKit
attribute [local go_sem] ext_cell ext_frozen ext_lt ext_lt1 ext_lt2 ext_lt3 ltn2 ltn3 ltn13 lts1 lts2 lts3

def stL (g : Gr) (a : Au) (k : Wk) (i : Nat) : List (List Int) := (List.range i).map fun (j : Nat) => memI 12 (setAt g a k j)
def statesL (g : Gr) (a : Au) (k : Wk) : List (List Int) := if (walkOk g k && auOk a) = true then stL g a k (k.2.length + 1) else []
theorem stL_len (g : Gr) (a : Au) (k : Wk) (i : Nat) : (stL g a k i).length = i := by simp [stL]
theorem stL_snoc (g : Gr) (a : Au) (k : Wk) (i : Nat) : stL g a k (i + 1) = stL g a k i ++ [memI 12 (setAt g a k i)] := by simp [stL, List.range_succ]
theorem memI_len (n m : Nat) : (memI n m).length ≤ n := by
  unfold memI; rw [List.length_map]; exact mem_len _ _
theorem sumLen_le2 : ∀ (l : List (List Int)) (m : Nat), (∀ xs ∈ l, xs.length ≤ m) → sumLen l ≤ l.length * m
  | [], _, _ => by simp [sumLen]
  | x :: l, m, h => by
    have h1 := h x (List.mem_cons_self ..)
    have h2 := sumLen_le2 l m (fun y hy => h y (List.mem_cons_of_mem _ hy))
    simp only [sumLen, List.length_cons, Nat.succ_mul]
    omega
theorem statesL_sum (g : Gr) (a : Au) (k : Wk) : sumLen (statesL g a k) ≤ 1000 := by
  unfold statesL
  split
  · rename_i h
    simp only [Bool.and_eq_true] at h
    have h1 := (walkOk_parts h.1).2.2.1
    have h2 := sumLen_le2 (stL g a k (k.2.length + 1)) 12 (fun xs hx => by
      simp only [stL, List.mem_map, List.mem_range] at hx
      obtain ⟨j, _, rfl⟩ := hx
      exact memI_len _ _)
    rw [stL_len] at h2
    omega
  · simp [sumLen]
theorem own_nat {lo hi : Nat} {w : World} {e : TypeId} {v : Value} {xs : List Nat} (h : Own lo hi w e cN 1 v xs) : Own lo hi w e cI 1 v (xs.map fun (t : Nat) => (t : Int)) := by
  obtain ⟨h1, h2⟩ := h
  refine ⟨?_, h2⟩
  have e1 : ∀ xs : List Nat, (xs.map fun (t : Nat) => (t : Int)).flatMap cI = xs.flatMap cN := fun xs => by
    rw [List.flatMap_map]; rfl
  rw [e1, List.length_map]
  exact h1
theorem blks_push {P : Nat → Prop} {v v' u : Value} {us : List Value} (h : ∀ b ∈ blks (v :: us), P b) (hv : ∀ b, v'.ownBlock = some b → P b) (hu : ∀ b, u.ownBlock = some b → P b) : ∀ b ∈ blks (v' :: (us ++ [u])), P b := by
  intro b hb
  obtain ⟨i, x, hi, hx⟩ := mem_blks.1 hb
  cases i with
  | zero =>
    simp only [List.getElem?_cons_zero, Option.some.injEq] at hi
    subst hi
    exact hv b hx
  | succ i =>
    rw [List.getElem?_cons_succ] at hi
    rcases Nat.lt_or_ge i us.length with hl | hge
    · rw [List.getElem?_append_left hl] at hi
      exact h b (mem_blks.2 ⟨i + 1, x, by simpa using hi, hx⟩)
    · have hi2 := (List.getElem?_eq_some_iff.1 hi).1
      simp only [List.length_append, List.length_singleton] at hi2
      obtain rfl : i = us.length := by omega
      have e1 : u = x := by simpa using hi
      subst e1
      exact hu b hx
theorem SlI.natI {lo hi : Nat} {w : World} {A : Option Addr} {n c : Nat} {xs : List Nat} (h : SlI lo hi w cN 1 (.slice A n c) xs) {i : Nat} {x : Nat} (hx : xs[i]? = some x) :
    ∃ b o, A = some ⟨b, o, none⟩ ∧ (lo ≤ b ∧ b < hi) ∧ w.cell? ⟨b, o + i, none⟩ = some (.int .i64 (x : Int)) := by
  obtain ⟨A', c', hv, _, _, h3⟩ := h
  injection hv with h1 _ _
  subst h1
  obtain ⟨b, o, e, g1, g2, hc⟩ := h3 i x hx
  exact ⟨b, o, e, ⟨g1, g2⟩, by simpa using hc 0 _ rfl⟩
theorem blks_one {g b n c : Nat} (h : b ∈ blks [Value.slice (some ⟨g, 0, none⟩) n c]) : b = g := by
  obtain ⟨i, u, hi, hu⟩ := mem_blks.1 h
  cases i with
  | zero =>
    simp only [List.getElem?_cons_zero, Option.some.injEq] at hi
    subst hi
    injection hu with hu
    exact hu.symm
  | succ i => simp at hi
theorem memI_stop {m : Nat} (h : m < 4096) : memI 30 m = memI 12 m := by
  unfold memI
  rw [mem_stop (i := 12) (n := 30) (by omega) (by omega)]

theorem members_I (m : Nat) (w : World) (hm : m < 4096) :
    Calls Try.prog 97 #[.int .i64 (m : Int)] w fun e w' => ∃ v', e = .returned v' ∧ Own w.heap.size w'.heap.size w' 3 cI 1 v' (memI 12 m) ∧ Below w.heap.size w w' :=
  (members_any m w hm).mono fun e w' ⟨v, h1, h2, h3⟩ => ⟨v, h1, own_nat h2, h3⟩
set_option maxHeartbeats 4000000 in
set_option maxRecDepth 100000 in
theorem implStatesAlong (vg va vk : Value) (g : Gr) (a : Au) (k : Wk) (w : World) (hgv : GrV 0 w.heap.size w vg g) (hav : AuV 0 w.heap.size w va a) (hkv : WkV 0 w.heap.size w vk k) :
    Calls Try.prog 46 #[vg, va, vk] w fun e w' => ∃ v' us, e = .returned v' ∧ NS w.heap.size w' 22 3 cI 1 v' us (statesL g a k) ∧ Below w.heap.size w w' := by
  have hgv0 := hgv
  have hav0 := hav
  have hkv0 := hkv
  obtain ⟨A1, n1, c1, A2, n2, c2, rfl⟩ := hgv.shape
  obtain ⟨A3, n3, c3, A4, n4, c4, rfl⟩ := hav.shape
  obtain ⟨A5, n5, c5, rfl⟩ := hkv.shape
  have hb0 : Below w.heap.size w (((w.alloc (.cells #[.slice A1 n1 c1, .slice A2 n2 c2] 35)).alloc (.cells #[.int .i64 a.start, .slice A3 n3 c3, .slice A4 n4 c4] 37)).alloc (.cells #[.int .i64 k.1, .slice A5 n5 c5] 62)) := (((Below.refl _ _).alloc (Nat.le_refl _) _).alloc (by simp) _).alloc (by simp; omega) _
  have hal := along_any _ _ _ g a k _ (hgv0.keep hb0) (hav0.keep hb0) (hkv0.keep hb0)
  obtain ⟨R, hR⟩ : ∃ R, R = statesL g a k := ⟨_, rfl⟩
  rw [← hR]
  have HAL := Lib.hid hal
  have HRR := Lib.hid hR
  have HB0 := Lib.hid hb0
  clear hgv hav hkv hgv0 hav0 hkv0 hR hal hb0
  cases hok : walkOk g k && auOk a with
  | false =>
    rw [hok] at HAL
    have hfin : R = [] := by rw [HRR.out, statesL, hok]; rfl
    subst hfin
    clear HRR hok
    go_enter Try.func46, Try.ntmps46
    go_wp2_with fail
    refine HAL.out.mono ?_
    rintro e w1 ⟨v1, v2, rfl, -, -, hb1⟩
    go_wp2_with fail
    go_ret
    exact ⟨_, [], rfl, NS.start (World.ownsRow_nil _ _ _ _), below_trans HB0.out hb1⟩
  | true =>
    rw [hok] at HAL
    obtain ⟨N, hN⟩ : ∃ N, N = k.2.length + 1 := ⟨_, rfl⟩
    have hfin : R = stL g a k N := by rw [HRR.out, statesL, hok, hN]; rfl
    have has : alongS g a k = setsL g a k (k.2.length + 1) := by rw [alongS, hok]; rfl
    have hok2 := hok
    simp only [Bool.and_eq_true] at hok2
    have hk60 := (walkOk_parts hok2.1).2.2.1
    have hST : ∀ i, setAt g a k i < 4096 := fun i => lt12 hok2.2 (setAt_lt hok2.2 k i)
    have HR := Lib.hid hfin
    have HST := Lib.hid hST
    have HN := Lib.hid hN
    have hN60 : N ≤ 61 := by omega
    have HAS := Lib.hid has
    clear HRR hok hok2 hfin hN hST hk60 has
    go_enter Try.func46, Try.ntmps46
    go_wp2_with fail
    refine HAL.out.mono ?_
    rintro e w1 ⟨v1, v2, rfl, ho1, ho2, hb1⟩
    rw [HAS.out] at ho1
    have hb2 := below_trans HB0.out hb1
    have HC1 := Lib.hid (ho1.sl cN_len)
    obtain ⟨A6, c6, rfl, hl6, hm6, -⟩ := ho1.form cN_len
    obtain ⟨A7, n7, c7, rfl⟩ := ho2.shape
    rw [setsL_len] at hl6 ⊢
    rw [← HN.out] at hl6 ⊢
    clear ho1 ho2 HAL HAS hb1
    go_wp2_with fail
    obtain ⟨gO, hgO⟩ : ∃ gO, gO = w1.heap.size := ⟨_, rfl⟩
    obtain ⟨W5, hW5⟩ : ∃ W5, W5 = w1.alloc (.cells #[] 22) := ⟨_, rfl⟩
    have hrow0 : W5.ownsRow gO 22 1 (.slice (some ⟨gO, 0, none⟩) 0 0) 0 [] := by
      rw [hW5, hgO]
      have h := World.ownsRow_lit (base := w1.heap.size) (e := 22) (size := 1) w1 #[] 0 (by simp) (by decide) rfl
      simpa using h
    have hb4 : Below w1.heap.size w1 W5 := by rw [hW5]; exact (Below.refl _ _).alloc (Nat.le_refl _) _
    have hgs : gO < W5.heap.size := by rw [hW5, hgO]; simp
    rw [← hW5, ← hgO]
    have HC6 := Lib.hid (HC1.out.below hb4 (Nat.le_refl _))
    rw [← hgO] at HC6
    have hwg : w.heap.size ≤ gO := by rw [hgO]; exact hb2.size
    have hb5 := below_trans hb2 hb4
    have HROW0 := Lib.hid hrow0
    clear hrow0 hW5 hgO hb4 hb2 HC1
    go_loopw [10, 26] (fun oo ii wr => ∃ (i : Nat) (us : List Value), i ≤ N ∧ ii = .int .i64 (i : Int) ∧ NS gO wr 22 3 cI 1 oo us (stL g a k i) ∧ (∀ b ∈ blks (oo :: us), b = gO ∨ W5.heap.size ≤ b) ∧ Only gO (gO + 1) W5 wr) (fun _ ii _ => N - (intOf ii).toNat)
    case atStart => exact ⟨0, [], Nat.zero_le _, rfl, NS.start HROW0.out, (fun b hb => .inl (blks_one hb)), Only.refl _ _ _⟩
    case round =>
      clear HROW0
      obtain ⟨i, us, hi, rfl, hns, hbk, hon⟩ := hrel
      have HNS := Lib.hid hns
      have HBK := Lib.hid hbk
      have HON := Lib.hid hon
      have hsz := hon.size
      have HBW := Lib.hid (hb5.trans (hon.below (B := w.heap.size) (by omega) hb5.size))
      clear hns hbk hon
      by_cases hlt : i < N
      · have hii : (i : Int) < (N : Int) := by omega
        have hxi := setsL_at (g := g) (a := a) (k := k) (n := k.2.length + 1) (i := i) (by have := HN.out; omega)
        obtain ⟨b6, o6, rfl, hb6, d6⟩ := HC6.out.natI hxi
        have d6 := ocell HON.out d6 (by omega) (by omega)
        have hb6w : b6 < wr.heap.size := by omega
        have hsl := HST.out i
        have HTS := Lib.hid (stL_snoc g a k i)
        have HME := Lib.hid (fun W => members_I (setAt g a k i) W (by omega))
        have hus := HNS.out.len
        rw [stL_len] at hus
        have hul : us.length ≤ 61 := by omega
        clear hxi hus
        generalize setAt g a k i = S at *
        generalize stL g a k i = L at *
        go_wp2_with fail
        refine (HME.out _).mono ?_
        rintro e w6 ⟨v6, rfl, ho6, hb6⟩
        obtain ⟨A9, n9, c9, rfl⟩ := ho6.shape
        have HO6 := Lib.hid ho6
        have HN6 := Lib.hid (HNS.out.below hb6)
        have HON6 := Lib.hid (HON.out.trans (Only.of_below hb6 gO (gO + 1)))
        have hs6 := hb6.size
        have HB6 := Lib.hid hb6
        clear ho6 hb6
        go_wp2_with (at_builtin; (refine wpList_append1 cV elSS rfl _ _ rfl gO _ us (.slice A9 n9 c9) _ 1 _ (by rfl) HN6.out.own (by rfl) rfl rfl rfl (by intro u hu; simp only [cV, List.mem_cons, List.not_mem_nil, or_false] at hu; subst hu; rfl) (by omega) (by omega) (by omega) ?_); intro v' w4 hrow' hb4 hat4 hgr4)
        go_roundw
        case rel =>
          have hat2 : ∀ g1, v'.ownBlock = some g1 → Value.ownBlock _ = some g1 ∨ w6.heap.size ≤ g1 := fun g1 hg1 => by
            rcases hat4 with h1 | ⟨g2, h1, h2⟩
            · exact .inl (by rw [← h1]; exact hg1)
            · rw [h1] at hg1
              injection hg1 with hg1
              exact .inr (by omega)
          refine ⟨i + 1, us ++ [.slice A9 n9 c9], by omega, by go_num, by rw [HTS.out]; exact HN6.out.push (ownsRow_mono HO6.out.1 (by omega)) (fun b hb hm => by have h1 := (HNS.out.lt b hm).2; have h2 := (HO6.out.lt b hb).1; omega) (grown_alloc hgr4) hrow' hat2, ?_, ?_⟩
          · refine blks_push HBK.out (fun b hb => ?_) (fun b hb => .inr ?_)
            · rcases hat2 b hb with h1 | h1
              · exact HBK.out b (mem_blks.2 ⟨0, _, rfl, h1⟩)
              · exact .inr (by omega)
            · have := (HO6.out.lt b hb).1
              omega
          · exact (HON6.out.alloc _).grown hgr4 (fun b hb => by have := HBK.out b (mem_blks.2 ⟨0, _, rfl, hb⟩); omega)
        case measure => simp [intOf]; omega
      · obtain rfl : i = N := by omega
        rw [← HR.out] at HNS
        obtain ⟨A9, c9, rfl, -, -⟩ := HNS.out.shape
        have HNM := Lib.hid (HNS.out.mono (show w.heap.size ≤ gO by omega))
        go_wp2_with fail
        go_ret
        exact ⟨_, _, rfl, HNM.out, HBW.out⟩
theorem l4Set_12 (m : Nat) (w : World) (hm : m < 4096) :
    Calls Try.prog 94 #[.int .i64 (m : Int)] w fun e w' => ∃ v', e = .returned v' ∧ Own w.heap.size w'.heap.size w' 3 cI 1 v' (memI 12 m) ∧ Below w.heap.size w w' := by
  have h := l4Set_any m w (by omega)
  rwa [memI_stop hm] at h
set_option maxHeartbeats 4000000 in
set_option maxRecDepth 100000 in
theorem specStatesAlong (vg va vk : Value) (g : Gr) (a : Au) (k : Wk) (w : World) (hgv : GrV 0 w.heap.size w vg g) (hav : AuV 0 w.heap.size w va a) (hkv : WkV 0 w.heap.size w vk k) :
    Calls Try.prog 44 #[vg, va, vk] w fun e w' => ∃ v' us, e = .returned v' ∧ NS w.heap.size w' 22 3 cI 1 v' us (statesL g a k) ∧ Below w.heap.size w w' := by
  have hgv0 := hgv
  have hav0 := hav
  have hkv0 := hkv
  obtain ⟨A1, n1, c1, A2, n2, c2, rfl⟩ := hgv.shape
  obtain ⟨A3, n3, c3, A4, n4, c4, rfl⟩ := hav.shape
  obtain ⟨A5, n5, c5, rfl⟩ := hkv.shape
  have hb0 : Below w.heap.size w (((w.alloc (.cells #[.slice A1 n1 c1, .slice A2 n2 c2] 35)).alloc (.cells #[.int .i64 a.start, .slice A3 n3 c3, .slice A4 n4 c4] 37)).alloc (.cells #[.int .i64 k.1, .slice A5 n5 c5] 62)) := (((Below.refl _ _).alloc (Nat.le_refl _) _).alloc (by simp) _).alloc (by simp; omega) _
  obtain ⟨R, hR⟩ : ∃ R, R = statesL g a k := ⟨_, rfl⟩
  rw [← hR]
  have HRR := Lib.hid hR
  have HGV := Lib.hid hgv0
  have HAV := Lib.hid hav0
  have HKV := Lib.hid hkv0
  clear hgv hav hkv hgv0 hav0 hkv0 hR
  go_enter Try.func44, Try.ntmps44
  go_wp2_with fail
  obtain ⟨W0, hW0⟩ : ∃ W0, W0 = (((w.alloc (.cells #[.slice A1 n1 c1, .slice A2 n2 c2] 35)).alloc (.cells #[.int .i64 a.start, .slice A3 n3 c3, .slice A4 n4 c4] 37)).alloc (.cells #[.int .i64 k.1, .slice A5 n5 c5] 62)).alloc (.cells #[] 22) := ⟨_, rfl⟩
  have hb0 : Below w.heap.size w W0 := by rw [hW0]; exact hb0.alloc hb0.size _
  rw [← hW0]
  have bx : Blk W0 w.heap.size 35 #[.slice A1 n1 c1, .slice A2 n2 c2] := by rw [hW0]; exact (((Blk.new w _ _ w.heap.size rfl).alloc _).alloc _).alloc _
  have by_ : Blk W0 (w.heap.size + 1) 37 #[.int .i64 a.start, .slice A3 n3 c3, .slice A4 n4 c4] := by rw [hW0]; exact ((Blk.new (w.alloc _) _ _ (w.heap.size + 1) (by simp)).alloc _).alloc _
  have bz : Blk W0 (w.heap.size + 1 + 1) 62 #[.int .i64 k.1, .slice A5 n5 c5] := by rw [hW0]; exact (Blk.new ((w.alloc _).alloc _) _ _ (w.heap.size + 1 + 1) (by simp)).alloc _
  have x0 : W0.cell? ⟨w.heap.size, 0, none⟩ = some (.slice A1 n1 c1) := by exact bx.cell 0
  have x1 : W0.cell? ⟨w.heap.size, 1, none⟩ = some (.slice A2 n2 c2) := by exact bx.cell 1
  have y0 : W0.cell? ⟨w.heap.size + 1, 0, none⟩ = some (.int .i64 a.start) := by exact by_.cell 0
  have y1 : W0.cell? ⟨w.heap.size + 1, 1, none⟩ = some (.slice A3 n3 c3) := by exact by_.cell 1
  have y2 : W0.cell? ⟨w.heap.size + 1, 2, none⟩ = some (.slice A4 n4 c4) := by exact by_.cell 2
  have z0 : W0.cell? ⟨w.heap.size + 1 + 1, 0, none⟩ = some (.int .i64 k.1) := by exact bz.cell 0
  have z1 : W0.cell? ⟨w.heap.size + 1 + 1, 1, none⟩ = some (.slice A5 n5 c5) := by exact bz.cell 1
  have l2 := bz.lt
  have l1 := by_.lt
  have l0 := bx.lt
  obtain ⟨gO, hgO⟩ : ∃ gO, gO = w.heap.size + 1 + 1 + 1 := ⟨_, rfl⟩
  have hrow0 : W0.ownsRow gO 22 1 (.slice (some ⟨gO, 0, none⟩) 0 0) 0 [] := by
    rw [hW0, hgO]
    have h := World.ownsRow_lit (base := w.heap.size + 1 + 1 + 1) (e := 22) (size := 1) (((w.alloc (.cells #[.slice A1 n1 c1, .slice A2 n2 c2] 35)).alloc (.cells #[.int .i64 a.start, .slice A3 n3 c3, .slice A4 n4 c4] 37)).alloc (.cells #[.int .i64 k.1, .slice A5 n5 c5] 62)) #[] 0 (by simp) (by decide) rfl
    simpa using h
  have hgs : gO < W0.heap.size := by rw [hW0, hgO]; simp
  rw [← hgO]
  have hwg : w.heap.size ≤ gO := by omega
  have HROW0 := Lib.hid hrow0
  clear hW0 bx by_ bz hrow0 hgO
  have hiw := specIsWalk _ _ g k W0 (HGV.out.keep hb0) (HKV.out.keep hb0)
  have HIW := Lib.hid hiw
  clear hiw
  cases hw : walkOk g k with
  | false =>
    rw [hw] at HIW
    have hfin : R = [] := by rw [HRR.out, statesL, hw]; rfl
    subst hfin
    clear HRR hw
    refine HIW.out.mono ?_
    rintro e w1 ⟨rfl, hb1⟩
    have HR1 := Lib.hid (ownsRow_mono (ownsRow_below HROW0.out hb1 (Nat.le_refl _)) hwg)
    go_wp2_with fail
    go_ret
    exact ⟨_, [], rfl, NS.start HR1.out, below_trans hb0 hb1⟩
  | true =>
    rw [hw] at HIW
    refine HIW.out.mono ?_
    rintro e w1 ⟨rfl, hb1⟩
    have hb2 := below_trans hb0 hb1
    have x0 := kcell hb1 x0
    have x1 := kcell hb1 x1
    have y0 := kcell hb1 y0
    have y1 := kcell hb1 y1
    have y2 := kcell hb1 y2
    have z0 := kcell hb1 z0
    have z1 := kcell hb1 z1
    have hs1 := hb1.size
    have l0 := Nat.lt_of_lt_of_le l0 hs1
    have l1 := Nat.lt_of_lt_of_le l1 hs1
    have l2 := Nat.lt_of_lt_of_le l2 hs1
    have HROW1 := Lib.hid (ownsRow_below HROW0.out hb1 (Nat.le_refl _))
    have hia := specValidAutomaton _ a w1 (HAV.out.keep hb2)
    have HIA := Lib.hid hia
    clear hia hb1 HROW0 HIW
    cases ha : auOk a with
    | false =>
      rw [ha] at HIA
      have hfin : R = [] := by rw [HRR.out, statesL, hw, ha]; rfl
      subst hfin
      clear HRR hw ha
      go_wp2_with fail
      refine HIA.out.mono ?_
      rintro e w3 ⟨rfl, hb3⟩
      have HR1 := Lib.hid (ownsRow_mono (ownsRow_below HROW1.out hb3 (Nat.le_refl _)) hwg)
      go_wp2_with fail
      go_ret
      exact ⟨_, [], rfl, NS.start HR1.out, below_trans hb2 hb3⟩
    | true =>
      rw [ha] at HIA
      obtain ⟨N, hN⟩ : ∃ N, N = k.2.length + 1 := ⟨_, rfl⟩
      have hfin : R = stL g a k N := by rw [HRR.out, statesL, hw, ha, hN]; rfl
      have hk60 := (walkOk_parts hw).2.2.1
      have hST : ∀ i, setAt g a k i < 4096 := fun i => lt12 ha (setAt_lt ha k i)
      have HAL := Lib.hid (fun (W : World) (hW : Below w.heap.size w W) => l18Along_any _ _ _ g a k W (HGV.out.keep hW) (HAV.out.keep hW) (HKV.out.keep hW) hw ha)
      have HR := Lib.hid hfin
      have HST := Lib.hid hST
      have HN := Lib.hid hN
      have hN60 : N ≤ 61 := by omega
      clear HRR hw ha hfin hN hST hk60
      go_wp2_with fail
      refine HIA.out.mono ?_
      rintro e w3 ⟨rfl, hb3⟩
      have hb4 := below_trans hb2 hb3
      have x0 := kcell hb3 x0
      have x1 := kcell hb3 x1
      have y0 := kcell hb3 y0
      have y1 := kcell hb3 y1
      have y2 := kcell hb3 y2
      have z0 := kcell hb3 z0
      have z1 := kcell hb3 z1
      have hs3 := hb3.size
      have l0 := Nat.lt_of_lt_of_le l0 hs3
      have l1 := Nat.lt_of_lt_of_le l1 hs3
      have l2 := Nat.lt_of_lt_of_le l2 hs3
      have HROW1 := Lib.hid (ownsRow_below HROW1.out hb3 (Nat.le_refl _))
      clear hb3 hb2 HIA
      go_wp2_with fail
      refine (HAL.out _ hb4).mono ?_
      rintro e W5 ⟨v1, rfl, ho1, hb1⟩
      have hb5 := below_trans hb4 hb1
      have hs5 := hb1.size
      have HC6 := Lib.hid (ho1.sl cN_len)
      obtain ⟨A6, c6, rfl, hl6, hm6, -⟩ := ho1.form cN_len
      have HROW0 := Lib.hid (ownsRow_below HROW1.out hb1 (Nat.le_refl _))
      rw [setsL_len] at hl6 ⊢
      rw [← HN.out] at hl6 ⊢
      clear ho1 HAL hb1 hb4 x0 x1 y0 y1 y2 z0 z1 HROW1
      go_wp2_with fail
      go_loopw [7, 9] (fun oo ii wr => ∃ (i : Nat) (us : List Value), i ≤ N ∧ ii = .int .i64 (i : Int) ∧ NS gO wr 22 3 cI 1 oo us (stL g a k i) ∧ (∀ b ∈ blks (oo :: us), b = gO ∨ W5.heap.size ≤ b) ∧ Only gO (gO + 1) W5 wr) (fun _ ii _ => N - (intOf ii).toNat)
      case atStart => exact ⟨0, [], Nat.zero_le _, rfl, NS.start HROW0.out, (fun b hb => .inl (blks_one hb)), Only.refl _ _ _⟩
      case round =>
        clear HROW0
        obtain ⟨i, us, hi, rfl, hns, hbk, hon⟩ := hrel
        have HNS := Lib.hid hns
        have HBK := Lib.hid hbk
        have HON := Lib.hid hon
        have hsz := hon.size
        have HBW := Lib.hid (hb5.trans (hon.below (B := w.heap.size) (by omega) hb5.size))
        clear hns hbk hon
        by_cases hlt : i < N
        · have hii : (i : Int) < (N : Int) := by omega
          have hxi := setsL_at (g := g) (a := a) (k := k) (n := k.2.length + 1) (i := i) (by have := HN.out; omega)
          obtain ⟨b6, o6, rfl, hb6, d6⟩ := HC6.out.natI hxi
          have d6 := ocell HON.out d6 (by omega) (by omega)
          have hb6w : b6 < wr.heap.size := by omega
          have hsl := HST.out i
          have HTS := Lib.hid (stL_snoc g a k i)
          have HME := Lib.hid (fun W => l4Set_12 (setAt g a k i) W (by omega))
          have hus := HNS.out.len
          rw [stL_len] at hus
          have hul : us.length ≤ 61 := by omega
          clear hxi hus
          generalize setAt g a k i = S at *
          generalize stL g a k i = L at *
          go_wp2_with fail
          refine (HME.out _).mono ?_
          rintro e w6 ⟨v6, rfl, ho6, hb6⟩
          obtain ⟨A9, n9, c9, rfl⟩ := ho6.shape
          have HO6 := Lib.hid ho6
          have HN6 := Lib.hid (HNS.out.below hb6)
          have HON6 := Lib.hid (HON.out.trans (Only.of_below hb6 gO (gO + 1)))
          have hs6 := hb6.size
          have HB6 := Lib.hid hb6
          clear ho6 hb6
          go_wp2_with (at_builtin; (refine wpList_append1 cV elSS rfl _ _ rfl gO _ us (.slice A9 n9 c9) _ 1 _ (by rfl) HN6.out.own (by rfl) rfl rfl rfl (by intro u hu; simp only [cV, List.mem_cons, List.not_mem_nil, or_false] at hu; subst hu; rfl) (by omega) (by omega) (by omega) ?_); intro v' w4 hrow' hb4 hat4 hgr4)
          go_roundw
          case rel =>
            have hat2 : ∀ g1, v'.ownBlock = some g1 → Value.ownBlock _ = some g1 ∨ w6.heap.size ≤ g1 := fun g1 hg1 => by
              rcases hat4 with h1 | ⟨g2, h1, h2⟩
              · exact .inl (by rw [← h1]; exact hg1)
              · rw [h1] at hg1
                injection hg1 with hg1
                exact .inr (by omega)
            refine ⟨i + 1, us ++ [.slice A9 n9 c9], by omega, by go_num, by rw [HTS.out]; exact HN6.out.push (ownsRow_mono HO6.out.1 (by omega)) (fun b hb hm => by have h1 := (HNS.out.lt b hm).2; have h2 := (HO6.out.lt b hb).1; omega) (grown_alloc hgr4) hrow' hat2, ?_, ?_⟩
            · refine blks_push HBK.out (fun b hb => ?_) (fun b hb => .inr ?_)
              · rcases hat2 b hb with h1 | h1
                · exact HBK.out b (mem_blks.2 ⟨0, _, rfl, h1⟩)
                · exact .inr (by omega)
              · have := (HO6.out.lt b hb).1
                omega
            · exact (HON6.out.alloc _).grown hgr4 (fun b hb => by have := HBK.out b (mem_blks.2 ⟨0, _, rfl, hb⟩); omega)
          case measure => simp [intOf]; omega
        · obtain rfl : i = N := by omega
          rw [← HR.out] at HNS
          obtain ⟨A9, c9, rfl, -, -⟩ := HNS.out.shape
          have HNM := Lib.hid (HNS.out.mono (show w.heap.size ≤ gO by omega))
          go_wp2_with fail
          go_ret
          exact ⟨_, _, rfl, HNM.out, HBW.out⟩
end Go.Proofs.Ytajjolkpgfegfaa

/- The contracts of the functions that return rows of rows, told with the blocks' bound. -/
namespace Go.Proofs.Ytajjolkpgfegfaa
set_option linter.unusedVariables false
set_option linter.unusedSimpArgs false
open Go.ChangeShapes Go.WideShapes Go.ChangeAt Go.RowKit
theorem nso_of {P : Program} {f : FuncId} {args : Array Value} {w : World} {xss : List (List Int)}
    (h : Calls P f args w fun e w' => ∃ v' us, e = .returned v' ∧ NS w.heap.size w' 22 3 cI 1 v' us xss ∧ Below w.heap.size w w') :
    Calls P f args w fun e w' => ∃ v', e = .returned v' ∧ NSO w.heap.size w'.heap.size w' v' xss ∧ Below w.heap.size w w' :=
  h.mono fun _ _ ⟨v, _, h1, h2, h3⟩ => ⟨v, h1, .of h2, h3⟩
theorem tabL_sum (g : Gr) (a : Au) : sumLen (tabL g a) ≤ 1000 := by
  have h1 := tabL_len g a
  have h2 := sumLen_le2 (tabL g a) 5 (fun xs hx => by
    obtain ⟨i, hi⟩ := List.getElem?_of_mem hx
    exact (tabL_rows hi).2)
  have h3 := Nat.mul_le_mul_right 5 h1
  omega
end Go.Proofs.Ytajjolkpgfegfaa

