/- Parts of the proof, joined into one text: AlongS, CntM, CwM, NthM, ImgM, LayM, WalksM, LstM, KeyP. -/
import Derived.Test.YtpbfdmfkmbdpkaaGreatPartJJDOAKLA
import Derived.Test.YtpbfdmfkmbdpkaaGreatPartIDKOGLLL
import Derived.Test.YtpbfdmfkmbdpkaaGreatPartAIPHIKGG
import Derived.Test.YtpbfdmfkmbdpkaaGreatPartHJLKGLGC
import Derived.Test.YtpbfdmfkmbdpkaaGreatPartEPECPLEK
import Derived.Maps.OwnSet
import Derived.DeepKeys4
/- The reference's walks in the product: l18Next, l18Ends, l18Along, WalkEnd, MatchesWalk, IsWitness. -/
namespace Go.Proofs.YtpbfdmfkmbdpkaaGreat
set_option linter.unusedVariables false
set_option linter.unusedSimpArgs false
open Go.ChangeShapes Go.WideShapes Go.ChangeAt Go.RowKit
attribute [local go_sem] ext_cell ext_frozen ext_lt ext_lt1 ext_lt2 ext_lt3 ltn2 ltn3 ltn13 lts1 lts2 lts3

def foldFr (a : Au) (l set m0 q : Nat) : Nat := (mem q set).foldl (aft1 a l) m0
theorem foldFr_no {a : Au} {l set m0 q : Nat} (h : set.testBit q = false) : foldFr a l set m0 (q + 1) = foldFr a l set m0 q := by rw [foldFr, mem_no h]; rfl
theorem foldFr_yes {a : Au} {l set m0 q : Nat} (h : set.testBit q = true) : foldFr a l set m0 (q + 1) = aft1 a l (foldFr a l set m0 q) q := by rw [foldFr, mem_yes h, List.foldl_append]; rfl
theorem foldFr_lt {a : Au} (h : auOk a = true) (l set m0 q : Nat) (hm : m0 < 2 ^ a.accept.length) : foldFr a l set m0 q < 2 ^ a.accept.length := foldl_inv (P := fun m => m < 2 ^ a.accept.length) (fun m x hm => aft1_lt h l m x hm) _ _ hm
def foldS (a : Au) (v l set q : Nat) : Nat := (mem q set).foldl (aftS a v l) 0
theorem foldS_no {a : Au} {v l set q : Nat} (h : set.testBit q = false) : foldS a v l set (q + 1) = foldS a v l set q := by rw [foldS, mem_no h]; rfl
theorem foldS_yes {a : Au} {v l set q : Nat} (ha : auOk a = true) (hq : q < a.accept.length) (h : set.testBit q = true) : foldS a v l set (q + 1) = foldFr a l (cls a v q) (foldS a v l set q) a.accept.length := by
  rw [foldS, mem_yes h, List.foldl_append]
  show aftS a v l _ q = _
  rw [aftS, mem12 ha (cls_lt ha v q hq)]; rfl
theorem foldS_lt {a : Au} (h : auOk a = true) (v l set q : Nat) : foldS a v l set q < 2 ^ a.accept.length := foldl_inv (P := fun m => m < 2 ^ a.accept.length) (fun m x hm => aftS_lt h v l m x hm) _ _ (Nat.two_pow_pos _)
theorem foldS_all {a : Au} (h : auOk a = true) {v l set : Nat} (hs : set < 2 ^ a.accept.length) : foldS a v l set a.accept.length = aft a set v l := by rw [foldS, aft, mem12 h hs]
theorem stepEd_idx {g : Gr} {id : Int} {e : Ed} (h : stepEd g id = some e) : ∃ ix : Nat, edgeIdx g id = ix ∧ g.edges[ix]? = some e := by
  obtain ⟨hg, hm, he⟩ := stepEd_ok h
  obtain ⟨ix, hix⟩ := List.getElem?_of_mem hm
  refine ⟨ix, ?_, hix⟩
  rw [← he]
  exact edgeIdx_at hg hix

set_option maxHeartbeats 8000000 in
set_option maxRecDepth 100000 in
theorem l18Next_any (vg va : Value) (g : Gr) (a : Au) (x SI : Nat) (st : St) (e : Ed) (l : Nat) (w : World) (hgv : GrV 0 w.heap.size w vg g) (hav : AuV 0 w.heap.size w va a) (hgo : grOk g = true) (ha : auOk a = true) (hx : x < g.vals.length) (hSI : SI < 2 ^ a.accept.length)
    (he : stepEd g st.1 = some e) (hl : arcLetter st.2 e = (l : Int)) :
    Calls Tryz.prog 58 #[vg, va, .int .i64 (x : Int), .int .i64 (SI : Int), .agg #[.int .i64 st.1, .bool st.2]] w fun en w' => en = .returned (.tuple #[.int .i64 (arcTo st.2 e), .int .i64 (aft a SI (valAt g x) l : Int)]) ∧ Below w.heap.size w w' := by
  have hg := grOk_iff.1 hgo
  have hav0 := hav
  have hgv0 := hgv
  obtain ⟨A1, c1, A2, c2, rfl, hl1, hm1, hl2, hm2, hC1, hC2⟩ := hgv.form
  obtain ⟨A3, c3, A4, c4, rfl, hl3, hm3, hl4, hm4, hAC⟩ := hav.form ha
  obtain ⟨sid, sinv⟩ := st
  have hn12 := (auOk_iff.1 ha).1.2
  obtain ⟨ix, hix, hei⟩ := stepEd_idx he
  have hem := (stepEd_ok he).2.1
  have hel := hg.edges e hem
  have hixl : ix < g.edges.length := (List.getElem?_eq_some_iff.1 hei).1
  have hixi : (ix : Int) < (g.edges.length : Int) := by omega
  obtain ⟨b6, o6, rfl, hb6, q0, q1, q2, q3⟩ := hC2.ed hei
  have hxi : g.vals[x]? = some g.vals[x] := List.getElem?_eq_getElem hx
  have hvr := hg.vals _ (List.getElem_mem hx)
  generalize g.vals[x] = vx at hxi hvr
  obtain ⟨vx, rfl⟩ := Int.eq_ofNat_of_zero_le hvr.1
  have hva := valAt_of hxi
  rw [Int.toNat_natCast] at hva
  obtain ⟨b1, o1, rfl, hb1, d1⟩ := hC1.int hxi
  have hSI4 := lt12 ha hSI
  simp only at hix hl ⊢
  obtain ⟨eid, ef, et, el⟩ := e
  simp only at q0 q1 q2 q3 hel
  obtain ⟨-, -, -, hl0, hl2e⟩ := hel
  have hl9 : l < 6 := by unfold arcLetter at hl; simp only at hl; split at hl <;> omega
  obtain ⟨TO, hTO⟩ : ∃ TO, TO = arcTo sinv (eid, ef, et, el) := ⟨_, rfl⟩
  rw [← hTO, hva, ← foldS_all ha hSI]
  have HTO := Lib.hid (show ∀ W, Calls Tryz.prog 89 #[.agg #[.int .i64 eid, .int .i64 ef, .int .i64 et, .int .i64 el], .bool sinv] W fun en w' => en = .returned (.int .i64 TO) ∧ Below W.heap.size W w' from fun W => by
    have h := l14To_any (eid, ef, et, el) sinv W
    rwa [← hTO] at h)
  have HLET := Lib.hid (show ∀ W, Calls Tryz.prog 88 #[.agg #[.int .i64 eid, .int .i64 ef, .int .i64 et, .int .i64 el], .bool sinv] W fun en w' => en = .returned (.int .i64 (l : Int)) ∧ Below W.heap.size W w' from fun W => by
    have h := l14Letter_any (eid, ef, et, el) sinv W hl0 hl2e
    rwa [hl] at h)
  have HEI := Lib.hid (show ∀ W, Below w.heap.size w W → Calls Tryz.prog 86 #[.agg #[.slice (some ⟨b1, o1, none⟩) g.vals.length c1, .slice (some ⟨b6, o6, none⟩) g.edges.length c2], .int .i64 sid] W fun e w' => e = .returned (.int .i64 (ix : Int)) ∧ Below W.heap.size W w' from fun W hW => by
    have h := specEdgeIndex _ g sid W (hgv0.keep hW)
    rwa [hix] at h)
  have HGO := Lib.hid hg
  have HAO := Lib.hid ha
  have HAV := Lib.hid hav0
  have HGV := Lib.hid hgv0
  have HAC := Lib.hid hAC
  have HSI := Lib.hid hSI
  have hxx : (x : Int) < (g.vals.length : Int) := by omega
  have hb0 : Below w.heap.size w (((w.alloc (.cells #[.slice (some ⟨b1, o1, none⟩) g.vals.length c1, .slice (some ⟨b6, o6, none⟩) g.edges.length c2] 36)).alloc (.cells #[.int .i64 a.start, .slice A3 a.accept.length c3, .slice A4 a.accept.length c4] 38)).alloc (.cells #[.int .i64 sid, .bool sinv] 86)) := (((Below.refl _ _).alloc (Nat.le_refl _) _).alloc (by simp) _).alloc (by simp; omega) _
  clear hgv hav ha hg hgo hav0 hgv0 hva hxi hC1 hC2 hAC hSI he hl hix hei hem hTO
  go_enter Tryz.func58, Tryz.ntmps58
  go_upto_region 1 with fail
  obtain ⟨W0, hW0⟩ : ∃ W0, W0 = (((w.alloc (.cells #[.slice (some ⟨b1, o1, none⟩) g.vals.length c1, .slice (some ⟨b6, o6, none⟩) g.edges.length c2] 36)).alloc (.cells #[.int .i64 a.start, .slice A3 a.accept.length c3, .slice A4 a.accept.length c4] 38)).alloc (.cells #[.int .i64 sid, .bool sinv] 86)) := ⟨_, rfl⟩
  rw [← hW0] at hb0 ⊢
  have bx : Blk W0 w.heap.size 36 #[.slice (some ⟨b1, o1, none⟩) g.vals.length c1, .slice (some ⟨b6, o6, none⟩) g.edges.length c2] := by rw [hW0]; exact ((Blk.new w _ _ w.heap.size rfl).alloc _).alloc _
  have by_ : Blk W0 (w.heap.size + 1) 38 #[.int .i64 a.start, .slice A3 a.accept.length c3, .slice A4 a.accept.length c4] := by rw [hW0]; exact (Blk.new (w.alloc _) _ _ (w.heap.size + 1) (by simp)).alloc _
  have bz : Blk W0 (w.heap.size + 1 + 1) 86 #[.int .i64 sid, .bool sinv] := by rw [hW0]; exact Blk.new ((w.alloc _).alloc _) _ _ (w.heap.size + 1 + 1) (by simp)
  have hs0 : w.heap.size + 1 + 1 + 1 = W0.heap.size := by rw [hW0]; simp
  have x0 : W0.cell? ⟨w.heap.size, 0, none⟩ = some (.slice (some ⟨b1, o1, none⟩) g.vals.length c1) := by exact bx.cell 0
  have x1 : W0.cell? ⟨w.heap.size, 1, none⟩ = some (.slice (some ⟨b6, o6, none⟩) g.edges.length c2) := by exact bx.cell 1
  have y0 : W0.cell? ⟨w.heap.size + 1, 0, none⟩ = some (.int .i64 a.start) := by exact by_.cell 0
  have y1 : W0.cell? ⟨w.heap.size + 1, 1, none⟩ = some (.slice A3 a.accept.length c3) := by exact by_.cell 1
  have y2 : W0.cell? ⟨w.heap.size + 1, 2, none⟩ = some (.slice A4 a.accept.length c4) := by exact by_.cell 2
  have z0 : W0.cell? ⟨w.heap.size + 1 + 1, 0, none⟩ = some (.int .i64 sid) := by exact bz.cell 0
  have z1 : W0.cell? ⟨w.heap.size + 1 + 1, 1, none⟩ = some (.bool sinv) := by exact bz.cell 1
  try rw [hs0]
  have l2 := bz.lt
  have l1 := by_.lt
  have l0 := bx.lt
  clear hW0 bx by_ bz hs0
  have q0 := kcell hb0 q0
  have q1 := kcell hb0 q1
  have q2 := kcell hb0 q2
  have q3 := kcell hb0 q3
  have d1 := kcell hb0 d1
  have hbb1 : b1 < W0.heap.size := Nat.lt_of_lt_of_le hb1 hb0.size
  have ne0 := World.new_ne W0 _ x0
  have ne1 := World.new_ne W0 _ q0
  have ne2 := World.new_ne W0 _ z0
  go_cut [12] (fun s12 wx => ∃ eb, s12 = .pointer (some ⟨eb, 0, none⟩) ∧ W0.heap.size ≤ eb ∧ eb < wx.heap.size ∧ wx.cell? ⟨eb, 0, none⟩ = some (.int .i64 eid) ∧ wx.cell? ⟨eb, 1, none⟩ = some (.int .i64 ef) ∧ wx.cell? ⟨eb, 2, none⟩ = some (.int .i64 et) ∧ wx.cell? ⟨eb, 3, none⟩ = some (.int .i64 el) ∧ Below W0.heap.size W0 wx)
  case first =>
    go_region_held3 (fun w' => w'.cell? ⟨w.heap.size, 0, none⟩ = some (.slice (some ⟨b1, o1, none⟩) g.vals.length c1) ∧ w'.cell? ⟨w.heap.size, 1, none⟩ = some (.slice (some ⟨b6, o6, none⟩) g.edges.length c2) ∧ w'.cell? ⟨w.heap.size + 1 + 1, 0, none⟩ = some (.int .i64 sid) ∧ w'.cell? ⟨b6, o6 + ix * 4, none⟩ = some (.int .i64 eid) ∧ w'.cell? ⟨b6, o6 + ix * 4 + 1, none⟩ = some (.int .i64 ef) ∧ w'.cell? ⟨b6, o6 + ix * 4 + 2, none⟩ = some (.int .i64 et) ∧ w'.cell? ⟨b6, o6 + ix * 4 + 3, none⟩ = some (.int .i64 el))
      (first | (with_reducible exact kS7 ne0 ne0 ne2 ne1 ne1 ne1 ne1 (kS7 ne0 ne0 ne2 ne1 ne1 ne1 ne1 (kS7 ne0 ne0 ne2 ne1 ne1 ne1 ne1 (kS7 ne0 ne0 ne2 ne1 ne1 ne1 ne1 (by assumption))))) | (exact ⟨x0, x1, z0, q0, q1, q2, q3⟩) | assumption | (exact kB7 hbE ⟨x0, x1, z0, q0, q1, q2, q3⟩) | (exact kA7 _ ⟨x0, x1, z0, q0, q1, q2, q3⟩) | (exact kA7 _ (kB7 hbE ⟨x0, x1, z0, q0, q1, q2, q3⟩)) | (exact kB7 hbE (kA7 _ ⟨x0, x1, z0, q0, q1, q2, q3⟩)) | (exact kB7 hbE (by assumption)) | (exact kA7 _ (by assumption)) | go_keep)
      (first | (go_at_call 86; refine (HEI.out _ (by first | exact hb0.drew | exact (hb0.drew).alloc (by have := hb0.size; simpa using this) _)).mono ?_; rintro en wE ⟨rfl, hbE⟩; have n0 := World.new_ne wE _ (kcell hbE (by first | exact x0 | exact kcell ((Below.refl _ _).alloc (Nat.le_refl _) _) x0)); have n1 := World.new_ne wE _ (kcell hbE (by first | exact q0 | exact kcell ((Below.refl _ _).alloc (Nat.le_refl _) _) q0)); have n2 := World.new_ne wE _ (kcell hbE (by first | exact z0 | exact kcell ((Below.refl _ _).alloc (Nat.le_refl _) _) z0))); (first | (have NC := nc4 hbE (n := W0.heap.size) rfl; obtain ⟨t0, t1, t2, t3, f0, f1, f2, f3⟩ := NC) | skip))
    all_goals (go_wp2_with fail)
    · go_meet
      exact ⟨_, rfl, hbE.size, by simp, by simp, by simp, by simp, by simp, (below_trans ((Below.refl W0.heap.size W0).drew) hbE).alloc hbE.size _⟩
    · go_meet
      have h9 := hbE.size
      have h8 : W0.heap.size < wE.heap.size := Nat.lt_of_lt_of_le (by simp) h9
      have h7 : Below W0.heap.size W0 wE := below_trans (((Below.refl W0.heap.size W0).alloc (Nat.le_refl _) _).drew) hbE
      exact ⟨_, rfl, Nat.le_refl _, by simpa using h8, by go_simp, by go_simp, by go_simp, by go_simp, (((h7.setCell (Nat.le_refl _) _).setCell (Nat.le_refl _) _).setCell (Nat.le_refl _) _).setCell (Nat.le_refl _) _⟩
  case rest =>
    obtain ⟨eb, rfl, hlo, hhi, e0, e1, e2, e3, hbc⟩ := hcut
    have x0 := kcell hbc x0
    have x1 := kcell hbc x1
    have y0 := kcell hbc y0
    have y1 := kcell hbc y1
    have y2 := kcell hbc y2
    have z0 := kcell hbc z0
    have z1 := kcell hbc z1
    have d1 := kcell hbc d1
    have hbw := below_trans hb0 hbc
    have hsz := hbc.size
    have l0 := Nat.lt_of_lt_of_le l0 hsz
    have l1 := Nat.lt_of_lt_of_le l1 hsz
    have l2 := Nat.lt_of_lt_of_le l2 hsz
    have hbb1 := Nat.lt_of_lt_of_le hbb1 hsz
    clear ne0 ne1 ne2 q0 q1 q2 q3 hb0 hbc
    go_wp2_with fail
    go_loopw [13, 14] (fun mm qq wr => ∃ (q : Nat) (u : World), q ≤ a.accept.length ∧ qq = .int .i64 (q : Int) ∧ mm = .int .i64 (foldS a vx l SI q : Nat) ∧ wr = ext wc u) (fun _ qq _ => a.accept.length - (intOf qq).toNat)
    case atStart => exact ⟨0, wc, Nat.zero_le _, rfl, rfl, ext_self _⟩
    case round =>
      obtain ⟨q, u, hq, rfl, rfl, rfl⟩ := hrel
      by_cases hlq : q < a.accept.length
      · have hqi : (q : Int) < (a.accept.length : Int) := by omega
        cases hb : SI.testBit q with
        | false =>
          have e3' := bit_off (by omega) (by omega) hb
          have HR := Lib.hid (show foldS a vx l SI q = foldS a vx l SI (q + 1) from (foldS_no hb).symm)
          clear hb
          go_wp2_with fail
          go_roundw
          case rel => exact ⟨q + 1, u, by omega, by go_num, by rw [← HR.out], rfl⟩
          case measure => simp [intOf]; omega
        | true =>
          have e3' := bit_on (by omega) (by omega) hb
          have HFS := Lib.hid (foldS_yes (v := vx) (l := l) HAO.out hlq hb)
          have hm0 := foldS_lt HAO.out vx l SI q
          have hcl := cls_lt HAO.out vx q hlq
          have hcl4 := lt12 HAO.out hcl
          clear hb
          generalize foldS a vx l SI q = m0 at *
          have HM0 := Lib.hid hm0
          clear hm0
          go_wp2_with fail
          refine wp_region_ext_lit (by kernel_rfl) (by kernel_rfl) ?_
          repeat (go_big_quiet_step ((go_at_call 87; exact Calls.ext_of (l14Closure_any _ a q vx _ (HAV.out.keep (below_trans hbw (below_trans (ext_below _ _) (ext_below _ _)))) HAO.out hlq (by omega)))))
          refine wpQuiet_nil ?_
          intro _ hw'
          obtain ⟨u2, hw''⟩ := hw'
          subst hw''
          obtain ⟨u3, hu3⟩ := ext_of (below_trans (ext_below wc u) (ext_below (ext wc u) u2))
          rw [hu3]
          clear hu3 u2 u
          go_wp2_with fail
          generalize cls a vx q = C at *
          go_loopw [13, 16] (fun mm rr wr => ∃ (r : Nat) (u : World), r ≤ a.accept.length ∧ rr = .int .i64 (r : Int) ∧ mm = .int .i64 (foldFr a l C m0 r : Nat) ∧ wr = ext wc u) (fun _ rr _ => a.accept.length - (intOf rr).toNat)
          case atStart => exact ⟨0, u3, Nat.zero_le _, rfl, rfl, rfl⟩
          case round =>
            obtain ⟨r, u, hr, rfl, rfl, rfl⟩ := hrel
            by_cases hlr : r < a.accept.length
            · obtain ⟨b, o, b3, o3, c3', rfl, hbb, hrw, -, -, hb3, hmvs⟩ := HAC.out.row r hlr
              have r0 := kcell hbw hrw
              have r1 := kcell hbw (hmvs l (by omega))
              have hws := hbw.size
              have hbb' : b < wc.heap.size := by omega
              have hb3' : b3 < wc.heap.size := by omega
              have hlri : (r : Int) < (a.accept.length : Int) := by omega
              have hlz : (l : Int) < 9 := by omega
              have hft := foldFr_lt HAO.out l C m0 r HM0.out
              have hft4 := lt12 HAO.out hft
              have hmv := mv_lt HAO.out r l
              have HNX := Lib.hid (show foldFr a l C m0 (r + 1) = if C.testBit r = true then aft1 a l (foldFr a l C m0 r) r else foldFr a l C m0 r by by_cases hb : C.testBit r = true; rw [if_pos hb, foldFr_yes hb]; rw [if_neg hb, foldFr_no (by simpa using hb)])
              have HA := Lib.hid (show aft1 a l (foldFr a l C m0 r) r = if 0 ≤ mv a r l then ins (foldFr a l C m0 r) (mv a r l).toNat else foldFr a l C m0 r from rfl)
              generalize foldFr a l C m0 r = m1 at *
              clear hrw hmvs hft
              go_wp2_with fail
              refine wp_region_ext_lit (by kernel_rfl) (by kernel_rfl) ?_
              repeat (go_big_quiet_step ((go_at_call 88; exact Calls.ext_of (HLET.out _))))
              refine wpQuiet_nil ?_
              intro _ hw'
              obtain ⟨u2, hw''⟩ := hw'
              subst hw''
              obtain ⟨u4, hu4⟩ := ext_of (below_trans (ext_below wc u) (ext_below (ext wc u) u2))
              rw [hu4]
              cases hb : C.testBit r with
              | false =>
                have b1f := bit_off (by omega) (by omega) hb
                have HR := Lib.hid (show m1 = foldFr a l C m0 (r + 1) by rw [HNX.out, if_neg (by simp [hb])])
                clear hb
                go_wp2_with fail
                go_roundw
                case rel => exact ⟨r + 1, u4, by omega, by go_num, by rw [← HR.out], rfl⟩
                case measure => simp [intOf]; omega
              | true =>
                have b1t := bit_on (by omega) (by omega) hb
                have HNX := Lib.hid (HNX.out.trans (if_pos hb))
                clear hb
                by_cases h0 : 0 ≤ mv a r l
                · have HR := Lib.hid (show ins m1 (mv a r l).toNat = foldFr a l C m0 (r + 1) by rw [HNX.out, HA.out, if_pos h0])
                  generalize mv a r l = z at *
                  obtain ⟨z, rfl⟩ := Int.eq_ofNat_of_zero_le h0
                  have e1' := shl_bit (s := z) (by omega)
                  have e2' := or_ins (m := m1) (s := z) (by omega) (by omega)
                  go_wp2_with fail
                  go_roundw
                  case rel => exact ⟨r + 1, u4, by omega, by go_num, by rw [← HR.out]; simp, rfl⟩
                  case measure => simp [intOf]; omega
                · have HR := Lib.hid (show m1 = foldFr a l C m0 (r + 1) by rw [HNX.out, HA.out, if_neg h0])
                  have h0' : decide (mv a r l ≥ 0) = false := by simp; omega
                  go_wp2_with fail
                  go_roundw
                  case rel => exact ⟨r + 1, u4, by omega, by go_num, by rw [← HR.out], rfl⟩
                  case measure => simp [intOf]; omega
            · obtain rfl : r = a.accept.length := by omega
              go_wp2_with fail
              go_roundw
              case rel => exact ⟨q + 1, u, by omega, by go_num, by rw [HFS.out], rfl⟩
              case measure => simp [intOf]; omega
      · obtain rfl : q = a.accept.length := by omega
        have hbE := below_trans hbw (ext_below wc u)
        go_wp2_with fail
        refine (HTO.out _).mono ?_
        rintro en w9 ⟨rfl, hb9⟩
        go_wp2_with fail
        go_ret2
        exact ⟨rfl, below_trans hbE hb9⟩

set_option maxHeartbeats 4000000 in
theorem l18Ends_any (vg va : Value) (g : Gr) (a : Au) (x SI : Nat) (w : World) (hgv : GrV 0 w.heap.size w vg g) (hav : AuV 0 w.heap.size w va a) (hgo : grOk g = true) (ha : auOk a = true) (hx : x < g.vals.length) (hSI : SI < 2 ^ a.accept.length) :
    Calls Tryz.prog 137 #[vg, va, .int .i64 (x : Int), .int .i64 (SI : Int)] w fun en w' => en = .returned (.bool (acc a SI (valAt g x))) ∧ Below w.heap.size w w' := by
  have hav0 := hav
  have hgv0 := hgv
  obtain ⟨A1, n1, c1, A2, n2, c2, rfl⟩ := hgv.shape
  obtain ⟨A3, c3, A4, c4, rfl, hl3, hm3, hl4, hm4, -⟩ := hav.form ha
  have hn12 := (auOk_iff.1 ha).1.2
  have hSI4 := lt12 ha hSI
  have hb0 : Below w.heap.size w ((w.alloc (.cells #[.slice A1 n1 c1, .slice A2 n2 c2] 36)).alloc (.cells #[.int .i64 a.start, .slice A3 a.accept.length c3, .slice A4 a.accept.length c4] 38)) := ((Below.refl _ _).alloc (Nat.le_refl _) _).alloc (by simp) _
  obtain ⟨R, hR⟩ : ∃ R, R = acc a SI (valAt g x) := ⟨_, rfl⟩
  rw [← hR]
  have HR := Lib.hid (show R = (mem a.accept.length SI).any (accC a (valAt g x)) by rw [hR, acc, mem12 ha hSI])
  have HGO := Lib.hid (grOk_iff.1 hgo)
  have HAO := Lib.hid ha
  have HAV := Lib.hid hav0
  have HGV := Lib.hid hgv0
  clear hgv hav ha hgo hav0 hgv0 hSI hR
  go_enter Tryz.func137, Tryz.ntmps137
  go_wp2_with fail
  obtain ⟨W0, hW0⟩ : ∃ W0, W0 = ((w.alloc (.cells #[.slice A1 n1 c1, .slice A2 n2 c2] 36)).alloc (.cells #[.int .i64 a.start, .slice A3 a.accept.length c3, .slice A4 a.accept.length c4] 38)) := ⟨_, rfl⟩
  rw [← hW0] at hb0 ⊢
  have x0 : W0.cell? ⟨w.heap.size, 0, none⟩ = some (.slice A1 n1 c1) := by rw [hW0]; simp
  have x1 : W0.cell? ⟨w.heap.size, 1, none⟩ = some (.slice A2 n2 c2) := by rw [hW0]; simp
  have y0 : W0.cell? ⟨w.heap.size + 1, 0, none⟩ = some (.int .i64 a.start) := by rw [hW0]; simp
  have y1 : W0.cell? ⟨w.heap.size + 1, 1, none⟩ = some (.slice A3 a.accept.length c3) := by rw [hW0]; simp
  have y2 : W0.cell? ⟨w.heap.size + 1, 2, none⟩ = some (.slice A4 a.accept.length c4) := by rw [hW0]; simp
  have hs0 : w.heap.size + 1 + 1 = W0.heap.size := by rw [hW0]; simp
  try rw [hs0]
  have l0 : w.heap.size + 1 < W0.heap.size := by omega
  have l00 : w.heap.size < W0.heap.size := by omega
  clear hW0 hs0
  go_loopw [9] (fun qq wr => ∃ (q : Nat) (u : World), q ≤ a.accept.length ∧ qq = .int .i64 (q : Int) ∧ (mem q SI).any (accC a (valAt g x)) = false ∧ wr = ext W0 u) (fun qq _ => a.accept.length - (intOf qq).toNat)
  case atStart => exact ⟨0, W0, Nat.zero_le _, rfl, rfl, ext_self _⟩
  case round =>
    obtain ⟨q, u, hq, rfl, hno, rfl⟩ := hrel
    have HNO := Lib.hid hno
    clear hno
    have hbE := below_trans hb0 (ext_below W0 u)
    by_cases hlq : q < a.accept.length
    · have hqi : (q : Int) < (a.accept.length : Int) := by omega
      cases hb : SI.testBit q with
      | false =>
        have e3' := bit_off (by omega) (by omega) hb
        have HM := Lib.hid (mem_no hb)
        clear hb
        go_wp2_with fail
        go_roundw
        case rel => exact ⟨q + 1, u, by omega, by go_num, by rw [HM.out]; exact HNO.out, rfl⟩
        case measure => simp [intOf]; omega
      | true =>
        have e3' := bit_on (by omega) (by omega) hb
        have HM := Lib.hid (mem_yes hb)
        have HB := Lib.hid hb
        have hacc := l14Accepts_any _ _ g a x q (ext W0 u) (HGV.out.keep hbE) (HAV.out.keep hbE) HGO.out HAO.out hx hlq
        have HACC := Lib.hid hacc
        clear hb hacc
        cases hc : accC a (valAt g x) q with
        | true =>
          rw [hc] at HACC
          have hfin : R = true := by rw [HR.out]; exact List.any_eq_true.2 ⟨q, mem_mem.2 ⟨hlq, HB.out⟩, hc⟩
          subst hfin
          clear HR hc
          go_wp2_with fail
          refine HACC.out.mono ?_
          rintro en w1 ⟨rfl, hb1⟩
          go_wp2_with fail
          go_ret
          exact ⟨rfl, below_trans hbE hb1⟩
        | false =>
          rw [hc] at HACC
          have HC := Lib.hid hc
          clear hc
          go_wp2_with fail
          refine HACC.out.mono ?_
          rintro en w1 ⟨rfl, hb1⟩
          obtain ⟨u4, hu4⟩ := ext_of (below_trans (ext_below W0 u) hb1)
          subst hu4
          go_wp2_with fail
          go_roundw
          case rel => exact ⟨q + 1, u4, by omega, by go_num, by rw [HM.out, List.any_append, HNO.out]; simp only [List.any_cons, List.any_nil, Bool.or_false, Bool.false_or]; exact HC.out, rfl⟩
          case measure => simp [intOf]; omega
    · obtain rfl : q = a.accept.length := by omega
      have hfin : R = false := by rw [HR.out]; exact HNO.out
      subst hfin
      clear HR
      go_wp2_with fail
      go_ret
      exact ⟨rfl, hbE⟩




end Go.Proofs.YtpbfdmfkmbdpkaaGreat

/- Counting simple paths, plainly: both sides walk the same arcs in the same order. -/
namespace Go.Proofs.YtpbfdmfkmbdpkaaGreat
set_option linter.unusedVariables false
set_option linter.unusedSimpArgs false
open Go.ChangeShapes Go.WideShapes Go.ChangeAt Go.RowKit

def cntC (g : Gr) (a : Au) (rec : Nat → Nat → Nat → Int) (x s used : Nat) (n : Int) (p : Arc) : Int :=
  if aft a s (valAt g x) p.2.1.toNat = 0 ∨ used.testBit p.2.2.toNat = true then n
  else wrap64 (n + rec p.2.2.toNat (aft a s (valAt g x) p.2.1.toNat) (ins used p.2.2.toNat))
def cnt0 (g : Gr) (a : Au) (y : Int) (x s : Nat) : Int := if decide ((x : Int) = y) && acc a s (valAt g x) then 1 else 0
def cnt (g : Gr) (a : Au) (y : Int) : Nat → Nat → Nat → Nat → Int
  | 0, _, _, _ => 0
  | f + 1, x, s, used => (arcsOf g (x : Int)).foldl (cntC g a (cnt g a y f) x s used) (cnt0 g a y x s)
def cntTo (g : Gr) (a : Au) (y : Int) (f x s used i : Nat) : Int := ((arcsOf g (x : Int)).take i).foldl (cntC g a (cnt g a y f) x s used) (cnt0 g a y x s)
theorem cntTo_all (g : Gr) (a : Au) (y : Int) (f x s used : Nat) : cntTo g a y f x s used (arcsOf g (x : Int)).length = cnt g a y (f + 1) x s used := by rw [cntTo, List.take_length]; rfl
theorem cntTo_succ {g : Gr} {a : Au} {y : Int} {f x s used i : Nat} {p : Arc} (h : (arcsOf g (x : Int))[i]? = some p) : cntTo g a y f x s used (i + 1) = cntC g a (cnt g a y f) x s used (cntTo g a y f x s used i) p := foldl_take h _
theorem arc_stepEd {g : Gr} (hgo : grOk g = true) {x : Int} {p : Arc} (hp : p ∈ arcsOf g x) : ∃ e : Ed, stepEd g p.1.1 = some e ∧ arcLetter p.1.2 e = p.2.1 ∧ arcTo p.1.2 e = p.2.2 := by
  have hg := grOk_iff.1 hgo
  obtain ⟨i, e, hi, hie, hl, ht, hid, hm⟩ := arc_edge hg hp
  cases hs : stepEd g p.1.1 with
  | none =>
    rw [stepEd, if_pos hgo, List.find?_eq_none] at hs
    exact absurd (hs e hm) (by simp [hid])
  | some e2 =>
    obtain ⟨ix, h1, h2⟩ := stepEd_idx hs
    have : ix = i := by omega
    subst this
    rw [hie] at h2
    injection h2 with h2
    subst h2
    exact ⟨e, rfl, hl.symm, ht.symm⟩
theorem ins_gt {m t : Nat} (h : m.testBit t = false) : m < ins m t := by
  have h1 : m ≤ ins m t := Nat.left_le_or
  have h2 : m ≠ ins m t := fun e => by
    have h3 := ins_test m t t
    rw [← e, h] at h3
    simp at h3
  omega
theorem cntC_no {g : Gr} {a : Au} {rec : Nat → Nat → Nat → Int} {x s used t m : Nat} {n : Int} {p : Arc} (ht : p.2.2 = (t : Int)) (hm : aft a s (valAt g x) p.2.1.toNat = m) (h : m = 0 ∨ used.testBit t = true) : cntC g a rec x s used n p = n := by
  rw [cntC, hm, ht, Int.toNat_natCast, if_pos h]
theorem cntC_yes {g : Gr} {a : Au} {rec : Nat → Nat → Nat → Int} {x s used t m : Nat} {n : Int} {p : Arc} (ht : p.2.2 = (t : Int)) (hm : aft a s (valAt g x) p.2.1.toNat = m) (h : ¬ m = 0) (h2 : used.testBit t = false) : cntC g a rec x s used n p = wrap64 (n + rec t m (ins used t)) := by
  rw [cntC, hm, ht, Int.toNat_natCast, if_neg (by simp [h, h2])]
def cntOk (g : Gr) (a : Au) (x y : Int) : Bool := wi x 0 ((g.vals.length : Int) - 1) && (wi y 0 ((g.vals.length : Int) - 1) && (grOk g && auOk a))
/-- 32 rounds suffice, for a set of five nodes grows with each. -/
def cntSimple (g : Gr) (a : Au) (x y : Int) : Int := if cntOk g a x y = true then cnt g a y 32 x.toNat (bit a.start.toNat) (bit x.toNat) else 0
end Go.Proofs.YtpbfdmfkmbdpkaaGreat

/- The counting of walks, plainly: the count by recursion, and the layers that the reference builds. -/
namespace Go.Proofs.YtpbfdmfkmbdpkaaGreat
set_option linter.unusedVariables false
set_option linter.unusedSimpArgs false
open Go.ChangeShapes Go.WideShapes Go.ChangeAt Go.RowKit

def cwStep (g : Gr) (a : Au) (rec : Nat → Nat → Nat) (x s n : Nat) (p : Arc) : Nat := min 1000000 (n + rec p.2.2.toNat (aft a s (valAt g x) p.2.1.toNat))
/-- the walks of f steps from node x with states s to y, at most a million -/
def cw (g : Gr) (a : Au) (y : Int) : Nat → Nat → Nat → Nat
  | 0, x, s => if (decide ((x : Int) = y) && acc a s (valAt g x)) = true then 1 else 0
  | f + 1, x, s => (arcsOf g (x : Int)).foldl (cwStep g a (cw g a y f) x s) 0
def cwTo (g : Gr) (a : Au) (y : Int) (f x s i : Nat) : Nat := ((arcsOf g (x : Int)).take i).foldl (cwStep g a (cw g a y f) x s) 0
theorem cwTo_all (g : Gr) (a : Au) (y : Int) (f x s : Nat) : cwTo g a y f x s (arcsOf g (x : Int)).length = cw g a y (f + 1) x s := by rw [cwTo, List.take_length]; rfl
theorem cwTo_succ {g : Gr} {a : Au} {y : Int} {f x s i : Nat} {p : Arc} (h : (arcsOf g (x : Int))[i]? = some p) : cwTo g a y f x s (i + 1) = cwStep g a (cw g a y f) x s (cwTo g a y f x s i) p := foldl_take h _
theorem mem_of_zero : ∀ k : Nat, mem k 0 = []
  | 0 => rfl
  | k + 1 => by rw [mem_no (by simp), mem_of_zero k]
theorem aft_none (a : Au) (v l : Nat) : aft a 0 v l = 0 := by rw [aft, mem_of_zero]; rfl
theorem acc_none (a : Au) (v : Nat) : acc a 0 v = false := by rw [acc, mem_of_zero]; rfl
theorem foldl_le {g : Gr} {a : Au} {rec : Nat → Nat → Nat} {x s : Nat} : ∀ (l : List Arc) (n : Nat), n ≤ 1000000 → l.foldl (cwStep g a rec x s) n ≤ 1000000
  | [], n, h => h
  | p :: l, n, h => foldl_le l _ (Nat.min_le_left _ _)
theorem cw_le (g : Gr) (a : Au) (y : Int) (f x s : Nat) : cw g a y f x s ≤ 1000000 := by
  cases f with
  | zero => rw [cw]; split <;> omega
  | succ f => exact foldl_le _ 0 (by omega)
theorem cwTo_le (g : Gr) (a : Au) (y : Int) (f x s i : Nat) : cwTo g a y f x s i ≤ 1000000 := foldl_le _ 0 (by omega)
theorem cw_none (g : Gr) (a : Au) (y : Int) : ∀ (f x : Nat), cw g a y f x 0 = 0
  | 0, x => by rw [cw, acc_none]; simp
  | f + 1, x => by
    rw [cw]
    generalize arcsOf g (x : Int) = l
    induction l with
    | nil => rfl
    | cons p l ih =>
      rw [List.foldl_cons, cwStep, aft_none, cw_none g a y f]
      exact ih

/-! ### The layers -/
abbrev Key := Nat × Nat
def findK (N : List Key) (k : Key) : Option Nat := N.findIdx? (fun z => z == k)
theorem findK_some {N : List Key} {k : Key} {i : Nat} (h : findK N k = some i) : N[i]? = some k := by
  obtain ⟨h1, h2, -⟩ := List.findIdx?_eq_some_iff_getElem.1 h
  rw [List.getElem?_eq_getElem h1]
  congr 1
  simpa using h2
abbrev LSt := List Key × List (St × Nat)
def arcL (g : Gr) (a : Au) (x s : Nat) (st : LSt) (p : Arc) : LSt :=
  if aft a s (valAt g x) p.2.1.toNat = 0 then st else
  match findK st.1 (p.2.2.toNat, aft a s (valAt g x) p.2.1.toNat) with
  | some i => (st.1, st.2 ++ [(p.1, i)])
  | none => (st.1 ++ [(p.2.2.toNat, aft a s (valAt g x) p.2.1.toNat)], st.2 ++ [(p.1, st.1.length)])
def rowL (g : Gr) (a : Au) (N : List Key) (x s : Nat) : LSt := (arcsOf g (x : Int)).foldl (arcL g a x s) (N, [])
def cntL (C : List Nat) (n : Nat) (e : St × Nat) : Nat := min 1000000 (n + C.getD e.2 0)
/-- the next layer's nodes, and each node's steps with their ends -/
def layL (g : Gr) (a : Au) : List Key → List Key → List Key × List (List (St × Nat))
  | [], N => (N, [])
  | k :: last, N => ((layL g a last (rowL g a N k.1 k.2).1).1, (rowL g a N k.1 k.2).2 :: (layL g a last (rowL g a N k.1 k.2).1).2)
theorem arcs_fold {g : Gr} {a : Au} {y : Int} {f x s : Nat} : ∀ (l : List Arc) (N : List Key) (T : List (St × Nat)),
    ∃ N2 T2, l.foldl (arcL g a x s) (N, T) = (N ++ N2, T ++ T2) ∧ ∀ (N3 : List Key) (C : List Nat) (n : Nat), (∀ i k, (N ++ N2 ++ N3)[i]? = some k → C.getD i 0 = cw g a y f k.1 k.2) → n ≤ 1000000 →
      T2.foldl (cntL C) n = l.foldl (cwStep g a (cw g a y f) x s) n
  | [], N, T => ⟨[], [], by simp, fun _ _ _ _ _ => rfl⟩
  | p :: l, N, T => by
    by_cases h0 : aft a s (valAt g x) p.2.1.toNat = 0
    · obtain ⟨N2, T2, h1, h2⟩ := arcs_fold (g := g) (a := a) (y := y) (f := f) (x := x) (s := s) l N T
      refine ⟨N2, T2, by rw [List.foldl_cons, arcL, if_pos h0, h1], fun N3 C n hC hn => ?_⟩
      rw [List.foldl_cons, cwStep, h0, cw_none, Nat.add_zero, Nat.min_eq_right hn]
      exact h2 N3 C n hC hn
    · cases hf : findK N (p.2.2.toNat, aft a s (valAt g x) p.2.1.toNat) with
      | some i =>
        obtain ⟨N2, T2, h1, h2⟩ := arcs_fold (g := g) (a := a) (y := y) (f := f) (x := x) (s := s) l N (T ++ [(p.1, i)])
        refine ⟨N2, (p.1, i) :: T2, by rw [List.foldl_cons, arcL, if_neg h0]; simp only [hf]; rw [h1, List.append_assoc]; rfl, fun N3 C n hC hn => ?_⟩
        have hk := findK_some hf
        have hCi := hC i _ (by rw [List.append_assoc, List.getElem?_append_left (List.getElem?_eq_some_iff.1 hk).1]; exact hk)
        rw [List.foldl_cons, List.foldl_cons, cntL, cwStep, hCi]
        exact h2 N3 C _ hC (Nat.min_le_left _ _)
      | none =>
        obtain ⟨N2, T2, h1, h2⟩ := arcs_fold (g := g) (a := a) (y := y) (f := f) (x := x) (s := s) l (N ++ [(p.2.2.toNat, aft a s (valAt g x) p.2.1.toNat)]) (T ++ [(p.1, N.length)])
        refine ⟨(p.2.2.toNat, aft a s (valAt g x) p.2.1.toNat) :: N2, (p.1, N.length) :: T2, by rw [List.foldl_cons, arcL, if_neg h0]; simp only [hf]; rw [h1, List.append_assoc, List.append_assoc]; rfl, fun N3 C n hC hn => ?_⟩
        have hCi := hC N.length _ (by rw [List.append_assoc, List.getElem?_append_right (Nat.le_refl _), Nat.sub_self]; rfl)
        rw [List.foldl_cons, List.foldl_cons, cntL, cwStep, hCi]
        exact h2 N3 C _ (fun i k hk => hC i k (by simpa using hk)) (Nat.min_le_left _ _)
/-- a layer's rows count what the recursion counts -/
theorem layL_cnt {g : Gr} {a : Au} {y : Int} {f : Nat} : ∀ (last N : List Key), ∃ N2, (layL g a last N).1 = N ++ N2 ∧ (layL g a last N).2.length = last.length ∧
    ∀ (N3 : List Key) (C : List Nat), (∀ i k, (N ++ N2 ++ N3)[i]? = some k → C.getD i 0 = cw g a y f k.1 k.2) →
      ∀ (j : Nat) (k : Key) (T : List (St × Nat)), last[j]? = some k → (layL g a last N).2[j]? = some T → T.foldl (cntL C) 0 = cw g a y (f + 1) k.1 k.2
  | [], N => ⟨[], by simp [layL], rfl, fun _ _ _ j k T hj => by simp at hj⟩
  | z :: last, N => by
    obtain ⟨N1, T1, h1, h2⟩ := arcs_fold (g := g) (a := a) (y := y) (f := f) (x := z.1) (s := z.2) (arcsOf g (z.1 : Int)) N []
    obtain ⟨N2, g1, g2, g3⟩ := layL_cnt (g := g) (a := a) (y := y) (f := f) last (N ++ N1)
    have hr : rowL g a N z.1 z.2 = (N ++ N1, T1) := by rw [rowL, h1, List.nil_append]
    refine ⟨N1 ++ N2, by rw [layL, hr]; simp only; rw [g1, List.append_assoc], by rw [layL, hr]; simp only [List.length_cons]; rw [g2], fun N3 C hC j k T hj hT => ?_⟩
    rw [layL, hr] at hT
    cases j with
    | zero =>
      simp only [List.getElem?_cons_zero, Option.some.injEq] at hj hT
      subst hj hT
      rw [h2 (N2 ++ N3) C 0 (fun i k hk => hC i k (by simpa using hk)) (by omega)]
      rfl
    | succ j =>
      simp only [List.getElem?_cons_succ] at hj hT
      exact g3 N3 C (fun i k hk => hC i k (by simpa using hk)) j k T hj hT
end Go.Proofs.YtpbfdmfkmbdpkaaGreat

/- The walks by their numbers, plainly: the layers' rows tell the same arcs as the recursion, and number n is picked alike. -/
namespace Go.Proofs.YtpbfdmfkmbdpkaaGreat
set_option linter.unusedVariables false
set_option linter.unusedSimpArgs false
open Go.ChangeShapes Go.WideShapes Go.ChangeAt Go.RowKit

/-! ### A layer's row beside the arcs of its node -/
inductive RowR (g : Gr) (a : Au) (x s : Nat) (N : List Key) : List Arc → List (St × Nat) → Prop
  | nil : RowR g a x s N [] []
  | skip {p : Arc} {l : List Arc} {T : List (St × Nat)} : aft a s (valAt g x) p.2.1.toNat = 0 → RowR g a x s N l T → RowR g a x s N (p :: l) T
  | take {p : Arc} {l : List Arc} {T : List (St × Nat)} {i : Nat} : aft a s (valAt g x) p.2.1.toNat ≠ 0 → N[i]? = some (p.2.2.toNat, aft a s (valAt g x) p.2.1.toNat) → RowR g a x s N l T → RowR g a x s N (p :: l) ((p.1, i) :: T)
theorem RowR.more {g : Gr} {a : Au} {x s : Nat} {N : List Key} {l : List Arc} {T : List (St × Nat)} (h : RowR g a x s N l T) (N3 : List Key) : RowR g a x s (N ++ N3) l T := by
  induction h with
  | nil => exact .nil
  | skip h1 _ ih => exact .skip h1 ih
  | take h1 h2 _ ih => exact .take h1 (by rw [List.getElem?_append_left (List.getElem?_eq_some_iff.1 h2).1]; exact h2) ih
theorem RowR.app {g : Gr} {a : Au} {x s : Nat} {N : List Key} {l l' : List Arc} {T T' : List (St × Nat)} (h : RowR g a x s N l T) (h' : RowR g a x s N l' T') : RowR g a x s N (l ++ l') (T ++ T') := by
  induction h with
  | nil => exact h'
  | skip h1 _ ih => exact .skip h1 ih
  | take h1 h2 _ ih => exact .take h1 h2 ih
/-- the fold of a row's making, told at each prefix of the arcs -/
def rowTk (g : Gr) (a : Au) (N : List Key) (x s k : Nat) : LSt := ((arcsOf g (x : Int)).take k).foldl (arcL g a x s) (N, [])
theorem rowTk_succ {g : Gr} {a : Au} {N : List Key} {x s k : Nat} {p : Arc} (h : (arcsOf g (x : Int))[k]? = some p) : rowTk g a N x s (k + 1) = arcL g a x s (rowTk g a N x s k) p := foldl_take h _
theorem rowTk_all (g : Gr) (a : Au) (N : List Key) (x s : Nat) : rowTk g a N x s (arcsOf g (x : Int)).length = rowL g a N x s := by rw [rowTk, List.take_length]; rfl
theorem arcs_row {g : Gr} {a : Au} {x s : Nat} : ∀ (l : List Arc) (N : List Key) (T : List (St × Nat)),
    ∃ N2 T2, l.foldl (arcL g a x s) (N, T) = (N ++ N2, T ++ T2) ∧ RowR g a x s (N ++ N2) l T2
  | [], N, T => ⟨[], [], by simp, .nil⟩
  | p :: l, N, T => by
    by_cases h0 : aft a s (valAt g x) p.2.1.toNat = 0
    · obtain ⟨N2, T2, h1, h2⟩ := arcs_row (g := g) (a := a) (x := x) (s := s) l N T
      exact ⟨N2, T2, by rw [List.foldl_cons, arcL, if_pos h0, h1], .skip h0 h2⟩
    · cases hf : findK N (p.2.2.toNat, aft a s (valAt g x) p.2.1.toNat) with
      | some i =>
        obtain ⟨N2, T2, h1, h2⟩ := arcs_row (g := g) (a := a) (x := x) (s := s) l N (T ++ [(p.1, i)])
        have hk := findK_some hf
        refine ⟨N2, (p.1, i) :: T2, by rw [List.foldl_cons, arcL, if_neg h0]; simp only [hf]; rw [h1, List.append_assoc]; rfl, .take h0 ?_ h2⟩
        rw [List.getElem?_append_left (List.getElem?_eq_some_iff.1 hk).1]; exact hk
      | none =>
        obtain ⟨N2, T2, h1, h2⟩ := arcs_row (g := g) (a := a) (x := x) (s := s) l (N ++ [(p.2.2.toNat, aft a s (valAt g x) p.2.1.toNat)]) (T ++ [(p.1, N.length)])
        refine ⟨(p.2.2.toNat, aft a s (valAt g x) p.2.1.toNat) :: N2, (p.1, N.length) :: T2, by rw [List.foldl_cons, arcL, if_neg h0]; simp only [hf]; rw [h1, List.append_assoc, List.append_assoc]; rfl, .take h0 ?_ ?_⟩
        · rw [List.getElem?_append_right (Nat.le_refl _), Nat.sub_self]; rfl
        · simpa using h2
theorem rowL_row (g : Gr) (a : Au) (N : List Key) (x s : Nat) : ∃ N2, (rowL g a N x s).1 = N ++ N2 ∧ RowR g a x s (N ++ N2) (arcsOf g (x : Int)) (rowL g a N x s).2 := by
  obtain ⟨N2, T2, h1, h2⟩ := arcs_row (g := g) (a := a) (x := x) (s := s) (arcsOf g (x : Int)) N []
  rw [List.nil_append] at h1
  exact ⟨N2, by rw [rowL, h1], by rw [rowL, h1]; exact h2⟩
/-- the layer, told at each prefix of its rows -/
def layTo (g : Gr) (a : Au) (last : List Key) (i : Nat) : List Key × List (List (St × Nat)) :=
  (last.take i).foldl (fun st k => ((rowL g a st.1 k.1 k.2).1, st.2 ++ [(rowL g a st.1 k.1 k.2).2])) ([], [])
theorem layTo_succ {g : Gr} {a : Au} {last : List Key} {i : Nat} {k : Key} (h : last[i]? = some k) :
    layTo g a last (i + 1) = ((rowL g a (layTo g a last i).1 k.1 k.2).1, (layTo g a last i).2 ++ [(rowL g a (layTo g a last i).1 k.1 k.2).2]) := by
  rw [layTo, foldl_take h]; rfl
def layA (g : Gr) (a : Au) (last : List Key) : List Key × List (List (St × Nat)) := layTo g a last last.length
theorem layTo_row (g : Gr) (a : Au) (last : List Key) : ∀ i, i ≤ last.length → (layTo g a last i).2.length = i ∧ ∀ (j : Nat) (k : Key) (T : List (St × Nat)), last[j]? = some k → (layTo g a last i).2[j]? = some T → RowR g a k.1 k.2 (layTo g a last i).1 (arcsOf g (k.1 : Int)) T
  | 0, _ => ⟨rfl, fun j k T _ hT => by simp [layTo] at hT⟩
  | i + 1, hi => by
    obtain ⟨h1, h2⟩ := layTo_row g a last i (by omega)
    have hk : last[i]? = some last[i] := List.getElem?_eq_getElem (by omega)
    generalize last[i] = k0 at hk
    obtain ⟨N2, g1, g2⟩ := rowL_row g a (layTo g a last i).1 k0.1 k0.2
    rw [layTo_succ hk]
    refine ⟨by simp [h1], fun j k T hj hT => ?_⟩
    simp only at hT ⊢
    rcases Nat.lt_or_ge j i with hlt | hge
    · rw [List.getElem?_append_left (by omega)] at hT
      rw [g1]
      exact (h2 j k T hj hT).more N2
    · rw [List.getElem?_append_right (by omega), h1] at hT
      have hj0 : j - i = 0 := by
        have := (List.getElem?_eq_some_iff.1 hT).1
        simp at this; omega
      rw [hj0] at hT
      simp only [List.getElem?_cons_zero, Option.some.injEq] at hT
      obtain rfl : j = i := by omega
      rw [hk] at hj
      injection hj with hj
      subst hj hT
      rw [g1]
      exact g2
theorem layA_row (g : Gr) (a : Au) (last : List Key) : (layA g a last).2.length = last.length ∧ ∀ (j : Nat) (k : Key) (T : List (St × Nat)), last[j]? = some k → (layA g a last).2[j]? = some T → RowR g a k.1 k.2 (layA g a last).1 (arcsOf g (k.1 : Int)) T := layTo_row g a last _ (Nat.le_refl _)

/-! ### Counting -/
theorem RowR.cnt {g : Gr} {a : Au} {y : Int} {f x s : Nat} {N : List Key} {C : List Nat} (hC : ∀ i k, N[i]? = some k → C.getD i 0 = cw g a y f k.1 k.2) {l : List Arc} {T : List (St × Nat)} (h : RowR g a x s N l T) :
    ∀ n, n ≤ 1000000 → T.foldl (cntL C) n = l.foldl (cwStep g a (cw g a y f) x s) n := by
  induction h with
  | nil => intro n _; rfl
  | skip h1 _ ih =>
    intro n hn
    rw [List.foldl_cons, cwStep, h1, cw_none, Nat.add_zero, Nat.min_eq_right hn]
    exact ih n hn
  | take h1 h2 _ ih =>
    intro n hn
    rw [List.foldl_cons, List.foldl_cons, cntL, cwStep, hC _ _ h2]
    exact ih _ (Nat.min_le_left _ _)

/-! ### Picking -/
/-- the first of l before which fewer than n are counted: and what is left of n -/
def pick {α : Type} (k : α → Nat) : List α → Nat → Option (α × Nat)
  | [], _ => none
  | p :: l, n => if n < k p then some (p, n) else pick k l (n - k p)
def cwAt (g : Gr) (a : Au) (y : Int) (f x s : Nat) (p : Arc) : Nat := cw g a y f p.2.2.toNat (aft a s (valAt g x) p.2.1.toNat)
theorem RowR.pick {g : Gr} {a : Au} {y : Int} {f x s : Nat} {N : List Key} {C : List Nat} (hC : ∀ i k, N[i]? = some k → C.getD i 0 = cw g a y f k.1 k.2) {l : List Arc} {T : List (St × Nat)} (h : RowR g a x s N l T) :
    ∀ n, (pick (fun e : St × Nat => C.getD e.2 0) T n = none ∧ Go.Proofs.YtpbfdmfkmbdpkaaGreat.pick (cwAt g a y f x s) l n = none) ∨
      ∃ p i n', pick (fun e : St × Nat => C.getD e.2 0) T n = some ((p.1, i), n') ∧ Go.Proofs.YtpbfdmfkmbdpkaaGreat.pick (cwAt g a y f x s) l n = some (p, n') ∧ N[i]? = some (p.2.2.toNat, aft a s (valAt g x) p.2.1.toNat) ∧ p ∈ l := by
  induction h with
  | nil => intro n; exact .inl ⟨rfl, rfl⟩
  | @skip p0 l0 T0 h1 _ ih =>
    intro n
    have hz : ¬ n < cwAt g a y f x s p0 := by rw [cwAt, h1, cw_none]; omega
    have hz2 : n - cwAt g a y f x s p0 = n := by rw [cwAt, h1, cw_none]; omega
    rcases ih n with ⟨e1, e2⟩ | ⟨p, i, n', e1, e2, e3, e4⟩
    · exact .inl ⟨e1, by rw [Go.Proofs.YtpbfdmfkmbdpkaaGreat.pick, if_neg hz, hz2, e2]⟩
    · exact .inr ⟨p, i, n', e1, by rw [Go.Proofs.YtpbfdmfkmbdpkaaGreat.pick, if_neg hz, hz2, e2], e3, List.mem_cons_of_mem _ e4⟩
  | @take p l T i h1 h2 _ ih =>
    intro n
    have hc : C.getD i 0 = cwAt g a y f x s p := hC _ _ h2
    by_cases hn : n < cwAt g a y f x s p
    · exact .inr ⟨p, i, n, by rw [Go.Proofs.YtpbfdmfkmbdpkaaGreat.pick, if_pos (by rw [hc]; exact hn)], by rw [Go.Proofs.YtpbfdmfkmbdpkaaGreat.pick, if_pos hn], h2, List.mem_cons_self ..⟩
    · rcases ih (n - cwAt g a y f x s p) with ⟨e1, e2⟩ | ⟨p', i', n', e1, e2, e3, e4⟩
      · exact .inl ⟨by rw [Go.Proofs.YtpbfdmfkmbdpkaaGreat.pick, if_neg (by rw [hc]; exact hn)]; simp only [hc]; exact e1, by rw [Go.Proofs.YtpbfdmfkmbdpkaaGreat.pick, if_neg hn, e2]⟩
      · exact .inr ⟨p', i', n', by rw [Go.Proofs.YtpbfdmfkmbdpkaaGreat.pick, if_neg (by rw [hc]; exact hn)]; simp only [hc]; exact e1, by rw [Go.Proofs.YtpbfdmfkmbdpkaaGreat.pick, if_neg hn, e2], e3, List.mem_cons_of_mem _ e4⟩
/-- what is left of n when the first i are passed over -/
def leftN {α : Type} (k : α → Nat) (l : List α) (n : Nat) : Nat := l.foldl (fun m p => m - k p) n
theorem pick_skip {α : Type} {k : α → Nat} : ∀ {l : List α} {i n : Nat}, (∀ j p, j < i → l[j]? = some p → ¬ leftN k (l.take j) n < k p) → i ≤ l.length → pick k l n = pick k (l.drop i) (leftN k (l.take i) n)
  | l, 0, n, _, _ => by simp [leftN]
  | [], i + 1, n, _, h => by simp at h
  | p :: l, i + 1, n, h, hi => by
    have h0 := h 0 p (by omega) rfl
    simp only [List.take_zero, leftN, List.foldl_nil] at h0
    rw [pick, if_neg h0, pick_skip (l := l) (i := i) (n := n - k p) (fun j q hj hq => ?_) (by simpa using hi)]
    · simp [leftN]
    · have := h (j + 1) q (by omega) (by simpa using hq)
      simpa [leftN] using this
theorem pick_fold {g : Gr} {a : Au} {y : Int} {f x s : Nat} : ∀ (l : List Arc) (n m : Nat), m ≤ 1000000 → n + m < l.foldl (cwStep g a (cw g a y f) x s) m → ∃ p n', pick (cwAt g a y f x s) l n = some (p, n') ∧ n' < cwAt g a y f x s p ∧ p ∈ l
  | [], n, m, _, h => by simp only [List.foldl_nil] at h; omega
  | p :: l, n, m, hm, h => by
    by_cases hn : n < cwAt g a y f x s p
    · exact ⟨p, n, by rw [pick, if_pos hn], hn, List.mem_cons_self ..⟩
    · have hle : cwStep g a (cw g a y f) x s m p ≤ 1000000 := Nat.min_le_left _ _
      rw [List.foldl_cons] at h
      have hs : cwStep g a (cw g a y f) x s m p = min 1000000 (m + cwAt g a y f x s p) := rfl
      have hmn : min 1000000 (m + cwAt g a y f x s p) ≤ m + cwAt g a y f x s p := Nat.min_le_right _ _
      obtain ⟨p', n', e1, e2, e3⟩ := pick_fold l (n - cwAt g a y f x s p) (cwStep g a (cw g a y f) x s m p) hle (Nat.lt_of_le_of_lt (show n - cwAt g a y f x s p + cwStep g a (cw g a y f) x s m p ≤ n + m by have hS : cwStep g a (cw g a y f) x s m p ≤ m + cwAt g a y f x s p := hmn; omega) h)
      exact ⟨p', n', by rw [pick, if_neg hn, e1], e2, List.mem_cons_of_mem _ e3⟩
theorem pick_cw {g : Gr} {a : Au} {y : Int} {f x s n : Nat} (h : n < cw g a y (f + 1) x s) : ∃ p n', pick (cwAt g a y f x s) (arcsOf g (x : Int)) n = some (p, n') ∧ n' < cwAt g a y f x s p ∧ p ∈ arcsOf g (x : Int) :=
  pick_fold _ n 0 (by omega) (by simpa [cw] using h)
/-- walk number n's steps -/
def nthL (g : Gr) (a : Au) (y : Int) : Nat → Nat → Nat → Nat → List St
  | 0, _, _, _ => []
  | f + 1, x, s, n => match pick (cwAt g a y f x s) (arcsOf g (x : Int)) n with
    | none => []
    | some (p, n') => p.1 :: nthL g a y f p.2.2.toNat (aft a s (valAt g x) p.2.1.toNat) n'
theorem nthL_succ {g : Gr} {a : Au} {y : Int} {f x s n n' : Nat} {p : Arc} (h : pick (cwAt g a y f x s) (arcsOf g (x : Int)) n = some (p, n')) :
    nthL g a y (f + 1) x s n = p.1 :: nthL g a y f p.2.2.toNat (aft a s (valAt g x) p.2.1.toNat) n' := by rw [nthL]; simp only [h]
theorem nthL_len {g : Gr} {a : Au} {y : Int} : ∀ {f x s n : Nat}, n < cw g a y f x s → (nthL g a y f x s n).length = f
  | 0, _, _, _, _ => rfl
  | f + 1, x, s, n, h => by
    obtain ⟨p, n', e1, e2, -⟩ := pick_cw h
    rw [nthL_succ e1, List.length_cons, nthL_len e2]
end Go.Proofs.YtpbfdmfkmbdpkaaGreat

/- LoopImages, plainly: the pairs of states that one word leads to, in the order in which they are met. -/
namespace Go.Proofs.YtpbfdmfkmbdpkaaGreat
set_option linter.unusedVariables false
set_option linter.unusedSimpArgs false

def nxP (f : Int → Nat → Int) (u : Int × Int) (k : Nat) : Int × Int := (f u.1 k, f u.2 k)
/-- one letter: the pairs met so far -/
def metP (f : Int → Nat → Int) (u : Int × Int) (r : List (Int × Int)) (k : Nat) : List (Int × Int) :=
  if (nxP f u k).2 < 0 ∨ nxP f u k ∈ r then r else r ++ [nxP f u k]
/-- the letters below k -/
def rowP (f : Int → Nat → Int) (u : Int × Int) (r : List (Int × Int)) : Nat → List (Int × Int)
  | 0 => r
  | k + 1 => metP f u (rowP f u r k) k
/-- the first k pairs taken -/
def imgP (f : Int → Nat → Int) (L : Nat) (s : Int × Int) : Nat → List (Int × Int)
  | 0 => []
  | k + 1 => match (s :: imgP f L s k)[k]? with
    | none => imgP f L s k
    | some u => rowP f u (imgP f L s k) L
/-- those that lie at q -/
def outP (q : Int) (r : List (Int × Int)) : List Int := (r.filter fun z => decide (z.2 = q)).map (·.1)

theorem metP_pre (f : Int → Nat → Int) (u : Int × Int) (r : List (Int × Int)) (k : Nat) : r <+: metP f u r k := by
  unfold metP; split
  · exact List.prefix_refl _
  · exact ⟨_, rfl⟩
theorem rowP_pre (f : Int → Nat → Int) (u : Int × Int) (r : List (Int × Int)) : ∀ k, r <+: rowP f u r k
  | 0 => List.prefix_refl _
  | k + 1 => (rowP_pre f u r k).trans (metP_pre f u _ k)
theorem imgP_succ {f : Int → Nat → Int} {L : Nat} {s : Int × Int} {k : Nat} {u : Int × Int} (h : (s :: imgP f L s k)[k]? = some u) : imgP f L s (k + 1) = rowP f u (imgP f L s k) L := by
  simp only [imgP, h]
theorem imgP_stop {f : Int → Nat → Int} {L : Nat} {s : Int × Int} {k : Nat} (h : (s :: imgP f L s k)[k]? = none) : imgP f L s (k + 1) = imgP f L s k := by
  simp only [imgP, h]
theorem imgP_pre (f : Int → Nat → Int) (L : Nat) (s : Int × Int) (k : Nat) : imgP f L s k <+: imgP f L s (k + 1) := by
  rcases h : (s :: imgP f L s k)[k]? with _ | u
  · rw [imgP_stop h]; exact List.prefix_refl _
  · rw [imgP_succ h]; exact rowP_pre f u _ L
theorem metP_good {f : Int → Nat → Int} {N : Int} (hf : ∀ s k, -1 ≤ f s k ∧ f s k < N) {u : Int × Int} {r : List (Int × Int)} (h : r.Nodup ∧ ∀ z ∈ r, -1 ≤ z.1 ∧ z.1 < N ∧ 0 ≤ z.2 ∧ z.2 < N) (k : Nat) :
    (metP f u r k).Nodup ∧ ∀ z ∈ metP f u r k, -1 ≤ z.1 ∧ z.1 < N ∧ 0 ≤ z.2 ∧ z.2 < N := by
  unfold metP; split
  · exact h
  · rename_i hc
    rw [not_or] at hc
    refine ⟨List.nodup_append.2 ⟨h.1, by simp, fun a ha b hb => ?_⟩, fun z hz => ?_⟩
    · rw [List.mem_singleton] at hb
      subst hb
      exact fun e => hc.2 (e ▸ ha)
    · rcases List.mem_append.1 hz with hz | hz
      · exact h.2 z hz
      · rw [List.mem_singleton] at hz
        subst hz
        exact ⟨(hf _ _).1, (hf _ _).2, by have := hc.1; omega, (hf _ _).2⟩
theorem rowP_good {f : Int → Nat → Int} {N : Int} (hf : ∀ s k, -1 ≤ f s k ∧ f s k < N) {u : Int × Int} {r : List (Int × Int)} (h : r.Nodup ∧ ∀ z ∈ r, -1 ≤ z.1 ∧ z.1 < N ∧ 0 ≤ z.2 ∧ z.2 < N) : ∀ k : Nat,
    (rowP f u r k).Nodup ∧ ∀ z ∈ rowP f u r k, -1 ≤ z.1 ∧ z.1 < N ∧ 0 ≤ z.2 ∧ z.2 < N
  | 0 => h
  | k + 1 => metP_good hf (rowP_good hf h k) k
theorem imgP_good {f : Int → Nat → Int} {N : Int} (hf : ∀ s k, -1 ≤ f s k ∧ f s k < N) (L : Nat) (s : Int × Int) : ∀ k : Nat,
    (imgP f L s k).Nodup ∧ ∀ z ∈ imgP f L s k, -1 ≤ z.1 ∧ z.1 < N ∧ 0 ≤ z.2 ∧ z.2 < N
  | 0 => ⟨List.nodup_nil, fun z hz => by cases hz⟩
  | k + 1 => by
    rcases h : (s :: imgP f L s k)[k]? with _ | u
    · rw [imgP_stop h]; exact imgP_good hf L s k
    · rw [imgP_succ h]; exact rowP_good hf (imgP_good hf L s k) L
theorem nodup_subN : ∀ (s l : List Nat), s.Nodup → (∀ x ∈ s, x ∈ l) → s.length ≤ l.length
  | [], _, _, _ => Nat.zero_le _
  | x :: s, l, hn, h => by
    obtain ⟨h1, h2⟩ := List.nodup_cons.1 hn
    have hx := h x (by simp)
    have := nodup_subN s (l.erase x) h2 (fun y hy => by
      have hne : y ≠ x := fun e => h1 (e ▸ hy)
      exact (List.mem_erase_of_ne hne).2 (h y (List.mem_cons_of_mem _ hy)))
    rw [List.length_erase_of_mem hx] at this
    have hp := List.length_pos_of_mem hx
    rw [List.length_cons]
    omega
/-- so there are at most (N + 1) * N of them -/
theorem good_len {N : Nat} {r : List (Int × Int)} (h : r.Nodup ∧ ∀ z ∈ r, -1 ≤ z.1 ∧ z.1 < (N : Int) ∧ 0 ≤ z.2 ∧ z.2 < (N : Int)) : r.length ≤ (N + 1) * N := by
  have h1 := nodup_subN (r.map fun z => (z.1 + 1).toNat * N + z.2.toNat) (List.range ((N + 1) * N)) ?_ ?_
  · simpa using h1
  · rw [List.Nodup, List.pairwise_map]
    refine List.Pairwise.imp_of_mem ?_ h.1
    intro a b ha hb hne he
    refine hne ?_
    obtain ⟨a1, a2, a3, a4⟩ := h.2 a ha
    obtain ⟨b1, b2, b3, b4⟩ := h.2 b hb
    have hN : 0 < N := by omega
    have hd : ((a.1 + 1).toNat * N + a.2.toNat) / N = ((b.1 + 1).toNat * N + b.2.toNat) / N := by rw [he]
    have hm : ((a.1 + 1).toNat * N + a.2.toNat) % N = ((b.1 + 1).toNat * N + b.2.toNat) % N := by rw [he]
    rw [Nat.mul_comm, Nat.mul_add_div hN, Nat.div_eq_of_lt (by omega), Nat.mul_comm _ N, Nat.mul_add_div hN, Nat.div_eq_of_lt (by omega)] at hd
    rw [Nat.mul_comm, Nat.mul_add_mod, Nat.mod_eq_of_lt (by omega), Nat.mul_comm _ N, Nat.mul_add_mod, Nat.mod_eq_of_lt (by omega)] at hm
    exact Prod.ext (by omega) (by omega)
  · intro x hx
    obtain ⟨z, hz, rfl⟩ := List.mem_map.1 hx
    obtain ⟨z1, z2, z3, z4⟩ := h.2 z hz
    rw [List.mem_range]
    have h2 : (z.1 + 1).toNat * N ≤ N * N := Nat.mul_le_mul_right _ (by omega)
    rw [Nat.add_mul]
    omega
/-- the numbers at q: each once, in bounds -/
theorem outP_good {N q : Int} {r : List (Int × Int)} (h : r.Nodup ∧ ∀ z ∈ r, -1 ≤ z.1 ∧ z.1 < N ∧ 0 ≤ z.2 ∧ z.2 < N) : (outP q r).Nodup ∧ ∀ x ∈ outP q r, -1 ≤ x ∧ x < N := by
  refine ⟨?_, fun x hx => ?_⟩
  · unfold outP
    rw [List.Nodup, List.pairwise_map]
    refine List.Pairwise.imp_of_mem ?_ (List.Pairwise.filter _ h.1)
    intro a b ha hb hne he
    refine hne ?_
    have ha2 := of_decide_eq_true (List.mem_filter.1 ha).2
    have hb2 := of_decide_eq_true (List.mem_filter.1 hb).2
    exact Prod.ext he (ha2.trans hb2.symm)
  · obtain ⟨z, hz, rfl⟩ := List.mem_map.1 hx
    have := h.2 z (List.mem_filter.1 hz).1
    exact ⟨this.1, this.2.1⟩
theorem mem_outP {q x : Int} {r : List (Int × Int)} : x ∈ outP q r ↔ (x, q) ∈ r := by
  unfold outP
  rw [List.mem_map]
  constructor
  · rintro ⟨z, hz, rfl⟩
    obtain ⟨h1, h2⟩ := List.mem_filter.1 hz
    rw [← of_decide_eq_true h2]
    exact h1
  · intro h
    exact ⟨_, List.mem_filter.2 ⟨h, by simp⟩, rfl⟩
theorem outP_metP_new {f : Int → Nat → Int} {u : Int × Int} {r : List (Int × Int)} {k : Nat} {q : Int} (h : ¬ ((nxP f u k).2 < 0 ∨ nxP f u k ∈ r)) :
    outP q (metP f u r k) = if (nxP f u k).2 = q then outP q r ++ [(nxP f u k).1] else outP q r := by
  unfold metP outP
  rw [if_neg h]
  by_cases hq : (nxP f u k).2 = q <;> simp [hq]
/-- the reference's side: a pair met again adds nothing -/
theorem mem_outP_metP {f : Int → Nat → Int} {u : Int × Int} {r : List (Int × Int)} {k : Nat} {q : Int} (hz : ¬ (nxP f u k).2 < 0) (x : Int) :
    x ∈ outP q (metP f u r k) ↔ x ∈ outP q r ∨ ((nxP f u k).2 = q ∧ x = (nxP f u k).1) := by
  rw [mem_outP, mem_outP]
  unfold metP
  by_cases hr : nxP f u k ∈ r
  · rw [if_pos (.inr hr)]
    constructor
    · exact .inl
    · rintro (h | ⟨h1, rfl⟩)
      · exact h
      · rw [← h1]; exact hr
  · rw [if_neg (by rw [not_or]; exact ⟨hz, hr⟩), List.mem_append, List.mem_singleton]
    constructor
    · rintro (h | h)
      · exact .inl h
      · exact .inr ⟨by rw [← h], by rw [← h]⟩
    · rintro (h | ⟨h1, h2⟩)
      · exact .inl h
      · exact .inr (Prod.ext h2 h1.symm)
/-- all pairs taken: nothing more comes -/
theorem imgP_still {f : Int → Nat → Int} {L : Nat} {s : Int × Int} {k : Nat} (h : (imgP f L s k).length < k) : ∀ j, imgP f L s (k + j) = imgP f L s k
  | 0 => rfl
  | j + 1 => by
    have ih := imgP_still h j
    rw [← Nat.add_assoc, imgP_stop, ih]
    rw [ih]
    exact List.getElem?_eq_none (by simp; omega)

end Go.Proofs.YtpbfdmfkmbdpkaaGreat

/- The layers, plainly: keys once each and in bounds; the chain of layers and what they count. -/
namespace Go.Proofs.YtpbfdmfkmbdpkaaGreat
set_option linter.unusedVariables false
set_option linter.unusedSimpArgs false
open Go.ChangeShapes Go.WideShapes Go.ChangeAt Go.RowKit

structure KeysOk (g : Gr) (a : Au) (N : List Key) : Prop where
  nod : N.Nodup
  rng : ∀ k ∈ N, k.1 < g.vals.length ∧ k.2 < 2 ^ a.accept.length
theorem findK_none {N : List Key} {k : Key} (h : findK N k = none) : k ∉ N := by
  intro hk
  have := List.findIdx?_eq_none_iff.1 h k hk
  simp at this
theorem KeysOk.push {g : Gr} {a : Au} {N : List Key} (h : KeysOk g a N) {k : Key} (hk : k ∉ N) (hr : k.1 < g.vals.length ∧ k.2 < 2 ^ a.accept.length) : KeysOk g a (N ++ [k]) := by
  refine ⟨List.nodup_append.2 ⟨h.nod, by simp, fun b hb c hc e => ?_⟩, fun u hu => ?_⟩
  · rw [List.mem_singleton] at hc
    subst hc e
    exact hk hb
  · rcases List.mem_append.1 hu with hu | hu
    · exact h.rng u hu
    · rw [List.mem_singleton] at hu
      subst hu
      exact hr
theorem arc_key {g : Gr} {a : Au} (hg : GrOk g) (ha : auOk a = true) {x : Int} {p : Arc} (hp : p ∈ arcsOf g x) (s v : Nat) : p.2.2.toNat < g.vals.length ∧ aft a s v p.2.1.toNat < 2 ^ a.accept.length := by
  have h := arc_range hg hp
  exact ⟨by omega, aft_lt ha _ _ _⟩
theorem arcL_ok {g : Gr} {a : Au} (hg : GrOk g) (ha : auOk a = true) {x s : Nat} {p : Arc} (hp : p ∈ arcsOf g (x : Int)) {st : LSt} (h : KeysOk g a st.1) : KeysOk g a (arcL g a x s st p).1 := by
  unfold arcL
  split
  · exact h
  · split
    · exact h
    · rename_i hf
      exact h.push (findK_none hf) (arc_key hg ha hp _ _)
theorem rowTk_ok {g : Gr} {a : Au} (hg : GrOk g) (ha : auOk a = true) {N : List Key} (h : KeysOk g a N) (x s : Nat) : ∀ k, KeysOk g a (rowTk g a N x s k).1
  | 0 => h
  | k + 1 => by
    rcases hk : (arcsOf g (x : Int))[k]? with _ | p
    · have : rowTk g a N x s (k + 1) = rowTk g a N x s k := by
        rw [rowTk, rowTk, List.take_of_length_le (by have := List.getElem?_eq_none_iff.1 hk; omega), List.take_of_length_le (List.getElem?_eq_none_iff.1 hk)]
      rw [this]
      exact rowTk_ok hg ha h x s k
    · rw [rowTk_succ hk]
      exact arcL_ok hg ha (List.mem_of_getElem? hk) (rowTk_ok hg ha h x s k)
theorem rowL_ok {g : Gr} {a : Au} (hg : GrOk g) (ha : auOk a = true) {N : List Key} (h : KeysOk g a N) (x s : Nat) : KeysOk g a (rowL g a N x s).1 := by
  rw [← rowTk_all]; exact rowTk_ok hg ha h x s _
theorem layTo_ok {g : Gr} {a : Au} (hg : GrOk g) (ha : auOk a = true) (last : List Key) : ∀ i, KeysOk g a (layTo g a last i).1
  | 0 => ⟨by simp [layTo], fun k hk => by simp [layTo] at hk⟩
  | i + 1 => by
    rcases hk : last[i]? with _ | k
    · have : layTo g a last (i + 1) = layTo g a last i := by
        rw [layTo, layTo, List.take_of_length_le (by have := List.getElem?_eq_none_iff.1 hk; omega), List.take_of_length_le (List.getElem?_eq_none_iff.1 hk)]
      rw [this]
      exact layTo_ok hg ha last i
    · rw [layTo_succ hk]
      exact rowL_ok hg ha (layTo_ok hg ha last i) _ _
theorem KeysOk.len {g : Gr} {a : Au} (hg : GrOk g) (ha : auOk a = true) {N : List Key} (h : KeysOk g a N) : N.length ≤ 20480 := by
  have h1 := nodup_subN (N.map fun z => z.1 * 4096 + z.2) (List.range 20480) ?_ ?_
  · simpa using h1
  · rw [List.Nodup, List.pairwise_map]
    refine List.Pairwise.imp_of_mem ?_ h.nod
    intro b c hb hc hne he
    refine hne ?_
    have hb := lt12 ha (h.rng b hb).2
    have hc := lt12 ha (h.rng c hc).2
    exact Prod.ext (by omega) (by omega)
  · intro u hu
    obtain ⟨z, hz, rfl⟩ := List.mem_map.1 hu
    have hb := h.rng z hz
    have hb2 := lt12 ha hb.2
    have := hg.n5
    rw [List.mem_range]
    omega
theorem arcL_len {g : Gr} {a : Au} {x s : Nat} (st : LSt) (p : Arc) : (arcL g a x s st p).2.length ≤ st.2.length + 1 := by
  unfold arcL
  split
  · omega
  · split <;> simp
theorem rowTk_len (g : Gr) (a : Au) (N : List Key) (x s : Nat) : ∀ k, (rowTk g a N x s k).2.length ≤ k
  | 0 => by simp [rowTk]
  | k + 1 => by
    rcases hk : (arcsOf g (x : Int))[k]? with _ | p
    · have : rowTk g a N x s (k + 1) = rowTk g a N x s k := by
        rw [rowTk, rowTk, List.take_of_length_le (by have := List.getElem?_eq_none_iff.1 hk; omega), List.take_of_length_le (List.getElem?_eq_none_iff.1 hk)]
      rw [this]
      exact Nat.le_trans (rowTk_len g a N x s k) (by omega)
    · rw [rowTk_succ hk]
      have := rowTk_len g a N x s k
      exact Nat.le_trans (arcL_len _ _) (by omega)

/-! ### The chain of layers -/
def layN (g : Gr) (a : Au) (k0 : Key) : Nat → List Key
  | 0 => [k0]
  | d + 1 => (layA g a (layN g a k0 d)).1
def layT (g : Gr) (a : Au) (k0 : Key) (d i : Nat) : List (St × Nat) := (layA g a (layN g a k0 d)).2.getD i []
theorem layN_ok {g : Gr} {a : Au} (hg : GrOk g) (ha : auOk a = true) {k0 : Key} (h0 : k0.1 < g.vals.length ∧ k0.2 < 2 ^ a.accept.length) : ∀ d, KeysOk g a (layN g a k0 d)
  | 0 => ⟨by simp [layN], fun k hk => by rw [layN, List.mem_singleton] at hk; subst hk; exact h0⟩
  | d + 1 => layTo_ok hg ha _ _
theorem layT_row {g : Gr} {a : Au} {k0 : Key} {d i : Nat} {k : Key} (h : (layN g a k0 d)[i]? = some k) : RowR g a k.1 k.2 (layN g a k0 (d + 1)) (arcsOf g (k.1 : Int)) (layT g a k0 d i) := by
  obtain ⟨h1, h2⟩ := layA_row g a (layN g a k0 d)
  have hi : i < (layA g a (layN g a k0 d)).2.length := by rw [h1]; exact (List.getElem?_eq_some_iff.1 h).1
  refine h2 i k _ h ?_
  rw [layT, List.getD_eq_getElem?_getD, List.getElem?_eq_getElem hi]; rfl
/-- what row i of layer d counts, of n layers behind the first -/
def layC (g : Gr) (a : Au) (y : Int) (k0 : Key) (n d i : Nat) : Nat := match (layN g a k0 d)[i]? with
  | none => 0
  | some k => cw g a y (n - d) k.1 k.2
theorem layC_at {g : Gr} {a : Au} {y : Int} {k0 : Key} {n d i : Nat} {k : Key} (h : (layN g a k0 d)[i]? = some k) : layC g a y k0 n d i = cw g a y (n - d) k.1 k.2 := by rw [layC]; simp only [h]
def cntF (C : Nat → Nat) (n : Nat) (e : St × Nat) : Nat := min 1000000 (n + C e.2)
theorem RowR.cntF {g : Gr} {a : Au} {y : Int} {f x s : Nat} {N : List Key} {C : Nat → Nat} (hC : ∀ i k, N[i]? = some k → C i = cw g a y f k.1 k.2) {l : List Arc} {T : List (St × Nat)} (h : RowR g a x s N l T) :
    ∀ n, n ≤ 1000000 → T.foldl (Go.Proofs.YtpbfdmfkmbdpkaaGreat.cntF C) n = l.foldl (cwStep g a (cw g a y f) x s) n := by
  induction h with
  | nil => intro n _; rfl
  | skip h1 _ ih =>
    intro n hn
    rw [List.foldl_cons, cwStep, h1, cw_none, Nat.add_zero, Nat.min_eq_right hn]
    exact ih n hn
  | take h1 h2 _ ih =>
    intro n hn
    rw [List.foldl_cons, List.foldl_cons, Go.Proofs.YtpbfdmfkmbdpkaaGreat.cntF, cwStep, hC _ _ h2]
    exact ih _ (Nat.min_le_left _ _)
theorem layC_fold {g : Gr} {a : Au} {y : Int} {k0 : Key} {n d i : Nat} {k : Key} (h : (layN g a k0 d)[i]? = some k) (hd : d < n) : (layT g a k0 d i).foldl (cntF (layC g a y k0 n (d + 1))) 0 = layC g a y k0 n d i := by
  rw [layC_at h, (layT_row h).cntF (y := y) (f := n - (d + 1)) (fun i k hk => layC_at hk) 0 (by omega), show n - d = (n - (d + 1)) + 1 by omega]
  rfl
theorem layC_le (g : Gr) (a : Au) (y : Int) (k0 : Key) (n d i : Nat) : layC g a y k0 n d i ≤ 1000000 := by
  unfold layC
  split
  · omega
  · exact cw_le ..
theorem RowR.to_lt {g : Gr} {a : Au} {x s : Nat} {N : List Key} {l : List Arc} {T : List (St × Nat)} (h : RowR g a x s N l T) : ∀ e ∈ T, e.2 < N.length := by
  induction h with
  | nil => intro e he; cases he
  | skip _ _ ih => exact ih
  | take _ h2 _ ih =>
    intro e he
    rcases List.mem_cons.1 he with rfl | he
    · exact (List.getElem?_eq_some_iff.1 h2).1
    · exact ih e he
theorem RowR.len {g : Gr} {a : Au} {x s : Nat} {N : List Key} {l : List Arc} {T : List (St × Nat)} (h : RowR g a x s N l T) : T.length ≤ l.length := by
  induction h with
  | nil => exact Nat.le_refl _
  | skip _ _ ih => rw [List.length_cons]; omega
  | take _ _ _ ih => simp only [List.length_cons]; omega
end Go.Proofs.YtpbfdmfkmbdpkaaGreat

/- Counting, numbering and listing walks: the plain results; the shortest length is below the number of vertices. -/
namespace Go.Proofs.YtpbfdmfkmbdpkaaGreat
set_option linter.unusedVariables false
set_option linter.unusedSimpArgs false
open Go.ChangeShapes Go.WideShapes Go.ChangeAt Go.RowKit

theorem dist_chain {next : Nat → List Nat} {goal : Nat → Prop} {N : Nat} (hn : ∀ i k, i < N → k ∈ next i → k < N) : ∀ (d i : Nat), i < N → toG next goal d i → (∀ m, m < d → ¬ toG next goal m i) →
    ∃ L : List Nat, L.length = d + 1 ∧ (∀ v ∈ L, v < N) ∧ (∀ e v, L[e]? = some v → toG next goal (d - e) v ∧ ∀ m, m < d - e → ¬ toG next goal m v)
  | 0, i, hi, hg, hm => ⟨[i], rfl, fun v hv => by rw [List.mem_singleton] at hv; subst hv; exact hi, fun e v he => by
      cases e with
      | zero => simp only [List.getElem?_cons_zero, Option.some.injEq] at he; subst he; exact ⟨hg, hm⟩
      | succ e => simp at he⟩
  | d + 1, i, hi, hg, hm => by
    obtain ⟨k, hk, hg2⟩ := hg
    obtain ⟨L, h1, h2, h3⟩ := dist_chain hn d k (hn i k hi hk) hg2 (fun m hmd hgm => hm (m + 1) (by omega) ⟨k, hk, hgm⟩)
    refine ⟨i :: L, by simp [h1], fun v hv => ?_, fun e v he => ?_⟩
    · rcases List.mem_cons.1 hv with rfl | hv
      · exact hi
      · exact h2 v hv
    · cases e with
      | zero => simp only [List.getElem?_cons_zero, Option.some.injEq] at he; subst he; exact ⟨⟨k, hk, hg2⟩, hm⟩
      | succ e =>
        simp only [List.getElem?_cons_succ] at he
        have := h3 e v he
        rwa [show d + 1 - (e + 1) = d - e by omega]
theorem nodup_le : ∀ {L : List Nat} {N : Nat}, L.Nodup → (∀ v ∈ L, v < N) → L.length ≤ N := by
  intro L N h1 h2
  have := nodup_subN L (List.range N) h1 (fun v hv => List.mem_range.2 (h2 v hv))
  simpa using this
theorem dist_lt {next : Nat → List Nat} {goal : Nat → Prop} {N i : Nat} {d : Int} (hn : ∀ i k, i < N → k ∈ next i → k < N) (hi : i < N) (h : IsDist next goal i d) : d < (N : Int) := by
  rcases h with ⟨rfl, _⟩ | ⟨h0, h1, h2⟩
  · omega
  · obtain ⟨L, e1, e2, e3⟩ := dist_chain hn d.toNat i hi h1 h2
    have hnd : L.Nodup := by
      rw [List.Nodup, List.pairwise_iff_getElem]
      intro p q hp hq hpq he
      have f1 := e3 p L[p] (List.getElem?_eq_getElem hp)
      have f2 := e3 q L[q] (List.getElem?_eq_getElem hq)
      rw [← he] at f2
      exact f1.2 _ (by omega) f2.1
    have := nodup_le hnd e2
    omega
theorem shortLen_dist {g : Gr} {a : Au} {x y : Nat} (hg : grOk g = true) (ha : auOk a = true) (hx : x < g.vals.length) (hy : y < g.vals.length) :
    IsDist (nextI g a) (fun i => i ∈ goalsL g a y) (x * a.accept.length + a.start.toNat) (shortLen g a (x : Int) (y : Int)) := by
  have hd : (wi (y : Int) 0 ((g.vals.length : Int) - 1) && (grOk g && auOk a)) = true := by
    simp only [Bool.and_eq_true]
    exact ⟨by rw [wi_iff]; omega, hg, ha⟩
  have hN : ∀ i k, i < g.vals.length * a.accept.length → k ∈ nextI g a i → k < g.vals.length * a.accept.length := fun i k _ hk => nextV_lt (grOk_iff.1 hg) ha hk
  have hfs : ∀ i ∈ goalsL g a y, i < g.vals.length * a.accept.length := fun i hi => by
    obtain ⟨s, hs, _, rfl⟩ := mem_goalsL.1 hi
    calc y * a.accept.length + s < y * a.accept.length + a.accept.length := by omega
      _ = (y + 1) * a.accept.length := by rw [Nat.add_mul, Nat.one_mul]
      _ ≤ _ := Nat.mul_le_mul_right _ hy
  obtain ⟨⟨_, hn⟩, ⟨h0, h1⟩, -, -⟩ := auOk_iff.1 ha
  have hi : x * a.accept.length + a.start.toNat < g.vals.length * a.accept.length := by
    calc x * a.accept.length + a.start.toNat < x * a.accept.length + a.accept.length := by omega
      _ = (x + 1) * a.accept.length := by rw [Nat.add_mul, Nat.one_mul]
      _ ≤ _ := Nat.mul_le_mul_right _ hx
  rw [shortLen, if_pos (by rw [Bool.and_eq_true]; exact ⟨by rw [wi_iff]; omega, hd⟩), distTo, if_pos hd, Int.toNat_natCast, Int.toNat_natCast]
  exact spread_dist hfs hN _ hi
theorem shortLen_ok {g : Gr} {a : Au} {x y : Int} (h : 0 ≤ shortLen g a x y) : cntOk g a x y = true := by
  rcases hc : cntOk g a x y with _ | _
  · have : shortLen g a x y = -1 := by
      rw [shortLen, if_neg]
      rw [cntOk] at hc
      rw [hc]; simp
    omega
  · rfl
theorem cntOk_iff {g : Gr} {a : Au} {x y : Int} : cntOk g a x y = true ↔ (0 ≤ x ∧ x < (g.vals.length : Int)) ∧ (0 ≤ y ∧ y < (g.vals.length : Int)) ∧ grOk g = true ∧ auOk a = true := by
  rw [cntOk]
  simp only [Bool.and_eq_true, wi_iff]
  constructor
  · rintro ⟨h1, h2, h3, h4⟩; exact ⟨by omega, by omega, h3, h4⟩
  · rintro ⟨h1, h2, h3, h4⟩; exact ⟨by omega, by omega, h3, h4⟩
theorem shortLen_lt (g : Gr) (a : Au) (x y : Int) : shortLen g a x y ≤ 59 := by
  rcases Int.lt_or_le (shortLen g a x y) 0 with h | h
  · omega
  · obtain ⟨⟨hx0, hx1⟩, ⟨hy0, hy1⟩, hg, ha⟩ := cntOk_iff.1 (shortLen_ok h)
    obtain ⟨x, rfl⟩ := Int.eq_ofNat_of_zero_le hx0
    obtain ⟨y, rfl⟩ := Int.eq_ofNat_of_zero_le hy0
    have hd := shortLen_dist hg ha (show x < g.vals.length by omega) (show y < g.vals.length by omega)
    have hN : ∀ i k, i < g.vals.length * a.accept.length → k ∈ nextI g a i → k < g.vals.length * a.accept.length := fun i k _ hk => nextV_lt (grOk_iff.1 hg) ha hk
    obtain ⟨⟨_, hn⟩, ⟨h0, h1⟩, -, -⟩ := auOk_iff.1 ha
    have hi : x * a.accept.length + a.start.toNat < g.vals.length * a.accept.length := by
      calc x * a.accept.length + a.start.toNat < x * a.accept.length + a.accept.length := by omega
        _ = (x + 1) * a.accept.length := by rw [Nat.add_mul, Nat.one_mul]
        _ ≤ _ := Nat.mul_le_mul_right _ (by omega)
    have h5 := dist_lt hN hi hd
    have h6 : g.vals.length * a.accept.length ≤ 5 * 12 := Nat.mul_le_mul (grOk_iff.1 hg).n5 hn
    omega
theorem shortLen_neg {g : Gr} {a : Au} {x y : Int} (h : shortLen g a x y < 0) : shortLen g a x y = -1 := by
  rcases hc : cntOk g a x y with _ | _
  · rw [shortLen, if_neg]
    rw [cntOk] at hc
    rw [hc]; simp
  · obtain ⟨⟨hx0, hx1⟩, ⟨hy0, hy1⟩, hg, ha⟩ := cntOk_iff.1 hc
    obtain ⟨x, rfl⟩ := Int.eq_ofNat_of_zero_le hx0
    obtain ⟨y, rfl⟩ := Int.eq_ofNat_of_zero_le hy0
    rcases shortLen_dist hg ha (show x < g.vals.length by omega) (show y < g.vals.length by omega) with ⟨h1, _⟩ | ⟨h1, _⟩
    · exact h1
    · omega

/-! ### The results -/
def cwI (g : Gr) (a : Au) (x y : Int) (f : Nat) : Nat := cw g a y f x.toNat (bit a.start.toNat)
theorem cwI_le (g : Gr) (a : Au) (x y : Int) (f : Nat) : cwI g a x y f ≤ 1000000 := cw_le ..
def nthI (g : Gr) (a : Au) (x y : Int) (f n : Nat) : List St := nthL g a y f x.toNat (bit a.start.toNat) n
def cntWalks (g : Gr) (a : Au) (x y n : Int) : Int := if (cntOk g a x y && wi n 0 60) = true then (cwI g a x y n.toNat : Nat) else 0
def cntShort (g : Gr) (a : Au) (x y : Int) : Int := if shortLen g a x y < 0 then 0 else (cwI g a x y (shortLen g a x y).toNat : Nat)
def nthSh (g : Gr) (a : Au) (x y n : Int) : Bool := decide (0 ≤ shortLen g a x y) && wi n 0 ((cwI g a x y (shortLen g a x y).toNat : Nat) - 1)
def nthShort (g : Gr) (a : Au) (x y n : Int) : Wk × Bool := if nthSh g a x y n = true then ((x, nthI g a x y (shortLen g a x y).toNat n.toNat), true) else ((0, []), false)
def nthWalkP (g : Gr) (a : Au) (x y : Int) (n : Nat) : Wk × Bool := match pick (cwI g a x y) (List.range 61) n with
  | none => ((0, []), false)
  | some (f, n') => ((x, nthI g a x y f n'), true)
def nthWalk (g : Gr) (a : Au) (x y n : Int) : Wk × Bool := if (decide (0 ≤ shortLen g a x y) && wi n 0 999999) = true then nthWalkP g a x y n.toNat else ((0, []), false)
theorem nthShort_len (g : Gr) (a : Au) (x y n : Int) : (nthShort g a x y n).1.2.length ≤ 60 := by
  unfold nthShort
  split
  · rename_i h
    rw [nthSh, Bool.and_eq_true, wi_iff, decide_eq_true_eq] at h
    have h2 := shortLen_lt g a x y
    show (nthI ..).length ≤ 60
    rw [nthI, nthL_len]
    · omega
    · have : n.toNat < cwI g a x y (shortLen g a x y).toNat := by omega
      exact this
  · simp
theorem pick_some {α : Type} {k : α → Nat} : ∀ {l : List α} {n n' : Nat} {p : α}, pick k l n = some (p, n') → p ∈ l ∧ n' < k p
  | [], n, n', p, h => by cases h
  | q :: l, n, n', p, h => by
    rw [pick] at h
    split at h
    · rename_i hn
      injection h with h
      injection h with h1 h2
      subst h1 h2
      exact ⟨List.mem_cons_self .., hn⟩
    · have := pick_some h
      exact ⟨List.mem_cons_of_mem _ this.1, this.2⟩
theorem nthWalk_len (g : Gr) (a : Au) (x y n : Int) : (nthWalk g a x y n).1.2.length ≤ 60 := by
  unfold nthWalk
  split
  · unfold nthWalkP
    split
    · simp
    · rename_i f n' h
      obtain ⟨h1, h2⟩ := pick_some h
      have := List.mem_range.1 h1
      show (nthI ..).length ≤ 60
      rw [nthI, nthL_len h2]
      omega
  · simp
end Go.Proofs.YtpbfdmfkmbdpkaaGreat

/- The least witness, plainly: the greedy walk over the states that are still at the right distance is walk number 0. -/
namespace Go.Proofs.YtpbfdmfkmbdpkaaGreat
set_option linter.unusedVariables false
set_option linter.unusedSimpArgs false
open Go.ChangeShapes Go.WideShapes Go.ChangeAt Go.RowKit

theorem aft1_test (a : Au) (l m t u : Nat) : (aft1 a l m t).testBit u = (m.testBit u || decide (mv a t l = (u : Int))) := by
  unfold aft1
  split
  · rename_i h
    rw [ins_test]
    congr 1
    apply decide_eq_decide.2
    omega
  · rename_i h
    have : ¬ mv a t l = (u : Int) := by omega
    simp [this]
theorem aftF1_test (a : Au) (l u : Nat) : ∀ (L : List Nat) (m : Nat), (L.foldl (aft1 a l) m).testBit u = (m.testBit u || L.any fun t => decide (mv a t l = (u : Int)))
  | [], m => by simp
  | t :: L, m => by rw [List.foldl_cons, aftF1_test a l u L, aft1_test, List.any_cons, Bool.or_assoc]
theorem aftFS_test (a : Au) (v l u : Nat) : ∀ (L : List Nat) (m : Nat), (L.foldl (aftS a v l) m).testBit u = (m.testBit u || L.any fun s => (mem 12 (cls a v s)).any fun t => decide (mv a t l = (u : Int)))
  | [], m => by simp
  | s :: L, m => by rw [List.foldl_cons, aftFS_test a v l u L, aftS, aftF1_test, List.any_cons, Bool.or_assoc]
theorem aft_test (a : Au) (S v l u : Nat) : (aft a S v l).testBit u = (mem 12 S).any fun s => (mem 12 (cls a v s)).any fun t => decide (mv a t l = (u : Int)) := by rw [aft, aftFS_test, Nat.zero_testBit, Bool.false_or]
theorem test_lt {n S s : Nat} (hS : S < 2 ^ n) (h : S.testBit s = true) : s < n := by
  rcases Nat.lt_or_ge s n with h1 | h1
  · exact h1
  · rw [Nat.testBit_lt_two_pow (Nat.lt_of_lt_of_le hS (Nat.pow_le_pow_right (by omega) h1))] at h; cases h
theorem aft_any {a : Au} (ha : auOk a = true) {S : Nat} (hS : S < 2 ^ a.accept.length) (v l u : Nat) : (aft a S v l).testBit u = true ↔ ∃ s, S.testBit s = true ∧ (aft a (bit s) v l).testBit u = true := by
  have hn := (auOk_iff.1 ha).1.2
  rw [aft_test, List.any_eq_true]
  constructor
  · rintro ⟨s, hs, h⟩
    rw [mem_mem] at hs
    exact ⟨s, hs.2, by rw [aft_test, mem_pow hs.1, List.any_cons, h]; rfl⟩
  · rintro ⟨s, hs, h⟩
    have hs12 : s < 12 := by have := test_lt hS hs; omega
    rw [aft_test, mem_pow hs12] at h
    exact ⟨s, mem_mem.2 ⟨hs12, hs⟩, by simpa using h⟩
/-- vertex (x, q) reaches an accepting end at y in exactly f steps -/
def hitK (g : Gr) (a : Au) (y f x q : Nat) : Prop := toG (nextI g a) (fun i => i ∈ goalsL g a y) f (x * a.accept.length + q)
theorem div_vx {n x q : Nat} (hq : q < n) : (x * n + q) / n = x := by
  rw [Nat.mul_comm, Nat.mul_add_div (by omega), Nat.div_eq_of_lt hq]; rfl
theorem mod_vx {n x q : Nat} (hq : q < n) : (x * n + q) % n = q := by rw [Nat.mul_comm, Nat.mul_add_mod, Nat.mod_eq_of_lt hq]
theorem mem_nextI {g : Gr} {a : Au} (ha : auOk a = true) {x q v : Nat} (hq : q < a.accept.length) : v ∈ nextI g a (x * a.accept.length + q) ↔ ∃ p ∈ arcsOf g (x : Int), ∃ t, (aft a (bit q) (valAt g x) p.2.1.toNat).testBit t = true ∧ v = p.2.2.toNat * a.accept.length + t := by
  have hn := (auOk_iff.1 ha).1.2
  rw [nextI, div_vx hq, mod_vx hq, nextV, List.mem_flatMap]
  constructor
  · rintro ⟨p, hp, h⟩
    obtain ⟨t, ht, rfl⟩ := List.mem_map.1 h
    exact ⟨p, hp, t, (mem_mem.1 ht).2, rfl⟩
  · rintro ⟨p, hp, t, ht, rfl⟩
    have := test_lt (aft_lt ha (bit q) (valAt g x) p.2.1.toNat) ht
    exact ⟨p, hp, List.mem_map.2 ⟨t, mem_mem.2 ⟨by omega, ht⟩, rfl⟩⟩
theorem hit_zero {g : Gr} {a : Au} {y x q : Nat} (hq : q < a.accept.length) : hitK g a y 0 x q ↔ x = y ∧ accC a (valAt g y) q = true := by
  show x * a.accept.length + q ∈ goalsL g a y ↔ _
  rw [mem_goalsL]
  constructor
  · rintro ⟨s, hs, hc, he⟩
    have h1 := congrArg (· / a.accept.length) he
    have h2 := congrArg (· % a.accept.length) he
    simp only [div_vx hq, div_vx hs, mod_vx hq, mod_vx hs] at h1 h2
    subst h1 h2
    exact ⟨rfl, hc⟩
  · rintro ⟨rfl, h⟩
    exact ⟨q, hq, h, rfl⟩
theorem hit_succ {g : Gr} {a : Au} (ha : auOk a = true) {y f x q : Nat} (hq : q < a.accept.length) : hitK g a y (f + 1) x q ↔ ∃ p ∈ arcsOf g (x : Int), ∃ t, (aft a (bit q) (valAt g x) p.2.1.toNat).testBit t = true ∧ hitK g a y f p.2.2.toNat t := by
  show (∃ k ∈ nextI g a (x * a.accept.length + q), toG (nextI g a) (fun i => i ∈ goalsL g a y) f k) ↔ _
  constructor
  · rintro ⟨k, hk, h⟩
    obtain ⟨p, hp, t, ht, rfl⟩ := (mem_nextI ha hq).1 hk
    exact ⟨p, hp, t, ht, h⟩
  · rintro ⟨p, hp, t, ht, h⟩
    exact ⟨_, (mem_nextI ha hq).2 ⟨p, hp, t, ht, rfl⟩, h⟩
theorem fold_pos {g : Gr} {a : Au} {y : Int} {f x s : Nat} : ∀ (l : List Arc) (m : Nat), 0 < l.foldl (cwStep g a (cw g a y f) x s) m ↔ 0 < m ∨ ∃ p ∈ l, 0 < cwAt g a y f x s p
  | [], m => by simp
  | p :: l, m => by
    rw [List.foldl_cons, fold_pos l]
    have hs : cwStep g a (cw g a y f) x s m p = min 1000000 (m + cwAt g a y f x s p) := rfl
    rw [hs]
    constructor
    · rintro (h | ⟨q, hq, h⟩)
      · rcases Nat.eq_zero_or_pos m with h0 | h0
        · exact .inr ⟨p, List.mem_cons_self .., by omega⟩
        · exact .inl h0
      · exact .inr ⟨q, List.mem_cons_of_mem _ hq, h⟩
    · rintro (h | ⟨q, hq, h⟩)
      · exact .inl (by omega)
      · rcases List.mem_cons.1 hq with rfl | hq
        · exact .inl (by omega)
        · exact .inr ⟨q, hq, h⟩
theorem cw_pos {g : Gr} {a : Au} (ha : auOk a = true) {y : Nat} : ∀ {f x s : Nat}, s < 2 ^ a.accept.length → (0 < cw g a (y : Int) f x s ↔ ∃ q, s.testBit q = true ∧ hitK g a y f x q)
  | 0, x, s, hs => by
    have hn := (auOk_iff.1 ha).1.2
    rw [cw]
    have e : (decide ((x : Int) = (y : Int)) && acc a s (valAt g x)) = true ↔ ∃ q, s.testBit q = true ∧ hitK g a y 0 x q := by
      rw [Bool.and_eq_true, decide_eq_true_eq, acc, List.any_eq_true]
      constructor
      · rintro ⟨hxy, q, hq, h⟩
        obtain rfl : x = y := by omega
        have h2 := (mem_mem.1 hq).2
        exact ⟨q, h2, (hit_zero (test_lt hs h2)).2 ⟨rfl, h⟩⟩
      · rintro ⟨q, hq, h⟩
        have hql := test_lt hs hq
        obtain ⟨rfl, h2⟩ := (hit_zero hql).1 h
        exact ⟨rfl, q, mem_mem.2 ⟨by omega, hq⟩, h2⟩
    rw [← e]
    split <;> simp_all
  | f + 1, x, s, hs => by
    rw [cw, fold_pos]
    constructor
    · rintro (h | ⟨p, hp, h⟩)
      · omega
      · rw [cwAt, cw_pos ha (aft_lt ha _ _ _)] at h
        obtain ⟨t, ht, h⟩ := h
        obtain ⟨q, hq, ht⟩ := (aft_any ha hs _ _ _).1 ht
        exact ⟨q, hq, (hit_succ ha (test_lt hs hq)).2 ⟨p, hp, t, ht, h⟩⟩
    · rintro ⟨q, hq, h⟩
      obtain ⟨p, hp, t, ht, h⟩ := (hit_succ ha (test_lt hs hq)).1 h
      refine .inr ⟨p, hp, ?_⟩
      rw [cwAt, cw_pos ha (aft_lt ha _ _ _)]
      exact ⟨t, (aft_any ha hs _ _ _).2 ⟨q, hq, ht⟩, h⟩

/-! ### The greedy walk -/
def keepTo (D : List Int) (n x set f : Nat) : Nat → Nat
  | 0 => 0
  | q + 1 => if (set.testBit q && (D.getD (x * n + q) 0 == (f : Int))) = true then ins (keepTo D n x set f q) q else keepTo D n x set f q
theorem keepTo_test (D : List Int) (n x set f u : Nat) : ∀ k, (keepTo D n x set f k).testBit u = true ↔ u < k ∧ set.testBit u = true ∧ D.getD (x * n + u) 0 = (f : Int)
  | 0 => by simp [keepTo]
  | k + 1 => by
    rw [keepTo]
    split
    · rename_i h
      rw [Bool.and_eq_true, beq_iff_eq] at h
      rw [ins_test, Bool.or_eq_true, keepTo_test D n x set f u k, decide_eq_true_eq]
      constructor
      · rintro (⟨h1, h2⟩ | rfl)
        · exact ⟨by omega, h2⟩
        · exact ⟨by omega, h⟩
      · rintro ⟨h1, h2⟩
        by_cases hk : k = u
        · exact .inr hk
        · exact .inl ⟨by omega, h2⟩
    · rename_i h
      rw [Bool.and_eq_true, beq_iff_eq] at h
      rw [keepTo_test D n x set f u k]
      constructor
      · rintro ⟨h1, h2⟩; exact ⟨by omega, h2⟩
      · rintro ⟨h1, h2⟩
        refine ⟨?_, h2⟩
        by_cases hk : u = k
        · subst hk; exact absurd h2 h
        · omega
theorem keepTo_lt (D : List Int) (n x set f : Nat) : ∀ k, keepTo D n x set f k < 2 ^ k
  | 0 => by simp [keepTo]
  | k + 1 => by
    have h := keepTo_lt D n x set f k
    have h2 : keepTo D n x set f k < 2 ^ (k + 1) := Nat.lt_of_lt_of_le h (Nat.pow_le_pow_right (by omega) (by omega))
    rw [keepTo]
    split
    · exact ins_lt h2 (by omega)
    · exact h2
def keepK (a : Au) (D : List Int) (x set f : Nat) : Nat := keepTo D a.accept.length x set f a.accept.length
def keepA (g : Gr) (a : Au) (D : List Int) (f x s : Nat) (p : Arc) : Nat := keepK a D p.2.2.toNat (aft a s (valAt g x) p.2.1.toNat) f
/-- the walk's steps, with f steps left -/
def lwL (g : Gr) (a : Au) (D : List Int) : Nat → Nat → Nat → List St
  | 0, _, _ => []
  | f + 1, x, s => match (arcsOf g (x : Int)).find? (fun p => decide (keepA g a D f x s p ≠ 0)) with
    | none => lwL g a D f x s
    | some p => p.1 :: lwL g a D f p.2.2.toNat (keepA g a D f x s p)
theorem find_congr {α : Type} {p q : α → Bool} : ∀ {l : List α}, (∀ x ∈ l, p x = q x) → l.find? p = l.find? q
  | [], _ => rfl
  | x :: l, h => by
    rw [List.find?_cons, List.find?_cons, h x (List.mem_cons_self ..), find_congr (fun y hy => h y (List.mem_cons_of_mem _ hy))]
theorem pick_zero {α : Type} (k : α → Nat) : ∀ l : List α, pick k l 0 = (l.find? fun p => decide (0 < k p)).map fun p => (p, 0)
  | [] => rfl
  | p :: l => by
    rw [pick, List.find?_cons]
    by_cases h : 0 < k p
    · simp [h]
    · have h2 : k p = 0 := by omega
      simp [h2, pick_zero k l]
/-- S: the states of the walk so far; K: those of them at distance f; none is nearer -/
structure KeepI (g : Gr) (a : Au) (y f x S K : Nat) : Prop where
  far : ∀ q, S.testBit q = true → ∀ m, m < f → ¬ hitK g a y m x q
  kept : ∀ q, K.testBit q = true ↔ S.testBit q = true ∧ hitK g a y f x q
theorem ne_zero_iff {m : Nat} : m ≠ 0 ↔ ∃ q, m.testBit q = true := by
  constructor
  · exact Nat.exists_testBit_of_ne_zero
  · rintro ⟨q, hq⟩ rfl
    simp at hq
theorem dist_eq {g : Gr} {a : Au} {y : Nat} (hg : grOk g = true) (ha : auOk a = true) (hy : y < g.vals.length) {x q : Nat} (hx : x < g.vals.length) (hq : q < a.accept.length) (f : Nat) :
    (distTo g a (y : Int)).getD (x * a.accept.length + q) 0 = (f : Int) ↔ hitK g a y f x q ∧ ∀ m, m < f → ¬ hitK g a y m x q := by
  have hd : (wi (y : Int) 0 ((g.vals.length : Int) - 1) && (grOk g && auOk a)) = true := by
    simp only [Bool.and_eq_true]
    exact ⟨by rw [wi_iff]; omega, hg, ha⟩
  have hN : ∀ i k, i < g.vals.length * a.accept.length → k ∈ nextI g a i → k < g.vals.length * a.accept.length := fun i k _ hk => nextV_lt (grOk_iff.1 hg) ha hk
  have hfs : ∀ i ∈ goalsL g a y, i < g.vals.length * a.accept.length := fun i hi => by
    obtain ⟨s, hs, _, rfl⟩ := mem_goalsL.1 hi
    calc y * a.accept.length + s < y * a.accept.length + a.accept.length := by omega
      _ = (y + 1) * a.accept.length := by rw [Nat.add_mul, Nat.one_mul]
      _ ≤ _ := Nat.mul_le_mul_right _ hy
  have hi : x * a.accept.length + q < g.vals.length * a.accept.length := by
    calc x * a.accept.length + q < x * a.accept.length + a.accept.length := by omega
      _ = (x + 1) * a.accept.length := by rw [Nat.add_mul, Nat.one_mul]
      _ ≤ _ := Nat.mul_le_mul_right _ hx
  have h := spread_dist hfs hN _ hi
  have he : (distTo g a (y : Int)).getD (x * a.accept.length + q) 0 = (spreadR (g.vals.length * a.accept.length) (turnL (g.vals.length * a.accept.length) (nextI g a)) (goalsL g a y)).getD (x * a.accept.length + q) 0 := by rw [distTo, if_pos hd, Int.toNat_natCast]
  rw [← he] at h
  constructor
  · intro hf
    rcases h with ⟨h1, -⟩ | ⟨h1, h2, h3⟩
    · omega
    · rw [hf, Int.toNat_natCast] at h2 h3
      exact ⟨h2, h3⟩
  · rintro ⟨h1, h2⟩
    exact h.uniq (.inr ⟨by omega, by rw [Int.toNat_natCast]; exact h1, by rw [Int.toNat_natCast]; exact h2⟩)
theorem KeepI.step {g : Gr} {a : Au} {y : Nat} (hg : grOk g = true) (ha : auOk a = true) (hy : y < g.vals.length) {f x S K : Nat} (hS : S < 2 ^ a.accept.length) (hK : K < 2 ^ a.accept.length) (h : KeepI g a y (f + 1) x S K) {p : Arc} (hp : p ∈ arcsOf g (x : Int)) :
    KeepI g a y f p.2.2.toNat (aft a S (valAt g x) p.2.1.toNat) (keepA g a (distTo g a (y : Int)) f x K p) := by
  have hr := arc_range (grOk_iff.1 hg) hp
  have hx : p.2.2.toNat < g.vals.length := by omega
  have far : ∀ q, (aft a S (valAt g x) p.2.1.toNat).testBit q = true → ∀ m, m < f → ¬ hitK g a y m p.2.2.toNat q := fun q hq m hm hh => by
    obtain ⟨s, hs, hq⟩ := (aft_any ha hS _ _ _).1 hq
    exact h.far s hs (m + 1) (by omega) ((hit_succ ha (test_lt hS hs)).2 ⟨p, hp, q, hq, hh⟩)
  refine ⟨far, fun q => ?_⟩
  rw [keepA, keepK, keepTo_test]
  constructor
  · rintro ⟨h1, h2, h3⟩
    obtain ⟨s, hs, hq⟩ := (aft_any ha hK _ _ _).1 h2
    exact ⟨(aft_any ha hS _ _ _).2 ⟨s, ((h.kept s).1 hs).1, hq⟩, ((dist_eq hg ha hy hx h1 f).1 h3).1⟩
  · rintro ⟨h1, h2⟩
    have hql := test_lt (aft_lt ha S (valAt g x) p.2.1.toNat) h1
    obtain ⟨s, hs, hq⟩ := (aft_any ha hS _ _ _).1 h1
    refine ⟨hql, (aft_any ha hK _ _ _).2 ⟨s, (h.kept s).2 ⟨hs, (hit_succ ha (test_lt hS hs)).2 ⟨p, hp, q, hq, h2⟩⟩, hq⟩, (dist_eq hg ha hy hx hql f).2 ⟨h2, far q h1⟩⟩
theorem lw_nth {g : Gr} {a : Au} {y : Nat} (hg : grOk g = true) (ha : auOk a = true) (hy : y < g.vals.length) : ∀ {f x S K : Nat}, S < 2 ^ a.accept.length → K < 2 ^ a.accept.length → KeepI g a y f x S K → 0 < cw g a (y : Int) f x S →
    lwL g a (distTo g a (y : Int)) f x K = nthL g a (y : Int) f x S 0
  | 0, x, S, K, _, _, _, _ => rfl
  | f + 1, x, S, K, hS, hK, h, hc => by
    have hst := fun p hp => h.step hg ha hy hS hK (p := p) hp
    have hfe : (arcsOf g (x : Int)).find? (fun p => decide (keepA g a (distTo g a (y : Int)) f x K p ≠ 0)) = (arcsOf g (x : Int)).find? (fun p => decide (0 < cwAt g a (y : Int) f x S p)) := by
      refine find_congr fun p hp => decide_eq_decide.2 ?_
      rw [ne_zero_iff, cwAt, cw_pos ha (aft_lt ha _ _ _)]
      constructor
      · rintro ⟨q, hq⟩; exact ⟨q, ((hst p hp).kept q).1 hq⟩
      · rintro ⟨q, hq⟩; exact ⟨q, ((hst p hp).kept q).2 hq⟩
    obtain ⟨p, n', e1, e2, e3⟩ := pick_cw hc
    have e0 := e1
    rw [pick_zero] at e0
    cases hf : (arcsOf g (x : Int)).find? (fun p => decide (0 < cwAt g a (y : Int) f x S p)) with
    | none => rw [hf] at e0; cases e0
    | some p' =>
      rw [hf] at e0
      injection e0 with e0
      injection e0 with e4 e5
      subst e4 e5
      rw [nthL_succ e1, lwL, hfe, hf]
      have hlt : keepA g a (distTo g a (y : Int)) f x K p' < 2 ^ a.accept.length := keepTo_lt ..
      exact congrArg _ (lw_nth hg ha hy (aft_lt ha _ _ _) hlt (hst p' e3) e2)
/-- the reference's least witness -/
def lstShort (g : Gr) (a : Au) (x y : Int) : Wk × Bool := if shortLen g a x y < 0 then ((0, []), false) else ((x, lwL g a (distTo g a y) (shortLen g a x y).toNat x.toNat (bit a.start.toNat)), true)
theorem lst_nth (g : Gr) (a : Au) (x y : Int) : lstShort g a x y = nthShort g a x y 0 := by
  unfold lstShort
  by_cases h : shortLen g a x y < 0
  · rw [if_pos h, nthShort, if_neg]
    rw [nthSh, decide_eq_false (by omega)]; simp
  · rw [if_neg h]
    obtain ⟨⟨hx0, hx1⟩, ⟨hy0, hy1⟩, hg, ha⟩ := cntOk_iff.1 (shortLen_ok (show 0 ≤ shortLen g a x y by omega))
    obtain ⟨x, rfl⟩ := Int.eq_ofNat_of_zero_le hx0
    obtain ⟨y, rfl⟩ := Int.eq_ofNat_of_zero_le hy0
    have hs : a.start.toNat < a.accept.length := by have := (auOk_iff.1 ha).2.1; omega
    have hd := shortLen_dist hg ha (show x < g.vals.length by omega) (show y < g.vals.length by omega)
    obtain ⟨L, hL⟩ := Int.eq_ofNat_of_zero_le (show 0 ≤ shortLen g a (x : Int) (y : Int) by omega)
    rw [hL] at hd
    rcases hd with ⟨h1, -⟩ | ⟨-, h1, h2⟩
    · omega
    rw [Int.toNat_natCast] at h1 h2
    have hb : ∀ q, (bit a.start.toNat).testBit q = true → q = a.start.toNat := fun q hq => by rw [bit_test, decide_eq_true_eq] at hq; exact hq.symm
    have hI : KeepI g a y L x (bit a.start.toNat) (bit a.start.toNat) := by
      refine ⟨fun q hq m hm => ?_, fun q => ⟨fun hq => ⟨hq, ?_⟩, fun hq => hq.1⟩⟩
      · rw [hb q hq]; exact h2 m hm
      · rw [hb q hq]; exact h1
    have hc : 0 < cw g a (y : Int) L x (bit a.start.toNat) := (cw_pos ha (bit_lt hs)).2 ⟨a.start.toNat, by rw [bit_test]; simp, h1⟩
    have hsh : nthSh g a (x : Int) (y : Int) 0 = true := by
      rw [nthSh, decide_eq_true (by omega), Bool.true_and, hL, Int.toNat_natCast, wi_iff]
      have : cwI g a (x : Int) (y : Int) L = cw g a (y : Int) L x (bit a.start.toNat) := rfl
      omega
    rw [nthShort, if_pos hsh, hL, Int.toNat_natCast, Int.toNat_natCast, lw_nth hg ha (by omega) (bit_lt hs) (bit_lt hs) hI hc]
    rfl
end Go.Proofs.YtpbfdmfkmbdpkaaGreat

/- Keys of the memory that counts walks: a node, a set of states, a number of steps. -/
namespace Go.Proofs.YtpbfdmfkmbdpkaaGreat
set_option linter.unusedVariables false
set_option linter.unusedSimpArgs false
open Go.ChangeShapes Go.WideShapes Go.ChangeAt Go.RowKit Go.Maps

theorem key3 {P : Program} {k : TypeId} {f0 f1 f2 : Field} (hu : P.underlying k = some (.struct #[f0, f1, f2])) (h1 : P.keyType k = true) (hc : P.cellsOf k = 3) (h0 : P.underlying f0.type = some (.int .i64)) (h0' : P.underlying f1.type = some (.int .i64)) (h0'' : P.underlying f2.type = some (.int .i64))
    (c0 : P.cellsOf f0.type = 1) (c1 : P.cellsOf f1.type = 1) (c2 : P.cellsOf f2.type = 1) (o0 : f0.offset = 0) (o1 : f1.offset = 1) (o2 : f2.offset = 2) (n0 : (f0.name != "_") = true) (n1 : (f1.name != "_") = true) (n2 : (f2.name != "_") = true) {n : Nat} (hn : P.types.size = n + 1)
    (x s f : Int) (hx : (Lit.int .i64 x).wf = true) (hs : (Lit.int .i64 s).wf = true) (hf : (Lit.int .i64 f).wf = true) : keyOf P k (.agg #[.int .i64 x, .int .i64 s, .int .i64 f]) = some (.string (keyBytes [.int .i64 x, .int .i64 s, .int .i64 f])) := by
  have h4 : (Value.agg #[.int .i64 x, .int .i64 s, .int .i64 f]).formed P k = true := by simp [Value.formed, hu, hc]
  simp only [bne_iff_ne, ne_eq] at n0 n1 n2
  simp [keyOf, hu, h1, h4, hn, Program.keyLits, hc, h0, h0', h0'', c0, c1, c2, o0, o1, o2, n0, n1, n2, hx, hs, hf, Value.cells]
theorem laidOutK : laidOutB Tryz.prog = true := by kernel_rfl
theorem widePlace : (match Tryz.prog.underlying 121 with | some (.array _ _) | some (.struct _) => true | _ => false) = true := by rw [Tryz.underlying121]
theorem rowPlace : decide (121 < Tryz.prog.types.size) = true := by kernel_rfl
theorem typePlace : Tryz.prog.keyTypeAt 5 121 = true := by kernel_rfl
set_option maxRecDepth 100000 in
theorem keyedPlace : Keyed Tryz.prog 121 := Keyed.of_law (deep_law_laid laidOutK (m := 5) (by decide) (of_decide_eq_true rowPlace) typePlace widePlace)
theorem sizeK : ∃ n, Tryz.prog.types.size = n + 1 := ⟨Tryz.prog.types.size - 1, by have h : 0 < Tryz.prog.types.size := of_decide_eq_true (by kernel_rfl); omega⟩
def plKey (x s f : Int) : Lit := .string (keyBytes [.int .i64 x, .int .i64 s, .int .i64 f])
theorem keyTPlace : Tryz.prog.keyType 121 = true := by kernel_rfl
theorem cellsPlace : Tryz.prog.cellsOf 121 = 3 := by kernel_rfl
theorem cellsIntK : Tryz.prog.cellsOf 3 = 1 := by kernel_rfl
theorem keyPlace (x s f : Int) (hx : (Lit.int .i64 x).wf = true) (hs : (Lit.int .i64 s).wf = true) (hf : (Lit.int .i64 f).wf = true) : keyOf Tryz.prog 121 (.agg #[.int .i64 x, .int .i64 s, .int .i64 f]) = some (plKey x s f) := by
  obtain ⟨n, hn⟩ := sizeK
  exact key3 Tryz.underlying121 keyTPlace cellsPlace Tryz.underlying3 Tryz.underlying3 Tryz.underlying3 cellsIntK cellsIntK cellsIntK rfl rfl rfl (by decide) (by decide) (by decide) hn x s f hx hs hf
theorem plKey_inj {x s f x' s' f' : Int} (hx : (Lit.int .i64 x).wf = true) (hs : (Lit.int .i64 s).wf = true) (hf : (Lit.int .i64 f).wf = true) (hx' : (Lit.int .i64 x').wf = true) (hs' : (Lit.int .i64 s').wf = true) (hf' : (Lit.int .i64 f').wf = true) (h : plKey x s f = plKey x' s' f') : x = x' ∧ s = s' ∧ f = f' := by
  have h1 := keyPlace x s f hx hs hf
  have h2 := keyPlace x' s' f' hx' hs' hf'
  rw [← h] at h2
  have h3 := keyedPlace.inj h1 h2
  injection h3 with h3
  simpa using h3
end Go.Proofs.YtpbfdmfkmbdpkaaGreat

