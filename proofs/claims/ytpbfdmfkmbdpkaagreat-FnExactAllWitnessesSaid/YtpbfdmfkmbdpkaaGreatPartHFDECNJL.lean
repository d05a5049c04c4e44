/- Parts of the proof, joined into one text: NextI, TurnI, Shelf, RepeatI. -/
import Derived.Test.YtpbfdmfkmbdpkaaGreatPartODINPDPK
import Derived.Test.YtpbfdmfkmbdpkaaGreatPartHJLKGLGC
import Derived.Test.YtpbfdmfkmbdpkaaGreatPartCPHKMOBB
import Derived.Test.YtpbfdmfkmbdpkaaGreatPartBPNIFNNL
import Derived.Shelf.Small.Bits
import Derived.Shelf.Small.Wraps
import Derived.Shelf.Strconv.Itoa0
import Derived.Shelf.Sort.Plain
import Derived.Shelf.Bits.Mul64
import Derived.Shelf.Slices.Turned
import Derived.Ground.Names2Prog
import Derived.Shelf.Slices.CompactI
import Derived.Shelf.Slices.SearchI
import Derived.Shelf.Slices.Cells
import Derived.Shelf.Slices.In.SortNone
import Derived.Test.YtpbfdmfkmbdpkaaGreatProg
import Derived.Laws.CopyOwn
import Derived.Deep.RegionLaw
/- The program's nextVertices: the vertices behind each vertex of the product. -/
namespace Go.Proofs.YtpbfdmfkmbdpkaaGreat
set_option linter.unusedVariables false
set_option linter.unusedSimpArgs false
open Go.ChangeShapes Go.WideShapes Go.ChangeAt Go.RowKit
attribute [local go_sem] ext_cell ext_frozen ext_lt ext_lt1 ext_lt2 ext_lt3 ltn2 ltn3 ltn13 lts1 lts2 lts3

theorem SlI.arc {lo hi : Nat} {w : World} {A : Option Addr} {n c : Nat} {xs : List Arc} (h : SlI lo hi w cA 4 (.slice A n c) xs) {i : Nat} {y : Arc} (hx : xs[i]? = some y) :
    ∃ b o, A = some ⟨b, o, none⟩ ∧ lo ≤ b ∧ b < hi ∧ w.cell? ⟨b, o + i * 4, none⟩ = some (.int .i64 y.1.1) ∧ w.cell? ⟨b, o + i * 4 + 1, none⟩ = some (.bool y.1.2) ∧ w.cell? ⟨b, o + i * 4 + 2, none⟩ = some (.int .i64 y.2.1) ∧ w.cell? ⟨b, o + i * 4 + 3, none⟩ = some (.int .i64 y.2.2) := by
  obtain ⟨A', c', hv, _, _, h3⟩ := h
  injection hv with h1 _ _
  subst h1
  obtain ⟨b, o, e, g1, g2, hc⟩ := h3 i y hx
  exact ⟨b, o, e, g1, g2, by simpa using hc 0 _ rfl, hc 1 _ rfl, hc 2 _ rfl, hc 3 _ rfl⟩
theorem elInts : ElemOk Tryz.prog 27 22 (.slice none 0 0) 1 24 := ⟨Tryz.underlying27, by kernel_rfl, rfl, by omega⟩
set_option maxHeartbeats 8000000 in
set_option maxRecDepth 100000 in
theorem nextVertices_any (vg va : Value) (g : Gr) (a : Au) (w : World) (hgv : GrV 0 w.heap.size w vg g) (hav : AuV 0 w.heap.size w va a) (hg : GrOk g) (ha : auOk a = true) :
    Calls Tryz.prog 117 #[vg, va] w fun e w' => ∃ v', e = .returned v' ∧ SSE w.heap.size w'.heap.size w' cN 1 v' ((List.range (g.vals.length * a.accept.length)).map (nextI g a)) ∧ Below w.heap.size w w' := by
  have hgv0 := hgv
  have hav0 := hav
  obtain ⟨A1, c1, A2, c2, rfl, hl1, hm1, hl2, hm2, hC1, -⟩ := hgv.form
  obtain ⟨A3, c3, A4, c4, rfl, hl3, hm3, hl4, hm4, -⟩ := hav.form ha
  have hn5 := hg.n5
  have hn12 := (auOk_iff.1 ha).1.2
  have hn1 := (auOk_iff.1 ha).1.1
  have HGO := Lib.hid hg
  have HAO := Lib.hid ha
  have HGV := Lib.hid hgv0
  have HAV := Lib.hid hav0
  have HC1 := Lib.hid hC1
  clear hgv hav hgv0 hav0 hg ha hC1
  obtain ⟨R, hR⟩ : ∃ R, R = (List.range (g.vals.length * a.accept.length)).map (nextI g a) := ⟨_, rfl⟩
  rw [← hR]
  have HR := Lib.hid hR
  clear hR
  have hNm : g.vals.length * a.accept.length ≤ 60 := by have := Nat.mul_le_mul hn5 hn12; omega
  obtain ⟨N, hN⟩ : ∃ N, N = g.vals.length * a.accept.length := ⟨_, rfl⟩
  rw [← hN] at hNm
  have q0 : IntKind.i64.wrap ((a.accept.length : Int) * (g.vals.length : Int)) = (N : Int) := by rw [IntWalk.i64_in _ (by rw [Int.mul_comm, ← Int.natCast_mul, ← hN]; omega)]; rw [hN, Int.natCast_mul, Int.mul_comm]
  have q0' : (a.accept.length : Int) * (g.vals.length : Int) = (N : Int) := by rw [hN, Int.natCast_mul, Int.mul_comm]
  have HN := Lib.hid hN
  clear hN
  have hb0 : Below w.heap.size w ((w.alloc (.cells #[.slice A1 g.vals.length c1, .slice A2 g.edges.length c2] 36)).alloc (.cells #[.int .i64 a.start, .slice A3 a.accept.length c3, .slice A4 a.accept.length c4] 38)) := ((Below.refl _ _).alloc (Nat.le_refl _) _).alloc (by simp) _
  go_enter Tryz.func117, Tryz.ntmps117
  go_wp2_with (at_make; refine wpList_makeE (P := Tryz.prog) cV (.slice none 0 0) elInts rfl rfl rfl _ _ rfl (w.heap.size + 1 + 1) N (N : Int) (by first | rfl | simp [q0']) (by first | rfl | simp [q0']) rfl (by omega) (by unfold maxLen; omega) (by simp) ?_; intro w1 hrow1 hbel1
               have b0 := ((Blk.new w 36 #[.slice A1 g.vals.length c1, .slice A2 g.edges.length c2] w.heap.size rfl).alloc (.cells #[.int .i64 a.start, .slice A3 a.accept.length c3, .slice A4 a.accept.length c4] 38)).below hbel1 (by simp <;> omega)
               have b1 := (Blk.new (w.alloc (.cells #[.slice A1 g.vals.length c1, .slice A2 g.edges.length c2] 36)) 38 #[.int .i64 a.start, .slice A3 a.accept.length c3, .slice A4 a.accept.length c4] (w.heap.size + 1) (by simp)).below hbel1 (by simp <;> omega)
               have hb1 : Below w.heap.size w w1 := hb0.trans (hbel1.mono (by simp <;> omega))
               simp only [World.size_alloc] at hrow1 ⊢
               have HROW1 := Lib.hid hrow1
               have x0 : w1.cell? ⟨w.heap.size, 0, none⟩ = some (.slice A1 g.vals.length c1) := b0.cell 0
               have x1 : w1.cell? ⟨w.heap.size, 1, none⟩ = some (.slice A2 g.edges.length c2) := b0.cell 1
               have y0 : w1.cell? ⟨w.heap.size + 1, 0, none⟩ = some (.int .i64 a.start) := b1.cell 0
               have y1 : w1.cell? ⟨w.heap.size + 1, 1, none⟩ = some (.slice A3 a.accept.length c3) := b1.cell 1
               have y2 : w1.cell? ⟨w.heap.size + 1, 2, none⟩ = some (.slice A4 a.accept.length c4) := b1.cell 2
               clear hbel1 hrow1 b0 b1)
  refine (arcs_any _ g _ (HGV.out.keep hb1) HGO.out).mono ?_
  rintro e w2 ⟨v2, rfl, hsse, hb2⟩
  have hrw := Rws.made (base := w2.heap.size) (α := Nat) (E := cN) (k := 1) (rT := 3) (ownsRow_below HROW1.out hb2 (Nat.le_refl _))
  rw [← fill_zero N (nextI g a)] at hrw
  have x0 := kcell hb2 x0
  have x1 := kcell hb2 x1
  have y0 := kcell hb2 y0
  have y1 := kcell hb2 y1
  have y2 := kcell hb2 y2
  have hgl := hrw.gLt.2
  have hg1 : w.heap.size + 1 + 1 < w1.heap.size := (HROW1.out.lt _ rfl).2
  obtain ⟨A5, c5, hv5, hl5, hm5⟩ := hsse.shape
  have hlen5 : ((List.range g.vals.length).map fun (x : Nat) => arcsOf g (x : Int)).length = g.vals.length := by simp
  rw [hlen5] at hv5 hl5
  subst hv5
  have hbw := below_trans hb1 hb2
  have HRW := Lib.hid hrw
  have HSSE := Lib.hid hsse
  have hg9 : w.heap.size + 1 < w2.heap.size := by omega
  clear hrw hsse hlen5 hb1 hb2
  generalize hgb : w.heap.size + 1 + 1 = gb at *
  have hgw : w.heap.size + 1 < gb := by omega
  clear hgb
  go_wp2_with fail
  go_loopw [26] (fun xx wr => ∃ (x : Nat) (hs : List Value), x ≤ g.vals.length ∧ xx = .int .i64 (x : Int) ∧ Rws wr w2.heap.size 22 3 cN 1 gb hs (fillTo N (nextI g a) (x * a.accept.length) []) ∧ Only gb (gb + 1) w2 wr) (fun xx _ => g.vals.length - (intOf xx).toNat)
  case atStart => exact ⟨0, _, Nat.zero_le _, rfl, by rw [Nat.zero_mul]; exact HRW.out, Only.refl _ _ _⟩
  case round =>
    obtain ⟨x, hs, hx, rfl, hrw, hon⟩ := hrel
    have HRW := Lib.hid hrw
    clear hrw
    by_cases hlt : x < g.vals.length
    · obtain ⟨xn, hxn⟩ : ∃ xn, xn = x * a.accept.length := ⟨_, rfl⟩
      have hxn2 : xn + a.accept.length ≤ N := by rw [hxn, HN.out]; have := Nat.mul_le_mul_right a.accept.length (show x + 1 ≤ g.vals.length by omega); rw [Nat.succ_mul] at this; exact this
      rw [← hxn] at HRW
      have q1 : IntKind.i64.wrap ((x : Int) * (a.accept.length : Int)) = (xn : Int) := by rw [IntWalk.i64_in _ (by rw [← Int.natCast_mul, ← hxn]; omega), hxn, Int.natCast_mul]
      have q1' : (x : Int) * (a.accept.length : Int) = (xn : Int) := by rw [hxn, Int.natCast_mul]
      have HXN := Lib.hid hxn
      clear hxn
      obtain ⟨b5, o5, A6, c6, rfl, hlo5, hb5, d5, hl6, hm6, hI6, -⟩ := HSSE.out.row (Nat.le_refl _) (i := x) (xs := arcsOf g (x : Int)) (by simp [hlt])
      have d5 := ocell hon d5 hb5 (.inr (by omega))
      have hxi : g.vals[x]? = some g.vals[x] := List.getElem?_eq_getElem hlt
      have hvr := HGO.out.vals _ (List.getElem_mem hlt)
      generalize g.vals[x] = vx at hxi hvr
      obtain ⟨vx, rfl⟩ := Int.eq_ofNat_of_zero_le hvr.1
      have hva := valAt_of hxi
      rw [Int.toNat_natCast] at hva
      obtain ⟨b1, o1, rfl, hbb1, dv⟩ := HC1.out.int hxi
      have dv2 := kcell hbw dv
      have hAL := arcs_len HGO.out (x : Int)
      have HVA := Lib.hid hva
      have HI6 := Lib.hid hI6
      clear hva hI6 hxi dv
      go_wp2_with fail
      go_loopw [9] (fun ss wr => ∃ (s : Nat) (hs : List Value), s ≤ a.accept.length ∧ ss = .int .i64 (s : Int) ∧ Rws wr w2.heap.size 22 3 cN 1 gb hs (fillTo N (nextI g a) (xn + s) []) ∧ Only gb (gb + 1) w2 wr) (fun ss _ => a.accept.length - (intOf ss).toNat)
      case atStart => exact ⟨0, _, Nat.zero_le _, rfl, HRW.out, hon⟩
      case round =>
        clear d5 hon HRW
        obtain ⟨s, hs, hs1, rfl, hrw, hon⟩ := hrel
        have HRW := Lib.hid hrw
        clear hrw
        by_cases hlt2 : s < a.accept.length
        · have hs12 : s < 12 := by omega
          have hix : xn + s < N := by omega
          have q2 : IntKind.i64.wrap ((xn : Int) + (s : Int)) = (xn : Int) + (s : Int) := IntWalk.i64_in _ (by omega)
          have q2a : (0 : Int) ≤ (xn : Int) + (s : Int) := by omega
          have q2b : (xn : Int) + (s : Int) < (N : Int) := by omega
          have q2c : ((xn : Int) + (s : Int)).toNat = xn + s := by omega
          go_wp2_with fail
          go_loopw [38] (fun jj wr => ∃ (j : Nat) (hs : List Value), j ≤ (arcsOf g (x : Int)).length ∧ jj = .int .i64 (j : Int) ∧ Rws wr w2.heap.size 22 3 cN 1 gb hs (fillTo N (nextI g a) (xn + s) (((arcsOf g (x : Int)).take j).flatMap (nextA g a x s))) ∧ Only gb (gb + 1) w2 wr) (fun jj _ => (arcsOf g (x : Int)).length - (intOf jj).toNat)
          case atStart => exact ⟨0, _, Nat.zero_le _, rfl, HRW.out, hon⟩
          case round =>
            clear hon HRW
            obtain ⟨j, hs, hj, rfl, hrw, hon⟩ := hrel
            have HRW := Lib.hid hrw
            clear hrw
            by_cases hlt3 : j < (arcsOf g (x : Int)).length
            · have hyj : (arcsOf g (x : Int))[j]? = some (arcsOf g (x : Int))[j] := List.getElem?_eq_getElem hlt3
              have hyr := arc_range HGO.out (List.getElem_mem hlt3)
              generalize (arcsOf g (x : Int))[j] = y at hyj hyr
              obtain ⟨⟨yid, yinv⟩, yl, yt⟩ := y
              simp only at hyr
              obtain ⟨⟨hyl0, hyl5⟩, hyt0, hyt1⟩ := hyr
              obtain ⟨yl, rfl⟩ := Int.eq_ofNat_of_zero_le hyl0
              obtain ⟨yt, rfl⟩ := Int.eq_ofNat_of_zero_le hyt0
              obtain ⟨b6, o6, rfl, hlo6, hb6, z0, z1, z2, z3⟩ := HI6.out.arc hyj
              have z0 := ocell hon z0 hb6 (.inr (by omega))
              have z1 := ocell hon z1 hb6 (.inr (by omega))
              have z2 := ocell hon z2 hb6 (.inr (by omega))
              have z3 := ocell hon z3 hb6 (.inr (by omega))
              have HYJ := Lib.hid hyj
              clear hyj
              go_wp2_with fail
              have e2 : (wr.alloc (.cells #[.int .i64 yid, .bool yinv, .int .i64 (yl : Int), .int .i64 (yt : Int)] 149)).cell? ⟨wr.heap.size, 2, none⟩ = some (.int .i64 (yl : Int)) := by simp
              have e3 : (wr.alloc (.cells #[.int .i64 yid, .bool yinv, .int .i64 (yl : Int), .int .i64 (yt : Int)] 149)).cell? ⟨wr.heap.size, 3, none⟩ = some (.int .i64 (yt : Int)) := by simp
              generalize hW : (wr.alloc (.cells #[.int .i64 yid, .bool yinv, .int .i64 (yl : Int), .int .i64 (yt : Int)] 149)) = wE at e2 e3 ⊢
              have hbE : Below wr.heap.size wr wE := by rw [← hW]; exact (Below.refl _ _).alloc (Nat.le_refl _) _
              have hsE : wr.heap.size < wE.heap.size := by rw [← hW]; simp
              have hsW := hon.size
              have yE0 := kcell hbE (ocell hon y0 hg9 (.inl (by omega)))
              have yE1 := kcell hbE (ocell hon y1 hg9 (.inl (by omega)))
              have yE2 := kcell hbE (ocell hon y2 hg9 (.inl (by omega)))
              have xE0 := kcell hbE (ocell hon x0 (by omega) (.inl (by omega)))
              have dE := kcell hbE (ocell hon dv2 (Nat.lt_of_lt_of_le hbb1 (by omega)) (.inl (by omega)))
              have hbwE : Below w.heap.size w wE := below_trans (hbw.trans (hon.below (by omega) (by omega))) hbE
              have HRE := Lib.hid (HRW.out.below hbE)
              have HBWE := Lib.hid hbwE
              have HNB := Lib.hid (show ∀ (i : Nat) (hv : Value), hs[i]? = some hv → ∀ b, hv.ownBlock = some b → b < wr.heap.size from fun i hv hi b hb => by
                have hjx : i < (fillTo N (nextI g a) (xn + s) (((arcsOf g (x : Int)).take j).flatMap (nextA g a x s))).length := by rw [← HRW.out.len]; exact (List.getElem?_eq_some_iff.1 hi).1
                exact ((HRW.out.row i hv _ hi (List.getElem?_eq_getElem hjx)).lt _ hb).2)
              have hfl := aft_lt HAO.out (bit s) vx yl
              have hfl4 := lt12 HAO.out hfl
              have s1 := shl_bit (s := s) (by omega)
              have s2 := shl_bit2 (s := s) (by omega)
              have s3 := shl_bit3 (s := s) (by omega)
              have HFL := Lib.hid hfl
              clear hW z0 z1 z2 z3 HRW hbwE hfl
              go_region_held3 (fun w' => w'.cell? ⟨w.heap.size + 1, 0, none⟩ = some (.int .i64 a.start) ∧ w'.cell? ⟨w.heap.size + 1, 1, none⟩ = some (.slice A3 a.accept.length c3) ∧ w'.cell? ⟨w.heap.size + 1, 2, none⟩ = some (.slice A4 a.accept.length c4) ∧ w'.cell? ⟨w.heap.size, 0, none⟩ = some (.slice (some ⟨b1, o1, none⟩) g.vals.length c1) ∧ w'.cell? ⟨b1, o1 + x, none⟩ = some (.int .i64 (vx : Int)) ∧ w'.cell? ⟨wr.heap.size, 2, none⟩ = some (.int .i64 (yl : Int)))
                (first | (exact ⟨yE0, yE1, yE2, xE0, dE, e2⟩) | (exact kB6 hbA (by assumption)) | (exact kB6 hbM (by assumption)))
                (first | (go_at_call 129; refine (after_any _ a (bit s) vx yl _ (AuV.keep (w' := wE.drew) HAV.out HBWE.out.drew) HAO.out (bit_lt hlt2) (by omega) (by omega)).mono ?_; rintro e wA ⟨rfl, hbA⟩) | (go_at_call 118; refine (members_any (aft a (bit s) vx yl) _ hfl4).mono ?_; rintro e wM ⟨vM, rfl, hoM, hbM⟩; obtain ⟨A7, c7, rfl, hl7, hm7, -⟩ := hoM.form cN_len))
              have hbX : Below wE.heap.size wE wM := below_trans (below_trans (Below.refl wE.heap.size wE).drew hbA) hbM
              have hM := hoM.form cN_len
              have hoI := hoM.sl cN_len
              rename_i hh
              have e3M := kcell hbX e3
              have hsM := hbX.size
              have hmA : wE.heap.size ≤ wA.heap.size := hbA.size
              have HRM := Lib.hid (HRE.out.below hbX)
              have HONM := Lib.hid (((hon.trans (Only.of_below hbE gb (gb + 1))).trans (Only.of_below hbX gb (gb + 1))))
              have HOI := Lib.hid (hoI.mono hmA (Nat.le_refl _))
              have hml7 := mem_len 12 (aft a (bit s) vx yl)
              have HNA := Lib.hid (show nextA g a x s ((yid, yinv), (yl : Int), (yt : Int)) = (mem 12 (aft a (bit s) vx yl)).map fun t => yt * a.accept.length + t by rw [nextA, HVA.out]; simp)
              have hytn : yt * a.accept.length + a.accept.length ≤ N := by rw [HN.out]; have := Nat.mul_le_mul_right a.accept.length (show yt + 1 ≤ g.vals.length by omega); rw [Nat.succ_mul] at this; exact this
              obtain ⟨yn, hyn⟩ : ∃ yn, yn = yt * a.accept.length := ⟨_, rfl⟩
              rw [← hyn] at hytn HNA
              have q3 : IntKind.i64.wrap ((yt : Int) * (a.accept.length : Int)) = (yn : Int) := by rw [IntWalk.i64_in _ (by rw [← Int.natCast_mul, ← hyn]; omega), hyn, Int.natCast_mul]
              have q3' : (yt : Int) * (a.accept.length : Int) = (yn : Int) := by rw [hyn, Int.natCast_mul]
              obtain ⟨ms, hms⟩ : ∃ ms, ms = mem 12 (aft a (bit s) vx yl) := ⟨_, rfl⟩
              have hmsn : ∀ t ∈ ms, t < a.accept.length := fun t ht => by rw [hms] at ht; exact bit_in HFL.out (mem_mem.1 ht).2
              rw [← hms] at HOI HNA hml7 hl7
              have HMS := Lib.hid hmsn
              obtain ⟨cur, hcur⟩ : ∃ cur, cur = ((arcsOf g (x : Int)).take j).flatMap (nextA g a x s) := ⟨_, rfl⟩
              have hcl : cur.length ≤ 288 := by
                have h1 : ∀ y, (nextA g a x s y).length ≤ 12 := fun y => by rw [nextA, List.length_map]; exact mem_len _ _
                have h2 := flat_len h1 ((arcsOf g (x : Int)).take j)
                rw [List.length_take] at h2
                rw [hcur]; omega
              rw [← hcur] at HRM
              have hix2 : ∀ hv, hs[xn + s]? = some hv → ∀ b, hv.ownBlock = some b → b < wr.heap.size ∨ wM.heap.size ≤ b := fun hv hi b hb => by
                have hr := HRE.out.row (xn + s) hv _ hi (fill_cur (cur := ((arcsOf g (x : Int)).take j).flatMap (nextA g a x s)) hix)
                exact .inl (HNB.out _ _ hi _ hb)
              have HIX := Lib.hid hix2
              have HCUR := Lib.hid hcur
              rw [← hms]
              have HMQ := Lib.hid hms
              have hgr := hon.size
              clear hbA hbM hoM hh hM hoI hbX hon hbE HRE HBWE yE0 yE1 yE2 xE0 dE e2 e3 s1 s2 s3 hyn hms hcur hix2 hfl4 hmsn
              go_wp2_with fail
              obtain ⟨wo, rfl⟩ : ∃ wo : World, wo = wr := ⟨_, rfl⟩
              go_loopw [55] (fun kk w' => ∃ (k : Nat) (hs : List Value), k ≤ ms.length ∧ kk = .int .i64 (k : Int) ∧ Rws w' w2.heap.size 22 3 cN 1 gb hs (fillTo N (nextI g a) (xn + s) (cur ++ (ms.take k).map (fun t => yn + t))) ∧ Only gb (gb + 1) w2 w' ∧ Only 0 wo.heap.size wM w' ∧
                  (∀ hv, hs[xn + s]? = some hv → ∀ b, hv.ownBlock = some b → b < wo.heap.size ∨ wM.heap.size ≤ b)) (fun kk _ => ms.length - (intOf kk).toNat)
              case atStart => exact ⟨0, _, Nat.zero_le _, rfl, by simpa using HRM.out, HONM.out, Only.refl _ _ _, HIX.out⟩
              case round =>
                clear HRM HONM HIX
                obtain ⟨k, hs, hk, rfl, hrw, hon, hon2, hix2⟩ := hrel
                have HRW := Lib.hid hrw
                have HIX := Lib.hid hix2
                clear hrw hix2
                by_cases hlt4 : k < ms.length
                · have hti : ms[k]? = some ms[k] := List.getElem?_eq_getElem hlt4
                  have htn := HMS.out _ (List.getElem_mem hlt4)
                  generalize ms[k] = t at hti htn
                  obtain ⟨b7, o7, rfl, hlo7, hb7, d7⟩ := (HOI.out.only hon2 (Nat.le_refl _) (.inr (Nat.le_of_lt hsE))).nat hti
                  have hb7w := Nat.lt_of_lt_of_le hb7 hon2.size
                  have f3 := ocell hon2 e3M (Nat.lt_of_lt_of_le hsE hsM) (.inr (Nat.le_refl _))
                  have hil : xn + s < hs.length := by rw [HRW.out.len, fill_len]; exact hix
                  have hhi : hs[xn + s]? = some hs[xn + s] := List.getElem?_eq_getElem hil
                  generalize hs[xn + s] = hv at hhi
                  have hcv := HRW.out.cell hhi
                  have hfv := HRW.out.frozen (xn + s)
                  have hro := HRW.out.row (xn + s) hv _ hhi (fill_cur hix)
                  have hgw2 := HRW.out.gLt.2
                  have hne1 : some gb ≠ hv.ownBlock := Ne.symm (HRW.out.far _ _ hhi)
                  have hne2 : some wo.heap.size ≠ hv.ownBlock := fun e9 => by
                    have := HIX.out hv hhi _ e9.symm
                    omega
                  have hneg : wo.heap.size ≠ gb := by omega
                  obtain ⟨row, hrow⟩ : ∃ row, row = cur ++ (ms.take k).map (fun t => yn + t) := ⟨_, rfl⟩
                  have hrl : row.length ≤ 300 := by rw [hrow, List.length_append, List.length_map, List.length_take]; omega
                  rw [← hrow] at hro
                  have HRO := Lib.hid hro
                  have HROW := Lib.hid hrow
                  have HTI := Lib.hid hti
                  have HHI := Lib.hid hhi
                  have HNE1 := Lib.hid hne1
                  have HNE2 := Lib.hid hne2
                  have q4 : IntKind.i64.wrap ((yn : Int) + (t : Int)) = (yn : Int) + (t : Int) := IntWalk.i64_in _ (by omega)
                  have hsw2 := hon.size
                  have q5 : IntKind.i64.wrap (xn : Int) = (xn : Int) := IntWalk.i64_in _ (by omega)
                  have q6 : IntKind.i64.wrap (yn : Int) = (yn : Int) := IntWalk.i64_in _ (by omega)
                  clear hro hrow hti hhi hne1 hne2
                  go_wp2_with fail
                  refine F_start 23 (fun w' => w'.cell? ⟨gb, xn + s, none⟩ = some hv ∧ w'.cell? ⟨wo.heap.size, 3, none⟩ = some (.int .i64 (yt : Int))) (by kernel_rfl) (by exact ⟨hcv, f3⟩) (fun hS inv => ?_)
                  refine F_take (i := 0) (v := ?_) rfl (by kernel_rfl) (by kernel_rfl) (by kernel_rfl) (fun _ _ _ h => h) inv (Or.inl ⟨by rfl, ?_⟩) (by assumption) (fun invn => ?_)
                  rotate_left
                  · (intro w hSw; (try dsimp only at hSw); go_simp; try with_reducible rfl)
                  try simp only [List.getElem_toArray, List.getElem_cons_zero, List.getElem_cons_succ, Act.put, List.setIfInBounds_toArray, List.set_cons_zero, List.set_cons_succ]
                  clear inv
                  have inv := invn
                  clear invn
                  refine F_take (i := 1) (v := ?_) rfl (by kernel_rfl) (by kernel_rfl) (by kernel_rfl) (fun _ _ _ h => h) inv (Or.inl ⟨by rfl, ?_⟩) (by assumption) (fun invn => ?_)
                  rotate_left
                  · (intro w hSw; (try dsimp only at hSw); go_simp; try with_reducible rfl)
                  try simp only [List.getElem_toArray, List.getElem_cons_zero, List.getElem_cons_succ, Act.put, List.setIfInBounds_toArray, List.set_cons_zero, List.set_cons_succ]
                  clear inv
                  have inv := invn
                  clear invn
                  refine F_take (i := 2) (v := ?_) rfl (by kernel_rfl) (by kernel_rfl) (by kernel_rfl) (fun _ _ _ h => h) inv (Or.inl ⟨by rfl, ?_⟩) (by assumption) (fun invn => ?_)
                  rotate_left
                  · (intro w hSw; (try dsimp only at hSw); go_simp; try with_reducible rfl)
                  try simp only [List.getElem_toArray, List.getElem_cons_zero, List.getElem_cons_succ, Act.put, List.setIfInBounds_toArray, List.set_cons_zero, List.set_cons_succ]
                  clear inv
                  have inv := invn
                  clear invn
                  refine F_take (i := 3) (v := ?_) rfl (by kernel_rfl) (by kernel_rfl) (by kernel_rfl) (fun _ _ _ h => h) inv (Or.inl ⟨by rfl, ?_⟩) (by assumption) (fun invn => ?_)
                  rotate_left
                  · (intro w hSw; (try dsimp only at hSw); go_simp; try with_reducible rfl)
                  try simp only [List.getElem_toArray, List.getElem_cons_zero, List.getElem_cons_succ, Act.put, List.setIfInBounds_toArray, List.set_cons_zero, List.set_cons_succ]
                  clear inv
                  have inv := invn
                  clear invn
                  refine F_take (i := 4) (v := ?_) rfl (by kernel_rfl) (by kernel_rfl) (by kernel_rfl) (fun _ _ _ h => h) inv (Or.inl ⟨by rfl, ?_⟩) (by assumption) (fun invn => ?_)
                  rotate_left
                  · (intro w hSw; (try dsimp only at hSw); go_simp; try with_reducible rfl)
                  try simp only [List.getElem_toArray, List.getElem_cons_zero, List.getElem_cons_succ, Act.put, List.setIfInBounds_toArray, List.set_cons_zero, List.set_cons_succ]
                  clear inv
                  have inv := invn
                  clear invn
                  refine F_take (i := 5) (v := ?_) rfl (by kernel_rfl) (by kernel_rfl) (by kernel_rfl) (fun _ _ _ h => h) inv (Or.inl ⟨by rfl, ?_⟩) (by assumption) (fun invn => ?_)
                  rotate_left
                  · (intro w hSw; (try dsimp only at hSw); go_simp; try with_reducible rfl)
                  try simp only [List.getElem_toArray, List.getElem_cons_zero, List.getElem_cons_succ, Act.put, List.setIfInBounds_toArray, List.set_cons_zero, List.set_cons_succ]
                  clear inv
                  have inv := invn
                  clear invn
                  refine F_take (i := 6) (v := ?_) rfl (by kernel_rfl) (by kernel_rfl) (by kernel_rfl) (fun _ _ _ h => h) inv (Or.inl ⟨by rfl, ?_⟩) (by assumption) (fun invn => ?_)
                  rotate_left
                  · (intro w hSw; (try dsimp only at hSw); go_simp; try with_reducible rfl)
                  try simp only [List.getElem_toArray, List.getElem_cons_zero, List.getElem_cons_succ, Act.put, List.setIfInBounds_toArray, List.set_cons_zero, List.set_cons_succ]
                  clear inv
                  have inv := invn
                  clear invn
                  refine F_take (i := 7) (v := ?_) rfl (by kernel_rfl) (by kernel_rfl) (by kernel_rfl) (fun _ _ _ h => h) inv (Or.inl ⟨by rfl, ?_⟩) (by assumption) (fun invn => ?_)
                  rotate_left
                  · (intro w hSw; (try dsimp only at hSw); go_simp; try with_reducible rfl)
                  try simp only [List.getElem_toArray, List.getElem_cons_zero, List.getElem_cons_succ, Act.put, List.setIfInBounds_toArray, List.set_cons_zero, List.set_cons_succ]
                  clear inv
                  have inv := invn
                  clear invn
                  refine F_take (i := 8) (v := ?_) rfl (by kernel_rfl) (by kernel_rfl) (by kernel_rfl) (fun _ _ _ h => h) inv (Or.inl ⟨by rfl, ?_⟩) (by assumption) (fun invn => ?_)
                  rotate_left
                  · (intro w hSw; (try dsimp only at hSw); go_simp; try with_reducible rfl)
                  try simp only [List.getElem_toArray, List.getElem_cons_zero, List.getElem_cons_succ, Act.put, List.setIfInBounds_toArray, List.set_cons_zero, List.set_cons_succ]
                  clear inv
                  have inv := invn
                  clear invn
                  refine F_take (i := 9) (v := ?_) rfl (by kernel_rfl) (by kernel_rfl) (by kernel_rfl) (fun _ _ _ h => h) inv (Or.inl ⟨by rfl, ?_⟩) (by assumption) (fun invn => ?_)
                  rotate_left
                  · (intro w hSw; (try dsimp only at hSw); go_simp; try with_reducible rfl)
                  try simp only [List.getElem_toArray, List.getElem_cons_zero, List.getElem_cons_succ, Act.put, List.setIfInBounds_toArray, List.set_cons_zero, List.set_cons_succ]
                  clear inv
                  have inv := invn
                  clear invn
                  refine F_take (i := 10) (v := ?_) rfl (by kernel_rfl) (by kernel_rfl) (by kernel_rfl) (fun _ _ _ h => h) inv (Or.inl ⟨by rfl, ?_⟩) (by assumption) (fun invn => ?_)
                  rotate_left
                  · (intro w hSw; (try dsimp only at hSw); go_simp; try with_reducible rfl)
                  try simp only [List.getElem_toArray, List.getElem_cons_zero, List.getElem_cons_succ, Act.put, List.setIfInBounds_toArray, List.set_cons_zero, List.set_cons_succ]
                  clear inv
                  have inv := invn
                  clear invn
                  refine F_take (i := 11) (v := ?_) rfl (by kernel_rfl) (by kernel_rfl) (by kernel_rfl) (fun _ _ _ h => h) inv (Or.inl ⟨by rfl, ?_⟩) (by assumption) (fun invn => ?_)
                  rotate_left
                  · (intro w hSw; (try dsimp only at hSw); go_simp; try with_reducible rfl)
                  try simp only [List.getElem_toArray, List.getElem_cons_zero, List.getElem_cons_succ, Act.put, List.setIfInBounds_toArray, List.set_cons_zero, List.set_cons_succ]
                  clear inv
                  have inv := invn
                  clear invn
                  refine F_take (i := 12) (v := ?_) rfl (by kernel_rfl) (by kernel_rfl) (by kernel_rfl) (fun _ _ _ h => h) inv (Or.inl ⟨by rfl, ?_⟩) (by assumption) (fun invn => ?_)
                  rotate_left
                  · (intro w hSw; (try dsimp only at hSw); go_simp; try with_reducible rfl)
                  try simp only [List.getElem_toArray, List.getElem_cons_zero, List.getElem_cons_succ, Act.put, List.setIfInBounds_toArray, List.set_cons_zero, List.set_cons_succ]
                  clear inv
                  have inv := invn
                  clear invn
                  refine F_take (i := 13) (v := ?_) rfl (by kernel_rfl) (by kernel_rfl) (by kernel_rfl) (fun _ _ _ h => h) inv (Or.inl ⟨by rfl, ?_⟩) (by assumption) (fun invn => ?_)
                  rotate_left
                  · (intro w hSw; (try dsimp only at hSw); go_simp; try with_reducible rfl)
                  try simp only [List.getElem_toArray, List.getElem_cons_zero, List.getElem_cons_succ, Act.put, List.setIfInBounds_toArray, List.set_cons_zero, List.set_cons_succ]
                  clear inv
                  have inv := invn
                  clear invn
                  refine F_take (i := 14) (v := ?_) rfl (by kernel_rfl) (by kernel_rfl) (by kernel_rfl) (fun _ _ _ h => h) inv (Or.inl ⟨by rfl, ?_⟩) (by assumption) (fun invn => ?_)
                  rotate_left
                  · (intro w hSw; (try dsimp only at hSw); go_simp; try with_reducible rfl)
                  try simp only [List.getElem_toArray, List.getElem_cons_zero, List.getElem_cons_succ, Act.put, List.setIfInBounds_toArray, List.set_cons_zero, List.set_cons_succ]
                  clear inv
                  have inv := invn
                  clear invn
                  refine F_take (i := 15) (v := ?_) rfl (by kernel_rfl) (by kernel_rfl) (by kernel_rfl) (fun _ _ _ h => h) inv (Or.inl ⟨by rfl, ?_⟩) (by assumption) (fun invn => ?_)
                  rotate_left
                  · (intro w hSw; (try dsimp only at hSw); go_simp; try with_reducible rfl)
                  try simp only [List.getElem_toArray, List.getElem_cons_zero, List.getElem_cons_succ, Act.put, List.setIfInBounds_toArray, List.set_cons_zero, List.set_cons_succ]
                  clear inv
                  have inv := invn
                  clear invn
                  refine F_take (i := 16) (v := ?_) rfl (by kernel_rfl) (by kernel_rfl) (by kernel_rfl) (fun _ _ _ h => h) inv (Or.inl ⟨by rfl, ?_⟩) (by assumption) (fun invn => ?_)
                  rotate_left
                  · (intro w hSw; (try dsimp only at hSw); go_simp; try with_reducible rfl)
                  try simp only [List.getElem_toArray, List.getElem_cons_zero, List.getElem_cons_succ, Act.put, List.setIfInBounds_toArray, List.set_cons_zero, List.set_cons_succ]
                  clear inv
                  have inv := invn
                  clear invn
                  refine F_take (i := 17) (v := ?_) rfl (by kernel_rfl) (by kernel_rfl) (by kernel_rfl) (fun _ _ _ h => h) inv (Or.inl ⟨by rfl, ?_⟩) (by assumption) (fun invn => ?_)
                  rotate_left
                  · (intro w hSw; (try dsimp only at hSw); go_simp; try with_reducible rfl)
                  try simp only [List.getElem_toArray, List.getElem_cons_zero, List.getElem_cons_succ, Act.put, List.setIfInBounds_toArray, List.set_cons_zero, List.set_cons_succ]
                  clear inv
                  have inv := invn
                  clear invn
                  refine F_take (i := 18) (v := ?_) rfl (by kernel_rfl) (by kernel_rfl) (by kernel_rfl) (fun _ _ _ h => h) inv (Or.inl ⟨by rfl, ?_⟩) (by assumption) (fun invn => ?_)
                  rotate_left
                  · (intro w hSw; (try dsimp only at hSw); go_simp; try with_reducible rfl)
                  try simp only [List.getElem_toArray, List.getElem_cons_zero, List.getElem_cons_succ, Act.put, List.setIfInBounds_toArray, List.set_cons_zero, List.set_cons_succ]
                  clear inv
                  have inv := invn
                  clear invn
                  refine F_take (i := 19) (v := ?_) rfl (by kernel_rfl) (by kernel_rfl) (by kernel_rfl) (fun _ _ _ h => h) inv (Or.inl ⟨by rfl, ?_⟩) (by assumption) (fun invn => ?_)
                  rotate_left
                  · (intro w hSw; (try dsimp only at hSw); go_simp; try with_reducible rfl)
                  try simp only [List.getElem_toArray, List.getElem_cons_zero, List.getElem_cons_succ, Act.put, List.setIfInBounds_toArray, List.set_cons_zero, List.set_cons_succ]
                  clear inv
                  have inv := invn
                  clear invn
                  refine F_one (i := 20) (by kernel_rfl) rfl rfl (by omega) inv (fun K hK => ?_)
                  try simp only [List.getElem_toArray, List.getElem_cons_zero, List.getElem_cons_succ]
                  go_simp
                  refine hK.out _ _ (kA2 _ hS) (fun hSn invn => ?_)
                  try simp only [List.getElem_toArray, List.getElem_cons_zero, List.getElem_cons_succ, Act.put, List.setIfInBounds_toArray, List.set_cons_zero, List.set_cons_succ]
                  clear hK K inv hS
                  have inv := invn
                  have hS := hSn
                  clear invn hSn
                  refine F_one (i := 21) (by kernel_rfl) rfl rfl (by omega) inv (fun K hK => ?_)
                  try simp only [List.getElem_toArray, List.getElem_cons_zero, List.getElem_cons_succ]
                  refine op_append1 cN elInt rfl _ _ (by rfl) w2.heap.size hv row (yn + t) 1 _ (by rfl) (HRO.out.alloc _) (by first | rfl | simp) (heap_alloc_new _ _) rfl (cN_one _) (by omega) (by omega) (by simp; omega) ?_
                  intro g2 cp2 w3 hown3 hgr3 hat3 hlt3
                  have HO3 := Lib.hid hown3
                  have HG3 := Lib.hid hgr3
                  have HA3 := Lib.hid hat3
                  clear hown3 hgr3 hat3
                  refine hK.out _ _ (kG2 HG3.out HNE1.out HNE2.out hS) (fun hSn invn => ?_)
                  try simp only [List.getElem_toArray, List.getElem_cons_zero, List.getElem_cons_succ, Act.put, List.setIfInBounds_toArray, List.set_cons_zero, List.set_cons_succ]
                  clear hK K inv hS
                  have inv := invn
                  have hS := hSn
                  clear invn hSn
                  refine F_take (i := 22) (v := ?_) rfl (by kernel_rfl) (by kernel_rfl) (by kernel_rfl) (fun _ _ _ h => h) inv (Or.inl ⟨by rfl, ?_⟩) (by assumption) (fun invn => ?_)
                  rotate_left
                  · (intro w hSw; (try dsimp only at hSw); go_simp; try with_reducible rfl)
                  try simp only [List.getElem_toArray, List.getElem_cons_zero, List.getElem_cons_succ, Act.put, List.setIfInBounds_toArray, List.set_cons_zero, List.set_cons_succ]
                  clear inv
                  have inv := invn
                  clear invn
                  have hcz := HG3.out.cell (kcell ((Below.refl _ _).alloc (Nat.le_refl _) _) hcv) HNE1.out
                  have hfz := kfg HG3.out (p := ⟨gb, xn + s, none⟩) HNE1.out (kcell ((Below.refl _ _).alloc (Nat.le_refl _) _) hcv) (kfb ((Below.refl _ _).alloc (Nat.le_refl _) _) hcv hfv)
                  refine F_last (i := 23) (by kernel_rfl) rfl rfl (by omega) (by kernel_rfl) (fun K hK => ?_)
                  go_simp
                  refine hK _ _ ?_
                  clear hK K inv hS
                  have hrF := Rws.push (HRW.out.below (w' := wr.drew.alloc (.cells #[.int .i64 ((yn : Int) + (t : Int))] 3)) ((Below.refl _ _).drew.alloc (Nat.le_refl _) _)) HHI.out (by rw [← HROW.out]; exact fill_cur hix) HO3.out HG3.out rfl HA3.out
                  rw [fill_push _ hix] at hrF
                  have hpF : row ++ [yn + t] = cur ++ (ms.take (k + 1)).map (fun t => yn + t) := by rw [HROW.out, take_snoc HTI.out, List.map_append, List.append_assoc]; rfl
                  rw [hpF] at hrF
                  have hon3 := Only.pushed (lo := gb) (hi := gb + 1) (u := .slice (some ⟨g2, 0, none⟩) (row.length + 1) cp2) (i := xn + s) (g := gb) ((hon.drew).alloc (.cells #[.int .i64 ((yn : Int) + (t : Int))] 3)) HG3.out (fun b hb => .inr (HRO.out.lt b hb).1) (.inl ⟨Nat.le_refl _, Nat.lt_succ_self _⟩)
                  have hon4 := Only.pushed (lo := 0) (hi := wo.heap.size) (u := .slice (some ⟨g2, 0, none⟩) (row.length + 1) cp2) (i := xn + s) (g := gb) ((hon2.drew).alloc (.cells #[.int .i64 ((yn : Int) + (t : Int))] 3)) HG3.out (fun b hb => (HIX.out hv HHI.out b hb).imp (fun h => ⟨Nat.zero_le _, h⟩) id) (.inl ⟨Nat.zero_le _, by omega⟩)
                  have hixF : ∀ hv', (hs.set (xn + s) (.slice (some ⟨g2, 0, none⟩) (row.length + 1) cp2))[xn + s]? = some hv' → ∀ b, hv'.ownBlock = some b → b < wo.heap.size ∨ wM.heap.size ≤ b := fun hv' hi b hb => by
                    rw [List.getElem?_set, if_pos rfl, if_pos hil] at hi
                    injection hi with hi
                    subst hi
                    injection hb with hb
                    subst hb
                    rcases HA3.out with h9 | h9
                    · exact HIX.out hv HHI.out _ h9
                    · have := hon2.size
                      simp at h9
                      exact .inr (show wM.heap.size ≤ g2 by omega)
                  have HRF := Lib.hid hrF
                  have HO5 := Lib.hid hon3
                  have HO6 := Lib.hid hon4
                  have HIXF := Lib.hid hixF
                  clear hrF hpF hon3 hon4 hixF hcz hfz
                  go_wp2_with fail
                  go_roundw
                  case rel => exact ⟨k + 1, _, by omega, by go_num, HRF.out, HO5.out, HO6.out, HIXF.out⟩
                  case measure => simp [intOf]; omega
                · obtain rfl : k = ms.length := by omega
                  have hall : cur ++ (ms.take ms.length).map (fun t => yn + t) = ((arcsOf g (x : Int)).take (j + 1)).flatMap (nextA g a x s) := by rw [List.take_length, flat_take HYJ.out, ← HCUR.out, HNA.out]
                  rw [hall] at HRW
                  clear hall
                  go_wp2_with fail
                  go_roundw
                  case rel => exact ⟨j + 1, _, by omega, by go_num, HRW.out, hon⟩
                  case measure => simp [intOf]; omega
            · obtain rfl : j = (arcsOf g (x : Int)).length := by omega
              have hall : ((arcsOf g (x : Int)).take (arcsOf g (x : Int)).length).flatMap (nextA g a x s) = nextI g a (xn + s) := by rw [List.take_length, HXN.out, nextI_at hlt2]; rfl
              rw [hall, fill_next] at HRW
              clear hall
              go_wp2_with fail
              go_roundw
              case rel => exact ⟨s + 1, _, by omega, by go_num, HRW.out, hon⟩
              case measure => simp [intOf]; omega
        · obtain rfl : s = a.accept.length := by omega
          have hall : xn + a.accept.length = (x + 1) * a.accept.length := by rw [HXN.out, Nat.succ_mul]
          rw [hall] at HRW
          clear hall
          go_wp2_with fail
          go_roundw
          case rel => exact ⟨x + 1, _, by omega, by go_num, HRW.out, hon⟩
          case measure => simp [intOf]; omega
    · obtain rfl : x = g.vals.length := by omega
      have hs1 := HRW.out
      rw [← HN.out, fill_all] at hs1
      have hln : hs.length = N := by rw [hs1.len]; simp
      have hs2 := hs1.sse cN_len (lo := w.heap.size) (by omega) (by omega)
      rw [hln] at hs2
      have HS2 := Lib.hid hs2
      have HBF := Lib.hid (hbw.trans (hon.below (B := w.heap.size) (by omega) (by omega)))
      clear hs1 hs2 hln
      go_wp2_with fail
      go_ret
      exact ⟨_, rfl, by rw [HR.out, ← HN.out]; exact HS2.out, HBF.out⟩
end Go.Proofs.YtpbfdmfkmbdpkaaGreat

/- The program's turned: rows of numbers turned round. -/
namespace Go.Proofs.YtpbfdmfkmbdpkaaGreat
set_option linter.unusedVariables false
set_option linter.unusedSimpArgs false
open Go.ChangeShapes Go.WideShapes Go.ChangeAt Go.RowKit
attribute [local go_sem] ext_cell ext_frozen ext_lt ext_lt1 ext_lt2 ext_lt3 ltn2 ltn3 ltn13 lts1 lts2 lts3

theorem elIntsT : ElemOk Tryz.prog 27 22 (.slice none 0 0) 1 24 := ⟨Tryz.underlying27, by kernel_rfl, rfl, by omega⟩
theorem turn_row_len {N i k M : Nat} {next : Nat → List Nat} {cur row : List Nat} (h : k < N) (hr : (turnTo N next i cur)[k]? = some row) (hn : ∀ m, m < i → (next m).length ≤ M) (hc : cur.length ≤ M) : row.length ≤ (i + 1) * M := by
  rw [turn_at h] at hr
  injection hr with hr
  rw [← hr, List.length_append]
  have h1 : ∀ (l : List Nat) (f : Nat → Option Nat), (l.filterMap f).length ≤ l.length := fun l f => List.length_filterMap_le f l
  have h2 : ∀ j, j ≤ i → ((List.range j).flatMap fun m => (next m).filterMap fun x => if x = k then some m else none).length ≤ j * M := by
    intro j
    induction j with
    | zero => intro _; simp
    | succ j ih =>
      intro hj
      rw [List.range_succ, List.flatMap_append, List.length_append, Nat.succ_mul]
      have h3 := ih (by omega)
      have h4 := h1 (next j) (fun x => if x = k then some j else none)
      have h5 := hn j (by omega)
      simp only [List.flatMap_cons, List.flatMap_nil, List.append_nil]
      omega
  have h6 := h2 i (Nat.le_refl _)
  have h7 := h1 cur (fun x => if x = k then some i else none)
  rw [Nat.succ_mul]
  omega
set_option maxHeartbeats 4000000 in
set_option maxRecDepth 100000 in
theorem turned_any (v : Value) (N : Nat) (next : Nat → List Nat) (w : World) (hv : SSE 0 w.heap.size w cN 1 v ((List.range N).map next)) (hN : N ≤ 60) (hnext : ∀ i, i < N → (next i).length ≤ 288 ∧ ∀ k ∈ next i, k < N) :
    Calls Tryz.prog 127 #[v] w fun e w' => ∃ v', e = .returned v' ∧ SSE w.heap.size w'.heap.size w' cN 1 v' ((List.range N).map (turnL N next)) ∧ Below w.heap.size w w' := by
  obtain ⟨A5, c5, hv5, hl5, hm5⟩ := hv.shape
  have hlen5 : ((List.range N).map next).length = N := by simp
  rw [hlen5] at hv5 hl5
  subst hv5
  have HV := Lib.hid hv
  have HNX := Lib.hid hnext
  clear hv hnext hlen5
  obtain ⟨R, hR⟩ : ∃ R, R = (List.range N).map (turnL N next) := ⟨_, rfl⟩
  rw [← hR]
  have HR := Lib.hid hR
  clear hR
  go_enter Tryz.func127, Tryz.ntmps127
  go_wp2_with (at_make; refine wpList_makeE (P := Tryz.prog) cV (.slice none 0 0) elIntsT rfl rfl rfl _ _ rfl w.heap.size N _ (by rfl) (by rfl) rfl (by omega) (by unfold maxLen; omega) (by simp) ?_; intro w1 hrow1 hbel1
               have hrw := Rws.made (base := w.heap.size) (α := Nat) (E := cN) (k := 1) (rT := 3) hrow1
               rw [← turn_zero N next] at hrw
               have HRW := Lib.hid hrw
               have hg1 := hrw.gLt.2
               clear hrow1 hrw)
  generalize hgb : w.heap.size = gb at *
  have HGB := Lib.hid hgb
  clear hgb
  go_loopw [13] (fun ii wr => ∃ (i : Nat) (hs : List Value), i ≤ N ∧ ii = .int .i64 (i : Int) ∧ Rws wr gb 22 3 cN 1 gb hs (turnTo N next i []) ∧ Below gb w wr) (fun ii _ => N - (intOf ii).toNat)
  case atStart => exact ⟨0, _, Nat.zero_le _, rfl, HRW.out, hbel1⟩
  case round =>
    clear HRW hbel1
    obtain ⟨i, hs, hi, rfl, hrw, hbel⟩ := hrel
    have HRW := Lib.hid hrw
    clear hrw
    by_cases hlt : i < N
    · obtain ⟨b5, o5, A6, c6, rfl, -, hb5, d5, hl6, hm6, hI6, -⟩ := HV.out.row (by rw [HGB.out]; exact Nat.le_refl _) (i := i) (xs := next i) (by simp [hlt])
      have d5 := (hbel.cell (p := ⟨b5, o5 + i, none⟩) hb5).trans d5
      have hni := HNX.out i hlt
      have HI6 := Lib.hid hI6
      obtain ⟨hnl, hnk⟩ := hni
      have HNK := Lib.hid hnk
      clear hI6 hnk
      go_wp2_with fail
      go_loopw [20] (fun jj wr => ∃ (j : Nat) (hs : List Value), j ≤ (next i).length ∧ jj = .int .i64 (j : Int) ∧ Rws wr gb 22 3 cN 1 gb hs (turnTo N next i ((next i).take j)) ∧ Below gb w wr) (fun jj _ => (next i).length - (intOf jj).toNat)
      case atStart => exact ⟨0, _, Nat.zero_le _, rfl, HRW.out, hbel⟩
      case round =>
        clear d5 HRW hbel
        obtain ⟨j, hs, hj, rfl, hrw, hbel⟩ := hrel
        have HRW := Lib.hid hrw
        clear hrw
        by_cases hlt2 : j < (next i).length
        · have hki : (next i)[j]? = some (next i)[j] := List.getElem?_eq_getElem hlt2
          have hkn := HNK.out _ (List.getElem_mem hlt2)
          generalize (next i)[j] = k at hki hkn
          obtain ⟨b7, o7, rfl, -, hb7, d7⟩ := HI6.out.nat hki
          have d7 := (hbel.cell (p := ⟨b7, o7 + j, none⟩) hb7).trans d7
          have hb7w := Nat.lt_trans hb7 HRW.out.gLt.2
          have hil : k < hs.length := by rw [HRW.out.len, turn_len]; exact hkn
          have hhi : hs[k]? = some hs[k] := List.getElem?_eq_getElem hil
          generalize hs[k] = hv at hhi
          have hcv := HRW.out.cell hhi
          have hfv := HRW.out.frozen k
          have hxr : k < (turnTo N next i ((next i).take j)).length := by rw [turn_len]; exact hkn
          have hxk : (turnTo N next i ((next i).take j))[k]? = some (turnTo N next i ((next i).take j))[k] := List.getElem?_eq_getElem hxr
          generalize (turnTo N next i ((next i).take j))[k] = row at hxk
          have hrl : row.length ≤ 100000 := by
            have h1 := turn_row_len hkn hxk (M := 288) (fun m hm => (HNX.out m (by omega)).1) (by rw [List.length_take]; omega)
            have h2 := Nat.mul_le_mul_right 288 (show i + 1 ≤ 60 by omega)
            omega
          have hro := HRW.out.row k hv row hhi hxk
          have hgw := HRW.out.gLt.2
          have hne1 : some gb ≠ hv.ownBlock := Ne.symm (HRW.out.far _ _ hhi)
          have HRO := Lib.hid hro
          have HHI := Lib.hid hhi
          have HXK := Lib.hid hxk
          have HKI := Lib.hid hki
          have HNE1 := Lib.hid hne1
          clear hro hhi hxk hki hne1
          have hkN : (k : Int) < (N : Int) := by omega
          have hsw := hbel.size
          rw [HGB.out] at hsw
          go_wp2_with (at_builtin; (refine wpList_append2 cN elInt rfl _ _ rfl gb hv row i 1 _ (by rfl) (HRO.out.alloc _) (by rfl) (heap_alloc_new _ _) rfl (cN_one _) (by omega) (by omega) (by simp; omega) ?_); intro g2 cp2 w3 hown3 hgr3 hat3 hlt3
                       have hcz := hgr3.cell (kcell ((Below.refl _ _).alloc (Nat.le_refl _) _) hcv) HNE1.out
                       have hfz := kfg hgr3 (p := ⟨gb, k, none⟩) HNE1.out (kcell ((Below.refl _ _).alloc (Nat.le_refl _) _) hcv) (kfb ((Below.refl _ _).alloc (Nat.le_refl _) _) hcv hfv)
                       have HO3 := Lib.hid hown3
                       have HG3 := Lib.hid hgr3
                       have HA3 := Lib.hid hat3
                       clear hown3 hgr3 hat3)
          have hrF := Rws.push (HRW.out.below (w' := wr.alloc (.cells #[.int .i64 (i : Int)] 3)) ((Below.refl _ _).alloc (Nat.le_refl _) _)) HHI.out HXK.out HO3.out HG3.out rfl HA3.out
          rw [turn_push hkn HXK.out, ← take_snoc HKI.out] at hrF
          have hbF : Below gb w (w3.setCell ⟨gb, k, none⟩ (.slice (some ⟨g2, 0, none⟩) (row.length + 1) cp2)) :=
            ((hbel.alloc (by omega) _).grown HG3.out (by simp; omega) (fun b hb => (HRO.out.lt b hb).1)).setCell (Nat.le_refl _) _
          have HRF := Lib.hid hrF
          have HBF := Lib.hid hbF
          clear hrF hbF hcz hfz
          go_roundw
          case rel => exact ⟨j + 1, _, by omega, by go_num, HRF.out, HBF.out⟩
          case measure => simp [intOf]; omega
        · obtain rfl : j = (next i).length := by omega
          have hall : turnTo N next i ((next i).take (next i).length) = turnTo N next (i + 1) [] := by rw [List.take_length, turn_next]
          rw [hall] at HRW
          clear hall
          go_wp2_with fail
          go_roundw
          case rel => exact ⟨i + 1, _, by omega, by go_num, HRW.out, hbel⟩
          case measure => simp [intOf]; omega
    · obtain rfl : i = N := by omega
      have hs1 := HRW.out
      rw [turn_all] at hs1
      have hln : hs.length = i := by rw [hs1.len]; simp
      have hs2 := hs1.sse cN_len (lo := gb) (Nat.le_refl _) (Nat.le_refl _)
      rw [hln] at hs2
      have HS2 := Lib.hid hs2
      clear hs1 hs2 hln
      go_wp2_with fail
      go_ret
      exact ⟨_, rfl, by rw [HR.out, HGB.out]; exact HS2.out, by rw [HGB.out]; exact hbel⟩
end Go.Proofs.YtpbfdmfkmbdpkaaGreat

/-
  DERIVED: THE SHELF's CONTRACTS AT THIS DUMP, IN PLAIN WORDS (tools/lay-plain.mjs out of 'TryzShelf.lean', which tools/lay-shelf.mjs wrote): THE SAME DECLARATIONS UNDER THE SAME NAMES: 'import', 'namespace', 'open', 'def', 'theorem' AND NOTHING ELSE: no command of the shelf's: FOR A HAND-IN. Each laying: the table of numbers ('.._ren') and one theorem, a field a fact of the dump's own or the kernel's comparison; each contract: ONE APPLICATION.
-/
namespace Go.Proofs
open Go.Shelf
def Tryz.lays128_ren : Go.Shelf.Ren := ⟨fun | 128 => 147 | n => n, fun | 51 => 171 | 3 => 3 | 4 => 4 | 46 => 160 | 5 => 5 | 9 => 9 | n => n, fun | n => n⟩
theorem Tryz.lays128 : Go.Proofs.Lays.n128 Tryz.prog Tryz.lays128_ren := {
  mixed := by kernel_rfl
  f128 := Tryz.func147.trans (congrArg some (by kernel_rfl))
  t3 := Tryz.underlying3
  a3 := Tryz.isAgg3
  z3 := Tryz.sizeOf3
  v3 := Tryz.zeroValue3
  t4 := Tryz.underlying4
  a4 := Tryz.isAgg4
  z4 := Tryz.sizeOf4
  v4 := Tryz.zeroValue4
  t5 := Tryz.underlying5
  a5 := Tryz.isAgg5
  z5 := Tryz.sizeOf5
  v5 := Tryz.zeroValue5
  t9 := Tryz.underlying9
  a9 := Tryz.isAgg9
  z9 := Tryz.sizeOf9
  v9 := Tryz.zeroValue9
  t46 := Tryz.underlying160
  a46 := Tryz.isAgg160
  z46 := Tryz.sizeOf160
  v46 := Tryz.zeroValue160
  t51 := Tryz.underlying171
  a51 := Tryz.isAgg171
  z51 := Tryz.sizeOf171
  v51 := Tryz.zeroValue171 }
/-- bits.Len32: "Len32 returns the minimum number of bits required to represent x; the result is 0 for x == 0.": IT RETURNS 'Lib.bitLen x'; the world is as it was. ('h0', 'h1': x is a uint32.) (LAID: no walk: one application.) -/
theorem Tryz.bits_Len32 (x : Int) (w : World) (h0 : 0 ≤ x) (h1 : x ≤ 4294967295) :
    Calls Tryz.prog 147 #[.int .u32 x] w fun e w' => e = .returned (.int .i64 (Lib.bitLen x.toNat)) ∧ w' = w := Any.bits_Len32 Tryz.lays128 x w h0 h1
def Tryz.lays125_ren : Go.Shelf.Ren := ⟨fun | 125 => 132 | 128 => 147 | 129 => 148 | n => n, fun | 46 => 160 | 3 => 3 | 51 => 171 | 53 => 173 | 4 => 4 | 5 => 5 | 9 => 9 | n => n, fun | n => n⟩
theorem Tryz.lays125 : Go.Proofs.Lays.n125 Tryz.prog Tryz.lays125_ren := {
  mixed := by kernel_rfl
  f125 := Tryz.func132.trans (congrArg some (by kernel_rfl))
  f128 := Tryz.func147.trans (congrArg some (by kernel_rfl))
  f129 := Tryz.func148.trans (congrArg some (by kernel_rfl))
  t3 := Tryz.underlying3
  a3 := Tryz.isAgg3
  z3 := Tryz.sizeOf3
  v3 := Tryz.zeroValue3
  t4 := Tryz.underlying4
  a4 := Tryz.isAgg4
  z4 := Tryz.sizeOf4
  v4 := Tryz.zeroValue4
  t5 := Tryz.underlying5
  a5 := Tryz.isAgg5
  z5 := Tryz.sizeOf5
  v5 := Tryz.zeroValue5
  t9 := Tryz.underlying9
  a9 := Tryz.isAgg9
  z9 := Tryz.sizeOf9
  v9 := Tryz.zeroValue9
  t46 := Tryz.underlying160
  a46 := Tryz.isAgg160
  z46 := Tryz.sizeOf160
  v46 := Tryz.zeroValue160
  t51 := Tryz.underlying171
  a51 := Tryz.isAgg171
  z51 := Tryz.sizeOf171
  v51 := Tryz.zeroValue171
  t53 := Tryz.underlying173
  a53 := Tryz.isAgg173
  z53 := Tryz.sizeOf173
  v53 := Tryz.zeroValue173 }
/-- bits.Len: "Len returns the minimum number of bits required to represent x; the result is 0 for x == 0.": IT RETURNS 'Lib.bitLen x'; the world is as it was. (A uint has 64 bits in the model.) ITS CALLEE bits.Len64 IS MET BY ITS OWN CONTRACT OFF THE SHELF (lay that first). (LAID: no walk: one application.) -/
theorem Tryz.bits_Len (x : Int) (w : World) (h0 : 0 ≤ x) (h1 : x ≤ 18446744073709551615) :
    Calls Tryz.prog 132 #[.int .u64 x] w fun e w' => e = .returned (.int .i64 (Lib.bitLen x.toNat)) ∧ w' = w := Any.bits_Len Tryz.lays125 x w h0 h1
def Tryz.lays215_ren : Go.Shelf.Ren := ⟨fun | 215 => 170 | n => n, fun | 3 => 3 | 4 => 4 | n => n, fun | n => n⟩
theorem Tryz.lays215 : Go.Proofs.Lays.n215 Tryz.prog Tryz.lays215_ren := {
  mixed := by kernel_rfl
  f215 := Tryz.func170.trans (congrArg some (by kernel_rfl))
  t3 := Tryz.underlying3
  a3 := Tryz.isAgg3
  z3 := Tryz.sizeOf3
  v3 := Tryz.zeroValue3
  t4 := Tryz.underlying4
  a4 := Tryz.isAgg4
  z4 := Tryz.sizeOf4
  v4 := Tryz.zeroValue4 }
open Go.RowKit in
/-- cmp.isNaN at int: 'x != x': false. (LAID: no walk: one application.) -/
theorem Tryz.cmp_isNaN_int (x : Int) (w : World) :
    Calls Tryz.prog 170 #[.int .i64 x] w fun e w' => e = .returned (.bool false) ∧ w' = w := Any.cmp_isNaN_int Tryz.lays215 x w
def Tryz.lays129_ren : Go.Shelf.Ren := ⟨fun | 129 => 148 | n => n, fun | 53 => 173 | 3 => 3 | 4 => 4 | 46 => 160 | 5 => 5 | 9 => 9 | n => n, fun | n => n⟩
theorem Tryz.lays129 : Go.Proofs.Lays.n129 Tryz.prog Tryz.lays129_ren := {
  mixed := by kernel_rfl
  f129 := Tryz.func148.trans (congrArg some (by kernel_rfl))
  t3 := Tryz.underlying3
  a3 := Tryz.isAgg3
  z3 := Tryz.sizeOf3
  v3 := Tryz.zeroValue3
  t4 := Tryz.underlying4
  a4 := Tryz.isAgg4
  z4 := Tryz.sizeOf4
  v4 := Tryz.zeroValue4
  t5 := Tryz.underlying5
  a5 := Tryz.isAgg5
  z5 := Tryz.sizeOf5
  v5 := Tryz.zeroValue5
  t9 := Tryz.underlying9
  a9 := Tryz.isAgg9
  z9 := Tryz.sizeOf9
  v9 := Tryz.zeroValue9
  t46 := Tryz.underlying160
  a46 := Tryz.isAgg160
  z46 := Tryz.sizeOf160
  v46 := Tryz.zeroValue160
  t53 := Tryz.underlying173
  a53 := Tryz.isAgg173
  z53 := Tryz.sizeOf173
  v53 := Tryz.zeroValue173 }
/-- bits.Len64: "Len64 returns the minimum number of bits required to represent x; the result is 0 for x == 0.": IT RETURNS 'Lib.bitLen x'; the world is as it was. ('h0', 'h1': x is a uint64.) (LAID: no walk: one application.) -/
theorem Tryz.bits_Len64 (x : Int) (w : World) (h0 : 0 ≤ x) (h1 : x ≤ 18446744073709551615) :
    Calls Tryz.prog 148 #[.int .u64 x] w fun e w' => e = .returned (.int .i64 (Lib.bitLen x.toNat)) ∧ w' = w := Any.bits_Len64 Tryz.lays129 x w h0 h1
def Tryz.lays189_ren : Go.Shelf.Ren := ⟨fun | 189 => 121 | 125 => 132 | 257 => 136 | 128 => 147 | 129 => 148 | 294 => 151 | 295 => 152 | 296 => 153 | 297 => 154 | 298 => 155 | 299 => 156 | 216 => 157 | 300 => 158 | 301 => 159 | 328 => 167 | 329 => 161 | 330 => 162 | 331 => 168 | 332 => 169 | 215 => 170 | 343 => 172 | n => n, fun | 28 => 22 | 3 => 3 | 46 => 160 | 0 => 0 | 51 => 171 | 53 => 173 | 4 => 4 | 183 => 165 | 182 => 164 | 131 => 146 | 5 => 5 | 9 => 9 | 218 => 183 | 222 => 187 | 228 => 195 | 229 => 83 | n => n, fun | n => n⟩
theorem Tryz.lays189 : Go.Proofs.Lays.n189 Tryz.prog Tryz.lays189_ren := {
  mixed := by kernel_rfl
  f125 := Tryz.func132.trans (congrArg some (by kernel_rfl))
  f128 := Tryz.func147.trans (congrArg some (by kernel_rfl))
  f129 := Tryz.func148.trans (congrArg some (by kernel_rfl))
  f189 := Tryz.func121.trans (congrArg some (by kernel_rfl))
  f215 := Tryz.func170.trans (congrArg some (by kernel_rfl))
  f216 := Tryz.func157.trans (congrArg some (by kernel_rfl))
  f257 := Tryz.func136.trans (congrArg some (by kernel_rfl))
  f294 := Tryz.func151.trans (congrArg some (by kernel_rfl))
  f295 := Tryz.func152.trans (congrArg some (by kernel_rfl))
  f296 := Tryz.func153.trans (congrArg some (by kernel_rfl))
  f297 := Tryz.func154.trans (congrArg some (by kernel_rfl))
  f298 := Tryz.func155.trans (congrArg some (by kernel_rfl))
  f299 := Tryz.func156.trans (congrArg some (by kernel_rfl))
  f300 := Tryz.func158.trans (congrArg some (by kernel_rfl))
  f301 := Tryz.func159.trans (congrArg some (by kernel_rfl))
  f328 := Tryz.func167.trans (congrArg some (by kernel_rfl))
  f329 := Tryz.func161.trans (congrArg some (by kernel_rfl))
  f330 := Tryz.func162.trans (congrArg some (by kernel_rfl))
  f331 := Tryz.func168.trans (congrArg some (by kernel_rfl))
  f332 := Tryz.func169.trans (congrArg some (by kernel_rfl))
  f343 := Tryz.func172.trans (congrArg some (by kernel_rfl))
  t0 := Tryz.underlying0
  a0 := Tryz.isAgg0
  z0 := Tryz.sizeOf0
  v0 := Tryz.zeroValue0
  t3 := Tryz.underlying3
  a3 := Tryz.isAgg3
  z3 := Tryz.sizeOf3
  v3 := Tryz.zeroValue3
  t4 := Tryz.underlying4
  a4 := Tryz.isAgg4
  z4 := Tryz.sizeOf4
  v4 := Tryz.zeroValue4
  t5 := Tryz.underlying5
  a5 := Tryz.isAgg5
  z5 := Tryz.sizeOf5
  v5 := Tryz.zeroValue5
  t9 := Tryz.underlying9
  a9 := Tryz.isAgg9
  z9 := Tryz.sizeOf9
  v9 := Tryz.zeroValue9
  t28 := Tryz.underlying22
  a28 := Tryz.isAgg22
  z28 := Tryz.sizeOf22
  v28 := Tryz.zeroValue22
  t46 := Tryz.underlying160
  a46 := Tryz.isAgg160
  z46 := Tryz.sizeOf160
  v46 := Tryz.zeroValue160
  t51 := Tryz.underlying171
  a51 := Tryz.isAgg171
  z51 := Tryz.sizeOf171
  v51 := Tryz.zeroValue171
  t53 := Tryz.underlying173
  a53 := Tryz.isAgg173
  z53 := Tryz.sizeOf173
  v53 := Tryz.zeroValue173
  t131 := Tryz.underlying146
  a131 := Tryz.isAgg146
  z131 := Tryz.sizeOf146
  v131 := Tryz.zeroValue146
  t182 := Tryz.underlying164
  a182 := Tryz.isAgg164
  z182 := Tryz.sizeOf164
  v182 := Tryz.zeroValue164
  t183 := Tryz.underlying165
  a183 := Tryz.isAgg165
  z183 := Tryz.sizeOf165
  v183 := Tryz.zeroValue165
  t218 := Tryz.underlying183
  a218 := Tryz.isAgg183
  z218 := Tryz.sizeOf183
  v218 := Tryz.zeroValue183
  t222 := Tryz.underlying187
  a222 := Tryz.isAgg187
  z222 := Tryz.sizeOf187
  v222 := Tryz.zeroValue187
  t228 := Tryz.underlying195
  a228 := Tryz.isAgg195
  z228 := Tryz.sizeOf195
  v228 := Tryz.zeroValue195
  t229 := Tryz.underlying83
  a229 := Tryz.isAgg83
  z229 := Tryz.sizeOf83
  v229 := Tryz.zeroValue83 }
open Go.Sort Go.RowKit in
theorem Tryz.slices_Sort_int (blk off cap : Nat) (zs : List Int) (w : World) (hH : Holds (Value.int .i64) w blk off zs.toArray) (hblk : blk < w.heap.size) (hsz : zs.length < 4611686018427387904) :
    Calls Tryz.prog 121 #[.slice (some ⟨blk, off, none⟩) zs.length cap] w fun e w' =>
      e = .returned (.tuple #[]) ∧ ∃ n os, w' = grow (putRow (Value.int .i64) (Sort.ahead w n) blk off (zs.mergeSort fun x y => decide (x ≤ y)).toArray) os := Any.slices_Sort_int Tryz.lays189 blk off cap zs w hH hblk hsz
def Tryz.lays264_ren : Go.Shelf.Ren := ⟨fun | 264 => 166 | n => n, fun | 53 => 173 | 46 => 160 | n => n, fun | n => n⟩
theorem Tryz.lays264 : Go.Proofs.Lays.n264 Tryz.prog Tryz.lays264_ren := {
  mixed := by kernel_rfl
  f264 := Tryz.func166.trans (congrArg some (by kernel_rfl))
  t46 := Tryz.underlying160
  a46 := Tryz.isAgg160
  z46 := Tryz.sizeOf160
  v46 := Tryz.zeroValue160
  t53 := Tryz.underlying173
  a53 := Tryz.isAgg173
  z53 := Tryz.sizeOf173
  v53 := Tryz.zeroValue173 }
open Go.RowKit Go.Lib in
theorem Tryz.bits_Mul64 (x y : Nat) (hx : x < 18446744073709551616) (hy : y < 18446744073709551616) (w : World) :
    Calls Tryz.prog 166 #[.int .u64 x, .int .u64 y] w fun e w' => e = .returned (.tuple #[.int .u64 ((x * y / 18446744073709551616 : Nat) : Int), .int .u64 ((x * y % 18446744073709551616 : Nat) : Int)]) ∧ w' = w := Any.bits_Mul64 Tryz.lays264 x y hx hy w
def Tryz.lays212_ren : Go.Shelf.Ren := ⟨fun | 212 => 149 | 263 => 165 | 264 => 166 | n => n, fun | 46 => 160 | 51 => 171 | 146 => 189 | 53 => 173 | 148 => 191 | n => n, fun | n => n⟩
theorem Tryz.lays212 : Go.Proofs.Lays.n212 Tryz.prog Tryz.lays212_ren := {
  mixed := by kernel_rfl
  f212 := Tryz.func149.trans (congrArg some (by kernel_rfl))
  f263 := Tryz.func165.trans (congrArg some (by kernel_rfl))
  f264 := Tryz.func166.trans (congrArg some (by kernel_rfl))
  t46 := Tryz.underlying160
  a46 := Tryz.isAgg160
  z46 := Tryz.sizeOf160
  v46 := Tryz.zeroValue160
  t51 := Tryz.underlying171
  a51 := Tryz.isAgg171
  z51 := Tryz.sizeOf171
  v51 := Tryz.zeroValue171
  t53 := Tryz.underlying173
  a53 := Tryz.isAgg173
  z53 := Tryz.sizeOf173
  v53 := Tryz.zeroValue173
  t146 := Tryz.underlying189
  a146 := Tryz.isAgg189
  z146 := Tryz.sizeOf189
  v146 := Tryz.zeroValue189
  t148 := Tryz.underlying191
  a148 := Tryz.isAgg191
  z148 := Tryz.sizeOf191
  v148 := Tryz.zeroValue191 }
open Go.RowKit Go.Lib in
/-- math/bits.Mul: "Mul returns the full-width product of x and y": on a machine of 64 bits: Mul64's. (LAID: no walk: one application.) -/
theorem Tryz.bits_Mul (x y : Nat) (hx : x < 18446744073709551616) (hy : y < 18446744073709551616) (w : World) :
    Calls Tryz.prog 149 #[.int .u64 x, .int .u64 y] w fun e w' => e = .returned (.tuple #[.int .u64 ((x * y / 18446744073709551616 : Nat) : Int), .int .u64 ((x * y % 18446744073709551616 : Nat) : Int)]) ∧ w' = w := Any.bits_Mul Tryz.lays212 x y hx hy w
def Tryz.lays108_ren : Go.Shelf.Ren := ⟨fun | 108 => 138 | n => n, fun | 28 => 22 | 3 => 3 | 0 => 0 | 4 => 4 | n => n, fun | n => n⟩
theorem Tryz.lays108 : Go.Proofs.Lays.n108 Tryz.prog Tryz.lays108_ren := {
  mixed := by kernel_rfl
  f108 := Tryz.func138.trans (congrArg some (by kernel_rfl))
  t0 := Tryz.underlying0
  a0 := Tryz.isAgg0
  z0 := Tryz.sizeOf0
  v0 := Tryz.zeroValue0
  t3 := Tryz.underlying3
  a3 := Tryz.isAgg3
  z3 := Tryz.sizeOf3
  v3 := Tryz.zeroValue3
  t4 := Tryz.underlying4
  a4 := Tryz.isAgg4
  z4 := Tryz.sizeOf4
  v4 := Tryz.zeroValue4
  t28 := Tryz.underlying22
  a28 := Tryz.isAgg22
  z28 := Tryz.sizeOf22
  v28 := Tryz.zeroValue22 }
open Go.Lib in
/-- slices.Index at []int: "Index returns the index of the first occurrence of v in s, or -1 if not present.": IT RETURNS 'Lib.idxOf (the elements) v'; the world is as it was. 'zs': what the cells behind the slice's address hold (its spare capacity too, if you have it); 'zs.take n': its elements. (LAID: no walk: one application.) -/
theorem Tryz.slices_Index_int (b off n c : Nat) (zs : List Int) (x : Int) (w : World) (hz : n ≤ zs.length) (hbig : n ≤ 9223372036854775807) (hc : ∀ j, j < zs.length → w.cell? ⟨b, off + j, none⟩ = some (.int .i64 (zs.getD j 0))) :
    Calls Tryz.prog 138 #[.slice (some ⟨b, off, none⟩) n c, .int .i64 x] w fun e w' => e = .returned (.int .i64 (Lib.idxOf (zs.take n) x)) ∧ w' = w := Any.slices_Index_int Tryz.lays108 b off n c zs x w hz hbig hc
open Go.Lib in
/-- The same at a slice of length 0, a nil one too: no cell is known, none is asked for. (LAID: no walk: one application.) -/
theorem Tryz.slices_Index_int_empty (a : Option Addr) (c : Nat) (x : Int) (w : World) :
    Calls Tryz.prog 138 #[.slice a 0 c, .int .i64 x] w fun e w' => e = .returned (.int .i64 (Lib.idxOf [] x)) ∧ w' = w := Any.slices_Index_int_empty Tryz.lays108 a c x w
def Tryz.lays107_ren : Go.Shelf.Ren := ⟨fun | 107 => 130 | 108 => 138 | n => n, fun | 28 => 22 | 3 => 3 | 4 => 4 | 0 => 0 | n => n, fun | n => n⟩
theorem Tryz.lays107 : Go.Proofs.Lays.n107 Tryz.prog Tryz.lays107_ren := {
  mixed := by kernel_rfl
  f107 := Tryz.func130.trans (congrArg some (by kernel_rfl))
  f108 := Tryz.func138.trans (congrArg some (by kernel_rfl))
  t0 := Tryz.underlying0
  a0 := Tryz.isAgg0
  z0 := Tryz.sizeOf0
  v0 := Tryz.zeroValue0
  t3 := Tryz.underlying3
  a3 := Tryz.isAgg3
  z3 := Tryz.sizeOf3
  v3 := Tryz.zeroValue3
  t4 := Tryz.underlying4
  a4 := Tryz.isAgg4
  z4 := Tryz.sizeOf4
  v4 := Tryz.zeroValue4
  t28 := Tryz.underlying22
  a28 := Tryz.isAgg22
  z28 := Tryz.sizeOf22
  v28 := Tryz.zeroValue22 }
open Go.Lib in
/-- slices.Contains at []int: "Contains reports whether v is present in s.": IT RETURNS 'elements.contains v'; the world is as it was. ITS CALLEE slices.Index IS MET BY ITS OWN CONTRACT OFF THE SHELF (lay that first): no loop is walked here. (LAID: no walk: one application.) -/
theorem Tryz.slices_Contains_int (b off n c : Nat) (zs : List Int) (x : Int) (w : World) (hz : n ≤ zs.length) (hbig : n ≤ 9223372036854775807) (hc : ∀ j, j < zs.length → w.cell? ⟨b, off + j, none⟩ = some (.int .i64 (zs.getD j 0))) :
    Calls Tryz.prog 130 #[.slice (some ⟨b, off, none⟩) n c, .int .i64 x] w fun e w' => e = .returned (.bool ((zs.take n).contains x)) ∧ w' = w := Any.slices_Contains_int Tryz.lays107 b off n c zs x w hz hbig hc
open Go.Lib in
/-- The same at a slice of length 0, a nil one too. (LAID: no walk: one application.) -/
theorem Tryz.slices_Contains_int_empty (a : Option Addr) (c : Nat) (x : Int) (w : World) :
    Calls Tryz.prog 130 #[.slice a 0 c, .int .i64 x] w fun e w' => e = .returned (.bool false) ∧ w' = w := Any.slices_Contains_int_empty Tryz.lays107 a c x w
def Tryz.laysNm220_ren : Go.Shelf.Ren := ⟨fun | 20 => 122 | n => n, fun | 22 => 22 | 3 => 3 | 4 => 4 | 0 => 0 | n => n, fun | n => n⟩
theorem Tryz.laysNm220 : Go.Proofs.Lays2.n20 Tryz.prog Tryz.laysNm220_ren := {
  mixed := by kernel_rfl
  f20 := Tryz.func122.trans (congrArg some (by kernel_rfl))
  t0 := Tryz.underlying0
  a0 := Tryz.isAgg0
  z0 := Tryz.sizeOf0
  v0 := Tryz.zeroValue0
  t3 := Tryz.underlying3
  a3 := Tryz.isAgg3
  z3 := Tryz.sizeOf3
  v3 := Tryz.zeroValue3
  t4 := Tryz.underlying4
  a4 := Tryz.isAgg4
  z4 := Tryz.sizeOf4
  v4 := Tryz.zeroValue4
  t22 := Tryz.underlying22
  a22 := Tryz.isAgg22
  z22 := Tryz.sizeOf22
  v22 := Tryz.zeroValue22
  i3 := by kernel_rfl }
open Go.RowKit Go.Lib Go.Sort in
/-- slices.Compact at []int, over an array: the library's two loops are walked. (LAID: no walk: one application.) -/
theorem Tryz.slices_Compact_int_arr (blk off cap : Nat) (d : Array Int) (w : World) (hH : Holds encI w blk off d) (hsz : d.size ≤ 9223372036854775807) (hcap : d.size ≤ cap) :
    Calls Tryz.prog 122 #[.slice (some ⟨blk, off, none⟩) d.size cap] w fun e w' => e = .returned (.slice (some ⟨blk, off, none⟩) (compactUpTo d d.size).length cap) ∧ ∃ q, w' = putRow encI (Sort.ahead w q) blk off (compactUpTo d d.size ++ List.replicate (d.size - (compactUpTo d d.size).length) 0).toArray := Any.slices_Compact_int_arr Tryz.laysNm220 blk off cap d w hH hsz hcap
open Go.RowKit Go.Lib Go.Sort in
/-- slices.Compact at []int: "Compact replaces consecutive runs of equal elements with a single copy. This is like the uniq command found on Unix. Compact modifies the contents of the slice s and returns the modified slice, which may have a smaller length. Compact zeroes the elements between the new length and the original length. The result preserves the nilness of s.": IT RETURNS THE SLICE CUT TO 'Lib.compact zs'; ITS CELLS HOLD 'Lib.compact zs', THEN ZERO VALUES up to the old length; all else is as it was, but for the count of draws. IN THE WORDS OF slices.Sort's CONTRACT ('Holds', 'putRow'): so the everyday 'slices.Sort(xs); xs = slices.Compact(xs)' goes from the one contract to the other. It asks 'zs.length ≤ cap' (every slice's: the reslicing 's[:k]' looks at it). Length 0, nil: '.._empty'. (LAID: no walk: one application.) -/
theorem Tryz.slices_Compact_int (blk off cap : Nat) (zs : List Int) (w : World) (hH : Holds (Value.int .i64) w blk off zs.toArray) (hsz : zs.length ≤ 9223372036854775807) (hcap : zs.length ≤ cap) :
    Calls Tryz.prog 122 #[.slice (some ⟨blk, off, none⟩) zs.length cap] w fun e w' => e = .returned (.slice (some ⟨blk, off, none⟩) (Lib.compact zs).length cap) ∧ ∃ q, w' = putRow (Value.int .i64) (Sort.ahead w q) blk off (Lib.compact zs ++ List.replicate (zs.length - (Lib.compact zs).length) 0).toArray := Any.slices_Compact_int Tryz.laysNm220 blk off cap zs w hH hsz hcap
open Go.RowKit Go.Lib Go.Sort in
/-- The same at a slice of length 0, a nil one too: it comes back as it is. (LAID: no walk: one application.) -/
theorem Tryz.slices_Compact_int_empty (a : Option Addr) (cap : Nat) (w : World) :
    Calls Tryz.prog 122 #[.slice a 0 cap] w fun e w' => e = .returned (.slice a 0 cap) ∧ w' = w := Any.slices_Compact_int_empty Tryz.laysNm220 a cap w
def Tryz.laysNm237_ren : Go.Shelf.Ren := ⟨fun | 37 => 170 | n => n, fun | 3 => 3 | 4 => 4 | n => n, fun | n => n⟩
theorem Tryz.laysNm237 : Go.Proofs.Lays2.n37 Tryz.prog Tryz.laysNm237_ren := {
  mixed := by kernel_rfl
  f37 := Tryz.func170.trans (congrArg some (by kernel_rfl))
  t3 := Tryz.underlying3
  a3 := Tryz.isAgg3
  z3 := Tryz.sizeOf3
  v3 := Tryz.zeroValue3
  t4 := Tryz.underlying4
  a4 := Tryz.isAgg4
  z4 := Tryz.sizeOf4
  v4 := Tryz.zeroValue4 }
open Go.RowKit Go.Lib in
/-- cmp.isNaN[int]: 'x != x': false. (LAID: no walk: one application.) -/
theorem Tryz.cmp_isNaN_int2 (x : Int) (w : World) :
    Calls Tryz.prog 170 #[.int .i64 x] w fun e w' => e = .returned (.bool false) ∧ w' = w := Any.cmp_isNaN_int2 Tryz.laysNm237 x w
def Tryz.laysNm231_ren : Go.Shelf.Ren := ⟨fun | 31 => 157 | 37 => 170 | n => n, fun | 3 => 3 | 4 => 4 | n => n, fun | n => n⟩
theorem Tryz.laysNm231 : Go.Proofs.Lays2.n31 Tryz.prog Tryz.laysNm231_ren := {
  mixed := by kernel_rfl
  f31 := Tryz.func157.trans (congrArg some (by kernel_rfl))
  f37 := Tryz.func170.trans (congrArg some (by kernel_rfl))
  t3 := Tryz.underlying3
  a3 := Tryz.isAgg3
  z3 := Tryz.sizeOf3
  v3 := Tryz.zeroValue3
  t4 := Tryz.underlying4
  a4 := Tryz.isAgg4
  z4 := Tryz.sizeOf4
  v4 := Tryz.zeroValue4 }
open Go.RowKit Go.Lib in
/-- cmp.Less[int]: "Less reports whether x is less than y.": 'x < y'; the world is as it was. (LAID: no walk: one application.) -/
theorem Tryz.cmp_Less_int2 (x y : Int) (w : World) :
    Calls Tryz.prog 157 #[.int .i64 x, .int .i64 y] w fun e w' => e = .returned (.bool (decide (x < y))) ∧ w' = w := Any.cmp_Less_int2 Tryz.laysNm231 x y w
open Go.RowKit Go.Lib Go.Sort in
/-- slices.Compact at []int, of an argument: the slice cut to 'Lib.compact (elements)'; the n cells hold that, then zeros. (LAID: no walk: one application.) -/
theorem Tryz.slices_Compact_int_cells (b off n c : Nat) (zs : List Int) (w : World) (hz : n ≤ zs.length) (hbig : n ≤ 9223372036854775807) (hcap : n ≤ c) (hc : ∀ j, j < zs.length → w.cell? ⟨b, off + j, none⟩ = some (.int .i64 (zs.getD j 0))) (hf : ∀ j, j < n → w.frozen? ⟨b, off + j, none⟩ = false) :
    Calls Tryz.prog 122 #[.slice (some ⟨b, off, none⟩) n c] w fun e w' => e = .returned (.slice (some ⟨b, off, none⟩) (Lib.compact (zs.take n)).length c) ∧ ∃ q, w' = (w.drewN q).setCells b off ((Lib.compact (zs.take n) ++ List.replicate (n - (Lib.compact (zs.take n)).length) 0).map (Value.int .i64)) := Any.slices_Compact_int_cells Tryz.laysNm220 b off n c zs w hz hbig hcap hc hf
open Go.RowKit Go.Sort in
/-- .. and plain. (LAID: no walk: one application.) -/
theorem Tryz.slices_Sort_int_none (p : Option Addr) (cap : Nat) (w : World) :
    Calls Tryz.prog 121 #[.slice p 0 cap] w fun e w' => e = .returned (.tuple #[]) ∧ w' = w := Any.slices_Sort_int_none Tryz.lays189 p cap w
end Go.Proofs

/- The library's slices.Repeat at []int, of one number: so many of it. -/
namespace Go.Proofs.YtpbfdmfkmbdpkaaGreat
set_option linter.unusedVariables false
set_option linter.unusedSimpArgs false
open Go.ChangeShapes Go.WideShapes Go.ChangeAt Go.RowKit
attribute [local go_sem] ext_cell ext_frozen ext_lt ext_lt1 ext_lt2 ext_lt3 ltn2 ltn3 ltn13 lts1 lts2 lts3

theorem own_full {w : World} {base g n : Nat} {e : TypeId} {xs : List Value} (h : w.ownsRow base e 1 (.slice (some ⟨g, 0, none⟩) n n) n xs) : w.heap[g]? = some (.cells xs.toArray e (0, 0)) := by
  obtain ⟨hl, h⟩ := h
  rcases h with ⟨h, _⟩ | ⟨g', cap, cur, hv, _, hg, _, _, hs, ht⟩
  · cases h
  · simp only [Value.slice.injEq, Option.some.injEq, Addr.mk.injEq, and_true, true_and] at hv
    obtain ⟨rfl, rfl⟩ := hv
    rw [hg, ← ht, List.take_of_length_le (by rw [Array.length_toList, hs]; exact Nat.le_refl _)]
theorem full_own {w : World} {base g n : Nat} {e : TypeId} {xs : List Value} (h : w.heap[g]? = some (.cells xs.toArray e (0, 0))) (hn : xs.length = n) (hb : base ≤ g) (hm : n ≤ maxLen) : w.ownsRow base e 1 (.slice (some ⟨g, 0, none⟩) n n) n xs :=
  ⟨by rw [hn, Nat.mul_one], .inr ⟨g, n, xs.toArray, rfl, hb, h, Nat.le_refl _, hm, by simpa using hn, by rw [Nat.mul_one, ← hn]; simp⟩⟩
theorem op_copy {P : Program} {o : Oper} {a : Act} {w : World} {K : Act → World → Prop} {Q : Exit → Act → World → Prop} (hgd : o.guard = none) (d s : Operand) (dT sT : TypeId)
    (ho : o.op = .call { callee := .builtin .copy, args := #[d, s], argTypes := #[dT, sT] }) (elem : TypeId) (hu : P.underlying dT = some (.slice elem)) (hsz : (P.info? elem).map (·.size) = some 1)
    (dp sp : Option Addr) (dLen dCap sLen sCap : Nat) (hd : a.eval d = .slice dp dLen dCap) (hs : a.eval s = .slice sp sLen sCap)
    (g off : Nat) (cur : List Value) (t : TypeId) (hg : w.heap[g]? = some (.cells cur.toArray t (0, 0))) (cs : List Value) (hn : cs.length = Nat.min sLen dLen)
    (hpos : 0 < cs.length → dp = some ⟨g, off, none⟩ ∧ ∃ ad, sp = some ad ∧ ∀ j v, cs[j]? = some v → w.cell? (ad.add j) = some v)
    (hfit : off + cs.length ≤ cur.length) (h1 : ∀ v ∈ cs, v.oneCell' = true) (B : Nat) (w0 : World) (hb : RowKit.Below B w0 w) (hBg : B ≤ g)
    (h : ∀ w', RowKit.Hid (w'.heap[g]? = some (.cells (splice cur off cs).toArray t (0, 0))) → RowKit.Below B w0 w' → K (a.put o.dst (goInt cs.length)) w') : Oper.wp P o a w K Q := by
  have h2 := step_copy_splice (ops := #[]) (E := True) (Q := Q) (K := K) hgd d s dT sT ho elem hu hsz dp sp dLen dCap sLen sCap hd hs g off cur t hg cs hn hpos hfit h1 B w0 hb hBg h
  have hw : Region.wanted o (yielded #[] a.tmps) = true := by simp [Region.wanted, hgd]
  rwa [if_pos hw] at h2
theorem flatI_rep (n : Nat) (x : Int) : (List.replicate n x).flatMap cI = List.replicate n (.int .i64 x) := by
  induction n with
  | zero => rfl
  | succ n ih => rw [List.replicate_succ, List.flatMap_cons, ih]; rfl
/-- n of x, then zeros -/
def repTo (x : Int) (N n : Nat) : List Value := List.replicate n (.int .i64 x) ++ List.replicate (N - n) (.int .i64 0)
theorem repTo_len {x : Int} {N n : Nat} (h : n ≤ N) : (repTo x N n).length = N := by simp [repTo]; omega
theorem repTo_step {x : Int} {N n k : Nat} (h : n + k ≤ N) : splice (repTo x N n) n (List.replicate k (.int .i64 x)) = repTo x N (n + k) := by
  unfold splice repTo
  rw [List.take_append_of_le_length (by simp), List.take_of_length_le (by simp), List.drop_append, List.length_replicate, List.length_replicate]
  rw [List.drop_eq_nil_of_le (by simp), List.nil_append, List.drop_replicate, ← List.append_assoc, List.replicate_append_replicate]
  congr 2
  omega
set_option maxHeartbeats 2000000 in
set_option maxRecDepth 100000 in
theorem repeat_any (lv : Value) (x : Int) (N : Nat) (w : World) (hN : 1 ≤ N) (hN2 : N ≤ 100000) (hl : SlE w cI 1 lv [x]) :
    Calls Tryz.prog 134 #[lv, .int .i64 (N : Int)] w fun e w' => ∃ g, e = .returned (.slice (some ⟨g, 0, none⟩) N N) ∧ w'.ownsRow w.heap.size 3 1 (.slice (some ⟨g, 0, none⟩) N N) N ((List.replicate N x).flatMap cI) ∧ Below w.heap.size w w' := by
  obtain ⟨A1, c1, rfl, hl1, hm1, hC⟩ := hl.form
  obtain ⟨b, o, rfl, hb, hc⟩ := hC.int (i := 0) rfl
  have u1 : IntKind.u64.wrap (1 : Int) = 1 := by rfl
  have u2 : IntKind.u64.wrap (N : Int) = (N : Int) := by rw [IntKind.wrap_u64]; omega
  have u3 : ((1 * N / 18446744073709551616 : Nat) : Int) = 0 := by rw [Nat.one_mul, Nat.div_eq_of_lt (by omega)]; rfl
  have u4 : ((1 * N % 18446744073709551616 : Nat) : Int) = (N : Int) := by rw [Nat.one_mul, Nat.mod_eq_of_lt (by omega)]
  have hmul : ∀ w : World, Calls Tryz.prog 149 #[.int .u64 1, .int .u64 (N : Int)] w fun e w' => e = .returned (.tuple #[.int .u64 0, .int .u64 (N : Int)]) ∧ w' = w := fun w => (Tryz.bits_Mul 1 N (by omega) (by omega) w).mono fun e w' ⟨he, hw⟩ => ⟨by rw [he, u3, u4], hw⟩
  have HMUL := Lib.hid hmul
  clear hl hC u3 u4 hmul
  simp only [List.length_singleton] at *
  go_enter Tryz.func134, Tryz.ntmps134
  go_wp2_with fail
  refine (HMUL.out _).mono ?_
  rintro e w' ⟨rfl, rfl⟩
  have u5 : IntKind.i64.wrap (N : Int) = (N : Int) := IntWalk.i64_in _ (by omega)
  have hn0 : decide ((N : Int) > 9223372036854775807) = false := by simp; omega
  have hnews : ∀ (w1 : World), w1.cell? ⟨b, o, none⟩ = some (.int .i64 x) → ∀ (j : Nat) (v : Value), (List.replicate 1 (Value.int .i64 x))[j]? = some v → w1.cell? ((⟨b, o, none⟩ : Addr).add j) = some v := fun w1 h j v hj => by
    rw [List.getElem?_replicate] at hj
    split at hj
    · obtain rfl : j = 0 := by omega
      injection hj with hj
      subst hj
      simpa [Addr.add] using h
    · cases hj
  have HNEWS := Lib.hid hnews
  clear hnews
  go_wp2_with (first | (at_make; refine wpList_makeE (P := Tryz.prog) cI 0 elInt rfl rfl rfl _ _ rfl w'.heap.size N _ (by rfl) (by rfl) rfl (by omega) (by unfold maxLen; omega) (by simp) ?_; intro w1 hrow1 hbel1; have HB1 := Lib.hid (own_full hrow1); have hlt1 := (hrow1.lt _ rfl).2; have hc1 := kcell hbel1 hc; clear hrow1) | (refine wpList_copy_splice rfl (.tmp 31) (.tmp 32) 22 22 rfl 3 Tryz.underlying22 (by kernel_rfl) (some ⟨w'.heap.size, 0, none⟩) (some ⟨b, o, none⟩) N N 1 c1 (by rfl) (by rfl) w'.heap.size 0 (repTo x N 0) 3 (by have h := HB1.out; rw [flatI_rep] at h; simpa [repTo] using h) (List.replicate 1 (.int .i64 x)) (by simp [Nat.min_def]; omega) (fun _ => ⟨rfl, _, rfl, HNEWS.out _ hc1⟩) (by rw [repTo_len (Nat.zero_le _)]; simp; omega) (by intro v hv; rw [List.eq_of_mem_replicate hv]; rfl) w'.heap.size w' hbel1 (Nat.le_refl _) ?_; intro w2 hh2 hbel2; rw [repTo_step (by omega)] at hh2))
  obtain ⟨w0, rfl⟩ : ∃ w0 : World, w0 = w' := ⟨_, rfl⟩
  go_loopw [8] (fun nn wr => ∃ n : Nat, 1 ≤ n ∧ n ≤ N ∧ nn = .int .i64 (n : Int) ∧ wr.heap[w0.heap.size]? = some (.cells (repTo x N n).toArray 3 (0, 0)) ∧ Below w0.heap.size w0 wr) (fun nn _ => N - (intOf nn).toNat)
  case atStart => exact ⟨1, Nat.le_refl _, hN, rfl, by simpa using hh2.out, hbel2⟩
  case round =>
    clear hh2 hbel2
    obtain ⟨n, hn1, hn2, rfl, hblk, hbel⟩ := hrel
    have HB := Lib.hid hblk
    clear hblk
    by_cases hlt : n < N
    · obtain ⟨m, hm⟩ : ∃ m, m = Nat.min n (N - n) := ⟨_, rfl⟩
      have hm1 : 1 ≤ m ∧ m ≤ n ∧ n + m ≤ N := by rw [hm]; show 1 ≤ min n (N - n) ∧ min n (N - n) ≤ n ∧ n + min n (N - n) ≤ N; omega
      have HM := Lib.hid hm
      clear hm
      have hsrc : ∀ j v, (List.replicate m (Value.int .i64 x))[j]? = some v → wr.drew.cell? ((⟨w0.heap.size, 0, none⟩ : Addr).add j) = some v := fun j v hj => by
        rw [List.getElem?_replicate] at hj
        split at hj
        · injection hj with hj
          subst hj
          have hadd : (⟨w0.heap.size, 0, none⟩ : Addr).add j = ⟨w0.heap.size, j, none⟩ := by unfold Addr.add; split <;> simp_all
          rw [hadd]
          show wr.cell? _ = _
          rw [cell_of_row wr _ j _ _ _ HB.out]
          have hjn : j < n := by omega
          simp [repTo, List.getElem?_append, hjn]
        · cases hj
      have HSRC := Lib.hid hsrc
      have hNn : ¬ N = n := by omega
      have q1 : IntKind.i64.wrap ((n : Int) + (m : Int)) = (n : Int) + (m : Int) := IntWalk.i64_in _ (by omega)
      clear hsrc
      go_wp2_with fail
      refine F_start 9 (fun _ => True) (by kernel_rfl) trivial (fun hS inv => ?_)
      refine F_take (i := 0) (v := ?_) rfl (by kernel_rfl) (by kernel_rfl) (by kernel_rfl) (fun _ _ _ h => h) inv (Or.inl ⟨by rfl, ?_⟩) (by assumption) (fun invn => ?_)
      rotate_left
      · (intro w hSw; (try dsimp only at hSw); go_simp; try with_reducible rfl)
      try simp only [List.getElem_toArray, List.getElem_cons_zero, List.getElem_cons_succ, Act.put, List.setIfInBounds_toArray, List.set_cons_zero, List.set_cons_succ]
      clear inv
      have inv := invn
      clear invn
      refine F_take (i := 1) (v := ?_) rfl (by kernel_rfl) (by kernel_rfl) (by kernel_rfl) (fun _ _ _ h => h) inv (Or.inl ⟨by rfl, ?_⟩) (by assumption) (fun invn => ?_)
      rotate_left
      · (intro w hSw; (try dsimp only at hSw); go_simp; try with_reducible rfl)
      try simp only [List.getElem_toArray, List.getElem_cons_zero, List.getElem_cons_succ, Act.put, List.setIfInBounds_toArray, List.set_cons_zero, List.set_cons_succ]
      clear inv
      have inv := invn
      clear invn
      refine F_take (i := 2) (v := ?_) rfl (by kernel_rfl) (by kernel_rfl) (by kernel_rfl) (fun _ _ _ h => h) inv (Or.inl ⟨by rfl, ?_⟩) (by assumption) (fun invn => ?_)
      rotate_left
      · (intro w hSw; (try dsimp only at hSw); go_simp; try with_reducible rfl)
      try simp only [List.getElem_toArray, List.getElem_cons_zero, List.getElem_cons_succ, Act.put, List.setIfInBounds_toArray, List.set_cons_zero, List.set_cons_succ]
      clear inv
      have inv := invn
      clear invn
      refine F_take (i := 3) (v := ?_) rfl (by kernel_rfl) (by kernel_rfl) (by kernel_rfl) (fun _ _ _ h => h) inv (Or.inl ⟨by rfl, ?_⟩) (by assumption) (fun invn => ?_)
      rotate_left
      · (intro w hSw; (try dsimp only at hSw); go_simp; try with_reducible rfl)
      try simp only [List.getElem_toArray, List.getElem_cons_zero, List.getElem_cons_succ, Act.put, List.setIfInBounds_toArray, List.set_cons_zero, List.set_cons_succ]
      clear inv
      have inv := invn
      clear invn
      refine F_take (i := 4) (v := ?_) rfl (by kernel_rfl) (by kernel_rfl) (by kernel_rfl) (fun _ _ _ h => h) inv (Or.inl ⟨by rfl, ?_⟩) (by assumption) (fun invn => ?_)
      rotate_left
      · (intro w hSw; (try dsimp only at hSw); go_simp; try with_reducible rfl)
      try simp only [List.getElem_toArray, List.getElem_cons_zero, List.getElem_cons_succ, Act.put, List.setIfInBounds_toArray, List.set_cons_zero, List.set_cons_succ]
      clear inv
      have inv := invn
      clear invn
      refine F_take (i := 5) (v := ?_) rfl (by kernel_rfl) (by kernel_rfl) (by kernel_rfl) (fun _ _ _ h => h) inv (Or.inl ⟨by rfl, ?_⟩) (by assumption) (fun invn => ?_)
      rotate_left
      · (intro w hSw; (try dsimp only at hSw); go_simp; try with_reducible rfl)
      try simp only [List.getElem_toArray, List.getElem_cons_zero, List.getElem_cons_succ, Act.put, List.setIfInBounds_toArray, List.set_cons_zero, List.set_cons_succ]
      clear inv
      have inv := invn
      clear invn
      refine F_take (i := 6) (v := ?_) rfl (by kernel_rfl) (by kernel_rfl) (by kernel_rfl) (fun _ _ _ h => h) inv (Or.inl ⟨by rfl, ?_⟩) (by assumption) (fun invn => ?_)
      rotate_left
      · (intro w hSw; (try dsimp only at hSw); go_simp; try with_reducible rfl)
      try simp only [List.getElem_toArray, List.getElem_cons_zero, List.getElem_cons_succ, Act.put, List.setIfInBounds_toArray, List.set_cons_zero, List.set_cons_succ]
      clear inv
      have inv := invn
      clear invn
      refine F_one (i := 7) (by kernel_rfl) rfl rfl (by omega) inv (fun K hK => ?_)
      try simp only [List.getElem_toArray, List.getElem_cons_zero, List.getElem_cons_succ]
      refine op_copy rfl _ _ 22 22 rfl 3 Tryz.underlying22 (by kernel_rfl) (some ⟨w0.heap.size, n, none⟩) (some ⟨w0.heap.size, 0, none⟩) (N - n) (N - n) n N (by rfl) (by rfl) w0.heap.size n (repTo x N n) 3 HB.out (List.replicate m (.int .i64 x)) (by rw [List.length_replicate, HM.out]) (fun _ => ⟨rfl, _, rfl, HSRC.out⟩) (by rw [repTo_len (by omega), List.length_replicate]; omega) (by intro v hv; rw [List.eq_of_mem_replicate hv]; rfl) w0.heap.size w0 hbel.drew (Nat.le_refl _) ?_
      intro w3 hh3 hbel3
      rw [repTo_step (by omega)] at hh3
      simp only [List.length_replicate, goInt]
      refine hK.out _ _ (trivial) (fun hSn invn => ?_)
      try simp only [List.getElem_toArray, List.getElem_cons_zero, List.getElem_cons_succ, Act.put, List.setIfInBounds_toArray, List.set_cons_zero, List.set_cons_succ]
      clear hK K inv hS
      have inv := invn
      have hS := hSn
      clear invn hSn
      refine F_take (i := 8) (v := ?_) rfl (by kernel_rfl) (by kernel_rfl) (by kernel_rfl) (fun _ _ _ h => h) inv (Or.inl ⟨by rfl, ?_⟩) (by assumption) (fun invn => ?_)
      rotate_left
      · (intro w hSw; (try dsimp only at hSw); go_simp; try with_reducible rfl)
      try simp only [List.getElem_toArray, List.getElem_cons_zero, List.getElem_cons_succ, Act.put, List.setIfInBounds_toArray, List.set_cons_zero, List.set_cons_succ]
      clear inv
      have inv := invn
      clear invn
      refine F_last (i := 9) (by kernel_rfl) rfl rfl (by omega) (by kernel_rfl) (fun K hK => ?_)
      go_simp
      refine hK _ _ ?_
      clear hK K inv hS
      go_wp2_with fail
      go_roundw
      case rel => exact ⟨n + m, by omega, by omega, by go_num, hh3.out, hbel3⟩
      case measure => simp [intOf]; omega
    · obtain rfl : n = N := by omega
      have hown := full_own (base := w0.heap.size) (n := n) HB.out (repTo_len (Nat.le_refl _)) (Nat.le_refl _) (by unfold maxLen; omega)
      have hfl : repTo x n n = (List.replicate n x).flatMap cI := by rw [flatI_rep]; simp [repTo]
      rw [hfl] at hown
      have HO := Lib.hid hown
      clear hown hfl
      go_wp2_with fail
      go_ret
      exact ⟨_, rfl, HO.out, hbel⟩
end Go.Proofs.YtpbfdmfkmbdpkaaGreat

