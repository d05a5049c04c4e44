/- Parts of the proof, joined into one text: NextI, LetI, Rec, Seat. -/
import Derived.Test.YtbkaoghlkdbofaaPartFAAFNEKK
import Derived.Test.YtbkaoghlkdbofaaPartJICGGFLG
import Derived.Test.YtbkaoghlkdbofaaPartEDIBNICH
import Derived.JoinedOf
import Derived.Test.YtbkaoghlkdbofaaRows
/- The program's nextVertices: the vertices behind each vertex of the product. -/
namespace Go.Proofs.Ytbkaoghlkdbofaa
set_option linter.unusedVariables false
set_option linter.unusedSimpArgs false
open Go.ChangeShapes Go.WideShapes Go.ChangeAt Go.RowKit
attribute [local go_sem] ext_cell ext_frozen ext_lt ext_lt1 ext_lt2 ext_lt3 ltn2 ltn3 ltn13 lts1 lts2 lts3

theorem SlI.arc {lo hi : Nat} {w : World} {A : Option Addr} {n c : Nat} {xs : List Arc} (h : SlI lo hi w cA 4 (.slice A n c) xs) {i : Nat} {y : Arc} (hx : xs[i]? = some y) :
    ∃ b o, A = some ⟨b, o, none⟩ ∧ lo ≤ b ∧ b < hi ∧ w.cell? ⟨b, o + i * 4, none⟩ = some (.int .i64 y.1.1) ∧ w.cell? ⟨b, o + i * 4 + 1, none⟩ = some (.bool y.1.2) ∧ w.cell? ⟨b, o + i * 4 + 2, none⟩ = some (.int .i64 y.2.1) ∧ w.cell? ⟨b, o + i * 4 + 3, none⟩ = some (.int .i64 y.2.2) := by
  obtain ⟨A', c', hv, _, _, h3⟩ := h
  injection hv with h1 _ _
  subst h1
  obtain ⟨b, o, e, g1, g2, hc⟩ := h3 i y hx
  exact ⟨b, o, e, g1, g2, by simpa using hc 0 _ rfl, hc 1 _ rfl, hc 2 _ rfl, hc 3 _ rfl⟩
theorem elInts : ElemOk Try.prog 52 22 (.slice none 0 0) 1 24 := ⟨Try.underlying52, by kernel_rfl, rfl, by omega⟩
set_option maxHeartbeats 8000000 in
set_option maxRecDepth 100000 in
theorem nextVertices_any (vg va : Value) (g : Gr) (a : Au) (w : World) (hgv : GrV 0 w.heap.size w vg g) (hav : AuV 0 w.heap.size w va a) (hg : GrOk g) (ha : auOk a = true) :
    Calls Try.prog 145 #[vg, va] w fun e w' => ∃ v', e = .returned v' ∧ SSE w.heap.size w'.heap.size w' cN 1 v' ((List.range (g.vals.length * a.accept.length)).map (nextI g a)) ∧ Below w.heap.size w w' := by
  have hgv0 := hgv
  have hav0 := hav
  obtain ⟨A1, c1, A2, c2, rfl, hl1, hm1, hl2, hm2, hC1, -⟩ := hgv.form
  obtain ⟨A3, c3, A4, c4, rfl, hl3, hm3, hl4, hm4, -⟩ := hav.form ha
  have hn5 := hg.n5
  have hn12 := (auOk_iff.1 ha).1.2
  have hn1 := (auOk_iff.1 ha).1.1
  have HGO := Lib.hid hg
  have HAO := Lib.hid ha
  have HGV := Lib.hid hgv0
  have HAV := Lib.hid hav0
  have HC1 := Lib.hid hC1
  clear hgv hav hgv0 hav0 hg ha hC1
  obtain ⟨R, hR⟩ : ∃ R, R = (List.range (g.vals.length * a.accept.length)).map (nextI g a) := ⟨_, rfl⟩
  rw [← hR]
  have HR := Lib.hid hR
  clear hR
  have hNm : g.vals.length * a.accept.length ≤ 60 := by have := Nat.mul_le_mul hn5 hn12; omega
  obtain ⟨N, hN⟩ : ∃ N, N = g.vals.length * a.accept.length := ⟨_, rfl⟩
  rw [← hN] at hNm
  have q0 : IntKind.i64.wrap ((a.accept.length : Int) * (g.vals.length : Int)) = (N : Int) := by rw [IntWalk.i64_in _ (by rw [Int.mul_comm, ← Int.natCast_mul, ← hN]; omega)]; rw [hN, Int.natCast_mul, Int.mul_comm]
  have q0' : (a.accept.length : Int) * (g.vals.length : Int) = (N : Int) := by rw [hN, Int.natCast_mul, Int.mul_comm]
  have HN := Lib.hid hN
  clear hN
  have hb0 : Below w.heap.size w ((w.alloc (.cells #[.slice A1 g.vals.length c1, .slice A2 g.edges.length c2] 31)).alloc (.cells #[.int .i64 a.start, .slice A3 a.accept.length c3, .slice A4 a.accept.length c4] 58)) := ((Below.refl _ _).alloc (Nat.le_refl _) _).alloc (by simp) _
  go_enter Try.func145, Try.ntmps145
  go_wp2_with (at_make; refine wpList_makeE (P := Try.prog) cV (.slice none 0 0) elInts rfl rfl rfl _ _ rfl (w.heap.size + 1 + 1) N (N : Int) (by first | rfl | simp [q0']) (by first | rfl | simp [q0']) rfl (by omega) (by unfold maxLen; omega) (by simp) ?_; intro w1 hrow1 hbel1
               have b0 := ((Blk.new w 31 #[.slice A1 g.vals.length c1, .slice A2 g.edges.length c2] w.heap.size rfl).alloc (.cells #[.int .i64 a.start, .slice A3 a.accept.length c3, .slice A4 a.accept.length c4] 58)).below hbel1 (by simp <;> omega)
               have b1 := (Blk.new (w.alloc (.cells #[.slice A1 g.vals.length c1, .slice A2 g.edges.length c2] 31)) 58 #[.int .i64 a.start, .slice A3 a.accept.length c3, .slice A4 a.accept.length c4] (w.heap.size + 1) (by simp)).below hbel1 (by simp <;> omega)
               have hb1 : Below w.heap.size w w1 := hb0.trans (hbel1.mono (by simp <;> omega))
               simp only [World.size_alloc] at hrow1 ⊢
               have HROW1 := Lib.hid hrow1
               have x0 : w1.cell? ⟨w.heap.size, 0, none⟩ = some (.slice A1 g.vals.length c1) := b0.cell 0
               have x1 : w1.cell? ⟨w.heap.size, 1, none⟩ = some (.slice A2 g.edges.length c2) := b0.cell 1
               have y0 : w1.cell? ⟨w.heap.size + 1, 0, none⟩ = some (.int .i64 a.start) := b1.cell 0
               have y1 : w1.cell? ⟨w.heap.size + 1, 1, none⟩ = some (.slice A3 a.accept.length c3) := b1.cell 1
               have y2 : w1.cell? ⟨w.heap.size + 1, 2, none⟩ = some (.slice A4 a.accept.length c4) := b1.cell 2
               clear hbel1 hrow1 b0 b1)
  refine (arcs_any _ g _ (HGV.out.keep hb1) HGO.out).mono ?_
  rintro e w2 ⟨v2, rfl, hsse, hb2⟩
  have hrw := Rws.made (base := w2.heap.size) (α := Nat) (E := cN) (k := 1) (rT := 3) (ownsRow_below HROW1.out hb2 (Nat.le_refl _))
  rw [← fill_zero N (nextI g a)] at hrw
  have x0 := kcell hb2 x0
  have x1 := kcell hb2 x1
  have y0 := kcell hb2 y0
  have y1 := kcell hb2 y1
  have y2 := kcell hb2 y2
  have hgl := hrw.gLt.2
  have hg1 : w.heap.size + 1 + 1 < w1.heap.size := (HROW1.out.lt _ rfl).2
  obtain ⟨A5, c5, hv5, hl5, hm5⟩ := hsse.shape
  have hlen5 : ((List.range g.vals.length).map fun (x : Nat) => arcsOf g (x : Int)).length = g.vals.length := by simp
  rw [hlen5] at hv5 hl5
  subst hv5
  have hbw := below_trans hb1 hb2
  have HRW := Lib.hid hrw
  have HSSE := Lib.hid hsse
  have hg9 : w.heap.size + 1 < w2.heap.size := by omega
  clear hrw hsse hlen5 hb1 hb2
  generalize hgb : w.heap.size + 1 + 1 = gb at *
  have hgw : w.heap.size + 1 < gb := by omega
  clear hgb
  go_wp2_with fail
  go_loopw [26] (fun xx wr => ∃ (x : Nat) (hs : List Value), x ≤ g.vals.length ∧ xx = .int .i64 (x : Int) ∧ Rws wr w2.heap.size 22 3 cN 1 gb hs (fillTo N (nextI g a) (x * a.accept.length) []) ∧ Only gb (gb + 1) w2 wr) (fun xx _ => g.vals.length - (intOf xx).toNat)
  case atStart => exact ⟨0, _, Nat.zero_le _, rfl, by rw [Nat.zero_mul]; exact HRW.out, Only.refl _ _ _⟩
  case round =>
    obtain ⟨x, hs, hx, rfl, hrw, hon⟩ := hrel
    have HRW := Lib.hid hrw
    clear hrw
    by_cases hlt : x < g.vals.length
    · obtain ⟨xn, hxn⟩ : ∃ xn, xn = x * a.accept.length := ⟨_, rfl⟩
      have hxn2 : xn + a.accept.length ≤ N := by rw [hxn, HN.out]; have := Nat.mul_le_mul_right a.accept.length (show x + 1 ≤ g.vals.length by omega); rw [Nat.succ_mul] at this; exact this
      rw [← hxn] at HRW
      have q1 : IntKind.i64.wrap ((x : Int) * (a.accept.length : Int)) = (xn : Int) := by rw [IntWalk.i64_in _ (by rw [← Int.natCast_mul, ← hxn]; omega), hxn, Int.natCast_mul]
      have q1' : (x : Int) * (a.accept.length : Int) = (xn : Int) := by rw [hxn, Int.natCast_mul]
      have HXN := Lib.hid hxn
      clear hxn
      obtain ⟨b5, o5, A6, c6, rfl, hlo5, hb5, d5, hl6, hm6, hI6, -⟩ := HSSE.out.row (Nat.le_refl _) (i := x) (xs := arcsOf g (x : Int)) (by simp [hlt])
      have d5 := ocell hon d5 hb5 (.inr (by omega))
      have hxi : g.vals[x]? = some g.vals[x] := List.getElem?_eq_getElem hlt
      have hvr := HGO.out.vals _ (List.getElem_mem hlt)
      generalize g.vals[x] = vx at hxi hvr
      obtain ⟨vx, rfl⟩ := Int.eq_ofNat_of_zero_le hvr.1
      have hva := valAt_of hxi
      rw [Int.toNat_natCast] at hva
      obtain ⟨b1, o1, rfl, hbb1, dv⟩ := HC1.out.int hxi
      have dv2 := kcell hbw dv
      have hAL := arcs_len HGO.out (x : Int)
      have HVA := Lib.hid hva
      have HI6 := Lib.hid hI6
      clear hva hI6 hxi dv
      go_wp2_with fail
      go_loopw [9] (fun ss wr => ∃ (s : Nat) (hs : List Value), s ≤ a.accept.length ∧ ss = .int .i64 (s : Int) ∧ Rws wr w2.heap.size 22 3 cN 1 gb hs (fillTo N (nextI g a) (xn + s) []) ∧ Only gb (gb + 1) w2 wr) (fun ss _ => a.accept.length - (intOf ss).toNat)
      case atStart => exact ⟨0, _, Nat.zero_le _, rfl, HRW.out, hon⟩
      case round =>
        clear d5 hon HRW
        obtain ⟨s, hs, hs1, rfl, hrw, hon⟩ := hrel
        have HRW := Lib.hid hrw
        clear hrw
        by_cases hlt2 : s < a.accept.length
        · have hs12 : s < 12 := by omega
          have hix : xn + s < N := by omega
          have q2 : IntKind.i64.wrap ((xn : Int) + (s : Int)) = (xn : Int) + (s : Int) := IntWalk.i64_in _ (by omega)
          have q2a : (0 : Int) ≤ (xn : Int) + (s : Int) := by omega
          have q2b : (xn : Int) + (s : Int) < (N : Int) := by omega
          have q2c : ((xn : Int) + (s : Int)).toNat = xn + s := by omega
          go_wp2_with fail
          go_loopw [38] (fun jj wr => ∃ (j : Nat) (hs : List Value), j ≤ (arcsOf g (x : Int)).length ∧ jj = .int .i64 (j : Int) ∧ Rws wr w2.heap.size 22 3 cN 1 gb hs (fillTo N (nextI g a) (xn + s) (((arcsOf g (x : Int)).take j).flatMap (nextA g a x s))) ∧ Only gb (gb + 1) w2 wr) (fun jj _ => (arcsOf g (x : Int)).length - (intOf jj).toNat)
          case atStart => exact ⟨0, _, Nat.zero_le _, rfl, HRW.out, hon⟩
          case round =>
            clear hon HRW
            obtain ⟨j, hs, hj, rfl, hrw, hon⟩ := hrel
            have HRW := Lib.hid hrw
            clear hrw
            by_cases hlt3 : j < (arcsOf g (x : Int)).length
            · have hyj : (arcsOf g (x : Int))[j]? = some (arcsOf g (x : Int))[j] := List.getElem?_eq_getElem hlt3
              have hyr := arc_range HGO.out (List.getElem_mem hlt3)
              generalize (arcsOf g (x : Int))[j] = y at hyj hyr
              obtain ⟨⟨yid, yinv⟩, yl, yt⟩ := y
              simp only at hyr
              obtain ⟨⟨hyl0, hyl5⟩, hyt0, hyt1⟩ := hyr
              obtain ⟨yl, rfl⟩ := Int.eq_ofNat_of_zero_le hyl0
              obtain ⟨yt, rfl⟩ := Int.eq_ofNat_of_zero_le hyt0
              obtain ⟨b6, o6, rfl, hlo6, hb6, z0, z1, z2, z3⟩ := HI6.out.arc hyj
              have z0 := ocell hon z0 hb6 (.inr (by omega))
              have z1 := ocell hon z1 hb6 (.inr (by omega))
              have z2 := ocell hon z2 hb6 (.inr (by omega))
              have z3 := ocell hon z3 hb6 (.inr (by omega))
              have HYJ := Lib.hid hyj
              clear hyj
              go_wp2_with fail
              have e2 : (wr.alloc (.cells #[.int .i64 yid, .bool yinv, .int .i64 (yl : Int), .int .i64 (yt : Int)] 103)).cell? ⟨wr.heap.size, 2, none⟩ = some (.int .i64 (yl : Int)) := by simp
              have e3 : (wr.alloc (.cells #[.int .i64 yid, .bool yinv, .int .i64 (yl : Int), .int .i64 (yt : Int)] 103)).cell? ⟨wr.heap.size, 3, none⟩ = some (.int .i64 (yt : Int)) := by simp
              generalize hW : (wr.alloc (.cells #[.int .i64 yid, .bool yinv, .int .i64 (yl : Int), .int .i64 (yt : Int)] 103)) = wE at e2 e3 ⊢
              have hbE : Below wr.heap.size wr wE := by rw [← hW]; exact (Below.refl _ _).alloc (Nat.le_refl _) _
              have hsE : wr.heap.size < wE.heap.size := by rw [← hW]; simp
              have hsW := hon.size
              have yE0 := kcell hbE (ocell hon y0 hg9 (.inl (by omega)))
              have yE1 := kcell hbE (ocell hon y1 hg9 (.inl (by omega)))
              have yE2 := kcell hbE (ocell hon y2 hg9 (.inl (by omega)))
              have xE0 := kcell hbE (ocell hon x0 (by omega) (.inl (by omega)))
              have dE := kcell hbE (ocell hon dv2 (Nat.lt_of_lt_of_le hbb1 (by omega)) (.inl (by omega)))
              have hbwE : Below w.heap.size w wE := below_trans (hbw.trans (hon.below (by omega) (by omega))) hbE
              have HRE := Lib.hid (HRW.out.below hbE)
              have HBWE := Lib.hid hbwE
              have HNB := Lib.hid (show ∀ (i : Nat) (hv : Value), hs[i]? = some hv → ∀ b, hv.ownBlock = some b → b < wr.heap.size from fun i hv hi b hb => by
                have hjx : i < (fillTo N (nextI g a) (xn + s) (((arcsOf g (x : Int)).take j).flatMap (nextA g a x s))).length := by rw [← HRW.out.len]; exact (List.getElem?_eq_some_iff.1 hi).1
                exact ((HRW.out.row i hv _ hi (List.getElem?_eq_getElem hjx)).lt _ hb).2)
              have hfl := aft_lt HAO.out (bit s) vx yl
              have hfl4 := lt12 HAO.out hfl
              have s1 := shl_bit (s := s) (by omega)
              have s2 := shl_bit2 (s := s) (by omega)
              have s3 := shl_bit3 (s := s) (by omega)
              have HFL := Lib.hid hfl
              clear hW z0 z1 z2 z3 HRW hbwE hfl
              go_region_held3 (fun w' => w'.cell? ⟨w.heap.size + 1, 0, none⟩ = some (.int .i64 a.start) ∧ w'.cell? ⟨w.heap.size + 1, 1, none⟩ = some (.slice A3 a.accept.length c3) ∧ w'.cell? ⟨w.heap.size + 1, 2, none⟩ = some (.slice A4 a.accept.length c4) ∧ w'.cell? ⟨w.heap.size, 0, none⟩ = some (.slice (some ⟨b1, o1, none⟩) g.vals.length c1) ∧ w'.cell? ⟨b1, o1 + x, none⟩ = some (.int .i64 (vx : Int)) ∧ w'.cell? ⟨wr.heap.size, 2, none⟩ = some (.int .i64 (yl : Int)))
                (first | (exact ⟨yE0, yE1, yE2, xE0, dE, e2⟩) | (exact kB6 hbA (by assumption)) | (exact kB6 hbM (by assumption)))
                (first | (go_at_call 149; refine (after_any _ a (bit s) vx yl _ (AuV.keep (w' := wE.drew) HAV.out HBWE.out.drew) HAO.out (bit_lt hlt2) (by omega) (by omega)).mono ?_; rintro e wA ⟨rfl, hbA⟩) | (go_at_call 147; refine (members_any (aft a (bit s) vx yl) _ hfl4).mono ?_; rintro e wM ⟨vM, rfl, hoM, hbM⟩; obtain ⟨A7, c7, rfl, hl7, hm7, -⟩ := hoM.form cN_len))
              have hbX : Below wE.heap.size wE wM := below_trans (below_trans (Below.refl wE.heap.size wE).drew hbA) hbM
              have hM := hoM.form cN_len
              have hoI := hoM.sl cN_len
              rename_i hh
              have e3M := kcell hbX e3
              have hsM := hbX.size
              have hmA : wE.heap.size ≤ wA.heap.size := hbA.size
              have HRM := Lib.hid (HRE.out.below hbX)
              have HONM := Lib.hid (((hon.trans (Only.of_below hbE gb (gb + 1))).trans (Only.of_below hbX gb (gb + 1))))
              have HOI := Lib.hid (hoI.mono hmA (Nat.le_refl _))
              have hml7 := mem_len 12 (aft a (bit s) vx yl)
              have HNA := Lib.hid (show nextA g a x s ((yid, yinv), (yl : Int), (yt : Int)) = (mem 12 (aft a (bit s) vx yl)).map fun t => yt * a.accept.length + t by rw [nextA, HVA.out]; simp)
              have hytn : yt * a.accept.length + a.accept.length ≤ N := by rw [HN.out]; have := Nat.mul_le_mul_right a.accept.length (show yt + 1 ≤ g.vals.length by omega); rw [Nat.succ_mul] at this; exact this
              obtain ⟨yn, hyn⟩ : ∃ yn, yn = yt * a.accept.length := ⟨_, rfl⟩
              rw [← hyn] at hytn HNA
              have q3 : IntKind.i64.wrap ((yt : Int) * (a.accept.length : Int)) = (yn : Int) := by rw [IntWalk.i64_in _ (by rw [← Int.natCast_mul, ← hyn]; omega), hyn, Int.natCast_mul]
              have q3' : (yt : Int) * (a.accept.length : Int) = (yn : Int) := by rw [hyn, Int.natCast_mul]
              obtain ⟨ms, hms⟩ : ∃ ms, ms = mem 12 (aft a (bit s) vx yl) := ⟨_, rfl⟩
              have hmsn : ∀ t ∈ ms, t < a.accept.length := fun t ht => by rw [hms] at ht; exact bit_in HFL.out (mem_mem.1 ht).2
              rw [← hms] at HOI HNA hml7 hl7
              have HMS := Lib.hid hmsn
              obtain ⟨cur, hcur⟩ : ∃ cur, cur = ((arcsOf g (x : Int)).take j).flatMap (nextA g a x s) := ⟨_, rfl⟩
              have hcl : cur.length ≤ 288 := by
                have h1 : ∀ y, (nextA g a x s y).length ≤ 12 := fun y => by rw [nextA, List.length_map]; exact mem_len _ _
                have h2 := flat_len h1 ((arcsOf g (x : Int)).take j)
                rw [List.length_take] at h2
                rw [hcur]; omega
              rw [← hcur] at HRM
              have hix2 : ∀ hv, hs[xn + s]? = some hv → ∀ b, hv.ownBlock = some b → b < wr.heap.size ∨ wM.heap.size ≤ b := fun hv hi b hb => by
                have hr := HRE.out.row (xn + s) hv _ hi (fill_cur (cur := ((arcsOf g (x : Int)).take j).flatMap (nextA g a x s)) hix)
                exact .inl (HNB.out _ _ hi _ hb)
              have HIX := Lib.hid hix2
              have HCUR := Lib.hid hcur
              rw [← hms]
              have HMQ := Lib.hid hms
              have hgr := hon.size
              clear hbA hbM hoM hh hM hoI hbX hon hbE HRE HBWE yE0 yE1 yE2 xE0 dE e2 e3 s1 s2 s3 hyn hms hcur hix2 hfl4 hmsn
              go_wp2_with fail
              obtain ⟨wo, rfl⟩ : ∃ wo : World, wo = wr := ⟨_, rfl⟩
              go_loopw [55] (fun kk w' => ∃ (k : Nat) (hs : List Value), k ≤ ms.length ∧ kk = .int .i64 (k : Int) ∧ Rws w' w2.heap.size 22 3 cN 1 gb hs (fillTo N (nextI g a) (xn + s) (cur ++ (ms.take k).map (fun t => yn + t))) ∧ Only gb (gb + 1) w2 w' ∧ Only 0 wo.heap.size wM w' ∧
                  (∀ hv, hs[xn + s]? = some hv → ∀ b, hv.ownBlock = some b → b < wo.heap.size ∨ wM.heap.size ≤ b)) (fun kk _ => ms.length - (intOf kk).toNat)
              case atStart => exact ⟨0, _, Nat.zero_le _, rfl, by simpa using HRM.out, HONM.out, Only.refl _ _ _, HIX.out⟩
              case round =>
                clear HRM HONM HIX
                obtain ⟨k, hs, hk, rfl, hrw, hon, hon2, hix2⟩ := hrel
                have HRW := Lib.hid hrw
                have HIX := Lib.hid hix2
                clear hrw hix2
                by_cases hlt4 : k < ms.length
                · have hti : ms[k]? = some ms[k] := List.getElem?_eq_getElem hlt4
                  have htn := HMS.out _ (List.getElem_mem hlt4)
                  generalize ms[k] = t at hti htn
                  obtain ⟨b7, o7, rfl, hlo7, hb7, d7⟩ := (HOI.out.only hon2 (Nat.le_refl _) (.inr (Nat.le_of_lt hsE))).nat hti
                  have hb7w := Nat.lt_of_lt_of_le hb7 hon2.size
                  have f3 := ocell hon2 e3M (Nat.lt_of_lt_of_le hsE hsM) (.inr (Nat.le_refl _))
                  have hil : xn + s < hs.length := by rw [HRW.out.len, fill_len]; exact hix
                  have hhi : hs[xn + s]? = some hs[xn + s] := List.getElem?_eq_getElem hil
                  generalize hs[xn + s] = hv at hhi
                  have hcv := HRW.out.cell hhi
                  have hfv := HRW.out.frozen (xn + s)
                  have hro := HRW.out.row (xn + s) hv _ hhi (fill_cur hix)
                  have hgw2 := HRW.out.gLt.2
                  have hne1 : some gb ≠ hv.ownBlock := Ne.symm (HRW.out.far _ _ hhi)
                  have hne2 : some wo.heap.size ≠ hv.ownBlock := fun e9 => by
                    have := HIX.out hv hhi _ e9.symm
                    omega
                  have hneg : wo.heap.size ≠ gb := by omega
                  obtain ⟨row, hrow⟩ : ∃ row, row = cur ++ (ms.take k).map (fun t => yn + t) := ⟨_, rfl⟩
                  have hrl : row.length ≤ 300 := by rw [hrow, List.length_append, List.length_map, List.length_take]; omega
                  rw [← hrow] at hro
                  have HRO := Lib.hid hro
                  have HROW := Lib.hid hrow
                  have HTI := Lib.hid hti
                  have HHI := Lib.hid hhi
                  have HNE1 := Lib.hid hne1
                  have HNE2 := Lib.hid hne2
                  have q4 : IntKind.i64.wrap ((yn : Int) + (t : Int)) = (yn : Int) + (t : Int) := IntWalk.i64_in _ (by omega)
                  have hsw2 := hon.size
                  have q5 : IntKind.i64.wrap (xn : Int) = (xn : Int) := IntWalk.i64_in _ (by omega)
                  have q6 : IntKind.i64.wrap (yn : Int) = (yn : Int) := IntWalk.i64_in _ (by omega)
                  clear hro hrow hti hhi hne1 hne2
                  go_wp2_with fail
                  refine F_start 23 (fun w' => w'.cell? ⟨gb, xn + s, none⟩ = some hv ∧ w'.cell? ⟨wo.heap.size, 3, none⟩ = some (.int .i64 (yt : Int))) (by kernel_rfl) (by exact ⟨hcv, f3⟩) (fun hS inv => ?_)
                  refine F_take (i := 0) (v := ?_) rfl (by kernel_rfl) (by kernel_rfl) (by kernel_rfl) (fun _ _ _ h => h) inv (Or.inl ⟨by rfl, ?_⟩) (by assumption) (fun invn => ?_)
                  rotate_left
                  · (intro w hSw; (try dsimp only at hSw); go_simp; try with_reducible rfl)
                  try simp only [List.getElem_toArray, List.getElem_cons_zero, List.getElem_cons_succ, Act.put, List.setIfInBounds_toArray, List.set_cons_zero, List.set_cons_succ]
                  clear inv
                  have inv := invn
                  clear invn
                  refine F_take (i := 1) (v := ?_) rfl (by kernel_rfl) (by kernel_rfl) (by kernel_rfl) (fun _ _ _ h => h) inv (Or.inl ⟨by rfl, ?_⟩) (by assumption) (fun invn => ?_)
                  rotate_left
                  · (intro w hSw; (try dsimp only at hSw); go_simp; try with_reducible rfl)
                  try simp only [List.getElem_toArray, List.getElem_cons_zero, List.getElem_cons_succ, Act.put, List.setIfInBounds_toArray, List.set_cons_zero, List.set_cons_succ]
                  clear inv
                  have inv := invn
                  clear invn
                  refine F_take (i := 2) (v := ?_) rfl (by kernel_rfl) (by kernel_rfl) (by kernel_rfl) (fun _ _ _ h => h) inv (Or.inl ⟨by rfl, ?_⟩) (by assumption) (fun invn => ?_)
                  rotate_left
                  · (intro w hSw; (try dsimp only at hSw); go_simp; try with_reducible rfl)
                  try simp only [List.getElem_toArray, List.getElem_cons_zero, List.getElem_cons_succ, Act.put, List.setIfInBounds_toArray, List.set_cons_zero, List.set_cons_succ]
                  clear inv
                  have inv := invn
                  clear invn
                  refine F_take (i := 3) (v := ?_) rfl (by kernel_rfl) (by kernel_rfl) (by kernel_rfl) (fun _ _ _ h => h) inv (Or.inl ⟨by rfl, ?_⟩) (by assumption) (fun invn => ?_)
                  rotate_left
                  · (intro w hSw; (try dsimp only at hSw); go_simp; try with_reducible rfl)
                  try simp only [List.getElem_toArray, List.getElem_cons_zero, List.getElem_cons_succ, Act.put, List.setIfInBounds_toArray, List.set_cons_zero, List.set_cons_succ]
                  clear inv
                  have inv := invn
                  clear invn
                  refine F_take (i := 4) (v := ?_) rfl (by kernel_rfl) (by kernel_rfl) (by kernel_rfl) (fun _ _ _ h => h) inv (Or.inl ⟨by rfl, ?_⟩) (by assumption) (fun invn => ?_)
                  rotate_left
                  · (intro w hSw; (try dsimp only at hSw); go_simp; try with_reducible rfl)
                  try simp only [List.getElem_toArray, List.getElem_cons_zero, List.getElem_cons_succ, Act.put, List.setIfInBounds_toArray, List.set_cons_zero, List.set_cons_succ]
                  clear inv
                  have inv := invn
                  clear invn
                  refine F_take (i := 5) (v := ?_) rfl (by kernel_rfl) (by kernel_rfl) (by kernel_rfl) (fun _ _ _ h => h) inv (Or.inl ⟨by rfl, ?_⟩) (by assumption) (fun invn => ?_)
                  rotate_left
                  · (intro w hSw; (try dsimp only at hSw); go_simp; try with_reducible rfl)
                  try simp only [List.getElem_toArray, List.getElem_cons_zero, List.getElem_cons_succ, Act.put, List.setIfInBounds_toArray, List.set_cons_zero, List.set_cons_succ]
                  clear inv
                  have inv := invn
                  clear invn
                  refine F_take (i := 6) (v := ?_) rfl (by kernel_rfl) (by kernel_rfl) (by kernel_rfl) (fun _ _ _ h => h) inv (Or.inl ⟨by rfl, ?_⟩) (by assumption) (fun invn => ?_)
                  rotate_left
                  · (intro w hSw; (try dsimp only at hSw); go_simp; try with_reducible rfl)
                  try simp only [List.getElem_toArray, List.getElem_cons_zero, List.getElem_cons_succ, Act.put, List.setIfInBounds_toArray, List.set_cons_zero, List.set_cons_succ]
                  clear inv
                  have inv := invn
                  clear invn
                  refine F_take (i := 7) (v := ?_) rfl (by kernel_rfl) (by kernel_rfl) (by kernel_rfl) (fun _ _ _ h => h) inv (Or.inl ⟨by rfl, ?_⟩) (by assumption) (fun invn => ?_)
                  rotate_left
                  · (intro w hSw; (try dsimp only at hSw); go_simp; try with_reducible rfl)
                  try simp only [List.getElem_toArray, List.getElem_cons_zero, List.getElem_cons_succ, Act.put, List.setIfInBounds_toArray, List.set_cons_zero, List.set_cons_succ]
                  clear inv
                  have inv := invn
                  clear invn
                  refine F_take (i := 8) (v := ?_) rfl (by kernel_rfl) (by kernel_rfl) (by kernel_rfl) (fun _ _ _ h => h) inv (Or.inl ⟨by rfl, ?_⟩) (by assumption) (fun invn => ?_)
                  rotate_left
                  · (intro w hSw; (try dsimp only at hSw); go_simp; try with_reducible rfl)
                  try simp only [List.getElem_toArray, List.getElem_cons_zero, List.getElem_cons_succ, Act.put, List.setIfInBounds_toArray, List.set_cons_zero, List.set_cons_succ]
                  clear inv
                  have inv := invn
                  clear invn
                  refine F_take (i := 9) (v := ?_) rfl (by kernel_rfl) (by kernel_rfl) (by kernel_rfl) (fun _ _ _ h => h) inv (Or.inl ⟨by rfl, ?_⟩) (by assumption) (fun invn => ?_)
                  rotate_left
                  · (intro w hSw; (try dsimp only at hSw); go_simp; try with_reducible rfl)
                  try simp only [List.getElem_toArray, List.getElem_cons_zero, List.getElem_cons_succ, Act.put, List.setIfInBounds_toArray, List.set_cons_zero, List.set_cons_succ]
                  clear inv
                  have inv := invn
                  clear invn
                  refine F_take (i := 10) (v := ?_) rfl (by kernel_rfl) (by kernel_rfl) (by kernel_rfl) (fun _ _ _ h => h) inv (Or.inl ⟨by rfl, ?_⟩) (by assumption) (fun invn => ?_)
                  rotate_left
                  · (intro w hSw; (try dsimp only at hSw); go_simp; try with_reducible rfl)
                  try simp only [List.getElem_toArray, List.getElem_cons_zero, List.getElem_cons_succ, Act.put, List.setIfInBounds_toArray, List.set_cons_zero, List.set_cons_succ]
                  clear inv
                  have inv := invn
                  clear invn
                  refine F_take (i := 11) (v := ?_) rfl (by kernel_rfl) (by kernel_rfl) (by kernel_rfl) (fun _ _ _ h => h) inv (Or.inl ⟨by rfl, ?_⟩) (by assumption) (fun invn => ?_)
                  rotate_left
                  · (intro w hSw; (try dsimp only at hSw); go_simp; try with_reducible rfl)
                  try simp only [List.getElem_toArray, List.getElem_cons_zero, List.getElem_cons_succ, Act.put, List.setIfInBounds_toArray, List.set_cons_zero, List.set_cons_succ]
                  clear inv
                  have inv := invn
                  clear invn
                  refine F_take (i := 12) (v := ?_) rfl (by kernel_rfl) (by kernel_rfl) (by kernel_rfl) (fun _ _ _ h => h) inv (Or.inl ⟨by rfl, ?_⟩) (by assumption) (fun invn => ?_)
                  rotate_left
                  · (intro w hSw; (try dsimp only at hSw); go_simp; try with_reducible rfl)
                  try simp only [List.getElem_toArray, List.getElem_cons_zero, List.getElem_cons_succ, Act.put, List.setIfInBounds_toArray, List.set_cons_zero, List.set_cons_succ]
                  clear inv
                  have inv := invn
                  clear invn
                  refine F_take (i := 13) (v := ?_) rfl (by kernel_rfl) (by kernel_rfl) (by kernel_rfl) (fun _ _ _ h => h) inv (Or.inl ⟨by rfl, ?_⟩) (by assumption) (fun invn => ?_)
                  rotate_left
                  · (intro w hSw; (try dsimp only at hSw); go_simp; try with_reducible rfl)
                  try simp only [List.getElem_toArray, List.getElem_cons_zero, List.getElem_cons_succ, Act.put, List.setIfInBounds_toArray, List.set_cons_zero, List.set_cons_succ]
                  clear inv
                  have inv := invn
                  clear invn
                  refine F_take (i := 14) (v := ?_) rfl (by kernel_rfl) (by kernel_rfl) (by kernel_rfl) (fun _ _ _ h => h) inv (Or.inl ⟨by rfl, ?_⟩) (by assumption) (fun invn => ?_)
                  rotate_left
                  · (intro w hSw; (try dsimp only at hSw); go_simp; try with_reducible rfl)
                  try simp only [List.getElem_toArray, List.getElem_cons_zero, List.getElem_cons_succ, Act.put, List.setIfInBounds_toArray, List.set_cons_zero, List.set_cons_succ]
                  clear inv
                  have inv := invn
                  clear invn
                  refine F_take (i := 15) (v := ?_) rfl (by kernel_rfl) (by kernel_rfl) (by kernel_rfl) (fun _ _ _ h => h) inv (Or.inl ⟨by rfl, ?_⟩) (by assumption) (fun invn => ?_)
                  rotate_left
                  · (intro w hSw; (try dsimp only at hSw); go_simp; try with_reducible rfl)
                  try simp only [List.getElem_toArray, List.getElem_cons_zero, List.getElem_cons_succ, Act.put, List.setIfInBounds_toArray, List.set_cons_zero, List.set_cons_succ]
                  clear inv
                  have inv := invn
                  clear invn
                  refine F_take (i := 16) (v := ?_) rfl (by kernel_rfl) (by kernel_rfl) (by kernel_rfl) (fun _ _ _ h => h) inv (Or.inl ⟨by rfl, ?_⟩) (by assumption) (fun invn => ?_)
                  rotate_left
                  · (intro w hSw; (try dsimp only at hSw); go_simp; try with_reducible rfl)
                  try simp only [List.getElem_toArray, List.getElem_cons_zero, List.getElem_cons_succ, Act.put, List.setIfInBounds_toArray, List.set_cons_zero, List.set_cons_succ]
                  clear inv
                  have inv := invn
                  clear invn
                  refine F_take (i := 17) (v := ?_) rfl (by kernel_rfl) (by kernel_rfl) (by kernel_rfl) (fun _ _ _ h => h) inv (Or.inl ⟨by rfl, ?_⟩) (by assumption) (fun invn => ?_)
                  rotate_left
                  · (intro w hSw; (try dsimp only at hSw); go_simp; try with_reducible rfl)
                  try simp only [List.getElem_toArray, List.getElem_cons_zero, List.getElem_cons_succ, Act.put, List.setIfInBounds_toArray, List.set_cons_zero, List.set_cons_succ]
                  clear inv
                  have inv := invn
                  clear invn
                  refine F_take (i := 18) (v := ?_) rfl (by kernel_rfl) (by kernel_rfl) (by kernel_rfl) (fun _ _ _ h => h) inv (Or.inl ⟨by rfl, ?_⟩) (by assumption) (fun invn => ?_)
                  rotate_left
                  · (intro w hSw; (try dsimp only at hSw); go_simp; try with_reducible rfl)
                  try simp only [List.getElem_toArray, List.getElem_cons_zero, List.getElem_cons_succ, Act.put, List.setIfInBounds_toArray, List.set_cons_zero, List.set_cons_succ]
                  clear inv
                  have inv := invn
                  clear invn
                  refine F_take (i := 19) (v := ?_) rfl (by kernel_rfl) (by kernel_rfl) (by kernel_rfl) (fun _ _ _ h => h) inv (Or.inl ⟨by rfl, ?_⟩) (by assumption) (fun invn => ?_)
                  rotate_left
                  · (intro w hSw; (try dsimp only at hSw); go_simp; try with_reducible rfl)
                  try simp only [List.getElem_toArray, List.getElem_cons_zero, List.getElem_cons_succ, Act.put, List.setIfInBounds_toArray, List.set_cons_zero, List.set_cons_succ]
                  clear inv
                  have inv := invn
                  clear invn
                  refine F_one (i := 20) (by kernel_rfl) rfl rfl (by omega) inv (fun K hK => ?_)
                  try simp only [List.getElem_toArray, List.getElem_cons_zero, List.getElem_cons_succ]
                  go_simp
                  refine hK.out _ _ (kA2 _ hS) (fun hSn invn => ?_)
                  try simp only [List.getElem_toArray, List.getElem_cons_zero, List.getElem_cons_succ, Act.put, List.setIfInBounds_toArray, List.set_cons_zero, List.set_cons_succ]
                  clear hK K inv hS
                  have inv := invn
                  have hS := hSn
                  clear invn hSn
                  refine F_one (i := 21) (by kernel_rfl) rfl rfl (by omega) inv (fun K hK => ?_)
                  try simp only [List.getElem_toArray, List.getElem_cons_zero, List.getElem_cons_succ]
                  refine op_append1 cN elInt rfl _ _ (by rfl) w2.heap.size hv row (yn + t) 1 _ (by rfl) (HRO.out.alloc _) (by first | rfl | simp) (heap_alloc_new _ _) rfl (cN_one _) (by omega) (by omega) (by simp; omega) ?_
                  intro g2 cp2 w3 hown3 hgr3 hat3 hlt3
                  have HO3 := Lib.hid hown3
                  have HG3 := Lib.hid hgr3
                  have HA3 := Lib.hid hat3
                  clear hown3 hgr3 hat3
                  refine hK.out _ _ (kG2 HG3.out HNE1.out HNE2.out hS) (fun hSn invn => ?_)
                  try simp only [List.getElem_toArray, List.getElem_cons_zero, List.getElem_cons_succ, Act.put, List.setIfInBounds_toArray, List.set_cons_zero, List.set_cons_succ]
                  clear hK K inv hS
                  have inv := invn
                  have hS := hSn
                  clear invn hSn
                  refine F_take (i := 22) (v := ?_) rfl (by kernel_rfl) (by kernel_rfl) (by kernel_rfl) (fun _ _ _ h => h) inv (Or.inl ⟨by rfl, ?_⟩) (by assumption) (fun invn => ?_)
                  rotate_left
                  · (intro w hSw; (try dsimp only at hSw); go_simp; try with_reducible rfl)
                  try simp only [List.getElem_toArray, List.getElem_cons_zero, List.getElem_cons_succ, Act.put, List.setIfInBounds_toArray, List.set_cons_zero, List.set_cons_succ]
                  clear inv
                  have inv := invn
                  clear invn
                  have hcz := HG3.out.cell (kcell ((Below.refl _ _).alloc (Nat.le_refl _) _) hcv) HNE1.out
                  have hfz := kfg HG3.out (p := ⟨gb, xn + s, none⟩) HNE1.out (kcell ((Below.refl _ _).alloc (Nat.le_refl _) _) hcv) (kfb ((Below.refl _ _).alloc (Nat.le_refl _) _) hcv hfv)
                  refine F_last (i := 23) (by kernel_rfl) rfl rfl (by omega) (by kernel_rfl) (fun K hK => ?_)
                  go_simp
                  refine hK _ _ ?_
                  clear hK K inv hS
                  have hrF := Rws.push (HRW.out.below (w' := wr.drew.alloc (.cells #[.int .i64 ((yn : Int) + (t : Int))] 3)) ((Below.refl _ _).drew.alloc (Nat.le_refl _) _)) HHI.out (by rw [← HROW.out]; exact fill_cur hix) HO3.out HG3.out rfl HA3.out
                  rw [fill_push _ hix] at hrF
                  have hpF : row ++ [yn + t] = cur ++ (ms.take (k + 1)).map (fun t => yn + t) := by rw [HROW.out, take_snoc HTI.out, List.map_append, List.append_assoc]; rfl
                  rw [hpF] at hrF
                  have hon3 := Only.pushed (lo := gb) (hi := gb + 1) (u := .slice (some ⟨g2, 0, none⟩) (row.length + 1) cp2) (i := xn + s) (g := gb) ((hon.drew).alloc (.cells #[.int .i64 ((yn : Int) + (t : Int))] 3)) HG3.out (fun b hb => .inr (HRO.out.lt b hb).1) (.inl ⟨Nat.le_refl _, Nat.lt_succ_self _⟩)
                  have hon4 := Only.pushed (lo := 0) (hi := wo.heap.size) (u := .slice (some ⟨g2, 0, none⟩) (row.length + 1) cp2) (i := xn + s) (g := gb) ((hon2.drew).alloc (.cells #[.int .i64 ((yn : Int) + (t : Int))] 3)) HG3.out (fun b hb => (HIX.out hv HHI.out b hb).imp (fun h => ⟨Nat.zero_le _, h⟩) id) (.inl ⟨Nat.zero_le _, by omega⟩)
                  have hixF : ∀ hv', (hs.set (xn + s) (.slice (some ⟨g2, 0, none⟩) (row.length + 1) cp2))[xn + s]? = some hv' → ∀ b, hv'.ownBlock = some b → b < wo.heap.size ∨ wM.heap.size ≤ b := fun hv' hi b hb => by
                    rw [List.getElem?_set, if_pos rfl, if_pos hil] at hi
                    injection hi with hi
                    subst hi
                    injection hb with hb
                    subst hb
                    rcases HA3.out with h9 | h9
                    · exact HIX.out hv HHI.out _ h9
                    · have := hon2.size
                      simp at h9
                      exact .inr (show wM.heap.size ≤ g2 by omega)
                  have HRF := Lib.hid hrF
                  have HO5 := Lib.hid hon3
                  have HO6 := Lib.hid hon4
                  have HIXF := Lib.hid hixF
                  clear hrF hpF hon3 hon4 hixF hcz hfz
                  go_wp2_with fail
                  go_roundw
                  case rel => exact ⟨k + 1, _, by omega, by go_num, HRF.out, HO5.out, HO6.out, HIXF.out⟩
                  case measure => simp [intOf]; omega
                · obtain rfl : k = ms.length := by omega
                  have hall : cur ++ (ms.take ms.length).map (fun t => yn + t) = ((arcsOf g (x : Int)).take (j + 1)).flatMap (nextA g a x s) := by rw [List.take_length, flat_take HYJ.out, ← HCUR.out, HNA.out]
                  rw [hall] at HRW
                  clear hall
                  go_wp2_with fail
                  go_roundw
                  case rel => exact ⟨j + 1, _, by omega, by go_num, HRW.out, hon⟩
                  case measure => simp [intOf]; omega
            · obtain rfl : j = (arcsOf g (x : Int)).length := by omega
              have hall : ((arcsOf g (x : Int)).take (arcsOf g (x : Int)).length).flatMap (nextA g a x s) = nextI g a (xn + s) := by rw [List.take_length, HXN.out, nextI_at hlt2]; rfl
              rw [hall, fill_next] at HRW
              clear hall
              go_wp2_with fail
              go_roundw
              case rel => exact ⟨s + 1, _, by omega, by go_num, HRW.out, hon⟩
              case measure => simp [intOf]; omega
        · obtain rfl : s = a.accept.length := by omega
          have hall : xn + a.accept.length = (x + 1) * a.accept.length := by rw [HXN.out, Nat.succ_mul]
          rw [hall] at HRW
          clear hall
          go_wp2_with fail
          go_roundw
          case rel => exact ⟨x + 1, _, by omega, by go_num, HRW.out, hon⟩
          case measure => simp [intOf]; omega
    · obtain rfl : x = g.vals.length := by omega
      have hs1 := HRW.out
      rw [← HN.out, fill_all] at hs1
      have hln : hs.length = N := by rw [hs1.len]; simp
      have hs2 := hs1.sse cN_len (lo := w.heap.size) (by omega) (by omega)
      rw [hln] at hs2
      have HS2 := Lib.hid hs2
      have HBF := Lib.hid (hbw.trans (hon.below (B := w.heap.size) (by omega) (by omega)))
      clear hs1 hs2 hln
      go_wp2_with fail
      go_ret
      exact ⟨_, rfl, by rw [HR.out, ← HN.out]; exact HS2.out, HBF.out⟩
end Go.Proofs.Ytbkaoghlkdbofaa

/- The program's LetterRelation. -/
namespace Go.Proofs.Ytbkaoghlkdbofaa
set_option linter.unusedVariables false
set_option linter.unusedSimpArgs false
open Go.ChangeShapes Go.WideShapes Go.ChangeAt Go.RowKit
attribute [local go_sem] ext_cell ext_frozen ext_lt ext_lt1 ext_lt2 ext_lt3 ltn2 ltn3 ltn13 lts1 lts2 lts3

def rowTo (g : Gr) (lt : Int) (x j : Nat) : List Pr := ((arcsOf g (x : Int)).take j).flatMap (arcP lt x)
theorem rowTo_yes {g : Gr} {lt : Int} {x j : Nat} {y : Arc} (h : (arcsOf g (x : Int))[j]? = some y) (e : y.2.1 = lt) : rowTo g lt x (j + 1) = rowTo g lt x j ++ [((x : Int), y.2.2)] := by rw [rowTo, flat_take h, arcP, if_pos e]; rfl
theorem rowTo_no {g : Gr} {lt : Int} {x j : Nat} {y : Arc} (h : (arcsOf g (x : Int))[j]? = some y) (e : ¬ y.2.1 = lt) : rowTo g lt x (j + 1) = rowTo g lt x j := by rw [rowTo, flat_take h, arcP, if_neg e, List.append_nil]; rfl
theorem rowTo_len {g : Gr} (hg : GrOk g) (lt : Int) (x j : Nat) : (rowTo g lt x j).length ≤ 24 := by
  have h1 := flat_le (arcP_len lt x) ((arcsOf g (x : Int)).take j)
  have h2 := arcs_len hg (x : Int)
  rw [List.length_take] at h1
  rw [rowTo]
  omega
theorem implLet_next (g : Gr) (lt : Int) (x : Nat) : implLet g lt (x + 1) = implLet g lt x ++ rowTo g lt x (arcsOf g (x : Int)).length ++ selfE g lt x := by
  rw [implLet_succ, rowP, rowTo, List.take_length, List.append_assoc]

set_option maxHeartbeats 8000000 in
set_option maxRecDepth 100000 in
theorem implLetter (v : Value) (g : Gr) (lt : Int) (w : World) (hv : GrV 0 w.heap.size w v g) :
    Calls Try.prog 18 #[v, .int .i64 lt] w fun e w' => ∃ v', e = .returned v' ∧ Own w.heap.size w'.heap.size w' 91 cPr 2 v' (letterL g lt) ∧ Below w.heap.size w w' := by
  have hvo := hv
  obtain ⟨A1, n1, c1, A2, n2, c2, rfl⟩ := hv.shape
  have hb0 : Below w.heap.size w (w.alloc (.cells #[.slice A1 n1 c1, .slice A2 n2 c2] 31)) := (Below.refl _ _).alloc (Nat.le_refl _) _
  have hvg := implValidGraph _ g _ (hvo.keep hb0)
  have HGV := Lib.hid hvo
  have HVG := Lib.hid hvg
  obtain ⟨R, hR⟩ : ∃ R, R = letterL g lt := ⟨_, rfl⟩
  rw [← hR]
  clear hv hvo hvg
  cases hgk : grOk g with
  | false =>
    have HE := Lib.hid (show R = [] by rw [hR]; simp [letterL, hgk])
    rw [hgk] at HVG
    clear hgk hR
    go_enter Try.func18, Try.ntmps18
    go_wp2_with fail
    refine HVG.out.mono ?_
    rintro e w1 ⟨rfl, hb1⟩
    have hb2 := below_trans hb0 hb1
    go_wp2_with fail
    go_ret
    exact ⟨_, rfl, by rw [HE.out]; exact Own.nil _ _ _ _ _ _, hb2⟩
  | true =>
    have hgo := grOk_iff.1 hgk
    rw [hgk] at HVG
    cases hlt : wi lt 0 8 with
    | false =>
      have HE := Lib.hid (show R = [] by rw [hR, letterL, hgk, letter_none hgo hlt]; rfl)
      have HIL := Lib.hid (fun W => isLetter_any lt W)
      rw [hlt] at HIL
      clear hgk hR hgo hlt
      go_enter Try.func18, Try.ntmps18
      go_wp2_with fail
      refine HVG.out.mono ?_
      rintro e w1 ⟨rfl, hb1⟩
      have hb2 := below_trans hb0 hb1
      go_wp2_with fail
      refine (HIL.out _).mono ?_
      rintro e w1 ⟨rfl, rfl⟩
      go_wp2_with fail
      go_ret
      exact ⟨_, rfl, by rw [HE.out]; exact Own.nil _ _ _ _ _ _, hb2⟩
    | true =>
      have HR := Lib.hid (show R = psetL (implLet g lt g.vals.length) by rw [hR, letterL, hgk, letter_impl hgo]; rfl)
      have HIL := Lib.hid (fun W => isLetter_any lt W)
      rw [hlt] at HIL
      have HGO := Lib.hid hgo
      have hn5 := hgo.n5
      clear hgk hR hgo hlt
      go_enter Try.func18, Try.ntmps18
      go_wp2_with fail
      refine HVG.out.mono ?_
      rintro e w1 ⟨rfl, hb1⟩
      have hb2 := below_trans hb0 hb1
      have b1 := (Blk.new w 31 #[.slice A1 n1 c1, .slice A2 n2 c2] w.heap.size rfl).keep hb1
      have x0 : w1.cell? ⟨w.heap.size, 0, none⟩ = some (.slice A1 n1 c1) := b1.cell 0
      have x1 : w1.cell? ⟨w.heap.size, 1, none⟩ = some (.slice A2 n2 c2) := b1.cell 1
      have l1 := b1.lt
      clear b1 hb1 hb0 HVG
      go_wp2_with fail
      refine (HIL.out _).mono ?_
      rintro e w1 ⟨rfl, rfl⟩
      obtain ⟨gO, hgO⟩ : ∃ gO, gO = w1.heap.size := ⟨_, rfl⟩
      obtain ⟨W0, hW0⟩ : ∃ W0, W0 = w1.alloc (.cells #[] 91) := ⟨_, rfl⟩
      have hbn : Below w1.heap.size w1 W0 := by rw [hW0]; exact (Below.refl _ _).alloc (Nat.le_refl _) _
      have hrow0 : W0.ownsRow gO 91 2 (.slice (some ⟨gO, 0, none⟩) 0 0) 0 [] := by
        rw [hW0, hgO]
        exact World.ownsRow_lit w1 #[] 0 (Nat.le_refl _) (by decide) rfl
      have hgs : gO < W0.heap.size := by rw [hW0, hgO]; simp
      have hbW := below_trans hb2 hbn
      have x0 := kcell hbn x0
      have x1 := kcell hbn x1
      have lW : w.heap.size < W0.heap.size := by omega
      have harc := arcs_any _ g W0 (HGV.out.keep hbW) HGO.out
      have HARC := Lib.hid harc
      have HROW0 := Lib.hid hrow0
      have HBW := Lib.hid hbW
      have hlg : w.heap.size < gO := by omega
      clear hrow0 harc hb2 hbn hbW HIL
      go_wp2_with fail
      rw [← hW0, ← hgO]
      clear hW0 hgO
      refine HARC.out.mono ?_
      rintro e w2 ⟨vA, rfl, hsA, hbA⟩
      have HB2 := Lib.hid (below_trans HBW.out hbA)
      have HROW2 := Lib.hid (ownsRow_below HROW0.out hbA (Nat.le_refl _))
      have hs2 := hbA.size
      have x0 := kcell hbA x0
      have x1 := kcell hbA x1
      obtain ⟨A5, c5, hv5, hl5, hm5⟩ := hsA.shape
      have hlen5 : ((List.range g.vals.length).map fun (x : Nat) => arcsOf g (x : Int)).length = g.vals.length := by simp
      rw [hlen5] at hv5 hl5
      subst hv5
      have HSA := Lib.hid hsA
      clear hsA hbA HARC HROW0 hlen5 HBW
      go_wp2_with fail
      go_loopw [5, 22] (fun oo ii wr => ∃ i : Nat, i ≤ g.vals.length ∧ ii = .int .i64 (i : Int) ∧ wr.ownsRow gO 91 2 oo (implLet g lt i).length ((implLet g lt i).flatMap cPr) ∧ Only gO (gO + 1) w2 wr ∧ (∀ b, oo.ownBlock = some b → b = gO ∨ w2.heap.size ≤ b)) (fun _ ii _ => g.vals.length - (intOf ii).toNat)
      case atStart => exact ⟨0, Nat.zero_le _, rfl, HROW2.out, Only.refl _ _ _, fun b hb => by cases hb; exact .inl rfl⟩
      case round =>
        clear HROW2
        obtain ⟨i, hi, rfl, hrow, hon, hob⟩ := hrel
        have HROW := Lib.hid hrow
        have HON := Lib.hid hon
        have HOB := Lib.hid hob
        have hsz := hon.size
        have HIL := Lib.hid (implLet_len HGO.out lt i)
        have hil := implLet_len HGO.out lt i
        clear hrow hon hob
        obtain ⟨wo, rfl⟩ : ∃ wo : World, wo = wr := ⟨_, rfl⟩
        by_cases hlt : i < g.vals.length
        · obtain ⟨b5, o5, A7, c7, rfl, hlo5, hb5, d5, hl7, hm7, hI7, -⟩ := HSA.out.row (Nat.le_refl _) (i := i) (xs := arcsOf g (i : Int)) (by simp [hlt])
          have d5 := ocellI HON.out d5 hb5 (.inr (by omega))
          have HI7 := Lib.hid hI7
          have hb5w : b5 < wo.heap.size := by omega
          have hii : (i : Int) < (g.vals.length : Int) := by omega
          have hal := arcs_len HGO.out (i : Int)
          have hxi : g.vals[i]? = some g.vals[i] := List.getElem?_eq_getElem hlt
          have hgd : g.vals.getD i 0 = g.vals[i] := by simp [List.getD, hlt]
          generalize g.vals[i] = av at hxi hgd
          have HXI := Lib.hid hxi
          have HNX := Lib.hid (show implLet g lt (i + 1) = implLet g lt i ++ rowTo g lt i (arcsOf g (i : Int)).length ++ (if lt = 6 + av then [((i : Int), (i : Int))] else []) by rw [implLet_next, selfE, hgd])
          have HRL := Lib.hid (fun j => rowTo_len HGO.out lt i j)
          have hrl0 : rowTo g lt i 0 = [] := rfl
          have HR0 := Lib.hid hrl0
          have hil2 : (implLet g lt i).length ≤ 125 := by omega
          clear hI7 hrl0 hil hxi hgd
          generalize implLet g lt i = C at *
          go_wp2_with fail
          go_loopw [5, 29] (fun oo jj wr => ∃ j : Nat, j ≤ (arcsOf g (i : Int)).length ∧ jj = .int .i64 (j : Int) ∧ wr.ownsRow gO 91 2 oo (C ++ rowTo g lt i j).length ((C ++ rowTo g lt i j).flatMap cPr) ∧
            Only gO (gO + 1) w2 wr ∧ (∀ b, oo.ownBlock = some b → (b = gO ∨ w2.heap.size ≤ b))) (fun _ jj _ => (arcsOf g (i : Int)).length - (intOf jj).toNat)
          case atStart => exact ⟨0, Nat.zero_le _, rfl, by rw [HR0.out, List.append_nil]; exact HROW.out, HON.out, HOB.out⟩
          case round =>
            clear HROW HON HOB d5 hb5w hsz
            obtain ⟨j, hj, rfl, hrow2, hon2, hob2⟩ := hrel
            have HROW2 := Lib.hid hrow2
            have HON2 := Lib.hid hon2
            have HOB2 := Lib.hid hob2
            have hsz2 := hon2.size
            have hrl := HRL.out j
            have hll : (C ++ rowTo g lt i j).length ≤ 1000 := by rw [List.length_append]; omega
            clear hrow2 hon2 hob2
            by_cases hlj : j < (arcsOf g (i : Int)).length
            · have hyj : (arcsOf g (i : Int))[j]? = some (arcsOf g (i : Int))[j] := List.getElem?_eq_getElem hlj
              have HRY := Lib.hid (fun e => rowTo_yes (lt := lt) hyj e)
              have HRN := Lib.hid (fun e => rowTo_no (lt := lt) hyj e)
              generalize (arcsOf g (i : Int))[j] = y at hyj HRY HRN
              obtain ⟨b7, o7, rfl, hlo7, hb7, z0, z1, z2, z3⟩ := HI7.out.arc hyj
              have z0 := ocellI HON2.out z0 hb7 (.inr (by omega))
              have z1 := ocellI HON2.out z1 hb7 (.inr (by omega))
              have z2 := ocellI HON2.out z2 hb7 (.inr (by omega))
              have z3 := ocellI HON2.out z3 hb7 (.inr (by omega))
              have hb7w : b7 < wr.heap.size := by omega
              obtain ⟨⟨sid, sinv⟩, l, t⟩ := y
              simp only at z0 z1 z2 z3 HRY HRN
              have hjj : (j : Int) < ((arcsOf g (i : Int)).length : Int) := by omega
              clear hyj
              have HRA := Lib.hid (HROW2.out.alloc (.cells #[.int .i64 sid, .bool sinv, .int .i64 l, .int .i64 t] 103))
              have HRA2 := Lib.hid (HRA.out.alloc (.cells #[.int .i64 (i : Int), .int .i64 t] 91))
              have HOA2 := Lib.hid (HON2.out.alloc (.cells #[.int .i64 sid, .bool sinv, .int .i64 l, .int .i64 t] 103))
              by_cases hxy : l = lt
              · have HSN := Lib.hid (show C ++ rowTo g lt i (j + 1) = (C ++ rowTo g lt i j) ++ [((i : Int), t)] by rw [HRY.out hxy, List.append_assoc])
                generalize C ++ rowTo g lt i j = L at *
                subst hxy
                go_wp2_with (at_builtin; (refine wpList_append1 cPr elPair rfl _ _ rfl gO _ L ((i : Int), t) _ 1 (wr.heap.size + 1) (by rfl) HRA.out (by rfl) (by simp) rfl rfl (cPr_one _) (by omega) (by omega) (by simp; omega) ?_); intro v' w4 hrow' hb4 hat4 hgr4)
                go_roundw
                case rel =>
                  refine ⟨j + 1, by omega, by go_num, by rw [HSN.out]; exact hrow', onlyGrown (HOA2.out.alloc _) hgr4 (fun b hb => by have := HOB2.out b hb; omega), fun b hb => ?_⟩
                  rcases hat4 with h1 | ⟨g1, h1, h2⟩
                  · exact HOB2.out b (by rw [← h1]; exact hb)
                  · rw [h1] at hb
                    injection hb with hb
                    simp at h2
                    exact .inr (by omega)
                case measure => simp [intOf]; omega
              · have hxf : (l == lt) = false := by simpa using hxy
                have HSN := Lib.hid (show C ++ rowTo g lt i (j + 1) = C ++ rowTo g lt i j by rw [HRN.out hxy])
                generalize C ++ rowTo g lt i j = L at *
                go_wp2_with fail
                go_roundw
                case rel => exact ⟨j + 1, by omega, by go_num, by rw [HSN.out]; exact HRA.out, HOA2.out, HOB2.out⟩
                case measure => simp [intOf]; omega
            · obtain rfl : j = (arcsOf g (i : Int)).length := by omega
              have x0 := ocellI HON2.out x0 (by omega) (.inl (by omega))
              have x1 := ocellI HON2.out x1 (by omega) (.inl (by omega))
              have hbw := HB2.out.trans (HON2.out.below (B := w.heap.size) (by omega) HB2.out.size)
              have hh := implHolds _ g wr (HGV.out.keep hbw) HGO.out i av HXI.out lt
              have hlw : w.heap.size < wr.heap.size := by omega
              clear hrl HRL HR0 HI7 hbw
              generalize C ++ rowTo g lt i (arcsOf g (i : Int)).length = L at *
              by_cases he : lt = 6 + av
              · rw [show decide (lt = 6 + av) = true by simp [he]] at hh
                rw [if_pos he] at HNX
                have HH := Lib.hid hh
                clear hh he
                go_wp2_with fail
                refine HH.out.mono ?_
                rintro e w4 ⟨rfl, hb4⟩
                have HR4 := Lib.hid (ownsRow_below HROW2.out hb4 (Nat.le_refl _))
                have HO4 := Lib.hid (HON2.out.trans (Only.of_below hb4 gO (gO + 1)))
                have hs4 := hb4.size
                clear hb4
                go_wp2_with (at_builtin; (refine wpList_append1 cPr elPair rfl _ _ rfl gO _ L ((i : Int), (i : Int)) _ 1 w4.heap.size (by rfl) HR4.out (by rfl) rfl rfl rfl (cPr_one _) (by omega) (by omega) (by omega) ?_); intro v' w5 hrow' hb5 hat4 hgr4)
                go_roundw
                case rel =>
                  refine ⟨i + 1, by omega, by go_num, by rw [HNX.out]; exact hrow', onlyGrown (HO4.out.alloc _) hgr4 (fun b hb => by have := HOB2.out b hb; omega), fun b hb => ?_⟩
                  rcases hat4 with h1 | ⟨g1, h1, h2⟩
                  · exact HOB2.out b (by rw [← h1]; exact hb)
                  · rw [h1] at hb
                    injection hb with hb
                    exact .inr (by omega)
                case measure => simp [intOf]; omega
              · rw [show decide (lt = 6 + av) = false by simp [he]] at hh
                rw [if_neg he, List.append_nil] at HNX
                have HH := Lib.hid hh
                clear hh he
                go_wp2_with fail
                refine HH.out.mono ?_
                rintro e w4 ⟨rfl, hb4⟩
                have HR4 := Lib.hid (ownsRow_below HROW2.out hb4 (Nat.le_refl _))
                have HO4 := Lib.hid (HON2.out.trans (Only.of_below hb4 gO (gO + 1)))
                clear hb4
                go_wp2_with fail
                go_roundw
                case rel => exact ⟨i + 1, by omega, by go_num, by rw [HNX.out]; exact HR4.out, HO4.out, HOB2.out⟩
                case measure => simp [intOf]; omega
        · obtain rfl : i = g.vals.length := by omega
          have hown := Own.of_row (xs := implLet g lt g.vals.length) HROW.out rfl rfl
          have HP := Lib.hid (pairSet_any _ (implLet g lt g.vals.length) wo ((hown.sl cPr_len).all (Nat.le_refl _)) (by omega))
          rw [← HR.out] at HP
          have HBW := Lib.hid (HB2.out.trans (HON.out.below (B := w.heap.size) (by omega) HB2.out.size))
          clear hown
          go_wp2_with fail
          refine HP.out.mono ?_
          rintro e w5 ⟨v5, rfl, ho5, hb5⟩
          have HO := Lib.hid (ho5.mono HBW.out.size (Nat.le_refl _))
          have HB := Lib.hid (below_trans HBW.out hb5)
          obtain ⟨A9, n9, c9, rfl⟩ := ho5.shape
          clear ho5 hb5
          go_wp2_with fail
          go_ret
          exact ⟨_, rfl, HO.out, HB.out⟩
end Go.Proofs.Ytbkaoghlkdbofaa

/- Whether a program's text can call itself: told by ranks along the calls. Over any program. -/
namespace Go.Proofs.Ytbkaoghlkdbofaa
set_option linter.unusedVariables false
set_option linter.unusedSimpArgs false
def leadsOf (P : Program) (f : FuncId) : List FuncId := (P.funcs[f]?).elim [] P.leadsTo
def rankOk (P : Program) (T : List (FuncId × Nat)) : Bool :=
  T.all fun q => T.lookup q.1 == some q.2 && (leadsOf P q.1).all fun h => match T.lookup h with | some r => decide (r < q.2) | none => false
def plainAll (P : Program) (T : List (FuncId × Nat)) : Bool :=
  T.all fun q => !((P.funcs[q.1]?).any fun fn => match fn.body with | some c => c.unfollowed | none => entryCalls fn)
theorem via_sub {P : Program} {p : FuncId → Prop} (hp : ∀ f, p f → ∀ h ∈ leadsOf P f, p h) : ∀ (n : Nat) (todo seen : List FuncId), (∀ f ∈ todo, p f) → (∀ f ∈ seen, p f) → ∀ g ∈ P.closureVia n todo seen, p g
  | 0, _, seen, _, hs, g, hg => hs g (by simpa [Program.closureVia] using hg)
  | _ + 1, [], seen, _, hs, g, hg => hs g (by simpa [Program.closureVia] using hg)
  | n + 1, f :: todo, seen, ht, hs, g, hg => by
    rw [Program.closureVia] at hg
    split at hg
    · exact via_sub hp n todo seen (fun x hx => ht x (List.mem_cons_of_mem _ hx)) hs g hg
    · refine via_sub hp n _ _ (fun x hx => ?_) (fun x hx => ?_) g hg
      · rcases List.mem_append.1 hx with h | h
        · exact hp f (ht f (List.mem_cons_self ..)) x h
        · exact ht x (List.mem_cons_of_mem _ h)
      · rcases List.mem_cons.1 hx with rfl | h
        · exact ht x (List.mem_cons_self ..)
        · exact hs x h
theorem closure_sub {P : Program} {p : FuncId → Prop} (hp : ∀ f, p f → ∀ h ∈ leadsOf P f, p h) {f : FuncId} (hf : p f) : ∀ g ∈ P.closure f, p g := by
  unfold Program.closure
  exact via_sub hp _ _ _ (by simpa using hf) (by simp)
theorem lookup_mem {T : List (FuncId × Nat)} {x : FuncId} {r : Nat} (h : T.lookup x = some r) : (x, r) ∈ T := by
  induction T with
  | nil => simp at h
  | cons q T ih =>
    obtain ⟨a, b⟩ := q
    rw [List.lookup_cons] at h
    split at h
    · rename_i hx
      have e1 : x = a := by simpa using hx
      have e2 : b = r := by simpa using h
      subst e1 e2
      exact List.mem_cons_self ..
    · exact List.mem_cons_of_mem _ (ih h)
theorem rank_step {P : Program} {T : List (FuncId × Nat)} (hT : rankOk P T = true) {f : FuncId} {r : Nat} (hf : T.lookup f = some r) {h : FuncId} (hh : h ∈ leadsOf P f) : ∃ s, T.lookup h = some s ∧ s < r := by
  have h1 := List.all_eq_true.1 hT _ (lookup_mem hf)
  simp only [Bool.and_eq_true] at h1
  have h2 := List.all_eq_true.1 h1.2 h hh
  cases hl : T.lookup h with
  | none => rw [hl] at h2; cases h2
  | some s => rw [hl] at h2; exact ⟨s, rfl, by simpa using h2⟩
theorem rank_closure {P : Program} {T : List (FuncId × Nat)} (hT : rankOk P T = true) {f : FuncId} {r : Nat} (hf : T.lookup f = some r) : ∀ g ∈ P.closure f, ∃ s, T.lookup g = some s ∧ s ≤ r :=
  closure_sub (p := fun g => ∃ s, T.lookup g = some s ∧ s ≤ r) (fun x ⟨s, hs, hr⟩ h hh => by
    obtain ⟨t, ht, hlt⟩ := rank_step hT hs hh
    exact ⟨t, ht, by omega⟩) ⟨r, hf, Nat.le_refl _⟩
theorem unfollowed_no {P : Program} {T : List (FuncId × Nat)} {f : FuncId} {r : Nat} (hT : rankOk P T = true) (hp : plainAll P T = true) (hf : T.lookup f = some r) : P.unfollowed f = false := by
  rw [Program.unfollowed, List.any_eq_false]
  intro g hg
  obtain ⟨s, hs, _⟩ := rank_closure hT hf g hg
  have := List.all_eq_true.1 hp _ (lookup_mem hs)
  exact Bool.eq_false_iff.1 (Eq.mp (Bool.not_eq_true' _) this)
theorem recurses_no {P : Program} {T : List (FuncId × Nat)} {f : FuncId} {r : Nat} (hT : rankOk P T = true) (hp : plainAll P T = true) (hf : T.lookup f = some r) : P.recurses f = false := by
  rw [Program.recurses, unfollowed_no hT hp hf, Bool.false_or, List.any_eq_false]
  intro g hg
  obtain ⟨s, hs, _⟩ := rank_closure hT hf g hg
  rw [Bool.not_eq_true, List.any_eq_false]
  intro h hh
  obtain ⟨t, ht, hlt⟩ := rank_step hT hs hh
  intro hc
  have hm : g ∈ P.closure h := by simpa using hc
  obtain ⟨u, hu, hle⟩ := rank_closure hT ht g hm
  rw [hs] at hu
  injection hu with e
  omega
theorem recurses_yes {P : Program} {f : FuncId} (g h : FuncId) (h1 : (P.closure f).contains g = true) (h2 : (leadsOf P g).contains h = true) (h3 : (P.closure h).contains g = true) : P.recurses f = true := by
  rw [Program.recurses, Bool.or_eq_true]
  refine .inr (List.any_eq_true.2 ⟨g, by simpa using h1, List.any_eq_true.2 ⟨h, by simpa [leadsOf] using h2, h3⟩⟩)
end Go.Proofs.Ytbkaoghlkdbofaa

/- Facts on this seat's program as a whole that every row asks for: told once. -/
namespace Go.Proofs.Ytbkaoghlkdbofaa
set_option linter.unusedVariables false
set_option linter.unusedSimpArgs false
theorem seat_mayEnter : Try.pinned.checked.prog.mayEnter = true := by kernel_rfl
theorem seat_lifts : Try.pinned.checked.prog.liftsFinal = false := by kernel_rfl
theorem seat_laidOut : laidOutB Try.pinned.checked.prog = true := by kernel_rfl
theorem seat_mapsRowed : mapsRowed Try.pinned.checked.prog = true := by kernel_rfl
end Go.Proofs.Ytbkaoghlkdbofaa

