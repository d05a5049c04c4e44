/- Parts of the proof, joined into one text: NextI, TurnI, SpreadM. -/
import Derived.Test.YtmlfkledhnlkeaaPartHGELBPGN
import Derived.Test.YtmlfkledhnlkeaaPartAHNDNEAO
import Derived.Test.YtmlfkledhnlkeaaPartCAPLBKNO
/- The program's nextVertices: the vertices behind each vertex of the product. -/
namespace Go.Proofs.Ytmlfkledhnlkeaa
set_option linter.unusedVariables false
set_option linter.unusedSimpArgs false
open Go.ChangeShapes Go.WideShapes Go.ChangeAt Go.RowKit
attribute [local go_sem] ext_cell ext_frozen ext_lt ext_lt1 ext_lt2 ext_lt3 ltn2 ltn3 ltn13 lts1 lts2 lts3

theorem SlI.arc {lo hi : Nat} {w : World} {A : Option Addr} {n c : Nat} {xs : List Arc} (h : SlI lo hi w cA 4 (.slice A n c) xs) {i : Nat} {y : Arc} (hx : xs[i]? = some y) :
    ∃ b o, A = some ⟨b, o, none⟩ ∧ lo ≤ b ∧ b < hi ∧ w.cell? ⟨b, o + i * 4, none⟩ = some (.int .i64 y.1.1) ∧ w.cell? ⟨b, o + i * 4 + 1, none⟩ = some (.bool y.1.2) ∧ w.cell? ⟨b, o + i * 4 + 2, none⟩ = some (.int .i64 y.2.1) ∧ w.cell? ⟨b, o + i * 4 + 3, none⟩ = some (.int .i64 y.2.2) := by
  obtain ⟨A', c', hv, _, _, h3⟩ := h
  injection hv with h1 _ _
  subst h1
  obtain ⟨b, o, e, g1, g2, hc⟩ := h3 i y hx
  exact ⟨b, o, e, g1, g2, by simpa using hc 0 _ rfl, hc 1 _ rfl, hc 2 _ rfl, hc 3 _ rfl⟩
theorem elInts : ElemOk Try.prog 40 22 (.slice none 0 0) 1 24 := ⟨Try.underlying40, by kernel_rfl, rfl, by omega⟩
set_option maxHeartbeats 8000000 in
set_option maxRecDepth 100000 in
theorem nextVertices_any (vg va : Value) (g : Gr) (a : Au) (w : World) (hgv : GrV 0 w.heap.size w vg g) (hav : AuV 0 w.heap.size w va a) (hg : GrOk g) (ha : auOk a = true) :
    Calls Try.prog 131 #[vg, va] w fun e w' => ∃ v', e = .returned v' ∧ SSE w.heap.size w'.heap.size w' cN 1 v' ((List.range (g.vals.length * a.accept.length)).map (nextI g a)) ∧ Below w.heap.size w w' := by
  have hgv0 := hgv
  have hav0 := hav
  obtain ⟨A1, c1, A2, c2, rfl, hl1, hm1, hl2, hm2, hC1, -⟩ := hgv.form
  obtain ⟨A3, c3, A4, c4, rfl, hl3, hm3, hl4, hm4, -⟩ := hav.form ha
  have hn5 := hg.n5
  have hn12 := (auOk_iff.1 ha).1.2
  have hn1 := (auOk_iff.1 ha).1.1
  have HGO := Lib.hid hg
  have HAO := Lib.hid ha
  have HGV := Lib.hid hgv0
  have HAV := Lib.hid hav0
  have HC1 := Lib.hid hC1
  clear hgv hav hgv0 hav0 hg ha hC1
  obtain ⟨R, hR⟩ : ∃ R, R = (List.range (g.vals.length * a.accept.length)).map (nextI g a) := ⟨_, rfl⟩
  rw [← hR]
  have HR := Lib.hid hR
  clear hR
  have hNm : g.vals.length * a.accept.length ≤ 60 := by have := Nat.mul_le_mul hn5 hn12; omega
  obtain ⟨N, hN⟩ : ∃ N, N = g.vals.length * a.accept.length := ⟨_, rfl⟩
  rw [← hN] at hNm
  have q0 : IntKind.i64.wrap ((a.accept.length : Int) * (g.vals.length : Int)) = (N : Int) := by rw [IntWalk.i64_in _ (by rw [Int.mul_comm, ← Int.natCast_mul, ← hN]; omega)]; rw [hN, Int.natCast_mul, Int.mul_comm]
  have q0' : (a.accept.length : Int) * (g.vals.length : Int) = (N : Int) := by rw [hN, Int.natCast_mul, Int.mul_comm]
  have HN := Lib.hid hN
  clear hN
  have hb0 : Below w.heap.size w ((w.alloc (.cells #[.slice A1 g.vals.length c1, .slice A2 g.edges.length c2] 48)).alloc (.cells #[.int .i64 a.start, .slice A3 a.accept.length c3, .slice A4 a.accept.length c4] 50)) := ((Below.refl _ _).alloc (Nat.le_refl _) _).alloc (by simp) _
  go_enter Try.func131, Try.ntmps131
  go_wp2_with (at_make; refine wpList_makeE (P := Try.prog) cV (.slice none 0 0) elInts rfl rfl rfl _ _ rfl (w.heap.size + 1 + 1) N (N : Int) (by first | rfl | simp [q0']) (by first | rfl | simp [q0']) rfl (by omega) (by unfold maxLen; omega) (by simp) ?_; intro w1 hrow1 hbel1
               have b0 := ((Blk.new w 48 #[.slice A1 g.vals.length c1, .slice A2 g.edges.length c2] w.heap.size rfl).alloc (.cells #[.int .i64 a.start, .slice A3 a.accept.length c3, .slice A4 a.accept.length c4] 50)).below hbel1 (by simp <;> omega)
               have b1 := (Blk.new (w.alloc (.cells #[.slice A1 g.vals.length c1, .slice A2 g.edges.length c2] 48)) 50 #[.int .i64 a.start, .slice A3 a.accept.length c3, .slice A4 a.accept.length c4] (w.heap.size + 1) (by simp)).below hbel1 (by simp <;> omega)
               have hb1 : Below w.heap.size w w1 := hb0.trans (hbel1.mono (by simp <;> omega))
               simp only [World.size_alloc] at hrow1 ⊢
               have HROW1 := Lib.hid hrow1
               have x0 : w1.cell? ⟨w.heap.size, 0, none⟩ = some (.slice A1 g.vals.length c1) := b0.cell 0
               have x1 : w1.cell? ⟨w.heap.size, 1, none⟩ = some (.slice A2 g.edges.length c2) := b0.cell 1
               have y0 : w1.cell? ⟨w.heap.size + 1, 0, none⟩ = some (.int .i64 a.start) := b1.cell 0
               have y1 : w1.cell? ⟨w.heap.size + 1, 1, none⟩ = some (.slice A3 a.accept.length c3) := b1.cell 1
               have y2 : w1.cell? ⟨w.heap.size + 1, 2, none⟩ = some (.slice A4 a.accept.length c4) := b1.cell 2
               clear hbel1 hrow1 b0 b1)
  refine (arcs_any _ g _ (HGV.out.keep hb1) HGO.out).mono ?_
  rintro e w2 ⟨v2, rfl, hsse, hb2⟩
  have hrw := Rws.made (base := w2.heap.size) (α := Nat) (E := cN) (k := 1) (rT := 3) (ownsRow_below HROW1.out hb2 (Nat.le_refl _))
  rw [← fill_zero N (nextI g a)] at hrw
  have x0 := kcell hb2 x0
  have x1 := kcell hb2 x1
  have y0 := kcell hb2 y0
  have y1 := kcell hb2 y1
  have y2 := kcell hb2 y2
  have hgl := hrw.gLt.2
  have hg1 : w.heap.size + 1 + 1 < w1.heap.size := (HROW1.out.lt _ rfl).2
  obtain ⟨A5, c5, hv5, hl5, hm5⟩ := hsse.shape
  have hlen5 : ((List.range g.vals.length).map fun (x : Nat) => arcsOf g (x : Int)).length = g.vals.length := by simp
  rw [hlen5] at hv5 hl5
  subst hv5
  have hbw := below_trans hb1 hb2
  have HRW := Lib.hid hrw
  have HSSE := Lib.hid hsse
  have hg9 : w.heap.size + 1 < w2.heap.size := by omega
  clear hrw hsse hlen5 hb1 hb2
  generalize hgb : w.heap.size + 1 + 1 = gb at *
  have hgw : w.heap.size + 1 < gb := by omega
  clear hgb
  go_wp2_with fail
  go_loopw [26] (fun xx wr => ∃ (x : Nat) (hs : List Value), x ≤ g.vals.length ∧ xx = .int .i64 (x : Int) ∧ Rws wr w2.heap.size 22 3 cN 1 gb hs (fillTo N (nextI g a) (x * a.accept.length) []) ∧ Only gb (gb + 1) w2 wr) (fun xx _ => g.vals.length - (intOf xx).toNat)
  case atStart => exact ⟨0, _, Nat.zero_le _, rfl, by rw [Nat.zero_mul]; exact HRW.out, Only.refl _ _ _⟩
  case round =>
    obtain ⟨x, hs, hx, rfl, hrw, hon⟩ := hrel
    have HRW := Lib.hid hrw
    clear hrw
    by_cases hlt : x < g.vals.length
    · obtain ⟨xn, hxn⟩ : ∃ xn, xn = x * a.accept.length := ⟨_, rfl⟩
      have hxn2 : xn + a.accept.length ≤ N := by rw [hxn, HN.out]; have := Nat.mul_le_mul_right a.accept.length (show x + 1 ≤ g.vals.length by omega); rw [Nat.succ_mul] at this; exact this
      rw [← hxn] at HRW
      have q1 : IntKind.i64.wrap ((x : Int) * (a.accept.length : Int)) = (xn : Int) := by rw [IntWalk.i64_in _ (by rw [← Int.natCast_mul, ← hxn]; omega), hxn, Int.natCast_mul]
      have q1' : (x : Int) * (a.accept.length : Int) = (xn : Int) := by rw [hxn, Int.natCast_mul]
      have HXN := Lib.hid hxn
      clear hxn
      obtain ⟨b5, o5, A6, c6, rfl, hlo5, hb5, d5, hl6, hm6, hI6, -⟩ := HSSE.out.row (Nat.le_refl _) (i := x) (xs := arcsOf g (x : Int)) (by simp [hlt])
      have d5 := ocell hon d5 hb5 (.inr (by omega))
      have hxi : g.vals[x]? = some g.vals[x] := List.getElem?_eq_getElem hlt
      have hvr := HGO.out.vals _ (List.getElem_mem hlt)
      generalize g.vals[x] = vx at hxi hvr
      obtain ⟨vx, rfl⟩ := Int.eq_ofNat_of_zero_le hvr.1
      have hva := valAt_of hxi
      rw [Int.toNat_natCast] at hva
      obtain ⟨b1, o1, rfl, hbb1, dv⟩ := HC1.out.int hxi
      have dv2 := kcell hbw dv
      have hAL := arcs_len HGO.out (x : Int)
      have HVA := Lib.hid hva
      have HI6 := Lib.hid hI6
      clear hva hI6 hxi dv
      go_wp2_with fail
      go_loopw [9] (fun ss wr => ∃ (s : Nat) (hs : List Value), s ≤ a.accept.length ∧ ss = .int .i64 (s : Int) ∧ Rws wr w2.heap.size 22 3 cN 1 gb hs (fillTo N (nextI g a) (xn + s) []) ∧ Only gb (gb + 1) w2 wr) (fun ss _ => a.accept.length - (intOf ss).toNat)
      case atStart => exact ⟨0, _, Nat.zero_le _, rfl, HRW.out, hon⟩
      case round =>
        clear d5 hon HRW
        obtain ⟨s, hs, hs1, rfl, hrw, hon⟩ := hrel
        have HRW := Lib.hid hrw
        clear hrw
        by_cases hlt2 : s < a.accept.length
        · have hs12 : s < 12 := by omega
          have hix : xn + s < N := by omega
          have q2 : IntKind.i64.wrap ((xn : Int) + (s : Int)) = (xn : Int) + (s : Int) := IntWalk.i64_in _ (by omega)
          have q2a : (0 : Int) ≤ (xn : Int) + (s : Int) := by omega
          have q2b : (xn : Int) + (s : Int) < (N : Int) := by omega
          have q2c : ((xn : Int) + (s : Int)).toNat = xn + s := by omega
          go_wp2_with fail
          go_loopw [38] (fun jj wr => ∃ (j : Nat) (hs : List Value), j ≤ (arcsOf g (x : Int)).length ∧ jj = .int .i64 (j : Int) ∧ Rws wr w2.heap.size 22 3 cN 1 gb hs (fillTo N (nextI g a) (xn + s) (((arcsOf g (x : Int)).take j).flatMap (nextA g a x s))) ∧ Only gb (gb + 1) w2 wr) (fun jj _ => (arcsOf g (x : Int)).length - (intOf jj).toNat)
          case atStart => exact ⟨0, _, Nat.zero_le _, rfl, HRW.out, hon⟩
          case round =>
            clear hon HRW
            obtain ⟨j, hs, hj, rfl, hrw, hon⟩ := hrel
            have HRW := Lib.hid hrw
            clear hrw
            by_cases hlt3 : j < (arcsOf g (x : Int)).length
            · have hyj : (arcsOf g (x : Int))[j]? = some (arcsOf g (x : Int))[j] := List.getElem?_eq_getElem hlt3
              have hyr := arc_range HGO.out (List.getElem_mem hlt3)
              generalize (arcsOf g (x : Int))[j] = y at hyj hyr
              obtain ⟨⟨yid, yinv⟩, yl, yt⟩ := y
              simp only at hyr
              obtain ⟨⟨hyl0, hyl5⟩, hyt0, hyt1⟩ := hyr
              obtain ⟨yl, rfl⟩ := Int.eq_ofNat_of_zero_le hyl0
              obtain ⟨yt, rfl⟩ := Int.eq_ofNat_of_zero_le hyt0
              obtain ⟨b6, o6, rfl, hlo6, hb6, z0, z1, z2, z3⟩ := HI6.out.arc hyj
              have z0 := ocell hon z0 hb6 (.inr (by omega))
              have z1 := ocell hon z1 hb6 (.inr (by omega))
              have z2 := ocell hon z2 hb6 (.inr (by omega))
              have z3 := ocell hon z3 hb6 (.inr (by omega))
              have HYJ := Lib.hid hyj
              clear hyj
              go_wp2_with fail
              have e2 : (wr.alloc (.cells #[.int .i64 yid, .bool yinv, .int .i64 (yl : Int), .int .i64 (yt : Int)] 149)).cell? ⟨wr.heap.size, 2, none⟩ = some (.int .i64 (yl : Int)) := by simp
              have e3 : (wr.alloc (.cells #[.int .i64 yid, .bool yinv, .int .i64 (yl : Int), .int .i64 (yt : Int)] 149)).cell? ⟨wr.heap.size, 3, none⟩ = some (.int .i64 (yt : Int)) := by simp
              generalize hW : (wr.alloc (.cells #[.int .i64 yid, .bool yinv, .int .i64 (yl : Int), .int .i64 (yt : Int)] 149)) = wE at e2 e3 ⊢
              have hbE : Below wr.heap.size wr wE := by rw [← hW]; exact (Below.refl _ _).alloc (Nat.le_refl _) _
              have hsE : wr.heap.size < wE.heap.size := by rw [← hW]; simp
              have hsW := hon.size
              have yE0 := kcell hbE (ocell hon y0 hg9 (.inl (by omega)))
              have yE1 := kcell hbE (ocell hon y1 hg9 (.inl (by omega)))
              have yE2 := kcell hbE (ocell hon y2 hg9 (.inl (by omega)))
              have xE0 := kcell hbE (ocell hon x0 (by omega) (.inl (by omega)))
              have dE := kcell hbE (ocell hon dv2 (Nat.lt_of_lt_of_le hbb1 (by omega)) (.inl (by omega)))
              have hbwE : Below w.heap.size w wE := below_trans (hbw.trans (hon.below (by omega) (by omega))) hbE
              have HRE := Lib.hid (HRW.out.below hbE)
              have HBWE := Lib.hid hbwE
              have HNB := Lib.hid (show ∀ (i : Nat) (hv : Value), hs[i]? = some hv → ∀ b, hv.ownBlock = some b → b < wr.heap.size from fun i hv hi b hb => by
                have hjx : i < (fillTo N (nextI g a) (xn + s) (((arcsOf g (x : Int)).take j).flatMap (nextA g a x s))).length := by rw [← HRW.out.len]; exact (List.getElem?_eq_some_iff.1 hi).1
                exact ((HRW.out.row i hv _ hi (List.getElem?_eq_getElem hjx)).lt _ hb).2)
              have hfl := aft_lt HAO.out (bit s) vx yl
              have hfl4 := lt12 HAO.out hfl
              have s1 := shl_bit (s := s) (by omega)
              have s2 := shl_bit2 (s := s) (by omega)
              have s3 := shl_bit3 (s := s) (by omega)
              have HFL := Lib.hid hfl
              clear hW z0 z1 z2 z3 HRW hbwE hfl
              go_region_held3 (fun w' => w'.cell? ⟨w.heap.size + 1, 0, none⟩ = some (.int .i64 a.start) ∧ w'.cell? ⟨w.heap.size + 1, 1, none⟩ = some (.slice A3 a.accept.length c3) ∧ w'.cell? ⟨w.heap.size + 1, 2, none⟩ = some (.slice A4 a.accept.length c4) ∧ w'.cell? ⟨w.heap.size, 0, none⟩ = some (.slice (some ⟨b1, o1, none⟩) g.vals.length c1) ∧ w'.cell? ⟨b1, o1 + x, none⟩ = some (.int .i64 (vx : Int)) ∧ w'.cell? ⟨wr.heap.size, 2, none⟩ = some (.int .i64 (yl : Int)))
                (first | (exact ⟨yE0, yE1, yE2, xE0, dE, e2⟩) | (exact kB6 hbA (by assumption)) | (exact kB6 hbM (by assumption)))
                (first | (go_at_call 121; refine (after_any _ a (bit s) vx yl _ (AuV.keep (w' := wE.drew) HAV.out HBWE.out.drew) HAO.out (bit_lt hlt2) (by omega) (by omega)).mono ?_; rintro e wA ⟨rfl, hbA⟩) | (go_at_call 139; refine (members_any (aft a (bit s) vx yl) _ hfl4).mono ?_; rintro e wM ⟨vM, rfl, hoM, hbM⟩; obtain ⟨A7, c7, rfl, hl7, hm7, -⟩ := hoM.form cN_len))
              have hbX : Below wE.heap.size wE wM := below_trans (below_trans (Below.refl wE.heap.size wE).drew hbA) hbM
              have hM := hoM.form cN_len
              have hoI := hoM.sl cN_len
              rename_i hh
              have e3M := kcell hbX e3
              have hsM := hbX.size
              have hmA : wE.heap.size ≤ wA.heap.size := hbA.size
              have HRM := Lib.hid (HRE.out.below hbX)
              have HONM := Lib.hid (((hon.trans (Only.of_below hbE gb (gb + 1))).trans (Only.of_below hbX gb (gb + 1))))
              have HOI := Lib.hid (hoI.mono hmA (Nat.le_refl _))
              have hml7 := mem_len 12 (aft a (bit s) vx yl)
              have HNA := Lib.hid (show nextA g a x s ((yid, yinv), (yl : Int), (yt : Int)) = (mem 12 (aft a (bit s) vx yl)).map fun t => yt * a.accept.length + t by rw [nextA, HVA.out]; simp)
              have hytn : yt * a.accept.length + a.accept.length ≤ N := by rw [HN.out]; have := Nat.mul_le_mul_right a.accept.length (show yt + 1 ≤ g.vals.length by omega); rw [Nat.succ_mul] at this; exact this
              obtain ⟨yn, hyn⟩ : ∃ yn, yn = yt * a.accept.length := ⟨_, rfl⟩
              rw [← hyn] at hytn HNA
              have q3 : IntKind.i64.wrap ((yt : Int) * (a.accept.length : Int)) = (yn : Int) := by rw [IntWalk.i64_in _ (by rw [← Int.natCast_mul, ← hyn]; omega), hyn, Int.natCast_mul]
              have q3' : (yt : Int) * (a.accept.length : Int) = (yn : Int) := by rw [hyn, Int.natCast_mul]
              obtain ⟨ms, hms⟩ : ∃ ms, ms = mem 12 (aft a (bit s) vx yl) := ⟨_, rfl⟩
              have hmsn : ∀ t ∈ ms, t < a.accept.length := fun t ht => by rw [hms] at ht; exact bit_in HFL.out (mem_mem.1 ht).2
              rw [← hms] at HOI HNA hml7 hl7
              have HMS := Lib.hid hmsn
              obtain ⟨cur, hcur⟩ : ∃ cur, cur = ((arcsOf g (x : Int)).take j).flatMap (nextA g a x s) := ⟨_, rfl⟩
              have hcl : cur.length ≤ 288 := by
                have h1 : ∀ y, (nextA g a x s y).length ≤ 12 := fun y => by rw [nextA, List.length_map]; exact mem_len _ _
                have h2 := flat_len h1 ((arcsOf g (x : Int)).take j)
                rw [List.length_take] at h2
                rw [hcur]; omega
              rw [← hcur] at HRM
              have hix2 : ∀ hv, hs[xn + s]? = some hv → ∀ b, hv.ownBlock = some b → b < wr.heap.size ∨ wM.heap.size ≤ b := fun hv hi b hb => by
                have hr := HRE.out.row (xn + s) hv _ hi (fill_cur (cur := ((arcsOf g (x : Int)).take j).flatMap (nextA g a x s)) hix)
                exact .inl (HNB.out _ _ hi _ hb)
              have HIX := Lib.hid hix2
              have HCUR := Lib.hid hcur
              rw [← hms]
              have HMQ := Lib.hid hms
              have hgr := hon.size
              clear hbA hbM hoM hh hM hoI hbX hon hbE HRE HBWE yE0 yE1 yE2 xE0 dE e2 e3 s1 s2 s3 hyn hms hcur hix2 hfl4 hmsn
              go_wp2_with fail
              obtain ⟨wo, rfl⟩ : ∃ wo : World, wo = wr := ⟨_, rfl⟩
              go_loopw [55] (fun kk w' => ∃ (k : Nat) (hs : List Value), k ≤ ms.length ∧ kk = .int .i64 (k : Int) ∧ Rws w' w2.heap.size 22 3 cN 1 gb hs (fillTo N (nextI g a) (xn + s) (cur ++ (ms.take k).map (fun t => yn + t))) ∧ Only gb (gb + 1) w2 w' ∧ Only 0 wo.heap.size wM w' ∧
                  (∀ hv, hs[xn + s]? = some hv → ∀ b, hv.ownBlock = some b → b < wo.heap.size ∨ wM.heap.size ≤ b)) (fun kk _ => ms.length - (intOf kk).toNat)
              case atStart => exact ⟨0, _, Nat.zero_le _, rfl, by simpa using HRM.out, HONM.out, Only.refl _ _ _, HIX.out⟩
              case round =>
                clear HRM HONM HIX
                obtain ⟨k, hs, hk, rfl, hrw, hon, hon2, hix2⟩ := hrel
                have HRW := Lib.hid hrw
                have HIX := Lib.hid hix2
                clear hrw hix2
                by_cases hlt4 : k < ms.length
                · have hti : ms[k]? = some ms[k] := List.getElem?_eq_getElem hlt4
                  have htn := HMS.out _ (List.getElem_mem hlt4)
                  generalize ms[k] = t at hti htn
                  obtain ⟨b7, o7, rfl, hlo7, hb7, d7⟩ := (HOI.out.only hon2 (Nat.le_refl _) (.inr (Nat.le_of_lt hsE))).nat hti
                  have hb7w := Nat.lt_of_lt_of_le hb7 hon2.size
                  have f3 := ocell hon2 e3M (Nat.lt_of_lt_of_le hsE hsM) (.inr (Nat.le_refl _))
                  have hil : xn + s < hs.length := by rw [HRW.out.len, fill_len]; exact hix
                  have hhi : hs[xn + s]? = some hs[xn + s] := List.getElem?_eq_getElem hil
                  generalize hs[xn + s] = hv at hhi
                  have hcv := HRW.out.cell hhi
                  have hfv := HRW.out.frozen (xn + s)
                  have hro := HRW.out.row (xn + s) hv _ hhi (fill_cur hix)
                  have hgw2 := HRW.out.gLt.2
                  have hne1 : some gb ≠ hv.ownBlock := Ne.symm (HRW.out.far _ _ hhi)
                  have hne2 : some wo.heap.size ≠ hv.ownBlock := fun e9 => by
                    have := HIX.out hv hhi _ e9.symm
                    omega
                  have hneg : wo.heap.size ≠ gb := by omega
                  obtain ⟨row, hrow⟩ : ∃ row, row = cur ++ (ms.take k).map (fun t => yn + t) := ⟨_, rfl⟩
                  have hrl : row.length ≤ 300 := by rw [hrow, List.length_append, List.length_map, List.length_take]; omega
                  rw [← hrow] at hro
                  have HRO := Lib.hid hro
                  have HROW := Lib.hid hrow
                  have HTI := Lib.hid hti
                  have HHI := Lib.hid hhi
                  have HNE1 := Lib.hid hne1
                  have HNE2 := Lib.hid hne2
                  have q4 : IntKind.i64.wrap ((yn : Int) + (t : Int)) = (yn : Int) + (t : Int) := IntWalk.i64_in _ (by omega)
                  have hsw2 := hon.size
                  have q5 : IntKind.i64.wrap (xn : Int) = (xn : Int) := IntWalk.i64_in _ (by omega)
                  have q6 : IntKind.i64.wrap (yn : Int) = (yn : Int) := IntWalk.i64_in _ (by omega)
                  clear hro hrow hti hhi hne1 hne2
                  go_wp2_with fail
                  refine F_start 23 (fun w' => w'.cell? ⟨gb, xn + s, none⟩ = some hv ∧ w'.cell? ⟨wo.heap.size, 3, none⟩ = some (.int .i64 (yt : Int))) (by kernel_rfl) (by exact ⟨hcv, f3⟩) (fun hS inv => ?_)
                  refine F_take (i := 0) (v := ?_) rfl (by kernel_rfl) (by kernel_rfl) (by kernel_rfl) (fun _ _ _ h => h) inv (Or.inl ⟨by rfl, ?_⟩) (by assumption) (fun invn => ?_)
                  rotate_left
                  · (intro w hSw; (try dsimp only at hSw); go_simp; try with_reducible rfl)
                  try simp only [List.getElem_toArray, List.getElem_cons_zero, List.getElem_cons_succ, Act.put, List.setIfInBounds_toArray, List.set_cons_zero, List.set_cons_succ]
                  clear inv
                  have inv := invn
                  clear invn
                  refine F_take (i := 1) (v := ?_) rfl (by kernel_rfl) (by kernel_rfl) (by kernel_rfl) (fun _ _ _ h => h) inv (Or.inl ⟨by rfl, ?_⟩) (by assumption) (fun invn => ?_)
                  rotate_left
                  · (intro w hSw; (try dsimp only at hSw); go_simp; try with_reducible rfl)
                  try simp only [List.getElem_toArray, List.getElem_cons_zero, List.getElem_cons_succ, Act.put, List.setIfInBounds_toArray, List.set_cons_zero, List.set_cons_succ]
                  clear inv
                  have inv := invn
                  clear invn
                  refine F_take (i := 2) (v := ?_) rfl (by kernel_rfl) (by kernel_rfl) (by kernel_rfl) (fun _ _ _ h => h) inv (Or.inl ⟨by rfl, ?_⟩) (by assumption) (fun invn => ?_)
                  rotate_left
                  · (intro w hSw; (try dsimp only at hSw); go_simp; try with_reducible rfl)
                  try simp only [List.getElem_toArray, List.getElem_cons_zero, List.getElem_cons_succ, Act.put, List.setIfInBounds_toArray, List.set_cons_zero, List.set_cons_succ]
                  clear inv
                  have inv := invn
                  clear invn
                  refine F_take (i := 3) (v := ?_) rfl (by kernel_rfl) (by kernel_rfl) (by kernel_rfl) (fun _ _ _ h => h) inv (Or.inl ⟨by rfl, ?_⟩) (by assumption) (fun invn => ?_)
                  rotate_left
                  · (intro w hSw; (try dsimp only at hSw); go_simp; try with_reducible rfl)
                  try simp only [List.getElem_toArray, List.getElem_cons_zero, List.getElem_cons_succ, Act.put, List.setIfInBounds_toArray, List.set_cons_zero, List.set_cons_succ]
                  clear inv
                  have inv := invn
                  clear invn
                  refine F_take (i := 4) (v := ?_) rfl (by kernel_rfl) (by kernel_rfl) (by kernel_rfl) (fun _ _ _ h => h) inv (Or.inl ⟨by rfl, ?_⟩) (by assumption) (fun invn => ?_)
                  rotate_left
                  · (intro w hSw; (try dsimp only at hSw); go_simp; try with_reducible rfl)
                  try simp only [List.getElem_toArray, List.getElem_cons_zero, List.getElem_cons_succ, Act.put, List.setIfInBounds_toArray, List.set_cons_zero, List.set_cons_succ]
                  clear inv
                  have inv := invn
                  clear invn
                  refine F_take (i := 5) (v := ?_) rfl (by kernel_rfl) (by kernel_rfl) (by kernel_rfl) (fun _ _ _ h => h) inv (Or.inl ⟨by rfl, ?_⟩) (by assumption) (fun invn => ?_)
                  rotate_left
                  · (intro w hSw; (try dsimp only at hSw); go_simp; try with_reducible rfl)
                  try simp only [List.getElem_toArray, List.getElem_cons_zero, List.getElem_cons_succ, Act.put, List.setIfInBounds_toArray, List.set_cons_zero, List.set_cons_succ]
                  clear inv
                  have inv := invn
                  clear invn
                  refine F_take (i := 6) (v := ?_) rfl (by kernel_rfl) (by kernel_rfl) (by kernel_rfl) (fun _ _ _ h => h) inv (Or.inl ⟨by rfl, ?_⟩) (by assumption) (fun invn => ?_)
                  rotate_left
                  · (intro w hSw; (try dsimp only at hSw); go_simp; try with_reducible rfl)
                  try simp only [List.getElem_toArray, List.getElem_cons_zero, List.getElem_cons_succ, Act.put, List.setIfInBounds_toArray, List.set_cons_zero, List.set_cons_succ]
                  clear inv
                  have inv := invn
                  clear invn
                  refine F_take (i := 7) (v := ?_) rfl (by kernel_rfl) (by kernel_rfl) (by kernel_rfl) (fun _ _ _ h => h) inv (Or.inl ⟨by rfl, ?_⟩) (by assumption) (fun invn => ?_)
                  rotate_left
                  · (intro w hSw; (try dsimp only at hSw); go_simp; try with_reducible rfl)
                  try simp only [List.getElem_toArray, List.getElem_cons_zero, List.getElem_cons_succ, Act.put, List.setIfInBounds_toArray, List.set_cons_zero, List.set_cons_succ]
                  clear inv
                  have inv := invn
                  clear invn
                  refine F_take (i := 8) (v := ?_) rfl (by kernel_rfl) (by kernel_rfl) (by kernel_rfl) (fun _ _ _ h => h) inv (Or.inl ⟨by rfl, ?_⟩) (by assumption) (fun invn => ?_)
                  rotate_left
                  · (intro w hSw; (try dsimp only at hSw); go_simp; try with_reducible rfl)
                  try simp only [List.getElem_toArray, List.getElem_cons_zero, List.getElem_cons_succ, Act.put, List.setIfInBounds_toArray, List.set_cons_zero, List.set_cons_succ]
                  clear inv
                  have inv := invn
                  clear invn
                  refine F_take (i := 9) (v := ?_) rfl (by kernel_rfl) (by kernel_rfl) (by kernel_rfl) (fun _ _ _ h => h) inv (Or.inl ⟨by rfl, ?_⟩) (by assumption) (fun invn => ?_)
                  rotate_left
                  · (intro w hSw; (try dsimp only at hSw); go_simp; try with_reducible rfl)
                  try simp only [List.getElem_toArray, List.getElem_cons_zero, List.getElem_cons_succ, Act.put, List.setIfInBounds_toArray, List.set_cons_zero, List.set_cons_succ]
                  clear inv
                  have inv := invn
                  clear invn
                  refine F_take (i := 10) (v := ?_) rfl (by kernel_rfl) (by kernel_rfl) (by kernel_rfl) (fun _ _ _ h => h) inv (Or.inl ⟨by rfl, ?_⟩) (by assumption) (fun invn => ?_)
                  rotate_left
                  · (intro w hSw; (try dsimp only at hSw); go_simp; try with_reducible rfl)
                  try simp only [List.getElem_toArray, List.getElem_cons_zero, List.getElem_cons_succ, Act.put, List.setIfInBounds_toArray, List.set_cons_zero, List.set_cons_succ]
                  clear inv
                  have inv := invn
                  clear invn
                  refine F_take (i := 11) (v := ?_) rfl (by kernel_rfl) (by kernel_rfl) (by kernel_rfl) (fun _ _ _ h => h) inv (Or.inl ⟨by rfl, ?_⟩) (by assumption) (fun invn => ?_)
                  rotate_left
                  · (intro w hSw; (try dsimp only at hSw); go_simp; try with_reducible rfl)
                  try simp only [List.getElem_toArray, List.getElem_cons_zero, List.getElem_cons_succ, Act.put, List.setIfInBounds_toArray, List.set_cons_zero, List.set_cons_succ]
                  clear inv
                  have inv := invn
                  clear invn
                  refine F_take (i := 12) (v := ?_) rfl (by kernel_rfl) (by kernel_rfl) (by kernel_rfl) (fun _ _ _ h => h) inv (Or.inl ⟨by rfl, ?_⟩) (by assumption) (fun invn => ?_)
                  rotate_left
                  · (intro w hSw; (try dsimp only at hSw); go_simp; try with_reducible rfl)
                  try simp only [List.getElem_toArray, List.getElem_cons_zero, List.getElem_cons_succ, Act.put, List.setIfInBounds_toArray, List.set_cons_zero, List.set_cons_succ]
                  clear inv
                  have inv := invn
                  clear invn
                  refine F_take (i := 13) (v := ?_) rfl (by kernel_rfl) (by kernel_rfl) (by kernel_rfl) (fun _ _ _ h => h) inv (Or.inl ⟨by rfl, ?_⟩) (by assumption) (fun invn => ?_)
                  rotate_left
                  · (intro w hSw; (try dsimp only at hSw); go_simp; try with_reducible rfl)
                  try simp only [List.getElem_toArray, List.getElem_cons_zero, List.getElem_cons_succ, Act.put, List.setIfInBounds_toArray, List.set_cons_zero, List.set_cons_succ]
                  clear inv
                  have inv := invn
                  clear invn
                  refine F_take (i := 14) (v := ?_) rfl (by kernel_rfl) (by kernel_rfl) (by kernel_rfl) (fun _ _ _ h => h) inv (Or.inl ⟨by rfl, ?_⟩) (by assumption) (fun invn => ?_)
                  rotate_left
                  · (intro w hSw; (try dsimp only at hSw); go_simp; try with_reducible rfl)
                  try simp only [List.getElem_toArray, List.getElem_cons_zero, List.getElem_cons_succ, Act.put, List.setIfInBounds_toArray, List.set_cons_zero, List.set_cons_succ]
                  clear inv
                  have inv := invn
                  clear invn
                  refine F_take (i := 15) (v := ?_) rfl (by kernel_rfl) (by kernel_rfl) (by kernel_rfl) (fun _ _ _ h => h) inv (Or.inl ⟨by rfl, ?_⟩) (by assumption) (fun invn => ?_)
                  rotate_left
                  · (intro w hSw; (try dsimp only at hSw); go_simp; try with_reducible rfl)
                  try simp only [List.getElem_toArray, List.getElem_cons_zero, List.getElem_cons_succ, Act.put, List.setIfInBounds_toArray, List.set_cons_zero, List.set_cons_succ]
                  clear inv
                  have inv := invn
                  clear invn
                  refine F_take (i := 16) (v := ?_) rfl (by kernel_rfl) (by kernel_rfl) (by kernel_rfl) (fun _ _ _ h => h) inv (Or.inl ⟨by rfl, ?_⟩) (by assumption) (fun invn => ?_)
                  rotate_left
                  · (intro w hSw; (try dsimp only at hSw); go_simp; try with_reducible rfl)
                  try simp only [List.getElem_toArray, List.getElem_cons_zero, List.getElem_cons_succ, Act.put, List.setIfInBounds_toArray, List.set_cons_zero, List.set_cons_succ]
                  clear inv
                  have inv := invn
                  clear invn
                  refine F_take (i := 17) (v := ?_) rfl (by kernel_rfl) (by kernel_rfl) (by kernel_rfl) (fun _ _ _ h => h) inv (Or.inl ⟨by rfl, ?_⟩) (by assumption) (fun invn => ?_)
                  rotate_left
                  · (intro w hSw; (try dsimp only at hSw); go_simp; try with_reducible rfl)
                  try simp only [List.getElem_toArray, List.getElem_cons_zero, List.getElem_cons_succ, Act.put, List.setIfInBounds_toArray, List.set_cons_zero, List.set_cons_succ]
                  clear inv
                  have inv := invn
                  clear invn
                  refine F_take (i := 18) (v := ?_) rfl (by kernel_rfl) (by kernel_rfl) (by kernel_rfl) (fun _ _ _ h => h) inv (Or.inl ⟨by rfl, ?_⟩) (by assumption) (fun invn => ?_)
                  rotate_left
                  · (intro w hSw; (try dsimp only at hSw); go_simp; try with_reducible rfl)
                  try simp only [List.getElem_toArray, List.getElem_cons_zero, List.getElem_cons_succ, Act.put, List.setIfInBounds_toArray, List.set_cons_zero, List.set_cons_succ]
                  clear inv
                  have inv := invn
                  clear invn
                  refine F_take (i := 19) (v := ?_) rfl (by kernel_rfl) (by kernel_rfl) (by kernel_rfl) (fun _ _ _ h => h) inv (Or.inl ⟨by rfl, ?_⟩) (by assumption) (fun invn => ?_)
                  rotate_left
                  · (intro w hSw; (try dsimp only at hSw); go_simp; try with_reducible rfl)
                  try simp only [List.getElem_toArray, List.getElem_cons_zero, List.getElem_cons_succ, Act.put, List.setIfInBounds_toArray, List.set_cons_zero, List.set_cons_succ]
                  clear inv
                  have inv := invn
                  clear invn
                  refine F_one (i := 20) (by kernel_rfl) rfl rfl (by omega) inv (fun K hK => ?_)
                  try simp only [List.getElem_toArray, List.getElem_cons_zero, List.getElem_cons_succ]
                  go_simp
                  refine hK.out _ _ (kA2 _ hS) (fun hSn invn => ?_)
                  try simp only [List.getElem_toArray, List.getElem_cons_zero, List.getElem_cons_succ, Act.put, List.setIfInBounds_toArray, List.set_cons_zero, List.set_cons_succ]
                  clear hK K inv hS
                  have inv := invn
                  have hS := hSn
                  clear invn hSn
                  refine F_one (i := 21) (by kernel_rfl) rfl rfl (by omega) inv (fun K hK => ?_)
                  try simp only [List.getElem_toArray, List.getElem_cons_zero, List.getElem_cons_succ]
                  refine op_append1 cN elInt rfl _ _ (by rfl) w2.heap.size hv row (yn + t) 1 _ (by rfl) (HRO.out.alloc _) (by first | rfl | simp) (heap_alloc_new _ _) rfl (cN_one _) (by omega) (by omega) (by simp; omega) ?_
                  intro g2 cp2 w3 hown3 hgr3 hat3 hlt3
                  have HO3 := Lib.hid hown3
                  have HG3 := Lib.hid hgr3
                  have HA3 := Lib.hid hat3
                  clear hown3 hgr3 hat3
                  refine hK.out _ _ (kG2 HG3.out HNE1.out HNE2.out hS) (fun hSn invn => ?_)
                  try simp only [List.getElem_toArray, List.getElem_cons_zero, List.getElem_cons_succ, Act.put, List.setIfInBounds_toArray, List.set_cons_zero, List.set_cons_succ]
                  clear hK K inv hS
                  have inv := invn
                  have hS := hSn
                  clear invn hSn
                  refine F_take (i := 22) (v := ?_) rfl (by kernel_rfl) (by kernel_rfl) (by kernel_rfl) (fun _ _ _ h => h) inv (Or.inl ⟨by rfl, ?_⟩) (by assumption) (fun invn => ?_)
                  rotate_left
                  · (intro w hSw; (try dsimp only at hSw); go_simp; try with_reducible rfl)
                  try simp only [List.getElem_toArray, List.getElem_cons_zero, List.getElem_cons_succ, Act.put, List.setIfInBounds_toArray, List.set_cons_zero, List.set_cons_succ]
                  clear inv
                  have inv := invn
                  clear invn
                  have hcz := HG3.out.cell (kcell ((Below.refl _ _).alloc (Nat.le_refl _) _) hcv) HNE1.out
                  have hfz := kfg HG3.out (p := ⟨gb, xn + s, none⟩) HNE1.out (kcell ((Below.refl _ _).alloc (Nat.le_refl _) _) hcv) (kfb ((Below.refl _ _).alloc (Nat.le_refl _) _) hcv hfv)
                  refine F_last (i := 23) (by kernel_rfl) rfl rfl (by omega) (by kernel_rfl) (fun K hK => ?_)
                  go_simp
                  refine hK _ _ ?_
                  clear hK K inv hS
                  have hrF := Rws.push (HRW.out.below (w' := wr.drew.alloc (.cells #[.int .i64 ((yn : Int) + (t : Int))] 3)) ((Below.refl _ _).drew.alloc (Nat.le_refl _) _)) HHI.out (by rw [← HROW.out]; exact fill_cur hix) HO3.out HG3.out rfl HA3.out
                  rw [fill_push _ hix] at hrF
                  have hpF : row ++ [yn + t] = cur ++ (ms.take (k + 1)).map (fun t => yn + t) := by rw [HROW.out, take_snoc HTI.out, List.map_append, List.append_assoc]; rfl
                  rw [hpF] at hrF
                  have hon3 := Only.pushed (lo := gb) (hi := gb + 1) (u := .slice (some ⟨g2, 0, none⟩) (row.length + 1) cp2) (i := xn + s) (g := gb) ((hon.drew).alloc (.cells #[.int .i64 ((yn : Int) + (t : Int))] 3)) HG3.out (fun b hb => .inr (HRO.out.lt b hb).1) (.inl ⟨Nat.le_refl _, Nat.lt_succ_self _⟩)
                  have hon4 := Only.pushed (lo := 0) (hi := wo.heap.size) (u := .slice (some ⟨g2, 0, none⟩) (row.length + 1) cp2) (i := xn + s) (g := gb) ((hon2.drew).alloc (.cells #[.int .i64 ((yn : Int) + (t : Int))] 3)) HG3.out (fun b hb => (HIX.out hv HHI.out b hb).imp (fun h => ⟨Nat.zero_le _, h⟩) id) (.inl ⟨Nat.zero_le _, by omega⟩)
                  have hixF : ∀ hv', (hs.set (xn + s) (.slice (some ⟨g2, 0, none⟩) (row.length + 1) cp2))[xn + s]? = some hv' → ∀ b, hv'.ownBlock = some b → b < wo.heap.size ∨ wM.heap.size ≤ b := fun hv' hi b hb => by
                    rw [List.getElem?_set, if_pos rfl, if_pos hil] at hi
                    injection hi with hi
                    subst hi
                    injection hb with hb
                    subst hb
                    rcases HA3.out with h9 | h9
                    · exact HIX.out hv HHI.out _ h9
                    · have := hon2.size
                      simp at h9
                      exact .inr (show wM.heap.size ≤ g2 by omega)
                  have HRF := Lib.hid hrF
                  have HO5 := Lib.hid hon3
                  have HO6 := Lib.hid hon4
                  have HIXF := Lib.hid hixF
                  clear hrF hpF hon3 hon4 hixF hcz hfz
                  go_wp2_with fail
                  go_roundw
                  case rel => exact ⟨k + 1, _, by omega, by go_num, HRF.out, HO5.out, HO6.out, HIXF.out⟩
                  case measure => simp [intOf]; omega
                · obtain rfl : k = ms.length := by omega
                  have hall : cur ++ (ms.take ms.length).map (fun t => yn + t) = ((arcsOf g (x : Int)).take (j + 1)).flatMap (nextA g a x s) := by rw [List.take_length, flat_take HYJ.out, ← HCUR.out, HNA.out]
                  rw [hall] at HRW
                  clear hall
                  go_wp2_with fail
                  go_roundw
                  case rel => exact ⟨j + 1, _, by omega, by go_num, HRW.out, hon⟩
                  case measure => simp [intOf]; omega
            · obtain rfl : j = (arcsOf g (x : Int)).length := by omega
              have hall : ((arcsOf g (x : Int)).take (arcsOf g (x : Int)).length).flatMap (nextA g a x s) = nextI g a (xn + s) := by rw [List.take_length, HXN.out, nextI_at hlt2]; rfl
              rw [hall, fill_next] at HRW
              clear hall
              go_wp2_with fail
              go_roundw
              case rel => exact ⟨s + 1, _, by omega, by go_num, HRW.out, hon⟩
              case measure => simp [intOf]; omega
        · obtain rfl : s = a.accept.length := by omega
          have hall : xn + a.accept.length = (x + 1) * a.accept.length := by rw [HXN.out, Nat.succ_mul]
          rw [hall] at HRW
          clear hall
          go_wp2_with fail
          go_roundw
          case rel => exact ⟨x + 1, _, by omega, by go_num, HRW.out, hon⟩
          case measure => simp [intOf]; omega
    · obtain rfl : x = g.vals.length := by omega
      have hs1 := HRW.out
      rw [← HN.out, fill_all] at hs1
      have hln : hs.length = N := by rw [hs1.len]; simp
      have hs2 := hs1.sse cN_len (lo := w.heap.size) (by omega) (by omega)
      rw [hln] at hs2
      have HS2 := Lib.hid hs2
      have HBF := Lib.hid (hbw.trans (hon.below (B := w.heap.size) (by omega) (by omega)))
      clear hs1 hs2 hln
      go_wp2_with fail
      go_ret
      exact ⟨_, rfl, by rw [HR.out, ← HN.out]; exact HS2.out, HBF.out⟩
end Go.Proofs.Ytmlfkledhnlkeaa

/- The program's turned: rows of numbers turned round. -/
namespace Go.Proofs.Ytmlfkledhnlkeaa
set_option linter.unusedVariables false
set_option linter.unusedSimpArgs false
open Go.ChangeShapes Go.WideShapes Go.ChangeAt Go.RowKit
attribute [local go_sem] ext_cell ext_frozen ext_lt ext_lt1 ext_lt2 ext_lt3 ltn2 ltn3 ltn13 lts1 lts2 lts3

theorem elIntsT : ElemOk Try.prog 40 22 (.slice none 0 0) 1 24 := ⟨Try.underlying40, by kernel_rfl, rfl, by omega⟩
theorem turn_row_len {N i k M : Nat} {next : Nat → List Nat} {cur row : List Nat} (h : k < N) (hr : (turnTo N next i cur)[k]? = some row) (hn : ∀ m, m < i → (next m).length ≤ M) (hc : cur.length ≤ M) : row.length ≤ (i + 1) * M := by
  rw [turn_at h] at hr
  injection hr with hr
  rw [← hr, List.length_append]
  have h1 : ∀ (l : List Nat) (f : Nat → Option Nat), (l.filterMap f).length ≤ l.length := fun l f => List.length_filterMap_le f l
  have h2 : ∀ j, j ≤ i → ((List.range j).flatMap fun m => (next m).filterMap fun x => if x = k then some m else none).length ≤ j * M := by
    intro j
    induction j with
    | zero => intro _; simp
    | succ j ih =>
      intro hj
      rw [List.range_succ, List.flatMap_append, List.length_append, Nat.succ_mul]
      have h3 := ih (by omega)
      have h4 := h1 (next j) (fun x => if x = k then some j else none)
      have h5 := hn j (by omega)
      simp only [List.flatMap_cons, List.flatMap_nil, List.append_nil]
      omega
  have h6 := h2 i (Nat.le_refl _)
  have h7 := h1 cur (fun x => if x = k then some i else none)
  rw [Nat.succ_mul]
  omega
set_option maxHeartbeats 4000000 in
set_option maxRecDepth 100000 in
theorem turned_any (v : Value) (N : Nat) (next : Nat → List Nat) (w : World) (hv : SSE 0 w.heap.size w cN 1 v ((List.range N).map next)) (hN : N ≤ 60) (hnext : ∀ i, i < N → (next i).length ≤ 288 ∧ ∀ k ∈ next i, k < N) :
    Calls Try.prog 130 #[v] w fun e w' => ∃ v', e = .returned v' ∧ SSE w.heap.size w'.heap.size w' cN 1 v' ((List.range N).map (turnL N next)) ∧ Below w.heap.size w w' := by
  obtain ⟨A5, c5, hv5, hl5, hm5⟩ := hv.shape
  have hlen5 : ((List.range N).map next).length = N := by simp
  rw [hlen5] at hv5 hl5
  subst hv5
  have HV := Lib.hid hv
  have HNX := Lib.hid hnext
  clear hv hnext hlen5
  obtain ⟨R, hR⟩ : ∃ R, R = (List.range N).map (turnL N next) := ⟨_, rfl⟩
  rw [← hR]
  have HR := Lib.hid hR
  clear hR
  go_enter Try.func130, Try.ntmps130
  go_wp2_with (at_make; refine wpList_makeE (P := Try.prog) cV (.slice none 0 0) elIntsT rfl rfl rfl _ _ rfl w.heap.size N _ (by rfl) (by rfl) rfl (by omega) (by unfold maxLen; omega) (by simp) ?_; intro w1 hrow1 hbel1
               have hrw := Rws.made (base := w.heap.size) (α := Nat) (E := cN) (k := 1) (rT := 3) hrow1
               rw [← turn_zero N next] at hrw
               have HRW := Lib.hid hrw
               have hg1 := hrw.gLt.2
               clear hrow1 hrw)
  generalize hgb : w.heap.size = gb at *
  have HGB := Lib.hid hgb
  clear hgb
  go_loopw [13] (fun ii wr => ∃ (i : Nat) (hs : List Value), i ≤ N ∧ ii = .int .i64 (i : Int) ∧ Rws wr gb 22 3 cN 1 gb hs (turnTo N next i []) ∧ Below gb w wr) (fun ii _ => N - (intOf ii).toNat)
  case atStart => exact ⟨0, _, Nat.zero_le _, rfl, HRW.out, hbel1⟩
  case round =>
    clear HRW hbel1
    obtain ⟨i, hs, hi, rfl, hrw, hbel⟩ := hrel
    have HRW := Lib.hid hrw
    clear hrw
    by_cases hlt : i < N
    · obtain ⟨b5, o5, A6, c6, rfl, -, hb5, d5, hl6, hm6, hI6, -⟩ := HV.out.row (by rw [HGB.out]; exact Nat.le_refl _) (i := i) (xs := next i) (by simp [hlt])
      have d5 := (hbel.cell (p := ⟨b5, o5 + i, none⟩) hb5).trans d5
      have hni := HNX.out i hlt
      have HI6 := Lib.hid hI6
      obtain ⟨hnl, hnk⟩ := hni
      have HNK := Lib.hid hnk
      clear hI6 hnk
      go_wp2_with fail
      go_loopw [20] (fun jj wr => ∃ (j : Nat) (hs : List Value), j ≤ (next i).length ∧ jj = .int .i64 (j : Int) ∧ Rws wr gb 22 3 cN 1 gb hs (turnTo N next i ((next i).take j)) ∧ Below gb w wr) (fun jj _ => (next i).length - (intOf jj).toNat)
      case atStart => exact ⟨0, _, Nat.zero_le _, rfl, HRW.out, hbel⟩
      case round =>
        clear d5 HRW hbel
        obtain ⟨j, hs, hj, rfl, hrw, hbel⟩ := hrel
        have HRW := Lib.hid hrw
        clear hrw
        by_cases hlt2 : j < (next i).length
        · have hki : (next i)[j]? = some (next i)[j] := List.getElem?_eq_getElem hlt2
          have hkn := HNK.out _ (List.getElem_mem hlt2)
          generalize (next i)[j] = k at hki hkn
          obtain ⟨b7, o7, rfl, -, hb7, d7⟩ := HI6.out.nat hki
          have d7 := (hbel.cell (p := ⟨b7, o7 + j, none⟩) hb7).trans d7
          have hb7w := Nat.lt_trans hb7 HRW.out.gLt.2
          have hil : k < hs.length := by rw [HRW.out.len, turn_len]; exact hkn
          have hhi : hs[k]? = some hs[k] := List.getElem?_eq_getElem hil
          generalize hs[k] = hv at hhi
          have hcv := HRW.out.cell hhi
          have hfv := HRW.out.frozen k
          have hxr : k < (turnTo N next i ((next i).take j)).length := by rw [turn_len]; exact hkn
          have hxk : (turnTo N next i ((next i).take j))[k]? = some (turnTo N next i ((next i).take j))[k] := List.getElem?_eq_getElem hxr
          generalize (turnTo N next i ((next i).take j))[k] = row at hxk
          have hrl : row.length ≤ 100000 := by
            have h1 := turn_row_len hkn hxk (M := 288) (fun m hm => (HNX.out m (by omega)).1) (by rw [List.length_take]; omega)
            have h2 := Nat.mul_le_mul_right 288 (show i + 1 ≤ 60 by omega)
            omega
          have hro := HRW.out.row k hv row hhi hxk
          have hgw := HRW.out.gLt.2
          have hne1 : some gb ≠ hv.ownBlock := Ne.symm (HRW.out.far _ _ hhi)
          have HRO := Lib.hid hro
          have HHI := Lib.hid hhi
          have HXK := Lib.hid hxk
          have HKI := Lib.hid hki
          have HNE1 := Lib.hid hne1
          clear hro hhi hxk hki hne1
          have hkN : (k : Int) < (N : Int) := by omega
          have hsw := hbel.size
          rw [HGB.out] at hsw
          go_wp2_with (at_builtin; (refine wpList_append2 cN elInt rfl _ _ rfl gb hv row i 1 _ (by rfl) (HRO.out.alloc _) (by rfl) (heap_alloc_new _ _) rfl (cN_one _) (by omega) (by omega) (by simp; omega) ?_); intro g2 cp2 w3 hown3 hgr3 hat3 hlt3
                       have hcz := hgr3.cell (kcell ((Below.refl _ _).alloc (Nat.le_refl _) _) hcv) HNE1.out
                       have hfz := kfg hgr3 (p := ⟨gb, k, none⟩) HNE1.out (kcell ((Below.refl _ _).alloc (Nat.le_refl _) _) hcv) (kfb ((Below.refl _ _).alloc (Nat.le_refl _) _) hcv hfv)
                       have HO3 := Lib.hid hown3
                       have HG3 := Lib.hid hgr3
                       have HA3 := Lib.hid hat3
                       clear hown3 hgr3 hat3)
          have hrF := Rws.push (HRW.out.below (w' := wr.alloc (.cells #[.int .i64 (i : Int)] 3)) ((Below.refl _ _).alloc (Nat.le_refl _) _)) HHI.out HXK.out HO3.out HG3.out rfl HA3.out
          rw [turn_push hkn HXK.out, ← take_snoc HKI.out] at hrF
          have hbF : Below gb w (w3.setCell ⟨gb, k, none⟩ (.slice (some ⟨g2, 0, none⟩) (row.length + 1) cp2)) :=
            ((hbel.alloc (by omega) _).grown HG3.out (by simp; omega) (fun b hb => (HRO.out.lt b hb).1)).setCell (Nat.le_refl _) _
          have HRF := Lib.hid hrF
          have HBF := Lib.hid hbF
          clear hrF hbF hcz hfz
          go_roundw
          case rel => exact ⟨j + 1, _, by omega, by go_num, HRF.out, HBF.out⟩
          case measure => simp [intOf]; omega
        · obtain rfl : j = (next i).length := by omega
          have hall : turnTo N next i ((next i).take (next i).length) = turnTo N next (i + 1) [] := by rw [List.take_length, turn_next]
          rw [hall] at HRW
          clear hall
          go_wp2_with fail
          go_roundw
          case rel => exact ⟨i + 1, _, by omega, by go_num, HRW.out, hbel⟩
          case measure => simp [intOf]; omega
    · obtain rfl : i = N := by omega
      have hs1 := HRW.out
      rw [turn_all] at hs1
      have hln : hs.length = i := by rw [hs1.len]; simp
      have hs2 := hs1.sse cN_len (lo := gb) (Nat.le_refl _) (Nat.le_refl _)
      rw [hln] at hs2
      have HS2 := Lib.hid hs2
      clear hs1 hs2 hln
      go_wp2_with fail
      go_ret
      exact ⟨_, rfl, by rw [HR.out, HGB.out]; exact HS2.out, by rw [HGB.out]; exact hbel⟩
end Go.Proofs.Ytmlfkledhnlkeaa

/- Plain: breadth first search from some vertices. -/
namespace Go.Proofs.Ytmlfkledhnlkeaa
set_option linter.unusedVariables false
set_option linter.unusedSimpArgs false

def srcD (N : Nat) (fs : List Nat) : List Int := fs.foldl (fun D i => D.set i 0) (List.replicate N (-1))
theorem srcD_len (N : Nat) (fs : List Nat) : (srcD N fs).length = N := by
  have h : ∀ (fs : List Nat) (D : List Int), (fs.foldl (fun D i => D.set i 0) D).length = D.length := by
    intro fs
    induction fs with
    | nil => intro D; rfl
    | cons x fs ih => intro D; rw [List.foldl_cons, ih, List.length_set]
  rw [srcD, h, List.length_replicate]
theorem srcD_at {N : Nat} {fs : List Nat} {i : Nat} (hi : i < N) : (srcD N fs).getD i 0 = if i ∈ fs then 0 else -1 := by
  have h : ∀ (fs : List Nat) (D : List Int), i < D.length → (fs.foldl (fun D i => D.set i 0) D).getD i 0 = if i ∈ fs then 0 else D.getD i 0 := by
    intro fs
    induction fs with
    | nil => intro D _; simp
    | cons x fs ih =>
      intro D hD
      rw [List.foldl_cons, ih _ (by rw [List.length_set]; exact hD)]
      by_cases h1 : i ∈ fs
      · simp [h1]
      · rw [if_neg h1]
        by_cases h2 : i = x
        · subst h2
          rw [getD_set' hD, if_pos rfl]; simp
        · have hx : (D.set x 0).getD i 0 = D.getD i 0 := by
            simp only [List.getD, List.getElem?_set]
            rw [if_neg (fun e => h2 e.symm)]
          rw [hx, if_neg (by simp [h1, h2])]
  rw [srcD, h fs _ (by simpa using hi)]
  simp [List.getD, List.getElem?_replicate, hi]
theorem srcD_snoc (N : Nat) (fs : List Nat) (x : Nat) : srcD N (fs ++ [x]) = (srcD N fs).set x 0 := by simp [srcD, List.foldl_append]
theorem srcD_out {N : Nat} {fs : List Nat} {i : Nat} (hi : ¬ i < N) : (srcD N fs).getD i 0 = 0 := by
  simp only [List.getD]
  rw [List.getElem?_eq_none (by rw [srcD_len]; omega)]
  rfl
theorem negs_le (D : List Int) : negs D ≤ D.length := List.countP_le_length
theorem srcD_bfsI {N : Nat} {fs : List Nat} (hfs : ∀ i ∈ fs, i < N) : BfsI N (fs.length + N) (fs.length + N) (srcD N fs) fs := by
  have hv : ∀ i, (srcD N fs).getD i 0 = 0 ∨ (srcD N fs).getD i 0 = -1 := by
    intro i
    by_cases hi : i < N
    · rw [srcD_at hi]
      split
      · exact .inl rfl
      · exact .inr rfl
    · exact .inl (srcD_out hi)
  refine ⟨srcD_len N fs, fun h hh => ⟨hfs h hh, ?_⟩, ?_, fun h => ?_, fun h => ?_, Nat.le_refl _⟩
  · rw [srcD_at (hfs h hh), if_pos hh]; omega
  · have := negs_le (srcD N fs)
    rw [srcD_len] at this
    omega
  · rcases hv h with h1 | h1 <;> rw [h1] <;> omega
  · rcases hv h with h1 | h1 <;> rw [h1] <;> omega
def spreadR (N : Nat) (next : Nat → List Nat) (fs : List Nat) : List Int := bfs next (fs.length + N) (srcD N fs) fs
theorem spreadR_len (N : Nat) (next : Nat → List Nat) (fs : List Nat) : (spreadR N next fs).length = N := by rw [spreadR, bfs_len, srcD_len]

/-- from the goals, the rows turned round: the least number of steps to a goal -/
theorem spread_dist {N : Nat} {next : Nat → List Nat} {fs : List Nat} (hfs : ∀ i ∈ fs, i < N) (hn : ∀ i k, i < N → k ∈ next i → k < N) (i : Nat) (hi : i < N) :
    IsDist next (fun i => i ∈ fs) i ((spreadR N (turnL N next) fs).getD i 0) := by
  refine bfs_dist (prev := turnL N next) (fun i k _ _ h => (mem_turnL.1 h).2) (fun i k _ h => (mem_turnL.1 h).1) hn (fun i k hi _ h => mem_turnL.2 ⟨hi, h⟩) _ _ _ ?_ (srcD_bfsI hfs).fuel i hi
  refine ⟨srcD_len N fs, fun i hi h0 => ?_, fun i hi hg => ?_, fun k hk h0 hq => ?_, fun h r hq i hi => ?_, ?_, (srcD_bfsI hfs).queue, fun i hi => (srcD_bfsI hfs).low i⟩
  · rw [srcD_at hi] at h0 ⊢
    by_cases h : i ∈ fs
    · rw [if_pos h]; exact h
    · rw [if_neg h] at h0; omega
  · rw [srcD_at hi, if_pos hg]
  · rw [srcD_at hk, if_neg hq] at h0; omega
  · have hm : h ∈ fs := by rw [hq]; simp
    have e1 := srcD_at (fs := fs) (hfs h hm)
    rw [if_pos hm] at e1
    rw [srcD_at hi, e1]
    split <;> omega
  · have : ∀ l : List Nat, (∀ x ∈ l, x ∈ fs) → l.Pairwise (fun a b => (srcD N fs).getD a 0 ≤ (srcD N fs).getD b 0) := by
      intro l
      induction l with
      | nil => intro _; simp
      | cons x l ih =>
        intro hl
        refine List.pairwise_cons.2 ⟨fun y hy => ?_, ih fun z hz => hl z (List.mem_cons_of_mem _ hz)⟩
        have h1 := hl x (by simp)
        have h2 := hl y (List.mem_cons_of_mem _ hy)
        rw [srcD_at (hfs x h1), srcD_at (hfs y h2), if_pos h1, if_pos h2]
        omega
    exact this fs (fun _ h => h)
theorem relax_mid (d : Int) (k : Nat) (l : List Nat) (D : List Int) (q : List Nat) (h : D.getD k 0 < 0) : relax d (k :: l) D q = relax d l (D.set k d) (q ++ [k]) := by rw [relax, if_pos h]
theorem relax_old (d : Int) (k : Nat) (l : List Nat) (D : List Int) (q : List Nat) (h : ¬ D.getD k 0 < 0) : relax d (k :: l) D q = relax d l D q := by rw [relax, if_neg h]
end Go.Proofs.Ytmlfkledhnlkeaa

