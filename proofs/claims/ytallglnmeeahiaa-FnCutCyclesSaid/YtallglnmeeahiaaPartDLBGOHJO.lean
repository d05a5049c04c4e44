/- Parts of the proof, joined into one text: DrwC, WalkM, CutM, AutI, GraphI, StepI. -/
import Derived.Test.YtallglnmeeahiaaPartFCJBGCIJ
import Derived.Test.YtallglnmeeahiaaPartGHIFKCDG
import Derived.RegionTactic
import Derived.BigRegion
import Derived.Test.YtallglnmeeahiaaPartFDAIEBNB
import Derived.Lib.Slices
import Derived.Test.YtallglnmeeahiaaPartCKFBLHLD
/- A walk drawn in a graph, and what FnCutCycles draws: that the draws end, and how their results lie. -/
namespace Go.Proofs.Ytallglnmeeahiaa
set_option linter.unusedVariables false
set_option linter.unusedSimpArgs false
open Go.ChangeShapes Go.WideShapes Go.ChangeAt Go.RowKit
attribute [local go_sem] ext_cell ext_frozen ext_lt ext_lt1 ext_lt2 ext_lt3 ltn2 ltn3 ltn13 lts1 lts2 lts3

/-- a walk under way: in the block q; the graph's box B, the result's block r -/
structure WkR (b B r q : Nat) (w0 w : World) (gs : Array Value) (st : Int) (ss : Value) (L : List St) : Prop where
  box : Blk w B 38 gs
  res : Blk w r 41 #[.int .i64 0, .slice none 0 0]
  blk : Blk w q 41 #[.int .i64 st, ss]
  row : w.ownsRow (q + 1) 54 2 ss L.length (L.flatMap cSt)
  cur : Cur w b
  only : Only b (b + 1) w0 w
  at0 : w0.heap.size ≤ r
  ord : b < w0.heap.size ∧ b < B ∧ b < r ∧ b < q ∧ B < q ∧ r < q ∧ B ≠ r
section
variable {b B r q : Nat} {w0 w w' : World} {gs : Array Value} {st : Int} {ss : Value} {L : List St}
theorem WkR.move (h : WkR b B r q w0 w gs st ss L) (ho : Only b (b + 1) w w') (hc : Cur w' b) : WkR b B r q w0 w' gs st ss L := by
  have hd := h.ord
  exact ⟨h.box.only ho (.inr (by omega)), h.res.only ho (.inr (by omega)), h.blk.only ho (.inr (by omega)), own_only h.row ho (by omega), hc, h.only.trans ho, h.at0, hd⟩
theorem WkR.below (h : WkR b B r q w0 w gs st ss L) (hb : Below w.heap.size w w') : WkR b B r q w0 w' gs st ss L :=
  ⟨h.box.keep hb, h.res.keep hb, h.blk.keep hb, ownsRow_below h.row hb (Nat.le_refl _), h.cur.keep hb, h.only.trans (Only.of_below hb _ _), h.at0, h.ord⟩
theorem WkR.alloc (h : WkR b B r q w0 w gs st ss L) (o : Obj) : WkR b B r q w0 (w.alloc o) gs st ss L := h.below ((Below.refl _ _).alloc (Nat.le_refl _) _)
theorem WkR.push {L' : List St} {g n c : Nat} (h : WkR b B r q w0 w gs st ss L) (hr : w'.ownsRow (q + 1) 54 2 (.slice (some ⟨g, 0, none⟩) n c) L'.length (L'.flatMap cSt)) (hg : w.grownBy w' ss.ownBlock) (hat : ss.ownBlock = some g ∨ w.heap.size ≤ g) :
    Blk w' q 41 #[.int .i64 st, ss] ∧ WkR b B r q w0 (w'.setCell ⟨q, 1, none⟩ (.slice (some ⟨g, 0, none⟩) n c)) gs st (.slice (some ⟨g, 0, none⟩) n c) L' := by
  have hd := h.ord
  have hq := h.blk.lt
  have hb := own_below h.row (by omega) hg
  have hgq : g ≠ q := by have := (hr.lt g rfl).1; omega
  have hbq : Blk w' q 41 #[.int .i64 st, ss] := h.blk.below hb (by omega)
  exact ⟨hbq, (h.box.below hb (by omega)).far (by simp only; omega) _, (h.res.below hb (by omega)).far (by simp only; omega) _, hbq.set_ 1 _, ownsRow_block hr (fun g' hg' => by cases hg'; exact Below.heap_setCell w' ⟨q, 1, none⟩ _ g hgq), (h.cur.below hb (by omega)).set (by simp only; omega) _,
    (h.only.andBelow hb (by have := h.at0; omega)).setCell (.inr (by have := h.at0; simp only; omega)) _, h.at0, hd⟩
theorem WkR.done (h : WkR b B r q w0 w gs st ss L) : WkO w0.heap.size ((w.setCell ⟨r, 0, none⟩ (.int .i64 st)).setCell ⟨r, 1, none⟩ ss).heap.size ((w.setCell ⟨r, 0, none⟩ (.int .i64 st)).setCell ⟨r, 1, none⟩ ss) (.agg #[.int .i64 st, ss]) (st, L) ∧
    Cur ((w.setCell ⟨r, 0, none⟩ (.int .i64 st)).setCell ⟨r, 1, none⟩ ss) b ∧ Only b (b + 1) w0 ((w.setCell ⟨r, 0, none⟩ (.int .i64 st)).setCell ⟨r, 1, none⟩ ss) := by
  have hd := h.ord
  have ha := h.at0
  have hq := h.blk.lt
  have hp := Only.put2 w r (.int .i64 st) ss
  refine ⟨⟨ss, rfl, (Own.of_row (xs := L) (own_only h.row hp (by omega)) rfl rfl).mono (by omega) (Nat.le_refl _)⟩, h.cur.only hp (by omega), (h.only.setCell (p := ⟨r, 0, none⟩) (.inr (by simp only; omega)) _).setCell (p := ⟨r, 1, none⟩) (.inr (by simp only; omega)) _⟩
end
set_option maxHeartbeats 4000000 in
theorem l5Walk_any (b : Nat) (vg : Value) (g : Gr) (w : World) (hc : Cur w b) (hgv : GrV (b + 1) w.heap.size w vg g) (he : g.edges.length ≤ 12) :
    Calls Try.prog 81 #[.pointer (some ⟨b, 0, none⟩), vg] w fun e w' => ∃ v k, e = .returned v ∧ WkO w.heap.size w'.heap.size w' v k ∧ k.2.length ≤ 6 ∧ Cur w' b ∧ Only b (b + 1) w w' := by
  have HGV := Lib.hid hgv
  obtain ⟨vs, es, rfl, ⟨A1, c1, rfl, hl1, hm1, -⟩, h2⟩ := hgv
  obtain ⟨A2, n2, c2, rfl⟩ := h2.shape
  obtain ⟨n1, hn1⟩ : ∃ n1, n1 = g.vals.length := ⟨_, rfl⟩
  rw [← hn1] at hl1 HGV ⊢
  unfold maxLen at hm1
  clear h2 hn1
  have hlt := hc.lt
  have hb0 := ((Below.refl w.heap.size w).alloc (Nat.le_refl _) (.cells #[.slice A1 n1 c1, .slice A2 n2 c2] 38)).alloc (by simp) (.cells #[.int .i64 0, .slice none 0 0] 41)
  have hbx := (Blk.new w 38 #[.slice A1 n1 c1, .slice A2 n2 c2] _ rfl).alloc (.cells #[.int .i64 0, .slice none 0 0] 41)
  have hbr := Blk.new (w.alloc (.cells #[.slice A1 n1 c1, .slice A2 n2 c2] 38)) 41 #[.int .i64 0, .slice none 0 0] (w.heap.size + 1) (by simp)
  go_enter Try.func81, Try.ntmps81
  go_wp2_with fail
  all_goals
    refine (l1Below_any b _ _ (hc.keep hb0)).mono ?_
    rintro e w1 ⟨st, rfl, -, hc1, ho1⟩
    have hbx1 := hbx.only ho1 (.inr (by omega))
    have hbr1 := hbr.only ho1 (.inr (by omega))
    have hl1 := hbr1.lt
    have HR1 := Lib.hid (show WkR b w.heap.size (w.heap.size + 1) w1.heap.size w (w1.alloc (.cells #[.int .i64 st, .slice none 0 0] 41)) #[.slice A1 n1 c1, .slice A2 n2 c2] st (.slice none 0 0) [] from
      ⟨hbx1.alloc _, hbr1.alloc _, Blk.new w1 _ _ _ rfl, World.ownsRow_nil _ _ _ 2, hc1.keep ((Below.refl _ _).alloc (Nat.le_refl _) _), ((Only.of_below hb0 b (b + 1)).trans ho1).alloc _, by omega, by omega⟩)
    clear ho1 hc1 hbx1 hbr1
    go_wp2_with fail
    refine (l1Below_any b 7 _ HR1.out.cur).mono ?_
    rintro e w2 ⟨z, rfl, ⟨hz0, -, hz1⟩, hc2, ho2⟩
    have hz1 := hz1 (by omega)
    obtain ⟨z, rfl⟩ := Int.eq_ofNat_of_zero_le hz0
    have HR2 := Lib.hid (HR1.out.move ho2 hc2)
    clear ho2 hc2 HR1
    go_wp2_with fail
    go_loopw [6, 7] (fun aa nn wr => ∃ (n : Nat) (x : Int) (ss : Value) (L : List St), aa = .int .i64 x ∧ nn = .int .i64 (n : Int) ∧ L.length + n = z ∧ WkR b w.heap.size (w.heap.size + 1) w1.heap.size w wr #[.slice A1 n1 c1, .slice A2 n2 c2] st ss L) (fun _ nn _ => (intOf nn).toNat)
    case atStart => exact ⟨z, st, _, [], rfl, rfl, by simp, HR2.out⟩
    case round =>
      obtain ⟨n, x, ss, L, rfl, rfl, hn, hR⟩ := hrel
      have HR := Lib.hid hR
      clear hR HR2
      obtain ⟨A3, n3, c3, rfl⟩ := rowShape HR.out.row
      have x0 : wr.cell? ⟨w.heap.size, 0, none⟩ = some (.slice A1 n1 c1) := HR.out.box.cell 0
      have x1 : wr.cell? ⟨w.heap.size, 1, none⟩ = some (.slice A2 n2 c2) := HR.out.box.cell 1
      have y0 : wr.cell? ⟨w1.heap.size, 0, none⟩ = some (.int .i64 st) := HR.out.blk.cell 0
      have y1 : wr.cell? ⟨w1.heap.size, 1, none⟩ = some (.slice A3 n3 c3) := HR.out.blk.cell 1
      rcases Nat.eq_zero_or_pos n with rfl | h0
      · have z0 : wr.cell? ⟨w.heap.size + 1, 0, none⟩ = some (.int .i64 0) := HR.out.res.cell 0
        have z1 : wr.cell? ⟨w.heap.size + 1, 1, none⟩ = some (.slice none 0 0) := HR.out.res.cell 1
        have v0 := HR.out.res.frozen 0
        have v1 := HR.out.res.frozen 1
        have hlr := HR.out.res.lt
        go_wp2_with fail
        have HD := HR.out.done
        refine bodyPost_ret (v := .agg #[.int .i64 st, .slice A3 n3 c3]) (by simp [results, Try.results81, go_sem, z0, z1, v0, v1]) rfl ⟨_, _, rfl, HD.1, by simp only; omega, HD.2.1, HD.2.2⟩
      · have hni : 0 < (n : Int) := by omega
        go_wp2_with fail
        refine (l4From_any _ g x _ (((HGV.out.only HR.out.only (Nat.le_refl _) (.inr (Nat.le_refl _))).mono (Nat.zero_le _) HR.out.only.size)) he).mono ?_
        rintro e w3 ⟨v3, rfl, hov, hb3⟩
        have HR3 := Lib.hid (HR.out.below hb3)
        generalize (arcsOf g x).map (·.1) = M at hov
        obtain ⟨A4, c4, rfl, hl4, hm4, hx4⟩ := hov.sl cSt_len
        unfold maxLen at hm4
        obtain ⟨m, hm⟩ : ∃ m, m = M.length := ⟨_, rfl⟩
        rw [← hm] at hl4
        have HM := Lib.hid hm
        have HX := Lib.hid hx4
        have hs3 := hb3.size
        have y0 : w3.cell? ⟨w1.heap.size, 0, none⟩ = some (.int .i64 st) := HR3.out.blk.cell 0
        have y1 : w3.cell? ⟨w1.heap.size, 1, none⟩ = some (.slice A3 n3 c3) := HR3.out.blk.cell 1
        rw [← hm]
        clear hov hx4 hb3 hm x0 x1
        rcases Nat.eq_zero_or_pos m with rfl | hm0
        · have z0 : w3.cell? ⟨w.heap.size + 1, 0, none⟩ = some (.int .i64 0) := HR3.out.res.cell 0
          have z1 : w3.cell? ⟨w.heap.size + 1, 1, none⟩ = some (.slice none 0 0) := HR3.out.res.cell 1
          have v0 := HR3.out.res.frozen 0
          have v1 := HR3.out.res.frozen 1
          have hlr := HR3.out.res.lt
          go_wp2_with fail
          have HD := HR3.out.done
          refine bodyPost_ret (v := .agg #[.int .i64 st, .slice A3 n3 c3]) (by simp [results, Try.results81, go_sem, z0, z1, v0, v1]) rfl ⟨_, _, rfl, HD.1, by simp only; omega, HD.2.1, HD.2.2⟩
        · clear y0 y1
          go_wp2_with fail
          refine (l1Below_any b _ _ HR3.out.cur).mono ?_
          rintro e w4 ⟨i, rfl, ⟨hi0, -, hi1⟩, hc4, ho4⟩
          have hi1 := hi1 (by omega)
          obtain ⟨i, rfl⟩ := Int.eq_ofNat_of_zero_le hi0
          have hi : i < M.length := by have := HM.out; omega
          have hxi : M[i]? = some M[i] := List.getElem?_eq_getElem hi
          obtain ⟨q, o, rfl, hq0, hq1, hcc⟩ := HX.out i _ hxi
          generalize M[i] = s at hcc
          obtain ⟨s1, s2⟩ := s
          have e0 := (ho4.cell (p := ⟨q, o + i * 2 + 0, none⟩) hq1 (.inr (by simp only; have := HR.out.only.size; omega))).trans (hcc 0 _ rfl)
          have e1 := (ho4.cell (p := ⟨q, o + i * 2 + 1, none⟩) hq1 (.inr (by simp only; have := HR.out.only.size; omega))).trans (hcc 1 _ rfl)
          simp only [Nat.add_zero] at e0
          have HR4 := Lib.hid (HR3.out.move ho4 hc4)
          have hs4 := ho4.size
          clear hcc hxi ho4 hc4
          have hal := (Below.refl w4.heap.size w4).alloc (Nat.le_refl _) (.cells #[.int .i64 s1, .bool s2] 54)
          have HR5 := Lib.hid (HR4.out.below hal)
          have hbs := Blk.new w4 54 #[.int .i64 s1, .bool s2] _ rfl
          go_upto_region 10 with fail
          clear e0 e1
          have hgv5 := (HGV.out.only HR5.out.only (Nat.le_refl _) (.inr (Nat.le_refl _))).mono (Nat.zero_le _) HR5.out.only.size
          have HGV5 := Lib.hid hgv5
          generalize w4.alloc (.cells #[.int .i64 s1, .bool s2] 54) = w5 at *
          have d0 : w5.cell? ⟨w4.heap.size, 0, none⟩ = some (.int .i64 s1) := hbs.cell 0
          have d1 : w5.cell? ⟨w4.heap.size, 1, none⟩ = some (.bool s2) := hbs.cell 1
          have y1 : w5.cell? ⟨w1.heap.size, 1, none⟩ = some (.slice A3 n3 c3) := HR5.out.blk.cell 1
          have hls := hbs.lt
          have HBS := Lib.hid hbs
          clear hgv5 hbs hal
          have HNE := Lib.hid (show (Value.slice A3 n3 c3).ownBlock ≠ some w4.heap.size from fun e => by have := (HR4.out.row.lt _ e).2; omega)
          go_upto_region 11 with (at_builtin; (refine wpList_append2 cSt elStep rfl _ _ (by rfl) (w1.heap.size + 1) _ L (s1, s2) 1 _ (by rfl) (HR5.out.row.alloc _) (by rfl) (heap_alloc_new _ _) rfl (cSt_one _) (by omega) (by omega) (by have := HR5.out.blk.lt; simp; omega) ?_); intro g2 cp2 w9 hown3 hgr3 hat3 hlt3
                                  have hal6 := (Below.refl w5.heap.size w5).alloc (Nat.le_refl _) (.cells #[.int .i64 s1, .bool s2] 54)
                                  have HP := Lib.hid ((HR5.out.below hal6).push hown3 hgr3 hat3)
                                  have HS9 := Lib.hid (show Blk w9 w4.heap.size _ _ from (hgr3.block _ (by simp; omega) (fun e => HNE.out e.symm)).trans (HBS.out.keep hal6))
                                  have f1 := HP.out.1.frozen 1
                                  have y9 : w9.cell? ⟨w1.heap.size, 1, none⟩ = some (.slice A3 n3 c3) := HP.out.1.cell 1
                                  have lp := HP.out.1.lt
                                  clear hal6 hown3 hgr3 hat3)
          have HW := Lib.hid HP.out.2
          have hbs := HS9.out.far (p := ⟨w1.heap.size, 1, none⟩) (by have := HR4.out.blk.lt; simp only; omega) (.slice (some ⟨g2, 0, none⟩) (L.length + 1) cp2)
          generalize w9.setCell ⟨w1.heap.size, 1, none⟩ (.slice (some ⟨g2, 0, none⟩) (L.length + 1) cp2) = w10 at *
          have d0 : w10.cell? ⟨w4.heap.size, 0, none⟩ = some (.int .i64 s1) := hbs.cell 0
          have d1 : w10.cell? ⟨w4.heap.size, 1, none⟩ = some (.bool s2) := hbs.cell 1
          have x0 : w10.cell? ⟨w.heap.size, 0, none⟩ = some (.slice A1 n1 c1) := HW.out.box.cell 0
          have x1 : w10.cell? ⟨w.heap.size, 1, none⟩ = some (.slice A2 n2 c2) := HW.out.box.cell 1
          clear f1 y9 lp hbs y1 HP HS9 HBS HNE
          go_wp2_with fail
          refine (specStepTo _ g (s1, s2) _ ((HGV.out.only HW.out.only (Nat.le_refl _) (.inr (Nat.le_refl _))).mono (Nat.zero_le _) HW.out.only.size)).mono ?_
          rintro e w11 ⟨rfl, hb11⟩
          have HW11 := Lib.hid (HW.out.below hb11)
          clear hb11 d0 d1 x0 x1
          go_wp2_with fail
          go_roundw
          case rel =>
            refine ⟨n - 1, _, _, _, rfl, ?_, ?_, HW11.out⟩
            · congr 1; omega
            · simp; omega
          case measure => simp [intOf]; omega
/-- a graph and a walk under way: in the blocks gq and wq; the results' blocks r and r + 1 -/
structure AnR (b r gq wq : Nat) (w0 w : World) (gs es : Value) (g : Gr) (st : Int) (ss : Value) (L : List St) : Prop where
  res1 : Blk w r 38 #[.slice none 0 0, .slice none 0 0]
  res2 : Blk w (r + 1) 41 #[.int .i64 0, .slice none 0 0]
  gbk : Blk w gq 38 #[gs, es]
  gv : GrV (r + 2) gq w (.agg #[gs, es]) g
  blk : Blk w wq 41 #[.int .i64 st, ss]
  row : w.ownsRow (gq + 1) 54 2 ss L.length (L.flatMap cSt)
  apart : ss.ownBlock ≠ some wq
  cur : Cur w b
  only : Only b (b + 1) w0 w
  at0 : w0.heap.size = r
  ord : b < r ∧ r + 2 ≤ gq ∧ gq < wq
section
variable {b r gq wq : Nat} {w0 w w' : World} {gs es : Value} {g : Gr} {st : Int} {ss : Value} {L : List St}
theorem AnR.move (h : AnR b r gq wq w0 w gs es g st ss L) (ho : Only b (b + 1) w w') (hc : Cur w' b) : AnR b r gq wq w0 w' gs es g st ss L := by
  have hd := h.ord
  have hg := h.gbk.lt
  exact ⟨h.res1.only ho (.inr (by omega)), h.res2.only ho (.inr (by omega)), h.gbk.only ho (.inr (by omega)), h.gv.only ho (by omega) (.inr (by omega)), h.blk.only ho (.inr (by omega)), own_only h.row ho (by omega), h.apart, hc, h.only.trans ho, h.at0, hd⟩
theorem AnR.below (h : AnR b r gq wq w0 w gs es g st ss L) (hb : Below w.heap.size w w') : AnR b r gq wq w0 w' gs es g st ss L :=
  ⟨h.res1.keep hb, h.res2.keep hb, h.gbk.keep hb, h.gv.below hb (Nat.le_of_lt h.gbk.lt), h.blk.keep hb, ownsRow_below h.row hb (Nat.le_refl _), h.apart, h.cur.keep hb, h.only.trans (Only.of_below hb _ _), h.at0, h.ord⟩
theorem AnR.alloc (h : AnR b r gq wq w0 w gs es g st ss L) (o : Obj) : AnR b r gq wq w0 (w.alloc o) gs es g st ss L := h.below ((Below.refl _ _).alloc (Nat.le_refl _) _)
theorem AnR.first (h : AnR b r gq wq w0 w gs es g st ss L) (s : Int) : AnR b r gq wq w0 (w.setCell ⟨wq, 0, none⟩ (.int .i64 s)) gs es g s ss L := by
  have hd := h.ord
  have hg := h.gbk.lt
  have ho := (Only.refl wq (wq + 1) w).setCell (p := ⟨wq, 0, none⟩) (.inl ⟨Nat.le_refl _, Nat.lt_succ_self _⟩) (.int .i64 s)
  exact ⟨h.res1.only ho (.inl (by omega)), h.res2.only ho (.inl (by omega)), h.gbk.only ho (.inl (by omega)), h.gv.only ho (by omega) (.inl (by omega)), h.blk.set_ 0 _, ownsRow_block h.row (fun g hg => Below.heap_setCell w ⟨wq, 0, none⟩ _ g (fun e => h.apart (by rw [hg, e]))), h.apart, h.cur.only ho (by omega), h.only.setCell (.inr (by have := h.at0; simp only; omega)) _, h.at0, hd⟩
theorem AnR.push {L' : List St} {k n c : Nat} (h : AnR b r gq wq w0 w gs es g st ss L) (hr : w'.ownsRow (gq + 1) 54 2 (.slice (some ⟨k, 0, none⟩) n c) L'.length (L'.flatMap cSt)) (hg : w.grownBy w' ss.ownBlock) (hat : ss.ownBlock = some k ∨ w.heap.size ≤ k) :
    (Blk w' gq 38 #[gs, es] ∧ Blk w' wq 41 #[.int .i64 st, ss]) ∧ AnR b r gq wq w0 (w'.setCell ⟨wq, 1, none⟩ (.slice (some ⟨k, 0, none⟩) n c)) gs es g st (.slice (some ⟨k, 0, none⟩) n c) L' := by
  have hd := h.ord
  have hq := h.blk.lt
  have hgl := h.gbk.lt
  have hb := own_below h.row (by omega) hg
  have hkq : k ≠ wq := by
    rcases hat with h1 | h1
    · exact fun e => h.apart (by rw [h1, e])
    · omega
  have hbq : Blk w' wq 41 #[.int .i64 st, ss] := (hg.block wq hq (fun e => h.apart e.symm)).trans h.blk
  have ho := (Only.refl wq (wq + 1) w').setCell (p := ⟨wq, 1, none⟩) (.inl ⟨Nat.le_refl _, Nat.lt_succ_self _⟩) (.slice (some ⟨k, 0, none⟩) n c)
  have hs := hb.size
  have hbg := h.gbk.below hb (by omega)
  exact ⟨⟨hbg, hbq⟩, (h.res1.below hb (by omega)).only ho (.inl (by omega)), (h.res2.below hb (by omega)).only ho (.inl (by omega)), hbg.only ho (.inl (by omega)), (h.gv.below hb (by omega)).only ho (by omega) (.inl (by omega)), hbq.set_ 1 _,
    ownsRow_block hr (fun g' hg' => by cases hg'; exact Below.heap_setCell w' ⟨wq, 1, none⟩ _ k hkq), (fun e => hkq (by cases e; rfl)), (h.cur.below hb (by omega)).only ho (by omega), (h.only.andBelow hb (by have := h.at0; omega)).setCell (.inr (by have := h.at0; simp only; omega)) _, h.at0, hd⟩
end
/-- how long the slice in a cell is -/
def lenOf (o : Option Value) : Nat := match o with | some (.slice _ n _) => n | _ => 0
theorem row_slice {lo k n : Nat} {e : TypeId} {v : Value} {cs : List Value} {w : World} (h : w.ownsRow lo e k v n cs) : ∃ A c, v = .slice A n c ∧ (0 < n → ∃ q, A = some ⟨q, 0, none⟩) := by
  obtain ⟨_, hs⟩ := h
  rcases hs with ⟨rfl, rfl⟩ | ⟨g, cap, cur, rfl, _⟩
  · exact ⟨none, 0, rfl, fun h => absurd h (Nat.lt_irrefl _)⟩
  · exact ⟨_, _, rfl, fun _ => ⟨g, rfl⟩⟩
def put4 (w : World) (r : Nat) (gs es : Value) (st : Int) (ss : Value) : World := ((((w.setCell ⟨r, 0, none⟩ gs).setCell ⟨r, 1, none⟩ es).setCell ⟨r + 1, 0, none⟩ (.int .i64 st)).setCell ⟨r + 1, 1, none⟩ ss).drew
theorem put4_only (w : World) (r : Nat) (gs es : Value) (st : Int) (ss : Value) : Only r (r + 2) w (put4 w r gs es st ss) := (((((Only.refl r (r + 2) w).setCell (p := ⟨r, 0, none⟩) (.inl (by simp only; omega)) _).setCell (p := ⟨r, 1, none⟩) (.inl (by simp only; omega)) _).setCell (p := ⟨r + 1, 0, none⟩) (.inl (by simp only; omega)) _).setCell (p := ⟨r + 1, 1, none⟩) (.inl (by simp only; omega)) _).drew
theorem AnR.done {b r gq wq : Nat} {w0 w : World} {gs es : Value} {g : Gr} {st : Int} {ss : Value} {L : List St} (h : AnR b r gq wq w0 w gs es g st ss L) :
    GrV w0.heap.size (put4 w r gs es st ss).heap.size (put4 w r gs es st ss) (.agg #[gs, es]) g ∧ WkV w0.heap.size (put4 w r gs es st ss).heap.size (put4 w r gs es st ss) (.agg #[.int .i64 st, ss]) (st, L) ∧ Cur (put4 w r gs es st ss) b ∧ Only b (b + 1) w0 (put4 w r gs es st ss) := by
  have hd := h.ord
  have ha := h.at0
  have hg := h.gbk.lt
  have ho : Only r (r + 2) w (put4 w r gs es st ss) := (((((Only.refl r (r + 2) w).setCell (p := ⟨r, 0, none⟩) (.inl (by simp only; omega)) _).setCell (p := ⟨r, 1, none⟩) (.inl (by simp only; omega)) _).setCell (p := ⟨r + 1, 0, none⟩) (.inl (by simp only; omega)) _).setCell (p := ⟨r + 1, 1, none⟩) (.inl (by simp only; omega)) _).drew
  have hs := ho.size
  refine ⟨(h.gv.only ho (by omega) (.inr (by omega))).mono (by omega) (by omega), ⟨_, rfl, ((Own.of_row (xs := L) (own_only h.row ho (by omega)) rfl rfl).sl cSt_len).mono (by omega) (Nat.le_refl _)⟩, h.cur.only ho (by omega), ?_⟩
  exact ((((h.only.setCell (p := ⟨r, 0, none⟩) (.inr (by simp only; omega)) _).setCell (p := ⟨r, 1, none⟩) (.inr (by simp only; omega)) _).setCell (p := ⟨r + 1, 0, none⟩) (.inr (by simp only; omega)) _).setCell (p := ⟨r + 1, 1, none⟩) (.inr (by simp only; omega)) _).drew
set_option maxHeartbeats 8000000 in
theorem l5Any_any (b : Nat) (w : World) (hc : Cur w b) :
    Calls Try.prog 47 #[.pointer (some ⟨b, 0, none⟩)] w fun e w' => ∃ vg vk g k, e = .returned (.tuple #[vg, vk]) ∧ (GrV w.heap.size w'.heap.size w' vg g ∧ WkV w.heap.size w'.heap.size w' vk k ∧ Cur w' b ∧ Only b (b + 1) w w') := by
  have hlt := hc.lt
  have hb0 := ((Below.refl w.heap.size w).alloc (Nat.le_refl _) (.cells #[.slice none 0 0, .slice none 0 0] 38)).alloc (by simp) (.cells #[.int .i64 0, .slice none 0 0] 41)
  have hb1 := (Blk.new w 38 #[.slice none 0 0, .slice none 0 0] _ rfl).alloc (.cells #[.int .i64 0, .slice none 0 0] 41)
  have hb2 := Blk.new (w.alloc (.cells #[.slice none 0 0, .slice none 0 0] 38)) 41 #[.int .i64 0, .slice none 0 0] (w.heap.size + 1) (by simp)
  go_enter Try.func47, Try.ntmps47
  go_wp2_with fail
  have hs0 : ((w.alloc (.cells #[.slice none 0 0, .slice none 0 0] 38)).alloc (.cells #[.int .i64 0, .slice none 0 0] 41)).heap.size = w.heap.size + 2 := by simp
  refine (l3Any_any b _ (hc.keep hb0)).mono ?_
  rintro e w1 ⟨v, g, rfl, hgv, ⟨-, hg2⟩, hc1, ho1⟩
  rw [hs0] at hgv
  have hb1' := hb1.only ho1 (.inr (by omega))
  have hb2' := hb2.only ho1 (.inr (by omega))
  have ho1' := (Only.of_below hb0 b (b + 1)).trans ho1
  have hs1 : w.heap.size + 2 ≤ w1.heap.size := by have := ho1.size; omega
  obtain ⟨A1, n1, c1, A2, n2, c2, rfl⟩ := hgv.shape
  have HN1 : Hid (n1 ≤ maxLen) := by
    obtain ⟨vs, es, hv, ⟨A, c, rfl, hl, hm, -⟩, -⟩ := hgv
    simp at hv
    obtain ⟨⟨-, h2, -⟩, -⟩ := hv
    exact Lib.hid (by omega)
  obtain ⟨gq, hgq⟩ : ∃ gq, gq = w1.heap.size := ⟨_, rfl⟩
  have hal := (Below.refl w1.heap.size w1).alloc (Nat.le_refl _) (.cells #[.slice A1 n1 c1, .slice A2 n2 c2] 38)
  have hsa : (w1.alloc (.cells #[.slice A1 n1 c1, .slice A2 n2 c2] 38)).heap.size = gq + 1 := by rw [hgq]; simp
  have hgb := Blk.new w1 38 #[.slice A1 n1 c1, .slice A2 n2 c2] gq hgq
  have hgv2 := hgv.below hal (Nat.le_refl _)
  have hb1a := hb1'.keep hal
  have hb2a := hb2'.keep hal
  have hca := hc1.keep hal
  have hoa := ho1'.trans (Only.of_below hal b (b + 1))
  rw [← hgq] at hgv2
  clear hb1 hb2 hb1' hb2' ho1 ho1' hc1 hb0 hs0 hgv hal
  go_wp2_with fail
  generalize w1.alloc (.cells #[.slice A1 n1 c1, .slice A2 n2 c2] 38) = W1 at *
  rw [← hgq] at hs1 ⊢
  clear hgq
  refine (l5Walk_any b _ g _ hca (hgv2.mono (by omega) (by omega)) (by omega)).mono ?_
  rintro e w2 ⟨v, k, rfl, ⟨ss, rfl, how⟩, hk6, hc2, ho2⟩
  obtain ⟨st, L⟩ := k
  obtain ⟨A3, n3, c3, rfl⟩ := how.shape
  simp only at how hk6 ⊢
  rw [hsa] at how
  have hs2 := ho2.size
  obtain ⟨wq, hwq⟩ : ∃ wq, wq = w2.heap.size := ⟨_, rfl⟩
  have hal2 := (Below.refl w2.heap.size w2).alloc (Nat.le_refl _) (.cells #[.int .i64 st, .slice A3 n3 c3] 41)
  have HR := Lib.hid (show AnR b w.heap.size gq wq w (w2.alloc (.cells #[.int .i64 st, .slice A3 n3 c3] 41)) _ _ g st _ L from
    ⟨(hb1a.only ho2 (.inr (by omega))).keep hal2, (hb2a.only ho2 (.inr (by omega))).keep hal2, (hgb.only ho2 (.inr (by omega))).keep hal2, (hgv2.only ho2 (by omega) (.inr (by omega))).below hal2 (by omega), Blk.new w2 _ _ _ hwq,
      ownsRow_below how.1 hal2 (Nat.le_refl _), (fun e => by have := how.2 _ e; omega), (hc2.keep hal2), (hoa.trans ho2).trans (Only.of_below hal2 _ _), rfl, by omega⟩)
  clear hal2 hc2 ho2 how hb1a hb2a hca hoa hgb hgv2 hs2 hsa hs1
  go_wp2_with fail
  rw [← hwq]
  clear hwq
  refine (l1Below_any b 10 _ HR.out.cur).mono ?_
  rintro e w3 ⟨t, rfl, -, hc3, ho3⟩
  have HR3 := Lib.hid (HR.out.move ho3 hc3)
  clear HR hc3 ho3
  by_cases ht0 : t = 0
  · subst ht0
    have x0 : w3.cell? ⟨gq, 0, none⟩ = some (.slice A1 n1 c1) := HR3.out.gbk.cell 0
    have x1 : w3.cell? ⟨gq, 1, none⟩ = some (.slice A2 n2 c2) := HR3.out.gbk.cell 1
    have hn1 : n1 ≤ maxLen := HN1.out
    go_wp2_with fail
    refine (l4Node_any b _ _ _ _ _ _ _ HR3.out.cur hn1).mono ?_
    rintro e w4 ⟨x, rfl, hc4, ho4⟩
    have HR4 := Lib.hid (HR3.out.move ho4 hc4)
    clear x0 x1 ho4 hc4 hn1 HR3
    have y0 : w4.cell? ⟨wq, 0, none⟩ = some (.int .i64 st) := HR4.out.blk.cell 0
    have f0 := HR4.out.blk.frozen 0
    have lq := HR4.out.blk.lt
    go_upto_region 13 with fail
    have HW := Lib.hid (HR4.out.first x)
    generalize w4.setCell ⟨wq, 0, none⟩ (.int .i64 x) = w5 at *
    clear y0 f0 lq HR4
    have x0 : w5.cell? ⟨gq, 0, none⟩ = some (.slice A1 n1 c1) := HW.out.gbk.cell 0
    have x1 : w5.cell? ⟨gq, 1, none⟩ = some (.slice A2 n2 c2) := HW.out.gbk.cell 1
    have y0 : w5.cell? ⟨wq, 0, none⟩ = some (.int .i64 x) := HW.out.blk.cell 0
    have y1 : w5.cell? ⟨wq, 1, none⟩ = some (.slice A3 n3 c3) := HW.out.blk.cell 1
    have z0 : w5.cell? ⟨w.heap.size, 0, none⟩ = some (.slice none 0 0) := HW.out.res1.cell 0
    have z1 : w5.cell? ⟨w.heap.size, 1, none⟩ = some (.slice none 0 0) := HW.out.res1.cell 1
    have z2 : w5.cell? ⟨w.heap.size + 1, 0, none⟩ = some (.int .i64 0) := HW.out.res2.cell 0
    have z3 : w5.cell? ⟨w.heap.size + 1, 1, none⟩ = some (.slice none 0 0) := HW.out.res2.cell 1
    have v0 := HW.out.res1.frozen 0
    have v1 := HW.out.res1.frozen 1
    have v2 := HW.out.res2.frozen 0
    have v3 := HW.out.res2.frozen 1
    have hlr := HW.out.res1.lt
    have hls := HW.out.res2.lt
    have hord := HW.out.ord
    have q1 : ¬ wq = w.heap.size := by omega
    have q2 : ¬ w.heap.size = wq := by omega
    have q3 : ¬ wq = w.heap.size + 1 := by omega
    have q4 : ¬ w.heap.size + 1 = wq := by omega
    have q5 : ¬ gq = w.heap.size := by omega
    have q6 : ¬ w.heap.size = gq := by omega
    have q7 : ¬ gq = w.heap.size + 1 := by omega
    have q8 : ¬ w.heap.size + 1 = gq := by omega
    clear hord
    go_wp2_with fail
    go_region
    have HD := HW.out.done
    go_wp2_with fail
    refine bodyPost_ret (v := .tuple #[.agg #[.slice A1 n1 c1, .slice A2 n2 c2], .agg #[.int .i64 x, .slice A3 n3 c3]]) (by simp [results, Try.results47, go_sem, z0, z1, z2, z3, v0, v1, v2, v3]) rfl ⟨_, _, g, _, rfl, HD⟩
  have hd0 : (t == 0) = false := by simpa using ht0
  by_cases ht1 : t = 1
  · subst ht1
    have x0 : w3.cell? ⟨gq, 0, none⟩ = some (.slice A1 n1 c1) := HR3.out.gbk.cell 0
    have x1 : w3.cell? ⟨gq, 1, none⟩ = some (.slice A2 n2 c2) := HR3.out.gbk.cell 1
    have y1 : w3.cell? ⟨wq, 1, none⟩ = some (.slice A3 n3 c3) := HR3.out.blk.cell 1
    go_wp2_with fail
    refine F_start 8 (fun w' => w'.cell? ⟨gq, 0, none⟩ = some (.slice A1 n1 c1) ∧ w'.cell? ⟨gq, 1, none⟩ = some (.slice A2 n2 c2) ∧ w'.cell? ⟨wq, 1, none⟩ = some (.slice A3 n3 c3)) (by kernel_rfl) (by exact ⟨x0, x1, y1⟩) (fun hS inv => ?_)
    refine F_take (i := 0) (v := ?_) rfl (by kernel_rfl) (by kernel_rfl) (by kernel_rfl) (fun _ _ _ h => h) inv (Or.inl ⟨by rfl, ?_⟩) (by assumption) (fun invn => ?_)
    rotate_left
    · (intro w hSw; (try dsimp only at hSw); go_simp; try with_reducible rfl)
    try simp only [List.getElem_toArray, List.getElem_cons_zero, List.getElem_cons_succ, Act.put, List.setIfInBounds_toArray, List.set_cons_zero, List.set_cons_succ]
    clear inv
    have inv := invn
    clear invn
    refine F_take (i := 1) (v := ?_) rfl (by kernel_rfl) (by kernel_rfl) (by kernel_rfl) (fun _ _ _ h => h) inv (Or.inl ⟨by rfl, ?_⟩) (by assumption) (fun invn => ?_)
    rotate_left
    · (intro w hSw; (try dsimp only at hSw); go_simp; try with_reducible rfl)
    try simp only [List.getElem_toArray, List.getElem_cons_zero, List.getElem_cons_succ, Act.put, List.setIfInBounds_toArray, List.set_cons_zero, List.set_cons_succ]
    clear inv
    have inv := invn
    clear invn
    refine F_take (i := 2) (v := ?_) rfl (by kernel_rfl) (by kernel_rfl) (by kernel_rfl) (fun _ _ _ h => h) inv (Or.inl ⟨by rfl, ?_⟩) (by assumption) (fun invn => ?_)
    rotate_left
    · (intro w hSw; (try dsimp only at hSw); go_simp; try with_reducible rfl)
    try simp only [List.getElem_toArray, List.getElem_cons_zero, List.getElem_cons_succ, Act.put, List.setIfInBounds_toArray, List.set_cons_zero, List.set_cons_succ]
    clear inv
    have inv := invn
    clear invn
    refine F_take (i := 3) (v := ?_) rfl (by kernel_rfl) (by kernel_rfl) (by kernel_rfl) (fun _ _ _ h => h) inv (Or.inl ⟨by rfl, ?_⟩) (by assumption) (fun invn => ?_)
    rotate_left
    · (intro w hSw; (try dsimp only at hSw); go_simp; try with_reducible rfl)
    try simp only [List.getElem_toArray, List.getElem_cons_zero, List.getElem_cons_succ, Act.put, List.setIfInBounds_toArray, List.set_cons_zero, List.set_cons_succ]
    clear inv
    have inv := invn
    clear invn
    have HRd := Lib.hid (show AnR b w.heap.size gq wq w w3.drew _ _ g st _ L from HR3.out.below ((Below.refl _ _).drew))
    clear HR3 x0 x1 y1
    refine F_one (i := 4) (by kernel_rfl) rfl rfl (by omega) inv (fun K hK => ?_)
    try simp only [List.getElem_toArray, List.getElem_cons_zero, List.getElem_cons_succ]
    go_simp
    refine (l4Step_any b _ g _ HRd.out.cur ((HRd.out.gv.mono (by have := HRd.out.ord; omega) (Nat.le_of_lt HRd.out.gbk.lt)))).mono ?_
    rintro e w4 ⟨s, rfl, hc4, ho4⟩
    obtain ⟨s1, s2⟩ := s
    have HR4 := Lib.hid (HRd.out.move ho4 hc4)
    clear ho4 hc4 HRd
    refine hK.out _ _ (⟨HR4.out.gbk.cell 0, HR4.out.gbk.cell 1, HR4.out.blk.cell 1⟩) (fun hSn invn => ?_)
    try simp only [List.getElem_toArray, List.getElem_cons_zero, List.getElem_cons_succ, Act.put, List.setIfInBounds_toArray, List.set_cons_zero, List.set_cons_succ]
    clear hK K inv hS
    have inv := invn
    have hS := hSn
    clear invn hSn
    refine F_one (i := 5) (by kernel_rfl) rfl rfl (by omega) inv (fun K hK => ?_)
    try simp only [List.getElem_toArray, List.getElem_cons_zero, List.getElem_cons_succ]
    go_simp
    have HR5 := Lib.hid (HR4.out.alloc (.cells #[.int .i64 s1, .bool s2] 54))
    refine hK.out _ _ (⟨HR5.out.gbk.cell 0, HR5.out.gbk.cell 1, HR5.out.blk.cell 1⟩) (fun hSn invn => ?_)
    try simp only [List.getElem_toArray, List.getElem_cons_zero, List.getElem_cons_succ, Act.put, List.setIfInBounds_toArray, List.set_cons_zero, List.set_cons_succ]
    clear hK K inv hS
    have inv := invn
    have hS := hSn
    clear invn hSn
    refine F_one (i := 6) (by kernel_rfl) rfl rfl (by omega) inv (fun K hK => ?_)
    try simp only [List.getElem_toArray, List.getElem_cons_zero, List.getElem_cons_succ]
    refine op_append1 cSt elStep rfl _ _ (by rfl) (gq + 1) _ L (s1, s2) 1 _ (by rfl) HR5.out.row (by first | rfl | simp) (heap_alloc_new _ _) rfl (cSt_one _) (by omega) (by omega) (by have h1 := HR5.out.ord; have h2 := HR5.out.blk.lt; omega) ?_
    intro g2 cp2 w9 hown3 hgr3 hat3 hlt3
    have HP := Lib.hid (HR5.out.push hown3 hgr3 hat3)
    clear hown3 hgr3 hat3
    refine hK.out _ _ (⟨HP.out.1.1.cell 0, HP.out.1.1.cell 1, HP.out.1.2.cell 1⟩) (fun hSn invn => ?_)
    try simp only [List.getElem_toArray, List.getElem_cons_zero, List.getElem_cons_succ, Act.put, List.setIfInBounds_toArray, List.set_cons_zero, List.set_cons_succ]
    clear hK K inv hS
    have inv := invn
    have hS := hSn
    clear invn hSn
    refine F_take (i := 7) (v := ?_) rfl (by kernel_rfl) (by kernel_rfl) (by kernel_rfl) (fun _ _ _ h => h) inv (Or.inl ⟨by rfl, ?_⟩) (by assumption) (fun invn => ?_)
    rotate_left
    · (intro w hSw; (try dsimp only at hSw); go_simp; try with_reducible rfl)
    try simp only [List.getElem_toArray, List.getElem_cons_zero, List.getElem_cons_succ, Act.put, List.setIfInBounds_toArray, List.set_cons_zero, List.set_cons_succ]
    clear inv
    have inv := invn
    clear invn
    have y1 := HP.out.1.2.frozen 1
    have hlq := HP.out.1.2.lt
    refine F_last (i := 8) (by kernel_rfl) rfl rfl (by omega) (by kernel_rfl) (fun K hK => ?_)
    go_simp
    refine hK _ _ ?_
    clear hK K inv hS
    have HW := Lib.hid HP.out.2
    clear HP y1 hlq HR4 HR5
    generalize w9.setCell ⟨wq, 1, none⟩ (.slice (some ⟨g2, 0, none⟩) (L.length + 1) cp2) = w10 at *
    have x0 : w10.cell? ⟨gq, 0, none⟩ = some (.slice A1 n1 c1) := HW.out.gbk.cell 0
    have x1 : w10.cell? ⟨gq, 1, none⟩ = some (.slice A2 n2 c2) := HW.out.gbk.cell 1
    have y0 : w10.cell? ⟨wq, 0, none⟩ = some (.int .i64 st) := HW.out.blk.cell 0
    have y1 : w10.cell? ⟨wq, 1, none⟩ = some (.slice (some ⟨g2, 0, none⟩) (L.length + 1) cp2) := HW.out.blk.cell 1
    have z0 : w10.cell? ⟨w.heap.size, 0, none⟩ = some (.slice none 0 0) := HW.out.res1.cell 0
    have z1 : w10.cell? ⟨w.heap.size, 1, none⟩ = some (.slice none 0 0) := HW.out.res1.cell 1
    have z2 : w10.cell? ⟨w.heap.size + 1, 0, none⟩ = some (.int .i64 0) := HW.out.res2.cell 0
    have z3 : w10.cell? ⟨w.heap.size + 1, 1, none⟩ = some (.slice none 0 0) := HW.out.res2.cell 1
    have v0 := HW.out.res1.frozen 0
    have v1 := HW.out.res1.frozen 1
    have v2 := HW.out.res2.frozen 0
    have v3 := HW.out.res2.frozen 1
    have hlr := HW.out.res1.lt
    have hls := HW.out.res2.lt
    have hord := HW.out.ord
    have q1 : ¬ wq = w.heap.size := by omega
    have q2 : ¬ w.heap.size = wq := by omega
    have q3 : ¬ wq = w.heap.size + 1 := by omega
    have q4 : ¬ w.heap.size + 1 = wq := by omega
    have q5 : ¬ gq = w.heap.size := by omega
    have q6 : ¬ w.heap.size = gq := by omega
    have q7 : ¬ gq = w.heap.size + 1 := by omega
    have q8 : ¬ w.heap.size + 1 = gq := by omega
    clear hord
    go_wp2_with fail
    go_region
    have HD := HW.out.done
    go_wp2_with fail
    refine bodyPost_ret (v := .tuple #[.agg #[.slice A1 n1 c1, .slice A2 n2 c2], .agg #[.int .i64 st, .slice (some ⟨g2, 0, none⟩) (L.length + 1) cp2]]) (by simp [results, Try.results47, go_sem, z0, z1, z2, z3, v0, v1, v2, v3]) rfl ⟨_, _, g, _, rfl, HD⟩
  have hd1 : (t == 1) = false := by simpa using ht1
  by_cases ht2 : t = 2
  · subst ht2
    go_wp2_with fail
    refine (l1Below_any b 5 _ HR3.out.cur).mono ?_
    rintro e w4 ⟨z, rfl, ⟨hz0, -, hz1⟩, hc4, ho4⟩
    have hz1 := hz1 (by omega)
    have HR4 := Lib.hid (HR3.out.move ho4 hc4)
    clear HR3 hc4 ho4
    go_wp2_with fail
    go_loopw [7] (fun xx wr => ∃ (ss : Value) (M : List St), M.length ≤ 62 ∧ AnR b w.heap.size gq wq w wr (.slice A1 n1 c1) (.slice A2 n2 c2) g st ss M) (fun _ wr => 63 - lenOf (wr.cell? ⟨wq, 1, none⟩))
    case atStart => exact ⟨_, L, by omega, HR4.out⟩
    case round =>
      obtain ⟨ss, M, hM, hA⟩ := hrel
      have HA := Lib.hid hA
      obtain ⟨A4, c4, rfl, hA4⟩ := row_slice hA.row
      obtain ⟨m, hm⟩ : ∃ m, m = M.length := ⟨_, rfl⟩
      rw [← hm] at HA hM hA4
      have HM := Lib.hid hm
      have y9 : wr.cell? ⟨wq, 1, none⟩ = some (.slice A4 m c4) := HA.out.blk.cell 1
      clear hA hm HR4
      rcases Nat.eq_zero_or_pos m with rfl | hm0
      · clear y9
        have x0 : wr.cell? ⟨gq, 0, none⟩ = some (.slice A1 n1 c1) := HA.out.gbk.cell 0
        have x1 : wr.cell? ⟨gq, 1, none⟩ = some (.slice A2 n2 c2) := HA.out.gbk.cell 1
        have y0 : wr.cell? ⟨wq, 0, none⟩ = some (.int .i64 st) := HA.out.blk.cell 0
        have y1 : wr.cell? ⟨wq, 1, none⟩ = some (.slice A4 0 c4) := HA.out.blk.cell 1
        have z0 : wr.cell? ⟨w.heap.size, 0, none⟩ = some (.slice none 0 0) := HA.out.res1.cell 0
        have z1 : wr.cell? ⟨w.heap.size, 1, none⟩ = some (.slice none 0 0) := HA.out.res1.cell 1
        have z2 : wr.cell? ⟨w.heap.size + 1, 0, none⟩ = some (.int .i64 0) := HA.out.res2.cell 0
        have z3 : wr.cell? ⟨w.heap.size + 1, 1, none⟩ = some (.slice none 0 0) := HA.out.res2.cell 1
        have v0 := HA.out.res1.frozen 0
        have v1 := HA.out.res1.frozen 1
        have v2 := HA.out.res2.frozen 0
        have v3 := HA.out.res2.frozen 1
        have hlr := HA.out.res1.lt
        have hls := HA.out.res2.lt
        have hord := HA.out.ord
        have q1 : ¬ wq = w.heap.size := by omega
        have q2 : ¬ w.heap.size = wq := by omega
        have q3 : ¬ wq = w.heap.size + 1 := by omega
        have q4 : ¬ w.heap.size + 1 = wq := by omega
        have q5 : ¬ gq = w.heap.size := by omega
        have q6 : ¬ w.heap.size = gq := by omega
        have q7 : ¬ gq = w.heap.size + 1 := by omega
        have q8 : ¬ w.heap.size + 1 = gq := by omega
        clear hord
        go_wp2_with fail
        go_region
        have HD := HA.out.done
        go_wp2_with fail
        refine bodyPost_ret (v := .tuple #[.agg #[.slice A1 n1 c1, .slice A2 n2 c2], .agg #[.int .i64 st, .slice A4 0 c4]]) (by simp [results, Try.results47, go_sem, z0, z1, z2, z3, v0, v1, v2, v3]) rfl ⟨_, _, g, _, rfl, HD⟩
      · obtain ⟨k4, rfl⟩ := hA4 hm0
        obtain ⟨j, rfl⟩ : ∃ j, m = j + 1 := ⟨m - 1, by omega⟩
        by_cases hmz : (j : Int) + 1 < 58 + z
        · have hj : j < M.length := by have := HM.out; omega
          have hxj : M[j]? = some M[j] := List.getElem?_eq_getElem hj
          generalize M[j] = s at hxj
          obtain ⟨s1, s2⟩ := s
          have hrow : wr.ownsRow (gq + 1) 54 2 (.slice (some ⟨k4, 0, none⟩) (j + 1) c4) (j + 1) (M.flatMap cSt) := by
            have h := HA.out.row
            rw [← HM.out] at h
            exact h
          have e0 := World.ownsRow.cellAt hrow (j * 2 + 0) (by omega)
          have e1 := World.ownsRow.cellAt hrow (j * 2 + 1) (by omega)
          clear hrow
          rw [flat_at (E := cSt) (k := 2) cSt_len hxj 0 _ rfl] at e0
          rw [flat_at (E := cSt) (k := 2) cSt_len hxj 1 _ rfl] at e1
          simp only [Nat.add_zero] at e0
          have hal := (Below.refl wr.heap.size wr).alloc (Nat.le_refl _) (.cells #[.int .i64 s1, .bool s2] 54)
          have HA5 := Lib.hid (HA.out.below hal)
          have HBS := Lib.hid (Blk.new wr 54 #[.int .i64 s1, .bool s2] _ rfl)
          clear hxj hj
          have hj0 : 0 < (j : Int) + 1 := by omega
          go_upto_region 12 with fail
          clear e0 e1 y9
          generalize wr.alloc (.cells #[.int .i64 s1, .bool s2] 54) = w5 at *
          have d0 : w5.cell? ⟨wr.heap.size, 0, none⟩ = some (.int .i64 s1) := HBS.out.cell 0
          have d1 : w5.cell? ⟨wr.heap.size, 1, none⟩ = some (.bool s2) := HBS.out.cell 1
          have y1 : w5.cell? ⟨wq, 1, none⟩ = some (.slice (some ⟨k4, 0, none⟩) (j + 1) c4) := HA5.out.blk.cell 1
          have hls := HBS.out.lt
          clear hal
          go_wp2_with (at_builtin; (refine wpList_append2 cSt elStep rfl _ _ (by rfl) (gq + 1) _ M (s1, !s2) 1 _ (by rfl) (HA5.out.row.alloc _) (by rfl) (heap_alloc_new _ _) rfl (cSt_one _) (by have := HM.out; omega) (by omega) (by have h1 := HA5.out.blk.lt; have h2 := HA5.out.ord; simp; omega) ?_); intro g2 cp2 w9 hown3 hgr3 hat3 hlt3
                       have HP := Lib.hid ((HA5.out.alloc (.cells #[.int .i64 s1, .bool (!s2)] 54)).push hown3 hgr3 hat3)
                       have f1 := HP.out.1.2.frozen 1
                       have y9 : w9.cell? ⟨wq, 1, none⟩ = some (.slice (some ⟨k4, 0, none⟩) (j + 1) c4) := HP.out.1.2.cell 1
                       have lp := HP.out.1.2.lt
                       clear hown3 hgr3 hat3)
          have HW := Lib.hid HP.out.2
          have hyn := HW.out.blk.cell 1
          have HYN := Lib.hid hyn
          clear hyn f1 y9 lp d0 d1 y1 HP
          go_roundw
          case rel => exact ⟨_, _, by have := HM.out; simp; omega, HW.out⟩
          case measure =>
            have hyo := HA.out.blk.cell 1
            have hyn : _ = some (Value.slice (some ⟨g2, 0, none⟩) (M.length + 1) cp2) := HYN.out
            rw [hyn, show wr.cell? ⟨wq, 1, none⟩ = some (.slice (some ⟨k4, 0, none⟩) (j + 1) c4) from hyo]
            have := HM.out
            simp only [lenOf]
            omega
        · clear y9
          have x0 : wr.cell? ⟨gq, 0, none⟩ = some (.slice A1 n1 c1) := HA.out.gbk.cell 0
          have x1 : wr.cell? ⟨gq, 1, none⟩ = some (.slice A2 n2 c2) := HA.out.gbk.cell 1
          have y0 : wr.cell? ⟨wq, 0, none⟩ = some (.int .i64 st) := HA.out.blk.cell 0
          have y1 : wr.cell? ⟨wq, 1, none⟩ = some (.slice (some ⟨k4, 0, none⟩) (j + 1) c4) := HA.out.blk.cell 1
          have z0 : wr.cell? ⟨w.heap.size, 0, none⟩ = some (.slice none 0 0) := HA.out.res1.cell 0
          have z1 : wr.cell? ⟨w.heap.size, 1, none⟩ = some (.slice none 0 0) := HA.out.res1.cell 1
          have z2 : wr.cell? ⟨w.heap.size + 1, 0, none⟩ = some (.int .i64 0) := HA.out.res2.cell 0
          have z3 : wr.cell? ⟨w.heap.size + 1, 1, none⟩ = some (.slice none 0 0) := HA.out.res2.cell 1
          have v0 := HA.out.res1.frozen 0
          have v1 := HA.out.res1.frozen 1
          have v2 := HA.out.res2.frozen 0
          have v3 := HA.out.res2.frozen 1
          have hlr := HA.out.res1.lt
          have hls := HA.out.res2.lt
          have hord := HA.out.ord
          have q1 : ¬ wq = w.heap.size := by omega
          have q2 : ¬ w.heap.size = wq := by omega
          have q3 : ¬ wq = w.heap.size + 1 := by omega
          have q4 : ¬ w.heap.size + 1 = wq := by omega
          have q5 : ¬ gq = w.heap.size := by omega
          have q6 : ¬ w.heap.size = gq := by omega
          have q7 : ¬ gq = w.heap.size + 1 := by omega
          have q8 : ¬ w.heap.size + 1 = gq := by omega
          clear hord
          go_wp2_with fail
          go_region
          have HD := HA.out.done
          go_wp2_with fail
          refine bodyPost_ret (v := .tuple #[.agg #[.slice A1 n1 c1, .slice A2 n2 c2], .agg #[.int .i64 st, .slice (some ⟨k4, 0, none⟩) (j + 1) c4]]) (by simp [results, Try.results47, go_sem, z0, z1, z2, z3, v0, v1, v2, v3]) rfl ⟨_, _, g, _, rfl, HD⟩
  · have hd2 : (t == 2) = false := by simpa using ht2
    have x0 : w3.cell? ⟨gq, 0, none⟩ = some (.slice A1 n1 c1) := HR3.out.gbk.cell 0
    have x1 : w3.cell? ⟨gq, 1, none⟩ = some (.slice A2 n2 c2) := HR3.out.gbk.cell 1
    have y0 : w3.cell? ⟨wq, 0, none⟩ = some (.int .i64 st) := HR3.out.blk.cell 0
    have y1 : w3.cell? ⟨wq, 1, none⟩ = some (.slice A3 n3 c3) := HR3.out.blk.cell 1
    have z0 : w3.cell? ⟨w.heap.size, 0, none⟩ = some (.slice none 0 0) := HR3.out.res1.cell 0
    have z1 : w3.cell? ⟨w.heap.size, 1, none⟩ = some (.slice none 0 0) := HR3.out.res1.cell 1
    have z2 : w3.cell? ⟨w.heap.size + 1, 0, none⟩ = some (.int .i64 0) := HR3.out.res2.cell 0
    have z3 : w3.cell? ⟨w.heap.size + 1, 1, none⟩ = some (.slice none 0 0) := HR3.out.res2.cell 1
    have v0 := HR3.out.res1.frozen 0
    have v1 := HR3.out.res1.frozen 1
    have v2 := HR3.out.res2.frozen 0
    have v3 := HR3.out.res2.frozen 1
    have hlr := HR3.out.res1.lt
    have hls := HR3.out.res2.lt
    have hord := HR3.out.ord
    have q1 : ¬ wq = w.heap.size := by omega
    have q2 : ¬ w.heap.size = wq := by omega
    have q3 : ¬ wq = w.heap.size + 1 := by omega
    have q4 : ¬ w.heap.size + 1 = wq := by omega
    have q5 : ¬ gq = w.heap.size := by omega
    have q6 : ¬ w.heap.size = gq := by omega
    have q7 : ¬ gq = w.heap.size + 1 := by omega
    have q8 : ¬ w.heap.size + 1 = gq := by omega
    clear hord
    go_wp2_with fail
    go_region
    have HD := HR3.out.done
    go_wp2_with fail
    refine bodyPost_ret (v := .tuple #[.agg #[.slice A1 n1 c1, .slice A2 n2 c2], .agg #[.int .i64 st, .slice A3 n3 c3]]) (by simp [results, Try.results47, go_sem, z0, z1, z2, z3, v0, v1, v2, v3]) rfl ⟨_, _, g, _, rfl, HD⟩
set_option maxHeartbeats 4000000 in
theorem drawCutCycles_any (v : Value) (bs : List Int) (w : World) (hv : SlI 0 w.heap.size w cU 1 v bs) :
    Calls Try.prog 15 #[v] w fun e w' => ∃ vg vk g k, e = .returned (.tuple #[vg, vk]) ∧ (GrV w.heap.size w'.heap.size w' vg g ∧ WkV w.heap.size w'.heap.size w' vk k ∧ Below w.heap.size w w') := by
  have HV := Lib.hid hv
  have hb0 := ((Below.refl w.heap.size w).alloc (Nat.le_refl _) (.cells #[.slice none 0 0, .slice none 0 0] 38)).alloc (by simp) (.cells #[.int .i64 0, .slice none 0 0] 41)
  have hb1 := (Blk.new w 38 #[.slice none 0 0, .slice none 0 0] _ rfl).alloc (.cells #[.int .i64 0, .slice none 0 0] 41)
  have hb2 := Blk.new (w.alloc (.cells #[.slice none 0 0, .slice none 0 0] 38)) 41 #[.int .i64 0, .slice none 0 0] (w.heap.size + 1) (by simp)
  have hs0 : ((w.alloc (.cells #[.slice none 0 0, .slice none 0 0] 38)).alloc (.cells #[.int .i64 0, .slice none 0 0] 41)).heap.size = w.heap.size + 2 := by simp
  obtain ⟨A, n, c, rfl⟩ := hv.shape
  clear hv
  go_enter Try.func15, Try.ntmps15
  go_wp2_with fail
  refine (l1New_any _ bs _ ((HV.out.below hb0 (Nat.le_refl _)).mono (Nat.le_refl _) hb0.size)).mono ?_
  rintro e w1 ⟨b, rfl, hbl, hc1, hbw⟩
  have hb1' := hb1.keep hbw
  have hb2' := hb2.keep hbw
  have hb3 := below_trans hb0 hbw
  rw [hs0] at hbl
  have hw1 : w.heap.size + 2 ≤ w1.heap.size := by have := hbw.size; omega
  clear hbw hb1 hb2 hb0 hs0
  go_wp2_with fail
  refine (l5Any_any b _ hc1).mono ?_
  rintro e w2 ⟨vg, vk, g, k, rfl, hgv, hkv, hc2, ho2⟩
  have hlb := hc1.lt
  have hb1 := hb1'.only ho2 (.inl (by omega))
  have hb2 := hb2'.only ho2 (.inl (by omega))
  have hb4 := hb3.trans (ho2.below (B := w.heap.size) (by omega) hb3.size)
  have hs2 := ho2.size
  obtain ⟨A1, n1, c1, A2, n2, c2, rfl⟩ := hgv.shape
  obtain ⟨st, L⟩ := k
  obtain ⟨A3, n3, c3, rfl⟩ := hkv.shape
  simp only at hkv ⊢
  clear hb1' hb2' hb3 hc1 hc2 ho2
  have HGV := Lib.hid hgv
  have HKV := Lib.hid hkv
  have HB4 := Lib.hid hb4
  have HB1 := Lib.hid hb1
  have HB2 := Lib.hid hb2
  clear hgv hkv hb4 hb1 hb2
  go_upto_region 2 with fail
  have hal : Below w2.heap.size w2 ((w2.alloc (.cells #[.slice A1 n1 c1, .slice A2 n2 c2] 38)).alloc (.cells #[.int .i64 st, .slice A3 n3 c3] 41)) := ((Below.refl _ _).alloc (Nat.le_refl _) _).alloc (by simp) _
  have bg := (Blk.new w2 38 #[.slice A1 n1 c1, .slice A2 n2 c2] _ rfl).alloc (.cells #[.int .i64 st, .slice A3 n3 c3] 41)
  have bk := Blk.new (w2.alloc (.cells #[.slice A1 n1 c1, .slice A2 n2 c2] 38)) 41 #[.int .i64 st, .slice A3 n3 c3] (w2.heap.size + 1) (by simp)
  generalize ((w2.alloc (.cells #[.slice A1 n1 c1, .slice A2 n2 c2] 38)).alloc (.cells #[.int .i64 st, .slice A3 n3 c3] 41)) = W3 at *
  have hs3 := hal.size
  have b1 := HB1.out.keep hal
  have b2 := HB2.out.keep hal
  have x0 : W3.cell? ⟨w2.heap.size, 0, none⟩ = some (.slice A1 n1 c1) := bg.cell 0
  have x1 : W3.cell? ⟨w2.heap.size, 1, none⟩ = some (.slice A2 n2 c2) := bg.cell 1
  have y0 : W3.cell? ⟨w2.heap.size + 1, 0, none⟩ = some (.int .i64 st) := bk.cell 0
  have y1 : W3.cell? ⟨w2.heap.size + 1, 1, none⟩ = some (.slice A3 n3 c3) := bk.cell 1
  have z0 : W3.cell? ⟨w.heap.size, 0, none⟩ = some (.slice none 0 0) := b1.cell 0
  have z1 : W3.cell? ⟨w.heap.size, 1, none⟩ = some (.slice none 0 0) := b1.cell 1
  have z2 : W3.cell? ⟨w.heap.size + 1, 0, none⟩ = some (.int .i64 0) := b2.cell 0
  have z3 : W3.cell? ⟨w.heap.size + 1, 1, none⟩ = some (.slice none 0 0) := b2.cell 1
  have v0 := b1.frozen 0
  have v1 := b1.frozen 1
  have v2 := b2.frozen 0
  have v3 := b2.frozen 1
  have hlr := b1.lt
  have hls := b2.lt
  have hwl := HB2.out.lt
  have q1 : ¬ w2.heap.size + 1 = w.heap.size := by omega
  have q2 : ¬ w.heap.size = w2.heap.size + 1 := by omega
  have q3 : ¬ w2.heap.size = w.heap.size := by omega
  have q4 : ¬ w.heap.size = w2.heap.size := by omega
  have q5 : ¬ w2.heap.size = w.heap.size + 1 := by omega
  have q6 : ¬ w.heap.size + 1 = w2.heap.size := by omega
  have HAL := Lib.hid hal
  clear bg bk b1 b2 hal
  go_region
  go_wp2_with fail
  have ho : Only w.heap.size (w.heap.size + 2) W3 (put4 W3 w.heap.size (.slice A1 n1 c1) (.slice A2 n2 c2) st (.slice A3 n3 c3)) := put4_only _ _ _ _ _ _
  have hs4 := ho.size
  refine bodyPost_ret (v := .tuple #[.agg #[.slice A1 n1 c1, .slice A2 n2 c2], .agg #[.int .i64 st, .slice A3 n3 c3]]) (by simp [results, Try.results15, go_sem, z0, z1, z2, z3, v0, v1, v2, v3]) rfl ⟨_, _, g, (st, L), rfl, ?_⟩
  exact ⟨((HGV.out.below HAL.out (Nat.le_refl _)).only ho hs3 (.inr (by omega))).mono (by omega) (Nat.le_trans hs3 hs4), ((HKV.out.below HAL.out (Nat.le_refl _)).only ho hs3 (.inr (by omega))).mono (by omega) (Nat.le_trans hs3 hs4), (HB4.out.trans (HAL.out.mono (by omega))).trans (ho.below (Nat.le_refl _) (by omega))⟩
end Go.Proofs.Ytallglnmeeahiaa

/- Plain: the nodes of a walk and when it is one of a graph. -/
namespace Go.Proofs.Ytallglnmeeahiaa
set_option linter.unusedVariables false
set_option linter.unusedSimpArgs false

def nodesL (g : Gr) (k : Wk) : List Int := k.1 :: k.2.map (stepTo g)
theorem nodesL_len (g : Gr) (k : Wk) : (nodesL g k).length = k.2.length + 1 := by simp [nodesL]
theorem nodesL_succ {g : Gr} {k : Wk} {i : Nat} {s : St} (h : k.2[i]? = some s) : (nodesL g k).take (i + 1 + 1) = (nodesL g k).take (i + 1) ++ [stepTo g s] := by
  refine take_snoc ?_
  rw [nodesL, List.getElem?_cons_succ, List.getElem?_map, h]; rfl
theorem nodesL_next {g : Gr} {k : Wk} {i : Nat} {s : St} (h : k.2[i]? = some s) : (nodesL g k)[i + 1]? = some (stepTo g s) := by rw [nodesL, List.getElem?_cons_succ, List.getElem?_map, h]; rfl
/-- the step leads from the node that the walk is at -/
def linkAt (g : Gr) (k : Wk) (i : Nat) : Bool := stepFrom g (k.2.getD i (0, false)) == (nodesL g k).getD i 0
def walkOk (g : Gr) (k : Wk) : Bool := grOk g && wi k.1 0 ((g.vals.length : Int) - 1) && decide (k.2.length ≤ 60) && (List.range k.2.length).all (linkAt g k)
/-- the nodes of a walk of the graph; none of another -/
def nodesOut (g : Gr) (k : Wk) : List Int := if walkOk g k = true then nodesL g k else []
theorem nodesOut_no {g : Gr} {k : Wk} (h : walkOk g k = false) : nodesOut g k = [] := by rw [nodesOut, h]; rfl
theorem nodesOut_yes {g : Gr} {k : Wk} (h : walkOk g k = true) : nodesOut g k = nodesL g k := by rw [nodesOut, h]; rfl
theorem linkAt_eq {g : Gr} {k : Wk} {i : Nat} {s : St} {x : Int} (h : k.2[i]? = some s) (hx : (nodesL g k)[i]? = some x) : linkAt g k i = (stepFrom g s == x) := by
  rw [linkAt, List.getD_eq_getElem?_getD, h, List.getD_eq_getElem?_getD, hx]; rfl
theorem walkOk_long {g : Gr} {k : Wk} (h : 60 < k.2.length) : walkOk g k = false := by
  rw [walkOk, show decide (k.2.length ≤ 60) = false by simp; omega]
  simp
def walkAllowed (g : Gr) (c : Int) (k : Wk) : Bool := k.2.all (stepAllowed g c) && wi c 0 4 && walkOk g k
end Go.Proofs.Ytallglnmeeahiaa

/- Plain: a walk without its cycles. -/
namespace Go.Proofs.Ytallglnmeeahiaa
set_option linter.unusedVariables false
set_option linter.unusedSimpArgs false

theorem idxFrom_cases (x : Int) : ∀ (zs : List Int) (i : Nat), Lib.idxFrom zs x i = -1 ∨ ∃ k, k < zs.length ∧ Lib.idxFrom zs x i = ((i + k : Nat) : Int) ∧ zs[k]? = some x
  | [], _ => .inl rfl
  | z :: zs, i => by
    rw [Lib.idxFrom]
    by_cases h : z = x
    · rw [if_pos h]
      exact .inr ⟨0, by simp, rfl, by simp [h]⟩
    · rw [if_neg h]
      rcases idxFrom_cases x zs (i + 1) with e | ⟨k, hk, e, hz⟩
      · exact .inl e
      · exact .inr ⟨k + 1, by simpa using hk, by rw [e]; congr 1; omega, by simpa using hz⟩
theorem idxOf_cases (zs : List Int) (x : Int) : Lib.idxOf zs x = -1 ∨ ∃ k, k < zs.length ∧ Lib.idxOf zs x = (k : Int) ∧ zs[k]? = some x := by
  rcases idxFrom_cases x zs 0 with e | ⟨k, hk, e, hz⟩
  · exact .inl e
  · exact .inr ⟨k, hk, by rw [Lib.idxOf, e, Nat.zero_add], hz⟩
/-- one step more: the steps kept and the nodes that they lead through -/
def cutStep (p : List St × List Int) (s : St) (n : Int) : List St × List Int :=
  if 0 ≤ Lib.idxOf p.2 n then ((p.1 ++ [s]).take (Lib.idxOf p.2 n).toNat, p.2.take (Lib.idxOf p.2 n).toNat ++ [n]) else (p.1 ++ [s], p.2 ++ [n])
def cutAt (g : Gr) (k : Wk) : Nat → List St × List Int
  | 0 => ([], [k.1])
  | i + 1 => cutStep (cutAt g k i) (k.2.getD i (0, false)) ((nodesL g k).getD (i + 1) 0)
def cutOf (g : Gr) (k : Wk) : Wk := if walkOk g k = true then (k.1, (cutAt g k k.2.length).1) else (0, [])
theorem cutStep_no {p : List St × List Int} {s : St} {n : Int} (h : Lib.idxOf p.2 n = -1) : cutStep p s n = (p.1 ++ [s], p.2 ++ [n]) := by rw [cutStep, h, if_neg (by omega)]
theorem cutStep_yes {p : List St × List Int} {s : St} {n : Int} {k : Nat} (h : Lib.idxOf p.2 n = (k : Int)) : cutStep p s n = ((p.1 ++ [s]).take k, p.2.take k ++ [n]) := by rw [cutStep, h, if_pos (by omega), Int.toNat_natCast]
theorem cutStep_len {p : List St × List Int} {s : St} {n : Int} (h : p.2.length = p.1.length + 1) : (cutStep p s n).2.length = (cutStep p s n).1.length + 1 ∧ (cutStep p s n).1.length ≤ p.1.length + 1 := by
  rcases idxOf_cases p.2 n with e | ⟨k, hk, e, _⟩
  · rw [cutStep_no e]; simp [h]
  · rw [cutStep_yes e]
    simp only [List.length_take, List.length_append, List.length_cons, List.length_nil]
    omega
theorem cutAt_len (g : Gr) (k : Wk) (i : Nat) : (cutAt g k i).2.length = (cutAt g k i).1.length + 1 ∧ (cutAt g k i).1.length ≤ i := by
  induction i with
  | zero => exact ⟨rfl, Nat.le_refl _⟩
  | succ i ih =>
    have h := cutStep_len (s := k.2.getD i (0, false)) (n := (nodesL g k).getD (i + 1) 0) ih.1
    exact ⟨h.1, by rw [cutAt]; omega⟩
theorem cutOf_len (g : Gr) (k : Wk) : (cutOf g k).2.length ≤ 60 := by
  unfold cutOf
  split
  · rename_i h
    have := (cutAt_len g k k.2.length).2
    have h2 : k.2.length ≤ 60 := by
      rcases Nat.lt_or_ge 60 k.2.length with h3 | h3
      · rw [walkOk_long h3] at h; cases h
      · exact h3
    simp only; omega
  · simp
end Go.Proofs.Ytallglnmeeahiaa

/- The program's functions on automata. -/
namespace Go.Proofs.Ytallglnmeeahiaa
set_option linter.unusedVariables false
set_option linter.unusedSimpArgs false
open Go.ChangeShapes Go.WideShapes Go.ChangeAt Go.RowKit
attribute [local go_sem] ext_cell ext_frozen ext_lt ext_lt1 ext_lt2 ext_lt3 ltn2 ltn3 ltn13 lts1 lts2 lts3

theorem within_any (n a b : Int) (w : World) : Calls Try.prog 39 #[.int .i64 n, .int .i64 a, .int .i64 b] w fun e w' => e = .returned (.bool (wi n a b)) ∧ w' = w := by
  unfold wi
  by_cases h1 : a ≤ n
  · have e1 : decide (a ≤ n) = true := by simpa using h1
    by_cases h2 : n ≤ b
    · go_enter Try.func39, Try.ntmps39
      go_wp2
      go_ret
      exact ⟨by simp [h1, h2], rfl⟩
    · go_enter Try.func39, Try.ntmps39
      go_wp2
      go_ret
      exact ⟨by simp [h1]; try omega, rfl⟩
  · have e1 : decide (a ≤ n) = false := by simpa using h1
    go_enter Try.func39, Try.ntmps39
    go_wp2
    go_ret
    exact ⟨by simp [h1]; try omega, rfl⟩

set_option maxHeartbeats 1000000 in
theorem implValidAutomaton (v : Value) (a : Au) (w : World) (hv : AuV 0 w.heap.size w v a) :
    Calls Try.prog 71 #[v] w fun e w' => e = .returned (.bool (auOk a)) ∧ Below w.heap.size w w' := by
  obtain ⟨ac, nx, rfl, ⟨A1, c1, rfl, hl1, hm1, -⟩, us, ⟨A2, c2, rfl, hl2, hm2, hx2⟩, hul, hrows⟩ := hv
  rw [hul] at hl2 ⊢
  have HU := Lib.hid hul
  clear hul
  unfold maxLen at hm1 hm2
  have hb0 : Below w.heap.size w (w.alloc (.cells #[.int .i64 a.start, .slice A1 a.accept.length c1, .slice A2 a.next.length c2] 27)) := (Below.refl _ _).alloc (Nat.le_refl _) _
  have HW := Lib.hid within_any
  by_cases g1 : wi a.accept.length 1 12 = true
  · by_cases g2 : wi a.start 0 ((a.accept.length : Int) - 1) = true
    · by_cases g3 : a.next.length = a.accept.length
      · have HG3 := Lib.hid g3
        have g3' : ((a.next.length : Int) != (a.accept.length : Int)) = false := by simp; omega
        have hr : auOk a = a.next.all (rowOk a.accept.length) := by simp [auOk, g1, g2, g3]
        have HR := Lib.hid hr
        clear hr g3
        obtain ⟨hn1, hn2⟩ := wi_iff.1 g1
        go_enter Try.func71, Try.ntmps71
        go_wp2_with (go_at_call 39; refine (HW.out _ _ _ _).mono ?_; rintro e w' ⟨rfl, rfl⟩)
        go_loop [32] (fun ii => ∃ i : Nat, i ≤ a.next.length ∧ ii = .int .i64 i ∧ (a.next.take i).all (rowOk a.accept.length) = true) (fun ii => a.next.length - (intOf ii).toNat)
        case atStart => exact ⟨0, Nat.zero_le _, rfl, rfl⟩
        case round =>
          obtain ⟨i, hi, rfl, hall⟩ := hrel
          have HA := Lib.hid hall
          clear hall
          by_cases hlt : i < a.next.length
          · obtain ⟨u, hu⟩ : ∃ u, us[i]? = some u := ⟨_, List.getElem?_eq_getElem (by have := HU.out; omega)⟩
            obtain ⟨b, o, rfl, -, hb1, hc⟩ := hx2 i u hu
            have hxi : a.next[i]? = some a.next[i] := List.getElem?_eq_getElem hlt
            have hvi := hrows i u _ hu hxi
            generalize a.next[i] = row at hvi hxi
            have c0 := hc 0 _ rfl
            simp only [Nat.mul_one, Nat.add_zero] at c0
            obtain ⟨A3, c3, rfl, hl3, hm3, hx3⟩ := hvi
            unfold maxLen at hm3
            have HX := Lib.hid hxi
            clear hc hx2 hu hxi hrows
            go_wp2_with fail
            go_loop [38] (fun jj => ∃ j : Nat, j ≤ row.length ∧ jj = .int .i64 j ∧ (row.take j).all (fun t => wi t (-1) ((a.accept.length : Int) - 1)) = true) (fun jj => row.length - (intOf jj).toNat)
            case atStart => exact ⟨0, Nat.zero_le _, rfl, rfl⟩
            case round =>
              obtain ⟨j, hj, rfl, hall2⟩ := hrel
              have HB := Lib.hid hall2
              clear hall2
              by_cases hlt2 : j < row.length
              · have hxj : row[j]? = some row[j] := List.getElem?_eq_getElem hlt2
                obtain ⟨b2, o2, rfl, -, hb2, hc2⟩ := hx3 j _ hxj
                generalize row[j] = t at hc2 hxj
                have d0 := hc2 0 _ rfl
                simp only [Nat.mul_one, Nat.add_zero] at d0
                have HXJ := Lib.hid hxj
                clear hc2 hx3 hxj
                by_cases g4 : wi t (-1) ((a.accept.length : Int) - 1) = true
                · go_wp2_with (go_at_call 39; refine (HW.out _ _ _ _).mono ?_; rintro e w' ⟨rfl, rfl⟩)
                  go_round
                  case rel => exact ⟨j + 1, by omega, by go_num, all_take_succ HXJ.out HB.out g4⟩
                  case measure => simp [intOf]; omega
                · simp only [Bool.not_eq_true] at g4
                  have hfin : auOk a = false := by
                    rw [HR.out]
                    refine all_false_of HX.out ?_
                    rw [rowOk, all_false_of HXJ.out g4]
                    rfl
                  have HF := Lib.hid hfin
                  clear hfin
                  go_wp2_with (go_at_call 39; refine (HW.out _ _ _ _).mono ?_; rintro e w' ⟨rfl, rfl⟩)
                  go_ret
                  exact ⟨by rw [HF.out]; rfl, hb0⟩
              · obtain rfl : j = row.length := by omega
                have hall3 : row.all (fun t => wi t (-1) ((a.accept.length : Int) - 1)) = true := by have := HB.out; rwa [List.take_length] at this
                have H3 := Lib.hid hall3
                clear hall3
                clear hx3
                by_cases g9 : row.length = 9
                · have g9' : ((row.length : Int) != 9) = false := by simp; omega
                  have hok : rowOk a.accept.length row = true := by rw [rowOk, H3.out, g9]; rfl
                  have HO := Lib.hid hok
                  clear hok g9
                  go_wp2_with fail
                  go_round
                  case rel => exact ⟨i + 1, by omega, by go_num, all_take_succ HX.out HA.out HO.out⟩
                  case measure => simp [intOf]; omega
                · have g9' : ((row.length : Int) != 9) = true := by simp; omega
                  have hfin : auOk a = false := by
                    rw [HR.out]
                    refine all_false_of HX.out ?_
                    rw [rowOk]
                    simp [g9]
                  have HF := Lib.hid hfin
                  clear hfin g9
                  go_wp2_with fail
                  go_ret
                  exact ⟨by rw [HF.out]; rfl, hb0⟩
          · obtain rfl : i = a.next.length := by omega
            have hfin : auOk a = true := by rw [HR.out]; have := HA.out; rwa [List.take_length] at this
            have HF := Lib.hid hfin
            clear hfin hx2 hrows
            go_wp2_with fail
            go_ret
            exact ⟨by rw [HF.out]; rfl, hb0⟩
      · have g3' : ((a.next.length : Int) != (a.accept.length : Int)) = true := by simp; omega
        have hr : auOk a = false := by simp [auOk, g3]
        have HR := Lib.hid hr
        clear hr g3
        go_enter Try.func71, Try.ntmps71
        go_wp2_with (go_at_call 39; refine (HW.out _ _ _ _).mono ?_; rintro e w' ⟨rfl, rfl⟩)
        go_ret
        exact ⟨by rw [HR.out]; rfl, hb0⟩
    · simp only [Bool.not_eq_true] at g2
      have hr : auOk a = false := by simp [auOk, g2]
      have HR := Lib.hid hr
      clear hr
      go_enter Try.func71, Try.ntmps71
      go_wp2_with (go_at_call 39; refine (HW.out _ _ _ _).mono ?_; rintro e w' ⟨rfl, rfl⟩)
      go_ret
      exact ⟨by rw [HR.out]; rfl, hb0⟩
  · simp only [Bool.not_eq_true] at g1
    have hr : auOk a = false := by simp [auOk, g1]
    have HR := Lib.hid hr
    clear hr
    go_enter Try.func71, Try.ntmps71
    go_wp2_with (go_at_call 39; refine (HW.out _ _ _ _).mono ?_; rintro e w' ⟨rfl, rfl⟩)
    go_ret
    exact ⟨by rw [HR.out]; rfl, hb0⟩

set_option maxHeartbeats 1000000 in
theorem statesOk_any (v lv : Value) (a : Au) (ss : List Int) (w : World) (hv : AuV 0 w.heap.size w v a) (hl : SlE w cI 1 lv ss) :
    Calls Try.prog 38 #[v, lv] w fun e w' => e = .returned (.bool (ss.all (fun s => wi s 0 ((a.accept.length : Int) - 1)) && auOk a)) ∧ Below w.heap.size w w' := by
  have hv0 := hv
  obtain ⟨ac, nx, rfl, ⟨A1, c1, rfl, hl1, hm1, -⟩, -⟩ := hv
  obtain ⟨A2, c2, rfl, hl2, hm2, hx2⟩ := hl
  unfold maxLen at hm1 hm2
  have hb0 : Below w.heap.size w (w.alloc (.cells #[.int .i64 a.start, .slice A1 a.accept.length c1, nx] 27)) := (Below.refl _ _).alloc (Nat.le_refl _) _
  have HW := Lib.hid within_any
  go_enter Try.func38, Try.ntmps38
  go_wp2_with fail
  go_loop [9] (fun ii => ∃ i : Nat, i ≤ ss.length ∧ ii = .int .i64 i ∧ (ss.take i).all (fun s => wi s 0 ((a.accept.length : Int) - 1)) = true) (fun ii => ss.length - (intOf ii).toNat)
  case atStart => exact ⟨0, Nat.zero_le _, rfl, rfl⟩
  case round =>
    obtain ⟨i, hi, rfl, hall⟩ := hrel
    have HA := Lib.hid hall
    clear hall
    by_cases hlt : i < ss.length
    · have hxi : ss[i]? = some ss[i] := List.getElem?_eq_getElem hlt
      obtain ⟨b, o, rfl, -, hb1, hc⟩ := hx2 i _ hxi
      generalize ss[i] = s at hc hxi
      have c0 := hc 0 _ rfl
      simp only [Nat.mul_one, Nat.add_zero] at c0
      have HX := Lib.hid hxi
      clear hc hx2 hxi
      by_cases g4 : wi s 0 ((a.accept.length : Int) - 1) = true
      · go_wp2_with (go_at_call 39; refine (HW.out _ _ _ _).mono ?_; rintro e w' ⟨rfl, rfl⟩)
        go_round
        case rel => exact ⟨i + 1, by omega, by go_num, all_take_succ HX.out HA.out g4⟩
        case measure => simp [intOf]; omega
      · simp only [Bool.not_eq_true] at g4
        have hfin : ss.all (fun s => wi s 0 ((a.accept.length : Int) - 1)) = false := all_false_of HX.out g4
        have HF := Lib.hid hfin
        clear hfin
        go_wp2_with (go_at_call 39; refine (HW.out _ _ _ _).mono ?_; rintro e w' ⟨rfl, rfl⟩)
        go_ret
        exact ⟨by rw [HF.out]; rfl, hb0⟩
    · obtain rfl : i = ss.length := by omega
      have hfin : ss.all (fun s => wi s 0 ((a.accept.length : Int) - 1)) = true := by have := HA.out; rwa [List.take_length] at this
      have HF := Lib.hid hfin
      clear hfin hx2
      go_wp2_with fail
      refine (implValidAutomaton _ a _ (hv0.keep hb0)).mono ?_
      rintro e w1 ⟨rfl, hb1⟩
      go_wp2_with fail
      go_ret
      exact ⟨by rw [HF.out]; rfl, below_trans hb0 hb1⟩
end Go.Proofs.Ytallglnmeeahiaa

/- The program's functions on graphs: validity, edges, steps. -/
namespace Go.Proofs.Ytallglnmeeahiaa
set_option linter.unusedVariables false
set_option linter.unusedSimpArgs false
open Go.ChangeShapes Go.WideShapes Go.ChangeAt Go.RowKit
attribute [local go_sem] ext_cell ext_frozen ext_lt ext_lt1 ext_lt2 ext_lt3 ltn2 ltn3 ltn13 lts1 lts2 lts3

set_option maxHeartbeats 1000000 in
theorem edgeOk_any (e : Ed) (n : Nat) (w : World) (hn : n ≤ 9223372036854775807) :
    Calls Try.prog 104 #[.agg #[.int .i64 e.1, .int .i64 e.2.1, .int .i64 e.2.2.1, .int .i64 e.2.2.2], .int .i64 (n : Int)] w fun en w' => en = .returned (.bool (edOk n e)) ∧ Below w.heap.size w w' := by
  obtain ⟨a, b, c, d⟩ := e
  have HW := Lib.hid within_any
  unfold edOk
  simp only
  have hb0 : Below w.heap.size w (w.alloc (.cells #[.int .i64 a, .int .i64 b, .int .i64 c, .int .i64 d] 90)) := (Below.refl _ _).alloc (Nat.le_refl _) _
  cases g1 : wi a 1 99 with
  | false =>
    have HZ := Lib.hid g1
    go_enter Try.func104, Try.ntmps104
    go_wp2_with (go_at_call 39; refine (HW.out _ _ _ _).mono ?_; rintro e w' ⟨rfl, rfl⟩)
    go_ret
    exact ⟨rfl, hb0⟩
  | true =>
    cases g2 : wi b 0 ((n : Int) - 1) with
    | false =>
      go_enter Try.func104, Try.ntmps104
      go_wp2_with (go_at_call 39; refine (HW.out _ _ _ _).mono ?_; rintro e w' ⟨rfl, rfl⟩)
      go_ret
      exact ⟨rfl, hb0⟩
    | true =>
      cases g3 : wi c 0 ((n : Int) - 1) with
      | false =>
        go_enter Try.func104, Try.ntmps104
        go_wp2_with (go_at_call 39; refine (HW.out _ _ _ _).mono ?_; rintro e w' ⟨rfl, rfl⟩)
        go_ret
        exact ⟨rfl, hb0⟩
      | true =>
        go_enter Try.func104, Try.ntmps104
        go_wp2_with (go_at_call 39; refine (HW.out _ _ _ _).mono ?_; rintro e w' ⟨rfl, rfl⟩)
        go_ret
        exact ⟨rfl, hb0⟩

set_option maxHeartbeats 2000000 in
theorem implValidGraph (v : Value) (g : Gr) (w : World) (hv : GrV 0 w.heap.size w v g) :
    Calls Try.prog 83 #[v] w fun e w' => e = .returned (.bool (grOk g)) ∧ Below w.heap.size w w' := by
  obtain ⟨vs, es, rfl, ⟨A1, c1, rfl, hl1, hm1, hx1⟩, ⟨A2, c2, rfl, hl2, hm2, hx2⟩⟩ := hv
  unfold maxLen at hm1 hm2
  have hb0 : Below w.heap.size w (w.alloc (.cells #[.slice A1 g.vals.length c1, .slice A2 g.edges.length c2] 38)) := (Below.refl _ _).alloc (Nat.le_refl _) _
  have HW := Lib.hid within_any
  have HX1 := Lib.hid hx1
  have HX2 := Lib.hid hx2
  clear hx1 hx2
  go_enter Try.func83, Try.ntmps83
  go_wp2_with fail
  go_loop [14] (fun ii => ∃ i : Nat, i ≤ g.vals.length ∧ ii = .int .i64 i ∧ (g.vals.take i).all (fun v => wi v 0 2) = true) (fun ii => g.vals.length - (intOf ii).toNat)
  case atStart => exact ⟨0, Nat.zero_le _, rfl, rfl⟩
  case round =>
    obtain ⟨i, hi, rfl, hall⟩ := hrel
    have HA := Lib.hid hall
    clear hall
    by_cases hlt : i < g.vals.length
    · have hxi : g.vals[i]? = some g.vals[i] := List.getElem?_eq_getElem hlt
      obtain ⟨b, o, rfl, -, hb1, hc⟩ := HX1.out i _ hxi
      generalize g.vals[i] = x at hc hxi
      have c0 := hc 0 _ rfl
      simp only [Nat.mul_one, Nat.add_zero] at c0
      have HX := Lib.hid hxi
      clear hc hxi
      cases g4 : wi x 0 2 with
      | true =>
        have G4 := Lib.hid g4
        go_wp2_with (go_at_call 39; refine (HW.out _ _ _ _).mono ?_; rintro e w' ⟨rfl, rfl⟩)
        go_round
        case rel => exact ⟨i + 1, by omega, by go_num, all_take_succ HX.out HA.out G4.out⟩
        case measure => simp [intOf]; omega
      | false =>
        have hfin : grOk g = false := by
          rw [grOk, all_false_of HX.out g4]
          rfl
        have HF := Lib.hid hfin
        clear hfin
        go_wp2_with (go_at_call 39; refine (HW.out _ _ _ _).mono ?_; rintro e w' ⟨rfl, rfl⟩)
        go_ret
        exact ⟨by rw [HF.out]; rfl, hb0⟩
    · obtain rfl : i = g.vals.length := by omega
      have hallv : g.vals.all (fun v => wi v 0 2) = true := by have := HA.out; rwa [List.take_length] at this
      have HV := Lib.hid hallv
      clear hallv HA
      go_wp2_with fail
      go_loopw [25] (fun ii wr => ∃ (i : Nat) (u : World), i ≤ g.edges.length ∧ ii = .int .i64 i ∧ (List.range i).all (edAt g.vals.length g.edges) = true ∧ wr = ext (w.alloc (.cells #[.slice A1 g.vals.length c1, .slice A2 g.edges.length c2] 38)) u) (fun ii _ => g.edges.length - (intOf ii).toNat)
      case atStart => exact ⟨0, _, Nat.zero_le _, rfl, rfl, ext_self _⟩
      case round =>
        obtain ⟨i, u, hi, rfl, hall, rfl⟩ := hrel
        have HA := Lib.hid hall
        clear hall
        by_cases hlt : i < g.edges.length
        · have hxi : g.edges[i]? = some g.edges[i] := List.getElem?_eq_getElem hlt
          obtain ⟨b, o', rfl, -, hb1, hc⟩ := HX2.out i _ hxi
          generalize g.edges[i] = x at hc hxi
          have c0 := hc 0 _ rfl
          have c1' := hc 1 _ rfl
          have c2' := hc 2 _ rfl
          have c3 := hc 3 _ rfl
          simp only [Nat.add_zero] at c0
          have HX := Lib.hid hxi
          have hlen : g.vals.length ≤ 9223372036854775807 := by omega
          clear hc hxi
          have hgr : grOk g = ((List.range g.edges.length).all (edAt g.vals.length g.edges) && wi g.vals.length 1 5 && decide (g.edges.length ≤ 12)) := by
            rw [grOk, HV.out]; rfl
          have HGR := Lib.hid hgr
          clear hgr
          cases g4 : edOk g.vals.length x with
          | false =>
            have hfin : grOk g = false := by
              rw [HGR.out, range_all_false hlt (by rw [edAt, HX.out]; simp [g4])]
              rfl
            have HF := Lib.hid hfin
            clear hfin
            go_wp2_with fail
            refine wp_region_ext_lit (by kernel_rfl) (by kernel_rfl) ?_
            repeat (go_big_quiet_step ((go_at_call 104; exact Calls.ext_of (edgeOk_any x g.vals.length _ hlen))))
            refine wpQuiet_nil ?_
            intro _ hw'
            obtain ⟨u2, hw''⟩ := hw'
            subst hw''
            go_wp2_with fail
            go_ret
            exact ⟨by rw [HF.out]; rfl, below_trans hb0 (below_trans (ext_below _ _) (below_trans ((Below.refl _ _).alloc (Nat.le_refl _) _) (ext_below _ _)))⟩
          | true =>
            have G4 := Lib.hid g4
            have hbx : ∀ o u2, ∃ z, ext ((ext (w.alloc (.cells #[.slice A1 g.vals.length c1, .slice (some ⟨b, o', none⟩) g.edges.length c2] 38)) u).alloc o) u2 = ext (w.alloc (.cells #[.slice A1 g.vals.length c1, .slice (some ⟨b, o', none⟩) g.edges.length c2] 38)) z :=
              fun o u2 => ext_of (below_trans (ext_below _ _) (below_trans ((Below.refl _ _).alloc (Nat.le_refl _) _) (ext_below _ _)))
            by_cases hi0 : i = 0
            · subst hi0
              have hat : edAt g.vals.length g.edges 0 = true := by rw [edAt, HX.out]; simp [G4.out]
              have HAT := Lib.hid hat
              clear hat
              simp only [Nat.zero_mul, Nat.add_zero, Nat.zero_add] at c0 c1' c2' c3
              go_wp2_with fail
              refine wp_region_ext_lit (by kernel_rfl) (by kernel_rfl) ?_
              repeat (go_big_quiet_step ((go_at_call 104; exact Calls.ext_of (edgeOk_any x g.vals.length _ hlen))))
              refine wpQuiet_nil ?_
              intro _ hw'
              obtain ⟨u2, hw''⟩ := hw'
              subst hw''
              go_wp2_with fail
              go_roundw
              case rel =>
                obtain ⟨z, hz⟩ := hbx _ u2
                exact ⟨1, z, by omega, by go_num, range_all_succ HA.out HAT.out, hz⟩
              case measure => simp [intOf]; omega
            · have hi1 : 0 < i := by omega
              have hxj : g.edges[i - 1]? = some g.edges[i - 1] := List.getElem?_eq_getElem (by omega)
              obtain ⟨b9, o9, ho9, -, -, hcj⟩ := HX2.out (i - 1) _ hxj
              obtain ⟨rfl, rfl⟩ : b = b9 ∧ o' = o9 := by injection ho9 with h1; injection h1 with h1 h2; exact ⟨h1, h2⟩
              generalize g.edges[i - 1] = p at hcj hxj
              have hb1' : b < w.heap.size + 1 := by omega
              have p0 := hcj 0 _ rfl
              simp only [Nat.add_zero] at p0
              have HXJ := Lib.hid hxj
              have hi00 : ((i : Int) > 0) := by omega
              clear hcj hxj ho9
              by_cases hlt2 : p.1 < x.1
              · have hat : edAt g.vals.length g.edges i = true := by rw [edAt, HX.out]; simp [G4.out, HXJ.out, hlt2]
                have hge : decide (p.1 ≥ x.1) = false := by simp; omega
                have HAT := Lib.hid hat
                clear hat
                go_wp2_with fail
                have q1 : IntKind.i64.wrap ((i : Int) - 1) = (i : Int) - 1 := IntWalk.i64_in _ (by omega)
                have q2 : 0 ≤ (i : Int) - 1 := by omega
                have q3 : (i : Int) - 1 < (g.edges.length : Int) := by omega
                have q4 : ((i : Int) - 1).toNat = i - 1 := by omega
                refine wp_region_ext_lit (by kernel_rfl) (by kernel_rfl) ?_
                repeat (go_big_quiet_step ((go_at_call 104; exact Calls.ext_of (edgeOk_any x g.vals.length _ hlen))))
                refine wpQuiet_nil ?_
                intro _ hw'
                obtain ⟨u2, hw''⟩ := hw'
                subst hw''
                clear q1 q2 q3 q4
                go_wp2_with fail
                go_roundw
                case rel =>
                  obtain ⟨z, hz⟩ := hbx _ u2
                  exact ⟨i + 1, z, by omega, by go_num, range_all_succ HA.out HAT.out, hz⟩
                case measure => simp [intOf]; omega
              · have hfin : grOk g = false := by
                  rw [HGR.out, range_all_false hlt (by rw [edAt, HX.out]; simp [G4.out, HXJ.out, hi0]; omega)]
                  rfl
                have hge : decide (p.1 ≥ x.1) = true := by simp; omega
                have HF := Lib.hid hfin
                clear hfin
                go_wp2_with fail
                have q1 : IntKind.i64.wrap ((i : Int) - 1) = (i : Int) - 1 := IntWalk.i64_in _ (by omega)
                have q2 : 0 ≤ (i : Int) - 1 := by omega
                have q3 : (i : Int) - 1 < (g.edges.length : Int) := by omega
                have q4 : ((i : Int) - 1).toNat = i - 1 := by omega
                refine wp_region_ext_lit (by kernel_rfl) (by kernel_rfl) ?_
                repeat (go_big_quiet_step ((go_at_call 104; exact Calls.ext_of (edgeOk_any x g.vals.length _ hlen))))
                refine wpQuiet_nil ?_
                intro _ hw'
                obtain ⟨u2, hw''⟩ := hw'
                subst hw''
                clear q1 q2 q3 q4
                go_wp2_with fail
                go_ret
                exact ⟨by rw [HF.out]; rfl, below_trans hb0 (below_trans (ext_below _ _) (below_trans ((Below.refl _ _).alloc (Nat.le_refl _) _) (ext_below _ _)))⟩
        · obtain rfl : i = g.edges.length := by omega
          have hgr : grOk g = (wi g.vals.length 1 5 && decide (g.edges.length ≤ 12)) := by
            rw [grOk, HV.out, HA.out]; rfl
          have HGR := Lib.hid hgr
          clear hgr HA HV
          cases g5 : wi g.vals.length 1 5 with
          | false =>
            rw [g5] at HGR
            go_wp2_with (go_at_call 39; refine (HW.out _ _ _ _).mono ?_; rintro e w' ⟨rfl, rfl⟩)
            go_ret
            exact ⟨by rw [HGR.out]; rfl, below_trans hb0 (ext_below _ _)⟩
          | true =>
            rw [g5] at HGR
            have HG5 := Lib.hid g5
            by_cases g6 : g.edges.length ≤ 12
            · have g6' : decide ((g.edges.length : Int) ≤ 12) = true := by simp; omega
              have hfin : grOk g = true := by rw [HGR.out]; simp [g6]
              have HF := Lib.hid hfin
              clear hfin HGR
              go_wp2_with (go_at_call 39; refine (HW.out _ _ _ _).mono ?_; rintro e w' ⟨rfl, rfl⟩)
              go_ret
              exact ⟨by rw [HF.out]; rfl, below_trans hb0 (ext_below _ _)⟩
            · have g6' : decide ((g.edges.length : Int) ≤ 12) = false := by simp; omega
              have hfin : grOk g = false := by rw [HGR.out]; simp [g6]
              have HF := Lib.hid hfin
              clear hfin HGR
              go_wp2_with (go_at_call 39; refine (HW.out _ _ _ _).mono ?_; rintro e w' ⟨rfl, rfl⟩)
              go_ret
              exact ⟨by rw [HF.out]; rfl, below_trans hb0 (ext_below _ _)⟩
/-- slices.IndexFunc over edges, at EdgeIndex's closure -/
theorem indexFuncEdge (k0 : Value) (v : Value) (xs : List Ed) (p : Ed → Prop) (w : World) (hv : SlE w cEd 4 v xs)
    (hF : ∀ x ∈ xs, ∀ W : World, Below w.heap.size w W → Calls Try.prog 112 #[.agg #[.int .i64 x.1, .int .i64 x.2.1, .int .i64 x.2.2.1, .int .i64 x.2.2.2], k0] W fun e W' => ∃ b, e = .returned (.bool b) ∧ (b = true ↔ p x) ∧ Below W.heap.size W W') :
    Calls Try.prog 111 #[v, .func (Fn.func 112) #[] #[k0]] w fun e w' => ∃ r : Int, e = .returned (.int .i64 r) ∧ Below w.heap.size w w' ∧
      ((r = -1 ∧ ∀ x ∈ xs, ¬ p x) ∨ ∃ (i : Nat) (x : Ed), r = i ∧ xs[i]? = some x ∧ p x ∧ ∀ y ∈ xs.take i, ¬ p y) := by
  obtain ⟨A, c, rfl, hl, hm, hx⟩ := hv
  unfold maxLen at hm
  have HF := Lib.hid hF
  have HX := Lib.hid hx
  clear hF hx
  go_enter Try.func111, Try.ntmps111
  go_wp2_with fail
  go_loopw [8] (fun ii wr => ∃ (i : Nat) (u : World), i ≤ xs.length ∧ ii = .int .i64 i ∧ (∀ y ∈ xs.take i, ¬ p y) ∧ wr = ext w u) (fun ii _ => xs.length - (intOf ii).toNat)
  case atStart => exact ⟨0, w, Nat.zero_le _, rfl, by simp, ext_self w⟩
  case round =>
    obtain ⟨i, u, hi, rfl, hno, rfl⟩ := hrel
    have HN := Lib.hid hno
    clear hno
    by_cases hlt : i < xs.length
    · have hxi : xs[i]? = some xs[i] := List.getElem?_eq_getElem hlt
      generalize xs[i] = x at hxi
      obtain ⟨b, o, rfl, -, hb, hc⟩ := HX.out i x hxi
      have c0 := hc 0 _ rfl
      have c1' := hc 1 _ rfl
      have c2' := hc 2 _ rfl
      have c3 := hc 3 _ rfl
      simp only [Nat.add_zero] at c0
      have HXI := Lib.hid hxi
      clear hc hxi
      go_wp2_with fail
      refine (HF.out x (List.mem_of_getElem? HXI.out) _ (ext_below w u)).mono ?_
      rintro e w1 ⟨bb, rfl, hbb, hb1⟩
      have HBB := Lib.hid hbb
      clear hbb
      cases bb with
      | true =>
        go_wp2_with fail
        go_ret
        exact ⟨_, rfl, below_trans (ext_below w u) hb1, .inr ⟨i, x, rfl, HXI.out, HBB.out.1 (by first | rfl | trivial), HN.out⟩⟩
      | false =>
        go_wp2_with fail
        go_roundw
        case rel =>
          obtain ⟨z, hz⟩ := ext_of (below_trans (ext_below w u) hb1)
          refine ⟨i + 1, z, by omega, by go_num, fun y hy => ?_, hz⟩
          rw [take_snoc HXI.out] at hy
          rcases List.mem_append.1 hy with hy | hy
          · exact HN.out y hy
          · have : y = x := by simpa using hy
            subst this
            exact fun h => by have := HBB.out.2 h; cases this
        case measure => simp [intOf]; omega
    · obtain rfl : i = xs.length := by omega
      go_wp2_with fail
      go_ret
      exact ⟨_, rfl, ext_below w u, .inl ⟨rfl, fun x hx => HN.out x (by rw [List.take_length]; exact hx)⟩⟩

set_option maxHeartbeats 1000000 in
theorem implEdgeIndex (v : Value) (g : Gr) (id : Int) (w : World) (hv : GrV 0 w.heap.size w v g) :
    Calls Try.prog 96 #[v, .int .i64 id] w fun e w' => e = .returned (.int .i64 (edgeIdx g id)) ∧ Below w.heap.size w w' := by
  obtain ⟨vs, es, rfl, -, hes⟩ := hv
  have hb0 : Below w.heap.size w ((w.alloc (.cells #[vs, es] 38)).alloc (.cells #[.int .i64 id] 3)) := ((Below.refl _ _).alloc (Nat.le_refl _) _).alloc (by simp) _
  have b1 := Blk.new (w.alloc (.cells #[vs, es] 38)) 3 #[.int .i64 id] (w.heap.size + 1) (by simp)
  go_enter Try.func96, Try.ntmps96
  go_wp2_with fail
  refine (indexFuncEdge _ es g.edges (fun e => e.1 = id) _ (SlE.keep hes hb0) (fun x hx W hW => ?_)).mono ?_
  · have b1' := b1.keep hW
    have y0 : W.cell? ⟨w.heap.size + 1, 0, none⟩ = some _ := b1'.cell 0
    have hlt := b1'.lt
    clear hb0 b1 b1' hW
    obtain ⟨x1, x2, x3, x4⟩ := x
    go_enter Try.func112, Try.ntmps112
    go_wp2_with fail
    go_ret
    refine ⟨_, rfl, by simp, (Below.refl _ _).alloc (Nat.le_refl _) _⟩
  · rintro e w1 ⟨r, rfl, hb1, hr⟩
    have hfin : edgeIdx g id = r := by
      rcases hr with ⟨rfl, h⟩ | ⟨i, x, rfl, hx, hp, hno⟩
      · exact edgeIdx_none h
      · exact edgeIdx_some hx hp hno
    subst hfin
    clear hr
    go_wp2_with fail
    go_ret
    exact ⟨rfl, below_trans hb0 hb1⟩
end Go.Proofs.Ytallglnmeeahiaa

/- The program's steps of a graph: where they lead from and to, and whether they are allowed. -/
namespace Go.Proofs.Ytallglnmeeahiaa
set_option linter.unusedVariables false
set_option linter.unusedSimpArgs false
open Go.ChangeShapes Go.WideShapes Go.ChangeAt Go.RowKit
attribute [local go_sem] ext_cell ext_frozen ext_lt ext_lt1 ext_lt2 ext_lt3 ltn2 ltn3 ltn13 lts1 lts2 lts3

set_option maxHeartbeats 1000000 in
theorem implStepEdge (v : Value) (g : Gr) (s : St) (w : World) (hv : GrV 0 w.heap.size w v g) :
    Calls Try.prog 64 #[v, .agg #[.int .i64 s.1, .bool s.2]] w fun en w' => ∃ e : Ed, en = .returned (.tuple #[.agg #[.int .i64 e.1, .int .i64 e.2.1, .int .i64 e.2.2.1, .int .i64 e.2.2.2], .bool (stepEd g s.1).isSome]) ∧ (∀ e', stepEd g s.1 = some e' → e' = e) ∧ Below w.heap.size w w' := by
  have hv0 := hv
  obtain ⟨vs, es, rfl, hvs, ⟨A2, c2, rfl, hl2, hm2, hx2⟩⟩ := hv
  obtain ⟨A1, n1, c1, rfl⟩ := hvs.shape
  obtain ⟨id, inv⟩ := s
  unfold maxLen at hm2
  have hb0 : Below w.heap.size w (((w.alloc (.cells #[.slice A1 n1 c1, .slice A2 g.edges.length c2] 38)).alloc (.cells #[.int .i64 id, .bool inv] 54)).alloc (.cells #[.int .i64 0, .int .i64 0, .int .i64 0, .int .i64 0] 90)) := (((Below.refl _ _).alloc (Nat.le_refl _) _).alloc (by simp) _).alloc (by simp <;> omega) _
  have hspec := edgeIdx_spec g id
  simp only
  go_enter Try.func64, Try.ntmps64
  have HS := Lib.hid hspec
  clear hspec
  go_wp2_with fail
  refine (implEdgeIndex _ g id _ (hv0.keep hb0)).mono ?_
  rintro e w1 ⟨rfl, hb1⟩
  have b0 := (((Blk.new w _ _ w.heap.size rfl).alloc _).alloc _).keep hb1
  have b2 := (Blk.new ((w.alloc _).alloc _) _ _ (w.heap.size + 1 + 1) (by simp)).keep hb1
  have hb2 := below_trans hb0 hb1
  clear hb0 hb1
  rcases HS.out with ⟨hi, hno⟩ | ⟨i, e, hi, hx, he, hno⟩
  · have hnone := stepEd_none hno
    have HN := Lib.hid hnone
    rw [hi]
    have z0 : w1.cell? ⟨w.heap.size + 1 + 1, 0, none⟩ = some _ := b2.cell 0
    have z1 : w1.cell? ⟨w.heap.size + 1 + 1, 1, none⟩ = some _ := b2.cell 1
    have z2 : w1.cell? ⟨w.heap.size + 1 + 1, 2, none⟩ = some _ := b2.cell 2
    have z3 : w1.cell? ⟨w.heap.size + 1 + 1, 3, none⟩ = some _ := b2.cell 3
    have f0 := b2.frozen 0
    have f1 := b2.frozen 1
    have f2 := b2.frozen 2
    have f3 := b2.frozen 3
    clear hnone hno hi HS b0
    go_wp2_with fail
    refine bodyPost_ret (v := .tuple #[.agg #[.int .i64 0, .int .i64 0, .int .i64 0, .int .i64 0], .bool false]) (by simp [results, Try.results64, go_sem, z0, z1, z2, z3]) rfl ⟨(0, 0, 0, 0), by rw [HN.out]; rfl, (by rw [HN.out]; intro e' he'; cases he'), (((hb2.setCell (p := ⟨w.heap.size + 1 + 1, 0, none⟩) (by simp <;> omega) _).setCell (p := ⟨w.heap.size + 1 + 1, 1, none⟩) (by simp <;> omega) _).setCell (p := ⟨w.heap.size + 1 + 1, 2, none⟩) (by simp <;> omega) _).setCell (p := ⟨w.heap.size + 1 + 1, 3, none⟩) (by simp <;> omega) _⟩
  · rw [hi]
    have x0 : w1.cell? ⟨w.heap.size, 0, none⟩ = some _ := b0.cell 0
    have x1 : w1.cell? ⟨w.heap.size, 1, none⟩ = some _ := b0.cell 1
    have hil : i < g.edges.length := (List.getElem?_eq_some_iff.1 hx).1
    cases hg : grOk g with
    | false =>
      have hnone := stepEd_bad id hg
      have HN := Lib.hid hnone
      clear hnone hno HS hx
      go_wp2_with fail
      refine (implValidGraph _ g _ (hv0.keep hb2)).mono ?_
      rintro en w2 ⟨rfl, hb3⟩
      rw [hg]
      have b2 := b2.keep hb3
      have hb2 := below_trans hb2 hb3
      clear hb3 b0 x0 x1
      have z0 : w2.cell? ⟨w.heap.size + 1 + 1, 0, none⟩ = some _ := b2.cell 0
      have z1 : w2.cell? ⟨w.heap.size + 1 + 1, 1, none⟩ = some _ := b2.cell 1
      have z2 : w2.cell? ⟨w.heap.size + 1 + 1, 2, none⟩ = some _ := b2.cell 2
      have z3 : w2.cell? ⟨w.heap.size + 1 + 1, 3, none⟩ = some _ := b2.cell 3
      have f0 := b2.frozen 0
      have f1 := b2.frozen 1
      have f2 := b2.frozen 2
      have f3 := b2.frozen 3
      go_wp2_with fail
      refine bodyPost_ret (v := .tuple #[.agg #[.int .i64 0, .int .i64 0, .int .i64 0, .int .i64 0], .bool false]) (by simp [results, Try.results64, go_sem, z0, z1, z2, z3]) rfl ⟨(0, 0, 0, 0), by rw [HN.out]; rfl, (by rw [HN.out]; intro e' he'; cases he'), (((hb2.setCell (p := ⟨w.heap.size + 1 + 1, 0, none⟩) (by simp <;> omega) _).setCell (p := ⟨w.heap.size + 1 + 1, 1, none⟩) (by simp <;> omega) _).setCell (p := ⟨w.heap.size + 1 + 1, 2, none⟩) (by simp <;> omega) _).setCell (p := ⟨w.heap.size + 1 + 1, 3, none⟩) (by simp <;> omega) _⟩
    | true =>
      have hsome := stepEd_some hg hx he hno
      have HN := Lib.hid hsome
      obtain ⟨b9, o9, rfl, -, hb9, hc9⟩ := hx2 i e hx
      have d0 := hc9 0 _ rfl
      have d1 := hc9 1 _ rfl
      have d2 := hc9 2 _ rfl
      have d3 := hc9 3 _ rfl
      simp only [Nat.add_zero] at d0
      have HI := Lib.hid hi
      clear hsome hno HS hx hc9 hx2 he hi
      go_wp2_with fail
      refine (implValidGraph _ g _ (hv0.keep hb2)).mono ?_
      rintro en w2 ⟨rfl, hb3⟩
      rw [hg]
      have b2 := b2.keep hb3
      have b0 := b0.keep hb3
      have hb2 := below_trans hb2 hb3
      have d0 := (hb2.cell (p := ⟨b9, o9 + i * 4, none⟩) hb9).trans d0
      have d1 := (hb2.cell (p := ⟨b9, o9 + i * 4 + 1, none⟩) hb9).trans d1
      have d2 := (hb2.cell (p := ⟨b9, o9 + i * 4 + 2, none⟩) hb9).trans d2
      have d3 := (hb2.cell (p := ⟨b9, o9 + i * 4 + 3, none⟩) hb9).trans d3
      clear hb3 x0 x1
      have x1 : w2.cell? ⟨w.heap.size, 1, none⟩ = some _ := b0.cell 1
      have z0 : w2.cell? ⟨w.heap.size + 1 + 1, 0, none⟩ = some _ := b2.cell 0
      have z1 : w2.cell? ⟨w.heap.size + 1 + 1, 1, none⟩ = some _ := b2.cell 1
      have z2 : w2.cell? ⟨w.heap.size + 1 + 1, 2, none⟩ = some _ := b2.cell 2
      have z3 : w2.cell? ⟨w.heap.size + 1 + 1, 3, none⟩ = some _ := b2.cell 3
      have f0 := b2.frozen 0
      have f1 := b2.frozen 1
      have f2 := b2.frozen 2
      have f3 := b2.frozen 3
      go_wp2_with fail
      refine bodyPost_ret (v := .tuple #[.agg #[.int .i64 e.1, .int .i64 e.2.1, .int .i64 e.2.2.1, .int .i64 e.2.2.2], .bool true]) (by simp [results, Try.results64, go_sem, z0, z1, z2, z3]) rfl ⟨e, by rw [HN.out]; rfl, (by rw [HN.out]; intro e' he'; injection he' with he'; exact he'.symm), (((hb2.setCell (p := ⟨w.heap.size + 1 + 1, 0, none⟩) (by simp <;> omega) _).setCell (p := ⟨w.heap.size + 1 + 1, 1, none⟩) (by simp <;> omega) _).setCell (p := ⟨w.heap.size + 1 + 1, 2, none⟩) (by simp <;> omega) _).setCell (p := ⟨w.heap.size + 1 + 1, 3, none⟩) (by simp <;> omega) _⟩
set_option maxHeartbeats 1000000 in
theorem implStepFrom (v : Value) (g : Gr) (s : St) (w : World) (hv : GrV 0 w.heap.size w v g) :
    Calls Try.prog 26 #[v, .agg #[.int .i64 s.1, .bool s.2]] w fun en w' => en = .returned (.int .i64 (stepFrom g s)) ∧ Below w.heap.size w w' := by
  have hv0 := hv
  obtain ⟨A1, n1, c1, A2, n2, c2, rfl⟩ := hv.shape
  clear hv
  obtain ⟨id, inv⟩ := s
  have hb0 : Below w.heap.size w ((w.alloc (.cells #[.slice A1 n1 c1, .slice A2 n2 c2] 38)).alloc (.cells #[.int .i64 id, .bool inv] 54)) := ((Below.refl _ _).alloc (Nat.le_refl _) _).alloc (by simp) _
  have hc := fun W (hW : Below w.heap.size w W) => implStepEdge _ g (id, inv) W (hv0.keep hW)
  simp only at hc ⊢
  have HC := Lib.hid hc
  clear hc
  cases hs : stepEd g id with
  | none =>
    have hres : stepFrom g (id, inv) = -1 := by rw [stepFrom]; simp [hs]
    have HR := Lib.hid hres
    rw [hs] at HC
    clear hres hs
    go_enter Try.func26, Try.ntmps26
    go_wp2_with fail
    refine (HC.out _ hb0).mono ?_
    rintro en w1 ⟨e, rfl, -, hb1⟩
    have hb2 := below_trans hb0 hb1
    clear hb0 hb1
    go_wp2_with fail
    go_ret
    exact ⟨ret_int HR.out.symm, hb2.alloc hb2.size _⟩
  | some e =>
    rw [hs] at HC
    have hres : stepFrom g (id, inv) = if inv then e.2.2.1 else e.2.1 := by rw [stepFrom]; simp [hs]
    have HR := Lib.hid hres
    clear hres hs
    go_enter Try.func26, Try.ntmps26
    go_wp2_with fail
    refine (HC.out _ hb0).mono ?_
    rintro en w1 ⟨e1, rfl, he1, hb1⟩
    obtain rfl := he1 e rfl
    have b1 := (Blk.new (w.alloc _) _ _ (w.heap.size + 1) (by simp)).keep hb1
    have y1 : w1.cell? ⟨w.heap.size + 1, 1, none⟩ = some _ := b1.cell 1
    have hlt := b1.lt
    have hb2 := below_trans hb0 hb1
    clear hb0 hb1 he1 b1
    cases inv with
    | true =>
      go_wp2_with fail
      go_ret
      exact ⟨ret_int HR.out.symm, hb2.alloc hb2.size _⟩
    | false =>
      go_wp2_with fail
      go_ret
      exact ⟨ret_int HR.out.symm, hb2.alloc hb2.size _⟩

set_option maxHeartbeats 1000000 in
theorem implStepTo (v : Value) (g : Gr) (s : St) (w : World) (hv : GrV 0 w.heap.size w v g) :
    Calls Try.prog 27 #[v, .agg #[.int .i64 s.1, .bool s.2]] w fun en w' => en = .returned (.int .i64 (stepTo g s)) ∧ Below w.heap.size w w' := by
  have hv0 := hv
  obtain ⟨A1, n1, c1, A2, n2, c2, rfl⟩ := hv.shape
  clear hv
  obtain ⟨id, inv⟩ := s
  have hb0 : Below w.heap.size w ((w.alloc (.cells #[.slice A1 n1 c1, .slice A2 n2 c2] 38)).alloc (.cells #[.int .i64 id, .bool inv] 54)) := ((Below.refl _ _).alloc (Nat.le_refl _) _).alloc (by simp) _
  simp only
  go_enter Try.func27, Try.ntmps27
  go_wp2_with fail
  refine (implStepFrom _ g (id, !inv) _ (hv0.keep hb0)).mono ?_
  rintro en w1 ⟨rfl, hb1⟩
  go_wp2_with fail
  go_ret
  exact ⟨rfl, below_trans hb0 hb1⟩


theorem getD_eqS {xs : List Int} {i : Nat} {x : Int} (h : xs[i]? = some x) : xs.getD i 0 = x := by rw [List.getD_eq_getElem?_getD, h]; rfl

end Go.Proofs.Ytallglnmeeahiaa

