/- Parts of the proof, joined into one text: DrwG, DrwN, DrwA, HelpStep, HelpWalk. -/
import Derived.Test.YtallglnmeeahiaaPartDCJFFDIJ
import Derived.Test.YtallglnmeeahiaaPartFDAIEBNB
/- A graph drawn from a cursor: that the draw ends, and how the graph lies. -/
namespace Go.Proofs.Ytallglnmeeahiaa
set_option linter.unusedVariables false
set_option linter.unusedSimpArgs false
open Go.ChangeShapes Go.WideShapes Go.ChangeAt Go.RowKit
attribute [local go_sem] ext_cell ext_frozen ext_lt ext_lt1 ext_lt2 ext_lt3 ltn2 ltn3 ltn13 lts1 lts2 lts3

/-- a graph under way: its two lists in the block q, the values below mid, the edges from mid on -/
structure GrR (b r q mid : Nat) (w0 wr : World) (vs es : Value) (xs : List Int) (ys : List Ed) : Prop where
  res : Blk wr r 38 #[.slice none 0 0, .slice none 0 0]
  blk : Blk wr q 38 #[vs, es]
  vals : wr.ownsRow (q + 1) 3 1 vs xs.length (xs.flatMap cI)
  edges : wr.ownsRow mid 90 4 es ys.length (ys.flatMap cEd)
  under : ∀ g, vs.ownBlock = some g → g < mid
  cur : Cur wr b
  only : Only b (b + 1) w0 wr
  size : mid ≤ wr.heap.size

theorem GrR.move {b r q mid : Nat} {w0 w w' : World} {vs es : Value} {xs : List Int} {ys : List Ed} (h : GrR b r q mid w0 w vs es xs ys) (ho : Only b (b + 1) w w') (hc : Cur w' b) (hb : b < r ∧ r < q ∧ q < mid) : GrR b r q mid w0 w' vs es xs ys :=
  ⟨h.res.only ho (.inr (by omega)), h.blk.only ho (.inr (by omega)), own_only h.vals ho (by omega), own_only h.edges ho (by omega), h.under, hc, h.only.trans ho, Nat.le_trans h.size ho.size⟩
theorem GrR.below {b r q mid : Nat} {w0 w w' : World} {vs es : Value} {xs : List Int} {ys : List Ed} (h : GrR b r q mid w0 w vs es xs ys) (hb : Below w.heap.size w w') : GrR b r q mid w0 w' vs es xs ys :=
  ⟨h.res.keep hb, h.blk.keep hb, ownsRow_below h.vals hb (Nat.le_refl _), ownsRow_below h.edges hb (Nat.le_refl _), h.under, h.cur.keep hb, h.only.trans (Only.of_below hb _ _), Nat.le_trans h.size hb.size⟩
theorem GrR.push {b r q mid : Nat} {w0 w w' : World} {vs es es' : Value} {xs : List Int} {ys : List Ed} {y : Ed} (h : GrR b r q mid w0 w vs es xs ys) (hlt : b < r ∧ r < q ∧ q < mid) (hw : w0.heap.size ≤ r) (hb : Below mid w w')
    (hown : w'.ownsRow mid 90 4 es' (ys ++ [y]).length ((ys ++ [y]).flatMap cEd)) : GrR b r q mid w0 (w'.setCell ⟨q, 1, none⟩ es') vs es' xs (ys ++ [y]) := by
  have hos : Only q (q + 1) w' (w'.setCell ⟨q, 1, none⟩ es') := (Only.refl q (q + 1) w').setCell (p := ⟨q, 1, none⟩) (.inl ⟨Nat.le_refl _, Nat.lt_succ_self _⟩) es'
  have hv : w'.ownsRow (q + 1) 3 1 vs xs.length (xs.flatMap cI) := ownsRow_block h.vals fun g hg => hb.block g (h.under g hg)
  exact ⟨(h.res.below hb (by omega)).far (by simp only; omega) _, (h.blk.below hb (by omega)).set_ 1 _, own_only hv hos (Nat.le_refl _), own_only hown hos (by omega), h.under, (h.cur.below hb (by omega)).set (by simp only; omega) _, (h.only.andBelow hb (by omega)).setCell (.inr (by simp only; omega)) _, Nat.le_trans h.size (Nat.le_trans hb.size hos.size)⟩
theorem elEdD : ElemOk Try.prog 36 90 (.agg #[.int .i64 0, .int .i64 0, .int .i64 0, .int .i64 0]) 4 32 := ⟨Try.underlying36, by kernel_rfl, rfl, by omega⟩
theorem GrR.alloc {b r q mid : Nat} {w0 w : World} {vs es : Value} {xs : List Int} {ys : List Ed} (h : GrR b r q mid w0 w vs es xs ys) (o : Obj) : GrR b r q mid w0 (w.alloc o) vs es xs ys := h.below ((Below.refl _ _).alloc (Nat.le_refl _) _)
theorem GrR.done {b r q mid : Nat} {w0 w : World} {vs es : Value} {xs : List Int} {ys : List Ed} (h : GrR b r q mid w0 w vs es xs ys) (hr : w0.heap.size = r) (hlt : b < r ∧ r < q ∧ q < mid) :
    GrO w0.heap.size ((w.setCell ⟨r, 0, none⟩ vs).setCell ⟨r, 1, none⟩ es).heap.size ((w.setCell ⟨r, 0, none⟩ vs).setCell ⟨r, 1, none⟩ es) (.agg #[vs, es]) ⟨xs, ys⟩ ∧ Cur ((w.setCell ⟨r, 0, none⟩ vs).setCell ⟨r, 1, none⟩ es) b ∧ Only b (b + 1) w0 ((w.setCell ⟨r, 0, none⟩ vs).setCell ⟨r, 1, none⟩ es) := by
  have ho := Only.put2 w r vs es
  have hs := Nat.le_trans h.size ho.size
  refine ⟨⟨vs, es, mid, rfl, ⟨ownsRow_mono (own_only h.vals ho (by omega)) (by omega), h.under⟩, ⟨own_only h.edges ho (by omega), fun g hg => ?_⟩, by omega, hs⟩, h.cur.only ho (by omega), (h.only.setCell (p := ⟨r, 0, none⟩) (.inr (by simp only; omega)) _).setCell (p := ⟨r, 1, none⟩) (.inr (by simp only; omega)) _⟩
  exact Nat.lt_of_lt_of_le (h.edges.lt g hg).2 ho.size
theorem litD_sl (W : World) (e : TypeId) (cs : Array Value) (xs : List Int) (n lo : Nat) (hlo : lo ≤ W.heap.size) (hn : n ≤ maxLen) (h1 : xs.length = n) (h2 : xs.flatMap cI = cs.toList) (h3 : cs.size = n * 1) :
    SlI lo (W.alloc (.cells cs e)).heap.size (W.alloc (.cells cs e)) cI 1 (.slice (some ⟨W.heap.size, 0, none⟩) n n) xs :=
  (Own.of_row (xs := xs) (E := cI) (World.ownsRow_lit (base := lo) (e := e) (size := 1) W cs n hlo hn h3) h1 h2).sl cI_len
set_option maxHeartbeats 4000000 in
theorem l3Graph_any (b : Nat) (w : World) (hc : Cur w b) :
    Calls Try.prog 86 #[.pointer (some ⟨b, 0, none⟩)] w fun e w' => ∃ v g, e = .returned v ∧ GrO w.heap.size w'.heap.size w' v g ∧ (2 ≤ g.vals.length ∧ g.vals.length ≤ 5 ∧ g.edges.length ≤ 10) ∧ Cur w' b ∧ Only b (b + 1) w w' := by
  have hlt := hc.lt
  have hb0 : Below w.heap.size w ((w.alloc (.cells #[.slice none 0 0, .slice none 0 0] 38)).alloc (.cells #[.slice none 0 0, .slice none 0 0] 38)) := ((Below.refl _ _).alloc (Nat.le_refl _) _).alloc (by simp) _
  have hbq : Blk ((w.alloc (.cells #[.slice none 0 0, .slice none 0 0] 38)).alloc (.cells #[.slice none 0 0, .slice none 0 0] 38)) (w.heap.size + 1) 38 #[.slice none 0 0, .slice none 0 0] := Blk.new _ _ _ _ (by simp)
  have hbr : Blk ((w.alloc (.cells #[.slice none 0 0, .slice none 0 0] 38)).alloc (.cells #[.slice none 0 0, .slice none 0 0] 38)) w.heap.size 38 #[.slice none 0 0, .slice none 0 0] := (Blk.new w _ _ _ rfl).alloc _
  go_enter Try.func86, Try.ntmps86
  go_wp2_with fail
  generalize hW0 : ((w.alloc (.cells #[.slice none 0 0, .slice none 0 0] 38)).alloc (.cells #[.slice none 0 0, .slice none 0 0] 38)) = W0 at hb0 hbq hbr ⊢
  have hs0 : W0.heap.size = w.heap.size + 1 + 1 := by rw [← hW0]; simp
  have hbl := (Below.refl W0.heap.size W0).alloc (Nat.le_refl _) (.cells #[.int .i64 2, .int .i64 3, .int .i64 4, .int .i64 4, .int .i64 5] 3)
  have hsl := litD_sl W0 3 #[.int .i64 2, .int .i64 3, .int .i64 4, .int .i64 4, .int .i64 5] [2, 3, 4, 4, 5] 5 (b + 1) (by omega) (by decide) rfl rfl rfl
  rw [hs0] at hsl
  refine (l1PickInt_any b _ [2, 3, 4, 4, 5] _ (hc.keep (below_trans hb0 hbl)) (by decide) hsl).mono ?_
  rintro e w1 ⟨r, rfl, hr, hc1, ho1⟩
  obtain ⟨r, rfl⟩ : ∃ n : Nat, r = (n : Int) := ⟨r.toNat, by simp only [List.mem_cons, List.not_mem_nil, or_false] at hr; omega⟩
  have hr25 : 2 ≤ r ∧ r ≤ 5 := by simp only [List.mem_cons, List.not_mem_nil, or_false] at hr; omega
  have ho2 := (Only.of_below (below_trans hb0 hbl) b (b + 1)).trans ho1
  have hbq1 := (hbq.keep hbl).only ho1 (.inr (by omega))
  have hbr1 := (hbr.keep hbl).only ho1 (.inr (by omega))
  clear hr hsl hbl hb0 hbq hbr hW0 ho1
  have hs1 : w.heap.size + 1 < w1.heap.size := hbq1.lt
  go_wp2_with fail
  go_loopw [4] (fun nn wr => ∃ (n : Nat) (vs : Value) (xs : List Int), nn = .int .i64 (n : Int) ∧ xs.length + n = r ∧ Blk wr w.heap.size 38 #[.slice none 0 0, .slice none 0 0] ∧ Blk wr (w.heap.size + 1) 38 #[vs, .slice none 0 0] ∧ wr.ownsRow (w.heap.size + 1 + 1) 3 1 vs xs.length (xs.flatMap cI) ∧ Cur wr b ∧ Only b (b + 1) w wr) (fun nn _ => (intOf nn).toNat)
  case atStart => exact ⟨r, .slice none 0 0, [], rfl, by simp, hbr1, hbq1, World.ownsRow_nil _ _ _ 1, hc1, ho2⟩
  case round =>
    obtain ⟨n, vs, xs, rfl, hn, hres, hblk, hown, hcur, hon⟩ := hrel
    have HBLK := Lib.hid hblk
    have HRES := Lib.hid hres
    have HOWN := Lib.hid hown
    have HCUR := Lib.hid hcur
    have HON := Lib.hid hon
    have hlw := hblk.lt
    have x0 : wr.cell? ⟨w.heap.size + 1, 0, none⟩ = some vs := hblk.cell 0
    have y0 := hblk.frozen 0
    clear hblk hres hown hcur hon hbq1 hbr1 ho2 hc1
    rcases Nat.eq_zero_or_pos n with rfl | h0
    · obtain ⟨wm, rfl⟩ : ∃ wm : World, wm = wr := ⟨_, rfl⟩
      have hbl := (Below.refl wm.heap.size wm).alloc (Nat.le_refl _) (.cells #[.int .i64 4, .int .i64 8, .int .i64 11] 3)
      have HSL := Lib.hid (litD_sl wm 3 #[.int .i64 4, .int .i64 8, .int .i64 11] [4, 8, 11] 3 (b + 1) (by omega) (by decide) rfl rfl rfl)
      go_wp2_with fail
      refine (l1PickInt_any b _ [4, 8, 11] _ (HCUR.out.keep hbl) (by decide) HSL.out).mono ?_
      rintro e w2 ⟨m, rfl, hm, hc2, ho2⟩
      have hm11 : 4 ≤ m ∧ m ≤ 11 := by simp only [List.mem_cons, List.not_mem_nil, or_false] at hm; omega
      have ho2 := (Only.of_below hbl b (b + 1)).trans ho2
      clear hm hbl
      go_wp2_with fail
      refine (l1Below_any b m _ hc2).mono ?_
      rintro e w3 ⟨z, rfl, ⟨hz0, -, hz1⟩, hc3, ho3⟩
      have hz1 := hz1 (by omega)
      obtain ⟨z, rfl⟩ := Int.eq_ofNat_of_zero_le hz0
      have ho3 := ho2.trans ho3
      have HG0 := Lib.hid (show GrR b w.heap.size (w.heap.size + 1) wm.heap.size w w3 vs (.slice none 0 0) xs [] from ⟨HRES.out.only ho3 (.inr (by omega)), HBLK.out.only ho3 (.inr (by omega)), own_only HOWN.out ho3 (by omega), World.ownsRow_nil _ _ _ 4, fun g hg => (HOWN.out.lt g hg).2, hc3, HON.out.trans ho3, ho3.size⟩)
      clear x0 y0 hc2 hc3 ho2 ho3 HBLK HRES HOWN HCUR HON HSL
      go_wp2_with fail
      go_loopw [5, 6] (fun dd nn wr => ∃ (n : Nat) (d : Int) (es : Value) (ys : List Ed), dd = .int .i64 d ∧ nn = .int .i64 (n : Int) ∧ ys.length + n = z ∧ GrR b w.heap.size (w.heap.size + 1) wm.heap.size w wr vs es xs ys) (fun _ nn _ => (intOf nn).toNat)
      case atStart => exact ⟨z, 0, _, [], rfl, rfl, by simp, HG0.out⟩
      case round =>
        obtain ⟨n, d, es, ys, rfl, rfl, hn2, hG⟩ := hrel
        have HG := Lib.hid hG
        clear hG HG0
        have hl2 := HG.out.blk.lt
        have x0 : wr.cell? ⟨w.heap.size + 1, 0, none⟩ = some vs := HG.out.blk.cell 0
        have x1 : wr.cell? ⟨w.heap.size + 1, 1, none⟩ = some es := HG.out.blk.cell 1
        have y0 := HG.out.blk.frozen 0
        have y1 := HG.out.blk.frozen 1
        obtain ⟨A1, n1, c1, rfl⟩ := rowShape HG.out.vals
        obtain ⟨A2, n2, c2, rfl⟩ := rowShape HG.out.edges
        have hsz := HG.out.size
        rcases Nat.eq_zero_or_pos n with rfl | h0
        · have z0 : wr.cell? ⟨w.heap.size, 0, none⟩ = some (.slice none 0 0) := HG.out.res.cell 0
          have z1 : wr.cell? ⟨w.heap.size, 1, none⟩ = some (.slice none 0 0) := HG.out.res.cell 1
          have v0 := HG.out.res.frozen 0
          have v1 := HG.out.res.frozen 1
          have hl0 := HG.out.res.lt
          go_wp2_with fail
          have HD := HG.out.done rfl (by omega)
          refine bodyPost_ret (v := .agg #[.slice A1 n1 c1, .slice A2 n2 c2]) (by simp [results, Try.results86, go_sem, z0, z1, v0, v1]) rfl ⟨_, ⟨xs, ys⟩, rfl, HD.1, ⟨by simp only; omega, by simp only; omega, by simp only; omega⟩, HD.2.1, HD.2.2⟩
        · have hni : 0 < (n : Int) := by omega
          go_wp2_with fail
          refine (l1Below_any b 3 _ HG.out.cur).mono ?_
          rintro e w4 ⟨t, rfl, ⟨ht0, ht1, -⟩, hc4, ho4⟩
          have x0 := ho4.kc (by simp only; omega) x0
          have x1 := ho4.kc (by simp only; omega) x1
          go_wp2_with fail
          have HG4 := Lib.hid (HG.out.move ho4 hc4 (by omega))
          have hlo4 := HG4.out.blk.lt
          clear ho4 hc4 hl2 y0 y1
          generalize wrap64 (wrap64 (d + 1) + t) = d2
          refine F_start 20 (fun w' => w'.cell? ⟨w.heap.size + 1, 0, none⟩ = some (.slice A1 n1 c1) ∧ w'.cell? ⟨w.heap.size + 1, 1, none⟩ = some (.slice A2 n2 c2)) (by kernel_rfl) (by exact ⟨x0, x1⟩) (fun hS inv => ?_)
          refine F_take (i := 0) (v := ?_) rfl (by kernel_rfl) (by kernel_rfl) (by kernel_rfl) (fun _ _ _ h => h) inv (Or.inl ⟨by rfl, ?_⟩) (by assumption) (fun invn => ?_)
          rotate_left
          · (intro w hSw; (try dsimp only at hSw); go_simp; try with_reducible rfl)
          try simp only [List.getElem_toArray, List.getElem_cons_zero, List.getElem_cons_succ, Act.put, List.setIfInBounds_toArray, List.set_cons_zero, List.set_cons_succ]
          clear inv
          have inv := invn
          clear invn
          refine F_take (i := 1) (v := ?_) rfl (by kernel_rfl) (by kernel_rfl) (by kernel_rfl) (fun _ _ _ h => h) inv (Or.inl ⟨by rfl, ?_⟩) (by assumption) (fun invn => ?_)
          rotate_left
          · (intro w hSw; (try dsimp only at hSw); go_simp; try with_reducible rfl)
          try simp only [List.getElem_toArray, List.getElem_cons_zero, List.getElem_cons_succ, Act.put, List.setIfInBounds_toArray, List.set_cons_zero, List.set_cons_succ]
          clear inv
          have inv := invn
          clear invn
          refine F_take (i := 2) (v := ?_) rfl (by kernel_rfl) (by kernel_rfl) (by kernel_rfl) (fun _ _ _ h => h) inv (Or.inl ⟨by rfl, ?_⟩) (by assumption) (fun invn => ?_)
          rotate_left
          · (intro w hSw; (try dsimp only at hSw); go_simp; try with_reducible rfl)
          try simp only [List.getElem_toArray, List.getElem_cons_zero, List.getElem_cons_succ, Act.put, List.setIfInBounds_toArray, List.set_cons_zero, List.set_cons_succ]
          clear inv
          have inv := invn
          clear invn
          refine F_take (i := 3) (v := ?_) rfl (by kernel_rfl) (by kernel_rfl) (by kernel_rfl) (fun _ _ _ h => h) inv (Or.inl ⟨by rfl, ?_⟩) (by assumption) (fun invn => ?_)
          rotate_left
          · (intro w hSw; (try dsimp only at hSw); go_simp; try with_reducible rfl)
          try simp only [List.getElem_toArray, List.getElem_cons_zero, List.getElem_cons_succ, Act.put, List.setIfInBounds_toArray, List.set_cons_zero, List.set_cons_succ]
          clear inv
          have inv := invn
          clear invn
          refine F_take (i := 4) (v := ?_) rfl (by kernel_rfl) (by kernel_rfl) (by kernel_rfl) (fun _ _ _ h => h) inv (Or.inl ⟨by rfl, ?_⟩) (by assumption) (fun invn => ?_)
          rotate_left
          · (intro w hSw; (try dsimp only at hSw); go_simp; try with_reducible rfl)
          try simp only [List.getElem_toArray, List.getElem_cons_zero, List.getElem_cons_succ, Act.put, List.setIfInBounds_toArray, List.set_cons_zero, List.set_cons_succ]
          clear inv
          have inv := invn
          clear invn
          refine F_take (i := 5) (v := ?_) rfl (by kernel_rfl) (by kernel_rfl) (by kernel_rfl) (fun _ _ _ h => h) inv (Or.inl ⟨by rfl, ?_⟩) (by assumption) (fun invn => ?_)
          rotate_left
          · (intro w hSw; (try dsimp only at hSw); go_simp; try with_reducible rfl)
          try simp only [List.getElem_toArray, List.getElem_cons_zero, List.getElem_cons_succ, Act.put, List.setIfInBounds_toArray, List.set_cons_zero, List.set_cons_succ]
          clear inv
          have inv := invn
          clear invn
          refine F_take (i := 6) (v := ?_) rfl (by kernel_rfl) (by kernel_rfl) (by kernel_rfl) (fun _ _ _ h => h) inv (Or.inl ⟨by rfl, ?_⟩) (by assumption) (fun invn => ?_)
          rotate_left
          · (intro w hSw; (try dsimp only at hSw); go_simp; try with_reducible rfl)
          try simp only [List.getElem_toArray, List.getElem_cons_zero, List.getElem_cons_succ, Act.put, List.setIfInBounds_toArray, List.set_cons_zero, List.set_cons_succ]
          clear inv
          have inv := invn
          clear invn
          refine F_take (i := 8) (v := ?_) rfl (by kernel_rfl) (by kernel_rfl) (by kernel_rfl) (fun _ _ _ h => h) inv (Or.inl ⟨by rfl, ?_⟩) (by assumption) (fun invn => ?_)
          rotate_left
          · (intro w hSw; (try dsimp only at hSw); go_simp; try with_reducible rfl)
          try simp only [List.getElem_toArray, List.getElem_cons_zero, List.getElem_cons_succ, Act.put, List.setIfInBounds_toArray, List.set_cons_zero, List.set_cons_succ]
          clear inv
          have inv := invn
          clear invn
          refine F_take (i := 9) (v := ?_) rfl (by kernel_rfl) (by kernel_rfl) (by kernel_rfl) (fun _ _ _ h => h) inv (Or.inl ⟨by rfl, ?_⟩) (by assumption) (fun invn => ?_)
          rotate_left
          · (intro w hSw; (try dsimp only at hSw); go_simp; try with_reducible rfl)
          try simp only [List.getElem_toArray, List.getElem_cons_zero, List.getElem_cons_succ, Act.put, List.setIfInBounds_toArray, List.set_cons_zero, List.set_cons_succ]
          clear inv
          have inv := invn
          clear invn
          refine F_take (i := 10) (v := ?_) rfl (by kernel_rfl) (by kernel_rfl) (by kernel_rfl) (fun _ _ _ h => h) inv (Or.inl ⟨by rfl, ?_⟩) (by assumption) (fun invn => ?_)
          rotate_left
          · (intro w hSw; (try dsimp only at hSw); go_simp; try with_reducible rfl)
          try simp only [List.getElem_toArray, List.getElem_cons_zero, List.getElem_cons_succ, Act.put, List.setIfInBounds_toArray, List.set_cons_zero, List.set_cons_succ]
          clear inv
          have inv := invn
          clear invn
          refine F_take (i := 11) (v := ?_) rfl (by kernel_rfl) (by kernel_rfl) (by kernel_rfl) (fun _ _ _ h => h) inv (Or.inl ⟨by rfl, ?_⟩) (by assumption) (fun invn => ?_)
          rotate_left
          · (intro w hSw; (try dsimp only at hSw); go_simp; try with_reducible rfl)
          try simp only [List.getElem_toArray, List.getElem_cons_zero, List.getElem_cons_succ, Act.put, List.setIfInBounds_toArray, List.set_cons_zero, List.set_cons_succ]
          clear inv
          have inv := invn
          clear invn
          refine F_take (i := 13) (v := ?_) rfl (by kernel_rfl) (by kernel_rfl) (by kernel_rfl) (fun _ _ _ h => h) inv (Or.inl ⟨by rfl, ?_⟩) (by assumption) (fun invn => ?_)
          rotate_left
          · (intro w hSw; (try dsimp only at hSw); go_simp; try with_reducible rfl)
          try simp only [List.getElem_toArray, List.getElem_cons_zero, List.getElem_cons_succ, Act.put, List.setIfInBounds_toArray, List.set_cons_zero, List.set_cons_succ]
          clear inv
          have inv := invn
          clear invn
          refine F_two (i := 7) (j := 14) (by kernel_rfl) rfl rfl rfl rfl (by omega) inv (fun K hK => ?_) (fun K hK => ?_)
          all_goals (try simp only [List.getElem_toArray, List.getElem_cons_zero, List.getElem_cons_succ])
          · go_simp
            refine (l1Below_any b _ _ (HG4.out.cur.keep (Below.refl _ _).drew)).mono ?_
            rintro e w5 ⟨f, rfl, -, hc5, ho5⟩
            have HG5 := Lib.hid (HG4.out.move ((Only.of_below (Below.refl _ _).drew b (b + 1)).trans ho5) hc5 (by omega))
            refine hK.out _ _ (⟨HG5.out.blk.cell 0, HG5.out.blk.cell 1⟩) (fun hSn invn => ?_)
            try simp only [List.getElem_toArray, List.getElem_cons_zero, List.getElem_cons_succ, Act.put, List.setIfInBounds_toArray, List.set_cons_zero, List.set_cons_succ]
            clear hK K inv hS
            have inv := invn
            have hS := hSn
            clear invn hSn
            clear ho5 hc5
            refine F_two (i := 12) (j := 14) (by kernel_rfl) rfl rfl rfl rfl (by omega) inv (fun K hK => ?_) (fun K hK => ?_)
            all_goals (try simp only [List.getElem_toArray, List.getElem_cons_zero, List.getElem_cons_succ])
            · go_simp
              refine (l1Below_any b _ _ HG5.out.cur).mono ?_
              rintro e w6 ⟨h, rfl, -, hc6, ho6⟩
              have HG6 := Lib.hid (HG5.out.move ho6 hc6 (by omega))
              refine hK.out _ _ (⟨HG6.out.blk.cell 0, HG6.out.blk.cell 1⟩) (fun hSn invn => ?_)
              try simp only [List.getElem_toArray, List.getElem_cons_zero, List.getElem_cons_succ, Act.put, List.setIfInBounds_toArray, List.set_cons_zero, List.set_cons_succ]
              clear hK K inv hS
              have inv := invn
              have hS := hSn
              clear invn hSn
              clear ho6 hc6
              refine F_one (i := 14) (by kernel_rfl) rfl rfl (by omega) inv (fun K hK => ?_)
              try simp only [List.getElem_toArray, List.getElem_cons_zero, List.getElem_cons_succ]
              go_simp
              have HG7 := Lib.hid (HG6.out.alloc (.cells #[.int .i64 0, .int .i64 0, .int .i64 1, .int .i64 2] 3))
              have HL7 := Lib.hid (litD_sl w6 3 #[.int .i64 0, .int .i64 0, .int .i64 1, .int .i64 2] [0, 0, 1, 2] 4 (b + 1) (Nat.le_trans (by omega) HG6.out.size) (by decide) rfl rfl rfl)
              refine hK.out _ _ (⟨HG7.out.blk.cell 0, HG7.out.blk.cell 1⟩) (fun hSn invn => ?_)
              try simp only [List.getElem_toArray, List.getElem_cons_zero, List.getElem_cons_succ, Act.put, List.setIfInBounds_toArray, List.set_cons_zero, List.set_cons_succ]
              clear hK K inv hS
              have inv := invn
              have hS := hSn
              clear invn hSn
              refine F_one (i := 15) (by kernel_rfl) rfl rfl (by omega) inv (fun K hK => ?_)
              try simp only [List.getElem_toArray, List.getElem_cons_zero, List.getElem_cons_succ]
              go_simp
              refine (l1PickInt_any b _ [0, 0, 1, 2] _ HG7.out.cur (by decide) HL7.out).mono ?_
              rintro e w8 ⟨l, rfl, -, hc8, ho8⟩
              have HG8 := Lib.hid (HG7.out.move ho8 hc8 (by omega))
              refine hK.out _ _ (⟨HG8.out.blk.cell 0, HG8.out.blk.cell 1⟩) (fun hSn invn => ?_)
              try simp only [List.getElem_toArray, List.getElem_cons_zero, List.getElem_cons_succ, Act.put, List.setIfInBounds_toArray, List.set_cons_zero, List.set_cons_succ]
              clear hK K inv hS
              have inv := invn
              have hS := hSn
              clear invn hSn
              clear ho8 hc8 HG7 HL7
              refine F_take (i := 16) (v := ?_) rfl (by kernel_rfl) (by kernel_rfl) (by kernel_rfl) (fun _ _ _ h => h) inv (Or.inl ⟨by rfl, ?_⟩) (by assumption) (fun invn => ?_)
              rotate_left
              · (intro w hSw; (try dsimp only at hSw); go_simp; try with_reducible rfl)
              try simp only [List.getElem_toArray, List.getElem_cons_zero, List.getElem_cons_succ, Act.put, List.setIfInBounds_toArray, List.set_cons_zero, List.set_cons_succ]
              clear inv
              have inv := invn
              clear invn
              refine F_one (i := 17) (by kernel_rfl) rfl rfl (by omega) inv (fun K hK => ?_)
              try simp only [List.getElem_toArray, List.getElem_cons_zero, List.getElem_cons_succ]
              go_simp
              refine hK.out _ _ ((kB2 ((Below.refl _ _).alloc (Nat.le_refl _) _) hS)) (fun hSn invn => ?_)
              try simp only [List.getElem_toArray, List.getElem_cons_zero, List.getElem_cons_succ, Act.put, List.setIfInBounds_toArray, List.set_cons_zero, List.set_cons_succ]
              clear hK K inv hS
              have inv := invn
              have hS := hSn
              clear invn hSn
              refine F_one (i := 18) (by kernel_rfl) rfl rfl (by omega) inv (fun K hK => ?_)
              try simp only [List.getElem_toArray, List.getElem_cons_zero, List.getElem_cons_succ]
              refine op_append1 cEd elEdD rfl _ _ (by rfl) wm.heap.size _ ys (d2, f, h, l) 1 _ (by rfl) (HG8.out.edges.alloc _) (by first | rfl | simp) (heap_alloc_new _ _) rfl (cEd_one _) (by omega) (by omega) (Nat.le_trans HG8.out.size (by simp)) ?_
              intro g2 cp2 w9 hown3 hgr3 hat3 hlt3
              have hbT := ((Below.refl wm.heap.size w8).alloc HG8.out.size (.cells #[.int .i64 d2, .int .i64 f, .int .i64 h, .int .i64 l] 90)).trans (own_below (HG8.out.edges.alloc (.cells #[.int .i64 d2, .int .i64 f, .int .i64 h, .int .i64 l] 90)) (Nat.le_trans HG8.out.size (by simp)) hgr3)
              have HB9 := Lib.hid (HG8.out.blk.below hbT hlw)
              have HG9 := Lib.hid (HG8.out.push (by omega) (by omega) hbT hown3)
              have z1 := HB9.out.frozen 1
              have zl := HB9.out.lt
              clear hbT hown3 hgr3 hat3 hlt3
              refine hK.out _ _ (⟨HB9.out.cell 0, HB9.out.cell 1⟩) (fun hSn invn => ?_)
              try simp only [List.getElem_toArray, List.getElem_cons_zero, List.getElem_cons_succ, Act.put, List.setIfInBounds_toArray, List.set_cons_zero, List.set_cons_succ]
              clear hK K inv hS
              have inv := invn
              have hS := hSn
              clear invn hSn
              refine F_take (i := 19) (v := ?_) rfl (by kernel_rfl) (by kernel_rfl) (by kernel_rfl) (fun _ _ _ h => h) inv (Or.inl ⟨by rfl, ?_⟩) (by assumption) (fun invn => ?_)
              rotate_left
              · (intro w hSw; (try dsimp only at hSw); go_simp; try with_reducible rfl)
              try simp only [List.getElem_toArray, List.getElem_cons_zero, List.getElem_cons_succ, Act.put, List.setIfInBounds_toArray, List.set_cons_zero, List.set_cons_succ]
              clear inv
              have inv := invn
              clear invn
              refine F_last (i := 20) (by kernel_rfl) rfl rfl (by omega) (by kernel_rfl) (fun K hK => ?_)
              go_simp
              refine hK _ _ ?_
              clear hK K inv hS
              clear z1 zl x0 x1
              generalize w9.setCell ⟨w.heap.size + 1, 1, none⟩ (.slice (some ⟨g2, 0, none⟩) (ys.length + 1) cp2) = w10 at *
              go_wp2_with fail
              go_roundw
              case rel =>
                refine ⟨n - 1, d2, _, ys ++ [(d2, f, h, l)], rfl, ?_, by simp; omega, HG9.out⟩
                congr 1; omega
              case measure => simp [intOf]; omega
            · go_simp
              have HG6 := Lib.hid (HG5.out.alloc (.cells #[.int .i64 0, .int .i64 0, .int .i64 1, .int .i64 2] 3))
              have HL6 := Lib.hid (litD_sl w5 3 #[.int .i64 0, .int .i64 0, .int .i64 1, .int .i64 2] [0, 0, 1, 2] 4 (b + 1) (Nat.le_trans (by omega) HG5.out.size) (by decide) rfl rfl rfl)
              refine hK.out _ _ (⟨HG6.out.blk.cell 0, HG6.out.blk.cell 1⟩) (fun hSn invn => ?_)
              try simp only [List.getElem_toArray, List.getElem_cons_zero, List.getElem_cons_succ, Act.put, List.setIfInBounds_toArray, List.set_cons_zero, List.set_cons_succ]
              clear hK K inv hS
              have inv := invn
              have hS := hSn
              clear invn hSn
              refine F_one (i := 12) (by kernel_rfl) rfl rfl (by omega) inv (fun K hK => ?_)
              try simp only [List.getElem_toArray, List.getElem_cons_zero, List.getElem_cons_succ]
              go_simp
              refine (l1Below_any b _ _ HG6.out.cur).mono ?_
              rintro e w7 ⟨h, rfl, -, hc7, ho7⟩
              have HG7 := Lib.hid (HG6.out.move ho7 hc7 (by omega))
              have HL7 := Lib.hid ((HL6.out.only ho7 (Nat.le_refl _) (.inr (Nat.le_refl _))).mono (Nat.le_refl _) ho7.size)
              refine hK.out _ _ (⟨HG7.out.blk.cell 0, HG7.out.blk.cell 1⟩) (fun hSn invn => ?_)
              try simp only [List.getElem_toArray, List.getElem_cons_zero, List.getElem_cons_succ, Act.put, List.setIfInBounds_toArray, List.set_cons_zero, List.set_cons_succ]
              clear hK K inv hS
              have inv := invn
              have hS := hSn
              clear invn hSn
              clear ho7 hc7
              refine F_one (i := 15) (by kernel_rfl) rfl rfl (by omega) inv (fun K hK => ?_)
              try simp only [List.getElem_toArray, List.getElem_cons_zero, List.getElem_cons_succ]
              go_simp
              refine (l1PickInt_any b _ [0, 0, 1, 2] _ HG7.out.cur (by decide) HL7.out).mono ?_
              rintro e w8 ⟨l, rfl, -, hc8, ho8⟩
              have HG8 := Lib.hid (HG7.out.move ho8 hc8 (by omega))
              refine hK.out _ _ (⟨HG8.out.blk.cell 0, HG8.out.blk.cell 1⟩) (fun hSn invn => ?_)
              try simp only [List.getElem_toArray, List.getElem_cons_zero, List.getElem_cons_succ, Act.put, List.setIfInBounds_toArray, List.set_cons_zero, List.set_cons_succ]
              clear hK K inv hS
              have inv := invn
              have hS := hSn
              clear invn hSn
              clear ho8 hc8 HG7 HL7
              refine F_take (i := 16) (v := ?_) rfl (by kernel_rfl) (by kernel_rfl) (by kernel_rfl) (fun _ _ _ h => h) inv (Or.inl ⟨by rfl, ?_⟩) (by assumption) (fun invn => ?_)
              rotate_left
              · (intro w hSw; (try dsimp only at hSw); go_simp; try with_reducible rfl)
              try simp only [List.getElem_toArray, List.getElem_cons_zero, List.getElem_cons_succ, Act.put, List.setIfInBounds_toArray, List.set_cons_zero, List.set_cons_succ]
              clear inv
              have inv := invn
              clear invn
              refine F_one (i := 17) (by kernel_rfl) rfl rfl (by omega) inv (fun K hK => ?_)
              try simp only [List.getElem_toArray, List.getElem_cons_zero, List.getElem_cons_succ]
              go_simp
              refine hK.out _ _ ((kB2 ((Below.refl _ _).alloc (Nat.le_refl _) _) hS)) (fun hSn invn => ?_)
              try simp only [List.getElem_toArray, List.getElem_cons_zero, List.getElem_cons_succ, Act.put, List.setIfInBounds_toArray, List.set_cons_zero, List.set_cons_succ]
              clear hK K inv hS
              have inv := invn
              have hS := hSn
              clear invn hSn
              refine F_one (i := 18) (by kernel_rfl) rfl rfl (by omega) inv (fun K hK => ?_)
              try simp only [List.getElem_toArray, List.getElem_cons_zero, List.getElem_cons_succ]
              refine op_append1 cEd elEdD rfl _ _ (by rfl) wm.heap.size _ ys (d2, f, h, l) 1 _ (by rfl) (HG8.out.edges.alloc _) (by first | rfl | simp) (heap_alloc_new _ _) rfl (cEd_one _) (by omega) (by omega) (Nat.le_trans HG8.out.size (by simp)) ?_
              intro g2 cp2 w9 hown3 hgr3 hat3 hlt3
              have hbT := ((Below.refl wm.heap.size w8).alloc HG8.out.size (.cells #[.int .i64 d2, .int .i64 f, .int .i64 h, .int .i64 l] 90)).trans (own_below (HG8.out.edges.alloc (.cells #[.int .i64 d2, .int .i64 f, .int .i64 h, .int .i64 l] 90)) (Nat.le_trans HG8.out.size (by simp)) hgr3)
              have HB9 := Lib.hid (HG8.out.blk.below hbT hlw)
              have HG9 := Lib.hid (HG8.out.push (by omega) (by omega) hbT hown3)
              have z1 := HB9.out.frozen 1
              have zl := HB9.out.lt
              clear hbT hown3 hgr3 hat3 hlt3
              refine hK.out _ _ (⟨HB9.out.cell 0, HB9.out.cell 1⟩) (fun hSn invn => ?_)
              try simp only [List.getElem_toArray, List.getElem_cons_zero, List.getElem_cons_succ, Act.put, List.setIfInBounds_toArray, List.set_cons_zero, List.set_cons_succ]
              clear hK K inv hS
              have inv := invn
              have hS := hSn
              clear invn hSn
              refine F_take (i := 19) (v := ?_) rfl (by kernel_rfl) (by kernel_rfl) (by kernel_rfl) (fun _ _ _ h => h) inv (Or.inl ⟨by rfl, ?_⟩) (by assumption) (fun invn => ?_)
              rotate_left
              · (intro w hSw; (try dsimp only at hSw); go_simp; try with_reducible rfl)
              try simp only [List.getElem_toArray, List.getElem_cons_zero, List.getElem_cons_succ, Act.put, List.setIfInBounds_toArray, List.set_cons_zero, List.set_cons_succ]
              clear inv
              have inv := invn
              clear invn
              refine F_last (i := 20) (by kernel_rfl) rfl rfl (by omega) (by kernel_rfl) (fun K hK => ?_)
              go_simp
              refine hK _ _ ?_
              clear hK K inv hS
              clear z1 zl x0 x1
              generalize w9.setCell ⟨w.heap.size + 1, 1, none⟩ (.slice (some ⟨g2, 0, none⟩) (ys.length + 1) cp2) = w10 at *
              go_wp2_with fail
              go_roundw
              case rel =>
                refine ⟨n - 1, d2, _, ys ++ [(d2, f, h, l)], rfl, ?_, by simp; omega, HG9.out⟩
                congr 1; omega
              case measure => simp [intOf]; omega
          · go_simp
            have HG5 := Lib.hid (show GrR b w.heap.size (w.heap.size + 1) wm.heap.size w (w4.alloc (.cells #[.int .i64 0, .int .i64 0, .int .i64 1, .int .i64 2] 3)).drew _ _ _ _ from HG4.out.below ((Below.refl _ _).alloc (Nat.le_refl _) _).drew)
            have HL5 := Lib.hid (show SlI (b + 1) (w4.alloc (.cells #[.int .i64 0, .int .i64 0, .int .i64 1, .int .i64 2] 3)).drew.heap.size (w4.alloc (.cells #[.int .i64 0, .int .i64 0, .int .i64 1, .int .i64 2] 3)).drew cI 1 _ _ from litD_sl w4 3 #[.int .i64 0, .int .i64 0, .int .i64 1, .int .i64 2] [0, 0, 1, 2] 4 (b + 1) (Nat.le_trans (by omega) HG4.out.size) (by decide) rfl rfl rfl)
            refine hK.out _ _ (⟨HG5.out.blk.cell 0, HG5.out.blk.cell 1⟩) (fun hSn invn => ?_)
            try simp only [List.getElem_toArray, List.getElem_cons_zero, List.getElem_cons_succ, Act.put, List.setIfInBounds_toArray, List.set_cons_zero, List.set_cons_succ]
            clear hK K inv hS
            have inv := invn
            have hS := hSn
            clear invn hSn
            refine F_one (i := 7) (by kernel_rfl) rfl rfl (by omega) inv (fun K hK => ?_)
            try simp only [List.getElem_toArray, List.getElem_cons_zero, List.getElem_cons_succ]
            go_simp
            refine (l1Below_any b _ _ HG5.out.cur).mono ?_
            rintro e w6 ⟨f, rfl, -, hc6, ho6⟩
            have HG6 := Lib.hid (HG5.out.move ho6 hc6 (by omega))
            have HL6 := Lib.hid ((HL5.out.only ho6 (Nat.le_refl _) (.inr (Nat.le_refl _))).mono (Nat.le_refl _) ho6.size)
            refine hK.out _ _ (⟨HG6.out.blk.cell 0, HG6.out.blk.cell 1⟩) (fun hSn invn => ?_)
            try simp only [List.getElem_toArray, List.getElem_cons_zero, List.getElem_cons_succ, Act.put, List.setIfInBounds_toArray, List.set_cons_zero, List.set_cons_succ]
            clear hK K inv hS
            have inv := invn
            have hS := hSn
            clear invn hSn
            clear ho6 hc6
            refine F_one (i := 12) (by kernel_rfl) rfl rfl (by omega) inv (fun K hK => ?_)
            try simp only [List.getElem_toArray, List.getElem_cons_zero, List.getElem_cons_succ]
            go_simp
            refine (l1Below_any b _ _ HG6.out.cur).mono ?_
            rintro e w7 ⟨h, rfl, -, hc7, ho7⟩
            have HG7 := Lib.hid (HG6.out.move ho7 hc7 (by omega))
            have HL7 := Lib.hid ((HL6.out.only ho7 (Nat.le_refl _) (.inr (Nat.le_refl _))).mono (Nat.le_refl _) ho7.size)
            refine hK.out _ _ (⟨HG7.out.blk.cell 0, HG7.out.blk.cell 1⟩) (fun hSn invn => ?_)
            try simp only [List.getElem_toArray, List.getElem_cons_zero, List.getElem_cons_succ, Act.put, List.setIfInBounds_toArray, List.set_cons_zero, List.set_cons_succ]
            clear hK K inv hS
            have inv := invn
            have hS := hSn
            clear invn hSn
            clear ho7 hc7
            refine F_one (i := 15) (by kernel_rfl) rfl rfl (by omega) inv (fun K hK => ?_)
            try simp only [List.getElem_toArray, List.getElem_cons_zero, List.getElem_cons_succ]
            go_simp
            refine (l1PickInt_any b _ [0, 0, 1, 2] _ HG7.out.cur (by decide) HL7.out).mono ?_
            rintro e w8 ⟨l, rfl, -, hc8, ho8⟩
            have HG8 := Lib.hid (HG7.out.move ho8 hc8 (by omega))
            refine hK.out _ _ (⟨HG8.out.blk.cell 0, HG8.out.blk.cell 1⟩) (fun hSn invn => ?_)
            try simp only [List.getElem_toArray, List.getElem_cons_zero, List.getElem_cons_succ, Act.put, List.setIfInBounds_toArray, List.set_cons_zero, List.set_cons_succ]
            clear hK K inv hS
            have inv := invn
            have hS := hSn
            clear invn hSn
            clear ho8 hc8 HG7 HL7
            refine F_take (i := 16) (v := ?_) rfl (by kernel_rfl) (by kernel_rfl) (by kernel_rfl) (fun _ _ _ h => h) inv (Or.inl ⟨by rfl, ?_⟩) (by assumption) (fun invn => ?_)
            rotate_left
            · (intro w hSw; (try dsimp only at hSw); go_simp; try with_reducible rfl)
            try simp only [List.getElem_toArray, List.getElem_cons_zero, List.getElem_cons_succ, Act.put, List.setIfInBounds_toArray, List.set_cons_zero, List.set_cons_succ]
            clear inv
            have inv := invn
            clear invn
            refine F_one (i := 17) (by kernel_rfl) rfl rfl (by omega) inv (fun K hK => ?_)
            try simp only [List.getElem_toArray, List.getElem_cons_zero, List.getElem_cons_succ]
            go_simp
            refine hK.out _ _ ((kB2 ((Below.refl _ _).alloc (Nat.le_refl _) _) hS)) (fun hSn invn => ?_)
            try simp only [List.getElem_toArray, List.getElem_cons_zero, List.getElem_cons_succ, Act.put, List.setIfInBounds_toArray, List.set_cons_zero, List.set_cons_succ]
            clear hK K inv hS
            have inv := invn
            have hS := hSn
            clear invn hSn
            refine F_one (i := 18) (by kernel_rfl) rfl rfl (by omega) inv (fun K hK => ?_)
            try simp only [List.getElem_toArray, List.getElem_cons_zero, List.getElem_cons_succ]
            refine op_append1 cEd elEdD rfl _ _ (by rfl) wm.heap.size _ ys (d2, f, h, l) 1 _ (by rfl) (HG8.out.edges.alloc _) (by first | rfl | simp) (heap_alloc_new _ _) rfl (cEd_one _) (by omega) (by omega) (Nat.le_trans HG8.out.size (by simp)) ?_
            intro g2 cp2 w9 hown3 hgr3 hat3 hlt3
            have hbT := ((Below.refl wm.heap.size w8).alloc HG8.out.size (.cells #[.int .i64 d2, .int .i64 f, .int .i64 h, .int .i64 l] 90)).trans (own_below (HG8.out.edges.alloc (.cells #[.int .i64 d2, .int .i64 f, .int .i64 h, .int .i64 l] 90)) (Nat.le_trans HG8.out.size (by simp)) hgr3)
            have HB9 := Lib.hid (HG8.out.blk.below hbT hlw)
            have HG9 := Lib.hid (HG8.out.push (by omega) (by omega) hbT hown3)
            have z1 := HB9.out.frozen 1
            have zl := HB9.out.lt
            clear hbT hown3 hgr3 hat3 hlt3
            refine hK.out _ _ (⟨HB9.out.cell 0, HB9.out.cell 1⟩) (fun hSn invn => ?_)
            try simp only [List.getElem_toArray, List.getElem_cons_zero, List.getElem_cons_succ, Act.put, List.setIfInBounds_toArray, List.set_cons_zero, List.set_cons_succ]
            clear hK K inv hS
            have inv := invn
            have hS := hSn
            clear invn hSn
            refine F_take (i := 19) (v := ?_) rfl (by kernel_rfl) (by kernel_rfl) (by kernel_rfl) (fun _ _ _ h => h) inv (Or.inl ⟨by rfl, ?_⟩) (by assumption) (fun invn => ?_)
            rotate_left
            · (intro w hSw; (try dsimp only at hSw); go_simp; try with_reducible rfl)
            try simp only [List.getElem_toArray, List.getElem_cons_zero, List.getElem_cons_succ, Act.put, List.setIfInBounds_toArray, List.set_cons_zero, List.set_cons_succ]
            clear inv
            have inv := invn
            clear invn
            refine F_last (i := 20) (by kernel_rfl) rfl rfl (by omega) (by kernel_rfl) (fun K hK => ?_)
            go_simp
            refine hK _ _ ?_
            clear hK K inv hS
            clear z1 zl x0 x1
            generalize w9.setCell ⟨w.heap.size + 1, 1, none⟩ (.slice (some ⟨g2, 0, none⟩) (ys.length + 1) cp2) = w10 at *
            go_wp2_with fail
            go_roundw
            case rel =>
              refine ⟨n - 1, d2, _, ys ++ [(d2, f, h, l)], rfl, ?_, by simp; omega, HG9.out⟩
              congr 1; omega
            case measure => simp [intOf]; omega
    · have hni : 0 < (n : Int) := by omega
      go_wp2_with fail
      refine F_start 7 (fun w' => w'.cell? ⟨w.heap.size + 1, 0, none⟩ = some (vs)) (by kernel_rfl) (by exact x0) (fun hS inv => ?_)
      refine F_take (i := 0) (v := ?_) rfl (by kernel_rfl) (by kernel_rfl) (by kernel_rfl) (fun _ _ _ h => h) inv (Or.inl ⟨by rfl, ?_⟩) (by assumption) (fun invn => ?_)
      rotate_left
      · (intro w hSw; (try dsimp only at hSw); go_simp; try with_reducible rfl)
      try simp only [List.getElem_toArray, List.getElem_cons_zero, List.getElem_cons_succ, Act.put, List.setIfInBounds_toArray, List.set_cons_zero, List.set_cons_succ]
      clear inv
      have inv := invn
      clear invn
      refine F_take (i := 1) (v := ?_) rfl (by kernel_rfl) (by kernel_rfl) (by kernel_rfl) (fun _ _ _ h => h) inv (Or.inl ⟨by rfl, ?_⟩) (by assumption) (fun invn => ?_)
      rotate_left
      · (intro w hSw; (try dsimp only at hSw); go_simp; try with_reducible rfl)
      try simp only [List.getElem_toArray, List.getElem_cons_zero, List.getElem_cons_succ, Act.put, List.setIfInBounds_toArray, List.set_cons_zero, List.set_cons_succ]
      clear inv
      have inv := invn
      clear invn
      refine F_take (i := 2) (v := ?_) rfl (by kernel_rfl) (by kernel_rfl) (by kernel_rfl) (fun _ _ _ h => h) inv (Or.inl ⟨by rfl, ?_⟩) (by assumption) (fun invn => ?_)
      rotate_left
      · (intro w hSw; (try dsimp only at hSw); go_simp; try with_reducible rfl)
      try simp only [List.getElem_toArray, List.getElem_cons_zero, List.getElem_cons_succ, Act.put, List.setIfInBounds_toArray, List.set_cons_zero, List.set_cons_succ]
      clear inv
      have inv := invn
      clear invn
      refine F_one (i := 3) (by kernel_rfl) rfl rfl (by omega) inv (fun K hK => ?_)
      try simp only [List.getElem_toArray, List.getElem_cons_zero, List.getElem_cons_succ]
      go_simp
      refine (l1Below_any b 3 _ (HCUR.out.keep (Below.refl _ _).drew)).mono ?_
      rintro e w2 ⟨y, rfl, -, hc2, ho2⟩
      have HR2 := Lib.hid ((HRES.out.drew).only ho2 (.inr (by omega)))
      have HB2 := Lib.hid ((HBLK.out.drew).only ho2 (.inr (by omega)))
      have HO2 := Lib.hid (own_only HOWN.out ((Only.of_below (Below.refl _ _).drew b (b + 1)).trans ho2) (by omega))
      have HN2 := Lib.hid (HON.out.trans (Only.trans (Only.of_below (Below.refl _ _).drew b (b + 1)) ho2))
      have hs2 := HB2.out.lt
      refine hK.out _ _ ((ho2.kc (by simp only; omega) hS)) (fun hSn invn => ?_)
      try simp only [List.getElem_toArray, List.getElem_cons_zero, List.getElem_cons_succ, Act.put, List.setIfInBounds_toArray, List.set_cons_zero, List.set_cons_succ]
      clear hK K inv hS
      have inv := invn
      have hS := hSn
      clear invn hSn
      refine F_one (i := 4) (by kernel_rfl) rfl rfl (by omega) inv (fun K hK => ?_)
      try simp only [List.getElem_toArray, List.getElem_cons_zero, List.getElem_cons_succ]
      go_simp
      refine hK.out _ _ ((kcell ((Below.refl _ _).alloc (Nat.le_refl _) _) hS)) (fun hSn invn => ?_)
      try simp only [List.getElem_toArray, List.getElem_cons_zero, List.getElem_cons_succ, Act.put, List.setIfInBounds_toArray, List.set_cons_zero, List.set_cons_succ]
      clear hK K inv hS
      have inv := invn
      have hS := hSn
      clear invn hSn
      refine F_one (i := 5) (by kernel_rfl) rfl rfl (by omega) inv (fun K hK => ?_)
      try simp only [List.getElem_toArray, List.getElem_cons_zero, List.getElem_cons_succ]
      refine op_append1 cI elInt rfl _ _ (by rfl) (w.heap.size + 1 + 1) vs xs y 1 _ (by rfl) (HO2.out.alloc _) (by first | rfl | simp) (heap_alloc_new _ _) rfl (cI_one _) (by omega) (by omega) (by simp; omega) ?_
      intro g2 cp2 w3 hown3 hgr3 hat3 hlt3
      have hbT := ((Below.refl (w.heap.size + 1 + 1) w2).alloc (by omega) (.cells #[.int .i64 y] 3)).trans (own_below (HO2.out.alloc (.cells #[.int .i64 y] 3)) (by simp; omega) hgr3)
      have HR3 := Lib.hid (HR2.out.below hbT (by omega))
      have HB3 := Lib.hid (HB2.out.below hbT (by omega))
      have HC3 := Lib.hid (hc2.below hbT (by omega))
      have HN3 := Lib.hid (HN2.out.andBelow hbT (by omega))
      have HO3 := Lib.hid hown3
      have x0 : w3.cell? ⟨w.heap.size + 1, 0, none⟩ = some vs := HB3.out.cell 0
      have y0 := HB3.out.frozen 0
      have hl3 := HB3.out.lt
      clear hbT hown3 hgr3 hat3 ho2 hc2 hs2
      refine hK.out _ _ (x0) (fun hSn invn => ?_)
      try simp only [List.getElem_toArray, List.getElem_cons_zero, List.getElem_cons_succ, Act.put, List.setIfInBounds_toArray, List.set_cons_zero, List.set_cons_succ]
      clear hK K inv hS
      have inv := invn
      have hS := hSn
      clear invn hSn
      refine F_take (i := 6) (v := ?_) rfl (by kernel_rfl) (by kernel_rfl) (by kernel_rfl) (fun _ _ _ h => h) inv (Or.inl ⟨by rfl, ?_⟩) (by assumption) (fun invn => ?_)
      rotate_left
      · (intro w hSw; (try dsimp only at hSw); go_simp; try with_reducible rfl)
      try simp only [List.getElem_toArray, List.getElem_cons_zero, List.getElem_cons_succ, Act.put, List.setIfInBounds_toArray, List.set_cons_zero, List.set_cons_succ]
      clear inv
      have inv := invn
      clear invn
      refine F_last (i := 7) (by kernel_rfl) rfl rfl (by omega) (by kernel_rfl) (fun K hK => ?_)
      go_simp
      refine hK _ _ ?_
      clear hK K inv hS
      clear x0 y0
      have HOS := Lib.hid ((Only.refl (w.heap.size + 1) (w.heap.size + 1 + 1) w3).setCell (p := ⟨w.heap.size + 1, 0, none⟩) (.inl ⟨Nat.le_refl _, Nat.lt_succ_self _⟩) (.slice (some ⟨g2, 0, none⟩) (xs.length + 1) cp2))
      go_wp2_with fail
      go_roundw
      case rel =>
        refine ⟨n - 1, _, xs ++ [y], ?_, by simp; omega, HR3.out.far (by simp only; omega) _, HB3.out.set_ 0 _, own_only HO3.out HOS.out (Nat.le_refl _), HC3.out.set (by simp only; omega) _, HN3.out.setCell (.inr (by simp only; omega)) _⟩
        congr 1; omega
      case measure => simp [intOf]; omega
end Go.Proofs.Ytallglnmeeahiaa

/- A node, an edge's number and a step drawn for a graph: that the draws end. -/
namespace Go.Proofs.Ytallglnmeeahiaa
set_option linter.unusedVariables false
set_option linter.unusedSimpArgs false
open Go.ChangeShapes Go.WideShapes Go.ChangeAt Go.RowKit
attribute [local go_sem] ext_cell ext_frozen ext_lt ext_lt1 ext_lt2 ext_lt3 ltn2 ltn3 ltn13 lts1 lts2 lts3

set_option maxHeartbeats 1000000 in
theorem l4Node_any (b : Nat) (A1 A2 : Option Addr) (n1 c1 n2 c2 : Nat) (w : World) (hc : Cur w b) (hn : n1 ≤ maxLen) :
    Calls Try.prog 55 #[.pointer (some ⟨b, 0, none⟩), .agg #[.slice A1 n1 c1, .slice A2 n2 c2]] w fun e w' => ∃ r : Int, e = .returned (.int .i64 r) ∧ Cur w' b ∧ Only b (b + 1) w w' := by
  unfold maxLen at hn
  have hlt := hc.lt
  have hal := (Below.refl w.heap.size w).alloc (Nat.le_refl _) (.cells #[.slice A1 n1 c1, .slice A2 n2 c2] 38)
  have hbk := Blk.new w 38 #[.slice A1 n1 c1, .slice A2 n2 c2] _ rfl
  go_enter Try.func55, Try.ntmps55
  go_wp2_with fail
  refine (l1Once_any b 14 _ (hc.keep hal)).mono ?_
  rintro e w1 ⟨r, rfl, hc1, ho1⟩
  have hbk1 := hbk.only ho1 (.inr (by omega))
  have x0 : w1.cell? ⟨w.heap.size, 0, none⟩ = some (.slice A1 n1 c1) := hbk1.cell 0
  have l0 := hbk1.lt
  have ho1 := (Only.of_below hal b (b + 1)).trans ho1
  have HO := Lib.hid ho1
  clear ho1 hbk hbk1 hal
  cases r
  · go_wp2_with fail
    all_goals
      refine (l1Below_any b _ _ hc1).mono ?_
      rintro e w2 ⟨r, rfl, -, hc2, ho2⟩
      go_wp2_with fail
      go_ret
      exact ⟨_, rfl, hc2, HO.out.trans ho2⟩
  · have HSL := Lib.hid (litD_sl w1 3 #[.int .i64 (-1), .int .i64 5, .int .i64 9223372036854775807] [-1, 5, 9223372036854775807] 3 (b + 1) (by omega) (by decide) rfl rfl rfl)
    have hal2 := (Below.refl w1.heap.size w1).alloc (Nat.le_refl _) (.cells #[.int .i64 (-1), .int .i64 5, .int .i64 9223372036854775807] 3)
    have HAL := Lib.hid hal2
    clear hal2
    go_wp2_with fail
    refine (l1PickInt_any b _ _ _ (hc1.keep HAL.out) (by decide) HSL.out).mono ?_
    rintro e w2 ⟨r, rfl, -, hc2, ho2⟩
    go_wp2_with fail
    go_ret
    exact ⟨_, rfl, hc2, HO.out.trans ((Only.of_below HAL.out b (b + 1)).trans ho2)⟩

set_option maxHeartbeats 2000000 in
theorem l3ID_any (b : Nat) (vg : Value) (g : Gr) (w : World) (hc : Cur w b) (hgv : GrV (b + 1) w.heap.size w vg g) :
    Calls Try.prog 103 #[.pointer (some ⟨b, 0, none⟩), vg] w fun e w' => ∃ r : Int, e = .returned (.int .i64 r) ∧ Cur w' b ∧ Only b (b + 1) w w' := by
  obtain ⟨vs, es, rfl, h1, ⟨A2, c2, rfl, hl2, hm2, hx2⟩⟩ := hgv
  obtain ⟨A1, n1, c1, rfl⟩ := h1.shape
  unfold maxLen at hm2
  have HX := Lib.hid hx2
  clear hx2 h1
  obtain ⟨m, hm⟩ : ∃ m, m = g.edges.length := ⟨_, rfl⟩
  rw [← hm] at hl2 ⊢
  have HM := Lib.hid hm
  clear hm
  have hlt := hc.lt
  have hal := (Below.refl w.heap.size w).alloc (Nat.le_refl _) (.cells #[.slice A1 n1 c1, .slice A2 m c2] 38)
  have hbk := Blk.new w 38 #[.slice A1 n1 c1, .slice A2 m c2] _ rfl
  rcases Nat.eq_zero_or_pos m with rfl | h0
  · have hd : decide (0 < ((0 : Nat) : Int)) = false := decide_eq_false (by omega)
    go_enter Try.func103, Try.ntmps103
    go_wp2_with fail
    obtain ⟨W0, hW0⟩ : ∃ W0, W0 = w.alloc (.cells #[.slice A1 n1 c1, .slice A2 0 c2] 38) := ⟨_, rfl⟩
    rw [← hW0] at hal ⊢
    have hs0 : W0.heap.size = w.heap.size + 1 := by rw [hW0]; simp
    have hsl := litD_sl W0 3 #[.int .i64 0, .int .i64 1, .int .i64 50, .int .i64 (-1)] [0, 1, 50, -1] 4 (b + 1) (by omega) (by decide) rfl rfl rfl
    rw [hs0] at hsl
    have HSL := Lib.hid hsl
    have HAL := Lib.hid (hal.alloc (by omega) (.cells #[.int .i64 0, .int .i64 1, .int .i64 50, .int .i64 (-1)] 3))
    clear hsl hs0 hW0 hal
    refine (l1PickInt_any b _ _ _ (hc.keep HAL.out) (by decide) HSL.out).mono ?_
    rintro e w2 ⟨r, rfl, -, hc2, ho2⟩
    go_wp2_with fail
    go_ret
    exact ⟨_, rfl, hc2, (Only.of_below HAL.out b (b + 1)).trans ho2⟩
  · have hd : decide (0 < (m : Int)) = true := decide_eq_true (by omega)
    have hd2 : 0 < m := by omega
    go_enter Try.func103, Try.ntmps103
    go_wp2_with fail
    refine (l1Once_any b 6 _ (hc.keep hal)).mono ?_
    rintro e w1 ⟨r, rfl, hc1, ho1⟩
    have hbk1 := hbk.only ho1 (.inr (by omega))
    have x1 : w1.cell? ⟨w.heap.size, 1, none⟩ = some (.slice A2 m c2) := hbk1.cell 1
    have l0 := hbk1.lt
    have ho1 := (Only.of_below hal b (b + 1)).trans ho1
    have HO := Lib.hid ho1
    clear ho1 hbk hbk1 hal hd
    cases r
    · go_wp2_with fail
      refine F_start 7 (fun w' => w'.cell? ⟨w.heap.size, 1, none⟩ = some (.slice A2 m c2)) (by kernel_rfl) (by exact x1) (fun hS inv => ?_)
      refine F_take (i := 0) (v := ?_) rfl (by kernel_rfl) (by kernel_rfl) (by kernel_rfl) (fun _ _ _ h => h) inv (Or.inl ⟨by rfl, ?_⟩) (by assumption) (fun invn => ?_)
      rotate_left
      · (intro w hSw; (try dsimp only at hSw); go_simp; try with_reducible rfl)
      try simp only [List.getElem_toArray, List.getElem_cons_zero, List.getElem_cons_succ, Act.put, List.setIfInBounds_toArray, List.set_cons_zero, List.set_cons_succ]
      clear inv
      have inv := invn
      clear invn
      refine F_take (i := 1) (v := ?_) rfl (by kernel_rfl) (by kernel_rfl) (by kernel_rfl) (fun _ _ _ h => h) inv (Or.inl ⟨by rfl, ?_⟩) (by assumption) (fun invn => ?_)
      rotate_left
      · (intro w hSw; (try dsimp only at hSw); go_simp; try with_reducible rfl)
      try simp only [List.getElem_toArray, List.getElem_cons_zero, List.getElem_cons_succ, Act.put, List.setIfInBounds_toArray, List.set_cons_zero, List.set_cons_succ]
      clear inv
      have inv := invn
      clear invn
      refine F_take (i := 2) (v := ?_) rfl (by kernel_rfl) (by kernel_rfl) (by kernel_rfl) (fun _ _ _ h => h) inv (Or.inl ⟨by rfl, ?_⟩) (by assumption) (fun invn => ?_)
      rotate_left
      · (intro w hSw; (try dsimp only at hSw); go_simp; try with_reducible rfl)
      try simp only [List.getElem_toArray, List.getElem_cons_zero, List.getElem_cons_succ, Act.put, List.setIfInBounds_toArray, List.set_cons_zero, List.set_cons_succ]
      clear inv
      have inv := invn
      clear invn
      refine F_take (i := 3) (v := ?_) rfl (by kernel_rfl) (by kernel_rfl) (by kernel_rfl) (fun _ _ _ h => h) inv (Or.inl ⟨by rfl, ?_⟩) (by assumption) (fun invn => ?_)
      rotate_left
      · (intro w hSw; (try dsimp only at hSw); go_simp; try with_reducible rfl)
      try simp only [List.getElem_toArray, List.getElem_cons_zero, List.getElem_cons_succ, Act.put, List.setIfInBounds_toArray, List.set_cons_zero, List.set_cons_succ]
      clear inv
      have inv := invn
      clear invn
      refine F_take (i := 4) (v := ?_) rfl (by kernel_rfl) (by kernel_rfl) (by kernel_rfl) (fun _ _ _ h => h) inv (Or.inl ⟨by rfl, ?_⟩) (by assumption) (fun invn => ?_)
      rotate_left
      · (intro w hSw; (try dsimp only at hSw); go_simp; try with_reducible rfl)
      try simp only [List.getElem_toArray, List.getElem_cons_zero, List.getElem_cons_succ, Act.put, List.setIfInBounds_toArray, List.set_cons_zero, List.set_cons_succ]
      clear inv
      have inv := invn
      clear invn
      refine F_take (i := 5) (v := ?_) rfl (by kernel_rfl) (by kernel_rfl) (by kernel_rfl) (fun _ _ _ h => h) inv (Or.inl ⟨by rfl, ?_⟩) (by assumption) (fun invn => ?_)
      rotate_left
      · (intro w hSw; (try dsimp only at hSw); go_simp; try with_reducible rfl)
      try simp only [List.getElem_toArray, List.getElem_cons_zero, List.getElem_cons_succ, Act.put, List.setIfInBounds_toArray, List.set_cons_zero, List.set_cons_succ]
      clear inv
      have inv := invn
      clear invn
      refine F_one (i := 6) (by kernel_rfl) rfl rfl (by omega) inv (fun K hK => ?_)
      try simp only [List.getElem_toArray, List.getElem_cons_zero, List.getElem_cons_succ]
      go_simp
      refine (l1Below_any b _ _ (hc1.keep (Below.refl _ _).drew)).mono ?_
      rintro e w2 ⟨r, rfl, ⟨hr0, -, hr1⟩, hc2, ho2⟩
      have hr1 := hr1 (by omega)
      obtain ⟨i, rfl⟩ := Int.eq_ofNat_of_zero_le hr0
      have hi : i < g.edges.length := by have := HM.out; omega
      have hxi : g.edges[i]? = some g.edges[i] := List.getElem?_eq_getElem hi
      obtain ⟨q, o, rfl, hq0, hq1, hcc⟩ := HX.out i _ hxi
      generalize g.edges[i] = y at hcc
      have hoX := HO.out.trans ((Only.of_below (Below.refl _ _).drew b (b + 1)).trans ho2)
      have c0 := (hoX.cell (p := ⟨q, o + i * 4 + 0, none⟩) hq1 (.inr hq0)).trans (hcc 0 _ rfl)
      simp only [Nat.add_zero] at c0
      have HOX := Lib.hid hoX
      clear hcc hxi hoX
      refine hK.out _ _ ((ho2.kc (by simp only; omega) hS)) (fun hSn invn => ?_)
      try simp only [List.getElem_toArray, List.getElem_cons_zero, List.getElem_cons_succ, Act.put, List.setIfInBounds_toArray, List.set_cons_zero, List.set_cons_succ]
      clear hK K inv hS
      have inv := invn
      have hS := hSn
      clear invn hSn
      clear ho2
      refine F_tail (i := 7) (by kernel_rfl) rfl rfl (by omega) (fun K hK => ?_)
      try simp only [List.getElem_toArray, List.getElem_cons_zero, List.getElem_cons_succ]
      go_simp
      refine hK.out _ _ ?_
      try simp only [List.getElem_toArray, List.getElem_cons_zero, List.getElem_cons_succ, Act.put, List.setIfInBounds_toArray, List.set_cons_zero, List.set_cons_succ]
      clear hK K
      try clear inv hS
      refine F_tail (i := 8) (by kernel_rfl) rfl rfl (by omega) (fun K hK => ?_)
      try simp only [List.getElem_toArray, List.getElem_cons_zero, List.getElem_cons_succ]
      go_simp
      refine hK.out _ _ ?_
      try simp only [List.getElem_toArray, List.getElem_cons_zero, List.getElem_cons_succ, Act.put, List.setIfInBounds_toArray, List.set_cons_zero, List.set_cons_succ]
      clear hK K
      try clear inv hS
      refine F_tail (i := 9) (by kernel_rfl) rfl rfl (by omega) (fun K hK => ?_)
      try simp only [List.getElem_toArray, List.getElem_cons_zero, List.getElem_cons_succ]
      go_simp
      refine hK.out _ _ ?_
      try simp only [List.getElem_toArray, List.getElem_cons_zero, List.getElem_cons_succ, Act.put, List.setIfInBounds_toArray, List.set_cons_zero, List.set_cons_succ]
      clear hK K
      try clear inv hS
      refine F_last (i := 10) (by kernel_rfl) rfl rfl (by omega) (by kernel_rfl) (fun K hK => ?_)
      go_simp
      refine hK _ _ ?_
      clear hK K
      go_wp2_with fail
      go_ret
      exact ⟨_, rfl, hc2, HOX.out⟩
    · have HSL := Lib.hid (litD_sl w1 3 #[.int .i64 0, .int .i64 1, .int .i64 50, .int .i64 (-1)] [0, 1, 50, -1] 4 (b + 1) (by omega) (by decide) rfl rfl rfl)
      have hal2 := (Below.refl w1.heap.size w1).alloc (Nat.le_refl _) (.cells #[.int .i64 0, .int .i64 1, .int .i64 50, .int .i64 (-1)] 3)
      have HAL := Lib.hid hal2
      clear hal2
      go_wp2_with fail
      refine (l1PickInt_any b _ _ _ (hc1.keep HAL.out) (by decide) HSL.out).mono ?_
      rintro e w2 ⟨r, rfl, -, hc2, ho2⟩
      go_wp2_with fail
      go_ret
      exact ⟨_, rfl, hc2, HO.out.trans ((Only.of_below HAL.out b (b + 1)).trans ho2)⟩

set_option maxHeartbeats 2000000 in
theorem l4Step_any (b : Nat) (vg : Value) (g : Gr) (w : World) (hc : Cur w b) (hgv : GrV (b + 1) w.heap.size w vg g) :
    Calls Try.prog 82 #[.pointer (some ⟨b, 0, none⟩), vg] w fun e w' => ∃ s : St, e = .returned (.agg #[.int .i64 s.1, .bool s.2]) ∧ Cur w' b ∧ Only b (b + 1) w w' := by
  have HGV := Lib.hid hgv
  obtain ⟨A1, n1, c1, A2, n2, c2, rfl⟩ := hgv.shape
  clear hgv
  have hlt := hc.lt
  have hal := ((Below.refl w.heap.size w).alloc (Nat.le_refl _) (.cells #[.slice A1 n1 c1, .slice A2 n2 c2] 38)).alloc (by simp) (.cells #[.int .i64 0, .bool false] 54)
  have hbr := Blk.new (w.alloc (.cells #[.slice A1 n1 c1, .slice A2 n2 c2] 38)) 54 #[.int .i64 0, .bool false] (w.heap.size + 1) (by simp)
  go_enter Try.func82, Try.ntmps82
  go_wp2_with fail
  have hz := hal.size
  refine (l3ID_any b _ g _ (hc.keep hal) ((HGV.out.below hal (Nat.le_refl _)).mono (Nat.le_refl _) hz)).mono ?_
  rintro e w1 ⟨r, rfl, hc1, ho1⟩
  have hbr1 := hbr.only ho1 (.inr (by omega))
  have HO := Lib.hid ((Only.of_below hal b (b + 1)).trans ho1)
  clear ho1 hbr hal hz
  go_wp2_with fail
  refine (l1Once_any b 2 _ hc1).mono ?_
  rintro e w2 ⟨s, rfl, hc2, ho2⟩
  have hbr2 := hbr1.only ho2 (.inr (by omega))
  have z0 : w2.cell? ⟨w.heap.size + 1, 0, none⟩ = some (.int .i64 0) := hbr2.cell 0
  have z1 : w2.cell? ⟨w.heap.size + 1, 1, none⟩ = some (.bool false) := hbr2.cell 1
  have v0 := hbr2.frozen 0
  have v1 := hbr2.frozen 1
  have l2 := hbr2.lt
  have HO2 := Lib.hid (HO.out.trans ho2)
  clear ho2 hbr1 hbr2
  go_wp2_with fail
  refine bodyPost_ret (v := .agg #[.int .i64 r, .bool s]) (by simp [results, Try.results82, go_sem, z0, z1, v0, v1]) rfl ⟨(r, s), rfl, ?_, (HO2.out.setCell (p := ⟨w.heap.size + 1, 0, none⟩) (.inr (by simp only; omega)) _).setCell (p := ⟨w.heap.size + 1, 1, none⟩) (.inr (by simp only; omega)) _⟩
  exact (hc2.set (p := ⟨w.heap.size + 1, 0, none⟩) (by simp only; omega) _).set (p := ⟨w.heap.size + 1, 1, none⟩) (by simp only; omega) _
end Go.Proofs.Ytallglnmeeahiaa

/- Any graph drawn, valid or not: that the draw ends, and how the graph lies. -/
namespace Go.Proofs.Ytallglnmeeahiaa
set_option linter.unusedVariables false
set_option linter.unusedSimpArgs false
open Go.ChangeShapes Go.WideShapes Go.ChangeAt Go.RowKit
attribute [local go_sem] ext_cell ext_frozen ext_lt ext_lt1 ext_lt2 ext_lt3 ltn2 ltn3 ltn13 lts1 lts2 lts3

theorem gv_done {b r lo : Nat} {w0 w : World} {v d0 d1 : Value} {g : Gr} (h : GrV lo w.heap.size w v g) (hc : Cur w b) (ho : Only b (b + 1) w0 w) (hr : w0.heap.size = r) (hlt : b < r ∧ r < lo) :
    GrV w0.heap.size ((w.setCell ⟨r, 0, none⟩ d0).setCell ⟨r, 1, none⟩ d1).heap.size ((w.setCell ⟨r, 0, none⟩ d0).setCell ⟨r, 1, none⟩ d1) v g ∧ Cur ((w.setCell ⟨r, 0, none⟩ d0).setCell ⟨r, 1, none⟩ d1) b ∧ Only b (b + 1) w0 ((w.setCell ⟨r, 0, none⟩ d0).setCell ⟨r, 1, none⟩ d1) := by
  have hp := Only.put2 w r d0 d1
  exact ⟨(h.only hp (Nat.le_refl _) (.inr (by omega))).mono (by omega) hp.size, hc.only hp (by omega), (ho.setCell (p := ⟨r, 0, none⟩) (.inr (by simp only; omega)) _).setCell (p := ⟨r, 1, none⟩) (.inr (by simp only; omega)) _⟩

/-- a graph that lies in the block q; the result's block r -/
structure GcR (b r q lo mid hi : Nat) (w0 w : World) (vs es : Value) (xs : List Int) (ys : List Ed) : Prop where
  res : Blk w r 38 #[.slice none 0 0, .slice none 0 0]
  blk : Blk w q 38 #[vs, es]
  vals : Own lo mid w 3 cI 1 vs xs
  edges : Own mid hi w 90 cEd 4 es ys
  cur : Cur w b
  only : Only b (b + 1) w0 w
  at0 : w0.heap.size = r
  ord : b < r ∧ r < lo ∧ lo ≤ mid ∧ mid ≤ hi ∧ hi ≤ q
section
variable {b r q lo mid hi : Nat} {w0 w w' : World} {vs es : Value} {xs : List Int} {ys : List Ed}
theorem GcR.move (h : GcR b r q lo mid hi w0 w vs es xs ys) (ho : Only b (b + 1) w w') (hc : Cur w' b) : GcR b r q lo mid hi w0 w' vs es xs ys := by
  have hd := h.ord
  exact ⟨h.res.only ho (.inr (by omega)), h.blk.only ho (.inr (by omega)), h.vals.only ho (.inr (by omega)), h.edges.only ho (.inr (by omega)), hc, h.only.trans ho, h.at0, hd⟩
theorem GcR.below (h : GcR b r q lo mid hi w0 w vs es xs ys) (hb : Below w.heap.size w w') : GcR b r q lo mid hi w0 w' vs es xs ys := by
  have hd := h.ord
  have hq := h.blk.lt
  exact ⟨h.res.keep hb, h.blk.keep hb, h.vals.below hb (by omega), h.edges.below hb (by omega), h.cur.keep hb, h.only.trans (Only.of_below hb _ _), h.at0, hd⟩
theorem GcR.alloc (h : GcR b r q lo mid hi w0 w vs es xs ys) (o : Obj) : GcR b r q lo mid hi w0 (w.alloc o) vs es xs ys := h.below ((Below.refl _ _).alloc (Nat.le_refl _) _)
theorem GcR.view (h : GcR b r q lo mid hi w0 w vs es xs ys) : GrV lo w.heap.size w (.agg #[vs, es]) ⟨xs, ys⟩ := by
  have hd := h.ord
  have hq := h.blk.lt
  exact ⟨vs, es, rfl, (h.vals.sl cI_len).mono (Nat.le_refl _) (by omega), (h.edges.sl cEd_len).mono (by omega) (by omega)⟩
theorem GcR.push {ys' : List Ed} {g n c : Nat} (h : GcR b r q lo mid hi w0 w vs es xs ys) (hr : w'.ownsRow mid 90 4 (.slice (some ⟨g, 0, none⟩) n c) ys'.length (ys'.flatMap cEd)) (hg : w.grownBy w' es.ownBlock) (hat : es.ownBlock = some g ∨ w.heap.size ≤ g) :
    Blk w' q 38 #[vs, es] ∧ (GrV lo (w'.setCell ⟨q, 1, none⟩ (.slice (some ⟨g, 0, none⟩) n c)).heap.size (w'.setCell ⟨q, 1, none⟩ (.slice (some ⟨g, 0, none⟩) n c)) (.agg #[vs, .slice (some ⟨g, 0, none⟩) n c]) ⟨xs, ys'⟩ ∧
      Blk (w'.setCell ⟨q, 1, none⟩ (.slice (some ⟨g, 0, none⟩) n c)) r 38 #[.slice none 0 0, .slice none 0 0] ∧ Blk (w'.setCell ⟨q, 1, none⟩ (.slice (some ⟨g, 0, none⟩) n c)) q 38 #[vs, .slice (some ⟨g, 0, none⟩) n c] ∧
      Cur (w'.setCell ⟨q, 1, none⟩ (.slice (some ⟨g, 0, none⟩) n c)) b ∧ Only b (b + 1) w0 (w'.setCell ⟨q, 1, none⟩ (.slice (some ⟨g, 0, none⟩) n c))) := by
  have hd := h.ord
  have hq := h.blk.lt
  have hb := own_below h.edges.1 (by omega) hg
  have hne : es.ownBlock ≠ some q := fun e => by have := h.edges.2 q e; omega
  have hs := hb.size
  have hgq : g ≠ q := by
    rcases hat with h1 | h1
    · have := h.edges.2 g h1; omega
    · omega
  have hbq : Blk w' q 38 #[vs, es] := (hg.block q hq (fun e => hne e.symm)).trans h.blk
  have hos := (Only.refl q (q + 1) w').setCell (p := ⟨q, 1, none⟩) (.inl ⟨Nat.le_refl _, Nat.lt_succ_self _⟩) (.slice (some ⟨g, 0, none⟩) n c)
  have hr2 := ownsRow_block hr (w' := w'.setCell ⟨q, 1, none⟩ (.slice (some ⟨g, 0, none⟩) n c)) (fun g' hg' => by cases hg'; exact Below.heap_setCell w' ⟨q, 1, none⟩ _ g hgq)
  exact ⟨hbq, ⟨_, _, rfl, (((h.vals.below hb (Nat.le_refl _)).only hos (.inl (by omega))).sl cI_len).mono (Nat.le_refl _) (Nat.le_trans (by omega) hos.size), ((Own.of_row (xs := ys') hr2 rfl rfl).sl cEd_len).mono (by omega) (Nat.le_refl _)⟩, (h.res.below hb (by omega)).far (by simp only; omega) _, hbq.set_ 1 _, (h.cur.below hb (by omega)).set (by simp only; omega) _, (h.only.andBelow hb (by have := h.at0; omega)).setCell (.inr (by have := h.at0; simp only; omega)) _⟩
end
set_option maxHeartbeats 4000000 in
theorem l3Any_any (b : Nat) (w : World) (hc : Cur w b) :
    Calls Try.prog 80 #[.pointer (some ⟨b, 0, none⟩)] w fun e w' => ∃ v g, e = .returned v ∧ GrV w.heap.size w'.heap.size w' v g ∧ (g.vals.length ≤ 5 ∧ g.edges.length ≤ 11) ∧ Cur w' b ∧ Only b (b + 1) w w' := by
  have hlt := hc.lt
  have hb0 := (Below.refl w.heap.size w).alloc (Nat.le_refl _) (.cells #[.slice none 0 0, .slice none 0 0] 38)
  have hbr := Blk.new w 38 #[.slice none 0 0, .slice none 0 0] _ rfl
  go_enter Try.func80, Try.ntmps80
  go_wp2_with fail
  refine (l3Graph_any b _ (hc.keep hb0)).mono ?_
  rintro e w1 ⟨v, g, rfl, hgo, ⟨hg1, hg2, hg3⟩, hc1, ho1⟩
  have hsz : (w.alloc (.cells #[.slice none 0 0, .slice none 0 0] 38)).heap.size = w.heap.size + 1 := by simp
  rw [hsz] at hgo
  obtain ⟨vs, es, mid, rfl, hov, hoe, hm1, hm2⟩ := hgo
  obtain ⟨A1, n1, c1, rfl⟩ := hov.shape
  obtain ⟨A2, n2, c2, rfl⟩ := hoe.shape
  have hal := (Below.refl w1.heap.size w1).alloc (Nat.le_refl _) (.cells #[.slice A1 n1 c1, .slice A2 n2 c2] 38)
  have HG0 := Lib.hid (show GcR b w.heap.size w1.heap.size (w.heap.size + 1) mid w1.heap.size w (w1.alloc (.cells #[.slice A1 n1 c1, .slice A2 n2 c2] 38)) _ _ g.vals g.edges from
    ⟨(hbr.only ho1 (.inr (by omega))).keep hal, Blk.new w1 _ _ _ rfl, hov.below hal (by omega), hoe.below hal (Nat.le_refl _), hc1.keep hal, ((Only.of_below hb0 b (b + 1)).trans ho1).trans (Only.of_below hal _ _), rfl, by omega⟩)
  clear hal hsz hov hoe ho1 hc1 hbr hb0
  go_wp2_with fail
  refine (l1Below_any b 14 _ HG0.out.cur).mono ?_
  rintro e w2 ⟨t, rfl, -, hc2, ho2⟩
  have HG := Lib.hid (HG0.out.move ho2 hc2)
  clear HG0 ho2 hc2
  have x0 : w2.cell? ⟨w1.heap.size, 0, none⟩ = some (.slice A1 n1 c1) := HG.out.blk.cell 0
  have x1 : w2.cell? ⟨w1.heap.size, 1, none⟩ = some (.slice A2 n2 c2) := HG.out.blk.cell 1
  have y0 := HG.out.blk.frozen 0
  have y1 := HG.out.blk.frozen 1
  have hlq := HG.out.blk.lt
  have hlr := HG.out.res.lt
  have v0 := HG.out.res.frozen 0
  have v1 := HG.out.res.frozen 1
  by_cases ht0 : t = 0
  · subst ht0
    have z0 : w2.cell? ⟨w.heap.size, 0, none⟩ = some (.slice none 0 0) := HG.out.res.cell 0
    have z1 : w2.cell? ⟨w.heap.size, 1, none⟩ = some (.slice none 0 0) := HG.out.res.cell 1
    have hvr := HG.out.vals.1
    have hn1 : ∃ gV, A1 = some ⟨gV, 0, none⟩ ∧ n1 = g.vals.length := by
      rcases hvr.2 with ⟨_, h2⟩ | ⟨gV, cap, cur, h1, _⟩
      · omega
      · injection h1 with h1 h2 _; exact ⟨gV, h1, h2⟩
    obtain ⟨gV, rfl, rfl⟩ := hn1
    have hvl := HG.out.vals.lt gV rfl
    have fz0 := World.ownsRow.frozenAt hvr 0
    have cz0 := World.ownsRow.cellAt hvr 0 (by omega)
    have hx0 : g.vals[0]? = some g.vals[0] := List.getElem?_eq_getElem (by omega)
    have hfl : (g.vals.flatMap cI)[0]? = some (.int .i64 g.vals[0]) := by have := flat_at (E := cI) (k := 1) cI_len hx0 0 _ rfl; simpa using this
    rw [hfl] at cz0
    clear hfl hx0 hvr
    have h0n : (0 : Int) < (g.vals.length : Int) := by omega
    have h0N : 0 < g.vals.length := by omega
    go_wp2_with fail
    refine F_start 5 (fun w' => w'.cell? ⟨w1.heap.size, 0, none⟩ = some (.slice (some ⟨gV, 0, none⟩) g.vals.length c1)) (by kernel_rfl) (by exact x0) (fun hS inv => ?_)
    refine F_take (i := 0) (v := ?_) rfl (by kernel_rfl) (by kernel_rfl) (by kernel_rfl) (fun _ _ _ h => h) inv (Or.inl ⟨by rfl, ?_⟩) (by assumption) (fun invn => ?_)
    rotate_left
    · (intro w hSw; (try dsimp only at hSw); go_simp; try with_reducible rfl)
    try simp only [List.getElem_toArray, List.getElem_cons_zero, List.getElem_cons_succ, Act.put, List.setIfInBounds_toArray, List.set_cons_zero, List.set_cons_succ]
    clear inv
    have inv := invn
    clear invn
    refine F_take (i := 1) (v := ?_) rfl (by kernel_rfl) (by kernel_rfl) (by kernel_rfl) (fun _ _ _ h => h) inv (Or.inl ⟨by rfl, ?_⟩) (by assumption) (fun invn => ?_)
    rotate_left
    · (intro w hSw; (try dsimp only at hSw); go_simp; try with_reducible rfl)
    try simp only [List.getElem_toArray, List.getElem_cons_zero, List.getElem_cons_succ, Act.put, List.setIfInBounds_toArray, List.set_cons_zero, List.set_cons_succ]
    clear inv
    have inv := invn
    clear invn
    refine F_take (i := 2) (v := ?_) rfl (by kernel_rfl) (by kernel_rfl) (by kernel_rfl) (fun _ _ _ h => h) inv (Or.inl ⟨by rfl, ?_⟩) (by assumption) (fun invn => ?_)
    rotate_left
    · (intro w hSw; (try dsimp only at hSw); go_simp; try with_reducible rfl)
    try simp only [List.getElem_toArray, List.getElem_cons_zero, List.getElem_cons_succ, Act.put, List.setIfInBounds_toArray, List.set_cons_zero, List.set_cons_succ]
    clear inv
    have inv := invn
    clear invn
    refine F_one (i := 3) (by kernel_rfl) rfl rfl (by omega) inv (fun K hK => ?_)
    try simp only [List.getElem_toArray, List.getElem_cons_zero, List.getElem_cons_succ]
    go_simp
    have hal := ((Below.refl w2.heap.size w2).alloc (Nat.le_refl _) (.cells #[.int .i64 (-1), .int .i64 3, .int .i64 2] 3)).drew
    have HG3 := Lib.hid (HG.out.below hal)
    have HL3 := Lib.hid (show SlI (b + 1) (w2.alloc (.cells #[.int .i64 (-1), .int .i64 3, .int .i64 2] 3)).drew.heap.size (w2.alloc (.cells #[.int .i64 (-1), .int .i64 3, .int .i64 2] 3)).drew cI 1 _ _ from litD_sl w2 3 #[.int .i64 (-1), .int .i64 3, .int .i64 2] [-1, 3, 2] 3 (b + 1) (by omega) (by decide) rfl rfl rfl)
    clear hal
    refine hK.out _ _ ((HG3.out.blk.cell 0)) (fun hSn invn => ?_)
    try simp only [List.getElem_toArray, List.getElem_cons_zero, List.getElem_cons_succ, Act.put, List.setIfInBounds_toArray, List.set_cons_zero, List.set_cons_succ]
    clear hK K inv hS
    have inv := invn
    have hS := hSn
    clear invn hSn
    refine F_one (i := 4) (by kernel_rfl) rfl rfl (by omega) inv (fun K hK => ?_)
    try simp only [List.getElem_toArray, List.getElem_cons_zero, List.getElem_cons_succ]
    go_simp
    refine (l1PickInt_any b _ _ _ HG3.out.cur (by decide) HL3.out).mono ?_
    rintro e w3 ⟨u, rfl, -, hc3, ho3⟩
    have HG4 := Lib.hid (HG3.out.move ho3 hc3)
    clear ho3 hc3 HG3 HL3 x0 x1 y0 y1 v0 v1 z0 z1 fz0 cz0 hlr hlq
    refine hK.out _ _ ((HG4.out.blk.cell 0)) (fun hSn invn => ?_)
    try simp only [List.getElem_toArray, List.getElem_cons_zero, List.getElem_cons_succ, Act.put, List.setIfInBounds_toArray, List.set_cons_zero, List.set_cons_succ]
    clear hK K inv hS
    have inv := invn
    have hS := hSn
    clear invn hSn
    have hvr := HG4.out.vals.1
    have fz0 := World.ownsRow.frozenAt hvr 0
    have cz0 := World.ownsRow.cellAt hvr 0 (by omega)
    have hx0 : g.vals[0]? = some g.vals[0] := List.getElem?_eq_getElem (by omega)
    have hfl : (g.vals.flatMap cI)[0]? = some (.int .i64 g.vals[0]) := by have := flat_at (E := cI) (k := 1) cI_len hx0 0 _ rfl; simpa using this
    rw [hfl] at cz0
    have hst := (World.ownsRow.stored hvr 0 (.int .i64 u)).1
    rw [flatI_set] at hst
    have HST := Lib.hid hst
    clear hst hfl hx0 hvr
    refine F_tail (i := 5) (by kernel_rfl) rfl rfl (by omega) (fun K hK => ?_)
    try simp only [List.getElem_toArray, List.getElem_cons_zero, List.getElem_cons_succ]
    go_simp
    refine hK.out _ _ ?_
    try simp only [List.getElem_toArray, List.getElem_cons_zero, List.getElem_cons_succ, Act.put, List.setIfInBounds_toArray, List.set_cons_zero, List.set_cons_succ]
    clear hK K
    try clear inv hS
    refine F_last (i := 6) (by kernel_rfl) rfl rfl (by omega) (by kernel_rfl) (fun K hK => ?_)
    go_simp
    refine hK _ _ ?_
    clear hK K
    have hosv := (Only.refl gV (gV + 1) w3).setCell (p := ⟨gV, 0, none⟩) (.inl ⟨Nat.le_refl _, Nat.lt_succ_self _⟩) (.int .i64 u)
    have HW := Lib.hid (show GcR b w.heap.size w1.heap.size (w.heap.size + 1) mid w1.heap.size w (w3.setCell ⟨gV, 0, none⟩ (.int .i64 u)) _ _ (g.vals.set 0 u) g.edges from
      ⟨HG4.out.res.far (by simp only; omega) _, HG4.out.blk.far (by simp only; omega) _, ⟨by simpa using HST.out, HG4.out.vals.2⟩, HG4.out.edges.only hosv (.inr (by omega)), HG4.out.cur.set (by simp only; omega) _, HG4.out.only.setCell (.inr (by simp only; omega)) _, rfl, HG4.out.ord⟩)
    generalize w3.setCell ⟨gV, 0, none⟩ (.int .i64 u) = w4 at *
    clear HST hosv fz0 cz0
    have x0 : w4.cell? ⟨w1.heap.size, 0, none⟩ = some (.slice (some ⟨gV, 0, none⟩) g.vals.length c1) := HW.out.blk.cell 0
    have x1 : w4.cell? ⟨w1.heap.size, 1, none⟩ = some (.slice A2 n2 c2) := HW.out.blk.cell 1
    have z0 : w4.cell? ⟨w.heap.size, 0, none⟩ = some (.slice none 0 0) := HW.out.res.cell 0
    have z1 : w4.cell? ⟨w.heap.size, 1, none⟩ = some (.slice none 0 0) := HW.out.res.cell 1
    have v0 := HW.out.res.frozen 0
    have v1 := HW.out.res.frozen 1
    have hlr := HW.out.res.lt
    go_wp2_with fail
    have HD := gv_done (d0 := .slice (some ⟨gV, 0, none⟩) g.vals.length c1) (d1 := .slice A2 n2 c2) HW.out.view HW.out.cur HW.out.only rfl (by omega)
    refine bodyPost_ret (v := .agg #[.slice (some ⟨gV, 0, none⟩) g.vals.length c1, .slice A2 n2 c2]) (by simp [results, Try.results80, go_sem, z0, z1, v0, v1]) rfl ⟨_, ⟨g.vals.set 0 u, g.edges⟩, rfl, HD.1, ⟨by simp; omega, by simp only; omega⟩, HD.2.1, HD.2.2⟩
  have hd0 : (t == 0) = false := by simpa using ht0
  by_cases ht1 : t = 1
  · subst ht1
    go_wp2_with fail
    refine F_start 15 (fun w' => w'.cell? ⟨w1.heap.size, 1, none⟩ = some (.slice A2 n2 c2)) (by kernel_rfl) (by exact x1) (fun hS inv => ?_)
    refine F_take (i := 0) (v := ?_) rfl (by kernel_rfl) (by kernel_rfl) (by kernel_rfl) (fun _ _ _ h => h) inv (Or.inl ⟨by rfl, ?_⟩) (by assumption) (fun invn => ?_)
    rotate_left
    · (intro w hSw; (try dsimp only at hSw); go_simp; try with_reducible rfl)
    try simp only [List.getElem_toArray, List.getElem_cons_zero, List.getElem_cons_succ, Act.put, List.setIfInBounds_toArray, List.set_cons_zero, List.set_cons_succ]
    clear inv
    have inv := invn
    clear invn
    refine F_take (i := 1) (v := ?_) rfl (by kernel_rfl) (by kernel_rfl) (by kernel_rfl) (fun _ _ _ h => h) inv (Or.inl ⟨by rfl, ?_⟩) (by assumption) (fun invn => ?_)
    rotate_left
    · (intro w hSw; (try dsimp only at hSw); go_simp; try with_reducible rfl)
    try simp only [List.getElem_toArray, List.getElem_cons_zero, List.getElem_cons_succ, Act.put, List.setIfInBounds_toArray, List.set_cons_zero, List.set_cons_succ]
    clear inv
    have inv := invn
    clear invn
    refine F_take (i := 2) (v := ?_) rfl (by kernel_rfl) (by kernel_rfl) (by kernel_rfl) (fun _ _ _ h => h) inv (Or.inl ⟨by rfl, ?_⟩) (by assumption) (fun invn => ?_)
    rotate_left
    · (intro w hSw; (try dsimp only at hSw); go_simp; try with_reducible rfl)
    try simp only [List.getElem_toArray, List.getElem_cons_zero, List.getElem_cons_succ, Act.put, List.setIfInBounds_toArray, List.set_cons_zero, List.set_cons_succ]
    clear inv
    have inv := invn
    clear invn
    refine F_take (i := 5) (v := ?_) rfl (by kernel_rfl) (by kernel_rfl) (by kernel_rfl) (fun _ _ _ h => h) inv (Or.inl ⟨by rfl, ?_⟩) (by assumption) (fun invn => ?_)
    rotate_left
    · (intro w hSw; (try dsimp only at hSw); go_simp; try with_reducible rfl)
    try simp only [List.getElem_toArray, List.getElem_cons_zero, List.getElem_cons_succ, Act.put, List.setIfInBounds_toArray, List.set_cons_zero, List.set_cons_succ]
    clear inv
    have inv := invn
    clear invn
    refine F_take (i := 7) (v := ?_) rfl (by kernel_rfl) (by kernel_rfl) (by kernel_rfl) (fun _ _ _ h => h) inv (Or.inl ⟨by rfl, ?_⟩) (by assumption) (fun invn => ?_)
    rotate_left
    · (intro w hSw; (try dsimp only at hSw); go_simp; try with_reducible rfl)
    try simp only [List.getElem_toArray, List.getElem_cons_zero, List.getElem_cons_succ, Act.put, List.setIfInBounds_toArray, List.set_cons_zero, List.set_cons_succ]
    clear inv
    have inv := invn
    clear invn
    refine F_take (i := 9) (v := ?_) rfl (by kernel_rfl) (by kernel_rfl) (by kernel_rfl) (fun _ _ _ h => h) inv (Or.inl ⟨by rfl, ?_⟩) (by assumption) (fun invn => ?_)
    rotate_left
    · (intro w hSw; (try dsimp only at hSw); go_simp; try with_reducible rfl)
    try simp only [List.getElem_toArray, List.getElem_cons_zero, List.getElem_cons_succ, Act.put, List.setIfInBounds_toArray, List.set_cons_zero, List.set_cons_succ]
    clear inv
    have inv := invn
    clear invn
    refine F_one (i := 3) (by kernel_rfl) rfl rfl (by omega) inv (fun K hK => ?_)
    try simp only [List.getElem_toArray, List.getElem_cons_zero, List.getElem_cons_succ]
    go_simp
    have hal := ((Below.refl w2.heap.size w2).alloc (Nat.le_refl _) (.cells #[.int .i64 0, .int .i64 1, .int .i64 99, .int .i64 100] 3)).drew
    have HG3 := Lib.hid (HG.out.below hal)
    have HL3 := Lib.hid (show SlI (b + 1) (w2.alloc (.cells #[.int .i64 0, .int .i64 1, .int .i64 99, .int .i64 100] 3)).drew.heap.size (w2.alloc (.cells #[.int .i64 0, .int .i64 1, .int .i64 99, .int .i64 100] 3)).drew cI 1 _ _ from litD_sl w2 3 #[.int .i64 0, .int .i64 1, .int .i64 99, .int .i64 100] [0, 1, 99, 100] 4 (b + 1) (by omega) (by decide) rfl rfl rfl)
    clear hal
    refine hK.out _ _ ((HG3.out.blk.cell 1)) (fun hSn invn => ?_)
    try simp only [List.getElem_toArray, List.getElem_cons_zero, List.getElem_cons_succ, Act.put, List.setIfInBounds_toArray, List.set_cons_zero, List.set_cons_succ]
    clear hK K inv hS
    have inv := invn
    have hS := hSn
    clear invn hSn
    refine F_one (i := 4) (by kernel_rfl) rfl rfl (by omega) inv (fun K hK => ?_)
    try simp only [List.getElem_toArray, List.getElem_cons_zero, List.getElem_cons_succ]
    go_simp
    refine (l1PickInt_any b _ _ _ HG3.out.cur (by decide) HL3.out).mono ?_
    rintro e w3 ⟨u1, rfl, -, hc3, ho3⟩
    have HG4 := Lib.hid (HG3.out.move ho3 hc3)
    clear ho3 hc3 HG3 HL3 x0 x1 y0 y1 v0 v1 hlr hlq
    refine hK.out _ _ ((HG4.out.blk.cell 1)) (fun hSn invn => ?_)
    try simp only [List.getElem_toArray, List.getElem_cons_zero, List.getElem_cons_succ, Act.put, List.setIfInBounds_toArray, List.set_cons_zero, List.set_cons_succ]
    clear hK K inv hS
    have inv := invn
    have hS := hSn
    clear invn hSn
    refine F_one (i := 6) (by kernel_rfl) rfl rfl (by omega) inv (fun K hK => ?_)
    try simp only [List.getElem_toArray, List.getElem_cons_zero, List.getElem_cons_succ]
    go_simp
    refine (l1Below_any b _ _ HG4.out.cur).mono ?_
    rintro e w4 ⟨u2, rfl, -, hc4, ho4⟩
    have HG5 := Lib.hid (HG4.out.move ho4 hc4)
    clear ho4 hc4
    refine hK.out _ _ ((HG5.out.blk.cell 1)) (fun hSn invn => ?_)
    try simp only [List.getElem_toArray, List.getElem_cons_zero, List.getElem_cons_succ, Act.put, List.setIfInBounds_toArray, List.set_cons_zero, List.set_cons_succ]
    clear hK K inv hS
    have inv := invn
    have hS := hSn
    clear invn hSn
    refine F_one (i := 8) (by kernel_rfl) rfl rfl (by omega) inv (fun K hK => ?_)
    try simp only [List.getElem_toArray, List.getElem_cons_zero, List.getElem_cons_succ]
    go_simp
    refine (l1Below_any b _ _ HG5.out.cur).mono ?_
    rintro e w5 ⟨u3, rfl, -, hc5, ho5⟩
    have HG6 := Lib.hid (HG5.out.move ho5 hc5)
    clear ho5 hc5
    refine hK.out _ _ ((HG6.out.blk.cell 1)) (fun hSn invn => ?_)
    try simp only [List.getElem_toArray, List.getElem_cons_zero, List.getElem_cons_succ, Act.put, List.setIfInBounds_toArray, List.set_cons_zero, List.set_cons_succ]
    clear hK K inv hS
    have inv := invn
    have hS := hSn
    clear invn hSn
    refine F_one (i := 10) (by kernel_rfl) rfl rfl (by omega) inv (fun K hK => ?_)
    try simp only [List.getElem_toArray, List.getElem_cons_zero, List.getElem_cons_succ]
    go_simp
    refine (l1Below_any b _ _ HG6.out.cur).mono ?_
    rintro e w6 ⟨u4, rfl, -, hc6, ho6⟩
    have HG7 := Lib.hid (HG6.out.move ho6 hc6)
    clear ho6 hc6 HG4 HG5 HG6
    refine hK.out _ _ ((HG7.out.blk.cell 1)) (fun hSn invn => ?_)
    try simp only [List.getElem_toArray, List.getElem_cons_zero, List.getElem_cons_succ, Act.put, List.setIfInBounds_toArray, List.set_cons_zero, List.set_cons_succ]
    clear hK K inv hS
    have inv := invn
    have hS := hSn
    clear invn hSn
    refine F_take (i := 11) (v := ?_) rfl (by kernel_rfl) (by kernel_rfl) (by kernel_rfl) (fun _ _ _ h => h) inv (Or.inl ⟨by rfl, ?_⟩) (by assumption) (fun invn => ?_)
    rotate_left
    · (intro w hSw; (try dsimp only at hSw); go_simp; try with_reducible rfl)
    try simp only [List.getElem_toArray, List.getElem_cons_zero, List.getElem_cons_succ, Act.put, List.setIfInBounds_toArray, List.set_cons_zero, List.set_cons_succ]
    clear inv
    have inv := invn
    clear invn
    refine F_one (i := 12) (by kernel_rfl) rfl rfl (by omega) inv (fun K hK => ?_)
    try simp only [List.getElem_toArray, List.getElem_cons_zero, List.getElem_cons_succ]
    go_simp
    have HG8 := Lib.hid (HG7.out.alloc (.cells #[.int .i64 u1, .int .i64 u2, .int .i64 u3, .int .i64 u4] 90))
    refine hK.out _ _ ((HG8.out.blk.cell 1)) (fun hSn invn => ?_)
    try simp only [List.getElem_toArray, List.getElem_cons_zero, List.getElem_cons_succ, Act.put, List.setIfInBounds_toArray, List.set_cons_zero, List.set_cons_succ]
    clear hK K inv hS
    have inv := invn
    have hS := hSn
    clear invn hSn
    refine F_one (i := 13) (by kernel_rfl) rfl rfl (by omega) inv (fun K hK => ?_)
    try simp only [List.getElem_toArray, List.getElem_cons_zero, List.getElem_cons_succ]
    refine op_append1 cEd elEdD rfl _ _ (by rfl) mid _ g.edges (u1, u2, u3, u4) 1 _ (by rfl) HG8.out.edges.1 (by first | rfl | simp) (heap_alloc_new _ _) rfl (cEd_one _) (by omega) (by omega) (by have h1 := HG8.out.ord; have h2 := HG8.out.blk.lt; omega) ?_
    intro g2 cp2 w9 hown3 hgr3 hat3 hlt3
    have HP := Lib.hid (HG8.out.push hown3 hgr3 hat3)
    clear hown3 hgr3 hat3
    refine hK.out _ _ ((HP.out.1.cell 1)) (fun hSn invn => ?_)
    try simp only [List.getElem_toArray, List.getElem_cons_zero, List.getElem_cons_succ, Act.put, List.setIfInBounds_toArray, List.set_cons_zero, List.set_cons_succ]
    clear hK K inv hS
    have inv := invn
    have hS := hSn
    clear invn hSn
    refine F_take (i := 14) (v := ?_) rfl (by kernel_rfl) (by kernel_rfl) (by kernel_rfl) (fun _ _ _ h => h) inv (Or.inl ⟨by rfl, ?_⟩) (by assumption) (fun invn => ?_)
    rotate_left
    · (intro w hSw; (try dsimp only at hSw); go_simp; try with_reducible rfl)
    try simp only [List.getElem_toArray, List.getElem_cons_zero, List.getElem_cons_succ, Act.put, List.setIfInBounds_toArray, List.set_cons_zero, List.set_cons_succ]
    clear inv
    have inv := invn
    clear invn
    have y1 := HP.out.1.frozen 1
    have hlq := HP.out.1.lt
    refine F_last (i := 15) (by kernel_rfl) rfl rfl (by omega) (by kernel_rfl) (fun K hK => ?_)
    go_simp
    refine hK _ _ ?_
    clear hK K inv hS
    have HW := Lib.hid HP.out.2
    clear HP y1 hlq
    generalize w9.setCell ⟨w1.heap.size, 1, none⟩ (.slice (some ⟨g2, 0, none⟩) (g.edges.length + 1) cp2) = w10 at *
    have x0 : w10.cell? ⟨w1.heap.size, 0, none⟩ = some (.slice A1 n1 c1) := HW.out.2.2.1.cell 0
    have x1 : w10.cell? ⟨w1.heap.size, 1, none⟩ = some (.slice (some ⟨g2, 0, none⟩) (g.edges.length + 1) cp2) := HW.out.2.2.1.cell 1
    have z0 : w10.cell? ⟨w.heap.size, 0, none⟩ = some (.slice none 0 0) := HW.out.2.1.cell 0
    have z1 : w10.cell? ⟨w.heap.size, 1, none⟩ = some (.slice none 0 0) := HW.out.2.1.cell 1
    have v0 := HW.out.2.1.frozen 0
    have v1 := HW.out.2.1.frozen 1
    have hlr := HW.out.2.1.lt
    go_wp2_with fail
    have HD := gv_done (d0 := .slice A1 n1 c1) (d1 := .slice (some ⟨g2, 0, none⟩) (g.edges.length + 1) cp2) HW.out.1 HW.out.2.2.2.1 HW.out.2.2.2.2 rfl (by omega)
    refine bodyPost_ret (v := .agg #[.slice A1 n1 c1, .slice (some ⟨g2, 0, none⟩) (g.edges.length + 1) cp2]) (by simp [results, Try.results80, go_sem, z0, z1, v0, v1]) rfl ⟨_, _, rfl, HD.1, ⟨by simp only; omega, by simp; omega⟩, HD.2.1, HD.2.2⟩
  have hd1 : (t == 1) = false := by simpa using ht1
  by_cases ht2 : t = 2
  · subst ht2
    go_upto_region 9 with fail
    have HW := Lib.hid (show GcR b w.heap.size w1.heap.size (w.heap.size + 1) mid w1.heap.size w (w2.setCell ⟨w1.heap.size, 0, none⟩ (.slice none 0 0)) (.slice none 0 0) _ [] g.edges from
      ⟨HG.out.res.far (by simp only; omega) _, HG.out.blk.set_ 0 _, Own.nil _ _ _ _ _ _, HG.out.edges.only ((Only.refl w1.heap.size (w1.heap.size + 1) w2).setCell (p := ⟨w1.heap.size, 0, none⟩) (.inl ⟨Nat.le_refl _, Nat.lt_succ_self _⟩) _) (.inl (Nat.le_refl _)), HG.out.cur.set (by simp only; omega) _, HG.out.only.setCell (.inr (by simp only; omega)) _, rfl, HG.out.ord⟩)
    generalize w2.setCell ⟨w1.heap.size, 0, none⟩ (.slice none 0 0) = w4 at *
    clear x0 x1 v0 v1 y0 y1 hlr hlq
    have x0 : w4.cell? ⟨w1.heap.size, 0, none⟩ = some (.slice none 0 0) := HW.out.blk.cell 0
    have x1 : w4.cell? ⟨w1.heap.size, 1, none⟩ = some (.slice A2 n2 c2) := HW.out.blk.cell 1
    have z0 : w4.cell? ⟨w.heap.size, 0, none⟩ = some (.slice none 0 0) := HW.out.res.cell 0
    have z1 : w4.cell? ⟨w.heap.size, 1, none⟩ = some (.slice none 0 0) := HW.out.res.cell 1
    have v0 := HW.out.res.frozen 0
    have v1 := HW.out.res.frozen 1
    have hlr := HW.out.res.lt
    go_wp2_with fail
    have HD := gv_done (d0 := .slice none 0 0) (d1 := .slice A2 n2 c2) HW.out.view HW.out.cur HW.out.only rfl (by omega)
    refine bodyPost_ret (v := .agg #[.slice none 0 0, .slice A2 n2 c2]) (by simp [results, Try.results80, go_sem, z0, z1, v0, v1]) rfl ⟨_, ⟨[], g.edges⟩, rfl, HD.1, ⟨by simp, by simp only; omega⟩, HD.2.1, HD.2.2⟩
  · have hd2 : (t == 2) = false := by simpa using ht2
    have z0 : w2.cell? ⟨w.heap.size, 0, none⟩ = some (.slice none 0 0) := HG.out.res.cell 0
    have z1 : w2.cell? ⟨w.heap.size, 1, none⟩ = some (.slice none 0 0) := HG.out.res.cell 1
    go_wp2_with fail
    have HD := gv_done (d0 := .slice A1 n1 c1) (d1 := .slice A2 n2 c2) HG.out.view HG.out.cur HG.out.only rfl (by omega)
    refine bodyPost_ret (v := .agg #[.slice A1 n1 c1, .slice A2 n2 c2]) (by simp [results, Try.results80, go_sem, z0, z1, v0, v1]) rfl ⟨_, g, rfl, HD.1, ⟨by omega, by omega⟩, HD.2.1, HD.2.2⟩
end Go.Proofs.Ytallglnmeeahiaa

/- Step in the laws' helpers: equal lists are told equal; marking, looking, copying, measuring. -/
namespace Go.Proofs.Ytallglnmeeahiaa
set_option linter.unusedVariables false
set_option linter.unusedSimpArgs false
open Go.ChangeShapes Go.WideShapes Go.ChangeAt Go.RowKit
attribute [local go_sem] ext_cell ext_frozen ext_lt ext_lt1 ext_lt2 ext_lt3 ltn2 ltn3 ltn13 lts1 lts2 lts3

def mkStep (k : Int) (n : Nat) : List St := (List.range n).map fun (i : Nat) => (k + 2 * (i : Int), ((k + 2 * (i : Int) + 1) % 3 == 0))
theorem mkStep_len (k : Int) (n : Nat) : (mkStep k n).length = n := by simp [mkStep]
theorem mkStep_succ (k : Int) (i : Nat) : mkStep k (i + 1) = mkStep k i ++ [(k + 2 * (i : Int), ((k + 2 * (i : Int) + 1) % 3 == 0))] := by simp [mkStep, List.range_succ]
theorem mkStep_at (k : Int) {n i : Nat} (h : i < n) : (mkStep k n)[i]? = some (k + 2 * (i : Int), ((k + 2 * (i : Int) + 1) % 3 == 0)) := by simp [mkStep, h]
theorem flatStep_len (l : List St) : (l.flatMap cSt).length = l.length * 2 := by
  induction l with
  | nil => rfl
  | cons x l ih => simp only [List.flatMap_cons, List.length_append, cSt_len, ih, List.length_cons]; omega
theorem markStep_step (k : Int) (xs : List St) (i : Nat) (hi : i < xs.length) :
    ((((mkStep k i ++ xs.drop i).flatMap cSt).set (i * 2) (.int .i64 (k + 2 * (i : Int)))).set (i * 2 + 1) (.bool (((k + 2 * (i : Int) + 1) % 3 == 0)))) = (mkStep k (i + 1) ++ xs.drop (i + 1)).flatMap cSt := by
  rw [List.drop_eq_getElem_cons hi, mkStep_succ]
  have hl : ((mkStep k i).flatMap cSt).length = i * 2 := by rw [flatStep_len, mkStep_len]
  simp only [List.flatMap_append, List.flatMap_cons, List.flatMap_nil, List.append_nil, List.append_assoc]
  rw [List.set_append_right _ _ (by omega), List.set_append_right _ _ (by omega), hl]
  simp [cSt]
theorem elStep : ElemOk Try.prog 39 54 (.agg #[.int .i64 0, .bool false]) 2 16 := ⟨Try.underlying39, by kernel_rfl, rfl, by omega⟩
end Go.Proofs.Ytallglnmeeahiaa

/- Walks in the laws' helpers: measured, copied, compared, marked, looked at. -/
namespace Go.Proofs.Ytallglnmeeahiaa
set_option linter.unusedVariables false
set_option linter.unusedSimpArgs false
open Go.ChangeShapes Go.WideShapes Go.ChangeAt Go.RowKit
attribute [local go_sem] ext_cell ext_frozen ext_lt ext_lt1 ext_lt2 ext_lt3 ltn2 ltn3 ltn13 lts1 lts2 lts3

def WkO (lo hi : Nat) (w : World) (v : Value) (k : Wk) : Prop :=
  ∃ ss, v = .agg #[.int .i64 k.1, ss] ∧ Own lo hi w 54 cSt 2 ss k.2
theorem WkO.view {lo hi : Nat} {w : World} {v : Value} {k : Wk} (h : WkO lo hi w v k) : WkV lo hi w v k := by
  obtain ⟨ss, rfl, h1⟩ := h
  exact ⟨ss, rfl, h1.sl cSt_len⟩
theorem WkO.below {lo hi : Nat} {w w' : World} {v : Value} {k : Wk} (h : WkO lo hi w v k) {B : Nat} (hb : Below B w w') (hB : hi ≤ B) : WkO lo hi w' v k := by
  obtain ⟨ss, rfl, h1⟩ := h
  exact ⟨ss, rfl, h1.below hb hB⟩
theorem WkO.only {lo hi : Nat} {w w' : World} {v : Value} {k : Wk} (h : WkO lo hi w v k) {l r : Nat} (hb : Only l r w w') (ho : hi ≤ l ∨ r ≤ lo) : WkO lo hi w' v k := by
  obtain ⟨ss, rfl, h1⟩ := h
  exact ⟨ss, rfl, h1.only hb ho⟩
theorem WkO.mono {lo hi : Nat} {w : World} {v : Value} {k : Wk} (h : WkO lo hi w v k) {lo' hi' : Nat} (h1 : lo' ≤ lo) (h2 : hi ≤ hi') : WkO lo' hi' w v k := by
  obtain ⟨ss, rfl, g1⟩ := h
  exact ⟨ss, rfl, g1.mono h1 h2⟩






end Go.Proofs.Ytallglnmeeahiaa

