/- Parts of the proof, joined into one text: TwdI, TwnH. -/
import Derived.Test.YthnapjodmndlaaaPartOLOMJGBB
import Derived.Test.YthnapjodmndlaaaPartCGJCNAEI
import Derived.Deep.RegionHeld3
import Derived.Deep.LoopGhost
import Derived.Test.YthnapjodmndlaaaPartEJGNHGCK
/- The program's twinDistances gives the numbers of letters to the end of two different runs. -/
namespace Go.Proofs.Ythnapjodmndlaaa
set_option linter.unusedVariables false
set_option linter.unusedSimpArgs false
open Go.ChangeShapes Go.WideShapes Go.ChangeAt Go.RowKit Go.Maps Go.ChangeMaps
attribute [local go_sem] ext_cell ext_frozen ext_lt ext_lt1 ext_lt2 ext_lt3 ltn2 ltn3 ltn13 lts1 lts2 lts3

theorem SlI.tw {lo hi : Nat} {w : World} {A : Option Addr} {n c : Nat} {xs : List Twn} (h : SlI lo hi w cTw 3 (.slice A n c) xs) {i : Nat} {x : Twn} (hx : xs[i]? = some x) :
    ∃ b o, A = some ⟨b, o, none⟩ ∧ lo ≤ b ∧ b < hi ∧ w.cell? ⟨b, o + i * 3, none⟩ = some (.int .i64 (x.1 : Int)) ∧ w.cell? ⟨b, o + i * 3 + 1, none⟩ = some (.int .i64 (x.2.1 : Int)) ∧ w.cell? ⟨b, o + i * 3 + 2, none⟩ = some (.bool x.2.2) := by
  obtain ⟨A', c', hv, -, -, h⟩ := h
  cases hv
  obtain ⟨b, o, hA, h1, h2, hc⟩ := h i x hx
  exact ⟨b, o, hA, h1, h2, hc 0 _ rfl, hc 1 _ rfl, hc 2 _ rfl⟩
def TwS (lo : Nat) (w0 wr : World) (va : Value) (bs bb : Nat) (p : Pz) (k n : Nat) (cur : List Twn) (F : Twn → Option Value) (B : Twn → List Twn) : Prop :=
  TwR lo w0 wr va bs bb (1 + 2 * (k * 3969 + n * 441 + cur.length)) (listT p k n cur) F B ∧ BefOk p k n cur B
section
variable {lo : Nat} {w0 wr w4 : World} {va : Value} {bs bb : Nat} {p : Pz} {k n : Nat} {cur : List Twn} {F : Twn → Option Value} {B : Twn → List Twn}
theorem TwS.below (h : TwS lo w0 wr va bs bb p k n cur F B) (hs : lo ≤ w0.heap.size) (hb : Below wr.heap.size wr w4) : TwS lo w0 w4 va bs bb p k n cur F B := ⟨h.1.below hs hb, h.2⟩
theorem TwS.pair (h : TwS lo w0 wr va bs bb p k 9 [] F B) (hk : k < (allT p k).length) (h9 : k ≤ 882) : TwS lo w0 wr va bs bb p (k + 1) 0 [] F B := by
  have h1 := h.1
  rw [listT_nine hk h9] at h1
  exact ⟨h1.mono (by simp; omega), h.2.pair⟩
theorem TwS.letter (h : TwS lo w0 wr va bs bb p k n (twnX p n (twnA p k)) F B) : TwS lo w0 wr va bs bb p k (n + 1) [] F B := by
  have h1 := h.1
  rw [listT_next] at h1
  have := twnX_len p n (twnA p k)
  exact ⟨h1.mono (by simp; omega), h.2.letter⟩
end
theorem TwS.start {w w0 w1 : World} {p : Pz} {o : Obj} (hsz : w0.heap.size = w.heap.size + 1) (hm : TwMap w1 (w.heap.size + 1 + 1) 1 (updT (fun _ => none) (0, 0, false) (.bool true)))
    (hg : ((w0.alloc (.cells #[.int .i64 0, .int .i64 0, .bool false] 56)).alloc o).grownBy w1 (some (w.heap.size + 1 + 1))) :
    TwS (w.heap.size + 1) w0 (w1.alloc (.map #[] 0)) (.slice (some ⟨w.heap.size + 1, 0, none⟩) 1 1) (w.heap.size + 1 + 1) w1.heap.size p 0 0 [] (fun _ => none) (fun _ => []) := by
  have hs1 := hg.size
  simp only [World.size_alloc] at hs1
  have h := World.ownsRow_lit (base := w.heap.size + 1) (e := 56) (size := 3) w0 #[.int .i64 0, .int .i64 0, .bool false] 1 (by omega) (by decide) rfl
  rw [hsz] at h
  have h2 := (h.alloc o)
  have h3 := ownsRow_block h2 (w' := w1) fun b hb => by
    have hb : some (w.heap.size + 1) = some b := hb
    cases hb
    exact hg.block _ (by simp; omega) (fun e => by injection e; omega)
  have hbl : Below (w.heap.size + 1) w0 ((w0.alloc (.cells #[.int .i64 0, .int .i64 0, .bool false] 56)).alloc o) := ((Below.refl _ _).alloc (by omega) _).alloc (by simp; omega) _
  refine ⟨⟨h3.alloc _, ?_, (TwMap.made w1).mono (by omega), fun t => World.ownsRow_nil _ _ _ _, ?_, ?_, ⟨by omega, by omega⟩, by omega, fun t => by simp, ?_⟩, BefOk.start p⟩
  · have h4 : seenT [(0, 0, false)] = updT (fun _ => none) (0, 0, false) (.bool true) := by
      have h5 := seenT_snoc [] (0, 0, false)
      rw [List.nil_append] at h5
      rw [← h5]
      rfl
    rw [listT_zero, allT, h4]
    exact hm.alloc _
  · intro t u b _ hb
    simp [Value.ownBlock] at hb
  · intro t b hb
    simp [Value.ownBlock] at hb
  · exact (hbl.grown hg (by simp; omega) (fun b hb => by injection hb; omega)).alloc (by omega) _
/-- the distances and the queue -/
structure TwD (p : Pz) (w1 wr : World) (vq : Value) (bd m : Nat) (D : List Int) (Q : List Twn) : Prop where
  dist : TwMap wr bd m (fun t => (dV p D t).map (Value.int .i64))
  que : QRow wr w1.heap.size 56 3 vq Q.length (Q.flatMap cTw)
  bel : Below w1.heap.size w1 wr
  lb : w1.heap.size ≤ bd
section
variable {p : Pz} {w1 wr w4 w5 : World} {vq vq' : Value} {bd m : Nat} {D : List Int} {Q : List Twn} {t : Twn}
theorem TwD.below (h : TwD p w1 wr vq bd m D Q) (hb : Below wr.heap.size wr w4) : TwD p w1 w4 vq bd m D Q :=
  ⟨h.dist.below hb, h.que.below hb (Nat.le_refl _), h.bel.trans (hb.mono h.bel.size), h.lb⟩
theorem TwD.mono (h : TwD p w1 wr vq bd m D Q) {m' : Nat} (hm : m ≤ m') : TwD p w1 wr vq bd m' D Q := ⟨h.dist.mono hm, h.que, h.bel, h.lb⟩
theorem TwD.set_ (ht : t ∈ endT p) (hl : D.length = (endT p).length) {d : Int} (hd : 0 ≤ d) : updT (fun t => (dV p D t).map (Value.int .i64)) t (.int .i64 d) = fun t' => (dV p (D.set (idxT p t) d) t').map (Value.int .i64) := by
  funext u
  rw [updT, dV_set ht hl hd]
  split <;> rfl
theorem TwD.add (h : TwD p w1 wr vq bd m D Q) (ht : t ∈ endT p) (hl : D.length = (endT p).length) {d : Int} (hd : 0 ≤ d) (h4 : TwMap w4 bd (m + 1) (updT (fun t => (dV p D t).map (Value.int .i64)) t (.int .i64 d))) (hg4 : wr.grownBy w4 (some bd)) {o : Obj}
    (hrow : QRow w5 w1.heap.size 56 3 vq' (Q ++ [t]).length ((Q ++ [t]).flatMap cTw)) (hg : (w4.alloc o).grownBy w5 vq.ownBlock) : TwD p w1 w5 vq' bd (m + 1) (D.set (idxT p t) d) (Q ++ [t]) := by
  have hs := h.bel.size
  have hs4 := hg4.size
  refine ⟨?_, hrow, ?_, h.lb⟩
  · rw [← TwD.set_ ht hl hd]
    exact h4.block (by rw [hg.block bd (by have := h4.lt; simp; omega) (fun e => h.que.notMap h.dist e.symm), Below.heap_alloc _ _ _ h4.lt])
  · exact ((h.bel.grown hg4 hs (fun b hb => by injection hb with hb; rw [← hb]; exact h.lb)).alloc (by omega) o).grown hg (by simp; omega) (fun b hb => (h.que.lt b hb).1)
theorem TwD.queue (h : TwD p w1 wr vq bd m D Q) (hg4 : wr.grownBy w4 (some bd)) : QRow w4 w1.heap.size 56 3 vq Q.length (Q.flatMap cTw) :=
  h.que.block fun b hb => hg4.block b (h.que.lt b hb).2 (fun e => h.que.notMap h.dist (by rw [hb, ← e]))
end
/-- the numbers when the first i pairs are looked at -/
def iniD (p : Pz) (i : Nat) : List Int := ((List.range (endT p).length).map fun j => if j < i ∧ twnG p (twnA p j) = true then 0 else -1)
theorem iniD_len (p : Pz) (i : Nat) : (iniD p i).length = (endT p).length := by simp [iniD]
theorem iniD_at {p : Pz} {i j : Nat} (h : j < (endT p).length) : (iniD p i).getD j 0 = if j < i ∧ twnG p (twnA p j) = true then 0 else -1 := by
  rw [iniD, List.getD_eq_getElem?_getD, List.getElem?_map, List.getElem?_range h]
  rfl
theorem iniD_ext {p : Pz} {D : List Int} {i : Nat} (hl : D.length = (endT p).length) (h : ∀ j, j < (endT p).length → D.getD j 0 = if j < i ∧ twnG p (twnA p j) = true then 0 else -1) : D = iniD p i := by
  apply List.ext_getElem?
  intro j
  rcases Nat.lt_or_ge j (endT p).length with hj | hj
  · rw [getD_of (by omega), getD_of (by rw [iniD_len]; exact hj), h j hj, iniD_at hj]
  · rw [List.getElem?_eq_none (by omega), List.getElem?_eq_none (by rw [iniD_len]; exact hj)]
theorem iniD_zero (p : Pz) (t : Twn) : dV p (iniD p 0) t = none := by
  by_cases h : t ∈ endT p
  · refine dV_none ?_
    rw [iniD_at (idxT_lt h), if_neg (by omega)]
    decide
  · rw [dV, if_neg (fun e => h (List.contains_iff_mem.1 e.1))]
theorem iniD_no {p : Pz} {i : Nat} (h : twnG p (twnA p i) = false) : iniD p (i + 1) = iniD p i := by
  refine (iniD_ext (iniD_len p _) fun j hj => ?_)
  rw [iniD_at hj]
  by_cases hji : j = i
  · subst hji
    rw [if_neg (by rw [h]; simp), if_neg (by omega)]
  · by_cases hlt : j < i
    · simp [hlt, show j < i + 1 by omega]
    · rw [if_neg (by omega), if_neg (by omega)]
theorem iniD_yes {p : Pz} {i : Nat} (hi : i < (endT p).length) (h : twnG p (twnA p i) = true) : (iniD p i).set (idxT p (twnA p i)) 0 = iniD p (i + 1) := by
  rw [idx_twnA hi]
  refine (iniD_ext (by rw [List.length_set, iniD_len]) fun j hj => ?_)
  rw [getD_set (by rw [iniD_len]; exact hi)]
  by_cases hji : i = j
  · subst hji
    rw [if_pos rfl, if_pos ⟨by omega, h⟩]
  · rw [if_neg hji, iniD_at hj]
    by_cases hlt : j < i
    · simp [hlt, show j < i + 1 by omega]
    · rw [if_neg (by omega), if_neg (by omega)]
def iniQ (p : Pz) (i : Nat) : List Twn := ((endT p).take i).filter (twnG p)
theorem iniQ_succ {p : Pz} {i : Nat} (hi : i < (endT p).length) : iniQ p (i + 1) = iniQ p i ++ (if twnG p (twnA p i) = true then [twnA p i] else []) := by
  have e1 : (endT p)[i]? = some (twnA p i) := by rw [twnA, List.getD_eq_getElem?_getD, List.getElem?_eq_getElem hi]; rfl
  rw [iniQ, iniQ, List.take_add_one, e1, List.filter_append]
  show _ ++ List.filter (twnG p) [twnA p i] = _
  rw [List.filter_cons]
  rfl
theorem iniQ_len (p : Pz) (i : Nat) : (iniQ p i).length ≤ i := by
  have h1 := List.length_filter_le (twnG p) ((endT p).take i)
  rw [List.length_take] at h1
  rw [iniQ]
  omega
theorem ini_bo (p : Pz) (prev : Nat → List Nat) : BO prev (nextE (prsT p)) (goalT p) (endT p).length (iniD p (endT p).length) ((iniQ p (endT p).length).map (idxT p)) := by
  refine BO.begin (iniD_len _ _) (fun i hi => ?_) (fun x => ?_)
  · rw [iniD_at hi]
    cases hg : twnG p (twnA p i) with
    | true => exact .inl ⟨hg, if_pos ⟨hi, rfl⟩⟩
    | false => exact .inr ⟨fun h => (by rw [goalT, hg] at h; cases h), if_neg (fun h => by cases h.2)⟩
  · rw [iniQ, List.take_length, List.mem_map]
    constructor
    · rintro ⟨t, ht, rfl⟩
      obtain ⟨h1, h2⟩ := List.mem_filter.1 ht
      exact ⟨idxT_lt h1, by rw [goalT, twnA_idx h1]; exact h2⟩
    · rintro ⟨h1, h2⟩
      exact ⟨twnA p x, List.mem_filter.2 ⟨twnA_mem h1, h2⟩, idx_twnA h1⟩
set_option maxRecDepth 100000 in
set_option maxHeartbeats 8000000 in
theorem implTwinD (v : Value) (p : Pz) (w : World) (hv : PzV 0 w.heap.size w v p) (hok : pzOk p = true) :
    Calls Try.prog 29 #[v] w fun e w' => ∃ (bd m : Nat) (f : Twn → Option Value), e = .returned (.map (some bd)) ∧ w.heap.size ≤ bd ∧ TwMap w' bd m f ∧ (∀ t, f t = if (endT p).contains t = true ∧ 0 ≤ dT p (idxT p t) then some (.int .i64 (dT p (idxT p t))) else none) ∧ (∀ j, j < (endT p).length → dT p j ≤ 2000) ∧ Below w.heap.size w w' := by
  have HV := Lib.hid hv
  have HOK := Lib.hid hok
  have h20 := (pz_facts hok).1
  have H20 := Lib.hid h20
  obtain ⟨vq, vf, rfl, h1, h2⟩ := hv
  obtain ⟨A, n1, c, rfl⟩ := h1.shape
  obtain ⟨B0, n2, c2, rfl⟩ := h2.shape
  obtain ⟨W0, hW0⟩ : ∃ W0, W0 = w.alloc (.cells #[.slice A n1 c, .int .i64 p.first, .int .i64 p.last, .slice B0 n2 c2, .bool p.nul] 27) := ⟨_, rfl⟩
  have hbp : Blk W0 w.heap.size 27 #[.slice A n1 c, .int .i64 p.first, .int .i64 p.last, .slice B0 n2 c2, .bool p.nul] := by rw [hW0]; exact Blk.new _ _ _ _ rfl
  have hb0 : Below w.heap.size w W0 := by rw [hW0]; exact (Below.refl _ _).alloc (Nat.le_refl _) _
  have hsz : W0.heap.size = w.heap.size + 1 := by rw [hW0]; simp
  have HBP := Lib.hid hbp
  have HB0 := Lib.hid hb0
  clear h1 h2 hok hbp hb0 h20
  go_enter Try.func29, Try.ntmps29
  have hmm := @run_makeMap Try.prog
  have hX : (W0.alloc (.cells #[.int .i64 0, .int .i64 0, .bool false] 56)).heap.size = w.heap.size + 1 + 1 := by simp [hsz]
  have hmade := TwMap.made (W0.alloc (.cells #[.int .i64 0, .int .i64 0, .bool false] 56))
  rw [hX] at hmade
  obtain ⟨w1, hins, hm1, hg1⟩ := hmade.put Try.underlying58 (by unfold maxLen; omega) (t := (0, 0, false)) ⟨by decide, by decide⟩ (v := .bool true) rfl
  have hins : (Instr.mapUpdate 58 (.map (some (w.heap.size + 1 + 1))) (.agg #[.int .i64 0, .int .i64 0, .bool false]) (.bool true)).run Try.prog ((W0.alloc (.cells #[.int .i64 0, .int .i64 0, .bool false] 56)).alloc (.map #[] 0)) = .ok () w1 := hins
  have hst := TwS.start (p := p) hsz hm1 hg1
  have HST := Lib.hid hst
  have hbs1 := hg1.size
  have hlt1 := hm1.lt
  clear hm1 hg1 hmade hX hst hbs1
  go_upto_region 2 with fail
  rw [← hW0]
  clear hW0
  go_wp2_with fail
  clear hins
  obtain ⟨bb, hbb⟩ : ∃ bb, bb = w1.heap.size := ⟨_, rfl⟩
  rw [← hbb] at HST ⊢
  have hbw : w.heap.size + 1 + 1 < bb := by omega
  clear hlt1 hbb
  have hs0 : w.heap.size + 1 ≤ W0.heap.size := by omega
  go_loopw [3, 6, 7, 9] (fun aa ii _ _ wr => ∃ (k : Nat) (F : Twn → Option Value) (B : Twn → List Twn), k ≤ (allT p k).length ∧ ii = .int .i64 (k : Int) ∧ TwS (w.heap.size + 1) W0 wr aa (w.heap.size + 1 + 1) bb p k 0 [] F B) (fun _ ii _ _ _ => 882 - (intOf ii).toNat)
  case atStart => exact ⟨0, _, _, Nat.zero_le _, rfl, HST.out⟩
  case round =>
    clear HST
    obtain ⟨k, F, B, hk, rfl, hps⟩ := hrel
    obtain ⟨wo, rfl⟩ : ∃ wo : World, wo = wr := ⟨_, rfl⟩
    have HPS := Lib.hid hps
    have h882 := allT_len (p := p) H20.out k
    have hLpos : (allT p k).length ≠ 0 := by
      have h1 := (List.getElem?_eq_some_iff.1 (listT_start (p := p) (k := k) (n := 0) (cur := []))).1
      rw [listT_zero] at h1
      omega
    obtain ⟨M, hM⟩ : ∃ M, M = (allT p k).length := ⟨_, rfl⟩
    rw [← hM] at hk h882 hLpos
    have hls := hps.1.all
    rw [listT_zero, ← hM] at hls
    obtain ⟨gl, cl, rfl, -⟩ := own_some hls hLpos
    have HM := Lib.hid hM
    clear hps hls hLpos hM
    by_cases hlt : k < M
    · go_wp2_with fail
      have HKL := Lib.hid (show k < (allT p k).length by rw [← HM.out]; exact hlt)
      have hk8 : k < 882 := by omega
      clear hlt
      go_loopw [3, 7, 9] (fun aa nn _ wr => ∃ (n : Nat) (F : Twn → Option Value) (B : Twn → List Twn), n ≤ 9 ∧ nn = .int .i64 (n : Int) ∧ TwS (w.heap.size + 1) W0 wr aa (w.heap.size + 1 + 1) bb p k n [] F B) (fun _ nn _ _ => 9 - (intOf nn).toNat)
      case atStart => exact ⟨0, F, B, by omega, rfl, HPS.out⟩
      case round =>
        clear HPS
        obtain ⟨n, F, B, hn, rfl, hps⟩ := hrel
        obtain ⟨wm, rfl⟩ : ∃ wm : World, wm = wr := ⟨_, rfl⟩
        have HPS := Lib.hid hps
        by_cases hn9 : n < 9
        · have hbl := hps.1.bel
          have hbb := HB0.out.trans (hbl.mono (show w.heap.size ≤ w.heap.size + 1 by omega))
          have hbp : Blk wm w.heap.size 27 #[.slice A n1 c, .int .i64 p.first, .int .i64 p.last, .slice B0 n2 c2, .bool p.nul] := (hbl.block w.heap.size (by omega)).trans HBP.out
          have hat := listT_low (p := p) (k := k) (n := n) (cur := []) HKL.out (by omega)
          have hkm := (List.getElem?_eq_some_iff.1 hat).1
          obtain ⟨ML, hML⟩ : ∃ ML, ML = (listT p k n []).length := ⟨_, rfl⟩
          have hls := hps.1.all
          rw [← hML] at hls hkm
          obtain ⟨gm, cm, rfl, hgm, hgmw, -, -⟩ := own_some hls (by omega)
          obtain ⟨b1, o1, e1, -, -, d0, d1, d2⟩ := ((Own.of_row hps.1.all rfl rfl).sl cTw_len).tw hat
          cases e1
          have hki : (k : Int) < (ML : Int) := by omega
          rw [Nat.zero_add] at d0 d1 d2
          obtain ⟨⟨ta, tb, td⟩, ht⟩ : ∃ t, t = twnA p k := ⟨_, rfl⟩
          rw [← ht] at d0 d1 d2
          have HT := Lib.hid ht
          obtain ⟨hta, htb⟩ : ta ≤ 20 ∧ tb ≤ 20 := by
            have := allT_low (p := p) H20.out (List.mem_of_getElem? (endT_all (p := p) (k := k) HKL.out (by omega)))
            rw [← ht] at this
            exact this
          simp only at d0 d1 d2
          have hnn : (n : Int) < 9 := by omega
          have x0 : wm.cell? ⟨w.heap.size, 0, none⟩ = some (.slice A n1 c) := by exact hbp.cell 0
          have x1 : wm.cell? ⟨w.heap.size, 1, none⟩ = some (.int .i64 p.first) := by exact hbp.cell 1
          have x2 : wm.cell? ⟨w.heap.size, 2, none⟩ = some (.int .i64 p.last) := by exact hbp.cell 2
          have x3 : wm.cell? ⟨w.heap.size, 3, none⟩ = some (.slice B0 n2 c2) := by exact hbp.cell 3
          have x4 : wm.cell? ⟨w.heap.size, 4, none⟩ = some (.bool p.nul) := by exact hbp.cell 4
          have hl0 := hbp.lt
          have HBB := Lib.hid hbb.drew
          have HTX := Lib.hid (show twnX p n (twnA p k) = twnX p n (ta, tb, td) by rw [HT.out])
          have hlb := hps.1.lb
          have hbsl := hps.1.seen.lt
          have hbbl := hps.1.bef.lt
          clear hbl hat hbb hps hls ht hML hbp
          go_upto_region 10 with fail
          go_region_held3 (fun w' => w'.cell? ⟨w.heap.size, 0, none⟩ = some (.slice A n1 c) ∧ w'.cell? ⟨w.heap.size, 1, none⟩ = some (.int .i64 p.first) ∧ w'.cell? ⟨w.heap.size, 2, none⟩ = some (.int .i64 p.last) ∧ w'.cell? ⟨w.heap.size, 3, none⟩ = some (.slice B0 n2 c2) ∧ w'.cell? ⟨w.heap.size, 4, none⟩ = some (.bool p.nul) ∧ w'.cell? ⟨gm, k * 3, none⟩ = some (.int .i64 (ta : Int)) ∧ w'.cell? ⟨gm, k * 3 + 1, none⟩ = some (.int .i64 (tb : Int)) ∧ w'.cell? ⟨gm, k * 3 + 2, none⟩ = some (.bool td))
            (first | (exact ⟨x0, x1, x2, x3, x4, d0, d1, d2⟩) | assumption | (exact kB8 hbA (by assumption)))
            (first | (go_at_call 30; refine (twinNext ta tb td _ p n _ (HV.out.keep HBB.out) HOK.out hta htb).mono ?_; rintro e wA ⟨vN, rfl, hoN, hbA⟩; rw [← HTX.out] at hoN; obtain ⟨AN, cN, rfl, hlN, hmN, -⟩ := hoN.sl cTw_len))
          obtain ⟨NX, hNX⟩ : ∃ NX, NX = twnX p n (twnA p k) := ⟨_, rfl⟩
          rw [← hNX] at hoN hlN ⊢
          have hbM : Below wm.heap.size wm wA := ((Below.refl wm.heap.size wm).drew).trans hbA
          have HTS := Lib.hid (HPS.out.below hs0 hbM)
          have haw : AwR wm.heap.size wA.heap.size wA (.slice (some ⟨gm, 0, none⟩) ML cm) F (w.heap.size + 1 + 1) bb (.slice AN NX.length cN) NX :=
            ⟨fun b hb => .inl (HPS.out.1.all.lt b hb).2, fun t b hb => .inl ((HPS.out.1.rows t).lt b hb).2, hoN.sl cTw_len, Nat.le_refl _, hbsl, hbbl⟩
          have HAW := Lib.hid haw
          have hNl : NX.length ≤ 441 := by rw [hNX]; exact twnX_len _ _ _
          have HNX := Lib.hid hNX
          unfold maxLen at hmN
          obtain ⟨lo3, hlo3⟩ : ∃ l, l = wm.heap.size := ⟨_, rfl⟩
          obtain ⟨hi3, hhi3⟩ : ∃ l, l = wA.heap.size := ⟨_, rfl⟩
          rw [← hlo3, ← hhi3] at HAW
          clear haw hbM hoN hbA hNX HPS HBB hlo3 hhi3 d0 d1 d2 x0 x1 x2 x3 x4 hgm hgmw hkm hki hbsl hbbl hl0 HTX
          go_wp2_with fail
          go_loopw [3, 9, 42] (fun aa _ ii wr => ∃ (i : Nat) (F : Twn → Option Value) (B : Twn → List Twn), i ≤ NX.length ∧ ii = .int .i64 (i : Int) ∧ TwS (w.heap.size + 1) W0 wr aa (w.heap.size + 1 + 1) bb p k n (NX.take i) F B ∧ AwR lo3 hi3 wr aa F (w.heap.size + 1 + 1) bb (.slice AN NX.length cN) NX) (fun _ _ ii _ => NX.length - (intOf ii).toNat)
          case atStart => exact ⟨0, F, B, Nat.zero_le _, rfl, HTS.out, HAW.out⟩
          case round =>
            clear HTS HAW
            obtain ⟨i, F, B, hi, rfl, hts, haw⟩ := hrel
            by_cases hlt : i < NX.length
            · have hat : NX[i]? = some (NX[i]'hlt) := List.getElem?_eq_getElem hlt
              obtain ⟨⟨ia, ib, id⟩, hx⟩ : ∃ x, x = NX[i]'hlt := ⟨_, rfl⟩
              rw [← hx] at hat
              obtain ⟨⟨hia1, hia2⟩, ⟨hib1, hib2⟩, -⟩ := twnX_in (x := (ia, ib, id)) (by rw [← HNX.out]; exact List.mem_of_getElem? hat) H20.out
              simp only at hia1 hia2 hib1 hib2
              have HTK := Lib.hid (show NX.take (i + 1) = NX.take i ++ [(ia, ib, id)] by rw [List.take_add_one, hat]; rfl)
              have HEX := Lib.hid (show (ia, ib, id) ∈ twnX p n (twnA p k) by rw [← HNX.out]; exact List.mem_of_getElem? hat)
              obtain ⟨bn, on, en, hbn1, hbn2, q0, q1, q2⟩ := haw.sl.tw hat
              simp only at q0 q1 q2
              subst en
              have hwl := haw.le
              have hii : (i : Int) < (NX.length : Int) := by omega
              have hbnw : bn < wr.heap.size := by omega
              have HTS := Lib.hid hts
              have HAW := Lib.hid haw
              clear hx hat haw
              obtain ⟨cur, hcur⟩ : ∃ cur, cur = NX.take i := ⟨_, rfl⟩
              have hcl : cur.length ≤ 441 := by rw [hcur, List.length_take]; omega
              rw [← hcur] at hts HTS HTK
              have hlow := listT_low (p := p) (k := k) (n := n) (cur := cur) HKL.out (by omega)
              have hkL := (List.getElem?_eq_some_iff.1 hlow).1
              obtain ⟨g2, q2, rfl, hg2, hg2w, -, -⟩ := own_some hts.1.all (by omega)
              obtain ⟨L, hL⟩ : ∃ L, L = listT p k n cur := ⟨_, rfl⟩
              rw [← hL] at hlow hkL
              have HL := Lib.hid hL
              have hki : (k : Int) < (L.length : Int) := by omega
              rw [← hL] at hts HTS HAW ⊢
              have HCU := Lib.hid hcur
              clear hts hcur hL
              go_upto_region 13 with fail
              obtain ⟨X0, hX0⟩ : ∃ X, X = wr.alloc (.cells #[.int .i64 (ia : Int), .int .i64 (ib : Int), .bool id] 56) := ⟨_, rfl⟩
              obtain ⟨zb, hzb⟩ : ∃ z, z = wr.heap.size := ⟨_, rfl⟩
              have hbz : Blk X0 zb 56 #[.int .i64 (ia : Int), .int .i64 (ib : Int), .bool id] := by rw [hX0]; exact Blk.new _ _ _ _ hzb
              have hbX : Below wr.heap.size wr X0 := by rw [hX0]; exact (Below.refl _ _).alloc (Nat.le_refl _) _
              rw [← hX0, ← hzb]
              rw [← hzb] at hg2w
              have HTX := Lib.hid (HTS.out.below hs0 hbX)
              have HAX := Lib.hid (HAW.out.below hbX)
              have hxs := hbz.lt
              obtain ⟨b1, o1, e1, -, -, d0, d1, d2⟩ := ((Own.of_row HTX.out.1.all rfl rfl).sl cTw_len).tw (x := twnA p k) (by rw [← HL.out]; exact hlow)
              cases e1
              rw [Nat.zero_add, ← HT.out] at d0 d1 d2
              simp only at d0 d1 d2
              have hbbz : bb < zb := by have := HTS.out.1.bef.lt; omega
              have hgbb : ¬ g2 = bb := fun e => HTS.out.1.bef.notRow HTS.out.1.all (by rw [e]; rfl)
              have hbbg : ¬ bb = g2 := fun e => hgbb e.symm
              obtain ⟨v0, hv0⟩ : ∃ v0, v0 = (F (ia, ib, id)).getD nilT := ⟨_, rfl⟩
              have hvz : ∀ b, v0.ownBlock = some b → b < zb := fun b hb => by rw [hv0] at hb; have := ((HTS.out.1.rows _).lt b hb).2; omega
              have hvg : v0.ownBlock ≠ some g2 := fun hb => by rw [hv0] at hb; exact HTS.out.1.apA _ g2 hb rfl
              have hvb : v0.ownBlock ≠ some bb := fun hb => by rw [hv0] at hb; exact HTS.out.1.bef.notRow (HTS.out.1.rows _) hb
              have HV0 := Lib.hid hv0
              have HROW := Lib.hid (HTX.out.1.rows (ia, ib, id))
              rw [← hv0] at HROW
              have HVZ := Lib.hid hvz
              have HVG := Lib.hid hvg
              have HVB := Lib.hid hvb
              have HBZ := Lib.hid hbz
              have HBF := Lib.hid HTX.out.1.bef
              have hml : 1 + 2 * (k * 3969 + n * 441 + cur.length) < maxLen := by unfold maxLen; omega
              have HBL := Lib.hid (show (B (ia, ib, id)).length ≤ 8000000 by have := HTX.out.1.bl (ia, ib, id); omega)
              obtain ⟨m, hm⟩ : ∃ m, m = 1 + 2 * (k * 3969 + n * 441 + cur.length) := ⟨_, rfl⟩
              rw [← hm] at hml HBF
              have HM2 := Lib.hid hm
              have hlow2 : twLow (ia, ib, id) := ⟨hia2, hib2⟩
              have HLO := Lib.hid hlow2
              have HBX := Lib.hid hbX
              have hv0' := hv0
              have HENT := Lib.hid (fun (W : World) (hW : W.heap[bb]? = X0.heap[bb]?) => (HBF.out.block hW).entry Try.underlying71 hml HLO.out (z := nilT) (fun u => Try.zeroValue57 u) rfl)
              rw [← hv0] at HENT
              clear hv0 hv0' hvz hvg hvb hbX hlow hm hlow2 hX0 hzb
              have z0 : X0.cell? ⟨zb, 0, none⟩ = some (.int .i64 (ia : Int)) := by exact hbz.cell 0
              have z1 : X0.cell? ⟨zb, 1, none⟩ = some (.int .i64 (ib : Int)) := by exact hbz.cell 1
              have z2 : X0.cell? ⟨zb, 2, none⟩ = some (.bool id) := by exact hbz.cell 2
              clear hbz
              go_cut [9] (fun s9 wx => s9 = .pointer (some ⟨zb, 0, none⟩) ∧ ∃ v', FrT bb v0.ownBlock X0 wx ∧ TwMap wx bb (m + 1) (updT F (ia, ib, id) v') ∧ wx.ownsRow (w.heap.size + 1) 56 3 v' (B (ia, ib, id) ++ [(ta, tb, td)]).length ((B (ia, ib, id) ++ [(ta, tb, td)]).flatMap cTw) ∧ (v'.ownBlock = v0.ownBlock ∨ ∃ b, v'.ownBlock = some b ∧ X0.heap.size ≤ b))
              case first =>
                have nz : some zb ≠ some bb := fun e => by injection e; omega
                have ng : some g2 ≠ some bb := fun e => by injection e; omega
                have nvz : some zb ≠ v0.ownBlock := fun e => by have := HVZ.out zb e.symm; omega
                have nvg : some g2 ≠ v0.ownBlock := fun e => HVG.out e.symm
                have hbbx : bb < X0.heap.size := by omega
                have hlX : w.heap.size + 1 ≤ X0.heap.size := by omega
                have NZ := Lib.hid nz
                have NG := Lib.hid ng
                have NVZ := Lib.hid nvz
                have NVG := Lib.hid nvg
                clear nz ng nvz nvg
                have HROD := Lib.hid (show X0.drew.ownsRow (w.heap.size + 1) 56 3 v0 (B (ia, ib, id)).length ((B (ia, ib, id)).flatMap cTw) from HROW.out)
                have hby : ((B (ia, ib, id)).length + 1) * 24 ≤ 140737488355328 := by have := HBL.out; omega
                refine F_start 11 (fun w' => w'.cell? ⟨zb, 0, none⟩ = some (.int .i64 (ia : Int)) ∧ w'.cell? ⟨zb, 1, none⟩ = some (.int .i64 (ib : Int)) ∧ w'.cell? ⟨zb, 2, none⟩ = some (.bool id) ∧ w'.cell? ⟨g2, k * 3, none⟩ = some (.int .i64 (ta : Int)) ∧ w'.cell? ⟨g2, k * 3 + 1, none⟩ = some (.int .i64 (tb : Int)) ∧ w'.cell? ⟨g2, k * 3 + 2, none⟩ = some (.bool td)) (by kernel_rfl) (by exact ⟨z0, z1, z2, d0, d1, d2⟩) (fun hS inv => ?_)
                refine F_take (i := 0) (v := ?_) rfl (by kernel_rfl) (by kernel_rfl) (by kernel_rfl) (fun _ _ _ h => h) inv (Or.inl ⟨by rfl, ?_⟩) (by assumption) (fun invn => ?_)
                rotate_left
                · (intro w hSw; (try dsimp only at hSw); go_simp; try with_reducible rfl)
                try simp only [List.getElem_toArray, List.getElem_cons_zero, List.getElem_cons_succ, Act.put, List.setIfInBounds_toArray, List.set_cons_zero, List.set_cons_succ]
                clear inv
                have inv := invn
                clear invn
                refine F_take (i := 1) (v := ?_) rfl (by kernel_rfl) (by kernel_rfl) (by kernel_rfl) (fun _ _ _ h => h) inv (Or.inl ⟨by rfl, ?_⟩) (by assumption) (fun invn => ?_)
                rotate_left
                · (intro w hSw; (try dsimp only at hSw); go_simp; try with_reducible rfl)
                try simp only [List.getElem_toArray, List.getElem_cons_zero, List.getElem_cons_succ, Act.put, List.setIfInBounds_toArray, List.set_cons_zero, List.set_cons_succ]
                clear inv
                have inv := invn
                clear invn
                refine F_take (i := 2) (v := ?_) rfl (by kernel_rfl) (by kernel_rfl) (by kernel_rfl) (fun _ _ _ h => h) inv (Or.inl ⟨by rfl, ?_⟩) (by assumption) (fun invn => ?_)
                rotate_left
                · (intro w hSw; (try dsimp only at hSw); go_simp; try with_reducible rfl)
                try simp only [List.getElem_toArray, List.getElem_cons_zero, List.getElem_cons_succ, Act.put, List.setIfInBounds_toArray, List.set_cons_zero, List.set_cons_succ]
                clear inv
                have inv := invn
                clear invn
                refine F_take (i := 3) (v := ?_) rfl (by kernel_rfl) (by kernel_rfl) (by kernel_rfl) (fun _ _ _ h => h) inv (Or.inl ⟨by rfl, ?_⟩) (by assumption) (fun invn => ?_)
                rotate_left
                · (intro w hSw; (try dsimp only at hSw); go_simp; try with_reducible rfl)
                try simp only [List.getElem_toArray, List.getElem_cons_zero, List.getElem_cons_succ, Act.put, List.setIfInBounds_toArray, List.set_cons_zero, List.set_cons_succ]
                clear inv
                have inv := invn
                clear invn
                refine F_take (i := 4) (v := ?_) rfl (by kernel_rfl) (by kernel_rfl) (by kernel_rfl) (fun _ _ _ h => h) inv (Or.inl ⟨by rfl, ?_⟩) (by assumption) (fun invn => ?_)
                rotate_left
                · (intro w hSw; (try dsimp only at hSw); go_simp; try with_reducible rfl)
                try simp only [List.getElem_toArray, List.getElem_cons_zero, List.getElem_cons_succ, Act.put, List.setIfInBounds_toArray, List.set_cons_zero, List.set_cons_succ]
                clear inv
                have inv := invn
                clear invn
                refine F_take (i := 5) (v := ?_) rfl (by kernel_rfl) (by kernel_rfl) (by kernel_rfl) (fun _ _ _ h => h) inv (Or.inl ⟨by rfl, ?_⟩) (by assumption) (fun invn => ?_)
                rotate_left
                · (intro w hSw; (try dsimp only at hSw); go_simp; try with_reducible rfl)
                try simp only [List.getElem_toArray, List.getElem_cons_zero, List.getElem_cons_succ, Act.put, List.setIfInBounds_toArray, List.set_cons_zero, List.set_cons_succ]
                clear inv
                have inv := invn
                clear invn
                have hS0 := hS
                refine F_one (i := 6) (by kernel_rfl) rfl rfl (by omega) inv (fun K hK => ?_)
                try simp only [List.getElem_toArray, List.getElem_cons_zero, List.getElem_cons_succ]
                go_simp
                refine hK.out _ _ (kA6 _ hS) (fun hSn invn => ?_)
                try simp only [List.getElem_toArray, List.getElem_cons_zero, List.getElem_cons_succ, Act.put, List.setIfInBounds_toArray, List.set_cons_zero, List.set_cons_succ]
                clear hK K inv hS
                have inv := invn
                have hS := hSn
                clear invn hSn
                have hfr1 := ((FrT.refl bb v0.ownBlock X0).drew).alloc (.cells #[.int .i64 (ta : Int), .int .i64 (tb : Int), .bool td] 56)
                have hlit := heap_alloc_new X0.drew (.cells #[.int .i64 (ta : Int), .int .i64 (tb : Int), .bool td] 56)
                obtain ⟨st, Y1, hent, hg1, hsz1, hcont⟩ := HENT.out (X0.drew.alloc (.cells #[.int .i64 (ta : Int), .int .i64 (tb : Int), .bool td] 56)) (Below.heap_alloc _ _ _ hbbx)
                have hent : (Instr.mapEntry 71 (.map (some bb)) (.agg #[.int .i64 (ia : Int), .int .i64 (ib : Int), .bool id])).run Try.prog (X0.alloc (.cells #[.int .i64 (ta : Int), .int .i64 (tb : Int), .bool td] 56)).drew = .ok (.tuple #[v0, .int .i64 (st : Int)]) Y1 := hent
                have HFR := Lib.hid (hfr1.ent hg1)
                have HRY := Lib.hid (ownsRow_block (HROD.out.alloc _) fun b hb => hg1.block b (by have := HVZ.out b hb; simp; omega) (fun e => HVB.out (by rw [hb, ← e])))
                have HLIT := Lib.hid ((hg1.block X0.drew.heap.size (by simp) (fun e => by injection e with e; have h : X0.heap.size = bb := e; omega)).trans hlit)
                have HG1 := Lib.hid hg1
                have HCO := Lib.hid hcont
                have hbase : w.heap.size + 1 ≤ Y1.heap.size := by rw [hsz1]; simp; omega
                obtain ⟨Z, hZ⟩ : ∃ Z, Z = Y1 := ⟨_, rfl⟩
                have HZ := Lib.hid (show Z.heap[bb]? = Y1.heap[bb]? by rw [hZ])
                have hbbZ : bb < Z.heap.size := by rw [hZ, hsz1]; simp; omega
                rw [← hZ] at HFR HRY HLIT hbase
                have HZY := Lib.hid hZ
                clear hfr1 hlit hg1 hcont hsz1
                refine F_one (i := 7) (by kernel_rfl) rfl rfl (by omega) inv (fun K hK => ?_)
                try simp only [List.getElem_toArray, List.getElem_cons_zero, List.getElem_cons_succ]
                go_simp
                refine hK.out _ _ (kG6 HG1.out NZ.out NZ.out NZ.out NG.out NG.out NG.out hS) (fun hSn invn => ?_)
                try simp only [List.getElem_toArray, List.getElem_cons_zero, List.getElem_cons_succ, Act.put, List.setIfInBounds_toArray, List.set_cons_zero, List.set_cons_succ]
                clear hK K inv hS
                have inv := invn
                have hS := hSn
                clear invn hSn
                clear hent
                refine F_take (i := 8) (v := ?_) rfl (by kernel_rfl) (by kernel_rfl) (by kernel_rfl) (fun _ _ _ h => h) inv (Or.inl ⟨by rfl, ?_⟩) (by assumption) (fun invn => ?_)
                rotate_left
                · (intro w hSw; (try dsimp only at hSw); go_simp; try with_reducible rfl)
                try simp only [List.getElem_toArray, List.getElem_cons_zero, List.getElem_cons_succ, Act.put, List.setIfInBounds_toArray, List.set_cons_zero, List.set_cons_succ]
                clear inv
                have inv := invn
                clear invn
                refine F_take (i := 10) (v := ?_) rfl (by kernel_rfl) (by kernel_rfl) (by kernel_rfl) (fun _ _ _ h => h) inv (Or.inl ⟨by rfl, ?_⟩) (by assumption) (fun invn => ?_)
                rotate_left
                · (intro w hSw; (try dsimp only at hSw); go_simp; try with_reducible rfl)
                try simp only [List.getElem_toArray, List.getElem_cons_zero, List.getElem_cons_succ, Act.put, List.setIfInBounds_toArray, List.set_cons_zero, List.set_cons_succ]
                clear inv
                have inv := invn
                clear invn
                rw [← HZY.out] at hS ⊢
                refine F_one (i := 9) (by kernel_rfl) rfl rfl (by omega) inv (fun K hK => ?_)
                try simp only [List.getElem_toArray, List.getElem_cons_zero, List.getElem_cons_succ]
                refine op_append1 cTw elTw rfl _ _ rfl (w.heap.size + 1) v0 (B (ia, ib, id)) (ta, tb, td) 1 _ (by rfl) HRY.out (by rfl) HLIT.out rfl (cTw_one _) hby (by decide) hbase ?_
                intro g cap Z2 hrowZ hgrZ hatZ hlZ
                obtain ⟨w3, hes, hm3, hg3⟩ := HCO.out Z2 (.slice (some ⟨g, 0, none⟩) ((B (ia, ib, id)).length + 1) cap) _ ((hgrZ.block bb hbbZ (fun e => HVB.out e.symm)).trans HZ.out) rfl
                have hes : (Instr.entryStore 71 (.map (some bb)) (.int .i64 (st : Int)) (.slice (some ⟨g, 0, none⟩) ((B (ia, ib, id)).length + 1) cap)).run Try.prog Z2 = .ok () w3 := hes
                have HROZ := Lib.hid hrowZ
                have HATZ := Lib.hid hatZ
                have HFZ := Lib.hid ((HFR.out.own hgrZ).ent hg3)
                have HGZ := Lib.hid hgrZ
                have HG3 := Lib.hid hg3
                have HM3 := Lib.hid hm3
                clear hrowZ hatZ hgrZ hg3 hm3
                refine hK.out _ _ (kG6 HGZ.out NVZ.out NVZ.out NVZ.out NVG.out NVG.out NVG.out hS) (fun hSn invn => ?_)
                try simp only [List.getElem_toArray, List.getElem_cons_zero, List.getElem_cons_succ, Act.put, List.setIfInBounds_toArray, List.set_cons_zero, List.set_cons_succ]
                clear hK K inv hS
                have inv := invn
                have hS := hSn
                clear invn hSn
                refine F_last (i := 11) (by kernel_rfl) rfl rfl (by omega) (by kernel_rfl) (fun K hK => ?_)
                go_simp
                refine hK _ _ ?_
                clear hK K inv hS
                go_wp2_with fail
                go_meet
                have hgb : g ≠ bb := fun e => by
                  rcases HATZ.out with h | h
                  · exact HVB.out (by rw [h, e])
                  · omega
                refine ⟨rfl, _, HFZ.out, HM3.out, ownsRow_block HROZ.out fun b hb => HG3.out.block b (HROZ.out.lt b hb).2 (fun e => ?_), ?_⟩
                · have h1 : some g = some b := hb
                  injection h1 with h1
                  injection e with e
                  exact hgb (h1.trans e)
                · rcases HATZ.out with h | h
                  · exact .inl h.symm
                  · exact .inr ⟨g, rfl, Nat.le_trans HFR.out.size h⟩
              case rest =>
                obtain ⟨rfl, v', hfr, hm3, hrow3, hat3⟩ := hcut
                have hput := HTX.out.1.put (t := (ia, ib, id)) (u := (ta, tb, td)) (v' := v') hfr.size (by rw [← HV0.out]; exact hfr.block) hfr.os hs0 (by rw [← HM2.out]; exact hm3) hrow3 (by rw [← HV0.out]; exact hat3)
                have haw := HAX.out.put (t := (ia, ib, id)) (v' := v') hfr.size (by rw [← HV0.out]; exact hfr.block) (by rw [← HV0.out]; exact hat3)
                have hbef := HTX.out.2.put (ia, ib, id)
                rw [← HT.out] at hbef
                have hbz := hfr.blk HBZ.out (by omega) (fun e => by have := HVZ.out zb e; omega)
                have hsw := hfr.size
                rw [← HL.out, ← HM2.out] at hput
                generalize updT F (ia, ib, id) v' = F' at hput haw
                generalize putB B (ia, ib, id) (ta, tb, td) = B' at hput hbef
                have HPU := Lib.hid hput
                have HAW := Lib.hid haw
                have HBE := Lib.hid hbef
                have HBZ := Lib.hid hbz
                clear hput haw hbef hfr hm3 hrow3 hat3 HTX HAX HBF HENT HROW HV0 d0 d1 d2 z0 z1 z2 HTS
                have z0 : wc.cell? ⟨zb, 0, none⟩ = some (.int .i64 (ia : Int)) := by exact hbz.cell 0
                have z1 : wc.cell? ⟨zb, 1, none⟩ = some (.int .i64 (ib : Int)) := by exact hbz.cell 1
                have z2 : wc.cell? ⟨zb, 2, none⟩ = some (.bool id) := by exact hbz.cell 2
                have hzlt := hbz.lt
                clear hbz
                have HTO := Lib.hid (show NX.take (i + 1) = cur ++ [(ia, ib, id)] from HTK.out)
                have HME := Lib.hid (show 1 + 2 * (k * 3969 + n * 441 + (cur ++ [(ia, ib, id)]).length) = m + 1 + 1 by rw [HM2.out, List.length_append]; simp only [List.length_singleton]; omega)
                have HLK := Lib.hid <| HPU.out.seen.look Try.underlying58 (Try.zeroValue4 wc) (rfl : encS (.bool false) = _) (t := (ia, ib, id)) ⟨hia2, hib2⟩
                by_cases hmem : (ia, ib, id) ∈ L
                · have hlk : (Instr.lookup 58 (.map (some (w.heap.size + 1 + 1))) (.agg #[.int .i64 (ia : Int), .int .i64 (ib : Int), .bool id]) false).run Try.prog wc = .ok (.bool true) wc := by
                    have h := HLK.out
                    rw [seenT, if_pos (List.contains_iff_mem.2 hmem)] at h
                    exact h
                  have HAD := Lib.hid (addT_has hmem)
                  clear hmem
                  go_wp2_with fail
                  go_roundw
                  case rel => exact ⟨i + 1, F', B', by omega, by go_num, by rw [HTO.out]; exact ⟨by rw [HME.out, listT_snoc, ← HL.out, HAD.out]; exact HPU.out.mono (Nat.le_succ _), HBE.out⟩, HAW.out⟩
                  case measure => simp [intOf]; omega
                · have hlk : (Instr.lookup 58 (.map (some (w.heap.size + 1 + 1))) (.agg #[.int .i64 (ia : Int), .int .i64 (ib : Int), .bool id]) false).run Try.prog wc = .ok (.bool false) wc := by
                    have h := HLK.out
                    rw [seenT, if_neg (fun e => hmem (List.contains_iff_mem.1 e))] at h
                    exact h
                  have HAD := Lib.hid (addT_new hmem)
                  have hmx : m + 1 < maxLen := by have := HM2.out; unfold maxLen; omega
                  have HLl := Lib.hid (show L.length ≤ 882 by
                    have h1 := List.IsPrefix.length_le (listT_pre (cur := cur) (rest := NX.drop i) HKL.out hk8 hn9 (by rw [← HNX.out, HCU.out]; exact List.take_append_drop i NX))
                    rw [← HL.out] at h1
                    have h2 := allT_len (p := p) H20.out 882
                    rw [endT] at h1
                    omega)
                  clear hmem HLK
                  go_upto_region 16 with (at_mapUpdate; (refine wpList_put_tw rfl _ _ _ 58 rfl Try.underlying58 HPU.out.seen hmx (t := (ia, ib, id)) HLO.out (u := .bool true) rfl rfl rfl rfl ?_); intro w4 hm4 hg4; have HM4 := Lib.hid hm4; have HG4 := Lib.hid hg4; clear hm4 hg4)
                  have hbz4 : Blk w4 zb 56 #[.int .i64 (ia : Int), .int .i64 (ib : Int), .bool id] := (HG4.out.block zb hzlt (fun e => by injection e; omega)).trans HBZ.out
                  have hs4 := HG4.out.size
                  have z0 : w4.cell? ⟨zb, 0, none⟩ = some (.int .i64 (ia : Int)) := by exact hbz4.cell 0
                  have z1 : w4.cell? ⟨zb, 1, none⟩ = some (.int .i64 (ib : Int)) := by exact hbz4.cell 1
                  have z2 : w4.cell? ⟨zb, 2, none⟩ = some (.bool id) := by exact hbz4.cell 2
                  have hzl4 := hbz4.lt
                  have HAL := Lib.hid (ownsRow_block HPU.out.all fun b hb => HG4.out.block b (HPU.out.all.lt b hb).2 (fun e => HPU.out.seen.notRow HPU.out.all (by rw [hb, ← e])))
                  have qb1 : (L.length + 1) * 24 ≤ 140737488355328 := by have := HLl.out; omega
                  have qb2 : w.heap.size + 1 ≤ w4.heap.size := by omega
                  clear hbz4
                  go_wp2_with (at_builtin; (refine wpList_append1 cTw elTw rfl _ _ rfl (w.heap.size + 1) _ L (ia, ib, id) _ 1 _ (by rfl) HAL.out (by rfl) rfl rfl rfl (cTw_one _) qb1 (by decide) qb2 ?_); intro v5 w5 hrow5 hb5 hat5 hgr5)
                  go_roundw
                  case rel => exact ⟨i + 1, F', B', by omega, by go_num, by rw [HTO.out]; exact ⟨by rw [HME.out, listT_snoc, ← HL.out, HAD.out]; exact (HPU.out.add hs0 HM4.out HG4.out hrow5 hgr5 hat5).mono (Nat.le_refl _), HBE.out⟩, HAW.out.add HG4.out hgr5 hat5⟩
                  case measure => simp [intOf]; omega
            · obtain rfl : i = NX.length := by omega
              go_wp2_with fail
              go_roundw
              case rel => exact ⟨n + 1, F, B, by omega, by go_num, TwS.letter (by have h := hts; rw [List.take_length] at h; rw [← HNX.out]; exact h)⟩
              case measure => simp [intOf]; omega
        · obtain rfl : n = 9 := by omega
          go_wp2_with fail
          go_roundw
          case rel => exact ⟨k + 1, F, B, Nat.le_trans HKL.out (List.IsPrefix.length_le (allT_pre p k)), by go_num, HPS.out.pair HKL.out (by omega)⟩
          case measure => simp [intOf]; omega
    · obtain rfl : k = M := by omega
      have hEA := endT_eq (p := p) (i := k) (Nat.le_of_eq HM.out.symm) h882
      have hall := (Own.of_row HPS.out.1.all rfl rfl).sl cTw_len
      rw [listT_zero, ← hEA] at hall
      have HALL := Lib.hid hall
      have HN := Lib.hid (show k = (endT p).length by rw [hEA]; exact HM.out)
      have hbef := HPS.out.2
      rw [HN.out] at hbef
      have HBE := Lib.hid (show BefOk p (endT p).length 0 [] B from hbef)
      have HRW := Lib.hid HPS.out.1.rows
      have HBM := Lib.hid HPS.out.1.bef
      have HBW := Lib.hid (HB0.out.trans (HPS.out.1.bel.mono (show w.heap.size ≤ w.heap.size + 1 by omega)))
      have hws := HPS.out.1.bel.size
      have HBPo := Lib.hid (show Blk wo w.heap.size 27 #[.slice A n1 c, .int .i64 p.first, .int .i64 p.last, .slice B0 n2 c2, .bool p.nul] from (HPS.out.1.bel.block w.heap.size (by omega)).trans HBP.out)
      have HAC := Lib.hid (fun (s : Nat) (W : World) (b : Bool) (h : Below w.heap.size w W) (hs : s < 2 ^ 21) (hb : b = accP p s) => show Calls Try.prog 37 #[.agg #[.slice A n1 c, .int .i64 p.first, .int .i64 p.last, .slice B0 n2 c2, .bool p.nul], .int .i64 (s : Int)] W fun e w' => e = .returned (.bool b) ∧ Below W.heap.size W w' by rw [hb]; exact implAccepts _ p s W (HV.out.keep h) HOK.out hs)
      clear hEA hall hbef HPS hlt hk
      have hX2 : (wo.alloc (.map #[] 0)).heap.size = wo.heap.size + 1 := by simp
      have hini : TwD p wo ((wo.alloc (.map #[] 0)).alloc (.cells #[] 56)) (.slice (some ⟨wo.heap.size + 1, 0, none⟩) 0 0) wo.heap.size 0 (iniD p 0) (iniQ p 0) := by
        refine ⟨((TwMap.made wo).ext fun t _ => by rw [iniD_zero]; rfl).alloc _, ?_, ((Below.refl _ _).alloc (Nat.le_refl _) _).alloc (by simp) _, Nat.le_refl _⟩
        have h := World.ownsRow_lit (base := wo.heap.size) (e := 56) (size := 3) (wo.alloc (.map #[] 0)) #[] 0 (by simp) (by decide) rfl
        rw [hX2] at h
        exact QRow.of_own h
      have HINI := Lib.hid hini
      have hk0 : (0 : Nat) ≤ k := Nat.zero_le _
      obtain ⟨bd, hbd⟩ : ∃ bd, bd = wo.heap.size := ⟨_, rfl⟩
      have hgl3 : w.heap.size + 1 ≤ wo.heap.size := by omega
      clear hini hX2
      go_wp2_with fail
      rw [← hbd] at HINI ⊢
      have HBD := Lib.hid hbd
      clear hbd
      go_loopw [11, 13, 72] (fun qq _ ii wr => ∃ i m : Nat, i ≤ k ∧ m ≤ i ∧ ii = .int .i64 (i : Int) ∧ TwD p wo wr qq bd m (iniD p i) (iniQ p i)) (fun _ _ ii _ => k - (intOf ii).toNat)
      case atStart => exact ⟨0, 0, Nat.zero_le _, Nat.le_refl _, rfl, HINI.out⟩
      case round =>
        clear HINI
        obtain ⟨i, m, hi, hmi, rfl, htd⟩ := hrel
        by_cases hlt : i < k
        · have hiN : i < (endT p).length := by rw [← HN.out]; exact hlt
          have hat : (endT p)[i]? = some (twnA p i) := by rw [twnA, List.getD_eq_getElem?_getD, List.getElem?_eq_getElem hiN]; rfl
          have HDN := Lib.hid (iniD_no (p := p) (i := i))
          have HDY := Lib.hid (iniD_yes hiN)
          have HQS := Lib.hid (iniQ_succ hiN)
          have HQL := Lib.hid (iniQ_len p i)
          have HMT := Lib.hid (twnA_mem hiN)
          obtain ⟨b1, o1, e1, hb1, hb2, q0, q1, q2⟩ := HALL.out.tw hat
          cases e1
          have hbw := htd.bel.size
          have q0 := (htd.bel.cell (p := ⟨gl, 0 + i * 3, none⟩) hb2).trans q0
          have q1 := (htd.bel.cell (p := ⟨gl, 0 + i * 3 + 1, none⟩) hb2).trans q1
          have q2 := (htd.bel.cell (p := ⟨gl, 0 + i * 3 + 2, none⟩) hb2).trans q2
          obtain ⟨⟨ta, tb, td⟩, ht⟩ : ∃ t, t = twnA p i := ⟨_, rfl⟩
          rw [← ht] at q0 q1 q2 HDN HDY HQS HMT
          rw [Nat.zero_add] at q0 q1 q2
          simp only at q0 q1 q2
          obtain ⟨hta, htb⟩ : ta ≤ 20 ∧ tb ≤ 20 := by
            have h1 := HMT.out
            rw [endT] at h1
            exact allT_low (i := 882) H20.out h1
          have hii : (i : Int) < (k : Int) := by omega
          have hgw : gl < wr.heap.size := by omega
          have hbdw := htd.dist.lt
          have HTD := Lib.hid htd
          clear htd hat ht
          go_upto_region 23 with fail
          obtain ⟨X0, hX0⟩ : ∃ X, X = wr.alloc (.cells #[.int .i64 (ta : Int), .int .i64 (tb : Int), .bool td] 56) := ⟨_, rfl⟩
          obtain ⟨zb, hzb⟩ : ∃ z, z = wr.heap.size := ⟨_, rfl⟩
          have hbz : Blk X0 zb 56 #[.int .i64 (ta : Int), .int .i64 (tb : Int), .bool td] := by rw [hX0]; exact Blk.new _ _ _ _ hzb
          have hbX : Below wr.heap.size wr X0 := by rw [hX0]; exact (Below.refl _ _).alloc (Nat.le_refl _) _
          rw [← hX0, ← hzb]
          have HTD := Lib.hid (HTD.out.below hbX)
          have hbp : Blk X0 w.heap.size 27 #[.slice A n1 c, .int .i64 p.first, .int .i64 p.last, .slice B0 n2 c2, .bool p.nul] := (HTD.out.bel.block w.heap.size (by omega)).trans HBPo.out
          have HBX := Lib.hid (HBW.out.trans (HTD.out.bel.mono (by omega)))
          have z0 : X0.cell? ⟨zb, 0, none⟩ = some (.int .i64 (ta : Int)) := by exact hbz.cell 0
          have z1 : X0.cell? ⟨zb, 1, none⟩ = some (.int .i64 (tb : Int)) := by exact hbz.cell 1
          have z2 : X0.cell? ⟨zb, 2, none⟩ = some (.bool td) := by exact hbz.cell 2
          have x0 : X0.cell? ⟨w.heap.size, 0, none⟩ = some (.slice A n1 c) := by exact hbp.cell 0
          have x1 : X0.cell? ⟨w.heap.size, 1, none⟩ = some (.int .i64 p.first) := by exact hbp.cell 1
          have x2 : X0.cell? ⟨w.heap.size, 2, none⟩ = some (.int .i64 p.last) := by exact hbp.cell 2
          have x3 : X0.cell? ⟨w.heap.size, 3, none⟩ = some (.slice B0 n2 c2) := by exact hbp.cell 3
          have x4 : X0.cell? ⟨w.heap.size, 4, none⟩ = some (.bool p.nul) := by exact hbp.cell 4
          have hl0 := hbp.lt
          have hzl := hbz.lt
          have HBZ := Lib.hid hbz
          have hba : bit ta < 2 ^ 21 := Nat.pow_lt_pow_right (by decide) (by omega)
          have hbb : bit tb < 2 ^ 21 := Nat.pow_lt_pow_right (by decide) (by omega)
          have hsa := shl_bit2 (s := ta) (by omega)
          have hsb := shl_bit2 (s := tb) (by omega)
          have hsa3 := shl_bit3 (s := ta) (by omega)
          have hsb3 := shl_bit3 (s := tb) (by omega)
          obtain ⟨qa, hqa⟩ : ∃ q, q = accP p (bit ta) := ⟨_, rfl⟩
          obtain ⟨qb, hqb⟩ : ∃ q, q = accP p (bit tb) := ⟨_, rfl⟩
          have HG := Lib.hid (show twnG p (ta, tb, td) = (td && (qa && qb)) by rw [hqa, hqb]; rfl)
          have HQA := Lib.hid hqa
          have HQB := Lib.hid hqb
          have hbdz : bd < zb := by rw [hzb]; exact hbdw
          have hmx : m < maxLen := by unfold maxLen; omega
          clear hbp hbz hbX hX0 hqa hqb q0 q1 q2 hzb
          cases td with
          | false =>
            refine wp_region_ext_lit (by kernel_rfl) (by kernel_rfl) ?_
            repeat (go_big_quiet_step ((fail)))
            refine wpQuiet_nil ?_
            intro _ hw'
            obtain ⟨u2, hw''⟩ := hw'
            subst hw''
            have HG2 := Lib.hid (show twnG p _ = false from HG.out)
            have HQ2 := Lib.hid (show iniQ p (i + 1) = iniQ p i by rw [HQS.out, HG2.out]; simp)
            have HD2 := Lib.hid (HDN.out HG2.out)
            clear x0 x1 x2 x3 x4 hsa hsb hsa3 hsb3
            go_wp2_with fail
            go_roundw
            case rel => exact ⟨i + 1, m, by omega, by omega, by go_num, by rw [HQ2.out, HD2.out]; exact HTD.out.below (ext_below X0 u2)⟩
            case measure => simp [intOf]; omega
          | true =>
            cases qa with
            | false =>
              refine wp_region_ext_lit (by kernel_rfl) (by kernel_rfl) ?_
              repeat (go_big_quiet_step ((go_at_call 37; exact Calls.ext_of (HAC.out _ _ _ (below_trans HBX.out (ext_below _ _)) (by first | exact hba | exact hbb) (by first | exact HQA.out | exact HQB.out)))))
              refine wpQuiet_nil ?_
              intro _ hw'
              obtain ⟨u2, hw''⟩ := hw'
              subst hw''
              have HG2 := Lib.hid (show twnG p _ = false from HG.out)
              have HQ2 := Lib.hid (show iniQ p (i + 1) = iniQ p i by rw [HQS.out, HG2.out]; simp)
              have HD2 := Lib.hid (HDN.out HG2.out)
              clear x0 x1 x2 x3 x4 hsa hsb hsa3 hsb3
              go_wp2_with fail
              go_roundw
              case rel => exact ⟨i + 1, m, by omega, by omega, by go_num, by rw [HQ2.out, HD2.out]; exact HTD.out.below (ext_below X0 u2)⟩
              case measure => simp [intOf]; omega
            | true =>
              cases qb with
              | false =>
                refine wp_region_ext_lit (by kernel_rfl) (by kernel_rfl) ?_
                repeat (go_big_quiet_step ((go_at_call 37; exact Calls.ext_of (HAC.out _ _ _ (below_trans HBX.out (ext_below _ _)) (by first | exact hba | exact hbb) (by first | exact HQA.out | exact HQB.out)))))
                refine wpQuiet_nil ?_
                intro _ hw'
                obtain ⟨u2, hw''⟩ := hw'
                subst hw''
                have HG2 := Lib.hid (show twnG p _ = false from HG.out)
                have HQ2 := Lib.hid (show iniQ p (i + 1) = iniQ p i by rw [HQS.out, HG2.out]; simp)
                have HD2 := Lib.hid (HDN.out HG2.out)
                clear x0 x1 x2 x3 x4 hsa hsb hsa3 hsb3
                go_wp2_with fail
                go_roundw
                case rel => exact ⟨i + 1, m, by omega, by omega, by go_num, by rw [HQ2.out, HD2.out]; exact HTD.out.below (ext_below X0 u2)⟩
                case measure => simp [intOf]; omega
              | true =>
                refine wp_region_ext_lit (by kernel_rfl) (by kernel_rfl) ?_
                repeat (go_big_quiet_step ((go_at_call 37; exact Calls.ext_of (HAC.out _ _ _ (below_trans HBX.out (ext_below _ _)) (by first | exact hba | exact hbb) (by first | exact HQA.out | exact HQB.out)))))
                refine wpQuiet_nil ?_
                intro _ hw'
                obtain ⟨u2, hw''⟩ := hw'
                subst hw''
                have HTD2 := Lib.hid (HTD.out.below (ext_below X0 u2))
                have hbz2 := HBZ.out.keep (ext_below X0 u2)
                have HG2 := Lib.hid (show twnG p (ta, tb, true) = true by rw [HG.out]; rfl)
                have HQ2 := Lib.hid (show iniQ p (i + 1) = iniQ p i ++ [(ta, tb, true)] by rw [HQS.out, if_pos HG2.out])
                generalize ext X0 u2 = x2 at *
                have z0 : x2.cell? ⟨zb, 0, none⟩ = some (.int .i64 (ta : Int)) := by exact hbz2.cell 0
                have z1 : x2.cell? ⟨zb, 1, none⟩ = some (.int .i64 (tb : Int)) := by exact hbz2.cell 1
                have z2 : x2.cell? ⟨zb, 2, none⟩ = some (.bool true) := by exact hbz2.cell 2
                have hzl2 := hbz2.lt
                have HBZ2 := Lib.hid hbz2
                clear hbz2 x0 x1 x3 x4 hsa hsb hsa3 hsb3
                have hlow2 : twLow (ta, tb, true) := ⟨hta, htb⟩
                have HLO := Lib.hid hlow2
                clear hlow2
                go_upto_region 25 with (at_mapUpdate; (refine wpList_put_tw rfl _ _ _ 52 rfl Try.underlying52 HTD2.out.dist hmx (t := (ta, tb, true)) HLO.out (u := .int .i64 0) rfl rfl rfl rfl ?_); intro w4 hm4 hg4; have HM4 := Lib.hid hm4; have HG4 := Lib.hid hg4; clear hm4 hg4)
                have hbz4 : Blk w4 zb 56 #[.int .i64 (ta : Int), .int .i64 (tb : Int), .bool true] := (HG4.out.block zb hzl2 (fun e => by injection e; omega)).trans HBZ2.out
                have z0 : w4.cell? ⟨zb, 0, none⟩ = some (.int .i64 (ta : Int)) := by exact hbz4.cell 0
                have z1 : w4.cell? ⟨zb, 1, none⟩ = some (.int .i64 (tb : Int)) := by exact hbz4.cell 1
                have z2 : w4.cell? ⟨zb, 2, none⟩ = some (.bool true) := by exact hbz4.cell 2
                have hzl4 := hbz4.lt
                have HQU := Lib.hid (HTD2.out.queue HG4.out)
                have qb1 : ((iniQ p i).length + 1) * 24 ≤ 140737488355328 := by have := HQL.out; omega
                have qb2 : wo.heap.size ≤ w4.heap.size := Nat.le_trans HTD2.out.bel.size HG4.out.size
                clear hbz4
                go_wp2_with (at_builtin; (refine wpList_appendQ1 cTw elTw rfl _ _ rfl wo.heap.size _ (iniQ p i) (ta, tb, true) _ 1 _ (by rfl) HQU.out (by rfl) rfl rfl rfl (cTw_one _) qb1 (by decide) qb2 ?_); intro v5 w5 hrow5 hb5 hat5 hgr5)
                go_roundw
                case rel => exact ⟨i + 1, m + 1, by omega, by omega, by go_num, by rw [HQ2.out, ← HDY.out HG2.out]; exact HTD2.out.add HMT.out (iniD_len p i) (Int.le_refl _) HM4.out HG4.out hrow5 hgr5⟩
                case measure => simp [intOf]; omega
        · obtain rfl : k = i := by omega
          have HBO := Lib.hid (ini_bo p (prvB p B))
          have HQE := Lib.hid (show ∀ t ∈ iniQ p k, t ∈ endT p from fun t ht => List.mem_of_mem_take (List.mem_filter.1 ht).1)
          have hng := negs_le (iniD p k)
          rw [iniD_len, ← HN.out] at hng
          have hql := iniQ_len p k
          have HD0 := Lib.hid (show ∀ j, j < (endT p).length → (iniD p k).getD j 0 + ((2000 : Nat) : Int) ≤ 2000 from fun j hj => by rw [iniD_at hj]; split <;> omega)
          rw [← HN.out] at HBO
          have HTD := Lib.hid htd
          have HNQ := Lib.hid (show (iniQ p k).length + negs (iniD p k) ≤ 2000 by omega)
          have HNM := Lib.hid (show m + negs (iniD p k) ≤ 2000 by omega)
          clear hng hql htd hlt hi
          go_wp2_with fail
          go_loopg [11, 15, 16, 17] 2000 (fun gk qq _ _ _ wr => ∃ (m : Nat) (D : List Int) (Q : List Twn), TwD p wo wr qq bd m D Q ∧ BO (prvB p B) (nextE (prsT p)) (goalT p) k D (Q.map (idxT p)) ∧ (∀ t ∈ Q, t ∈ endT p) ∧ Q.length + negs D ≤ gk ∧ gk ≤ 2000 ∧ (∀ j, j < (endT p).length → D.getD j 0 + (gk : Int) ≤ 2000) ∧ m + negs D ≤ 2000)
          case atStart => exact ⟨m, iniD p k, iniQ p k, HTD.out, HBO.out, HQE.out, HNQ.out, Nat.le_refl _, HD0.out, HNM.out⟩
          case round =>
            clear HBO HQE HD0 HTD HNQ HNM
            obtain ⟨m, D, Q, htd, hbo, hqe, hqn, hgk, hdm, hmn⟩ := hrel
            have HTD := Lib.hid htd
            have HBO := Lib.hid hbo
            have HQE := Lib.hid hqe
            have HDM := Lib.hid hdm
            have hmx : m < maxLen := by unfold maxLen; omega
            cases Q with
            | nil =>
              obtain ⟨A9, c9, rfl, hc1, hc2⟩ := htd.que.shape
              have HFN := Lib.hid (show ∀ i, i < (endT p).length → D.getD i 0 = dT p i from fun i hi => dT_eq (BO.fin (next_lt H20.out) (next_prv HBE.out H20.out) (by have h := HBO.out; rw [HN.out] at h; exact h) i hi))
              have HBW2 := Lib.hid (HBW.out.trans (htd.bel.mono (by omega)))
              have hlbd := htd.lb
              clear htd hbo hqe hdm
              simp only [List.length_nil] at *
              go_wp2_with fail
              go_ret
              refine ⟨bd, m, _, rfl, by omega, HTD.out.dist, fun t => ?_, fun j hj => by (have h1 := HDM.out j hj; rw [HFN.out j hj] at h1; omega), HBW2.out⟩
              rw [dV]
              by_cases ht : (endT p).contains t = true
              · rw [HFN.out _ (idxT_lt (List.contains_iff_mem.1 ht))]
                split <;> rfl
              · rw [if_neg (fun h => ht h.1), if_neg (fun h => ht h.1)]
                rfl
            | cons h q =>
              have hhe := hqe h (by simp)
              have hne := HBO.out.enter
              rw [prvB, twnA_idx hhe] at hne
              have HIN := Lib.hid hne
              have hhD := (HBO.out.qN (idxT p h) (by simp)).2
              have HHD := Lib.hid hhD
              have HDH := Lib.hid (hdm (idxT p h) (idxT_lt hhe))
              have hdmx := hdm
              have HHE := Lib.hid hhe
              have HQT := Lib.hid (fun t (ht : t ∈ q) => hqe t (List.mem_cons_of_mem _ ht))
              obtain ⟨hh1, hh2⟩ : h.1 ≤ 20 ∧ h.2.1 ≤ 20 := by
                have h1 := hhe
                rw [endT] at h1
                exact allT_low (i := 882) H20.out h1
              have hsl := (Own.of_row (HRW.out h) rfl rfl).sl cTw_len
              obtain ⟨AB, cB', hvB, hlB, hmB, -⟩ := hsl
              have hsl := (Own.of_row (HRW.out h) rfl rfl).sl cTw_len
              rw [hvB] at hsl
              have hlk := (HBM.out.block (htd.bel.block bb HBM.out.lt)).look Try.underlying71 (z := nilT) (Try.zeroValue57 wr) rfl (t := h) ⟨hh1, hh2⟩
              rw [hvB] at hlk
              obtain ⟨NB, hNB⟩ : ∃ NB, NB = (B h).length := ⟨_, rfl⟩
              rw [← hNB] at hlk hlB hsl
              have HNB := Lib.hid hNB
              have HSL := Lib.hid hsl
              unfold maxLen at hmB
              obtain ⟨gq, oq, cq, rfl, hgq1, hgq2, hqc⟩ := htd.que.cell (by simp)
              have e0 := hqc 0 _ rfl
              have e1 := hqc 1 _ rfl
              have e2 := hqc 2 _ rfl
              simp only [Nat.add_zero] at e0
              have hql : q.length ≤ 2000 := by rw [List.length_cons] at hqn; omega
              have hqn2 : q.length + negs D + 1 ≤ gk := by rw [List.length_cons] at hqn; omega
              have hlc : (h :: q).length = q.length + 1 := rfl
              obtain ⟨ha, hb, hd⟩ := h
              simp only at hh1 hh2 e0 e1 e2
              have hlk : (Instr.lookup 71 (.map (some bb)) (.agg #[.int .i64 (ha : Int), .int .i64 (hb : Int), .bool hd]) false).run Try.prog wr = .ok (.slice AB NB cB') wr := hlk
              rw [hlc]
              clear htd hbo hqe hdm hhe hne hhD hvB hNB hsl hqc hlc HBO HQE HDM hqn
              go_wp2_with fail
              clear hlk e0 e1 e2 hgq1 hgq2
              obtain ⟨H, hH⟩ : ∃ H : Twn, H = (ha, hb, hd) := ⟨_, rfl⟩
              have HH := Lib.hid hH
              rw [← hH] at HTD HIN HHD HDH HHE HNB HSL
              clear hH
              have HDA := Lib.hid (show ∀ j, j < (endT p).length → D.getD j 0 + (gk : Int) ≤ 2001 from fun j hj => by have := hdmx j hj; omega)
              go_loopw [11, 15, 16, 17, 110] (fun qq _ _ _ ii wr => ∃ (i m : Nat) (D : List Int) (Q : List Twn), i ≤ NB ∧ ii = .int .i64 (i : Int) ∧ TwD p wo wr qq bd m D (H :: Q) ∧ BI (prvB p B) (nextE (prsT p)) (goalT p) k D (Q.map (idxT p)) (idxT p H) (((B H).drop i).map (idxT p)) ∧ (∀ t ∈ Q, t ∈ endT p) ∧ Q.length + negs D + 1 ≤ gk ∧ (∀ j, j < (endT p).length → D.getD j 0 + (gk : Int) ≤ 2001) ∧ D.getD (idxT p H) 0 + (gk : Int) ≤ 2000 ∧ m + negs D ≤ 2000) (fun _ _ _ _ ii _ => NB - (intOf ii).toNat)
              case atStart => exact ⟨0, m, D, q, Nat.zero_le _, rfl, HTD.out, by rw [List.drop_zero]; exact HIN.out, HQT.out, hqn2, HDA.out, HDH.out, hmn⟩
              case round =>
                clear HTD HIN HHD HDH HQT HDA hdmx hqn2 hmn hmx hql
                obtain ⟨i, m, D, Q, hi, rfl, htd, hbi, hqt, hqn, hda, hdh, hmn⟩ := hrel
                have HTD := Lib.hid htd
                have HBI := Lib.hid hbi
                have HQT := Lib.hid hqt
                have HDA := Lib.hid hda
                have HDH := Lib.hid hdh
                have HMN := Lib.hid hmn
                have HQN := Lib.hid hqn
                have hmx : m < maxLen := by unfold maxLen; omega
                have hql : Q.length ≤ 2000 := by omega
                obtain ⟨gq, oq, cq, rfl, hgq1, hgq2, hqc⟩ := htd.que.cell (by simp)
                have hcq := htd.que.shape
                have hlc : (H :: Q).length = Q.length + 1 := rfl
                rw [hlc] at hcq ⊢
                obtain ⟨A9, c9, h9, hc8, hc9⟩ := hcq
                obtain rfl : c9 = cq := by injection h9 with _ _ h; exact h.symm
                unfold maxLen at hc9
                clear h9 hlc hda hdh hqt hqn hmn
                by_cases hlt : i < NB
                · have hat : (B H)[i]? = some ((B H)[i]'(by rw [← HNB.out]; exact hlt)) := List.getElem?_eq_getElem _
                  obtain ⟨⟨ta, tb, td⟩, ht⟩ : ∃ t, t = (B H)[i]'(by rw [← HNB.out]; exact hlt) := ⟨_, rfl⟩
                  rw [← ht] at hat
                  have hte := bef_in HBE.out (List.mem_of_getElem? hat)
                  have HTB := Lib.hid (List.mem_of_getElem? hat)
                  have hdr : ((B H).drop i).map (idxT p) = idxT p (ta, tb, td) :: ((B H).drop (i + 1)).map (idxT p) := by
                    rw [List.drop_eq_getElem_cons (by rw [← HNB.out]; exact hlt), ← ht]
                    rfl
                  rw [hdr] at hbi HBI
                  obtain ⟨hta, htb⟩ : ta ≤ 20 ∧ tb ≤ 20 := by
                    have h1 := hte
                    rw [endT] at h1
                    exact allT_low (i := 882) H20.out h1
                  have HTE := Lib.hid hte
                  obtain ⟨bn, on, en, hbn1, hbn2, q0, q1, q2⟩ := HSL.out.tw hat
                  subst en
                  have q0 := (htd.bel.cell (p := ⟨bn, on + i * 3, none⟩) hbn2).trans q0
                  have q1 := (htd.bel.cell (p := ⟨bn, on + i * 3 + 1, none⟩) hbn2).trans q1
                  have q2 := (htd.bel.cell (p := ⟨bn, on + i * 3 + 2, none⟩) hbn2).trans q2
                  simp only at q0 q1 q2
                  have hbs := htd.bel.size
                  have hbnw : bn < wr.heap.size := by omega
                  have hbdw := htd.dist.lt
                  have hii : (i : Int) < (NB : Int) := by omega
                  have HQC := Lib.hid hqc
                  have HLE := Lib.hid (show D.length = (endT p).length by rw [hbi.len]; exact HN.out)
                  clear hat ht hte hdr htd hbi hqc
                  go_upto_region 32 with fail
                  obtain ⟨X0, hX0⟩ : ∃ X, X = wr.alloc (.cells #[.int .i64 (ta : Int), .int .i64 (tb : Int), .bool td] 56) := ⟨_, rfl⟩
                  obtain ⟨zb, hzb⟩ : ∃ z, z = wr.heap.size := ⟨_, rfl⟩
                  have hbz : Blk X0 zb 56 #[.int .i64 (ta : Int), .int .i64 (tb : Int), .bool td] := by rw [hX0]; exact Blk.new _ _ _ _ hzb
                  have hbX : Below wr.heap.size wr X0 := by rw [hX0]; exact (Below.refl _ _).alloc (Nat.le_refl _) _
                  rw [← hX0, ← hzb]
                  have HTD := Lib.hid (HTD.out.below hbX)
                  have hbdz : bd < zb := by rw [hzb]; exact hbdw
                  have hgqz : gq < zb := by rw [hzb]; exact hgq2
                  have z0 : X0.cell? ⟨zb, 0, none⟩ = some (.int .i64 (ta : Int)) := by exact hbz.cell 0
                  have z1 : X0.cell? ⟨zb, 1, none⟩ = some (.int .i64 (tb : Int)) := by exact hbz.cell 1
                  have z2 : X0.cell? ⟨zb, 2, none⟩ = some (.bool td) := by exact hbz.cell 2
                  have hzl := hbz.lt
                  have HBZ := Lib.hid hbz
                  have HBXX := Lib.hid hbX
                  have HLK := Lib.hid (HTD.out.dist.look_ok Try.underlying52 (z := .int .i64 0) (Try.zeroValue3 X0) rfl (t := (ta, tb, td)) ⟨hta, htb⟩)
                  clear hbX hX0 hzb hbz q0 q1 q2
                  obtain ⟨d, hd⟩ : ∃ d, d = D.getD (idxT p (ta, tb, td)) 0 := ⟨_, rfl⟩
                  have HD := Lib.hid hd
                  by_cases hneg : d < 0
                  · have hlk : (Instr.lookup 52 (.map (some bd)) (.agg #[.int .i64 (ta : Int), .int .i64 (tb : Int), .bool td]) true).run Try.prog X0 = .ok (.tuple #[.int .i64 0, .bool false]) X0 := by
                      have h := HLK.out
                      rw [dV_none (by rw [← HD.out]; exact hneg)] at h
                      exact h
                    clear hd HLK
                    go_upto_region 34 with fail
                    have HTDd := Lib.hid (HTD.out.below ((Below.refl _ _).drew))
                    obtain ⟨dh, hdh⟩ : ∃ dh, dh = D.getD (idxT p H) 0 := ⟨_, rfl⟩
                    have hdh0 : 0 ≤ dh := by rw [hdh]; exact HBI.out.hD
                    have hdh9 : dh ≤ 2000 := by rw [hdh]; have := HDH.out; omega
                    have hlk3 : (Instr.lookup 52 (.map (some bd)) (.agg #[.int .i64 (ha : Int), .int .i64 (hb : Int), .bool hd]) false).run Try.prog X0.drew = .ok (.int .i64 dh) X0.drew := by
                      have h := HTDd.out.dist.look Try.underlying52 (z := .int .i64 0) (Try.zeroValue3 X0.drew) rfl (t := H) (by rw [HH.out]; exact ⟨hh1, hh2⟩)
                      rw [dV_some HHE.out HBI.out.hD, ← hdh, HH.out] at h
                      exact h
                    have HDh := Lib.hid hdh
                    obtain ⟨d1, hd1⟩ : ∃ d1, d1 = dh + 1 := ⟨_, rfl⟩
                    have hwr : IntKind.i64.wrap (dh + 1) = d1 := by rw [IntWalk.i64_in _ (by omega)]; exact hd1.symm
                    obtain ⟨w4, hupd, hm4, hg4⟩ := HTDd.out.dist.put Try.underlying52 hmx (t := (ta, tb, td)) ⟨hta, htb⟩ (v := .int .i64 d1) rfl
                    have hupd : (Instr.mapUpdate 52 (.map (some bd)) (.agg #[.int .i64 (ta : Int), .int .i64 (tb : Int), .bool td]) (.int .i64 d1)).run Try.prog X0.drew = .ok () w4 := hupd
                    have HM4 := Lib.hid hm4
                    have HG4 := Lib.hid hg4
                    have HD1 := Lib.hid hd1
                    have e0 : X0.cell? ⟨gq, oq, none⟩ = some (.int .i64 (ha : Int)) := by have h := kcell HBXX.out (HQC.out 0 _ rfl); rw [HH.out] at h; simpa using h
                    have e1 : X0.cell? ⟨gq, oq + 1, none⟩ = some (.int .i64 (hb : Int)) := by have h := kcell HBXX.out (HQC.out 1 _ rfl); rw [HH.out] at h; exact h
                    have e2 : X0.cell? ⟨gq, oq + 2, none⟩ = some (.bool hd) := by have h := kcell HBXX.out (HQC.out 2 _ rfl); rw [HH.out] at h; exact h
                    clear hm4 hg4 hd1 hdh hlk
                    refine F_start 8 (fun w' => w'.cell? ⟨zb, 0, none⟩ = some (.int .i64 (ta : Int)) ∧ w'.cell? ⟨zb, 1, none⟩ = some (.int .i64 (tb : Int)) ∧ w'.cell? ⟨zb, 2, none⟩ = some (.bool td) ∧ w'.cell? ⟨gq, oq, none⟩ = some (.int .i64 (ha : Int)) ∧ w'.cell? ⟨gq, oq + 1, none⟩ = some (.int .i64 (hb : Int)) ∧ w'.cell? ⟨gq, oq + 2, none⟩ = some (.bool hd) ∧ (Instr.lookup 52 (.map (some bd)) (.agg #[.int .i64 (ha : Int), .int .i64 (hb : Int), .bool hd]) false).run Try.prog w' = .ok (.int .i64 dh) w') (by kernel_rfl) (by exact ⟨z0, z1, z2, e0, e1, e2, hlk3⟩) (fun hS inv => ?_)
                    refine F_take (i := 0) (v := ?_) rfl (by kernel_rfl) (by kernel_rfl) (by kernel_rfl) (fun _ _ _ h => h) inv (Or.inl ⟨by rfl, ?_⟩) (by assumption) (fun invn => ?_)
                    rotate_left
                    · (intro w hSw; (try dsimp only at hSw); go_simp; try with_reducible rfl)
                    try simp only [List.getElem_toArray, List.getElem_cons_zero, List.getElem_cons_succ, Act.put, List.setIfInBounds_toArray, List.set_cons_zero, List.set_cons_succ]
                    clear inv
                    have inv := invn
                    clear invn
                    refine F_take (i := 1) (v := ?_) rfl (by kernel_rfl) (by kernel_rfl) (by kernel_rfl) (fun _ _ _ h => h) inv (Or.inl ⟨by rfl, ?_⟩) (by assumption) (fun invn => ?_)
                    rotate_left
                    · (intro w hSw; (try dsimp only at hSw); go_simp; try with_reducible rfl)
                    try simp only [List.getElem_toArray, List.getElem_cons_zero, List.getElem_cons_succ, Act.put, List.setIfInBounds_toArray, List.set_cons_zero, List.set_cons_succ]
                    clear inv
                    have inv := invn
                    clear invn
                    refine F_take (i := 2) (v := ?_) rfl (by kernel_rfl) (by kernel_rfl) (by kernel_rfl) (fun _ _ _ h => h) inv (Or.inl ⟨by rfl, ?_⟩) (by assumption) (fun invn => ?_)
                    rotate_left
                    · (intro w hSw; (try dsimp only at hSw); go_simp; try with_reducible rfl)
                    try simp only [List.getElem_toArray, List.getElem_cons_zero, List.getElem_cons_succ, Act.put, List.setIfInBounds_toArray, List.set_cons_zero, List.set_cons_succ]
                    clear inv
                    have inv := invn
                    clear invn
                    refine F_take (i := 3) (v := ?_) rfl (by kernel_rfl) (by kernel_rfl) (by kernel_rfl) (fun _ _ _ h => h) inv (Or.inl ⟨by rfl, ?_⟩) (by assumption) (fun invn => ?_)
                    rotate_left
                    · (intro w hSw; (try dsimp only at hSw); go_simp; try with_reducible rfl)
                    try simp only [List.getElem_toArray, List.getElem_cons_zero, List.getElem_cons_succ, Act.put, List.setIfInBounds_toArray, List.set_cons_zero, List.set_cons_succ]
                    clear inv
                    have inv := invn
                    clear invn
                    refine F_take (i := 4) (v := ?_) rfl (by kernel_rfl) (by kernel_rfl) (by kernel_rfl) (fun _ _ _ h => h) inv (Or.inl ⟨by rfl, ?_⟩) (by assumption) (fun invn => ?_)
                    rotate_left
                    · (intro w hSw; (try dsimp only at hSw); go_simp; try with_reducible rfl)
                    try simp only [List.getElem_toArray, List.getElem_cons_zero, List.getElem_cons_succ, Act.put, List.setIfInBounds_toArray, List.set_cons_zero, List.set_cons_succ]
                    clear inv
                    have inv := invn
                    clear invn
                    refine F_take (i := 5) (v := ?_) rfl (by kernel_rfl) (by kernel_rfl) (by kernel_rfl) (fun _ _ _ h => h) inv (Or.inl ⟨by rfl, ?_⟩) (by assumption) (fun invn => ?_)
                    rotate_left
                    · (intro w hSw; (try dsimp only at hSw); go_simp; try with_reducible rfl)
                    try simp only [List.getElem_toArray, List.getElem_cons_zero, List.getElem_cons_succ, Act.put, List.setIfInBounds_toArray, List.set_cons_zero, List.set_cons_succ]
                    clear inv
                    have inv := invn
                    clear invn
                    refine F_take (i := 6) (v := ?_) rfl (by kernel_rfl) (by kernel_rfl) (by kernel_rfl) (fun _ _ _ h => h) inv (Or.inl ⟨by rfl, ?_⟩) (by assumption) (fun invn => ?_)
                    rotate_left
                    · (intro w hSw; (try dsimp only at hSw); go_simp; try with_reducible rfl)
                    try simp only [List.getElem_toArray, List.getElem_cons_zero, List.getElem_cons_succ, Act.put, List.setIfInBounds_toArray, List.set_cons_zero, List.set_cons_succ]
                    clear inv
                    have inv := invn
                    clear invn
                    refine F_take (i := 7) (v := ?_) rfl (by kernel_rfl) (by kernel_rfl) (by kernel_rfl) (fun _ _ _ h => h) inv (Or.inl ⟨by rfl, ?_⟩) (by assumption) (fun invn => ?_)
                    rotate_left
                    · (intro w hSw; (try dsimp only at hSw); go_simp; try with_reducible rfl)
                    try simp only [List.getElem_toArray, List.getElem_cons_zero, List.getElem_cons_succ, Act.put, List.setIfInBounds_toArray, List.set_cons_zero, List.set_cons_succ]
                    clear inv
                    have inv := invn
                    clear invn
                    refine F_last (i := 8) (by kernel_rfl) rfl rfl (by omega) (by kernel_rfl) (fun K hK => ?_)
                    go_simp
                    refine hK _ _ ?_
                    clear hK K inv hS
                    have hbz4 : Blk w4 zb 56 #[.int .i64 (ta : Int), .int .i64 (tb : Int), .bool td] := (HG4.out.block zb hzl (fun e => by injection e; omega)).trans HBZ.out
                    have z0 : w4.cell? ⟨zb, 0, none⟩ = some (.int .i64 (ta : Int)) := by exact hbz4.cell 0
                    have z1 : w4.cell? ⟨zb, 1, none⟩ = some (.int .i64 (tb : Int)) := by exact hbz4.cell 1
                    have z2 : w4.cell? ⟨zb, 2, none⟩ = some (.bool td) := by exact hbz4.cell 2
                    have hzl4 := hbz4.lt
                    have HQU := Lib.hid (HTDd.out.queue HG4.out)
                    have qb1 : ((H :: Q).length + 1) * 24 ≤ 140737488355328 := by rw [List.length_cons]; omega
                    have qb2 : wo.heap.size ≤ w4.heap.size := Nat.le_trans HTDd.out.bel.size HG4.out.size
                    have hnew := BI.new (by rw [HN.out]; exact prv_next HBE.out) (by rw [HN.out]; exact prv_lt HBE.out) HBI.out (by rw [prvB, twnA_idx HHE.out]; exact List.mem_map.2 ⟨_, HTB.out, rfl⟩) (by rw [← HD.out]; exact hneg)
                    rw [← HDh.out, ← HD1.out] at hnew
                    have HNEW := Lib.hid hnew
                    have hil : idxT p (ta, tb, td) < D.length := by rw [HLE.out]; exact idxT_lt HTE.out
                    have hnegs := negs_set (d := d1) hil (by rw [← HD.out]; exact hneg) (by have := HD1.out; omega)
                    have HNG := Lib.hid hnegs
                    have HDA2 := Lib.hid (show ∀ j, j < (endT p).length → (D.set (idxT p (ta, tb, td)) d1).getD j 0 + (gk : Int) ≤ 2001 from fun j hj => by
                      rw [getD_set hil]
                      split
                      · have := HDH.out; have := HDh.out; have := HD1.out; omega
                      · exact HDA.out j hj)
                    have HDH2 := Lib.hid (show (D.set (idxT p (ta, tb, td)) d1).getD (idxT p H) 0 + (gk : Int) ≤ 2000 by
                      rw [getD_set hil, if_neg (fun e => by have h1 := HBI.out.hD; rw [← e, ← HD.out] at h1; omega)]
                      exact HDH.out)
                    have HQT2 := Lib.hid (show ∀ t ∈ Q ++ [(ta, tb, td)], t ∈ endT p from fun t ht => by
                      rcases List.mem_append.1 ht with h | h
                      · exact HQT.out t h
                      · rw [List.mem_singleton] at h; rw [h]; exact HTE.out)
                    have HQN2 := Lib.hid (show (Q ++ [(ta, tb, td)]).length + negs (D.set (idxT p (ta, tb, td)) d1) + 1 ≤ gk by have := HQN.out; rw [List.length_append, List.length_singleton]; omega)
                    have HMN2 := Lib.hid (show m + 1 + negs (D.set (idxT p (ta, tb, td)) d1) ≤ 2000 by have := HMN.out; omega)
                    have hd10 : 0 ≤ d1 := by have := HD1.out; omega
                    clear hbz4 hnew hnegs hlk3 hupd e0 e1 e2
                    go_wp2_with (at_builtin; (refine wpList_appendQ1 cTw elTw rfl _ _ rfl wo.heap.size _ (H :: Q) (ta, tb, td) _ 1 _ (by rfl) HQU.out (by rfl) rfl rfl rfl (cTw_one _) qb1 (by decide) qb2 ?_); intro v5 w5 hrow5 hb5 hat5 hgr5)
                    go_roundw
                    case rel => exact ⟨i + 1, m + 1, D.set (idxT p (ta, tb, td)) d1, Q ++ [(ta, tb, td)], by omega, by go_num, HTDd.out.add HTE.out HLE.out hd10 HM4.out HG4.out hrow5 hgr5, by rw [List.map_append]; exact HNEW.out, HQT2.out, HQN2.out, HDA2.out, HDH2.out, HMN2.out⟩
                    case measure => simp [intOf]; omega
                  · have hlk : (Instr.lookup 52 (.map (some bd)) (.agg #[.int .i64 (ta : Int), .int .i64 (tb : Int), .bool td]) true).run Try.prog X0 = .ok (.tuple #[.int .i64 d, .bool true]) X0 := by
                      have h := HLK.out
                      rw [dV_some HTE.out (by rw [← HD.out]; omega), ← HD.out] at h
                      exact h
                    have HOL := Lib.hid (HBI.out.old (by rw [HN.out]; exact idxT_lt HTE.out) (by rw [← HD.out]; exact hneg))
                    clear hd HLK
                    go_wp2_with fail
                    go_roundw
                    case rel => exact ⟨i + 1, m, D, Q, by omega, by go_num, HTD.out, HOL.out, HQT.out, HQN.out, HDA.out, HDH.out, HMN.out⟩
                    case measure => simp [intOf]; omega
                · obtain rfl : NB = i := by omega
                  have hlv : BO (prvB p B) (nextE (prsT p)) (goalT p) k D (Q.map (idxT p)) := by
                    have h := hbi
                    rw [List.drop_eq_nil_of_le (by rw [← HNB.out]; exact Nat.le_refl _)] at h
                    exact h.leave
                  have HLV := Lib.hid hlv
                  have htail := htd.que.tail (n := Q.length) rfl
                  have hfl : ((H :: Q).flatMap cTw).drop 3 = Q.flatMap cTw := rfl
                  rw [hfl] at htail
                  have HDB := Lib.hid (show ∀ j, j < (endT p).length → D.getD j 0 + ((gk - 1 : Nat) : Int) ≤ 2000 from fun j hj => by have := HDA.out j hj; have := HQN.out; omega)
                  have HNQ := Lib.hid (show Q.length + negs D ≤ gk - 1 by have := HQN.out; omega)
                  have hgp : 0 < gk := by have := HQN.out; omega
                  have HTM := Lib.hid htd.dist
                  have HTL := Lib.hid htd.bel
                  have hlbd := htd.lb
                  clear htd hbi hlv hqc hfl
                  by_cases hc1 : c9 = 1
                  · subst hc1
                    obtain rfl : Q = [] := List.eq_nil_of_length_eq_zero (by omega)
                    rw [if_pos rfl] at htail
                    simp only [List.length_nil] at *
                    have HT := Lib.hid htail
                    clear htail
                    go_wp2_with fail
                    go_roundg (gk - 1)
                    case measure => omega
                    case rel => exact ⟨m, D, [], ⟨HTM.out, HT.out, HTL.out, hlbd⟩, HLV.out, HQT.out, HNQ.out, by omega, HDB.out, HMN.out⟩
                  · rw [if_neg hc1] at htail
                    have HT := Lib.hid htail
                    clear htail
                    go_wp2_with fail
                    go_roundg (gk - 1)
                    case measure => omega
                    case rel => exact ⟨m, D, Q, ⟨HTM.out, HT.out, HTL.out, hlbd⟩, HLV.out, HQT.out, HNQ.out, by omega, HDB.out, HMN.out⟩
end Go.Proofs.Ythnapjodmndlaaa

/- One letter of the word over the pairs themselves, plainly (the program's AmbiguousWord). -/
namespace Go.Proofs.Ythnapjodmndlaaa
set_option linter.unusedVariables false
set_option linter.unusedSimpArgs false

/-- letter k leads from S to pairs of number m -/
def ldB (p : Pz) (S : List Twn) (m k : Nat) (x : Twn) : Prop := ∃ t ∈ S, x ∈ twnX p k t ∧ dT p (idxT p x) = (m : Int)
section
variable {p : Pz} {S N : List Twn} {m k : Nat}
theorem nxI_idx {t : Twn} (h : t ∈ endT p) (k : Nat) : nxI p k (idxT p t) = (twnX p k t).map (idxT p) := by rw [nxI, twnA_idx h]
theorem twn_next2 (hp : p.lets.length ≤ 20) {t x : Twn} (h : t ∈ endT p) (hk : k < 9) (hx : x ∈ twnX p k t) : x ∈ endT p :=
  endT_closed hp h (List.mem_flatMap.2 ⟨k, List.mem_range.2 hk, hx⟩)
theorem leads_iff (hS : ∀ t ∈ S, t ∈ endT p) : leadsT (nxI p) (dT p) (S.map (idxT p)) m k = true ↔ ∃ x, ldB p S m k x := by
  rw [leadsT_iff]
  constructor
  · rintro ⟨i, hi, y, hy, hd⟩
    obtain ⟨t, ht, rfl⟩ := List.mem_map.1 hi
    rw [nxI_idx (hS t ht)] at hy
    obtain ⟨x, hx, rfl⟩ := List.mem_map.1 hy
    exact ⟨x, t, ht, hx, hd⟩
  · rintro ⟨x, t, ht, hx, hd⟩
    exact ⟨_, List.mem_map.2 ⟨t, ht, rfl⟩, _, by rw [nxI_idx (hS t ht)]; exact List.mem_map.2 ⟨x, hx, rfl⟩, hd⟩
theorem now_iff (hS : ∀ t ∈ S, t ∈ endT p) (hN : ∀ x, x ∈ N ↔ ldB p S m k x) (j : Nat) : j ∈ nowT (nxI p) (dT p) (S.map (idxT p)) m k ↔ j ∈ N.map (idxT p) := by
  rw [mem_nowT, List.mem_map]
  constructor
  · rintro ⟨⟨i, hi, hj⟩, hd⟩
    obtain ⟨t, ht, rfl⟩ := List.mem_map.1 hi
    rw [nxI_idx (hS t ht)] at hj
    obtain ⟨x, hx, rfl⟩ := List.mem_map.1 hj
    exact ⟨x, (hN x).2 ⟨t, ht, hx, hd⟩, rfl⟩
  · rintro ⟨x, hx, rfl⟩
    obtain ⟨t, ht, hx2, hd⟩ := (hN x).1 hx
    exact ⟨⟨_, List.mem_map.2 ⟨t, ht, rfl⟩, by rw [nxI_idx (hS t ht)]; exact List.mem_map.2 ⟨x, hx2, rfl⟩⟩, hd⟩
/-- the first letter that leads on -/
theorem amb_letter (hS : ∀ t ∈ S, t ∈ endT p) (hk : k < 9) (hN : ∀ x, x ∈ N ↔ ldB p S m k x) (hne : N ≠ []) (hno : ∀ j, j < k → ∀ x, ¬ ldB p S m j x) : wordT 9 (nxI p) (dT p) (m + 1) (S.map (idxT p)) = k :: wordT 9 (nxI p) (dT p) m (N.map (idxT p)) := by
  obtain ⟨x, hx⟩ := List.exists_mem_of_ne_nil _ hne
  rw [wordT_step hk ((leads_iff hS).2 ⟨x, (hN x).1 hx⟩) (fun j hj => by
    cases h : leadsT (nxI p) (dT p) (S.map (idxT p)) m j with
    | false => rfl
    | true =>
      obtain ⟨y, hy⟩ := (leads_iff hS).1 h
      exact absurd hy (hno j hj y)), wordT_congr (now_iff hS hN)]
theorem amb_some (hS : ∀ t ∈ S, t ∈ endT p) (hne : S ≠ []) (hd : ∀ t ∈ S, dT p (idxT p t) = ((m + 1 : Nat) : Int)) (hno : ∀ j, j < 9 → ∀ x, ¬ ldB p S m j x) : False := by
  obtain ⟨t, ht⟩ := List.exists_mem_of_ne_nil _ hne
  obtain ⟨k, hk, y, hy, hdy⟩ := amb_step (idxT_lt (hS t ht)) (hd t ht)
  rw [nxI_idx (hS t ht)] at hy
  obtain ⟨x, hx, rfl⟩ := List.mem_map.1 hy
  exact hno k hk x ⟨t, ht, hx, hdy⟩
theorem ld_end (hp : p.lets.length ≤ 20) (hS : ∀ t ∈ S, t ∈ endT p) (hk : k < 9) {x : Twn} (h : ldB p S m k x) : x ∈ endT p := by
  obtain ⟨t, ht, hx, -⟩ := h
  exact twn_next2 hp (hS t ht) hk hx
theorem ld_take {i : Nat} {t : Twn} (h : S[i]? = some t) (x : Twn) : ldB p (S.take (i + 1)) m k x ↔ ldB p (S.take i) m k x ∨ (x ∈ twnX p k t ∧ dT p (idxT p x) = (m : Int)) := by
  rw [ldB, ldB, List.take_add_one, h]
  constructor
  · rintro ⟨u, hu, hx⟩
    rcases List.mem_append.1 hu with hu | hu
    · exact .inl ⟨u, hu, hx⟩
    · have : u = t := by simpa using hu
      subst this
      exact .inr hx
  · rintro (⟨u, hu, hx⟩ | hx)
    · exact ⟨u, List.mem_append_left _ hu, hx⟩
    · exact ⟨t, List.mem_append_right _ (by simp), hx⟩
end
theorem sub_len {N : List Twn} {p : Pz} (hp : p.lets.length ≤ 20) (hn : N.Nodup) (h : ∀ t ∈ N, t ∈ endT p) : N.length ≤ 882 := by
  have h1 : (N.map (idxT p)).Nodup := by
    rw [List.nodup_iff_pairwise_ne, List.pairwise_map]
    rw [List.nodup_iff_pairwise_ne] at hn
    exact List.Pairwise.imp_of_mem (fun ha hb hne e => hne (by rw [← twnA_idx (h _ ha), e, twnA_idx (h _ hb)])) hn
  have h2 := nodup_subT _ (List.range (endT p).length) h1 (fun x hx => by
    obtain ⟨t, ht, rfl⟩ := List.mem_map.1 hx
    exact List.mem_range.2 (idxT_lt (h t ht)))
  have h3 := allT_len (p := p) hp 882
  rw [List.length_map, List.length_range] at h2
  rw [endT] at h2
  omega
end Go.Proofs.Ythnapjodmndlaaa

