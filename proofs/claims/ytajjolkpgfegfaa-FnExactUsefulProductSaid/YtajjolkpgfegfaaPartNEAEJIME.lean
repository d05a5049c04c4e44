/- Parts of the proof, joined into one text: DistS, Rec, Seat. -/
import Derived.Test.YtajjolkpgfegfaaPartCPDJAGBF
import Derived.JoinedOf
import Derived.Test.YtajjolkpgfegfaaRows
/- The reference's DistancesFrom and DistancesTo. -/
namespace Go.Proofs.Ytajjolkpgfegfaa
set_option linter.unusedVariables false
set_option linter.unusedSimpArgs false
open Go.ChangeShapes Go.WideShapes Go.ChangeAt Go.RowKit
attribute [local go_sem] ext_cell ext_frozen ext_lt ext_lt1 ext_lt2 ext_lt3 ltn2 ltn3 ltn13 lts1 lts2 lts3

theorem distFrom_le (g : Gr) (a : Au) (x : Int) : (distFrom g a x).length ≤ 60 := by
  cases h : (wi x 0 ((g.vals.length : Int) - 1) && (grOk g && auOk a)) with
  | false => rw [distFrom, h]; simp
  | true =>
    rw [distFrom_len h]
    simp only [Bool.and_eq_true] at h
    have hn5 := (grOk_iff.1 h.2.1).n5
    have hn12 := (auOk_iff.1 h.2.2).1.2
    exact Nat.mul_le_mul hn5 hn12
theorem distTo_le (g : Gr) (a : Au) (x : Int) : (distTo g a x).length ≤ 60 := by
  cases h : (wi x 0 ((g.vals.length : Int) - 1) && (grOk g && auOk a)) with
  | false => rw [distTo, h]; simp
  | true =>
    rw [distTo_len h]
    simp only [Bool.and_eq_true] at h
    have hn5 := (grOk_iff.1 h.2.1).n5
    have hn12 := (auOk_iff.1 h.2.2).1.2
    exact Nat.mul_le_mul hn5 hn12

set_option maxHeartbeats 2000000 in
theorem specDistancesFrom (vg va : Value) (g : Gr) (a : Au) (x : Int) (w : World) (hgv : GrV 0 w.heap.size w vg g) (hav : AuV 0 w.heap.size w va a) :
    Calls Try.prog 23 #[vg, va, .int .i64 x] w fun e w' => ∃ v', e = .returned v' ∧ Own w.heap.size w'.heap.size w' 3 cI 1 v' (distFrom g a x) ∧ Below w.heap.size w w' := by
  obtain ⟨R, hR⟩ : ∃ R, R = distFrom g a x := ⟨_, rfl⟩
  have hgv0 := hgv
  have hav0 := hav
  obtain ⟨A1, n1, c1, A2, n2, c2, rfl⟩ := hgv.shape
  obtain ⟨A3, n3, c3, A4, n4, c4, rfl⟩ := hav.shape
  have hb0 : Below w.heap.size w ((w.alloc (.cells #[.slice A1 n1 c1, .slice A2 n2 c2] 35)).alloc (.cells #[.int .i64 a.start, .slice A3 n3 c3, .slice A4 n4 c4] 37)) := ((Below.refl _ _).alloc (Nat.le_refl _) _).alloc (by simp) _
  have HGV := Lib.hid hgv0
  have HAV := Lib.hid hav0
  have HR := Lib.hid hR
  clear hgv hav hgv0 hav0 hR
  go_enter Try.func23, Try.ntmps23
  go_wp2_with fail
  obtain ⟨W0, hW0⟩ : ∃ W0, W0 = ((w.alloc (.cells #[.slice A1 n1 c1, .slice A2 n2 c2] 35)).alloc (.cells #[.int .i64 a.start, .slice A3 n3 c3, .slice A4 n4 c4] 37)) := ⟨_, rfl⟩
  rw [← hW0] at hb0 ⊢
  have x0 : W0.cell? ⟨w.heap.size, 0, none⟩ = some (.slice A1 n1 c1) := by rw [hW0]; simp
  have x1 : W0.cell? ⟨w.heap.size, 1, none⟩ = some (.slice A2 n2 c2) := by rw [hW0]; simp
  have y0 : W0.cell? ⟨w.heap.size + 1, 0, none⟩ = some (.int .i64 a.start) := by rw [hW0]; simp
  have y1 : W0.cell? ⟨w.heap.size + 1, 1, none⟩ = some (.slice A3 n3 c3) := by rw [hW0]; simp
  have y2 : W0.cell? ⟨w.heap.size + 1, 2, none⟩ = some (.slice A4 n4 c4) := by rw [hW0]; simp
  have hs0 : w.heap.size + 1 + 1 = W0.heap.size := by rw [hW0]; simp
  try rw [hs0]
  have l0 : w.heap.size + 1 < W0.heap.size := by omega
  have l00 : w.heap.size < W0.heap.size := by omega
  clear hW0 hs0
  have hgx := l14Good_any _ _ g a x 0 W0 (HGV.out.keep hb0) (HAV.out.keep hb0)
  rw [goodB1] at hgx
  have HGX := Lib.hid hgx
  clear hgx
  cases hk : (wi x 0 ((g.vals.length : Int) - 1) && (grOk g && auOk a)) with
  | false =>
    rw [hk] at HGX
    have hr0 : distFrom g a x = [] := by rw [distFrom, hk]; rfl
    have HR0 := Lib.hid hr0
    clear hk hr0
    refine HGX.out.mono ?_
    rintro e w1 ⟨rfl, hb1⟩
    have hb2 := below_trans hb0 hb1
    go_wp2_with fail
    go_ret
    exact ⟨_, rfl, by rw [HR0.out]; exact lit_nil hb2.size, hb2.alloc hb2.size _⟩
  | true =>
    rw [hk] at HGX
    simp only [Bool.and_eq_true, wi_iff] at hk
    obtain ⟨⟨hx0, hx1⟩, hgo, ha⟩ := hk
    obtain ⟨x, rfl⟩ := Int.eq_ofNat_of_zero_le hx0
    have hxl : x < g.vals.length := by omega
    have HLF := Lib.hid (fun (W : World) (hW : Below w.heap.size w W) => l14Ranks_any _ _ g a x W (HGV.out.keep hW) (HAV.out.keep hW) hgo ha hxl)
    clear hx0 hx1 hgo ha
    refine HGX.out.mono ?_
    rintro e w1 ⟨rfl, hb1⟩
    have hb2 := below_trans hb0 hb1
    have x0 := kcell hb1 x0
    have x1 := kcell hb1 x1
    have y0 := kcell hb1 y0
    have y1 := kcell hb1 y1
    have y2 := kcell hb1 y2
    go_wp2_with fail
    refine (HLF.out w1 hb2).mono ?_
    rintro e w2 ⟨v2, rfl, ho2, hb3⟩
    obtain ⟨A9, c9, rfl, -, -, -⟩ := ho2.form cI_len
    have HO := Lib.hid (ho2.mono hb2.size (Nat.le_refl _))
    clear ho2
    go_wp2_with fail
    go_ret
    exact ⟨_, rfl, HO.out, below_trans hb2 hb3⟩

set_option maxHeartbeats 2000000 in
theorem specDistancesTo (vg va : Value) (g : Gr) (a : Au) (x : Int) (w : World) (hgv : GrV 0 w.heap.size w vg g) (hav : AuV 0 w.heap.size w va a) :
    Calls Try.prog 30 #[vg, va, .int .i64 x] w fun e w' => ∃ v', e = .returned v' ∧ Own w.heap.size w'.heap.size w' 3 cI 1 v' (distTo g a x) ∧ Below w.heap.size w w' := by
  obtain ⟨R, hR⟩ : ∃ R, R = distTo g a x := ⟨_, rfl⟩
  have hgv0 := hgv
  have hav0 := hav
  obtain ⟨A1, n1, c1, A2, n2, c2, rfl⟩ := hgv.shape
  obtain ⟨A3, n3, c3, A4, n4, c4, rfl⟩ := hav.shape
  have hb0 : Below w.heap.size w ((w.alloc (.cells #[.slice A1 n1 c1, .slice A2 n2 c2] 35)).alloc (.cells #[.int .i64 a.start, .slice A3 n3 c3, .slice A4 n4 c4] 37)) := ((Below.refl _ _).alloc (Nat.le_refl _) _).alloc (by simp) _
  have HGV := Lib.hid hgv0
  have HAV := Lib.hid hav0
  have HR := Lib.hid hR
  clear hgv hav hgv0 hav0 hR
  go_enter Try.func30, Try.ntmps30
  go_wp2_with fail
  obtain ⟨W0, hW0⟩ : ∃ W0, W0 = ((w.alloc (.cells #[.slice A1 n1 c1, .slice A2 n2 c2] 35)).alloc (.cells #[.int .i64 a.start, .slice A3 n3 c3, .slice A4 n4 c4] 37)) := ⟨_, rfl⟩
  rw [← hW0] at hb0 ⊢
  have x0 : W0.cell? ⟨w.heap.size, 0, none⟩ = some (.slice A1 n1 c1) := by rw [hW0]; simp
  have x1 : W0.cell? ⟨w.heap.size, 1, none⟩ = some (.slice A2 n2 c2) := by rw [hW0]; simp
  have y0 : W0.cell? ⟨w.heap.size + 1, 0, none⟩ = some (.int .i64 a.start) := by rw [hW0]; simp
  have y1 : W0.cell? ⟨w.heap.size + 1, 1, none⟩ = some (.slice A3 n3 c3) := by rw [hW0]; simp
  have y2 : W0.cell? ⟨w.heap.size + 1, 2, none⟩ = some (.slice A4 n4 c4) := by rw [hW0]; simp
  have hs0 : w.heap.size + 1 + 1 = W0.heap.size := by rw [hW0]; simp
  try rw [hs0]
  have l0 : w.heap.size + 1 < W0.heap.size := by omega
  have l00 : w.heap.size < W0.heap.size := by omega
  clear hW0 hs0
  have hgx := l14Good_any _ _ g a x 0 W0 (HGV.out.keep hb0) (HAV.out.keep hb0)
  rw [goodB1] at hgx
  have HGX := Lib.hid hgx
  clear hgx
  cases hk : (wi x 0 ((g.vals.length : Int) - 1) && (grOk g && auOk a)) with
  | false =>
    rw [hk] at HGX
    have hr0 : distTo g a x = [] := by rw [distTo, hk]; rfl
    have HR0 := Lib.hid hr0
    clear hk hr0
    refine HGX.out.mono ?_
    rintro e w1 ⟨rfl, hb1⟩
    have hb2 := below_trans hb0 hb1
    go_wp2_with fail
    go_ret
    exact ⟨_, rfl, by rw [HR0.out]; exact lit_nil hb2.size, hb2.alloc hb2.size _⟩
  | true =>
    rw [hk] at HGX
    simp only [Bool.and_eq_true, wi_iff] at hk
    obtain ⟨⟨hx0, hx1⟩, hgo, ha⟩ := hk
    obtain ⟨x, rfl⟩ := Int.eq_ofNat_of_zero_le hx0
    have hxl : x < g.vals.length := by omega
    have HLF := Lib.hid (fun (W : World) (hW : Below w.heap.size w W) => l14Back_any _ _ g a x W (HGV.out.keep hW) (HAV.out.keep hW) hgo ha hxl)
    clear hx0 hx1 hgo ha
    refine HGX.out.mono ?_
    rintro e w1 ⟨rfl, hb1⟩
    have hb2 := below_trans hb0 hb1
    have x0 := kcell hb1 x0
    have x1 := kcell hb1 x1
    have y0 := kcell hb1 y0
    have y1 := kcell hb1 y1
    have y2 := kcell hb1 y2
    go_wp2_with fail
    refine (HLF.out w1 hb2).mono ?_
    rintro e w2 ⟨v2, rfl, ho2, hb3⟩
    obtain ⟨A9, c9, rfl, -, -, -⟩ := ho2.form cI_len
    have HO := Lib.hid (ho2.mono hb2.size (Nat.le_refl _))
    clear ho2
    go_wp2_with fail
    go_ret
    exact ⟨_, rfl, HO.out, below_trans hb2 hb3⟩
end Go.Proofs.Ytajjolkpgfegfaa

/- Whether a program's text can call itself: told by ranks along the calls. Over any program. -/
namespace Go.Proofs.Ytajjolkpgfegfaa
set_option linter.unusedVariables false
set_option linter.unusedSimpArgs false
def leadsOf (P : Program) (f : FuncId) : List FuncId := (P.funcs[f]?).elim [] P.leadsTo
def rankOk (P : Program) (T : List (FuncId × Nat)) : Bool :=
  T.all fun q => T.lookup q.1 == some q.2 && (leadsOf P q.1).all fun h => match T.lookup h with | some r => decide (r < q.2) | none => false
def plainAll (P : Program) (T : List (FuncId × Nat)) : Bool :=
  T.all fun q => !((P.funcs[q.1]?).any fun fn => match fn.body with | some c => c.unfollowed | none => entryCalls fn)
theorem via_sub {P : Program} {p : FuncId → Prop} (hp : ∀ f, p f → ∀ h ∈ leadsOf P f, p h) : ∀ (n : Nat) (todo seen : List FuncId), (∀ f ∈ todo, p f) → (∀ f ∈ seen, p f) → ∀ g ∈ P.closureVia n todo seen, p g
  | 0, _, seen, _, hs, g, hg => hs g (by simpa [Program.closureVia] using hg)
  | _ + 1, [], seen, _, hs, g, hg => hs g (by simpa [Program.closureVia] using hg)
  | n + 1, f :: todo, seen, ht, hs, g, hg => by
    rw [Program.closureVia] at hg
    split at hg
    · exact via_sub hp n todo seen (fun x hx => ht x (List.mem_cons_of_mem _ hx)) hs g hg
    · refine via_sub hp n _ _ (fun x hx => ?_) (fun x hx => ?_) g hg
      · rcases List.mem_append.1 hx with h | h
        · exact hp f (ht f (List.mem_cons_self ..)) x h
        · exact ht x (List.mem_cons_of_mem _ h)
      · rcases List.mem_cons.1 hx with rfl | h
        · exact ht x (List.mem_cons_self ..)
        · exact hs x h
theorem closure_sub {P : Program} {p : FuncId → Prop} (hp : ∀ f, p f → ∀ h ∈ leadsOf P f, p h) {f : FuncId} (hf : p f) : ∀ g ∈ P.closure f, p g := by
  unfold Program.closure
  exact via_sub hp _ _ _ (by simpa using hf) (by simp)
theorem lookup_mem {T : List (FuncId × Nat)} {x : FuncId} {r : Nat} (h : T.lookup x = some r) : (x, r) ∈ T := by
  induction T with
  | nil => simp at h
  | cons q T ih =>
    obtain ⟨a, b⟩ := q
    rw [List.lookup_cons] at h
    split at h
    · rename_i hx
      have e1 : x = a := by simpa using hx
      have e2 : b = r := by simpa using h
      subst e1 e2
      exact List.mem_cons_self ..
    · exact List.mem_cons_of_mem _ (ih h)
theorem rank_step {P : Program} {T : List (FuncId × Nat)} (hT : rankOk P T = true) {f : FuncId} {r : Nat} (hf : T.lookup f = some r) {h : FuncId} (hh : h ∈ leadsOf P f) : ∃ s, T.lookup h = some s ∧ s < r := by
  have h1 := List.all_eq_true.1 hT _ (lookup_mem hf)
  simp only [Bool.and_eq_true] at h1
  have h2 := List.all_eq_true.1 h1.2 h hh
  cases hl : T.lookup h with
  | none => rw [hl] at h2; cases h2
  | some s => rw [hl] at h2; exact ⟨s, rfl, by simpa using h2⟩
theorem rank_closure {P : Program} {T : List (FuncId × Nat)} (hT : rankOk P T = true) {f : FuncId} {r : Nat} (hf : T.lookup f = some r) : ∀ g ∈ P.closure f, ∃ s, T.lookup g = some s ∧ s ≤ r :=
  closure_sub (p := fun g => ∃ s, T.lookup g = some s ∧ s ≤ r) (fun x ⟨s, hs, hr⟩ h hh => by
    obtain ⟨t, ht, hlt⟩ := rank_step hT hs hh
    exact ⟨t, ht, by omega⟩) ⟨r, hf, Nat.le_refl _⟩
theorem unfollowed_no {P : Program} {T : List (FuncId × Nat)} {f : FuncId} {r : Nat} (hT : rankOk P T = true) (hp : plainAll P T = true) (hf : T.lookup f = some r) : P.unfollowed f = false := by
  rw [Program.unfollowed, List.any_eq_false]
  intro g hg
  obtain ⟨s, hs, _⟩ := rank_closure hT hf g hg
  have := List.all_eq_true.1 hp _ (lookup_mem hs)
  exact Bool.eq_false_iff.1 (Eq.mp (Bool.not_eq_true' _) this)
theorem recurses_no {P : Program} {T : List (FuncId × Nat)} {f : FuncId} {r : Nat} (hT : rankOk P T = true) (hp : plainAll P T = true) (hf : T.lookup f = some r) : P.recurses f = false := by
  rw [Program.recurses, unfollowed_no hT hp hf, Bool.false_or, List.any_eq_false]
  intro g hg
  obtain ⟨s, hs, _⟩ := rank_closure hT hf g hg
  rw [Bool.not_eq_true, List.any_eq_false]
  intro h hh
  obtain ⟨t, ht, hlt⟩ := rank_step hT hs hh
  intro hc
  have hm : g ∈ P.closure h := by simpa using hc
  obtain ⟨u, hu, hle⟩ := rank_closure hT ht g hm
  rw [hs] at hu
  injection hu with e
  omega
theorem recurses_yes {P : Program} {f : FuncId} (g h : FuncId) (h1 : (P.closure f).contains g = true) (h2 : (leadsOf P g).contains h = true) (h3 : (P.closure h).contains g = true) : P.recurses f = true := by
  rw [Program.recurses, Bool.or_eq_true]
  refine .inr (List.any_eq_true.2 ⟨g, by simpa using h1, List.any_eq_true.2 ⟨h, by simpa [leadsOf] using h2, h3⟩⟩)
end Go.Proofs.Ytajjolkpgfegfaa

/- Facts on this seat's program as a whole that every row asks for: told once. -/
namespace Go.Proofs.Ytajjolkpgfegfaa
set_option linter.unusedVariables false
set_option linter.unusedSimpArgs false
theorem seat_mayEnter : Try.pinned.checked.prog.mayEnter = true := by kernel_rfl
theorem seat_lifts : Try.pinned.checked.prog.liftsFinal = false := by kernel_rfl
theorem seat_laidOut : laidOutB Try.pinned.checked.prog = true := by kernel_rfl
theorem seat_mapsRowed : mapsRowed Try.pinned.checked.prog = true := by kernel_rfl
end Go.Proofs.Ytajjolkpgfegfaa

