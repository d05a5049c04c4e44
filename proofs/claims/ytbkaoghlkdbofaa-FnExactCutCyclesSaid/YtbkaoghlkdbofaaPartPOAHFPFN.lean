/- Parts of the proof, joined into one text: SrchP. -/
import Derived.Test.YtbkaoghlkdbofaaPartIPECKPNE
/- The answers by trails and by simple paths, plainly: pair after pair; one unknown search ends all. -/
namespace Go.Proofs.Ytbkaoghlkdbofaa
set_option linter.unusedVariables false
set_option linter.unusedSimpArgs false
open Go.ChangeShapes Go.WideShapes Go.ChangeAt Go.RowKit

def srCode (f : Nat → Nat → Int) (x : Nat) (st : Option (List Pr)) (y : Nat) : Option (List Pr) :=
  match st with
  | none => none
  | some L => if f x y = 1 then some (L ++ [((x : Int), (y : Int))]) else if f x y = 3 then none else some L
def srRowF (f : Nat → Nat → Int) (x : Nat) (st : Option (List Pr)) (j : Nat) : Option (List Pr) := (List.range j).foldl (srCode f x) st
def srAllF (f : Nat → Nat → Int) (n i : Nat) : Option (List Pr) := (List.range i).foldl (fun st x => srRowF f x st n) (some [])
section
variable {f : Nat → Nat → Int} {x n i j : Nat} {st : Option (List Pr)} {L : List Pr}
theorem srRowF_succ : srRowF f x st (j + 1) = srCode f x (srRowF f x st j) j := by simp [srRowF, List.range_succ]
theorem srAllF_succ : srAllF f n (i + 1) = srRowF f i (srAllF f n i) n := by simp [srAllF, List.range_succ]
theorem srRowF_zero : srRowF f x st 0 = st := rfl
theorem srRowF_one (h : srRowF f x st j = some L) (hc : f x j = 1) : srRowF f x st (j + 1) = some (L ++ [((x : Int), (j : Int))]) := by rw [srRowF_succ, h, srCode]; rw [if_pos hc]
theorem srRowF_on (h : srRowF f x st j = some L) (hc : ¬ f x j = 1) (hc3 : ¬ f x j = 3) : srRowF f x st (j + 1) = some L := by rw [srRowF_succ, h, srCode]; rw [if_neg hc, if_neg hc3]
theorem srRowF_out (h : srRowF f x st j = some L) (hc : f x j = 3) : srRowF f x st (j + 1) = none := by rw [srRowF_succ, h, srCode]; rw [if_neg (by omega), if_pos hc]
theorem srRowF_none : ∀ k, srRowF f x st j = none → srRowF f x st (j + k) = none
  | 0, h => h
  | k + 1, h => by rw [← Nat.add_assoc, srRowF_succ, srRowF_none k h]; rfl
theorem srRowF_no : srRowF f x none j = none := by
  have := srRowF_none (f := f) (x := x) (st := none) (j := 0) j rfl
  rwa [Nat.zero_add] at this
theorem srAllF_none : ∀ k, srAllF f n i = none → srAllF f n (i + k) = none
  | 0, h => h
  | k + 1, h => by rw [← Nat.add_assoc, srAllF_succ, srAllF_none k h, srRowF_no]
/-- one unknown search -/
theorem srAllF_out (hi : i < n) (hj : j < n) (h : srRowF f i (srAllF f n i) j = some L) (hc : f i j = 3) : srAllF f n n = none := by
  have h1 := srRowF_none (n - (j + 1)) (srRowF_out h hc)
  rw [show j + 1 + (n - (j + 1)) = n by omega] at h1
  have h2 : srAllF f n (i + 1) = none := by rw [srAllF_succ, h1]
  have h3 := srAllF_none (n - (i + 1)) h2
  rwa [show i + 1 + (n - (i + 1)) = n by omega] at h3
theorem srRowF_len (hst : ∀ L, st = some L → L.length ≤ n) : ∀ (j : Nat) (L : List Pr), srRowF f x st j = some L → L.length ≤ n + j
  | 0, L, h => hst L h
  | j + 1, L, h => by
    rw [srRowF_succ] at h
    cases hr : srRowF f x st j with
    | none => rw [hr] at h; cases h
    | some M =>
      have := srRowF_len hst j M hr
      rw [hr, srCode] at h
      split at h
      · injection h with h
        subst h
        rw [List.length_append, List.length_singleton]
        omega
      · split at h
        · cases h
        · injection h with h
          subst h
          omega
theorem srAllF_len : ∀ (i : Nat) (L : List Pr), srAllF f n i = some L → L.length ≤ i * n
  | 0, L, h => by
    injection h with h
    rw [← h]
    simp
  | i + 1, L, h => by
    rw [srAllF_succ] at h
    have := srRowF_len (n := i * n) (srAllF_len i) n L h
    rw [Nat.succ_mul]
    exact this
end
def srchAk (g : Gr) (a : Au) (B : Int) : Bool := (grOk g && auOk a) && wi B 1 20000
def srchC (g : Gr) (a : Au) (B : Int) (sm : Bool) (x y : Nat) : Int := (srchL g a (x : Int) (y : Int) B sm).2
def srchA (g : Gr) (a : Au) (B : Int) (sm : Bool) : Option (List Pr) := if srchAk g a B = true then srAllF (srchC g a B sm) g.vals.length g.vals.length else none
theorem srchA_len {g : Gr} {a : Au} {B : Int} {sm : Bool} {L : List Pr} (h : srchA g a B sm = some L) : L.length ≤ 25 := by
  unfold srchA at h
  split at h
  · rename_i hk
    simp only [srchAk, Bool.and_eq_true] at hk
    have h1 := srAllF_len _ _ h
    have h2 := (grOk_iff.1 hk.1.1).n5
    exact Nat.le_trans h1 (Nat.mul_le_mul h2 h2 : _ ≤ 5 * 5)
  · cases h
theorem srchF_len {g : Gr} {a : Au} {y : Int} {B : Nat} {D : List Int} {sm : Bool} {x s : Nat} {us : List Int} : ∀ (k lf c : Nat), (srchF g a y B D sm x s us k lf c).1.2.length ≤ lf + k
  | 0, lf, c => by simp [srchF]
  | k + 1, lf, c => by
    rw [srchF]
    split
    · have hl := visit_len (g := g) (a := a) (y := y) (B := B) (D := D) (sm := sm) lf x s us c
      split
      · rename_i r c' e
        rw [e] at hl
        have := hl r rfl
        simp only
        omega
      · split
        · simp
        · have := srchF_len (g := g) (a := a) (y := y) (B := B) (D := D) (sm := sm) (x := x) (s := s) (us := us) k (lf + 1)
          rename_i c' _ _
          have := this c'
          omega
    · have := srchF_len (g := g) (a := a) (y := y) (B := B) (D := D) (sm := sm) (x := x) (s := s) (us := us) k (lf + 1) c
      omega
theorem srchL_len (g : Gr) (a : Au) (x y B : Int) (sm : Bool) : (srchL g a x y B sm).1.2.length ≤ 1048576 := by
  unfold srchL
  split
  · rename_i h
    have h1 := srchF_len (g := g) (a := a) (y := y) (B := B.toNat) (D := distTo g a y) (sm := sm) (x := x.toNat) (s := bit a.start.toNat) (us := srchU sm x.toNat) (srchN g sm) 0 0
    simp only [srchOk, cntOk, Bool.and_eq_true] at h
    have hg := grOk_iff.1 h.1.2.2.1
    have hn5 := hg.n5
    have he12 := hg.e12
    have : srchN g sm ≤ 13 := by unfold srchN; split <;> omega
    omega
  · simp
theorem Blk.set2 {w : World} {g : Nat} {t : TypeId} {c0 c1 : Value} (h : Blk w g t #[c0, c1]) (d0 d1 : Value) : Blk ((w.setCell ⟨g, 0, none⟩ d0).setCell ⟨g, 1, none⟩ d1) g t #[d0, d1] := by
  have h2 := (h.set_ 0 d0).set_ 1 d1
  simpa using h2
theorem Only.set2 (w : World) (g : Nat) (d0 d1 : Value) : Only g (g + 1) w ((w.setCell ⟨g, 0, none⟩ d0).setCell ⟨g, 1, none⟩ d1) := ((Only.refl _ _ _).setCell (p := ⟨g, 0, none⟩) (.inl ⟨Nat.le_refl _, Nat.lt_succ_self _⟩) d0).setCell (p := ⟨g, 1, none⟩) (.inl ⟨Nat.le_refl _, Nat.lt_succ_self _⟩) d1
end Go.Proofs.Ytbkaoghlkdbofaa

